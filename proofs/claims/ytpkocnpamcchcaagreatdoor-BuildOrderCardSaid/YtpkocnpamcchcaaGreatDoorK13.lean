/- Parts of the proof. -/
import Derived.Laws.IdiomStrings
import Derived.Test.YtpkocnpamcchcaaGreatDoorK12
set_option maxRecDepth 100000
set_option maxHeartbeats 4000000
set_option linter.unusedSimpArgs false
set_option linter.unusedVariables false
set_option linter.unnecessarySimpa false
namespace Go.Sym
section
variable {α:Type} {lt:α→α→Bool}
structure Mrg(lt:α→α→Bool)(d:List α)(a b:Nat)(d':List α):Prop where
 len:d'.length=d.length
 front:d'.take a=d.take a
 back:d'.drop b=d.drop b
 stb:Stb lt (seg d a b) (seg d' a b)
theorem Mrg.refl{d:List α}{a b:Nat}(h:Srt lt (seg d a b)):Mrg lt d a b d:=⟨rfl,rfl,rfl,h,Cls.refl _⟩
theorem seg_of_back{d d':List α}{m b:Nat}(h:d'.drop m=d.drop m):seg d' m b=seg d m b:=by
 unfold seg;rw [h]
theorem seg_of_front{d d':List α}{a m:Nat}(h:d'.take m=d.take m):seg d' a m=seg d a m:=by
 unfold seg;have e:∀ l:List α,(l.drop a).take (m-a)=(l.take m).drop a:=fun l=>by rw [List.drop_take]
 rw [e,e,h]
theorem take_of_take{d d':List α}{a m:Nat}(ham:a≤m)(h:d'.take m=d.take m):d'.take a=d.take a:=by
 have:=congrArg (List.take a) h
 rwa [List.take_take,List.take_take,Nat.min_eq_left ham] at this
theorem drop_of_drop{d d':List α}{m b:Nat}(hmb:m≤b)(h:d'.drop m=d.drop m):d'.drop b=d.drop b:=by
 have:=congrArg (List.drop (b-m)) h
 rwa [List.drop_drop,List.drop_drop,show m+(b-m)=b by omega] at this
theorem sym_done(ho:Ord lt){d d2 d3:List α}{a m b s:Nat}(ham:a<m)(hmb:m<b)(hb:b≤d.length)(hL:Srt lt (seg d a m))(hR:Srt lt (seg d m b))(hc:CutAt lt d a m b s)
 (h2:Mrg lt (rotL d s m ((a+b)/2+m-s)) a ((a+b)/2) d2) (h3:Mrg lt d2 ((a+b)/2) b d3):Mrg lt d a b d3:=by
 obtain ⟨e1,e2,e3,e4,p1,p2⟩:=cut_parts ho ham hmb hb hL hR hc;obtain ⟨r1,r2,r3,r4,r5,r6⟩:=rot_segs d a m b s ((a+b)/2) e1 e2 e3 e4 hb;have hms:s≤(a+b)/2:=by omega
 have hme:(a+b)/2≤(a+b)/2+m-s:=by omega
 refine ⟨?_,?_,?_,?_⟩
 ·rw [h3.len,h2.len,rotL_len d s m _ e2 e3 (by omega)]
 ·rw [take_of_take (by omega) h3.front,h2.front,r1]
 ·rw [h3.back,drop_of_drop (by omega) h2.back,r2]
 ·have q1:=h2.stb;rw [← seg_app _ a s ((a+b)/2) e1 hms,r3,r4] at q1;have q2:=h3.stb;rw [seg_of_back h2.back,← seg_app _ ((a+b)/2) ((a+b)/2+m-s) b hme e4,r5,r6] at q2;have q3:seg d3 a ((a+b)/2)=seg d2 a ((a+b)/2):=seg_of_front h3.front;rw [← seg_app d3 a ((a+b)/2) b (by omega) (by omega),q3,← seg_app d a m b (by omega) (by omega),← seg_app d a s m e1 e2,← seg_app d m _ b e3 e4];exact stb_halves ho (by rw [seg_app d a s m e1 e2];exact hL) (by rw [seg_app d m _ b e3 e4];exact hR) p1 p2 q1 q2
theorem half_left(ho:Ord lt){d:List α}{a m b s:Nat}(ham:a<m)(hmb:m<b)(hb:b≤d.length)(hL:Srt lt (seg d a m))(hR:Srt lt (seg d m b))(hc:CutAt lt d a m b s)(h:¬ (a<s∧s<(a+b)/2)) :
 Mrg lt (rotL d s m ((a+b)/2+m-s)) a ((a+b)/2) (rotL d s m ((a+b)/2+m-s)):=by
 obtain ⟨e1,e2,e3,e4,p1,p2⟩:=cut_parts ho ham hmb hb hL hR hc;obtain ⟨r1,r2,r3,r4,r5,r6⟩:=rot_segs d a m b s ((a+b)/2) e1 e2 e3 e4 hb;refine Mrg.refl ?_;rw [← seg_app _ a s ((a+b)/2) e1 (by omega),r3,r4];have hx:a=s∨s=(a+b)/2:=by omega
 rcases hx with hx|hx
 ·rw [← hx,seg_nil,List.nil_append];rw [← seg_app d m ((a+b)/2+m-a) b (by omega) (by omega)] at hR;exact (srt_app.1 hR).1
 ·rw [show (a+b)/2+m-s=m by omega,seg_nil,List.append_nil];rw [← seg_app d a s m e1 e2] at hL;exact (srt_app.1 hL).1
theorem half_right(ho:Ord lt){d d2:List α}{a m b s:Nat}(ham:a<m)(hmb:m<b)(hb:b≤d.length)(hL:Srt lt (seg d a m))(hR:Srt lt (seg d m b))(hc:CutAt lt d a m b s)
 (h2:Mrg lt (rotL d s m ((a+b)/2+m-s)) a ((a+b)/2) d2) (h:¬ ((a+b)/2<(a+b)/2+m-s∧(a+b)/2+m-s<b)):Mrg lt d2 ((a+b)/2) b d2:=by
 obtain ⟨e1,e2,e3,e4,p1,p2⟩:=cut_parts ho ham hmb hb hL hR hc;obtain ⟨r1,r2,r3,r4,r5,r6⟩:=rot_segs d a m b s ((a+b)/2) e1 e2 e3 e4 hb;refine Mrg.refl ?_;rw [seg_of_back h2.back,← seg_app _ ((a+b)/2) ((a+b)/2+m-s) b (by omega) e4,r5,r6];have hx:m=s∨(a+b)/2+m-s=b:=by omega
 rcases hx with hx|hx
 ·rw [← hx,seg_nil,List.nil_append];rw [← seg_app d m ((a+b)/2+m-m) b (by omega) (by omega)] at hR;exact (srt_app.1 hR).2.1
 ·rw [hx,seg_nil,List.append_nil];rw [← seg_app d a s m e1 e2] at hL;exact (srt_app.1 hL).2.1
theorem half_runs(ho:Ord lt){d:List α}{a m b s:Nat}(ham:a<m)(hmb:m<b)(hb:b≤d.length)(hL:Srt lt (seg d a m))(hR:Srt lt (seg d m b))(hc:CutAt lt d a m b s) :
 Srt lt (seg (rotL d s m ((a+b)/2+m-s)) a s)∧Srt lt (seg (rotL d s m ((a+b)/2+m-s)) s ((a+b)/2))∧Srt lt (seg (rotL d s m ((a+b)/2+m-s)) ((a+b)/2) ((a+b)/2+m-s))∧Srt lt (seg (rotL d s m ((a+b)/2+m-s)) ((a+b)/2+m-s) b):=by
 obtain ⟨e1,e2,e3,e4,p1,p2⟩:=cut_parts ho ham hmb hb hL hR hc;obtain ⟨r1,r2,r3,r4,r5,r6⟩:=rot_segs d a m b s ((a+b)/2) e1 e2 e3 e4 hb;rw [r3,r4,r5,r6];rw [← seg_app d a s m e1 e2] at hL;rw [← seg_app d m ((a+b)/2+m-s) b e3 e4] at hR;exact ⟨(srt_app.1 hL).1,(srt_app.1 hR).1,(srt_app.1 hL).2.1,(srt_app.1 hR).2.1⟩
theorem ins_right(ho:Ord lt){d:List α}{a b i:Nat}(hi:a+1≤i)(hib:i≤b)(hb:b≤d.length)(hR:Srt lt (seg d (a+1) b))(ha:a<d.length)
 (h1:i=a+1∨∃ h:i-1<d.length,lt d[i-1] d[a]=true) (h2:i=b∨∃ h:i<d.length,lt d[i] d[a]=false):Mrg lt d a b (rotL d a (a+1) i):=by
 have hx:seg d a (a+1)=[d[a]]:=by
  unfold seg;rw [show a+1-a=1 by omega,List.drop_eq_getElem_cons ha];rfl
 have hY:∀ y∈seg d (a+1) i,lt y d[a]=true:=fun y hy=>by
  obtain ⟨j,j1,j2,j3,rfl⟩:=seg_mem (by omega) hy
  rcases h1 with h1 | ⟨h,h1⟩
  ·omega
  ·rcases Nat.eq_or_lt_of_le (show j≤i-1 by omega) with e|e
   ·subst e;exact h1
   ·exact ho.le_lt (srt_seg hb hR j (i-1) j1 e (by omega)) h1
 have hZ:∀ z∈seg d i b,lt z d[a]=false:=fun z hz=>by
  obtain ⟨j,j1,j2,j3,rfl⟩:=seg_mem hb hz
  rcases h2 with h2 | ⟨h,h2⟩
  ·omega
  ·rcases Nat.eq_or_lt_of_le j1 with e|e
   ·subst e;exact h2
   ·exact ho.trans _ _ _ h2 (srt_seg hb hR i j hi e j2)
 have hs:=hR;rw [← seg_app d (a+1) i b hi hib] at hs;obtain ⟨s1,s2,s3⟩:=srt_app.1 hs;have hq:d.drop i=seg d i b++d.drop b:=by
  unfold seg;have:d.drop b=(d.drop i).drop (b-i):=by rw [List.drop_drop];congr 1;omega
  rw [this,List.take_append_drop]
 have la:(d.take a).length=a:=by simp;omega
 have l1:=seg_len d (a+1) i hi (by omega);have l2:=seg_len d i b hib hb;have hr:rotL d a (a+1) i=d.take a++((seg d (a+1) i++([d[a]]++seg d i b))++d.drop b):=by
  unfold rotL;rw [hx,hq];simp
 have hsg:seg (rotL d a (a+1) i) a b=seg d (a+1) i++([d[a]]++seg d i b):=by
  rw [hr];exact seg_mid la (by simp only [List.length_append,List.length_singleton];omega)
 refine ⟨rotL_len d a (a+1) i (by omega) hi (by omega),?_,?_,?_⟩
 ·rw [hr,List.take_append_of_le_length (by omega),List.take_of_length_le (by omega)]
 ·rw [hr,← List.append_assoc];exact List.drop_left' (by simp only [List.length_append,List.length_singleton];omega)
 ·rw [hsg,← seg_app d a (a+1) b (by omega) (by omega),hx,← seg_app d (a+1) i b hi hib];have:=stb_halves ho (L1:=[]) (L2:=[d[a]]) (R1:=seg d (a+1) i) (R2:=seg d i b) (P:=seg d (a+1) i) (Q:=[d[a]]++seg d i b) (by simp [Srt]) hs
   (fun x hx y hy=>by rw [List.mem_singleton] at hx;subst hx;exact hY y hy) (fun x hx=>by cases hx) ⟨s1,Cls.refl _⟩
   ⟨srt_app.2 ⟨by simp [Srt],s2,fun x hx z hz=>by rw [List.mem_singleton] at hx;subst hx;exact hZ z hz⟩,Cls.refl _⟩
  simpa using this
theorem ins_left(ho:Ord lt){d:List α}{a m i:Nat}(hi:a≤i)(him:i≤m)(hm:m<d.length)(hL:Srt lt (seg d a m))
 (h1:i=a∨∃ h:i-1<d.length,lt d[m] d[i-1]=false) (h2:i=m∨∃ h:i<d.length,lt d[m] d[i]=true):Mrg lt d a (m+1) (rotL d i m (m+1)):=by
 have hx:seg d m (m+1)=[d[m]]:=by
  unfold seg;rw [show m+1-m=1 by omega,List.drop_eq_getElem_cons hm];rfl
 have hA:∀ y∈seg d a i,lt d[m] y=false:=fun y hy=>by
  obtain ⟨j,j1,j2,j3,rfl⟩:=seg_mem (by omega) hy
  rcases h1 with h1 | ⟨h,h1⟩
  ·omega
  ·rcases Nat.eq_or_lt_of_le (show j≤i-1 by omega) with e|e
   ·subst e;exact h1
   ·exact ho.trans _ _ _ (srt_seg (by omega) hL j (i-1) j1 e (by omega)) h1
 have hB:∀ z∈seg d i m,lt d[m] z=true:=fun z hz=>by
  obtain ⟨j,j1,j2,j3,rfl⟩:=seg_mem (by omega) hz
  rcases h2 with h2 | ⟨h,h2⟩
  ·omega
  ·rcases Nat.eq_or_lt_of_le j1 with e|e
   ·subst e;exact h2
   ·exact ho.lt_le h2 (srt_seg (by omega) hL i j hi e j2)
 have hs:=hL;rw [← seg_app d a i m hi him] at hs;obtain ⟨s1,s2,s3⟩:=srt_app.1 hs;have hp:d.take i=d.take a++seg d a i:=by
  unfold seg;rw [← List.take_add]
  congr 1
  omega
 have la:(d.take a).length=a:=by simp;omega
 have l1:=seg_len d a i hi (by omega);have l2:=seg_len d i m him (by omega);have hr:rotL d i m (m+1)=d.take a++(((seg d a i++[d[m]])++seg d i m)++d.drop (m+1)):=by
  unfold rotL;rw [hx,hp];simp
 have hsg:seg (rotL d i m (m+1)) a (m+1)=(seg d a i++[d[m]])++seg d i m:=by
  rw [hr];exact seg_mid la (by simp only [List.length_append,List.length_singleton];omega)
 refine ⟨rotL_len d i m (m+1) him (by omega) (by omega),?_,?_,?_⟩
 ·rw [hr,List.take_append_of_le_length (by omega),List.take_of_length_le (by omega)]
 ·rw [hr,← List.append_assoc];exact List.drop_left' (by simp only [List.length_append,List.length_singleton];omega)
 ·rw [hsg,← seg_app d a m (m+1) (by omega) (by omega),hx,← seg_app d a i m hi him];have:=stb_halves ho (L1:=seg d a i) (L2:=seg d i m) (R1:=[d[m]]) (R2:=[]) (P:=seg d a i++[d[m]]) (Q:=seg d i m) hs (by simp [Srt])
   (fun x hx y hy=>by rw [List.mem_singleton] at hy;subst hy;exact hB x hx) (fun x hx y hy=>by cases hy)
   ⟨srt_app.2 ⟨s1,by simp [Srt],fun x hx z hz=>by rw [List.mem_singleton] at hz;subst hz;exact hA x hx⟩,Cls.refl _⟩ ⟨s2,by rw [List.append_nil];exact Cls.refl _⟩
  simpa using this
end
section
variable {α:Type} {lt:α→α→Bool}
theorem swp_at{xs:List α}{i j:Nat}(hi:i<xs.length)(hj:j<xs.length):swp xs i j=(xs.set i xs[j]).set j xs[i]:=by
 unfold swp;rw [List.getElem?_eq_getElem hi,List.getElem?_eq_getElem hj]
theorem swp_comm(A B:List α)(x y:α):swp (A++x :: y :: B) (A.length+1) A.length=A++y :: x :: B:=by
 have h1:A.length<(A++x :: y :: B).length:=by simp
 have h2:A.length+1<(A++x :: y :: B).length:=by simp
 rw [swp_at h2 h1];have e1:(A++x :: y :: B)[A.length]=x:=by simp
 have e2:(A++x :: y :: B)[A.length+1]=y:=by simp
 rw [e1,e2,List.set_append_right _ _ (by omega),show A.length+1-A.length=1 by omega,List.set_append_right _ _ (by omega),Nat.sub_self];rfl
theorem swp_next(A B:List α)(x y:α):swp (A++x :: y :: B) A.length (A.length+1)=A++y :: x :: B:=by
 have:=swp_parts A [] B x y
 simpa using this
theorem seg_one(d:List α)(i:Nat)(hi:i<d.length):seg d i (i+1)=[d[i]]:=by
 unfold seg;rw [show i+1-i=1 by omega,List.drop_eq_getElem_cons hi];rfl
theorem seg_push(d:List α)(i j:Nat)(h:i≤j)(hj:j<d.length):seg d i (j+1)=seg d i j++[d[j]]:=by
 rw [← seg_app d i j (j+1) h (by omega),seg_one d j hj]
theorem seg_pull(d:List α)(i j:Nat)(h:i<j)(hi:i<d.length):seg d i j=d[i] :: seg d (i+1) j:=by
 rw [← seg_app d i (i+1) j (by omega) h,seg_one d i hi];rfl
theorem take_push(d:List α)(i:Nat)(hi:i<d.length):d.take (i+1)=d.take i++[d[i]]:=List.take_succ_eq_append_getElem hi
theorem rot_down(d:List α)(j i:Nat)(h0:0<j)(hj:j≤i)(hi:i<d.length):swp (rotL d j i (i+1)) j (j-1)=rotL d (j-1) i (i+1):=by
 obtain ⟨p,rfl⟩:∃ p,j=p+1:=⟨j-1,by omega⟩;rw [show p+1-1=p by omega];unfold rotL;rw [seg_one d i hi,take_push d p (by omega),seg_pull d p i (by omega) (by omega)];have:=swp_comm (d.take p) (seg d (p+1) i++d.drop (i+1)) d[p] d[i];rw [show (d.take p).length=p by simp;omega] at this
 simpa only [List.append_assoc,List.cons_append,List.nil_append] using this
theorem rot_down'(d:List α)(j q i:Nat)(hq:q+1=j)(hj:j≤i)(hi:i<d.length):swp (rotL d j i (i+1)) j q=rotL d q i (i+1):=by
 subst hq;exact rot_down d (q+1) i (by omega) hj hi
theorem rot_up(d:List α)(a k:Nat)(hk:a≤k)(hl:k+1<d.length):swp (rotL d a (a+1) (k+1)) k (k+1)=rotL d a (a+1) (k+2):=by
 unfold rotL;rw [seg_one d a (by omega),seg_push d (a+1) (k+1) (by omega) hl];have hq:d.drop (k+1)=d[k+1] :: d.drop (k+2):=List.drop_eq_getElem_cons hl;rw [hq];have:=swp_next (d.take a++seg d (a+1) (k+1)) (d.drop (k+2)) d[a] d[k+1];have hs:(d.take a++seg d (a+1) (k+1)).length=k:=by
  rw [List.length_append,seg_len d (a+1) (k+1) (by omega) (by omega),List.length_take];omega
 rw [hs] at this
 simpa using this
theorem rot_at(d:List α)(j i:Nat)(hj:j≤i)(hi:i<d.length):∃ h:j<(rotL d j i (i+1)).length,(rotL d j i (i+1))[j]=d[i]:=by
 have hl:=rotL_len d j i (i+1) hj (by omega) (by omega);refine ⟨by omega,?_⟩;have hq:(rotL d j i (i+1))[j]? =some d[i]:=by
  unfold rotL;rw [seg_one d i hi,List.getElem?_append_right (by simp;omega)];rw [show j-(d.take j).length=0 by simp;omega];rfl
 rw [List.getElem?_eq_getElem (by omega)] at hq;exact Option.some.inj hq
theorem rot_before(d:List α)(j i k:Nat)(hj:j≤i)(hi:i<d.length)(hk:k<j):∃ h:k<(rotL d j i (i+1)).length,(rotL d j i (i+1))[k]=d[k]:=by
 have hl:=rotL_len d j i (i+1) hj (by omega) (by omega);refine ⟨by omega,?_⟩;have hq:(rotL d j i (i+1))[k]? =some d[k]:=by
  unfold rotL;rw [List.getElem?_append_left (by simp;omega),List.getElem?_take,if_pos hk];exact List.getElem?_eq_getElem (by omega)
 rw [List.getElem?_eq_getElem (by omega)] at hq;exact Option.some.inj hq
theorem parts3(d:List α)(a b:Nat)(h:a≤b):d=d.take a++(seg d a b++d.drop b):=by
 have:=parts d a b b h (Nat.le_refl _);rw [seg_nil,List.nil_append] at this;exact this
theorem Mrg.cls{d d':List α}{a b:Nat}(h:Mrg lt d a b d')(hab:a≤b):Cls lt d d':=by
 have e1:=parts3 d a b hab;have e2:=parts3 d' a b hab;rw [h.front,h.back] at e2;rw [e1,e2];exact (Cls.refl _).app (h.stb.2.app (Cls.refl _))
theorem Mrg.more{d ys zs:List α}{a i:Nat}(h:Mrg lt d a i ys)(h2:Mrg lt ys a (i+1) zs)(ha:a≤i)(hi:i<d.length):Mrg lt d a (i+1) zs:=by
 refine ⟨h2.len.trans h.len,h2.front.trans h.front,?_,h2.stb.1,?_⟩
 ·rw [h2.back];exact drop_of_drop (by omega) h.back
 ·have hi2:i<ys.length:=by rw [h.len];exact hi
  refine Cls.trans ?_ h2.stb.2;rw [seg_push d a i ha hi,seg_push ys a i ha hi2];have e:ys[i]=d[i]:=by
   have:=congrArg (fun l=>l[0]?) h.back;simp only [List.getElem?_drop,Nat.add_zero] at this;rw [List.getElem?_eq_getElem hi2,List.getElem?_eq_getElem hi] at this;exact Option.some.inj this
  rw [e];exact h.stb.2.app (Cls.refl _)
def Blk(lt:α→α→Bool)(d:List α)(bs:Nat)(p:Nat→Prop):Prop:=∀ k,p k→Srt lt (seg d (k*bs) ((k+1)*bs))
theorem seg_over(d:List α)(i j:Nat)(hj:d.length≤j):seg d i j=seg d i d.length:=by
 unfold seg;rw [List.take_of_length_le (by simp;omega),List.take_of_length_le (by simp)]
theorem seg_past(d:List α)(i j:Nat)(hi:d.length≤i):seg d i j=[]:=by
 unfold seg;rw [List.drop_eq_nil_of_le hi,List.take_nil]
theorem srt_nil:Srt lt ([]:List α):=List.Pairwise.nil
theorem blk_step{d d':List α}{bs k b:Nat}(h:Blk lt d bs (· < k))(hm:Mrg lt d (k*bs) b d')(hb:b=(k+1)*bs):Blk lt d' bs (· < k+1):=fun i hi=>by
 subst hb
 rcases Nat.lt_or_ge i k with hlt|hge
 ·have hle:(i+1)*bs≤k*bs:=Nat.mul_le_mul_right _ hlt;rw [seg_of_front (take_of_take hle hm.front)];exact h i hlt
 ·have:i=k:=by omega
  subst this;exact hm.stb.1
theorem blk_last{d d':List α}{bs k n:Nat}(h:Blk lt d bs (· < k))(hm:Mrg lt d (k*bs) n d')(hn:d.length=n)(hlt:n<(k+1)*bs):Blk lt d' bs (fun _=>True):=fun i _=>by
 rcases Nat.lt_trichotomy i k with h1|h1|h1
 ·have hle:(i+1)*bs≤k*bs:=Nat.mul_le_mul_right _ h1;rw [seg_of_front (take_of_take hle hm.front)];exact h i h1
 ·subst h1;have hl:=hm.len;rw [seg_over d' _ _ (by omega),hl,hn];exact hm.stb.1
 ·have hl:=hm.len;have hle:(k+1)*bs≤i*bs:=Nat.mul_le_mul_right _ h1;rw [seg_past d' _ _ (by omega)];exact srt_nil
theorem two_step{d d':List α}{bs k b:Nat}(h:Blk lt d (2*bs) (· < k))(h2:Blk lt d bs (2*k≤·))(hm:Mrg lt d (k*(2*bs)) b d')(hb:b=(k+1)*(2*bs)):Blk lt d' (2*bs) (· < k+1)∧Blk lt d' bs (2*(k+1)≤·):=by
 refine ⟨blk_step h hm hb,fun i hi=>?_⟩;have hle:b≤i*bs:=by
  rw [hb,show (k+1)*(2*bs)=(2*(k+1))*bs by rw [← Nat.mul_assoc,Nat.mul_comm (k+1) 2]];exact Nat.mul_le_mul_right _ hi
 rw [seg_of_back (drop_of_drop hle hm.back)];exact h2 i (by omega)
theorem two_runs{d:List α}{bs k:Nat}(h2:Blk lt d bs (2*k≤·)):Srt lt (seg d (k*(2*bs)) (k*(2*bs)+bs))∧Srt lt (seg d (k*(2*bs)+bs) (k*(2*bs)+bs+bs)):=by
 have e:2*k*bs=k*(2*bs):=by rw [Nat.mul_comm 2 k,Nat.mul_assoc]
 have h0:=h2 (2*k) (Nat.le_refl _);have h1:=h2 (2*k+1) (by omega);rw [Nat.add_mul,Nat.one_mul,e] at h0;rw [Nat.add_mul (2*k+1),Nat.add_mul,Nat.one_mul,e] at h1;exact ⟨h0,h1⟩
theorem two_end{d:List α}{bs k:Nat}(h:Blk lt d (2*bs) (· < k))(h2:Blk lt d bs (2*k≤·))(hn:d.length≤k*(2*bs)+bs)(_:0<bs):Blk lt d (2*bs) (fun _=>True):=fun i _=>by
 rcases Nat.lt_trichotomy i k with h1|h1|h1
 ·exact h i h1
 ·subst h1;have h0:=(two_runs h2).1;rw [seg_over d _ _ hn] at h0;rw [seg_over d _ _ (by rw [Nat.add_mul];omega)];exact h0
 ·have hle:(k+1)*(2*bs)≤i*(2*bs):=Nat.mul_le_mul_right _ h1;rw [Nat.add_mul,Nat.one_mul] at hle;rw [seg_past d _ _ (by omega)];exact srt_nil
theorem blk_whole{d:List α}{bs:Nat}(h:Blk lt d bs (fun _=>True))(hb:d.length≤bs):Srt lt d:=by
 have h0:=h 0 trivial;rw [Nat.zero_mul,Nat.zero_add,Nat.one_mul,seg_over d _ _ hb] at h0;have e:seg d 0 d.length=d:=by simp [seg]
 rw [e] at h0;exact h0
theorem seg_srt_one(d:List α)(i:Nat)(hi:i<d.length):Srt lt (seg d i (i+1)):=by
 rw [seg_one d i hi];exact List.pairwise_singleton _ _
theorem seg_srt_nil(d:List α)(i:Nat):Srt lt (seg d i i):=by
 rw [seg_nil];exact srt_nil
theorem Mrg.mem(ho:Ord lt){d d':List α}{a b:Nat}(h:Mrg lt d a b d')(hab:a≤b){M:α→Prop}(hM:∀ x∈d,M x):∀ x∈d',M x:=fun x hx=>hM x ((h.cls hab).symm.mem ho x hx)
theorem rot_mem{d:List α}{a m b:Nat}(h1:a≤m)(h2:m≤b){M:α→Prop}(hM:∀ x∈d,M x):∀ x∈rotL d a m b,M x:=fun x hx=>by
 refine hM x ?_;rw [parts d a m b h1 h2];unfold rotL at hx;simp only [List.mem_append] at hx ⊢
 rcases hx with h|h|h|h
 ·exact .inl h
 ·exact .inr (.inr (.inl h))
 ·exact .inr (.inl h)
 ·exact .inr (.inr (.inr h))
theorem rot_self(d:List α)(i:Nat):rotL d i i (i+1)=d:=rotL_left d i (i+1) (by omega)
theorem rot_gt{P X Y Q:List α}{i j m:Nat}(hx:X.length=i)(hy:Y.length=j)(hm:P.length+i=m)(h:j<i) :
 ∃ P' X' Y':List α,X'.length=i-j∧Y'.length=j∧P'.length+(i-j)=m∧swr (P++(X++(Y++Q))) P.length m j=P'++(X'++(Y'++Q))∧P'++(Y'++(X'++Q))=P++(Y++(X++Q)):=by
 refine ⟨P++Y,X.drop j,X.take j,by simp;omega,by simp;omega,by simp;omega,?_,?_⟩
 ·have:=swr_parts j P (X.take j) (X.drop j) Y Q (by simp;omega) hy;rw [show P.length+j+(X.drop j).length=m by simp;omega] at this;rw [show X++(Y++Q)=X.take j++(X.drop j++(Y++Q)) by rw [← List.append_assoc (X.take j),List.take_append_drop],this];simp
 ·rw [← List.append_assoc (X.take j),List.take_append_drop,List.append_assoc]
theorem rot_lt{P X Y Q:List α}{i j m:Nat}(hx:X.length=i)(hy:Y.length=j)(hm:P.length+i=m)(h:i<j) :
 ∃ X' Y' Q':List α,X'.length=i∧Y'.length=j-i∧swr (P++(X++(Y++Q))) P.length (m+j-i) i=P++(X'++(Y'++Q'))∧P++(Y'++(X'++Q'))=P++(Y++(X++Q)):=by
 refine ⟨Y.drop (j-i),Y.take (j-i),X++Q,by simp;omega,by simp;omega,?_,?_⟩
 ·have:=swr_parts i P X (Y.take (j-i)) (Y.drop (j-i)) Q hx (by simp;omega);rw [show P.length+i+(Y.take (j-i)).length=m+j-i by simp;omega] at this;rw [show Y++Q=Y.take (j-i)++(Y.drop (j-i)++Q) by rw [← List.append_assoc,List.take_append_drop],this]
 ·rw [← List.append_assoc (Y.take (j-i)),List.take_append_drop]
theorem rot_eq{P X Y Q:List α}{i m:Nat}(hx:X.length=i)(hy:Y.length=i)(hm:P.length+i=m):swr (P++(X++(Y++Q))) P.length m i=P++(Y++(X++Q)):=by
 have:=swr_parts i P X [] Y Q hx hy;rw [show P.length+i+([]:List α).length=m by simp;omega] at this;exact this
end
section
variable {α:Type} {lt:α→α→Bool}
def sins(lt:α→α→Bool)(x:α):List α→List α
 | []=>[x]
 | y :: r=>if lt y x then y :: sins lt x r else x :: y :: r
def ssort(lt:α→α→Bool):List α→List α
 | []=>[]
 | x :: r=>sins lt x (ssort lt r)
theorem sins_mem(x:α):∀ (l:List α) (a:α),a∈sins lt x l↔a=x∨a∈l
 | [],a=>by simp [sins]
 | y :: r,a=>by
   unfold sins
   split
   ·rw [List.mem_cons,sins_mem x r a,List.mem_cons];constructor
    ·rintro (h|h|h)<;>simp [h]
    ·rintro (h|h|h)<;>simp [h]
   ·simp
theorem sins_srt(ho:Ord lt)(x:α):∀ (l:List α),Srt lt l→Srt lt (sins lt x l)
 | [],_=>List.pairwise_singleton _ _
 | y :: r,h=>by
   unfold sins
   split
   ·rename_i hy;refine List.pairwise_cons.2 ⟨fun a ha=>?_,sins_srt ho x r (List.pairwise_cons.1 h).2⟩
    rcases (sins_mem x r a).1 ha with rfl|ha
    ·exact ho.asym _ _ hy
    ·exact (List.pairwise_cons.1 h).1 a ha
   ·rename_i hy;have hy':lt y x=false:=by simpa using hy
    refine List.pairwise_cons.2 ⟨fun a ha=>?_,h⟩
    rcases List.mem_cons.1 ha with rfl|ha
    ·exact hy'
    ·exact ho.trans x y a hy' ((List.pairwise_cons.1 h).1 a ha)
theorem sins_cls(ho:Ord lt)(x:α):∀ (l:List α),Cls lt (x :: l) (sins lt x l)
 | []=>Cls.refl _
 | y :: r=>by
   unfold sins
   split
   ·rename_i hy;have h1:Cls lt ([x]++[y]) ([y]++[x]):=swap_cls ho fun a ha b hb=>by
     simp only [List.mem_singleton] at ha hb;subst ha;subst hb;exact hy
    have h2:Cls lt ([y]++(x :: r)) ([y]++sins lt x r):=(Cls.refl [y]).app (sins_cls ho x r);have h3:=h1.app (Cls.refl (lt:=lt) r);exact h3.trans h2
   ·exact Cls.refl _
theorem ssort_stb(ho:Ord lt):∀ (l:List α),Stb lt l (ssort lt l)
 | []=>⟨List.Pairwise.nil,Cls.refl _⟩
 | x :: r=>⟨sins_srt ho x _ (ssort_stb ho r).1,((Cls.refl [x]).app (ssort_stb ho r).2).trans (sins_cls ho x _)⟩
theorem stb_ssort(ho:Ord lt){l l':List α}(h:Stb lt l l'):l'=ssort lt l:=srt_uniq ho _ _ h.1 (ssort_stb ho l).1 (h.2.symm.trans (ssort_stb ho l).2)
theorem ssort_mem(ho:Ord lt)(l:List α)(a:α):a∈ssort lt l↔a∈l:=(ssort_stb ho l).mem ho a
theorem sins_len(x:α):∀ (l:List α),(sins lt x l).length=l.length+1
 | []=>rfl
 | y :: r=>by
   unfold sins
   split
   ·simp [sins_len x r]
   ·simp
theorem ssort_len:∀ (l:List α),(ssort lt l).length=l.length
 | []=>rfl
 | x :: r=>by simp [ssort,sins_len,ssort_len r]
theorem sins_perm(x:α):∀ (l:List α),(sins lt x l).Perm (x :: l)
 | []=>List.Perm.refl _
 | y :: r=>by
   unfold sins
   split
   ·exact ((sins_perm x r).cons y).trans (List.Perm.swap x y r)
   ·exact List.Perm.refl _
theorem ssort_perm:∀ (l:List α),(ssort lt l).Perm l
 | []=>List.Perm.refl _
 | x :: r=>(sins_perm x _).trans ((ssort_perm r).cons x)
theorem sins_map{β:Type}{lt':β→β→Bool}(f:α→β)(hf:∀ a b,lt a b=lt' (f a) (f b))(x:α):∀ (l:List α),(sins lt x l).map f=sins lt' (f x) (l.map f)
 | []=>rfl
 | y :: r=>by
   simp only [sins,List.map_cons,← hf]
   split
   ·simp [sins_map f hf x r]
   ·simp
theorem ssort_map{β:Type}{lt':β→β→Bool}(f:α→β)(hf:∀ a b,lt a b=lt' (f a) (f b)):∀ (l:List α),(ssort lt l).map f=ssort lt' (l.map f)
 | []=>rfl
 | x :: r=>by simp only [ssort,List.map_cons,sins_map f hf,ssort_map f hf r]
theorem ssort_self(ho:Ord lt){l:List α}(h:Srt lt l):ssort lt l=l:=(stb_ssort ho ⟨h,Cls.refl _⟩).symm
end
section
variable {α:Type} {lt:α→α→Bool}
theorem rins_stb(ho:Ord lt){xs P Q:List α}{x:α}(hS:Stb lt xs (P++Q))(hQ:∀ y∈Q,lt x y=true)(hP:∀ y∈P,lt x y=false):Stb lt (xs++[x]) (P++[x]++Q):=by
 obtain ⟨h1,h2⟩:=hS;refine ⟨?_,?_⟩
 ·unfold Srt at *;rw [List.pairwise_append] at h1;obtain ⟨a1,a2,a3⟩:=h1;rw [List.append_assoc,List.pairwise_append,List.pairwise_append];refine ⟨a1,⟨List.pairwise_singleton _ _,a2,fun a ha b hb=>?_⟩,fun a ha b hb=>?_⟩
  ·rw [List.mem_singleton] at ha;subst ha;exact ho.asym _ _ (hQ b hb)
  ·rcases List.mem_append.1 hb with hb|hb
   ·rw [List.mem_singleton] at hb;subst hb;exact hP a ha
   ·exact a3 a ha b hb
 ·have e1:Cls lt (xs++[x]) (P++Q++[x]):=h2.app (Cls.refl _);have e2:Cls lt (Q++[x]) ([x]++Q):=swap_cls ho fun a ha b hb=>by
   rw [List.mem_singleton] at hb;subst hb;exact hQ a ha
  refine e1.trans ?_;rw [List.append_assoc,List.append_assoc];exact (Cls.refl P).app e2
theorem rins_at(ho:Ord lt){xs out:List α}{x:α}{k:Nat}(hS:Stb lt xs out)(hk:k≤out.length)(hQ:∀ j (h:j<out.length),k≤j→lt x out[j]=true)(hP:∀ (h:k-1<out.length),0<k→lt x out[k-1]=false):Stb lt (xs++[x]) (out.take k++[x]++out.drop k):=by
 have hsrt:Srt lt out:=hS.1;refine rins_stb ho (by rw [List.take_append_drop];exact hS) (fun y hy=>?_) (fun y hy=>?_)
 ·obtain ⟨j,hj,rfl⟩:=List.getElem_of_mem hy;rw [List.getElem_drop];exact hQ _ _ (by omega)
 ·obtain ⟨j,hj,rfl⟩:=List.getElem_of_mem hy;rw [List.length_take] at hj;rw [List.getElem_take];have h1:=hP (by omega) (by omega)
  rcases Nat.lt_or_ge j (k-1) with h2|h2
  ·have h3:=(List.pairwise_iff_getElem.1 hsrt) j (k-1) (by omega) (by omega) h2;exact ho.trans _ _ _ h3 h1
  ·have:j=k-1:=by omega
   subst this;exact h1
theorem rins_eq(ho:Ord lt){xs out:List α}{x:α}{k:Nat}(hS:Stb lt xs out)(hk:k≤out.length)(hQ:∀ j (h:j<out.length),k≤j→lt x out[j]=true)(hP:∀ (h:k-1<out.length),0<k→lt x out[k-1]=false):out.take k++[x]++out.drop k=ssort lt (xs++[x]) :=
 stb_ssort ho (rins_at ho hS hk hQ hP)
end
end Go.Sym
namespace Go.Proofs.YtpkocnpamcchcaaGreatDoor
open Go.RowKit Go.Zone Go.Shelf
attribute [local go_sem] zone stepZ fill lookFs goes goesUpon dropFs cell_gro frozen_gro size_gro lt_add drew_gro tape_gro keep_refl
attribute [local go_sem] lt_add2 lt_add3 lt_add4 lt_add5 lt_add6 lt_add7 lt_add8 lt_add9 lt_add10 lt_add11 lt_add12
theorem slB_drop{w:World}{b off c:Nat}{B:List UInt8}(h:SlB w (some ⟨b,off,none⟩) c B)(p:Nat)(hp:p≤B.length):SlB w (some ⟨b,off+p,none⟩) (c-p) (B.drop p):=by
 have hc:=h.cap;have hb:=h.big;have hl:=h.len;refine ⟨by simp;omega,by omega,by simp;omega,fun i hi=>?_⟩;simp only [List.length_drop] at hi;obtain ⟨b',off',hA,hcell⟩:=h.at_ (p+i) (by omega)
 cases hA
 refine ⟨b,off+p,rfl,fun j u hu=>?_⟩;have:=hcell j u (by rw [List.getElem_drop] at hu;exact hu);rw [show off+p+i*1+j=off+(p+i)*1+j by omega];exact this
theorem strB{w:World}{A:Option Addr}{c:Nat}{l:List UInt8}(h:SlB w A c l):(convert 31 9 (.slice A l.length c)).run Tryz.prog w=.ok (.string ⟨l.toArray⟩) w:=by
 cases A with
 | none =>
   have hx:l=[]:=by
    rcases l with _ | ⟨y,r⟩
    ·rfl
    ·obtain ⟨_,_,hA,_⟩:=h.at_ 0 (by simp)
     cases hA
   subst hx;rw [run_convert_bytes_string w 31 9 5 none _ c Tryz.underlying31 Tryz.underlying5 Tryz.underlying9];rfl
 | some a =>
   refine run_convert_bytes_back w 31 9 5 a c l Tryz.underlying31 Tryz.underlying5 Tryz.underlying9 fun j hj=>?_;obtain ⟨b,off,hA,_,hc⟩:=sl_b8 h j hj;injection hA with hA;subst hA;unfold Addr.add
   split
   ·rename_i h0;subst h0;exact hc
   ·exact hc
theorem le4_get(n:Nat)(h:n<4294967296):((le n 4)[0]'(by simp [le_len])).toNat+256*((le n 4)[1]'(by simp [le_len])).toNat+65536*((le n 4)[2]'(by simp [le_len])).toNat+16777216*((le n 4)[3]'(by simp [le_len])).toNat=n:=by
 simp [le,UInt8.toNat_ofNat];omega
theorem unframe_any(A:Option Addr)(c p:Nat)(B x rest:List UInt8)(w:World)(h:SlB w A c B)(hp:p≤B.length)(hB:B.drop p=frameB x++rest)(hl:x.length≤1073741824) :
 Calls Tryz.prog 45 #[.slice A B.length c,.int .i64 p] w fun e w'=>∃ v,e=.returned (.tuple #[v,.int .i64 (p+x.length+8:Nat),.int .i64 0])∧OwnB w' w.heap.size v x∧Keep w w':=by
 have hlen:B.length=p+x.length+8+rest.length:=by
  have:=congrArg List.length hB;rw [List.length_drop,List.length_append,frameB_len] at this;omega
 obtain ⟨b,off,hA⟩:∃ b off,A=some ⟨b,off,none⟩:=by
  obtain ⟨b,off,hA,_⟩:=h.at_ 0 (by omega);exact ⟨b,off,hA⟩
 subst hA;have hs:=slB_drop h p hp;have hcap:=h.cap;have hbig:=h.big;have hbl:=h.len;have hge:p+x.length+8≤B.length:=by omega
 have HX:=lh (show SlB w (some ⟨b,off+p+4,none⟩) (c-p-4) x by
  have h4:=slB_drop hs 4 (by simp;omega);have:=h4.cut_front x.length (by simp;omega);rw [show ((B.drop p).drop 4).take x.length=x by
   rw [hB,frameB,List.append_assoc,List.append_assoc,List.drop_append_of_le_length (by simp [le_len])];simp [le_len,List.drop_of_length_le]] at this
  exact this)
 have HF:=lh (show SlB w (some ⟨b,off+p,none⟩) (c-p) (frameB x) by
  have:=hs.cut_front (x.length+8) (by simp;omega);rw [show (B.drop p).take (x.length+8)=frameB x by rw [hB,← frameB_len];simp] at this;exact this)
 have hd:∀ i,(hi:i<4)→(B.drop p)[i]'(by simp;omega)=(le x.length 4)[i]'(by simp [le_len];omega):=fun i hi=>by
  simp only [hB,frameB,List.append_assoc];rw [List.getElem_append_left (by simp [le_len];omega)]
 obtain ⟨_,_,hA0,_,c0⟩:=sl_b8 hs 0 (by simp;omega)
 cases hA0
 obtain ⟨_,_,hA1,_,c1⟩:=sl_b8 hs 1 (by simp;omega)
 cases hA1
 obtain ⟨_,_,hA2,_,c2⟩:=sl_b8 hs 2 (by simp;omega)
 cases hA2
 obtain ⟨_,_,hA3,hbs,c3⟩:=sl_b8 hs 3 (by simp;omega)
 cases hA3
 rw [hd 0 (by decide)] at c0;rw [hd 1 (by decide)] at c1;rw [hd 2 (by decide)] at c2;rw [hd 3 (by decide)] at c3;have hsum:=le4_get x.length (by omega);have u0:=((le x.length 4)[0]'(by simp [le_len])).toNat_lt;have u1:=((le x.length 4)[1]'(by simp [le_len])).toNat_lt;have u2:=((le x.length 4)[2]'(by simp [le_len])).toNat_lt;have u3:=((le x.length 4)[3]'(by simp [le_len])).toNat_lt;generalize ((le x.length 4)[0]'(by simp [le_len])).toNat=d0 at c0 hsum u0;generalize ((le x.length 4)[1]'(by simp [le_len])).toNat=d1 at c1 hsum u1;generalize ((le x.length 4)[2]'(by simp [le_len])).toNat=d2 at c2 hsum u2;generalize ((le x.length 4)[3]'(by simp [le_len])).toNat=d3 at c3 hsum u3;simp only [Nat.reducePow] at u0 u1 u2 u3;have HSU:=lh (show (d0:Int)+256*(d1:Int)+65536*(d2:Int)+16777216*(d3:Int)=(x.length:Int) by omega)
 replace c0:w.cell? ⟨b,off+p,none⟩=some (.int .u8 (d0:Int)):=c0
 clear h hs hB hlen hd hsum;have hbx:B.length-p≤c-p:=by omega
 have hb0:0<B.length-p:=by omega
 have hb1:1<B.length-p:=by omega
 have hb2:2<B.length-p:=by omega
 have hb3:3<B.length-p:=by omega
 go_enter Tryz.func45,Tryz.ntmps45;go_upto_region 6 with fail;go_region;rw [HSU.out];clear c0 c1 c2 c3;have hcp4:¬ c-p=4:=by omega
 have e4:4+x.length-4=x.length:=by omega
 go_wp2_with (at_builtin;refine hold ?_);refine unhold ?_;rw [e4];have HE:OwnB (w.alloc (.cells #[] 5)).drew w.heap.size (.slice (some ⟨w.heap.size,0,none⟩) 0 0) ([]:List UInt8) :=
  (own_empty (w.alloc (.cells #[] 5)) w.heap.size 5 1 b8 w.heap.size (Nat.le_refl _) (heap_alloc_new _ _)).keep (Keep.drew (Keep.refl _))
 refine wpList_app elt_u8 b8_len b8_one rfl (.tmp 53) (.tmp 57) rfl (ys:=x) HE rfl rfl (HX.out.keep (by repeat first|exact kp0|apply kp1|apply kp2|apply kp3|apply kp4)) (by simp;omega) (by simp) ?_;intro v2 w2 hown2 hg2 _;have ⟨a1,a2,_⟩:=HE.after (w:=w) hg2 (by repeat first|exact kp0|apply kp1|apply kp2|apply kp3|apply kp4) (Nat.le_refl _);rw [List.nil_append] at hown2;obtain ⟨L,A2,c2,rfl,HS2,HO2,HL2⟩:=ownB_open hown2 (by omega);have HA1:=lh a1;obtain ⟨n8,hn8⟩:∃ n8,n8=x.length+8:=⟨_,rfl⟩;have HF2:=lh (fun W (hW:Keep w2 W)=>(by have:=strB ((HF.out.keep a1).keep hW);rw [frameB_len,← hn8] at this;exact this:(convert 31 9 (.slice (some ⟨b,off+p,none⟩) n8 (c-p))).run Tryz.prog W=.ok (.string ⟨(frameB x).toArray⟩) W));have hwx:IntKind.i64.wrap ((x.length:Int)+8)=(n8:Int):=by rw [IntWalk.i64_in _ ⟨by omega,by omega⟩];omega
 have hcc:n8≤c-p:=by omega
 have HN8:=lh hn8;have HFB:=lh (fun W (hW:Keep w2 W)=>rframe_any A2 c2 L W (HS2.out.keep hW) (by rw [HL2.out];exact hl));have hlz:=frameB_len x;have HFL:=lh (show (frameB x).length≤140737488355328 by rw [hlz];omega);have HFE:=lh (show frameB L=frameB x by rw [HL2.out]);clear hown2 hg2 a1 a2 HE HX HF hlz hn8;go_upto_region 12 with fail
 first|refine Zone.wp_region_all_gro (by kernel_rfl) (by kernel_rfl) ?_|refine Zone.wp_region_all (by kernel_rfl) (by kernel_rfl) ?_
 refine Zone.wpZ_step (fun K hK=>?_);go_simp
 (refine hK _ _ ?_;clear hK K)
 refine Zone.wpZ_free 60 (fun u W=>∃ A c,u=.slice A (frameB x).length c∧SlB W A c (frameB x)) rfl (fun _ _ _ hk ⟨A,c,h1,h2⟩=>⟨A,c,h1,h2.keep hk⟩) ?_ ?_
 ·intro p;simp only [Zone.fill,Zone.lookFs,List.filter_nil];go_simp;go_at_call 93;refine (HFB.out _ (by repeat first|exact kp0|apply kp1|apply kp2|apply kp3|apply kp4)).mono ?_;rintro e w5 ⟨u,rfl,hown,hk⟩;rw [HFE.out] at hown;obtain ⟨A5,c5,hv5,hsl5⟩:=hown.sl b8_len HFL.out;exact ⟨u,rfl,⟨A5,c5,hv5,hsl5⟩,hk⟩
 ·simp only [Zone.dropFs,List.filter_nil];refine Zone.wpZ_step (fun K hK=>?_);refine Zone.zone_free1 (.string ⟨(frameB x).toArray⟩) (d:=60) (by rfl) (fun p u hu=>?_) (hK _ _ ?_)
  ·obtain ⟨A5,c5,rfl,hsl5⟩:=hu;have hstr:=strB hsl5;go_simp
  ·clear hK K;have hss:=fun q=>HF2.out (w2.gro q) (below_gro w2 q)
   iterate 6
    refine Zone.wpZ_step (fun K hK=>?_);unfold Zone.zone Zone.stepZ;rw [Zone.lookFs_nil (by rfl)];go_simp
    (refine hK _ _ ?_;clear hK K)
   clear hss;refine Zone.wpZ_nil ?_;intro q;simp only [Zone.fill];intro u hu;clear hu;go_wp2;exact bodyPost_ret (v:=.tuple #[.slice A2 L.length c2,.int .i64 ((p:Int)+(x.length:Int)+8),.int .i64 0]) (by simp [results,Tryz.results45,go_sem]) rfl
    ⟨.slice A2 L.length c2,by rw [show (((p+x.length+8:Nat)):Int)=(p:Int)+(x.length:Int)+8 by omega],by have:=HO2.out.keep (below_gro w2 q);rw [HL2.out] at this ⊢;exact this,HA1.out.trans (below_gro w2 q)⟩
end Go.Proofs.YtpkocnpamcchcaaGreatDoor
