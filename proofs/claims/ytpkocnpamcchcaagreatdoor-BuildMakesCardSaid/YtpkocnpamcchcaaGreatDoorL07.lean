/- Parts. -/
import Derived.Test.YtpkocnpamcchcaaGreatDoorL04
set_option maxRecDepth 100000
set_option maxHeartbeats 40000000
set_option linter.all false
namespace Go.Proofs.YtpkocnpamcchcaaGreatDoor
open Go.RowKit Go.Zone Go.Shelf Tryz
attribute [local go_sem high] kE kD kF
def pl(a:List ai×Bool):Nat:=if a.2 then a.1.length else a.1.length+1
theorem GM(v:ai)(a:List ai×Bool)(x:ai):pl (gu v a x)=pl a+1:=by
 obtain⟨l,b⟩:=a;unfold gu pl
 cases b<;>cases gB v x<;>simp
theorem JB(v:ai)(xs:List ai):pl (jd v xs)=xs.length+1:=by
 unfold jd
 suffices h:∀(xs:List ai) (a:List ai×Bool),pl (xs.foldl (gu v) a)=pl a+xs.length by
  have:=h xs ([],false);rw[this];simp[pl];omega
 intro xs
 induction xs with
 | nil=>intro a;rfl
 | cons x r ih =>
   intro a;rw[List.foldl_cons,ih,GM,lw];omega
theorem Jz(xs:List ai)(v:ai):(dS xs v).length<=xs.length+1:=by
 have h:=JB v xs;unfold dS
 split
 ·omega
 ·split
  ·rename_i hb;simp[pl,hb]at h;omega
  ·rename_i hb;simp[pl,hb]at h;simp;omega
theorem Jy(xs:List ai)(v:ai):∀x∈dS xs v,x∈xs\/x=v:=by
 have e:∀(ys:List ai) (a:List ai×Bool),∀x∈(ys.foldl (gu v) a).1,x∈ys\/x=v\/x∈a.1:=by
  intro ys
  induction ys with
  | nil=>intro a x c;exact .inr (.inr c)
  | cons y r ih =>
    intro a x c
    rcases ih _ x c with b|b|b
    ·exact .inl (Lm _ b)
    ·exact .inr (.inl b)
    ·unfold gu at b
     split at b<;>simp at b
     ·rcases b with b|b|b
      ·exact .inr (.inr b)
      ·exact .inr (.inl b)
      ·exact .inl (by rw[b];exact Lt)
     ·rcases b with b|b
      ·exact .inr (.inr b)
      ·exact .inl (by rw[b];exact Lt)
 intro x c;unfold dS at c;have d:=e xs ([],false)
 split at c
 ·exact .inl c
 ·split at c
  ·rcases d x c with b|b|b
   ·exact .inl b
   ·exact .inr b
   ·cases b
  ·rcases lx.1 c with c|c
   ·rcases d x c with b|b|b
    ·exact .inl b
    ·exact .inr b
    ·cases b
   ·exact .inr (by simpa using c)
def putAll(xs:List ai):List ai:=xs.foldl dS []
theorem JC(xs:List ai)(k:Nat)(h:k<xs.length):putAll (xs.take (k+1))=dS (putAll (xs.take k)) xs[k]:=by
 unfold putAll;rw[ly h,List.foldl_append];rfl
theorem JE:∀(xs:List ai),(putAll xs).length<=xs.length:=by
 suffices h:∀(xs a:List ai),(xs.foldl dS a).length<=a.length+xs.length by
  intro xs;have:=h xs [];simpa[putAll]using this
 intro xs
 induction xs with
 | nil=>intro a;simp
 | cons x r ih=>intro a;have:=ih (dS a x);have:=Jz a x;simp only[List.foldl_cons,lw];omega
theorem JD:∀(xs:List ai),∀x∈putAll xs,x∈xs:=by
 suffices b:∀(xs a:List ai),∀x∈xs.foldl dS a,x∈xs\/x∈a by
  intro xs x c;rcases b xs [] x c with b|b
  ·exact b
  ·cases b
 intro xs
 induction xs with
 | nil=>intro a x c;exact .inr c
 | cons y r ih =>
   intro a x c
   rcases ih (dS a y) x c with b|b
   ·exact .inl (Lm _ b)
   ·rcases Jy a y x b with b|b
    ·exact .inr b
    ·exact .inl (by rw[b];exact Lt)
def iq(a:Int)(xs:List ai):List ai×Int :=
 if a != 1&&a != 2 then ([],2) else if xs.any cZ then ([],2) else if xs.any (λx=>x.k != a) then ([],9) else (putAll xs,0)
theorem IX(a:Int)(A:Option Addr)(c:Nat)(xs:List ai)(w:World)(d:Sl w 3 ai.cells A c xs)(D:∀x∈xs,x.s.size<=maxLen)(a0:xs.length<=900000) :
 Calls prog 48 #[.int .u8 a,.slice A xs.length c] w λe o=>∃b h,e=.returned (.tuple #[.slice b (iq a xs).1.length h,.int .i64 (iq a xs).2])/\Sl o 3 ai.cells b h (iq a xs).1/\aa w o/\nZ w.heap.size b (iq a xs).1.length:=by
 have E:=lh D;clear D
 by_cases f:(a != 1&&a != 2)=true
 ·have r:iq a xs=([],2):=by unfold iq;rw[if_pos f]
  rw[r];have G:(a != 1)=true:=by simp at f|-;exact f.1
  have Z:(a != 2)=true:=by simp at f|-;exact f.2
  clear f r;go_enter func48,ntmps48;go_wp2;go_ret2;exact⟨none,0,rfl,Sl.nil_ _ oM,aa.refl _,λ_ _ d=>by cases d⟩
 ·have r:iq a xs=if xs.any cZ then ([],2) else if xs.any (λx=>x.k != a) then ([],9) else (putAll xs,0):=by unfold iq;rw[if_neg f]
  rw[r];have O:((a != 1)=false)\/((a != 1)=true/\(a != 2)=false):=by
   simp only[L6,bne_iff_ne,ne_eq,not_and,Decidable.not_not,bne_eq_false_iff_eq]at f|-
   by_cases e:a=1
   ·exact .inl e
   ·exact .inr ⟨e,f e⟩
  clear f r;have a1:=d.len
  suffices hbody:∀_u:Unit,(Calls prog 48 #[.int .u8 a,.slice A xs.length c] w λe o=>∃b h,e=.returned (.tuple #[.slice b (if xs.any cZ then (([]:List ai),(2:Int)) else if xs.any (λx=>x.k != a) then ([],9) else (putAll xs,0)).1.length h,.int .i64 (if xs.any cZ then (([]:List ai),(2:Int)) else if xs.any (λx=>x.k != a) then ([],9) else (putAll xs,0)).2])/\Sl o 3 ai.cells b h (if xs.any cZ then (([]:List ai),(2:Int)) else if xs.any (λx=>x.k != a) then ([],9) else (putAll xs,0)).1/\aa w o/\nZ w.heap.size b (if xs.any cZ then (([]:List ai),(2:Int)) else if xs.any (λx=>x.k != a) then ([],9) else (putAll xs,0)).1.length) from hbody ()
  intro _;generalize I:(if xs.any cZ then (([]:List ai),(2:Int)) else if xs.any (λx=>x.k != a) then ([],9) else (putAll xs,0))=R;have y:=lh I;clear I
  rcases O with G | ⟨G,Z⟩
  all_goals
   go_enter func48,ntmps48;go_wp2;go_loopw [6] (λi wr=>∃k:Nat,k<=xs.length/\i=.int .i64 k/\Hid (aa w wr)/\Hid (∀j,(d:j<xs.length)->j<k->cZ xs[j]=false)) (λi _=>xs.length-(intOf i).toNat)
   case atStart=>exact⟨0,lj _,rfl,aa.refl _,λj _ g=>absurd g (lI _)⟩
   case round =>
    obtain⟨k,f,rfl,m,q⟩:=hrel
    by_cases v:k<xs.length
    ·have l:=λW=>zB xs[k] W;obtain⟨T,U,rfl,X,M,N,K⟩:=dL (d.keep m.o) k v
     cases hm:jB xs[k]
     ·rw[hm]at l;have u:=lh l;clear l;go_wp2_with (go_at_call 92;refine uC (u.o _) λp=>?_);go_ret2;have n:R=([],2):=(by rw[<-y.o,if_pos (List.any_eq_true.2 ⟨xs[k],ll _,by simp[cZ,hm]⟩)]);exact⟨none,0,by rw[n];rfl,by rw[n];exact Sl.nil_ _ oM,m.o.gro _,λ_ _ d=>by cases d⟩
     ·rw[hm]at l;have u:=lh l;clear l;have S:Hid (cZ xs[k]=false):=(by show _=_;simp[cZ,hm]);clear hm;go_wp2_with (go_at_call 92;refine uC (u.o _) λp=>?_);go_roundw
      case rel=>exact⟨k+1,oM,by go_num,m.o.gro _,λj g hjk=>by
          by_cases e:j=k
          ·subst e;exact S.o
          ·exact q.o j g oM⟩
      case measure=>simp[intOf];omega
    ·have H:Hid (xs.any cZ=false):=by
         show _=_;rw[List.any_eq_false];intro x t;obtain⟨j,g,rfl⟩:=lU t;simp[q.o j g oM]
     clear q;go_wp2;go_loopw [7,8] (λvo i wr=>∃(k:Nat) (b:Option Addr) (h:Nat),k<=xs.length/\i=.int .i64 k/\vo=.slice b (putAll (xs.take k)).length h/\Hid (Sl wr 3 ai.cells b h (putAll (xs.take k)))/\Hid (aa w wr)/\Hid (nZ w.heap.size b (putAll (xs.take k)).length)/\Hid (∀j,(d:j<xs.length)->j<k->(xs[j].k != a)=false)) (λ_ i _=>xs.length-(intOf i).toNat)
     case atStart=>exact⟨0,none,0,lj _,rfl,rfl,Sl.nil_ _ oM,m.o,(λ_ _ d=>by cases d),λj _ g=>absurd g (lI _)⟩
     case round =>
         obtain⟨k,b,h,f,rfl,rfl,F,m,B,q⟩:=hrel
         by_cases v:k<xs.length
         ·obtain⟨T,U,rfl,X,M,N,K⟩:=dL (d.keep m.o) k v
          cases hkk:xs[k].k != a
          ·have l:=λW (hW:aa _ W)=>Ju w.heap.size b h (putAll (xs.take k)) xs[k] W (lk m.o.size hW.size) B.o (F.o.keep hW) (λx t=>E.o x (Lx (JD _ x t))) (E.o _ (ll _)) (by have:=JE (xs.take k);simp at this;omega);rw[<-JC xs k v]at l;have u:=lh l;clear l;have J:=lh hkk;go_wp2_with (go_at_call 94;refine(u.o _ (aa.refl _)).mono ?_;rintro e o ⟨V,P,rfl,Y,L,Q⟩);clear hkk;go_roundw
           case rel=>exact⟨k+1,V,P,oM,by go_num,rfl,Y,m.o.trans L,Q,λj g hjk=>by
              by_cases e:j=k
              ·subst e;exact J.o
              ·exact q.o j g oM⟩
           case measure=>simp[intOf];omega
          ·go_wp2;go_ret2;have n:R=([],9):=(by rw[<-y.o,H.o,if_neg sP,if_pos (List.any_eq_true.2 ⟨xs[k],ll _,hkk⟩)]);exact⟨none,0,by rw[n];rfl,by rw[n];exact Sl.nil_ _ oM,m.o,λ_ _ d=>by cases d⟩
         ·have C:k=xs.length:=oM;have n:R=(putAll (xs.take k),0):=by
           rw[<-y.o,H.o,if_neg sP,if_neg,C,lC];rw[Bool.not_eq_true,List.any_eq_false];intro x t;obtain⟨j,g,rfl⟩:=lU t;simp[q.o j g oM]
          have z:=lh n;clear C n;go_wp2;go_ret2;exact⟨b,h,by rw[z.o];rfl,by rw[z.o];exact F.o,m.o,by rw[z.o];exact B.o⟩
theorem IY(a:Int)(A:Option Addr)(c:Nat)(xs:List ai)(w:World)(g:Sl w 3 ai.cells A c xs)(h:∀x∈xs,x.s.size<=maxLen)(j:xs.length<=900000) :
 Calls prog 48 #[.int .u8 a,.slice A xs.length c] w λe f=>∃d b,e=.returned (.tuple #[.slice d (iq a xs).1.length b,.int .i64 (iq a xs).2])/\Sl f 3 ai.cells d b (iq a xs).1/\aa w f:=by
 refine(IX a A c xs w g h j).mono ?_;rintro e f ⟨d,b,he,k,i,_⟩;exact⟨d,b,he,k,i⟩
def dE(xs:List ai)(v:ai):Nat:=(xs.takeWhile λx=>decide (dA x v<0)).length
theorem lower_eq:∀(xs:List ai) (v:ai) (n:Nat),n<=xs.length->(∀j,(a:j<xs.length)->j<n->dA xs[j] v<0)->((a:n<xs.length)->0<=dA xs[n] v)->dE xs v=n
 | [],_,n,hn,_,_=>by
   have:n=0:=(by simpa using hn);subst this;rfl
 | x::r,v,0,_,_,a=>by
   have:=a sP;simp only[Ld]at this;simp[dE,this]
 | x::r,v,n+1,hn,h1,h2=>by
   have b:=h1 0 sP oM;simp only[Ld]at b;have c:=lower_eq r v n (by simpa using hn) (λj hj hjn=>by have:=h1 (j+1) (by simpa using hj) oM;simpa using this) (λa=>by have:=h2 (by simpa using a);simpa using this);unfold dE at c|-;simp[b,c]
def jm(xs:List ai)(v:ai):Bool:=match xs[dE xs v]? with|some x=>dA x v==0|none=>false
theorem Io(A:Option Addr)(c:Nat)(xs:List ai)(v:ai)(w:World)(k:Sl w 3 ai.cells A c xs)(h:∀i j,(hi:i<xs.length)->(B:j<xs.length)->i<=j->dA xs[j] v<0->dA xs[i] v<0) :
 Rt 121 #[.slice A xs.length c,v.v,.func (.func 63) #[] #[]] w (.tuple #[.int .i64 (dE xs v),.bool (jm xs v)]):=by
 have o:=lh h;clear h;have Y:=k.len;have F:=λ(x:ai) W=>DY x v W;have M:=lh (lower_eq xs v);obtain⟨d,b,s0⟩:=v;have s:=lh F;clear F;go_enter func121,ntmps121;go_wp2;go_loopw [9,10] (λvi vj wr=>∃(i j:Nat),i<=j/\j<=xs.length/\vi=.int .i64 i/\vj=.int .i64 j/\Hid (aa w wr)/\Hid (∀a,(k:a<xs.length)->a<i->dA xs[a] ⟨d,b,s0⟩<0)/\Hid (∀a,(k:a<xs.length)->j<=a->0<=dA xs[a] ⟨d,b,s0⟩) /\
  w.heap.size<wr.heap.size/\wr.cell? ⟨w.heap.size,0,none⟩=some (.int .u8 d)/\wr.cell? ⟨w.heap.size,1,none⟩=some (.int .i64 b)/\wr.cell? ⟨w.heap.size,2,none⟩=some (.string s0)) (λvi vj _=>(intOf vj).toNat-(intOf vi).toNat)
 case atStart=>exact⟨0,xs.length,lj _,lc _,rfl,rfl,kP,λa _ ha=>absurd ha (lI _),λa h1 h2=>absurd h1 oM,sP,sG,sG,sG⟩
 case round =>
  obtain⟨i,j,X,B,rfl,rfl,f,E,D,g,O,y,I⟩:=hrel
  by_cases Z:i<j
  ·go_wp2;obtain⟨m,z⟩:∃m:Nat,((i:Int)+(j:Int))/2=m:=⟨(i+j)/2,oM⟩;simp only[z];have V:i<=m:=oM;have a0:m<j:=oM;clear z;have u:m<xs.length:=oM;obtain⟨S,T,rfl,U,Q,R,P⟩:=dL (k.keep f.o) m u;have e:=λW=>s.o xs[m] W;have C:=lh (λa (ha:a<xs.length) (h:a<=m)=>o.o a m ha u h);have H:=lh (λa (ha:a<xs.length) (h:m<=a)=>o.o m a u ha h);generalize a1:dA xs[m] ⟨d,b,s0⟩=L at e C H;have n:=lh e;clear e
   by_cases G:L<0
   ·refine zR kR ?_
    repeat
     refine aR (λK hK=>?_);go_simp
     first
     | (refine hK _ _ ?_;clear hK K)
     | (apply Exists.intro
        refine⟨λp=>?_,hK _ _ ?_⟩
        ((go_at_call 63;exact Zone.zc (n.o _)))
        clear hK K)
    refine bG ?_;intro p;simp only[aj];go_wp2;go_roundw
    case rel=>exact⟨m+1,j,oM,B,by go_num,rfl,f.o.gro _,λa ha hai=>C.o a ha oM G,D.o,by simp[az];omega,by simp[aH,g,O],by simp[aH,g,y],by simp[aH,g,I]⟩
    case measure=>simp[intOf];omega
   ·refine zR kR ?_
    repeat
     refine aR (λK hK=>?_);go_simp
     first
     | (refine hK _ _ ?_;clear hK K)
     | (apply Exists.intro
        refine⟨λp=>?_,hK _ _ ?_⟩
        ((go_at_call 63;exact Zone.zc (n.o _)))
        clear hK K)
    refine bG ?_;intro p;simp only[aj];go_wp2;go_roundw
    case rel=>exact⟨i,m,V,oM,rfl,rfl,f.o.gro _,E.o,λa ha hai=>by
     have:=H.o a ha hai
     rcases Int.lt_or_le (dA xs[a] ⟨d,b,s0⟩) 0 with r|r
     ·exact absurd (this r) G
     ·exact r,by simp[az];omega,by simp[aH,g,O],by simp[aH,g,y],by simp[aH,g,I]⟩
    case measure=>simp[intOf];omega
  ·have t:=M.o i oM E.o (λhi=>D.o i hi oM);have q:Hid (jm xs ⟨d,b,s0⟩=match xs[i]? with|some x=>dA x ⟨d,b,s0⟩==0|none=>false):=by
    show _=_;unfold jm;rw[t]
   have J:=lh t;clear t;clear M o
   by_cases N:i<xs.length
   ·obtain⟨S,T,rfl,U,Q,R,P⟩:=dL (k.keep f.o) i N;have e:=λW=>s.o xs[i] W;have l:Hid (jm xs ⟨d,b,s0⟩=(dA xs[i] ⟨d,b,s0⟩==0)):=by
     show _=_;rw[q.o,lu N]
    clear q;generalize dA xs[i] ⟨d,b,s0⟩=L at e l;have n:=lh e;clear e;go_wp2;refine zR kR ?_
    repeat
     refine aR (λK hK=>?_);go_simp
     first
     | (refine hK _ _ ?_;clear hK K)
     | (apply Exists.intro
        refine⟨λp=>?_,hK _ _ ?_⟩
        ((go_at_call 63;exact Zone.zc (n.o _)))
        clear hK K)
    refine bG ?_;intro p;simp only[aj];go_wp2;go_ret2;exact⟨by rw[J.o,l.o];rfl,f.o.gro _⟩
   ·have l:Hid (jm xs ⟨d,b,s0⟩=false):=by
     show _=_;rw[q.o,LL oM]
    go_wp2;refine zR kR ?_
    repeat
     refine aR (λK hK=>?_);go_simp
     first
     | (refine hK _ _ ?_;clear hK K)
     | (apply Exists.intro
        refine⟨λp=>?_,hK _ _ ?_⟩
        ((go_at_call 63;exact Zone.zc (s.o _ _)))
        clear hK K)
    refine bG ?_;intro p;simp only[aj];go_wp2;go_ret2;exact⟨by rw[J.o,l.o];rfl,f.o.gro _⟩
end Go.Proofs.YtpkocnpamcchcaaGreatDoor
