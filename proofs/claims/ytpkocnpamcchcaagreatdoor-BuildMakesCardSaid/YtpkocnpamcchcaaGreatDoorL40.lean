/- Parts. -/
import Derived.Test.YtpkocnpamcchcaaGreatDoorL35
set_option maxRecDepth 100000
set_option maxHeartbeats 40000000
set_option linter.all false
namespace Go.Proofs.YtpkocnpamcchcaaGreatDoor
open Go.RowKit Go.Zone Go.Shelf Tryz Go.Roa Go.Sym
def ql(s:ByteArray):List Value:=[.string s]
theorem jA(s:ByteArray):(ql s).length=1:=rfl
theorem j5(s:ByteArray):∀u∈ql s,u.oneCell'=true:=by simp[ql,Value.oneCell']
theorem kf:dX prog 41 9 1 16:=by
 obtain⟨i,hi,c,a,b⟩:=info_parts (show(prog.info? 9).map (λi=>(i.zero,i.size,i.bytes))=some (some (.string ⟨#[]⟩),1,16) from kR);exact⟨i,_,underlying41,hi,c,a,b,rfl,dC,dC⟩
theorem Hv{w:World}{g c:Nat}{x y:ByteArray}(a:w.cell? ⟨g,0,none⟩=some (.string x))(b:w.cell? ⟨g,1,none⟩=some (.string y))(d:2<=c:=by decide)(hc2:c<=9223372036854775807:=by decide):Sl w 1 ql (some ⟨g,0,none⟩) c [x,y] :=
 ⟨d,hc2,sP,λi hi=>⟨g,0,rfl,λj u hu=>by
  match i,hi,j,hu with
  | 0,_,0,hu=>cases hu;exact a
  | 1,_,0,hu=>cases hu;exact b⟩⟩
def ec(p:Nat):ByteArray:=⟨#[46]⟩++ey p
def oW(cs:List aG)(c:bw)(j:Nat):List ByteArray :=
 if (cs.getD j default).kind=3 then [⟨#[109,101,116,114,105,99]⟩++ec j]
 else [⟨#[100,105,99,116]⟩++ec j,⟨#[102,111,114,119,97,114,100]⟩++ec j]++(if cD c.inv (j:Int) then [⟨#[105,110,118,101,114,116,101,100]⟩++ec j] else [])++(if cD c.rng (j:Int) then [⟨#[114,97,110,103,101,100]⟩++ec j] else [])++(if c.sort=(j:Int) then [⟨#[115,111,114,116,101,100]⟩++ec j] else [])
def nH(cs:List aG)(c:bw):List ByteArray:=[⟨#[115,99,104,101,109,97]⟩,⟨#[114,111,119,115]⟩]++(List.range cs.length).flatMap (oW cs c)++(if c.split=[] then [] else [⟨#[115,116,97,114]⟩])
abbrev wW(w:World)(base:Nat)(v:Value)(xs:List ByteArray):Prop:=ah w base 9 1 ql v xs
theorem IZ(A:Option Addr)(n:Nat)(cs:List aG)(c:bw)(w:World)(a1:Sl w 2 aG.cells A n cs)(ak:ff w c)(b9:cs.length<=256) :
 Calls prog 13 #[.slice A cs.length n,c.v] w λe w'=>∃v,e=.returned v/\wW w' w.heap.size v (nH cs c)/\aa w w':=by
 have a9:=lh (show ∀pre:List ByteArray,pre=[⟨#[115,99,104,101,109,97]⟩,⟨#[114,111,119,115]⟩]++(List.range cs.length).flatMap (oW cs c)->nH cs c=pre++(if c.split=[] then [] else [⟨#[115,116,97,114]⟩]) from λpre a1=>by rw[a1];rfl);have ac:=lh (show ∀j,oW cs c j=if (cs.getD j default).kind=3 then [⟨#[109,101,116,114,105,99]⟩++ec j] else [⟨#[100,105,99,116]⟩++ec j,⟨#[102,111,114,119,97,114,100]⟩++ec j]++(if cD c.inv (j:Int) then [⟨#[105,110,118,101,114,116,101,100]⟩++ec j] else [])++(if cD c.rng (j:Int) then [⟨#[114,97,110,103,101,100]⟩++ec j] else [])++(if c.sort=(j:Int) then [⟨#[115,111,114,116,101,100]⟩++ec j] else []) from λ_=>rfl);have aW:=lh a1;have b8:=cE a1;obtain⟨U,aF⟩:∃U,U=oW cs c:=⟨_,rfl⟩;rw[<-aF]at a9 ac;obtain⟨av,aw⟩:∃av,av=nH cs c:=⟨_,rfl⟩;rw[<-aw]at a9|-;clear aF aw;obtain⟨s0,aj,af,a6,ao,aq,X,aL,aE,sp,aS⟩:=c;simp only at a9 ac;have aX:=lh (λW (hW:aa w W) (i:Int)=>oJ aj af a6 i W (ak.i.keep hW));have aB:=lh (λW (hW:aa w W) (i:Int)=>oJ ao aq X i W (ak.r.keep hW));have aZ:=lh (λp (hp:p<=1000) W=>DN p hp W);simp only[bw.v];clear a1 ak;go_enter func13,ntmps13;go_upto_region 1 with fail;have M:cV w (w.alloc (.cells #[.int .i64 s0,.slice aj a6.length af,.slice ao X.length aq,.slice aL sp.length aE,.int .i64 aS] 26)) [.int .i64 s0,.slice aj a6.length af,.slice ao X.length aq,.slice aL sp.length aE,.int .i64 aS]:=cV.start (t:=26) (aa.refl _)
 generalize aT:World.alloc w _=m at M|-;have ax:=M.lt;have J:=lh M.keep;have Y:=lh (M.at_ 0 _ rfl);have aC:=lh (M.at_ 1 _ rfl);have ai:=lh (M.at_ 2 _ rfl);have aA:=lh (M.at_ 3 _ rfl);clear aT M;generalize w.heap.size=au at ax Y aC ai aA|-;have K:=lh ax;have aN:=lh (show wW (m.alloc (.cells #[.string ⟨#[115,99,104,101,109,97]⟩,.string ⟨#[114,111,119,115]⟩] 9)) m.heap.size (.slice (some ⟨m.heap.size,0,none⟩) 2 2) [⟨#[115,99,104,101,109,97]⟩,⟨#[114,111,119,115]⟩]from
  ⟨rfl,.inr ⟨m.heap.size,2,#[.string ⟨#[115,99,104,101,109,97]⟩,.string ⟨#[114,111,119,115]⟩],rfl,lc _,heap_alloc_new m _,lc _,by unfold maxLen;omega,rfl,rfl⟩⟩)
 have ay:=lh (show aa m (m.alloc (.cells #[.string ⟨#[115,99,104,101,109,97]⟩,.string ⟨#[114,111,119,115]⟩] 9)) from aa.alloc (aa.refl _) _);go_wp2;go_loopw [5,6] (λvo vi wr=>∃(i:Nat) (a3:List ByteArray),i<=cs.length/\vi=.int .i64 i/\Hid (wW wr m.heap.size vo a3)/\Hid (a3=[⟨#[115,99,104,101,109,97]⟩,⟨#[114,111,119,115]⟩]++(List.range i).flatMap U)/\a3.length<=2+5*i/\Hid (aa m wr)) (λ_ vi _=>cs.length-(intOf vi).toNat)
 case atStart=>exact⟨0,_,lj _,rfl,aN.o,(by show _=_;simp),sP,ay.o⟩
 case round =>
  clear aN ay;obtain⟨i,a3,hi,rfl,Z,D,bc,V⟩:=hrel
  by_cases aJ:i<cs.length
  ·have G:=lh (show(List.range (i+1)).flatMap U=(List.range i).flatMap U++U i by rw[List.range_succ,lF];simp);have aI:(cs.getD i default).kind=cs[i].kind:=(by rw[L9,lu aJ];rfl);have aO:=lh aI;have aR:=lh (λW (hW:aa m W)=>il (aW.o.keep (J.o.trans hW)) i aJ);clear aI;go_wp2_with (go_at_call 16;refine ae ?_);refine uM (aZ.o i oM _) ?_;rintro e b6 ⟨rfl,al⟩;have a5:=lh (Z.o.keep al);have a4:=V.u al;have b3:=nL i oM;have b2:(ec i).size<=4:=(by unfold ec;rw[LA];show 1+_<=4;omega);have aM:(⟨#[46]⟩:ByteArray)++ey i=ec i:=rfl;generalize ey i=b5 at b3 aM|-;clear al Z V;obtain⟨b,b7,aY,az,aV,ab⟩:=aR.o _ a4.o;rw[<-aO.o]at ab;subst aY;clear aV aR;obtain⟨a2,ag⟩:∃a2,a2=(cs.getD i default).kind:=⟨_,rfl⟩;rw[<-ag]at ab;have B:=lh (ac.o i);rw[<-ag]at B;generalize ec i=g at aM b2 B;clear ag aO
   by_cases R:a2=3
   ·have q:((a2:Int)==3)=true:=(by simp[R]);have E:=lh R;clear R;go_wp2_with (at_builtin;refine ae ?_);refine ar ?_;have f:=lh (a5.o.keep (aa.alloc (aa.refl _) (.cells #[.string (⟨#[109,101,116,114,105,99]⟩++g)] 9)));have d:=lh (a4.o.trans (aa.alloc (aa.refl _) (.cells #[.string (⟨#[109,101,116,114,105,99]⟩++g)] 9)));refine aD kf jA j5 rfl (.tmp 24) (.tmp 27) rfl (ys:=[(⟨#[109,101,116,114,105,99]⟩++g)]) f.o rfl rfl (br (c:=1) _ dC dC (λj u hu=>by
     match j,hu with
     | 0,hu=>cases hu;simp[go_sem])) sO d.o.size ?_
    intro L ad h k _;have ⟨an,_,_⟩:=f.o.after (w:=m) k d.o (lc _);have T:=lh h;have I:=lh an;clear h k an f d a5 a4;clear q ab az;go_wp2;go_roundw
    case rel=>exact⟨i+1,_,oM,by go_num,T.o,(by show _=_;rw[G.o,D.o,B.o];simp[E.o]),sO,I.o⟩
    case measure=>simp[intOf];omega
   ·have q:((a2:Int)==3)=false:=(by simpa using R);have E:=lh R;clear R;go_wp2_with (at_builtin;refine ae ?_);refine ar ?_;have f:=lh (a5.o.keep (aa.alloc (aa.refl _) (.cells #[.string (⟨#[100,105,99,116]⟩++g),.string (⟨#[102,111,114,119,97,114,100]⟩++g)] 9)));have d:=lh (a4.o.trans (aa.alloc (aa.refl _) (.cells #[.string (⟨#[100,105,99,116]⟩++g),.string (⟨#[102,111,114,119,97,114,100]⟩++g)] 9)));refine aD kf jA j5 rfl (.tmp 29) (.tmp 34) rfl (ys:=[⟨#[100,105,99,116]⟩++g,⟨#[102,111,114,119,97,114,100]⟩++g]) f.o rfl rfl (Hv sG sG) sO d.o.size ?_;intro v3 ad h k _;have ⟨an,_,_⟩:=f.o.after (w:=m) k d.o (lc _);have T:=lh h;have I:=lh an;clear h k an f d a5 a4 q ab az;have aP:=bE I.o K.o aC.o;have s:au<ad.heap.size:=block_lt_of_cell aP;go_wp2_with (go_at_call 46;refine ae ?_);refine ar ?_;with_reducible refine(aX.o _ (J.v I) _).mono ?_;rintro e ba ⟨rfl,ah⟩;have S:=I.u ah;have a8:=lh (T.o.keep ah);clear aP s ah T I
    cases e1:cD a6 (i:Int)
    ·have F:=lh e1;clear e1;have a0:=bE S.o K.o ai.o;have s:=block_lt_of_cell a0;go_wp2_with (go_at_call 46;refine ae ?_);refine ar ?_;with_reducible refine(aB.o _ (J.v S) _).mono ?_;rintro e b1 ⟨rfl,O⟩;have x:=S.u O;have C:=lh (a8.o.keep O);clear a0 s O a8 S
     cases e2:cD X (i:Int)
     ·have z:=lh e2;clear e2;have y:=bE x.o K.o Y.o;have s:=block_lt_of_cell y
      by_cases l:s0=(i:Int)
      ·have q:(s0==(i:Int))=true:=(by simp[l]);have o:=lh l;clear l;go_wp2_with (at_builtin;refine ae ?_);refine ar ?_;have f:=lh (C.o.keep (aa.alloc (aa.refl _) (.cells #[.string (⟨#[115,111,114,116,101,100]⟩++g)] 9)));have d:=lh (x.o.trans (aa.alloc (aa.refl _) (.cells #[.string (⟨#[115,111,114,116,101,100]⟩++g)] 9)));refine aD kf jA j5 rfl (.tmp 58) (.tmp 61) rfl (ys:=[(⟨#[115,111,114,116,101,100]⟩++g)]) f.o rfl rfl (br (c:=1) _ dC dC (λj u hu=>by
        match j,hu with
        | 0,hu=>cases hu;simp[go_sem])) sO d.o.size ?_
       intro L ap h k _;have ⟨an,_,_⟩:=f.o.after (w:=m) k d.o (lc _);have Q:=lh h;have P:=lh an;clear h k an f d C x;clear y s q;go_wp2;go_roundw
       case rel=>exact⟨i+1,_,oM,by go_num,Q.o,(by show _=_;rw[G.o,D.o,B.o];simp[E.o,F.o,z.o,o.o]),sO,P.o⟩
       case measure=>simp[intOf];omega
      ·have q:(s0==(i:Int))=false:=(by simpa using l);have o:=lh l;clear l;go_wp2;go_roundw
       case rel=>exact⟨i+1,_,oM,by go_num,C.o,(by show _=_;rw[G.o,D.o,B.o];simp[E.o,F.o,z.o,o.o]),sO,x.o⟩
       case measure=>simp[intOf];omega
     ·have z:=lh e2;clear e2;go_wp2_with (at_builtin;refine ae ?_);refine ar ?_;have f:=lh (C.o.keep (aa.alloc (aa.refl _) (.cells #[.string (⟨#[114,97,110,103,101,100]⟩++g)] 9)));have d:=lh (x.o.trans (aa.alloc (aa.refl _) (.cells #[.string (⟨#[114,97,110,103,101,100]⟩++g)] 9)));refine aD kf jA j5 rfl (.tmp 49) (.tmp 52) rfl (ys:=[(⟨#[114,97,110,103,101,100]⟩++g)]) f.o rfl rfl (br (c:=1) _ dC dC (λj u hu=>by
       match j,hu with
       | 0,hu=>cases hu;simp[go_sem])) sO d.o.size ?_
      intro L b0 h k _;have ⟨an,_,_⟩:=f.o.after (w:=m) k d.o (lc _);have N:=lh h;have H:=lh an;clear h k an f d C x;have y:=bE H.o K.o Y.o;have s:=block_lt_of_cell y
      by_cases l:s0=(i:Int)
      ·have q:(s0==(i:Int))=true:=(by simp[l]);have o:=lh l;clear l;go_wp2_with (at_builtin;refine ae ?_);refine ar ?_;have f:=lh (N.o.keep (aa.alloc (aa.refl _) (.cells #[.string (⟨#[115,111,114,116,101,100]⟩++g)] 9)));have d:=lh (H.o.trans (aa.alloc (aa.refl _) (.cells #[.string (⟨#[115,111,114,116,101,100]⟩++g)] 9)));refine aD kf jA j5 rfl (.tmp 58) (.tmp 61) rfl (ys:=[(⟨#[115,111,114,116,101,100]⟩++g)]) f.o rfl rfl (br (c:=1) _ dC dC (λj u hu=>by
        match j,hu with
        | 0,hu=>cases hu;simp[go_sem])) sO d.o.size ?_
       intro L ap h k _;have ⟨an,_,_⟩:=f.o.after (w:=m) k d.o (lc _);have Q:=lh h;have P:=lh an;clear h k an f d N H;clear y s q;go_wp2;go_roundw
       case rel=>exact⟨i+1,_,oM,by go_num,Q.o,(by show _=_;rw[G.o,D.o,B.o];simp[E.o,F.o,z.o,o.o]),sO,P.o⟩
       case measure=>simp[intOf];omega
      ·have q:(s0==(i:Int))=false:=(by simpa using l);have o:=lh l;clear l;go_wp2;go_roundw
       case rel=>exact⟨i+1,_,oM,by go_num,N.o,(by show _=_;rw[G.o,D.o,B.o];simp[E.o,F.o,z.o,o.o]),sO,H.o⟩
       case measure=>simp[intOf];omega
    ·have F:=lh e1;clear e1;go_wp2_with (at_builtin;refine ae ?_);refine ar ?_;have f:=lh (a8.o.keep (aa.alloc (aa.refl _) (.cells #[.string (⟨#[105,110,118,101,114,116,101,100]⟩++g)] 9)));have d:=lh (S.o.trans (aa.alloc (aa.refl _) (.cells #[.string (⟨#[105,110,118,101,114,116,101,100]⟩++g)] 9)));refine aD kf jA j5 rfl (.tmp 40) (.tmp 43) rfl (ys:=[(⟨#[105,110,118,101,114,116,101,100]⟩++g)]) f.o rfl rfl (br (c:=1) _ dC dC (λj u hu=>by
      match j,hu with
      | 0,hu=>cases hu;simp[go_sem])) sO d.o.size ?_
     intro L bb h k _;have ⟨an,_,_⟩:=f.o.after (w:=m) k d.o (lc _);have aK:=lh h;have a7:=lh an;clear h k an f d a8 S;have a0:=bE a7.o K.o ai.o;have s:=block_lt_of_cell a0;go_wp2_with (go_at_call 46;refine ae ?_);refine ar ?_;with_reducible refine(aB.o _ (J.v a7) _).mono ?_;rintro e b1 ⟨rfl,O⟩;have x:=a7.u O;have C:=lh (aK.o.keep O);clear a0 s O aK a7
     cases e2:cD X (i:Int)
     ·have z:=lh e2;clear e2;have y:=bE x.o K.o Y.o;have s:=block_lt_of_cell y
      by_cases l:s0=(i:Int)
      ·have q:(s0==(i:Int))=true:=(by simp[l]);have o:=lh l;clear l;go_wp2_with (at_builtin;refine ae ?_);refine ar ?_;have f:=lh (C.o.keep (aa.alloc (aa.refl _) (.cells #[.string (⟨#[115,111,114,116,101,100]⟩++g)] 9)));have d:=lh (x.o.trans (aa.alloc (aa.refl _) (.cells #[.string (⟨#[115,111,114,116,101,100]⟩++g)] 9)));refine aD kf jA j5 rfl (.tmp 58) (.tmp 61) rfl (ys:=[(⟨#[115,111,114,116,101,100]⟩++g)]) f.o rfl rfl (br (c:=1) _ dC dC (λj u hu=>by
        match j,hu with
        | 0,hu=>cases hu;simp[go_sem])) sO d.o.size ?_
       intro L ap h k _;have ⟨an,_,_⟩:=f.o.after (w:=m) k d.o (lc _);have Q:=lh h;have P:=lh an;clear h k an f d C x;clear y s q;go_wp2;go_roundw
       case rel=>exact⟨i+1,_,oM,by go_num,Q.o,(by show _=_;rw[G.o,D.o,B.o];simp[E.o,F.o,z.o,o.o]),sO,P.o⟩
       case measure=>simp[intOf];omega
      ·have q:(s0==(i:Int))=false:=(by simpa using l);have o:=lh l;clear l;go_wp2;go_roundw
       case rel=>exact⟨i+1,_,oM,by go_num,C.o,(by show _=_;rw[G.o,D.o,B.o];simp[E.o,F.o,z.o,o.o]),sO,x.o⟩
       case measure=>simp[intOf];omega
     ·have z:=lh e2;clear e2;go_wp2_with (at_builtin;refine ae ?_);refine ar ?_;have f:=lh (C.o.keep (aa.alloc (aa.refl _) (.cells #[.string (⟨#[114,97,110,103,101,100]⟩++g)] 9)));have d:=lh (x.o.trans (aa.alloc (aa.refl _) (.cells #[.string (⟨#[114,97,110,103,101,100]⟩++g)] 9)));refine aD kf jA j5 rfl (.tmp 49) (.tmp 52) rfl (ys:=[(⟨#[114,97,110,103,101,100]⟩++g)]) f.o rfl rfl (br (c:=1) _ dC dC (λj u hu=>by
       match j,hu with
       | 0,hu=>cases hu;simp[go_sem])) sO d.o.size ?_
      intro L b0 h k _;have ⟨an,_,_⟩:=f.o.after (w:=m) k d.o (lc _);have N:=lh h;have H:=lh an;clear h k an f d C x;have y:=bE H.o K.o Y.o;have s:=block_lt_of_cell y
      by_cases l:s0=(i:Int)
      ·have q:(s0==(i:Int))=true:=(by simp[l]);have o:=lh l;clear l;go_wp2_with (at_builtin;refine ae ?_);refine ar ?_;have f:=lh (N.o.keep (aa.alloc (aa.refl _) (.cells #[.string (⟨#[115,111,114,116,101,100]⟩++g)] 9)));have d:=lh (H.o.trans (aa.alloc (aa.refl _) (.cells #[.string (⟨#[115,111,114,116,101,100]⟩++g)] 9)));refine aD kf jA j5 rfl (.tmp 58) (.tmp 61) rfl (ys:=[(⟨#[115,111,114,116,101,100]⟩++g)]) f.o rfl rfl (br (c:=1) _ dC dC (λj u hu=>by
        match j,hu with
        | 0,hu=>cases hu;simp[go_sem])) sO d.o.size ?_
       intro L ap h k _;have ⟨an,_,_⟩:=f.o.after (w:=m) k d.o (lc _);have Q:=lh h;have P:=lh an;clear h k an f d N H;clear y s q;go_wp2;go_roundw
       case rel=>exact⟨i+1,_,oM,by go_num,Q.o,(by show _=_;rw[G.o,D.o,B.o];simp[E.o,F.o,z.o,o.o]),sO,P.o⟩
       case measure=>simp[intOf];omega
      ·have q:(s0==(i:Int))=false:=(by simpa using l);have o:=lh l;clear l;go_wp2;go_roundw
       case rel=>exact⟨i+1,_,oM,by go_num,N.o,(by show _=_;rw[G.o,D.o,B.o];simp[E.o,F.o,z.o,o.o]),sO,H.o⟩
       case measure=>simp[intOf];omega
  ·have b4:cs.length=i:=oM;subst b4;have aQ:=lh (a9.o a3 D.o);have aH:=bE V.o K.o aA.o;have s:au<wr.heap.size:=block_lt_of_cell aH
   cases sp with
   | nil =>
     go_wp2;go_ret;exact⟨_,rfl,(by have:=Z.o.base_mono J.o.size;rw[aQ.o];simpa using this),J.o.trans V.o⟩
   | cons a r =>
     have aU:(0:Int)<((a::r).length:Int):=(by simp<;>omega);go_wp2_with (at_builtin;refine ae ?_);refine ar ?_;have f:=lh (Z.o.keep (aa.alloc (aa.refl _) (.cells #[.string ⟨#[115,116,97,114]⟩] 9)));have d:=lh (V.o.trans (aa.alloc (aa.refl _) (.cells #[.string ⟨#[115,116,97,114]⟩] 9)));refine aD kf jA j5 rfl (.tmp 67) (.tmp 68) rfl (ys:=[⟨#[115,116,97,114]⟩]) f.o rfl rfl (br (c:=1) _ dC dC (λj u hu=>by
      match j,hu with
      | 0,hu=>cases hu;simp[go_sem])) sO d.o.size ?_
     intro L ad h k _;have ⟨an,_,_⟩:=f.o.after (w:=m) k d.o (lc _);have T:=lh h;have I:=lh an;clear h k an f d Z V;clear aH s aU;go_wp2;go_ret;exact⟨_,rfl,(by have:=T.o.base_mono J.o.size;rw[aQ.o];simpa using this),J.o.trans I.o⟩
end Go.Proofs.YtpkocnpamcchcaaGreatDoor
