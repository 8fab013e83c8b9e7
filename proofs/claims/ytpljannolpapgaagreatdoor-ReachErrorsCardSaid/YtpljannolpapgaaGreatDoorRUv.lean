/- Nodes of B-trees: words: the walk. -/
import Derived.Test.YtpljannolpapgaaGreatDoorRJe
import Derived.BigRegion
import Derived.RegionTactic
import Derived.ChangeAlike
import Derived.Test.YtpljannolpapgaaGreatDoorRQx
import Derived.Laws.EntriesVeiled
import Derived.Sort.CutIn
import Derived.Shelf.Spec.SlicesInsertGrow
set_option maxRecDepth 100000
set_option maxHeartbeats 6400000
namespace Go.Proofs.YtpljannolpapgaaGreatDoor
section
open Go.RowKit Tryz Go.BigFrame Go.Maps Go.WideMaps Lf
variable{n:BN}{t:Nat}
def Lf.wAt(t:Nat)(n:BN)(a b j:Nat):Nat:=
 if j=0 then n.j_.length else if j=1 then n.size
 else if j<2+2*a then(if j % 2=0 then n.j_.getD ((j-2) / 2) 0 else n.C9.getD ((j-2) / 2) 0)
 else if 4*t<=j/\j<4*t+b then n.A6.getD (j-4*t) 0 else 0
def Lf.v8(t:Nat)(n:BN):List Nat:=(List.range (6*t)).map (wAt t n n.j_.length n.A6.length)
theorem jJ(t:Nat)(n:BN):(v8 t n).length=6*t:=by simp[v8]
def gO(N:Nat)(f:Nat->Nat):Array Value:=((List.range N).map fun j=>Value.int .u64 (f j)).toArray
theorem mh{N j:Nat}(f:Nat->Nat)(h:j<N):(gO N f)[j]?=some (Xu (f j)):=by
 unfold gO;rw[bO,bQ,bU h];rfl
theorem ni{N i:Nat}(f:Nat->Nat)(v:Nat):(gO N f).setIfInBounds i (Xu v)=gO N (fun j=>if j=i then v else f j):=by
 unfold gO;refine Array.ext_getElem? fun j=>?_;rw[List.setIfInBounds_toArray,bO,bO]
 by_cases hj:j<N
 ·by_cases e:i=j
  ·subst e;rw[cD (by simpa using hj),bQ,bU hj]
   simp
  ·rw[cT e,bQ,bQ,bU hj]
   simp[show ¬j=i from fun q=>e q.S]
 ·rw[aY m_,aY m_]
theorem sh{N:Nat}{f g:Nat->Nat}(h:∀j,j<N->f j=g j):gO N f=gO N g:=by
 unfold gO
 congr 1
 refine bg fun j hj=>?_;rw[h j (bw.1 hj)]
theorem Ec(N:Nat):((List.replicate N 0).map fun x:Nat=>Value.int .u64 x).toArray=gO N fun _=>0:=by
 unfold gO
 congr 1
 refine dx fun j=>?_
 by_cases hj:j<N
 ·rw[bQ,bQ,bU hj,List.getElem?_replicate,if_pos hj]
  rfl
 ·rw[aY m_,aY m_]
theorem yC(A:Option Addr)(n c:Nat)(w:World):
 Ct 227 #[.slice A n c] w fun e w'=>e=.returned (.func (.func 244) #[] #[PV w.1.size])/\w'=w.alloc (.cells #[.slice A n c] 177):=by
 go_enter func227,ntmps227
 go_wp2
 go_ret;exact⟨rfl,rfl⟩
structure j7 (t:Nat) (n:BN) (a b:Nat) (w W:World) (vk vv vc:Value):Prop where
 row:W.1[w.1.size+1]?=some (.cells (gO (6*t) (wAt t n a b)) 60 (0,0))
 box:W.1[w.1.size]?=some (.cells #[vk,vv,vc,Xu n.size] 215 (0,0))
 a_:D_ w W
theorem j7.two{a b i j x y:Nat}{w W W':World}{vk vv vc:Value}(h:j7 t n a b w W vk vv vc)(a' b':Nat)(hW:W'.heap=((W.setCell (x_ (w.1.size+1) i) (Xu x)).setCell (x_ (w.1.size+1) j) (Xu y)).heap)(ho:W'.os=W.os)(ht:W'.tape=W.tape)(hu:W'.output=W.output)
 (hr:∀q,q<6*t->wAt t n a' b' q=if q=j then y else if q=i then x else wAt t n a b q):j7 t n a' b' w W' vk vv vc:=by
 have hB:=(h.a_.setCell (p:=x_ (w.1.size+1) i) (dz _) (Xu x)).setCell (p:=x_ (w.1.size+1) j) (dz _) (Xu y);refine⟨?_,?_,⟨ho.T h.a_.os,ht.T h.a_.tape,hu.T h.a_.output,by rw[hW];exact hB.size,fun k hk=>by rw[hW];exact hB.block k hk⟩⟩
 ·rw[hW,heap_setCell (heap_setCell h.row),ni,ni,sh hr]
 ·rw[hW,FB o_,FB o_];exact h.box
theorem j7.one{a b i x:Nat}{w W W':World}{vk vv vc:Value}(h:j7 t n a b w W vk vv vc)(a' b':Nat)(hW:W'.heap=(W.setCell (x_ (w.1.size+1) i) (Xu x)).heap)(ho:W'.os=W.os)(ht:W'.tape=W.tape)(hu:W'.output=W.output)
 (hr:∀q,q<6*t->wAt t n a' b' q=if q=i then x else wAt t n a b q):j7 t n a' b' w W' vk vv vc:=by
 have hB:=h.a_.setCell (p:=x_ (w.1.size+1) i) (dz _) (Xu x);refine⟨?_,?_,⟨ho.T h.a_.os,ht.T h.a_.tape,hu.T h.a_.output,by rw[hW];exact hB.size,fun k hk=>by rw[hW];exact hB.block k hk⟩⟩
 ·rw[hW,heap_setCell h.row,ni,sh hr]
 ·rw[hW,FB o_];exact h.box
theorem tS{w:World}{vk vv vc:Value}(hn:iU t n)(hk:FD w vk n.j_)(hv:FD w vv n.C9)(hc:FD w vc n.A6):
 Ct 200 #[Xi t,eC vk vv vc n.size] w fun e w'=>∃B,e=.returned (.func (.func 244) #[] #[PV B])/\w.1.size<=B/\w'.1[B]?=some (.cells #[.slice (some (y_ (w.1.size+1))) (6*t) (6*t)] 177 (0,0))/\
  w'.1[w.1.size+1]?=some (.cells (gO (6*t) (wAt t n n.j_.length n.A6.length)) 60 (0,0))/\D_ w w':=by
 obtain⟨h1,h2,h3,h4,h5⟩:=hn;unfold eC;have a3:=vB (6*t) o_;rw[Ec] at a3;obtain⟨Ak,ck,rfl,hk⟩:=hk;obtain⟨Av,cv,rfl,hv⟩:=hv;obtain⟨Ac,cc,rfl,hc⟩:=hc;obtain⟨k,a0⟩:=Ii n.j_.length;obtain⟨c,au⟩:=Ii n.A6.length;rw[a0] at h3 h4 h5;rw[au] at h5;have bf:c<=2*t:=by rcases h5 with g | ⟨g,_⟩<;>omega
 have HB:=kq6 a0 h4 au hk hv hc;rw[h4,a0,au];clear hk hv hc a0 h4 au h5;generalize a8:n.size=sz;have HS:=If a8;clear a8;have q0:=heap_alloc_new w (.cells #[.slice Ak k ck,.slice Av k cv,.slice Ac c cc,Xu sz] 215);have B0:=c_ w (.cells #[.slice Ak k ck,.slice Av k cv,.slice Ac c cc,Xu sz] 215);have z0:(w.alloc (.cells #[.slice Ak k ck,.slice Av k cv,.slice Ac c cc,Xu sz] 215)).1.size=w.1.size+1:=s_
 have q1:=heap_alloc_new (w.alloc (.cells #[.slice Ak k ck,.slice Av k cv,.slice Ac c cc,Xu sz] 215)) (.cells (gO (6*t) fun _=>0) 60);have B1:=B0.alloc B0.size (.cells (gO (6*t) fun _=>0) 60);have a6:=(((aa (w.alloc (.cells #[.slice Ak k ck,.slice Av k cv,.slice Ac c cc,Xu sz] 215)).1.size (w.alloc (.cells #[.slice Ak k ck,.slice Av k cv,.slice Ac c cc,Xu sz] 215))).alloc Ih (.cells (gO (6*t) fun _=>0) 60)).block w.1.size o_).T q0;rw[z0] at q1;have a4:=a3 (w.alloc (.cells #[.slice Ak k ck,.slice Av k cv,.slice Ac c cc,Xu sz] 215));rw[z0] at a4;have bj:IntKind.i64.wrap (6*(t:Int))=6*(t:Int):=ax _ o_;have ba:((6*t:Nat):Int)=6*(t:Int):=o_
 rw[ba] at a4;have bk:(0:Int)<6*(t:Int):=o_
 have bm:(1:Int)<6*(t:Int):=o_
 clear a3 q0 B0;go_enter func200,ntmps200;go_wp2_with fail;clear a4;generalize a9:(w.alloc (.cells #[.slice Ak k ck,.slice Av k cv,.slice Ac c cc,Xu sz] 215)).alloc (.cells (gO (6*t) fun _=>0) 60)=W1 at*;obtain⟨c0,c1,c2,c3⟩:=Fy a6;have r0:W1.cell? (y_ (w.1.size+1))=some (Xu 0):=by rw[q_ q1,mh _ o_];rfl
 have r1:W1.cell? (x_ (w.1.size+1) 1)=some (Xu 0):=by rw[q_ q1,mh _ o_];rfl
 have f0:W1.frozen? (y_ (w.1.size+1))=false:=AT q1;have f1:W1.frozen? (x_ (w.1.size+1) 1)=false:=AT q1;have bc:¬(w.1.size=w.1.size+1):=o_
 go_region
 go_wp2_with fail;go_name_world W HW
 have hW:j7 t n 0 0 w W (.slice Ak k ck) (.slice Av k cv) (.slice Ac c cc):=by
  refine⟨?_,?_,?_⟩
  ·rw[<-HW];show ((W1.setCell (y_ (w.1.size+1)) (Xu k)).setCell (x_ (w.1.size+1) 1) (Xu sz)).1[w.1.size+1]?=_
   rw[heap_setCell (heap_setCell q1),ni,ni];congr 2
   refine sh fun q hq=>?_;unfold wAt;rw[HB.a,HS.O];by_cases e1:q=1
   ·rw[if_pos e1,if_neg o_,if_pos e1]
   ·rw[if_neg e1];by_cases e0:q=0
    ·rw[if_pos e0,if_pos e0]
    ·rw[if_neg e0,if_neg e0,if_neg e1,if_neg o_,if_neg o_]
  ·rw[<-HW];show ((W1.setCell (y_ (w.1.size+1)) (Xu k)).setCell (x_ (w.1.size+1) 1) (Xu sz)).1[w.1.size]?=_
   rw[FB o_,FB o_,HS.O];exact a6
  ·rw[<-HW];have h:=(B1.setCell (p:=y_ (w.1.size+1)) (dz _) (Xu k)).setCell (p:=x_ (w.1.size+1) 1) (dz _) (Xu sz);exact⟨h.os,h.tape,h.output,h.size,h.block⟩
 clear HW;have HA:=If hW;clear hW r0 r1 f0 f1 bc c0 c1 c2 c3 a6 q1 a9 B1;go_loopw [6,25] (fun _ i wr=>∃j:Nat,j<=k/\i=Xi j/\j7 t n j 0 w wr (.slice Ak k ck) (.slice Av k cv) (.slice Ac c cc)) (fun _ i _=>k-(intOf i).toNat)
 case atStart=>exact⟨0,o_,rfl,HA.O⟩
 case round=>
  obtain⟨j,hj,rfl,hA⟩:=hrel;by_cases hlt:j<k
  ·have bb:(j:Int)<k:=o_
   have ad:=hA.box;rw[HS.O] at ad;obtain⟨c0,c1,c2,c3⟩:=Fy ad;have ik:j<n.j_.length:=by rw[HB.a];exact hlt
   have iv:j<n.C9.length:=by rw[HB.b];exact hlt
   obtain⟨gk,ok,rfl,ai⟩:=HB.d j ik;obtain⟨gv,ov,rfl,a2⟩:=HB.e j iv;have lk:=fK ai;have lv:=fK a2;have dk:=(hA.a_.cell (p:=⟨gk,ok+j,none⟩) lk).T ai;have dv:=(hA.a_.cell (p:=⟨gv,ov+j,none⟩) lv).T a2;obtain⟨xk,an⟩:∃x,n.j_[j]=x:=⟨_,rfl⟩;obtain⟨xv,a5⟩:∃x,n.C9[j]=x:=⟨_,rfl⟩;rw[an] at dk;rw[a5] at dv;have ar:n.j_.getD j 0=xk:=by rw[ay,af ik,<-an];rfl
   have a7:n.C9.getD j 0=xv:=by rw[ay,af iv,<-a5];rfl
   have z2:∀q,2+2*j<=q->q<4*t->wAt t n j 0 q=0:=fun q h1 h2=>by
    unfold wAt;rw[if_neg o_,if_neg o_,if_neg o_,if_neg o_]
   have r0:wr.cell? ⟨w.1.size+1,2+2*j,none⟩=some (Xu 0):=by
    rw[q_ hA.row,mh _ o_,z2 _ o_ o_];rfl
   have r1:wr.cell? ⟨w.1.size+1,2+2*j+1,none⟩=some (Xu 0):=by
    rw[q_ hA.row,mh _ o_,z2 _ o_ o_];rfl
   have f0:wr.frozen? ⟨w.1.size+1,2+2*j,none⟩=false:=AT hA.row;have f1:wr.frozen? ⟨w.1.size+1,2+2*j+1,none⟩=false:=AT hA.row;have n1:¬(w.1.size=w.1.size+1):=o_
   have n2:¬(gk=w.1.size+1):=o_
   have n3:¬(gv=w.1.size+1):=o_
   have a':2+2*(j:Int)<6*(t:Int):=o_
   have bd:2+2*(j:Int)+1<6*(t:Int):=o_
   have HK:=kq4 hA ar a7 hlt;clear hA ad ai a2 z2 an a5 ar a7 lk lv;go_wp2_with fail;go_region
   have HN:=fun W' h1 h2 h3 h4=>HK.a.two (i:=2+2*j) (j:=2+2*j+1) (x:=xk) (y:=xv) (W':=W') (j+1) 0 h1 h2 h3 h4 (fun q hq=>by
    unfold wAt;by_cases e1:q=2+2*j+1
    ·rw[if_pos e1,if_neg o_,if_neg o_,if_pos o_,if_neg o_,show (q-2) / 2=j by omega];exact HK.c
    ·rw[if_neg e1];by_cases e0:q=2+2*j
     ·rw[if_pos e0,if_neg o_,if_neg o_,if_pos o_,if_pos o_,show (q-2) / 2=j by omega];exact HK.b
     ·rw[if_neg e0];by_cases g0:q=0
      ·rw[if_pos g0,if_pos g0]
      ·rw[if_neg g0,if_neg g0];by_cases g1:q=1
       ·rw[if_pos g1,if_pos g1]
       ·rw[if_neg g1,if_neg g1];by_cases g2:q<2+2*j
        ·rw[if_pos o_,if_pos g2]
        ·rw[if_neg o_,if_neg g2])
   have a1:=If HN;clear HN r0 r1 f0 f1 n1 n2 n3 c0 c1 c2 c3 dk dv;go_wp2_with fail;go_roundw
   case rel=>exact⟨j+1,HK.d,s_,a1.O _ rfl rfl rfl rfl⟩
   case measure=>have:=HK.d;simp[intOf];omega
  ·obtain rfl:j=k:=o_
   have ad:=hA.box;rw[HS.O] at ad;obtain⟨c0,c1,c2,c3⟩:=Fy ad;have HK:=If hA;clear hA ad;go_wp2_with fail;clear c0 c1 c2 c3;go_loopw [7,8,53] (fun _ _ i wr=>∃q:Nat,q<=c/\i=Xi q/\j7 t n j q w wr (.slice Ak j ck) (.slice Av j cv) (.slice Ac c cc)) (fun _ _ i _=>c-(intOf i).toNat)
   case atStart=>exact⟨0,o_,rfl,HK.O⟩
   case round=>
    obtain⟨q,hq,rfl,hA⟩:=hrel;by_cases hlt:q<c
    ·have bb:(q:Int)<c:=o_
     have ik:q<n.A6.length:=by rw[HB.c];exact hlt
     obtain⟨gk,ok,rfl,ai⟩:=HB.f q ik;have lk:=fK ai;have dk:=(hA.a_.cell (p:=⟨gk,ok+q,none⟩) lk).T ai;obtain⟨xk,an⟩:∃x,n.A6[q]=x:=⟨_,rfl⟩;rw[an] at dk;have ar:n.A6.getD q 0=xk:=by rw[ay,af ik,<-an];rfl
     have r0:wr.cell? ⟨w.1.size+1,4*t+q,none⟩=some (Xu 0):=by
      rw[q_ hA.row,mh _ o_];unfold wAt;rw[if_neg o_,if_neg o_,if_neg o_,if_neg o_];rfl
     have f0:wr.frozen? ⟨w.1.size+1,4*t+q,none⟩=false:=AT hA.row;have a':4*(t:Int)+q<6*(t:Int):=o_
     have ap:=kq3 hA ar hlt;clear hA ai an ar lk;go_wp2_with fail;have HN:=fun W' h1 h2 h3 h4=>ap.a.one (i:=4*t+q) (x:=xk) (W':=W') j (q+1) h1 h2 h3 h4 (fun p hp=>by
      unfold wAt;by_cases e1:p=4*t+q
      ·rw[if_pos e1,if_neg o_,if_neg o_,if_neg o_,if_pos o_,show p-4*t=q by omega];exact ap.b
      ·rw[if_neg e1];by_cases g0:p=0
       ·rw[if_pos g0,if_pos g0]
       ·rw[if_neg g0,if_neg g0];by_cases g1:p=1
        ·rw[if_pos g1,if_pos g1]
        ·rw[if_neg g1,if_neg g1];by_cases g2:p<2+2*j
         ·rw[if_pos g2,if_pos g2]
         ·rw[if_neg g2,if_neg g2];by_cases g3:4*t<=p/\p<4*t+q
          ·rw[if_pos o_,if_pos g3]
          ·rw[if_neg o_,if_neg g3])
     have a1:=If HN;clear HN r0 f0 dk;go_roundw
     case rel=>exact⟨q+1,ap.c,s_,a1.O _ rfl rfl rfl rfl⟩
     case measure=>have:=ap.c;simp[intOf];omega
    ·obtain rfl:q=c:=o_
     have ap:=If hA;clear hA;go_wp2_with fail;refine Jc (yC _ _ _ wr) ?_;go_wp2_with fail;go_ret;have hA:=ap.O;have hB:=c_ wr (.cells #[.slice (some (y_ (w.1.size+1))) (6*t) (6*t)] 177);refine⟨_,rfl,hA.a_.size,heap_alloc_new _ _,?_,b_ hA.a_ hB⟩;exact(hB.block _ (gl hA.row)).T hA.row
end
section
open Go.RowKit Tryz Go.BigFrame Go.Maps Go.WideMaps Lf
open Go.Shelf
variable{S:St}{Y:Nat->Prop}{v:Value}{w:World}
attribute [local go_sem] Oper.semAt_some
structure ir (R:Nat->Prop) (W W':World):Prop where
 size:W.1.size<=W'.1.size
 block:∀k,R k->W'.1[k]?=W.1[k]?
theorem ir.refl(R:Nat->Prop)(W:World):ir R W W:=⟨Nat.le_refl _,fun _ _=>rfl⟩
theorem ir.T{R:Nat->Prop}{A B C:World}(h:ir R A B)(k:ir R B C):ir R A C:=⟨aH h.size k.size,fun i hi=>(k.block i hi).T (h.block i hi)⟩
abbrev lH:= { x:Nat×Nat // x.1<=1000/\x.2<2^64 }
abbrev n9(x:lH):Array Value:=#[Xi x.1.1,Xu x.1.2]
abbrev kO(l:List lH):List (Nat×Nat):=l.map (·.1)
def gN(f:Nat->Nat)(n:Nat):List (Nat×Nat):=(List.range n).map fun j=>(j,f j)
theorem sg(f:Nat->Nat)(n:Nat):gN f (n+1)=gN f n++[(n,f n)]:=by unfold gN;rw[dr,aN];rfl
theorem Ea(f:Nat->Nat)(n:Nat):(gN f n).length=n:=by simp[gN]
theorem wK(f:Nat->Nat)(k:Nat):∀d,gN f k<+:gN f (k+d)
 | 0=>List.prefix_refl _
 | d+1=>by
  refine(wK f k d).T ?_;show gN f (k+d)<+:gN f (k+d+1)
  rw[sg];exact List.prefix_append _ _
theorem tC{B G c N:Nat}{f:Nat->Nat}{fr fr':Nat×Nat}(hN:N<=1000)(hf:∀j,j<N->f j<2^64)(hB:w.1[B]?=some (.cells #[.slice (some (y_ G)) N c] 177 fr))(hG:w.1[G]?=some (.cells (gO N f) 60 fr'))(R:Nat->Prop)(hRG:R G):
 SeqStopsK Fence.wide 6 prog 244 #[PV B] n9 (ir R) (fun xs=>kO xs=gN f N) (fun pre=>kO pre<+:gN f N) N w:=fun l J Jx W hW hJ hJx hY h0=>by
 have a0:=(gl hB);have a2:=(gl hG);have bb:W.cell? (y_ B)=some (.slice (some (y_ G)) N c):=e_ ((hW.block B a0).T hB)
 have a1:=(hW.block G a2).T hG;have HY:=If hY;have HJ:=kq2 hJ hJx;have H0:=kq4 h0 a1 hf hRG;clear hY hJ hJx h0 hB hG a1 hW hf hRG a0 a2;refine callsIn_of_wp func244 rfl trivial ?_ rfl;simp only[ntmps244,aS,aj,aL,Nat.reduceAdd,Nat.reduceSub,aO,aP,aT,aR,aX,aJ];gi_wp2_with fail;gi_loopw [3,4,7] (fun _ _ i wr=>∃k:Nat,k<=N/\i=Xi k/\Hid (ir R W wr/\∃pX,kO pX=gN f k/\J pX wr)) (fun _ _ i _=>N-(intOf i).toNat)
 case atStart=>exact⟨0,o_,rfl,ir.refl _ _,[],rfl,H0.a⟩
 case round=>
  obtain⟨k,hk,rfl,ap⟩:=hrel;by_cases hlt:k<N
  ·have bc:(k:Int)<N:=o_
   have C_:=(ap.O.1.block G H0.d).T H0.b;have hc:wr.cell? (x_ G k)=some (Xu (f k)):=by rw[q_ C_,mh f hlt]
   have a5:=H0.c k hlt;obtain⟨pX,ai,an⟩:=ap.O.2;obtain⟨xX,au⟩:∃xX:lH,xX.1=(k,f k):=⟨⟨(k,f k),o_,a5⟩,rfl⟩;have a8:pX.length=k:=by
    have:=congrArg List.length ai;rw[Ea] at this;simpa using this
   obtain⟨fn,bd,a',ba,hy,ar⟩:=HY.O pX xX wr an o_;have a7:kO (pX++[xX])=gN f (k+1):=by rw[sg,<-ai];show (pX++[xX]).map (·.1)=_;rw[aN];simp[au]
   have ad:=kq2 a7 hlt;dsimp only[n9] at hy
   rw[au] at hy;clear a7 ai a8 an au C_ a5;generalize f k=x at*;gi_wp2_with fail;refine ar.M ?_;rintro e w4 (⟨rfl,a3,a6⟩ | ⟨rfl,a4⟩)
   ·have H4:=kq2 (ap.O.1.T a6) a3;clear a3 a6 hy ar hc;gi_wp2_with fail;go_roundw
    case rel=>exact⟨k+1,ad.b,by go_num,H4.a,_,ad.a,H4.b⟩
    case measure=>have:=ad.b;simp[intOf];omega
   ·have H4:=If a4;have a9:gN f (k+1)<+:gN f N:=by
     obtain⟨d,hd⟩:∃d,N=k+1+d:=⟨N-(k+1),by have:=ad.b;omega⟩;rw[hd];exact wK f (k+1) d
    clear a4 hy ar hc;gi_wp2_with fail;refine bodyPost_ret (results_none rfl _ _ _) rfl ?_;exact⟨⟨_,rfl⟩,.inr ⟨_,by rw[ad.a];exact a9,H4.O⟩⟩
  ·obtain rfl:k=N:=o_
   gi_wp2
   go_end0
   obtain⟨pX,ai,an⟩:=ap.O.2;exact⟨⟨_,rfl⟩,.inl ⟨_,ai,an⟩⟩
attribute [local go_sem] Oper.semAt_some
theorem eR.own{w w':World}{ps pa pm ph pt:Nat}(h:eR w ps pa pm ph pt v S Y)(hs:w.1.size<=w'.1.size)(hc:∀(k:Nat) (o:Obj),w.1[k]?=some o->(o.isCells=true\/k=pm)->w'.1[k]?=some o):eR w' ps pa pm ph pt v S Y:=by
 obtain⟨ad,hb⟩:=h.heap.slab;have c1:∀{k:Nat} {cs:Array Value} {t:TypeId} {fr:Nat×Nat},w.1[k]?=some (.cells cs t fr)->w'.1[k]?=w.1[k]?:=fun e=>(hc _ _ e (ab rfl)).T e.S;have ht:gA w':=fun j hj=>by
  have:=h.heap.tab j hj;have hx:∃cs t fr,w.1[fy]?=some (.cells cs t fr):=by
   unfold World.cell? at this
   split at this
   ·rename_i heq;exact⟨_,_,_,heq⟩
   ·cases this
  grind [World.cell?_of_block]
 refine⟨(c1 h.hd).T h.hd,⟨⟨ad,hb.of_keep hs fun k hk hkk=>?_⟩,(c1 h.heap.hp).T h.heap.hp,h.heap.yh,ht,h.heap.yt⟩,h.tab.of_keep (c1 h.tab.hd) fun b e=>?_,h.off⟩
 ·rcases hkk with rfl | rfl | ⟨p,hp,rfl⟩
  ·exact c1 hb.hd
  ·grind
  ·obtain⟨l,hl⟩:=jP.1 hp;exact c1 (hb.pg _ hl)
 ·rcases h.tab.row.2 with⟨e0,_⟩ | ⟨g,ai,an,e0,_,hg,_⟩
  ·rw[e0] at e
   cases e
  ·rw[e0] at e
   injection e with e
   grind
theorem eR.full{ps pa pm ph pt:Nat}(h:eR w ps pa pm ph pt v S Y):eR w ps pa pm ph pt v S (fun k=>Y k\/(k≠pm/\∃o,w.1[k]?=some o/\o.isCells=false)):=by
 obtain⟨ai,hb⟩:=h.heap.slab;have hn:∀{k:Nat} {cs:Array Value} {t:TypeId} {fr:Nat×Nat},w.1[k]?=some (.cells cs t fr)->¬∃o,w.1[k]?=some o/\o.isCells=false:=fun e ⟨o,h1,h2⟩=>by
  rw[e] at h1
  injection h1 with h1
  rw[<-h1] at h2
  cases h2
 have hlt:∀{k:Nat},(∃o,w.1[k]?=some o/\o.isCells=false)->k<w.1.size:=fun⟨o,h1,_⟩=>(gl h1);have ad:∀k,YS (fun k=>Y k\/(k≠pm/\∃o,w.1[k]?=some o/\o.isCells=false)) ps ph pt v k->YS Y ps ph pt v k\/(k≠pm/\∃o,w.1[k]?=some o/\o.isCells=false):=fun k hk=>by
  rcases hk with (hk | hk) | hk
  ·exact ab (ab hk)
  ·grind
  ·exact ab (ae hk)
 refine⟨h.hd,⟨⟨ai,hb.wf,hb.hd,hb.map,hb.pg,hb.inj,fun hk=>?_,fun hk=>?_,fun p hp hk=>?_,fun k hk=>?_⟩,h.heap.hp,ae (ae (ab rfl)),h.heap.tab,ae (ae (ae (ab rfl)))⟩,h.tab,fun k hk=>?_⟩
 ·rcases ad _ hk with hk | ⟨_,hk⟩
  ·exact hb.ya hk
  ·exact hn hb.hd hk
 ·rcases ad _ hk with hk | ⟨hk,_⟩
  ·exact hb.ym hk
  omega
 ·rcases ad _ hk with hk | ⟨_,hk⟩
  ·exact hb.yp p hp hk
  ·obtain⟨l,hl⟩:=jP.1 hp;exact hn (hb.pg _ hl) hk
 ·rcases ad _ hk with hk | ⟨_,hk⟩
  ·exact hb.yl k hk
  grind
 ·rcases hk with (hk | ⟨_,hk⟩) | hk
  ·exact h.off k (ab hk)
  ·refine⟨?_,fun e=>?_⟩
   ·rintro rfl;exact hn h.tab.hd hk
   ·rcases h.tab.row.2 with⟨e0,_⟩ | ⟨g,an,ap,e0,_,hg,_⟩
    ·rw[e0] at e
     cases e
    ·rw[e0] at e
     injection e with e
     grind
  ·exact h.off k (ae hk)
theorem eR.pm_lt{ps pa pm ph pt:Nat}(h:eR w ps pa pm ph pt v S Y):pm<w.1.size:=by
 obtain⟨ad,hb⟩:=h.heap.slab;exact hb.map.lt
theorem Ex{ps pa pm ph pt:Nat}(h:eR w ps pa pm ph pt v S Y)(hi:Fv S)(hh k x:Nat)(hl:hh<2^64)(hk:k<=2^62)(hx:x<2^64):
 Ct 167 #[PV ps,Xu hh,Xi k,Xu x] w fun e w'=>e=.returned (Xi ((S.put hh k x).1:Nat))/\eR w' ps pa pm ph pt v (S.put hh k x).2 Y/\Fo Y w w':=by
 have ad:=sJ ⟨_,_,_,_,_,h⟩ hi hh k hl hk;have h3:=hi.place_le hh k;obtain⟨R,hR⟩:=Ii (S.put hh k x);rw[hR];rw[St.put_place] at hR
 rcases S.place_cases hh k with⟨p,h1⟩ | ⟨er,h1⟩
 ·rw[h1] at ad h3 hR;obtain⟨_,_,c2,_,_⟩:=h.cells;have HG:=kq4 ad hR (h.heap.write p x o_ hx) h;go_enter func167,ntmps167;go_wp2_with fail;refine Jc HG.a ?_;go_wp2_with fail;refine HG.c.M ?_;rintro e w1 ⟨rfl,ha,ai⟩;have HA:=kq2 (HG.d.arena ha ai) (ai.M fun _=>YS.self);go_wp2_with fail;go_ret;obtain rfl:=HG.b;exact⟨rfl,HA.a,HA.b⟩
 ·rw[h1] at ad hR;simp only at ad hR;have ap:(((er+1:Nat):Int) !=0)=true:=by grind
  obtain⟨g1,an⟩:=Ii (er+1);rw[an] at ad hR ap;have HG:=kq3 ad hR h;go_enter func167,ntmps167;go_wp2_with fail;refine Jc HG.a ?_;go_wp2_with fail;go_ret;obtain rfl:=HG.b;exact⟨rfl,HG.c,Fo.refl _ _⟩
theorem wC(h:Nat)(x:Nat):∀(l:List Nat) (S:St) (k:Nat),FC S h k (l++[x])=((FC S h k l).put h (k+l.length) x).2
 | [],S,k=>rfl
 | y::l,S,k=>by
  show FC (S.put h k y).2 h (k+1) (l++[x])=_
  rw[wC h x l];show ((FC (S.put h k y).2 h (k+1) l).put h (k+1+l.length) x).2=((FC (S.put h k y).2 h (k+1) l).put h (k+(l.length+1)) x).2
  rw[show k+1+l.length=k+(l.length+1) by omega]
def mf(S:St)(h:Nat)(l:List (Nat×Nat)):St:=l.foldl (fun S x=>(S.put h x.1 x.2).2) S
theorem rU(S:St)(h:Nat)(l:List (Nat×Nat))(x:Nat×Nat):mf S h (l++[x])=((mf S h l).put h x.1 x.2).2:=by unfold mf;grind
theorem wy(S:St)(h:Nat)(f:Nat->Nat):∀N,mf S h (gN f N)=FC S h 0 ((List.range N).map f)
 | 0=>rfl
 | N+1=>by
  rw[sg,rU,wy S h f N,dr,aN];show _=FC S h 0 ((List.range N).map f++[f N])
  rw[wC];simp
structure yy (w1 W:World) (ps pa pm ph pt:Nat) (v:Value) (S:St) (Y:Nat->Prop) (hh:Nat) (pre:List lH):Prop where
 st:eR W ps pa pm ph pt v (mf S hh (kO pre)) Y
 inv:Fv (mf S hh (kO pre))
 w_:Fo Y w1 W
theorem qUvaa{P:Prop}(h:P:=by
 simp only[n9]
 gi_wp2
 exact HK.O _ _ (KeepsFrom.refl _ _) (ir.refl _ _) hI rfl):P:=h
theorem Jg{ps:Nat}(h:Ig w ps S Y)(hi:Fv S){t:Nat}{n:BN}{vk vv vc:Value}(hn:iU t n)(hk:FD w vk n.j_)(hv:FD w vv n.C9)(hc:FD w vc n.A6)(hh:Nat)(hl:hh<2^64)(hlen:S.len hh=(6*t,0))(hlt:∀x∈v8 t n,x<2^64):
 Ct 212 #[PV ps,Xi t,Xu hh,eC vk vv vc n.size] w fun e w'=>e=.returned (Xi 0)/\Ig w' ps (FC S hh 0 (v8 t n)) Y/\Fo Y w w':=by
 refine(callsIn_wide (n:=7)).1 ?_;have h1:1<=7:=o_
 have bk:Fence.wide.fn 42:=trivial;have bj:Fence.wide.fn 199:=trivial;have bo:Fence.wide.fn 200:=trivial;have bm:Fence.wide.fn 167:=trivial;have a1:∀W,D_ w W->CallsIn Fence.wide 6 prog 42 #[PV ps,Xu 0] W _:=fun W hW=>callsIn_wide.2 (fB (h.a_ hW) hi 0 o_);have ap:∀W,D_ w W->CallsIn Fence.wide 6 prog 42 #[PV ps,Xu hh] W _:=fun W hW=>callsIn_wide.2 (fB (h.a_ hW) hi hh hl);rw[fU] at a1;rw[hlen] at ap;have a3:∀W,D_ w W->CallsIn Fence.wide 6 prog 199 #[Xi t,eC vk vv vc n.size] W _:=fun W hW=>callsIn_wide.2 (N3 hn (hk.a_ hW) (hv.a_ hW) (hc.a_ hW));have a5:∀W,D_ w W->CallsIn Fence.wide 6 prog 200 #[Xi t,eC vk vv vc n.size] W _:=fun W hW=>callsIn_wide.2 (tS hn (hk.a_ hW) (hv.a_ hW) (hc.a_ hW));unfold eC at a3 a5⊢;have ht:=And.intro hn.lo hn.hi;have bs:IntKind.i64.wrap (6*(t:Int))=6*(t:Int):=ax _ o_;have a8:((6*t:Nat):Int)=6*(t:Int):=o_
 simp only at a1 ap;rw[a8] at ap;have a7:v8 t n=(List.range (6*t)).map (wAt t n n.j_.length n.A6.length):=rfl;have HG:=kq8 a1 ap a3 a5 h hi hlt a7;obtain⟨Ak,ck,rfl,-⟩:=hk;obtain⟨Av,cv,rfl,-⟩:=hv;obtain⟨Ac,cc,rfl,-⟩:=hc;generalize n.j_.length=lk at*;generalize n.C9.length=lv at*;generalize n.A6.length=lc at*;generalize n.size=sz at*;have B0:=((c_ w (Xg ps)).alloc s_ (Xf hh)).alloc m_ (.cells #[.slice Ak lk ck,.slice Av lv cv,.slice Ac lc cc,Xu sz] 215);have q7:=heap_alloc_new ((w.alloc (Xg ps)).alloc (Xf hh)) (.cells #[.slice Ak lk ck,.slice Av lv cv,.slice Ac lc cc,Xu sz] 215);have q6:=(((aa ((w.alloc (Xg ps)).alloc (Xf hh)).1.size ((w.alloc (Xg ps)).alloc (Xf hh))).alloc Ih (.cells #[.slice Ak lk ck,.slice Av lv cv,.slice Ac lc cc,Xu sz] 215)).block (w.alloc (Xg ps)).1.size s_).T (heap_alloc_new (w.alloc (Xg ps)) (Xf hh));have q4:=(((aa ((w.alloc (Xg ps)).alloc (Xf hh)).1.size ((w.alloc (Xg ps)).alloc (Xf hh))).alloc Ih (.cells #[.slice Ak lk ck,.slice Av lv cv,.slice Ac lc cc,Xu sz] 215)).block w.1.size m_).T ((((aa (w.alloc (Xg ps)).1.size (w.alloc (Xg ps))).alloc Ih (Xf hh)).block w.1.size s_).T (heap_alloc_new w (Xg ps)));have z1:(w.alloc (Xg ps)).1.size=w.1.size+1:=s_
 have z2:((w.alloc (Xg ps)).alloc (Xf hh)).1.size=w.1.size+1+1:=s_
 have z3:(((w.alloc (Xg ps)).alloc (Xf hh)).alloc (.cells #[.slice Ak lk ck,.slice Av lv cv,.slice Ac lc cc,Xu sz] 215)).1.size=w.1.size+1+1+1:=s_
 rw[z1] at q6;rw[z2] at q7;refine callsIn_of_wp_marks func212 rfl trivial ?_ rfl;simp only[ntmps212,aS,aj,aL,Nat.reduceAdd,Nat.reduceSub,aO,aP,aT,aR,aX,aJ];gi_wp2_with fail;generalize (((w.alloc (Xg ps)).alloc (Xf hh)).alloc (.cells #[.slice Ak lk ck,.slice Av lv cv,.slice Ac lc cc,Xu sz] 215))=w0 at*;refine(HG.a _ B0).M ?_;rintro e w1 ⟨rfl,rfl⟩;have x0:(w0).cell? (y_ w.1.size)=some (PV ps):=e_ q4
 have y0:(w0).cell? (y_ (w.1.size+1))=some (Xu hh):=e_ q6
 obtain⟨c0,c1,c2,c3⟩:=Fy q7;have H0:=kq4 B0 q4 q6 q7;gi_wp2_with fail;refine(HG.c _ H0.a).M ?_;rintro e w1 ⟨rfl,ai⟩;have r4:=(ai.block w.1.size o_).T H0.b;have r6:=(ai.block (w.1.size+1) o_).T H0.c;have r7:=(ai.block (w.1.size+1+1) o_).T H0.d;have s1:=ai.size;have x0:(w1).cell? (y_ w.1.size)=some (PV ps):=e_ r4
 have y0:(w1).cell? (y_ (w.1.size+1))=some (Xu hh):=e_ r6
 obtain⟨c0,c1,c2,c3⟩:=Fy r7;have H1:=kq4 (H0.a.T (ai.M o_)) r4 r6 r7;gi_wp2_with fail;refine(HG.b _ H1.a).M ?_;rintro e w2 ⟨rfl,rfl⟩;gi_wp2_with fail;refine(HG.d _ H1.a).M ?_;rintro e w3 ⟨Bx,rfl,bf,rB,rG,an⟩;have B3:=H1.a.T (an.M o_);have s3:=an.size;obtain⟨f,hf⟩:=Ii (wAt t n lk lc);rw[hf] at rG HG;obtain⟨pa,pm,ph,pt,v,a2⟩:=HG.e;have au:=a2.wide B3;have a9:∀j,j<6*t->f j<2^64:=fun j hj=>HG.g _ (by rw[HG.h];grind);have bd:=au.yl;have bt:pm<w3.1.size:=au.pm_lt;have H3:=kq5 au ((an.block w.1.size o_).T H1.b) ((an.block (w.1.size+1) o_).T H1.c) B3 a2;have a6:=tC o_ a9 rB rG (fun k=>Y k\/(w.1.size<=k/\k<w3.1.size)) (ae ⟨o_,(gl rG)⟩);gi_wp2_with fail;refine wpIn_rangeFunc_ownH rfl h1 (gf:=244) (lb:=#[PV Bx]) rfl trivial (enters_of func244 k_ rfl)
  a6 ir.T (fun W l o o' h1 h2 h3 h4=>⟨s_,fun k hk=>World.putObj_heap_other (by grind)⟩) (aa _ _) (fun _=>rfl)
  (fun ad W=>yy w3 W ps pa pm ph pt v S (fun k=>Y k\/(w.1.size<=k/\k<w3.1.size)) hh ad)
  (fun _ _ _=>False)
  (fun ad W W' row hs hg hr=>⟨hs.st.own hg.size (fun k o hk hc=>(hg.block k (gl hk) (fun e=>by
   grind)).T hk),hs.inv,⟨hg.os.T hs.w_.os,hg.tape.T hs.w_.tape,hg.output.T hs.w_.output,aH hs.w_.size hg.size,fun k hk=>(hg.block k (aB (bd k hk) hs.w_.size) (fun e=>by
   grind)).T (hs.w_.block k hk)⟩⟩)
  (fun _ _ _ _ _ hs _ _=>hs.elim)
  ⟨H3.a,HG.f,Fo.refl _ _⟩
  (fun x a' _=>a'= { tmps:=#[PV ps,Xi t,Xu hh,.agg #[.slice Ak lk ck,.slice Av lv cv,.slice Ac lc cc,Xu sz],PV w.1.size,undef,PV (w.1.size+1),PV (w.1.size+1+1),Xi 0,Xi 0,Xi 7,Xi (6*(t:Int)),Xi 0,Xi x.1.1,Xu x.1.2,.tuple #[Xi 0,Xi 7],PV ps,.tuple #[Xi 0,Xi 7],Xi 0,Xi 7,Xi 7,.bool false,undef,Xi t,.agg #[.slice Ak lk ck,.slice Av lv cv,.slice Ac lc cc,Xu sz],.bool true,.bool false,.tuple #[Xi (6*(t:Int)),Xi 0],PV ps,Xu hh,.tuple #[Xi (6*(t:Int)),Xi 0],Xi (6*(t:Int)),Xi 0,.bool false,Xi 0,.bool false,undef,.bool false,Xi (6*(t:Int)),Xi t,Xi (6*(t:Int)),.bool false,Xi t,.agg #[.slice Ak lk ck,.slice Av lv cv,.slice Ac lc cc,Xu sz],.func (.func 244) #[] #[PV Bx],Xi x.1.1,Xu x.1.2,undef,undef,undef,undef,undef],defers:=[] })
  (fun x a' _ X W' row hs hg hr=>hs)
  ?assign ?body ?done ?stop
 case assign=>
  rintro l ad ⟨⟨i,x⟩,hx⟩ W K hI hK;have HK:=If hK;exact qUvaa
 case body=>
  rintro l ad ⟨⟨i,x⟩,hx⟩ a' W bq _ hI rfl hlt;have c4:=q_ (o:=0) ((hI.w_.block w.1.size (ae ⟨Nat.le_refl _,o_⟩)).T H3.b);have c6:=q_ (o:=0) ((hI.w_.block (w.1.size+1) (ae ⟨o_,o_⟩)).T H3.c);have c4:W.cell? (y_ w.1.size)=some (PV ps):=c4;have c6:W.cell? (y_ (w.1.size+1))=some (Xu hh):=c6;have bb:CallsIn Fence.wide 4 prog 167 #[PV ps,Xu hh,Xi i,Xu x] W _:=callsIn_wide.2 (Ex hI.st.full hI.inv hh i x hl o_ hx.2);have hv:∀(hx:_),kO (ad++[(⟨(i,x),hx⟩:lH)])=kO ad++[(i,x)]:=fun hx=>by
   exact aN ..
  have HH:=kq4 hI @hv (hI.inv.put hh i x) bb;gi_wp2_with fail;refine(CallsIn.inRound l HH.d).M ?_;rintro e w5 ⟨rfl,h5,k5⟩;have H5:=kq2 h5 k5;gi_wp2_with fail;have hk:=H5.b;refine⟨⟨hk.size,fun k o hk1 hk2 hk3=>(hk.block k (ae ⟨o_,o,hk2,hk3⟩)).T hk2⟩,⟨hk.size,fun k hk1=>hk.block k (ab hk1)⟩,?_,?_,HH.a.w_.T (hk.M fun k hk=>ab hk)⟩
  ·rw[HH.b,rU];exact H5.a.M fun k hk=>ab hk
  ·rw[HH.b,rU];exact HH.c
 case done=>
  rintro D ys W hD hS hI hK;have ar:=hI.st;have a0:=hI.w_;rw[hS,wy,<-HG.h] at ar;have HH:=kq3 ar a0 hK;gi_wp2_with fail;refine⟨s_,.inl ⟨_,_,rfl,run_takeDeferred HH.c,?_⟩⟩;obtain⟨ar,a0,hK⟩:=HH.O;have a4:∀(k:Nat),k≠D->(W.putObj D (.deferred none)).1[k]?=W.1[k]?:=fun k hk=>World.putObj_heap_other hk;have bc:eR (W.putObj D (.deferred none)) ps pa pm ph pt v (FC S hh 0 (v8 t n)) _:=ar.own s_ fun k o hk hc=>(a4 k (by
   rintro rfl
   rcases hc with hc | hc
   ·rw[hK] at hk
    injection hk with hk;rw[<-hk] at hc;cases hc
   omega)).T hk
  have ba:Fo Y W (W.putObj D (.deferred none)):=⟨rfl,rfl,rfl,s_,fun k hk=>a4 k (by grind)⟩;refine⟨Xi 0,?_,rfl,⟨pa,pm,ph,pt,v,bc.M fun k hk=>ab hk⟩,(Fo.v_ H3.d (Ig.yl ⟨_,_,_,_,_,H3.e⟩)).T ((a0.M fun k hk=>ab hk).T ba)⟩
  simp[results,f212,go_sem]
 case stop=>
  intro D c ad W _ _ hI;exact hI.elim
end
section
open Go.RowKit Tryz Go.BigFrame Go.Maps Go.WideMaps Lf
def Lf.bn0:BN:=⟨[],[],[],0⟩
theorem tR {t:Nat}(h1:2<=t)(h2:t<=16):iU t bn0:=⟨h1,h2,cC _,rfl,ab rfl⟩
theorem tQ(t:Nat):∀x∈v8 t bn0,x<2^64:=by
 intro x hx;unfold v8 at hx;obtain⟨j,_,rfl⟩:=az.1 hx;unfold wAt bn0;simp only[aL,List.getD_nil];repeat (first | split | omega)
theorem zG {w:World}{ps:Nat}{S S1:St}{Y:Nat->Prop}(h:Ig w ps S Y)(hi:Fv S){t:Nat}(t1:2<=t)(t2:t<=16)(hm:iw S (6*t)){hh:Nat}(he:S.make (6*t)=((hh,0),S1))(hl:hh<2^64)(hlen:S1.len hh=(6*t,0)):
 Ct 213 #[PV ps,Xi t,eC n_ n_ n_ 0] w fun e w'=>e=.returned (.tuple #[Xu hh,Xi 0])/\Ig w' ps (FC S1 hh 0 (v8 t bn0)) Y/\Fo Y w w':=by
 have B0:=c_ w (.cells #[n_,n_,n_,Xu 0] 215);have q0:=heap_alloc_new w (.cells #[n_,n_,n_,Xu 0] 215);have ar:Fv S1:=by have:=hm.2;rw[he] at this;exact this
 have ap:=fB (h.a_ B0) hi 0 o_;rw[fU] at ap;have ad:=fun W=>N3 (w:=W) (tR t1 t2) (FD.nil W) (FD.nil W) (FD.nil W);have ai:=fun W Z (hW:Ig W ps S Z)=>sH hW (6*t) o_ hm.1;rw[he] at ai;have an:=fun W Z (hW:Ig W ps S1 Z)=>Jg hW ar (tR t1 t2) (FD.nil W) (FD.nil W) (FD.nil W) hh hl hlen (tQ t);unfold eC at ad an⊢;simp only[bn0] at ad an;have hz:=h.wide B0;have a0:IntKind.i64.wrap (6*(t:Int))=6*(t:Int):=ax _ o_;have au:((6*t:Nat):Int)=6*(t:Int):=o_
 simp only[au] at ai;have HG:=kq7 ap ad ai an h B0 hz;obtain⟨c0,c1,c2,c3⟩:=Fy q0;clear ap ad ai an h hi ar B0 hz hm he hlen;go_enter func213,ntmps213;go_wp2_with fail;refine Jc HG.a ?_;go_wp2_with fail;refine dR (HG.b _) fun w1 hb1=>?_;have r1:=(hb1.block w.1.size s_).T q0;have H1:=kq3 (HG.g.a_ hb1) r1 (HG.f.T (hb1.M s_));clear hb1 r1 c0 c1 c2 c3;go_wp2_with fail;refine(HG.c _ _ H1.a).M ?_;rintro e w2 ⟨rfl,h2,k2⟩;have r2:=(k2.block w.1.size (ae ⟨Nat.le_refl _,s_⟩)).T H1.b;obtain⟨c0,c1,c2,c3⟩:=Fy r2;have H2:=kq2 h2 k2;clear h2 k2 r2;go_wp2_with fail;refine(HG.d _ _ H2.a).M ?_;rintro e w3 ⟨rfl,h3,k3⟩;have H3:=kq2 (h3.M (Z:=Y) fun k hk=>ab hk) ((Fo.v_ H1.c HG.e.yl).T ((H2.b.T k3).M fun k hk=>ab hk));clear h3 k3;go_wp2_with fail;go_ret2;exact⟨rfl,H3.O⟩
end
section
open Go.RowKit Tryz Go.BigFrame Go.Maps Go.WideMaps Lf
open Go.Shelf
variable{D:Nat}{S:St}{W2:World}{Y:Nat->Prop}{l:List Nat}{n:BN}{ps:Nat}{v:Value}{w:World}{x:Nat}
attribute [local go_sem] Oper.semAt_some
theorem zD(h:Ig w ps S Y)(hi:Fv S)(hh:Nat)(hl:hh<2^64){b3 b5:Nat}(c3:w.cell? (y_ b3)=some (PV ps))(c5:w.cell? (y_ b5)=some (Xu hh))(k:Nat)(hk:k<=2^62)(hx:(S.get hh k).1=x):
 Ct 198 #[Xi k,PV b3,PV b5] w fun e w'=>e=.returned (Xu x)/\w=w':=by
 have hg:=sG h hi hh k hl hk;rw[hx] at hg;generalize (S.get hh k).2=er at hg;have HG:=If hg;clear hg h hi hx;go_enter func198,ntmps198;go_wp2_with fail;refine Jc HG.O ?_;go_wp2_with fail;go_ret;exact⟨rfl,rfl⟩
def hV(l:List Nat):List Value:=l.map fun x:Nat=>Value.int .u64 x
theorem uP:(prog.info? 61).map (fun i=>(i.zero,i.size,i.bytes))=some (some (Xu 0),1,8):=k_
abbrev FE(w:World)(B:Nat)(v:Value)(l:List Nat):Prop:=w.ownsRow B 61 1 v l.length (hV l)
theorem jF{B:Nat}(h:FE w B v l)(hl:l.length<=100000)(x:Nat)(hB:B<=w.1.size)(ty:TypeId):
 ∃v' w',(Builtin.append_ #[59,59] ty #[v,.slice (some (y_ w.1.size)) 1 1]).run prog (w.alloc (Xf x))=.ok v' w'/\FE w' B v' (l++[x])/\w.grownBy w' v.ownBlock/\(v'.ownBlock=v.ownBlock\/∃g,v'.ownBlock=some g/\w.1.size<=g):=by
 obtain⟨i,hi,ad,ai,an⟩:=info_parts uP;obtain⟨v',w',h1,h2,h3,_,h4⟩:=run_append_own_at (P:=prog) (w:=w.alloc (Xf x)) B 59 ty 61 i (Xu 0) 1 8 underlying59 hi ad ai an rfl d_ v l.length (hV l) (h.alloc _) (y_ w.1.size) 1 1 [Xu x] rfl (cell_one_new _ _ _) (by simp[Value.oneCell']) (by unfold maxLen;omega) o_ m_;refine⟨v',w',h1,?_,(World.grownBy_alloc w _ _).T h3,?_⟩
 ·have e:hV (l++[x])=hV l++[Xu x]:=by simp[hV]
  unfold FE;rw[e,ag];exact h2
 ·rcases h4 with h4 | h4
  ·exact ab h4
  ·exact ae ⟨_,h4,s_⟩
attribute [local go_sem] Oper.semAt_some
structure eX (w W:World) (ps hh b12:Nat) (vk vv vc:Value) (sz:Nat):Prop where
 b3:W.1[w.1.size]?=some (.cells #[PV ps] 26 (0,0))
 b5:W.1[w.1.size+1]?=some (.cells #[Xu hh] 61 (0,0))
 b6:W.1[w.1.size+1+1]?=some (.cells #[n_,n_,n_,Xu 0] 215 (0,0))
 b7:W.1[w.1.size+1+1+1]?=some (.cells #[Xi 0] 27 (0,0))
 k12:W.1[b12]?=some (.cells #[.func (.func 198) #[] #[PV w.1.size,PV (w.1.size+1)]] 219 (0,0))
 k13:W.1[b12+1]?=some (.cells #[vk,vv,vc,Xu sz] 215 (0,0))
 a_:D_ w W
 size:b12+2<=W.1.size
 at12:b12=w.1.size+4
structure fN (W:World) (D:Nat) (vk vv vc:Value) (ks vs cs:List Nat):Prop where
 k:FE W D vk ks
 v:FE W D vv vs
 c:FE W D vc cs
 kv:∀g,vk.ownBlock=some g->vv.ownBlock≠some g
 kc:∀g,vk.ownBlock=some g->vc.ownBlock≠some g
 vc:∀g,vv.ownBlock=some g->vc.ownBlock≠some g
theorem kE{P:Program}{o:Oper}{a:Act}{w w':World}{K:Act->World->Prop}{Q:Exit->Act->World->Prop}{v xv v':Value}(s x:Operand)(t:TypeId)
 (ho:o.op=.call { callee:=.builtin .append,args:=#[s,x],argTypes:=#[t,t] }) (hs:a.eval s=v) (hx:a.eval x=xv)
 (hr:(Builtin.append_ #[t,t] o.type #[v,xv]).run P w=.ok v' w') (h:K (a.put o.dst v') w'):Oper.wp P o a w K Q:=by
 unfold Oper.wp execOp;simp only[ho,resolve,invoke,builtin,Sem.run_bind,Sem.run_pure,Result.andThen_ok,List.map_toArray,bi,List.map_nil,hs,hx,hr];exact h
theorem FE.at{w w':World}(h:FE w D v l)(e:∀g,v.ownBlock=some g->w'.1[g]?=w.1[g]?):FE w' D v l:=by
 refine⟨h.1,?_⟩
 rcases h.2 with hn | ⟨g,ad,ai,rfl,hb,an,ap⟩
 ·grind
 ·exact .inr ⟨g,ad,ai,rfl,hb,(e g rfl).T an,ap⟩
theorem FE.slice(h:FE w D v l):∃A m c,v=.slice A m c:=by
 rcases h.2 with⟨rfl,_⟩ | ⟨g,ad,ai,rfl,_⟩
 ·exact⟨_,_,_,rfl⟩
 grind
theorem FE.ge(h:FE w D v l):∀g,v.ownBlock=some g->D<=g/\g<w.1.size:=World.ownsRow.lt h
theorem FE.E_(h:FE w D v l):∃A c,v=.slice A l.length c:=by
 rcases h.2 with⟨rfl,e⟩ | ⟨g,ad,ai,rfl,_⟩
 ·exact⟨none,0,by rw[e]⟩
 grind
theorem FE.C_(h:FE w D v l):FD w v l:=by
 rcases h.2 with⟨rfl,e⟩ | ⟨g,ad,ai,e,_⟩
 ·exact⟨none,0,by rw[e],fun i hi=>absurd hi o_⟩
 ·refine⟨_,_,e,fun i hi=>⟨g,0,rfl,?_⟩⟩;have:=World.ownsRow.cells h (g:=g) (by rw[e];rfl) i (Xu (l[i]:Nat)) (by simp[hV,hi]);rw[Addr.add_lit] at this;omega
theorem Below.grownBy{w w':World}(h:D_ w w')(row:Option Nat):w.grownBy w' row:=⟨h.os,h.tape,h.output,h.size,fun k hk _=>h.block k hk⟩
theorem fN.a_{W W':World}{vk vv vc:Value}{ks vs cs:List Nat}(h:fN W D vk vv vc ks vs cs)(hb:D_ W W'):fN W' D vk vv vc ks vs cs:=
 ⟨h.k.at fun g e=>hb.block g (h.k.ge g e).2,h.v.at fun g e=>hb.block g (h.v.ge g e).2,h.c.at fun g e=>hb.block g (h.c.ge g e).2,h.kv,h.kc,h.vc⟩
theorem Be{t hh:Nat}(hn:iU t n)(hlen:S.len hh=(6*t,0))(hg:∀k,k<6*t->S.get hh k=(wAt t n n.j_.length n.A6.length k,0))(k:Nat):(S.get hh k).1=wAt t n n.j_.length n.A6.length k:=by
 by_cases hk:k<6*t
 ·grind
 ·have h1:=hn.many;have h2:n.A6.length<=n.j_.length+1:=by rcases hn.A6 with h | h<;>omega
  have h3:=hn.lo;unfold wAt;unfold St.len at hlen;unfold St.get
  grind
theorem oZ{b:Nat}{v0 v1 v2 v3 u0 u1 u2 u3:Value}{ty:TypeId}{fr:Nat×Nat}(h:w.1[b]?=some (.cells #[v0,v1,v2,v3] ty fr)):((((w.setCell (y_ b) (u0)).setCell (x_ b 1) (u1)).setCell (x_ b 2) (u2)).setCell (x_ b 3) (u3)).1[b]?=some (.cells #[u0,u1,u2,u3] ty fr):=by
 exact heap_setCell (i:=3) (v:=u3) (heap_setCell (i:=2) (v:=u2) (heap_setCell (i:=1) (v:=u1) (heap_setCell (i:=0) (v:=u0) h)))
theorem sy{b k:Nat}{u0 u1 u2 u3:Value}(hk:k≠b):((((w.setCell (y_ b) (u0)).setCell (x_ b 1) (u1)).setCell (x_ b 2) (u2)).setCell (x_ b 3) (u3)).1[k]?=w.1[k]?:=by
 grind [FB]
theorem oY{w w0:World}{n b:Nat}{u0 u1 u2 u3:Value}(h:Below n w0 w)(hb:n<=b):Below n w0 ((((w.setCell (y_ b) (u0)).setCell (x_ b 1) (u1)).setCell (x_ b 2) (u2)).setCell (x_ b 3) (u3)):=
 (((h.setCell (p:=y_ b) hb u0).setCell (p:=x_ b 1) hb u1).setCell (p:=x_ b 2) hb u2).setCell (p:=x_ b 3) hb u3
theorem fN.lift{W W':World}{D D':Nat}{vk vv vc:Value}{ks vs cs:List Nat}(h:fN W D vk vv vc ks vs cs)(hD:D'<=D)(e:∀g,D<=g->g<W.1.size->W'.1[g]?=W.1[g]?):fN W' D' vk vv vc ks vs cs:=by
 have low:∀{v:Value} {l:List Nat},FE W D v l->FE W' D' v l:=fun hh=>by
  have:=hh.at (w':=W') fun g q=>e g (hh.ge g q).1 (hh.ge g q).2;refine⟨this.1,?_⟩
  rcases this.2 with hn | ⟨g,ad,ai,rfl,hb,an⟩
  ·grind
  ·exact .inr ⟨g,ad,ai,rfl,aH hD hb,an⟩
 exact⟨low h.k,low h.v,low h.c,h.kv,h.kc,h.vc⟩
theorem dY{p:Addr}{x:Value}{k:Nat}(hk:k≠p.block):(w.setCell p x).1[k]?=w.1[k]?:=cy w p x k hk
theorem eX.drew{w W:World}{ps hh b12 sz:Nat}{vk vv vc:Value}(h:eX w W ps hh b12 vk vv vc sz):eX w W.drew ps hh b12 vk vv vc sz:=⟨h.b3,h.b5,h.b6,h.b7,h.k12,h.k13,h.a_.drew,h.size,h.at12⟩
theorem fN.drew{W:World}{vk vv vc:Value}{ks vs cs:List Nat}(h:fN W D vk vv vc ks vs cs):fN W.drew D vk vv vc ks vs cs:=⟨h.k,h.v,h.c,h.kv,h.kc,h.vc⟩
theorem eX.grown{w W W2:World}{ps hh b12 sz:Nat}{vk vv vc:Value}{row:Option Nat}(h:eX w W ps hh b12 vk vv vc sz)(hg:W.grownBy W2 row)(hr:∀g,row=some g->b12+2<=g):eX w W2 ps hh b12 vk vv vc sz:=by
 have e:∀k,k<b12+2->W2.1[k]?=W.1[k]?:=fun k hk=>hg.block k (by have:=h.size;omega) (fun e=>by grind);have ha:=h.at12;exact⟨(e _ o_).T h.b3,(e _ o_).T h.b5,(e _ o_).T h.b6,(e _ o_).T h.b7,(e _ o_).T h.k12,(e _ o_).T h.k13,
  h.a_.T ⟨hg.os,hg.tape,hg.output,hg.size,fun k hk=>e k o_⟩,aH h.size hg.size,ha⟩
theorem eX.up{w W W2:World}{ps hh b12 sz:Nat}{vk vv vc:Value}(h:eX w W ps hh b12 vk vv vc sz)(hb:D_ W W2):eX w W2 ps hh b12 vk vv vc sz:=h.grown (row:=none) (Below.grownBy hb none) fun _ e=>nomatch e
theorem eX.set0{w W:World}{ps hh b12 sz:Nat}{vk vv vc:Value}(h:eX w W ps hh b12 vk vv vc sz)(v':Value):eX w (W.setCell (y_ (b12+1)) v') ps hh b12 v' vv vc sz:=by
 have e:∀k,k≠b12+1->(W.setCell (y_ (b12+1)) v').1[k]?=W.1[k]?:=fun k hk=>dY hk;have ha:=h.at12;have hz:(W.setCell (y_ (b12+1)) v').1.size=W.1.size:=World.size_setCell _ _ _;have q:=heap_setCell (i:=0) (v:=v') h.k13;refine⟨(e _ o_).T h.b3,(e _ o_).T h.b5,(e _ o_).T h.b6,(e _ o_).T h.b7,(e _ o_).T h.k12,by grind,?_,by grind,ha⟩;exact h.a_.setCell (p:=y_ (b12+1)) (by grind) v'
theorem sK{w W:World}{ps hh b12 sz:Nat}{vk vv vc v':Value}{ks vs cs:List Nat}(gb:eX w W ps hh b12 vk vv vc sz)(rows:fN W (b12+2) vk vv vc ks vs cs)(h:FE W2 (b12+2) v' (ks++[x]))(hg:W.grownBy W2 vk.ownBlock)(hv:v'.ownBlock=vk.ownBlock\/∃g,v'.ownBlock=some g/\W.1.size<=g):
 eX w (W2.setCell (y_ (b12+1)) v') ps hh b12 v' vv vc sz/\fN (W2.setCell (y_ (b12+1)) v') (b12+2) v' vv vc (ks++[x]) vs cs:=by
 refine⟨(gb.grown hg fun g e=>(rows.k.ge g e).1).set0 v',?_⟩;have st:∀{v:Value} {l:List Nat},FE W2 (b12+2) v l->FE (W2.setCell (y_ (b12+1)) v') (b12+2) v l:=fun hh=>hh.at fun g e=>dY (by have:=(hh.ge g e).1;grind);have k1:∀{v:Value} {l:List Nat},FE W (b12+2) v l->(∀g,vk.ownBlock=some g->v.ownBlock≠some g)->FE W2 (b12+2) v l:=fun hh hn=>hh.at fun g e=>hg.block g (hh.ge g e).2 (fun e2=>hn g e2.S e);have nw:∀{v:Value} {l:List Nat},FE W (b12+2) v l->(∀g,vk.ownBlock=some g->v.ownBlock≠some g)->∀g,v'.ownBlock=some g->v.ownBlock≠some g:=fun hh hn g e e2=>by
  rcases hv with hv | ⟨g',e',hl⟩
  ·grind
  ·have:=(hh.ge g e2).2
   grind
 exact { k:=st h,v:=st (k1 rows.v (rows.kv)),c:=st (k1 rows.c (rows.kc)),kv:=nw rows.v (rows.kv),kc:=nw rows.c (rows.kc),vc:=rows.vc }
theorem eX.set1{w W:World}{ps hh b12 sz:Nat}{vk vv vc:Value}(h:eX w W ps hh b12 vk vv vc sz)(v':Value):eX w (W.setCell (x_ (b12+1) 1) v') ps hh b12 vk v' vc sz:=by
 have e:∀k,k≠b12+1->(W.setCell (x_ (b12+1) 1) v').1[k]?=W.1[k]?:=fun k hk=>dY hk;have ha:=h.at12;have hz:(W.setCell (x_ (b12+1) 1) v').1.size=W.1.size:=World.size_setCell _ _ _;have q:=heap_setCell (i:=1) (v:=v') h.k13;refine⟨(e _ o_).T h.b3,(e _ o_).T h.b5,(e _ o_).T h.b6,(e _ o_).T h.b7,(e _ o_).T h.k12,by grind,?_,by grind,ha⟩;exact h.a_.setCell (p:=x_ (b12+1) 1) (by grind) v'
theorem sL{w W:World}{ps hh b12 sz:Nat}{vk vv vc v':Value}{ks vs cs:List Nat}(gb:eX w W ps hh b12 vk vv vc sz)(rows:fN W (b12+2) vk vv vc ks vs cs)(h:FE W2 (b12+2) v' (vs++[x]))(hg:W.grownBy W2 vv.ownBlock)(hv:v'.ownBlock=vv.ownBlock\/∃g,v'.ownBlock=some g/\W.1.size<=g):
 eX w (W2.setCell (x_ (b12+1) 1) v') ps hh b12 vk v' vc sz/\fN (W2.setCell (x_ (b12+1) 1) v') (b12+2) vk v' vc ks (vs++[x]) cs:=by
 refine⟨(gb.grown hg fun g e=>(rows.v.ge g e).1).set1 v',?_⟩;have st:∀{v:Value} {l:List Nat},FE W2 (b12+2) v l->FE (W2.setCell (x_ (b12+1) 1) v') (b12+2) v l:=fun hh=>hh.at fun g e=>dY (by have:=(hh.ge g e).1;grind);have k1:∀{v:Value} {l:List Nat},FE W (b12+2) v l->(∀g,vv.ownBlock=some g->v.ownBlock≠some g)->FE W2 (b12+2) v l:=fun hh hn=>hh.at fun g e=>hg.block g (hh.ge g e).2 (fun e2=>hn g e2.S e);have nw:∀{v:Value} {l:List Nat},FE W (b12+2) v l->(∀g,vv.ownBlock=some g->v.ownBlock≠some g)->∀g,v'.ownBlock=some g->v.ownBlock≠some g:=fun hh hn g e e2=>by
  rcases hv with hv | ⟨g',e',hl⟩
  ·grind
  ·have:=(hh.ge g e2).2
   grind
 exact { k:=st (k1 rows.k (fun g e e2=>rows.kv g e2 e)),v:=st h,c:=st (k1 rows.c (rows.vc)),kv:=fun g e e2=>nw rows.k (fun g e e2=>rows.kv g e2 e) g e2 e,kc:=rows.kc,vc:=nw rows.c (rows.vc) }
theorem eX.set2{w W:World}{ps hh b12 sz:Nat}{vk vv vc:Value}(h:eX w W ps hh b12 vk vv vc sz)(v':Value):eX w (W.setCell (x_ (b12+1) 2) v') ps hh b12 vk vv v' sz:=by
 have e:∀k,k≠b12+1->(W.setCell (x_ (b12+1) 2) v').1[k]?=W.1[k]?:=fun k hk=>dY hk;have ha:=h.at12;have hz:(W.setCell (x_ (b12+1) 2) v').1.size=W.1.size:=World.size_setCell _ _ _;have q:=heap_setCell (i:=2) (v:=v') h.k13;refine⟨(e _ o_).T h.b3,(e _ o_).T h.b5,(e _ o_).T h.b6,(e _ o_).T h.b7,(e _ o_).T h.k12,by grind,?_,by grind,ha⟩;exact h.a_.setCell (p:=x_ (b12+1) 2) (by grind) v'
theorem sN{w W:World}{ps hh b12 sz:Nat}{vk vv vc v':Value}{ks vs cs:List Nat}(gb:eX w W ps hh b12 vk vv vc sz)(rows:fN W (b12+2) vk vv vc ks vs cs)(h:FE W2 (b12+2) v' (cs++[x]))(hg:W.grownBy W2 vc.ownBlock)(hv:v'.ownBlock=vc.ownBlock\/∃g,v'.ownBlock=some g/\W.1.size<=g):
 eX w (W2.setCell (x_ (b12+1) 2) v') ps hh b12 vk vv v' sz/\fN (W2.setCell (x_ (b12+1) 2) v') (b12+2) vk vv v' ks vs (cs++[x]):=by
 refine⟨(gb.grown hg fun g e=>(rows.c.ge g e).1).set2 v',?_⟩;have st:∀{v:Value} {l:List Nat},FE W2 (b12+2) v l->FE (W2.setCell (x_ (b12+1) 2) v') (b12+2) v l:=fun hh=>hh.at fun g e=>dY (by have:=(hh.ge g e).1;grind);have k1:∀{v:Value} {l:List Nat},FE W (b12+2) v l->(∀g,vc.ownBlock=some g->v.ownBlock≠some g)->FE W2 (b12+2) v l:=fun hh hn=>hh.at fun g e=>hg.block g (hh.ge g e).2 (fun e2=>hn g e2.S e);have nw:∀{v:Value} {l:List Nat},FE W (b12+2) v l->(∀g,vc.ownBlock=some g->v.ownBlock≠some g)->∀g,v'.ownBlock=some g->v.ownBlock≠some g:=fun hh hn g e e2=>by
  rcases hv with hv | ⟨g',e',hl⟩
  ·grind
  ·have:=(hh.ge g e2).2
   grind
 exact { k:=st (k1 rows.k (fun g e e2=>rows.kc g e2 e)),v:=st (k1 rows.v (fun g e e2=>rows.vc g e2 e)),c:=st h,kv:=rows.kv,kc:=fun g e e2=>nw rows.k (fun g e e2=>rows.kc g e2 e) g e2 e,vc:=fun g e e2=>nw rows.v (fun g e e2=>rows.vc g e2 e) g e2 e }
structure pr (w W:World) (ps hh:Nat):Prop where
 b3:W.1[w.1.size]?=some (.cells #[PV ps] 26 (0,0))
 b5:W.1[w.1.size+1]?=some (.cells #[Xu hh] 61 (0,0))
 b6:W.1[w.1.size+1+1]?=some (.cells #[n_,n_,n_,Xu 0] 215 (0,0))
 b7:W.1[w.1.size+1+1+1]?=some (.cells #[Xi 0] 27 (0,0))
 a_:D_ w W
 size:W.1.size=w.1.size+4
theorem uz(w:World)(ps hh:Nat):pr w ((((w.alloc (Xg ps)).alloc (Xf hh)).alloc (.cells #[n_,n_,n_,Xu 0] 215)).alloc (.cells #[Xi 0] 27)) ps hh:=by
 have z1:(w.alloc (Xg ps)).1.size=w.1.size+1:=s_
 have z2:((w.alloc (Xg ps)).alloc (Xf hh)).1.size=w.1.size+2:=s_
 have z3:(((w.alloc (Xg ps)).alloc (Xf hh)).alloc (.cells #[n_,n_,n_,Xu 0] 215)).1.size=w.1.size+3:=s_
 have z4:((((w.alloc (Xg ps)).alloc (Xf hh)).alloc (.cells #[n_,n_,n_,Xu 0] 215)).alloc (.cells #[Xi 0] 27)).1.size=w.1.size+4:=s_
 have B1:=c_ w (Xg ps);have q1:=heap_alloc_new w (Xg ps);have q2:=heap_alloc_new (w.alloc (Xg ps)) (Xf hh);have q3:=heap_alloc_new ((w.alloc (Xg ps)).alloc (Xf hh)) (.cells #[n_,n_,n_,Xu 0] 215);have q4:=heap_alloc_new (((w.alloc (Xg ps)).alloc (Xf hh)).alloc (.cells #[n_,n_,n_,Xu 0] 215)) (.cells #[Xi 0] 27);rw[z1] at q2;rw[z2] at q3;rw[z3] at q4;generalize (w.alloc (Xg ps))=w1 at*;have e2:=c_ w1 (Xf hh);generalize w1.alloc (Xf hh)=w2 at*;have e3:=c_ w2 (.cells #[n_,n_,n_,Xu 0] 215);generalize w2.alloc (.cells #[n_,n_,n_,Xu 0] 215)=w3 at*;have e4:=c_ w3 (.cells #[Xi 0] 27);generalize w3.alloc (.cells #[Xi 0] 27)=w4 at*;have up:∀{a b:World} {k:Nat} {o:Obj},D_ a b->a.1[k]?=some o->b.1[k]?=some o:=fun h e=>(h.block _ (gl e)).T e;refine⟨up e4 (up e3 (up e2 q1)),up e4 (up e3 q2),up e4 q3,q4,?_,z4⟩;exact B1.T ((e2.T ((e3.T (e4.M o_)).M o_)).M o_)
theorem pr.six{w W:World}{ps hh:Nat}(h:pr w W ps hh)(sz:Nat):eX w ((W.alloc (.cells #[.func (.func 198) #[] #[PV w.1.size,PV (w.1.size+1)]] 219)).alloc (Xl sz)) ps hh W.1.size n_ n_ n_ sz:=by
 have q5:=heap_alloc_new W (.cells #[.func (.func 198) #[] #[PV w.1.size,PV (w.1.size+1)]] 219);have q6:=heap_alloc_new (W.alloc (.cells #[.func (.func 198) #[] #[PV w.1.size,PV (w.1.size+1)]] 219)) (Xl sz);have z5:(W.alloc (.cells #[.func (.func 198) #[] #[PV w.1.size,PV (w.1.size+1)]] 219)).1.size=W.1.size+1:=s_
 have z6:((W.alloc (.cells #[.func (.func 198) #[] #[PV w.1.size,PV (w.1.size+1)]] 219)).alloc (Xl sz)).1.size=W.1.size+2:=s_
 rw[z5] at q6;have e5:=c_ W (.cells #[.func (.func 198) #[] #[PV w.1.size,PV (w.1.size+1)]] 219);generalize W.alloc (.cells #[.func (.func 198) #[] #[PV w.1.size,PV (w.1.size+1)]] 219)=w5 at*;have e6:=c_ w5 (Xl sz);generalize w5.alloc (Xl sz)=w6 at*;have hz:=h.size;have up:∀{a b:World} {k:Nat} {o:Obj},D_ a b->a.1[k]?=some o->b.1[k]?=some o:=fun h e=>(h.block _ (gl e)).T e;exact⟨up e6 (up e5 h.b3),up e6 (up e5 h.b5),up e6 (up e5 h.b6),up e6 (up e5 h.b7),up e6 q5,q6,h.a_.T ((e5.T (e6.M o_)).M o_),o_,hz⟩
attribute [local go_sem] Oper.semAt_some
theorem zE(h:Ig w ps S Y)(hi:Fv S){t:Nat}(hn:iU t n)(hh:Nat)(hl:hh<2^64)(hlen:S.len hh=(6*t,0))(hg:∀k,k<6*t->S.get hh k=(wAt t n n.j_.length n.A6.length k,0))(hlt:∀x∈v8 t n,x<2^64):
 Ct 166 #[PV ps,Xi t,Xu hh] w fun e w'=>∃vk vv vc,e=.returned (.tuple #[eC vk vv vc n.size,Xi 0])/\fN w' w.1.size vk vv vc n.j_ n.C9 n.A6/\D_ w w':=by
 refine(callsIn_wide (n:=7)).1 ?_;have h1:1<=7:=o_
 have d9:Fence.wide.fn 42:=trivial;have d8:Fence.wide.fn 165:=trivial;have d6:Fence.wide.fn 199:=trivial;have d':Fence.wide.fn 200:=trivial;have d7:Fence.wide.fn 198:=trivial;have d5:∀(args:Array Value) (w:World),(callFunc 198 args).run prog w=.ok (.enter 198 args) w:=fun args w=>by go_simp
 have bk:∀W,D_ w W->CallsIn Fence.wide 6 prog 42 #[PV ps,Xu 0] W _:=fun W hW=>callsIn_wide.2 (fB (h.a_ hW) hi 0 o_);have a3:∀W,D_ w W->CallsIn Fence.wide 6 prog 42 #[PV ps,Xu hh] W _:=fun W hW=>callsIn_wide.2 (fB (h.a_ hW) hi hh hl);rw[fU] at bk;rw[hlen] at a3;have b9:∀W,CallsIn Fence.wide 6 prog 165 #[Xi t] W _:=fun W=>callsIn_wide.2 (om hn.lo hn.hi▸nP (t:Int) W);have a2:∀W,D_ w W->W.1[w.1.size]?=some (.cells #[PV ps] 26 (0,0))->W.1[w.1.size+1]?=some (.cells #[Xu hh] 61 (0,0))->∀(k:Nat) (_:k<=1000),Ct 198 #[Xi k,PV w.1.size,PV (w.1.size+1)] W fun e w'=>e=.returned (Xu (wAt t n n.j_.length n.A6.length k:Nat))/\W=w':=fun W hW e3 e5 k hk=>
  zD (h.a_ hW) hi hh hl (e_ e3) (e_ e5) k o_ (Be hn hlen hg k)
 have ht:=And.intro hn.lo hn.hi;have ek:IntKind.i64.wrap (6*(t:Int))=6*(t:Int):=ax _ o_;have cw:((6*t:Nat):Int)=6*(t:Int):=o_
 simp only at bk a3;rw[cw] at a3;obtain⟨kn,a1⟩:=Ii n.j_.length;obtain⟨cn,ba⟩:=Ii n.A6.length;obtain⟨sz,au⟩:=Ii n.size;have b':kn<=2*t-1:=by rw[<-a1];exact hn.many
 have d3:cn=0\/cn=kn+1:=by rw[<-a1,<-ba];exact hn.A6.imp id And.left
 have ec:kn<2^64:=o_
 rw[a1,ba] at a2;have g0:wAt t n kn cn 0=kn:=by unfold wAt;rw[if_pos rfl,a1]
 have g1:wAt t n kn cn 1=sz:=by unfold wAt;rw[if_neg o_,if_pos rfl,au]
 have six:=uz w ps hh;have bu:=fun W (hW:D_ w W) e3 e5=>callsIn_wide (n:=6) |>.2 (a2 W hW e3 e5 0 o_)
 have bv:=fun W (hW:D_ w W) e3 e5=>callsIn_wide (n:=6) |>.2 (a2 W hW e3 e5 1 o_)
 rw[g0] at bu;rw[g1] at bv;have HG:=kq13 bk a3 b9 bu bv a2 h hi hn a1 ba au hlt;clear bk a3 b9 bu bv a2 h hi hn a1 ba au hlt hg hlen g0 g1;refine callsIn_of_wp_marks func166 rfl trivial ?_ rfl;simp only[ntmps166,aS,aj,aL,Nat.reduceAdd,Nat.reduceSub,aO,aP,aT,aR,aX,aJ];gi_wp2_with fail;generalize ((((w.alloc (Xg ps)).alloc (Xf hh)).alloc (.cells #[n_,n_,n_,Xu 0] 215)).alloc (.cells #[Xi 0] 27))=w4 at*;have e3:=six.b3;have e5:=six.b5;have x0:(w4).cell? (y_ w.1.size)=some (PV ps):=e_ e3
 have y0:(w4).cell? (y_ (w.1.size+1))=some (Xu hh):=e_ e5
 have S4:=If six;clear e3 e5 six;refine(HG.a _ S4.O.a_).M ?_;rintro e w5 ⟨rfl,rfl⟩;gi_wp2_with fail;refine(HG.c _).M ?_;rintro e w5 ⟨rfl,rfl⟩;gi_wp2_with fail;refine(HG.b _ S4.O.a_).M ?_;rintro e w5 ⟨rfl,rfl⟩;gi_wp2_with fail;have a5:=c_ w4 (.cells #[.func (.func 198) #[] #[PV w.1.size,PV (w.1.size+1)]] 219);have z4:=S4.O.size;have f3:=(a5.block w.1.size o_).T S4.O.b3;have f5:=(a5.block (w.1.size+1) o_).T S4.O.b5;have S5:=kq3 (S4.O.a_.T (a5.M o_)) f3 f5;have b0:=heap_alloc_new w4 (.cells #[.func (.func 198) #[] #[PV w.1.size,PV (w.1.size+1)]] 219);have k12:(w4.alloc (.cells #[.func (.func 198) #[] #[PV w.1.size,PV (w.1.size+1)]] 219)).cell? (y_ w4.1.size)=some (.func (.func 198) #[] #[PV w.1.size,PV (w.1.size+1)]):=e_ b0
 clear a5 f3 f5 b0 x0 y0 z4;refine(HG.d _ S5.a S5.b S5.c).M ?_;rintro e w5 ⟨rfl,rfl⟩;have q1:((2*(t:Int)-1)<(kn:Int))=False:=eq_false o_;have q2:IntKind.u64.wrap (2*(t:Int)-1)=2*(t:Int)-1:=by show (2*(t:Int)-1) % 18446744073709551616=_;omega
 gi_wp2_with fail;refine(HG.e _ S5.a S5.b S5.c).M ?_;rintro e w5 ⟨rfl,rfl⟩;gi_wp2_with fail;clear k12 q1 q2;have six:=S4.O.six sz;generalize (w4.alloc (.cells #[.func (.func 198) #[] #[PV w.1.size,PV (w.1.size+1)]] 219)).alloc (Xl sz)=w6 at*;generalize w4.1.size=b12 at*;have S6:=If six;have k12:=q_ (o:=0) six.k12;have k12:w6.cell? (y_ b12)=some (.func (.func 198) #[] #[PV w.1.size,PV (w.1.size+1)]):=k12;clear six;refine(HG.d _ S6.O.a_ S6.O.b3 S6.O.b5).M ?_;rintro e w5 ⟨rfl,rfl⟩;have q3:IntKind.i64.wrap (kn:Int)=(kn:Int):=ax _ o_;gi_wp2_with fail;clear k12 q3
 gi_loopw [14,63] (fun _ i wr=>∃j:Nat,j<=kn/\i=Xi j/\∃vk vv,eX w wr ps hh b12 vk vv n_ sz/\fN wr (b12+2) vk vv n_ (n.j_.take j) (n.C9.take j) []) (fun _ i _=>kn-(intOf i).toNat)
 case atStart=>
  refine⟨0,o_,rfl,n_,n_,S6.O,?_⟩;exact { k:=World.ownsRow_nil _ _ _ _,v:=World.ownsRow_nil _ _ _ _,c:=World.ownsRow_nil _ _ _ _,kv:=fun g e=>(nomatch e),kc:=fun g e=>(nomatch e),vc:=fun g e=>(nomatch e) }
 case round=>
  obtain⟨j,hj,rfl,vk,vv,gb,rows⟩:=hrel
  by_cases hlt:j<kn
  ·have eg:(j:Int)<kn:=o_
   have jk:j<n.j_.length:=by rw[HG.j];exact hlt
   have jv:j<n.C9.length:=by rw[HG.i.C9];exact jk
   have gk:wAt t n kn cn (2+2*j)=n.j_[j]:=by
    unfold wAt;rw[if_neg o_,if_neg o_,if_pos o_,if_pos o_,show (2+2*j-2) / 2=j by omega,ay,af jk]
    rfl
   have gv:wAt t n kn cn (2+2*j+1)=n.C9[j]:=by
    unfold wAt;rw[if_neg o_,if_neg o_,if_pos o_,if_neg o_,show (2+2*j+1-2) / 2=j by omega,ay,af jv]
    rfl
   have tk:n.j_.take (j+1)=n.j_.take j++[n.j_[j]]:=by rw[aw jk]
   have tv:n.C9.take (j+1)=n.C9.take j++[n.C9[j]]:=by rw[aw jv]
   have cp:(n.j_.take j).length=j:=by rw[aK];omega
   have cq:(n.C9.take j).length=j:=by rw[aK];omega
   have bd:=fun W (hW:D_ w W) e3 e5=>HG.f W hW e3 e5 (2+2*j) o_;have bf:=fun W (hW:D_ w W) e3 e5=>HG.f W hW e3 e5 (2+2*j+1) o_;rw[gk] at bd;rw[gv] at bf;have b1:((2+2*j:Nat):Int)=2+2*(j:Int):=o_
   have b2:((2+2*j+1:Nat):Int)=2+2*(j:Int)+1:=o_
   rw[b1] at bd;rw[b2] at bf;generalize n.j_[j]=xk at*;generalize n.C9[j]=xv at*;have HC:=kq9 bd bf tk tv cp cq gb rows hlt;clear bd bf tk tv cp cq gk gv gb rows jk jv b1 b2 hlt;have m1:IntKind.i64.wrap (2*(j:Int))=2*(j:Int):=ax _ o_;have m2:IntKind.i64.wrap (2+2*(j:Int))=2+2*(j:Int):=ax _ o_;have m3:IntKind.i64.wrap (2+2*(j:Int)+1)=2+2*(j:Int)+1:=ax _ o_;gi_wp2_with fail;have HD:=kq2 (HC.g).drew (HC.h).drew;obtain⟨I,ad,ai⟩:=KA (fun w'=>w'.1[b12]?=some (.cells #[.func (.func 198) #[] #[PV w.1.size,PV (w.1.size+1)]] 219 (0,0))) (fun w'=>w'.1[b12+1]?=some (.cells #[vk,vv,n_,Xu sz] 215 (0,0)));have ap:=fun x:Fq I=>(ad _ x.ok).1;have ar:=fun x:Fq I=>(ad _ x.ok).2;have o0:∀x:Fq I,x.to.cell? (y_ b12)=some (.func (.func 198) #[] #[PV w.1.size,PV (w.1.size+1)]):=fun x=>by rw[q_ (ap x)];rfl
   obtain⟨y0,y1,y2,y3⟩:=iB ar;have an:I wr.drew:=ai _ HD.a.k12 HD.a.k13;have HI:=If ai;clear ad ai ap ar;refine Jb I (fun i=>[10].contains i) (.take 0 (.take 1 (.take 2 (.take 3 (.take 4 (.take 5 (.go 6 (.go 7 (.go 8 (.take 9 (.go 10 .nil))))))))))) k_ k_ k_ an ?_;clear an;generalize wr.drew=W at*
   iterate 6
    refine qT_ ?_
    try simp only[pu]
   refine qD fun K hK=>?_;go_simp;refine(HC.a _ HD.a.a_ HD.a.b3 HD.a.b5).M ?_;rintro e w3 ⟨rfl,rfl⟩
   try go_simp
   refine hK.O _ _ (HI.O _ HD.a.k12 HD.a.k13) ?_;clear hK K
   try simp only[pu]
   refine qD fun K hK=>?_;go_simp;have g2:eX w (W.alloc (Xf xk)) ps hh b12 (vk) (vv) n_ sz:=HD.a.grown (row:=none) (World.grownBy_alloc _ _ _) (fun g e=>nomatch e)
   try go_simp
   refine hK.O _ _ (HI.O _ g2.k12 g2.k13) ?_;clear hK K
   try simp only[pu]
   obtain⟨v',W2,hr,ho,hg,hv⟩:=jF HD.b.k (by rw[HC.e];omega) xk HD.a.size 59;have g3:=HD.a.grown hg fun g e=>(HD.b.k.ge g e).1;have gs:=sK HD.a HD.b ho hg hv;obtain⟨sA,sM,sC,rfl⟩:=ho.slice;clear ho hg hv;have HS:=If gs;clear gs;refine qD (fun K hK=>kE _ _ _ rfl rfl rfl hr ?_);clear hr
   try go_simp
   refine hK.O _ _ (HI.O _ g3.k12 g3.k13) ?_;clear hK K
   try simp only[pu]
   refine qT_ ?_
   try simp only[pu]
   clear y0 y1 y2 y3;have k13:=g3.k13;obtain⟨y0,y1,y2,y3⟩:=Fy k13;obtain⟨f0,f1,f2,f3⟩:=fO k13;clear k13 g3;refine qL fun K hK=>?_;go_simp;clear y0 f0 y1 f1 y2 f2 y3 f3;generalize hW:W2.setCell (y_ (b12+1)) (.slice sA sM sC)=wr2 at*
   try go_simp
   refine hK.O _ _ trivial ?_;clear hK K
   try simp only[pu]
   refine Ja ?_;have HJ:=HS;generalize Value.slice sA sM sC=vk2 at*;clear hW HS g2 HD HI o0 I W2;generalize W.1.size=wr2q;clear W;gi_wp2_with fail;have HD:=kq2 (HJ.O.1).drew (HJ.O.2).drew;obtain⟨I,ad,ai⟩:=KA (fun w'=>w'.1[b12]?=some (.cells #[.func (.func 198) #[] #[PV w.1.size,PV (w.1.size+1)]] 219 (0,0))) (fun w'=>w'.1[b12+1]?=some (.cells #[vk2,vv,n_,Xu sz] 215 (0,0)));have ap:=fun x:Fq I=>(ad _ x.ok).1;have ar:=fun x:Fq I=>(ad _ x.ok).2;have o0:∀x:Fq I,x.to.cell? (y_ b12)=some (.func (.func 198) #[] #[PV w.1.size,PV (w.1.size+1)]):=fun x=>by rw[q_ (ap x)];rfl
   obtain⟨y0,y1,y2,y3⟩:=iB ar;have an:I wr2.drew:=ai _ HD.a.k12 HD.a.k13;have HI:=If ai;clear ad ai ap ar;refine Jb I (fun i=>[11].contains i) (.take 0 (.take 1 (.take 2 (.take 3 (.take 4 (.take 5 (.take 6 (.go 7 (.go 8 (.go 9 (.take 10 (.go 11 .nil)))))))))))) k_ k_ k_ an ?_;clear an;generalize wr2.drew=W at*
   iterate 7
    refine qT_ ?_
    try simp only[pu]
   refine qD fun K hK=>?_;go_simp;refine(HC.b _ HD.a.a_ HD.a.b3 HD.a.b5).M ?_;rintro e w3 ⟨rfl,rfl⟩
   try go_simp
   refine hK.O _ _ (HI.O _ HD.a.k12 HD.a.k13) ?_;clear hK K
   try simp only[pu]
   refine qD fun K hK=>?_;go_simp;have g2:eX w (W.alloc (Xf xv)) ps hh b12 (vk2) (vv) n_ sz:=HD.a.grown (row:=none) (World.grownBy_alloc _ _ _) (fun g e=>nomatch e)
   try go_simp
   refine hK.O _ _ (HI.O _ g2.k12 g2.k13) ?_;clear hK K
   try simp only[pu]
   obtain⟨v',W2,hr,ho,hg,hv⟩:=jF HD.b.v (by rw[HC.f];omega) xv HD.a.size 59;have g3:=HD.a.grown hg fun g e=>(HD.b.v.ge g e).1;have gs:=sL HD.a HD.b ho hg hv;obtain⟨sA,sM,sC,rfl⟩:=ho.slice;clear ho hg hv;have HS:=If gs;clear gs;refine qD (fun K hK=>kE _ _ _ rfl rfl rfl hr ?_);clear hr
   try go_simp
   refine hK.O _ _ (HI.O _ g3.k12 g3.k13) ?_;clear hK K
   try simp only[pu]
   refine qT_ ?_
   try simp only[pu]
   clear y0 y1 y2 y3;have k13:=g3.k13;obtain⟨y0,y1,y2,y3⟩:=Fy k13;obtain⟨f0,f1,f2,f3⟩:=fO k13;clear k13 g3;refine qL fun K hK=>?_;go_simp;clear y0 f0 y1 f1 y2 f2 y3 f3;generalize hW:W2.setCell (x_ (b12+1) 1) (.slice sA sM sC)=wr3 at*
   try go_simp
   refine hK.O _ _ trivial ?_;clear hK K
   try simp only[pu]
   refine Ja ?_;have HJ:=HS;generalize Value.slice sA sM sC=vv2 at*;clear hW HS g2 HD HI o0 I W2;generalize W.1.size=wr3q;clear W;gi_wp2_with fail;refine⟨⟨j+1,o_,s_,vk2,vv2,HJ.O.1,by rw[HC.c,HC.d];exact HJ.O.2⟩,?_⟩
   show kn-((j:Int)+1).toNat<kn-(j:Int).toNat
   omega
  ·have c6:kn=j:=o_
   subst c6;have c7:¬((kn:Int)<kn):=o_
   have tk:n.j_.take kn=n.j_:=aQ (by rw[HG.j];exact Nat.le_refl _);have tv:n.C9.take kn=n.C9:=aQ (by rw[HG.i.C9,HG.j];exact Nat.le_refl _);rw[tk,tv] at rows;obtain⟨Ak,ck,dc⟩:∃A c,vk=.slice A kn c:=by have:=rows.k.E_;rw[HG.j] at this;exact this
   subst dc;have R1:=kq2 gb rows;clear gb rows tk tv
   gi_upto_region 21 with fail
   clear c7;have m4:IntKind.i64.wrap (4*(t:Int))=4*(t:Int):=ax _ o_
   iterate 6 gi_step
   rename_i hKs;refine hKs _ _ ?_;clear hKs
   gi_cut [15] from 88 (fun _ wc=>∃vc,eX w wc ps hh b12 (.slice Ak kn ck) vv vc sz/\fN wc (b12+2) (.slice Ak kn ck) vv vc n.j_ n.C9 n.A6)
   case first=>
    gi_wp2_with fail
    gi_loopw [15] (fun i wr=>∃j:Nat,j<=cn/\i=Xi j/\∃vc,eX w wr ps hh b12 (.slice Ak kn ck) vv vc sz/\fN wr (b12+2) (.slice Ak kn ck) vv vc n.j_ n.C9 (n.A6.take j)) (fun i _=>kn+1-(intOf i).toNat)
    case atStart=>exact⟨0,o_,rfl,n_,R1.a,by simpa using R1.b⟩
    case round=>
     clear R1;obtain⟨j,hj,rfl,vc,gb,rows⟩:=hrel;have a0:=callsIn_wide (n:=6) |>.2 (HG.f _ gb.a_ gb.b3 gb.b5 (4*t) o_)
     have a9:((4*t:Nat):Int)=4*(t:Int):=o_
     rw[a9] at a0;have k13:=gb.k13;obtain⟨y0,y1,y2,y3⟩:=Fy k13;have k12:=q_ (o:=0) gb.k12;have k12:wr.cell? (y_ b12)=some (.func (.func 198) #[] #[PV w.1.size,PV (w.1.size+1)]):=k12;have bj:=HG.k;have q4:wAt t n kn cn (4*t)=n.A6.getD 0 0:=by
      unfold wAt;rw[if_neg o_,if_neg o_,if_neg o_]
      by_cases h0:0<cn
      ·rw[if_pos o_,Nat.sub_self]
      ·rw[if_neg o_,ay,aY o_]
       rfl
     rw[q4] at a0
     by_cases hlt2:j<cn
     ·have d4:cn=kn+1:=o_
      have jc:j<n.A6.length:=by rw[bj];exact hlt2
      have ca:((j:Int)<=kn):=o_
      have h0:n.A6.getD 0 0≠0:=fun e=>by
       rcases HG.i.A6 with h | ⟨-,h⟩
       ·omega
       ·rw[ay,af o_] at e;have:n.A6.contains 0=true:=db.2 (e▸ao _);rw[h] at this
        cases this
      generalize n.A6.getD 0 0=g0 at*;have c':(((g0:Nat):Int) !=0)=true:=m_
      have gc:wAt t n kn cn (4*t+j)=n.A6[j]:=by
       unfold wAt;rw[if_neg o_,if_neg o_,if_neg o_,if_pos o_,Nat.add_sub_cancel_left,ay,af jc]
       rfl
      have tc:n.A6.take (j+1)=n.A6.take j++[n.A6[j]]:=by rw[aw jc]
      have cj:(n.A6.take j).length=j:=by rw[aK];omega
      have bc:=fun W (hW:D_ w W) e3 e5=>HG.f W hW e3 e5 (4*t+j) o_;rw[gc] at bc;have b4:((4*t+j:Nat):Int)=4*(t:Int)+(j:Int):=o_
      rw[b4] at bc;generalize n.A6[j]=xc at*;have HC:=kq6 bc tc cj gb rows a0;have m5:IntKind.i64.wrap (4*(t:Int)+(j:Int))=4*(t:Int)+(j:Int):=ax _ o_;clear bc tc cj gc gb rows jc b4 a0 q4 k13 a9 bj h0 hlt2;gi_wp2_with fail;refine HC.f.M ?_;rintro e w8 ⟨rfl,rfl⟩;gi_wp2_with fail;clear y0 y1 y2 y3 k12 c';have HD:=kq2 (HC.d).drew (HC.e).drew;obtain⟨I,ad,ai⟩:=KA (fun w'=>w'.1[b12]?=some (.cells #[.func (.func 198) #[] #[PV w.1.size,PV (w.1.size+1)]] 219 (0,0))) (fun w'=>w'.1[b12+1]?=some (.cells #[.slice Ak kn ck,vv,vc,Xu sz] 215 (0,0)));have ap:=fun x:Fq I=>(ad _ x.ok).1;have ar:=fun x:Fq I=>(ad _ x.ok).2;have o0:∀x:Fq I,x.to.cell? (y_ b12)=some (.func (.func 198) #[] #[PV w.1.size,PV (w.1.size+1)]):=fun x=>by rw[q_ (ap x)];rfl
      obtain⟨y0,y1,y2,y3⟩:=iB ar;have an:I wr.drew:=ai _ HD.a.k12 HD.a.k13;have HI:=If ai;clear ad ai ap ar;refine Jb I (fun i=>[11].contains i) (.take 0 (.take 1 (.take 2 (.take 3 (.take 4 (.take 5 (.take 6 (.go 7 (.go 8 (.go 9 (.take 10 (.go 11 .nil)))))))))))) k_ k_ k_ an ?_;clear an;generalize wr.drew=W at*
      iterate 7
       refine qT_ ?_
       try simp only[pu]
      refine qD fun K hK=>?_;go_simp;refine(HC.a _ HD.a.a_ HD.a.b3 HD.a.b5).M ?_;rintro e w3 ⟨rfl,rfl⟩
      try go_simp
      refine hK.O _ _ (HI.O _ HD.a.k12 HD.a.k13) ?_;clear hK K
      try simp only[pu]
      refine qD fun K hK=>?_;go_simp;have g2:eX w (W.alloc (Xf xc)) ps hh b12 (.slice Ak kn ck) (vv) (vc) sz:=HD.a.grown (row:=none) (World.grownBy_alloc _ _ _) (fun g e=>nomatch e)
      try go_simp
      refine hK.O _ _ (HI.O _ g2.k12 g2.k13) ?_;clear hK K
      try simp only[pu]
      obtain⟨v',W2,hr,ho,hg,hv⟩:=jF HD.b.c (by rw[HC.c];omega) xc HD.a.size 59;have g3:=HD.a.grown hg fun g e=>(HD.b.c.ge g e).1;have gs:=sN HD.a HD.b ho hg hv;obtain⟨sA,sM,sC,rfl⟩:=ho.slice;clear ho hg hv;have HS:=If gs;clear gs;refine qD (fun K hK=>kE _ _ _ rfl rfl rfl hr ?_);clear hr
      try go_simp
      refine hK.O _ _ (HI.O _ g3.k12 g3.k13) ?_;clear hK K
      try simp only[pu]
      refine qT_ ?_
      try simp only[pu]
      clear y0 y1 y2 y3;have k13:=g3.k13;obtain⟨y0,y1,y2,y3⟩:=Fy k13;obtain⟨f0,f1,f2,f3⟩:=fO k13;clear k13 g3;refine qL fun K hK=>?_;go_simp;clear y0 f0 y1 f1 y2 f2 y3 f3;generalize hW:W2.setCell (x_ (b12+1) 2) (.slice sA sM sC)=wr2 at*
      try go_simp
      refine hK.O _ _ trivial ?_;clear hK K
      try simp only[pu]
      refine Ja ?_;have HJ:=HS;generalize Value.slice sA sM sC=vc2 at*;clear hW HS g2 HD HI o0 I W2;generalize W.1.size=wr2q;clear W;gi_wp2_with fail;refine⟨⟨j+1,o_,s_,vc2,HJ.O.1,by rw[HC.b];exact HJ.O.2⟩,?_⟩
      show kn+1-((j:Int)+1).toNat<kn+1-(j:Int).toNat
      omega
     ·have tc:n.A6.take j=n.A6:=aQ o_;rw[tc] at rows;have HC:=kq3 gb rows a0;clear gb rows a0 k13 tc
      by_cases hc0:cn=0
      ·have c4:j=0:=o_
       subst c4;have q0:n.A6.getD 0 0=0:=by rw[ay,aY o_];rfl
       rw[q0] at HC;have ca:((0:Nat):Int)<=kn:=o_
       clear q0 q4 a9 bj hlt2;gi_wp2_with fail;refine HC.c.M ?_;rintro e w8 ⟨rfl,rfl⟩;gi_wp2_with fail
       gi_meet
       case rel=>exact⟨vc,HC.a,HC.b⟩
      ·have c5:j=kn+1:=o_
       subst c5;have ca:¬(((kn+1:Nat):Int)<=kn):=o_
       have ea:¬((kn:Int)+1<=kn):=o_
       have eb:¬(kn+1<=kn):=o_
       clear q4 a9 bj hlt2;gi_wp2_with fail;refine⟨fun _ _=>trivial,?_⟩;gi_wp2_with fail
       gi_meet
       case rel=>exact⟨vc,HC.a,HC.b⟩
   case rest=>
    clear R1;obtain⟨vc,gb,rows⟩:=hcut;have au:=HG.l;have bm:=HG.i;obtain⟨Av,cv,rfl⟩:∃A c,vv=.slice A kn c:=by have:=rows.v.E_;rw[bm.C9,HG.j] at this;exact this
    obtain⟨Ac,cc,rfl⟩:∃A c,vc=.slice A cn c:=by have:=rows.c.E_;rw[HG.k] at this;exact this
    have bb:CallsIn Fence.wide 6 prog 199 #[Xi t,eC (.slice Ak kn ck) (.slice Av kn cv) (.slice Ac cn cc) n.size] wc _:=callsIn_wide.2 (N3 bm rows.k.C_ rows.v.C_ rows.c.C_);have bo:=fun W (hW:D_ wc W)=>(callsIn_wide (n:=6)).2 (tS (w:=W) bm (rows.k.C_.a_ hW) (rows.v.C_.a_ hW) (rows.c.C_.a_ hW));unfold eC at bb bo;rw[au] at bb;simp only[au,HG.j,HG.k] at bo;have k13:=gb.k13;obtain⟨y0,y1,y2,y3⟩:=Fy k13;have HC:=kq3 bo gb rows;have HF:=If bb;clear bo gb rows k13 bb bm au;gi_wp2_with fail;refine HF.O.M ?_;rintro e w8 ⟨rfl,a8⟩;clear y0 y1 y2 y3 HF;have g8:=HC.b.up a8;have k13:=g8.k13;obtain⟨y0,y1,y2,y3⟩:=Fy k13;have H8:=kq3 a8 g8 (HC.c.a_ a8);clear a8 g8 k13;gi_wp2_with fail;refine(HC.a _ H8.a).M ?_;rintro e w9 ⟨Bx,rfl,dn,rB,rG,bs⟩;have g9:=H8.b.up bs;have r9:=H8.c.a_ bs;obtain⟨f,hf⟩:=Ii (wAt t n kn cn);rw[hf] at rG;have cx:∀j,j<6*t->f j<2^64:=fun j hj=>HG.m _ (by
     unfold v8;rw[HG.j,HG.k,hf];exact az.2 ⟨j,bw.2 hj,rfl⟩)
    have ds:=(gl rG);have bq:=tC o_ cx rB rG (fun k=>k=w8.1.size+1) rfl;have k13:=g9.k13;have H9:=kq3 g9 r9 hf;clear g9 r9 hf y0 y1 y2 y3 bs rB rG;gi_wp2_with fail;refine wpIn_rangeFunc_ownH rfl h1 (gf:=244) (lb:=#[PV Bx]) rfl trivial (enters_of func244 k_ rfl)
     bq ir.T (fun W l o o' q1 q2 q3 q4=>⟨s_,fun k hk=>World.putObj_heap_other o_⟩) (aa _ _) (fun _=>rfl)
     (fun _ W=>D_ w9 W)
     (fun cd a4 _=>cd=.ret/\∃x∈a4,x.1.2≠f x.1.1)
     (fun a4 W W' row hs hg hr=>⟨hg.os.T hs.os,hg.tape.T hs.tape,hg.output.T hs.output,aH hs.size hg.size,fun k hk=>(hg.block k (aB hk hs.size) (fun e=>by have:=(hr k e.S).1;omega)).T (hs.block k hk)⟩)
     (fun _ _ _ _ _ hs _ _=>hs)
     (aa _ _)
     (fun x a' _=>a'= { tmps:=#[PV ps,Xi t,Xu hh,PV w.1.size,undef,PV (w.1.size+1),PV (w.1.size+1+1),PV (w.1.size+1+1+1),Xi 0,Xi 7,Xi (6*(t:Int)),Xi 0,PV b12,PV (b12+1),u14,u15,Xi x.1.1,Xu x.1.2,.tuple #[Xi 0,Xi 7],PV ps,.tuple #[Xi 0,Xi 7],Xi 0,Xi 7,Xi 7,.bool false,undef,undef,Xi t,.bool true,.bool false,undef,.tuple #[Xi (6*(t:Int)),Xi 0],PV ps,Xu hh,.tuple #[Xi (6*(t:Int)),Xi 0],Xi (6*(t:Int)),Xi 0,.bool false,Xi 0,.bool false,undef,undef,.bool false,Xi (6*(t:Int)),Xi t,Xi (6*(t:Int)),.bool false,undef,.func (.func 198) #[] #[PV w.1.size,PV (w.1.size+1)],.func (.func 198) #[] #[PV w.1.size,PV (w.1.size+1)],Xu kn,Xi t,Xi (2*(t:Int)),Xi (2*(t:Int)-1),Xu (2*(t:Int)-1),.bool false,undef,.func (.func 198) #[] #[PV w.1.size,PV (w.1.size+1)],Xu sz,.agg #[n_,n_,n_,Xu sz],.func (.func 198) #[] #[PV w.1.size,PV (w.1.size+1)],Xu kn,Xi kn,Xi kn,.bool false,u65,u66,u67,u68,u69,u70,u71,u72,u73,u74,u75,u76,u77,u78,u79,u80,u81,u82,u83,u84,u85,u86,u87,u88,u89,u90,u91,u92,u93,u94,u95,u96,u97,u98,u99,u100,u101,u102,u103,u104,u105,u106,u107,u108,u109,u110,u111,u112,Xi t,.agg #[.slice Ak kn ck,(.slice Av kn cv),(.slice Ac cn cc),Xu sz],.bool true,.bool false,u117,Xi t,.agg #[.slice Ak kn ck,(.slice Av kn cv),(.slice Ac cn cc),Xu sz],.func (.func 244) #[] #[PV Bx],Xi x.1.1,Xu x.1.2,u123,u124,u125,u126,u127,u128,u129],defers:=[] })
     (fun x a' _ X W' row hs hg hr=>hs)
     ?assign ?body ?done ?stop
    case assign=>
     rintro l a4 ⟨⟨i,x⟩,hx⟩ W K hI hK;have HK:=If hK;clear hK;exact qUvaa
    case body=>
     rintro l a4 ⟨⟨i,x⟩,hx⟩ a' W ed _ hI rfl hlt;simp only at hx⊢;have g:=H9.a.up hI;have k12:W.cell? (y_ b12)=some (.func (.func 198) #[] #[PV w.1.size,PV (w.1.size+1)]):=e_ g.k12
     have bt:CallsIn Fence.wide 4 prog 198 #[Xi i,PV w.1.size,PV (w.1.size+1)] W _:=callsIn_wide.2 (HG.f W g.a_ g.b3 g.b5 i hx.1);rw[H9.c] at bt;have e6:=g.b6;have e7:=g.b7;obtain⟨c0,c1,c2,c3⟩:=Fy e6;obtain⟨p0,p1,p2,p3⟩:=fO e6;have d0:(W).cell? (y_ (w.1.size+1+1+1))=some (Xi 0):=e_ e7
     have q0:(W).frozen? (y_ (w.1.size+1+1+1))=false:=AT e7;have HH:=kq2 hI bt;have HX:=If hx;clear hI bt bq g e6 e7
     by_cases hfx:x=f i
     ·have hq:(((f i:Nat):Int) !=x)=false:=m_
      gi_wp2_with fail;refine(CallsIn.inRound l HH.b).M ?_;rintro e dk ⟨rfl,rfl⟩;gi_wp2_with fail;exact⟨KeepsFrom.refl _ _,ir.refl _ _,HH.a⟩
     ·have hq:(((f i:Nat):Int) !=x)=true:=m_
      have el:¬((f i:Nat):Int)=x:=o_
      gi_wp2_with fail;refine(CallsIn.inRound l HH.b).M ?_;rintro e dk ⟨rfl,rfl⟩;gi_wp2_with fail;exact⟨((((((KeepsOthers.setCell _ _ _).T (KeepsOthers.setCell _ _ _)).T (KeepsOthers.setCell _ _ _)).T (KeepsOthers.setCell _ _ _)).T (KeepsOthers.setCell _ _ _)).from _),rfl,⟨⟨(i,x),HX.O⟩,s_,hfx⟩⟩
    case done=>
     rintro D ys W hD hS hI hK;have g:=H9.a.up hI;have e6:=g.b6;have e7:=g.b7;have k13:=g.k13;have em:=H9.a.size;have d2:w.1.size+4<=b12:=Nat.le_of_eq g.at12.S;have dp:b12+2<=D:=o_
     obtain⟨y0,y1,y2,y3⟩:=Fy k13;obtain⟨c0,c1,c2,c3⟩:=Fy e6;obtain⟨p0,p1,p2,p3⟩:=fO e6;have d0:(W).cell? (y_ (w.1.size+1+1+1))=some (Xi 0):=e_ e7
     have q0:(W).frozen? (y_ (w.1.size+1+1+1))=false:=AT e7;have a6:=oZ (u0:=.slice Ak kn ck) (u1:=(.slice Av kn cv)) (u2:=(.slice Ac cn cc)) (u3:=Xu sz) e6;have B6:=oY (u0:=.slice Ak kn ck) (u1:=(.slice Av kn cv)) (u2:=(.slice Ac cn cc)) (u3:=Xu sz) (b:=w.1.size+1+1) g.a_ o_;have o6:∀k,k≠w.1.size+1+1->_:=fun k hk=>sy (w:=W) (b:=w.1.size+1+1) (k:=k) (u0:=.slice Ak kn ck) (u1:=(.slice Av kn cv)) (u2:=(.slice Ac cn cc)) (u3:=Xu sz) hk;have a7:=heap_setCell (i:=0) (v:=Xi 0) ((o6 (w.1.size+1+1+1) o_).T e7);have HK:=kq6 hI hK a6 B6 o6 a7;clear hI hK hS bq g e6 e7 k13 a6 B6 o6 a7;gi_wp2_with fail;obtain⟨hI,hK,a6,B6,o6,a7⟩:=HK.O;clear HK;generalize dv:((((W.setCell (y_ (w.1.size+1+1)) (.slice Ak kn ck)).setCell (x_ (w.1.size+1+1) 1) ((.slice Av kn cv))).setCell (x_ (w.1.size+1+1) 2) ((.slice Ac cn cc))).setCell (x_ (w.1.size+1+1) 3) (Xu sz))=W5 at*;have dd:W5.1[D]?=some (.deferred (some [])):=(o6 D o_).T hK;have n7:∀k,k≠w.1.size+1+1+1->(W5.setCell (y_ (w.1.size+1+1+1)) (Xi 0)).1[k]?=W5.1[k]?:=fun k hk=>FB hk;have ch:=(n7 D o_).T dd;have b6:=(n7 (w.1.size+1+1) o_).T a6;have B7:=B6.setCell (p:=y_ (w.1.size+1+1+1)) (by show w.1.size<=w.1.size+1+1+1;omega) (Xi 0);generalize d1:W5.setCell (y_ (w.1.size+1+1+1)) (Xi 0)=W6 at*;refine⟨s_,.inl ⟨_,_,rfl,run_takeDeferred ch,?_⟩⟩;have bx:∀k,k≠D->(W6.putObj D (.deferred none)).1[k]?=W6.1[k]?:=fun k hk=>World.putObj_heap_other hk;have z6:=(bx (w.1.size+1+1) o_).T b6;have z7:=(bx (w.1.size+1+1+1) o_).T a7;have BF:D_ w (W6.putObj D (.deferred none)):=B7.T (belowK_b (w:=w) Ih W6 D _ _ o_ ch rfl rfl);have RF:=H9.b.lift (W':=W6.putObj D (.deferred none)) (D':=w.1.size) o_ fun k hk1 b'=>((bx k o_).T ((n7 k o_).T (o6 k o_))).T (hI.block k b');obtain⟨e0,e1,e2,e3⟩:=Fy z6;have d0:(W6.putObj D (.deferred none)).cell? (y_ (w.1.size+1+1+1))=some (Xi 0):=e_ z7
     refine⟨.tuple #[.agg #[.slice Ak kn ck,(.slice Av kn cv),(.slice Ac cn cc),Xu sz],Xi 0],?_,.slice Ak kn ck,(.slice Av kn cv),(.slice Ac cn cc),by rw[HG.l];rfl,RF,BF⟩
     simp[results,f166,go_sem,e0,e1,e2,e3,d0]
    case stop=>
     rintro D cd a4 W _ ⟨tl,c9⟩ ⟨rfl,x,hx,cb⟩
     exfalso
     have hm:x.1∈gN f (6*t):=by rw[<-c9];exact aD _ (az.2 ⟨x,hx,rfl⟩)
     obtain⟨j,_,e⟩:=az.1 hm;rw[<-e] at cb;exact cb rfl
end
section
open Go.RowKit Tryz Go.BigFrame Go.Maps Go.WideMaps Lf
open Go.Shelf Go.Lib
variable{cur:Array Value}{l:List Nat}{x:Value}
def setL:Array Value->Nat->List Value->Array Value
 | a,_,[]=>a
 | a,o,v::r=>setL (a.setIfInBounds o v) (o+1) r
theorem lw:∀(vs:List Value) (a:Array Value) (o:Nat),(setL a o vs).size=a.size
 | [],_,_=>rfl
 | v::r,a,o=>by rw[setL,lw r];simp
theorem F2:∀(vs:List Value) (a:Array Value) (o j:Nat),(setL a o vs)[j]?=if o<=j/\j<o+vs.length/\j<a.size then vs[j-o]? else a[j]?
 | [],a,o,j=>by rw[setL,if_neg m_]
 | v::r,a,o,j=>by
  rw[setL,F2 r,Array.size_setIfInBounds,Array.getElem?_setIfInBounds];simp only[aj];by_cases h1:o+1<=j/\j<o+1+r.length/\j<a.size
  ·rw[if_pos h1,if_pos o_,show j-o=(j-(o+1))+1 by omega,cz]
  ·rw[if_neg h1];by_cases h2:o=j
   ·subst h2;rw[if_pos rfl];by_cases h3:o<a.size
    ·rw[if_pos h3,if_pos o_,Nat.sub_self];rfl
    ·rw[if_neg h3,if_neg o_,cX o_]
   ·rw[if_neg h2,if_neg o_]
theorem mM {ty:TypeId}{fr:Nat×Nat}{b:Nat}:∀(vs:List Value) {w:World} {cur:Array Value} (o:Nat),w.1[b]?=some (.cells cur ty fr)->(w.setCells b o vs).1[b]?=some (.cells (setL cur o vs) ty fr)
 | [],_,_,_,h=>h
 | v::r,w,cur,o,h=>by
  rw[World.setCells,setL];exact mM r (o+1) (heap_setCell h)
theorem ol {b k:Nat}(hk:k≠b):∀(vs:List Value) (w:World) (o:Nat),(w.setCells b o vs).1[k]?=w.1[k]?
 | [],_,_=>rfl
 | v::r,w,o=>by rw[World.setCells,ol hk r,FB hk]
theorem mK {b:Nat}:∀(vs:List Value) (w:World) (o:Nat),w.grownBy (w.setCells b o vs) (some b)
 | [],w,_=>⟨rfl,rfl,rfl,Nat.le_refl _,fun _ _ _=>rfl⟩
 | v::r,w,o=>by
  have h:=mK (b:=b) r (w.setCell (x_ b o) v) (o+1);rw[World.setCells];refine⟨h.os,h.tape,h.output,by have:=h.size;simpa using this,fun k h1 h2=>?_⟩;rw[ol (fun e=>h2 (by rw[e])) r,FB (fun e=>h2 (by rw[e]))]
theorem Mv(w:World)(row:Option Nat):w.grownBy w.drew row:=⟨rfl,rfl,rfl,Nat.le_refl _,fun _ _ _=>rfl⟩
theorem Ed{cs:List Value}{n i:Nat}(h:cur.toList.take n=cs)(hn:cs.length=n)(hi:i<=n)(hc:n+1<=cur.size):(setL (setL cur (i+1) (cs.drop i)) i [x]).toList.take (n+1)=cs.take i++x::cs.drop i:=by
 have ad:∀j,j<n->cs[j]?=cur[j]?:=fun j hj=>by rw[<-h,da,if_pos hj,bM]
 refine dx fun j=>?_;rw[da,bM,F2,F2,lw,bT,hn]
 grind
theorem Ee{cs:List Value}{n i:Nat}(h:∀j,j<i->cur[j]?=cs[j]?)(hn:cs.length=n)(hi:i<=n)(hc:n+1<=cur.size):(setL (setL cur i [x]) (i+1) (cs.drop i)).toList.take (n+1)=cs.take i++x::cs.drop i:=by
 refine dx fun j=>?_;rw[da,bM,F2,F2,lw,bT,hn];grind
theorem uH(l:List Nat)(i x:Nat):hV (l.take i++x::l.drop i)=(hV l).take i++Xu x::(hV l).drop i:=by
 grind [hV,List.map_take,List.map_drop]
theorem uI:∀v∈hV l,v.oneCell'=true:=fun v hv=>by
 obtain⟨x,_,rfl⟩:=az.1 hv;rfl
theorem JZ{i x:Nat}(h:i<=l.length):(l.take i++x::l.drop i).length=l.length+1:=by
 grind
theorem Bj{w:World}{B:Nat}{v:Value}(h:FE w B v l)(hl:l.length<=1000){i:Nat}(hi:i<=l.length){x vb:Nat}(hx:w.1[vb]?=some (.cells #[Xu x] 61 (0,0)))(hne:v.ownBlock≠some vb)(hB:B<=w.1.size):
 Ct 215 #[v,Xi i,.slice (some (y_ vb)) 1 1] w fun e w'=>∃v',e=.returned v'/\FE w' B v' (l.take i++x::l.drop i)/\w.grownBy w' v.ownBlock/\(v'.ownBlock=v.ownBlock\/∃g,v'.ownBlock=some g/\w.1.size<=g):=by
 obtain⟨n,hn⟩:=Ii l.length;have ar:w.cell? (y_ vb)=some (Xu x):=e_ hx
 obtain⟨ti,a2,bc,a3,a4⟩:=info_parts uP
 by_cases b2:i=n
 ·subst b2;have hd:l.drop i=[]:=dm o_;have ht:l.take i=l:=aQ o_;have bo:∀ty,∃v' w',(Builtin.append_ #[59,59] ty #[v,.slice (some (y_ vb)) 1 1]).run prog w=.ok v' w'/\FE w' B v' (l++[x])/\w.grownBy w' v.ownBlock/\(v'.ownBlock=v.ownBlock\/∃g,v'.ownBlock=some g/\w.1.size<=g):=fun ty=>by
   obtain⟨v',w',h1,h2,h3,_,h4⟩:=run_append_own_at (P:=prog) (w:=w) B 59 ty 61 ti (Xu 0) 1 8 underlying59 a2 bc a3 a4 rfl d_ v l.length (hV l) h (y_ vb) 1 1 [Xu x] rfl (fun j u hj=>by
    cases j with
    | zero=>simp only[List.getElem?_cons_zero,Option.some.injEq] at hj;subst hj;rw[Addr.add_lit];exact ar
    | succ j=>simp at hj) (by simp[Value.oneCell']) (by unfold maxLen;omega) o_ hB
   refine⟨v',w',h1,?_,h3,?_⟩
   ·have e:hV (l++[x])=hV l++[Xu x]:=by simp[hV]
    unfold FE;rw[e,ag];exact h2
   ·rcases h4 with h4 | h4
    ·exact ab h4
    ·exact ae ⟨_,h4,Nat.le_refl _⟩
  obtain⟨v',w',hr,ho,hg,hv⟩:=bo 59;rw[hd,ht];generalize b9:v.ownBlock=ob at hg hv⊢;have HF:=kq3 ho hg hv
  rcases h.2 with⟨rfl,e0⟩ | ⟨b,c,cc,rfl,-⟩
  ·obtain rfl:i=0:=o_
   clear bo ho hg hv h hx ar hd ht a2 bc a3 a4 b9 hne e0;go_enter func215,ntmps215
   go_wp2_with (at_builtin;refine Lib.wpList_append_run _ rfl _ _ _ _ rfl _ _ rfl rfl _ _ hr ?_)
   all_goals
    go_ret;exact⟨v',rfl,HF.O⟩
  ·rw[hn] at hr⊢;clear bo ho hg hv h hx ar hd ht a2 bc a3 a4 b9 hne;go_enter func215,ntmps215
   go_wp2_with (at_builtin;refine Lib.wpList_append_run _ rfl _ _ _ _ rfl _ _ rfl rfl _ _ hr ?_)
   all_goals
    go_ret;exact⟨v',rfl,HF.O⟩
 ·have b2:i<n:=o_
  rcases h.2 with⟨rfl,e0⟩ | ⟨b,c,cc,rfl,hb,an,c7,bx,bf,ap⟩
  ·omega
  rw[hn] at c7 ap⊢;rw[Nat.mul_one] at bf ap;have a8:(hV l).length=n:=by simp[hV,hn]
  have ca:vb≠b:=fun e=>hne (by rw[e];rfl);have au:∀j v,(hV l)[j]?=some v->w.cell? ⟨b,0+j,none⟩=some v:=fun j v hj=>by
   rw[bz,q_ an,<-bM];have c6:j<n:=by have:=(aC.1 hj).1;omega
   rw[<-ap,da,if_pos c6] at hj;exact hj
  have bb:∀j v,[Value.int .u64 x][j]?=some v->w.cell? ⟨vb,0+j,none⟩=some v:=fun j v hj=>by
   cases j with
   | zero=>simp only[List.getElem?_cons_zero,Option.some.injEq] at hj;subst hj;exact ar
   | succ j=>simp at hj
  have a5:∀v∈ [Value.int .u64 x],v.oneCell'=true:=fun v hv=>by rw[aE.1 hv];rfl
  have ba:(prog.info? 61).map (·.size)=some 1:=by rw[a2];simp[a3]
  have d3:IntKind.i64.wrap ((i:Int)+1)=(i:Int)+1:=ax _ o_;have dp:(0:Int)<=(i:Int)+1:=o_
  have d2:((i:Int)+1).toNat=i+1:=o_
  have bj:((hV l).drop i).length=n-i:=by rw[bT,a8]
  have d4:¬((i:Int)=(n:Int)):=o_
  have dv:c<=9223372036854775807:=by unfold maxLen at bx;omega
  have d5:prog.follows .mixedOrders=true:=k_
  by_cases hroom:n+1<=c
  ·have bk:∀j,w.frozen? (x_ b j)=false:=fun j=>AT an;have a':∀j,j<n+1->(w.cell? (x_ b j)).isSome=true:=fun j hj=>by rw[q_ an,bY o_];rfl
   have c9:∀lb cb,(callFunc 238 #[.slice (some (y_ vb)) 1 1,.slice (some ⟨b,i+1,none⟩) lb cb]).run prog w=.ok (.value (.bool false)) w:=fun lb cb=>by
    rw[run_callFunc_extern (fn:=f238) k_ k_ k_ k_ (e:=Extern.SlicesOverlaps.overlaps #[59,59] #[4]) k_,
     Lib.run_overlaps_apart w 59 4 61 underlying59 1 (fun _=>by kernel_rfl) (y_ vb) ⟨b,i+1,none⟩ 1 1 lb cb ca 61 61 1 c (by simp[World.shape?,hx]) (by simp[World.shape?,an,bf]) o_ (AT hx) (AT hx)]
    rfl
   have a7:¬(c=i+1):=o_
   have cq:(i:Int)<=(n:Int)+1:=o_
   have ds:¬(c=i):=o_
   have c5:i<=n:=o_
   have b0:∀ty dc sc,(Builtin.copy_ #[59,59] ty #[.slice (some ⟨b,i+1,none⟩) (n-i) dc,.slice (some (x_ b i)) (n+1-i) sc]).run prog w.drew=.ok (goInt ((hV l).drop i).length) (w.drew.setCells b (i+1) ((hV l).drop i)):=fun ty dc sc=>
    run_copy_cells w.drew _ _ ty 61 b (i+1) (n-i) dc (x_ b i) (n+1-i) sc ((hV l).drop i) underlying59 ba (by rw[bj];simp only[Nat.min_def];split<;>omega)
     (fun j v hj=>by rw[Addr.add_lit];have:=au (i+j) v (by rwa[List.getElem?_drop] at hj);rwa[bz] at this)
     (fun j hj=>a' _ o_) (fun j hj=>bk _) (fun v hv=>uI v (bB hv))
   obtain⟨W1,ai⟩:∃W1,W1=w.drew.setCells b (i+1) ((hV l).drop i):=⟨_,rfl⟩;have b':∀k,k<n+1->(W1.cell? (x_ b k)).isSome=true:=fun k hk=>by
    rw[ai];exact isSome_setCells b _ _ _ (fun j hj=>by rw[bj] at hj;exact a' (i+1+j) o_) _ (a' k hk)
   have c3:∀(W:World),(∀x,W.cell? x=W1.cell? x)->(∀x,W.frozen? x=W1.frozen? x)->∀ty dc,(Builtin.copy_ #[59,59] ty #[.slice (some (x_ b i)) (n+1-i) dc,.slice (some (y_ vb)) 1 1]).run prog W=.ok (goInt [Value.int .u64 x].length) (W.setCells b i [Xu x]):=fun W hWc hWf ty dc=>
    run_copy_cells W _ _ ty 61 b i (n+1-i) dc (y_ vb) 1 1 [Xu x] underlying59 ba (by simp only[Nat.min_def,aj,aL];split<;>omega)
     (fun j v hj=>by
      rw[Addr.add_lit,hWc,ai,World.cell?_setCells_out b _ _ _ _ (fun h _=>absurd h ca)];exact bb j v hj)
     (fun j hj=>by rw[hWc];exact b' _ (by simp at hj;omega)) (fun j hj=>by rw[hWf,ai,World.frozen?_setCells];exact bk _) a5
   have a0:FE ((w.drew.setCells b (i+1) ((hV l).drop i)).setCells b i [Xu x]) B (.slice (some (y_ b)) (n+1) c) (l.take i++x::l.drop i):=by
    have a7:=mM [Xu x] i (mM ((hV l).drop i) (i+1) (w:=w.drew) an);refine⟨by simp[hV],.inr ⟨b,c,_,by rw[JZ o_,hn],hb,a7,by rw[JZ o_,hn];exact hroom,bx,by rw[lw,lw,bf,Nat.mul_one],?_⟩⟩;rw[JZ o_,hn,Nat.mul_one,uH];exact Ed ap a8 o_ o_
   have a1:w.grownBy ((w.drew.setCells b (i+1) ((hV l).drop i)).setCells b i [Xu x]) (some b):=(Mv w _).T ((mK _ _ _).T (mK _ _ _));have HF:=kq2 a0 a1;rw[<-ai] at b0 HF;clear a0 a1 au a' bk b' ap an hx ar bb a5 hne h;go_enter func215,ntmps215
   go_wp2_with (simp only[c9])
   go_region_law_o (refine step_copy_runI rfl _ _ 59 59 rfl _ _ (by simp[Act.eval,Act.put]) (by simp[Act.eval,Act.put]) (b0 _ _ _) ?_)
   go_wp2_with (at_builtin;refine wpList_copy_runI _ rfl _ _ 59 59 rfl _ _ rfl rfl (c3 _ (fun _=>rfl) (fun _=>rfl) _ _) ?_)
   go_ret;rw[<-ai];exact⟨_,rfl,HF.a,HF.b,ab rfl⟩
  ·have cx:c=n:=o_
   subst cx;have cw:b<w.1.size:=(gl an);have c':vb<w.1.size:=(gl hx);have b4:(c:Int)+1-(i:Int)=((c+1-i:Nat):Int):=o_
   have bm:i+(c+1-i)=c+1:=o_
   have hold:(Builtin.firstCells ti.size i (.slice (some (y_ b)) i c)).run prog w.drew=.ok ((hV l).take i).toArray w.drew:=by
    rw[a3];exact run_firstCells_some w.drew 1 i (y_ b) i c ((hV l).take i) (by rw[aK];omega) (fun j v hj=>by
     rw[Addr.add_lit];rw[da] at hj
     split at hj
     ·exact au j v hj
     ·cases hj)
   have a9:∀ty,(Builtin.append_ #[59,3] ty #[.slice (some (y_ b)) i c,Xi ((c:Int)+1-(i:Int))]).run prog w=
    .ok (.slice (some (y_ w.1.size)) (c+1) (grownCap w (c+1) c 61)) (w.drew.alloc (.cells (((hV l).take i).toArray++Builtin.zeroCells (Value.int .u64 0).cells (c+1-i)++Builtin.zeroCells (Value.int .u64 0).cells (grownCap w (c+1) c 61-(c+1))) 61)):=fun ty=>by
    have h:=Lib.run_append_grow_zeros w 59 3 ty 61 ti _ .i64 .i64 underlying59 underlying3 a2 bc (some (y_ b)) i c ((hV l).take i) hold (c+1-i) o_ o_ o_ o_ (by rw[a4];omega) (by rw[a4,bm];exact growslice_fits o_ o_);rw[bm] at h;rw[b4];exact h
   obtain⟨G,hG⟩:∃G,G=grownCap w (c+1) c 61:=⟨_,rfl⟩;obtain⟨ad,a6⟩:∃ad:Array Value,ad=((hV l).take i).toArray++Builtin.zeroCells (Value.int .u64 0).cells (c+1-i)++Builtin.zeroCells (Value.int .u64 0).cells (G-(c+1)):=⟨_,rfl⟩;rw[<-hG] at a9;rw[<-a6] at a9;have cp:c+1<=G:=by rw[hG];exact grownCap_ge w _ _ _
   have bq:G<=maxLen:=by rw[hG];exact grownCap_le_maxLen w (c+1) c 61 (by unfold maxLen;omega)
   have bu:ad.size=G:=by
    rw[a6];simp only[Array.size_append,aS,size_zeroCells,aK,a8]
    simp[Value.cells]
    omega
   have bv:∀j,j<i->ad[j]?=(hV l)[j]?:=fun j hj=>by
    rw[a6,Array.append_assoc,Array.getElem?_append_left m_,bO,da,if_pos hj]
   obtain⟨W1,ai⟩:∃W1,W1=w.drew.alloc (.cells ad 61):=⟨_,rfl⟩;rw[<-ai] at a9;have hN:∀j,j<c+1->(W1.cell? (x_ w.1.size j)).isSome=true:=fun j hj=>by
    rw[ai,World.cell?_alloc_at (w:=w.drew) ad _ w.1.size j rfl,bY o_]
    rfl
   have bd:∀j,W1.frozen? (x_ w.1.size j)=false:=fun j=>by rw[ai];exact World.frozen?_alloc_at (w:=w.drew) ad _ w.1.size j rfl
   have bs:∀j v,w.cell? (x_ b j)=some v->W1.cell? (x_ b j)=some v:=fun j v h=>by rw[ai,World.cell?_alloc_past (w:=w.drew) _ b j cw];exact h
   have bt:∀j v,w.cell? (x_ vb j)=some v->W1.cell? (x_ vb j)=some v:=fun j v h=>by rw[ai,World.cell?_alloc_past (w:=w.drew) _ vb j c'];exact h
   have c4:∀(W:World),(∀x,W.cell? x=W1.cell? x)->(∀x,W.frozen? x=W1.frozen? x)->∀ty dc,(Builtin.copy_ #[59,59] ty #[.slice (some (x_ w.1.size i)) (c+1-i) dc,.slice (some (y_ vb)) 1 1]).run prog W=.ok (goInt [Value.int .u64 x].length) (W.setCells w.1.size i [Xu x]):=fun W hWc hWf ty dc=>
    run_copy_cells W _ _ ty 61 w.1.size i (c+1-i) dc (y_ vb) 1 1 [Xu x] underlying59 ba (by simp only[Nat.min_def,aj,aL];split<;>omega)
     (fun j v hj=>by rw[Addr.add_lit,hWc];exact bt _ v (bb j v hj))
     (fun j hj=>by rw[hWc];exact hN _ (by simp at hj;omega)) (fun j hj=>by rw[hWf];exact bd _) a5
   have cv:b≠w.1.size:=o_
   have b1:∀(W:World),(∀y,W.cell? y=(W1.setCells w.1.size i [Xu x]).cell? y)->(∀y,W.frozen? y=(W1.setCells w.1.size i [Xu x]).frozen? y)->∀ty dc sc,(Builtin.copy_ #[59,59] ty #[.slice (some ⟨w.1.size,i+1,none⟩) (c-i) dc,.slice (some (x_ b i)) (c-i) sc]).run prog W=.ok (goInt ((hV l).drop i).length) (W.setCells w.1.size (i+1) ((hV l).drop i)):=fun W hWc hWf ty dc sc=>
    run_copy_cells W _ _ ty 61 w.1.size (i+1) (c-i) dc (x_ b i) (c-i) sc ((hV l).drop i) underlying59 ba (by rw[bj];simp only[Nat.min_def];split<;>omega)
     (fun j v hj=>by
      rw[Addr.add_lit,hWc,World.cell?_setCells_out _ _ _ _ _ (fun h _=>absurd h cv)];have:=au (i+j) v (by rwa[List.getElem?_drop] at hj);rw[bz] at this;exact bs _ v this)
     (fun j hj=>by rw[hWc];exact isSome_setCells _ _ _ _ (fun t ht=>hN _ (by simp at ht;omega)) _ (hN _ o_))
     (fun j hj=>by rw[hWf,World.frozen?_setCells];exact bd _) (fun v hv=>uI v (bB hv))
   have a0:FE (((w.alloc (.cells ad 61)).drew.setCells w.1.size i [Xu x]).drew.setCells w.1.size (i+1) ((hV l).drop i)) B (.slice (some (y_ w.1.size)) (c+1) G) (l.take i++x::l.drop i):=by
    have a7:=mM ((hV l).drop i) (i+1) (w:=((w.alloc (.cells ad 61)).drew.setCells w.1.size i [Xu x]).drew) (mM [Xu x] i (w:=(w.alloc (.cells ad 61)).drew) (heap_alloc_new w (.cells ad 61)));refine⟨by simp[hV],.inr ⟨w.1.size,G,_,by rw[JZ o_,hn],hB,a7,by rw[JZ o_,hn];exact cp,bq,by rw[lw,lw,bu,Nat.mul_one],?_⟩⟩;rw[JZ o_,hn,Nat.mul_one,uH];exact Ee bv a8 o_ o_
   have a1:w.grownBy (((w.alloc (.cells ad 61)).drew.setCells w.1.size i [Xu x]).drew.setCells w.1.size (i+1) ((hV l).drop i)) (some b):=by
    have g1:=mK (b:=w.1.size) [Xu x] (w.alloc (.cells ad 61)).drew i;have g2:=mK (b:=w.1.size) ((hV l).drop i) ((w.alloc (.cells ad 61)).drew.setCells w.1.size i [Xu x]).drew (i+1);refine⟨g2.os.T g1.os,g2.tape.T g1.tape,g2.output.T g1.output,aH (by show w.1.size<=(w.alloc _).1.size;simp) (aH g1.size g2.size),fun k hk _=>?_⟩;have e1:=ol (b:=w.1.size) (k:=k) o_ ((hV l).drop i) ((w.alloc (.cells ad 61)).drew.setCells w.1.size i [Xu x]).drew (i+1);have e2:=ol (b:=w.1.size) (k:=k) o_ [Xu x] (w.alloc (.cells ad 61)).drew i;exact e1.T (e2.T (heap_alloc_old _ _ hk))
   have HF:=kq2 a0 a1;subst ai;have ch:∀x,((w.alloc (.cells ad 61)).drew).cell? x=(w.drew.alloc (.cells ad 61)).cell? x:=fun x=>rfl;have cj:∀x,((w.alloc (.cells ad 61)).drew).frozen? x=(w.drew.alloc (.cells ad 61)).frozen? x:=fun x=>rfl;have ck:∀y,(((w.alloc (.cells ad 61)).drew.setCells w.1.size i [Xu x]).drew).cell? y=((w.drew.alloc (.cells ad 61)).setCells w.1.size i [Xu x]).cell? y:=fun x=>rfl;have cn:∀y,(((w.alloc (.cells ad 61)).drew.setCells w.1.size i [Xu x]).drew).frozen? y=((w.drew.alloc (.cells ad 61)).setCells w.1.size i [Xu x]).frozen? y:=fun x=>rfl;have dk:¬(G=i):=o_
   have dn:¬(G=i+1):=o_
   have d0:¬(c=i):=o_
   have c5:i<=c:=o_
   have cq:(i:Int)<=(c:Int):=o_
   have dd:G<=9223372036854775807:=by unfold maxLen at bq;omega
   have d1:(c:Int)<(c:Int)+1:=o_
   clear b4 bm hold a6 hG bu bv hN bd bs bt a0 a1 au hx ar bb a5 hne h an ap hroom;go_enter func215,ntmps215
   go_wp2_with (first
    | (at_builtin;refine Lib.wpList_append_run _ rfl _ _ _ _ rfl _ _ rfl rfl _ _ (a9 _) ?_)
    | (at_builtin;refine wpList_copy_runI _ rfl _ _ 59 59 rfl _ _ rfl rfl (c4 _ ch cj _ _) ?_)
    | (at_builtin;refine wpList_copy_runI _ rfl _ _ 59 59 rfl _ _ rfl rfl (b1 _ (fun _=>rfl) (fun _=>rfl) _ _ _) ?_))
   go_region_law_o (refine step_copy_runI rfl _ _ 59 59 rfl (.slice (some ⟨w.1.size,i+1,none⟩) (c-i) (G-(i+1))) (.slice (some (x_ b i)) (c-i) (c-i)) (by simp[Act.eval,Act.put]) (by simp[Act.eval,Act.put]) (b1 _ ck cn 3 (G-(i+1)) (c-i)) ?_)
   go_wp2
   go_ret;exact⟨_,rfl,HF.a,HF.b,ae ⟨_,rfl,Nat.le_refl _⟩⟩
end
section
open Lf
variable{S:St}{a:Nat}{o:Nat->Nat}{s:r_}
theorem Kn(a:Nat):∀L:List (Nat×Hr),a∈GB L↔∃y∈L,(y.2.l_=2/\a=y.1*64+2)\/(y.2.l_≠2/\∃k,k<eJ y.2.n/\jI y.2.w k=true/\a=fF y.1 y.2.n k)
 | []=>by simp[GB]
 | (p,x)::r=>by
  rw[GB,aq,Kn a r];have e:a∈(if x.l_=2 then[p*64+2] else((List.range (eJ x.n)).filter fun k=>jI x.w k).map (fF p x.n))↔(x.l_=2/\a=p*64+2)\/(x.l_≠2/\∃k,k<eJ x.n/\jI x.w k=true/\a=fF p x.n k):=by
   by_cases h:x.l_=2
   ·rw[if_pos h];simp[h]
   ·rw[if_neg h];simp only[h,az,dF,bw,false_and,false_or,not_false_eq_true,true_and,ne_eq];constructor
    ·rintro⟨k,⟨h1,h2⟩,h3⟩;exact⟨k,h1,h2,h3.S⟩
    ·rintro⟨k,h1,h2,h3⟩;exact⟨k,⟨h1,h2⟩,h3.S⟩
  rw[e];simp only[ah,exists_eq_or_imp]
theorem Ld{n w k:Nat}(hk:k<eJ n):jI w k=w.testBit k:=by
 have:=(jA hk).2;unfold jI;rw[decide_eq_true o_,Bool.true_and]
theorem KM(h:Own s o)(a:Nat):a∈G6 s↔∃r,eO s o a r:=by
 unfold G6;rw[Kn]
 constructor
 ·rintro⟨⟨p,x⟩,hy,hc⟩;obtain⟨h1,h2,h3⟩:=(h.mem_heads _).1 hy;simp only at h1 h2 h3 hc;subst h3;have hd:=(h.down p h1 h2).1
  rcases hc with⟨c1,c2⟩ | ⟨c1,k,c2,c3,c4⟩
  ·refine⟨(FA s p).n*64-2,p,h1,h2,.inr ⟨c1,c2,?_⟩⟩
   rcases hd with hd | hd<;>omega
  ·refine⟨_,p,h1,h2,.inl ⟨?_,k,c2,by rw[<-Ld c2];exact c3,c4,rfl⟩⟩
   rcases hd with hd | hd
   ·exact hd.1
   ·exact absurd hd.1 c1
 ·rintro⟨r,p,h1,h2,hb⟩;refine⟨(p,FA s p),(h.mem_heads _).2 ⟨h1,h2,rfl⟩,?_⟩
  rcases hb with⟨b1,k,b2,b3,b4,_⟩ | ⟨b1,b2,_⟩
  ·exact .inr ⟨by simp only;omega,k,b2,by rw[Ld b2];exact b3,b4⟩
  ·exact .inl ⟨b1,b2⟩
theorem KI(s:r_):∀(ks:List Nat) (nx:Nat),List.Sublist ((gC s nx ks).map (·.1)) ks
 | [],_=>by simp[gC]
 | p::r,nx=>by
  unfold gC;split
  ·exact(KI s r nx).cons _
  ·simp only[bi];exact(KI s r _).cons_cons _
theorem KN{α β:Type}{f:α->β}{l:List α}(hd:l.Nodup)(hi:∀a∈l,∀b∈l,f a=f b->a=b):(l.map f).Nodup:=by
 unfold List.Nodup;rw[dM];refine List.Pairwise.imp_of_mem ?_ hd;intro a b ha hb hne e;exact hne (hi a ha b hb e)
theorem LC:∀L:List (Nat×Hr),(L.map (·.1)).Pairwise (·<·)->(∀y∈L,kT y.2)->(GB L).Nodup
 | [],_,_=>by simp[GB]
 | (p,x)::r,hp,hk=>by
  rw[bi,bC] at hp;have ad:∀(q:Nat) (y:Hr) (a:Nat),kT y->((y.l_=2/\a=q*64+2)\/(y.l_≠2/\∃k,k<eJ y.n/\jI y.w k=true/\a=fF q y.n k))->a / 64=q:=by
   rintro q y a hy (⟨_,e⟩ | ⟨_,k,h1,_,e⟩)
   ·omega
   ·obtain⟨e1,e2,e3⟩:=JI (jA h1).1 h1 q;omega
  rw[GB,aF];refine⟨?_,LC r hp.2 fun y hy=>hk y (ak _ hy),?_⟩
  ·split
   ·simp
   ·refine KN ((List.nodup_range).filter _) fun a ha b hb e=>?_;have ha:=bw.1 (dF.1 ha).1;have hb:=bw.1 (dF.1 hb).1;exact Ip ha hb e
  ·intro a ha b hb e;subst e;obtain⟨y,hy,hc⟩:=(Kn a r).1 hb;have h1:=ad y.1 y.2 a (hk y (ak _ hy)) hc;have h2:a∈GB [(p,x)]:=by simp only[GB,aW];exact ha
   obtain⟨z,hz,ai⟩:=(Kn a _).1 h2;rw[aE] at hz;subst hz;have h3:=ad p x a (hk _ (av ..)) ai;have:=hp.1 y.1 (List.mem_map_of_mem hy);omega
theorem LB(h:Own s o):(G6 s).Nodup:=by
 refine LC _ ((h.wf.F1).sublist (KI s s.j_ 0)) fun y hy=>?_;obtain⟨h1,h2,h3⟩:=(h.mem_heads _).1 hy;rw[h3];exact(h.down _ h1 h2).1
theorem Fw.name_of(hf:Fw S o)(ha:a∈G6 S.a):∃(i:Nat) (x:mj),S.t.p_[i]?=some x/\x.is=1/\x.t_=a/\S.a.rd a=gj x.gen i:=by
 obtain⟨r,hr⟩:=(KM hf.own a).1 ha;exact hf.full a r hr
theorem Fw.addr_le(hf:Fw S o)(ha:a∈G6 S.a):a<=2^62:=by
 obtain⟨r,hr⟩:=(KM hf.own a).1 ha;obtain⟨h,hp⟩:=hr;have:=(hp.pos hf.own).1;have:=(eO.ok hf.own ⟨h,hp⟩ (b:=0) o_).2.1;unfold gK at this;omega
theorem Nk(hf:Fw S o){i j:Nat}{x y:mj}(hx:S.t.p_[i]?=some x)(hy:S.t.p_[j]?=some y)(e:gj x.gen i % 4294967296=gj y.gen j % 4294967296):i=j:=by
 have h1:=(aC.1 hx).1;have h2:=(aC.1 hy).1;have:=hf.tab.len;have:=hf.tab.most.2;unfold gj at e;omega
theorem Fw.rd_inj(hf:Fw S o){a b:Nat}(ha:a∈G6 S.a)(hb:b∈G6 S.a)(e:S.a.rd a % 4294967296=S.a.rd b % 4294967296):a=b:=by
 obtain⟨i,x,f1,f2,f3,f4⟩:=hf.name_of ha;obtain⟨j,y,g1,g2,g3,g4⟩:=hf.name_of hb;rw[f4,g4] at e;have:=Nk hf f1 g1 e;subst this;rw[f1] at g1
 injection g1 with g1
 rw[<-f3,<-g3,g1]
theorem Fw.mem_all(hf:Fw S o)(h:Nat):h∈S.all↔i_ S h≠none:=by
 unfold St.all;rw[az]
 constructor
 ·rintro⟨a,ha,rfl⟩;obtain⟨i,x,f1,f2,f3,f4⟩:=hf.name_of ha;rw[(gT hf.tab).2 ⟨i,x,f1,f2,f4,rfl⟩]
  simp
 ·intro hr;obtain⟨ws,hw⟩:=bH.1 hr;obtain⟨k,x,f1,f2,f3,f4⟩:=(gT hf.tab).1 hw;obtain⟨r,g1,_⟩:=hf.live k x f1 f2;obtain⟨j,y,e1,e2,e3,e4⟩:=hf.full _ _ g1;have:=hf.inj j k y x e1 f1 e2 f2 e3;subst this;rw[f1] at e1
  injection e1 with e1
  exact⟨x.t_,(KM hf.own _).2 ⟨r,g1⟩,by rw[e4,f3,e1]⟩
theorem Fw.all_nodup(hf:Fw S o):S.all.Nodup:=KN (LB hf.own) fun a ha b hb e=>hf.rd_inj ha hb (by rw[e])
theorem Fw.live_le(hf:Fw S o):(G6 S.a).length<=S.t.p_.length:=by
 have h1:((G6 S.a).map fun a=>S.a.rd a % 4294967296-1).Nodup:=by
  refine KN (LB hf.own) fun a ha b hb e=>hf.rd_inj ha hb ?_;obtain⟨i,x,f1,f2,f3,f4⟩:=hf.name_of ha;obtain⟨j,y,g1,g2,g3,g4⟩:=hf.name_of hb;have q1:=(aC.1 f1).1;have q2:=(aC.1 g1).1;have:=hf.tab.len;have:=hf.tab.most.2;rw[f4,g4] at e⊢;unfold gj at e⊢;omega
 have h2:=h1.length_le_of_subset (l₂:=List.range S.t.p_.length) (by
  intro z hz;obtain⟨a,ha,rfl⟩:=az.1 hz;obtain⟨i,x,f1,f2,f3,f4⟩:=hf.name_of ha;have q1:=(aC.1 f1).1;have:=hf.tab.len;have:=hf.tab.most.2;rw[bw,f4];unfold gj;omega)
 rwa[am,dL] at h2
theorem Kc(S:St):S.all.length=(G6 S.a).length:=by unfold St.all;rw[am]
end
section
open Go.RowKit Tryz Go.BigFrame Go.Maps Go.WideMaps Lf
theorem Mr(t:Hs)(hh:Nat):(t.close hh).2.most=t.most/\(t.close hh).2.last=t.last:=by
 unfold Hs.close;split<;>exact⟨rfl,rfl⟩
theorem sE {w:World}{ps:Nat}{S:St}{Y:Nat->Prop}(h:Ig w ps S Y)(hi:Fv S)(hh:Nat)(hl:hh<2^64):
 Ct 78 #[PV ps,Xu hh] w fun e w'=>e=.returned (Xi ((S.drop hh).1:Nat))/\Ig w' ps (S.drop hh).2 Y/\Fo Y w w':=by
 have ad:=sD h hi hh hl;have a1:=hi.addr_le hh
 rcases S.at_cases hh with⟨t_,n,h1,h2,_⟩ | ⟨h1,h2⟩
 ·have hR:S.drop hh=((S.t.close hh).1,⟨(iM S.a t_).2,(S.t.close hh).2⟩):=by unfold St.drop;rw[h1];rfl
  rw[hR];rw[h1] at ad a1;simp only at ad a1;have HG:=kq2 ad h;clear ad hR h1 h2 h;go_enter func78,ntmps78;go_wp2_with fail;refine Jc HG.a ?_;have hS:=HG.b;have a0:=Fo.refl Y w;obtain⟨pa,pm,ph,pt,v,hS⟩:=hS;obtain⟨_,_,_,c3,c4⟩:=hS.cells;have H1:=kq2 hS a0;clear hS a0;go_wp2_with fail;refine(Bu H1.a.heap t_ o_).M ?_;rintro e w2 ⟨rfl,ar,an⟩;have ai:=H1.a.arena ar an;obtain⟨_,_,_,_,a3⟩:=ai.cells;have H2:=kq2 ai (H1.b.T (an.M fun k hk=>ab hk));clear c3 c4 ar an ai;go_wp2_with fail;refine(EI H2.a.tab hh hl (fun k=>k<w2.1.size/\k≠pt/\v.ownBlock≠some k) (fun b hb e=>hb.2.2 e.S)).M ?_;rintro e w3 ⟨rfl,a2,ap⟩;have au:=H2.a.table a2 (Mr _ _) _ (fun k h1 h2 h3=>⟨h1,h2,h3⟩) ap (fun b hb=>hb.2.2);have H3:=kq2 au (H2.b.T (ap.M fun k hk=>⟨H2.a.yl k hk,(H2.a.off k (ab hk)).1,(H2.a.off k (ab hk)).2⟩));clear a2 ap au;go_wp2_with fail;go_ret;exact⟨rfl,⟨_,_,_,_,_,H3.a⟩,H3.b⟩
 ·have hR:S.drop hh=(7,S):=by unfold St.drop;rw[h1];rfl
  rw[hR];rw[h1] at ad;have HG:=kq2 ad h;clear ad hR h1 h2 h;go_enter func78,ntmps78;go_wp2_with fail;refine Jc HG.a ?_;have H1:=kq2 HG.b (Fo.refl Y w);go_wp2_with fail;go_ret;exact⟨rfl,H1.O⟩