/- Nodes of B-trees: fits, Words: the walks, at h_ that fit. -/
import Derived.Test.YtpljannolpapgaaGreatDoorSCl
import Derived.Test.YtpljannolpapgaaGreatDoorSQi
import Derived.BigRegion
import Derived.RegionTactic
import Derived.ChangeAlike
import Derived.Test.YtpljannolpapgaaGreatDoorSHa
set_option maxRecDepth 100000
set_option maxHeartbeats 3200000
namespace Go.Proofs.YtpljannolpapgaaGreatDoor
section
open Go.RowKit Tryz Go.BigFrame Go.Maps Go.WideMaps Lf
variable{n:BN}{t:Nat}{w:World}
def eC(vk vv vc:Value)(s:Nat):Value:=.agg #[vk,vv,vc,Xu s]
structure iU (t:Nat) (n:BN):Prop where
 lo:2<=t
 hi:t<=16
 many:n.l_.length<=2*t-1
 F_:n.F_.length=n.l_.length
 B_:n.B_.length=0\/(n.B_.length=n.l_.length+1/\n.B_.contains 0=false)
theorem om(h1:2<=t)(h2:t<=16):isDeg (t:Int)=true:=by unfold isDeg;rw[decide_eq_true o_,decide_eq_true o_];rfl
theorem pW(t:Nat)(h1:2<=t)(h2:t<=16)(w:World):
 Ct 125 #[Xi t] w fun e w'=>e=.returned (Xi (6*(t:Int)))/\w=w':=by
 have HG:=If (om h1 h2▸nP (t:Int) w);go_enter func125,ntmps125;go_wp2_with fail;refine Jc HG.O ?_;go_wp2_with fail;go_ret;exact⟨rfl,rfl⟩
theorem qUcaa{P:Prop}(h:P:=by
 go_wp2_with fail;refine Jc (HG.a _) ?_;go_wp2_with fail;go_ret;exact⟨rfl,HG.b⟩):P:=h
theorem N3{vk vv vc:Value}(hn:iU t n)(hk:FD w vk n.l_)(hv:FD w vv n.F_)(hc:FD w vc n.B_):
 Cb 199 #[Xi t,eC vk vv vc n.size] w (.bool true):=by
 obtain⟨h1,h2,h3,h4,h5⟩:=hn;unfold eC;have ad:=fun W (hW:D_ w W)=>Bg (hc.a_ hW) o_;have ai:=fun W=>om h1 h2▸nP (t:Int) W;obtain⟨Ak,ck,rfl,-⟩:=hk;obtain⟨Av,cv,rfl,-⟩:=hv;obtain⟨Ac,cc,rfl,-⟩:=hc;rw[h4];obtain⟨k,an⟩:=Ii n.l_.length;rw[an] at h3 h5⊢;generalize n.size=sz at*;have ap:(k:Int)<=2*(t:Int)-1:=o_
 have ar:decide ((k:Int)<=2*(t:Int)-1)=true:=decide_eq_true ap
 rcases h5 with h5 | ⟨h5,h6⟩
 ·rw[h5] at ad⊢;have B0:=c_ w (.cells #[.slice Ak k ck,.slice Av k cv,.slice Ac 0 cc,Xu sz] 215);have q0:=heap_alloc_new w (.cells #[.slice Ak k ck,.slice Av k cv,.slice Ac 0 cc,Xu sz] 215);obtain⟨c0,c1,c2,c3⟩:=Fy q0;have HG:=kq2 ai B0;clear ai B0 ad q0 an h4 h5;go_enter func199,ntmps199;exact qUcaa
 ·rw[h6] at ad;rw[h5] at ad⊢;have hq:(((k+1:Nat):Int)==0)=false:=m_
  have au:((k+1:Nat):Int)=(k:Int)+1:=o_
  have a0:¬((k:Int)+1=0):=o_
  have B0:=c_ w (.cells #[.slice Ak k ck,.slice Av k cv,.slice Ac (k+1) cc,Xu sz] 215);have q0:=heap_alloc_new w (.cells #[.slice Ak k ck,.slice Av k cv,.slice Ac (k+1) cc,Xu sz] 215);obtain⟨c0,c1,c2,c3⟩:=Fy q0;have HG:=kq3 ai B0 ad;clear ai B0 ad q0 an h4 h5 h6;go_enter func199,ntmps199;go_wp2_with fail;refine Jc (HG.c _ HG.b) ?_;exact qUcaa
def Lf.wAt(t:Nat)(n:BN)(a b j:Nat):Nat:=
 if j=0 then n.l_.length else if j=1 then n.size
 else if j<2+2*a then(if j % 2=0 then n.l_.getD ((j-2) / 2) 0 else n.F_.getD ((j-2) / 2) 0)
 else if 4*t<=j/\j<4*t+b then n.B_.getD (j-4*t) 0 else 0
def Lf.z_(t:Nat)(n:BN):List Nat:=(List.range (6*t)).map (wAt t n n.l_.length n.B_.length)
theorem jJ(t:Nat)(n:BN):(z_ t n).length=6*t:=by simp[z_]
def gO(N:Nat)(f:Nat->Nat):Array Value:=((List.range N).map fun j=>Value.int .u64 (f j)).toArray
theorem mh{N j:Nat}(f:Nat->Nat)(h:j<N):(gO N f)[j]?=some (Xu (f j)):=by
 unfold gO;rw[bK,bO,bS h];rfl
theorem ni{N i:Nat}(f:Nat->Nat)(v:Nat):(gO N f).setIfInBounds i (Xu v)=gO N (fun j=>if j=i then v else f j):=by
 unfold gO;refine Array.ext_getElem? fun j=>?_;rw[List.setIfInBounds_toArray,bK,bK]
 by_cases hj:j<N
 ·by_cases e:i=j
  ·subst e;rw[cE (by simpa using hj),bO,bS hj]
   simp
  ·rw[cU e,bO,bO,bS hj]
   simp[show ¬j=i from fun q=>e q.S]
 ·rw[aY m_,aY m_]
theorem sh{N:Nat}{f g:Nat->Nat}(h:∀j,j<N->f j=g j):gO N f=gO N g:=by
 unfold gO
 congr 1
 refine bi fun j hj=>?_;rw[h j (bw.1 hj)]
theorem Ec(N:Nat):((List.replicate N 0).map fun x:Nat=>Value.int .u64 x).toArray=gO N fun _=>0:=by
 unfold gO
 congr 1
 refine dB fun j=>?_
 by_cases hj:j<N
 ·rw[bO,bO,bS hj,List.getElem?_replicate,if_pos hj]
  rfl
 ·rw[aY m_,aY m_]
theorem yC(A:Option Addr)(n c:Nat)(w:World):
 Ct 227 #[.slice A n c] w fun e w'=>e=.returned (.func (.func 244) #[] #[PV w.1.size])/\w'=w.alloc (.cells #[.slice A n c] 177):=by
 go_enter func227,ntmps227
 go_wp2
 go_ret;exact⟨rfl,rfl⟩
structure j7 (t:Nat) (n:BN) (a b:Nat) (w W:World) (vk vv vc:Value):Prop where
 row:W.1[w.1.size+1]?=some (.cells (gO (6*t) (wAt t n a b)) 60 (0,0))
 box:W.1[w.1.size]?=some (.cells #[vk,vv,vc,Xu n.size] 215 (0,0))
 a_:D_ w W
theorem j7.two{a b i j x y:Nat}{w W W':World}{vk vv vc:Value}(h:j7 t n a b w W vk vv vc)(a' b':Nat)(hW:W'.heap=((W.setCell (x_ (w.1.size+1) i) (Xu x)).setCell (x_ (w.1.size+1) j) (Xu y)).heap)(ho:W'.os=W.os)(ht:W'.tape=W.tape)(hu:W'.output=W.output)
 (hr:∀q,q<6*t->wAt t n a' b' q=if q=j then y else if q=i then x else wAt t n a b q):j7 t n a' b' w W' vk vv vc:=by
 have hB:=(h.a_.setCell (p:=x_ (w.1.size+1) i) (dD _) (Xu x)).setCell (p:=x_ (w.1.size+1) j) (dD _) (Xu y);refine⟨?_,?_,⟨ho.T h.a_.os,ht.T h.a_.tape,hu.T h.a_.output,by rw[hW];exact hB.size,fun k hk=>by rw[hW];exact hB.block k hk⟩⟩
 ·rw[hW,heap_setCell (heap_setCell h.row),ni,ni,sh hr]
 ·rw[hW,FB o_,FB o_];exact h.box
theorem j7.one{a b i x:Nat}{w W W':World}{vk vv vc:Value}(h:j7 t n a b w W vk vv vc)(a' b':Nat)(hW:W'.heap=(W.setCell (x_ (w.1.size+1) i) (Xu x)).heap)(ho:W'.os=W.os)(ht:W'.tape=W.tape)(hu:W'.output=W.output)
 (hr:∀q,q<6*t->wAt t n a' b' q=if q=i then x else wAt t n a b q):j7 t n a' b' w W' vk vv vc:=by
 have hB:=h.a_.setCell (p:=x_ (w.1.size+1) i) (dD _) (Xu x);refine⟨?_,?_,⟨ho.T h.a_.os,ht.T h.a_.tape,hu.T h.a_.output,by rw[hW];exact hB.size,fun k hk=>by rw[hW];exact hB.block k hk⟩⟩
 ·rw[hW,heap_setCell h.row,ni,sh hr]
 ·rw[hW,FB o_];exact h.box
theorem tS{vk vv vc:Value}(hn:iU t n)(hk:FD w vk n.l_)(hv:FD w vv n.F_)(hc:FD w vc n.B_):
 Ct 200 #[Xi t,eC vk vv vc n.size] w fun e w'=>∃B,e=.returned (.func (.func 244) #[] #[PV B])/\w.1.size<=B/\w'.1[B]?=some (.cells #[.slice (some (y_ (w.1.size+1))) (6*t) (6*t)] 177 (0,0))/\
  w'.1[w.1.size+1]?=some (.cells (gO (6*t) (wAt t n n.l_.length n.B_.length)) 60 (0,0))/\D_ w w':=by
 obtain⟨h1,h2,h3,h4,h5⟩:=hn;unfold eC;have a3:=vB (6*t) o_;rw[Ec] at a3;obtain⟨Ak,ck,rfl,hk⟩:=hk;obtain⟨Av,cv,rfl,hv⟩:=hv;obtain⟨Ac,cc,rfl,hc⟩:=hc;obtain⟨k,a0⟩:=Ii n.l_.length;obtain⟨c,au⟩:=Ii n.B_.length;rw[a0] at h3 h4 h5;rw[au] at h5;have bf:c<=2*t:=by rcases h5 with g | ⟨g,_⟩<;>omega
 have HB:=kq6 a0 h4 au hk hv hc;rw[h4,a0,au];clear hk hv hc a0 h4 au h5;generalize a8:n.size=sz;have HS:=If a8;clear a8;have q0:=heap_alloc_new w (.cells #[.slice Ak k ck,.slice Av k cv,.slice Ac c cc,Xu sz] 215);have B0:=c_ w (.cells #[.slice Ak k ck,.slice Av k cv,.slice Ac c cc,Xu sz] 215);have z0:(w.alloc (.cells #[.slice Ak k ck,.slice Av k cv,.slice Ac c cc,Xu sz] 215)).1.size=w.1.size+1:=s_
 have q1:=heap_alloc_new (w.alloc (.cells #[.slice Ak k ck,.slice Av k cv,.slice Ac c cc,Xu sz] 215)) (.cells (gO (6*t) fun _=>0) 60);have B1:=B0.alloc B0.size (.cells (gO (6*t) fun _=>0) 60);have a6:=(((aa (w.alloc (.cells #[.slice Ak k ck,.slice Av k cv,.slice Ac c cc,Xu sz] 215)).1.size (w.alloc (.cells #[.slice Ak k ck,.slice Av k cv,.slice Ac c cc,Xu sz] 215))).alloc Ih (.cells (gO (6*t) fun _=>0) 60)).block w.1.size o_).T q0;rw[z0] at q1;have a4:=a3 (w.alloc (.cells #[.slice Ak k ck,.slice Av k cv,.slice Ac c cc,Xu sz] 215));rw[z0] at a4;have bj:IntKind.i64.wrap (6*(t:Int))=6*(t:Int):=aw _ o_;have ba:((6*t:Nat):Int)=6*(t:Int):=o_
 rw[ba] at a4;have bk:(0:Int)<6*(t:Int):=o_
 have bm:(1:Int)<6*(t:Int):=o_
 clear a3 q0 B0;go_enter func200,ntmps200;go_wp2_with fail;clear a4;generalize a9:(w.alloc (.cells #[.slice Ak k ck,.slice Av k cv,.slice Ac c cc,Xu sz] 215)).alloc (.cells (gO (6*t) fun _=>0) 60)=W1 at*;obtain⟨c0,c1,c2,c3⟩:=Fy a6;have r0:W1.cell? (y_ (w.1.size+1))=some (Xu 0):=by rw[q_ q1,mh _ o_];rfl
 have r1:W1.cell? (x_ (w.1.size+1) 1)=some (Xu 0):=by rw[q_ q1,mh _ o_];rfl
 have f0:W1.frozen? (y_ (w.1.size+1))=false:=AT q1;have f1:W1.frozen? (x_ (w.1.size+1) 1)=false:=AT q1;have bc:¬(w.1.size=w.1.size+1):=o_
 go_region
 go_wp2_with fail;go_name_world W HW
 have hW:j7 t n 0 0 w W (.slice Ak k ck) (.slice Av k cv) (.slice Ac c cc):=by
  refine⟨?_,?_,?_⟩
  ·rw[<-HW];show ((W1.setCell (y_ (w.1.size+1)) (Xu k)).setCell (x_ (w.1.size+1) 1) (Xu sz)).1[w.1.size+1]?=_
   rw[heap_setCell (heap_setCell q1),ni,ni];congr 2
   refine sh fun q hq=>?_;unfold wAt;rw[HB.a,HS.O];by_cases e1:q=1
   ·rw[if_pos e1,if_neg o_,if_pos e1]
   ·rw[if_neg e1];by_cases e0:q=0
    ·rw[if_pos e0,if_pos e0]
    ·rw[if_neg e0,if_neg e0,if_neg e1,if_neg o_,if_neg o_]
  ·rw[<-HW];show ((W1.setCell (y_ (w.1.size+1)) (Xu k)).setCell (x_ (w.1.size+1) 1) (Xu sz)).1[w.1.size]?=_
   rw[FB o_,FB o_,HS.O];exact a6
  ·rw[<-HW];have h:=(B1.setCell (p:=y_ (w.1.size+1)) (dD _) (Xu k)).setCell (p:=x_ (w.1.size+1) 1) (dD _) (Xu sz);exact⟨h.os,h.tape,h.output,h.size,h.block⟩
 clear HW;have HA:=If hW;clear hW r0 r1 f0 f1 bc c0 c1 c2 c3 a6 q1 a9 B1;go_loopw [6,25] (fun _ i wr=>∃j:Nat,j<=k/\i=Xi j/\j7 t n j 0 w wr (.slice Ak k ck) (.slice Av k cv) (.slice Ac c cc)) (fun _ i _=>k-(intOf i).toNat)
 case atStart=>exact⟨0,o_,rfl,HA.O⟩
 case round=>
  obtain⟨j,hj,rfl,hA⟩:=hrel;by_cases hlt:j<k
  ·have bb:(j:Int)<k:=o_
   have ad:=hA.box;rw[HS.O] at ad;obtain⟨c0,c1,c2,c3⟩:=Fy ad;have ik:j<n.l_.length:=by rw[HB.a];exact hlt
   have iv:j<n.F_.length:=by rw[HB.b];exact hlt
   obtain⟨gk,ok,rfl,ai⟩:=HB.d j ik;obtain⟨gv,ov,rfl,a2⟩:=HB.e j iv;have lk:=fK ai;have lv:=fK a2;have dk:=(hA.a_.cell (p:=⟨gk,ok+j,none⟩) lk).T ai;have dv:=(hA.a_.cell (p:=⟨gv,ov+j,none⟩) lv).T a2;obtain⟨xk,an⟩:∃x,n.l_[j]=x:=⟨_,rfl⟩;obtain⟨xv,a5⟩:∃x,n.F_[j]=x:=⟨_,rfl⟩;rw[an] at dk;rw[a5] at dv;have ar:n.l_.getD j 0=xk:=by rw[az,ag ik,<-an];rfl
   have a7:n.F_.getD j 0=xv:=by rw[az,ag iv,<-a5];rfl
   have z2:∀q,2+2*j<=q->q<4*t->wAt t n j 0 q=0:=fun q h1 h2=>by
    unfold wAt;rw[if_neg o_,if_neg o_,if_neg o_,if_neg o_]
   have r0:wr.cell? ⟨w.1.size+1,2+2*j,none⟩=some (Xu 0):=by
    rw[q_ hA.row,mh _ o_,z2 _ o_ o_];rfl
   have r1:wr.cell? ⟨w.1.size+1,2+2*j+1,none⟩=some (Xu 0):=by
    rw[q_ hA.row,mh _ o_,z2 _ o_ o_];rfl
   have f0:wr.frozen? ⟨w.1.size+1,2+2*j,none⟩=false:=AT hA.row;have f1:wr.frozen? ⟨w.1.size+1,2+2*j+1,none⟩=false:=AT hA.row;have n1:¬(w.1.size=w.1.size+1):=o_
   have n2:¬(gk=w.1.size+1):=o_
   have n3:¬(gv=w.1.size+1):=o_
   have a':2+2*(j:Int)<6*(t:Int):=o_
   have bd:2+2*(j:Int)+1<6*(t:Int):=o_
   have HK:=kq4 hA ar a7 hlt;clear hA ad ai a2 z2 an a5 ar a7 lk lv;go_wp2_with fail;go_region
   have HN:=fun W' h1 h2 h3 h4=>HK.a.two (i:=2+2*j) (j:=2+2*j+1) (x:=xk) (y:=xv) (W':=W') (j+1) 0 h1 h2 h3 h4 (fun q hq=>by
    unfold wAt;by_cases e1:q=2+2*j+1
    ·rw[if_pos e1,if_neg o_,if_neg o_,if_pos o_,if_neg o_,show (q-2) / 2=j by omega];exact HK.c
    ·rw[if_neg e1];by_cases e0:q=2+2*j
     ·rw[if_pos e0,if_neg o_,if_neg o_,if_pos o_,if_pos o_,show (q-2) / 2=j by omega];exact HK.b
     ·rw[if_neg e0];by_cases g0:q=0
      ·rw[if_pos g0,if_pos g0]
      ·rw[if_neg g0,if_neg g0];by_cases g1:q=1
       ·rw[if_pos g1,if_pos g1]
       ·rw[if_neg g1,if_neg g1];by_cases g2:q<2+2*j
        ·rw[if_pos o_,if_pos g2]
        ·rw[if_neg o_,if_neg g2])
   have a1:=If HN;clear HN r0 r1 f0 f1 n1 n2 n3 c0 c1 c2 c3 dk dv;go_wp2_with fail;go_roundw
   case rel=>exact⟨j+1,HK.d,s_,a1.O _ rfl rfl rfl rfl⟩
   case measure=>have:=HK.d;simp[intOf];omega
  ·obtain rfl:j=k:=o_
   have ad:=hA.box;rw[HS.O] at ad;obtain⟨c0,c1,c2,c3⟩:=Fy ad;have HK:=If hA;clear hA ad;go_wp2_with fail;clear c0 c1 c2 c3;go_loopw [7,8,53] (fun _ _ i wr=>∃q:Nat,q<=c/\i=Xi q/\j7 t n j q w wr (.slice Ak j ck) (.slice Av j cv) (.slice Ac c cc)) (fun _ _ i _=>c-(intOf i).toNat)
   case atStart=>exact⟨0,o_,rfl,HK.O⟩
   case round=>
    obtain⟨q,hq,rfl,hA⟩:=hrel;by_cases hlt:q<c
    ·have bb:(q:Int)<c:=o_
     have ik:q<n.B_.length:=by rw[HB.c];exact hlt
     obtain⟨gk,ok,rfl,ai⟩:=HB.f q ik;have lk:=fK ai;have dk:=(hA.a_.cell (p:=⟨gk,ok+q,none⟩) lk).T ai;obtain⟨xk,an⟩:∃x,n.B_[q]=x:=⟨_,rfl⟩;rw[an] at dk;have ar:n.B_.getD q 0=xk:=by rw[az,ag ik,<-an];rfl
     have r0:wr.cell? ⟨w.1.size+1,4*t+q,none⟩=some (Xu 0):=by
      rw[q_ hA.row,mh _ o_];unfold wAt;rw[if_neg o_,if_neg o_,if_neg o_,if_neg o_];rfl
     have f0:wr.frozen? ⟨w.1.size+1,4*t+q,none⟩=false:=AT hA.row;have a':4*(t:Int)+q<6*(t:Int):=o_
     have ap:=kq3 hA ar hlt;clear hA ai an ar lk;go_wp2_with fail;have HN:=fun W' h1 h2 h3 h4=>ap.a.one (i:=4*t+q) (x:=xk) (W':=W') j (q+1) h1 h2 h3 h4 (fun p hp=>by
      unfold wAt;by_cases e1:p=4*t+q
      ·rw[if_pos e1,if_neg o_,if_neg o_,if_neg o_,if_pos o_,show p-4*t=q by omega];exact ap.b
      ·rw[if_neg e1];by_cases g0:p=0
       ·rw[if_pos g0,if_pos g0]
       ·rw[if_neg g0,if_neg g0];by_cases g1:p=1
        ·rw[if_pos g1,if_pos g1]
        ·rw[if_neg g1,if_neg g1];by_cases g2:p<2+2*j
         ·rw[if_pos g2,if_pos g2]
         ·rw[if_neg g2,if_neg g2];by_cases g3:4*t<=p/\p<4*t+q
          ·rw[if_pos o_,if_pos g3]
          ·rw[if_neg o_,if_neg g3])
     have a1:=If HN;clear HN r0 f0 dk;go_roundw
     case rel=>exact⟨q+1,ap.c,s_,a1.O _ rfl rfl rfl rfl⟩
     case measure=>have:=ap.c;simp[intOf];omega
    ·obtain rfl:q=c:=o_
     have ap:=If hA;clear hA;go_wp2_with fail;refine Jc (yC _ _ _ wr) ?_;go_wp2_with fail;go_ret;have hA:=ap.O;have hB:=c_ wr (.cells #[.slice (some (y_ (w.1.size+1))) (6*t) (6*t)] 177);refine⟨_,rfl,hA.a_.size,heap_alloc_new _ _,?_,b_ hA.a_ hB⟩;exact(hB.block _ (gl hA.row)).T hA.row
end
section
open Go.RowKit Tryz Go.BigFrame Go.Maps Go.WideMaps Lf
open Go.Shelf
attribute [local go_sem] Oper.semAt_some
structure ir (R:Nat->Prop) (W W':World):Prop where
 size:W.1.size<=W'.1.size
 block:∀k,R k->W'.1[k]?=W.1[k]?
theorem ir.refl(R:Nat->Prop)(W:World):ir R W W:=⟨Nat.le_refl _,fun _ _=>rfl⟩
theorem ir.T {R:Nat->Prop}{A B C:World}(h:ir R A B)(k:ir R B C):ir R A C:=⟨aH h.size k.size,fun i hi=>(k.block i hi).T (h.block i hi)⟩
abbrev lH:= { x:Nat×Nat // x.1<=1000/\x.2<2^64 }
abbrev n9(x:lH):Array Value:=#[Xi x.1.1,Xu x.1.2]
abbrev kO(l:List lH):List (Nat×Nat):=l.map (·.1)
def gN(f:Nat->Nat)(n:Nat):List (Nat×Nat):=(List.range n).map fun j=>(j,f j)
theorem sg(f:Nat->Nat)(n:Nat):gN f (n+1)=gN f n++[(n,f n)]:=by unfold gN;rw[dw,aK];rfl
theorem Ea(f:Nat->Nat)(n:Nat):(gN f n).length=n:=by simp[gN]
theorem wK(f:Nat->Nat)(k:Nat):∀d,gN f k<+:gN f (k+d)
 | 0=>List.prefix_refl _
 | d+1=>by
  refine(wK f k d).T ?_;show gN f (k+d)<+:gN f (k+d+1)
  rw[sg];exact List.prefix_append _ _
theorem tC {w:World}{B G c N:Nat}{f:Nat->Nat}{fr fr':Nat×Nat}(hN:N<=1000)(hf:∀j,j<N->f j<2^64)(hB:w.1[B]?=some (.cells #[.slice (some (y_ G)) N c] 177 fr))(hG:w.1[G]?=some (.cells (gO N f) 60 fr'))(R:Nat->Prop)(hRG:R G):
 SeqStopsK Fence.wide 6 prog 244 #[PV B] n9 (ir R) (fun xs=>kO xs=gN f N) (fun pre=>kO pre<+:gN f N) N w:=fun l J Jx W hW hJ hJx hY h0=>by
 have a0:=(gl hB);have a2:=(gl hG);have bb:W.cell? (y_ B)=some (.slice (some (y_ G)) N c):=e_ ((hW.block B a0).T hB)
 have a1:=(hW.block G a2).T hG;have HY:=If hY;have HJ:=kq2 hJ hJx;have H0:=kq4 h0 a1 hf hRG;clear hY hJ hJx h0 hB hG a1 hW hf hRG a0 a2;refine callsIn_of_wp func244 rfl trivial ?_ rfl;simp only[ntmps244,aV,aj,aJ,Nat.reduceAdd,Nat.reduceSub,aO,aP,aW,aR,aT,aL];gi_wp2_with fail;gi_loopw [3,4,7] (fun _ _ i wr=>∃k:Nat,k<=N/\i=Xi k/\Hid (ir R W wr/\∃pX,kO pX=gN f k/\J pX wr)) (fun _ _ i _=>N-(intOf i).toNat)
 case atStart=>exact⟨0,o_,rfl,ir.refl _ _,[],rfl,H0.a⟩
 case round=>
  obtain⟨k,hk,rfl,ap⟩:=hrel;by_cases hlt:k<N
  ·have bc:(k:Int)<N:=o_
   have C6:=(ap.O.1.block G H0.d).T H0.b;have hc:wr.cell? (x_ G k)=some (Xu (f k)):=by rw[q_ C6,mh f hlt]
   have a5:=H0.c k hlt;obtain⟨pX,ai,an⟩:=ap.O.2;obtain⟨xX,au⟩:∃xX:lH,xX.1=(k,f k):=⟨⟨(k,f k),o_,a5⟩,rfl⟩;have a8:pX.length=k:=by
    have:=congrArg List.length ai;rw[Ea] at this;simpa using this
   obtain⟨fn,bd,a',ba,hy,ar⟩:=HY.O pX xX wr an o_;have a7:kO (pX++[xX])=gN f (k+1):=by rw[sg,<-ai];show (pX++[xX]).map (·.1)=_;rw[aK];simp[au]
   have ad:=kq2 a7 hlt;dsimp only[n9] at hy
   rw[au] at hy;clear a7 ai a8 an au C6 a5;generalize f k=x at*;gi_wp2_with fail;refine ar.M ?_;rintro e w4 (⟨rfl,a3,a6⟩ | ⟨rfl,a4⟩)
   ·have H4:=kq2 (ap.O.1.T a6) a3;clear a3 a6 hy ar hc;gi_wp2_with fail;go_roundw
    case rel=>exact⟨k+1,ad.b,by go_num,H4.a,_,ad.a,H4.b⟩
    case measure=>have:=ad.b;simp[intOf];omega
   ·have H4:=If a4;have a9:gN f (k+1)<+:gN f N:=by
     obtain⟨d,hd⟩:∃d,N=k+1+d:=⟨N-(k+1),by have:=ad.b;omega⟩;rw[hd];exact wK f (k+1) d
    clear a4 hy ar hc;gi_wp2_with fail;refine bodyPost_ret (results_none rfl _ _ _) rfl ?_;exact⟨⟨_,rfl⟩,.inr ⟨_,by rw[ad.a];exact a9,H4.O⟩⟩
  ·obtain rfl:k=N:=o_
   gi_wp2
   go_end0
   obtain⟨pX,ai,an⟩:=ap.O.2;exact⟨⟨_,rfl⟩,.inl ⟨_,ai,an⟩⟩
