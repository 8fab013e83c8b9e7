/- The heap's heads: the iterator's contract, where bodies write rows of their own. -/
import Derived.Test.YtpljannolpapgaaGreatDoorTBx
import Derived.Test.YtpljannolpapgaaGreatDoorTXv
set_option maxRecDepth 100000
set_option maxHeartbeats 1600000
namespace Go.Proofs.YtpljannolpapgaaGreatDoor
open Go.RowKit Tryz Go.BigFrame Go.Maps Go.WideMaps Lf
open Go.Shelf
variable{Y:Nat->Prop}{s:q_}
attribute [local go_sem] Oper.semAt_some
theorem mA.v_{n0:Nat}{X:Nat->Prop}{A B:World}(h:D_ A B)(hn:n0<=A.1.size):mA n0 X A B:=⟨h.M hn,fun k _ _ e=>(h.block k (gl e)).T e⟩
theorem MT{w:World}{ph pa pm:Nat}(h:Fz w ph pa pm s Y):∀x∈wb s,x.1<=1048575/\x.2.l_<256/\x.2.n<2^56/\x.2.w<2^64:=by
 have key:∀(l:List Nat) (nx:Nat),(∀p∈l,p<=1048575)->∀x∈gC s nx l,x.1<=1048575/\x.2=FA s x.1:=by
  intro l
  induction l with
  | nil=>exact fun _ _ _ hx=>by cases hx
  | cons p l ih=>
   intro nx hp x hx;unfold gC at hx
   split at hx
   ·exact ih _ (fun q hq=>hp q (ak _ hq)) x hx
   ·rcases ah.1 hx with rfl | hx
    ·exact⟨hp p (av ..),rfl⟩
    ·exact ih _ (fun q hq=>hp q (ak _ hq)) x hx
 intro x hx;obtain⟨h1,h2⟩:=key s.j_ 0 (fun p hp=>h.wf.top p hp) x hx;rw[h2];exact⟨h1,getH_lt h x.1⟩
theorem Lp:∀{l:List (Nat×Hr)},(∀x∈l,x.1<=1048575/\x.2.l_<256/\x.2.n<2^56/\x.2.w<2^64)->∃r:List iH,gt r=l
 | [],_=>⟨[],rfl⟩
 | x::l,h=>by
  obtain⟨r,hr⟩:=Lp (l:=l) fun y hy=>h y (ak _ hy);exact⟨⟨x,h x (av ..)⟩::r,by show _::r.map (·.1)=_;rw[show r.map (·.1)=l from hr]⟩
theorem MS{w0 w:World}{ph pa pm:Nat}(h:Fz w0 ph pa pm s Y)(hb0:D_ w0 w)(B:Nat)(hBl:B<w.1.size)(hB:w.cell? (y_ B)=some (PV ph)):
 Kv Fence.wide 6 prog 159 #[PV B] mF (mA w0.1.size) (fun k=>k=B) (fun xs=>gt xs=wb s) w:=fun l J W hW hJ hY h0=>by
 have a4:=b_ hb0 hW;have hH:=h.a_ a4;have bx:W.cell? (y_ B)=some (PV ph):=(hW.cell (p:=y_ B) hBl).T hB;have b4:CallsIn Fence.wide 5 prog 132 #[PV pa] W _:=callsIn_wide.2 hH.C_;have c1:=hH.cell;have bv:=hW.size;have HY:=If hY;have ck:Fence.wide.fn 132:=trivial;have cj:Fence.wide.fn 153:=trivial;have HJ:=If hJ;have H0:=kq6 hH h0 a4 (aE hBl bv) bx h;clear hY hJ hH h0 h hB hW hBl hb0 a4 bv;refine callsIn_of_wp func159 rfl trivial ?_ rfl;simp only[ntmps159,aT,aj,aK,Nat.reduceAdd,Nat.reduceSub,aO,aP,aU,aR,aV,aJ];gi_wp2_with (gi_at_call 132;refine b4.M ?_;rintro e w1 ⟨v,rfl,⟨A,c,rfl,C6⟩,bb⟩)
 have HR:=kq3 C6 bb (H0.a.a_ bb);clear C6 bb c1;gi_loopw [3,5,13] (fun nx _ i wr=>∃k:Nat,k<=s.j_.length/\i=Xi k/\nx=Xi (fl s k).2/\Hid (mA w0.1.size (fun k=>k=B\/W.1.size<=k/\k<w1.1.size) w1 wr/\∃pX,gt pX=(fl s k).1/\J (fun k=>k=B\/W.1.size<=k/\k<w1.1.size) pX wr)) (fun _ _ i _=>s.j_.length-(intOf i).toNat)
 case atStart=>exact⟨0,o_,rfl,rfl,mA.refl _ _ _,[],rfl,HJ.O _ _ _ _ _ none H0.b (lf HR.b) (fun r e=>by cases e) (fun k hk=>hk)⟩
 case round=>
  obtain⟨k,hk,rfl,rfl,ad⟩:=hrel;have a9:=H0.c.T ((HR.b.M H0.c.size).T ad.O.1.1);have an:=H0.f.a_ a9;have cn:k<=4096:=by
   have h1:=an.wf.room;have h2:=an.wf.F_;rw[i8] at hk;omega
  by_cases hlt:k<s.j_.length
  ·obtain⟨b,o,rfl,a4,bm,bo⟩:=HR.a k hlt;have bo:=(xA (o:=o+k) (ad.O.1.eq (.inr ⟨a4,bm⟩) bm)).T bo;have b0:=aE H0.d HR.b.size;have ch:=(xA (o:=0) (ad.O.1.eq (.inl rfl) b0)).T ((HR.b.cell (p:=y_ B) H0.d).T H0.e);have bs:s.j_.getD k 0=s.j_[k]:=by rw[ay,af hlt];rfl
   have b9:s.j_[k]<=1048575:=an.wf.top _ (aq _);have bu:=uG an k o_;have a6:fl s (k+1)=if s.j_[k]<(fl s k).2 then fl s k
    else((fl s k).1++[(s.j_[k],FA s s.j_[k])],if(FA s s.j_[k]).l_=2 then s.j_[k]+(FA s s.j_[k]).n else(fl s k).2):=by
    conv=>lhs;unfold fl
    rw[bs]
   have bt:=uF s k;have cp:(k:Int)<s.j_.length:=o_
   have ar:Hid (k+1<=s.j_.length):=If hlt;have bd:∀pX:List iH,gt pX=(fl s (k+1)).1->∃r,gt (pX++r)=wb s:=fun pX hp=>by
    obtain⟨dd,hd⟩:∃dd,s.j_.length=k+1+dd:=⟨s.j_.length-(k+1),o_⟩;obtain⟨r,hr⟩:=qO s (k+1) dd;rw[<-hd,qN] at hr;obtain⟨r2,b'⟩:=Lp (l:=r) fun x hx=>MT H0.f x (by rw[<-hr];exact aA _ hx);exact⟨r2,by show (pX++r2).map (·.1)=_;rw[aQ,show pX.map (·.1)=(fl s (k+1)).1 from hp,show r2.map (·.1)=r from b',hr]⟩
   obtain⟨T,hT⟩:=Ii (fl s k);obtain⟨T',ba⟩:=Ii (fl s (k+1));rw[hT] at ad bu a6 bt⊢;rw[ba] at a6 bd;have bq:=getH_lt an s.j_[k];have b1:CallsIn Fence.wide 5 prog 153 #[PV ph,Xi (s.j_[k]:Nat)] wr _:=callsIn_wide.2 (qU an s.j_[k] o_);generalize FA s s.j_[k]=x at*;generalize s.j_[k]=p at*;obtain⟨a1,nx⟩:=T;simp only at ad bu a6 bt⊢;have HS:=kq5 ba a6 an bd a9;clear hT ba a6 an bs bd a9;by_cases hsk:p<nx
   ·have ap:T'=(a1,nx):=by rw[HS.b,if_pos hsk]
    gi_wp2_with fail;go_roundw
    case rel=>exact⟨k+1,ar.O,by go_num,by rw[HS.a,ap],by rw[HS.a,ap];exact ad⟩
    case measure=>have:=ar.O;simp[intOf];omega
   ·gi_wp2_with fail;refine b1.M ?_;rintro e w2 ⟨rfl,a8⟩;obtain⟨w3,ai⟩:=Ii (w2.alloc (Xj x.l_ x.n x.w));have a3:D_ wr w3:=by rw[<-ai];exact a8.alloc a8.size _
    obtain⟨pX,a0,a7⟩:=ad.O.2;have a':=HJ.O _ _ _ _ _ none a7 (lf a3) (fun r e=>by cases e) (fun _ hk=> .inl hk);have b2:pX.length=a1.length:=by rw[<-a0];exact(am _).S
    obtain⟨xX,bj⟩:∃xX:iH,xX.1=(p,x):=⟨⟨(p,x),b9,bq⟩,rfl⟩;have bc:gt (pX++[xX])=a1++[(p,x)]:=by show (pX++[xX]).map (·.1)=_;rw[aQ,show pX.map (·.1)=a1 from a0];simp[bj]
    obtain⟨rr,bf⟩:=HS.d (pX++[xX]) (by rw[bc,HS.b,if_neg hsk]);rw[aY] at bf;obtain⟨fn,cq,cb,cc,hy,au⟩:=HY.O _ pX xX w3 a' ⟨rr,bf⟩;have bk:=If bc;clear bc a0 b2 a7 bf;dsimp only[mF] at hy
    rw[bj] at hy;obtain⟨kd,xn,xw⟩:=x;dsimp only[fT] at hy
    simp only at bq ai;clear bj;by_cases hk2:kd=2
    ·subst hk2;have ap:T'=(a1++[(p,⟨2,xn,xw⟩)],p+xn):=by rw[HS.b,if_neg hsk,if_pos rfl]
     rw[show ((2:Nat):Int)=2 from rfl] at ai hy;rw[<-ai] at hy au;have H3:=If a3;rw[<-ai] at H3;clear a3 a8 a' ai;simp only[fT];gi_wp2_with fail;refine au.M ?_;rintro e w4 ⟨rfl,a2,a5⟩;have H4:=kq2 (ad.O.1.T ((mA.v_ H3.O (HS.e.size)).T a5)) a2;clear a2 a5 hy au;gi_wp2_with fail;go_roundw
     case rel=>exact⟨k+1,ar.O,by go_num,by rw[HS.a,ap];go_num,by rw[HS.a,ap];exact⟨H4.a,_,bk.O,H4.b⟩⟩
     case measure=>have:=ar.O;simp[intOf];omega
    ·have co:((kd:Int)==2)=false:=m_
     have ap:T'=(a1++[(p,⟨kd,xn,xw⟩)],nx):=by rw[HS.b,if_neg hsk,if_neg hk2]
     have ca:=If hk2;clear hk2;rw[<-ai] at hy au;have H3:=If a3;rw[<-ai] at H3;clear a3 a8 a' ai;simp only[fT];gi_wp2_with fail;refine au.M ?_;rintro e w4 ⟨rfl,a2,a5⟩;have H4:=kq2 (ad.O.1.T ((mA.v_ H3.O (HS.e.size)).T a5)) a2;clear a2 a5 hy au;gi_wp2_with fail;go_roundw
     case rel=>exact⟨k+1,ar.O,by go_num,by rw[HS.a,ap],by rw[HS.a,ap];exact⟨H4.a,_,bk.O,H4.b⟩⟩
     case measure=>have:=ar.O;simp[intOf];omega
  ·obtain rfl:k=s.j_.length:=o_
   gi_wp2
   go_end0
   obtain⟨pX,a0,a7⟩:=ad.O.2;rw[qN] at a0;exact⟨⟨_,rfl⟩,_,pX,a0,a7⟩
