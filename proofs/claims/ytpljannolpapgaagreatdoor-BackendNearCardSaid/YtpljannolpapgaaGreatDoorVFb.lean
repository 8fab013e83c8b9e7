/- The heap: what Alloc and Free do to the places of blocks: plain. -/
import Derived.Test.YtpljannolpapgaaGreatDoorVTa
import Derived.Defers
import Derived.Deep.RegionHeld3
import Derived.Deep.OwnRows
import Derived.Laws.IdiomStrings
set_option maxRecDepth 100000
set_option maxHeartbeats 3200000
namespace Go.Proofs.YtpljannolpapgaaGreatDoor
open Lf
variable{n:Nat}{o:Nat->Nat}{s:Slab}
theorem eQ.rd_lt(hw:eQ s)(a:Nat):s.rd a<2^64:=by
 by_cases hp:a / 64∈s.keys
 ·obtain⟨l,h1,h2⟩:=kK hp;rw[rY h1];have hl:=hw.len _ h2;have hi:a % 64<l.length:=by simp only at hl;omega
  rw[am,af hi];exact hw.word _ h2 _ (aF hi)
 ·rw[oR hp];decide
theorem eQ.getH_lt(hw:eQ s)(p:Nat):(FA s p).w<2^64:=hw.rd_lt _
theorem sR{w k j:Nat}:(iY w k).testBit j=(w.testBit j || decide (k=j)):=by
 unfold iY;rw[Nat.testBit_or,Nat.testBit_two_pow]
theorem xC{w k j:Nat}(hk:k<64)(hj:j<64):(iy w k).testBit j=(w.testBit j && !decide (k=j)):=by
 unfold iy;have h2:(2:Nat)^k<2^64:=Nat.pow_lt_pow_right (by decide) hk;have h1:(18446744073709551615-2^k:Nat)=2^64-(2^k+1):=by
  have:(2:Nat)^64=2^64:=by decide
  omega
 rw[Nat.testBit_and,h1,dm h2,Nat.testBit_two_pow]
 simp[hj]
structure Hu (s s':Slab) (o o':Nat->Nat) (a r:Nat):Prop where
 own:Own s' o'
 pl:∀a0 r0,eO s' o' a0 r0↔eO s o a0 r0\/(a0=a/\r0=r)
 fresh:∀r0,¬eO s o a r0
 rd:∀a0 r0 b,eO s o a0 r0->b<r0->s'.rd (a0+b)=s.rd (a0+b)
 quota:s'.quota=s.quota
theorem Ip{c k k' h:Nat}(hk:k<eJ c)(hk':k'<eJ c)(e:fF h c k=fF h c k'):k=k':=by
 have hc:=(jA hk).1;have h1:=kq hc hk h;have h2:=kq hc hk' h;refine Classical.byContradiction fun hn=>?_;have:=wV (c:=c) hn;omega
theorem we(h:Own s o){p k:Nat}(hp:p∈s.keys)(ho:o p=p)(hk1:(FA s p).kind=1)(hk:k<eJ (FA s p).n)(hb:(FA s p).w.testBit k=false):
 Hu s (fP s p k).2 o o (fF p (FA s p).n k) (et (FA s p).n)/\(fP s p k).2.pages.length=s.pages.length:=by
 obtain⟨x,hx⟩:=Ii (FA s p);have hd:=(h.down p hp ho).1;have a6:=h.wf.getH_lt p;have hc:=jA hk;rw[hx] at hk1 hk hb hd a6 hc⊢;obtain⟨e1,e2,e3⟩:=kq hc.1 hk p;obtain⟨a,ha⟩:=Ii (fF p x.n k);obtain⟨r,hr⟩:=Ii (et x.n);obtain⟨y,hy⟩:∃y:Hr,{ x with w:=iY x.w k } =y:=⟨_,rfl⟩;have ai:y.kind=1:=by rw[<-hy];exact hk1
 have ad:y.n=x.n:=by rw[<-hy]
 have a1:y.w=iY x.w k:=by rw[<-hy]
 have au:y.kind<256/\y.n<256:=by rw[ai,ad];exact⟨by decide,hd.small.2⟩
 have a9:y.w<2^64:=by rw[a1];exact tO a6 (by omega)
 have hs:(fP s p k).2=(Ie s p y).zero a r:=by
  unfold fP nY;simp only[hx,hy,ha,hr]
 rw[ha,hr,hs];rw[ha] at e1;rw[hr] at e1 e2 e3;have a8:eQ (Ie s p y):=rS h.wf p au.1 au.2 a9;have a7:eQ ((Ie s p y).zero a r):=yo a8 a r;have an:((Ie s p y).zero a r).keys=s.keys:=by rw[yi,oM]
 have a5:∀b,(b<a\/a+r<=b)->b≠p*64->b≠p*64+1->((Ie s p y).zero a r).rd b=s.rd b:=fun b h1 h2 h3=>by rw[tj _ _ _ h1,oN p y h2 h3]
 have al:FA ((Ie s p y).zero a r) p=y:=by
  rw[lQ (s:=Ie s p y) (fun b h1 h2=>tj _ _ _ (by omega))];exact rR h.wf hp au.1 au.2
 have ar:∀q,q≠p->FA ((Ie s p y).zero a r) q=FA s q:=fun q hq=>lQ fun b h1 h2=>a5 b (by omega) (by omega) (by omega);have a4:Own ((Ie s p y).zero a r) o:=by
  refine⟨a7,?_,?_⟩
  ·intro q hq;rw[an] at hq⊢;have:=h.up q hq
   by_cases e:o q=p
   ·rw[e,al];rw[e,hx] at this;refine⟨this.1,this.2.1,this.2.2.1,?_⟩;have h4:=this.2.2.2;unfold mj at h4⊢;rw[ai];rw[hk1] at h4;exact h4
   ·rw[ar _ e];exact this
  ·intro q hq hoq;rw[an] at hq⊢;have:=h.down q hq hoq
   by_cases e:q=p
   ·subst e;rw[al];rw[hx] at this;refine⟨aa ⟨ai,by rw[ad];exact hc.1⟩,fun j hj=>this.2 j ?_⟩;unfold mj at hj⊢;rw[ai] at hj;rw[hk1];exact hj
   ·rw[ar _ e];exact this
 have a2:∀a0 r0,eO ((Ie s p y).zero a r) o a0 r0↔eO s o a0 r0\/(a0=a/\r0=r):=by
  intro a0 r0
  constructor
  ·rintro⟨h0,g1,g2,g3⟩;rw[an] at g1
   by_cases e:h0=p
   ·subst e;rw[al] at g3
    rcases g3 with⟨f1,k',f2,f3,f4,f5⟩ | ⟨f1,_⟩
    ·rw[a1,sR] at f3;rw[ad] at f2 f4 f5
     by_cases ek:k=k'
     ·subst ek
      right;exact⟨f4.trans ha,f5.trans hr⟩
     ·left
      refine⟨h0,g1,g2,aa ⟨by rw[hx];exact hk1,k',by rw[hx];exact f2,?_,by rw[hx];exact f4,by rw[hx];exact f5⟩⟩;rw[hx]
      simpa[ek] using f3
    ·omega
   ·rw[ar _ e] at g3;exact aa ⟨h0,g1,g2,g3⟩
  ·rintro(⟨h0,g1,g2,g3⟩ | ⟨rfl,rfl⟩)
   ·refine⟨h0,by rw[an];exact g1,g2,?_⟩
    by_cases e:h0=p
    ·subst e;rw[al];rw[hx] at g3
     rcases g3 with⟨f1,k',f2,f3,f4,f5⟩ | ⟨f1,_⟩
     ·exact aa ⟨ai,k',by rw[ad];exact f2,by rw[a1,sR,f3];rfl,by rw[ad];exact f4,by rw[ad];exact f5⟩
     ·omega
    ·rw[ar _ e];exact g3
   ·refine⟨p,by rw[an];exact hp,ho,?_⟩;rw[al];exact aa ⟨ai,k,by rw[ad];exact hk,by rw[a1,sR];simp,by rw[ad];exact ha.symm,by rw[ad];exact hr.symm⟩
 have a3:∀r0,¬eO s o a r0:=by
  rintro r0 ⟨h0,hq⟩;have ba:=(hq.pos h).2.1;have:h0=p:=by omega
  subst this;have g3:=hq.2.2;rw[hx] at g3
  rcases g3 with⟨f1,k',f2,f3,f4,f5⟩ | ⟨f1,_⟩
  ·have:=Ip hk f2 (ha.trans f4);subst this;rw[hb] at f3
   cases f3
  ·omega
 refine⟨⟨a4,a2,a3,?_,?_⟩,?_⟩
 ·intro a0 r0 b hq hbr;have a':=eO.apart a4 ((a2 a0 r0).2 (aa hq)) ((a2 a r).2 (ae ⟨rfl,rfl⟩));have bb:¬a0=a:=by rintro rfl;exact a3 _ hq
  obtain⟨h0,hq⟩:=hq;have hh:=fun e=>hq.not_head h (b:=b) hbr ho e;refine a5 _ (by omega) ?_ ?_
  ·intro e;have:=hh (by omega);omega
  ·intro e;have:=hh (by omega);omega
 ·rw[yn,ng]
 ·rw[yj,nf]
theorem uD(hw:eQ s)(h1:1<=n)(h2:n<=100)(h3:(s.pages.length+n)*64<=s.quota):∃p,s.grant n=((p,0),s.addRun p n)/\p<=409601/\∀k,k<n->p+k∉s.keys:=by
 obtain⟨t,_,ht,hf⟩:=qH n s.pages.length s.keys (by rw[i8];exact Nat.le_refl _) 0;have ai:s.run n t=true:=mi.2 hf;obtain⟨t',h4,h5,h6⟩:=vn t ai;have he:=qE h5 (s.pages.length*n+1) 0 (cz _) (by omega) fun g _ hg=>h6 g hg;have hg:s.grant n=((t',0),s.addRun t' n):=by
  unfold Slab.grant;rw[if_neg (by omega),if_neg (by omega)];simp only[he]
 have ad:=mJ hw h2;rw[hg] at ad;exact⟨t',hg,ad,mi.1 h5⟩
theorem Il(h:Own s o){p n:Nat}{x:Hr}(hx:kT x)(hxn:mj x=n)(hxw:x.w<2^64)(hfree:∀k,k<n->p+k∉s.keys)(hp:p+n<=1048576)(hr:(s.pages.length+n)*64<=s.quota):
 ∃o',Own (Ie (s.addRun p n) p x) o'/\o' p=p/\p∈(Ie (s.addRun p n) p x).keys/\FA (Ie (s.addRun p n) p x) p=x/\
  (∀a r,eO (Ie (s.addRun p n) p x) o' a r↔eO s o a r\/nH x p a r)/\(∀a r b,eO s o a r->b<r->(Ie (s.addRun p n) p x).rd (a+b)=s.rd (a+b)):=by
 have a6:1<=n:=by
  rw[<-hxn];unfold mj;rcases hx with hx | hx
  ·rw[if_neg (by omega)];exact Nat.le_refl _
  ·rw[if_pos hx.1];exact hx.2.1
 have a3:eQ (s.addRun p n):=tz h.wf n hfree hp hr;obtain⟨a1,a2⟩:=hx.small;have a5:eQ (Ie (s.addRun p n) p x):=rS a3 p a1 a2 hxw;have ad:∀q,q∈(Ie (s.addRun p n) p x).keys↔q∈s.keys\/(p<=q/\q<p+n):=fun q=>by rw[oM,nK]
 have ar:p∈(Ie (s.addRun p n) p x).keys:=(ad p).2 (ae (by omega));have al:FA (Ie (s.addRun p n) p x) p=x:=rR a3 (by rw[<-oM (s.addRun p n) p x];exact ar) a1 a2;have a0:∀b,(b / 64<p\/p+n<=b / 64)->(Ie (s.addRun p n) p x).rd b=s.rd b:=fun b hb=>by
  rw[oN p x (by omega) (by omega),tx s p n hb]
 have au:∀q,q∈s.keys->q<p\/p+n<=q:=fun q hq=>by
  refine Classical.byContradiction fun hc=>?_;have:=hfree (q-p) (by omega);rw[show p+(q-p)=q by omega] at this;exact this hq
 have an:∀q,q∈s.keys->FA (Ie (s.addRun p n) p x) q=FA s q:=fun q hq=>lQ fun b h1 h2=>a0 b (by rw[h1];exact au q hq);have ai:∀q,q∈s.keys->(if p<=q/\q<p+n then p else o q)=o q:=fun q hq=>if_neg (by have:=au q hq;omega);have a4:Own (Ie (s.addRun p n) p x) (fun q=>if p<=q/\q<p+n then p else o q):=by
  refine⟨a5,?_,?_⟩
  ·intro q hq;rcases(ad q).1 hq with hq | hq
   ·have:=h.up q hq;simp only[ai q hq,ai _ this.1];rw[an _ this.1];exact⟨(ad _).2 (aa this.1),this.2⟩
   ·have e1:(if p<=q/\q<p+n then p else o q)=p:=if_pos hq;have e2:(if p<=p/\p<p+n then p else o p)=p:=if_pos (by omega);simp only[e1,e2];rw[al,hxn];exact⟨ar,trivial,hq.1,hq.2⟩
  ·intro q hq hoq;rcases(ad q).1 hq with hq | hq
   ·rw[ai q hq] at hoq;rw[an q hq];have:=h.down q hq hoq;refine⟨this.1,fun k hk=>?_⟩;have h3:=this.2 k hk;simp only[ai _ h3.1];exact⟨(ad _).2 (aa h3.1),h3.2⟩
   ·rw[if_pos hq] at hoq;subst hoq;rw[al,hxn];refine⟨hx,fun k hk=>⟨(ad _).2 (ae (by omega)),?_⟩⟩;try dsimp only
    rw[if_pos (by omega)]
 refine⟨_,a4,if_pos (by omega),ar,al,?_,?_⟩
 ·intro a r;constructor
  ·rintro⟨q,g1,g2,g3⟩;dsimp only at g2
   rcases(ad q).1 g1 with hq | hq
   ·rw[ai q hq] at g2;rw[an q hq] at g3;exact aa ⟨q,hq,g2,g3⟩
   ·rw[if_pos hq] at g2;subst g2;rw[al] at g3;exact ae g3
  ·rintro(⟨q,g1,g2,g3⟩ | hb)
   ·exact⟨q,(ad q).2 (aa g1),by simp only;rw[ai q g1];exact g2,by rw[an q g1];exact g3⟩
   ·exact⟨p,ar,by simp only;rw[if_pos (by omega)],by rw[al];exact hb⟩
 ·rintro a r b ⟨q,hq⟩ hb;exact a0 _ (au _ (hq.word h hb).1)
theorem Hy{n c:Nat}(h:ma n=some c):n<=et c/\c<8:=by
 refine⟨?_,tZ h⟩;unfold ma at h;have:=cE h;unfold et;simpa using this
theorem Am(h:ma n=none):28<n:=by
 unfold ma at h;have:=bB.1 h 7 (by simp)
 simp[iP] at this
 omega
theorem zn{w n k:Nat}(h:fW w n=some k):w.testBit k=false:=by
 unfold fW at h;have:=cE h;simpa using this
theorem yE(h:Own s o)(h1:1<=n)(h2:n<=4000)(hr:(s.pages.length+fa n)*64<=s.quota):
 ∃a s' o' r,fR s n=((a,0),s')/\Hu s s' o o' a r/\n<=r/\s'.pages.length<=s.pages.length+fa n:=by
 cases hc:ma n with
 | none=>
  have a1:=Am hc;have ad:fa n=(n+65) / 64:=by unfold fa;rw[if_neg (by omega),hc]
  obtain⟨p,hg,hp,hf⟩:=uD h.wf (n:=fa n) (by omega) (by omega) hr;have hx:kT ⟨2,fa n,n⟩:=ae ⟨rfl,by simp only;omega,by simp only;omega⟩;have ai:mj ⟨2,fa n,n⟩=fa n:=rfl;obtain⟨o',q1,q2,q3,q4,q5,q6⟩:=Il h hx ai (by simp only;omega) hf (by omega) hr;refine⟨p*64+2,Ie (s.addRun p (fa n)) p ⟨2,fa n,n⟩,o',fa n*64-2,?_,⟨q1,?_,?_,q6,?_⟩,by omega,?_⟩
  ·unfold fR;rw[if_neg (by omega),hc];simp only[hg]
  ·intro a0 r0;rw[q5]
   constructor
   ·rintro(hq | ⟨f1,_⟩ | ⟨f1,f2,f3⟩)
    ·exact aa hq
    ·cases f1
    ·refine ae ⟨f2,?_⟩;simp only at f3;omega
   ·rintro(hq | ⟨rfl,rfl⟩)
    ·exact aa hq
    ·exact ae (ae ⟨rfl,rfl,by simp only;omega⟩)
  ·rintro r0 ⟨q,hq⟩;have e:=(hq.pos h).2.1;have e2:q=p:=by omega
   subst e2;exact hf 0 (by omega) hq.1
  ·rw[ng,mw]
  ·rw[nf,mu];exact Nat.le_refl _
 | some c=>
  obtain⟨an,ar⟩:=Hy hc;have ad:fa n=1:=by unfold fa;rw[if_neg (by omega),hc]
  cases hs:kt s c with
  | some pk=>
   obtain⟨p,k⟩:=pk;obtain⟨x,hm,g1,g2,g3⟩:=oX _ hs;obtain⟨m1,m2,m3⟩:=(h.mem_heads _).1 hm;simp only at m1 m2 m3;subst m3;obtain⟨T,hl⟩:=we h m1 m2 g1 (by rw[g2];exact tN g3) (zn g3);refine⟨(fP s p k).1,(fP s p k).2,o,et (FA s p).n,?_,T,by rw[g2];exact an,by rw[hl];omega⟩;unfold fR;rw[if_neg (by omega),hc];simp only[hs]
  | none=>
   rw[ad] at hr;obtain⟨p,hg,hp,hf⟩:=uD h.wf (n:=1) (by omega) (by omega) hr;have hx:kT ⟨1,c,0⟩:=aa ⟨rfl,ar⟩;have ai:mj ⟨1,c,0⟩=1:=rfl;obtain⟨o',q1,q2,q3,q4,q5,q6⟩:=Il h hx ai (by simp only;omega) hf (by omega) hr;have au:0<eJ c:=by
    have:c=0\/c=1\/c=2\/c=3\/c=4\/c=5\/c=6\/c=7:=by omega
    rcases this with rfl | rfl | rfl | rfl | rfl | rfl | rfl | rfl<;>simp[eJ,iP]
   obtain⟨T,hl⟩:=we q1 (k:=0) q3 q2 (by rw[q4]) (by rw[q4];exact au) (by rw[q4];simp);have al:∀a r,eO (Ie (s.addRun p 1) p ⟨1,c,0⟩) o' a r↔eO s o a r:=fun a r=>by
    rw[q5]
    constructor
    ·rintro(hq | ⟨_,k,_,f,_⟩ | ⟨f,_⟩)
     ·exact hq
     ·simp at f
     ·cases f
    ·exact aa
   refine⟨(fP (Ie (s.addRun p 1) p ⟨1,c,0⟩) p 0).1,(fP (Ie (s.addRun p 1) p ⟨1,c,0⟩) p 0).2,o',et (FA (Ie (s.addRun p 1) p ⟨1,c,0⟩) p).n,?_,⟨T.own,?_,?_,?_,?_⟩,?_,?_⟩
   ·unfold fR;rw[if_neg (by omega),hc];simp only[hs,hg]
   ·intro a0 r0;rw[T.pl,al]
    rfl
   ·intro r0 hq;exact T.fresh r0 ((al _ _).2 hq)
   ·intro a0 r0 b hq hb;rw[T.rd a0 r0 b ((al _ _).2 hq) hb];exact q6 a0 r0 b hq hb
   ·rw[T.quota,ng,mw]
   ·rw[q4];exact an
   ·rw[hl,nf,mu,ad];exact Nat.le_refl _
structure yu (s s':Slab) (o:Nat->Nat) (a:Nat):Prop where
 own:Own s' o
 pl:∀a0 r0,eO s' o a0 r0↔eO s o a0 r0/\a0≠a
 rd:∀a0 r0 b,eO s' o a0 r0->b<r0->s'.rd (a0+b)=s.rd (a0+b)
 quota:s'.quota=s.quota
 len:s'.pages.length<=s.pages.length
theorem GC(h:Own s o){p n:Nat}(hp:p∈s.keys)(ho:o p=p)(hn:mj (FA s p)=n):
 Own (s.delRun p n) o/\(∀a r,eO (s.delRun p n) o a r↔eO s o a r/\a / 64≠p)/\(∀a r b,eO (s.delRun p n) o a r->b<r->(s.delRun p n).rd (a+b)=s.rd (a+b)):=by
 have dn:=(h.down p hp ho).2;rw[hn] at dn;have ad:∀q,q∈(s.delRun p n).keys↔q∈s.keys/\¬(p<=q/\q<p+n):=fun q=>vL;have al:∀q,q∈(s.delRun p n).keys->FA (s.delRun p n) q=FA s q:=fun q hq=>lQ fun b h1 h2=>qr s p n (by have:=((ad q).1 hq).2;omega);have ai:∀q,q∈s.keys->(o q=p↔p<=q/\q<p+n):=fun q hq=>by
  constructor
  ·intro e;have:=h.up q hq;rw[e,hn] at this;exact⟨this.2.2.1,this.2.2.2⟩
  ·intro e;have:=(dn (q-p) (by omega)).2;rw[show p+(q-p)=q by omega] at this;exact this
 have ar:Own (s.delRun p n) o:=by
  refine⟨ug h.wf p n,?_,?_⟩
  ·intro q hq;obtain⟨g1,g2⟩:=(ad q).1 hq;have:=h.up q g1;have hk:o q∈(s.delRun p n).keys:=(ad _).2 ⟨this.1,fun hc=>by
    have e:=(ai (o q) this.1).2 hc;rw[this.2.1] at e;exact g2 ((ai q g1).1 e)⟩
   rw[al _ hk];exact⟨hk,this.2⟩
  ·intro q hq hoq;obtain⟨g1,g2⟩:=(ad q).1 hq;rw[al q hq];have:=h.down q g1 hoq;refine⟨this.1,fun k hk=>?_⟩;have h3:=this.2 k hk;refine⟨(ad _).2 ⟨h3.1,fun hc=>?_⟩,h3.2⟩;have e:=(ai _ h3.1).2 hc;rw[h3.2] at e;subst e;exact g2 ((ai q g1).1 hoq)
 have au:∀a r,eO (s.delRun p n) o a r↔eO s o a r/\a / 64≠p:=by
  intro a r
  constructor
  ·rintro⟨q,g1,g2,g3⟩;have hk:=(ad q).1 g1;rw[al q g1] at g3;have hq:gZ s o q a r:=⟨hk.1,g2,g3⟩;refine⟨⟨q,hq⟩,?_⟩;rw[(hq.pos h).2.1];rintro rfl;exact hk.2 ((ai q hk.1).1 g2)
  ·rintro⟨⟨q,hq⟩,an⟩;rw[(hq.pos h).2.1] at an;have hk:q∈(s.delRun p n).keys:=(ad q).2 ⟨hq.1,fun hc=>an (by rw[<-hq.2.1];exact(ai q hq.1).2 hc)⟩;exact⟨q,hk,hq.2.1,by rw[al q hk];exact hq.2.2⟩
 refine⟨ar,au,?_⟩;rintro a r b ⟨q,hq⟩ hb;have hk:=((ad _).1 (hq.word ar hb).1).2;exact qr s p n (by omega)
theorem wH(hw:eQ s){p n:Nat}(h1:1<=n)(h2:n<=64)(hk:∀k,k<n->p+k∈s.keys):s.release p n=(0,s.delRun p n):=by
 have ad:=hw.top _ (hk (n-1) (by omega));unfold Slab.release;rw[if_neg (by omega),if_pos (si.2 hk)]
theorem qd(a:Nat):∀(l:List (Nat×Hr)) {p k:Nat} {x:Hr},fS a l=some (p,k,x)->(p,x)∈l/\((x.kind=2/\a=p*64+2)\/(x.kind=1/\k<eJ x.n/\fF p x.n k=a/\x.w.testBit k=true))
 | [],p,k,x,h=>by unfold fS at h;cases h
 | (q,y)::r,p,k,x,h=>by
  unfold fS at h;split at h
  ·rename_i hc;have h:=Option.some.inj h;injection h with e1 e2
   injection e2 with e2 e3
   subst e1 e2 e3;exact⟨aq ..,aa hc⟩
  ·split at h
   ·have:=qd a r h;exact⟨ah _ this.1,this.2⟩
   ·rename_i hc;split at h
    ·rename_i k' hk';have h:=Option.some.inj h;injection h with e1 e2
     injection e2 with e2 e3
     subst e1 e2 e3;unfold mB at hk';have hm:=bI hk';have hp:=cE hk';simp only[bw] at hm;simp only[aI,decide_eq_true_eq,jI] at hp;have ad:¬(y.kind≠1):=fun e=>hc (aa e);exact⟨aq ..,ae ⟨cZ.1 ad,hm,hp.1,hp.2.2⟩⟩
    ·have:=qd a r h;exact⟨ah _ this.1,this.2⟩
theorem qw(a:Nat):∀(l:List (Nat×Hr)),fS a l=none->∀p x,(p,x)∈l->¬(x.kind=2/\a=p*64+2)/\(x.kind=1->a / 64=p->∀k,k<eJ x.n->fF p x.n k=a->x.w.testBit k=false)
 | [],_,p,x,hm=>by cases hm
 | (q,y)::r,h,p,x,hm=>by
  unfold fS at h;split at h
  ·cases h
  ·rename_i hc1;split at h
   ·rename_i hc;rcases ag.1 hm with e | e
    ·injection e with e1 e2
     subst e1 e2;refine⟨hc1,fun g1 g2=>?_⟩;rcases hc with hc | hc
     ·exact absurd g1 hc
     ·exact absurd g2 hc
    ·exact qw a r h p x e
   ·split at h
    ·cases h
    ·rename_i hs;rcases ag.1 hm with e | e
     ·injection e with e1 e2
      subst e1 e2;refine⟨hc1,fun _ _ k hk he=>?_⟩;unfold mB at hs;have:=bB.1 hs k (bw.2 hk);have ad:=(jA hk).2;simpa[he,jI,show k<64 by omega] using this
     ·exact qw a r h p x e
theorem GY(h:Own s o){a r:Nat}(hp:eO s o a r):∃p k,kb s a=some (p,k,FA s p)/\p∈s.keys/\o p=p/\a / 64=p/\(((FA s p).kind=2/\a=p*64+2)\/((FA s p).kind=1/\k<eJ (FA s p).n/\fF p (FA s p).n k=a/\(FA s p).w.testBit k=true)):=by
 obtain⟨q,hq⟩:=hp;have ad:=(hq.pos h).2.1;have ai:(q,FA s q)∈kf s:=(h.mem_heads _).2 ⟨hq.1,hq.2.1,rfl⟩
 cases hf:kb s a with
 | none=>
  exfalso
  have:=qw a _ hf q _ ai
  rcases hq.2.2 with⟨f1,k,f2,f3,f4,f5⟩ | ⟨f1,f2,f3⟩
  ·have:=this.2 f1 ad k f2 f4.symm;rw[this] at f3
   cases f3
  ·exact this.1 ⟨f1,f2⟩
 | some t=>
  obtain⟨p,k,x⟩:=t;obtain⟨hm,hx⟩:=qd a _ hf;obtain⟨m1,m2,m3⟩:=(h.mem_heads _).1 hm;simp only at m1 m2 m3;subst m3;refine⟨p,k,rfl,m1,m2,?_,hx⟩
  rcases hx with hx | hx
  ·omega
  ·obtain⟨e1,e2,e3⟩:=kq (jA hx.2.1).1 hx.2.1 p;omega
theorem A9(h:Own s o){a r:Nat}(hp:eO s o a r):∃s',iM s a=(0,s')/\yu s s' o a:=by
 obtain⟨p,k,hf,m1,m2,m3,hx⟩:=GY h hp;have hd:=h.down p m1 m2;obtain⟨x,ad⟩:=Ii (FA s p);have bb:=h.wf.getH_lt p;rw[ad] at hf hx hd bb
 rcases hx with⟨x1,x2⟩ | ⟨x1,x2,x3,x4⟩
 ·have a3:mj x=x.n:=by unfold mj;rw[if_pos x1]
  obtain⟨bc,dn⟩:=hd;rw[a3] at dn;have hn:1<=x.n/\x.n<=64:=by rcases bc with g | g<;>omega
  have a6:=wH h.wf hn.1 hn.2 fun j hj=>(dn j hj).1;obtain⟨q1,q2,q3⟩:=GC (n:=x.n) h m1 m2 (by rw[ad];exact a3);refine⟨s.delRun p x.n,?_,q1,?_,q3,Jk s p _,qo s p _⟩
  ·unfold iM;rw[hf];simp only[x1,if_true];exact a6
  ·intro a0 r0;rw[q2]
   constructor
   ·rintro⟨g,ar⟩;exact⟨g,fun e=>ar (by rw[e];exact m3)⟩
   ·rintro⟨g,ar⟩;refine⟨g,fun e=>ar ?_⟩;obtain⟨q,hq⟩:=g;have:=(hq.pos h).2.1;have e2:q=p:=by omega
    subst e2;have g3:=hq.2.2;rw[ad] at g3
    rcases g3 with⟨f1,_⟩ | ⟨f1,f2,f3⟩
    ·omega
    ·omega
 ·have a8:=(jA x2).1;have bf:=(jA x2).2;obtain⟨e1,e2,e3⟩:=kq a8 x2 p;obtain⟨y,hy⟩:∃y:Hr,{ x with w:=iy x.w k } =y:=⟨_,rfl⟩;have au:y.kind=1:=by rw[<-hy];exact x1
  have an:y.n=x.n:=by rw[<-hy]
  have a7:y.w=iy x.w k:=by rw[<-hy]
  have a4:y.kind<256/\y.n<256:=by rw[au,an];omega
  have bd:y.w<2^64:=by rw[a7];exact cV Nat.and_le_left bb
  have ba:eQ (Ie s p y):=rS h.wf p a4.1 a4.2 bd;have ai:FA (Ie s p y) p=y:=rR h.wf m1 a4.1 a4.2;have a1:∀q,q≠p->FA (Ie s p y) q=FA s q:=fun q hq=>lQ fun b h1 h2=>oN p y (by omega) (by omega);have al:=oM s p y;have a5:Own (Ie s p y) o:=by
   refine⟨ba,?_,?_⟩
   ·intro q hq;rw[al] at hq⊢;have:=h.up q hq
    by_cases e:o q=p
    ·rw[e,ai];rw[e,ad] at this;refine⟨this.1,this.2.1,this.2.2.1,?_⟩;have h4:=this.2.2.2;unfold mj at h4⊢;rw[au];rw[x1] at h4;exact h4
    ·rw[a1 _ e];exact this
   ·intro q hq hoq;rw[al] at hq⊢;have:=h.down q hq hoq
    by_cases e:q=p
    ·subst e;rw[ai];rw[ad] at this;refine⟨aa ⟨au,by rw[an];exact a8⟩,fun j hj=>this.2 j ?_⟩;unfold mj at hj⊢;rw[au] at hj;rw[x1];exact hj
    ·rw[a1 _ e];exact this
  have a2:∀a0 r0,eO (Ie s p y) o a0 r0↔eO s o a0 r0/\a0≠a:=by
   intro a0 r0
   constructor
   ·rintro⟨q,g1,g2,g3⟩;rw[al] at g1
    by_cases e:q=p
    ·subst e;rw[ai] at g3
     rcases g3 with⟨f1,k',f2,f3,f4,f5⟩ | ⟨f1,_⟩
     ·rw[an] at f2 f4 f5;rw[a7,xC (by omega) (by have:=(jA f2).2;omega)] at f3;simp only[aI,Bool.not_eq_true',decide_eq_false_iff_not] at f3;refine⟨⟨q,g1,g2,by rw[ad];exact aa ⟨x1,k',f2,f3.1,f4,f5⟩⟩,?_⟩;intro e;exact f3.2 (Ip x2 f2 (x3.trans (e.symm.trans f4)))
     ·omega
    ·rw[a1 _ e] at g3;have hq:gZ s o q a0 r0:=⟨g1,g2,g3⟩;refine⟨⟨q,hq⟩,?_⟩;have:=(hq.pos h).2.1;rintro rfl;exact e (by omega)
   ·rintro⟨⟨q,hq⟩,ar⟩;refine⟨q,by rw[al];exact hq.1,hq.2.1,?_⟩
    by_cases e:q=p
    ·subst e;rw[ai];have g3:=hq.2.2;rw[ad] at g3
     rcases g3 with⟨f1,k',f2,f3,f4,f5⟩ | ⟨f1,_⟩
     ·refine aa ⟨au,k',by rw[an];exact f2,?_,by rw[an];exact f4,by rw[an];exact f5⟩;rw[a7,xC (by omega) (by have:=(jA f2).2;omega),f3];have:k≠k':=by rintro rfl;exact ar (f4.trans x3)
      simp[this]
     ·omega
    ·rw[a1 _ e];exact hq.2.2
  have a':∀a0 r0 b,eO (Ie s p y) o a0 r0->b<r0->(Ie s p y).rd (a0+b)=s.rd (a0+b):=by
   intro a0 r0 b hq hb;obtain⟨q,hq⟩:=((a2 a0 r0).1 hq).1;have hh:=fun e=>hq.not_head h (b:=b) hb m2 e;refine oN p y ?_ ?_
   ·intro e;have:=hh (by omega);omega
   ·intro e;have:=hh (by omega);omega
  have a9:iM s a=(0,li s p k):=by
   unfold iM;rw[hf];simp only;rw[if_neg (by omega)]
  by_cases hz:y=⟨1,x.n,0⟩
  ·have a3:mj (FA (Ie s p y) p)=1:=by rw[ai,hz];rfl
   obtain⟨q1,q2,q3⟩:=GC a5 (p:=p) (n:=1) (by rw[al];exact m1) m2 a3;have a6:=wH ba (p:=p) (n:=1) (by omega) (by omega) fun j hj=>by
    obtain rfl:j=0:=by omega
    rw[al];exact m1
   refine⟨(Ie s p y).delRun p 1,?_,q1,?_,?_,?_,?_⟩
   ·rw[a9];unfold li;simp only[ad,hy];rw[if_pos hz,a6]
   ·intro a0 r0;rw[q2,a2]
    constructor
    ·rintro⟨g,_⟩;exact g
    ·intro g;refine⟨g,fun e=>?_⟩;obtain⟨q,hq⟩:=(a2 a0 r0).2 g;have:=(hq.pos a5).2.1;have e2:q=p:=by omega
     subst e2;have g3:=hq.2.2;rw[ai,hz] at g3
     rcases g3 with⟨_,k',_,f,_⟩ | ⟨f,_⟩
     ·simp at f
     ·cases f
   ·intro a0 r0 b hq hb;rw[q3 a0 r0 b hq hb];exact a' a0 r0 b ((q2 a0 r0).1 hq).1 hb
   ·rw[Jk,ng]
   ·exact aK (qo _ _ _) (by rw[nf];exact Nat.le_refl _)
  ·refine⟨Ie s p y,?_,a5,a2,a',ng s p y,by rw[nf];exact Nat.le_refl _⟩;rw[a9];unfold li;simp only[ad,hy];rw[if_neg hz]
end Go.Proofs.YtpljannolpapgaaGreatDoor
namespace Go.Proofs.YtpljannolpapgaaGreatDoor
open Go.RowKit Tryz Go.BigFrame Go.Maps Go.WideMaps Lf
open Go.Shelf
variable{B:Nat}{W:World}{Y:Nat->Prop}{blk:Nat->Nat}{v:Value}{w:World}
def Cx(W:World)(B i:Nat)(v:Value):Prop:=W.cell? ⟨B,i,none⟩=some v/\W.frozen? ⟨B,i,none⟩=false
theorem Cx.kept{W W':World}{row:Option Nat}{B i:Nat}(h:Cx W B i v)(hg:W.grownBy W' row)(hr:∀r,row=some r->∃o:Obj,W.heap[r]?=some o/\o.isCells=false):Cx W' B i v:=
 ⟨cell_kept h.1 hg hr,(frozen_kept h.1 hg hr).trans h.2⟩
theorem Cx.alloc{B i:Nat}(h:Cx W B i v)(o:Obj):Cx (W.alloc o) B i v:=h.kept (World.grownBy_alloc W o none) (fun r e=>by cases e)
theorem Cx.set{B i:Nat}(h:Cx W B i v)(u:Value):Cx (W.setCell ⟨B,i,none⟩ u) B i u:=
 ⟨World.cell?_setCell_same' _ _ _ (by rw[h.1];rfl),by rw[World.frozen?_setCell];exact h.2⟩
theorem Cx.other{B C i j:Nat}(h:Cx W B i v)(u:Value)(hne:B≠C):Cx (W.setCell ⟨C,j,none⟩ u) B i v:=by
 refine⟨?_,by rw[World.frozen?_setCell];exact h.2⟩;have e:(W.setCell ⟨C,j,none⟩ u).cell? ⟨B,i,none⟩=W.cell? ⟨B,i,none⟩:=World.cell?_of_block (di W ⟨C,j,none⟩ u B hne);rw[e];exact h.1
theorem Cx.put{B D i:Nat}{o o':Obj}(h:Cx W B i v)(hD:W.heap[D]?=some o)(ho:o.isCells=false):Cx (W.putObj D o') B i v:=
 h.kept (grownBy_putObj' W D o') (fun r e=>by cases e;exact⟨o,hD,ho⟩)
theorem Cx.below{W W':World}{B n i:Nat}(h:Cx W B i v)(hb:Below n W W')(hB:B<n):Cx W' B i v:=
 ⟨(hb.cell (p:=⟨B,i,none⟩) hB).trans h.1,(hb.frozen (p:=⟨B,i,none⟩) hB).trans h.2⟩
theorem Cx.lt{B i:Nat}(h:Cx W B i v):B<W.heap.size:=by
 have:=h.1;unfold World.cell? at this
 split at this
 ·rename_i heq;exact(gl heq)
 ·cases this
def Hx(W:World)(B:Nat)(x:Hr):Prop:=W.heap[B]?=some (.cells #[Xi x.kind,Xi x.n,Xu x.w] 188 (0,0))
theorem Hx.new(W:World)(x:Hr):Hx (W.alloc (Xm x.kind x.n x.w)) W.heap.size x:=by
 show (W.heap.push _)[W.heap.size]?=_
 simp
theorem Hx.lt{x:Hr}(h:Hx W B x):B<W.heap.size:=(gl h)
theorem Hx.kept{W W':World}{row:Option Nat}{x:Hr}(h:Hx W B x)(hg:W.grownBy W' row)(hr:∀r,row=some r->∃o:Obj,W.heap[r]?=some o/\o.isCells=false):Hx W' B x:=
 (hg.block B h.lt (fun e=>by
  obtain⟨o,ho,hc⟩:=hr B e.symm;rw[show W.heap[B]?=_ from h] at ho;injection ho with ho
  rw[<-ho] at hc;cases hc)).trans h
theorem Hx.alloc{x:Hr}(h:Hx W B x)(o:Obj):Hx (W.alloc o) B x:=h.kept (World.grownBy_alloc W o none) (fun r e=>by cases e)
theorem Hx.other{B C j:Nat}{x:Hr}(h:Hx W B x)(u:Value)(hne:B≠C):Hx (W.setCell ⟨C,j,none⟩ u) B x:=(di W ⟨C,j,none⟩ u B hne).trans h
theorem Hx.put{B D:Nat}{x:Hr}{o o':Obj}(h:Hx W B x)(hD:W.heap[D]?=some o)(ho:o.isCells=false):Hx (W.putObj D o') B x:=
 h.kept (grownBy_putObj' W D o') (fun r e=>by cases e;exact⟨o,hD,ho⟩)
theorem Hx.below{W W':World}{B n:Nat}{x:Hr}(h:Hx W B x)(hb:Below n W W')(hB:B<n):Hx W' B x:=(hb.block B hB).trans h
theorem Hx.set{x:Hr}(h:Hx W B x)(y:Hr):Hx (((W.setCell ⟨B,0,none⟩ (Xi y.kind)).setCell ⟨B,1,none⟩ (Xi y.n)).setCell ⟨B,2,none⟩ (Xu y.w)) B y:=by
 have:=heap_setCell (v:=Xu y.w) (i:=2) (heap_setCell (v:=Xi y.n) (i:=1) (heap_setCell (v:=Xi y.kind) (i:=0) h));exact this
theorem Hx.c0{x:Hr}(h:Hx W B x):Cx W B 0 (Xi x.kind):=⟨by rw[cell_of_block h];rfl,AT h⟩
theorem Hx.c1{x:Hr}(h:Hx W B x):Cx W B 1 (Xi x.n):=⟨by rw[cell_of_block h];rfl,AT h⟩
theorem Hx.c2{x:Hr}(h:Hx W B x):Cx W B 2 (Xu x.w):=⟨by rw[cell_of_block h];rfl,AT h⟩
theorem lO(addr p:Nat)(x:Hr)(r:List (Nat×Hr)):fS addr ((p,x)::r)=
 if x.kind=2/\addr=p*64+2 then some (p,0,x)
 else if x.kind≠1\/addr / 64≠p then fS addr r
 else match mB addr p x with
  | some k=>some (p,k,x)
  | none=>fS addr r:=rfl
theorem qx(addr:Nat)(x:Nat×Hr):∀q:List (Nat×Hr),fS addr q=none->fS addr (q++[x])=fS addr [x]
 | [],_=>rfl
 | (p,y)::q,h=>by
  rw[lO] at h;rw[aR,lO];split at h
  ·cases h
  ·rename_i h1;rw[if_neg h1];split at h
   ·rename_i h2;rw[if_pos h2];exact qx addr x q h
   ·rename_i h2;rw[if_neg h2];split at h
    ·cases h
    ·exact qx addr x q h
theorem qy(addr:Nat)(r:Nat×Nat×Hr):∀q t:List (Nat×Hr),fS addr q=some r->fS addr (q++t)=some r
 | (p,y)::q,t,h=>by
  rw[lO] at h;rw[aR,lO];split at h
  ·rename_i h1;rw[if_pos h1];exact h
  ·rename_i h1;rw[if_neg h1];split at h
   ·rename_i h2;rw[if_pos h2];exact qy addr r q t h
   ·rename_i h2;rw[if_neg h2];split at h
    ·exact h
    ·exact qy addr r q t h
def od(r:Option (Nat×Nat×Hr)):Value:=match r with | some (p,k,x)=> .tuple #[Xi p,Xi k,fT x,.bool true] | none=> .tuple #[Xi 0,Xi 0,fT ⟨0,0,0⟩,.bool false]
theorem AU{q:Nat->Bool}{m:Nat}(h:∀j,j<m->q j=false):(List.range m).find? q=none:=
 bB.2 fun j hj=>by rw[h j (bw.1 hj)];simp
theorem AV{q:Nat->Bool}{m k:Nat}(hk:k<m)(hq:q k=true)(h:∀j,j<k->q j=false):(List.range m).find? q=some k:=by
 rw[List.find?_eq_some_iff_append];refine⟨hq,List.range k,(List.range (m-k-1)).map (·+(k+1)),?_,fun j hj=>by rw[h j (bw.1 hj)];rfl⟩;rw[show m=k+((m-k-1)+1) by omega,List.range_add,List.range_succ_eq_map]
 simp
 intro a _;omega
attribute [local go_sem] Oper.semAt_some
theorem Em{pa pm:Nat}{s:Slab}(h:b8 w pa pm s Y blk)(hz:s.keys=[]):
 Cb 132 #[PV pa] w (.slice none 0 0):=by
 refine(callsIn_wide (n:=6)).1 ?_;have ar:=h.map.lt;have c1:=h.cells.2;have a0:CallsIn Fence.wide 5 prog 151 #[PV pa] w _:=callsIn_wide.2 (ly h);have ai:Maps.size (fM s.keys blk)<=maxLen:=by
  rw[ls,i8];have:=h.wf.room;have:=h.wf.quota;unfold maxLen;omega
 have ad:Maps.size (fM s.keys blk)*8<=140737488355328:=by
  rw[ls,i8];have:=h.wf.room;have:=h.wf.quota;omega
 have al:SeqGives Fence.wide 2 prog 203 #[.pointer (some ⟨w.heap.size,0,none⟩)] encZ (fun ss=>ss.Perm (intKeys (fM s.keys blk))) (Maps.size (fM s.keys blk)) (w.alloc (.cells #[.map (some pm)] 153)):=
  AnyZI.keys_gives (ρ:=keysA_ren) { keysA with } Fence.wide _ trivial rfl (by omega) w.heap.size pm s.pages.length (fM s.keys blk) _ (by simp) (by simp) (by
   obtain⟨es,an,hb,Ft,hs,hD⟩:=h.map;exact⟨es,an,(Below.heap_alloc _ _ pm ar).trans hb,Ft,hs,hD⟩)
 have cK:∀mb W,CallsIn Fence.wide 5 prog 170 #[.map mb] W fun e w'=>e=.returned (.func (.func 203) #[] #[.pointer (some ⟨W.heap.size,0,none⟩)])/\w'=W.alloc (.cells #[.map mb] 153):=fun mb W=>AnyZI.keys_in keysA Fence.wide 5 trivial rfl mb W;have cS:=AnyZI.sorted_in sortedA Fence.wide 5 trivial trivial trivial trivial rfl (by omega) (wY _) (enters_of func202 (by kernel_rfl) rfl) 203 #[.pointer (some ⟨w.heap.size,0,none⟩)] trivial (enters_of func203 (by kernel_rfl) rfl) _ _ ai ad _ al;change CallsIn _ _ prog 169 _ _ _ at cS;have a1:Fence.wide.fn 170:=trivial;have a3:Fence.wide.fn 169:=trivial;have a2:Fence.wide.fn 151:=trivial;have HS:=If h;clear h ai ad al;refine callsIn_of_wp func132 rfl trivial ?_ rfl;simp only[ntmps132,bp,ak,aM,Nat.reduceAdd,Nat.reduceSub,aV,aW,bx,bg,aY,aR]
 gi_wp2_with (first
  | (gi_at_call 151;refine a0.mono ?_;rintro e w' ⟨rfl,rfl⟩)
  | (gi_at_call 170;refine(cK _ _).mono ?_;rintro e w' ⟨rfl,rfl⟩)
  | (gi_at_call 169;refine cS.mono ?_;rintro e w' ⟨v,ss,rfl,hS,hrow,au,hb⟩))
 go_ret;obtain⟨hl,_⟩:=wX HS.out.wf hS;rw[hz] at hl;obtain rfl:=au.2 (bZ.1 hl);exact⟨rfl,((ab _ w).alloc Ih _).trans (hb.mono (by simp))⟩
theorem Fz.pages_nil{ph pa pm q:Nat}(h:Fz w ph pa pm ⟨q,[]⟩ Y):
 Cb 132 #[PV pa] w (.slice none 0 0):=by
 obtain⟨ad,hs⟩:=h.slab;exact Em hs rfl
theorem Bo{ph pa pm q:Nat}(h:Fz w ph pa pm ⟨q,[]⟩ Y):
 Cb 85 #[PV ph] w (Xi 0):=by
 refine(callsIn_wide (n:=7)).1 ?_;have h1:1<=7:=by omega
 have a6:Fence.wide.fn 101:=trivial;have a5:Fence.wide.fn 116:=trivial;have a7:Fence.wide.fn 132:=trivial;have a3:∀W,Fz W ph pa pm ⟨q,[]⟩ Y->CallsIn Fence.wide 6 prog 101 #[PV ph] W _:=fun W hW=>callsIn_wide.2 (qV hW);have a2:∀W,CallsIn Fence.wide 6 prog 116 #[PV ph] W _:=fun W=>callsIn_wide.2 (qQ ph W);have HR:=If h;clear h;refine callsIn_of_wp_marks func85 rfl trivial ?_ rfl;simp only[ntmps85,bp,ak,aM,Nat.reduceAdd,Nat.reduceSub,aV,aW,bx,bg,aY,aR];gi_wp2_with fail;have c0:=(Bx.new w (PV ph) 90).alloc (.cells #[Xi 0] 27);have c1:=Bx.new (w.alloc (.cells #[PV ph] 90)) (Xi 0) 27;have ai:Below w.heap.size w ((w.alloc (.cells #[PV ph] 90)).alloc (.cells #[Xi 0] 27)):=((ab _ w).alloc Ih _).alloc (by simp) _;simp only[World.size_alloc] at c1;have a0:((w.alloc (.cells #[PV ph] 90)).alloc (.cells #[Xi 0] 27)).heap.size=w.heap.size+1+1:=by simp
 generalize ((w.alloc (.cells #[PV ph] 90)).alloc (.cells #[Xi 0] 27))=w2 at*;refine(a3 w2 (HR.out.below ai)).mono ?_;rintro e w3 ⟨rfl,rfl⟩;have k0:=c0.1;have H2:=kq4 c0 c1 ai a0;clear c0 c1 ai;gi_wp2_with fail;refine(a2 _).mono ?_;rintro e w4 ⟨rfl,rfl⟩;gi_wp2_with fail;have k4:Bx (((w2.alloc (.cells #[Xi 0] 3)).alloc (.cells #[PV ph] 90))) (w.heap.size+1+1) (Xi 0):=by
  have:=(Bx.new w2 (Xi 0) 3).alloc (.cells #[PV ph] 90);rwa[H2.d] at this
 have k5:Bx (((w2.alloc (.cells #[Xi 0] 3)).alloc (.cells #[PV ph] 90))) (w.heap.size+1+1+1) (PV ph):=by
  have:=Bx.new (w2.alloc (.cells #[Xi 0] 3)) (PV ph) 90;rwa[World.size_alloc,H2.d] at this
 have c0:=(H2.a.alloc (.cells #[Xi 0] 3)).alloc (.cells #[PV ph] 90);have c1:=(H2.b.alloc (.cells #[Xi 0] 3)).alloc (.cells #[PV ph] 90);have ar:Below w.heap.size w ((w2.alloc (.cells #[Xi 0] 3)).alloc (.cells #[PV ph] 90)):=(H2.c.alloc (by omega) _).alloc (by simp;omega) _;have a9:((w2.alloc (.cells #[Xi 0] 3)).alloc (.cells #[PV ph] 90)).heap.size=w.heap.size+1+1+1+1:=by simp[H2.d]
 clear a0 k0;generalize ((w2.alloc (.cells #[Xi 0] 3)).alloc (.cells #[PV ph] 90))=W0 at*;have hW:=HR.out.wide ar;refine wpIn_rangeFunc_ownH rfl h1 (gf:=159) (lb:=#[PV (w.heap.size+1+1+1)]) rfl trivial (enters_of func159 (by kernel_rfl) rfl)
  (qR hW (Z:=fun _=>False) (fun k hk=>hk.elim) (w.heap.size+1+1+1) k5.1 id) fe.trans (fun W l o o' h1 h2 h3 h4=>fe.put W l o o' h1 h2 h3 h4) (ab _ _) (fun _=>rfl)
  (fun _ W=>(Bx W w.heap.size (PV ph)/\Bx W (w.heap.size+1) (Xi 0)/\Bx W (w.heap.size+1+1) (Xi 0))/\Below w.heap.size w W)
  (fun _ _ _=>False)
  (OwnFrom.and (Own.from (fun s A B row hs hg hr=>⟨hs.1.kept hg hr,hs.2.1.kept hg hr,hs.2.2.kept hg hr⟩) _) (ownFrom_below Ih (by omega)))
  (fun cd=>Own.from (fun s A B row hs hg hr=>hs) _)
  ⟨⟨c0,c1,k4⟩,ar⟩
  (fun x a' W=>True) (fun x a' _ X W' row hs hg hr=>trivial)
  ?assign ?body ?done ?stop
 case assign=>
  rintro l a1 ⟨⟨p,kd,xn,xw⟩,hx⟩ W K ⟨⟨i0,i1,i2⟩,hB⟩ hK;have HH:=kq4 i0 i1 i2 hB;have HK:=If hK;clear i0 i1 i2 hB hK;simp only[mF,fT]
  gi_wp2
  have al:=HH.d;exact HK.out _ _ ((KeepsOthers.alloc _ _).from _) (fe.of_below ((ab _ W).alloc Ih _)) ⟨⟨HH.a.alloc _,HH.b.alloc _,HH.c.alloc _⟩,al.alloc al.size _⟩ trivial
 case body=>
  intro l a1 x a' W _ _ _ _ hlt;exact absurd hlt (Nat.not_lt_zero _)
 case done=>
  rintro D ys W hD _ ⟨⟨i0,i1,i2⟩,hB⟩ hK;have hH:=HR.out.below hB;have ca:=hH.cell;have k0:=i0.1;have k2:=i2.1;obtain⟨k1,f1⟩:=id i1;have au:∀x:Fq (Below W.heap.size W),CallsIn Fence.wide 6 prog 132 #[PV pa] x.to _:=fun x=>CallsIn.keeps_below (callsIn_wide.2 (hH.below x.ok).pages_nil);have ba:∀x:Fq (Below W.heap.size W),x.to.cell? ⟨w.heap.size,0,none⟩=some (PV ph):=fun x=>(x.ok.cell (p:=⟨w.heap.size,0,none⟩) (Cx.lt (show Cx W _ 0 _ from i0))).trans k0;have bb:∀x:Fq (Below W.heap.size W),x.to.cell? ⟨w.heap.size+1+1,0,none⟩=some (Xi 0):=fun x=>(x.ok.cell (p:=⟨w.heap.size+1+1,0,none⟩) (Cx.lt (show Cx W _ 0 _ from i2))).trans k2;have bc:∀x:Fq (Below W.heap.size W),x.to.cell? ⟨ph,0,none⟩=some (PV pa):=fun x=>(x.ok.cell (p:=⟨ph,0,none⟩) hH.lt).trans ca;have HH:=kq3 au hB i1;clear hB i0 i1 i2 hH;gi_wp2_with fail;refine pq (Below W.heap.size W) (by kernel_rfl) (by kernel_rfl) (by kernel_rfl) ⟨rfl,rfl,rfl,Nat.le_refl _,fun _ _=>rfl⟩ fun⟨x0⟩=>?_
  repeat (first | gi_big_quiet_skip | (gi_big_quiet_want;gi_big_quiet_op;first | go_big_quiet_on | (apply Exists.intro;refine⟨fun x=>?_,?_⟩;(· with_reducible exact au x);go_big_quiet_on)))
  refine wpQuietIn_nil ?_;rintro _ ⟨x,rfl⟩;have j1:=HH.c.below x.ok (Cx.lt (show Cx W _ 0 _ from HH.c));obtain⟨bd,a4⟩:=id j1;have an:x.to.heap[D]?=some (.deferred (some [])):=(x.ok.block D (gl hK)).trans hK;have HX:=kq3 j1 an (HH.b.trans (x.ok.mono HH.b.size));clear j1 an
  gi_wp2
  have ad:=(KeepsOthers.setCell x.to ⟨w.heap.size+1,0,none⟩ (Xi 0)).same D _ HX.b rfl;refine⟨by simp,.inl ⟨_,_,rfl,run_takeDeferred ad,?_⟩⟩;have r1:=((HX.a.set (Xi 0)).put (o':=.deferred none) ad rfl).1;refine⟨Xi 0,?_,rfl,(HX.c.setCell (p:=⟨w.heap.size+1,0,none⟩) (by simp) _).trans (belowK_b (w:=w) Ih _ D _ _ (by omega) ad rfl rfl)⟩
  simp[results,f85,go_sem,r1]
 case stop=>
  rintro D cd a1 W hD a8 hF;exact hF.elim
theorem Bw{pa pm q:Nat}(hs:b8 w pa pm ⟨q,[]⟩ Y blk)(ht:gA w)(hyt:Y fy):
 Ct 46 #[PV pa] w fun e w'=>e=.returned (.tuple #[PV w.heap.size,Xi 0])/\Fz w' w.heap.size pa pm ⟨q,[]⟩ (lE Y w.heap.size)/\Below w.heap.size w w':=by
 have ad:=wR hs 0 (by omega);have al:Slab.err ⟨q,[]⟩ 0=5:=rfl;rw[al] at ad;have hH:Fz (w.alloc (.cells #[PV pa] 160)) w.heap.size pa pm ⟨q,[]⟩ (lE Y w.heap.size):=by
  have hb:=(ab _ w).alloc Ih (.cells #[PV pa] 160);exact⟨⟨blk,hs.own _⟩,heap_alloc_new w _,ae rfl,ht.of_block (hb.block _ (hs.yl _ hyt)),aa hyt⟩
 have ai:=Bo hH;have HG:=kq3 ad ai hH;clear ad ai hH al hs ht hyt;go_enter func46,ntmps46;go_wp2_with fail;refine Jc HG.a ?_;go_wp2_with fail;refine wx HG.b fun w1 hb=>?_;have HB:=If hb;clear hb;go_wp2_with fail;go_ret2;exact⟨rfl,HG.c.below HB.out,((ab _ w).alloc Ih _).trans (HB.out.mono (by simp))⟩
end Go.Proofs.YtpljannolpapgaaGreatDoor
namespace Go.Proofs.YtpljannolpapgaaGreatDoor
open Go.RowKit Tryz Go.BigFrame Go.Maps Go.WideMaps Lf
variable{S:St}{Y:Nat->Prop}{ps:Nat}{s:Slab}{v:Value}{w:World}
theorem Fz.pages'{ph pa pm:Nat}(h:Fz w ph pa pm s Y):
 Ct 132 #[PV pa] w fun e w'=>∃v,e=.returned v/\kU w' w.heap.size v s.keys/\Below w.heap.size w w':=by
 obtain⟨ad,hs⟩:=h.slab;exact wQ hs
theorem xo(h:Ig w ps S Y):
 Cb 127 #[PV ps] w (Xi (S.words:Nat)):=by
 have ad:=sI h;obtain⟨pa,pm,ph,pt,v,h⟩:=h;obtain⟨_,_,c2,_,_⟩:=h.cells;have hw:=h.heap.wf;have h1:=hw.room;have h2:=hw.quota;have hk:=i8 S.a;have ai:Ct 132 #[PV pa] w fun e w'=>(∃A c,e=.returned (.slice A S.a.pages.length c))/\Below w.heap.size w w':=by
  refine h.heap.pages'.mono ?_;rintro e w' ⟨v,rfl,⟨A,c,rfl,_⟩,hb⟩;exact⟨⟨A,c,by rw[hk]⟩,hb⟩
 unfold St.words;generalize S.a.pages.length=m at*;have HG:=kq2 ad ai;have hm:m<=262144:=by omega
 clear ad ai hk h hw h1 h2;go_enter func127,ntmps127;go_wp2_with fail;refine Jc HG.a ?_;go_wp2_with fail;refine HG.b.mono ?_;rintro e w1 ⟨⟨A,c,rfl⟩,hb⟩;have HB:=If hb;clear hb;go_wp2_with fail;go_ret;exact⟨by simp,HB.out⟩
theorem b8.empty_more{pa pm q:Nat}{blk:Nat->Nat}(h:b8 w pa pm ⟨q,[]⟩ Y blk):b8 w pa pm ⟨q,[]⟩ (fun k=>k<w.heap.size/\k≠pa/\k≠pm) blk:=
 ⟨h.wf,h.hd,h.map,h.pg,h.inj,fun k=>k.2.1 rfl,fun k=>k.2.2 rfl,fun p hp=>absurd hp (by simp[Slab.keys]),fun _ k=>k.1⟩
theorem qFbab{P:Prop}(h:P:=by
 exact aa (aa ⟨by omega,by omega,by omega⟩)):P:=h
theorem qFbaa{P:Prop}(h:P:=by
 exact⟨by omega,by simp[Value.ownBlock]⟩):P:=h
theorem xp(ht:gA w)(q n l:Nat)(hq:q<=262144)(hn:1<=n/\n<=65536)(hl:1<=l/\l<4294967296):
 Ct 12 #[Xi q,Xi n,.int .u32 l] w fun e w'=>∃ps,e=.returned (.tuple #[PV ps,Xi 0])/\Ig w' ps ⟨⟨q,[]⟩,⟨n,l,[]⟩⟩ (fun k=>k<w.heap.size)/\Below w.heap.size w w':=by
 have a':fy<w.heap.size:=ht.lt;have h1:=El q w (fun k=>k<w.heap.size) (fun _ k=>k) hq;have HG:=kq2 h1 ht;clear h1 ht;go_enter func12,ntmps12;go_wp2_with fail;refine HG.a.mono ?_;rintro e w1 ⟨rfl,hs,hk⟩;have a0:=hs.map.lt;have au:=(gl hs.hd);have H1:=kq4 hs hk.below a0 au;clear hs hk a0 au;go_wp2_with fail;refine(EK n l w1 hn hl).mono ?_;rintro e w2 ⟨rfl,al,an⟩;have a1:=(H1.a.below an).empty_more;have ai:=H1.b.trans (an.mono H1.b.size);have a2:=H1.b.size;have a3:=an.size;have ar:=al.pt_lt;have H2:=kq6 a1 al ai a2 a3 ar;clear a1 al an ai a2 a3 ar;go_wp2_with fail;have a4:gA w2:=HG.b.below H2.c Ih;have hz:fy<w2.heap.size/\fy≠w.heap.size+1/\fy≠w.heap.size:=⟨by have:=H2.c.size;omega,by omega,by omega⟩;refine(Bw H2.a a4 hz).mono ?_;rintro e w3 ⟨rfl,hH,ad⟩;have H3:=kq2 hH ad;clear hH ad a4 hz;go_wp2_with fail;go_ret2;have ad:=H3.b;obtain⟨a1,al,ai,a2,a3,ar⟩:=H2.out;obtain⟨_,_,a0,au⟩:=H1.out;have a7:=ad.size;have hH:=H3.a.own (.cells #[Xi n,.int .u32 l,PV (w.heap.size+1),PV w2.heap.size,PV w1.heap.size] 94 (0,0));have a5:Below w3.heap.size w3 (w3.alloc (.cells #[Xi n,.int .u32 l,PV (w.heap.size+1),PV w2.heap.size,PV w1.heap.size] 94 (0,0))):=(ab _ w3).alloc Ih _;have a8:=ai.size;have a6:=ai.trans ((ad.trans (a5.mono a7)).mono a8);have a9:=H3.a.lt;refine⟨w3.heap.size,rfl,⟨w.heap.size+1,w.heap.size,w2.heap.size,w1.heap.size,.slice none 0 0,heap_alloc_new w3 _,?_,?_,?_⟩,a6⟩
 ·refine hH.mono ?_ (ae (ae (aa rfl))) (ae (ae (ae (aa rfl))));rintro k (hk | hk | hk | hk | hk | hk)
  ·exact qFbab
  ·exact ae hk
  ·exact aa (ae hk)
  ·subst hk;exact qFbab
  ·subst hk;exact qFbab
  ·cases hk
 ·exact al.of_keep (by rw[a5.block _ (by omega),ad.block _ ar]) fun b hb=>by cases hb
 ·rintro k (hk | hk | hk | hk)
  ·exact qFbaa
  ·subst hk;exact qFbaa
  ·subst hk;exact qFbaa
  ·subst hk;exact qFbaa
theorem eR.of_keep{w w':World}{ps pa pm ph pt:Nat}(h:eR w ps pa pm ph pt v S Y)(hs:w.heap.size<=w'.heap.size)
 (hk:∀k,k<w.heap.size->(¬Y k\/k=ps\/k=ph\/k=fy)->w'.heap[k]?=w.heap[k]?):eR w' ps pa pm ph pt v S Y:=by
 obtain⟨ai,ad⟩:=h.heap.slab;have al:∀k,¬YS Y ps ph pt v k->¬Y k:=fun k hk hy=>hk (aa hy);have an:¬Y pt:=fun hy=>(h.off pt (aa hy)).1 rfl;refine⟨?_,⟨⟨ai,ad.of_keep hs fun k hkl hkk=>hk k hkl (aa (al k ?_))⟩,?_,h.heap.yh,h.heap.tab.of_block (hk fy h.heap.tab.lt (ae (ae (ae rfl)))),h.heap.yt⟩,h.tab.of_keep (hk pt h.tab.pt_lt (aa an)) fun b hb=>hk b (h.tab.own_lt hb) (aa fun hy=>(h.off b (aa hy)).2 hb),h.off⟩
 ·rw[hk ps (gl h.hd) (ae (aa rfl))];exact h.hd
 ·rcases hkk with rfl | rfl | ⟨p,hp,rfl⟩
  ·exact ad.ya
  ·exact ad.ym
  ·exact ad.yp p hp
 ·rw[hk ph h.heap.lt (ae (ae (aa rfl)))];exact h.heap.hp
theorem eR.wide{w w':World}{ps pa pm ph pt:Nat}(h:eR w ps pa pm ph pt v S Y)(hb:Below w.heap.size w w'):eR w' ps pa pm ph pt v S (fun k=>Y k\/(w.heap.size<=k/\k<w'.heap.size)):=by
 have h':=h.below hb;refine⟨h'.hd,?_,h'.tab,?_⟩
 ·refine(h.heap.wide hb).mono ?_ (ae (ae (aa rfl))) (ae (ae (ae (aa rfl))));rintro k ((hk | hk) | hk)
  ·exact aa (aa hk)
  ·exact ae hk
  ·exact aa (ae hk)
 ·rintro k ((hk | hk) | hk)
  ·exact h.off k (aa hk)
  ·have h1:=h.tab.pt_lt;refine⟨by omega,fun e=>?_⟩;have:=h.tab.own_lt e;omega
  ·exact h.off k (ae hk)
theorem eR.mono{ps pa pm ph pt:Nat}{Y Z:Nat->Prop}(h:eR w ps pa pm ph pt v S Y)(hz:∀k,Z k->Y k):eR w ps pa pm ph pt v S Z:=
 ⟨h.hd,h.heap.mono (fun _ hk=>hk.imp (hz _) id) (ae (ae (aa rfl))) (ae (ae (ae (aa rfl)))),h.tab,fun k hk=>h.off k (hk.imp (hz k) id)⟩
theorem eR.setCell{ps pa pm ph pt:Nat}(h:eR w ps pa pm ph pt v S Y){b o:Nat}(hy:Y b)(h1:b≠ps)(h2:b≠ph)(h3:b≠fy)(x:Value):eR (w.setCell ⟨b,o,none⟩ x) ps pa pm ph pt v S Y:=
 h.of_keep (dS (size_setCell w _ _).symm) fun k _ hk=>FB (by
  rintro rfl;rcases hk with hk | hk | hk | hk
  ·exact hk hy
  ·exact h1 hk
  ·exact h2 hk
  ·exact h3 hk)
theorem yD(hw:eQ s)(n:Nat):(fR s n).1.1<=2^60:=by
 have hp:∀p c k,p<=1048576->fF p c k<=2^60:=fun p c k h=>by
  have:=qi c k;unfold fF;omega
 unfold fR
 by_cases h:n<1\/4000<n
 ·rw[if_pos h]
  simp
 ·rw[if_neg h]
  cases hc:ma n with
  | none=>
   simp only;have:=mJ hw (n:=fa n) (by have:=ua (n:=n) (by omega);omega);obtain⟨⟨⟨gp,ge⟩,gs⟩,hg⟩:∃g,s.grant (fa n)=g:=⟨_,rfl⟩;rw[hg] at this⊢;simp only at this
   cases ge with
   | zero=>simp only;omega
   | succ e=>simp
  | some c=>
   simp only
   cases hs:kt s c with
   | some pk=>
    obtain⟨p,k⟩:=pk;simp only[fP];exact hp _ _ _ (by have:=(GJ hw hs).1;omega)
   | none=>
    simp only;have:=mJ hw (n:=1) (by omega);obtain⟨⟨⟨gp,ge⟩,gs⟩,hg⟩:∃g,s.grant 1=g:=⟨_,rfl⟩;rw[hg] at this⊢;simp only at this
    cases ge with
    | zero=>simp only[fP];exact hp _ _ _ (by omega)
    | succ e=>simp
theorem ut:∀(l:List fb) (k:Nat),gH l k<=k+l.length
 | [],k=>Nat.le_refl _
 | x::r,k=>by
  unfold gH;split
  ·simp
  ·have:=ut r (k+1);simp only[ak];omega
theorem vZ{t:Hs}(hw:iW t)(a:Nat):(t.open a).1.1<2^64:=by
 have h1:=ut t.slots 0;have h2:=hw.len;have h3:=hw.most;have h4:(t.genAt (gH t.slots 0)+1) % 4294967296<4294967296:=Nat.mod_lt _ (by decide);unfold Hs.open;simp only
 split
 ·simp
 ·simp only[gj];omega
theorem Dn(t:Hs)(a:Nat):(t.open a).2.most=t.most/\(t.open a).2.last=t.last:=by
 unfold Hs.open;simp only;split<;>exact⟨rfl,rfl⟩
theorem Cs{be bs ba:Nat}(he:w.cell? ⟨be,0,none⟩=some (Xi 0)):
 CallsD prog 63 #[PV be,PV bs,PV ba] .returning w fun e u' w'=>u'=.returning/\(e=.returned (.tuple #[])/\w'=w):=by
 go_enter_d func63,ntmps63
 go_wp2_with fail
 go_end0
 exact⟨rfl,rfl⟩
theorem sH(h:Ig w ps S Y)(n:Nat)(hn:n<=3998)(ho:(S.t.open (fR S.a (n+2)).1.1).1.2=0):
 Ct 31 #[PV ps,Xi n] w fun e w'=>e=.returned (.tuple #[Xu ((S.make n).1.1:Nat),Xi ((S.make n).1.2:Nat)])/\Ig w' ps (S.make n).2 Y/\Fo Y w w':=by
 have cd:(n:Int)<=3998:=by omega
 have an:=((ab _ w).alloc Ih (Xh ps)).alloc (by simp) (.cells #[Xi 0] 27);obtain⟨pa,pm,ph,pt,v,h⟩:=h;have h1:=h.wide an;have au:=sI ⟨_,_,_,_,_,h1⟩;have b9:ph<w.heap.size/\pt<w.heap.size/\ps<w.heap.size/\fy<w.heap.size/\∀b,v.ownBlock=some b->b<w.heap.size:=⟨h.heap.lt,h.tab.pt_lt,(gl h.hd),h.heap.tab.lt,fun b hb=>h.tab.own_lt hb⟩;have cj:((w.alloc (Xh ps)).alloc (.cells #[Xi 0] 27)).heap.size=w.heap.size+2:=by simp
 have k0:((w.alloc (Xh ps)).alloc (.cells #[Xi 0] 27)).heap[w.heap.size]?=some (.cells #[PV ps] 26 (0,0)):=by
  rw[heap_alloc_old _ _ (by simp)];exact heap_alloc_new w _
 have k1:((w.alloc (Xh ps)).alloc (.cells #[Xi 0] 27)).heap[w.heap.size+1]?=some (.cells #[Xi 0] 27 (0,0)):=by
  have:=heap_alloc_new (w.alloc (Xh ps)) (.cells #[Xi 0] 27);rwa[World.size_alloc] at this
 have hR:S.make n=match fR S.a (n+2) with
  | ((addr,0),a1)=>
   match S.t.open addr with
   | ((h,0),t1)=>((h,0),⟨(a1.wr addr h).wr (addr+1) n,t1⟩)
   | ((_,e),t1)=>((0,e),⟨(iM a1 addr).2,t1⟩)
  | ((_,e),a1)=>((0,e),{ S with a:=a1 }):=by unfold St.make;rw[if_neg (by omega)];rfl
 obtain⟨R,a'⟩:=Ii (S.make n);rw[a'] at hR⊢;have ar:=heap_alloc h1.heap (n+2) (by omega);have bs:=yD h1.heap.wf (n+2);obtain⟨⟨⟨ad,er⟩,a1⟩,hA⟩:∃r,fR S.a (n+2)=r:=⟨_,rfl⟩;rw[hA] at hR ho ar bs;simp only at hR ho ar bs;have ba:((n+2:Nat):Int)=(n:Int)+2:=by omega
 rw[ba] at ar;have HG:=kq9 au ar h1 h an k0 k1 hR ho
 cases er with
 | succ er=>
  have b':(((er+1:Nat):Int) !=0)=true:=by simp;omega
  obtain⟨g1,bb⟩:=Ii (er+1);rw[bb] at HG b' ar hR;have ch:¬(g1:Int)=0:=by omega
  have bo:R=((0,g1),{ S with a:=a1 }):=by rw[hR,<-bb];rfl
  have b2:=If bo;clear bo;clear au ar h1 h an k0 k1 hR ho a' hA ba bb
  go_enter_defers func31,ntmps31
  go_wp2_with fail;generalize ((w.alloc (Xh ps)).alloc (.cells #[Xi 0] 27))=W1 at*;obtain⟨au,ar,h1,h,an,k0,k1,hR,ho⟩:=HG.out;refine Jc au ?_;obtain⟨_,_,_,c3,c4⟩:=h1.cells;have d0:W1.cell? ⟨w.heap.size,0,none⟩=some (PV ps):=by rw[cell_of_block k0];rfl
  clear au ar h1 h an k0 k1 hR ho c4;go_wp2_with fail;refine HG.b.mono ?_;rintro e w2 ⟨rfl,a5,al⟩;obtain⟨au,ar,h1,h,an,k0,k1,hR,ho⟩:=HG.out;have h2:=h1.arena a5 al;have a0:=al.size;have j0:w2.heap[w.heap.size]?=some (.cells #[PV ps] 26 (0,0)):=(al.block _ (aa (ae ⟨Nat.le_refl _,by omega⟩))).trans k0;have j1:w2.heap[w.heap.size+1]?=some (.cells #[Xi 0] 27 (0,0)):=(al.block _ (aa (ae ⟨by omega,by omega⟩))).trans k1;have e1:w2.cell? ⟨w.heap.size+1,0,none⟩=some (Xi 0):=by rw[cell_of_block j1];rfl
  have f1:w2.frozen? ⟨w.heap.size+1,0,none⟩=false:=AT j1;have b4:w.heap.size+1<w2.heap.size:=by omega
  have H2:=kq5 h2 a0 j0 j1 al;clear au ar h1 h an k0 k1 hR ho h2 a0 j0 j1 a5 al c3 d0;go_wp2_with fail
  go_region
  go_wp2_with fail;obtain⟨_,_,h1,h,an,_,_,hR,_⟩:=HG.out;obtain⟨h2,a0,j0,j1,al⟩:=H2.out;have x1:((w2.setCell ⟨w.heap.size+1,0,none⟩ (Xi g1)).setCell ⟨w.heap.size+1,0,none⟩ (Xi g1)).heap[w.heap.size+1]?=some (.cells #[Xi g1] 27 (0,0)):=by
   rw[heap_setCell (heap_setCell j1)]
   rfl
  have x2:=(h2.setCell (b:=w.heap.size+1) (o:=0) (ae ⟨by omega,by omega⟩) (by omega) (by omega) (by omega) (Xi g1)).setCell (b:=w.heap.size+1) (o:=0) (ae ⟨by omega,by omega⟩) (by omega) (by omega) (by omega) (Xi g1);have x3:=((ab _ ((w2.setCell ⟨w.heap.size+1,0,none⟩ (Xi g1)).setCell ⟨w.heap.size+1,0,none⟩ (Xi g1))).alloc Ih (Xk ad));have x4:=(x2.below x3).below (w':=(((w2.setCell ⟨w.heap.size+1,0,none⟩ (Xi g1)).setCell ⟨w.heap.size+1,0,none⟩ (Xi g1)).alloc (Xk ad)).drew) ⟨rfl,rfl,rfl,Nat.le_refl _,fun _ _=>rfl⟩;have x5:∀k,k<w.heap.size->(((w2.setCell ⟨w.heap.size+1,0,none⟩ (Xi g1)).setCell ⟨w.heap.size+1,0,none⟩ (Xi g1)).alloc (Xk ad)).drew.heap[k]?=w2.heap[k]?:=fun k hk=>by
   show (World.alloc _ _).heap[k]?=_
   rw[heap_alloc_old _ _ (by simp;omega),FB (by omega),FB (by omega)]
  have x6:(((w2.setCell ⟨w.heap.size+1,0,none⟩ (Xi g1)).setCell ⟨w.heap.size+1,0,none⟩ (Xi g1)).alloc (Xk ad)).drew.cell? ⟨w.heap.size+1,0,none⟩=some (Xi g1):=by
   show (World.alloc _ _).cell? _=_
   rw[cell_of_block (by rw[heap_alloc_old _ _ (by simp;omega)];exact x1)]
   rfl
  have x7:w2.heap.size<=(((w2.setCell ⟨w.heap.size+1,0,none⟩ (Xi g1)).setCell ⟨w.heap.size+1,0,none⟩ (Xi g1)).alloc (Xk ad)).drew.heap.size:=by
   show _<=(World.alloc _ _).heap.size
   simp
  have x8:(((w2.setCell ⟨w.heap.size+1,0,none⟩ (Xi g1)).setCell ⟨w.heap.size+1,0,none⟩ (Xi g1)).alloc (Xk ad)).drew.os=w2.os/\(((w2.setCell ⟨w.heap.size+1,0,none⟩ (Xi g1)).setCell ⟨w.heap.size+1,0,none⟩ (Xi g1)).alloc (Xk ad)).drew.tape=w2.tape/\(((w2.setCell ⟨w.heap.size+1,0,none⟩ (Xi g1)).setCell ⟨w.heap.size+1,0,none⟩ (Xi g1)).alloc (Xk ad)).drew.output=w2.output:=⟨rfl,rfl,rfl⟩;obtain rfl:=b2.out;generalize (((w2.setCell ⟨w.heap.size+1,0,none⟩ (Xi g1)).setCell ⟨w.heap.size+1,0,none⟩ (Xi g1)).alloc (Xk ad)).drew=W9 at*;refine⟨.tuple #[Xu 0,Xi g1],?_,rfl,⟨_,_,_,_,_,x4.mono fun k hk=>aa hk⟩,?_⟩
  ·simp[results,f31,go_sem,x6]
  ·refine⟨x8.1.trans (al.os.trans an.os),x8.2.1.trans (al.tape.trans an.tape),x8.2.2.trans (al.output.trans an.output),by omega,fun k hk=>?_⟩;have a6:=h.yl k hk;rw[x5 k a6,al.block k (aa (aa hk)),an.block k a6]
 | zero=>
  clear au ar h1 h an k0 k1 hR ho a' hA ba
  go_enter_defers func31,ntmps31
  go_wp2_with fail;generalize ((w.alloc (Xh ps)).alloc (.cells #[Xi 0] 27))=W1 at*;obtain⟨au,ar,h1,h,an,k0,k1,hR,ho⟩:=HG.out;refine Jc au ?_;obtain⟨_,_,_,c3,c4⟩:=h1.cells;have d0:W1.cell? ⟨w.heap.size,0,none⟩=some (PV ps):=by rw[cell_of_block k0];rfl
  clear au ar h1 h an k0 k1 hR ho c4;go_wp2_with fail;refine HG.b.mono ?_;rintro e w2 ⟨rfl,a5,al⟩;obtain⟨au,ar,h1,h,an,k0,k1,hR,ho⟩:=HG.out;have h2:=h1.arena a5 al;have a0:=al.size;have j0:w2.heap[w.heap.size]?=some (.cells #[PV ps] 26 (0,0)):=(al.block _ (aa (ae ⟨Nat.le_refl _,by omega⟩))).trans k0;have j1:w2.heap[w.heap.size+1]?=some (.cells #[Xi 0] 27 (0,0)):=(al.block _ (aa (ae ⟨by omega,by omega⟩))).trans k1;have e1:w2.cell? ⟨w.heap.size+1,0,none⟩=some (Xi 0):=by rw[cell_of_block j1];rfl
  have f1:w2.frozen? ⟨w.heap.size+1,0,none⟩=false:=AT j1;have b4:w.heap.size+1<w2.heap.size:=by omega
  have H2:=kq5 h2 a0 j0 j1 al;clear au ar h1 h an k0 k1 hR ho h2 a0 j0 j1 a5 al c3 d0;go_wp2_with fail
  go_name_world W3 HW3
  obtain⟨⟨⟨hh,he⟩,t1⟩,hO⟩:∃r,S.t.open ad=r:=⟨_,rfl⟩;obtain⟨h2,a0,j0,j1,al⟩:=H2.out;have bt:Below (w2.setCell ⟨w.heap.size+1,0,none⟩ (Xi 0)).heap.size (w2.setCell ⟨w.heap.size+1,0,none⟩ (Xi 0)) ((w2.setCell ⟨w.heap.size+1,0,none⟩ (Xi 0)).alloc (Xk ad)):=(ab _ _).alloc Ih _;have h3:=(h2.setCell (b:=w.heap.size+1) (o:=0) (ae ⟨by omega,by omega⟩) (by omega) (by omega) (by omega) (Xi 0)).wide bt;have z3:((w2.setCell ⟨w.heap.size+1,0,none⟩ (Xi 0)).alloc (Xk ad)).heap.size=w2.heap.size+1:=by simp
  have g0:((w2.setCell ⟨w.heap.size+1,0,none⟩ (Xi 0)).alloc (Xk ad)).heap[w.heap.size]?=some (.cells #[PV ps] 26 (0,0)):=by
   rw[heap_alloc_old _ _ (by simp;omega),FB (by omega)];exact j0
  have g1:((w2.setCell ⟨w.heap.size+1,0,none⟩ (Xi 0)).alloc (Xk ad)).heap[w.heap.size+1]?=some (.cells #[Xi 0] 27 (0,0)):=by
   rw[heap_alloc_old _ _ (by simp;omega),heap_setCell j1]
   rfl
  have g2:((w2.setCell ⟨w.heap.size+1,0,none⟩ (Xi 0)).alloc (Xk ad)).heap[w2.heap.size]?=some (.cells #[Xi ad] 3 (0,0)):=by
   have:=heap_alloc_new (w2.setCell ⟨w.heap.size+1,0,none⟩ (Xi 0)) (Xk ad);rwa[size_setCell] at this
  have a4:∀k,k<w2.heap.size->k≠w.heap.size+1->((w2.setCell ⟨w.heap.size+1,0,none⟩ (Xi 0)).alloc (Xk ad)).heap[k]?=w2.heap[k]?:=fun k hk hne=>by
   rw[heap_alloc_old _ _ (by simp;omega),FB hne]
  have a2:((w2.setCell ⟨w.heap.size+1,0,none⟩ (Xi 0)).alloc (Xk ad)).os=w2.os/\((w2.setCell ⟨w.heap.size+1,0,none⟩ (Xi 0)).alloc (Xk ad)).tape=w2.tape/\((w2.setCell ⟨w.heap.size+1,0,none⟩ (Xi 0)).alloc (Xk ad)).output=w2.output:=⟨rfl,rfl,rfl⟩;clear bt;simp only[size_setCell] at h3;rw[HW3] at h3 z3 g0 g1 g2 a4 a2;rw[z3] at h3;obtain⟨au,ar,h1,h,an,k0,k1,hR,ho⟩:=HG.out;rw[hO] at ho;simp only at ho;subst ho;have a3:=vZ h3.tab.wf ad;have a8:=Dn S.t ad;simp only at a3;rw[hO] at a3 a8;simp only at a3 a8;have d0:W3.cell? ⟨w.heap.size,0,none⟩=some (PV ps):=by rw[cell_of_block g0];rfl
  have d1:W3.cell? ⟨w.heap.size+1,0,none⟩=some (Xi 0):=by rw[cell_of_block g1];rfl
  have d2:W3.cell? ⟨w2.heap.size,0,none⟩=some (Xi ad):=by rw[cell_of_block g2];rfl
  have bf:W3.frozen? ⟨w.heap.size+1,0,none⟩=false:=AT g1;have d4:=h3.cells.2.2.2.2;have a9:∀q,Ct 65 #[PV pt,Xi ad] (W3.drewN q) fun e w'=>e=.returned (.tuple #[Xu hh,Xi 0])/\(w'.cell? ⟨w.heap.size,0,none⟩=some (PV ps)/\w'.cell? ⟨ps,4,none⟩=some (PV pt)/\w'.cell? ⟨w2.heap.size,0,none⟩=some (Xi ad))/\(w'.cell? ⟨w.heap.size+1,0,none⟩=some (Xi 0)/\w'.frozen? ⟨w.heap.size+1,0,none⟩=false)/\∃v',eR w' ps pa pm ph pt v' ⟨a1,t1⟩ (fun k=>(Y k\/w.heap.size<=k/\k<W1.heap.size)\/w2.heap.size<=k/\k<w2.heap.size+1)/\Fo (fun k=>k<W3.heap.size/\k≠pt/\v.ownBlock≠some k) W3 w':=fun q=>by
   have bj:=h3.below (w':=W3.drewN q) ⟨rfl,rfl,rfl,Nat.le_refl _,fun _ _=>rfl⟩;have bc:=EL bj.tab ad (by omega) (fun k=>k<W3.heap.size/\k≠pt/\v.ownBlock≠some k) (fun b hb=>⟨hb.1,hb.2.1,fun e=>hb.2.2 e.symm⟩);simp only at bc;rw[hO] at bc;refine bc.mono ?_;rintro e w' ⟨rfl,⟨v',ht,ca⟩,hk⟩;have hZ:∀k,k<w2.heap.size+1->w.heap.size<=k\/k=ps->k<W3.heap.size/\k≠pt/\v.ownBlock≠some k:=fun k hk1 al=>by
    refine⟨by omega,?_,fun e=>?_⟩
    ·rcases al with al | rfl
     ·omega
     ·exact(h.off _ (ae (aa rfl))).1
    ·rcases al with al | rfl
     ·have:=b9.2.2.2.2 k e;omega
     ·exact(h.off _ (ae (aa rfl))).2 e
   have n0:=hk.block w.heap.size (hZ _ (by omega) (aa Ih));have n1:=hk.block (w.heap.size+1) (hZ _ (by omega) (aa (by omega)));have n2:=hk.block w2.heap.size (hZ _ (by omega) (aa (by omega)));have n3:=hk.block ps (hZ _ (by omega) (ae rfl));refine⟨rfl,⟨(World.cell?_of_block n0).trans d0,(World.cell?_of_block n3).trans d4,(World.cell?_of_block n2).trans d2⟩,⟨(World.cell?_of_block n1).trans d1,(World.frozen?_of_block n1).trans bf⟩,v',?_,⟨hk.os,hk.tape,hk.output,hk.size,hk.block⟩⟩;exact bj.table ht a8 _ (fun k h1 h2 h3=>⟨h1,h2,h3⟩) hk (fun b hb e=>ca b hb e.symm)
  have H3:=kq10 h3 z3 g0 g1 g2 a4 a2 a9 a3 hO;clear au ar h1 h an k0 k1 hR h3 z3 g0 g1 g2 a4 a2 a9 a3 hO a8 h2 a0 j0 j1 al e1 f1 HW3
  go_region_held3 (fun w'=>w'.cell? ⟨w.heap.size,0,none⟩=some (PV ps)/\w'.cell? ⟨ps,4,none⟩=some (PV pt)/\w'.cell? ⟨w2.heap.size,0,none⟩=some (Xi ad)) (first | exact⟨d0,d4,d2⟩ | exact hQ | exact⟨(World.cell?_of_block (FB (show w.heap.size≠w.heap.size+1 by omega))).trans hQ.1,(World.cell?_of_block (FB (show ps≠w.heap.size+1 by omega))).trans hQ.2.1,(World.cell?_of_block (FB (show w2.heap.size≠w.heap.size+1 by omega))).trans hQ.2.2⟩)
   (first | (go_at_call 65;refine(H3.h 1).mono ?_;rintro e w4 ⟨rfl,hQ,⟨e4,f4⟩,v',h4,k4⟩))
  obtain⟨h3,z3,g0,g1,g2,a4,a2,a9,a3,hO⟩:=H3.out;have h5:=h4.setCell (b:=w.heap.size+1) (o:=0) (aa (ae ⟨by omega,by omega⟩)) (by omega) (by omega) (by omega) (Xi 0);have q0:(w4.setCell ⟨w.heap.size+1,0,none⟩ (Xi 0)).cell? ⟨w.heap.size,0,none⟩=some (PV ps):=(World.cell?_of_block (FB (show w.heap.size≠w.heap.size+1 by omega))).trans hQ.1;have q2:(w4.setCell ⟨w.heap.size+1,0,none⟩ (Xi 0)).cell? ⟨w2.heap.size,0,none⟩=some (Xi ad):=(World.cell?_of_block (FB (show w2.heap.size≠w.heap.size+1 by omega))).trans hQ.2.2;have q1:(w4.setCell ⟨w.heap.size+1,0,none⟩ (Xi 0)).cell? ⟨w.heap.size+1,0,none⟩=some (Xi 0):=World.cell?_setCell_same' _ _ _ (by rw[e4];rfl);have bv:(w4.setCell ⟨w.heap.size+1,0,none⟩ (Xi 0)).frozen? ⟨w.heap.size+1,0,none⟩=false:=by rw[World.frozen?_setCell];exact f4
  have q3:=h5.cells.2.2.1;have k5:∀k,k<w.heap.size->k≠pt->v.ownBlock≠some k->(w4.setCell ⟨w.heap.size+1,0,none⟩ (Xi 0)).heap[k]?=W3.heap[k]?:=fun k h1 h2 h3=>by
   rw[FB (by omega)];exact k4.block k ⟨by omega,h2,h3⟩
  have s5:W3.heap.size<=(w4.setCell ⟨w.heap.size+1,0,none⟩ (Xi 0)).heap.size:=by rw[size_setCell];exact k4.size
  have o5:(w4.setCell ⟨w.heap.size+1,0,none⟩ (Xi 0)).os=W3.os/\(w4.setCell ⟨w.heap.size+1,0,none⟩ (Xi 0)).tape=W3.tape/\(w4.setCell ⟨w.heap.size+1,0,none⟩ (Xi 0)).output=W3.output:=⟨k4.os,k4.tape,k4.output⟩;generalize w4.setCell ⟨w.heap.size+1,0,none⟩ (Xi 0)=W5 at*;have H5:=kq6 h5 k5 s5 o5 z3 a3;clear h3 z3 g0 g1 g2 a4 a2 a9 a3 hO h5 k5 s5 o5 hQ e4 f4 h4 k4 d0 d1 d2 bf d4;go_wp2_with fail;refine lD (C:=fun w'=>∃q:Nat,w'=(W5).drewN q) 6 (by kernel_rfl) (by kernel_rfl) ⟨1,rfl⟩ ?_;simp only[bM,cC,bX,cL]
  repeat (first | go_big_quiet_skip | (go_big_quiet_want;go_big_quiet_op;first | go_big_quiet_on))
  refine wpQuiet_nil ?_;rintro _ ⟨q,rfl⟩;have a7:=((H5.a.below (w':=W5.drewN q) ⟨rfl,rfl,rfl,Nat.le_refl _,fun _ _=>rfl⟩).heap.write' ad hh (ai:=ad) (xi:=hh) (by omega) H5.f rfl rfl);go_wp2_with fail;refine a7.mono ?_;rintro e w6 ⟨rfl,bk,k6⟩;have h6:=(H5.a.below (w':=W5.drewN q) ⟨rfl,rfl,rfl,Nat.le_refl _,fun _ _=>rfl⟩).arena bk k6;have y0:∀k,w.heap.size<=k->k<w.heap.size+2->w6.heap[k]?=W5.heap[k]?:=fun k h1 h2=>k6.block k (aa (aa (ae ⟨h1,by omega⟩)));have y2:w6.heap[w2.heap.size]?=W5.heap[w2.heap.size]?:=k6.block _ (aa (ae ⟨Nat.le_refl _,by omega⟩));have b1:=y0 w.heap.size Ih (by omega);have bd:=y0 (w.heap.size+1) (by omega) (by omega);have u0:w6.cell? ⟨w.heap.size,0,none⟩=some (PV ps):=(World.cell?_of_block b1).trans q0;have u1:w6.cell? ⟨w.heap.size+1,0,none⟩=some (Xi 0):=(World.cell?_of_block bd).trans q1;have b0:w6.frozen? ⟨w.heap.size+1,0,none⟩=false:=(World.frozen?_of_block bd).trans bv;have u2:w6.cell? ⟨w2.heap.size,0,none⟩=some (Xi ad):=(World.cell?_of_block y2).trans q2;have u3:=h6.cells.2.2.1;have H6:=kq2 h6 k6;clear h6 k6 bk a7 y0 b1 bd y2 q0 q1 bv q2 q3;go_wp2_with fail;refine lD (C:=fun w'=>∃q:Nat,w'=(w6).drewN q) 8 (by kernel_rfl) (by kernel_rfl) ⟨1,rfl⟩ ?_;simp only[bM,cC,bX,cL]
  repeat (first | go_big_quiet_skip | (go_big_quiet_want;go_big_quiet_op;first | go_big_quiet_on))
  refine wpQuiet_nil ?_;rintro _ ⟨q,rfl⟩;have a7:=((H6.a.below (w':=w6.drewN q) ⟨rfl,rfl,rfl,Nat.le_refl _,fun _ _=>rfl⟩).heap.write' (ad+1) n (ai:=(ad:Int)+1) (xi:=n) (by omega) (by omega) (by omega) rfl);go_wp2_with fail;refine a7.mono ?_;rintro e w7 ⟨rfl,bm,k7⟩;have h7:=(H6.a.below (w':=w6.drewN q) ⟨rfl,rfl,rfl,Nat.le_refl _,fun _ _=>rfl⟩).arena bm k7;have y1:w7.heap[w.heap.size+1]?=w6.heap[w.heap.size+1]?:=k7.block _ (aa (aa (ae ⟨by omega,by omega⟩)));have v1:w7.cell? ⟨w.heap.size+1,0,none⟩=some (Xi 0):=(World.cell?_of_block y1).trans u1;have ck:w7.frozen? ⟨w.heap.size+1,0,none⟩=false:=(World.frozen?_of_block y1).trans b0;have H7:=kq2 h7 k7;clear h7 k7 bm a7 y1 u0 u1 b0 u2 u3;go_wp2_with fail;refine leaves_cons (f:=63) (args:=#[PV (w.heap.size+1),PV w.heap.size,PV w2.heap.size]) (by simp) (by simp[go_sem]) ?_;refine(Cs (w:=w7.setCell ⟨w.heap.size+1,0,none⟩ (Xi 0)) (World.cell?_setCell_same' _ _ _ (by rw[v1];rfl))).mono ?_;rintro e u' cl ⟨rfl,rfl,rfl⟩;have x1:(w7.setCell ⟨w.heap.size+1,0,none⟩ (Xi 0)).cell? ⟨w.heap.size+1,0,none⟩=some (Xi 0):=World.cell?_setCell_same' _ _ _ (by rw[v1];rfl);obtain⟨_,_,h1,h,an,_,_,hR,_⟩:=HG.out;obtain⟨_,a0,_,_,al⟩:=H2.out;obtain⟨_,_,_,_,_,a4,a2,_,_,hO⟩:=H3.out;obtain⟨_,k5,s5,o5,_,_⟩:=H5.out;obtain⟨_,k6⟩:=H6.out;obtain⟨h7,k7⟩:=H7.out;rw[hO] at hR;obtain rfl:R=((hh,0),⟨(a1.wr ad hh).wr (ad+1) n,t1⟩):=hR;have cb:=k6.size;have cc:=k7.size;simp only[AG] at cb cc;refine⟨.tuple #[Xu hh,Xi 0],?_,rfl,⟨_,_,_,_,_,(h7.setCell (b:=w.heap.size+1) (o:=0) (aa (ae ⟨by omega,by omega⟩)) (by omega) (by omega) (by omega) (Xi 0)).mono fun k hk=>aa (aa hk)⟩,?_⟩
  ·simp[results,f31,go_sem,x1]
  ·refine⟨k7.os.trans (k6.os.trans (o5.1.trans (a2.1.trans (al.os.trans an.os)))),k7.tape.trans (k6.tape.trans (o5.2.1.trans (a2.2.1.trans (al.tape.trans an.tape)))),k7.output.trans (k6.output.trans (o5.2.2.trans (a2.2.2.trans (al.output.trans an.output)))),?_,fun k hk=>?_⟩
   ·rw[size_setCell];omega
   ·have a6:=h.yl k hk;have bu:=h.off k (aa hk);rw[FB (by omega)];refine(k7.block k (aa (aa (aa hk)))).trans ((k6.block k (aa (aa (aa hk)))).trans ?_);rw[show (W5.drewN _).heap[k]?=W5.heap[k]? from rfl,k5 k a6 bu.1 bu.2,a4 k (by omega) (by omega),al.block k (aa (aa hk)),an.block k a6]
end Go.Proofs.YtpljannolpapgaaGreatDoor
namespace Go.Proofs.YtpljannolpapgaaGreatDoor.Lf
def FN(l:List UInt8)(i:Nat):Nat:=(l.getD i 0).toNat
theorem mC(l:List UInt8)(i:Nat):FN l i<256:=(l.getD i 0).toNat_lt
def gx(l:List UInt8)(j:Nat):Nat->Nat
 | 0=>0
 | r+1=>gx l j r*256+FN l (8*j+r)
theorem zq(l:List UInt8)(j:Nat):∀r,gx l j r<256^r
 | 0=>by simp[gx]
 | r+1=>by
  have:=zq l j r;have:=mC l (8*j+r);simp only[gx,Nat.pow_succ];omega
theorem GS(l:List UInt8)(j:Nat):nV (l.drop (8*j))=gx l j 8:=by
 have h:∀q,(l.drop (8*j)).getD q 0=l.getD (8*j+q) 0:=fun q=>by
  simp[List.getD_eq_getElem?_getD,List.getElem?_drop]
 simp only[nV,show List.range 8=[0,1,2,3,4,5,6,7] from rfl,dD,List.foldl_nil,h]
 simp[gx,FN]
def cell(l:List UInt8)(j r:Nat):Nat:=gx l j r*256^(8-r)
theorem cell_lt(l:List UInt8)(j r:Nat)(h:r<=8):cell l j r<2^64:=by
 have h1:=zq l j r;have h2:256^r*256^(8-r)=2^64:=by rw[<-Nat.pow_add,show r+(8-r)=8 by omega]
 have h3:0<256^(8-r):=Nat.pow_pos (by decide);unfold cell;rw[<-h2];exact cR h1 h3
theorem tY(l:List UInt8)(j r:Nat)(h:r<8):cell l j (r+1)=cell l j r+FN l (8*j+r)*2^(8*(7-r)):=by
 have e:256^(8-r)=256*256^(7-r):=by rw[show 8-r=(7-r)+1 by omega,Nat.pow_succ,Nat.mul_comm]
 have e2:2^(8*(7-r))=256^(7-r):=by rw[Nat.pow_mul]
 unfold cell;rw[e,e2,show 8-(r+1)=7-r by omega];simp only[gx,Nat.add_mul,Nat.mul_assoc]
theorem Ag(l:List UInt8)(j r:Nat)(h:r<8):cell l j r ||| FN l (8*j+r)*2^(8*(7-r))=cell l j (r+1):=by
 have e:cell l j r=gx l j r<<<(8*(8-r)):=by
  rw[Nat.shiftLeft_eq,Nat.pow_mul]
  rfl
 have h1:FN l (8*j+r)*2^(8*(7-r))<2^(8*(8-r)):=by
  rw[show 8*(8-r)=8+8*(7-r) by omega,Nat.pow_add];exact cR (mC _ _) (Nat.pow_pos (by decide))
 rw[tY l j r h,e];exact(cM h1 _).symm
theorem Ah(l:List UInt8)(j:Nat):cell l j 0=0:=by simp[cell,gx]
theorem Ad(l:List UInt8)(i:Nat)(h:l.length<=i):FN l i=0:=by
 simp[FN,List.getD_eq_getElem?_getD,List.getElem?_eq_none h]
theorem tX(l:List UInt8)(j r:Nat)(h:l.length<=8*j+r):∀d,r+d<=8->cell l j (r+d)=cell l j r
 | 0,_=>rfl
 | d+1,hd=>by
  have:=tY l j (r+d) (by omega);rw[Ad l _ (by omega),Nat.zero_mul,Nat.add_zero] at this;rw[<-dr,this];exact tX l j r h d (by omega)
theorem tV(l:List UInt8)(j:Nat):cell l j 8=nV (l.drop (8*j)):=by rw[GS];simp[cell]
def iC(l:List UInt8)(i:Nat):List Nat:=l.length::(List.range ((l.length+7) / 8)).map fun j=>cell l j (min 8 (i-8*j))
theorem Cd(l:List UInt8)(i:Nat):(iC l i).length=1+(l.length+7) / 8:=by simp[iC];omega
theorem Cg(l:List UInt8):iC l 0=l.length::List.replicate ((l.length+7) / 8) 0:=by
 unfold iC
 congr 1
 apply dy (by simp);intro n h1 h2
 simp[Ah]
theorem rm(l:List UInt8):iC l l.length=FK l:=by
 unfold iC FK qg
 congr 1
 apply aP;intro j hj;rw[<-tV]
 by_cases h:8*j+8<=l.length
 ·rw[dl (by omega)]
 ·rw[Nat.min_eq_right (by omega)];have:=tX l j (l.length-8*j) (by omega) (8-(l.length-8*j)) (by omega);rw[<-this]
  congr 1
  omega
theorem Cc(l:List UInt8)(i:Nat)(h:i<l.length):(iC l i)[1+i / 8]?=some (cell l (i / 8) (i % 8)):=by
 unfold iC;rw[dR 1,bD,bi,bH (by omega)];simp only[dq,Option.some.injEq]
 congr 1
 omega
theorem Cf(l:List UInt8)(i:Nat):iC l (i+1)=(iC l i).set (1+i / 8) (cell l (i / 8) (i % 8+1)):=by
 unfold iC;rw[dR 1,List.set_cons_succ]
 congr 1
 apply dy (by simp);intro n h1 h2;rw[List.getElem_set];simp only[bz,dI]
 by_cases e:i / 8=n
 ·rw[if_pos e];subst e
  congr 1
  omega
 ·rw[if_neg e]
  congr 1
  omega
theorem Ce(l:List UInt8)(i:Nat)(hl:l.length<2^64):∀x∈iC l i,x<2^64:=by
 intro x hx;unfold iC at hx
 rcases ag.1 hx with rfl | hx
 ·exact hl
 ·obtain⟨j,_,rfl⟩:=aA.1 hx;exact cell_lt _ _ _ (Nat.min_le_left _ _)
theorem pj(l:List UInt8):(FK l).length=1+(l.length+7) / 8:=by rw[<-rm,Cd]
theorem te(l:List UInt8)(h:l.length<=1000):(FK l).length=many l.length:=by
 rw[pj];unfold many;rw[if_neg (by omega)]
theorem xZ(l:List UInt8)(hl:l.length<2^64):∀x∈FK l,x<2^64:=by rw[<-rm];exact Ce l _ hl
theorem xY(l:List UInt8)(i:Nat)(h:i<l.length):(FK l)[1+i / 8]?=some (cell l (i / 8) 8):=by
 unfold FK qg;rw[dR 1,bD,bi,bH (by omega)];simp only[dq,Option.some.injEq];exact(tV _ _).symm
theorem tW(l:List UInt8)(j:Nat):∀d r,r+d=7->cell l j 8 / 2^(8*d) % 256=FN l (8*j+r):=by
 intro d r hr;have key:∀k,k<=8-(r+1)->gx l j (r+1+k) / 256^k=gx l j (r+1):=by
  intro k
  induction k with
  | zero=>intro _;simp
  | succ k ih=>
   intro hk;rw[show r+1+(k+1)=(r+1+k)+1 by omega];simp only[gx];rw[Nat.pow_succ,Nat.mul_comm (256^k),<-Nat.div_div_eq_div_mul];have hb:=mC l (8*j+(r+1+k));rw[show (gx l j (r+1+k)*256+FN l (8*j+(r+1+k))) / 256=gx l j (r+1+k) by omega];exact ih (by omega)
 have h1:=key d (by omega);have e:cell l j 8=gx l j 8:=by simp[cell]
 have e8:gx l j 8=gx l j (r+1+d):=by rw[show r+1+d=8 by omega]
 rw[e,Nat.pow_mul,show (2:Nat)^8=256 from rfl,e8,h1];simp only[gx];have hb:=mC l (8*j+r);omega
theorem Af(l:List UInt8):mE (FK l) l.length=l:=by
 unfold mE;apply dy (by simp);intro i h1 h2;simp only[bz,dI];rw[am,xY l i h2];simp only[Option.getD_some];have h:=tW l (i / 8) (7-i % 8) (i % 8) (by omega);rw[show 8*(i / 8)+i % 8=i by omega,Nat.pow_mul,show (2:Nat)^8=256 from rfl] at h;apply UInt8.toNat_inj.1;rw[UInt8.toNat_ofNat'];rw[show (2:Nat)^8=256 from rfl,h];simp[FN,List.getD_eq_getElem?_getD,List.getElem?_eq_getElem h2]
theorem EN(l:List UInt8)(h:l.length<=1000):dZ (FK l)=some l:=by
 have h1:=te l h;have h2:=Af l;have e:∃r,FK l=l.length::r:=⟨_,rfl⟩;obtain⟨r,e⟩:=e;rw[e] at h1 h2⊢;unfold dZ;simp only;rw[if_neg (by omega),h2,<-e,if_pos rfl]
theorem EM {ws:List Nat}{l:List UInt8}(h:dZ ws=some l):l.length<=1000/\ws=FK l:=by
 unfold dZ at h
 split at h
 ·cases h
 ·rename_i n r
  split at h
  ·cases h
  ·rename_i hn
   split at h
   ·rename_i hw
    injection h with h
    have hl:l.length=n:=by rw[<-h];simp[mE]
    rw[h] at hw;exact⟨by omega,hw.symm⟩
   ·cases h
end Go.Proofs.YtpljannolpapgaaGreatDoor.Lf
namespace Go.Proofs.YtpljannolpapgaaGreatDoor
open Go.RowKit Tryz Go.BigFrame Go.Maps Go.WideMaps Lf
variable{w:World}{ws:List Nat}
theorem xD(n:Nat)(w:World)(hn:n<=1099511627776):
 Ct 72 #[Xi n] w fun e w'=>e=.returned (Xi (many n:Nat))/\w=w':=by
 unfold many
 by_cases h:1000<n
 ·rw[if_pos h];have h':(1000:Int)<n:=by omega
  go_enter func72,ntmps72
  go_wp2
  go_ret;exact⟨rfl,rfl⟩
 ·rw[if_neg h];have h':(n:Int)<=1000:=by omega
  have hq:((1+(n+7) / 8:Nat):Int)=1+((n:Int)+7) / 8:=by omega
  rw[hq];clear h hq;go_enter func72,ntmps72
  go_wp2
  go_ret;exact⟨by simp;omega,rfl⟩
theorem EO{B G m cap i c x y:Nat}(hb:w.cell? ⟨B,0,none⟩=some (.slice (some ⟨G,0,none⟩) m cap))(hi:1+i / 8<m)(hm:m<=200)
 (hx:w.cell? ⟨G,1+i / 8,none⟩=some (Xu x)) (hf:w.frozen? ⟨G,1+i / 8,none⟩=false) (hxl:x<2^64) (hc:c<256) (hy:x ||| c*2^(8*(7-i % 8))=y):
 Ct 194 #[Xi i,.int .u8 c,PV B] w fun e w'=>e=.returned (.tuple #[])/\∃q,w'=(w.drewN q).setCell ⟨G,1+i / 8,none⟩ (Xu y):=by
 obtain⟨q,hq⟩:=Ii (i / 8);obtain⟨r,hr⟩:=Ii (i % 8);have an:r<8:=by omega
 obtain⟨s,hs⟩:=Ii (8*(7-r));rw[hq] at hi hx hf⊢;rw[hr,hs] at hy;have ai:(i:Int) / 8=(q:Int):=by omega
 have al:(i:Int) % 8=(r:Int):=by omega
 have ar:8*(7-(r:Int))=(s:Int):=by omega
 have ad:i<9223372036854775807:=by omega
 go_enter func194,ntmps194;go_wp2_with fail;refine lD (C:=fun w'=>∃q:Nat,w'=(w).drewN q) 15 (by kernel_rfl) (by kernel_rfl) ⟨1,rfl⟩ ?_;simp only[bM,cC,bX,cL];repeat (first | go_big_quiet_skip | (go_big_quiet_want;go_big_quiet_op;first | go_big_quiet_on))
 refine wpQuiet_nil ?_;rintro _ ⟨q,rfl⟩;go_wp2_with fail;have hw:IntKind.u64.wrap ((c:Int)*2^s)=((c*2^s:Nat):Int):=by
  have h1:c*2^s<256*2^56:=aX (cR hc (Nat.pow_pos (by decide))) (Nat.mul_le_mul_left _ (cy (by decide) (by omega)));have h2:((c:Int)*2^s)=((c*2^s:Nat):Int):=by push_cast;rfl
  rw[h2];show ((c*2^s:Nat):Int) % 18446744073709551616=_
  omega
 have h1:c*2^s<2^64:=aX (cR hc (Nat.pow_pos (by decide))) (Nat.mul_le_mul_left 256 (cy (n:=2) (by decide) (show s<=56 by omega)));rw[hw,bits_or_u64_nat _ _ hxl h1,hy];go_end0
 exact⟨rfl,_,rfl⟩
def jm(w:World)(B:Nat)(v:Value)(ws:List Nat):Prop:=∃G c,v=.slice (some ⟨G,0,none⟩) ws.length c/\B<=G/\∀(i:Nat) (h:i<ws.length),w.cell? ⟨G,i,none⟩=some (Xu (ws[i]:Nat))
theorem jm.below{w w':World}{B:Nat}{v:Value}(h:jm w B v ws)(hb:Below w.heap.size w w'):jm w' B v ws:=by
 obtain⟨G,c,rfl,hB,hc⟩:=h;refine⟨G,c,rfl,hB,fun i hi=>?_⟩;have h1:=hc i hi;have ad:G<w.heap.size:=by
  unfold World.cell? at h1
  split at h1
  ·rename_i heq;exact(gl heq)
  ·cases h1
 exact(hb.cell (p:=⟨G,i,none⟩) ad).trans h1
theorem E8{B B':Nat}{v v':Value}(h:jm w B v ws)(h':jm w B' v' ws)(hl:ws.length<=100000):
 Ct 147 #[v,v'] w fun e w'=>e=.returned (.bool true)/\∃q,w'=w.drewN q:=by
 obtain⟨G,c,rfl,_,hc⟩:=h;obtain⟨G',c',rfl,_,ad⟩:=h';obtain⟨n,hn⟩:=Ii ws.length;rw[hn] at hl;have H:=kq3 hc ad hn;rw[hn];clear hc ad hn;go_enter func147,ntmps147;go_wp2_with fail
 go_loopw [13] (fun i wr=>∃k:Nat,k<=n/\i=Xi k/\∃q,wr=w.drewN q) (fun i _=>n-(intOf i).toNat)
 case atStart=>exact⟨0,by omega,rfl,0,rfl⟩
 case round=>
  obtain⟨k,hk,rfl,q,rfl⟩:=hrel
  by_cases hlt:k<n
  ·have ai:(k:Int)<n:=by omega
   have c1:=H.a k (by rw[H.c];exact hlt);have c2:=H.b k (by rw[H.c];exact hlt);generalize ws[k]'(by rw[H.c];exact hlt)=x at c1 c2;go_wp2_with fail
   go_quiet (fail)
   go_wp2_with fail;go_roundw
   case rel=>exact⟨k+1,by omega,by simp,_,rfl⟩
   case measure=>simp[intOf];omega
  ·obtain rfl:k=n:=by omega
   go_wp2_with fail;go_ret;exact⟨rfl,_,rfl⟩
end Go.Proofs.YtpljannolpapgaaGreatDoor
namespace Go.Proofs.YtpljannolpapgaaGreatDoor
open Go.RowKit Tryz Go.BigFrame Go.Maps Go.WideMaps Lf
variable{S:St}{Y:Nat->Prop}{ps:Nat}{w:World}
abbrev SV(l:List UInt8):Value:=.string ⟨l.toArray⟩
theorem uQ:(prog.info? 60).map (fun i=>(i.zero,i.size,i.bytes))=some (some (Xu 0),1,8):=by kernel_rfl
theorem vB(n:Nat)(hn:n<=1000000)(W:World):(Instr.makeSlice 177 (Xi (n:Int)) (Xi (n:Int))).run prog W=.ok (.slice (some ⟨W.heap.size,0,none⟩) n n) (W.alloc (.cells ((List.replicate n 0).map fun x:Nat=>Value.int .u64 x).toArray 60)):=by
 obtain⟨i0,hi,ad,ai,al⟩:=info_parts uQ;have e:((List.replicate n 0).map fun x:Nat=>Value.int .u64 x).toArray=madeCells #[Xu 0] n:=by
  apply Array.toList_inj.1;rw[toList_madeCells_one]
  simp
 rw[e];exact run_make_row 177 60 i0 (Xu 0) underlying177 hi ad ai rfl .i64 .i64 n (by rw[al];omega) (by omega) W
theorem Ae(l:List UInt8):∃(capF:World->Nat) (csF:World->Array Value) (frF:World->Nat×Nat),(∀W,(convert 9 226 (SV l)).run prog W=.ok (.slice (some ⟨W.heap.size,0,none⟩) l.length (capF W)) (W.drew.alloc (.cells (csF W) 5 (frF W))))/\∀W i,i<l.length->(csF W)[i]?=some (.int .u8 (FN l i:Nat)):=by
 refine⟨_,_,_,fun W=>run_bytes_of_string W _ _ _ _ underlying9 underlying226 underlying5,?_⟩;intro W i hi;rw[bytesRow_at _ _ _ (by simpa using hi)];simp[FN,List.getD_eq_getElem?_getD,List.getElem?_eq_getElem hi]
structure pM (l:List UInt8) (w:World) (k:Nat) (wr:World):Prop where
 row:wr.heap[w.heap.size]?=some (.cells ((iC l k).map fun x:Nat=>Value.int .u64 x).toArray 60 (0,0))
 box:wr.cell? ⟨w.heap.size+1,0,none⟩=some (.slice (some ⟨w.heap.size,0,none⟩) (1+(l.length+7) / 8) (1+(l.length+7) / 8))
 bytes:∀i,i<l.length->wr.cell? ⟨w.heap.size+2,i,none⟩=some (.int .u8 (FN l i:Nat))
 below:Below w.heap.size w wr
theorem xE(l:List UInt8)(w:World)(hl:l.length<=1000):
 Ct 146 #[SV l] w fun e w'=>∃v,e=.returned (.tuple #[v,Xi 0])/\jm w' w.heap.size v (FK l)/\Below w.heap.size w w':=by
 have a9:(l.length:Int)<=1000:=by omega
 have hm:=fun W=>xD l.length W (by omega);have a7:many l.length=1+(l.length+7) / 8:=by unfold many;rw[if_neg (by omega)]
 rw[a7] at hm;obtain⟨n,hn⟩:=Ii l.length;obtain⟨m,a1⟩:=Ii (1+(n+7) / 8);have a':m<=200:=by omega
 rw[hn,a1] at hm;have H:=kq3 hm hn a1;clear hm a7 a1;go_enter func146,ntmps146;go_wp2_with fail;simp only[hn] at a9⊢;clear hn;refine Jc (H.a _) ?_;have a6:=vB m (by omega);obtain⟨ad,a0⟩:∃cs,((List.replicate m 0).map fun x:Nat=>Value.int .u64 x).toArray=cs:=⟨_,rfl⟩;rw[a0] at a6;obtain⟨ba,ar,au,a3,a2⟩:=Ae l;rw[H.b] at a3;have HB:=kq2 a0 a2;clear a0 a2;have bc:(0:Int)<m:=by have:=H.c;omega
 have bd:0<ad.size:=by have:=H.c;rw[<-HB.a];simp;omega
 go_wp2_with fail
 go_name_world W HW
 have hW:pM l w 0 W:=by
  have e1:∀k:Nat,W.heap[k]?=(((w.alloc (.cells (ad.setIfInBounds 0 (Xu l.length)) 60)).alloc (.cells #[.slice (some ⟨w.heap.size,0,none⟩) m m] 177)).alloc (.cells (ar ((w.alloc (.cells (ad.setIfInBounds 0 (Xu l.length)) 60)).alloc (.cells #[.slice (some ⟨w.heap.size,0,none⟩) m m] 177))) 5 (au ((w.alloc (.cells (ad.setIfInBounds 0 (Xu l.length)) 60)).alloc (.cells #[.slice (some ⟨w.heap.size,0,none⟩) m m] 177))))).heap[k]?:=fun k=>by rw[<-HW];rfl
  have hB:Below w.heap.size w W:=by
   rw[<-HW];have h3:=(((ab _ w).alloc Ih (.cells (ad.setIfInBounds 0 (Xu l.length)) 60)).alloc (by simp) (.cells #[.slice (some ⟨w.heap.size,0,none⟩) m m] 177)).alloc (by simp;omega) (.cells (ar ((w.alloc (.cells (ad.setIfInBounds 0 (Xu l.length)) 60)).alloc (.cells #[.slice (some ⟨w.heap.size,0,none⟩) m m] 177))) 5 (au ((w.alloc (.cells (ad.setIfInBounds 0 (Xu l.length)) 60)).alloc (.cells #[.slice (some ⟨w.heap.size,0,none⟩) m m] 177))));exact⟨h3.os,h3.tape,h3.output,h3.size,h3.block⟩
  have ai:(l.length+7) / 8+1=m:=by have:=H.b;have:=H.c;omega
  refine⟨?_,?_,?_,hB⟩
  ·rw[e1,heap_alloc_old _ _ (by simp;omega),heap_alloc_old _ _ (by simp),heap_alloc_new,Cg,<-HB.a,<-ai]
   simp[List.replicate_succ]
  ·have:W.heap[w.heap.size+1]?=some (.cells #[.slice (some ⟨w.heap.size,0,none⟩) m m] 177):=by
    rw[e1,heap_alloc_old _ _ (by simp)];have:=heap_alloc_new (w.alloc (.cells (ad.setIfInBounds 0 (Xu l.length)) 60)) (.cells #[.slice (some ⟨w.heap.size,0,none⟩) m m] 177)
    simpa using this
   rw[cell_of_block this,show 1+(l.length+7) / 8=m by omega]
   rfl
  ·intro i hi;have:W.heap[w.heap.size+2]?=some (.cells (ar ((w.alloc (.cells (ad.setIfInBounds 0 (Xu l.length)) 60)).alloc (.cells #[.slice (some ⟨w.heap.size,0,none⟩) m m] 177))) 5 (au ((w.alloc (.cells (ad.setIfInBounds 0 (Xu l.length)) 60)).alloc (.cells #[.slice (some ⟨w.heap.size,0,none⟩) m m] 177)))):=by
    rw[e1];have:=heap_alloc_new ((w.alloc (.cells (ad.setIfInBounds 0 (Xu l.length)) 60)).alloc (.cells #[.slice (some ⟨w.heap.size,0,none⟩) m m] 177)) (.cells (ar ((w.alloc (.cells (ad.setIfInBounds 0 (Xu l.length)) 60)).alloc (.cells #[.slice (some ⟨w.heap.size,0,none⟩) m m] 177))) 5 (au ((w.alloc (.cells (ad.setIfInBounds 0 (Xu l.length)) 60)).alloc (.cells #[.slice (some ⟨w.heap.size,0,none⟩) m m] 177))))
    simpa using this
   rw[cell_of_block this];exact HB.b _ i hi
 clear HW a6 a3;have HA:=If hW;clear hW
 go_loopw [6,7,24] (fun _ _ i wr=>∃k:Nat,k<=n/\i=Xi k/\pM l w k wr) (fun _ _ i _=>n-(intOf i).toNat)
 case atStart=>exact⟨0,by omega,rfl,HA.out⟩
 case round=>
  obtain⟨k,hk,rfl,hA⟩:=hrel;have an:=H.b;have ai:=H.c
  by_cases hlt:k<n
  ·have bb:(k:Int)<n:=by omega
   have c1:=hA.bytes k (by omega);have a4:=Cc l k (by omega);have c2:wr.cell? ⟨w.heap.size,1+k / 8,none⟩=some (Xu (cell l (k / 8) (k % 8):Nat)):=by
    rw[cell_of_block hA.row,cg,bi,a4]
    rfl
   have al:=hA.box;rw[an,ai] at al;have a5:=fun W' (h1:W'.heap=wr.heap)=>EO (w:=W') (B:=w.heap.size+1) (G:=w.heap.size) (m:=m) (cap:=m) (i:=k) (c:=FN l k) (x:=cell l (k / 8) (k % 8)) (y:=cell l (k / 8) (k % 8+1))
    (by rw[<-al];simp only[World.cell?,h1]) (by omega) a' (by rw[<-c2];simp only[World.cell?,h1]) (by rw[AT (h1▸hA.row)]) (cell_lt _ _ _ (by omega)) (mC _ _) (by have:=Ag l (k / 8) (k % 8) (by omega);rwa[show 8*(k / 8)+k % 8=k by omega] at this)
   have HK:=kq2 hA a5;clear hA a5 al c2 a4 an ai;go_wp2_with fail;refine(HK.b _ rfl).mono ?_;rintro e w2 ⟨rfl,q,rfl⟩;have HN:pM l w (k+1) ((wr.drewN q).setCell ⟨w.heap.size,1+k / 8,none⟩ (Xu (cell l (k / 8) (k % 8+1):Nat))):=by
    have hA:=HK.a;have hB:Below w.heap.size w ((wr.drewN q).setCell ⟨w.heap.size,1+k / 8,none⟩ (Xu (cell l (k / 8) (k % 8+1):Nat))):=by
     have:Below w.heap.size w (wr.drewN q):=⟨hA.below.os,hA.below.tape,hA.below.output,hA.below.size,hA.below.block⟩;exact this.setCell (p:=⟨w.heap.size,1+k / 8,none⟩) (Nat.le_refl w.heap.size) _
    refine⟨?_,?_,?_,hB⟩
    ·rw[heap_setCell (show (wr.drewN q).heap[w.heap.size]?=_ from hA.row),Cf]
     simp
    ·rw[<-hA.box];exact World.cell?_of_block (w:=wr.drewN q) (FB (w:=wr.drewN q) (k:=w.heap.size+1) (by omega))
    ·intro i hi;rw[<-hA.bytes i hi];exact World.cell?_of_block (w:=wr.drewN q) (FB (w:=wr.drewN q) (k:=w.heap.size+2) (by omega))
   have a8:=If HN;clear HN;go_wp2_with fail;go_roundw
   case rel=>exact⟨k+1,by omega,by simp,a8.out⟩
   case measure=>simp[intOf];omega
  ·obtain rfl:k=n:=by omega
   have al:=hA.box;rw[an,ai] at al;have HK:=kq3 hA ai an;clear hA ai an;go_wp2_with fail;go_ret2;refine⟨_,rfl,⟨w.heap.size,m,?_,Nat.le_refl _,?_⟩,HK.a.below⟩
   ·rw[pj,HK.c,HK.b]
    rfl
   ·intro i hi;have h:=HK.a.row;rw[<-HK.c,rm] at h;rw[cell_of_block h,cg,bi,af hi]
    rfl
def iw(S:St)(n:Nat):Prop:=(S.t.open (fR S.a (n+2)).1.1).1.2=0/\Fv (S.make n).2
theorem oA(hw:iW S.t)(n:Nat):(S.make n).1.1<2^64:=by
 have h:=vZ hw;unfold St.make
 split
 ·simp
 ·split
  ·rename_i addr a1 _;have:=h addr
   split
   ·rename_i hh t1 he;rw[he] at this;exact this
   ·simp
  ·simp
theorem Ig.tabwf(h:Ig w ps S Y):iW S.t:=by
 obtain⟨_,_,_,_,_,h⟩:=h;exact h.tab.wf
theorem jm.keep{w w':World}{B:Nat}{v:Value}{ws:List Nat}(h:jm w B v ws)(hk:Fo Y w w')(hy:∀k,B<=k->k<w.heap.size->Y k):jm w' B v ws:=by
 obtain⟨G,c,rfl,hB,hc⟩:=h;refine⟨G,c,rfl,hB,fun i hi=>?_⟩;have h1:=hc i hi;have ad:G<w.heap.size:=by
  unfold World.cell? at h1
  split at h1
  ·rename_i heq;exact(gl heq)
  ·cases h1
 exact(World.cell?_of_block (hk.block G (hy G hB ad))).trans h1
theorem tP(h:Ig w ps S Y)(hi:Fv S)(l:List UInt8)(hl:l.length<=1000)(hm:iw S (many l.length)):
 Ct 129 #[PV ps,SV l] w fun e w'=>e=.returned (.tuple #[Xu ((fx S l).1.1:Nat),Xi ((fx S l).1.2:Nat)])/\Ig w' ps (fx S l).2 Y/\Fo Y w w':=by
 have a4:=fB h hi 0 (by omega);rw[fU] at a4;have a8:=fun W=>xE l W hl;have bb:=te l hl;have a7:=xZ l (by omega);obtain⟨R,hR⟩:=Ii (fx S l);rw[hR];unfold fx at hR;rw[if_neg (by omega)] at hR;obtain⟨bc,a3⟩:=hm;have ad:=fun W (hW:Ig W ps S (fun k=>Y k\/(w.heap.size<=k/\k<W.heap.size)))=>sH hW (many l.length) (by unfold many;split<;>omega) bc;have a6:=oA h.tabwf (many l.length);have a5:many l.length<=200:=by unfold many;split<;>omega
 obtain⟨⟨⟨hh,er⟩,S1⟩,hS⟩:∃r,S.make (many l.length)=r:=⟨_,rfl⟩;rw[hS] at ad a6 a3 hR;simp only at ad a6 a3 hR;rw[<-bb] at ad a5;obtain⟨ws,bj⟩:=Ii (FK l);rw[bj] at a8 ad a5 a7 hR;have HG:=kq7 a4 a8 ad hR h a7 a3;clear a4 a8 ad hR h a7 a3 bc hS bb bj hi;obtain⟨n,hn⟩:=Ii ws.length;have HN:=If hn;rw[hn] at a5;clear hn;go_enter func129,ntmps129;go_wp2_with fail;refine Jc HG.a ?_;go_wp2_with fail;refine(HG.b _).mono ?_;rintro e w2 ⟨v,rfl,hrow,hb⟩;have a9:=HG.e.wide hb;have H2:=kq3 hrow hb a9;have bm:=hrow;obtain⟨G,cp,rfl,_,_⟩:=bm;rw[HN.out] at H2;simp only[HN.out];clear hrow hb a9;go_wp2_with fail;have ad:=HG.c w2 H2.c;rw[HN.out] at ad;refine ad.mono ?_;rintro e w3 ⟨rfl,h3,k3⟩;clear ad;have bf:=H2.a.keep k3 (fun k h1 h2=>ae ⟨h1,h2⟩);have H3:=kq3 h3 k3 bf;clear h3 k3 bf
 cases er with
 | succ er=>
  have bk:(((er+1:Nat):Int) !=0)=true:=by simp;omega
  obtain⟨g1,a2⟩:=Ii (er+1);rw[a2] at HG bk;have ai:R=((0,g1),S1):=by rw[<-HG.d,<-a2];rfl
  have au:=If ai;simp only[a2];clear ai a2;go_wp2_with fail;go_ret2;obtain rfl:=au.out;exact⟨rfl,H3.a.mono fun k hk=>aa hk,(Fo.of_below H2.b HG.e.yl).trans (H3.b.mono fun k hk=>aa hk)⟩
 | zero=>
  have ai:R=((hh,0),FC S1 hh 0 ws):=by rw[<-HG.d];rfl
  have au:=If ai;clear ai;go_wp2_with fail
  go_loopw [11,12,40] (fun _ _ i wr=>∃k:Nat,k<=n/\i=Xi k/\∃Sk,Ig wr ps Sk (fun k=>Y k\/(w.heap.size<=k/\k<w2.heap.size))/\Fv Sk/\FC Sk hh k (ws.drop k)=R.2/\Fo (fun k=>Y k\/(w.heap.size<=k/\k<w2.heap.size)) w2 wr) (fun _ _ i _=>n-(intOf i).toNat)
  case atStart=>exact⟨0,by omega,rfl,S1,H3.a,HG.g,by rw[au.out];rfl,H3.b⟩
  case round=>
   obtain⟨k,hk,rfl,Sk,a1,a0,ar,al⟩:=hrel
   by_cases hlt:k<n
   ·have bo:(k:Int)<n:=by omega
    have an:k<ws.length:=by rw[HN.out];exact hlt
    obtain⟨G',c',he,_,a'⟩:=H2.a.keep al (fun k h1 h2=>ae ⟨h1,h2⟩)
    injection he with he1 he2 he3
    injection he1 with he1
    injection he1 with he1
    subst he1;have c1:=a' k an;have hx:=HG.f _ (aF an);have hd:ws.drop k=ws[k]::ws.drop (k+1):=aU an;rw[hd] at ar;have bd:=xl a1 a0 hh k ws[k] a6 (by omega) hx;have ba:=a0.put hh k ws[k];generalize ws[k]=x at*;have HK:=kq5 bd ba ar al an;clear bd ba ar al an a' hd a1 a0 he2 he3;go_wp2_with fail;refine HK.a.mono ?_;rintro e w4 ⟨rfl,h4,k4⟩;have H4:=kq2 h4 (HK.d.trans k4);clear h4 k4;go_wp2_with fail;go_roundw
    case rel=>exact⟨k+1,by omega,by simp,_,H4.a,HK.b,HK.c,H4.b⟩
    case measure=>simp[intOf];omega
   ·obtain rfl:k=n:=by omega
    have HK:=kq3 a1 ar al;clear a1 ar al a0;go_wp2_with fail;go_ret2;have hf:Sk=R.2:=by rw[<-HK.b,bU (by rw[HN.out];exact Nat.le_refl _)];rfl
    have e1:R.1=(hh,0):=by rw[au.out]
    rw[e1,<-hf];exact⟨rfl,HK.a.mono fun k hk=>aa hk,(Fo.of_below H2.b HG.e.yl).trans (HK.c.mono fun k hk=>aa hk)⟩
end Go.Proofs.YtpljannolpapgaaGreatDoor
namespace Go.Proofs.YtpljannolpapgaaGreatDoor
open Lf
variable{S:St}{h:Nat}{n:Nat}{o:Nat->Nat}{ws:List Nat}
structure Fw (S:St) (o:Nat->Nat):Prop where
 own:Own S.a o
 tab:iW S.t
 live:∀(i:Nat) (x:fb),S.t.slots[i]?=some x->x.is=1->∃r,eO S.a o x.addr r/\S.a.rd (x.addr+1)+2<=r/\S.a.rd (x.addr+1)<=3998
 inj:∀(i j:Nat) (x y:fb),S.t.slots[i]?=some x->S.t.slots[j]?=some y->x.is=1->y.is=1->x.addr=y.addr->i=j
theorem Fw.inv(h:Fw S o):Fv S where
 len i hi h1:=by
  obtain⟨r,h2,h3,h4⟩:=h.live i _ (af hi) h1;have:=(h2.ok h.own (b:=0) (by omega)).2.1;unfold gK at this;exact⟨h4,by omega⟩
 apart i j hi hj hne h1 h2:=by
  obtain⟨r,g2,g3,g4⟩:=h.live i _ (af hi) h1;obtain⟨r',f2,f3,f4⟩:=h.live j _ (af hj) h2;rcases eO.apart h.own g2 f2 with hq | hq | hq
  ·exact absurd (h.inj i j _ _ (af hi) (af hj) h1 h2 hq.1) hne
  ·left;omega
  ·right;omega
theorem l6{t:Hs}(ht:iW t){h k:Nat}:t.of h=some k↔∃x:fb,t.slots[k]?=some x/\x.is=1/\h=gj x.gen k:=by
 unfold Hs.of gj
 constructor
 ·intro hh;simp only at hh
  split at hh
  ·cases hh
  ·split at hh
   ·cases hh
   ·rename_i x hx
    split at hh
    ·rename_i hc;have:=Option.some.inj hh;subst this;exact⟨x,hx,hc.1,by rw[hc.2];omega⟩
    ·cases hh
 ·rintro⟨x,hx,h1,rfl⟩;have hk:k<t.slots.length:=(az.1 hx).1;have hl:=ht.len;have hm:=ht.most.2;have e1:(x.gen*4294967296+(k+1)) % 4294967296=k+1:=by omega
  have e2:(x.gen*4294967296+(k+1)) / 4294967296=x.gen:=by omega
  simp only[e1,e2];rw[if_neg (by omega),Nat.add_sub_cancel,hx];simp only[h1,and_self,if_true]
def Lf.reco(S:St)(h:Nat):Option (List Nat):=
 match S.t.of h with
 | none=>none
 | some k=>some ((List.range (S.a.rd ((S.t.slots.getD k ⟨0,0,0⟩).addr+1))).map fun j=>S.a.rd ((S.t.slots.getD k ⟨0,0,0⟩).addr+2+j))
def gE(s:Slab)(a:Nat):List Nat:=(List.range (s.rd (a+1))).map fun j=>s.rd (a+2+j)
theorem Jy(s:Slab)(a:Nat):(gE s a).length=s.rd (a+1):=by simp[gE]
theorem E7{s:Slab}{a k:Nat}(h:k<s.rd (a+1)):(gE s a).getD k 0=s.rd (a+2+k):=by
 unfold gE;rw[am,bi,bH h];rfl
theorem gT(ht:iW S.t):reco S h=some ws↔∃(k:Nat) (x:fb),S.t.slots[k]?=some x/\x.is=1/\h=gj x.gen k/\ws=gE S.a x.addr:=by
 unfold reco
 constructor
 ·intro hh
  split at hh
  ·cases hh
  ·rename_i k hk;obtain⟨x,hx,h1,h2⟩:=(l6 ht).1 hk;refine⟨k,x,hx,h1,h2,?_⟩;have e:S.t.slots.getD k ⟨0,0,0⟩=x:=by rw[am,hx];rfl
   rw[e] at hh;exact(Option.some.inj hh).symm
 ·rintro⟨k,x,hx,h1,h2,rfl⟩;rw[(l6 ht).2 ⟨x,hx,h1,h2⟩];have e:S.t.slots.getD k ⟨0,0,0⟩=x:=by rw[am,hx];rfl
  simp only[e]
  rfl
theorem JH{S S':St}(he:∀ws,reco S h=some ws↔reco S' h=some ws):reco S' h=reco S h:=by
 cases h1:reco S h with
 | some ws=>exact(he ws).1 h1
 | none=>
  cases h2:reco S' h with
  | none=>rfl
  | some ws=>rw[(he ws).2 h2] at h1;cases h1
theorem jw(ht:iW S.t)(hl:reco S h=some ws):S.len h=(ws.length,0):=by
 obtain⟨k,x,hx,h1,h2,rfl⟩:=(gT ht).1 hl;have hk:k<S.t.slots.length:=(az.1 hx).1;have ad:S.t.slots[k]=x:=by have:=af hk;rw[hx] at this;exact(Option.some.inj this).symm
 unfold St.len;rw[St.at_some ((l6 ht).2 ⟨x,hx,h1,h2⟩) hk,ad,Jy]
theorem oy(hl:reco S h=none):S.len h=(0,7):=by
 unfold reco at hl
 split at hl
 ·rename_i e;unfold St.len;rw[St.at_none e]
 ·cases hl
theorem ru(hf:Fw S o)(hl:reco S h=some ws){k:Nat}(hk:k<ws.length):S.get h k=(ws.getD k 0,0):=by
 obtain⟨i,x,hx,h1,h2,rfl⟩:=(gT hf.tab).1 hl;have hi:i<S.t.slots.length:=(az.1 hx).1;have ai:S.t.slots[i]=x:=by have:=af hi;rw[hx] at this;exact(Option.some.inj this).symm
 rw[Jy] at hk;obtain⟨r,g1,g2,g3⟩:=hf.live i x hx h1;have ad:=g1.ok hf.own (b:=2+k) (by omega);unfold St.get;rw[St.at_some ((l6 hf.tab).2 ⟨x,hx,h1,h2⟩) hi,ai];simp only;rw[if_pos hk,E7 hk];rw[<-dr] at ad;rw[ad.1]
theorem fL(hf:Fw S o)(hl:reco S h=some ws):0<h/\h<2^64/\ws.length<=3998/\∀v∈ws,v<2^64:=by
 obtain⟨i,x,hx,h1,rfl,rfl⟩:=(gT hf.tab).1 hl;have hi:i<S.t.slots.length:=(az.1 hx).1;have hl:=hf.tab.len;have hm:=hf.tab.most.2;have hg:=(hf.tab.slot x (ce hx)).2.1;obtain⟨r,g1,g2,g3⟩:=hf.live i x hx h1;refine⟨by unfold gj;omega,by unfold gj;omega,by rw[Jy];exact g3,fun v hv=>?_⟩;unfold gE at hv;obtain⟨j,_,rfl⟩:=aA.1 hv;exact hf.own.wf.rd_lt _
structure ej (S S':St) (p q:Nat):Prop where
 quota:S'.a.quota=S.a.quota
 most:S'.t.most=S.t.most
 last:S'.t.last=S.t.last
 pages:S'.a.pages.length<=S.a.pages.length+p
 slots:S'.t.slots.length<=S.t.slots.length+q
theorem ej.refl(S:St):ej S S 0 0:=⟨rfl,rfl,rfl,Nat.le_refl _,Nat.le_refl _⟩
theorem ej.trans{S T U:St}{p q p' q':Nat}(h:ej S T p q)(k:ej T U p' q'):ej S U (p+p') (q+q'):=
 ⟨k.quota.trans h.quota,k.most.trans h.most,k.last.trans h.last,by have:=h.pages;have:=k.pages;omega,by have:=h.slots;have:=k.slots;omega⟩
theorem ej.mono{S S':St}{p q p' q':Nat}(h:ej S S' p q)(hp:p<=p')(hq:q<=q'):ej S S' p' q':=
 ⟨h.quota,h.most,h.last,by have:=h.pages;omega,by have:=h.slots;omega⟩
theorem Cn(hf:Fw S o)(hl:reco S h=some ws){k x:Nat}(hk:k<ws.length)(hx:x<2^64):
 ∃S',S.put h k x=(0,S')/\Fw S' o/\reco S' h=some (ws.set k x)/\(∀h',h'≠h->reco S' h'=reco S h')/\ej S S' 0 0:=by
 obtain⟨i,y,hy,h1,h2,rfl⟩:=(gT hf.tab).1 hl;have hi:i<S.t.slots.length:=(az.1 hy).1;have a0:S.t.slots[i]=y:=by have:=af hi;rw[hy] at this;exact(Option.some.inj this).symm
 rw[Jy] at hk;obtain⟨r,g1,g2,g3⟩:=hf.live i y hy h1;have ai:=g1.ok hf.own (b:=2+k) (by omega);obtain⟨an,ar⟩:=hf.own.wr g1 (b:=2+k) (x:=x) (by omega) hx;rw[<-dr] at ai an ar;have hS:S.put h k x=(0,⟨S.a.wr (y.addr+2+k) x,S.t⟩):=by
  unfold St.put;rw[St.at_some ((l6 hf.tab).2 ⟨y,hy,h1,h2⟩) hi,a0];simp only;rw[if_pos hk,ai.1]
 have ad:∀(j:Nat) (z:fb),S.t.slots[j]?=some z->z.is=1->j≠i->∀b,b<2+S.a.rd (z.addr+1)->(S.a.wr (y.addr+2+k) x).rd (z.addr+b)=S.a.rd (z.addr+b):=by
  intro j z hz hz1 hne b hb;obtain⟨r',f1,f2,f3⟩:=hf.live j z hz hz1;refine Slab.rd_wr_ne _ _ _ _ ?_
  rcases eO.apart hf.own f1 g1 with hq | hq | hq
  ·exact absurd (hf.inj j i z y hz hy hz1 h1 hq.1) hne
  ·omega
  ·omega
 have au:(S.a.wr (y.addr+2+k) x).rd (y.addr+1)=S.a.rd (y.addr+1):=Slab.rd_wr_ne _ _ _ _ (by omega);refine⟨_,hS,⟨an,hf.tab,?_,hf.inj⟩,?_,?_,⟨rfl,rfl,rfl,by show (Slab.wr _ _ _).pages.length<=_;rw[kL];exact Nat.le_refl _,Nat.le_refl _⟩⟩
 ·intro j z hz hz1;obtain⟨r',f1,f2,f3⟩:=hf.live j z hz hz1;refine⟨r',ar _ _ f1,?_⟩
  by_cases e:j=i
  ·subst e;have hz:S.t.slots[j]?=some z:=hz;rw[hy] at hz
   injection hz with hz
   subst hz
   show (S.a.wr (y.addr+2+k) x).rd (y.addr+1)+2<=r'/\(S.a.wr (y.addr+2+k) x).rd (y.addr+1)<=3998
   rw[au];exact⟨f2,f3⟩
  ·show (S.a.wr (y.addr+2+k) x).rd (z.addr+1)+2<=r'/\(S.a.wr (y.addr+2+k) x).rd (z.addr+1)<=3998
   rw[ad j z hz hz1 e 1 (by omega)];exact⟨f2,f3⟩
 ·refine(gT (S:=⟨S.a.wr (y.addr+2+k) x,S.t⟩) hf.tab).2 ⟨i,y,hy,h1,h2,?_⟩;refine du fun j=>?_
  show _=(gE (S.a.wr (y.addr+2+k) x) y.addr)[j]?
  unfold gE;rw[au]
  by_cases hj:j<S.a.rd (y.addr+1)
  ·rw[bi,bH hj]
   by_cases e:k=j
   ·subst e;rw[cf (by simp;exact hk)]
    show some x=some ((S.a.wr (y.addr+2+k) x).rd (y.addr+2+k))
    rw[oS hf.own.wf ai.2.2]
   ·rw[ct e,bi,bH hj]
    show some _=some ((S.a.wr (y.addr+2+k) x).rd (y.addr+2+j))
    rw[Slab.rd_wr_ne _ _ _ _ (by omega)]
  ·rw[aH (by simp;omega),aH (by simp;omega)]
 ·intro h' hne;refine JH (S':=⟨S.a.wr (y.addr+2+k) x,S.t⟩) fun ws'=>?_;have hw:∀(j:Nat) (z:fb),S.t.slots[j]?=some z->z.is=1->h'=gj z.gen j->gE (S.a.wr (y.addr+2+k) x) z.addr=gE S.a z.addr:=by
   intro j z hz hz1 he;have al:j≠i:=by
    rintro rfl;rw[hy] at hz
    injection hz with hz
    subst hz;exact hne (he.trans h2.symm)
   unfold gE;rw[ad j z hz hz1 al 1 (by omega)];refine aP fun b hb=>?_;have hb:=bw.1 hb;have:=ad j z hz hz1 al (2+b) (by omega);rw[<-dr] at this;exact this
  rw[gT hf.tab,gT (S:=⟨S.a.wr (y.addr+2+k) x,S.t⟩) hf.tab]
  constructor
  ·rintro⟨j,z,q1,q2,q3,q4⟩;exact⟨j,z,q1,q2,q3,by rw[q4];exact(hw j z q1 q2 q3).symm⟩
  ·rintro⟨j,z,q1,q2,q3,q4⟩;exact⟨j,z,q1,q2,q3,by rw[q4];exact hw j z q1 q2 q3⟩
theorem vw {o:Nat->Nat}{h:Nat}:∀(l:List Nat) {S:St} {ws:List Nat} {k:Nat},Fw S o->reco S h=some ws->k+l.length<=ws.length->(∀v∈l,v<2^64)->
 Fw (FC S h k l) o/\reco (FC S h k l) h=some (ws.take k++l++ws.drop (k+l.length))/\(∀h',h'≠h->reco (FC S h k l) h'=reco S h')/\ej S (FC S h k l) 0 0
 | [],S,ws,k,hf,hl,hk,hv=>by
  refine⟨hf,?_,fun _ _=>rfl,ej.refl S⟩;show reco S h=_
  rw[hl];simp
 | x::r,S,ws,k,hf,hl,hk,hv=>by
  simp only[ak] at hk;obtain⟨S',e,ad,an,ar,ai⟩:=Cn hf hl (k:=k) (x:=x) (by omega) (hv x (aq ..));obtain⟨q1,q2,q3,q4⟩:=vw r ad an (k:=k+1) (by rw[bE];omega) (fun v hm=>hv v (ah _ hm));have e2:FC S h k (x::r)=FC S' h (k+1) r:=by
   show FC (S.put h k x).2 h (k+1) r=_
   rw[e]
  rw[e2];refine⟨q1,?_,fun h' hn=>(q3 h' hn).trans (ar h' hn),(ai.trans q4).mono (by omega) (by omega)⟩;rw[q2];congr 1
  have al:k<ws.length:=by omega
  rw[List.drop_set_of_lt (by omega),List.take_set,List.take_add_one,af al];simp only[Option.toList_some,ak];rw[List.set_append_right _ _ (by simp;omega)];have:k-(ws.take k).length=0:=by simp;omega
  rw[this];simp only[List.set_cons_zero,bK,aR,aY];rw[show k+1+r.length=k+(r.length+1) by omega]
theorem mR{l ws:List Nat}(hf:Fw S o)(hl:reco S h=some ws)(hk:l.length=ws.length)(hv:∀v∈l,v<2^64):
 Fw (FC S h 0 l) o/\reco (FC S h 0 l) h=some l/\(∀h',h'≠h->reco (FC S h 0 l) h'=reco S h')/\ej S (FC S h 0 l) 0 0:=by
 have:=vw l hf hl (k:=0) (by omega) hv;rw[cC,aY,bU (by omega),bP] at this;exact this
theorem uu:∀(l:List fb) (k0:Nat),∃k,gH l k0=k0+k/\k<=l.length/\(∀x:fb,l[k]?=some x->x.is=0)
 | [],k0=>⟨0,rfl,Nat.le_refl _,by simp⟩
 | y::r,k0=>by
  unfold gH;by_cases h:y.is=0
  ·rw[if_pos h];exact⟨0,rfl,by omega,fun x hx=>by simp at hx;rw[<-hx];exact h⟩
  ·rw[if_neg h];obtain⟨k,h1,h2,h3⟩:=uu r (k0+1);exact⟨k+1,by rw[h1];omega,by simp only[ak];omega,fun x hx=>h3 x (by simpa using hx)⟩
def fc(S:St)(p q:Nat):Prop:=(S.a.pages.length+p)*64<=S.a.quota/\S.t.slots.length+q<=S.t.most
theorem fc.grew{S S':St}{p q p' q':Nat}(h:fc S (p+p') (q+q'))(hg:ej S S' p q):fc S' p' q':=by
 obtain⟨h1,h2⟩:=h;obtain⟨g1,g2,_,g4,g5⟩:=hg;refine⟨?_,by rw[g2];omega⟩;rw[g1];refine aK (db 64 ?_) h1;omega
theorem fc.mono{p q p' q':Nat}(h:fc S p q)(hp:p'<=p)(hq:q'<=q):fc S p' q':=
 ⟨aK (db 64 (by omega)) h.1,by have:=h.2;omega⟩
theorem oz(hf:Fw S o)(hn:n<=3998)(hr:fc S (fa (n+2)) 1):
 ∃h S' o' ws,S.make n=((h,0),S')/\Fw S' o'/\reco S h=none/\ws.length=n/\reco S' h=some ws/\(∀h',h'≠h->reco S' h'=reco S h')/\ej S S' (fa (n+2)) 1/\(S.t.open (fR S.a (n+2)).1.1).1.2=0:=by
 obtain⟨a,s',o',r,ea,T,b2,bs⟩:=yE hf.own (n:=n+2) (by omega) (by omega) hr.1;obtain⟨k,a1,b1,a2⟩:=uu S.t.slots 0;rw[bO] at a1;have bd:k≠S.t.most:=by have:=hr.2;omega
 have hm:=hf.tab.most.2;have bf:=hf.tab.len;obtain⟨l,hl⟩:=Ii (if k=S.t.slots.length then S.t.slots++[⟨0,0,0⟩] else S.t.slots);have a5:k<l.length:=by
  rw[<-hl]
  split
  ·simp only[aD,ak,aM];omega
  ·omega
 have bj:l.length<=S.t.slots.length+1:=by rw[<-hl];split<;>simp
 have bk:l.length<=S.t.most:=by
  rw[<-hl]
  split
  ·have:=hr.2
   simp;omega
  ·exact bf
 have a4:∀i:Nat,i≠k->l[i]?=S.t.slots[i]?:=by
  intro i hi;rw[<-hl]
  split
  ·rename_i e
   rcases bW i S.t.slots.length with h | h
   ·rw[cF h]
   ·rw[bQ h,aH h,aH (by simp;omega)]
  ·rfl
 obtain⟨g,hg⟩:=Ii ((S.t.genAt k+1) % 4294967296);have ba:g<4294967296:=by rw[<-hg];omega
 obtain⟨h,hh⟩:=Ii (gj g k);have bb:h<2^64:=by rw[<-hh];unfold gj;omega
 have a7:S.t.open a=((h,0),{ S.t with slots:=l.set k ⟨1,g,a⟩ }):=by
  unfold Hs.open;simp only[a1];rw[if_neg bd];simp only[hl,hg,hh]
 have ad:=(T.pl a r).2 (ae ⟨rfl,rfl⟩);obtain⟨au,al⟩:=T.own.wr ad (b:=0) (x:=h) (by omega) bb;rw[Nat.add_zero] at au al;obtain⟨bv,a8⟩:=au.wr (al _ _ ad) (b:=1) (x:=n) (by omega) (by omega);have bm:S.make n=((h,0),⟨(s'.wr a h).wr (a+1) n,{ S.t with slots:=l.set k ⟨1,g,a⟩ }⟩):=by
  unfold St.make;rw[if_neg (by omega),ea];simp only[a7]
 have an:∀a0 r0 b,eO S.a o a0 r0->b<r0->((s'.wr a h).wr (a+1) n).rd (a0+b)=S.a.rd (a0+b):=by
  intro a0 r0 b hq hb;have b0:=eO.apart T.own ((T.pl a0 r0).2 (aa hq)) ad;have a6:a0≠a:=by rintro rfl;exact T.fresh _ hq
  rw[Slab.rd_wr_ne _ _ _ _ (by omega),Slab.rd_wr_ne _ _ _ _ (by omega)];exact T.rd a0 r0 b hq hb
 have a3:((s'.wr a h).wr (a+1) n).rd (a+1)=n:=oS au.wf (by rw[i9];exact(ad.ok T.own (b:=1) (by omega)).2.2) _;have ai:∀(i:Nat) (x:fb),(l.set k ⟨1,g,a⟩)[i]?=some x->(i=k/\x=⟨1,g,a⟩)\/(i≠k/\S.t.slots[i]?=some x):=by
  intro i x hx
  by_cases e:i=k
  ·subst e;rw[cf a5] at hx;exact aa ⟨rfl,(Option.some.inj hx).symm⟩
  ·rw[ct (fun h=>e h.symm),a4 i e] at hx;exact ae ⟨e,hx⟩
 have bt:(l.set k ⟨1,g,a⟩)[k]?=some ⟨1,g,a⟩:=cf a5;have bu:∀i:Nat,i≠k->(l.set k (⟨1,g,a⟩:fb))[i]?=S.t.slots[i]?:=fun i e=>by rw[ct (fun h=>e h.symm),a4 i e]
 have a9:a<=4611686018427387903:=by have:=(ad.ok T.own (b:=0) (by omega)).2.1;unfold gK at this;omega
 have ar:iW { S.t with slots:=l.set k ⟨1,g,a⟩ }:=by
  refine⟨hf.tab.most,hf.tab.last,by simp only[bE];exact bk,fun x hx=>?_⟩;obtain⟨i,hi⟩:=List.getElem?_of_mem hx
  rcases ai i x hi with⟨_,e⟩ | ⟨_,e⟩
  ·subst e;exact⟨by show 1<=2;decide,ba,a9⟩
  ·exact hf.tab.slot x (ce e)
 have a':Fw ⟨(s'.wr a h).wr (a+1) n,{ S.t with slots:=l.set k ⟨1,g,a⟩ }⟩ o':=by
  refine⟨bv,ar,?_,?_⟩
  ·intro i x hx h1
   rcases ai i x hx with⟨_,e⟩ | ⟨_,e⟩
   ·subst e;refine⟨r,a8 _ _ (al _ _ ad),?_⟩;simp only;rw[a3];omega
   ·obtain⟨r0,f1,f2,f3⟩:=hf.live i x e h1;refine⟨r0,a8 _ _ (al _ _ ((T.pl _ _).2 (aa f1))),?_⟩;simp only;rw[an _ _ 1 f1 (by omega)];exact⟨f2,f3⟩
  ·intro i j x y hx hy h1 h2 he
   rcases ai i x hx with⟨e1,e⟩ | ⟨e1,e⟩
   ·rcases ai j y hy with⟨e2,e'⟩ | ⟨e2,e'⟩
    ·rw[e1,e2]
    ·subst e;obtain⟨r0,f1,_⟩:=hf.live j y e' h2;rw[<-he] at f1;exact absurd f1 (T.fresh _)
   ·rcases ai j y hy with⟨e2,e'⟩ | ⟨e2,e'⟩
    ·subst e';obtain⟨r0,f1,_⟩:=hf.live i x e h1;rw[he] at f1;exact absurd f1 (T.fresh _)
    ·exact hf.inj i j x y e e' h1 h2 he
 have bo:reco S h=none:=by
  cases hq:reco S h with
  | none=>rfl
  | some ws=>
   exfalso
   obtain⟨i,x,hx,h1,h2,_⟩:=(gT hf.tab).1 hq;have hi:i<S.t.slots.length:=(az.1 hx).1;have e:i=k:=by rw[<-hh] at h2;unfold gj at h2;omega
   subst e;have:=a2 x hx;omega
 refine⟨h,_,o',gE ((s'.wr a h).wr (a+1) n) a,bm,a',bo,by rw[Jy,a3],?_,?_,?_,?_⟩
 ·exact(gT ar).2 ⟨k,_,bt,rfl,hh.symm,rfl⟩
 ·intro h' a6;refine JH fun ws=>?_;rw[gT hf.tab,gT ar];have hw:∀(i:Nat) (x:fb),S.t.slots[i]?=some x->x.is=1->gE ((s'.wr a h).wr (a+1) n) x.addr=gE S.a x.addr:=by
   intro i x hx h1;obtain⟨r0,f1,f2,f3⟩:=hf.live i x hx h1;unfold gE;rw[an _ _ 1 f1 (by omega)];refine aP fun b hb=>?_;have hb:=bw.1 hb;have:=an _ _ (2+b) f1 (by omega);rw[<-dr] at this;exact this
  constructor
  ·rintro⟨i,x,hx,h1,h2,h3⟩;have bc:i≠k:=by rintro rfl;have:=a2 x hx;omega
   exact⟨i,x,(bu i bc).trans hx,h1,h2,by rw[h3];exact(hw i x hx h1).symm⟩
  ·rintro⟨i,x,hx,h1,h2,h3⟩
   rcases ai i x hx with⟨e1,e⟩ | ⟨e1,e⟩
   ·subst e1 e;exact absurd (h2.trans hh) a6
   ·exact⟨i,x,e,h1,h2,by rw[h3];exact hw i x e h1⟩
 ·refine⟨T.quota,rfl,rfl,?_,?_⟩
  ·show (Slab.wr _ _ _).pages.length<=_
   rw[kL,kL];exact bs
  ·simp only[bE];exact bj
 ·rw[ea];simp only[a7]
theorem rz(hf:Fw S o)(hn:n<=3998)(hr:fc S (fa (n+2)) 1):iw S n:=by
 obtain⟨h,S',o',ws,e,ad,_,_,_,_,_,ho⟩:=oz hf hn hr;exact⟨ho,by rw[e];exact ad.inv⟩
theorem mQ(hf:Fw S o)(hl:reco S h=some ws):
 ∃S',S.drop h=(0,S')/\Fw S' o/\reco S' h=none/\(∀h',h'≠h->reco S' h'=reco S h')/\ej S S' 0 0:=by
 obtain⟨k,x,hx,h1,h2,rfl⟩:=(gT hf.tab).1 hl;have hk:k<S.t.slots.length:=(az.1 hx).1;have a4:S.t.slots[k]=x:=by have:=af hk;rw[hx] at this;exact(Option.some.inj this).symm
 have a2:=(l6 hf.tab).2 ⟨x,hx,h1,h2⟩;obtain⟨r,g1,g2,g3⟩:=hf.live k x hx h1;obtain⟨s',es,F⟩:=A9 hf.own g1;obtain⟨z,hz⟩:∃z:Nat,(if x.gen=S.t.last then 2 else 0)=z:=⟨_,rfl⟩;have a5:z≠1/\z<=2:=by rw[<-hz];split<;>omega
 have a6:S.t.close h=(0,{ S.t with slots:=S.t.slots.set k { x with is:=z } }):=by
  rw[Hs.close_some a2 hk,a4,hz]
 have al:∀(i:Nat) (y:fb),(S.t.slots.set k { x with is:=z })[i]?=some y->y.is=1->i≠k/\S.t.slots[i]?=some y:=by
  intro i y hy ad
  by_cases e:i=k
  ·subst e;rw[cf hk] at hy
   injection hy with hy
   rw[<-hy] at ad;exact absurd ad a5.1
  ·rw[ct (fun h=>e h.symm)] at hy;exact⟨e,hy⟩
 have a3:∀i:Nat,i≠k->(S.t.slots.set k { x with is:=z })[i]?=S.t.slots[i]?:=fun i e=>ct (fun h=>e h.symm);have a1:∀(i:Nat) (y:fb),S.t.slots[i]?=some y->y.is=1->i≠k->y.addr≠x.addr:=fun i y hy ad hi e=>hi (hf.inj i k y x hy hx ad h1 e);have ar:iW { S.t with slots:=S.t.slots.set k { x with is:=z } }:=by
  refine⟨hf.tab.most,hf.tab.last,by simp only[bE];exact hf.tab.len,fun y hy=>?_⟩;obtain⟨i,hi⟩:=List.getElem?_of_mem hy
  by_cases e:i=k
  ·subst e;rw[cf hk] at hi
   injection hi with hi
   rw[<-hi];have:=hf.tab.slot x (ce hx);exact⟨a5.2,this.2⟩
  ·rw[a3 i e] at hi;exact hf.tab.slot y (ce hi)
 have a7:S.drop h=(0,⟨s',{ S.t with slots:=S.t.slots.set k { x with is:=z } }⟩):=by
  unfold St.drop;rw[St.at_some a2 hk,a4];simp only[a6,es]
 have a8:Fw ⟨s',{ S.t with slots:=S.t.slots.set k { x with is:=z } }⟩ o:=by
  refine⟨F.own,ar,?_,?_⟩
  ·intro i y hy ad;obtain⟨hi,hy⟩:=al i y hy ad;obtain⟨r0,f1,f2,f3⟩:=hf.live i y hy ad;have hp:=(F.pl _ _).2 ⟨f1,a1 i y hy ad hi⟩;refine⟨r0,hp,?_⟩;simp only;rw[F.rd _ _ 1 hp (by omega)];exact⟨f2,f3⟩
  ·intro i j y y' hy an h3 h4 he;exact hf.inj i j y y' (al i y hy h3).2 (al j y' an h4).2 h3 h4 he
 refine⟨_,a7,a8,?_,?_,⟨F.quota,rfl,rfl,F.len,by simp only[bE];exact Nat.le_refl _⟩⟩
 ·cases hq:reco (⟨s',{ S.t with slots:=S.t.slots.set k { x with is:=z } }⟩:St) h with
  | none=>rfl
  | some ws=>
   exfalso
   obtain⟨i,y,hy,ad,ai,_⟩:=(gT ar).1 hq;obtain⟨hi,hy⟩:=al i y hy ad;have a9:i<S.t.slots.length:=(az.1 hy).1;have:=hf.tab.len;have:=hf.tab.most.2;rw[h2] at ai;unfold gj at ai;omega
 ·intro h' hn;refine JH fun ws=>?_;rw[gT hf.tab,gT ar];have hw:∀(i:Nat) (y:fb),S.t.slots[i]?=some y->y.is=1->i≠k->gE s' y.addr=gE S.a y.addr:=by
   intro i y hy ad hi;obtain⟨r0,f1,f2,f3⟩:=hf.live i y hy ad;have hp:=(F.pl _ _).2 ⟨f1,a1 i y hy ad hi⟩;unfold gE;rw[F.rd _ _ 1 hp (by omega)];refine aP fun b hb=>?_;have hb:=bw.1 hb;have:=F.rd _ _ (2+b) hp (by omega);rw[<-dr] at this;exact this
  constructor
  ·rintro⟨i,y,hy,ad,ai,au⟩;have a0:i≠k:=by
    rintro rfl;rw[hx] at hy
    injection hy with hy
    subst hy;exact hn (ai.trans h2.symm)
   exact⟨i,y,(a3 i a0).trans hy,ad,ai,by rw[au];exact(hw i y hy ad a0).symm⟩
  ·rintro⟨i,y,hy,ad,ai,au⟩;obtain⟨hi,an⟩:=al i y hy ad;exact⟨i,y,an,ad,ai,by rw[au];exact hw i y an ad hi⟩