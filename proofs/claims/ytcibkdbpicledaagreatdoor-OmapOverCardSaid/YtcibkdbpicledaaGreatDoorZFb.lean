/- The heap: what Alloc and Free do to the places of blocks: plain. -/
import Derived.Test.YtcibkdbpicledaaGreatDoorZHg
import Derived.Test.YtcibkdbpicledaaGreatDoorZJe
set_option maxRecDepth 100000
set_option maxHeartbeats 3200000
namespace Go.Proofs.YtcibkdbpicledaaGreatDoor
section
open Lf
variable{S:St}{h:Nat}{n:Nat}{o:Nat->Nat}{s:Slab}{ws:List Nat}
theorem eQ.rd_lt(hw:eQ s)(a:Nat):s.rd a<2^64:=by
 by_cases hp:a / 64∈s.keys
 ·obtain⟨l,h1,h2⟩:=kK hp;rw[rY h1];have hl:=hw.len _ h2;have hi:a % 64<l.length:=by simp only at hl;omega
  rw[aj,af hi];exact hw.word _ h2 _ (aG hi)
 ·rw[oR hp];decide
theorem eQ.getH_lt(hw:eQ s)(p:Nat):(FA s p).w<2^64:=hw.rd_lt _
theorem sR{w k j:Nat}:(iY w k).testBit j=(w.testBit j || decide (k=j)):=by
 unfold iY;rw[Nat.testBit_or,Nat.testBit_two_pow]
theorem xC{w k j:Nat}(hk:k<64)(hj:j<64):(iy w k).testBit j=(w.testBit j && !decide (k=j)):=by
 unfold iy;have h2:(2:Nat)^k<2^64:=Nat.pow_lt_pow_right (by decide) hk;have h1:(18446744073709551615-2^k:Nat)=2^64-(2^k+1):=by
  have:(2:Nat)^64=2^64:=by decide
  omega
 rw[Nat.testBit_and,h1,du h2,Nat.testBit_two_pow]
 simp[hj]
structure Hu (s s':Slab) (o o':Nat->Nat) (a r:Nat):Prop where
 own:Own s' o'
 pl:∀a0 r0,eO s' o' a0 r0↔eO s o a0 r0\/(a0=a/\r0=r)
 fresh:∀r0,¬eO s o a r0
 rd:∀a0 r0 b,eO s o a0 r0->b<r0->s'.rd (a0+b)=s.rd (a0+b)
 quota:s'.quota=s.quota
theorem wm{c k k' h:Nat}(hk:k<eJ c)(hk':k'<eJ c)(e:fF h c k=fF h c k'):k=k':=by
 have hc:=(jA hk).1;have h1:=kq hc hk h;have h2:=kq hc hk' h;refine Classical.byContradiction fun hn=>?_;have:=wV (c:=c) hn;omega
theorem we(h:Own s o){p k:Nat}(hp:p∈s.keys)(ho:o p=p)(hk1:(FA s p).kind=1)(hk:k<eJ (FA s p).n)(hb:(FA s p).w.testBit k=false):
 Hu s (fP s p k).2 o o (fF p (FA s p).n k) (et (FA s p).n)/\(fP s p k).2.pages.length=s.pages.length:=by
 obtain⟨x,hx⟩:=Ii (FA s p);have hd:=(h.down p hp ho).1;have a4:=h.wf.getH_lt p;have hc:=jA hk;rw[hx] at hk1 hk hb hd a4 hc⊢;obtain⟨e1,e2,e3⟩:=kq hc.1 hk p;obtain⟨a,ha⟩:=Ii (fF p x.n k);obtain⟨r,hr⟩:=Ii (et x.n);obtain⟨y,hy⟩:∃y:Hr,{ x with w:=iY x.w k } =y:=⟨_,rfl⟩;have ai:y.kind=1:=by rw[<-hy];exact hk1
 have ad:y.n=x.n:=by rw[<-hy]
 have ar:y.w=iY x.w k:=by rw[<-hy]
 have ap:y.kind<256/\y.n<256:=by rw[ai,ad];exact⟨by decide,hd.small.2⟩
 have a7:y.w<2^64:=by rw[ar];exact tO a4 (by omega)
 have hs:(fP s p k).2=(Ie s p y).zero a r:=by
  unfold fP nY;simp only[hx,hy,ha,hr]
 rw[ha,hr,hs];rw[ha] at e1;rw[hr] at e1 e2 e3;have a6:eQ (Ie s p y):=rS h.wf p ap.1 ap.2 a7;have a5:eQ ((Ie s p y).zero a r):=yo a6 a r;have an:((Ie s p y).zero a r).keys=s.keys:=by rw[yi,oM]
 have a3:∀b,(b<a\/a+r<=b)->b≠p*64->b≠p*64+1->((Ie s p y).zero a r).rd b=s.rd b:=fun b h1 h2 h3=>by rw[tj _ _ _ h1,oN p y h2 h3]
 have al:FA ((Ie s p y).zero a r) p=y:=by
  rw[lQ (s:=Ie s p y) (fun b h1 h2=>tj _ _ _ (by omega))];exact rR h.wf hp ap.1 ap.2
 have ao:∀q,q≠p->FA ((Ie s p y).zero a r) q=FA s q:=fun q hq=>lQ fun b h1 h2=>a3 b (by omega) (by omega) (by omega);have a2:Own ((Ie s p y).zero a r) o:=by
  refine⟨a5,?_,?_⟩
  ·intro q hq;rw[an] at hq⊢;have:=h.up q hq
   by_cases e:o q=p
   ·rw[e,al];rw[e,hx] at this;refine⟨this.1,this.2.1,this.2.2.1,?_⟩;have h4:=this.2.2.2;unfold gr at h4⊢;rw[ai];rw[hk1] at h4;exact h4
   ·rw[ao _ e];exact this
  ·intro q hq hoq;rw[an] at hq⊢;have:=h.down q hq hoq
   by_cases e:q=p
   ·subst e;rw[al];rw[hx] at this;refine⟨ab ⟨ai,by rw[ad];exact hc.1⟩,fun j hj=>this.2 j ?_⟩;unfold gr at hj⊢;rw[ai] at hj;rw[hk1];exact hj
   ·rw[ao _ e];exact this
 have au:∀a0 r0,eO ((Ie s p y).zero a r) o a0 r0↔eO s o a0 r0\/(a0=a/\r0=r):=by
  intro a0 r0
  constructor
  ·rintro⟨h0,g1,g2,g3⟩;rw[an] at g1
   by_cases e:h0=p
   ·subst e;rw[al] at g3
    rcases g3 with⟨f1,k',f2,f3,f4,f5⟩ | ⟨f1,_⟩
    ·rw[ar,sR] at f3;rw[ad] at f2 f4 f5
     by_cases ek:k=k'
     ·subst ek
      right;exact⟨f4.trans ha,f5.trans hr⟩
     ·left
      refine⟨h0,g1,g2,ab ⟨by rw[hx];exact hk1,k',by rw[hx];exact f2,?_,by rw[hx];exact f4,by rw[hx];exact f5⟩⟩;rw[hx]
      simpa[ek] using f3
    ·omega
   ·rw[ao _ e] at g3;exact ab ⟨h0,g1,g2,g3⟩
  ·rintro(⟨h0,g1,g2,g3⟩ | ⟨rfl,rfl⟩)
   ·refine⟨h0,by rw[an];exact g1,g2,?_⟩
    by_cases e:h0=p
    ·subst e;rw[al];rw[hx] at g3
     rcases g3 with⟨f1,k',f2,f3,f4,f5⟩ | ⟨f1,_⟩
     ·exact ab ⟨ai,k',by rw[ad];exact f2,by rw[ar,sR,f3];rfl,by rw[ad];exact f4,by rw[ad];exact f5⟩
     ·omega
    ·rw[ao _ e];exact g3
   ·refine⟨p,by rw[an];exact hp,ho,?_⟩;rw[al];exact ab ⟨ai,k,by rw[ad];exact hk,by rw[ar,sR];simp,by rw[ad];exact ha.symm,by rw[ad];exact hr.symm⟩
 have a1:∀r0,¬eO s o a r0:=by
  rintro r0 ⟨h0,hq⟩;have a9:=(hq.pos h).2.1;have:h0=p:=by omega
  subst this;have g3:=hq.2.2;rw[hx] at g3
  rcases g3 with⟨f1,k',f2,f3,f4,f5⟩ | ⟨f1,_⟩
  ·have:=wm hk f2 (ha.trans f4);subst this;rw[hb] at f3
   cases f3
  ·omega
 refine⟨⟨a2,au,a1,?_,?_⟩,?_⟩
 ·intro a0 r0 b hq hbr;have a8:=eO.apart a2 ((au a0 r0).2 (ab hq)) ((au a r).2 (ae ⟨rfl,rfl⟩));have a':¬a0=a:=by rintro rfl;exact a1 _ hq
  obtain⟨h0,hq⟩:=hq;have hh:=fun e=>hq.not_head h (b:=b) hbr ho e;refine a3 _ (by omega) ?_ ?_
  ·intro e;have:=hh (by omega);omega
  ·intro e;have:=hh (by omega);omega
 ·rw[yn,ng]
 ·rw[yj,nf]
theorem uD(hw:eQ s)(h1:1<=n)(h2:n<=100)(h3:(s.pages.length+n)*64<=s.quota):∃p,s.grant n=((p,0),s.addRun p n)/\p<=409601/\∀k,k<n->p+k∉s.keys:=by
 obtain⟨t,_,ht,hf⟩:=qH n s.pages.length s.keys (by rw[i8];exact Nat.le_refl _) 0;have ai:s.run n t=true:=mi.2 hf;obtain⟨t',h4,h5,h6⟩:=vn t ai;have he:=qE h5 (s.pages.length*n+1) 0 (cH _) (by omega) fun g _ hg=>h6 g hg;have hg:s.grant n=((t',0),s.addRun t' n):=by
  unfold Slab.grant;rw[if_neg (by omega),if_neg (by omega)];simp only[he]
 have ad:=mJ hw h2;rw[hg] at ad;exact⟨t',hg,ad,mi.1 h5⟩
theorem wa(h:Own s o){p n:Nat}{x:Hr}(hx:kT x)(hxn:gr x=n)(hxw:x.w<2^64)(hfree:∀k,k<n->p+k∉s.keys)(hp:p+n<=1048576)(hr:(s.pages.length+n)*64<=s.quota):
 ∃o',Own (Ie (s.addRun p n) p x) o'/\o' p=p/\p∈(Ie (s.addRun p n) p x).keys/\FA (Ie (s.addRun p n) p x) p=x/\
  (∀a r,eO (Ie (s.addRun p n) p x) o' a r↔eO s o a r\/nH x p a r)/\(∀a r b,eO s o a r->b<r->(Ie (s.addRun p n) p x).rd (a+b)=s.rd (a+b)):=by
 have a4:1<=n:=by
  rw[<-hxn];unfold gr;rcases hx with hx | hx
  ·rw[if_neg (by omega)];exact Nat.le_refl _
  ·rw[if_pos hx.1];exact hx.2.1
 have a1:eQ (s.addRun p n):=tz h.wf n hfree hp hr;obtain⟨au,a0⟩:=hx.small;have a3:eQ (Ie (s.addRun p n) p x):=rS a1 p au a0 hxw;have ad:∀q,q∈(Ie (s.addRun p n) p x).keys↔q∈s.keys\/(p<=q/\q<p+n):=fun q=>by rw[oM,nK]
 have ao:p∈(Ie (s.addRun p n) p x).keys:=(ad p).2 (ae (by omega));have al:FA (Ie (s.addRun p n) p x) p=x:=rR a1 (by rw[<-oM (s.addRun p n) p x];exact ao) au a0;have ar:∀b,(b / 64<p\/p+n<=b / 64)->(Ie (s.addRun p n) p x).rd b=s.rd b:=fun b hb=>by
  rw[oN p x (by omega) (by omega),tx s p n hb]
 have ap:∀q,q∈s.keys->q<p\/p+n<=q:=fun q hq=>by
  refine Classical.byContradiction fun hc=>?_;have:=hfree (q-p) (by omega);rw[show p+(q-p)=q by omega] at this;exact this hq
 have an:∀q,q∈s.keys->FA (Ie (s.addRun p n) p x) q=FA s q:=fun q hq=>lQ fun b h1 h2=>ar b (by rw[h1];exact ap q hq);have ai:∀q,q∈s.keys->(if p<=q/\q<p+n then p else o q)=o q:=fun q hq=>if_neg (by have:=ap q hq;omega);have a2:Own (Ie (s.addRun p n) p x) (fun q=>if p<=q/\q<p+n then p else o q):=by
  refine⟨a3,?_,?_⟩
  ·intro q hq;rcases(ad q).1 hq with hq | hq
   ·have:=h.up q hq;simp only[ai q hq,ai _ this.1];rw[an _ this.1];exact⟨(ad _).2 (ab this.1),this.2⟩
   ·have e1:(if p<=q/\q<p+n then p else o q)=p:=if_pos hq;have e2:(if p<=p/\p<p+n then p else o p)=p:=if_pos (by omega);simp only[e1,e2];rw[al,hxn];exact⟨ao,trivial,hq.1,hq.2⟩
  ·intro q hq hoq;rcases(ad q).1 hq with hq | hq
   ·rw[ai q hq] at hoq;rw[an q hq];have:=h.down q hq hoq;refine⟨this.1,fun k hk=>?_⟩;have h3:=this.2 k hk;simp only[ai _ h3.1];exact⟨(ad _).2 (ab h3.1),h3.2⟩
   ·rw[if_pos hq] at hoq;subst hoq;rw[al,hxn];refine⟨hx,fun k hk=>⟨(ad _).2 (ae (by omega)),?_⟩⟩;try dsimp only
    rw[if_pos (by omega)]
 refine⟨_,a2,if_pos (by omega),ao,al,?_,?_⟩
 ·intro a r;constructor
  ·rintro⟨q,g1,g2,g3⟩;dsimp only at g2
   rcases(ad q).1 g1 with hq | hq
   ·rw[ai q hq] at g2;rw[an q hq] at g3;exact ab ⟨q,hq,g2,g3⟩
   ·rw[if_pos hq] at g2;subst g2;rw[al] at g3;exact ae g3
  ·rintro(⟨q,g1,g2,g3⟩ | hb)
   ·exact⟨q,(ad q).2 (ab g1),by simp only;rw[ai q g1];exact g2,by rw[an q g1];exact g3⟩
   ·exact⟨p,ao,by simp only;rw[if_pos (by omega)],by rw[al];exact hb⟩
 ·rintro a r b ⟨q,hq⟩ hb;exact ar _ (ap _ (hq.word h hb).1)
theorem Hy{n c:Nat}(h:gd n=some c):n<=et c/\c<8:=by
 refine⟨?_,tZ h⟩;unfold gd at h;have:=cG h;unfold et;simpa using this
theorem Am(h:gd n=none):28<n:=by
 unfold gd at h;have:=bF.1 h 7 (by simp)
 simp[iP] at this
 omega
theorem zn{w n k:Nat}(h:fW w n=some k):w.testBit k=false:=by
 unfold fW at h;have:=cG h;simpa using this
theorem yE(h:Own s o)(h1:1<=n)(h2:n<=4000)(hr:(s.pages.length+fa n)*64<=s.quota):
 ∃a s' o' r,fR s n=((a,0),s')/\Hu s s' o o' a r/\n<=r/\s'.pages.length<=s.pages.length+fa n:=by
 cases hc:gd n with
 | none=>
  have ar:=Am hc;have ad:fa n=(n+65) / 64:=by unfold fa;rw[if_neg (by omega),hc]
  obtain⟨p,hg,hp,hf⟩:=uD h.wf (n:=fa n) (by omega) (by omega) hr;have hx:kT ⟨2,fa n,n⟩:=ae ⟨rfl,by simp only;omega,by simp only;omega⟩;have ai:gr ⟨2,fa n,n⟩=fa n:=rfl;obtain⟨o',q1,q2,q3,q4,q5,q6⟩:=wa h hx ai (by simp only;omega) hf (by omega) hr;refine⟨p*64+2,Ie (s.addRun p (fa n)) p ⟨2,fa n,n⟩,o',fa n*64-2,?_,⟨q1,?_,?_,q6,?_⟩,by omega,?_⟩
  ·unfold fR;rw[if_neg (by omega),hc];simp only[hg]
  ·intro a0 r0;rw[q5]
   constructor
   ·rintro(hq | ⟨f1,_⟩ | ⟨f1,f2,f3⟩)
    ·exact ab hq
    ·cases f1
    ·refine ae ⟨f2,?_⟩;simp only at f3;omega
   ·rintro(hq | ⟨rfl,rfl⟩)
    ·exact ab hq
    ·exact ae (ae ⟨rfl,rfl,by simp only;omega⟩)
  ·rintro r0 ⟨q,hq⟩;have e:=(hq.pos h).2.1;have e2:q=p:=by omega
   subst e2;exact hf 0 (by omega) hq.1
  ·rw[ng,mw]
  ·rw[nf,mu];exact Nat.le_refl _
 | some c=>
  obtain⟨an,ao⟩:=Hy hc;have ad:fa n=1:=by unfold fa;rw[if_neg (by omega),hc]
  cases hs:kt s c with
  | some pk=>
   obtain⟨p,k⟩:=pk;obtain⟨x,hm,g1,g2,g3⟩:=oX _ hs;obtain⟨m1,m2,m3⟩:=(h.mem_heads _).1 hm;simp only at m1 m2 m3;subst m3;obtain⟨T,hl⟩:=we h m1 m2 g1 (by rw[g2];exact tN g3) (zn g3);refine⟨(fP s p k).1,(fP s p k).2,o,et (FA s p).n,?_,T,by rw[g2];exact an,by rw[hl];omega⟩;unfold fR;rw[if_neg (by omega),hc];simp only[hs]
  | none=>
   rw[ad] at hr;obtain⟨p,hg,hp,hf⟩:=uD h.wf (n:=1) (by omega) (by omega) hr;have hx:kT ⟨1,c,0⟩:=ab ⟨rfl,ao⟩;have ai:gr ⟨1,c,0⟩=1:=rfl;obtain⟨o',q1,q2,q3,q4,q5,q6⟩:=wa h hx ai (by simp only;omega) hf (by omega) hr;have ap:0<eJ c:=by
    have:c=0\/c=1\/c=2\/c=3\/c=4\/c=5\/c=6\/c=7:=by omega
    rcases this with rfl | rfl | rfl | rfl | rfl | rfl | rfl | rfl<;>simp[eJ,iP]
   obtain⟨T,hl⟩:=we q1 (k:=0) q3 q2 (by rw[q4]) (by rw[q4];exact ap) (by rw[q4];simp);have al:∀a r,eO (Ie (s.addRun p 1) p ⟨1,c,0⟩) o' a r↔eO s o a r:=fun a r=>by
    rw[q5]
    constructor
    ·rintro(hq | ⟨_,k,_,f,_⟩ | ⟨f,_⟩)
     ·exact hq
     ·simp at f
     ·cases f
    ·exact ab
   refine⟨(fP (Ie (s.addRun p 1) p ⟨1,c,0⟩) p 0).1,(fP (Ie (s.addRun p 1) p ⟨1,c,0⟩) p 0).2,o',et (FA (Ie (s.addRun p 1) p ⟨1,c,0⟩) p).n,?_,⟨T.own,?_,?_,?_,?_⟩,?_,?_⟩
   ·unfold fR;rw[if_neg (by omega),hc];simp only[hs,hg]
   ·intro a0 r0;rw[T.pl,al]
    rfl
   ·intro r0 hq;exact T.fresh r0 ((al _ _).2 hq)
   ·intro a0 r0 b hq hb;rw[T.rd a0 r0 b ((al _ _).2 hq) hb];exact q6 a0 r0 b hq hb
   ·rw[T.quota,ng,mw]
   ·rw[q4];exact an
   ·rw[hl,nf,mu,ad];exact Nat.le_refl _
structure yu (s s':Slab) (o:Nat->Nat) (a:Nat):Prop where
 own:Own s' o
 pl:∀a0 r0,eO s' o a0 r0↔eO s o a0 r0/\a0≠a
 rd:∀a0 r0 b,eO s' o a0 r0->b<r0->s'.rd (a0+b)=s.rd (a0+b)
 quota:s'.quota=s.quota
 len:s'.pages.length<=s.pages.length
theorem GC(h:Own s o){p n:Nat}(hp:p∈s.keys)(ho:o p=p)(hn:gr (FA s p)=n):
 Own (s.delRun p n) o/\(∀a r,eO (s.delRun p n) o a r↔eO s o a r/\a / 64≠p)/\(∀a r b,eO (s.delRun p n) o a r->b<r->(s.delRun p n).rd (a+b)=s.rd (a+b)):=by
 have dn:=(h.down p hp ho).2;rw[hn] at dn;have ad:∀q,q∈(s.delRun p n).keys↔q∈s.keys/\¬(p<=q/\q<p+n):=fun q=>vL;have al:∀q,q∈(s.delRun p n).keys->FA (s.delRun p n) q=FA s q:=fun q hq=>lQ fun b h1 h2=>qr s p n (by have:=((ad q).1 hq).2;omega);have ai:∀q,q∈s.keys->(o q=p↔p<=q/\q<p+n):=fun q hq=>by
  constructor
  ·intro e;have:=h.up q hq;rw[e,hn] at this;exact⟨this.2.2.1,this.2.2.2⟩
  ·intro e;have:=(dn (q-p) (by omega)).2;rw[show p+(q-p)=q by omega] at this;exact this
 have ao:Own (s.delRun p n) o:=by
  refine⟨ug h.wf p n,?_,?_⟩
  ·intro q hq;obtain⟨g1,g2⟩:=(ad q).1 hq;have:=h.up q g1;have hk:o q∈(s.delRun p n).keys:=(ad _).2 ⟨this.1,fun hc=>by
    have e:=(ai (o q) this.1).2 hc;rw[this.2.1] at e;exact g2 ((ai q g1).1 e)⟩
   rw[al _ hk];exact⟨hk,this.2⟩
  ·intro q hq hoq;obtain⟨g1,g2⟩:=(ad q).1 hq;rw[al q hq];have:=h.down q g1 hoq;refine⟨this.1,fun k hk=>?_⟩;have h3:=this.2 k hk;refine⟨(ad _).2 ⟨h3.1,fun hc=>?_⟩,h3.2⟩;have e:=(ai _ h3.1).2 hc;rw[h3.2] at e;subst e;exact g2 ((ai q g1).1 hoq)
 have ap:∀a r,eO (s.delRun p n) o a r↔eO s o a r/\a / 64≠p:=by
  intro a r
  constructor
  ·rintro⟨q,g1,g2,g3⟩;have hk:=(ad q).1 g1;rw[al q g1] at g3;have hq:gZ s o q a r:=⟨hk.1,g2,g3⟩;refine⟨⟨q,hq⟩,?_⟩;rw[(hq.pos h).2.1];rintro rfl;exact hk.2 ((ai q hk.1).1 g2)
  ·rintro⟨⟨q,hq⟩,an⟩;rw[(hq.pos h).2.1] at an;have hk:q∈(s.delRun p n).keys:=(ad q).2 ⟨hq.1,fun hc=>an (by rw[<-hq.2.1];exact(ai q hq.1).2 hc)⟩;exact⟨q,hk,hq.2.1,by rw[al q hk];exact hq.2.2⟩
 refine⟨ao,ap,?_⟩;rintro a r b ⟨q,hq⟩ hb;have hk:=((ad _).1 (hq.word ao hb).1).2;exact qr s p n (by omega)
theorem wH(hw:eQ s){p n:Nat}(h1:1<=n)(h2:n<=64)(hk:∀k,k<n->p+k∈s.keys):s.release p n=(0,s.delRun p n):=by
 have ad:=hw.top _ (hk (n-1) (by omega));unfold Slab.release;rw[if_neg (by omega),if_pos (si.2 hk)]
theorem qv(a:Nat):∀(l:List (Nat×Hr)) {p k:Nat} {x:Hr},fS a l=some (p,k,x)->(p,x)∈l/\((x.kind=2/\a=p*64+2)\/(x.kind=1/\k<eJ x.n/\fF p x.n k=a/\x.w.testBit k=true))
 | [],p,k,x,h=>by unfold fS at h;cases h
 | (q,y)::r,p,k,x,h=>by
  unfold fS at h;split at h
  ·rename_i hc;have h:=Option.some.inj h;injection h with e1 e2
   injection e2 with e2 e3
   subst e1 e2 e3;exact⟨av ..,ab hc⟩
  ·split at h
   ·have:=qv a r h;exact⟨ah _ this.1,this.2⟩
   ·rename_i hc;split at h
    ·rename_i k' hk';have h:=Option.some.inj h;injection h with e1 e2
     injection e2 with e2 e3
     subst e1 e2 e3;unfold km at hk';have hm:=bP hk';have hp:=cG hk';simp only[bJ] at hm;simp only[aI,decide_eq_true_eq,jI] at hp;have ad:¬(y.kind≠1):=fun e=>hc (ab e);exact⟨av ..,ae ⟨de.1 ad,hm,hp.1,hp.2.2⟩⟩
    ·have:=qv a r h;exact⟨ah _ this.1,this.2⟩
theorem qw(a:Nat):∀(l:List (Nat×Hr)),fS a l=none->∀p x,(p,x)∈l->¬(x.kind=2/\a=p*64+2)/\(x.kind=1->a / 64=p->∀k,k<eJ x.n->fF p x.n k=a->x.w.testBit k=false)
 | [],_,p,x,hm=>by cases hm
 | (q,y)::r,h,p,x,hm=>by
  unfold fS at h;split at h
  ·cases h
  ·rename_i hc1;split at h
   ·rename_i hc;rcases ag.1 hm with e | e
    ·injection e with e1 e2
     subst e1 e2;refine⟨hc1,fun g1 g2=>?_⟩;rcases hc with hc | hc
     ·exact absurd g1 hc
     ·exact absurd g2 hc
    ·exact qw a r h p x e
   ·split at h
    ·cases h
    ·rename_i hs;rcases ag.1 hm with e | e
     ·injection e with e1 e2
      subst e1 e2;refine⟨hc1,fun _ _ k hk he=>?_⟩;unfold km at hs;have:=bF.1 hs k (bJ.2 hk);have ad:=(jA hk).2;simpa[he,jI,show k<64 by omega] using this
     ·exact qw a r h p x e
theorem GY(h:Own s o){a r:Nat}(hp:eO s o a r):∃p k,kb s a=some (p,k,FA s p)/\p∈s.keys/\o p=p/\a / 64=p/\(((FA s p).kind=2/\a=p*64+2)\/((FA s p).kind=1/\k<eJ (FA s p).n/\fF p (FA s p).n k=a/\(FA s p).w.testBit k=true)):=by
 obtain⟨q,hq⟩:=hp;have ad:=(hq.pos h).2.1;have ai:(q,FA s q)∈kf s:=(h.mem_heads _).2 ⟨hq.1,hq.2.1,rfl⟩
 cases hf:kb s a with
 | none=>
  exfalso
  have:=qw a _ hf q _ ai
  rcases hq.2.2 with⟨f1,k,f2,f3,f4,f5⟩ | ⟨f1,f2,f3⟩
  ·have:=this.2 f1 ad k f2 f4.symm;rw[this] at f3
   cases f3
  ·exact this.1 ⟨f1,f2⟩
 | some t=>
  obtain⟨p,k,x⟩:=t;obtain⟨hm,hx⟩:=qv a _ hf;obtain⟨m1,m2,m3⟩:=(h.mem_heads _).1 hm;simp only at m1 m2 m3;subst m3;refine⟨p,k,rfl,m1,m2,?_,hx⟩
  rcases hx with hx | hx
  ·omega
  ·obtain⟨e1,e2,e3⟩:=kq (jA hx.2.1).1 hx.2.1 p;omega
theorem A9(h:Own s o){a r:Nat}(hp:eO s o a r):∃s',iM s a=(0,s')/\yu s s' o a:=by
 obtain⟨p,k,hf,m1,m2,m3,hx⟩:=GY h hp;have hd:=h.down p m1 m2;obtain⟨x,ad⟩:=Ii (FA s p);have a':=h.wf.getH_lt p;rw[ad] at hf hx hd a'
 rcases hx with⟨x1,x2⟩ | ⟨x1,x2,x3,x4⟩
 ·have a1:gr x=x.n:=by unfold gr;rw[if_pos x1]
  obtain⟨ba,dn⟩:=hd;rw[a1] at dn;have hn:1<=x.n/\x.n<=64:=by rcases ba with g | g<;>omega
  have a4:=wH h.wf hn.1 hn.2 fun j hj=>(dn j hj).1;obtain⟨q1,q2,q3⟩:=GC (n:=x.n) h m1 m2 (by rw[ad];exact a1);refine⟨s.delRun p x.n,?_,q1,?_,q3,qp s p _,qo s p _⟩
  ·unfold iM;rw[hf];simp only[x1,if_true];exact a4
  ·intro a0 r0;rw[q2]
   constructor
   ·rintro⟨g,ao⟩;exact⟨g,fun e=>ao (by rw[e];exact m3)⟩
   ·rintro⟨g,ao⟩;refine⟨g,fun e=>ao ?_⟩;obtain⟨q,hq⟩:=g;have:=(hq.pos h).2.1;have e2:q=p:=by omega
    subst e2;have g3:=hq.2.2;rw[ad] at g3
    rcases g3 with⟨f1,_⟩ | ⟨f1,f2,f3⟩
    ·omega
    ·omega
 ·have a6:=(jA x2).1;have bc:=(jA x2).2;obtain⟨e1,e2,e3⟩:=kq a6 x2 p;obtain⟨y,hy⟩:∃y:Hr,{ x with w:=iy x.w k } =y:=⟨_,rfl⟩;have ap:y.kind=1:=by rw[<-hy];exact x1
  have an:y.n=x.n:=by rw[<-hy]
  have a5:y.w=iy x.w k:=by rw[<-hy]
  have a2:y.kind<256/\y.n<256:=by rw[ap,an];omega
  have bb:y.w<2^64:=by rw[a5];exact da Nat.and_le_left a'
  have a9:eQ (Ie s p y):=rS h.wf p a2.1 a2.2 bb;have ai:FA (Ie s p y) p=y:=rR h.wf m1 a2.1 a2.2;have ar:∀q,q≠p->FA (Ie s p y) q=FA s q:=fun q hq=>lQ fun b h1 h2=>oN p y (by omega) (by omega);have al:=oM s p y;have a3:Own (Ie s p y) o:=by
   refine⟨a9,?_,?_⟩
   ·intro q hq;rw[al] at hq⊢;have:=h.up q hq
    by_cases e:o q=p
    ·rw[e,ai];rw[e,ad] at this;refine⟨this.1,this.2.1,this.2.2.1,?_⟩;have h4:=this.2.2.2;unfold gr at h4⊢;rw[ap];rw[x1] at h4;exact h4
    ·rw[ar _ e];exact this
   ·intro q hq hoq;rw[al] at hq⊢;have:=h.down q hq hoq
    by_cases e:q=p
    ·subst e;rw[ai];rw[ad] at this;refine⟨ab ⟨ap,by rw[an];exact a6⟩,fun j hj=>this.2 j ?_⟩;unfold gr at hj⊢;rw[ap] at hj;rw[x1];exact hj
    ·rw[ar _ e];exact this
  have au:∀a0 r0,eO (Ie s p y) o a0 r0↔eO s o a0 r0/\a0≠a:=by
   intro a0 r0
   constructor
   ·rintro⟨q,g1,g2,g3⟩;rw[al] at g1
    by_cases e:q=p
    ·subst e;rw[ai] at g3
     rcases g3 with⟨f1,k',f2,f3,f4,f5⟩ | ⟨f1,_⟩
     ·rw[an] at f2 f4 f5;rw[a5,xC (by omega) (by have:=(jA f2).2;omega)] at f3;simp only[aI,Bool.not_eq_true',decide_eq_false_iff_not] at f3;refine⟨⟨q,g1,g2,by rw[ad];exact ab ⟨x1,k',f2,f3.1,f4,f5⟩⟩,?_⟩;intro e;exact f3.2 (wm x2 f2 (x3.trans (e.symm.trans f4)))
     ·omega
    ·rw[ar _ e] at g3;have hq:gZ s o q a0 r0:=⟨g1,g2,g3⟩;refine⟨⟨q,hq⟩,?_⟩;have:=(hq.pos h).2.1;rintro rfl;exact e (by omega)
   ·rintro⟨⟨q,hq⟩,ao⟩;refine⟨q,by rw[al];exact hq.1,hq.2.1,?_⟩
    by_cases e:q=p
    ·subst e;rw[ai];have g3:=hq.2.2;rw[ad] at g3
     rcases g3 with⟨f1,k',f2,f3,f4,f5⟩ | ⟨f1,_⟩
     ·refine ab ⟨ap,k',by rw[an];exact f2,?_,by rw[an];exact f4,by rw[an];exact f5⟩;rw[a5,xC (by omega) (by have:=(jA f2).2;omega),f3];have:k≠k':=by rintro rfl;exact ao (f4.trans x3)
      simp[this]
     ·omega
    ·rw[ar _ e];exact hq.2.2
  have a8:∀a0 r0 b,eO (Ie s p y) o a0 r0->b<r0->(Ie s p y).rd (a0+b)=s.rd (a0+b):=by
   intro a0 r0 b hq hb;obtain⟨q,hq⟩:=((au a0 r0).1 hq).1;have hh:=fun e=>hq.not_head h (b:=b) hb m2 e;refine oN p y ?_ ?_
   ·intro e;have:=hh (by omega);omega
   ·intro e;have:=hh (by omega);omega
  have a7:iM s a=(0,li s p k):=by
   unfold iM;rw[hf];simp only;rw[if_neg (by omega)]
  by_cases hz:y=⟨1,x.n,0⟩
  ·have a1:gr (FA (Ie s p y) p)=1:=by rw[ai,hz];rfl
   obtain⟨q1,q2,q3⟩:=GC a3 (p:=p) (n:=1) (by rw[al];exact m1) m2 a1;have a4:=wH a9 (p:=p) (n:=1) (by omega) (by omega) fun j hj=>by
    obtain rfl:j=0:=by omega
    rw[al];exact m1
   refine⟨(Ie s p y).delRun p 1,?_,q1,?_,?_,?_,?_⟩
   ·rw[a7];unfold li;simp only[ad,hy];rw[if_pos hz,a4]
   ·intro a0 r0;rw[q2,au]
    constructor
    ·rintro⟨g,_⟩;exact g
    ·intro g;refine⟨g,fun e=>?_⟩;obtain⟨q,hq⟩:=(au a0 r0).2 g;have:=(hq.pos a3).2.1;have e2:q=p:=by omega
     subst e2;have g3:=hq.2.2;rw[ai,hz] at g3
     rcases g3 with⟨_,k',_,f,_⟩ | ⟨f,_⟩
     ·simp at f
     ·cases f
   ·intro a0 r0 b hq hb;rw[q3 a0 r0 b hq hb];exact a8 a0 r0 b ((q2 a0 r0).1 hq).1 hb
   ·rw[qp,ng]
   ·exact aO (qo _ _ _) (by rw[nf];exact Nat.le_refl _)
  ·refine⟨Ie s p y,?_,a3,au,a8,ng s p y,by rw[nf];exact Nat.le_refl _⟩;rw[a7];unfold li;simp only[ad,hy];rw[if_neg hz]
structure Fw (S:St) (o:Nat->Nat):Prop where
 own:Own S.a o
 tab:iW S.t
 live:∀(i:Nat) (x:e9),S.t.slots[i]?=some x->x.is=1->∃r,eO S.a o x.addr r/\S.a.rd (x.addr+1)+2<=r/\S.a.rd (x.addr+1)<=3998
 inj:∀(i j:Nat) (x y:e9),S.t.slots[i]?=some x->S.t.slots[j]?=some y->x.is=1->y.is=1->x.addr=y.addr->i=j
theorem Fw.inv(h:Fw S o):Fv S where
 len i hi h1:=by
  obtain⟨r,h2,h3,h4⟩:=h.live i _ (af hi) h1;have:=(h2.ok h.own (b:=0) (by omega)).2.1;unfold gK at this;exact⟨h4,by omega⟩
 apart i j hi hj hne h1 h2:=by
  obtain⟨r,g2,g3,g4⟩:=h.live i _ (af hi) h1;obtain⟨r',f2,f3,f4⟩:=h.live j _ (af hj) h2;rcases eO.apart h.own g2 f2 with hq | hq | hq
  ·exact absurd (h.inj i j _ _ (af hi) (af hj) h1 h2 hq.1) hne
  ·left;omega
  ·right;omega
theorem l6{t:Hs}(ht:iW t){h k:Nat}:t.of h=some k↔∃x:e9,t.slots[k]?=some x/\x.is=1/\h=gj x.gen k:=by
 unfold Hs.of gj
 constructor
 ·intro hh;simp only at hh
  split at hh
  ·cases hh
  ·split at hh
   ·cases hh
   ·rename_i x hx
    split at hh
    ·rename_i hc;have:=Option.some.inj hh;subst this;exact⟨x,hx,hc.1,by rw[hc.2];omega⟩
    ·cases hh
 ·rintro⟨x,hx,h1,rfl⟩;have hk:k<t.slots.length:=(aA.1 hx).1;have hl:=ht.len;have hm:=ht.most.2;have e1:(x.gen*4294967296+(k+1)) % 4294967296=k+1:=by omega
  have e2:(x.gen*4294967296+(k+1)) / 4294967296=x.gen:=by omega
  simp only[e1,e2];rw[if_neg (by omega),Nat.add_sub_cancel,hx];simp only[h1,and_self,if_true]
def Lf.reco(S:St)(h:Nat):Option (List Nat):=
 match S.t.of h with
 | none=>none
 | some k=>some ((List.range (S.a.rd ((S.t.slots.getD k ⟨0,0,0⟩).addr+1))).map fun j=>S.a.rd ((S.t.slots.getD k ⟨0,0,0⟩).addr+2+j))
def gE(s:Slab)(a:Nat):List Nat:=(List.range (s.rd (a+1))).map fun j=>s.rd (a+2+j)
theorem mn(s:Slab)(a:Nat):(gE s a).length=s.rd (a+1):=by simp[gE]
theorem E7{a k:Nat}(h:k<s.rd (a+1)):(gE s a).getD k 0=s.rd (a+2+k):=by
 unfold gE;rw[aj,bg,bO h];rfl
theorem gT(ht:iW S.t):reco S h=some ws↔∃(k:Nat) (x:e9),S.t.slots[k]?=some x/\x.is=1/\h=gj x.gen k/\ws=gE S.a x.addr:=by
 unfold reco
 constructor
 ·intro hh
  split at hh
  ·cases hh
  ·rename_i k hk;obtain⟨x,hx,h1,h2⟩:=(l6 ht).1 hk;refine⟨k,x,hx,h1,h2,?_⟩;have e:S.t.slots.getD k ⟨0,0,0⟩=x:=by rw[aj,hx];rfl
   rw[e] at hh;exact(Option.some.inj hh).symm
 ·rintro⟨k,x,hx,h1,h2,rfl⟩;rw[(l6 ht).2 ⟨x,hx,h1,h2⟩];have e:S.t.slots.getD k ⟨0,0,0⟩=x:=by rw[aj,hx];rfl
  simp only[e]
  rfl
theorem rs{S S':St}(he:∀ws,reco S h=some ws↔reco S' h=some ws):reco S' h=reco S h:=by
 cases h1:reco S h with
 | some ws=>exact(he ws).1 h1
 | none=>
  cases h2:reco S' h with
  | none=>rfl
  | some ws=>rw[(he ws).2 h2] at h1;cases h1
theorem jw(ht:iW S.t)(hl:reco S h=some ws):S.len h=(ws.length,0):=by
 obtain⟨k,x,hx,h1,h2,rfl⟩:=(gT ht).1 hl;have hk:k<S.t.slots.length:=(aA.1 hx).1;have ad:S.t.slots[k]=x:=by have:=af hk;rw[hx] at this;exact(Option.some.inj this).symm
 unfold St.len;rw[St.at_some ((l6 ht).2 ⟨x,hx,h1,h2⟩) hk,ad,mn]
theorem oy(hl:reco S h=none):S.len h=(0,7):=by
 unfold reco at hl
 split at hl
 ·rename_i e;unfold St.len;rw[St.at_none e]
 ·cases hl
theorem ru(hf:Fw S o)(hl:reco S h=some ws){k:Nat}(hk:k<ws.length):S.get h k=(ws.getD k 0,0):=by
 obtain⟨i,x,hx,h1,h2,rfl⟩:=(gT hf.tab).1 hl;have hi:i<S.t.slots.length:=(aA.1 hx).1;have ai:S.t.slots[i]=x:=by have:=af hi;rw[hx] at this;exact(Option.some.inj this).symm
 rw[mn] at hk;obtain⟨r,g1,g2,g3⟩:=hf.live i x hx h1;have ad:=g1.ok hf.own (b:=2+k) (by omega);unfold St.get;rw[St.at_some ((l6 hf.tab).2 ⟨x,hx,h1,h2⟩) hi,ai];simp only;rw[if_pos hk,E7 hk];rw[<-dx] at ad;rw[ad.1]
theorem fL(hf:Fw S o)(hl:reco S h=some ws):0<h/\h<2^64/\ws.length<=3998/\∀v∈ws,v<2^64:=by
 obtain⟨i,x,hx,h1,rfl,rfl⟩:=(gT hf.tab).1 hl;have hi:i<S.t.slots.length:=(aA.1 hx).1;have hl:=hf.tab.len;have hm:=hf.tab.most.2;have hg:=(hf.tab.slot x (cq hx)).2.1;obtain⟨r,g1,g2,g3⟩:=hf.live i x hx h1;refine⟨by unfold gj;omega,by unfold gj;omega,by rw[mn];exact g3,fun v hv=>?_⟩;unfold gE at hv;obtain⟨j,_,rfl⟩:=aC.1 hv;exact hf.own.wf.rd_lt _
structure ej (S S':St) (p q:Nat):Prop where
 quota:S'.a.quota=S.a.quota
 most:S'.t.most=S.t.most
 last:S'.t.last=S.t.last
 pages:S'.a.pages.length<=S.a.pages.length+p
 slots:S'.t.slots.length<=S.t.slots.length+q
theorem ej.refl(S:St):ej S S 0 0:=⟨rfl,rfl,rfl,Nat.le_refl _,Nat.le_refl _⟩
theorem ej.trans{S T U:St}{p q p' q':Nat}(h:ej S T p q)(k:ej T U p' q'):ej S U (p+p') (q+q'):=
 ⟨k.quota.trans h.quota,k.most.trans h.most,k.last.trans h.last,by have:=h.pages;have:=k.pages;omega,by have:=h.slots;have:=k.slots;omega⟩
theorem ej.mono{S S':St}{p q p' q':Nat}(h:ej S S' p q)(hp:p<=p')(hq:q<=q'):ej S S' p' q':=
 ⟨h.quota,h.most,h.last,by have:=h.pages;omega,by have:=h.slots;omega⟩
theorem Cn(hf:Fw S o)(hl:reco S h=some ws){k x:Nat}(hk:k<ws.length)(hx:x<2^64):
 ∃S',S.put h k x=(0,S')/\Fw S' o/\reco S' h=some (ws.set k x)/\(∀h',h'≠h->reco S' h'=reco S h')/\ej S S' 0 0:=by
 obtain⟨i,y,hy,h1,h2,rfl⟩:=(gT hf.tab).1 hl;have hi:i<S.t.slots.length:=(aA.1 hy).1;have ar:S.t.slots[i]=y:=by have:=af hi;rw[hy] at this;exact(Option.some.inj this).symm
 rw[mn] at hk;obtain⟨r,g1,g2,g3⟩:=hf.live i y hy h1;have ai:=g1.ok hf.own (b:=2+k) (by omega);obtain⟨an,ao⟩:=hf.own.wr g1 (b:=2+k) (x:=x) (by omega) hx;rw[<-dx] at ai an ao;have hS:S.put h k x=(0,⟨S.a.wr (y.addr+2+k) x,S.t⟩):=by
  unfold St.put;rw[St.at_some ((l6 hf.tab).2 ⟨y,hy,h1,h2⟩) hi,ar];simp only;rw[if_pos hk,ai.1]
 have ad:∀(j:Nat) (z:e9),S.t.slots[j]?=some z->z.is=1->j≠i->∀b,b<2+S.a.rd (z.addr+1)->(S.a.wr (y.addr+2+k) x).rd (z.addr+b)=S.a.rd (z.addr+b):=by
  intro j z hz hz1 hne b hb;obtain⟨r',f1,f2,f3⟩:=hf.live j z hz hz1;refine Slab.rd_wr_ne _ _ _ _ ?_
  rcases eO.apart hf.own f1 g1 with hq | hq | hq
  ·exact absurd (hf.inj j i z y hz hy hz1 h1 hq.1) hne
  ·omega
  ·omega
 have ap:(S.a.wr (y.addr+2+k) x).rd (y.addr+1)=S.a.rd (y.addr+1):=Slab.rd_wr_ne _ _ _ _ (by omega);refine⟨_,hS,⟨an,hf.tab,?_,hf.inj⟩,?_,?_,⟨rfl,rfl,rfl,by show (Slab.wr _ _ _).pages.length<=_;rw[kL];exact Nat.le_refl _,Nat.le_refl _⟩⟩
 ·intro j z hz hz1;obtain⟨r',f1,f2,f3⟩:=hf.live j z hz hz1;refine⟨r',ao _ _ f1,?_⟩
  by_cases e:j=i
  ·subst e;have hz:S.t.slots[j]?=some z:=hz;rw[hy] at hz
   injection hz with hz
   subst hz
   show (S.a.wr (y.addr+2+k) x).rd (y.addr+1)+2<=r'/\(S.a.wr (y.addr+2+k) x).rd (y.addr+1)<=3998
   rw[ap];exact⟨f2,f3⟩
  ·show (S.a.wr (y.addr+2+k) x).rd (z.addr+1)+2<=r'/\(S.a.wr (y.addr+2+k) x).rd (z.addr+1)<=3998
   rw[ad j z hz hz1 e 1 (by omega)];exact⟨f2,f3⟩
 ·refine(gT (S:=⟨S.a.wr (y.addr+2+k) x,S.t⟩) hf.tab).2 ⟨i,y,hy,h1,h2,?_⟩;refine dz fun j=>?_
  show _=(gE (S.a.wr (y.addr+2+k) x) y.addr)[j]?
  unfold gE;rw[ap]
  by_cases hj:j<S.a.rd (y.addr+1)
  ·rw[bg,bO hj]
   by_cases e:k=j
   ·subst e;rw[cy (by simp;exact hk)]
    show some x=some ((S.a.wr (y.addr+2+k) x).rd (y.addr+2+k))
    rw[oS hf.own.wf ai.2.2]
   ·rw[cD e,bg,bO hj]
    show some _=some ((S.a.wr (y.addr+2+k) x).rd (y.addr+2+j))
    rw[Slab.rd_wr_ne _ _ _ _ (by omega)]
  ·rw[aH (by simp;omega),aH (by simp;omega)]
 ·intro h' hne;refine rs (S':=⟨S.a.wr (y.addr+2+k) x,S.t⟩) fun ws'=>?_;have hw:∀(j:Nat) (z:e9),S.t.slots[j]?=some z->z.is=1->h'=gj z.gen j->gE (S.a.wr (y.addr+2+k) x) z.addr=gE S.a z.addr:=by
   intro j z hz hz1 he;have al:j≠i:=by
    rintro rfl;rw[hy] at hz
    injection hz with hz
    subst hz;exact hne (he.trans h2.symm)
   unfold gE;rw[ad j z hz hz1 al 1 (by omega)];refine aR fun b hb=>?_;have hb:=bJ.1 hb;have:=ad j z hz hz1 al (2+b) (by omega);rw[<-dx] at this;exact this
  rw[gT hf.tab,gT (S:=⟨S.a.wr (y.addr+2+k) x,S.t⟩) hf.tab]
  constructor
  ·rintro⟨j,z,q1,q2,q3,q4⟩;exact⟨j,z,q1,q2,q3,by rw[q4];exact(hw j z q1 q2 q3).symm⟩
  ·rintro⟨j,z,q1,q2,q3,q4⟩;exact⟨j,z,q1,q2,q3,by rw[q4];exact hw j z q1 q2 q3⟩
theorem vw {o:Nat->Nat}{h:Nat}:∀(l:List Nat) {S:St} {ws:List Nat} {k:Nat},Fw S o->reco S h=some ws->k+l.length<=ws.length->(∀v∈l,v<2^64)->
 Fw (FC S h k l) o/\reco (FC S h k l) h=some (ws.take k++l++ws.drop (k+l.length))/\(∀h',h'≠h->reco (FC S h k l) h'=reco S h')/\ej S (FC S h k l) 0 0
 | [],S,ws,k,hf,hl,hk,hv=>by
  refine⟨hf,?_,fun _ _=>rfl,ej.refl S⟩;show reco S h=_
  rw[hl];simp
 | x::r,S,ws,k,hf,hl,hk,hv=>by
  simp only[ak] at hk;obtain⟨S',e,ad,an,ao,ai⟩:=Cn hf hl (k:=k) (x:=x) (by omega) (hv x (av ..));obtain⟨q1,q2,q3,q4⟩:=vw r ad an (k:=k+1) (by rw[bG];omega) (fun v hm=>hv v (ah _ hm));have e2:FC S h k (x::r)=FC S' h (k+1) r:=by
   show FC (S.put h k x).2 h (k+1) r=_
   rw[e]
  rw[e2];refine⟨q1,?_,fun h' hn=>(q3 h' hn).trans (ao h' hn),(ai.trans q4).mono (by omega) (by omega)⟩;rw[q2];congr 1
  have al:k<ws.length:=by omega
  rw[List.drop_set_of_lt (by omega),List.take_set,List.take_add_one,af al];simp only[Option.toList_some,ak];rw[List.set_append_right _ _ (by simp;omega)];have:k-(ws.take k).length=0:=by simp;omega
  rw[this];simp only[List.set_cons_zero,bW,aP,aU];rw[show k+1+r.length=k+(r.length+1) by omega]
theorem mR{l ws:List Nat}(hf:Fw S o)(hl:reco S h=some ws)(hk:l.length=ws.length)(hv:∀v∈l,v<2^64):
 Fw (FC S h 0 l) o/\reco (FC S h 0 l) h=some l/\(∀h',h'≠h->reco (FC S h 0 l) h'=reco S h')/\ej S (FC S h 0 l) 0 0:=by
 have:=vw l hf hl (k:=0) (by omega) hv;rw[cF,aU,bY (by omega),bZ] at this;exact this
theorem uu:∀(l:List e9) (k0:Nat),∃k,gH l k0=k0+k/\k<=l.length/\(∀x:e9,l[k]?=some x->x.is=0)
 | [],k0=>⟨0,rfl,Nat.le_refl _,by simp⟩
 | y::r,k0=>by
  unfold gH;by_cases h:y.is=0
  ·rw[if_pos h];exact⟨0,rfl,by omega,fun x hx=>by simp at hx;rw[<-hx];exact h⟩
  ·rw[if_neg h];obtain⟨k,h1,h2,h3⟩:=uu r (k0+1);exact⟨k+1,by rw[h1];omega,by simp only[ak];omega,fun x hx=>h3 x (by simpa using hx)⟩
def fc(S:St)(p q:Nat):Prop:=(S.a.pages.length+p)*64<=S.a.quota/\S.t.slots.length+q<=S.t.most
theorem fc.grew{S S':St}{p q p' q':Nat}(h:fc S (p+p') (q+q'))(hg:ej S S' p q):fc S' p' q':=by
 obtain⟨h1,h2⟩:=h;obtain⟨g1,g2,_,g4,g5⟩:=hg;refine⟨?_,by rw[g2];omega⟩;rw[g1];refine aO (dh 64 ?_) h1;omega
theorem fc.mono{p q p' q':Nat}(h:fc S p q)(hp:p'<=p)(hq:q'<=q):fc S p' q':=
 ⟨aO (dh 64 (by omega)) h.1,by have:=h.2;omega⟩
theorem oz(hf:Fw S o)(hn:n<=3998)(hr:fc S (fa (n+2)) 1):
 ∃h S' o' ws,S.make n=((h,0),S')/\Fw S' o'/\reco S h=none/\ws.length=n/\reco S' h=some ws/\(∀h',h'≠h->reco S' h'=reco S h')/\ej S S' (fa (n+2)) 1/\(S.t.open (fR S.a (n+2)).1.1).1.2=0:=by
 obtain⟨a,s',o',r,ea,T,b0,bm⟩:=yE hf.own (n:=n+2) (by omega) (by omega) hr.1;obtain⟨k,ar,bv,au⟩:=uu S.t.slots 0;rw[bT] at ar;have bb:k≠S.t.most:=by have:=hr.2;omega
 have hm:=hf.tab.most.2;have bc:=hf.tab.len;obtain⟨l,hl⟩:=Ii (if k=S.t.slots.length then S.t.slots++[⟨0,0,0⟩] else S.t.slots);have a3:k<l.length:=by
  rw[<-hl]
  split
  ·simp only[aE,ak,aK];omega
  ·omega
 have bd:l.length<=S.t.slots.length+1:=by rw[<-hl];split<;>simp
 have bf:l.length<=S.t.most:=by
  rw[<-hl]
  split
  ·have:=hr.2
   simp;omega
  ·exact bc
 have a2:∀i:Nat,i≠k->l[i]?=S.t.slots[i]?:=by
  intro i hi;rw[<-hl]
  split
  ·rename_i e
   rcases cg i S.t.slots.length with h | h
   ·rw[cI h]
   ·rw[bU h,aH h,aH (by simp;omega)]
  ·rfl
 obtain⟨g,hg⟩:=Ii ((S.t.genAt k+1) % 4294967296);have a9:g<4294967296:=by rw[<-hg];omega
 obtain⟨h,hh⟩:=Ii (gj g k);have a':h<2^64:=by rw[<-hh];unfold gj;omega
 have a5:S.t.open a=((h,0),{ S.t with slots:=l.set k ⟨1,g,a⟩ }):=by
  unfold Hs.open;simp only[ar];rw[if_neg bb];simp only[hl,hg,hh]
 have ad:=(T.pl a r).2 (ae ⟨rfl,rfl⟩);obtain⟨ap,al⟩:=T.own.wr ad (b:=0) (x:=h) (by omega) a';rw[Nat.add_zero] at ap al;obtain⟨bt,a6⟩:=ap.wr (al _ _ ad) (b:=1) (x:=n) (by omega) (by omega);have bj:S.make n=((h,0),⟨(s'.wr a h).wr (a+1) n,{ S.t with slots:=l.set k ⟨1,g,a⟩ }⟩):=by
  unfold St.make;rw[if_neg (by omega),ea];simp only[a5]
 have an:∀a0 r0 b,eO S.a o a0 r0->b<r0->((s'.wr a h).wr (a+1) n).rd (a0+b)=S.a.rd (a0+b):=by
  intro a0 r0 b hq hb;have bu:=eO.apart T.own ((T.pl a0 r0).2 (ab hq)) ad;have a4:a0≠a:=by rintro rfl;exact T.fresh _ hq
  rw[Slab.rd_wr_ne _ _ _ _ (by omega),Slab.rd_wr_ne _ _ _ _ (by omega)];exact T.rd a0 r0 b hq hb
 have a1:((s'.wr a h).wr (a+1) n).rd (a+1)=n:=oS ap.wf (by rw[i9];exact(ad.ok T.own (b:=1) (by omega)).2.2) _;have ai:∀(i:Nat) (x:e9),(l.set k ⟨1,g,a⟩)[i]?=some x->(i=k/\x=⟨1,g,a⟩)\/(i≠k/\S.t.slots[i]?=some x):=by
  intro i x hx
  by_cases e:i=k
  ·subst e;rw[cy a3] at hx;exact ab ⟨rfl,(Option.some.inj hx).symm⟩
  ·rw[cD (fun h=>e h.symm),a2 i e] at hx;exact ae ⟨e,hx⟩
 have bo:(l.set k ⟨1,g,a⟩)[k]?=some ⟨1,g,a⟩:=cy a3;have bs:∀i:Nat,i≠k->(l.set k (⟨1,g,a⟩:e9))[i]?=S.t.slots[i]?:=fun i e=>by rw[cD (fun h=>e h.symm),a2 i e]
 have a7:a<=4611686018427387903:=by have:=(ad.ok T.own (b:=0) (by omega)).2.1;unfold gK at this;omega
 have ao:iW { S.t with slots:=l.set k ⟨1,g,a⟩ }:=by
  refine⟨hf.tab.most,hf.tab.last,by simp only[bG];exact bf,fun x hx=>?_⟩;obtain⟨i,hi⟩:=List.getElem?_of_mem hx
  rcases ai i x hi with⟨_,e⟩ | ⟨_,e⟩
  ·subst e;exact⟨by show 1<=2;decide,a9,a7⟩
  ·exact hf.tab.slot x (cq e)
 have a8:Fw ⟨(s'.wr a h).wr (a+1) n,{ S.t with slots:=l.set k ⟨1,g,a⟩ }⟩ o':=by
  refine⟨bt,ao,?_,?_⟩
  ·intro i x hx h1
   rcases ai i x hx with⟨_,e⟩ | ⟨_,e⟩
   ·subst e;refine⟨r,a6 _ _ (al _ _ ad),?_⟩;simp only;rw[a1];omega
   ·obtain⟨r0,f1,f2,f3⟩:=hf.live i x e h1;refine⟨r0,a6 _ _ (al _ _ ((T.pl _ _).2 (ab f1))),?_⟩;simp only;rw[an _ _ 1 f1 (by omega)];exact⟨f2,f3⟩
  ·intro i j x y hx hy h1 h2 he
   rcases ai i x hx with⟨e1,e⟩ | ⟨e1,e⟩
   ·rcases ai j y hy with⟨e2,e'⟩ | ⟨e2,e'⟩
    ·rw[e1,e2]
    ·subst e;obtain⟨r0,f1,_⟩:=hf.live j y e' h2;rw[<-he] at f1;exact absurd f1 (T.fresh _)
   ·rcases ai j y hy with⟨e2,e'⟩ | ⟨e2,e'⟩
    ·subst e';obtain⟨r0,f1,_⟩:=hf.live i x e h1;rw[he] at f1;exact absurd f1 (T.fresh _)
    ·exact hf.inj i j x y e e' h1 h2 he
 have bk:reco S h=none:=by
  cases hq:reco S h with
  | none=>rfl
  | some ws=>
   exfalso
   obtain⟨i,x,hx,h1,h2,_⟩:=(gT hf.tab).1 hq;have hi:i<S.t.slots.length:=(aA.1 hx).1;have e:i=k:=by rw[<-hh] at h2;unfold gj at h2;omega
   subst e;have:=au x hx;omega
 refine⟨h,_,o',gE ((s'.wr a h).wr (a+1) n) a,bj,a8,bk,by rw[mn,a1],?_,?_,?_,?_⟩
 ·exact(gT ao).2 ⟨k,_,bo,rfl,hh.symm,rfl⟩
 ·intro h' a4;refine rs fun ws=>?_;rw[gT hf.tab,gT ao];have hw:∀(i:Nat) (x:e9),S.t.slots[i]?=some x->x.is=1->gE ((s'.wr a h).wr (a+1) n) x.addr=gE S.a x.addr:=by
   intro i x hx h1;obtain⟨r0,f1,f2,f3⟩:=hf.live i x hx h1;unfold gE;rw[an _ _ 1 f1 (by omega)];refine aR fun b hb=>?_;have hb:=bJ.1 hb;have:=an _ _ (2+b) f1 (by omega);rw[<-dx] at this;exact this
  constructor
  ·rintro⟨i,x,hx,h1,h2,h3⟩;have ba:i≠k:=by rintro rfl;have:=au x hx;omega
   exact⟨i,x,(bs i ba).trans hx,h1,h2,by rw[h3];exact(hw i x hx h1).symm⟩
  ·rintro⟨i,x,hx,h1,h2,h3⟩
   rcases ai i x hx with⟨e1,e⟩ | ⟨e1,e⟩
   ·subst e1 e;exact absurd (h2.trans hh) a4
   ·exact⟨i,x,e,h1,h2,by rw[h3];exact hw i x e h1⟩
 ·refine⟨T.quota,rfl,rfl,?_,?_⟩
  ·show (Slab.wr _ _ _).pages.length<=_
   rw[kL,kL];exact bm
  ·simp only[bG];exact bd
 ·rw[ea];simp only[a5]
theorem rz(hf:Fw S o)(hn:n<=3998)(hr:fc S (fa (n+2)) 1):iw S n:=by
 obtain⟨h,S',o',ws,e,ad,_,_,_,_,_,ho⟩:=oz hf hn hr;exact⟨ho,by rw[e];exact ad.inv⟩
theorem mQ(hf:Fw S o)(hl:reco S h=some ws):
 ∃S',S.drop h=(0,S')/\Fw S' o/\reco S' h=none/\(∀h',h'≠h->reco S' h'=reco S h')/\ej S S' 0 0:=by
 obtain⟨k,x,hx,h1,h2,rfl⟩:=(gT hf.tab).1 hl;have hk:k<S.t.slots.length:=(aA.1 hx).1;have a2:S.t.slots[k]=x:=by have:=af hk;rw[hx] at this;exact(Option.some.inj this).symm
 have a0:=(l6 hf.tab).2 ⟨x,hx,h1,h2⟩;obtain⟨r,g1,g2,g3⟩:=hf.live k x hx h1;obtain⟨s',es,F⟩:=A9 hf.own g1;obtain⟨z,hz⟩:∃z:Nat,(if x.gen=S.t.last then 2 else 0)=z:=⟨_,rfl⟩;have a3:z≠1/\z<=2:=by rw[<-hz];split<;>omega
 have a4:S.t.close h=(0,{ S.t with slots:=S.t.slots.set k { x with is:=z } }):=by
  rw[Hs.close_some a0 hk,a2,hz]
 have al:∀(i:Nat) (y:e9),(S.t.slots.set k { x with is:=z })[i]?=some y->y.is=1->i≠k/\S.t.slots[i]?=some y:=by
  intro i y hy ad
  by_cases e:i=k
  ·subst e;rw[cy hk] at hy
   injection hy with hy
   rw[<-hy] at ad;exact absurd ad a3.1
  ·rw[cD (fun h=>e h.symm)] at hy;exact⟨e,hy⟩
 have a1:∀i:Nat,i≠k->(S.t.slots.set k { x with is:=z })[i]?=S.t.slots[i]?:=fun i e=>cD (fun h=>e h.symm);have au:∀(i:Nat) (y:e9),S.t.slots[i]?=some y->y.is=1->i≠k->y.addr≠x.addr:=fun i y hy ad hi e=>hi (hf.inj i k y x hy hx ad h1 e);have ao:iW { S.t with slots:=S.t.slots.set k { x with is:=z } }:=by
  refine⟨hf.tab.most,hf.tab.last,by simp only[bG];exact hf.tab.len,fun y hy=>?_⟩;obtain⟨i,hi⟩:=List.getElem?_of_mem hy
  by_cases e:i=k
  ·subst e;rw[cy hk] at hi
   injection hi with hi
   rw[<-hi];have:=hf.tab.slot x (cq hx);exact⟨a3.2,this.2⟩
  ·rw[a1 i e] at hi;exact hf.tab.slot y (cq hi)
 have a5:S.drop h=(0,⟨s',{ S.t with slots:=S.t.slots.set k { x with is:=z } }⟩):=by
  unfold St.drop;rw[St.at_some a0 hk,a2];simp only[a4,es]
 have a6:Fw ⟨s',{ S.t with slots:=S.t.slots.set k { x with is:=z } }⟩ o:=by
  refine⟨F.own,ao,?_,?_⟩
  ·intro i y hy ad;obtain⟨hi,hy⟩:=al i y hy ad;obtain⟨r0,f1,f2,f3⟩:=hf.live i y hy ad;have hp:=(F.pl _ _).2 ⟨f1,au i y hy ad hi⟩;refine⟨r0,hp,?_⟩;simp only;rw[F.rd _ _ 1 hp (by omega)];exact⟨f2,f3⟩
  ·intro i j y y' hy an h3 h4 he;exact hf.inj i j y y' (al i y hy h3).2 (al j y' an h4).2 h3 h4 he
 refine⟨_,a5,a6,?_,?_,⟨F.quota,rfl,rfl,F.len,by simp only[bG];exact Nat.le_refl _⟩⟩
 ·cases hq:reco (⟨s',{ S.t with slots:=S.t.slots.set k { x with is:=z } }⟩:St) h with
  | none=>rfl
  | some ws=>
   exfalso
   obtain⟨i,y,hy,ad,ai,_⟩:=(gT ao).1 hq;obtain⟨hi,hy⟩:=al i y hy ad;have a7:i<S.t.slots.length:=(aA.1 hy).1;have:=hf.tab.len;have:=hf.tab.most.2;rw[h2] at ai;unfold gj at ai;omega
 ·intro h' hn;refine rs fun ws=>?_;rw[gT hf.tab,gT ao];have hw:∀(i:Nat) (y:e9),S.t.slots[i]?=some y->y.is=1->i≠k->gE s' y.addr=gE S.a y.addr:=by
   intro i y hy ad hi;obtain⟨r0,f1,f2,f3⟩:=hf.live i y hy ad;have hp:=(F.pl _ _).2 ⟨f1,au i y hy ad hi⟩;unfold gE;rw[F.rd _ _ 1 hp (by omega)];refine aR fun b hb=>?_;have hb:=bJ.1 hb;have:=F.rd _ _ (2+b) hp (by omega);rw[<-dx] at this;exact this
  constructor
  ·rintro⟨i,y,hy,ad,ai,ap⟩;have ar:i≠k:=by
    rintro rfl;rw[hx] at hy
    injection hy with hy
    subst hy;exact hn (ai.trans h2.symm)
   exact⟨i,y,(a1 i ar).trans hy,ad,ai,by rw[ap];exact(hw i y hy ad ar).symm⟩
  ·rintro⟨i,y,hy,ad,ai,ap⟩;obtain⟨hi,an⟩:=al i y hy ad;exact⟨i,y,an,ad,ai,by rw[ap];exact hw i y an ad hi⟩
end
section
open Go.RowKit Tryz Go.BigFrame Go.Maps Go.WideMaps Lf
open Go.Shelf
variable{S:St}{Y:Nat->Prop}{v:Value}{w:World}
attribute [local go_sem] Oper.semAt_some
theorem eR.own{w w':World}{ps pa pm ph pt:Nat}(h:eR w ps pa pm ph pt v S Y)(hs:w.heap.size<=w'.heap.size)(hc:∀(k:Nat) (o:Obj),w.heap[k]?=some o->(o.isCells=true\/k=pm)->w'.heap[k]?=some o):eR w' ps pa pm ph pt v S Y:=by
 obtain⟨ad,hb⟩:=h.heap.slab;have c1:∀{k:Nat} {cs:Array Value} {t:TypeId} {fr:Nat×Nat},w.heap[k]?=some (.cells cs t fr)->w'.heap[k]?=w.heap[k]?:=fun e=>(hc _ _ e (ab rfl)).trans e.symm;have ht:gA w':=fun j hj=>by
  have:=h.heap.tab j hj;have hx:∃cs t fr,w.heap[fy]?=some (.cells cs t fr):=by
   unfold World.cell? at this
   split at this
   ·rename_i heq;exact⟨_,_,_,heq⟩
   ·cases this
  obtain⟨cs,t,fr,hx⟩:=hx;rw[<-this];exact World.cell?_of_block (c1 hx)
 refine⟨(c1 h.hd).trans h.hd,⟨⟨ad,hb.of_keep hs fun k hk hkk=>?_⟩,(c1 h.heap.hp).trans h.heap.hp,h.heap.yh,ht,h.heap.yt⟩,h.tab.of_keep (c1 h.tab.hd) fun b e=>?_,h.off⟩
 ·rcases hkk with rfl | rfl | ⟨p,hp,rfl⟩
  ·exact c1 hb.hd
  ·obtain⟨es,ck,hm⟩:=hb.map_block;exact(hc _ _ hm (ae rfl)).trans hm.symm
  ·obtain⟨l,hl⟩:=jP.1 hp;exact c1 (hb.pg _ hl)
 ·rcases h.tab.row.2 with⟨e0,_⟩ | ⟨g,ai,al,e0,_,hg,_⟩
  ·rw[e0] at e
   cases e
  ·rw[e0] at e
   injection e with e
   have e:g=b:=e;subst e;exact c1 hg
theorem eR.full{ps pa pm ph pt:Nat}(h:eR w ps pa pm ph pt v S Y):eR w ps pa pm ph pt v S (fun k=>Y k\/(k≠pm/\∃o,w.heap[k]?=some o/\o.isCells=false)):=by
 obtain⟨ai,hb⟩:=h.heap.slab;have hn:∀{k:Nat} {cs:Array Value} {t:TypeId} {fr:Nat×Nat},w.heap[k]?=some (.cells cs t fr)->¬∃o,w.heap[k]?=some o/\o.isCells=false:=fun e ⟨o,h1,h2⟩=>by
  rw[e] at h1
  injection h1 with h1
  rw[<-h1] at h2
  cases h2
 have al:∀{k:Nat},(∃o,w.heap[k]?=some o/\o.isCells=false)->k<w.heap.size:=fun⟨o,h1,_⟩=>(gl h1);have ad:∀k,YS (fun k=>Y k\/(k≠pm/\∃o,w.heap[k]?=some o/\o.isCells=false)) ps ph pt v k->YS Y ps ph pt v k\/(k≠pm/\∃o,w.heap[k]?=some o/\o.isCells=false):=fun k hk=>by
  rcases hk with (hk | hk) | hk
  ·exact ab (ab hk)
  ·exact ae hk
  ·exact ab (ae hk)
 refine⟨h.hd,⟨⟨ai,hb.wf,hb.hd,hb.map,hb.pg,hb.inj,fun hk=>?_,fun hk=>?_,fun p hp hk=>?_,fun k hk=>?_⟩,h.heap.hp,ae (ae (ab rfl)),h.heap.tab,ae (ae (ae (ab rfl)))⟩,h.tab,fun k hk=>?_⟩
 ·rcases ad _ hk with hk | ⟨_,hk⟩
  ·exact hb.ya hk
  ·exact hn hb.hd hk
 ·rcases ad _ hk with hk | ⟨hk,_⟩
  ·exact hb.ym hk
  ·exact hk rfl
 ·rcases ad _ hk with hk | ⟨_,hk⟩
  ·exact hb.yp p hp hk
  ·obtain⟨l,hl⟩:=jP.1 hp;exact hn (hb.pg _ hl) hk
 ·rcases ad _ hk with hk | ⟨_,hk⟩
  ·exact hb.yl k hk
  ·exact al hk
 ·rcases hk with (hk | ⟨_,hk⟩) | hk
  ·exact h.off k (ab hk)
  ·refine⟨?_,fun e=>?_⟩
   ·rintro rfl;exact hn h.tab.hd hk
   ·rcases h.tab.row.2 with⟨e0,_⟩ | ⟨g,an,ao,e0,_,hg,_⟩
    ·rw[e0] at e
     cases e
    ·rw[e0] at e
     injection e with e
     have e:g=k:=e;subst e;exact hn hg hk
  ·exact h.off k (ae hk)
theorem eR.pm_lt{ps pa pm ph pt:Nat}(h:eR w ps pa pm ph pt v S Y):pm<w.heap.size:=by
 obtain⟨ad,hb⟩:=h.heap.slab;exact hb.map.lt
theorem Ex{ps pa pm ph pt:Nat}(h:eR w ps pa pm ph pt v S Y)(hi:Fv S)(hh k x:Nat)(hl:hh<2^64)(hk:k<=2^62)(hx:x<2^64):
 Ct 99 #[PV ps,.int .u64 hh,.int .i64 k,.int .u64 x] w fun e w'=>e=.returned (.int .i64 ((S.put hh k x).1:Nat))/\eR w' ps pa pm ph pt v (S.put hh k x).2 Y/\Fo Y w w':=by
 have ad:=sJ ⟨_,_,_,_,_,h⟩ hi hh k hl hk;have h3:=hi.place_le hh k;obtain⟨R,hR⟩:=Ii (S.put hh k x);rw[hR];rw[St.put_place] at hR
 rcases S.place_cases hh k with⟨p,h1⟩ | ⟨er,h1⟩
 ·rw[h1] at ad h3 hR;simp only at ad h3 hR;obtain⟨_,_,c2,_,_⟩:=h.cells;have an:=h.heap.write p x (by omega) hx;have HG:=kq4 ad hR an h;clear ad hR h hi h1 an;go_enter func99,ntmps99;go_wp2_with fail;refine HG.a.mono ?_;rintro e w1 ⟨rfl,rfl⟩;go_wp2_with fail;refine HG.c.mono ?_;rintro e w1 ⟨rfl,ha,ai⟩;have HA:=kq2 (HG.d.arena ha ai) (ai.mono fun _=>YS.self);clear ha ai;go_wp2_with fail;go_ret;obtain rfl:=HG.b;exact⟨rfl,HA.a,HA.b⟩
 ·rw[h1] at ad hR;simp only at ad hR;have ao:(((er+1:Nat):Int) !=0)=true:=by simp;omega
  obtain⟨g1,al⟩:=Ii (er+1);rw[al] at ad hR ao;have HG:=kq3 ad hR h;clear ad hR h hi h1 al;go_enter func99,ntmps99;go_wp2_with fail;refine HG.a.mono ?_;rintro e w1 ⟨rfl,rfl⟩;go_wp2_with fail;go_ret;obtain rfl:=HG.b;exact⟨rfl,HG.c,Fo.refl _ _⟩
theorem wC(h:Nat)(x:Nat):∀(l:List Nat) (S:St) (k:Nat),FC S h k (l++[x])=((FC S h k l).put h (k+l.length) x).2
 | [],S,k=>rfl
 | y::l,S,k=>by
  show FC (S.put h k y).2 h (k+1) (l++[x])=_
  rw[wC h x l];show ((FC (S.put h k y).2 h (k+1) l).put h (k+1+l.length) x).2=((FC (S.put h k y).2 h (k+1) l).put h (k+(l.length+1)) x).2
  rw[show k+1+l.length=k+(l.length+1) by omega]
def mf(S:St)(h:Nat)(l:List (Nat×Nat)):St:=l.foldl (fun S x=>(S.put h x.1 x.2).2) S
theorem rU(S:St)(h:Nat)(l:List (Nat×Nat))(x:Nat×Nat):mf S h (l++[x])=((mf S h l).put h x.1 x.2).2:=by unfold mf;rw[List.foldl_append];rfl
theorem wy(S:St)(h:Nat)(f:Nat->Nat):∀N,mf S h (gN f N)=FC S h 0 ((List.range N).map f)
 | 0=>rfl
 | N+1=>by
  rw[sg,rU,wy S h f N,dI,aL];show _=FC S h 0 ((List.range N).map f++[f N])
  rw[wC];simp
structure yy (w1 W:World) (ps pa pm ph pt:Nat) (v:Value) (S:St) (Y:Nat->Prop) (hh:Nat) (pre:List lH):Prop where
 st:eR W ps pa pm ph pt v (mf S hh (kO pre)) Y
 inv:Fv (mf S hh (kO pre))
 keep:Fo Y w1 W
theorem mz{ps:Nat}(h:Ig w ps S Y)(hi:Fv S){t:Nat}{n:BN}{vk vv vc:Value}(hn:iU t n)(hk:FD w vk n.keys)(hv:FD w vv n.vals)(hc:FD w vc n.kids)(hh:Nat)(hl:hh<2^64)(hlen:S.len hh=(6*t,0))(hlt:∀x∈bnWords t n,x<2^64):
 Ct 329 #[PV ps,.int .i64 t,.int .u64 hh,eC vk vv vc n.size] w fun e w'=>e=.returned (.int .i64 0)/\Ig w' ps (FC S hh 0 (bnWords t n)) Y/\Fo Y w w':=by
 refine(callsIn_wide (n:=7)).1 ?_;have h1:1<=7:=by omega
 have bk:Fence.wide.fn 85:=trivial;have bj:Fence.wide.fn 215:=trivial;have bo:Fence.wide.fn 216:=trivial;have bm:Fence.wide.fn 99:=trivial;have au:∀W,Below w.heap.size w W->CallsIn Fence.wide 6 prog 85 #[PV ps,.int .u64 0] W _:=fun W hW=>callsIn_wide.2 (fB (h.below hW) hi 0 (by omega));have an:∀W,Below w.heap.size w W->CallsIn Fence.wide 6 prog 85 #[PV ps,.int .u64 hh] W _:=fun W hW=>callsIn_wide.2 (fB (h.below hW) hi hh hl);rw[fU] at au;rw[hlen] at an;have a3:∀W,Below w.heap.size w W->CallsIn Fence.wide 6 prog 215 #[.int .i64 t,eC vk vv vc n.size] W _:=fun W hW=>callsIn_wide.2 (pV hn (hk.below hW) (hv.below hW) (hc.below hW));have a4:∀W,Below w.heap.size w W->CallsIn Fence.wide 6 prog 216 #[.int .i64 t,eC vk vv vc n.size] W _:=fun W hW=>callsIn_wide.2 (tS hn (hk.below hW) (hv.below hW) (hc.below hW));unfold eC at a3 a4⊢;have ht:=And.intro hn.lo hn.hi;have bt:IntKind.i64.wrap (6*(t:Int))=6*(t:Int):=aD _ (by omega);have bb:((6*t:Nat):Int)=6*(t:Int):=by omega
 simp only at au an;rw[bb] at an;have a5:bnWords t n=(List.range (6*t)).map (wAt t n n.keys.length n.kids.length):=rfl;have HG:=kq8 au an a3 a4 h hi hlt a5;obtain⟨Ak,ck,rfl,-⟩:=hk;obtain⟨Av,cv,rfl,-⟩:=hv;obtain⟨Ac,cc,rfl,-⟩:=hc;generalize n.keys.length=lk at*;generalize n.vals.length=lv at*;generalize n.kids.length=lc at*;generalize n.size=sz at*;clear au an a3 a4 h hi hlt hn hlen a5;have B0:=(((aa w.heap.size w).alloc Ih (.cells #[PV ps] 25)).alloc (by simp) (.cells #[.int .u64 hh] 83)).alloc (by simp;omega) (.cells #[.slice Ak lk ck,.slice Av lv cv,.slice Ac lc cc,.int .u64 sz] 286);have q7:=heap_alloc_new ((w.alloc (.cells #[PV ps] 25)).alloc (.cells #[.int .u64 hh] 83)) (.cells #[.slice Ak lk ck,.slice Av lv cv,.slice Ac lc cc,.int .u64 sz] 286);have q6:=(((aa ((w.alloc (.cells #[PV ps] 25)).alloc (.cells #[.int .u64 hh] 83)).heap.size ((w.alloc (.cells #[PV ps] 25)).alloc (.cells #[.int .u64 hh] 83))).alloc Ih (.cells #[.slice Ak lk ck,.slice Av lv cv,.slice Ac lc cc,.int .u64 sz] 286)).block (w.alloc (.cells #[PV ps] 25)).heap.size (by simp)).trans (heap_alloc_new (w.alloc (.cells #[PV ps] 25)) (.cells #[.int .u64 hh] 83));have q4:=(((aa ((w.alloc (.cells #[PV ps] 25)).alloc (.cells #[.int .u64 hh] 83)).heap.size ((w.alloc (.cells #[PV ps] 25)).alloc (.cells #[.int .u64 hh] 83))).alloc Ih (.cells #[.slice Ak lk ck,.slice Av lv cv,.slice Ac lc cc,.int .u64 sz] 286)).block w.heap.size (by simp;omega)).trans ((((aa (w.alloc (.cells #[PV ps] 25)).heap.size (w.alloc (.cells #[PV ps] 25))).alloc Ih (.cells #[.int .u64 hh] 83)).block w.heap.size (by simp)).trans (heap_alloc_new w (.cells #[PV ps] 25)));have z1:(w.alloc (.cells #[PV ps] 25)).heap.size=w.heap.size+1:=by simp
 have z2:((w.alloc (.cells #[PV ps] 25)).alloc (.cells #[.int .u64 hh] 83)).heap.size=w.heap.size+1+1:=by simp
 have z3:(((w.alloc (.cells #[PV ps] 25)).alloc (.cells #[.int .u64 hh] 83)).alloc (.cells #[.slice Ak lk ck,.slice Av lv cv,.slice Ac lc cc,.int .u64 sz] 286)).heap.size=w.heap.size+1+1+1:=by simp
 rw[z1] at q6;rw[z2] at q7;refine callsIn_of_wp_marks func329 rfl trivial ?_ rfl;simp only[ntmps329,bp,ak,aK,Nat.reduceAdd,Nat.reduceSub,aV,aW,bw,aZ,aU,aP];gi_wp2_with fail;generalize (((w.alloc (.cells #[PV ps] 25)).alloc (.cells #[.int .u64 hh] 83)).alloc (.cells #[.slice Ak lk ck,.slice Av lv cv,.slice Ac lc cc,.int .u64 sz] 286))=w0 at*;clear z1 z2;refine(HG.a _ B0).mono ?_;rintro e w1 ⟨rfl,rfl⟩;have x0:(w0).cell? ⟨w.heap.size,0,none⟩=some (PV ps):=by rw[Fs q4];rfl
 have y0:(w0).cell? ⟨w.heap.size+1,0,none⟩=some (.int .u64 hh):=by rw[Fs q6];rfl
 obtain⟨c0,c1,c2,c3⟩:=Fy q7;have H0:=kq4 B0 q4 q6 q7;clear B0 q4 q6 q7;gi_wp2_with fail;clear x0 y0 c0 c1 c2 c3;refine(HG.c _ H0.a).mono ?_;rintro e w1 ⟨rfl,ai⟩;have r4:=(ai.block w.heap.size (by omega)).trans H0.b;have r6:=(ai.block (w.heap.size+1) (by omega)).trans H0.c;have r7:=(ai.block (w.heap.size+1+1) (by omega)).trans H0.d;have s1:=ai.size;have x0:(w1).cell? ⟨w.heap.size,0,none⟩=some (PV ps):=by rw[Fs r4];rfl
 have y0:(w1).cell? ⟨w.heap.size+1,0,none⟩=some (.int .u64 hh):=by rw[Fs r6];rfl
 obtain⟨c0,c1,c2,c3⟩:=Fy r7;have H1:=kq4 (H0.a.trans (ai.mono (by omega))) r4 r6 r7;clear ai r4 r6 r7;gi_wp2_with fail;refine(HG.b _ H1.a).mono ?_;rintro e w2 ⟨rfl,rfl⟩;gi_wp2_with fail;clear x0 y0 c0 c1 c2 c3;refine(HG.d _ H1.a).mono ?_;rintro e w3 ⟨Bx,rfl,a9,rB,rG,al⟩;have t4:=(al.block w.heap.size (by omega)).trans H1.b;have t6:=(al.block (w.heap.size+1) (by omega)).trans H1.c;have B3:=H1.a.trans (al.mono (by omega));have s3:=al.size;have ba:=(gl rG);obtain⟨f,hf⟩:=Ii (wAt t n lk lc);rw[hf] at rG HG;obtain⟨pa,pm,ph,pt,v,a1⟩:=HG.e;have ap:=a1.wide B3;have bc:∀j,j<6*t->f j<2^64:=fun j hj=>HG.g _ (by rw[HG.h];exact aC.2 ⟨j,bJ.2 hj,rfl⟩);have a0:=ap.yl;have bu:pm<w3.heap.size:=ap.pm_lt;have H3:=kq5 ap t4 t6 B3 a1;have a2:=tC (by omega) bc rB rG (fun k=>Y k\/(w.heap.size<=k/\k<w3.heap.size)) (ae ⟨by omega,ba⟩);clear ap t4 t6 B3 rB rG al a1 hf a9;gi_wp2_with fail;refine wpIn_rangeFunc_ownH rfl h1 (gf:=261) (lb:=#[PV Bx]) rfl trivial (enters_of func261 (by kernel_rfl) rfl)
  a2 ir.trans (fun W l o o' h1 h2 h3 h4=>⟨by simp,fun k hk=>World.putObj_heap_other (by have:=a0 k hk;omega)⟩) (aa _ _) (fun _=>rfl)
  (fun ad W=>yy w3 W ps pa pm ph pt v S (fun k=>Y k\/(w.heap.size<=k/\k<w3.heap.size)) hh ad)
  (fun _ _ _=>False)
  (fun ad W W' row hs hg hr=>⟨hs.st.own hg.size (fun k o hk hc=>(hg.block k (gl hk) (fun e=>by
   obtain⟨r1,o',r2,r3⟩:=hr k e.symm
   rcases hc with hc | hc
   ·rw[hk] at r2
    injection r2 with r2;rw[r2,r3] at hc;cases hc
   ·omega)).trans hk),hs.inv,⟨hg.os.trans hs.keep.os,hg.tape.trans hs.keep.tape,hg.output.trans hs.keep.output,aO hs.keep.size hg.size,fun k hk=>(hg.block k (bD (a0 k hk) hs.keep.size) (fun e=>by
   have:=(hr k e.symm).1;have:=a0 k hk;omega)).trans (hs.keep.block k hk)⟩⟩)
  (fun _ _ _ _ _ hs _ _=>hs.elim)
  ⟨H3.a,HG.f,Fo.refl _ _⟩
  (fun x a' _=>a'= { tmps:=#[PV ps,.int .i64 t,.int .u64 hh,.agg #[.slice Ak lk ck,.slice Av lv cv,.slice Ac lc cc,.int .u64 sz],PV w.heap.size,undef,PV (w.heap.size+1),PV (w.heap.size+1+1),.int .i64 0,.int .i64 0,.int .i64 7,.int .i64 (6*(t:Int)),.int .i64 0,.int .i64 x.1.1,.int .u64 x.1.2,.tuple #[.int .i64 0,.int .i64 7],PV ps,.tuple #[.int .i64 0,.int .i64 7],.int .i64 0,.int .i64 7,.int .i64 7,.bool false,undef,.int .i64 t,.agg #[.slice Ak lk ck,.slice Av lv cv,.slice Ac lc cc,.int .u64 sz],.bool true,.bool false,.tuple #[.int .i64 (6*(t:Int)),.int .i64 0],PV ps,.int .u64 hh,.tuple #[.int .i64 (6*(t:Int)),.int .i64 0],.int .i64 (6*(t:Int)),.int .i64 0,.bool false,.int .i64 0,.bool false,undef,.bool false,.int .i64 (6*(t:Int)),.int .i64 t,.int .i64 (6*(t:Int)),.bool false,.int .i64 t,.agg #[.slice Ak lk ck,.slice Av lv cv,.slice Ac lc cc,.int .u64 sz],.func (.func 261) #[] #[PV Bx],.int .i64 x.1.1,.int .u64 x.1.2,undef,undef,undef,undef,undef],defers:=[] })
  (fun x a' _ X W' row hs hg hr=>hs)
  ?assign ?body ?done ?stop
 case assign=>
  rintro l ad ⟨⟨i,x⟩,hx⟩ W K hI hK;have HK:=If hK;clear hK;simp only[n9]
  gi_wp2
  exact HK.out _ _ (KeepsFrom.refl _ _) (ir.refl _ _) hI rfl
 case body=>
  rintro l ad ⟨⟨i,x⟩,hx⟩ a' W bs _ hI rfl hlt;simp only at hx⊢;have c4:=Fs (o:=0) ((hI.keep.block w.heap.size (ae ⟨Nat.le_refl _,by omega⟩)).trans H3.b);have c6:=Fs (o:=0) ((hI.keep.block (w.heap.size+1) (ae ⟨by omega,by omega⟩)).trans H3.c);have c4:W.cell? ⟨w.heap.size,0,none⟩=some (PV ps):=c4;have c6:W.cell? ⟨w.heap.size+1,0,none⟩=some (.int .u64 hh):=c6;have a8:CallsIn Fence.wide 4 prog 99 #[PV ps,.int .u64 hh,.int .i64 i,.int .u64 x] W _:=callsIn_wide.2 (Ex hI.st.full hI.inv hh i x hl (by omega) hx.2);have hv:∀(hx:_),kO (ad++[(⟨(i,x),hx⟩:lH)])=kO ad++[(i,x)]:=fun hx=>by
   show (ad++[(⟨(i,x),hx⟩:lH)]).map (·.1)=_
   rw[aL]
   rfl
  have a6:=hI.inv.put hh i x;have HH:=kq4 hI @hv a6 a8;clear hI hv a6 a8 a2;gi_wp2_with fail;refine(CallsIn.inRound l HH.d).mono ?_;rintro e w5 ⟨rfl,h5,k5⟩;have H5:=kq2 h5 k5;clear h5 k5 c4 c6;gi_wp2_with fail;have hk:=H5.b;have hI:=HH.a;refine⟨⟨hk.size,fun k o hk1 hk2 hk3=>(hk.block k (ae ⟨by omega,o,hk2,hk3⟩)).trans hk2⟩,⟨hk.size,fun k hk1=>hk.block k (ab hk1)⟩,?_,?_,hI.keep.trans (hk.mono fun k hk=>ab hk)⟩
  ·rw[HH.b,rU];exact H5.a.mono fun k hk=>ab hk
  ·rw[HH.b,rU];exact HH.c
 case done=>
  rintro D ys W hD hS hI hK;have ao:=hI.st;have ar:=hI.keep;rw[hS,wy,<-HG.h] at ao;have HH:=kq3 ao ar hK;clear hI ao ar hK hS a2;gi_wp2_with fail;refine⟨by simp,.inl ⟨_,_,rfl,run_takeDeferred HH.c,?_⟩⟩;obtain⟨ao,ar,hK⟩:=HH.out;have a7:∀(k:Nat),k≠D->(W.putObj D (.deferred none)).heap[k]?=W.heap[k]?:=fun k hk=>World.putObj_heap_other hk;have bf:eR (W.putObj D (.deferred none)) ps pa pm ph pt v (FC S hh 0 (bnWords t n)) _:=ao.own (by simp) fun k o hk hc=>(a7 k (by
   rintro rfl
   rcases hc with hc | hc
   ·rw[hK] at hk
    injection hk with hk;rw[<-hk] at hc;cases hc
   ·omega)).trans hk
  have bd:Fo Y W (W.putObj D (.deferred none)):=⟨rfl,rfl,rfl,by simp,fun k hk=>a7 k (by have:=a0 k (ab hk);omega)⟩;refine⟨.int .i64 0,?_,rfl,⟨pa,pm,ph,pt,v,bf.mono fun k hk=>ab hk⟩,(Fo.of_below H3.d (Ig.yl ⟨_,_,_,_,_,H3.e⟩)).trans ((ar.mono fun k hk=>ab hk).trans bd)⟩
  simp[results,f329,go_sem]
 case stop=>
  intro D c ad W _ _ hI;exact hI.elim