/- Trees balanced by two colours, joined: plain. -/
import Derived.Test.YtcibkdbpicledaaGreatDoorZFf
import Derived.Test.YtcibkdbpicledaaGreatDoorZMa
import Derived.Test.YtcibkdbpicledaaGreatDoorZDc
set_option maxRecDepth 100000
set_option maxHeartbeats 800000
namespace Go.Proofs.YtcibkdbpicledaaGreatDoor
section
open Lf
namespace Tr
variable{S:St}{d:It}{f:Nat->Nat}{m:Nat}{o:Tr}{t:Tr}{u:Tr}{w:Tr}
theorem jf{A B:List Nat}{d:Nat}(h:(A++d::B).Nodup):A.Nodup/\B.Nodup/\d∉A/\d∉B/\∀y∈A,y∉B:=by
 obtain⟨h1,h2,h3⟩:=aw.1 h;obtain⟨h4,h5⟩:=aF.1 h2;exact⟨h1,h5,fun hm=>h3 _ hm _ (av ..) rfl,h4,fun y hy hm=>h3 _ hy _ (ah _ hm) rfl⟩
theorem lh{A B:List Nat}{d:Nat}(h1:A.Nodup)(h2:B.Nodup)(h3:d∉A)(h4:d∉B)(h5:∀y∈A,y∉B):(A++d::B).Nodup:=
 aw.2 ⟨h1,aF.2 ⟨h4,h2⟩,fun a ha b hb e=>by
  subst e;rcases ag.1 hb with e | e
  ·exact h3 (e▸ha)
  ·exact h5 a ha e⟩
def nt(tu:Bool)(o:Tr)(d:It)(m:Nat)(w:Tr):Tr:=if tu=true then node w d m o else node o d m w
theorem il(tu:Bool)(o:Tr)(d:It)(m:Nat)(w:Tr):(nt tu o d m w).root=d.h:=by cases tu<;>rfl
theorem fg(tu:Bool)(o:Tr)(d:It)(m:Nat)(w:Tr):(nt tu o d m w).mark=m:=by cases tu<;>rfl
theorem jR(tu:Bool)(o:Tr)(d:It)(m:Nat)(w:Tr):(nt tu o d m w).its=if tu=true then w.its++d::o.its else o.its++d::w.its:=by cases tu<;>rfl
theorem kJ(tu:Bool)(o:Tr)(d:It)(m:Nat)(w:Tr):(nt tu o d m w).its.length=o.its.length+w.its.length+1:=by
 rw[jR];cases tu<;>simp<;>omega
theorem jS(tu:Bool)(o:Tr)(d:It)(m:Nat)(w:Tr)(y:Nat):y∈(nt tu o d m w).hs↔y∈o.hs\/y=d.h\/y∈w.hs:=by
 cases tu
 ·show y∈(node o d m w).hs↔_
  rw[eY]
  simp
 ·show y∈(node w d m o).hs↔_
  rw[eY]
  simp;constructor
  ·rintro(h | h | h)
   ·exact ae (ae h)
   ·exact ae (ab h)
   ·exact ab h
  ·rintro(h | h | h)
   ·exact ae (ae h)
   ·exact ae (ab h)
   ·exact ab h
theorem qFnab{P:Prop}(h:P:=by
 intro h;obtain⟨h1,h2,h3,h4,h5⟩:=jf h;exact lh h2 h1 h4 h3 fun y hy hm=>h5 y hm hy):P:=h
theorem lZ(tu:Bool)(o:Tr)(d:It)(m:Nat)(w:Tr):(nt tu o d m w).hs.Nodup↔(o.hs++d.h::w.hs).Nodup:=by
 cases tu
 ·show (node o d m w).hs.Nodup↔_
  rw[eY]
 ·show (node w d m o).hs.Nodup↔_
  rw[eY]
  constructor
  ·exact qFnab
  ·exact qFnab
theorem lY{tu:Bool}(h:At S (nt tu o d m w)):At S o/\At S w/\∃n0,reco S d.h=some (eM n0)/\n0.key=d.kh/\n0.val=d.vh:=by
 cases tu
 ·exact⟨h.2.1,h.2.2,_,h.1,rfl,rfl⟩
 ·exact⟨h.2.2,h.2.1,_,h.1,rfl,rfl⟩
theorem oH(hf:Fw S f){tu:Bool}(h:At S (nt tu o d m w)):sidesT S tu d.h=(o.root,w.root):=by
 unfold sidesT
 cases tu
 ·have h:At S (node o d m w):=h;rw[h.getNode hf]
  rfl
 ·have h:At S (node w d m o):=h;rw[h.getNode hf]
  rfl
theorem At.red(hf:Fw S f)(h:At S t):redT S t.root=decide (t.mark % 2=1):=by
 unfold redT;have:=(h.mark_eq hf).1;unfold mU at this;rw[this]
theorem At.black(hf:Fw S f)(h:At S t):blackT S t.root=t.mark / 2:=by
 unfold blackT;have:=(h.mark_eq hf).1;unfold mU at this;rw[this]
def Sr(t:Tr):Prop:=t.mark<100000/\t.its.length<100000
theorem rW(hf:Fw S f){l r:Tr}{n0:Nd}(c:Bool)(hl:At S l)(hr:At S r)(hd:reco S d.h=some (eM n0))(hk0:n0.key=d.kh)(hv0:n0.val=d.vh)(hnl:d.h∉l.hs)(hnr:d.h∉r.hs)(sl:Sr l)(sr:Sr r):
 ∃S',putRM S d.h l.root r.root c=some S'/\Fw S' f/\At S' (node l d (l.mark / 2*2+(if c then 1 else 2)) r)/\(∀h',h'≠d.h->reco S' h'=reco S h')/\ej S S' 0 0:=by
 have hw:=(fL hf hd).2.2.2;have ai:d.kh<2^64:=by rw[<-hk0];exact hw _ (by simp[eM])
 have ap:d.vh<2^64:=by rw[<-hv0];exact hw _ (by simp[eM])
 have h1:=sl.1;have h2:=sl.2;have h3:=sr.2;have al:(node l d (l.mark / 2*2+(if c then 1 else 2)) r).its.length=l.its.length+(r.its.length+1):=by simp[its]
 have ao:ji (nd l d (l.mark / 2*2+(if c then 1 else 2)) r):=by
  refine⟨ai,ap,hl.root_lt hf,hr.root_lt hf,?_,?_⟩
  ·show l.mark / 2*2+(if c then 1 else 2)<_
   cases c<;>simp<;>omega
  ·show (node l d (l.mark / 2*2+(if c then 1 else 2)) r).its.length<_;omega
 obtain⟨S',e,ad,an,ho,hg⟩:=ww hf hd ao;refine⟨S',?_,ad,⟨an,hl.frame fun h hm=>ho h fun e=>hnl (e▸hm),hr.frame fun h hm=>ho h fun e=>hnr (e▸hm)⟩,ho,hg⟩;unfold putRM;rw[hl.size hf (by omega),hr.size hf (by omega),hl.black hf,gw hf hd];simp only;rw[if_neg (by omega)];have:({ n0 with left:=l.root,right:=r.root,mark:=l.mark / 2*2+(if c then 1 else 2),size:=l.its.length+r.its.length+1 }:Nd)=nd l d (l.mark / 2*2+(if c then 1 else 2)) r:=by
  unfold nd;rw[hk0,hv0,al]
  congr 1
 rw[this,e]
theorem lu(hf:Fw S f)(tu:Bool){o w:Tr}{n0:Nd}(c:Bool)(ho:At S o)(hw:At S w)(hd:reco S d.h=some (eM n0))(hk0:n0.key=d.kh)(hv0:n0.val=d.vh)(hno:d.h∉o.hs)(hnw:d.h∉w.hs)(so:Sr o)(sw:Sr w)(hb:o.mark / 2=w.mark / 2):
 ∃S',putJ S tu d.h o.root w.root c=some S'/\Fw S' f/\At S' (nt tu o d (o.mark / 2*2+(if c then 1 else 2)) w)/\(∀h',h'≠d.h->reco S' h'=reco S h')/\ej S S' 0 0:=by
 cases tu
 ·exact rW hf c ho hw hd hk0 hv0 hno hnw so sw
 ·have:=rW hf c hw ho hd hk0 hv0 hnw hno sw so;rw[<-hb] at this;exact this
def Rb:Tr->Prop
 | nil=>True
 | node l _ m r=>Rb l/\Rb r/\l.mark / 2=r.mark / 2/\((m=l.mark / 2*2+1/\l.mark % 2=0/\r.mark % 2=0)\/m=l.mark / 2*2+2)
theorem Rb.mark_le:∀{t:Tr},Rb t->t.mark<=2*t.its.length
 | nil,_=>Nat.le_refl _
 | node l d m r,⟨h1,h2,h3,h4⟩=>by
  have:=h1.mark_le;have:=h2.mark_le;show m<=2*(l.its++d::r.its).length
  simp only[aE,ak];omega
theorem Rb.sr(h:Rb t)(hl:t.its.length<40000):Sr t:=⟨by have:=h.mark_le;omega,by omega⟩
structure jl (o w:Tr) (m:Nat):Prop where
 ro:Rb o
 rw':Rb w
 bh:o.mark / 2=w.mark / 2
 col:(m=o.mark / 2*2+1/\o.mark % 2=0/\w.mark % 2=0)\/m=o.mark / 2*2+2
theorem jl.nt{tu:Bool}{o w:Tr}(h:jl o w m):Rb (Tr.nt tu o d m w):=by
 obtain⟨h1,h2,h3,h4⟩:=h
 cases tu
 ·exact⟨h1,h2,h3,h4⟩
 ·refine⟨h2,h1,h3.symm,?_⟩
  rcases h4 with h4 | h4
  ·left;omega
  ·right;omega
theorem Rb.node_nt(tu:Bool)(h:Rb t)(hm:t.mark≠0):∃o d m w,t=Tr.nt tu o d m w/\jl o w m:=by
 cases t with
 | nil=>exact absurd rfl hm
 | node l d m r=>
  obtain⟨h1,h2,h3,h4⟩:=h
  cases tu
  ·exact⟨l,d,m,r,rfl,h1,h2,h3,h4⟩
  ·refine⟨r,d,m,l,rfl,h2,h1,h3.symm,?_⟩
   rcases h4 with h4 | h4
   ·left;omega
   ·right;omega
def iS(tu:Bool)(u:Tr):Prop:=∃o d m w,u=Tr.nt tu o d m w/\Rb o/\Rb w/\o.mark % 2=0/\o.mark / 2=w.mark / 2/\m=o.mark / 2*2+1
def kR(tu:Bool)(u:Tr):Prop:=∃o d m w,u=Tr.nt tu o d m w/\Rb o/\(Rb w\/iS tu w)/\o.mark % 2=0/\o.mark / 2=w.mark / 2/\m=o.mark / 2*2+1
theorem iS.two{tu:Bool}(h:iS tu u):kR tu u:=by
 obtain⟨o,d,m,w,h1,h2,h3,h4⟩:=h;exact⟨o,d,m,w,h1,h2,ab h3,h4⟩
theorem iS.odd{tu:Bool}(h:iS tu u):u.mark % 2=1:=by
 obtain⟨o,d,m,w,rfl,_,_,_,_,h⟩:=h;rw[fg];omega
theorem kR.odd{tu:Bool}(h:kR tu u):u.mark % 2=1:=by
 obtain⟨o,d,m,w,rfl,_,_,_,_,h⟩:=h;rw[fg];omega
theorem yz{tu:Bool}(h:Rb u\/kR tu u)(hr:u.mark % 2=1):kR tu u:=by
 rcases h with h | h
 ·obtain⟨o,d,m,w,rfl,h1,h2,h3,h4⟩:=h.node_nt tu (by omega);rw[fg] at hr;have h4:m=o.mark / 2*2+1/\o.mark % 2=0/\w.mark % 2=0:=by rcases h4 with h4 | h4<;>omega
  exact⟨o,d,m,w,rfl,h1,ab h2,h4.2.1,h3,h4.1⟩
 ·exact h
theorem tA{tu:Bool}(h:Rb u\/iS tu u)(hr:u.mark % 2=1):iS tu u:=by
 rcases h with h | h
 ·obtain⟨o,d,m,w,rfl,h1,h2,h3,h4⟩:=h.node_nt tu (by omega);rw[fg] at hr;have h4:m=o.mark / 2*2+1/\o.mark % 2=0/\w.mark % 2=0:=by rcases h4 with h4 | h4<;>omega
  exact⟨o,d,m,w,rfl,h1,h2,h4.2.1,h3,h4.1⟩
 ·exact h
def jO(tu:Bool)(a:List It)(d:It)(b:List It):List It:=if tu=true then b++d::a else a++d::b
theorem AY(hf:Fw S f){tu:Bool}{oth x:Tr}{e:It}(ha:At S (nt tu oth e (oth.mark / 2*2+2) x))(hnd:(nt tu oth e (oth.mark / 2*2+2) x).hs.Nodup)(hlen:(nt tu oth e (oth.mark / 2*2+2) x).its.length<40000)
 (ro:Rb oth) (rx:Rb x\/kR tu x) (hb:oth.mark / 2=x.mark / 2):
 ∃u S',fixR tu S e.h oth.root x.root false=some (u.root,S')/\lF S S' f (nt tu oth e (oth.mark / 2*2+2) x).hs u/\u.its=(nt tu oth e (oth.mark / 2*2+2) x).its/\Rb u/\u.mark / 2=oth.mark / 2+1:=by
 obtain⟨ho,hx,n0,a',a7,bj⟩:=lY ha;have ai:=hx.red hf;by_cases c1:x.mark % 2=1
 ·obtain⟨a,xd,xm,b,rfl,ra,rb,ea,eb,em⟩:=yz rx c1;rw[fg] at hb c1;have hs:=oH hf hx;obtain⟨au,ad,n1,ba,a8,bk⟩:=lY hx;have an:=ad.red hf;by_cases c2:b.mark % 2=1
  ·obtain⟨c,bd,bm,d',rfl,rc,rd,ec,ed,b4⟩:=tA rb c2;rw[fg] at eb c2;have bf:=oH hf ad;obtain⟨a0,a4,n2,bb,a9,bo⟩:=lY ad;rw[lZ] at hnd;obtain⟨d1,d2,d3,d4,d5⟩:=jf hnd;rw[lZ] at d2;obtain⟨d6,d7,d8,d9,al⟩:=jf d2;rw[lZ] at d7;obtain⟨b0,b1,ao,ap,b2⟩:=jf d7;simp only[jS,not_or] at d4 d5 d9 al;rw[kJ,kJ,kJ] at hlen;have so:=ro.sr (by omega);have sa:=ra.sr (by omega);have sc:=rc.sr (by omega);have sd:=rd.sr (by omega);obtain⟨S1,e1,f1,a1,o1,g1⟩:=lu hf tu false a0 a4 bb a9 bo ao ap sc sd ed;have bc:At S1 oth:=ho.frame fun y hy=>o1 y fun q=>(d5 y hy).2.2.2.1 q;have ar:At S1 a:=au.frame fun y hy=>o1 y fun q=>(al y hy).2.1 q;have a6:reco S1 e.h=some (eM n0):=(o1 _ fun q=>d4.2.2.2.1 q).trans a';have bs:reco S1 xd.h=some (eM n1):=(o1 _ fun q=>d9.2.1 q).trans ba;obtain⟨S2,e2,f2,a2,o2,g2⟩:=lu f1 tu false bc ar a6 a7 bj d3 d4.1 so sa (by omega);have a5:At S2 (nt tu c bd (c.mark / 2*2+2) d'):=a1.frame fun y hy=>o2 y fun q=>by
    rw[jS] at hy;subst q;rcases hy with hy | hy | hy
    ·exact d4.2.2.1 hy
    ·exact d4.2.2.2.1 hy
    ·exact d4.2.2.2.2 hy
   have bt:reco S2 xd.h=some (eM n1):=(o2 _ fun q=>d4.2.1 q.symm).trans bs;have st:Sr (nt tu oth e (oth.mark / 2*2+2) a):=⟨by rw[fg];have:=so.1;have:=ro.mark_le;omega,by rw[kJ];omega⟩;have sb:Sr (nt tu c bd (c.mark / 2*2+2) d'):=⟨by rw[fg];have:=rc.mark_le;omega,by rw[kJ];omega⟩;obtain⟨S3,e3,f3,a3,o3,g3⟩:=lu f2 tu true a2 a5 bt a8 bk (by rw[jS];simp only[not_or];exact⟨fun q=>(d5 _ q).2.1 rfl,fun q=>d4.2.1 q.symm,d8⟩) (by rw[jS];simp only[not_or];exact d9) st sb (by rw[fg,fg];simp only[aS,if_false];omega);refine⟨_,S3,?_,⟨f3,a3,?_,(g1.trans g2).trans g3⟩,?_,?_,?_⟩
   ·unfold fixR;rw[ai,fg];rw[if_neg (by simp;omega),il,hs];simp only;rw[an,fg,if_neg (by simp;omega),il,bf];simp only;rw[e1];simp only;rw[e2];simp only;rw[il,il] at e3;rw[e3,il];rfl
   ·intro y hy;simp only[jS,not_or] at hy;exact(o3 y hy.2.2.2.1).trans ((o2 y hy.2.1).trans (o1 y hy.2.2.2.2.2.1))
   ·cases tu<;>simp[jR]
   ·refine jl.nt ⟨jl.nt ⟨ro,ra,by omega,ae rfl⟩,jl.nt ⟨rc,rd,ed,ae rfl⟩,?_,ab ⟨rfl,?_,?_⟩⟩<;>simp only[fg,aS,if_false]<;>omega
   ·simp only[fg,aS,if_false,if_true];omega
  ·refine⟨nt tu oth e (oth.mark / 2*2+2) (nt tu a xd xm b),S,?_,⟨hf,ha,fun _ _=>rfl,ej.refl S⟩,rfl,?_,?_⟩
   ·unfold fixR;rw[ai,fg,if_neg (by simp;omega),il,hs];simp only;rw[an,if_pos (by simp;omega),il]
   ·have bu:Rb b:=by
     rcases rb with h | h
     ·exact h
     ·have:=h.odd;omega
    refine jl.nt ⟨ro,jl.nt ⟨ra,bu,eb,ab ⟨em,ea,by omega⟩⟩,?_,ae rfl⟩;rw[fg];omega
   ·rw[fg];omega
 ·have bv:Rb x:=by
   rcases rx with h | h
   ·exact h
   ·have:=h.odd;omega
  refine⟨nt tu oth e (oth.mark / 2*2+2) x,S,?_,⟨hf,ha,fun _ _=>rfl,ej.refl S⟩,rfl,jl.nt ⟨ro,bv,hb,ae rfl⟩,by rw[fg];omega⟩;unfold fixR;rw[ai,if_pos (by right;simp;omega),il]
end Tr
namespace Tr
structure yw (tu:Bool) (t low u:Tr):Prop where
 bh:u.mark / 2=t.mark / 2
 all:Rb u\/kR tu u
 stop:t.mark % 2=0->low.mark / 2=t.mark / 2->iS tu u
 go:t.mark % 2=0->low.mark / 2<t.mark / 2->Rb u
 red:t.mark % 2=1->low.mark / 2<t.mark / 2->iS tu u
theorem uZ(tu:Bool){d:It}:∀(f:Nat) {S:St} {o:Nat->Nat} {t low:Tr} {n0:Nd},Fw S o->At S t->At S low->Rb t->Rb low->reco S d.h=some (eM n0)->n0.key=d.kh->n0.val=d.vh->
 (t.hs++d.h::low.hs).Nodup->t.its.length+low.its.length<9000->t.its.length<=f->low.mark / 2<=t.mark / 2->
 ∃u S',joinR tu d.h f S t.root low.root=some (u.root,S')/\lF S S' o (t.hs++d.h::low.hs) u/\u.its=jO tu t.its d low.its/\yw tu t low u
 | 0,S,o,t,low,n0,hf,ht,hlo,rt,rl,hd,hk0,hv0,hnd,hlen,hfu,hb=>by
  have bf:t=nil:=by
   cases t with
   | nil=>rfl
   | node l d m r=>simp[its] at hfu
  subst bf;obtain⟨h1,h2,h3,h4,h5⟩:=jf hnd;obtain⟨S1,e1,f1,a1,o1,g1⟩:=lu hf tu true ht hlo hd hk0 hv0 h3 h4 (rt.sr (by simp[its])) (rl.sr (by omega)) (by have:nil.mark=0:=rfl;omega);refine⟨_,S1,?_,⟨f1,a1,fun y hy=>o1 y fun e=>hy (by rw[e];simp),g1⟩,?_,?_⟩
  ·rw[rf,e1,il];rfl
  ·rw[jR];rfl
  ·have h0:nil.mark=0:=rfl;have ai:iS tu (nt tu nil d (nil.mark / 2*2+(if true then 1 else 2)) low):=⟨nil,d,_,low,rfl,rt,rl,rfl,by omega,rfl⟩;exact⟨by rw[fg];rfl,ae ai.two,fun _ _=>ai,fun _ q=>by omega,fun q=>by omega⟩
 | f+1,S,o,t,low,n0,hf,ht,hlo,rt,rl,hd,hk0,hv0,hnd,hlen,hfu,hb=>by
  have q1:=ht.red hf;have q2:=ht.black hf;have q3:=hlo.black hf;rw[re,q1,q2,q3];obtain⟨h1,h2,h3,h4,h5⟩:=jf hnd;by_cases c1:t.mark % 2=0/\t.mark / 2=low.mark / 2
  ·rw[if_pos (by simp;omega)];obtain⟨S1,e1,f1,a1,o1,g1⟩:=lu hf tu true ht hlo hd hk0 hv0 h3 h4 (rt.sr (by omega)) (rl.sr (by omega)) c1.2;refine⟨_,S1,?_,⟨f1,a1,fun y hy=>o1 y fun e=>hy (by rw[e];simp),g1⟩,?_,?_⟩
   ·rw[e1,il];rfl
   ·rw[jR];rfl
   ·have ai:iS tu (nt tu t d (t.mark / 2*2+(if true then 1 else 2)) low):=⟨t,d,_,low,rfl,rt,rl,c1.1,c1.2,rfl⟩;exact⟨by rw[fg];simp;omega,ae ai.two,fun _ _=>ai,fun _ q=>by omega,fun q=>by omega⟩
  ·rw[if_neg (by simp;omega)];have a5:t.mark≠0:=by omega
   obtain⟨ad,e,m,own,rfl,ro,a6,al,ao⟩:=rt.node_nt tu a5;rw[fg] at hb c1 a5;have hs:=oH hf ht;obtain⟨a8,a',n1,bd,bc,bj⟩:=lY ht;rw[lZ] at h1;obtain⟨d1,d2,d3,d4,d5⟩:=jf h1;simp only[jS,not_or] at h3 h5;rw[kJ] at hlen hfu;have ar:(own.hs++d.h::low.hs).Nodup:=lh d2 h2 h3.2.2 h4 fun y hy=>h5 y (ae (ae hy));obtain⟨x,S1,e1,D1,i1,J1⟩:=uZ tu f hf a' hlo a6 rl hd hk0 hv0 ar (by omega) (by omega) (by rcases ao with g | g<;>omega);have au:∀y,y∈x.hs↔y∈own.hs\/y=d.h\/y∈low.hs:=fun y=>by
    unfold Tr.hs;rw[i1];unfold jO;cases tu<;>simp<;>constructor<;>rintro(g | g | g)<;>simp_all
   have bm:x.its.length=own.its.length+low.its.length+1:=by rw[i1];unfold jO;cases tu<;>simp<;>omega
   have bk:x.hs.Nodup:=by
    have e:x.hs=if tu=true then low.hs++d.h::own.hs else own.hs++d.h::low.hs:=by
     unfold Tr.hs;rw[i1];unfold jO;cases tu<;>simp
    rw[e];cases tu
    ·exact ar
    ·obtain⟨g1,g2,g3,g4,g5⟩:=jf ar;exact lh g2 g1 g4 g3 fun y hy hm=>g5 y hm hy
   have a9:At S1 ad:=a8.frame fun y hy=>D1.other y fun hm=>by
    rcases am.1 hm with hm | hm
    ·exact d5 y hy hm
    ·rcases ag.1 hm with hm | hm
     ·exact h3.1 (hm▸hy)
     ·exact h5 y (ab hy) hm
   have a0:d.h≠e.h:=h3.2.1;have a3:e.h∉low.hs:=h5 _ (ae (ab rfl));have bb:reco S1 e.h=some (eM n1):=(D1.other _ fun hm=>by
    rcases am.1 hm with hm | hm
    ·exact d4 hm
    ·rcases ag.1 hm with hm | hm
     ·exact a0 hm.symm
     ·exact a3 hm).trans bd
   have a4:e.h∉x.hs:=by
    rw[au];simp only[not_or];exact⟨d4,fun q=>a0 q.symm,a3⟩
   have sx:Sr x:=by
    refine⟨?_,by omega⟩;have:=J1.bh;have:=a6.mark_le;omega
   obtain⟨S2,e2,f2,a2,o2,g2⟩:=lu D1.fit tu (decide (m % 2=1)) a9 D1.at' bb bc bj d3 a4 (ro.sr (by omega)) sx (by rw[J1.bh];exact al);have ba:∀y∈ad.hs,y∉x.hs:=fun y hy hm=>by
    rcases(au y).1 hm with hm | hm | hm
    ·exact d5 y hy hm
    ·exact h3.1 (hm▸hy)
    ·exact h5 y (ab hy) hm
   rw[il,hs];simp only;rw[e1];simp only;rw[fg,e2];simp only;have an:∀y,y∉(nt tu ad e m own).hs++d.h::low.hs->y≠e.h/\y∉own.hs++d.h::low.hs:=fun y hy=>by
    simp only[am,ag,jS,not_or] at hy⊢;exact⟨hy.1.2.1,hy.1.2.2,hy.2⟩
   by_cases c2:m % 2=1
   ·have hm:m=ad.mark / 2*2+1/\ad.mark % 2=0/\own.mark % 2=0:=by rcases ao with g | g<;>omega
    have ap:decide (m % 2=1)=true:=decide_eq_true c2;rw[ap] at a2⊢;refine⟨nt tu ad e (ad.mark / 2*2+(if true then 1 else 2)) x,S2,?_,⟨f2,a2,fun y hy=>(o2 y (an y hy).1).trans (D1.other y (an y hy).2),D1.grew.trans g2⟩,?_,?_⟩
    ·unfold fixR;rw[if_pos (ab rfl),il];exact nU (fL f2 (lY a2).2.2.choose_spec.1).2.1
    ·rw[jR,i1,jR];unfold jO;cases tu<;>simp
    ·refine⟨by rw[fg,fg];simp;omega,?_,?_,?_,?_⟩
     ·right
      refine⟨ad,e,_,x,rfl,ro,?_,hm.2.1,by rw[J1.bh];exact al,rfl⟩;rcases cg (low.mark / 2) (own.mark / 2) with g | g
      ·exact ab (J1.go hm.2.2 g)
      ·exact ae (J1.stop hm.2.2 (by omega))
     ·intro q;rw[fg] at q;omega
     ·intro q;rw[fg] at q;omega
     ·intro _ q;rw[fg] at q;exact⟨ad,e,_,x,rfl,ro,J1.go hm.2.2 (by omega),hm.2.1,by rw[J1.bh];exact al,rfl⟩
   ·have hm:m=ad.mark / 2*2+2:=by rcases ao with g | g<;>omega
    have ap:decide (m % 2=1)=false:=decide_eq_false c2;rw[ap] at a2⊢;have a7:At S2 (nt tu ad e (ad.mark / 2*2+2) x):=a2;obtain⟨u,S3,e3,D3,i3,r3,b3⟩:=AY f2 a7 (by rw[lZ];exact lh d1 bk d3 a4 ba) (by rw[kJ];omega) ro J1.all (by rw[J1.bh];exact al);refine⟨u,S3,?_,⟨D3.fit,D3.at',fun y hy=>?_,(D1.grew.trans g2).trans D3.grew⟩,?_,?_⟩
    ·rw[e3];exact nU (D3.at'.root_lt D3.fit)
    ·refine(D3.other y ?_).trans ((o2 y (an y hy).1).trans (D1.other y (an y hy).2));rw[jS];simp only[am,ag,jS,not_or] at hy⊢;refine⟨hy.1.1,hy.1.2.1,?_⟩;rw[au];simp only[not_or];exact⟨hy.1.2.2,hy.2⟩
    ·rw[i3,jR,i1,jR];unfold jO;cases tu<;>simp
    ·refine⟨by rw[b3,fg];omega,ab r3,fun _ q=>?_,fun _ _=>r3,fun q=>?_⟩
     ·rw[fg] at q;omega
     ·rw[fg] at q;omega
theorem xG(tu:Bool){d:It}{S:St}{o:Nat->Nat}{t low:Tr}{n0:Nd}(hf:Fw S o)(ht:At S t)(hlo:At S low)(rt:Rb t)(rl:Rb low)(hd:reco S d.h=some (eM n0))(hk0:n0.key=d.kh)(hv0:n0.val=d.vh)
 (hnd:(t.hs++d.h::low.hs).Nodup) (hlen:t.its.length+low.its.length<99) (hb:low.mark / 2<t.mark / 2):
 ∃u S',topR tu S t.root d.h low.root=some (u.root,S')/\lF S S' o (t.hs++d.h::low.hs) u/\Rb u/\u.its=jO tu t.its d low.its:=by
 obtain⟨u,S1,e1,D1,i1,J1⟩:=uZ tu 200 hf ht hlo rt rl hd hk0 hv0 hnd (by omega) (by omega) (by omega);have q1:=D1.at'.red D1.fit;unfold topR;rw[e1];simp only;rw[q1];by_cases c1:u.mark % 2=1
 ·have al:iS tu u:=by
   by_cases c0:t.mark % 2=0
   ·exact tA (ab (J1.go c0 hb)) c1
   ·exact J1.red (by omega) hb
  obtain⟨a,e,m,b,rfl,ra,rb,ea,eb,em⟩:=al;have hs:=oH D1.fit D1.at';obtain⟨ha,ad,n1,ap,an,au⟩:=lY D1.at';rw[il,hs];simp only;rw[ad.red D1.fit];by_cases c2:b.mark % 2=1
  ·have ai:(nt tu a e m b).hs.Nodup:=by
    have q:(nt tu a e m b).hs=if tu=true then low.hs++d.h::t.hs else t.hs++d.h::low.hs:=by
     unfold Tr.hs;rw[i1];unfold jO;cases tu<;>simp
    rw[q];cases tu
    ·exact hnd
    ·obtain⟨g1,g2,g3,g4,g5⟩:=jf hnd;exact lh g2 g1 g4 g3 fun y hy hm=>g5 y hm hy
   have ar:(nt tu a e m b).its.length<200:=by rw[i1];unfold jO;cases tu<;>simp<;>omega
   rw[kJ] at ar;rw[lZ] at ai;obtain⟨_,_,g3,g4,g5⟩:=jf ai;obtain⟨S2,e2,f2,a2,o2,w2⟩:=lu D1.fit tu false ha ad ap an au g3 g4 (ra.sr (by omega)) (rb.sr (by omega)) eb;have ao:∀y,y∉t.hs++d.h::low.hs->y≠e.h:=fun y hy q=>by
    have:e.h∈(nt tu a e m b).hs:=by rw[jS];exact ae (ab rfl)
    have q2:(nt tu a e m b).hs=if tu=true then low.hs++d.h::t.hs else t.hs++d.h::low.hs:=by
     unfold Tr.hs;rw[i1];unfold jO;cases tu<;>simp
    rw[q2,<-q] at this;cases tu
    ·exact hy this
    ·refine hy ?_;have this:y∈low.hs++d.h::t.hs:=this;simp only[am,ag] at this⊢;rcases this with h | h | h
     ·exact ae (ae h)
     ·exact ae (ab h)
     ·exact ab h
   refine⟨nt tu a e (a.mark / 2*2+(if false then 1 else 2)) b,S2,?_,⟨f2,a2,fun y hy=>(o2 y (ao y hy)).trans (D1.other y hy),D1.grew.trans w2⟩,jl.nt ⟨ra,rb,eb,ae rfl⟩,?_⟩
   ·rw[fg,if_pos (by simp;omega),e2,il];rfl
   ·rw[<-i1,jR,jR]
  ·refine⟨nt tu a e m b,S1,?_,D1,jl.nt ⟨ra,rb,eb,ab ⟨em,ea,by omega⟩⟩,i1⟩;rw[if_neg (by simp;omega),il]
 ·refine⟨u,S1,?_,D1,?_,i1⟩
  ·rw[if_neg (by simp;omega)]
  ·rcases J1.all with h | h
   ·exact h
   ·have:=h.odd;omega
theorem oq:kV redJ Rb where
 nil:=trivial
 sub h:=⟨h.1,h.2.1⟩
 join:=by
  intro S o l r d n0 hf hl hr bl br hd hk0 hv0 hnd hlen;have ad:=(fL hf hd).1;have q1:=hl.black hf;have q2:=hr.black hf;have h0:¬(d.h=0\/isT S l.root=false\/isT S d.h=false\/isT S r.root=false):=by
   rw[hl.isT hf,hr.isT hf];have:isT S d.h=true:=by unfold isT;rw[gw hf hd];simp
   rw[this];simp;omega
  unfold redJ;rw[if_neg h0,q1,q2];obtain⟨g1,g2,g3,g4,g5⟩:=jf hnd;by_cases c1:r.mark / 2<l.mark / 2
  ·rw[if_pos c1];obtain⟨u,S1,e1,D1,r1,i1⟩:=xG false hf hl hr bl br hd hk0 hv0 hnd hlen c1;exact⟨u,S1,by rw[e1];rfl,D1,r1,i1⟩
  ·rw[if_neg c1];by_cases c2:l.mark / 2<r.mark / 2
   ·rw[if_pos c2];obtain⟨u,S1,e1,D1,r1,i1⟩:=xG true hf hr hl br bl hd hk0 hv0 (lh g2 g1 g4 g3 fun y hy hm=>g5 y hm hy) (by omega) c2;refine⟨u,S1,by rw[e1];rfl,⟨D1.fit,D1.at',fun y hy=>D1.other y fun hm=>hy ?_,D1.grew⟩,r1,i1⟩;simp only[am,ag] at hm⊢;rcases hm with h | h | h
    ·exact ae (ae h)
    ·exact ae (ab h)
    ·exact ab h
   ·rw[if_neg c2,hl.red hf,hr.red hf];obtain⟨S1,e1,f1,a1,o1,w1⟩:=rW hf (!decide (l.mark % 2=1) && !decide (r.mark % 2=1)) hl hr hd hk0 hv0 g3 g4 (bl.sr (by omega)) (br.sr (by omega));refine⟨_,S1,by rw[e1];rfl,⟨f1,a1,fun y hy=>o1 y fun e=>hy (by rw[e];simp),w1⟩,⟨bl,br,by omega,?_⟩,rfl⟩;by_cases a1:l.mark % 2=1
    ·right;simp[a1]
    ·by_cases a2:r.mark % 2=1
     ·right;simp[a2]
     ·left
      have b1:l.mark % 2=0:=by omega
      have b2:r.mark % 2=0:=by omega
      simp[b1,b2]
end Tr
end
section
open Go.RowKit Tryz Go.BigFrame Go.Maps Go.WideMaps Lf
variable{w:World}{z:Nat}
theorem CQ{pm px ps limit:Nat}(hM:Ic w pm px ps limit)(ht:Cb 56 #[PV px] w (.int .i64 z)):
 Cb 22 #[PV pm] w (.int .i64 z):=by
 have HG:=kq2 (ki hM) ht;unfold Ic at hM;obtain⟨c0,c1,c2⟩:=fq hM;clear hM ht;go_enter func22,ntmps22;go_wp2_with fail;refine HG.a.mono ?_;rintro e w1 ⟨rfl,rfl⟩;go_wp2_with fail;refine HG.b.mono ?_;rintro e w2 ⟨rfl,hb⟩;have HB:=If hb;clear hb;go_wp2_with fail;go_ret;exact⟨rfl,HB.out⟩
theorem CU{pm px ps limit:Nat}(hM:Ic w pm px ps limit)(k:List UInt8)(ht:Cb 49 #[PV px,SV k] w (.int .i64 z)):
 Cb 14 #[PV pm,SV k] w (.int .i64 z):=by
 have HG:=kq2 (ki hM) ht;unfold Ic at hM;obtain⟨c0,c1,c2⟩:=fq hM;clear hM ht;go_enter func14,ntmps14;go_wp2_with fail;refine HG.a.mono ?_;rintro e w1 ⟨rfl,rfl⟩;go_wp2_with fail;refine HG.b.mono ?_;rintro e w2 ⟨rfl,hb⟩;have HB:=If hb;clear hb;go_wp2_with fail;go_ret;exact⟨rfl,HB.out⟩
theorem CV{pm px ps limit:Nat}(hM:Ic w pm px ps limit)(k:Int)(p:List UInt8×List UInt8)(er:Nat)(ht:∀W,Below w.heap.size w W->Cb 53 #[PV px,.int .i64 k] W (.tuple #[eu p,.int .i64 er])):
 Cb 18 #[PV pm,.int .i64 k] w (.tuple #[eu p,.int .i64 er]):=by
 have B0:=(aa w.heap.size w).alloc Ih (.cells #[.string ⟨#[]⟩,.string ⟨#[]⟩] 34);have q0:=heap_alloc_new w (.cells #[.string ⟨#[]⟩,.string ⟨#[]⟩] 34);have ad:=hM.below B0;have ai:=ht _ B0;simp only[eu] at ai⊢;obtain⟨p1,p2⟩:=p;simp only at ai⊢;have HG:=kq4 (ki ad) ai B0 q0;unfold Ic at ad;obtain⟨c0,c1,c2⟩:=fq ad;clear hM ad ht ai B0 q0;go_enter func18,ntmps18;go_wp2_with fail;refine HG.a.mono ?_;rintro e w1 ⟨rfl,rfl⟩;go_wp2_with fail;refine HG.b.mono ?_;rintro e w2 ⟨rfl,hb⟩;have q2:=(hb.block w.heap.size (by simp)).trans HG.d;obtain⟨d0,d1⟩:=Fp q2;obtain⟨f0,f1⟩:=ef q2;have q3:=ew q2 (SV p1) (SV p2);have B3:=eT (HG.c.trans (hb.mono HG.c.size)) Ih (SV p1) (SV p2);have HB:=kq2 q3 B3;clear hb q2 q3 B3;go_wp2_with fail;obtain⟨q3,B3⟩:=HB.out;generalize ((w2.setCell ⟨w.heap.size,0,none⟩ (SV p1)).setCell ⟨w.heap.size,1,none⟩ (SV p2))=w3 at*;obtain⟨e0,e1⟩:=Fp q3;exact bodyPost_ret (v:=.tuple #[.agg #[SV p1,SV p2],.int .i64 er]) (by simp[results,f18,go_sem,e0,e1]) rfl ⟨rfl,B3⟩
theorem CL{pm px ps limit:Nat}(hM:Ic w pm px ps limit)(a:List UInt8){n:Nat}(hn:n<2^62)(is:Bool)(v:List UInt8)(h1:Cb 49 #[PV px,SV a] w (.int .i64 n))(h2:∀W,Below w.heap.size w W->Cb 50 #[PV px,SV a] W (.tuple #[SV v,.bool is])):
 Cb 52 #[PV pm,SV a] w (.int .i64 (if is=true then(n:Int) else(n:Int)-1)):=by
 have hw:IntKind.i64.wrap ((n:Int)-1)=(n:Int)-1:=aD _ (by omega);have HG:=kq3 h1 h2 hM;unfold Ic at hM;obtain⟨c0,c1,c2⟩:=fq hM;clear h1 h2 hM
 cases is
 all_goals
  go_enter func52,ntmps52;go_wp2_with fail;refine HG.a.mono ?_;rintro e w1 ⟨rfl,ai⟩;have ad:=HG.c.below ai;unfold Ic at ad;obtain⟨d0,d1,d2⟩:=fq ad;have H1:=If ai;clear ai ad;go_wp2_with fail;refine(HG.b _ H1.out).mono ?_;rintro e w2 ⟨rfl,al⟩;have H2:=If (H1.out.trans (al.mono H1.out.size));clear al;go_wp2_with fail;go_ret;exact⟨rfl,H2.out⟩
theorem CO{pm px ps limit:Nat}(hM:Ic w pm px ps limit)(a:List UInt8)(k:Int)(hpl:∀W,Below w.heap.size w W->Cb 52 #[PV pm,SV a] W (.int .i64 k))(p:List UInt8×List UInt8)(hat:∀W,Below w.heap.size w W->Cb 53 #[PV px,.int .i64 k] W (.tuple #[eu p,.int .i64 0])):
 Cb 16 #[PV pm,SV a] w (.tuple #[eu p,.int .i64 0]):=by
 have B0:=(aa w.heap.size w).alloc Ih (.cells #[.string ⟨#[]⟩,.string ⟨#[]⟩] 34);have q0:=heap_alloc_new w (.cells #[.string ⟨#[]⟩,.string ⟨#[]⟩] 34);have M0:=hM.below B0;have hat:=vI M0 52 (fun args w=>by go_simp) a k p.1 p.2 (fun W hW=>hpl W (B0.trans (hW.mono B0.size))) (fun W hW=>hat W (B0.trans (hW.mono B0.size)));obtain⟨p1,p2⟩:=p;simp only[eL,eu] at hat⊢;have HG:=kq3 hat B0 q0;clear M0 hM hat B0 q0 hpl;go_enter func16,ntmps16;go_wp2_with fail;refine HG.a.mono ?_;rintro e w1 ⟨rfl,hb⟩;have q1:=(hb.block w.heap.size (by simp)).trans HG.c;obtain⟨c0,c1⟩:=Fp q1;obtain⟨f0,f1⟩:=ef q1;have q2:=ew q1 (SV p1) (SV p2);have B2:=eT (HG.b.trans (hb.mono HG.b.size)) Ih (SV p1) (SV p2);have HB:=kq2 q2 B2;clear hb q1 q2 B2;go_wp2_with fail;obtain⟨q2,B2⟩:=HB.out;generalize ((w1.setCell ⟨w.heap.size,0,none⟩ (SV p1)).setCell ⟨w.heap.size,1,none⟩ (SV p2))=w2 at*;obtain⟨e0,e1⟩:=Fp q2;exact bodyPost_ret (v:=.tuple #[.agg #[SV p1,SV p2],.int .i64 0]) (by simp[results,f16,go_sem,e0,e1]) rfl ⟨rfl,B2⟩
theorem CM{pm px ps limit:Nat}(hM:Ic w pm px ps limit)(a:List UInt8)(k:Int)(hpl:∀W,Below w.heap.size w W->Cb 14 #[PV pm,SV a] W (.int .i64 k))(p:List UInt8×List UInt8)(hat:∀W,Below w.heap.size w W->Cb 53 #[PV px,.int .i64 k] W (.tuple #[eu p,.int .i64 0])):
 Cb 17 #[PV pm,SV a] w (.tuple #[eu p,.int .i64 0]):=by
 have B0:=(aa w.heap.size w).alloc Ih (.cells #[.string ⟨#[]⟩,.string ⟨#[]⟩] 34);have q0:=heap_alloc_new w (.cells #[.string ⟨#[]⟩,.string ⟨#[]⟩] 34);have M0:=hM.below B0;have hat:=vI M0 14 (fun args w=>by go_simp) a k p.1 p.2 (fun W hW=>hpl W (B0.trans (hW.mono B0.size))) (fun W hW=>hat W (B0.trans (hW.mono B0.size)));obtain⟨p1,p2⟩:=p;simp only[eL,eu] at hat⊢;have HG:=kq3 hat B0 q0;clear M0 hM hat B0 q0 hpl;go_enter func17,ntmps17;go_wp2_with fail;refine HG.a.mono ?_;rintro e w1 ⟨rfl,hb⟩;have q1:=(hb.block w.heap.size (by simp)).trans HG.c;obtain⟨c0,c1⟩:=Fp q1;obtain⟨f0,f1⟩:=ef q1;have q2:=ew q1 (SV p1) (SV p2);have B2:=eT (HG.b.trans (hb.mono HG.b.size)) Ih (SV p1) (SV p2);have HB:=kq2 q2 B2;clear hb q1 q2 B2;go_wp2_with fail;obtain⟨q2,B2⟩:=HB.out;generalize ((w1.setCell ⟨w.heap.size,0,none⟩ (SV p1)).setCell ⟨w.heap.size,1,none⟩ (SV p2))=w2 at*;obtain⟨e0,e1⟩:=Fp q2;exact bodyPost_ret (v:=.tuple #[.agg #[SV p1,SV p2],.int .i64 0]) (by simp[results,f17,go_sem,e0,e1]) rfl ⟨rfl,B2⟩
theorem CP{pm px ps limit:Nat}(hM:Ic w pm px ps limit)(a:List UInt8)(k:Int)(hpl:∀W,Below w.heap.size w W->Cb 52 #[PV pm,SV a] W (.int .i64 k))(s1 s2:List UInt8)(hat:∀W,Below w.heap.size w W->Cb 53 #[PV px,.int .i64 k] W (.tuple #[.agg #[SV s1,SV s2],.int .i64 2])):
 Cb 16 #[PV pm,SV a] w (.tuple #[.agg #[.string ⟨#[]⟩,.string ⟨#[]⟩],.int .i64 5]):=by
 have B0:=(aa w.heap.size w).alloc Ih (.cells #[.string ⟨#[]⟩,.string ⟨#[]⟩] 34);have q0:=heap_alloc_new w (.cells #[.string ⟨#[]⟩,.string ⟨#[]⟩] 34);have M0:=hM.below B0;have hat:=vJ M0 52 (fun args w=>by go_simp) a k s1 s2 (fun W hW=>hpl W (B0.trans (hW.mono B0.size))) (fun W hW=>hat W (B0.trans (hW.mono B0.size)));simp only[eL] at hat⊢;have HG:=kq3 hat B0 q0;clear M0 hM hat B0 q0 hpl;go_enter func16,ntmps16;go_wp2_with fail;refine HG.a.mono ?_;rintro e w1 ⟨rfl,hb⟩;have q1:=(hb.block w.heap.size (by simp)).trans HG.c;obtain⟨c0,c1⟩:=Fp q1;obtain⟨f0,f1⟩:=ef q1;have q2:=ew q1 (.string ⟨#[]⟩) (.string ⟨#[]⟩);have B2:=eT (HG.b.trans (hb.mono HG.b.size)) Ih (.string ⟨#[]⟩) (.string ⟨#[]⟩);have HB:=kq2 q2 B2;clear hb q1 q2 B2;go_wp2_with fail;obtain⟨q2,B2⟩:=HB.out;generalize ((w1.setCell ⟨w.heap.size,0,none⟩ (.string ⟨#[]⟩)).setCell ⟨w.heap.size,1,none⟩ (.string ⟨#[]⟩))=w2 at*;obtain⟨e0,e1⟩:=Fp q2;exact bodyPost_ret (v:=.tuple #[.agg #[.string ⟨#[]⟩,.string ⟨#[]⟩],.int .i64 5]) (by simp[results,f16,go_sem,e0,e1]) rfl ⟨rfl,B2⟩
theorem CN{pm px ps limit:Nat}(hM:Ic w pm px ps limit)(a:List UInt8)(k:Int)(hpl:∀W,Below w.heap.size w W->Cb 14 #[PV pm,SV a] W (.int .i64 k))(s1 s2:List UInt8)(hat:∀W,Below w.heap.size w W->Cb 53 #[PV px,.int .i64 k] W (.tuple #[.agg #[SV s1,SV s2],.int .i64 2])):
 Cb 17 #[PV pm,SV a] w (.tuple #[.agg #[.string ⟨#[]⟩,.string ⟨#[]⟩],.int .i64 5]):=by
 have B0:=(aa w.heap.size w).alloc Ih (.cells #[.string ⟨#[]⟩,.string ⟨#[]⟩] 34);have q0:=heap_alloc_new w (.cells #[.string ⟨#[]⟩,.string ⟨#[]⟩] 34);have M0:=hM.below B0;have hat:=vJ M0 14 (fun args w=>by go_simp) a k s1 s2 (fun W hW=>hpl W (B0.trans (hW.mono B0.size))) (fun W hW=>hat W (B0.trans (hW.mono B0.size)));simp only[eL] at hat⊢;have HG:=kq3 hat B0 q0;clear M0 hM hat B0 q0 hpl;go_enter func17,ntmps17;go_wp2_with fail;refine HG.a.mono ?_;rintro e w1 ⟨rfl,hb⟩;have q1:=(hb.block w.heap.size (by simp)).trans HG.c;obtain⟨c0,c1⟩:=Fp q1;obtain⟨f0,f1⟩:=ef q1;have q2:=ew q1 (.string ⟨#[]⟩) (.string ⟨#[]⟩);have B2:=eT (HG.b.trans (hb.mono HG.b.size)) Ih (.string ⟨#[]⟩) (.string ⟨#[]⟩);have HB:=kq2 q2 B2;clear hb q1 q2 B2;go_wp2_with fail;obtain⟨q2,B2⟩:=HB.out;generalize ((w1.setCell ⟨w.heap.size,0,none⟩ (.string ⟨#[]⟩)).setCell ⟨w.heap.size,1,none⟩ (.string ⟨#[]⟩))=w2 at*;obtain⟨e0,e1⟩:=Fp q2;exact bodyPost_ret (v:=.tuple #[.agg #[.string ⟨#[]⟩,.string ⟨#[]⟩],.int .i64 5]) (by simp[results,f17,go_sem,e0,e1]) rfl ⟨rfl,B2⟩
theorem CJ{pm px ps limit:Nat}(hM:Ic w pm px ps limit)(a b:List UInt8)(ha:a.length<=limit)(hb:b.length<=limit){t:List UInt8}(ht:Cb 50 #[PV px,SV a] w (.tuple #[SV t,.bool true])):
 Cb 25 #[PV pm,SV a,SV b] w (.int .i64 6):=by
 have HG:=kq2 (vH hM a b ha hb) ht;unfold Ic at hM;obtain⟨c0,c1,c2⟩:=fq hM;clear hM ha hb ht;go_enter func25,ntmps25;go_wp2_with fail;refine HG.a.mono ?_;rintro e w1 ⟨rfl,rfl⟩;go_wp2_with fail;refine HG.b.mono ?_;rintro e w2 ⟨rfl,ad⟩;have H2:=If ad;clear ad;go_wp2_with fail;go_ret;exact⟨rfl,H2.out⟩
theorem CS{pm px ps limit:Nat}(hM:Ic w pm px ps limit)(a b t:List UInt8)(was:Bool)(ha:a.length<=limit)(hb:b.length<=limit){Q:World->Prop}(ht:Ct 58 #[PV px,.agg #[SV a,SV b]] w fun e w'=>e=.returned (.tuple #[SV t,.bool was,.int .i64 0])/\Q w'):
 Ct 23 #[PV pm,SV a,SV b] w fun e w'=>e=.returned (.tuple #[SV t,.bool was,.int .i64 0])/\Q w':=by
 have HG:=kq2 (vH hM a b ha hb) ht;unfold Ic at hM;obtain⟨c0,c1,c2⟩:=fq hM;clear hM ha hb ht;go_enter func23,ntmps23;go_wp2_with fail;refine HG.a.mono ?_;rintro e w1 ⟨rfl,rfl⟩;go_wp2_with fail;refine HG.b.mono ?_;rintro e w2 ⟨rfl,hr⟩;have HR:=If hr;clear hr;go_wp2_with fail;go_ret3;exact⟨rfl,HR.out⟩
theorem qFnaa{P:Prop}(h:P:=by
 go_enter func57,ntmps57;go_wp2_with fail;refine HG.out.mono ?_;rintro e w1 ⟨rfl,rfl⟩;go_wp2_with fail;go_ret;exact⟨rfl,rfl⟩):P:=h
theorem CK{pm px ps limit:Nat}(hM:Ic w pm px ps limit)(a b:List UInt8)(ha:limit<a.length\/limit<b.length):
 Ct 57 #[PV pm,SV a,SV b] w fun e w'=>e=.returned (.int .i64 4)/\w=w':=by
 have HG:=If (ki hM);unfold Ic at hM;obtain⟨c0,c1,c2⟩:=fq hM;clear hM
 by_cases h1:limit<a.length
 ·have ad:((limit:Int)<(a.length:Int))=True:=eq_true (by omega);exact qFnaa
 ·have ad:((limit:Int)<(a.length:Int))=False:=eq_false (by omega);have ai:((limit:Int)<(b.length:Int))=True:=eq_true (by omega);exact qFnaa
theorem CT{pm px ps limit:Nat}(hM:Ic w pm px ps limit)(a b:List UInt8)(ha:limit<a.length\/limit<b.length):
 Ct 23 #[PV pm,SV a,SV b] w fun e w'=>e=.returned (.tuple #[.string ⟨#[]⟩,.bool false,.int .i64 4])/\w=w':=by
 have HG:=If (CK hM a b ha);clear hM ha;go_enter func23,ntmps23;go_wp2_with fail;refine(HG.out).mono ?_;rintro e w1 ⟨rfl,rfl⟩;go_wp2_with fail;go_ret3;exact⟨rfl,rfl⟩