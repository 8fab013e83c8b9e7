/- The store as records by handles: what Make, Len, Get, Put, Drop do to them: plain. -/
import Derived.Test.YtpljannolpapgaaGreatDoorVQx
import Derived.Test.YtpljannolpapgaaGreatDoorVJe
import Derived.Sort.CutIn
set_option maxRecDepth 100000
set_option maxHeartbeats 6400000
namespace Go.Proofs.YtpljannolpapgaaGreatDoor
section
open Lf
variable{S:St}{h:Nat}{n:Nat}{o:Nat->Nat}{s:Slab}{t:List UInt8}{ws:List Nat}{x:Nat}
structure Fw (S:St) (o:Nat->Nat):Prop where
 own:Own S.a o
 tab:iW S.t
 live:∀(i:Nat) (x:dR),S.t.slots[i]?=some x->x.is=1->∃r,eO S.a o x.addr r/\S.a.rd (x.addr+1)+2<=r/\S.a.rd (x.addr+1)<=3998
 inj:∀(i j:Nat) (x y:dR),S.t.slots[i]?=some x->S.t.slots[j]?=some y->x.is=1->y.is=1->x.addr=y.addr->i=j
 full:∀a r,eO S.a o a r->∃(i:Nat) (x:dR),S.t.slots[i]?=some x/\x.is=1/\x.addr=a/\S.a.rd a=gj x.gen i
theorem eO.wr_back(h:Own s o){a r b x:Nat}(hp:eO s o a r)(hb:b<r){a0 r0:Nat}(hq:eO (s.wr (a+b) x) o a0 r0):eO s o a0 r0:=by
 obtain⟨h0,hp⟩:=hp;obtain⟨h1,q⟩:=hq;have hg:∀p∈(s.wr (a+b) x).keys,o p=p->FA s p=FA (s.wr (a+b) x) p:=fun p _ ho=>(lQ fun c e1 e2=>Slab.rd_wr_ne _ _ _ _ (by
  rintro rfl;have:=hp.not_head h hb ho e1;omega)).symm
 exact⟨h1,q.same (i9 _ _ _).symm hg⟩
theorem Fw.inv(h:Fw S o):Fv S where
 len i hi h1:=by
  obtain⟨r,h2,h3,h4⟩:=h.live i _ (af hi) h1;have:=(h2.ok h.own (b:=0) (by omega)).2.1;unfold gK at this;omega
 apart i j hi hj hne h1 h2:=by
  obtain⟨r,g2,g3,g4⟩:=h.live i _ (af hi) h1;obtain⟨r',f2,f3,f4⟩:=h.live j _ (af hj) h2;rcases eO.apart h.own g2 f2 with hq | hq | hq
  ·exact absurd (h.inj i j _ _ (af hi) (af hj) h1 h2 hq.1) hne
  ·left;omega
  omega
theorem l6{t:Hs}(ht:iW t){h k:Nat}:t.of h=some k↔∃x:dR,t.slots[k]?=some x/\x.is=1/\h=gj x.gen k:=by
 unfold Hs.of gj
 constructor
 ·grind
 ·rintro⟨x,hx,h1,rfl⟩;have hk:k<t.slots.length:=(aq.1 hx).1;have hl:=ht.len;have hm:=ht.most.2
  grind
def Lf.reco(S:St)(h:Nat):Option (List Nat):=
 match S.t.of h with
 | none=>none
 | some k=>some ((List.range (S.a.rd ((S.t.slots.getD k ⟨0,0,0⟩).addr+1))).map fun j=>S.a.rd ((S.t.slots.getD k ⟨0,0,0⟩).addr+2+j))
def gE(s:Slab)(a:Nat):List Nat:=(List.range (s.rd (a+1))).map fun j=>s.rd (a+2+j)
theorem Jy(s:Slab)(a:Nat):(gE s a).length=s.rd (a+1):=by simp[gE]
theorem E7{a k:Nat}(h:k<s.rd (a+1)):(gE s a).getD k 0=s.rd (a+2+k):=by
 grind [gE,List.getElem?_range]
theorem gT(ht:iW S.t):reco S h=some ws↔∃(k:Nat) (x:dR),S.t.slots[k]?=some x/\x.is=1/\h=gj x.gen k/\ws=gE S.a x.addr:=by
 unfold reco
 constructor
 ·intro hh
  split at hh
  ·grind
  ·rename_i k hk;obtain⟨x,hx,h1,h2⟩:=(l6 ht).1 hk;refine⟨k,x,hx,h1,h2,?_⟩;have e:S.t.slots.getD k ⟨0,0,0⟩=x:=by grind
   rw[e] at hh;exact(Option.some.inj hh).symm
 ·rintro⟨k,x,hx,h1,h2,rfl⟩;rw[(l6 ht).2 ⟨x,hx,h1,h2⟩];have e:S.t.slots.getD k ⟨0,0,0⟩=x:=by grind
  simp only[e]
  rfl
theorem JH{S S':St}(he:∀ws,reco S h=some ws↔reco S' h=some ws):reco S' h=reco S h:=by
 grind [reco]
theorem jw(ht:iW S.t)(hl:reco S h=some ws):S.len h=(ws.length,0):=by
 obtain⟨k,x,hx,h1,h2,rfl⟩:=(gT ht).1 hl;have hk:k<S.t.slots.length:=(aq.1 hx).1;grind [List.getElem?_eq_getElem,Option.some.inj,St.len,St.at_some,l6,Jy]
theorem oy(hl:reco S h=none):S.len h=(0,7):=by
 grind [reco,St.len,St.at_none]
theorem ru(hf:Fw S o)(hl:reco S h=some ws){k:Nat}(hk:k<ws.length):S.get h k=(ws.getD k 0,0):=by
 obtain⟨i,x,hx,h1,h2,rfl⟩:=(gT hf.tab).1 hl;have hi:i<S.t.slots.length:=(aq.1 hx).1;have ad:S.t.slots[i]=x:=by have:=af hi;rw[hx] at this;exact(Option.some.inj this).symm
 rw[Jy] at hk;obtain⟨r,g1,g2,g3⟩:=hf.live i x hx h1;have ai:=g1.ok hf.own (b:=2+k) (by omega);unfold St.get;rw[St.at_some ((l6 hf.tab).2 ⟨x,hx,h1,h2⟩) hi,ad];simp only;rw[if_pos hk,E7 hk]
 grind
theorem fL(hf:Fw S o)(hl:reco S h=some ws):0<h/\h<2^64/\ws.length<=3998/\∀v∈ws,v<2^64:=by
 obtain⟨i,x,hx,h1,rfl,rfl⟩:=(gT hf.tab).1 hl;have hi:i<S.t.slots.length:=(aq.1 hx).1;have hl:=hf.tab.len;have hm:=hf.tab.most.2;have hg:=(hf.tab.slot x (cI hx)).2.1;obtain⟨r,g1,g2,g3⟩:=hf.live i x hx h1;refine⟨by unfold gj;omega,by unfold gj;omega,by rw[Jy];omega,fun v hv=>?_⟩;obtain⟨j,_,rfl⟩:=ay.1 hv;exact hf.own.wf.rd_lt _
structure ej (S S':St) (p q:Nat):Prop where
 quota:S'.a.quota=S.a.quota
 most:S'.t.most=S.t.most
 last:S'.t.last=S.t.last
 pages:S'.a.pages.length<=S.a.pages.length+p
 slots:S'.t.slots.length<=S.t.slots.length+q
theorem ej.refl(S:St):ej S S 0 0:=⟨rfl,rfl,rfl,Nat.le_refl _,Nat.le_refl _⟩
theorem ej.trans{S T U:St}{p q p' q':Nat}(h:ej S T p q)(k:ej T U p' q'):ej S U (p+p') (q+q'):=
 ⟨k.quota.trans h.quota,k.most.trans h.most,k.last.trans h.last,by have:=h.pages;have:=k.pages;omega,by have:=h.slots;have:=k.slots;omega⟩
theorem ej.mono{S S':St}{p q p' q':Nat}(h:ej S S' p q)(hp:p<=p')(hq:q<=q'):ej S S' p' q':=
 ⟨h.quota,h.most,h.last,by have:=h.pages;omega,by have:=h.slots;omega⟩
theorem Cn(hf:Fw S o)(hl:reco S h=some ws){k x:Nat}(hk:k<ws.length)(hx:x<2^64):
 ∃S',S.put h k x=(0,S')/\Fw S' o/\reco S' h=some (ws.set k x)/\(∀h',h'≠h->reco S' h'=reco S h')/\ej S S' 0 0:=by
 obtain⟨i,y,hy,h1,h2,rfl⟩:=(gT hf.tab).1 hl;have hi:i<S.t.slots.length:=(aq.1 hy).1;have a1:S.t.slots[i]=y:=by have:=af hi;rw[hy] at this;exact(Option.some.inj this).symm
 rw[Jy] at hk;obtain⟨r,g1,g2,g3⟩:=hf.live i y hy h1;have ai:=g1.ok hf.own (b:=2+k) (by omega);obtain⟨ap,ar⟩:=hf.own.wr g1 (b:=2+k) (x:=x) (by omega) hx;rw[<-dD] at ai ap ar;have hS:S.put h k x=(0,⟨S.a.wr (y.addr+2+k) x,S.t⟩):=by
  unfold St.put;rw[St.at_some ((l6 hf.tab).2 ⟨y,hy,h1,h2⟩) hi,a1];simp only;rw[if_pos hk,ai.1]
 have ad:∀(j:Nat) (z:dR),S.t.slots[j]?=some z->z.is=1->j≠i->∀b,b<2+S.a.rd (z.addr+1)->(S.a.wr (y.addr+2+k) x).rd (z.addr+b)=S.a.rd (z.addr+b):=by
  intro j z hz hz1 hne b hb;obtain⟨r',f1,f2,f3⟩:=hf.live j z hz hz1;refine Slab.rd_wr_ne _ _ _ _ ?_
  rcases eO.apart hf.own f1 g1 with hq | hq | hq
  ·exact absurd (hf.inj j i z y hz hy hz1 h1 hq.1) hne
  ·omega
  ·omega
 have au:(S.a.wr (y.addr+2+k) x).rd (y.addr+1)=S.a.rd (y.addr+1):=Slab.rd_wr_ne _ _ _ _ (by omega);refine⟨_,hS,⟨ap,hf.tab,?_,hf.inj,fun a0 r0 hq=>?_⟩,?_,?_,⟨rfl,rfl,rfl,by show (Slab.wr _ _ _).pages.length<=_;rw[kL];exact Nat.le_refl _,Nat.le_refl _⟩⟩
 ·intro j z hz hz1;obtain⟨r',f1,f2,f3⟩:=hf.live j z hz hz1;refine⟨r',ar _ _ f1,?_⟩
  by_cases e:j=i
  ·subst e;have hz:S.t.slots[j]?=some z:=hz;rw[hy] at hz
   injection hz with hz
   subst hz
   show (S.a.wr (y.addr+2+k) x).rd (y.addr+1)+2<=r'/\(S.a.wr (y.addr+2+k) x).rd (y.addr+1)<=3998
   rw[au];exact⟨f2,f3⟩
  ·show (S.a.wr (y.addr+2+k) x).rd (z.addr+1)+2<=r'/\(S.a.wr (y.addr+2+k) x).rd (z.addr+1)<=3998
   rw[ad j z hz hz1 e 1 (by omega)];exact⟨f2,f3⟩
 ·obtain⟨j,z,f1,f2,f3,f4⟩:=hf.full a0 r0 (eO.wr_back hf.own g1 (b:=2+k) (x:=x) (by omega) (by rw[<-dD];exact hq));refine⟨j,z,f1,f2,f3,?_⟩
  show (S.a.wr (y.addr+2+k) x).rd a0=_
  by_cases e:j=i
  ·subst e;rw[hy] at f1
   injection f1 with f1
   subst f1;rw[Slab.rd_wr_ne _ _ _ _ (by omega)];exact f4
  ·have:=ad j z f1 f2 e 0 (by omega);rw[f3] at this;exact this.trans f4
 ·refine(gT (S:=⟨S.a.wr (y.addr+2+k) x,S.t⟩) hf.tab).2 ⟨i,y,hy,h1,h2,?_⟩;refine dx fun j=>?_
  show _=(gE (S.a.wr (y.addr+2+k) x) y.addr)[j]?
  unfold gE;rw[au]
  by_cases hj:j<S.a.rd (y.addr+1)
  ·rw[bJ,bP hj]
   by_cases e:k=j
   ·subst e;rw[ci (by simp;exact hk)]
    show some x=some ((S.a.wr (y.addr+2+k) x).rd (y.addr+2+k))
    rw[oS hf.own.wf ai.2.2]
   ·rw[cE e,bJ,bP hj]
    show some _=some ((S.a.wr (y.addr+2+k) x).rd (y.addr+2+j))
    rw[Slab.rd_wr_ne _ _ _ _ (by omega)]
  ·rw[aS (by simp;omega),aS (by simp;omega)]
 ·intro h' hne;refine JH (S':=⟨S.a.wr (y.addr+2+k) x,S.t⟩) fun ws'=>?_;have hw:∀(j:Nat) (z:dR),S.t.slots[j]?=some z->z.is=1->h'=gj z.gen j->gE (S.a.wr (y.addr+2+k) x) z.addr=gE S.a z.addr:=by
   intro j z hz hz1 he;have an:j≠i:=by
    rintro rfl;rw[hy] at hz
    injection hz with hz
    subst hz;exact hne (he.trans h2.symm)
   unfold gE;rw[ad j z hz hz1 an 1 (by omega)];refine aW fun b hb=>?_;have hb:=aZ.1 hb;have:=ad j z hz hz1 an (2+b) (by omega);rw[<-dD] at this;exact this
  rw[gT hf.tab,gT (S:=⟨S.a.wr (y.addr+2+k) x,S.t⟩) hf.tab]
  constructor
  ·rintro⟨j,z,q1,q2,q3,q4⟩;exact⟨j,z,q1,q2,q3,by rw[q4];exact(hw j z q1 q2 q3).symm⟩
  ·rintro⟨j,z,q1,q2,q3,q4⟩;exact⟨j,z,q1,q2,q3,by rw[q4];exact hw j z q1 q2 q3⟩
theorem vw {o:Nat->Nat}{h:Nat}:∀(l:List Nat) {S:St} {ws:List Nat} {k:Nat},Fw S o->reco S h=some ws->k+l.length<=ws.length->(∀v∈l,v<2^64)->
 Fw (FC S h k l) o/\reco (FC S h k l) h=some (ws.take k++l++ws.drop (k+l.length))/\(∀h',h'≠h->reco (FC S h k l) h'=reco S h')/\ej S (FC S h k l) 0 0
 | [],S,ws,k,hf,hl,hk,hv=>by
  refine⟨hf,?_,fun _ _=>rfl,ej.refl S⟩;show reco S h=_
  simp_all
 | x::r,S,ws,k,hf,hl,hk,hv=>by
  simp only[ag] at hk;obtain⟨S',e,ad,ap,ar,ai⟩:=Cn hf hl (k:=k) (x:=x) (by omega) (hv x (am ..));obtain⟨q1,q2,q3,q4⟩:=vw r ad ap (k:=k+1) (by rw[bA];omega) (fun v hm=>hv v (ak _ hm));have e2:FC S h k (x::r)=FC S' h (k+1) r:=by
   show FC (S.put h k x).2 h (k+1) r=_
   rw[e]
  rw[e2];refine⟨q1,?_,fun h' hn=>(q3 h' hn).trans (ar h' hn),(ai.trans q4).mono (by omega) (by omega)⟩;rw[q2];congr 1
  have an:k<ws.length:=by omega
  rw[List.drop_set_of_lt (by omega),List.take_set,List.take_add_one,af an];have:k-(ws.take k).length=0:=by simp;omega
  grind
theorem mR{l ws:List Nat}(hf:Fw S o)(hl:reco S h=some ws)(hk:l.length=ws.length)(hv:∀v∈l,v<2^64):
 Fw (FC S h 0 l) o/\reco (FC S h 0 l) h=some l/\(∀h',h'≠h->reco (FC S h 0 l) h'=reco S h')/\ej S (FC S h 0 l) 0 0:=by
 have:=vw l hf hl (k:=0) (by omega) hv;grind
theorem uu:∀(l:List dR) (k0:Nat),∃k,gH l k0=k0+k/\k<=l.length/\(∀x:dR,l[k]?=some x->x.is=0)
 | [],k0=>⟨0,rfl,Nat.le_refl _,by simp⟩
 | y::r,k0=>by
  unfold gH;by_cases h:y.is=0
  ·rw[if_pos h];exact⟨0,rfl,by omega,fun x hx=>by simp at hx;rw[<-hx];exact h⟩
  ·rw[if_neg h];obtain⟨k,h1,h2,h3⟩:=uu r (k0+1);exact⟨k+1,by rw[h1];omega,by simp only[ag];omega,fun x hx=>h3 x (by simpa using hx)⟩
def fc(S:St)(p q:Nat):Prop:=(S.a.pages.length+p)*64<=S.a.quota/\S.t.slots.length+q<=S.t.most
theorem fc.grew{S S':St}{p q p' q':Nat}(h:fc S (p+p') (q+q'))(hg:ej S S' p q):fc S' p' q':=by
 obtain⟨h1,h2⟩:=h;obtain⟨g1,g2,_,g4,g5⟩:=hg;refine⟨?_,by rw[g2];omega⟩;omega
theorem fc.mono{p q p' q':Nat}(h:fc S p q)(hp:p'<=p)(hq:q'<=q):fc S p' q':=
 ⟨aB (dz 64 (by omega)) h.1,by have:=h.2;omega⟩
theorem oz(hf:Fw S o)(hn:n<=3998)(hr:fc S (fa (n+2)) 1):
 ∃h S' o' ws,S.make n=((h,0),S')/\Fw S' o'/\reco S h=none/\ws.length=n/\reco S' h=some ws/\(∀h',h'≠h->reco S' h'=reco S h')/\ej S S' (fa (n+2)) 1/\(S.t.open (fR S.a (n+2)).1.1).1.2=0:=by
 obtain⟨a,s',o',r,ea,T,b1,bu⟩:=yE hf.own (n:=n+2) (by omega) (by omega) hr.1;obtain⟨k,a3,b0,a1⟩:=uu S.t.slots 0;rw[bH] at a3;have bj:k≠S.t.most:=by have:=hr.2;omega
 have hm:=hf.tab.most.2;have bk:=hf.tab.len;obtain⟨l,hl⟩:=Ii (if k=S.t.slots.length then S.t.slots++[⟨0,0,0⟩] else S.t.slots);have a6:k<l.length:=by
  rw[<-hl]
  split
  ·simp only[ah,ag,aM];omega
  ·omega
 have bm:l.length<=S.t.slots.length+1:=by rw[<-hl];split<;>simp
 have bo:l.length<=S.t.most:=by
  rw[<-hl]
  split
  ·have:=hr.2
   simp;omega
  ·exact bk
 have a5:∀i:Nat,i≠k->l[i]?=S.t.slots[i]?:=by
  intro i hi;rw[<-hl]
  split
  ·rename_i e
   rcases co i S.t.slots.length with h | h
   ·rw[dC h]
   ·rw[cg h,aS h,aS (by simp;omega)]
  ·rfl
 obtain⟨g,hg⟩:=Ii ((S.t.genAt k+1) % 4294967296);have bd:g<4294967296:=by rw[<-hg];omega
 obtain⟨h,hh⟩:=Ii (gj g k);have bf:h<2^64:=by rw[<-hh];unfold gj;omega
 have a8:S.t.open a=((h,0),{ S.t with slots:=l.set k ⟨1,g,a⟩ }):=by
  unfold Hs.open;simp only[a3];rw[if_neg bj];simp only[hl,hg,hh]
 have ad:=(T.pl a r).2 (ae ⟨rfl,rfl⟩);obtain⟨ar,an⟩:=T.own.wr ad (b:=0) (x:=h) (by omega) bf;rw[Nat.add_zero] at ar an;obtain⟨bv,a9⟩:=ar.wr (an _ _ ad) (b:=1) (x:=n) (by omega) (by omega);have bq:S.make n=((h,0),⟨(s'.wr a h).wr (a+1) n,{ S.t with slots:=l.set k ⟨1,g,a⟩ }⟩):=by
  unfold St.make;rw[if_neg (by omega),ea];simp only[a8]
 have ap:∀a0 r0 b,eO S.a o a0 r0->b<r0->((s'.wr a h).wr (a+1) n).rd (a0+b)=S.a.rd (a0+b):=by
  intro a0 r0 b hq hb;have bx:=eO.apart T.own ((T.pl a0 r0).2 (ab hq)) ad;have a7:a0≠a:=by rintro rfl;exact T.fresh _ hq
  rw[Slab.rd_wr_ne _ _ _ _ (by omega),Slab.rd_wr_ne _ _ _ _ (by omega)];exact T.rd a0 r0 b hq hb
 have a4:((s'.wr a h).wr (a+1) n).rd (a+1)=n:=oS ar.wf (by rw[i9];exact(ad.ok T.own (b:=1) (by omega)).2.2) _;have ai:∀(i:Nat) (x:dR),(l.set k ⟨1,g,a⟩)[i]?=some x->(i=k/\x=⟨1,g,a⟩)\/(i≠k/\S.t.slots[i]?=some x):=by
  intro i x hx
  by_cases e:i=k
  ·subst e;rw[ci a6] at hx;exact ab ⟨rfl,(Option.some.inj hx).symm⟩
  ·rw[cE (fun h=>e h.symm),a5 i e] at hx;exact ae ⟨e,hx⟩
 have a':(l.set k ⟨1,g,a⟩)[k]?=some ⟨1,g,a⟩:=ci a6;have ba:∀i:Nat,i≠k->(l.set k (⟨1,g,a⟩:dR))[i]?=S.t.slots[i]?:=fun i e=>by rw[cE (fun h=>e h.symm),a5 i e]
 have bb:a<=4611686018427387903:=by have:=(ad.ok T.own (b:=0) (by omega)).2.1;unfold gK at this;omega
 have a2:iW { S.t with slots:=l.set k ⟨1,g,a⟩ }:=by
  refine⟨hf.tab.most,hf.tab.last,by simp only[bA];exact bo,fun x hx=>?_⟩;obtain⟨i,hi⟩:=List.getElem?_of_mem hx
  rcases ai i x hi with⟨_,e⟩ | ⟨_,e⟩
  ·subst e;exact⟨by show 1<=2;decide,bd,bb⟩
  ·exact hf.tab.slot x (cI e)
 have bc:Fw ⟨(s'.wr a h).wr (a+1) n,{ S.t with slots:=l.set k ⟨1,g,a⟩ }⟩ o':=by
  refine⟨bv,a2,?_,?_,fun a0 r0 hq=>?_⟩
  ·intro i x hx h1
   rcases ai i x hx with⟨_,e⟩ | ⟨_,e⟩
   ·subst e;refine⟨r,a9 _ _ (an _ _ ad),?_⟩;simp only;rw[a4];omega
   ·obtain⟨r0,f1,f2,f3⟩:=hf.live i x e h1;refine⟨r0,a9 _ _ (an _ _ ((T.pl _ _).2 (ab f1))),?_⟩;simp only;rw[ap _ _ 1 f1 (by omega)];exact⟨f2,f3⟩
  ·intro i j x y hx hy h1 h2 he
   rcases ai i x hx with⟨e1,e⟩ | ⟨e1,e⟩
   ·rcases ai j y hy with⟨e2,e'⟩ | ⟨e2,e'⟩
    ·rw[e1,e2]
    ·subst e;obtain⟨r0,f1,_⟩:=hf.live j y e' h2;rw[<-he] at f1;exact absurd f1 (T.fresh _)
   ·rcases ai j y hy with⟨e2,e'⟩ | ⟨e2,e'⟩
    ·subst e';obtain⟨r0,f1,_⟩:=hf.live i x e h1;rw[he] at f1;exact absurd f1 (T.fresh _)
    ·exact hf.inj i j x y e e' h1 h2 he
  ·have q1:=eO.wr_back ar (an _ _ ad) (b:=1) (x:=n) (by omega) hq
   rcases(T.pl _ _).1 (eO.wr_back T.own ad (b:=0) (x:=h) (by omega) (by rw[Nat.add_zero];exact q1)) with f | ⟨e1,e2⟩
   ·obtain⟨i,x,f1,f2,f3,f4⟩:=hf.full _ _ f;have au:i≠k:=by rintro rfl;have:=a1 x f1;omega
    have h0:0<r0:=by obtain⟨h0,bt⟩:=f;have:=(bt.pos hf.own).1;omega
    exact⟨i,x,(ba i au).trans f1,f2,f3,(ap a0 r0 0 f h0).trans f4⟩
   ·rw[e1];refine⟨k,_,a',rfl,rfl,?_⟩
    show ((s'.wr a h).wr (a+1) n).rd a=gj g k
    rw[Slab.rd_wr_ne _ _ _ _ (by omega),oS T.own.wf (a:=a) (ad.ok T.own (b:=0) (by omega)).2.2];exact hh.symm
 have bs:reco S h=none:=by
  cases hq:reco S h with
  | none=>rfl
  | some ws=>
   exfalso
   obtain⟨i,x,hx,h1,h2,_⟩:=(gT hf.tab).1 hq;have hi:i<S.t.slots.length:=(aq.1 hx).1;have e:i=k:=by rw[<-hh] at h2;unfold gj at h2;omega
   subst e;have:=a1 x hx;omega
 refine⟨h,_,o',gE ((s'.wr a h).wr (a+1) n) a,bq,bc,bs,by rw[Jy,a4],?_,?_,?_,?_⟩
 ·exact(gT a2).2 ⟨k,_,a',rfl,hh.symm,rfl⟩
 ·intro h' a7;refine JH fun ws=>?_;rw[gT hf.tab,gT a2];have hw:∀(i:Nat) (x:dR),S.t.slots[i]?=some x->x.is=1->gE ((s'.wr a h).wr (a+1) n) x.addr=gE S.a x.addr:=by
   intro i x hx h1;obtain⟨r0,f1,f2,f3⟩:=hf.live i x hx h1;unfold gE;rw[ap _ _ 1 f1 (by omega)];refine aW fun b hb=>?_;have hb:=aZ.1 hb;have:=ap _ _ (2+b) f1 (by omega);rw[<-dD] at this;exact this
  constructor
  ·rintro⟨i,x,hx,h1,h2,h3⟩;have au:i≠k:=by rintro rfl;have:=a1 x hx;omega
   exact⟨i,x,(ba i au).trans hx,h1,h2,by rw[h3];exact(hw i x hx h1).symm⟩
  ·rintro⟨i,x,hx,h1,h2,h3⟩
   rcases ai i x hx with⟨e1,e⟩ | ⟨e1,e⟩
   ·subst e1 e;exact absurd (h2.trans hh) a7
   ·exact⟨i,x,e,h1,h2,by rw[h3];exact hw i x e h1⟩
 ·refine⟨T.quota,rfl,rfl,?_,?_⟩
  ·show (Slab.wr _ _ _).pages.length<=_
   rw[kL,kL];exact bu
  ·simp only[bA];exact bm
 ·rw[ea];simp only[a8]
theorem rz(hf:Fw S o)(hn:n<=3998)(hr:fc S (fa (n+2)) 1):iw S n:=by
 obtain⟨h,S',o',ws,e,ad,_,_,_,_,_,ho⟩:=oz hf hn hr;exact⟨ho,by rw[e];exact ad.inv⟩
theorem mQ(hf:Fw S o)(hl:reco S h=some ws):
 ∃S',S.drop h=(0,S')/\Fw S' o/\reco S' h=none/\(∀h',h'≠h->reco S' h'=reco S h')/\ej S S' 0 0:=by
 obtain⟨k,x,hx,h1,h2,rfl⟩:=(gT hf.tab).1 hl;have hk:k<S.t.slots.length:=(aq.1 hx).1;have a5:S.t.slots[k]=x:=by have:=af hk;rw[hx] at this;exact(Option.some.inj this).symm
 have a4:=(l6 hf.tab).2 ⟨x,hx,h1,h2⟩;obtain⟨r,g1,g2,g3⟩:=hf.live k x hx h1;obtain⟨s',es,F⟩:=Lc hf.own g1;obtain⟨z,hz⟩:∃z:Nat,(if x.gen=S.t.last then 2 else 0)=z:=⟨_,rfl⟩;have a6:z≠1/\z<=2:=by rw[<-hz];split<;>omega
 have a7:S.t.close h=(0,{ S.t with slots:=S.t.slots.set k { x with is:=z } }):=by
  rw[Hs.close_some a4 hk,a5,hz]
 have an:∀(i:Nat) (y:dR),(S.t.slots.set k { x with is:=z })[i]?=some y->y.is=1->i≠k/\S.t.slots[i]?=some y:=by
  intro i y hy ad
  by_cases e:i=k
  ·subst e;rw[ci hk] at hy
   injection hy with hy
   rw[<-hy] at ad;exact absurd ad a6.1
  ·rw[cE (fun h=>e h.symm)] at hy;exact⟨e,hy⟩
 have au:∀i:Nat,i≠k->(S.t.slots.set k { x with is:=z })[i]?=S.t.slots[i]?:=fun i e=>cE (fun h=>e h.symm);have a3:∀(i:Nat) (y:dR),S.t.slots[i]?=some y->y.is=1->i≠k->y.addr≠x.addr:=fun i y hy ad hi e=>hi (hf.inj i k y x hy hx ad h1 e);have a1:iW { S.t with slots:=S.t.slots.set k { x with is:=z } }:=by
  refine⟨hf.tab.most,hf.tab.last,by simp only[bA];exact hf.tab.len,fun y hy=>?_⟩;obtain⟨i,hi⟩:=List.getElem?_of_mem hy
  by_cases e:i=k
  ·subst e;rw[ci hk] at hi
   injection hi with hi
   rw[<-hi];have:=hf.tab.slot x (cI hx);exact⟨a6.2,this.2⟩
  ·rw[au i e] at hi;exact hf.tab.slot y (cI hi)
 have a8:S.drop h=(0,⟨s',{ S.t with slots:=S.t.slots.set k { x with is:=z } }⟩):=by
  unfold St.drop;rw[St.at_some a4 hk,a5];simp only[a7,es]
 have a9:Fw ⟨s',{ S.t with slots:=S.t.slots.set k { x with is:=z } }⟩ o:=by
  refine⟨F.own,a1,?_,?_,fun a0 r0 hq=>?_⟩
  ·intro i y hy ad;obtain⟨hi,hy⟩:=an i y hy ad;obtain⟨r0,f1,f2,f3⟩:=hf.live i y hy ad;have hp:=(F.pl _ _).2 ⟨f1,a3 i y hy ad hi⟩;refine⟨r0,hp,?_⟩;simp only;rw[F.rd _ _ 1 hp (by omega)];exact⟨f2,f3⟩
  ·intro i j y y' hy ar h3 h4 he;exact hf.inj i j y y' (an i y hy h3).2 (an j y' ar h4).2 h3 h4 he
  ·obtain⟨q,a'⟩:=(F.pl _ _).1 hq;obtain⟨i,y,f1,f2,f3,f4⟩:=hf.full _ _ q;have ap:i≠k:=by
    rintro rfl;rw[hx] at f1
    injection f1 with f1
    subst f1;exact a' f3.symm
   have h0:0<r0:=by obtain⟨h0,ba⟩:=q;have:=(ba.pos hf.own).1;omega
   exact⟨i,y,(au i ap).trans f1,f2,f3,(F.rd a0 r0 0 hq h0).trans f4⟩
 refine⟨_,a8,a9,?_,?_,⟨F.quota,rfl,rfl,F.len,by simp only[bA];exact Nat.le_refl _⟩⟩
 ·cases hq:reco (⟨s',{ S.t with slots:=S.t.slots.set k { x with is:=z } }⟩:St) h with
  | none=>rfl
  | some ws=>
   exfalso
   obtain⟨i,y,hy,ad,ai,_⟩:=(gT a1).1 hq;obtain⟨hi,hy⟩:=an i y hy ad;have bb:i<S.t.slots.length:=(aq.1 hy).1;have:=hf.tab.len;have:=hf.tab.most.2;rw[h2] at ai;unfold gj at ai;omega
 ·intro h' hn;refine JH fun ws=>?_;rw[gT hf.tab,gT a1];have hw:∀(i:Nat) (y:dR),S.t.slots[i]?=some y->y.is=1->i≠k->gE s' y.addr=gE S.a y.addr:=by
   intro i y hy ad hi;obtain⟨r0,f1,f2,f3⟩:=hf.live i y hy ad;have hp:=(F.pl _ _).2 ⟨f1,a3 i y hy ad hi⟩;unfold gE;rw[F.rd _ _ 1 hp (by omega)];refine aW fun b hb=>?_;have hb:=aZ.1 hb;have:=F.rd _ _ (2+b) hp (by omega);rw[<-dD] at this;exact this
  constructor
  ·rintro⟨i,y,hy,ad,ai,a2⟩;have ap:i≠k:=by
    rintro rfl;rw[hx] at hy
    injection hy with hy
    subst hy;exact hn (ai.trans h2.symm)
   exact⟨i,y,(au i ap).trans hy,ad,ai,by rw[a2];exact(hw i y hy ad ap).symm⟩
  ·rintro⟨i,y,hy,ad,ai,a2⟩;obtain⟨hi,ar⟩:=an i y hy ad;exact⟨i,y,ar,ad,ai,by rw[a2];exact hw i y ar ad hi⟩
theorem D4(hf:Fw S o)(hl:reco S h=some ws):kM S h=ws:=by
 unfold kM;rw[jw hf.tab hl];refine dx fun i=>?_
 by_cases hi:i<ws.length
 ·rw[bJ,bP hi]
  show some (S.get h i).1=_
  rw[ru hf hl hi,af hi,av,af hi]
  rfl
 grind
theorem jt(hf:Fw S o)(ht:t.length<=1000)(hl:reco S h=some (FK t)):fz S h=(t,0):=by
 unfold fz;rw[jw hf.tab hl];simp only;rw[D4 hf hl,EN t ht]
theorem Cu(h:n<=1000):many n=1+(n+7) / 8/\many n<=126:=by
 have:many n=1+(n+7) / 8:=by unfold many;grind
 omega
theorem qh(h1:1<=n)(h2:n<=4000):fa n<=(n+65) / 64:=by
 unfold fa;grind
theorem oL(hf:Fw S o)(ht:t.length<=1000)(hr:fc S 3 1):
 ∃h S' o',fx S t=((h,0),S')/\Fw S' o'/\reco S h=none/\reco S' h=some (FK t)/\(∀h',h'≠h->reco S' h'=reco S h')/\ej S S' 3 1/\iw S (many t.length):=by
 obtain⟨m1,m2⟩:=Cu ht;have ad:fa (many t.length+2)<=3:=aB (qh (by omega) (by omega)) (by omega);obtain⟨h,S1,o1,ws,e,ai,hn,an,hl,ho,hg,_⟩:=oz hf (n:=many t.length) (by omega) (hr.mono ad Ih);obtain⟨q1,q2,q3,q4⟩:=mR ai hl (l:=FK t) (by rw[JR,an,m1]) (xZ t (by omega));refine⟨h,FC S1 h 0 (FK t),o1,?_,q1,hn,q2,fun h' hne=>(q3 h' hne).trans (ho h' hne),(hg.trans q4).mono (by omega) (by omega),(rz hf (n:=many t.length) (by omega) (hr.mono ad Ih))⟩;unfold fx;grind
def eM(n:Nd):List Nat:=[n.key,n.val,n.left,n.right,n.mark,n.size]
theorem pN(hf:Fw S o){n:Nd}(hl:reco S h=some (eM n)):fZ S h=0:=by
 unfold fZ;rw[jw hf.tab hl];simp[eM]
theorem gw(hf:Fw S o){n:Nd}(hl:reco S h=some (eM n)):getNode S h=(n,0):=by
 have g:=fun k hk=>ru hf hl (k:=k) hk;have ad:(eM n).length=6:=rfl;unfold getNode;rw[pN hf hl];simp only;rw[g 0 (by omega),g 1 (by omega),g 2 (by omega),g 3 (by omega),g 4 (by omega),g 5 (by omega)];rfl
theorem Ld(hl:reco S h=none):getNode S h=(Nd.zero,7):=by
 unfold getNode fZ;rw[oy hl];rfl
theorem Co:reco S 0=none:=by
 unfold reco Hs.of;simp
theorem Bc(S:St):getNode S 0=(Nd.zero,7):=Ld Co
theorem vS{n:Nd}(hn:ji n):∀v∈eM n,v<2^64:=by
 intro v hv;have h1:=hn.key;have h2:=hn.val;have h3:=hn.left;have h4:=hn.right;have h5:=hn.mark;have h6:=hn.size;simp only[eM,aj,List.mem_nil_iff,or_false] at hv;rcases hv with rfl | rfl | rfl | rfl | rfl | rfl<;>assumption
theorem ww(hf:Fw S o){n0 n:Nd}(hl:reco S h=some (eM n0))(hn:ji n):
 ∃S',gM S h n=(0,S')/\Fw S' o/\reco S' h=some (eM n)/\(∀h',h'≠h->reco S' h'=reco S h')/\ej S S' 0 0:=by
 obtain⟨q1,q2,q3,q4⟩:=mR hf hl (l:=eM n) rfl (vS hn);grind [FC,eM,gM,pN]
theorem Cq(hf:Fw S o){n:Nd}(hn:ji n)(hr:fc S 1 1):
 ∃h S' o',ga S n=((h,0),S')/\Fw S' o'/\reco S h=none/\reco S' h=some (eM n)/\(∀h',h'≠h->reco S' h'=reco S h')/\ej S S' 1 1/\iw S 6:=by
 have ad:fa (6+2)<=1:=aB (qh (by omega) (by omega)) (by omega);obtain⟨h,S1,o1,ws,e,ai,ap,an,hl,ho,hg,_⟩:=oz hf (n:=6) (by omega) (hr.mono ad Ih);obtain⟨q1,q2,q3,q4⟩:=mR ai hl (l:=eM n) (by rw[an];rfl) (vS hn);have ha:fZ S1 h=0:=by
  unfold fZ;rw[jw ai.tab hl,an]
  rfl
 refine⟨h,FC S1 h 0 (eM n),o1,?_,q1,ap,q2,fun h' hne=>(q3 h' hne).trans (ho h' hne),(hg.trans q4).mono (by omega) (by omega),(rz hf (n:=6) (by omega) (hr.mono ad Ih))⟩;unfold ga;rw[e];simp only;unfold gM;rw[ha]
 rfl
theorem AH(hf:Fw S o){n:Nd}(hl:reco S h=some (eM n)):
 ∃S',jr S h=(0,S')/\Fw S' o/\reco S' h=none/\(∀h',h'≠h->reco S' h'=reco S h')/\ej S S' 0 0:=by
 grind [mQ,jr,pN]
theorem ux(q n l:Nat)(hq:q<=262144)(hn:1<=n/\n<=65536)(hl:1<=l/\l<4294967296):Fw ⟨⟨q,[]⟩,⟨n,l,[]⟩⟩ id where
 own:=⟨⟨List.Pairwise.nil,by simp,by simp,by simp[Slab.keys],by simp,hq⟩,by simp[Slab.keys],by simp[Slab.keys]⟩
 tab:=⟨hn,hl,by simp,by simp⟩
 live:=by simp
 inj:=by simp
 full:=by rintro a r ⟨h,hp,_⟩;simp[Slab.keys] at hp
def Lf.leftM(S:St)(h:Nat):Option (Nat×St):=
 match fu S (getNode S h).1 h (getNode S h).1.left (getNode S (getNode S h).1.right).1.left with
 | none=>none
 | some S1=>(fu S1 (getNode S (getNode S h).1.right).1 (getNode S h).1.right h (getNode S (getNode S h).1.right).1.right).map fun S2=>((getNode S h).1.right,S2)
def Lf.rightM(S:St)(h:Nat):Option (Nat×St):=
 match fu S (getNode S h).1 h (getNode S (getNode S h).1.left).1.right (getNode S h).1.right with
 | none=>none
 | some S1=>(fu S1 (getNode S (getNode S h).1.left).1 (getNode S h).1.left (getNode S (getNode S h).1.left).1.left h).map fun S2=>((getNode S h).1.left,S2)
def Lf.balM(S:St)(h:Nat):Option (Nat×St):=
 match eE S (getNode S h).1.left,eE S (getNode S h).1.right with
 | some a,some b=>
  if b+1<a then
   match eE S (getNode S (getNode S h).1.left).1.left,eE S (getNode S (getNode S h).1.left).1.right with
   | some c,some d=>
    if c<d then
     match leftM S (getNode S h).1.left with
     | none=>none
     | some (x,S1)=>match fu S1 (getNode S h).1 h x (getNode S h).1.right with
      | none=>none
      | some S2=>rightM S2 h
    else rightM S h
   | _,_=>none
  else if a+1<b then
   match eE S (getNode S (getNode S h).1.right).1.left,eE S (getNode S (getNode S h).1.right).1.right with
   | some c,some d=>
    if d<c then
     match rightM S (getNode S h).1.right with
     | none=>none
     | some (x,S1)=>match fu S1 (getNode S h).1 h (getNode S h).1.left x with
      | none=>none
      | some S2=>leftM S2 h
    else leftM S h
   | _,_=>none
  else some (h,S)
 | _,_=>none
def Lf.chk(o:Option (Nat×St)):Option (Nat×St):=
 match o with
 | none=>none
 | some (x,S)=>if x<2^64 then some (x,S) else none
theorem lM{o:Option (Nat×St)}(h:chk o=some (x,S)):o=some (x,S)/\x<2^64:=by
 unfold chk at h;grind
theorem nU(h:x<2^64):chk (some (x,S))=some (x,S):=by
 unfold chk;grind
def Lf.joinB(n:Nd)(m:Nat):Nat->St->Nat->Nat->Option (Nat×St)
 | 0,S,l,r=>(fu S n m l r).map fun S'=>(m,S')
 | f+1,S,l,r=>
  match eE S l,eE S r with
  | some a,some b=>
   if b+1<a then
    match joinB n m f S (getNode S l).1.right r with
    | none=>none
    | some (x,S1)=>
     match fu S1 (getNode S l).1 l (getNode S l).1.left x with
     | none=>none
     | some S2=>chk (balM S2 l)
   else if a+1<b then
    match joinB n m f S l (getNode S r).1.left with
    | none=>none
    | some (x,S1)=>
     match fu S1 (getNode S r).1 r x (getNode S r).1.right with
     | none=>none
     | some S2=>chk (balM S2 r)
   else(fu S n m l r).map fun S'=>(m,S')
  | _,_=>none
theorem qY(n:Nd)(m:Nat)(S:St)(l r:Nat):joinB n m 0 S l r=(fu S n m l r).map fun S'=>(m,S'):=rfl
theorem qX(n:Nd)(m f:Nat)(S:St)(l r:Nat):joinB n m (f+1) S l r=
 match eE S l,eE S r with
 | some a,some b=>
  if b+1<a then
   match joinB n m f S (getNode S l).1.right r with
   | none=>none
   | some (x,S1)=>
    match fu S1 (getNode S l).1 l (getNode S l).1.left x with
    | none=>none
    | some S2=>chk (balM S2 l)
  else if a+1<b then
   match joinB n m f S l (getNode S r).1.left with
   | none=>none
   | some (x,S1)=>
    match fu S1 (getNode S r).1 r x (getNode S r).1.right with
    | none=>none
    | some S2=>chk (balM S2 r)
  else(fu S n m l r).map fun S'=>(m,S')
 | _,_=>none:=rfl
def Lf.avlJ(S:St)(l m r:Nat):Option ((Nat×Nat)×St):=
 if m=0\/isT S l=false\/isT S m=false\/isT S r=false then none
 else(joinB (getNode S m).1 m 100 S l r).map fun x=>((x.1,0),x.2)
structure It where
 h:Nat
 kh:Nat
 vh:Nat
 k:List UInt8
 v:List UInt8
inductive Tr where
 | nil:Tr
 | node (l:Tr) (d:It) (m:Nat) (r:Tr):Tr
namespace Tr
variable{S:St}{o:Nat->Nat}
def root:Tr->Nat
 | nil=>0
 | node _ d _ _=>d.h
def mark:Tr->Nat
 | nil=>0
 | node _ _ m _=>m
def its:Tr->List It
 | nil=>[]
 | node l d _ r=>l.its++d::r.its
def hs(t:Tr):List Nat:=t.its.map (·.h)
def nd(l:Tr)(d:It)(m:Nat)(r:Tr):Nd:=⟨d.kh,d.vh,l.root,r.root,m,(node l d m r).its.length⟩
def At(S:St):Tr->Prop
 | nil=>True
 | node l d m r=>reco S d.h=some (eM (nd l d m r))/\At S l/\At S r
def mk(l:Tr)(d:It)(r:Tr):Tr:=node l d (max l.mark r.mark+1) r
theorem dQ(l:Tr)(d:It)(r:Tr):(mk l d r).its=l.its++d::r.its:=rfl
theorem eY(l:Tr)(d:It)(m:Nat)(r:Tr):(node l d m r).hs=l.hs++d.h::r.hs:=by
 show (l.its++d::r.its).map (·.h)=_
 simp[hs]
theorem At.frame {S S':St}:∀{t:Tr},At S t->(∀h∈t.hs,reco S' h=reco S h)->At S' t
 | nil,_,_=>trivial
 | node l d m r,⟨h1,h2,h3⟩,hf=>by
  rw[eY] at hf;refine⟨(hf d.h (by simp)).trans h1,h2.frame fun h hm=>hf h (by simp[hm]),h3.frame fun h hm=>hf h (by simp[hm])⟩
theorem At.getNode(hf:Fw S o){l:Tr}{d:It}{m:Nat}{r:Tr}(h:At S (node l d m r)):Lf.getNode S d.h=(nd l d m r,0):=gw hf h.1
theorem At.root_lt(hf:Fw S o):∀{t:Tr},At S t->t.root<2^64
 | nil,_=>by unfold root;decide
 | node _ _ _ _,h=>(fL hf h.1).2.1
theorem At.mark_eq(hf:Fw S o):∀{t:Tr},At S t->mU S t.root=t.mark/\sj S t.root=t.its.length
 | nil,_=>by
  show (Lf.getNode S 0).1.mark=0/\(Lf.getNode S 0).1.size=0
  rw[Bc];exact⟨rfl,rfl⟩
 | node l d m r,h=>by
  show (Lf.getNode S d.h).1.mark=m/\(Lf.getNode S d.h).1.size=_
  rw[h.getNode hf];exact⟨rfl,rfl⟩
theorem At.isT {S:St}{o:Nat->Nat}(hf:Fw S o):∀{t:Tr},At S t->Lf.isT S t.root=true
 | nil,_=>rfl
 | node l d m r,h=>by
  show Lf.isT S d.h=true
  unfold Lf.isT;rw[h.getNode hf];simp
theorem oI{x:Nat}(h:x<2^62):num x=some x:=by
 unfold num;grind
theorem At.height(hf:Fw S o){t:Tr}(h:At S t)(hm:t.mark<1000000):eE S t.root=some t.mark:=by
 unfold eE;rw[(h.mark_eq hf).1];exact oI (by omega)
theorem At.size(hf:Fw S o){t:Tr}(h:At S t)(hm:t.its.length<1000000):fY S t.root=some t.its.length:=by
 unfold fY;rw[(h.mark_eq hf).2];exact oI (by omega)
theorem jZ(hf:Fw S o){l r:Tr}{d:It}{n n0:Nd}(hl:At S l)(hr:At S r)(hd:reco S d.h=some (eM n0))(hk0:n0.key=d.kh)(hv0:n0.val=d.vh)(hk:n.key=d.kh)(hv:n.val=d.vh)
 (hnl:d.h∉l.hs) (hnr:d.h∉r.hs) (ml:l.mark<100000) (mr:r.mark<100000) (cl:l.its.length<100000) (cr:r.its.length<100000):
 ∃S',fu S n d.h l.root r.root=some S'/\Fw S' o/\At S' (mk l d r)/\(∀h',h'≠d.h->reco S' h'=reco S h')/\ej S S' 0 0:=by
 have hw:=(fL hf hd).2.2.2;have ai:d.kh<2^64:=by rw[<-hk0];exact hw _ (by simp[eM])
 have ar:d.vh<2^64:=by rw[<-hv0];exact hw _ (by simp[eM])
 have ap:ji (nd l d (max l.mark r.mark+1) r):=by
  have:(node l d (max l.mark r.mark+1) r).its.length=l.its.length+(r.its.length+1):=by simp[its]
  refine⟨ai,ar,hl.root_lt hf,hr.root_lt hf,?_,?_⟩
  ·show max l.mark r.mark+1<_;omega
  ·show (node l d (max l.mark r.mark+1) r).its.length<_;omega
 obtain⟨S',e,ad,an,ho,hg⟩:=ww hf hd ap;refine⟨S',?_,ad,?_,ho,hg⟩
 ·unfold fu;rw[hl.height hf (by omega),hr.height hf (by omega),hl.size hf (by omega),hr.size hf (by omega)];grind [mark,max,nd,its]
 ·exact⟨an,hl.frame fun h hm=>ho h fun e=>hnl (e▸hm),hr.frame fun h hm=>ho h fun e=>hnr (e▸hm)⟩
def Sm(t:Tr):Prop:=t.mark<50000/\t.its.length<10000
theorem rq(hf:Fw S o){l a b:Tr}{d e:It}{m m':Nat}(h:At S (node l d m (node a e m' b)))(hd:(node l d m (node a e m' b)).hs.Nodup)(sl:Sm l)(sa:Sm a)(sb:Sm b):
 ∃S',leftM S d.h=some (e.h,S')/\Fw S' o/\At S' (mk (mk l d a) e b)/\(∀h',h'≠d.h->h'≠e.h->reco S' h'=reco S h')/\ej S S' 0 0:=by
 obtain⟨h1,h2,h3⟩:=h;have g1:=gw hf h1;have g2:=gw hf h3.1;simp only[eY,aC,aF,ax,aj,not_or] at hd;obtain⟨a6,⟨ad,a7,ar,au⟩,ai⟩:=hd;have nl:d.h∉l.hs:=fun hm=>ai _ hm _ (ab rfl) rfl;have na:d.h∉a.hs:=ad.1;have an:d.h≠e.h:=ad.2.1;have a0:d.h∉b.hs:=ad.2.2;have a5:e.h∉l.hs:=fun hm=>ai _ hm _ (ae (ae (ab rfl))) rfl;have a3:e.h∉a.hs:=fun hm=>au _ hm _ (ab rfl) rfl;have a4:e.h∉b.hs:=ar.1;obtain⟨S1,e1,f1,a1,o1,w1⟩:=jZ hf (n:=nd l d m (node a e m' b)) h2 h3.2.1 h1 rfl rfl rfl rfl nl na (by have:=sl.1;omega) (by have:=sa.1;omega) (by have:=sl.2;omega) (by have:=sa.2;omega);have ap:At S1 b:=h3.2.2.frame fun h hm=>o1 h fun e=>a0 (e▸hm);obtain⟨S2,e2,f2,a2,o2,w2⟩:=jZ f1 (n:=nd a e m' b) (d:=e) a1 ap ((o1 _ fun e=>an e.symm).trans h3.1) rfl rfl rfl rfl
  (by rw[show (mk l d a).hs=l.hs++d.h::a.hs from eY ..];simp only[ax,aj,not_or];exact⟨a5,fun e=>an e.symm,a3⟩) a4
  (by show max l.mark a.mark+1<_;have:=sl.1;have:=sa.1;omega) (by have:=sb.1;omega) (by rw[dQ];simp;have:=sl.2;have:=sa.2;omega) (by have:=sb.2;omega)
 refine⟨S2,?_,f2,a2,fun h' q1 q2=>(o2 h' q2).trans (o1 h' q1),w1.trans w2⟩
 grind [leftM,nd,root,mk]
theorem sf(hf:Fw S o){a b r:Tr}{d e:It}{m m':Nat}(h:At S (node (node a e m' b) d m r))(hd:(node (node a e m' b) d m r).hs.Nodup)(sa:Sm a)(sb:Sm b)(sr:Sm r):
 ∃S',rightM S d.h=some (e.h,S')/\Fw S' o/\At S' (mk a e (mk b d r))/\(∀h',h'≠d.h->h'≠e.h->reco S' h'=reco S h')/\ej S S' 0 0:=by
 obtain⟨h1,h2,h3⟩:=h;have g1:=gw hf h1;have g2:=gw hf h2.1;simp only[eY,aC,aF,ax,aj] at hd;obtain⟨⟨a5,⟨ap,a6⟩,ar⟩,⟨au,a7⟩,ad⟩:=hd;have nr:d.h∉r.hs:=au;have nb:d.h∉b.hs:=fun hm=>ad _ (ae (ae hm)) _ (ab rfl) rfl;have na:d.h∉a.hs:=fun hm=>ad _ (ab hm) _ (ab rfl) rfl;have ai:d.h≠e.h:=fun hm=>ad _ (ae (ab hm)) _ (ab rfl) rfl;have a0:e.h∉a.hs:=fun hm=>ar _ hm _ (ab rfl) rfl;have a3:e.h∉b.hs:=ap;have a4:e.h∉r.hs:=fun hm=>ad _ (ae (ab rfl)) _ (ae hm) rfl;obtain⟨S1,e1,f1,a1,o1,w1⟩:=jZ hf (n:=nd (node a e m' b) d m r) (d:=d) h2.2.2 h3 h1 rfl rfl rfl rfl nb nr (by have:=sb.1;omega) (by have:=sr.1;omega) (by have:=sb.2;omega) (by have:=sr.2;omega);have an:At S1 a:=h2.2.1.frame fun h hm=>o1 h fun e=>na (e▸hm);obtain⟨S2,e2,f2,a2,o2,w2⟩:=jZ f1 (n:=nd a e m' b) (d:=e) an a1 ((o1 _ fun e=>ai e.symm).trans h2.1) rfl rfl rfl rfl a0
  (by rw[show (mk b d r).hs=b.hs++d.h::r.hs from eY ..];simp only[ax,aj,not_or];exact⟨a3,fun e=>ai e.symm,a4⟩)
  (by have:=sa.1;omega) (by show max b.mark r.mark+1<_;have:=sb.1;have:=sr.1;omega) (by have:=sa.2;omega) (by rw[dQ];simp;have:=sb.2;have:=sr.2;omega)
 refine⟨S2,?_,f2,a2,fun h' q1 q2=>(o2 h' q2).trans (o1 h' q1),w1.trans w2⟩
 grind [rightM,nd,root,mk]
def eZ:Tr->Prop
 | nil=>True
 | node l _ m r=>eZ l/\eZ r/\m=max l.mark r.mark+1/\l.mark<=r.mark+1/\r.mark<=l.mark+1
theorem eZ.mark_le:∀{t:Tr},eZ t->t.mark<=t.its.length
 | nil,_=>Nat.le_refl _
 | node l d m r,⟨h1,h2,h3,_,_⟩=>by
  have:=h1.mark_le;have:=h2.mark_le;show m<=(l.its++d::r.its).length
  simp only[ah,ag];omega
theorem eZ.sm{t:Tr}(h:eZ t)(hl:t.its.length<10000):Sm t:=⟨by have:=h.mark_le;omega,hl⟩
theorem eZ.mk{l r:Tr}(d:It)(hl:eZ l)(hr:eZ r)(h1:l.mark<=r.mark+1)(h2:r.mark<=l.mark+1):eZ (Tr.mk l d r):=⟨hl,hr,rfl,h1,h2⟩
theorem ey(l:Tr)(d:It)(r:Tr):(mk l d r).mark=max l.mark r.mark+1:=rfl
theorem eZ.pos {t:Tr}(h:eZ t)(hm:0<t.mark):∃l d r,t=Tr.mk l d r/\eZ l/\eZ r/\l.mark<=r.mark+1/\r.mark<=l.mark+1:=by
 cases t with
 | nil=>exact absurd hm (by simp[mark])
 | node l d m r=>
  obtain⟨h1,h2,h3,h4,h5⟩:=h;exact⟨l,d,r,by unfold Tr.mk;rw[h3],h1,h2,h4,h5⟩
structure lF (S S':St) (o:Nat->Nat) (hs:List Nat) (t:Tr):Prop where
 fit:Fw S' o
 at':At S' t
 other:∀h',h'∉hs->reco S' h'=reco S h'
 grew:ej S S' 0 0
theorem qFcac{P:Prop}(h:P:=by
 rw[show (mk a e b).root=e.h from rfl,g2];simp only[nd];rw[k3,k4];simp only;rw[if_neg c2,e1]
 rfl):P:=h
theorem qFcaa{P:Prop}(h:P:=by
 ·intro z1 z2;simp only[ey] at z1 z2;omega):P:=h
theorem tJ(hf:Fw S o){l r:Tr}{d:It}(h:At S (mk l d r))(hd:(mk l d r).hs.Nodup)(bl:eZ l)(br:eZ r)(hc:(mk l d r).its.length<10000)(q1:l.mark<=r.mark+2)(q2:r.mark<=l.mark+2):
 ∃t S',balM S d.h=some (t.root,S')/\lF S S' o (mk l d r).hs t/\eZ t/\t.its=(mk l d r).its/\t.mark<=max l.mark r.mark+1/\max l.mark r.mark<=t.mark/\(l.mark<=r.mark+1->r.mark<=l.mark+1->t.mark=max l.mark r.mark+1):=by
 have an:l.its.length<10000/\r.its.length<10000:=by rw[dQ] at hc;grind
 have sl:=bl.sm an.1;have sr:=br.sm an.2;have g1:=gw hf h.1;have k1:=h.2.1.height hf (by have:=sl.1;omega);have k2:=h.2.2.height hf (by have:=sr.1;omega)
 by_cases c1:r.mark+1<l.mark
 ·obtain⟨a,e,b,rfl,ba,bb,a4,a5⟩:=bl.pos (by omega);rw[ey] at c1 q1 q2;have ad:a.its.length<10000/\b.its.length<10000:=by rw[dQ] at an;grind
  have sa:=ba.sm ad.1;have sb:=bb.sm ad.2;have hl:=h.2.1;have g2:=gw hf hl.1;have k3:=hl.2.1.height hf (by have:=sa.1;omega);have k4:=hl.2.2.height hf (by have:=sb.1;omega);have a8:d.h∈(mk (mk a e b) d r).hs:=by grind [mk,hs,eY]
  have a9:e.h∈(mk (mk a e b) d r).hs:=by grind [mk,hs,eY]
  by_cases c2:a.mark<b.mark
  ·obtain⟨b1,x,b2,rfl,ap,ai,bj,bk⟩:=bb.pos (by omega);rw[ey] at c1 c2 a4 a5 q1 q2;have ar:b1.its.length<10000/\b2.its.length<10000:=by have:=ad.2;rw[dQ] at this;grind
   have s2:=ai.sm ar.2;have b0:x.h∈(mk (mk a e (mk b1 x b2)) d r).hs:=by
    grind [mk,hs,eY]
   have bt:(mk a e (mk b1 x b2)).hs.Nodup:=by
    grind [mk,hs,eY,List.nodup_append]
   obtain⟨S1,e1,f1,a1,o1,w1⟩:=rq hf hl bt sa (ap.sm ar.1) s2;have bo:d.h∉(mk a e (mk b1 x b2)).hs:=by
    grind [mk,hs,eY,List.nodup_append,List.mem_cons_self]
   have bv:(mk (mk a e b1) x b2).hs=(mk a e (mk b1 x b2)).hs:=by unfold hs;simp[dQ]
   have bq:d.h∉r.hs:=by
    grind [mk,hs,eY,List.nodup_cons,List.nodup_append]
   have bf:∀y,y∈(mk a e (mk b1 x b2)).hs->y≠d.h:=fun y hy e=>bo (e▸hy);have au:e.h∈(mk a e (mk b1 x b2)).hs:=by grind [mk,hs,eY]
   have a0:x.h∈(mk a e (mk b1 x b2)).hs:=by grind [mk,hs,eY]
   have bd:∀y∈r.hs,y∉(mk a e (mk b1 x b2)).hs:=by
    grind [mk,hs,eY,List.nodup_append,List.mem_cons_of_mem]
   have bu:At S1 r:=h.2.2.frame fun y hy=>o1 y (fun e=>bd y hy (e▸au)) (fun e=>bd y hy (e▸a0));obtain⟨S2,e2,f2,a2,o2,w2⟩:=jZ f1 (n:=nd (mk a e (mk b1 x b2)) d (max (mk a e (mk b1 x b2)).mark r.mark+1) r) (d:=d) a1 bu ((o1 _ (fun e=>bf _ au e.symm) (fun e=>bf _ a0 e.symm)).trans h.1) rfl rfl rfl rfl
    (by grind) bq (by rw[ey,ey];have:=sa.1;omega) (by have:=sr.1;omega)
    (by grind [mk,dQ]) (by omega)
   have a7:Sm (mk a e b1):=⟨by rw[ey];have:=(ba.mark_le);omega,by have:=an.1;simp[dQ] at this⊢;omega⟩;have a6:(mk (mk (mk a e b1) x b2) d r).hs.Nodup:=by
    grind [mk,hs,eY]
   obtain⟨S3,e3,f3,a3,o3,w3⟩:=sf f2 a2 a6 a7 s2 sr;refine⟨mk (mk a e b1) x (mk b2 d r),S3,?_,⟨f3,a3,?_,(w1.trans w2).trans w3⟩,?_,?_,?_,?_,?_⟩
   ·unfold balM;rw[g1];simp only[nd];rw[k1,k2];simp only;rw[if_pos (by rw[ey,ey];omega)];rw[show (mk a e (mk b1 x b2)).root=e.h from rfl,g2];simp only[nd];rw[k3,k4];simp only;rw[if_pos (by rw[ey];omega),e1]
    grind [mk,root,nd]
   ·grind
   ·refine eZ.mk _ (eZ.mk _ ba ap ?_ ?_) (eZ.mk _ ai br ?_ ?_) ?_ ?_<;>(try simp only[ey])<;>omega
   ·simp[dQ]
   ·simp only[ey];omega
   ·simp only[ey];omega
   exact qFcaa
  ·obtain⟨S1,e1,f1,a1,o1,w1⟩:=sf hf h hd sa sb sr;refine⟨mk a e (mk b d r),S1,?_,⟨f1,a1,fun y hy=>o1 y (fun e=>hy (e▸a8)) (fun e=>hy (e▸a9)),w1⟩,?_,?_,?_,?_,?_⟩
   ·unfold balM;rw[g1];simp only[nd];rw[k1,k2];simp only;rw[if_pos (by rw[ey];omega)];exact qFcac
   ·refine eZ.mk _ ba (eZ.mk _ bb br ?_ ?_) ?_ ?_<;>(try simp only[ey])<;>omega
   ·simp[dQ]
   ·simp only[ey];omega
   ·simp only[ey];omega
   exact qFcaa
 ·by_cases c1':l.mark+1<r.mark
  ·obtain⟨a,e,b,rfl,ba,bb,a4,a5⟩:=br.pos (by omega);rw[ey] at c1 c1' q1 q2;have ad:a.its.length<10000/\b.its.length<10000:=by rw[dQ] at an;grind
   have sa:=ba.sm ad.1;have sb:=bb.sm ad.2;have hr:=h.2.2;have g2:=gw hf hr.1;have k3:=hr.2.1.height hf (by have:=sa.1;omega);have k4:=hr.2.2.height hf (by have:=sb.1;omega);have a8:d.h∈(mk l d (mk a e b)).hs:=by grind [mk,hs,eY]
   have a9:e.h∈(mk l d (mk a e b)).hs:=by grind [mk,hs,eY]
   by_cases c2:b.mark<a.mark
   ·obtain⟨b1,x,b2,rfl,ap,ai,bj,bk⟩:=ba.pos (by omega);rw[ey] at c1 c1' c2 a4 a5 q1 q2;have ar:b1.its.length<10000/\b2.its.length<10000:=by have:=ad.1;rw[dQ] at this;grind
    have s1:=ap.sm ar.1;have bx:(mk l d (mk (mk b1 x b2) e b)).hs=l.hs++d.h::(mk (mk b1 x b2) e b).hs:=eY ..;have b4:(mk (mk b1 x b2) e b).hs=(mk b1 x b2).hs++e.h::b.hs:=eY ..;have b9:(mk b1 x b2).hs=b1.hs++x.h::b2.hs:=eY ..;have a':=hd;rw[bx] at a';obtain⟨n1,n2,n3⟩:=aC.1 a';obtain⟨n4,n5⟩:=aF.1 n2;have b0:x.h∈(mk l d (mk (mk b1 x b2) e b)).hs:=by grind
    have au:e.h∈(mk (mk b1 x b2) e b).hs:=by grind
    have a0:x.h∈(mk (mk b1 x b2) e b).hs:=by grind
    obtain⟨S1,e1,f1,a1,o1,w1⟩:=sf hf hr n5 s1 (ai.sm ar.2) sb;have bv:(mk b1 x (mk b2 e b)).hs=(mk (mk b1 x b2) e b).hs:=by unfold hs;simp[dQ]
    have bm:d.h∉l.hs:=fun hm=>n3 _ hm _ (am ..) rfl;have bc:∀y∈l.hs,y∉(mk (mk b1 x b2) e b).hs:=fun y hy hm=>n3 _ hy _ (ak _ hm) rfl;have bs:At S1 l:=h.2.1.frame fun y hy=>o1 y (fun e=>bc y hy (e▸au)) (fun e=>bc y hy (e▸a0));obtain⟨S2,e2,f2,a2,o2,w2⟩:=jZ f1 (n:=nd l d (max l.mark (mk (mk b1 x b2) e b).mark+1) (mk (mk b1 x b2) e b)) (d:=d) bs a1 ((o1 d.h (fun q=>n4 (q.symm▸au)) (fun q=>n4 (q.symm▸a0))).trans h.1) rfl rfl rfl rfl
     bm (by grind) (by have:=sl.1;omega) (by rw[ey,ey];have:=sb.1;omega) (by omega)
     (by grind [mk,dQ])
    have a7:Sm (mk b2 e b):=⟨by rw[ey];have:=ai.mark_le;omega,by have:=an.2;simp[dQ] at this⊢;omega⟩;have a6:(mk l d (mk b1 x (mk b2 e b))).hs.Nodup:=by
     grind [mk,hs,eY]
    obtain⟨S3,e3,f3,a3,o3,w3⟩:=rq f2 a2 a6 sl s1 a7;refine⟨mk (mk l d b1) x (mk b2 e b),S3,?_,⟨f3,a3,?_,(w1.trans w2).trans w3⟩,?_,?_,?_,?_,?_⟩
    ·unfold balM;rw[g1];simp only[nd];rw[k1,k2];simp only;rw[if_neg (by rw[ey,ey];omega),if_pos (by rw[ey,ey];omega)];rw[show (mk (mk b1 x b2) e b).root=e.h from rfl,g2];simp only[nd];rw[k3,k4];simp only;rw[if_pos (by rw[ey];omega),e1]
     grind [mk,root,nd]
    ·grind
    ·refine eZ.mk _ (eZ.mk _ bl ap ?_ ?_) (eZ.mk _ ai bb ?_ ?_) ?_ ?_<;>(try simp only[ey])<;>omega
    ·simp[dQ]
    ·simp only[ey];omega
    ·simp only[ey];omega
    exact qFcaa
   ·obtain⟨S1,e1,f1,a1,o1,w1⟩:=rq hf h hd sl sa sb;refine⟨mk (mk l d a) e b,S1,?_,⟨f1,a1,fun y hy=>o1 y (fun e=>hy (e▸a8)) (fun e=>hy (e▸a9)),w1⟩,?_,?_,?_,?_,?_⟩
    ·unfold balM;rw[g1];simp only[nd];rw[k1,k2];simp only;rw[if_neg (by rw[ey];omega),if_pos (by rw[ey];omega)];exact qFcac
    ·refine eZ.mk _ (eZ.mk _ bl ba ?_ ?_) bb ?_ ?_<;>(try simp only[ey])<;>omega
    ·simp[dQ]
    ·simp only[ey];omega
    ·simp only[ey];omega
    exact qFcaa
  ·refine⟨mk l d r,S,?_,⟨hf,h,fun _ _=>rfl,ej.refl S⟩,eZ.mk _ bl br (by omega) (by omega),rfl,by rw[ey];omega,by rw[ey];omega,fun _ _=>rfl⟩;unfold balM;rw[g1];simp only[nd];rw[k1,k2];simp only;rw[if_neg c1,if_neg c1']
   rfl
end Tr
end
section
open Go.RowKit Tryz Go.BigFrame Go.Maps Go.WideMaps Lf
open Go.Shelf
variable{S:St}{Y:Nat->Prop}{v:Value}{w:World}
attribute [local go_sem] Oper.semAt_some
theorem eR.own{w w':World}{ps pa pm ph pt:Nat}(h:eR w ps pa pm ph pt v S Y)(hs:w.heap.size<=w'.heap.size)(hc:∀(k:Nat) (o:Obj),w.heap[k]?=some o->(o.isCells=true\/k=pm)->w'.heap[k]?=some o):eR w' ps pa pm ph pt v S Y:=by
 obtain⟨ad,hb⟩:=h.heap.slab;have c1:∀{k:Nat} {cs:Array Value} {t:TypeId} {fr:Nat×Nat},w.heap[k]?=some (.cells cs t fr)->w'.heap[k]?=w.heap[k]?:=fun e=>(hc _ _ e (ab rfl)).trans e.symm;have ht:gA w':=fun j hj=>by
  have:=h.heap.tab j hj;have hx:∃cs t fr,w.heap[fy]?=some (.cells cs t fr):=by
   unfold World.cell? at this
   split at this
   ·rename_i heq;exact⟨_,_,_,heq⟩
   ·cases this
  obtain⟨cs,t,fr,hx⟩:=hx;rw[<-this];exact World.cell?_of_block (c1 hx)
 refine⟨(c1 h.hd).trans h.hd,⟨⟨ad,hb.of_keep hs fun k hk hkk=>?_⟩,(c1 h.heap.hp).trans h.heap.hp,h.heap.yh,ht,h.heap.yt⟩,h.tab.of_keep (c1 h.tab.hd) fun b e=>?_,h.off⟩
 ·rcases hkk with rfl | rfl | ⟨p,hp,rfl⟩
  ·exact c1 hb.hd
  ·obtain⟨es,ck,hm⟩:=hb.map_block;exact(hc _ _ hm (ae rfl)).trans hm.symm
  ·obtain⟨l,hl⟩:=jP.1 hp;exact c1 (hb.pg _ hl)
 ·rcases h.tab.row.2 with⟨e0,_⟩ | ⟨g,ai,an,e0,_,hg,_⟩
  ·rw[e0] at e
   cases e
  ·rw[e0] at e
   injection e with e
   have e:g=b:=e;subst e;exact c1 hg
theorem eR.full{ps pa pm ph pt:Nat}(h:eR w ps pa pm ph pt v S Y):eR w ps pa pm ph pt v S (fun k=>Y k\/(k≠pm/\∃o,w.heap[k]?=some o/\o.isCells=false)):=by
 obtain⟨ai,hb⟩:=h.heap.slab;have hn:∀{k:Nat} {cs:Array Value} {t:TypeId} {fr:Nat×Nat},w.heap[k]?=some (.cells cs t fr)->¬∃o,w.heap[k]?=some o/\o.isCells=false:=fun e ⟨o,h1,h2⟩=>by
  rw[e] at h1
  injection h1 with h1
  rw[<-h1] at h2
  cases h2
 have hlt:∀{k:Nat},(∃o,w.heap[k]?=some o/\o.isCells=false)->k<w.heap.size:=fun⟨o,h1,_⟩=>(gl h1);have ad:∀k,YS (fun k=>Y k\/(k≠pm/\∃o,w.heap[k]?=some o/\o.isCells=false)) ps ph pt v k->YS Y ps ph pt v k\/(k≠pm/\∃o,w.heap[k]?=some o/\o.isCells=false):=fun k hk=>by
  rcases hk with (hk | hk) | hk
  ·exact ab (ab hk)
  ·exact ae hk
  ·exact ab (ae hk)
 refine⟨h.hd,⟨⟨ai,hb.wf,hb.hd,hb.map,hb.pg,hb.inj,fun hk=>?_,fun hk=>?_,fun p hp hk=>?_,fun k hk=>?_⟩,h.heap.hp,ae (ae (ab rfl)),h.heap.tab,ae (ae (ae (ab rfl)))⟩,h.tab,fun k hk=>?_⟩
 ·rcases ad _ hk with hk | ⟨_,hk⟩
  ·exact hb.ya hk
  ·exact hn hb.hd hk
 ·rcases ad _ hk with hk | ⟨hk,_⟩
  ·exact hb.ym hk
  ·exact hk rfl
 ·rcases ad _ hk with hk | ⟨_,hk⟩
  ·exact hb.yp p hp hk
  ·obtain⟨l,hl⟩:=jP.1 hp;exact hn (hb.pg _ hl) hk
 ·rcases ad _ hk with hk | ⟨_,hk⟩
  ·exact hb.yl k hk
  ·exact hlt hk
 ·rcases hk with (hk | ⟨_,hk⟩) | hk
  ·exact h.off k (ab hk)
  ·refine⟨?_,fun e=>?_⟩
   ·rintro rfl;exact hn h.tab.hd hk
   ·rcases h.tab.row.2 with⟨e0,_⟩ | ⟨g,an,ap,e0,_,hg,_⟩
    ·rw[e0] at e
     cases e
    ·rw[e0] at e
     injection e with e
     have e:g=k:=e;subst e;exact hn hg hk
  ·exact h.off k (ae hk)
theorem eR.pm_lt{ps pa pm ph pt:Nat}(h:eR w ps pa pm ph pt v S Y):pm<w.heap.size:=by
 obtain⟨ad,hb⟩:=h.heap.slab;exact hb.map.lt
theorem Ex{ps pa pm ph pt:Nat}(h:eR w ps pa pm ph pt v S Y)(hi:Fv S)(hh k x:Nat)(hl:hh<2^64)(hk:k<=2^62)(hx:x<2^64):
 Ct 167 #[PV ps,Xu hh,Xi k,Xu x] w fun e w'=>e=.returned (Xi ((S.put hh k x).1:Nat))/\eR w' ps pa pm ph pt v (S.put hh k x).2 Y/\Fo Y w w':=by
 have ad:=sJ ⟨_,_,_,_,_,h⟩ hi hh k hl hk;have h3:=hi.place_le hh k;obtain⟨R,hR⟩:=Ii (S.put hh k x);rw[hR];rw[St.put_place] at hR
 rcases S.place_cases hh k with⟨p,h1⟩ | ⟨er,h1⟩
 ·rw[h1] at ad h3 hR;simp only at ad h3 hR;obtain⟨_,_,c2,_,_⟩:=h.cells;have ap:=h.heap.write p x (by omega) hx;have HG:=kq4 ad hR ap h;clear ad hR h hi h1 ap;go_enter func167,ntmps167;go_wp2_with fail;refine Jc HG.a ?_;go_wp2_with fail;refine HG.c.mono ?_;rintro e w1 ⟨rfl,ha,ai⟩;have HA:=kq2 (HG.d.arena ha ai) (ai.mono fun _=>YS.self);clear ha ai;go_wp2_with fail;go_ret;obtain rfl:=HG.b;exact⟨rfl,HA.a,HA.b⟩
 ·rw[h1] at ad hR;simp only at ad hR;have ar:(((er+1:Nat):Int) !=0)=true:=by simp;omega
  obtain⟨g1,an⟩:=Ii (er+1);rw[an] at ad hR ar;have HG:=kq3 ad hR h;clear ad hR h hi h1 an;go_enter func167,ntmps167;go_wp2_with fail;refine Jc HG.a ?_;go_wp2_with fail;go_ret;obtain rfl:=HG.b;exact⟨rfl,HG.c,Fo.refl _ _⟩
theorem wC(h:Nat)(x:Nat):∀(l:List Nat) (S:St) (k:Nat),FC S h k (l++[x])=((FC S h k l).put h (k+l.length) x).2
 | [],S,k=>rfl
 | y::l,S,k=>by
  show FC (S.put h k y).2 h (k+1) (l++[x])=_
  rw[wC h x l];show ((FC (S.put h k y).2 h (k+1) l).put h (k+1+l.length) x).2=((FC (S.put h k y).2 h (k+1) l).put h (k+(l.length+1)) x).2
  rw[show k+1+l.length=k+(l.length+1) by omega]
def mf(S:St)(h:Nat)(l:List (Nat×Nat)):St:=l.foldl (fun S x=>(S.put h x.1 x.2).2) S
theorem rU(S:St)(h:Nat)(l:List (Nat×Nat))(x:Nat×Nat):mf S h (l++[x])=((mf S h l).put h x.1 x.2).2:=by unfold mf;rw[List.foldl_append];rfl
theorem wy(S:St)(h:Nat)(f:Nat->Nat):∀N,mf S h (gN f N)=FC S h 0 ((List.range N).map f)
 | 0=>rfl
 | N+1=>by
  rw[sg,rU,wy S h f N,du,aP];show _=FC S h 0 ((List.range N).map f++[f N])
  rw[wC];simp
structure yy (w1 W:World) (ps pa pm ph pt:Nat) (v:Value) (S:St) (Y:Nat->Prop) (hh:Nat) (pre:List lH):Prop where
 st:eR W ps pa pm ph pt v (mf S hh (kO pre)) Y
 inv:Fv (mf S hh (kO pre))
 keep:Fo Y w1 W
theorem qFcab{P:Prop}(h:P:=by
 have HK:=If hK;clear hK;simp only[n9]
 gi_wp2
 exact HK.out _ _ (KeepsFrom.refl _ _) (ir.refl _ _) hI rfl):P:=h
theorem Jg{ps:Nat}(h:Ig w ps S Y)(hi:Fv S){t:Nat}{n:BN}{vk vv vc:Value}(hn:iU t n)(hk:FD w vk n.keys)(hv:FD w vv n.vals)(hc:FD w vc n.kids)(hh:Nat)(hl:hh<2^64)(hlen:S.len hh=(6*t,0))(hlt:∀x∈bnWords t n,x<2^64):
 Ct 212 #[PV ps,Xi t,Xu hh,eC vk vv vc n.size] w fun e w'=>e=.returned (Xi 0)/\Ig w' ps (FC S hh 0 (bnWords t n)) Y/\Fo Y w w':=by
 refine(callsIn_wide (n:=7)).1 ?_;have h1:1<=7:=by omega
 have bo:Fence.wide.fn 42:=trivial;have bm:Fence.wide.fn 199:=trivial;have bs:Fence.wide.fn 200:=trivial;have bq:Fence.wide.fn 167:=trivial;have a1:∀W,Below w.heap.size w W->CallsIn Fence.wide 6 prog 42 #[PV ps,Xu 0] W _:=fun W hW=>callsIn_wide.2 (fB (h.below hW) hi 0 (by omega));have ap:∀W,Below w.heap.size w W->CallsIn Fence.wide 6 prog 42 #[PV ps,Xu hh] W _:=fun W hW=>callsIn_wide.2 (fB (h.below hW) hi hh hl);rw[fU] at a1;rw[hlen] at ap;have a5:∀W,Below w.heap.size w W->CallsIn Fence.wide 6 prog 199 #[Xi t,eC vk vv vc n.size] W _:=fun W hW=>callsIn_wide.2 (pV hn (hk.below hW) (hv.below hW) (hc.below hW));have a6:∀W,Below w.heap.size w W->CallsIn Fence.wide 6 prog 200 #[Xi t,eC vk vv vc n.size] W _:=fun W hW=>callsIn_wide.2 (tS hn (hk.below hW) (hv.below hW) (hc.below hW));unfold eC at a5 a6⊢;have ht:=And.intro hn.lo hn.hi;have bu:IntKind.i64.wrap (6*(t:Int))=6*(t:Int):=az _ (by omega);have bd:((6*t:Nat):Int)=6*(t:Int):=by omega
 simp only at a1 ap;rw[bd] at ap;have a7:bnWords t n=(List.range (6*t)).map (wAt t n n.keys.length n.kids.length):=rfl;have HG:=kq8 a1 ap a5 a6 h hi hlt a7;obtain⟨Ak,ck,rfl,-⟩:=hk;obtain⟨Av,cv,rfl,-⟩:=hv;obtain⟨Ac,cc,rfl,-⟩:=hc;generalize n.keys.length=lk at*;generalize n.vals.length=lv at*;generalize n.kids.length=lc at*;generalize n.size=sz at*;clear a1 ap a5 a6 h hi hlt hn hlen a7;have B0:=(((aa w.heap.size w).alloc Ih (Xh ps)).alloc (by simp) (Xf hh)).alloc (by simp;omega) (.cells #[.slice Ak lk ck,.slice Av lv cv,.slice Ac lc cc,Xu sz] 215);have q7:=heap_alloc_new ((w.alloc (Xh ps)).alloc (Xf hh)) (.cells #[.slice Ak lk ck,.slice Av lv cv,.slice Ac lc cc,Xu sz] 215);have q6:=(((aa ((w.alloc (Xh ps)).alloc (Xf hh)).heap.size ((w.alloc (Xh ps)).alloc (Xf hh))).alloc Ih (.cells #[.slice Ak lk ck,.slice Av lv cv,.slice Ac lc cc,Xu sz] 215)).block (w.alloc (Xh ps)).heap.size (by simp)).trans (heap_alloc_new (w.alloc (Xh ps)) (Xf hh));have q4:=(((aa ((w.alloc (Xh ps)).alloc (Xf hh)).heap.size ((w.alloc (Xh ps)).alloc (Xf hh))).alloc Ih (.cells #[.slice Ak lk ck,.slice Av lv cv,.slice Ac lc cc,Xu sz] 215)).block w.heap.size (by simp;omega)).trans ((((aa (w.alloc (Xh ps)).heap.size (w.alloc (Xh ps))).alloc Ih (Xf hh)).block w.heap.size (by simp)).trans (heap_alloc_new w (Xh ps)));have z1:(w.alloc (Xh ps)).heap.size=w.heap.size+1:=by simp
 have z2:((w.alloc (Xh ps)).alloc (Xf hh)).heap.size=w.heap.size+1+1:=by simp
 have z3:(((w.alloc (Xh ps)).alloc (Xf hh)).alloc (.cells #[.slice Ak lk ck,.slice Av lv cv,.slice Ac lc cc,Xu sz] 215)).heap.size=w.heap.size+1+1+1:=by simp
 rw[z1] at q6;rw[z2] at q7;refine callsIn_of_wp_marks func212 rfl trivial ?_ rfl;simp only[ntmps212,aR,ag,aM,Nat.reduceAdd,Nat.reduceSub,aN,aO,aU,aQ,aY,aK];gi_wp2_with fail;generalize (((w.alloc (Xh ps)).alloc (Xf hh)).alloc (.cells #[.slice Ak lk ck,.slice Av lv cv,.slice Ac lc cc,Xu sz] 215))=w0 at*;clear z1 z2;refine(HG.a _ B0).mono ?_;rintro e w1 ⟨rfl,rfl⟩;have x0:(w0).cell? ⟨w.heap.size,0,none⟩=some (PV ps):=by rw[cell_of_block q4];rfl
 have y0:(w0).cell? ⟨w.heap.size+1,0,none⟩=some (Xu hh):=by rw[cell_of_block q6];rfl
 obtain⟨c0,c1,c2,c3⟩:=Fy q7;have H0:=kq4 B0 q4 q6 q7;clear B0 q4 q6 q7;gi_wp2_with fail;clear x0 y0 c0 c1 c2 c3;refine(HG.c _ H0.a).mono ?_;rintro e w1 ⟨rfl,ai⟩;have r4:=(ai.block w.heap.size (by omega)).trans H0.b;have r6:=(ai.block (w.heap.size+1) (by omega)).trans H0.c;have r7:=(ai.block (w.heap.size+1+1) (by omega)).trans H0.d;have s1:=ai.size;have x0:(w1).cell? ⟨w.heap.size,0,none⟩=some (PV ps):=by rw[cell_of_block r4];rfl
 have y0:(w1).cell? ⟨w.heap.size+1,0,none⟩=some (Xu hh):=by rw[cell_of_block r6];rfl
 obtain⟨c0,c1,c2,c3⟩:=Fy r7;have H1:=kq4 (H0.a.trans (ai.mono (by omega))) r4 r6 r7;clear ai r4 r6 r7;gi_wp2_with fail;refine(HG.b _ H1.a).mono ?_;rintro e w2 ⟨rfl,rfl⟩;gi_wp2_with fail;clear x0 y0 c0 c1 c2 c3;refine(HG.d _ H1.a).mono ?_;rintro e w3 ⟨Bx,rfl,bb,rB,rG,an⟩;have t4:=(an.block w.heap.size (by omega)).trans H1.b;have t6:=(an.block (w.heap.size+1) (by omega)).trans H1.c;have B3:=H1.a.trans (an.mono (by omega));have s3:=an.size;have bc:=(gl rG);obtain⟨f,hf⟩:=Ii (wAt t n lk lc);rw[hf] at rG HG;obtain⟨pa,pm,ph,pt,v,a3⟩:=HG.e;have au:=a3.wide B3;have bf:∀j,j<6*t->f j<2^64:=fun j hj=>HG.g _ (by rw[HG.h];exact ay.2 ⟨j,aZ.2 hj,rfl⟩);have a2:=au.yl;have bv:pm<w3.heap.size:=au.pm_lt;have H3:=kq5 au t4 t6 B3 a3;have a4:=tC (by omega) bf rB rG (fun k=>Y k\/(w.heap.size<=k/\k<w3.heap.size)) (ae ⟨by omega,bc⟩);clear au t4 t6 B3 rB rG an a3 hf bb;gi_wp2_with fail;refine wpIn_rangeFunc_ownH rfl h1 (gf:=244) (lb:=#[PV Bx]) rfl trivial (enters_of func244 (by kernel_rfl) rfl)
  a4 ir.trans (fun W l o o' h1 h2 h3 h4=>⟨by simp,fun k hk=>World.putObj_heap_other (by have:=a2 k hk;omega)⟩) (aa _ _) (fun _=>rfl)
  (fun ad W=>yy w3 W ps pa pm ph pt v S (fun k=>Y k\/(w.heap.size<=k/\k<w3.heap.size)) hh ad)
  (fun _ _ _=>False)
  (fun ad W W' row hs hg hr=>⟨hs.st.own hg.size (fun k o hk hc=>(hg.block k (gl hk) (fun e=>by
   obtain⟨r1,o',r2,r3⟩:=hr k e.symm
   rcases hc with hc | hc
   ·rw[hk] at r2
    injection r2 with r2;rw[r2,r3] at hc;cases hc
   ·omega)).trans hk),hs.inv,⟨hg.os.trans hs.keep.os,hg.tape.trans hs.keep.tape,hg.output.trans hs.keep.output,aB hs.keep.size hg.size,fun k hk=>(hg.block k (aJ (a2 k hk) hs.keep.size) (fun e=>by
   have:=(hr k e.symm).1;have:=a2 k hk;omega)).trans (hs.keep.block k hk)⟩⟩)
  (fun _ _ _ _ _ hs _ _=>hs.elim)
  ⟨H3.a,HG.f,Fo.refl _ _⟩
  (fun x a' _=>a'= { tmps:=#[PV ps,Xi t,Xu hh,.agg #[.slice Ak lk ck,.slice Av lv cv,.slice Ac lc cc,Xu sz],PV w.heap.size,undef,PV (w.heap.size+1),PV (w.heap.size+1+1),Xi 0,Xi 0,Xi 7,Xi (6*(t:Int)),Xi 0,Xi x.1.1,Xu x.1.2,.tuple #[Xi 0,Xi 7],PV ps,.tuple #[Xi 0,Xi 7],Xi 0,Xi 7,Xi 7,.bool false,undef,Xi t,.agg #[.slice Ak lk ck,.slice Av lv cv,.slice Ac lc cc,Xu sz],.bool true,.bool false,.tuple #[Xi (6*(t:Int)),Xi 0],PV ps,Xu hh,.tuple #[Xi (6*(t:Int)),Xi 0],Xi (6*(t:Int)),Xi 0,.bool false,Xi 0,.bool false,undef,.bool false,Xi (6*(t:Int)),Xi t,Xi (6*(t:Int)),.bool false,Xi t,.agg #[.slice Ak lk ck,.slice Av lv cv,.slice Ac lc cc,Xu sz],.func (.func 244) #[] #[PV Bx],Xi x.1.1,Xu x.1.2,undef,undef,undef,undef,undef],defers:=[] })
  (fun x a' _ X W' row hs hg hr=>hs)
  ?assign ?body ?done ?stop
 case assign=>
  rintro l ad ⟨⟨i,x⟩,hx⟩ W K hI hK;exact qFcab
 case body=>
  rintro l ad ⟨⟨i,x⟩,hx⟩ a' W bt _ hI rfl hlt;simp only at hx⊢;have c4:=cell_of_block (o:=0) ((hI.keep.block w.heap.size (ae ⟨Nat.le_refl _,by omega⟩)).trans H3.b);have c6:=cell_of_block (o:=0) ((hI.keep.block (w.heap.size+1) (ae ⟨by omega,by omega⟩)).trans H3.c);have c4:W.cell? ⟨w.heap.size,0,none⟩=some (PV ps):=c4;have c6:W.cell? ⟨w.heap.size+1,0,none⟩=some (Xu hh):=c6;have ba:CallsIn Fence.wide 4 prog 167 #[PV ps,Xu hh,Xi i,Xu x] W _:=callsIn_wide.2 (Ex hI.st.full hI.inv hh i x hl (by omega) hx.2);have hv:∀(hx:_),kO (ad++[(⟨(i,x),hx⟩:lH)])=kO ad++[(i,x)]:=fun hx=>by
   show (ad++[(⟨(i,x),hx⟩:lH)]).map (·.1)=_
   rw[aP]
   rfl
  have a8:=hI.inv.put hh i x;have HH:=kq4 hI @hv a8 ba;clear hI hv a8 ba a4;gi_wp2_with fail;refine(CallsIn.inRound l HH.d).mono ?_;rintro e w5 ⟨rfl,h5,k5⟩;have H5:=kq2 h5 k5;clear h5 k5 c4 c6;gi_wp2_with fail;have hk:=H5.b;have hI:=HH.a;refine⟨⟨hk.size,fun k o hk1 hk2 hk3=>(hk.block k (ae ⟨by omega,o,hk2,hk3⟩)).trans hk2⟩,⟨hk.size,fun k hk1=>hk.block k (ab hk1)⟩,?_,?_,hI.keep.trans (hk.mono fun k hk=>ab hk)⟩
  ·rw[HH.b,rU];exact H5.a.mono fun k hk=>ab hk
  ·rw[HH.b,rU];exact HH.c
 case done=>
  rintro D ys W hD hS hI hK;have ar:=hI.st;have a0:=hI.keep;rw[hS,wy,<-HG.h] at ar;have HH:=kq3 ar a0 hK;clear hI ar a0 hK hS a4;gi_wp2_with fail;refine⟨by simp,.inl ⟨_,_,rfl,run_takeDeferred HH.c,?_⟩⟩;obtain⟨ar,a0,hK⟩:=HH.out;have a9:∀(k:Nat),k≠D->(W.putObj D (.deferred none)).heap[k]?=W.heap[k]?:=fun k hk=>World.putObj_heap_other hk;have bk:eR (W.putObj D (.deferred none)) ps pa pm ph pt v (FC S hh 0 (bnWords t n)) _:=ar.own (by simp) fun k o hk hc=>(a9 k (by
   rintro rfl
   rcases hc with hc | hc
   ·rw[hK] at hk
    injection hk with hk;rw[<-hk] at hc;cases hc
   ·omega)).trans hk
  have bj:Fo Y W (W.putObj D (.deferred none)):=⟨rfl,rfl,rfl,by simp,fun k hk=>a9 k (by have:=a2 k (ab hk);omega)⟩;refine⟨Xi 0,?_,rfl,⟨pa,pm,ph,pt,v,bk.mono fun k hk=>ab hk⟩,(Fo.of_below H3.d (Ig.yl ⟨_,_,_,_,_,H3.e⟩)).trans ((a0.mono fun k hk=>ab hk).trans bj)⟩
  simp[results,f212,go_sem]
 case stop=>
  intro D c ad W _ _ hI;exact hI.elim
end
section
open Go.RowKit Tryz Go.BigFrame Go.Maps Go.WideMaps Lf
def Lf.bn0:BN:=⟨[],[],[],0⟩
theorem tR {t:Nat}(h1:2<=t)(h2:t<=16):iU t bn0:=⟨h1,h2,bY _,rfl,ab rfl⟩
theorem tQ(t:Nat):∀x∈bnWords t bn0,x<2^64:=by
 intro x hx;unfold bnWords at hx;obtain⟨j,_,rfl⟩:=ay.1 hx;unfold wAt bn0;simp only[aM,List.getD_nil];repeat (first | split | omega)
theorem zG {w:World}{ps:Nat}{S S1:St}{Y:Nat->Prop}(h:Ig w ps S Y)(hi:Fv S){t:Nat}(t1:2<=t)(t2:t<=16)(hm:iw S (6*t)){hh:Nat}(he:S.make (6*t)=((hh,0),S1))(hl:hh<2^64)(hlen:S1.len hh=(6*t,0)):
 Ct 213 #[PV ps,Xi t,eC (.slice none 0 0) (.slice none 0 0) (.slice none 0 0) 0] w fun e w'=>e=.returned (.tuple #[Xu hh,Xi 0])/\Ig w' ps (FC S1 hh 0 (bnWords t bn0)) Y/\Fo Y w w':=by
 have B0:=(aa w.heap.size w).alloc Ih (.cells #[.slice none 0 0,.slice none 0 0,.slice none 0 0,Xu 0] 215);have q0:=heap_alloc_new w (.cells #[.slice none 0 0,.slice none 0 0,.slice none 0 0,Xu 0] 215);have ar:Fv S1:=by have:=hm.2;rw[he] at this;exact this
 have ap:=fB (h.below B0) hi 0 (by omega);rw[fU] at ap;have ad:=fun W=>pV (w:=W) (tR t1 t2) (FD.nil W) (FD.nil W) (FD.nil W);have ai:=fun W Z (hW:Ig W ps S Z)=>sH hW (6*t) (by omega) hm.1;rw[he] at ai;have an:=fun W Z (hW:Ig W ps S1 Z)=>Jg hW ar (tR t1 t2) (FD.nil W) (FD.nil W) (FD.nil W) hh hl hlen (tQ t);unfold eC at ad an⊢;simp only[bn0] at ad an;have hz:=h.wide B0;have a0:IntKind.i64.wrap (6*(t:Int))=6*(t:Int):=az _ (by omega);have au:((6*t:Nat):Int)=6*(t:Int):=by omega
 simp only[au] at ai;have HG:=kq7 ap ad ai an h B0 hz;obtain⟨c0,c1,c2,c3⟩:=Fy q0;clear ap ad ai an h hi ar B0 hz hm he hlen;go_enter func213,ntmps213;go_wp2_with fail;refine Jc HG.a ?_;go_wp2_with fail;refine b8 (HG.b _) fun w1 hb1=>?_;have r1:=(hb1.block w.heap.size (by simp)).trans q0;have H1:=kq3 (HG.g.below hb1) r1 (HG.f.trans (hb1.mono (by simp)));clear hb1 r1 c0 c1 c2 c3;go_wp2_with fail;refine(HG.c _ _ H1.a).mono ?_;rintro e w2 ⟨rfl,h2,k2⟩;have r2:=(k2.block w.heap.size (ae ⟨Nat.le_refl _,by simp⟩)).trans H1.b;obtain⟨c0,c1,c2,c3⟩:=Fy r2;have H2:=kq2 h2 k2;clear h2 k2 r2;go_wp2_with fail;refine(HG.d _ _ H2.a).mono ?_;rintro e w3 ⟨rfl,h3,k3⟩;have H3:=kq2 (h3.mono (Z:=Y) fun k hk=>ab hk) ((Fo.of_below H1.c HG.e.yl).trans ((H2.b.trans k3).mono fun k hk=>ab hk));clear h3 k3;go_wp2_with fail;go_ret2;exact⟨rfl,H3.out⟩
end
section
open Go.RowKit Tryz Go.BigFrame Go.Maps Go.WideMaps Lf
open Go.Shelf
variable{D:Nat}{S:St}{W2:World}{Y:Nat->Prop}{l:List Nat}{n:BN}{ps:Nat}{v:Value}{w:World}{x:Nat}
attribute [local go_sem] Oper.semAt_some
theorem zD(h:Ig w ps S Y)(hi:Fv S)(hh:Nat)(hl:hh<2^64){b3 b5:Nat}(c3:w.cell? ⟨b3,0,none⟩=some (PV ps))(c5:w.cell? ⟨b5,0,none⟩=some (Xu hh))(k:Nat)(hk:k<=2^62)(hx:(S.get hh k).1=x):
 Ct 198 #[Xi k,PV b3,PV b5] w fun e w'=>e=.returned (Xu x)/\w=w':=by
 have hg:=sG h hi hh k hl hk;rw[hx] at hg;generalize (S.get hh k).2=er at hg;have HG:=If hg;clear hg h hi hx;go_enter func198,ntmps198;go_wp2_with fail;refine Jc HG.out ?_;go_wp2_with fail;go_ret;exact⟨rfl,rfl⟩
def hV(l:List Nat):List Value:=l.map fun x:Nat=>Value.int .u64 x
theorem uP:(prog.info? 61).map (fun i=>(i.zero,i.size,i.bytes))=some (some (Xu 0),1,8):=by kernel_rfl
abbrev FE(w:World)(B:Nat)(v:Value)(l:List Nat):Prop:=w.ownsRow B 61 1 v l.length (hV l)
theorem jF{B:Nat}(h:FE w B v l)(hl:l.length<=100000)(x:Nat)(hB:B<=w.heap.size)(ty:TypeId):
 ∃v' w',(Builtin.append_ #[59,59] ty #[v,.slice (some ⟨w.heap.size,0,none⟩) 1 1]).run prog (w.alloc (Xf x))=.ok v' w'/\FE w' B v' (l++[x])/\w.grownBy w' v.ownBlock/\(v'.ownBlock=v.ownBlock\/∃g,v'.ownBlock=some g/\w.heap.size<=g):=by
 obtain⟨i,hi,ad,ai,an⟩:=info_parts uP;obtain⟨v',w',h1,h2,h3,_,h4⟩:=run_append_own_at (P:=prog) (w:=w.alloc (Xf x)) B 59 ty 61 i (Xu 0) 1 8 underlying59 hi ad ai an rfl (by decide) v l.length (hV l) (h.alloc _) ⟨w.heap.size,0,none⟩ 1 1 [Xu x] rfl (cell_one_new _ _ _) (by simp[Value.oneCell']) (by unfold maxLen;omega) (by omega) (by simp;omega);refine⟨v',w',h1,?_,(World.grownBy_alloc w _ _).trans h3,?_⟩
 ·have e:hV (l++[x])=hV l++[Xu x]:=by simp[hV]
  unfold FE;rw[e,ah];exact h2
 ·rcases h4 with h4 | h4
  ·exact ab h4
  ·exact ae ⟨_,h4,by simp⟩
attribute [local go_sem] Oper.semAt_some
structure eX (w W:World) (ps hh b12:Nat) (vk vv vc:Value) (sz:Nat):Prop where
 b3:W.heap[w.heap.size]?=some (.cells #[PV ps] 26 (0,0))
 b5:W.heap[w.heap.size+1]?=some (.cells #[Xu hh] 61 (0,0))
 b6:W.heap[w.heap.size+1+1]?=some (.cells #[.slice none 0 0,.slice none 0 0,.slice none 0 0,Xu 0] 215 (0,0))
 b7:W.heap[w.heap.size+1+1+1]?=some (.cells #[Xi 0] 27 (0,0))
 k12:W.heap[b12]?=some (.cells #[.func (.func 198) #[] #[PV w.heap.size,PV (w.heap.size+1)]] 219 (0,0))
 k13:W.heap[b12+1]?=some (.cells #[vk,vv,vc,Xu sz] 215 (0,0))
 below:Below w.heap.size w W
 size:b12+2<=W.heap.size
 at12:b12=w.heap.size+4
structure fN (W:World) (D:Nat) (vk vv vc:Value) (ks vs cs:List Nat):Prop where
 k:FE W D vk ks
 v:FE W D vv vs
 c:FE W D vc cs
 kv:∀g,vk.ownBlock=some g->vv.ownBlock≠some g
 kc:∀g,vk.ownBlock=some g->vc.ownBlock≠some g
 vc:∀g,vv.ownBlock=some g->vc.ownBlock≠some g
theorem kE{P:Program}{o:Oper}{a:Act}{w w':World}{K:Act->World->Prop}{Q:Exit->Act->World->Prop}{v xv v':Value}(s x:Operand)(t:TypeId)
 (ho:o.op=.call { callee:=.builtin .append,args:=#[s,x],argTypes:=#[t,t] }) (hs:a.eval s=v) (hx:a.eval x=xv)
 (hr:(Builtin.append_ #[t,t] o.type #[v,xv]).run P w=.ok v' w') (h:K (a.put o.dst v') w'):Oper.wp P o a w K Q:=by
 unfold Oper.wp execOp;simp only[ho,resolve,invoke,builtin,Sem.run_bind,Sem.run_pure,Result.andThen_ok,List.map_toArray,bg,List.map_nil,hs,hx,hr];exact h
theorem FE.at{w w':World}(h:FE w D v l)(e:∀g,v.ownBlock=some g->w'.heap[g]?=w.heap[g]?):FE w' D v l:=by
 refine⟨h.1,?_⟩
 rcases h.2 with hn | ⟨g,ad,ai,rfl,hb,an,ap⟩
 ·grind
 ·exact .inr ⟨g,ad,ai,rfl,hb,(e g rfl).trans an,ap⟩
theorem FE.slice(h:FE w D v l):∃A m c,v=.slice A m c:=by
 rcases h.2 with⟨rfl,_⟩ | ⟨g,ad,ai,rfl,_⟩
 ·exact⟨_,_,_,rfl⟩
 grind
theorem FE.ge(h:FE w D v l):∀g,v.ownBlock=some g->D<=g/\g<w.heap.size:=World.ownsRow.lt h
theorem FE.slice2(h:FE w D v l):∃A c,v=.slice A l.length c:=by
 rcases h.2 with⟨rfl,e⟩ | ⟨g,ad,ai,rfl,_⟩
 ·exact⟨none,0,by rw[e]⟩
 grind
theorem FE.hrow(h:FE w D v l):FD w v l:=by
 rcases h.2 with⟨rfl,e⟩ | ⟨g,ad,ai,e,_⟩
 ·exact⟨none,0,by rw[e],fun i hi=>absurd hi (by omega)⟩
 ·refine⟨_,_,e,fun i hi=>⟨g,0,rfl,?_⟩⟩;have:=World.ownsRow.cells h (g:=g) (by rw[e];rfl) i (Xu (l[i]:Nat)) (by simp[hV,hi]);rw[Addr.add_lit] at this;omega
theorem Below.grownBy{w w':World}(h:Below w.heap.size w w')(row:Option Nat):w.grownBy w' row:=⟨h.os,h.tape,h.output,h.size,fun k hk _=>h.block k hk⟩
theorem fN.below{W W':World}{vk vv vc:Value}{ks vs cs:List Nat}(h:fN W D vk vv vc ks vs cs)(hb:Below W.heap.size W W'):fN W' D vk vv vc ks vs cs:=
 ⟨h.k.at fun g e=>hb.block g (h.k.ge g e).2,h.v.at fun g e=>hb.block g (h.v.ge g e).2,h.c.at fun g e=>hb.block g (h.c.ge g e).2,h.kv,h.kc,h.vc⟩
theorem Be{t hh:Nat}(hn:iU t n)(hlen:S.len hh=(6*t,0))(hg:∀k,k<6*t->S.get hh k=(wAt t n n.keys.length n.kids.length k,0))(k:Nat):(S.get hh k).1=wAt t n n.keys.length n.kids.length k:=by
 by_cases hk:k<6*t
 ·grind
 ·have h1:=hn.many;have h2:n.kids.length<=n.keys.length+1:=by rcases hn.kids with h | h<;>omega
  have h3:=hn.lo;unfold wAt;unfold St.len at hlen;unfold St.get
  grind
theorem oZ{b:Nat}{v0 v1 v2 v3 u0 u1 u2 u3:Value}{ty:TypeId}{fr:Nat×Nat}(h:w.heap[b]?=some (.cells #[v0,v1,v2,v3] ty fr)):((((w.setCell ⟨b,0,none⟩ (u0)).setCell ⟨b,1,none⟩ (u1)).setCell ⟨b,2,none⟩ (u2)).setCell ⟨b,3,none⟩ (u3)).heap[b]?=some (.cells #[u0,u1,u2,u3] ty fr):=by
 exact heap_setCell (i:=3) (v:=u3) (heap_setCell (i:=2) (v:=u2) (heap_setCell (i:=1) (v:=u1) (heap_setCell (i:=0) (v:=u0) h)))
theorem sy{b k:Nat}{u0 u1 u2 u3:Value}(hk:k≠b):((((w.setCell ⟨b,0,none⟩ (u0)).setCell ⟨b,1,none⟩ (u1)).setCell ⟨b,2,none⟩ (u2)).setCell ⟨b,3,none⟩ (u3)).heap[k]?=w.heap[k]?:=by
 grind [FB]
theorem oY{w w0:World}{n b:Nat}{u0 u1 u2 u3:Value}(h:Below n w0 w)(hb:n<=b):Below n w0 ((((w.setCell ⟨b,0,none⟩ (u0)).setCell ⟨b,1,none⟩ (u1)).setCell ⟨b,2,none⟩ (u2)).setCell ⟨b,3,none⟩ (u3)):=
 (((h.setCell (p:=⟨b,0,none⟩) hb u0).setCell (p:=⟨b,1,none⟩) hb u1).setCell (p:=⟨b,2,none⟩) hb u2).setCell (p:=⟨b,3,none⟩) hb u3
theorem fN.lift{W W':World}{D D':Nat}{vk vv vc:Value}{ks vs cs:List Nat}(h:fN W D vk vv vc ks vs cs)(hD:D'<=D)(e:∀g,D<=g->g<W.heap.size->W'.heap[g]?=W.heap[g]?):fN W' D' vk vv vc ks vs cs:=by
 have low:∀{v:Value} {l:List Nat},FE W D v l->FE W' D' v l:=fun hh=>by
  have:=hh.at (w':=W') fun g q=>e g (hh.ge g q).1 (hh.ge g q).2;refine⟨this.1,?_⟩
  rcases this.2 with hn | ⟨g,ad,ai,rfl,hb,an⟩
  ·grind
  ·exact .inr ⟨g,ad,ai,rfl,aB hD hb,an⟩
 exact⟨low h.k,low h.v,low h.c,h.kv,h.kc,h.vc⟩
theorem dY{p:Addr}{x:Value}{k:Nat}(hk:k≠p.block):(w.setCell p x).heap[k]?=w.heap[k]?:=dq w p x k hk
theorem eX.drew{w W:World}{ps hh b12 sz:Nat}{vk vv vc:Value}(h:eX w W ps hh b12 vk vv vc sz):eX w W.drew ps hh b12 vk vv vc sz:=⟨h.b3,h.b5,h.b6,h.b7,h.k12,h.k13,h.below.drew,h.size,h.at12⟩
theorem fN.drew{W:World}{vk vv vc:Value}{ks vs cs:List Nat}(h:fN W D vk vv vc ks vs cs):fN W.drew D vk vv vc ks vs cs:=⟨h.k,h.v,h.c,h.kv,h.kc,h.vc⟩
theorem eX.grown{w W W2:World}{ps hh b12 sz:Nat}{vk vv vc:Value}{row:Option Nat}(h:eX w W ps hh b12 vk vv vc sz)(hg:W.grownBy W2 row)(hr:∀g,row=some g->b12+2<=g):eX w W2 ps hh b12 vk vv vc sz:=by
 have e:∀k,k<b12+2->W2.heap[k]?=W.heap[k]?:=fun k hk=>hg.block k (by have:=h.size;omega) (fun e=>by grind);have ha:=h.at12;exact⟨(e _ (by omega)).trans h.b3,(e _ (by omega)).trans h.b5,(e _ (by omega)).trans h.b6,(e _ (by omega)).trans h.b7,(e _ (by omega)).trans h.k12,(e _ (by omega)).trans h.k13,
  h.below.trans ⟨hg.os,hg.tape,hg.output,hg.size,fun k hk=>e k (by omega)⟩,aB h.size hg.size,ha⟩
theorem eX.up{w W W2:World}{ps hh b12 sz:Nat}{vk vv vc:Value}(h:eX w W ps hh b12 vk vv vc sz)(hb:Below W.heap.size W W2):eX w W2 ps hh b12 vk vv vc sz:=h.grown (row:=none) (Below.grownBy hb none) fun _ e=>nomatch e
theorem eX.set0{w W:World}{ps hh b12 sz:Nat}{vk vv vc:Value}(h:eX w W ps hh b12 vk vv vc sz)(v':Value):eX w (W.setCell ⟨b12+1,0,none⟩ v') ps hh b12 v' vv vc sz:=by
 have e:∀k,k≠b12+1->(W.setCell ⟨b12+1,0,none⟩ v').heap[k]?=W.heap[k]?:=fun k hk=>dY hk;have ha:=h.at12;have hz:(W.setCell ⟨b12+1,0,none⟩ v').heap.size=W.heap.size:=World.size_setCell _ _ _;have q:=heap_setCell (i:=0) (v:=v') h.k13;refine⟨(e _ (by omega)).trans h.b3,(e _ (by omega)).trans h.b5,(e _ (by omega)).trans h.b6,(e _ (by omega)).trans h.b7,(e _ (by omega)).trans h.k12,by grind,?_,by grind,ha⟩;exact h.below.setCell (p:=⟨b12+1,0,none⟩) (by grind) v'
theorem sK{w W:World}{ps hh b12 sz:Nat}{vk vv vc v':Value}{ks vs cs:List Nat}(gb:eX w W ps hh b12 vk vv vc sz)(rows:fN W (b12+2) vk vv vc ks vs cs)(h:FE W2 (b12+2) v' (ks++[x]))(hg:W.grownBy W2 vk.ownBlock)(hv:v'.ownBlock=vk.ownBlock\/∃g,v'.ownBlock=some g/\W.heap.size<=g):
 eX w (W2.setCell ⟨b12+1,0,none⟩ v') ps hh b12 v' vv vc sz/\fN (W2.setCell ⟨b12+1,0,none⟩ v') (b12+2) v' vv vc (ks++[x]) vs cs:=by
 refine⟨(gb.grown hg fun g e=>(rows.k.ge g e).1).set0 v',?_⟩;have st:∀{v:Value} {l:List Nat},FE W2 (b12+2) v l->FE (W2.setCell ⟨b12+1,0,none⟩ v') (b12+2) v l:=fun hh=>hh.at fun g e=>dY (by have:=(hh.ge g e).1;grind);have k1:∀{v:Value} {l:List Nat},FE W (b12+2) v l->(∀g,vk.ownBlock=some g->v.ownBlock≠some g)->FE W2 (b12+2) v l:=fun hh hn=>hh.at fun g e=>hg.block g (hh.ge g e).2 (fun e2=>hn g e2.symm e);have nw:∀{v:Value} {l:List Nat},FE W (b12+2) v l->(∀g,vk.ownBlock=some g->v.ownBlock≠some g)->∀g,v'.ownBlock=some g->v.ownBlock≠some g:=fun hh hn g e e2=>by
  rcases hv with hv | ⟨g',e',hl⟩
  ·grind
  ·have:=(hh.ge g e2).2
   grind
 exact { k:=st h,v:=st (k1 rows.v (rows.kv)),c:=st (k1 rows.c (rows.kc)),kv:=nw rows.v (rows.kv),kc:=nw rows.c (rows.kc),vc:=rows.vc }
theorem eX.set1{w W:World}{ps hh b12 sz:Nat}{vk vv vc:Value}(h:eX w W ps hh b12 vk vv vc sz)(v':Value):eX w (W.setCell ⟨b12+1,1,none⟩ v') ps hh b12 vk v' vc sz:=by
 have e:∀k,k≠b12+1->(W.setCell ⟨b12+1,1,none⟩ v').heap[k]?=W.heap[k]?:=fun k hk=>dY hk;have ha:=h.at12;have hz:(W.setCell ⟨b12+1,1,none⟩ v').heap.size=W.heap.size:=World.size_setCell _ _ _;have q:=heap_setCell (i:=1) (v:=v') h.k13;refine⟨(e _ (by omega)).trans h.b3,(e _ (by omega)).trans h.b5,(e _ (by omega)).trans h.b6,(e _ (by omega)).trans h.b7,(e _ (by omega)).trans h.k12,by grind,?_,by grind,ha⟩;exact h.below.setCell (p:=⟨b12+1,1,none⟩) (by grind) v'
theorem sL{w W:World}{ps hh b12 sz:Nat}{vk vv vc v':Value}{ks vs cs:List Nat}(gb:eX w W ps hh b12 vk vv vc sz)(rows:fN W (b12+2) vk vv vc ks vs cs)(h:FE W2 (b12+2) v' (vs++[x]))(hg:W.grownBy W2 vv.ownBlock)(hv:v'.ownBlock=vv.ownBlock\/∃g,v'.ownBlock=some g/\W.heap.size<=g):
 eX w (W2.setCell ⟨b12+1,1,none⟩ v') ps hh b12 vk v' vc sz/\fN (W2.setCell ⟨b12+1,1,none⟩ v') (b12+2) vk v' vc ks (vs++[x]) cs:=by
 refine⟨(gb.grown hg fun g e=>(rows.v.ge g e).1).set1 v',?_⟩;have st:∀{v:Value} {l:List Nat},FE W2 (b12+2) v l->FE (W2.setCell ⟨b12+1,1,none⟩ v') (b12+2) v l:=fun hh=>hh.at fun g e=>dY (by have:=(hh.ge g e).1;grind);have k1:∀{v:Value} {l:List Nat},FE W (b12+2) v l->(∀g,vv.ownBlock=some g->v.ownBlock≠some g)->FE W2 (b12+2) v l:=fun hh hn=>hh.at fun g e=>hg.block g (hh.ge g e).2 (fun e2=>hn g e2.symm e);have nw:∀{v:Value} {l:List Nat},FE W (b12+2) v l->(∀g,vv.ownBlock=some g->v.ownBlock≠some g)->∀g,v'.ownBlock=some g->v.ownBlock≠some g:=fun hh hn g e e2=>by
  rcases hv with hv | ⟨g',e',hl⟩
  ·grind
  ·have:=(hh.ge g e2).2
   grind
 exact { k:=st (k1 rows.k (fun g e e2=>rows.kv g e2 e)),v:=st h,c:=st (k1 rows.c (rows.vc)),kv:=fun g e e2=>nw rows.k (fun g e e2=>rows.kv g e2 e) g e2 e,kc:=rows.kc,vc:=nw rows.c (rows.vc) }
theorem eX.set2{w W:World}{ps hh b12 sz:Nat}{vk vv vc:Value}(h:eX w W ps hh b12 vk vv vc sz)(v':Value):eX w (W.setCell ⟨b12+1,2,none⟩ v') ps hh b12 vk vv v' sz:=by
 have e:∀k,k≠b12+1->(W.setCell ⟨b12+1,2,none⟩ v').heap[k]?=W.heap[k]?:=fun k hk=>dY hk;have ha:=h.at12;have hz:(W.setCell ⟨b12+1,2,none⟩ v').heap.size=W.heap.size:=World.size_setCell _ _ _;have q:=heap_setCell (i:=2) (v:=v') h.k13;refine⟨(e _ (by omega)).trans h.b3,(e _ (by omega)).trans h.b5,(e _ (by omega)).trans h.b6,(e _ (by omega)).trans h.b7,(e _ (by omega)).trans h.k12,by grind,?_,by grind,ha⟩;exact h.below.setCell (p:=⟨b12+1,2,none⟩) (by grind) v'
theorem sN{w W:World}{ps hh b12 sz:Nat}{vk vv vc v':Value}{ks vs cs:List Nat}(gb:eX w W ps hh b12 vk vv vc sz)(rows:fN W (b12+2) vk vv vc ks vs cs)(h:FE W2 (b12+2) v' (cs++[x]))(hg:W.grownBy W2 vc.ownBlock)(hv:v'.ownBlock=vc.ownBlock\/∃g,v'.ownBlock=some g/\W.heap.size<=g):
 eX w (W2.setCell ⟨b12+1,2,none⟩ v') ps hh b12 vk vv v' sz/\fN (W2.setCell ⟨b12+1,2,none⟩ v') (b12+2) vk vv v' ks vs (cs++[x]):=by
 refine⟨(gb.grown hg fun g e=>(rows.c.ge g e).1).set2 v',?_⟩;have st:∀{v:Value} {l:List Nat},FE W2 (b12+2) v l->FE (W2.setCell ⟨b12+1,2,none⟩ v') (b12+2) v l:=fun hh=>hh.at fun g e=>dY (by have:=(hh.ge g e).1;grind);have k1:∀{v:Value} {l:List Nat},FE W (b12+2) v l->(∀g,vc.ownBlock=some g->v.ownBlock≠some g)->FE W2 (b12+2) v l:=fun hh hn=>hh.at fun g e=>hg.block g (hh.ge g e).2 (fun e2=>hn g e2.symm e);have nw:∀{v:Value} {l:List Nat},FE W (b12+2) v l->(∀g,vc.ownBlock=some g->v.ownBlock≠some g)->∀g,v'.ownBlock=some g->v.ownBlock≠some g:=fun hh hn g e e2=>by
  rcases hv with hv | ⟨g',e',hl⟩
  ·grind
  ·have:=(hh.ge g e2).2
   grind
 exact { k:=st (k1 rows.k (fun g e e2=>rows.kc g e2 e)),v:=st (k1 rows.v (fun g e e2=>rows.vc g e2 e)),c:=st h,kv:=rows.kv,kc:=fun g e e2=>nw rows.k (fun g e e2=>rows.kc g e2 e) g e2 e,vc:=fun g e e2=>nw rows.v (fun g e e2=>rows.vc g e2 e) g e2 e }
structure pr (w W:World) (ps hh:Nat):Prop where
 b3:W.heap[w.heap.size]?=some (.cells #[PV ps] 26 (0,0))
 b5:W.heap[w.heap.size+1]?=some (.cells #[Xu hh] 61 (0,0))
 b6:W.heap[w.heap.size+1+1]?=some (.cells #[.slice none 0 0,.slice none 0 0,.slice none 0 0,Xu 0] 215 (0,0))
 b7:W.heap[w.heap.size+1+1+1]?=some (.cells #[Xi 0] 27 (0,0))
 below:Below w.heap.size w W
 size:W.heap.size=w.heap.size+4
theorem uz(w:World)(ps hh:Nat):pr w ((((w.alloc (Xh ps)).alloc (Xf hh)).alloc (.cells #[.slice none 0 0,.slice none 0 0,.slice none 0 0,Xu 0] 215)).alloc (.cells #[Xi 0] 27)) ps hh:=by
 have z1:(w.alloc (Xh ps)).heap.size=w.heap.size+1:=by simp
 have z2:((w.alloc (Xh ps)).alloc (Xf hh)).heap.size=w.heap.size+2:=by simp
 have z3:(((w.alloc (Xh ps)).alloc (Xf hh)).alloc (.cells #[.slice none 0 0,.slice none 0 0,.slice none 0 0,Xu 0] 215)).heap.size=w.heap.size+3:=by simp
 have z4:((((w.alloc (Xh ps)).alloc (Xf hh)).alloc (.cells #[.slice none 0 0,.slice none 0 0,.slice none 0 0,Xu 0] 215)).alloc (.cells #[Xi 0] 27)).heap.size=w.heap.size+4:=by simp
 have B1:=(aa w.heap.size w).alloc Ih (Xh ps);have q1:=heap_alloc_new w (Xh ps);have q2:=heap_alloc_new (w.alloc (Xh ps)) (Xf hh);have q3:=heap_alloc_new ((w.alloc (Xh ps)).alloc (Xf hh)) (.cells #[.slice none 0 0,.slice none 0 0,.slice none 0 0,Xu 0] 215);have q4:=heap_alloc_new (((w.alloc (Xh ps)).alloc (Xf hh)).alloc (.cells #[.slice none 0 0,.slice none 0 0,.slice none 0 0,Xu 0] 215)) (.cells #[Xi 0] 27);rw[z1] at q2;rw[z2] at q3;rw[z3] at q4;generalize (w.alloc (Xh ps))=w1 at*;have e2:=(aa w1.heap.size w1).alloc Ih (Xf hh);generalize w1.alloc (Xf hh)=w2 at*;have e3:=(aa w2.heap.size w2).alloc Ih (.cells #[.slice none 0 0,.slice none 0 0,.slice none 0 0,Xu 0] 215);generalize w2.alloc (.cells #[.slice none 0 0,.slice none 0 0,.slice none 0 0,Xu 0] 215)=w3 at*;have e4:=(aa w3.heap.size w3).alloc Ih (.cells #[Xi 0] 27);generalize w3.alloc (.cells #[Xi 0] 27)=w4 at*;have up:∀{a b:World} {k:Nat} {o:Obj},Below a.heap.size a b->a.heap[k]?=some o->b.heap[k]?=some o:=fun h e=>(h.block _ (gl e)).trans e;refine⟨up e4 (up e3 (up e2 q1)),up e4 (up e3 q2),up e4 q3,q4,?_,z4⟩;exact B1.trans ((e2.trans ((e3.trans (e4.mono (by omega))).mono (by omega))).mono (by omega))
theorem pr.six{w W:World}{ps hh:Nat}(h:pr w W ps hh)(sz:Nat):eX w ((W.alloc (.cells #[.func (.func 198) #[] #[PV w.heap.size,PV (w.heap.size+1)]] 219)).alloc (Xl sz)) ps hh W.heap.size (.slice none 0 0) (.slice none 0 0) (.slice none 0 0) sz:=by
 have q5:=heap_alloc_new W (.cells #[.func (.func 198) #[] #[PV w.heap.size,PV (w.heap.size+1)]] 219);have q6:=heap_alloc_new (W.alloc (.cells #[.func (.func 198) #[] #[PV w.heap.size,PV (w.heap.size+1)]] 219)) (Xl sz);have z5:(W.alloc (.cells #[.func (.func 198) #[] #[PV w.heap.size,PV (w.heap.size+1)]] 219)).heap.size=W.heap.size+1:=by simp
 have z6:((W.alloc (.cells #[.func (.func 198) #[] #[PV w.heap.size,PV (w.heap.size+1)]] 219)).alloc (Xl sz)).heap.size=W.heap.size+2:=by simp
 rw[z5] at q6;have e5:=(aa W.heap.size W).alloc Ih (.cells #[.func (.func 198) #[] #[PV w.heap.size,PV (w.heap.size+1)]] 219);generalize W.alloc (.cells #[.func (.func 198) #[] #[PV w.heap.size,PV (w.heap.size+1)]] 219)=w5 at*;have e6:=(aa w5.heap.size w5).alloc Ih (Xl sz);generalize w5.alloc (Xl sz)=w6 at*;have hz:=h.size;have up:∀{a b:World} {k:Nat} {o:Obj},Below a.heap.size a b->a.heap[k]?=some o->b.heap[k]?=some o:=fun h e=>(h.block _ (gl e)).trans e;exact⟨up e6 (up e5 h.b3),up e6 (up e5 h.b5),up e6 (up e5 h.b6),up e6 (up e5 h.b7),up e6 q5,q6,h.below.trans ((e5.trans (e6.mono (by omega))).mono (by omega)),by omega,hz⟩
attribute [local go_sem] Oper.semAt_some
theorem zE(h:Ig w ps S Y)(hi:Fv S){t:Nat}(hn:iU t n)(hh:Nat)(hl:hh<2^64)(hlen:S.len hh=(6*t,0))(hg:∀k,k<6*t->S.get hh k=(wAt t n n.keys.length n.kids.length k,0))(hlt:∀x∈bnWords t n,x<2^64):
 Ct 166 #[PV ps,Xi t,Xu hh] w fun e w'=>∃vk vv vc,e=.returned (.tuple #[eC vk vv vc n.size,Xi 0])/\fN w' w.heap.size vk vv vc n.keys n.vals n.kids/\Below w.heap.size w w':=by
 refine(callsIn_wide (n:=7)).1 ?_;have h1:1<=7:=by omega
 have d7:Fence.wide.fn 42:=trivial;have d6:Fence.wide.fn 165:=trivial;have d4:Fence.wide.fn 199:=trivial;have d8:Fence.wide.fn 200:=trivial;have d5:Fence.wide.fn 198:=trivial;have d3:∀(args:Array Value) (w:World),(callFunc 198 args).run prog w=.ok (.enter 198 args) w:=fun args w=>by go_simp
 have bk:∀W,Below w.heap.size w W->CallsIn Fence.wide 6 prog 42 #[PV ps,Xu 0] W _:=fun W hW=>callsIn_wide.2 (fB (h.below hW) hi 0 (by omega));have a3:∀W,Below w.heap.size w W->CallsIn Fence.wide 6 prog 42 #[PV ps,Xu hh] W _:=fun W hW=>callsIn_wide.2 (fB (h.below hW) hi hh hl);rw[fU] at bk;rw[hlen] at a3;have b9:∀W,CallsIn Fence.wide 6 prog 165 #[Xi t] W _:=fun W=>callsIn_wide.2 (om hn.lo hn.hi▸nP (t:Int) W);have a2:∀W,Below w.heap.size w W->W.heap[w.heap.size]?=some (.cells #[PV ps] 26 (0,0))->W.heap[w.heap.size+1]?=some (.cells #[Xu hh] 61 (0,0))->∀(k:Nat) (_:k<=1000),Ct 198 #[Xi k,PV w.heap.size,PV (w.heap.size+1)] W fun e w'=>e=.returned (Xu (wAt t n n.keys.length n.kids.length k:Nat))/\W=w':=fun W hW e3 e5 k hk=>
  zD (h.below hW) hi hh hl (by rw[cell_of_block e3];rfl) (by rw[cell_of_block e5];rfl) k (by omega) (Be hn hlen hg k)
 have ht:=And.intro hn.lo hn.hi;have ed:IntKind.i64.wrap (6*(t:Int))=6*(t:Int):=az _ (by omega);have cu:((6*t:Nat):Int)=6*(t:Int):=by omega
 simp only at bk a3;rw[cu] at a3;obtain⟨kn,a1⟩:=Ii n.keys.length;obtain⟨cn,ba⟩:=Ii n.kids.length;obtain⟨sz,au⟩:=Ii n.size;have b':kn<=2*t-1:=by rw[<-a1];exact hn.many
 have d1:cn=0\/cn=kn+1:=by rw[<-a1,<-ba];exact hn.kids.imp id And.left
 have ea:kn<2^64:=by omega
 rw[a1,ba] at a2;have g0:wAt t n kn cn 0=kn:=by unfold wAt;rw[if_pos rfl,a1]
 have g1:wAt t n kn cn 1=sz:=by unfold wAt;rw[if_neg (by omega),if_pos rfl,au]
 have six:=uz w ps hh;have bu:=fun W (hW:Below w.heap.size w W) e3 e5=>callsIn_wide (n:=6) |>.2 (a2 W hW e3 e5 0 (by omega))
 have bv:=fun W (hW:Below w.heap.size w W) e3 e5=>callsIn_wide (n:=6) |>.2 (a2 W hW e3 e5 1 (by omega))
 rw[g0] at bu;rw[g1] at bv;have HG:=kq13 bk a3 b9 bu bv a2 h hi hn a1 ba au hlt;clear bk a3 b9 bu bv a2 h hi hn a1 ba au hlt hg hlen g0 g1;refine callsIn_of_wp_marks func166 rfl trivial ?_ rfl;simp only[ntmps166,aR,ag,aM,Nat.reduceAdd,Nat.reduceSub,aN,aO,aU,aQ,aY,aK];gi_wp2_with fail;generalize ((((w.alloc (Xh ps)).alloc (Xf hh)).alloc (.cells #[.slice none 0 0,.slice none 0 0,.slice none 0 0,Xu 0] 215)).alloc (.cells #[Xi 0] 27))=w4 at*;have e3:=six.b3;have e5:=six.b5;have x0:(w4).cell? ⟨w.heap.size,0,none⟩=some (PV ps):=by rw[cell_of_block e3];rfl
 have y0:(w4).cell? ⟨w.heap.size+1,0,none⟩=some (Xu hh):=by rw[cell_of_block e5];rfl
 have S4:=If six;clear e3 e5 six;refine(HG.a _ S4.out.below).mono ?_;rintro e w5 ⟨rfl,rfl⟩;gi_wp2_with fail;refine(HG.c _).mono ?_;rintro e w5 ⟨rfl,rfl⟩;gi_wp2_with fail;refine(HG.b _ S4.out.below).mono ?_;rintro e w5 ⟨rfl,rfl⟩;gi_wp2_with fail;have a5:=(aa w4.heap.size w4).alloc Ih (.cells #[.func (.func 198) #[] #[PV w.heap.size,PV (w.heap.size+1)]] 219);have z4:=S4.out.size;have f3:=(a5.block w.heap.size (by omega)).trans S4.out.b3;have f5:=(a5.block (w.heap.size+1) (by omega)).trans S4.out.b5;have S5:=kq3 (S4.out.below.trans (a5.mono (by omega))) f3 f5;have b0:=heap_alloc_new w4 (.cells #[.func (.func 198) #[] #[PV w.heap.size,PV (w.heap.size+1)]] 219);have k12:(w4.alloc (.cells #[.func (.func 198) #[] #[PV w.heap.size,PV (w.heap.size+1)]] 219)).cell? ⟨w4.heap.size,0,none⟩=some (.func (.func 198) #[] #[PV w.heap.size,PV (w.heap.size+1)]):=by rw[cell_of_block b0];rfl
 clear a5 f3 f5 b0 x0 y0 z4;refine(HG.d _ S5.a S5.b S5.c).mono ?_;rintro e w5 ⟨rfl,rfl⟩;have q1:((2*(t:Int)-1)<(kn:Int))=False:=eq_false (by omega);have q2:IntKind.u64.wrap (2*(t:Int)-1)=2*(t:Int)-1:=by show (2*(t:Int)-1) % 18446744073709551616=_;omega
 gi_wp2_with fail;refine(HG.e _ S5.a S5.b S5.c).mono ?_;rintro e w5 ⟨rfl,rfl⟩;gi_wp2_with fail;clear k12 q1 q2;have six:=S4.out.six sz;generalize (w4.alloc (.cells #[.func (.func 198) #[] #[PV w.heap.size,PV (w.heap.size+1)]] 219)).alloc (Xl sz)=w6 at*;generalize w4.heap.size=b12 at*;have S6:=If six;have k12:=cell_of_block (o:=0) six.k12;have k12:w6.cell? ⟨b12,0,none⟩=some (.func (.func 198) #[] #[PV w.heap.size,PV (w.heap.size+1)]):=k12;clear six;refine(HG.d _ S6.out.below S6.out.b3 S6.out.b5).mono ?_;rintro e w5 ⟨rfl,rfl⟩;have q3:IntKind.i64.wrap (kn:Int)=(kn:Int):=az _ (by omega);gi_wp2_with fail;clear k12 q3
 gi_loopw [14,63] (fun _ i wr=>∃j:Nat,j<=kn/\i=Xi j/\∃vk vv,eX w wr ps hh b12 vk vv (.slice none 0 0) sz/\fN wr (b12+2) vk vv (.slice none 0 0) (n.keys.take j) (n.vals.take j) []) (fun _ i _=>kn-(intOf i).toNat)
 case atStart=>
  refine⟨0,by omega,rfl,.slice none 0 0,.slice none 0 0,S6.out,?_⟩;exact { k:=World.ownsRow_nil _ _ _ _,v:=World.ownsRow_nil _ _ _ _,c:=World.ownsRow_nil _ _ _ _,kv:=fun g e=>(nomatch e),kc:=fun g e=>(nomatch e),vc:=fun g e=>(nomatch e) }
 case round=>
  obtain⟨j,hj,rfl,vk,vv,gb,rows⟩:=hrel
  by_cases hlt:j<kn
  ·have ec:(j:Int)<kn:=by omega
   have jk:j<n.keys.length:=by rw[HG.j];exact hlt
   have jv:j<n.vals.length:=by rw[HG.i.vals];exact jk
   have gk:wAt t n kn cn (2+2*j)=n.keys[j]:=by
    unfold wAt;rw[if_neg (by omega),if_neg (by omega),if_pos (by omega),if_pos (by omega),show (2+2*j-2) / 2=j by omega,av,af jk]
    rfl
   have gv:wAt t n kn cn (2+2*j+1)=n.vals[j]:=by
    unfold wAt;rw[if_neg (by omega),if_neg (by omega),if_pos (by omega),if_neg (by omega),show (2+2*j+1-2) / 2=j by omega,av,af jv]
    rfl
   have tk:n.keys.take (j+1)=n.keys.take j++[n.keys[j]]:=by rw[aH jk]
   have tv:n.vals.take (j+1)=n.vals.take j++[n.vals[j]]:=by rw[aH jv]
   have cp:(n.keys.take j).length=j:=by rw[aL];omega
   have cq:(n.vals.take j).length=j:=by rw[aL];omega
   have bd:=fun W (hW:Below w.heap.size w W) e3 e5=>HG.f W hW e3 e5 (2+2*j) (by omega);have bf:=fun W (hW:Below w.heap.size w W) e3 e5=>HG.f W hW e3 e5 (2+2*j+1) (by omega);rw[gk] at bd;rw[gv] at bf;have b1:((2+2*j:Nat):Int)=2+2*(j:Int):=by omega
   have b2:((2+2*j+1:Nat):Int)=2+2*(j:Int)+1:=by omega
   rw[b1] at bd;rw[b2] at bf;generalize n.keys[j]=xk at*;generalize n.vals[j]=xv at*;have HC:=kq9 bd bf tk tv cp cq gb rows hlt;clear bd bf tk tv cp cq gk gv gb rows jk jv b1 b2 hlt;have m1:IntKind.i64.wrap (2*(j:Int))=2*(j:Int):=az _ (by omega);have m2:IntKind.i64.wrap (2+2*(j:Int))=2+2*(j:Int):=az _ (by omega);have m3:IntKind.i64.wrap (2+2*(j:Int)+1)=2+2*(j:Int)+1:=az _ (by omega);gi_wp2_with fail;have HD:=kq2 (HC.g).drew (HC.h).drew;obtain⟨I,ad,ai⟩:=I9 (fun w'=>w'.heap[b12]?=some (.cells #[.func (.func 198) #[] #[PV w.heap.size,PV (w.heap.size+1)]] 219 (0,0))) (fun w'=>w'.heap[b12+1]?=some (.cells #[vk,vv,.slice none 0 0,Xu sz] 215 (0,0)));have ap:=fun x:Fq I=>(ad _ x.ok).1;have ar:=fun x:Fq I=>(ad _ x.ok).2;have o0:∀x:Fq I,x.to.cell? ⟨b12,0,none⟩=some (.func (.func 198) #[] #[PV w.heap.size,PV (w.heap.size+1)]):=fun x=>by rw[cell_of_block (ap x)];rfl
   obtain⟨y0,y1,y2,y3⟩:=iB ar;have an:I wr.drew:=ai _ HD.a.k12 HD.a.k13;have HI:=If ai;clear ad ai ap ar;refine Jb I (fun i=>[10].contains i) (.take 0 (.take 1 (.take 2 (.take 3 (.take 4 (.take 5 (.go 6 (.go 7 (.go 8 (.take 9 (.go 10 .nil))))))))))) (by kernel_rfl) (by kernel_rfl) (by kernel_rfl) an ?_;clear an;generalize wr.drew=W at*
   iterate 6
    refine' qT ?_ ?_;rotate_left
    ·intro x;go_simp
     try rfl
    try simp only[pu]
   refine qD fun K hK=>?_;go_simp;refine(HC.a _ HD.a.below HD.a.b3 HD.a.b5).mono ?_;rintro e w3 ⟨rfl,rfl⟩
   try go_simp
   refine hK.out _ _ (HI.out _ HD.a.k12 HD.a.k13) ?_;clear hK K
   try simp only[pu]
   refine qD fun K hK=>?_;go_simp;have g2:eX w (W.alloc (Xf xk)) ps hh b12 (vk) (vv) (.slice none 0 0) sz:=HD.a.grown (row:=none) (World.grownBy_alloc _ _ _) (fun g e=>nomatch e)
   try go_simp
   refine hK.out _ _ (HI.out _ g2.k12 g2.k13) ?_;clear hK K
   try simp only[pu]
   obtain⟨v',W2,hr,ho,hg,hv⟩:=jF HD.b.k (by rw[HC.e];omega) xk HD.a.size 59;have g3:=HD.a.grown hg fun g e=>(HD.b.k.ge g e).1;have gs:=sK HD.a HD.b ho hg hv;obtain⟨sA,sM,sC,rfl⟩:=ho.slice;clear ho hg hv;have HS:=If gs;clear gs;refine qD (fun K hK=>kE _ _ _ rfl rfl rfl hr ?_);clear hr
   try go_simp
   refine hK.out _ _ (HI.out _ g3.k12 g3.k13) ?_;clear hK K
   try simp only[pu]
   refine' qT ?_ ?_;rotate_left
   ·intro x;go_simp
    try rfl
   try simp only[pu]
   clear y0 y1 y2 y3;have k13:=g3.k13;obtain⟨y0,y1,y2,y3⟩:=Fy k13;obtain⟨f0,f1,f2,f3⟩:=fO k13;clear k13 g3;refine qL fun K hK=>?_;go_simp;clear y0 f0 y1 f1 y2 f2 y3 f3;generalize hW:W2.setCell ⟨b12+1,0,none⟩ (.slice sA sM sC)=wr2 at*
   try go_simp
   refine hK.out _ _ trivial ?_;clear hK K
   try simp only[pu]
   refine Ja ?_;have HJ:=HS;generalize Value.slice sA sM sC=vk2 at*;clear hW HS g2 HD HI o0 I W2;generalize W.heap.size=wr2q;clear W;gi_wp2_with fail;have HD:=kq2 (HJ.out.1).drew (HJ.out.2).drew;obtain⟨I,ad,ai⟩:=I9 (fun w'=>w'.heap[b12]?=some (.cells #[.func (.func 198) #[] #[PV w.heap.size,PV (w.heap.size+1)]] 219 (0,0))) (fun w'=>w'.heap[b12+1]?=some (.cells #[vk2,vv,.slice none 0 0,Xu sz] 215 (0,0)));have ap:=fun x:Fq I=>(ad _ x.ok).1;have ar:=fun x:Fq I=>(ad _ x.ok).2;have o0:∀x:Fq I,x.to.cell? ⟨b12,0,none⟩=some (.func (.func 198) #[] #[PV w.heap.size,PV (w.heap.size+1)]):=fun x=>by rw[cell_of_block (ap x)];rfl
   obtain⟨y0,y1,y2,y3⟩:=iB ar;have an:I wr2.drew:=ai _ HD.a.k12 HD.a.k13;have HI:=If ai;clear ad ai ap ar;refine Jb I (fun i=>[11].contains i) (.take 0 (.take 1 (.take 2 (.take 3 (.take 4 (.take 5 (.take 6 (.go 7 (.go 8 (.go 9 (.take 10 (.go 11 .nil)))))))))))) (by kernel_rfl) (by kernel_rfl) (by kernel_rfl) an ?_;clear an;generalize wr2.drew=W at*
   iterate 7
    refine' qT ?_ ?_;rotate_left
    ·intro x;go_simp
     try rfl
    try simp only[pu]
   refine qD fun K hK=>?_;go_simp;refine(HC.b _ HD.a.below HD.a.b3 HD.a.b5).mono ?_;rintro e w3 ⟨rfl,rfl⟩
   try go_simp
   refine hK.out _ _ (HI.out _ HD.a.k12 HD.a.k13) ?_;clear hK K
   try simp only[pu]
   refine qD fun K hK=>?_;go_simp;have g2:eX w (W.alloc (Xf xv)) ps hh b12 (vk2) (vv) (.slice none 0 0) sz:=HD.a.grown (row:=none) (World.grownBy_alloc _ _ _) (fun g e=>nomatch e)
   try go_simp
   refine hK.out _ _ (HI.out _ g2.k12 g2.k13) ?_;clear hK K
   try simp only[pu]
   obtain⟨v',W2,hr,ho,hg,hv⟩:=jF HD.b.v (by rw[HC.f];omega) xv HD.a.size 59;have g3:=HD.a.grown hg fun g e=>(HD.b.v.ge g e).1;have gs:=sL HD.a HD.b ho hg hv;obtain⟨sA,sM,sC,rfl⟩:=ho.slice;clear ho hg hv;have HS:=If gs;clear gs;refine qD (fun K hK=>kE _ _ _ rfl rfl rfl hr ?_);clear hr
   try go_simp
   refine hK.out _ _ (HI.out _ g3.k12 g3.k13) ?_;clear hK K
   try simp only[pu]
   refine' qT ?_ ?_;rotate_left
   ·intro x;go_simp
    try rfl
   try simp only[pu]
   clear y0 y1 y2 y3;have k13:=g3.k13;obtain⟨y0,y1,y2,y3⟩:=Fy k13;obtain⟨f0,f1,f2,f3⟩:=fO k13;clear k13 g3;refine qL fun K hK=>?_;go_simp;clear y0 f0 y1 f1 y2 f2 y3 f3;generalize hW:W2.setCell ⟨b12+1,1,none⟩ (.slice sA sM sC)=wr3 at*
   try go_simp
   refine hK.out _ _ trivial ?_;clear hK K
   try simp only[pu]
   refine Ja ?_;have HJ:=HS;generalize Value.slice sA sM sC=vv2 at*;clear hW HS g2 HD HI o0 I W2;generalize W.heap.size=wr3q;clear W;gi_wp2_with fail;refine⟨⟨j+1,by omega,by simp,vk2,vv2,HJ.out.1,by rw[HC.c,HC.d];exact HJ.out.2⟩,?_⟩
   show kn-((j:Int)+1).toNat<kn-(j:Int).toNat
   omega
  ·have c5:kn=j:=by omega
   subst c5;have c6:¬((kn:Int)<kn):=by omega
   have tk:n.keys.take kn=n.keys:=aT (by rw[HG.j];exact Nat.le_refl _);have tv:n.vals.take kn=n.vals:=aT (by rw[HG.i.vals,HG.j];exact Nat.le_refl _);rw[tk,tv] at rows;obtain⟨Ak,ck,c9⟩:∃A c,vk=.slice A kn c:=by have:=rows.k.slice2;rw[HG.j] at this;exact this
   subst c9;have R1:=kq2 gb rows;clear gb rows tk tv
   gi_upto_region 21 with fail
   clear c6;have m4:IntKind.i64.wrap (4*(t:Int))=4*(t:Int):=az _ (by omega)
   iterate 6 gi_step
   rename_i hKs;refine hKs _ _ ?_;clear hKs
   gi_cut [15] from 88 (fun _ wc=>∃vc,eX w wc ps hh b12 (.slice Ak kn ck) vv vc sz/\fN wc (b12+2) (.slice Ak kn ck) vv vc n.keys n.vals n.kids)
   case first=>
    gi_wp2_with fail
    gi_loopw [15] (fun i wr=>∃j:Nat,j<=cn/\i=Xi j/\∃vc,eX w wr ps hh b12 (.slice Ak kn ck) vv vc sz/\fN wr (b12+2) (.slice Ak kn ck) vv vc n.keys n.vals (n.kids.take j)) (fun i _=>kn+1-(intOf i).toNat)
    case atStart=>exact⟨0,by omega,rfl,.slice none 0 0,R1.a,by simpa using R1.b⟩
    case round=>
     clear R1;obtain⟨j,hj,rfl,vc,gb,rows⟩:=hrel;have a0:=callsIn_wide (n:=6) |>.2 (HG.f _ gb.below gb.b3 gb.b5 (4*t) (by omega))
     have a9:((4*t:Nat):Int)=4*(t:Int):=by omega
     rw[a9] at a0;have k13:=gb.k13;obtain⟨y0,y1,y2,y3⟩:=Fy k13;have k12:=cell_of_block (o:=0) gb.k12;have k12:wr.cell? ⟨b12,0,none⟩=some (.func (.func 198) #[] #[PV w.heap.size,PV (w.heap.size+1)]):=k12;have bj:=HG.k;have q4:wAt t n kn cn (4*t)=n.kids.getD 0 0:=by
      unfold wAt;rw[if_neg (by omega),if_neg (by omega),if_neg (by omega)]
      by_cases h0:0<cn
      ·rw[if_pos (by omega),Nat.sub_self]
      ·rw[if_neg (by omega),av,aS (by omega)]
       rfl
     rw[q4] at a0
     by_cases hlt2:j<cn
     ·have d2:cn=kn+1:=by omega
      have jc:j<n.kids.length:=by rw[bj];exact hlt2
      have ca:((j:Int)<=kn):=by omega
      have h0:n.kids.getD 0 0≠0:=fun e=>by
       rcases HG.i.kids with h | ⟨-,h⟩
       ·omega
       ·rw[av,af (by omega)] at e;have:n.kids.contains 0=true:=cW.2 (e▸aw _);rw[h] at this
        cases this
      generalize n.kids.getD 0 0=g0 at*;have c8:(((g0:Nat):Int) !=0)=true:=by simp;omega
      have gc:wAt t n kn cn (4*t+j)=n.kids[j]:=by
       unfold wAt;rw[if_neg (by omega),if_neg (by omega),if_neg (by omega),if_pos (by omega),dl,av,af jc]
       rfl
      have tc:n.kids.take (j+1)=n.kids.take j++[n.kids[j]]:=by rw[aH jc]
      have cj:(n.kids.take j).length=j:=by rw[aL];omega
      have bc:=fun W (hW:Below w.heap.size w W) e3 e5=>HG.f W hW e3 e5 (4*t+j) (by omega);rw[gc] at bc;have b4:((4*t+j:Nat):Int)=4*(t:Int)+(j:Int):=by omega
      rw[b4] at bc;generalize n.kids[j]=xc at*;have HC:=kq6 bc tc cj gb rows a0;have m5:IntKind.i64.wrap (4*(t:Int)+(j:Int))=4*(t:Int)+(j:Int):=az _ (by omega);clear bc tc cj gc gb rows jc b4 a0 q4 k13 a9 bj h0 hlt2;gi_wp2_with fail;refine HC.f.mono ?_;rintro e w8 ⟨rfl,rfl⟩;gi_wp2_with fail;clear y0 y1 y2 y3 k12 c8;have HD:=kq2 (HC.d).drew (HC.e).drew;obtain⟨I,ad,ai⟩:=I9 (fun w'=>w'.heap[b12]?=some (.cells #[.func (.func 198) #[] #[PV w.heap.size,PV (w.heap.size+1)]] 219 (0,0))) (fun w'=>w'.heap[b12+1]?=some (.cells #[.slice Ak kn ck,vv,vc,Xu sz] 215 (0,0)));have ap:=fun x:Fq I=>(ad _ x.ok).1;have ar:=fun x:Fq I=>(ad _ x.ok).2;have o0:∀x:Fq I,x.to.cell? ⟨b12,0,none⟩=some (.func (.func 198) #[] #[PV w.heap.size,PV (w.heap.size+1)]):=fun x=>by rw[cell_of_block (ap x)];rfl
      obtain⟨y0,y1,y2,y3⟩:=iB ar;have an:I wr.drew:=ai _ HD.a.k12 HD.a.k13;have HI:=If ai;clear ad ai ap ar;refine Jb I (fun i=>[11].contains i) (.take 0 (.take 1 (.take 2 (.take 3 (.take 4 (.take 5 (.take 6 (.go 7 (.go 8 (.go 9 (.take 10 (.go 11 .nil)))))))))))) (by kernel_rfl) (by kernel_rfl) (by kernel_rfl) an ?_;clear an;generalize wr.drew=W at*
      iterate 7
       refine' qT ?_ ?_;rotate_left
       ·intro x;go_simp
        try rfl
       try simp only[pu]
      refine qD fun K hK=>?_;go_simp;refine(HC.a _ HD.a.below HD.a.b3 HD.a.b5).mono ?_;rintro e w3 ⟨rfl,rfl⟩
      try go_simp
      refine hK.out _ _ (HI.out _ HD.a.k12 HD.a.k13) ?_;clear hK K
      try simp only[pu]
      refine qD fun K hK=>?_;go_simp;have g2:eX w (W.alloc (Xf xc)) ps hh b12 (.slice Ak kn ck) (vv) (vc) sz:=HD.a.grown (row:=none) (World.grownBy_alloc _ _ _) (fun g e=>nomatch e)
      try go_simp
      refine hK.out _ _ (HI.out _ g2.k12 g2.k13) ?_;clear hK K
      try simp only[pu]
      obtain⟨v',W2,hr,ho,hg,hv⟩:=jF HD.b.c (by rw[HC.c];omega) xc HD.a.size 59;have g3:=HD.a.grown hg fun g e=>(HD.b.c.ge g e).1;have gs:=sN HD.a HD.b ho hg hv;obtain⟨sA,sM,sC,rfl⟩:=ho.slice;clear ho hg hv;have HS:=If gs;clear gs;refine qD (fun K hK=>kE _ _ _ rfl rfl rfl hr ?_);clear hr
      try go_simp
      refine hK.out _ _ (HI.out _ g3.k12 g3.k13) ?_;clear hK K
      try simp only[pu]
      refine' qT ?_ ?_;rotate_left
      ·intro x;go_simp
       try rfl
      try simp only[pu]
      clear y0 y1 y2 y3;have k13:=g3.k13;obtain⟨y0,y1,y2,y3⟩:=Fy k13;obtain⟨f0,f1,f2,f3⟩:=fO k13;clear k13 g3;refine qL fun K hK=>?_;go_simp;clear y0 f0 y1 f1 y2 f2 y3 f3;generalize hW:W2.setCell ⟨b12+1,2,none⟩ (.slice sA sM sC)=wr2 at*
      try go_simp
      refine hK.out _ _ trivial ?_;clear hK K
      try simp only[pu]
      refine Ja ?_;have HJ:=HS;generalize Value.slice sA sM sC=vc2 at*;clear hW HS g2 HD HI o0 I W2;generalize W.heap.size=wr2q;clear W;gi_wp2_with fail;refine⟨⟨j+1,by omega,by simp,vc2,HJ.out.1,by rw[HC.b];exact HJ.out.2⟩,?_⟩
      show kn+1-((j:Int)+1).toNat<kn+1-(j:Int).toNat
      omega
     ·have tc:n.kids.take j=n.kids:=aT (by omega);rw[tc] at rows;have HC:=kq3 gb rows a0;clear gb rows a0 k13 tc
      by_cases hc0:cn=0
      ·have cx:j=0:=by omega
       subst cx;have q0:n.kids.getD 0 0=0:=by rw[av,aS (by omega)];rfl
       rw[q0] at HC;have ca:((0:Nat):Int)<=kn:=by omega
       clear q0 q4 a9 bj hlt2;gi_wp2_with fail;refine HC.c.mono ?_;rintro e w8 ⟨rfl,rfl⟩;gi_wp2_with fail
       gi_meet
       case rel=>exact⟨vc,HC.a,HC.b⟩
      ·have c4:j=kn+1:=by omega
       subst c4;have ca:¬(((kn+1:Nat):Int)<=kn):=by omega
       have d9:¬((kn:Int)+1<=kn):=by omega
       have d':¬(kn+1<=kn):=by omega
       clear q4 a9 bj hlt2;gi_wp2_with fail;refine⟨fun _ _=>trivial,?_⟩;gi_wp2_with fail
       gi_meet
       case rel=>exact⟨vc,HC.a,HC.b⟩
   case rest=>
    clear R1;obtain⟨vc,gb,rows⟩:=hcut;have au:=HG.l;have bm:=HG.i;obtain⟨Av,cv,rfl⟩:∃A c,vv=.slice A kn c:=by have:=rows.v.slice2;rw[bm.vals,HG.j] at this;exact this
    obtain⟨Ac,cc,rfl⟩:∃A c,vc=.slice A cn c:=by have:=rows.c.slice2;rw[HG.k] at this;exact this
    have bb:CallsIn Fence.wide 6 prog 199 #[Xi t,eC (.slice Ak kn ck) (.slice Av kn cv) (.slice Ac cn cc) n.size] wc _:=callsIn_wide.2 (pV bm rows.k.hrow rows.v.hrow rows.c.hrow);have bo:=fun W (hW:Below wc.heap.size wc W)=>(callsIn_wide (n:=6)).2 (tS (w:=W) bm (rows.k.hrow.below hW) (rows.v.hrow.below hW) (rows.c.hrow.below hW));unfold eC at bb bo;rw[au] at bb;simp only[au,HG.j,HG.k] at bo;have k13:=gb.k13;obtain⟨y0,y1,y2,y3⟩:=Fy k13;have HC:=kq3 bo gb rows;have HF:=If bb;clear bo gb rows k13 bb bm au;gi_wp2_with fail;refine HF.out.mono ?_;rintro e w8 ⟨rfl,a8⟩;clear y0 y1 y2 y3 HF;have g8:=HC.b.up a8;have k13:=g8.k13;obtain⟨y0,y1,y2,y3⟩:=Fy k13;have H8:=kq3 a8 g8 (HC.c.below a8);clear a8 g8 k13;gi_wp2_with fail;refine(HC.a _ H8.a).mono ?_;rintro e w9 ⟨Bx,rfl,dd,rB,rG,bs⟩;have g9:=H8.b.up bs;have r9:=H8.c.below bs;obtain⟨f,hf⟩:=Ii (wAt t n kn cn);rw[hf] at rG;have cw:∀j,j<6*t->f j<2^64:=fun j hj=>HG.m _ (by
     unfold bnWords;rw[HG.j,HG.k,hf];exact ay.2 ⟨j,aZ.2 hj,rfl⟩)
    have dn:=(gl rG);have bq:=tC (by omega) cw rB rG (fun k=>k=w8.heap.size+1) rfl;have k13:=g9.k13;have H9:=kq3 g9 r9 hf;clear g9 r9 hf y0 y1 y2 y3 bs rB rG;gi_wp2_with fail;refine wpIn_rangeFunc_ownH rfl h1 (gf:=244) (lb:=#[PV Bx]) rfl trivial (enters_of func244 (by kernel_rfl) rfl)
     bq ir.trans (fun W l o o' q1 q2 q3 q4=>⟨by simp,fun k hk=>World.putObj_heap_other (by omega)⟩) (aa _ _) (fun _=>rfl)
     (fun _ W=>Below w9.heap.size w9 W)
     (fun cd a4 _=>cd=.ret/\∃x∈a4,x.1.2≠f x.1.1)
     (fun a4 W W' row hs hg hr=>⟨hg.os.trans hs.os,hg.tape.trans hs.tape,hg.output.trans hs.output,aB hs.size hg.size,fun k hk=>(hg.block k (aJ hk hs.size) (fun e=>by have:=(hr k e.symm).1;omega)).trans (hs.block k hk)⟩)
     (fun _ _ _ _ _ hs _ _=>hs)
     (aa _ _)
     (fun x a' _=>a'= { tmps:=#[PV ps,Xi t,Xu hh,PV w.heap.size,undef,PV (w.heap.size+1),PV (w.heap.size+1+1),PV (w.heap.size+1+1+1),Xi 0,Xi 7,Xi (6*(t:Int)),Xi 0,PV b12,PV (b12+1),u14,u15,Xi x.1.1,Xu x.1.2,.tuple #[Xi 0,Xi 7],PV ps,.tuple #[Xi 0,Xi 7],Xi 0,Xi 7,Xi 7,.bool false,undef,undef,Xi t,.bool true,.bool false,undef,.tuple #[Xi (6*(t:Int)),Xi 0],PV ps,Xu hh,.tuple #[Xi (6*(t:Int)),Xi 0],Xi (6*(t:Int)),Xi 0,.bool false,Xi 0,.bool false,undef,undef,.bool false,Xi (6*(t:Int)),Xi t,Xi (6*(t:Int)),.bool false,undef,.func (.func 198) #[] #[PV w.heap.size,PV (w.heap.size+1)],.func (.func 198) #[] #[PV w.heap.size,PV (w.heap.size+1)],Xu kn,Xi t,Xi (2*(t:Int)),Xi (2*(t:Int)-1),Xu (2*(t:Int)-1),.bool false,undef,.func (.func 198) #[] #[PV w.heap.size,PV (w.heap.size+1)],Xu sz,.agg #[.slice none 0 0,.slice none 0 0,.slice none 0 0,Xu sz],.func (.func 198) #[] #[PV w.heap.size,PV (w.heap.size+1)],Xu kn,Xi kn,Xi kn,.bool false,u65,u66,u67,u68,u69,u70,u71,u72,u73,u74,u75,u76,u77,u78,u79,u80,u81,u82,u83,u84,u85,u86,u87,u88,u89,u90,u91,u92,u93,u94,u95,u96,u97,u98,u99,u100,u101,u102,u103,u104,u105,u106,u107,u108,u109,u110,u111,u112,Xi t,.agg #[.slice Ak kn ck,(.slice Av kn cv),(.slice Ac cn cc),Xu sz],.bool true,.bool false,u117,Xi t,.agg #[.slice Ak kn ck,(.slice Av kn cv),(.slice Ac cn cc),Xu sz],.func (.func 244) #[] #[PV Bx],Xi x.1.1,Xu x.1.2,u123,u124,u125,u126,u127,u128,u129],defers:=[] })
     (fun x a' _ X W' row hs hg hr=>hs)
     ?assign ?body ?done ?stop
    case assign=>
     rintro l a4 ⟨⟨i,x⟩,hx⟩ W K hI hK;exact qFcab
    case body=>
     rintro l a4 ⟨⟨i,x⟩,hx⟩ a' W eb _ hI rfl hlt;simp only at hx⊢;have g:=H9.a.up hI;have k12:W.cell? ⟨b12,0,none⟩=some (.func (.func 198) #[] #[PV w.heap.size,PV (w.heap.size+1)]):=by rw[cell_of_block g.k12];rfl
     have bt:CallsIn Fence.wide 4 prog 198 #[Xi i,PV w.heap.size,PV (w.heap.size+1)] W _:=callsIn_wide.2 (HG.f W g.below g.b3 g.b5 i hx.1);rw[H9.c] at bt;have e6:=g.b6;have e7:=g.b7;obtain⟨c0,c1,c2,c3⟩:=Fy e6;obtain⟨p0,p1,p2,p3⟩:=fO e6;have d0:(W).cell? ⟨w.heap.size+1+1+1,0,none⟩=some (Xi 0):=by rw[cell_of_block e7];rfl
     have q0:(W).frozen? ⟨w.heap.size+1+1+1,0,none⟩=false:=AT e7;have HH:=kq2 hI bt;have HX:=If hx;clear hI bt bq g e6 e7
     by_cases hfx:x=f i
     ·have hq:(((f i:Nat):Int) !=x)=false:=by simp;omega
      gi_wp2_with fail;refine(CallsIn.inRound l HH.b).mono ?_;rintro e dc ⟨rfl,rfl⟩;gi_wp2_with fail;exact⟨KeepsFrom.refl _ _,ir.refl _ _,HH.a⟩
     ·have hq:(((f i:Nat):Int) !=x)=true:=by simp;omega
      have ee:¬((f i:Nat):Int)=x:=by omega
      gi_wp2_with fail;refine(CallsIn.inRound l HH.b).mono ?_;rintro e dc ⟨rfl,rfl⟩;gi_wp2_with fail;exact⟨((((((KeepsOthers.setCell _ _ _).trans (KeepsOthers.setCell _ _ _)).trans (KeepsOthers.setCell _ _ _)).trans (KeepsOthers.setCell _ _ _)).trans (KeepsOthers.setCell _ _ _)).from _),rfl,⟨⟨(i,x),HX.out⟩,by simp,hfx⟩⟩
    case done=>
     rintro D ys W hD hS hI hK;have g:=H9.a.up hI;have e6:=g.b6;have e7:=g.b7;have k13:=g.k13;have eg:=H9.a.size;have dv:w.heap.size+4<=b12:=Nat.le_of_eq g.at12.symm;have dk:b12+2<=D:=by omega
     obtain⟨y0,y1,y2,y3⟩:=Fy k13;obtain⟨c0,c1,c2,c3⟩:=Fy e6;obtain⟨p0,p1,p2,p3⟩:=fO e6;have d0:(W).cell? ⟨w.heap.size+1+1+1,0,none⟩=some (Xi 0):=by rw[cell_of_block e7];rfl
     have q0:(W).frozen? ⟨w.heap.size+1+1+1,0,none⟩=false:=AT e7;have a6:=oZ (u0:=.slice Ak kn ck) (u1:=(.slice Av kn cv)) (u2:=(.slice Ac cn cc)) (u3:=Xu sz) e6;have B6:=oY (u0:=.slice Ak kn ck) (u1:=(.slice Av kn cv)) (u2:=(.slice Ac cn cc)) (u3:=Xu sz) (b:=w.heap.size+1+1) g.below (by omega);have o6:∀k,k≠w.heap.size+1+1->_:=fun k hk=>sy (w:=W) (b:=w.heap.size+1+1) (k:=k) (u0:=.slice Ak kn ck) (u1:=(.slice Av kn cv)) (u2:=(.slice Ac cn cc)) (u3:=Xu sz) hk;have a7:=heap_setCell (i:=0) (v:=Xi 0) ((o6 (w.heap.size+1+1+1) (by omega)).trans e7);have HK:=kq6 hI hK a6 B6 o6 a7;clear hI hK hS bq g e6 e7 k13 a6 B6 o6 a7;gi_wp2_with fail;obtain⟨hI,hK,a6,B6,o6,a7⟩:=HK.out;clear HK;generalize dp:((((W.setCell ⟨w.heap.size+1+1,0,none⟩ (.slice Ak kn ck)).setCell ⟨w.heap.size+1+1,1,none⟩ ((.slice Av kn cv))).setCell ⟨w.heap.size+1+1,2,none⟩ ((.slice Ac cn cc))).setCell ⟨w.heap.size+1+1,3,none⟩ (Xu sz))=W5 at*;have c':W5.heap[D]?=some (.deferred (some [])):=(o6 D (by omega)).trans hK;have n7:∀k,k≠w.heap.size+1+1+1->(W5.setCell ⟨w.heap.size+1+1+1,0,none⟩ (Xi 0)).heap[k]?=W5.heap[k]?:=fun k hk=>FB hk;have ch:=(n7 D (by omega)).trans c';have b6:=(n7 (w.heap.size+1+1) (by omega)).trans a6;have B7:=B6.setCell (p:=⟨w.heap.size+1+1+1,0,none⟩) (by show w.heap.size<=w.heap.size+1+1+1;omega) (Xi 0);generalize ds:W5.setCell ⟨w.heap.size+1+1+1,0,none⟩ (Xi 0)=W6 at*;refine⟨by simp,.inl ⟨_,_,rfl,run_takeDeferred ch,?_⟩⟩;have bx:∀k,k≠D->(W6.putObj D (.deferred none)).heap[k]?=W6.heap[k]?:=fun k hk=>World.putObj_heap_other hk;have z6:=(bx (w.heap.size+1+1) (by omega)).trans b6;have z7:=(bx (w.heap.size+1+1+1) (by omega)).trans a7;have BF:Below w.heap.size w (W6.putObj D (.deferred none)):=B7.trans (belowK_b (w:=w) Ih W6 D _ _ (by omega) ch rfl rfl);have RF:=H9.b.lift (W':=W6.putObj D (.deferred none)) (D':=w.heap.size) (by omega) fun k hk1 b'=>((bx k (by omega)).trans ((n7 k (by omega)).trans (o6 k (by omega)))).trans (hI.block k b');obtain⟨e0,e1,e2,e3⟩:=Fy z6;have d0:(W6.putObj D (.deferred none)).cell? ⟨w.heap.size+1+1+1,0,none⟩=some (Xi 0):=by rw[cell_of_block z7];rfl
     refine⟨.tuple #[.agg #[.slice Ak kn ck,(.slice Av kn cv),(.slice Ac cn cc),Xu sz],Xi 0],?_,.slice Ak kn ck,(.slice Av kn cv),(.slice Ac cn cc),by rw[HG.l];rfl,RF,BF⟩
     simp[results,f166,go_sem,e0,e1,e2,e3,d0]
    case stop=>
     rintro D cd a4 W _ ⟨tl,c7⟩ ⟨rfl,x,hx,cb⟩
     exfalso
     have hm:x.1∈gN f (6*t):=by rw[<-c7];exact aE _ (ay.2 ⟨x,hx,rfl⟩)
     obtain⟨j,_,e⟩:=ay.1 hm;rw[<-e] at cb;exact cb rfl