/- Binary trees with their blobs: a pair put: plain. -/
import Derived.Test.YtpljannolpapgaaGreatDoorVBf
import Derived.Test.YtpljannolpapgaaGreatDoorVMa
import Derived.Test.YtpljannolpapgaaGreatDoorVPr
set_option maxRecDepth 100000
set_option maxHeartbeats 6400000
namespace Go.Proofs.YtpljannolpapgaaGreatDoor
section
open Lf
namespace Tr
variable{S:St}{d:It}{o:Nat->Nat}{t:Tr}
def gV(l:List (List UInt8×List UInt8))(a b:List UInt8):List (List UInt8×List UInt8):=
 l.filter (fun p=>decide (Fu p.1 a<0))++(a,b)::l.filter (fun p=>decide (0<Fu p.1 a))
theorem AQ{a:List UInt8}{L M:List (List UInt8×List UInt8)}(x:List (List UInt8×List UInt8))(hx:∀p∈x,p.1=a)(hL:∀p∈L,Fu p.1 a<0)(hM:∀p∈M,Fu a p.1<0):
 (L++x++M).filter (fun p=>decide (Fu p.1 a<0))=L/\(L++x++M).filter (fun p=>decide (0<Fu p.1 a))=M:=by
 have h1:L.filter (fun p=>decide (Fu p.1 a<0))=L:=df.2 fun p hp=>by simpa using hL p hp
 have h2:M.filter (fun p=>decide (0<Fu p.1 a))=M:=df.2 fun p hp=>by have:=hM p hp;rw[ie] at this;simp;omega
 have h3:L.filter (fun p=>decide (0<Fu p.1 a))=[]:=cB.2 fun p hp=>by have:=hL p hp;simp;omega
 have h4:M.filter (fun p=>decide (Fu p.1 a<0))=[]:=cB.2 fun p hp=>by have:=hM p hp;rw[ie] at this;simp;omega
 have h5:x.filter (fun p=>decide (Fu p.1 a<0))=[]:=cB.2 fun p hp=>by rw[hx p hp,fX];simp
 have h6:x.filter (fun p=>decide (0<Fu p.1 a))=[]:=cB.2 fun p hp=>by rw[hx p hp,fX];simp
 constructor
 ·rw[dG,dG,h1,h4,h5]
  simp
 ·rw[dG,dG,h2,h3,h6]
  simp
theorem rO(a b:List It):pairs (a++b)=pairs a++pairs b:=by unfold pairs;simp
theorem oO{a b:List UInt8}{tl tr mid:List It}(hd:d.k=a/\d.v=b)(hm:∀x∈mid,x.k=a)(h1:∀x∈tl,Fu x.k a<0)(h2:∀x∈tr,Fu a x.k<0):
 pairs (tl++d::tr)=gV (pairs (tl++mid++tr)) a b:=by
 obtain⟨f1,f2⟩:=AQ (a:=a) (L:=pairs tl) (M:=pairs tr) (pairs mid) (fun p hp=>by obtain⟨x,hx,rfl⟩:=aA.1 hp;exact hm x hx) (fun p hp=>by obtain⟨x,hx,rfl⟩:=aA.1 hp;exact h1 x hx) (fun p hp=>by obtain⟨x,hx,rfl⟩:=aA.1 hp;exact h2 x hx);unfold gV;rw[rO,rO,rO,f1,f2]
 show pairs tl++(d.k,d.v)::pairs tr=_
 rw[hd.1,hd.2]
theorem gu.frame{S S':St}(h:gu S d)(h1:reco S' d.kh=reco S d.kh)(h2:reco S' d.vh=reco S d.vh):gu S' d:=⟨h1.trans h.k,h2.trans h.v,h.lk,h.lv⟩
theorem fC.some{Ok:Tr->Prop}(h:fC Ok S o t):∀y∈eB t.its,reco S y≠none:=by
 intro y hy;obtain⟨d,hd,e⟩:=gU.1 hy;have hb:=h.blobs d hd
 rcases e with rfl | rfl | rfl
 ·obtain⟨n,hn⟩:=h.at'.rec d.h (aA.2 ⟨d,hd,rfl⟩);rw[hn]
  simp
 ·rw[hb.k]
  simp
 ·rw[hb.v]
  simp
theorem fC.frame{Ok:Tr->Prop}{S S':St}{o o':Nat->Nat}(h:fC Ok S o t)(hf:Fw S' o')(hs:∀y∈eB t.its,reco S' y=reco S y):fC Ok S' o' t where
 fit:=hf
 at':=h.at'.frame fun y hy=>by
  obtain⟨d,hd,rfl⟩:=aA.1 hy;exact hs _ (gU.2 ⟨d,hd,aa rfl⟩)
 ok:=h.ok
 nd:=h.nd
 blobs d hd:=(h.blobs d hd).frame (hs _ (gU.2 ⟨d,hd,ae (aa rfl)⟩)) (hs _ (gU.2 ⟨d,hd,ae (ae rfl)⟩))
 sorted:=h.sorted
theorem xF(hf:Fw S o){a b:List UInt8}(ha:a.length<=1000)(hb:b.length<=1000)(hr:fc S 7 3):
 ∃ka vb hn S2 S3 o3,itemsM S a b=some ((ka,vb),S2)/\ft S2 ⟨ka,vb,0,0,0,1⟩=((hn,0),S3)/\pJ S a b/\Fw S3 o3/\reco S ka=none/\reco S vb=none/\reco S hn=none/\ka≠vb/\ka≠hn/\vb≠hn/\
  reco S3 ka=some (FK a)/\reco S3 vb=some (FK b)/\reco S3 hn=some (eM ⟨ka,vb,0,0,0,1⟩)/\(∀h',h'≠ka->h'≠vb->h'≠hn->reco S3 h'=reco S h')/\ej S S3 7 3:=by
 obtain⟨ka,S1,o1,e1,f1,n1,l1,q1,g1,k1⟩:=oL hf ha (hr.mono (by omega) (by omega));obtain⟨vb,S2,o2,e2,f2,n2,l2,q2,g2,k2⟩:=oL f1 hb (fc.grew (hr.mono (p':=3+3) (q':=1+1) (by omega) (by omega)) g1);have ad:ka≠vb:=by rintro rfl;rw[l1] at n2;cases n2
 have r2:fc S2 1 1:=fc.grew (hr.mono (p':=(3+3)+1) (q':=(1+1)+1) (by omega) (by omega)) (g1.trans g2);have ar:=(fL f1 l1).2.1;have a0:=(fL f2 l2).2.1;have au:ji ⟨ka,vb,0,0,0,1⟩:=⟨ar,a0,by simp,by simp,by simp,by simp⟩;obtain⟨hn,S3,o3,e3,f3,n3,l3,q3,g3,k3⟩:=Cq f2 au r2;have ai:ka≠hn:=by rintro rfl;rw[q2 _ ad,l1] at n3;cases n3
 have al:vb≠hn:=by rintro rfl;rw[l2] at n3;cases n3
 have an:itemsM S a b=some ((ka,vb),S2):=by
  unfold itemsM;rw[e1];simp only;rw[e2];simp
 refine⟨ka,vb,hn,S2,S3,o3,an,e3,⟨⟨ha,hb,k1,by rw[e1];exact k2⟩,fun p S4 h4=>?_⟩,f3,n1,(q1 _ ad.symm).symm.trans n2,((q1 _ ai.symm).symm.trans (q2 _ al.symm).symm).trans n3,ad,ai,al,(q3 _ ai).trans ((q2 _ ad).trans l1),(q3 _ al).trans l2,l3,fun h' w1 w2 w3=>(q3 h' w3).trans ((q2 h' w2).trans (q1 h' w1)),((g1.trans g2).trans g3).mono (by omega) (by omega)⟩;rw[an] at h4;injection h4 with h4
 injection h4 with _ e
 rw[<-e];exact k3
theorem ze{Ok:Tr->Prop}{S S3 S5:St}{o o5:Nat->Nat}{t u tl tr:Tr}{mid:List It}(h:fC Ok S o t)(hi:t.its=tl.its++mid++tr.its)(iu:u.its=tl.its++d::tr.its)
 (hd:∀y,y=d.h\/y=d.kh\/y=d.vh->reco S y=none) (hdn:d.kh≠d.vh/\d.kh≠d.h/\d.vh≠d.h) (f5:Fw S5 o5) (au:At S5 u) (ou:Ok u)
 (h3:∀y∈eB t.its,reco S3 y=reco S y) (hb3:gu S3 d) (h5:∀y,y∉t.hs->y≠d.h->reco S5 y=reco S3 y)
 (h1:∀x∈tl.its,Fu x.k d.k<0) (h2:∀x∈tr.its,Fu d.k x.k<0):fC Ok S5 o5 u:=by
 have ar:∀x,x∈tl.its\/x∈tr.its->x∈t.its:=fun x hx=>by
  rw[hi];rcases hx with hx | hx<;>simp[hx]
 have ad:∀y∈eB t.its,y≠d.h/\y≠d.kh/\y≠d.vh:=fun y hy=>by
  have:=h.some y hy;refine⟨?_,?_,?_⟩<;>rintro rfl
  ·exact this (hd _ (aa rfl))
  ·exact this (hd _ (ae (aa rfl)))
  ·exact this (hd _ (ae (ae rfl)))
 have ai:=h.nd;have e:eB t.its=eB tl.its++(eB mid++eB tr.its):=by rw[hi,iX,iX,bK]
 rw[e] at ai ad;obtain⟨n1,n2,n3⟩:=av.1 ai;obtain⟨n4,n5,n6⟩:=av.1 n2;refine⟨f5,au,ou,?_,?_,?_⟩
 ·rw[iu,iX,mx];refine av.2 ⟨n1,?_,fun y hy z hz q=>?_⟩
  ·refine aE.2 ⟨?_,aE.2 ⟨?_,aE.2 ⟨?_,n5⟩⟩⟩
   ·simp only[ag,not_or];exact⟨fun q=>hdn.2.1 q.symm,fun q=>hdn.2.2 q.symm,fun hm=>(ad d.h (by simp[hm])).1 rfl⟩
   ·simp only[ag,not_or];exact⟨hdn.1,fun hm=>(ad d.kh (by simp[hm])).2.1 rfl⟩
   ·exact fun hm=>(ad d.vh (by simp[hm])).2.2 rfl
  ·subst q;have hw:=ad y (by simp[hy]);simp only[ag] at hz;rcases hz with hz | hz | hz | hz
   ·exact hw.1 hz
   ·exact hw.2.1 hz
   ·exact hw.2.2 hz
   ·exact n3 y hy y (by simp[hz]) rfl
 ·intro x hx;rw[iu] at hx;have hold:x∈t.its->gu S5 x:=fun hm=>by
   have hs:=(h.hs).2 x hm;have hk:x.kh∈eB t.its:=gU.2 ⟨x,hm,ae (aa rfl)⟩;have hv:x.vh∈eB t.its:=gU.2 ⟨x,hm,ae (ae rfl)⟩;refine(h.blobs x hm).frame ((h5 _ hs.1 ?_).trans (h3 _ hk)) ((h5 _ hs.2 ?_).trans (h3 _ hv))
   ·exact(ad _ (by rw[<-e];exact hk)).1
   ·exact(ad _ (by rw[<-e];exact hv)).1
  rcases aj.1 hx with hx | hx
  ·exact hold (ar x (aa hx))
  ·rcases ag.1 hx with rfl | hx
   ·have al:∀y,y=x.h\/y=x.kh\/y=x.vh->y∉t.hs:=fun y hy hm=>by
     obtain⟨z,hz,rfl⟩:=aA.1 hm;exact h.some _ (gU.2 ⟨z,hz,aa rfl⟩) (hd _ hy)
    exact hb3.frame (h5 _ (al _ (ae (aa rfl))) hdn.2.1) (h5 _ (al _ (ae (ae rfl))) hdn.2.2)
   ·exact hold (ar x (ae hx))
 ·have an:=h.sorted;rw[hi] at an;obtain⟨s1,s2,s3⟩:=bA.1 an;obtain⟨s4,s5,s6⟩:=bA.1 s1;rw[iu];refine bA.2 ⟨s4,aT.2 ⟨fun y hy=>h2 y hy,s2⟩,fun x hx y hy=>?_⟩;rcases ag.1 hy with rfl | hy
  ·exact h1 x hx
  ·exact s3 x (by simp[hx]) y hy
theorem uW{jn:Jn}{Ok:Tr->Prop}(J:kV jn Ok){S S3:St}{o o3:Nat->Nat}(h:fC Ok S o t)(hc:t.its.length<98)(f3:Fw S3 o3)(ha:d.k.length<=1000)(hv:d.v.length<=1000)
 (hd:∀y,y=d.h\/y=d.kh\/y=d.vh->reco S y=none) (hdn:d.kh≠d.vh/\d.kh≠d.h/\d.vh≠d.h) (hk:reco S3 d.kh=some (FK d.k)) (hvv:reco S3 d.vh=some (FK d.v)) {n0:Nd} (hn:reco S3 d.h=some (eM n0)) (hn1:n0.key=d.kh) (hn2:n0.val=d.vh)
 (h3:∀y∈eB t.its,reco S3 y=reco S y):
 ∃u old S5 tl tr mid,insertOkM jn S3 t.root d.h=some ((u.root,old),S5)/\fC Ok S5 o3 u/\t.its=tl++mid++tr/\u.its=tl++d::tr/\(∀x∈tl,Fu x.k d.k<0)/\(∀x∈tr,Fu d.k x.k<0)/\ej S3 S5 0 0/\
  (∀y,y∉t.hs->y≠d.h->reco S5 y=reco S3 y)/\((old=0/\mid=[])\/∃(x:It) (n1:Nd),mid=[x]/\old=x.h/\x.k=d.k/\reco S5 x.h=some (eM n1)/\n1.key=x.kh/\n1.val=x.vh):=by
 have h':=h.frame f3 h3;have an:=h.hs;have ad:d.h∉t.hs:=fun hm=>by
  obtain⟨z,hz,e⟩:=aA.1 hm;exact h.some _ (gU.2 ⟨z,hz,aa e.symm⟩) (hd _ (aa rfl))
 have a6:=jt f3 ha hk;have a0:=gw f3 hn;have bd:=(fL f3 hn).1;obtain⟨tl,m,tr,S4,e4,f4,al,ar,ba,bb,o4,g4,hm,a2,a1⟩:=sn J d.k 200 f3 h'.at' h'.ok an.1 (fun x hx=>⟨h'.blobs x hx,(an.2 x hx).1⟩) h'.sorted (by omega) (by omega);have a8:reco S4 d.h=some (eM n0):=(o4 _ ad).trans hn;obtain⟨mid,ai,a5⟩:∃mid:List It,t.its=tl.its++mid++tr.its/\((m=0/\mid=[])\/∃(x:It) (n1:Nd),mid=[x]/\m=x.h/\x.k=d.k/\reco S4 x.h=some (eM n1)/\n1.key=x.kh/\n1.val=x.vh):=by
  rcases hm with⟨e0,e⟩ | ⟨x,n1,e0,ek,e,q1,q2,q3⟩
  ·exact⟨[],by rw[e];simp,aa ⟨e0,rfl⟩⟩
  ·exact⟨[x],by rw[e];simp,ae ⟨x,n1,rfl,e0,ek,q1,q2,q3⟩⟩
 have a4:t.hs=tl.hs++(mid.map (·.h))++tr.hs:=by unfold Tr.hs;rw[ai];simp
 have a3:=an.1;rw[a4] at a3 ad;obtain⟨n1,n2,n3⟩:=av.1 a3;obtain⟨n4,n5,n6⟩:=av.1 n1;simp only[aj,not_or] at ad;have a9:(tl.hs++d.h::tr.hs).Nodup:=av.2 ⟨n4,aE.2 ⟨ad.2,n2⟩,fun x hx y hy q=>by
  subst q;rcases ag.1 hy with q | q
  ·exact ad.1.1 (q▸hx)
  ·exact n3 x (by simp[hx]) x q rfl⟩
 have a7:tl.its.length+tr.its.length<99:=by rw[ai] at hc;simp at hc;omega
 obtain⟨u,S5,e5,D5,bc,iu⟩:=J.join f4 al ar ba bb a8 hn1 hn2 a9 a7;have au:∀y,y∉t.hs->y≠d.h->reco S5 y=reco S3 y:=fun y hy hy2=>by
  refine(D5.other y fun hm=>?_).trans (o4 y hy);rw[a4] at hy;simp only[aj,not_or] at hy;rcases aj.1 hm with hm | hm
  ·exact hy.1.1 hm
  ·rcases ag.1 hm with hm | hm
   ·exact hy2 hm
   ·exact hy.2 hm
 refine⟨u,m,S5,tl.its,tr.its,mid,?_,?_,ai,iu,a2,a1,g4.trans D5.grew,au,?_⟩
 ·unfold insertOkM;rw[a0];simp only;rw[hn1,a6];rw[if_neg (by
   have:isT S3 d.h=true:=by unfold isT;rw[a0];simp
   rw[h'.at'.isT f3,this];simp;omega)]
  simp only;rw[e4];simp only;unfold jq;rw[e5];rfl
 ·exact ze h ai iu hd hdn D5.fit D5.at' bc h3 ⟨hk,hvv,ha,hv⟩ au a2 a1
 ·rcases a5 with⟨e0,e⟩ | ⟨x,a',ex,e0,ek,q1,q2,q3⟩
  ·exact aa ⟨e0,e⟩
  ·refine ae ⟨x,a',ex,e0,ek,(D5.other _ fun hm=>?_).trans q1,q2,q3⟩;rw[ex] at n6 n3 ad;simp only[aL,List.map_nil] at n6 n3 ad;rcases aj.1 hm with hm | hm
   ·exact n6 x.h hm x.h (by simp) rfl
   ·rcases ag.1 hm with hm | hm
    ·exact ad.1.2 (by simp[hm])
    ·exact n3 x.h (by simp) x.h hm rfl
def tm(S S':St)(l:List It):Prop:=∀y,y∉eB l->reco S y≠none->reco S' y=reco S y
theorem qFqab{P:Prop}(h:P:=by
 ·rw[iu,iX,mx] at hy;rw[ad,iX,iX];simp only[aj,ag] at hy⊢
  rcases hy with q | rfl | rfl | rfl | q
  ·exact aa (aa (aa q))
  ·exact ae r3
  ·exact ae r1
  ·exact ae r2
  ·exact aa (ae q)):P:=h
theorem DI{jn:Jn}{Ok:Tr->Prop}(J:kV jn Ok)(h:fC Ok S o t)(hc:t.its.length<98){a b:List UInt8}(ha:a.length<=1000)(hb:b.length<=1000)(hr:fc S 7 3)(hno:∀d∈t.its,d.k≠a):
 ∃u S' o',pJ S a b/\treePutM jn S t.root a b=some (u.root,S')/\fC Ok S' o' u/\pairs u.its=gV (pairs t.its) a b/\u.its.length=t.its.length+1/\ej S S' 7 3/\tm S S' t.its/\∀y∈eB u.its,y∈eB t.its\/reco S y=none:=by
 obtain⟨ka,vb,hn,S2,S3,o3,a0,a2,a3,f3,r1,r2,r3,d1,d2,d3,l1,l2,l3,q3,g3⟩:=xF h.fit ha hb hr;have al:∀y,reco S y≠none->reco S3 y=reco S y:=fun y hy=>q3 y (by rintro rfl;exact hy r1) (by rintro rfl;exact hy r2) (by rintro rfl;exact hy r3);obtain⟨u,old,S5,tl,tr,mid,e5,B5,ad,iu,a1,au,g5,ar,an⟩:=uW J (d:=⟨hn,ka,vb,a,b⟩) h hc f3 ha hb (by rintro y (rfl | rfl | rfl)<;>assumption) ⟨d1,d2,d3⟩ l1 l2 l3 rfl rfl (fun y hy=>al y (h.some y hy));have ai:old=0/\mid=[]:=by
  rcases an with q | ⟨x,n1,ex,_,ek,_⟩
  ·exact q
  ·exact absurd ek (hno x (by rw[ad,ex];simp))
 refine⟨u,S5,o3,a3,?_,B5,?_,?_,(g3.trans g5).mono (by omega) (by omega),fun y hy hs=>(ar y (fun hm=>?_) ?_).trans (al y hs),fun y hy=>?_⟩
 ·unfold treePutM;rw[a0];simp only;unfold binInsM;rw[a2];simp only;rw[if_neg (by simp),e5];simp only;rw[if_pos ai.1]
 ·rw[iu,ad];exact oO ⟨rfl,rfl⟩ (fun x hx=>by rw[ai.2] at hx;cases hx) a1 au
 ·rw[iu,ad,ai.2]
  simp;omega
 ·obtain⟨z,hz,rfl⟩:=aA.1 hm;exact hy (gU.2 ⟨z,hz,aa rfl⟩)
 ·rintro rfl;exact hs r3
 exact qFqab
theorem DJ{jn:Jn}{Ok:Tr->Prop}(J:kV jn Ok)(h:fC Ok S o t)(hc:t.its.length<98){a b:List UInt8}(ha:a.length<=1000)(hb:b.length<=1000)(hr:fc S 7 3){x:It}(hx:x∈t.its)(hxk:x.k=a):
 ∃u S6 S8 o',pJ S a b/\treeRepM jn S t.root a b=some ((u.root,x.kh,x.vh),S6)/\Fw S6 o'/\fz S6 x.vh=(x.v,0)/\Fv (S6.drop x.kh).2/\S8=((S6.drop x.kh).2.drop x.vh).2/\fC Ok S8 o' u/\pairs u.its=gV (pairs t.its) a b/\u.its.length=t.its.length/\ej S S8 7 3/\tm S S8 t.its/\∀y∈eB u.its,y∈eB t.its\/reco S y=none:=by
 obtain⟨ka,vb,hn,S2,S3,o3,a',bb,bc,f3,r1,r2,r3,d1,d2,d3,l1,l2,l3,q3,g3⟩:=xF h.fit ha hb hr;have al:∀y,reco S y≠none->reco S3 y=reco S y:=fun y hy=>q3 y (by rintro rfl;exact hy r1) (by rintro rfl;exact hy r2) (by rintro rfl;exact hy r3);obtain⟨u,old,S5,tl,tr,mid,e5,B5,ad,iu,a7,a4,g5,an,a9⟩:=uW J (d:=⟨hn,ka,vb,a,b⟩) h hc f3 ha hb (by rintro y (rfl | rfl | rfl)<;>assumption) ⟨d1,d2,d3⟩ l1 l2 l3 rfl rfl (fun y hy=>al y (h.some y hy));have ba:∃n1:Nd,mid=[x]/\old=x.h/\reco S5 x.h=some (eM n1)/\n1.key=x.kh/\n1.val=x.vh:=by
  have ar:∀z,(z∈tl\/z∈tr)->z≠x:=by
   rintro z hz rfl
   rcases hz with hz | hz
   ·have:=a7 z hz;simp only[hxk,fX] at this;omega
   ·have:=a4 z hz;simp only[hxk,fX] at this;omega
  rcases a9 with⟨_,q⟩ | ⟨z,n1,ez,eo,_,e1,e2,e3⟩
  ·rw[ad,q] at hx;simp only[bP,aj] at hx;exact absurd rfl (ar x hx)
  ·have:z=x:=by
    rw[ad,ez] at hx;simp only[aj,ag,List.not_mem_nil,or_false] at hx
    rcases hx with (hx | hx) | hx
    ·exact absurd rfl (ar x (aa hx))
    ·exact hx.symm
    ·exact absurd rfl (ar x (ae hx))
   subst this;exact⟨n1,ez,eo,e1,e2,e3⟩
 obtain⟨n1,em,eo,x1,x2,x3⟩:=ba;have au:=h.blobs x hx;have bd:x.h∈eB t.its:=gU.2 ⟨x,hx,aa rfl⟩;have a0:x.kh∈eB t.its:=gU.2 ⟨x,hx,ae (aa rfl)⟩;have a1:x.vh∈eB t.its:=gU.2 ⟨x,hx,ae (ae rfl)⟩;have a8:=h.nd;have a3:eB t.its=eB tl++([x.h,x.kh,x.vh]++eB tr):=by rw[ad,em,iX,iX,bK];rfl
 rw[a3] at a8;have ai:x.h∉eB u.its/\x.kh∉eB u.its/\x.vh∉eB u.its/\x.kh≠x.h/\x.vh≠x.h/\x.kh≠x.vh:=by
  obtain⟨p1,p2,p3⟩:=av.1 a8;obtain⟨p4,p5,p6⟩:=av.1 p2;have hw:∀y∈ [x.h,x.kh,x.vh],y∉eB u.its:=fun y hy hm=>by
   rw[iu,iX,mx] at hm;have a2:reco S y≠none:=h.some y (by rw[a3];simp only[aj];exact ae (aa hy))
   rcases aj.1 hm with hm | hm
   ·exact p3 y hm y (by simp only[aj];exact aa hy) rfl
   ·simp only[ag] at hm
    rcases hm with hm | hm | hm | hm
    ·exact a2 (hm▸r3)
    ·exact a2 (hm▸r1)
    ·exact a2 (hm▸r2)
    ·exact p6 y hy y hm rfl
  simp only[aE,ag,List.not_mem_nil,or_false,not_or] at p4;exact⟨hw _ (by simp),hw _ (by simp),hw _ (by simp),fun q=>p4.1.1 q.symm,fun q=>p4.1.2 q.symm,p4.2.1⟩
 have a6:x.kh∉t.hs/\x.vh∉t.hs:=h.hs.2 x hx;have a5:x.kh≠hn/\x.vh≠hn:=⟨fun q=>h.some _ a0 (q▸r3),fun q=>h.some _ a1 (q▸r3)⟩;have k5:reco S5 x.kh=some (FK x.k):=(an _ a6.1 a5.1).trans ((al _ (h.some _ a0)).trans au.k);have v5:reco S5 x.vh=some (FK x.v):=(an _ a6.2 a5.2).trans ((al _ (h.some _ a1)).trans au.v);obtain⟨S6,e6,f6,m6,o6,g6⟩:=AH B5.fit x1;have k6:=(o6 _ ai.2.2.2.1).trans k5;have v6:=(o6 _ ai.2.2.2.2.1).trans v5;obtain⟨S7,e7,f7,m7,o7,g7⟩:=mQ f6 k6;have v7:=(o7 _ ai.2.2.2.2.2.symm).trans v6;obtain⟨S8,e8,f8,m8,o8,g8⟩:=mQ f7 v7;refine⟨u,S6,S8,o3,bc,?_,f6,jt f6 au.lv v6,by rw[e7];exact f7.inv,by rw[e7,e8],B5.frame f8 (fun y hy=>?_),?_,?_,((((g3.trans g5).trans g6).trans g7).trans g8).mono (by omega) (by omega),fun y hy hs=>?_,fun y hy=>?_⟩
 ·unfold treeRepM;rw[a'];simp only;unfold binRepM;rw[bb];simp only;rw[if_neg (by simp),e5];simp only;rw[eo,e6];simp only;rw[gw B5.fit x1,x2,x3]
 ·have w1:y≠x.h:=fun q=>ai.1 (q▸hy);have w2:y≠x.kh:=fun q=>ai.2.1 (q▸hy);have w3:y≠x.vh:=fun q=>ai.2.2.1 (q▸hy);exact(o8 y w3).trans ((o7 y w2).trans (o6 y w1))
 ·rw[iu,ad];exact oO ⟨rfl,rfl⟩ (fun z hz=>by rw[em] at hz;simp only[ag,List.not_mem_nil,or_false] at hz;rw[hz];exact hxk) a7 a4
 ·rw[iu,ad,em]
  simp
 ·have w1:y≠x.h:=fun q=>hy (q▸bd);have w2:y≠x.kh:=fun q=>hy (q▸a0);have w3:y≠x.vh:=fun q=>hy (q▸a1);refine(o8 y w3).trans ((o7 y w2).trans ((o6 y w1).trans ((an y (fun hm=>?_) ?_).trans (al y hs))))
  ·obtain⟨z,hz,rfl⟩:=aA.1 hm;exact hy (gU.2 ⟨z,hz,aa rfl⟩)
  ·rintro rfl;exact hs r3
 exact qFqab
end Tr
end
section
open Lf Tr
structure mt (S S':St) (h:Nat) (ws:List Nat):Prop where
 none:reco S h=none
 some:reco S' h=some ws
 other:∀y,y≠h->reco S' y=reco S y
structure mq (Ok:Tr->Prop) (S S':St) (o:Nat->Nat) (t:Tr) (l:List (List UInt8×List UInt8)):Prop where
 fit:Fw S' o
 at':At S' t
 ok:Ok t
 nd:(eB t.its).Nodup
 blobs:∀d∈t.its,gu S' d
 prs:pairs t.its=l
 new:∀y∈eB t.its,reco S y=none
 has:∀y∈eB t.its,reco S' y≠none
 old:∀y,y∉eB t.its->reco S' y=reco S y
 grew:ej S S' (7*l.length) (3*l.length)
theorem mq.nil {Ok:Tr->Prop}{S:St}{o:Nat->Nat}(hf:Fw S o)(hn:Ok nil):mq Ok S S o nil []:=
 ⟨hf,trivial,hn,dP,(fun _ h=>nomatch h),rfl,(fun _ h=>nomatch h),(fun _ h=>nomatch h),fun _ _=>rfl,ej.refl S⟩
theorem mq.step {Ok:Tr->Prop}{jn:Jn}(J:kV jn Ok){S S1 S2 S3 S4 S5:St}{o1 o5:Nat->Nat}{t1 t2:Tr}{l1 l2:List (List UInt8×List UInt8)}{d:It}(m1:mq Ok S S1 o1 t1 l1)
 (n2:mt S1 S2 d.kh (FK d.k)) (n3:mt S2 S3 d.vh (FK d.v)) (n4:mt S3 S4 d.h (eM ⟨d.kh,d.vh,0,0,0,1⟩)) (m2:mq Ok S4 S5 o5 t2 l2)
 (hk:d.k.length<=1000) (hv:d.v.length<=1000) (hl:l1.length+l2.length<99) (hg:ej S1 S4 7 3):
 At S5 t1/\reco S5 d.h=some (eM ⟨d.kh,d.vh,0,0,0,1⟩)/\∃t S6,jn S5 t1.root d.h t2.root=some ((t.root,0),S6)/\mq Ok S S6 o5 t (l1++(d.k,d.v)::l2):=by
 have p1:=m1.prs;have p2:=m2.prs;have e1:t1.its.length=l1.length:=by rw[<-p1];simp[pairs]
 have e2:t2.its.length=l2.length:=by rw[<-p2];simp[pairs]
 have h1:∀y∈eB t1.its,y≠d.kh/\y≠d.vh/\y≠d.h/\reco S4 y=reco S1 y:=fun y hy=>by
  have a:=m1.has y hy;have b1:y≠d.kh:=fun e=>a (e▸n2.none);have b2:y≠d.vh:=fun e=>a ((n2.other y b1).symm.trans (e▸n3.none));have b3:y≠d.h:=fun e=>a ((n2.other y b1).symm.trans ((n3.other y b2).symm.trans (e▸n4.none)));exact⟨b1,b2,b3,(n4.other y b3).trans ((n3.other y b2).trans (n2.other y b1))⟩
 have k1:d.vh≠d.kh:=fun e=>by have:=n3.none;rw[e,n2.some] at this;cases this
 have k2:d.h≠d.vh:=fun e=>by have:=n4.none;rw[e,n3.some] at this;cases this
 have k3:d.h≠d.kh:=fun e=>by have:=n4.none;rw[e,n3.other _ k1.symm,n2.some] at this;cases this
 have r1:reco S4 d.kh=some (FK d.k):=by rw[n4.other _ k3.symm,n3.other _ k1.symm,n2.some]
 have r2:reco S4 d.vh=some (FK d.v):=by rw[n4.other _ k2.symm,n3.some]
 have h2:∀y∈eB t2.its,y≠d.kh/\y≠d.vh/\y≠d.h/\y∉eB t1.its:=fun y hy=>by
  have a:=m2.new y hy;refine⟨fun e=>?_,fun e=>?_,fun e=>?_,fun hm=>?_⟩
  ·rw[e,r1] at a;cases a
  ·rw[e,r2] at a;cases a
  ·rw[e,n4.some] at a;cases a
  ·exact m1.has y hm ((h1 y hm).2.2.2.symm.trans a)
 have g1:∀y∈eB t1.its,reco S5 y=reco S1 y:=fun y hy=>(m2.old y fun hm=>(h2 y hm).2.2.2 hy).trans (h1 y hy).2.2.2;have gd:∀y,y=d.kh\/y=d.vh\/y=d.h->reco S5 y=reco S4 y:=fun y hy=>m2.old y fun hm=>by
  have:=h2 y hm;rcases hy with e | e | e
  ·exact this.1 e
  ·exact this.2.1 e
  ·exact this.2.2.1 e
 have sub:∀{t:Tr} {y:Nat},y∈t.hs->y∈eB t.its:=fun {t y} hy=>by
  obtain⟨x,hx,rfl⟩:=aA.1 hy;exact gU.2 ⟨x,hx,aa rfl⟩
 have a1:At S5 t1:=m1.at'.frame fun y hy=>g1 y (sub hy);have au:(t1.hs++d.h::t2.hs).Nodup:=lh (tB m1.nd).1 (tB m2.nd).1 (fun hm=>(h1 _ (sub hm)).2.2.1 rfl) (fun hm=>(h2 _ (sub hm)).2.2.1 rfl) fun y hy hm=>(h2 y (sub hm)).2.2.2 (sub hy);obtain⟨t,S6,e,D,ot,it⟩:=J.join m2.fit a1 m2.at' m1.ok m2.ok ((gd _ (ae (ae rfl))).trans n4.some) rfl rfl au (by omega);have al:∀y,y∈eB t.its↔y∈eB t1.its\/y=d.h\/y=d.kh\/y=d.vh\/y∈eB t2.its:=fun y=>by
  rw[it,iX,mx];simp only[aj,ag]
 have an:∀x:It,(∀y,y=x.kh\/y=x.vh->y∉t1.hs/\y≠d.h/\y∉t2.hs)->gu S5 x->gu S6 x:=fun x hx hb=>by
  have hn:∀y,y=x.kh\/y=x.vh->reco S6 y=reco S5 y:=fun y hy=>D.other y fun hm=>by
   have:=hx y hy;rcases aj.1 hm with q | q
   ·exact this.1 q
   ·rcases ag.1 q with q | q
    ·exact this.2.1 q
    ·exact this.2.2 q
  exact hb.frame (hn _ (aa rfl)) (hn _ (ae rfl))
 refine⟨a1,(gd _ (ae (ae rfl))).trans n4.some,t,S6,e,D.fit,D.at',ot,?_,?_,?_,?_,?_,?_,?_⟩
 ·rw[it,iX,mx];refine av.2 ⟨m1.nd,?_,fun y hy z hz q=>?_⟩
  ·simp only[aE,ag,not_or];exact⟨⟨k3,k2,fun hm=>(h2 _ hm).2.2.1 rfl⟩,⟨k1.symm,fun hm=>(h2 _ hm).1 rfl⟩,fun hm=>(h2 _ hm).2.1 rfl,m2.nd⟩
  ·subst q;have:=h1 y hy;simp only[ag] at hz;rcases hz with hz | hz | hz | hz
   ·exact this.2.2.1 hz
   ·exact this.1 hz
   ·exact this.2.1 hz
   ·exact(h2 y hz).2.2.2 hy
 ·intro x hx;rw[it] at hx;rcases aj.1 hx with hx | hx
  ·have ad:=(tB m1.nd).2 x hx;have q1:x.kh∈eB t1.its:=gU.2 ⟨x,hx,ae (aa rfl)⟩;have q2:x.vh∈eB t1.its:=gU.2 ⟨x,hx,ae (ae rfl)⟩;refine an x (fun y hy=>?_) ((m1.blobs x hx).frame (g1 _ q1) (g1 _ q2));rcases hy with rfl | rfl
   ·exact⟨ad.1,(h1 _ q1).2.2.1,fun hm=>(h2 _ (sub hm)).2.2.2 q1⟩
   ·exact⟨ad.2,(h1 _ q2).2.2.1,fun hm=>(h2 _ (sub hm)).2.2.2 q2⟩
  ·rcases ag.1 hx with rfl | hx
   ·refine an x (fun y hy=>?_) ⟨(gd _ (aa rfl)).trans r1,(gd _ (ae (aa rfl))).trans r2,hk,hv⟩;rcases hy with rfl | rfl
    ·exact⟨fun hm=>(h1 _ (sub hm)).1 rfl,k3.symm,fun hm=>(h2 _ (sub hm)).1 rfl⟩
    ·exact⟨fun hm=>(h1 _ (sub hm)).2.1 rfl,k2.symm,fun hm=>(h2 _ (sub hm)).2.1 rfl⟩
   ·have ad:=(tB m2.nd).2 x hx;have q1:x.kh∈eB t2.its:=gU.2 ⟨x,hx,ae (aa rfl)⟩;have q2:x.vh∈eB t2.its:=gU.2 ⟨x,hx,ae (ae rfl)⟩;refine an x (fun y hy=>?_) (m2.blobs x hx);rcases hy with rfl | rfl
    ·exact⟨fun hm=>(h2 _ q1).2.2.2 (sub hm),(h2 _ q1).2.2.1,ad.1⟩
    ·exact⟨fun hm=>(h2 _ q2).2.2.2 (sub hm),(h2 _ q2).2.2.1,ad.2⟩
 ·rw[it];simp only[pairs,aJ,aL];rw[<-p1,<-p2];rfl
 ·have a0:∀y,reco S4 y=none->reco S1 y=none/\y≠d.kh/\y≠d.vh/\y≠d.h:=fun y a=>by
   have b3:y≠d.h:=fun e=>by rw[e,n4.some] at a;cases a
   have b2:y≠d.vh:=fun e=>by rw[e,r2] at a;cases a
   have b1:y≠d.kh:=fun e=>by rw[e,r1] at a;cases a
   exact⟨(n2.other y b1).symm.trans ((n3.other y b2).symm.trans ((n4.other y b3).symm.trans a)),b1,b2,b3⟩
  have ai:∀y,y∉eB t1.its->reco S1 y=none->reco S y=none:=fun y hn hz=>(m1.old y hn).symm.trans hz;intro y hy;rcases(al y).1 hy with q | rfl | rfl | rfl | q
  ·exact m1.new y q
  ·exact ai _ (fun hm=>(h1 _ hm).2.2.1 rfl) (by rw[<-n2.other _ k3,<-n3.other _ k2];exact n4.none)
  ·exact ai _ (fun hm=>(h1 _ hm).1 rfl) n2.none
  ·exact ai _ (fun hm=>(h1 _ hm).2.1 rfl) (by rw[<-n2.other _ k1];exact n3.none)
  ·exact ai _ (h2 y q).2.2.2 (a0 y (m2.new y q)).1
 ·intro y hy hz;by_cases hm:y∈t.hs
  ·obtain⟨n,hn⟩:=D.at'.rec y hm;rw[hn] at hz;cases hz
  ·have ar:y∉t1.hs++d.h::t2.hs:=by
    have:t.hs=t1.hs++d.h::t2.hs:=by unfold hs;rw[it];simp
    rwa[this] at hm
   rw[D.other y ar] at hz;rcases(al y).1 hy with q | rfl | rfl | rfl | q
   ·exact m1.has y q ((g1 y q).symm.trans hz)
   ·exact ar (by simp)
   ·rw[gd _ (aa rfl),r1] at hz;cases hz
   ·rw[gd _ (ae (aa rfl)),r2] at hz;cases hz
   ·exact m2.has y q hz
 ·intro y hy;have hn:=fun q=>hy ((al y).2 q);rw[D.other y fun hm=>?_,m2.old y fun q=>hn (by simp[q]),n4.other y fun q=>hn (by simp[q]),n3.other y fun q=>hn (by simp[q]),n2.other y fun q=>hn (by simp[q]),m1.old y fun q=>hn (by simp[q])];rcases aj.1 hm with q | q
  ·exact hn (aa (sub q))
  ·rcases ag.1 q with q | q
   ·exact hn (ae (aa q))
   ·exact hn (by simp[sub q])
 ·refine((m1.grew.trans (hg.trans m2.grew)).trans D.grew).mono ?_ ?_<;>simp<;>omega
end
section
open Go.RowKit Tryz Go.BigFrame Go.Maps Go.WideMaps Lf Tr
variable{Y:Nat->Prop}{w0:World}
theorem wm{w:World}{ps bb D n:Nat}{S:St}{o:Nat->Nat}{kind:Int}(h:dU w ps S Y bb D kind n)(hf:Fw S o)(hn:n<=99990)(a b:List UInt8)(ha:a.length<=1000)(hb:b.length<=1000)(hs:fc S 6 2):
 Ct 138 #[PV bb,eu (a,b)] w fun e w'=>∃kh vh S1 S2 o2,e=.returned (Id kh vh)/\dU w' ps S2 Y bb D kind (n+2)/\Fo Y w w'/\Fw S2 o2/\mt S S1 kh (FK a)/\mt S1 S2 vh (FK b)/\ej S S2 6 2:=by
 obtain⟨kh,S1,o1,e1,f1,n1,r1,t1,g1,k1⟩:=oL hf ha (hs.mono (by omega) (by omega));obtain⟨vh,S2,o2,e2,f2,n2,r2,t2,g2,k2⟩:=oL f1 hb (fc.grew (p:=3) (q:=1) hs g1);have ai:=fun W Z (hW:Ig W ps S Z)=>tP hW hf.inv a ha k1;have al:=fun W Z (hW:Ig W ps S1 Z)=>tP hW f1.inv b hb k2;rw[e1] at ai;rw[e2] at al;have HR:=kq4 f2 (⟨n1,r1,t1⟩:mt S S1 kh (FK a)) (⟨n2,r2,t2⟩:mt S1 S2 vh (FK b)) (g1.trans g2);have B1:=(ab w.heap.size w).alloc Ih (Xj a b);have y1:=heap_alloc_new w (Xj a b);have z1:(w.alloc (Xj a b)).heap.size=w.heap.size+1:=by simp
 have A2:=(ab (w.alloc (Xj a b)).heap.size (w.alloc (Xj a b))).alloc Ih (.cells #[Xu 0,Xu 0] 104);have y2:=(A2.block w.heap.size (by omega)).trans y1;have q2:=heap_alloc_new (w.alloc (Xj a b)) (.cells #[Xu 0,Xu 0] 104);rw[z1] at q2;have h0:=h.wide (B1.trans (A2.mono B1.size));have z2:((w.alloc (Xj a b)).alloc (.cells #[Xu 0,Xu 0] 104)).heap.size=w.heap.size+2:=by simp
 rw[z2] at h0;have au:Fo Y w ((w.alloc (Xj a b)).alloc (.cells #[Xu 0,Xu 0] 104)):=h.st.mono (Z:=Y) (fun k hk=>aa hk) |>.keep (B1.trans (A2.mono B1.size))
 simp only[eu,Id];have a1:∀k,Y k->k<w.heap.size:=fun k hk=>h.st.yl k (aa hk);have HG:=kq4 ai al au a1;clear ai al au a1 h e1 e2 f1 f2 n1 n2 r1 r2 t1 t2 g1 g2 k1 k2 B1 y1 z1 A2 z2 hs;go_enter func138,ntmps138;go_wp2_with fail;generalize ((w.alloc (Xj a b)).alloc (.cells #[Xu 0,Xu 0] 104))=W0 at*;obtain⟨I,ad,ar⟩:=lB (fun w'=>w'.cell? ⟨bb,0,none⟩=some (PV ps)) (fun w'=>w'.heap[w.heap.size]?=some (Xj a b));have m0:=fun x:Fq I=>(ad _ x.ok).1;have a2:=fun x:Fq I=>(ad _ x.ok).2;obtain⟨n0,n1⟩:=fw a2;have HI:=If ar;clear ad ar a2;have hd:=h0.below (ab _ _).drew;have an:I W0.drew:=HI.out _ hd.cell.1 y2;have H0:=kq3 hd y2 q2;clear h0 hd y2 q2;refine fh I (.take 0 (.take 1 (.take 2 (.take 3 (.take 4 (.take 5 (.take 6 (.take 11 (.take 12 (.take 13 (.take 14 (.take 15 (.take 16 (.take 17 (.go 7 (.take 8 (.take 9 (.go 10 (.go 18 (.take 19 (.take 20 (.go 21 (.take 22 (.go 23 .nil)))))))))))))))))))))))) (by kernel_rfl) (by kernel_rfl) an ?_;clear an
 iterate 14
  refine' pT ?_ ?_;rotate_left
  ·intro x;go_simp
   try rfl
  try simp only[pu]
 refine pD fun K hK=>?_;go_simp;refine(H0.a.call fun Z hZ=>HG.a _ Z hZ).mono ?_;rintro e w3 ⟨rfl,h3,k3⟩;have y3:=(k3.block w.heap.size (ae ⟨Nat.le_refl _,by omega⟩)).trans H0.b;have q3:=(k3.block (w.heap.size+1) (ae ⟨by omega,by omega⟩)).trans H0.c;have H3:=kq4 h3 k3 y3 q3;clear h3 k3 y3 q3
 try go_simp
 refine hK.out _ _ (HI.out _ H3.a.cell.1 H3.c) ?_;clear hK K
 try simp only[pu]
 iterate 2
  refine' pT ?_ ?_;rotate_left
  ·intro x;go_simp
   try rfl
  try simp only[pu]
 refine pD fun K hK=>?_;go_simp;refine(py H3.a (by omega) kh).mono ?_;rintro e w4 ⟨rfl,h4,k4⟩;have y4:=(k4.block w.heap.size (ae ⟨Nat.le_refl _,by omega⟩)).trans H3.c;have q4:=(k4.block (w.heap.size+1) (ae ⟨by omega,by omega⟩)).trans H3.d;have H4:=kq4 h4 (H3.b.trans k4) y4 q4;clear h4 k4 y4 q4
 try go_simp
 refine hK.out _ _ (HI.out _ H4.a.cell.1 H4.c) ?_;clear hK K
 try simp only[pu]
 refine pD fun K hK=>?_;go_simp;refine(H4.a.call fun Z hZ=>HG.b _ Z hZ).mono ?_;rintro e w5 ⟨rfl,h5,k5⟩;have y5:=(k5.block w.heap.size (ae ⟨Nat.le_refl _,by omega⟩)).trans H4.c;have q5:=(k5.block (w.heap.size+1) (ae ⟨by omega,by omega⟩)).trans H4.d;have H5:=kq4 h5 (H4.b.trans k5) y5 q5;clear h5 k5 y5 q5
 try go_simp
 refine hK.out _ _ (HI.out _ H5.a.cell.1 H5.c) ?_;clear hK K
 try simp only[pu]
 iterate 2
  refine' pT ?_ ?_;rotate_left
  ·intro x;go_simp
   try rfl
  try simp only[pu]
 refine pD fun K hK=>?_;go_simp;refine(py H5.a (by omega) vh).mono ?_;rintro e w6 ⟨rfl,h6,k6⟩;have y6:=(k6.block w.heap.size (ae ⟨Nat.le_refl _,by omega⟩)).trans H5.c;have q6:=(k6.block (w.heap.size+1) (ae ⟨by omega,by omega⟩)).trans H5.d;obtain⟨f0,f1⟩:=ef q6;obtain⟨d0,d1⟩:=Fp q6;have q7:=ew q6 (Xu kh) (Xu vh);have y7:((w6.setCell ⟨(w.heap.size+1),0,none⟩ (Xu kh)).setCell ⟨(w.heap.size+1),1,none⟩ (Xu vh)).heap[w.heap.size]?=_:=(FB (by omega)).trans ((FB (by omega)).trans y6);have h7:=h6.write (w':=((w6.setCell ⟨(w.heap.size+1),0,none⟩ (Xu kh)).setCell ⟨(w.heap.size+1),1,none⟩ (Xu vh))) (ae ⟨by omega,by omega⟩) q6 ⟨by decide,by decide⟩ (by simp) (by simp) fun k _ hk=>(FB hk).trans (FB hk);have k8:Fo Y w w6:=(HG.c.trans (⟨rfl,rfl,rfl,Nat.le_refl _,fun _ _=>rfl⟩:Fo Y W0 W0.drew)).trans ((H5.b.trans k6).mono fun k hk=>aa hk);have k7:Fo Y w ((w6.setCell ⟨(w.heap.size+1),0,none⟩ (Xu kh)).setCell ⟨(w.heap.size+1),1,none⟩ (Xu vh)):=⟨k8.os,k8.tape,k8.output,by simpa using k8.size,fun k hk=>by
  have a0:k≠w.heap.size+1:=by have:=HG.d k hk;omega
  exact(FB a0).trans ((FB a0).trans (k8.block k hk))⟩
 have H6:=kq2 h6 y6;have H7:=kq4 h7 k7 y7 q7;clear h6 k6 y6 q6 h7 k7 y7 q7 k8
 try go_simp
 refine hK.out _ _ (HI.out _ H6.a.cell.1 H6.b) ?_;clear hK K
 try simp only[pu]
 refine' pT ?_ ?_;rotate_left
 ·intro x;go_simp
  try rfl
 try simp only[pu]
 refine pD fun K hK=>?_;go_simp;generalize ((w6.setCell ⟨(w.heap.size+1),0,none⟩ (Xu kh)).setCell ⟨(w.heap.size+1),1,none⟩ (Xu vh))=w7 at*
 try go_simp
 refine hK.out _ _ (HI.out _ H7.a.cell.1 H7.c) ?_;clear hK K
 try simp only[pu]
 refine eP ?_;have q7:=H7.d;obtain⟨e0,e1⟩:=Fp q7;go_wp2_with fail;exact bodyPost_ret (v:=.agg #[Xu kh,Xu vh]) (by simp[results,f138,go_sem,e0,e1]) rfl ⟨kh,vh,S1,S2,o2,rfl,H7.a.mono fun k hk=>aa hk,H7.b,HR.out⟩
def mm(w0:World)(Y:Nat->Prop)(A:Option Addr)(n c:Nat)(l:List (List UInt8×List UInt8)):Prop:=
 n=l.length/\n<=c/\(0<n->∃g o,A=some ⟨g,o,none⟩/\∀W,Fo Y w0 W->∀(i:Nat) (h:i<l.length),W.cell? ⟨g,o+i*2,none⟩=some (SV l[i].1)/\W.cell? ⟨g,o+i*2+1,none⟩=some (SV l[i].2))
theorem mm.first{A:Option Addr}{n c:Nat}{l:List (List UInt8×List UInt8)}(h:mm w0 Y A n c l)(k:Nat)(hk:k<n):mm w0 Y A k c (l.take k):=by
 obtain⟨rfl,h2,h3⟩:=h;refine⟨by rw[ay];omega,by omega,fun _=>?_⟩;obtain⟨g,o,e,hc⟩:=h3 (by omega);refine⟨g,o,e,fun W hW i hi=>?_⟩;rw[dw];exact hc W hW i (by rw[ay] at hi;omega)
theorem mm.rest{g o n c:Nat}{l:List (List UInt8×List UInt8)}(h:mm w0 Y (some ⟨g,o,none⟩) n c l)(k:Nat)(hk:k<=n):mm w0 Y (if c=k then some ⟨g,o,none⟩ else some ⟨g,o+k*2,none⟩) (n-k) (c-k) (l.drop k):=by
 obtain⟨rfl,h2,h3⟩:=h;refine⟨by rw[aN],by omega,fun hp=>?_⟩;obtain⟨g',o',e,hc⟩:=h3 (by omega)
 injection e with e
 injection e with e1 e2
 subst e1 e2;rw[if_neg (by omega)];refine⟨g,o+k*2,rfl,fun W hW i hi=>?_⟩;rw[dN,show o+k*2+i*2=o+(k+i)*2 by omega];exact hc W hW (k+i) (by rw[aN] at hi;omega)
theorem JR{kind:Nat}{j:FuncId}{jn:Jn}{Ok:Tr->Prop}(hj:kind=1/\j=141\/kind=2/\j=142)(hJ:mz j jn)(J:kV jn Ok){ps bb D:Nat}:∀(N:Nat) {w:World} {A:Option Addr} {n c m:Nat} {l:List (List UInt8×List UInt8)} {S:St} {o:Nat->Nat},
 n<=N->Fo Y w0 w->dU w ps S Y bb D kind m->Fw S o->mm w0 Y A n c l->(∀p∈l,p.1.length<=1000/\p.2.length<=1000)->fc S (7*n) (3*n)->m+3*n<=90000->n<99->
 Ct 91 #[PV bb,.slice A n c] w fun e w'=>∃t S' o',e=.returned (Xu (root t))/\dU w' ps S' Y bb D kind (m+3*n)/\Fo Y w w'/\mq Ok S S' o' t l:=by
 intro N;induction N with
 | zero=>
  intro w A n c m l S o hn _ hB hf hR _ _ _ _;obtain rfl:n=0:=by omega
  obtain rfl:l=[]:=List.eq_nil_of_length_eq_zero hR.1.symm;have HG:=kq2 hB (mq.nil (Ok:=Ok) hf J.nil);clear hB hf hR hn;go_enter func91,ntmps91;go_wp2_with fail;go_ret;exact⟨.nil,S,o,rfl,HG.a,Fo.refl _ _,HG.b⟩
 | succ N ih=>
  intro w A n c m l S o hn hk0 hB hf hR hs hsp hm h99;by_cases h0:n=0
  ·subst h0;obtain rfl:l=[]:=List.eq_nil_of_length_eq_zero hR.1.symm;have HG:=kq2 hB (mq.nil (Ok:=Ok) hf J.nil);clear hB hf hR hn hk0 hsp hm h99 ih;go_enter func91,ntmps91;go_wp2_with fail;go_ret;exact⟨.nil,S,o,rfl,HG.a,Fo.refl _ _,HG.b⟩
  have b9:=hR.1;obtain⟨k,b2⟩:=Ii (n / 2);have b4:k<n:=by omega
  obtain⟨g,o0,rfl,ad⟩:=hR.2.2 (by omega);have al:k<l.length:=by omega
  obtain⟨⟨a,b⟩,ai⟩:∃p,l[k]=p:=⟨_,rfl⟩;have bk:l.take k++(a,b)::l.drop (k+1)=l:=by rw[<-ai,<-aU al,aQ]
  have a':=hs (a,b) (ai▸aF al);have ba:=ih (w:=w) (A:=some ⟨g,o0,none⟩) (n:=k) (c:=c) (m:=m) (by omega) hk0 hB hf (hR.first k b4) (fun p hp=>hs p (bC hp)) (hsp.mono (by omega) (by omega)) (by omega) (by omega);have bc:=fun {A':Option Addr} {c':Nat} {w:World} {m:Nat} {S:St} {o:Nat->Nat} (q0:mm w0 Y A' (n-(k+1)) c' (l.drop (k+1))) (q1:Fo Y w0 w) (q2:dU w ps S Y bb D kind m) (q3:Fw S o) (q4:fc S (7*(n-(k+1))) (3*(n-(k+1)))) (q5:m+3*(n-(k+1))<=90000)=>ih (by omega) q1 q2 q3 q0 (fun p hp=>hs p (bq hp)) q4 q5 (by omega);have bt:¬c=k+1->mm w0 Y (some ⟨g,o0+(k+1)*2,none⟩) (n-(k+1)) (c-(k+1)) (l.drop (k+1)):=fun e=>by
   have:=hR.rest (k+1) (by omega);rwa[if_neg e] at this
  have bu:c=k+1->mm w0 Y (some ⟨g,o0,none⟩) (n-(k+1)) 0 (l.drop (k+1)):=fun e=>by
   have:=hR.rest (k+1) (by omega);rwa[if_pos e,e,dA] at this
  have bm:(l.take k).length=k:=by rw[ay];omega
  have bo:(l.drop (k+1)).length=n-(k+1):=by rw[aN];omega
  have ad:=fun W hW=>ad W hW k al;rw[ai] at ad;have HG:=kq11 ba @bc ad a' bk bm bo hsp hk0 bt bu;have b':=hR.2.1;have ck:(k:Int)<=(c:Int):=by omega
  have kn:(k:Int)<(n:Int):=by omega
  have n0:((n:Int)==0)=false:=by simp;omega
  have hq:Int.tdiv (n:Int) 2=(k:Int):=by rw[<-b2,Int.ofNat_tdiv];rfl
  clear ih ba bc bt bu ad a' bk bm bo hsp hk0 hB hf hR hs ai b9 al;go_enter func91,ntmps91;go_wp2_with fail;refine HG.a.mono ?_;rintro e w1 ⟨t1,S1,o1,rfl,a7,k1,m1⟩;have g1:=m1.grew;rw[HG.f] at g1;have a2:=HG.i.trans k1;have a5:fc S1 (6+(1+7*(n-(k+1)))) (2+(1+3*(n-(k+1)))):=fc.grew (HG.h.mono (by omega) (by omega)) g1;obtain⟨c0,c1⟩:=HG.c w1 a2;have a1:=wm a7 m1.fit (by omega) a b HG.d.1 HG.d.2 (a5.mono (by omega) (by omega));simp only[eu] at a1;have H1:=kq5 a1 a2 a5 k1 m1;clear a1 a2 a5 k1 m1 g1 a7;go_wp2_with fail;refine H1.a.mono ?_;rintro e w2 ⟨kh,vh,S2,S3,o3,rfl,ar,k3,f3,n2,n3,g3⟩;simp only[Id];have b0:=fL f3 n3.some;have bj:kh≠vh:=fun e=>by have:=n3.none;rw[<-e,n2.some] at this;cases this
  have bf:=fL f3 ((n3.other kh bj).trans n2.some);have a6:fc S3 (1+7*(n-(k+1))) (1+3*(n-(k+1))):=fc.grew H1.c g3;have a4:ji ⟨kh,vh,0,0,0,1⟩:=⟨bf.2.1,b0.2.1,Nat.zero_lt_succ _,Nat.zero_lt_succ _,Nat.zero_lt_succ _,show (1:Nat)<2^64 by decide⟩;obtain⟨hh,S4,o4,e4,f4,n4,r4,t4,g4,k4⟩:=Cq f3 a4 (a6.mono (by omega) (by omega));have a3:=fun W Z (hW:Ig W ps S3 Z)=>vU hW k4 _ a4;rw[e4] at a3;have A2:=(ab w2.heap.size w2).alloc Ih (Xe kh vh);have q2:=heap_alloc_new w2 (Xe kh vh);have z2:(w2.alloc (Xe kh vh)).heap.size=w2.heap.size+1:=by simp
  have an:=(ar.wide A2).below (ab _ _).drew;have kB:Fo Y w (w2.alloc (Xe kh vh)).drew:=(H1.d.trans k3).trans (Fo.of_below A2.drew fun k hk=>ar.st.yl k (aa hk));rw[z2] at an;have bs:mt S3 S4 hh (eM ⟨kh,vh,0,0,0,1⟩):=⟨n4,r4,t4⟩;have bv:fc S4 (7*(n-(k+1))) (3*(n-(k+1))):=fc.grew a6 g4;have H2:=kq10 an kB a3 q2 n2 n3 bs f4 (g3.trans g4) bv;clear bs bv an kB a3 n2 n3 n4 r4 t4 f4 g3 g4 a6 e4 k4 a4 bf bj b0 f3 ar k3 A2 z2 c0 c1 q2;go_wp2_with fail;obtain⟨I,a0,a9⟩:=lB (fun w'=>w'.cell? ⟨bb,0,none⟩=some (PV ps)) (fun w'=>w'.heap[w2.heap.size]?=some (Xe kh vh));have m0:=fun x:Fq I=>(a0 _ x.ok).1;have b1:=fun x:Fq I=>(a0 _ x.ok).2;obtain⟨n0,n1⟩:=fw b1;have HI:=If a9;have a8:I (w2.alloc (Xe kh vh)).drew:=HI.out _ H2.a.cell.1 H2.d;clear a0 a9 b1;refine fh I (.take 0 (.take 1 (.take 2 (.take 3 (.take 4 (.take 5 (.take 6 (.take 7 (.take 8 (.take 9 (.go 10 (.take 11 (.take 12 (.go 13 (.go 14 .nil))))))))))))))) (by kernel_rfl) (by kernel_rfl) a8 ?_;clear a8;iterate 10
   refine' pT ?_ ?_;rotate_left
   ·intro x;go_simp;try rfl
   try simp only[pu]
  refine pD fun K hK=>?_;go_simp;refine(H2.a.call fun Z hZ=>H2.c _ Z hZ).mono ?_;rintro e w4 ⟨rfl,h4,k4⟩;have y4:=(k4.block w2.heap.size (ae ⟨Nat.le_refl _,by omega⟩)).trans H2.d;have H4:=kq3 h4 (H2.b.trans (k4.mono fun k hk=>aa hk)) y4;clear h4 k4 y4;try go_simp
  refine hK.out _ _ (HI.out _ H4.a.cell.1 H4.c) ?_;clear hK K;try simp only[pu]
  iterate 2
   refine' pT ?_ ?_;rotate_left
   ·intro x;go_simp;try rfl
   try simp only[pu]
  refine pD fun K hK=>?_;go_simp;refine(py H4.a (by omega) hh).mono ?_;rintro e w5 ⟨rfl,h5,k5⟩;have y5:=(k5.block w2.heap.size (ae ⟨Nat.le_refl _,by omega⟩)).trans H4.c;have H5:=kq3 (h5.mono fun k hk=>aa hk:dU w5 ps S4 Y bb D kind _) (H4.b.trans (k5.mono fun k hk=>aa hk)) y5;clear h5 k5 y5;try go_simp
  refine hK.out _ _ (HI.out _ H5.a.cell.1 H5.c) ?_;clear hK K;try simp only[pu]
  refine pD fun K hK=>?_;go_simp;try go_simp
  refine hK.out _ _ (HI.out _ H5.a.cell.1 H5.c) ?_;clear hK K;try simp only[pu]
  refine eP ?_;go_wp2_with fail;all_goals
   refine(HG.b (by first | exact HG.k (by assumption) | exact HG.j (by assumption)) (HG.i.trans H5.b) H5.a H2.h H2.j (by omega)).mono ?_;rintro e w6 ⟨t2,S5,o5,rfl,au,k6,m2⟩;obtain⟨at1,rh,t,S6,e6,M⟩:=mq.step (d:=⟨hh,kh,vh,a,b⟩) J H1.e H2.e H2.f H2.g m2 HG.d.1 HG.d.2 (by rw[HG.f,HG.g];omega) H2.i;rw[HG.e] at M;obtain⟨y0,y1⟩:=au.cell;have bd:=au.call (S':=S6) fun Z hZ=>hJ.call hZ m2.fit.inv (at1.root_lt m2.fit) (fL m2.fit rh).2.1 (m2.at'.root_lt m2.fit) e6;have H6:=kq3 bd M (H5.b.trans k6);clear bd M at1 rh e6 au k6 m2;rcases hj with⟨rfl,rfl⟩ | ⟨rfl,rfl⟩
   all_goals
    go_wp2_with fail;refine H6.a.mono ?_;rintro e w7 ⟨rfl,h7,k7⟩;have H7:=kq2 h7 (H6.c.trans k7);clear h7 k7;go_wp2_with fail;go_ret;exact⟨t,S6,o5,rfl,(show m+3*k+2+1+3*(n-(k+1))=m+3*n by omega)▸H7.a,H7.b,H6.b⟩
end
section
open Go.RowKit Tryz Go.BigFrame Go.Maps Go.WideMaps Lf
variable{S:St}{Y:Nat->Prop}{fm:FuncId}{kv:Value}{p:Nat×Nat}{ty:TypeId}{w:World}{z:Nat}
def FF(w:World)(px ps:Nat)(ty:TypeId)(kv:Value)(kind td root:Nat):Prop:=w.heap[px]?=some (.cells #[PV ps,Xi kind,Xi td,.iface ty kv,Xu root] 100)
theorem FF.below{w w':World}{px ps kind td root:Nat}(h:FF w px ps ty kv kind td root)(hb:Below w.heap.size w w'):FF w' px ps ty kv kind td root:=(hb.block px (gl h)).trans h
theorem FF.keep{w w':World}{px ps kind td root:Nat}(h:FF w px ps ty kv kind td root)(hk:Fo Y w w')(hy:Y px):FF w' px ps ty kv kind td root:=(hk.block px hy).trans h
theorem mW{px ps kind td root:Nat}(hT:FF w px ps ty kv kind td root):
 Ct 48 #[PV px] w fun e w'=>e=.returned (.bool false)/\w=w':=by
 unfold FF at hT;obtain⟨c0,c1,c2,c3,c4⟩:=ld hT;clear hT;go_enter func48,ntmps48;go_wp2_with fail;go_ret;exact⟨rfl,rfl⟩
theorem kN(px ps:Nat)(ty:TypeId)(kv:Value)(kind td root:Nat):∃I:World->Prop,(∀w',I w'->FF w' px ps ty kv kind td root)/\(∀w',FF w' px ps ty kv kind td root->I w'):=⟨fun w'=>FF w' px ps ty kv kind td root,fun _ h=>h,fun _ a=>a⟩
theorem qFqaa{P:Prop}(h:P:=by
 refine mD fun K hK=>?_;go_simp;refine wx HG.b fun w2 hb2=>?_;have T2:=FF.below (w:=w.drew) HG.c hb2;have B2:=kq2 T2 ((ab w.heap.size w).drew.trans hb2);clear T2 hb2
 try go_simp
 refine hK.out _ _ (HG.d _ B2.a) ?_;clear hK K
 try simp only[pu]
 refine mD fun K hK=>?_;go_simp
 try go_simp
 refine hK.out _ _ (HG.d _ B2.a) ?_;clear hK K
 try simp only[pu]
 refine mX ?_;go_wp2_with fail;go_ret;exact⟨rfl,B2.b⟩):P:=h
theorem xM{px ps kind td root:Nat}(hT:FF w px ps ty kv kind td root)(hme:∀(f:Nat) (v:Value) (w:World),(method (f+1) ty v "loft/backend.size").run prog w=.ok (fm,v) w)(hen:∀(args:Array Value) (w:World),(callFunc fm args).run prog w=.ok (.enter fm args) w)(hs:∀W,Below w.heap.size w W->Ct fm #[kv,Xu root] W fun e w'=>e=.returned (Xi z)/\Below W.heap.size W w'):
 Cb 19 #[PV px] w (Xi z):=by
 have hn:=mW hT;have hs:=hs _ (ab _ w).drew;obtain⟨I,al,ad⟩:=kN px ps ty kv kind td root;have ai:=fun x:Fq I=>al _ x.ok;simp only[FF] at ai;obtain⟨m0,m1,m2,m3,m4⟩:=iK ai;have an:I w.drew:=ad _ hT;have HG:=kq4 hn hs hT ad;clear hn hs hT al ad ai;go_enter func19,ntmps19;go_wp2_with fail;refine Jc HG.a ?_;go_wp2_with fail;refine nF I [(true,0),(true,1),(true,2),(true,3),(true,4),(true,5),(true,6),(true,7),(true,8),(true,9),(false,10),(false,11)] (by kernel_rfl) (by kernel_rfl) an ?_
 iterate 10
  refine' mT ?_ ?_;rotate_left
  ·intro x;go_simp
   try rfl
  try simp only[pu]
 exact qFqaa
theorem xO{px ps kind td root:Nat}(hT:FF w px ps ty kv kind td root)(k:List UInt8)(hme:∀(f:Nat) (v:Value) (w:World),(method (f+1) ty v "loft/backend.rank").run prog w=.ok (fm,v) w)(hen:∀(args:Array Value) (w:World),(callFunc fm args).run prog w=.ok (.enter fm args) w)(hs:∀W,Below w.heap.size w W->Ct fm #[kv,Xu root,SV k] W fun e w'=>e=.returned (Xi z)/\Below W.heap.size W w'):
 Cb 16 #[PV px,SV k] w (Xi z):=by
 have hn:=mW hT;have hs:=hs _ (ab _ w).drew;obtain⟨I,al,ad⟩:=kN px ps ty kv kind td root;have ai:=fun x:Fq I=>al _ x.ok;simp only[FF] at ai;obtain⟨m0,m1,m2,m3,m4⟩:=iK ai;have an:I w.drew:=ad _ hT;have HG:=kq4 hn hs hT ad;clear hn hs hT al ad ai;go_enter func16,ntmps16;go_wp2_with fail;refine Jc HG.a ?_;go_wp2_with fail;refine nF I [(true,0),(true,1),(true,2),(true,3),(true,4),(true,5),(true,6),(true,7),(true,8),(true,9),(true,10),(false,11),(false,12)] (by kernel_rfl) (by kernel_rfl) an ?_
 iterate 11
  refine' mT ?_ ?_;rotate_left
  ·intro x;go_simp
   try rfl
  try simp only[pu]
 exact qFqaa
theorem xH{px ps kind td root:Nat}(hT:FF w px ps ty kv kind td root)(k:Int)(p:List UInt8×List UInt8)(k0 k1 e1 e2:Nat)(er:Int)(her:er=0\/er=2/\p=([],[]))(hme:∀(f:Nat) (v:Value) (w:World),(method (f+1) ty v "loft/backend.at").run prog w=.ok (fm,v) w)(hen:∀(args:Array Value) (w:World),(callFunc fm args).run prog w=.ok (.enter fm args) w)(hs:∀W,Below w.heap.size w W->Ct fm #[kv,Xu root,Xi k] W fun e w'=>e=.returned (.tuple #[.agg #[Xu k0,Xu k1],Xi er])/\Below W.heap.size W w')(hg1:er=0->∀W,Below w.heap.size w W->Cb 51 #[PV ps,Xu k0] W (.tuple #[SV p.1,Xi e1]))(hg2:er=0->∀W,Below w.heap.size w W->Cb 51 #[PV ps,Xu k1] W (.tuple #[SV p.2,Xi e2])):
 Cb 18 #[PV px,Xi k] w (.tuple #[eu p,Xi er]):=by
 have B0:=(ab w.heap.size w).alloc Ih (.cells #[.string ⟨#[]⟩,.string ⟨#[]⟩] 40);have y0:=heap_alloc_new w (.cells #[.string ⟨#[]⟩,.string ⟨#[]⟩] 40);have hn:=mW (hT.below B0);obtain⟨p1,p2⟩:=p;simp only[eu] at hg1 hg2⊢;obtain⟨I,au,a0⟩:=kN px ps ty kv kind td root;have ar:=fun x:Fq I=>au _ x.ok;simp only[FF] at ar;obtain⟨m0,m1,m2,m3,m4⟩:=iK ar;have an:I ((w.alloc (.cells #[.string ⟨#[]⟩,.string ⟨#[]⟩] 40)).drew):=a0 _ (hT.below B0.drew);have HG:=kq9 hn hs hT a0 B0 y0 hg1 hg2 her;clear hn hs hT au a0 ar B0 y0 hg1 hg2 her;go_enter func18,ntmps18;go_wp2_with fail;refine Jc HG.a ?_;go_wp2_with fail;have HU:=kq3 HG.g HG.h HG.i;refine fh I (.take 0 (.take 1 (.take 2 (.take 3 (.take 4 (.take 5 (.take 6 (.take 7 (.take 8 (.take 9 (.take 10 (.two 11 15 (.take 12 (.take 13 (.take 14 (.go 15 (.go 16 (.go 17 .nil)))))) (.go 11 (.take 12 (.take 13 (.take 14 (.go 16 (.go 17 .nil)))))))))))))))))) (by kernel_rfl) (by kernel_rfl) an ?_
 iterate 11
  refine' pT ?_ ?_;rotate_left
  ·intro x;go_simp
   try rfl
  try simp only[pu]
 refine gL ?h1 ?h2
 case' h1=>
  refine pD fun K hK=>?_;go_simp;refine wx (HG.b _ HG.e.drew) fun w2 hb2=>?_;have T2:=FF.below (w:=(w.alloc (.cells #[.string ⟨#[]⟩,.string ⟨#[]⟩] 40)).drew) (HG.c.below HG.e.drew) hb2;have y2:=(hb2.block w.heap.size (by show w.heap.size<(w.alloc _).heap.size;simp)).trans HG.f;have B2:=kq3 T2 (HG.e.drew.trans (hb2.mono HG.e.drew.size)) y2;clear T2 hb2 y2
  try go_simp
  refine hK.out _ _ (HG.d _ B2.a) ?_;clear hK K
  try simp only[pu]
  iterate 3
   refine' pT ?_ ?_;rotate_left
   ·intro x;go_simp
    try rfl
   try simp only[pu]
  refine pD fun K hK=>?_;go_simp;have A2:=(ab w2.heap.size w2).alloc Ih (.cells #[Xu 0,Xu 0] 104);have TA:=B2.a.below A2;have BA:=B2.b.trans (A2.mono B2.b.size);have yA:=(A2.block w.heap.size (gl B2.c)).trans B2.c;have qA:=heap_alloc_new w2 (.cells #[Xu 0,Xu 0] 104);have a2:w.heap.size<w2.heap.size:=(gl B2.c);clear A2 B2;generalize w2.alloc (.cells #[Xu 0,Xu 0] 104)=W at*;generalize w2.heap.size=b6 at*
  try go_simp
  refine hK.out _ _ (HG.d _ TA) ?_;clear hK K
  try simp only[pu]
  obtain⟨c0,c1⟩:=Fp qA;obtain⟨f0,f1⟩:=ef qA;have HA:=kq5 TA BA yA qA a2;clear TA BA yA qA a2;refine pD fun K hK=>?_;go_simp;have qB:=ew HA.d (Xu k0) (Xu k1);have BB:=eT HA.b (Nat.le_of_lt HA.e) (Xu k0) (Xu k1);have yB:=(fA (Nat.ne_of_lt HA.e) (Xu k0) (Xu k1)).trans HA.c;have TB:FF ((W.setCell ⟨b6,0,none⟩ (Xu k0)).setCell ⟨b6,1,none⟩ (Xu k1)) px ps ty kv kind td root:=HG.c.below BB;have a3:=HA.e;clear c0 c1 f0 f1 HA;generalize ((W.setCell ⟨b6,0,none⟩ (Xu k0)).setCell ⟨b6,1,none⟩ (Xu k1))=W7 at*
  try go_simp
  refine hK.out _ _ (HG.d _ TB) ?_;clear hK K
  try simp only[pu]
  refine pD fun K hK=>?_;go_simp
  try go_simp
  refine hK.out _ _ (HG.d _ TB) ?_;clear hK K
  try simp only[pu]
  refine eP ?_;have H7:=kq5 TB BB yB qB a3;clear TB BB yB qB a3;clear w2
 case' h2=>
  refine pD fun K hK=>?_;go_simp;have A2:=(ab (w.alloc (.cells #[.string ⟨#[]⟩,.string ⟨#[]⟩] 40)).heap.size (w.alloc (.cells #[.string ⟨#[]⟩,.string ⟨#[]⟩] 40))).alloc Ih (.cells #[Xu 0,Xu 0] 104);have BA:=(HG.e.trans (A2.mono HG.e.size)).drew;have qA:((w.alloc (.cells #[.string ⟨#[]⟩,.string ⟨#[]⟩] 40)).alloc (.cells #[Xu 0,Xu 0] 104)).drew.heap[(w.alloc (.cells #[.string ⟨#[]⟩,.string ⟨#[]⟩] 40)).heap.size]?=_:=heap_alloc_new (w.alloc (.cells #[.string ⟨#[]⟩,.string ⟨#[]⟩] 40)) (.cells #[Xu 0,Xu 0] 104);have yA:((w.alloc (.cells #[.string ⟨#[]⟩,.string ⟨#[]⟩] 40)).alloc (.cells #[Xu 0,Xu 0] 104)).drew.heap[w.heap.size]?=_:=(A2.block w.heap.size (by simp)).trans HG.f;have TA:=HG.c.below BA;simp only[World.size_alloc] at qA;clear A2;generalize ((w.alloc (.cells #[.string ⟨#[]⟩,.string ⟨#[]⟩] 40)).alloc (.cells #[Xu 0,Xu 0] 104)).drew=w1 at*
  try go_simp
  refine hK.out _ _ (HG.d _ TA) ?_;clear hK K
  try simp only[pu]
  have al:=kq4 TA BA yA qA;clear TA BA yA qA;refine pD fun K hK=>?_;go_simp;refine wx (HG.b _ al.b) fun W hb2=>?_;have TA:=al.a.below hb2;have BA:=al.b.trans (hb2.mono al.b.size);have yA:=(hb2.block w.heap.size (gl al.c)).trans al.c;have qA:=(hb2.block (w.heap.size+1) (gl al.d)).trans al.d;have a2:w.heap.size<w.heap.size+1:=by omega
  clear hb2 al;generalize w.heap.size+1=b6 at*
  try go_simp
  refine hK.out _ _ (HG.d _ TA) ?_;clear hK K
  try simp only[pu]
  iterate 3
   refine' pT ?_ ?_;rotate_left
   ·intro x;go_simp
    try rfl
   try simp only[pu]
  obtain⟨c0,c1⟩:=Fp qA;obtain⟨f0,f1⟩:=ef qA;have HA:=kq5 TA BA yA qA a2;clear TA BA yA qA a2;refine pD fun K hK=>?_;go_simp;have qB:=ew HA.d (Xu k0) (Xu k1);have BB:=eT HA.b (Nat.le_of_lt HA.e) (Xu k0) (Xu k1);have yB:=(fA (Nat.ne_of_lt HA.e) (Xu k0) (Xu k1)).trans HA.c;have TB:FF ((W.setCell ⟨b6,0,none⟩ (Xu k0)).setCell ⟨b6,1,none⟩ (Xu k1)) px ps ty kv kind td root:=HG.c.below BB;have a3:=HA.e;clear c0 c1 f0 f1 HA;generalize ((W.setCell ⟨b6,0,none⟩ (Xu k0)).setCell ⟨b6,1,none⟩ (Xu k1))=W7 at*
  try go_simp
  refine hK.out _ _ (HG.d _ TB) ?_;clear hK K
  try simp only[pu]
  refine pD fun K hK=>?_;go_simp
  try go_simp
  refine hK.out _ _ (HG.d _ TB) ?_;clear hK K
  try simp only[pu]
  refine eP ?_;have H7:=kq5 TB BB yB qB a3;clear TB BB yB qB a3;clear w1
 all_goals
  rcases HU.c with rfl | ⟨rfl,e⟩
  ·have HT:=If HG.c;clear an HG m0 m1 m2 m3 m4 I;obtain⟨I,au,a0⟩:=lB (fun w'=>FF w' px ps ty kv kind td root) (fun w'=>w'.heap[b6]?=some (Xe k0 k1));have ar:=fun x:Fq I=>(au _ x.ok).1;have a5:=fun x:Fq I=>(au _ x.ok).2;simp only[FF] at ar;obtain⟨m0,m1,m2,m3,m4⟩:=iK ar;obtain⟨n0,n1⟩:=fw a5;have HI:=If a0;clear au a0 ar a5;have ad:=H7;clear H7;have an:I W7.drew:=HI.out _ ad.out.1 ad.out.2.2.2.1;go_wp2_with fail;refine fh I (.take 0 (.take 1 (.take 2 (.take 3 (.take 4 (.take 5 (.go 6 (.take 7 (.take 8 (.take 9 (.take 10 (.go 11 .nil)))))))))))) (by kernel_rfl) (by kernel_rfl) an ?_;clear an
   iterate 6
    refine' pT ?_ ?_;rotate_left
    ·intro x;go_simp
     try rfl
    try simp only[pu]
   refine pD fun K hK=>?_;go_simp;refine wx (HU.a (by trivial) _ ad.out.2.1.drew) fun w8 hb=>?_;have T2:=FF.below (w:=W7.drew) (ad.out.1.below (ab _ _).drew) hb;have B2:=ad.out.2.1.drew.trans (hb.mono ad.out.2.1.drew.size);have y2:=(hb.block w.heap.size (gl ad.out.2.2.1)).trans ad.out.2.2.1;have q2:=(hb.block b6 (gl ad.out.2.2.2.1)).trans ad.out.2.2.2.1;clear hb;obtain⟨c0,c1⟩:=Fp y2;obtain⟨f0,f1⟩:=ef y2;have HX:=kq5 T2 B2 y2 q2 ad.out.2.2.2.2;clear T2 B2 y2 q2
   try go_simp
   refine hK.out _ _ (HI.out _ HX.a HX.d) ?_;clear hK K
   try simp only[pu]
   iterate 4
    refine' pT ?_ ?_;rotate_left
    ·intro x;go_simp
     try rfl
    try simp only[pu]
   refine pD fun K hK=>?_;go_simp;have y3:=heap_setCell HX.c (v:=SV p1) (i:=0);have B3:=HX.b.setCell (p:=⟨w.heap.size,0,none⟩) Ih (SV p1);have q3:=(FB (w:=w8) (b:=w.heap.size) (i:=0) (v:=SV p1) (Nat.ne_of_gt HX.e)).trans HX.d;have T3:FF (w8.setCell ⟨w.heap.size,0,none⟩ (SV p1)) px ps ty kv kind td root:=HT.out.below B3;have a1:=HX.e;clear c0 c1 f0 f1 HX;generalize w8.setCell ⟨w.heap.size,0,none⟩ (SV p1)=w8s at*
   try go_simp
   refine hK.out _ _ (HI.out _ T3 q3) ?_;clear hK K
   try simp only[pu]
   refine eP ?_;have ai:=kq5 T3 B3 y3 q3 a1;clear T3 B3 y3 q3 a1;have an:I w8s.drew:=HI.out _ ai.a ai.d;go_wp2_with fail;refine fh I (.take 0 (.take 1 (.take 2 (.take 3 (.take 4 (.take 5 (.go 6 (.take 7 (.take 8 (.take 9 (.take 10 (.go 11 .nil)))))))))))) (by kernel_rfl) (by kernel_rfl) an ?_;clear an
   iterate 6
    refine' pT ?_ ?_;rotate_left
    ·intro x;go_simp
     try rfl
    try simp only[pu]
   refine pD fun K hK=>?_;go_simp;refine wx (HU.b (by trivial) _ ai.b.drew) fun w9 hb=>?_;have T2:=FF.below (w:=w8s.drew) (ai.a.below (ab _ _).drew) hb;have B2:=ai.b.drew.trans (hb.mono ai.b.drew.size);have y2:=(hb.block w.heap.size (gl ai.c)).trans ai.c;have q2:=(hb.block b6 (gl ai.d)).trans ai.d;clear hb;obtain⟨c0,c1⟩:=Fp y2;obtain⟨f0,f1⟩:=ef y2;have HX:=kq5 T2 B2 y2 q2 ai.e;clear T2 B2 y2 q2
   try go_simp
   refine hK.out _ _ (HI.out _ HX.a HX.d) ?_;clear hK K
   try simp only[pu]
   iterate 4
    refine' pT ?_ ?_;rotate_left
    ·intro x;go_simp
     try rfl
    try simp only[pu]
   refine pD fun K hK=>?_;go_simp;have y3:=heap_setCell HX.c (v:=SV p2) (i:=1);have B3:=HX.b.setCell (p:=⟨w.heap.size,1,none⟩) Ih (SV p2);have q3:=(FB (w:=w9) (b:=w.heap.size) (i:=1) (v:=SV p2) (Nat.ne_of_gt HX.e)).trans HX.d;have T3:FF (w9.setCell ⟨w.heap.size,1,none⟩ (SV p2)) px ps ty kv kind td root:=HT.out.below B3;have a1:=HX.e;clear c0 c1 f0 f1 HX;generalize w9.setCell ⟨w.heap.size,1,none⟩ (SV p2)=w9s at*
   try go_simp
   refine hK.out _ _ (HI.out _ T3 q3) ?_;clear hK K
   try simp only[pu]
   refine eP ?_;have a4:=kq5 T3 B3 y3 q3 a1;clear T3 B3 y3 q3 a1;have y:=a4.c;have y':w9s.heap[w.heap.size]?=some (Xj p1 p2):=y;obtain⟨c0,c1⟩:=Fp y';obtain⟨f0,f1⟩:=ef y';have q5:=ew y' (SV p1) (SV p2);have B5:=eT a4.b Ih (SV p1) (SV p2);have HB:=kq2 q5 B5;clear y y' q5 B5;go_wp2_with fail;obtain⟨q5,B5⟩:=HB.out;generalize ((w9s.setCell ⟨w.heap.size,0,none⟩ (SV p1)).setCell ⟨w.heap.size,1,none⟩ (SV p2))=wF at*;obtain⟨e0,e1⟩:=Fp q5;exact bodyPost_ret (v:=.tuple #[.agg #[SV p1,SV p2],Xi 0]) (by simp[results,f18,go_sem,e0,e1]) rfl ⟨rfl,B5⟩
  ·obtain⟨rfl,rfl⟩:=Prod.mk.inj e;clear HU;have y:=H7.c;obtain⟨c0,c1⟩:=Fp y;obtain⟨f0,f1⟩:=ef y;have q5:=ew y (.string ⟨#[]⟩) (.string ⟨#[]⟩);have B5:=eT H7.b Ih (.string ⟨#[]⟩) (.string ⟨#[]⟩);have HB:=kq2 q5 B5;clear y q5 B5;go_wp2_with fail;obtain⟨q5,B5⟩:=HB.out;generalize ((W7.setCell ⟨w.heap.size,0,none⟩ (.string ⟨#[]⟩)).setCell ⟨w.heap.size,1,none⟩ (.string ⟨#[]⟩))=wF at*;obtain⟨e0,e1⟩:=Fp q5;exact bodyPost_ret (v:=.tuple #[.agg #[.string ⟨#[]⟩,.string ⟨#[]⟩],Xi 2]) (by simp[results,f18,go_sem,e0,e1]) rfl ⟨rfl,B5⟩
theorem nu{px ps kind td root:Nat}(hT:FF w px ps ty kv kind td root)(k:List UInt8)(k0 k1:Nat)(is:Bool)(t:List UInt8)(e1:Nat)(ht:is=false->t=[])(hg:is=true->∀W,Below w.heap.size w W->Cb 51 #[PV ps,Xu k1] W (.tuple #[SV t,Xi e1]))(hme:∀(f:Nat) (v:Value) (w:World),(method (f+1) ty v "loft/backend.find").run prog w=.ok (fm,v) w)(hen:∀(args:Array Value) (w:World),(callFunc fm args).run prog w=.ok (.enter fm args) w)(hs:∀W,Below w.heap.size w W->Ct fm #[kv,Xu root,SV k] W fun e w'=>e=.returned (.tuple #[.agg #[Xu k0,Xu k1],.bool is])/\Below W.heap.size W w'):
 Cb 17 #[PV px,SV k] w (.tuple #[SV t,.bool is]):=by
 have B0:=ab w.heap.size w;have hn:=mW (hT.below B0);obtain⟨I,an,ai⟩:=kN px ps ty kv kind td root;have al:=fun x:Fq I=>an _ x.ok;simp only[FF] at al;obtain⟨m0,m1,m2,m3,m4⟩:=iK al;have ar:I w.drew:=ai _ (hT.below B0.drew);have a4:=True.intro;have HI:=If ai;have HG:=kq4 hn hs hT B0;have HU:=kq2 hg ht;clear hn hs hT an ai al B0 hg ht;go_enter func17,ntmps17;go_wp2_with fail;refine Jc HG.a ?_;go_wp2_with fail;refine fh I (.take 0 (.take 1 (.take 2 (.take 3 (.take 4 (.take 5 (.take 6 (.take 7 (.take 8 (.take 9 (.take 10 (.two 11 15 (.take 12 (.take 13 (.take 14 (.go 15 (.go 16 (.go 17 .nil)))))) (.go 11 (.take 12 (.take 13 (.take 14 (.go 16 (.go 17 .nil)))))))))))))))))) (by kernel_rfl) (by kernel_rfl) ar ?_
 iterate 11
  refine' pT ?_ ?_;rotate_left
  ·intro x;go_simp
   try rfl
  try simp only[pu]
 refine gL ?h1 ?h2
 case' h1=>
  refine pD fun K hK=>?_;go_simp;refine wx (HG.b _ HG.d.drew) fun w2 hb2=>?_;have T2:=FF.below (w:=w.drew) (HG.c.below HG.d.drew) hb2;have a1:=HG.d.drew.trans (hb2.mono HG.d.drew.size);have B2:=kq2 T2 a1;clear T2 hb2 a1
  try go_simp
  refine hK.out _ _ (HI.out _ B2.a) ?_;clear hK K
  try simp only[pu]
  iterate 3
   refine' pT ?_ ?_;rotate_left
   ·intro x;go_simp
    try rfl
   try simp only[pu]
  refine pD fun K hK=>?_;go_simp;have A2:=(ab w2.heap.size w2).alloc Ih (.cells #[Xu 0,Xu 0] 104);have TA:=B2.a.below A2;have BA:=B2.b.trans (A2.mono B2.b.size);have qA:=heap_alloc_new w2 (.cells #[Xu 0,Xu 0] 104);have au:w.heap.size<=w2.heap.size:=B2.b.size;clear A2 B2;generalize w2.alloc (.cells #[Xu 0,Xu 0] 104)=W at*;generalize w2.heap.size=b6 at*
  try go_simp
  refine hK.out _ _ (HI.out _ TA) ?_;clear hK K
  try simp only[pu]
  obtain⟨c0,c1⟩:=Fp qA;obtain⟨f0,f1⟩:=ef qA;have HA:=kq4 TA BA qA au;clear TA BA qA au;refine pD fun K hK=>?_;go_simp;have qB:=ew HA.c (Xu k0) (Xu k1);have BB:=eT HA.b (HA.d) (Xu k0) (Xu k1);have TB:FF ((W.setCell ⟨b6,0,none⟩ (Xu k0)).setCell ⟨b6,1,none⟩ (Xu k1)) px ps ty kv kind td root:=HG.c.below BB;have a0:=HA.d;clear c0 c1 f0 f1 HA;generalize ((W.setCell ⟨b6,0,none⟩ (Xu k0)).setCell ⟨b6,1,none⟩ (Xu k1))=W7 at*
  try go_simp
  refine hK.out _ _ (HI.out _ TB) ?_;clear hK K
  try simp only[pu]
  refine pD fun K hK=>?_;go_simp
  try go_simp
  refine hK.out _ _ (HI.out _ TB) ?_;clear hK K
  try simp only[pu]
  refine eP ?_;have H7:=kq4 TB BB qB a0;clear TB BB qB a0;clear w2
 case' h2=>
  refine pD fun K hK=>?_;go_simp;have A2:=(ab w.heap.size w).alloc Ih (.cells #[Xu 0,Xu 0] 104);have BA:=(HG.d.trans (A2.mono HG.d.size)).drew;have qA:(w.alloc (.cells #[Xu 0,Xu 0] 104)).drew.heap[w.heap.size]?=_:=heap_alloc_new w (.cells #[Xu 0,Xu 0] 104);have TA:=HG.c.below BA;clear A2;generalize (w.alloc (.cells #[Xu 0,Xu 0] 104)).drew=w1 at*
  try go_simp
  refine hK.out _ _ (HI.out _ TA) ?_;clear hK K
  try simp only[pu]
  have ad:=kq3 TA BA qA;clear TA BA qA;refine pD fun K hK=>?_;go_simp;refine wx (HG.b _ ad.b) fun W hb2=>?_;have TA:=ad.a.below hb2;have BA:=ad.b.trans (hb2.mono ad.b.size);have qA:=(hb2.block w.heap.size (gl ad.c)).trans ad.c;obtain⟨b6,a2⟩:=Ii w.heap.size;have au:w.heap.size<=b6:=by omega
  rw[a2] at qA;simp only[a2];clear hb2 ad
  try go_simp
  refine hK.out _ _ (HI.out _ TA) ?_;clear hK K
  try simp only[pu]
  iterate 3
   refine' pT ?_ ?_;rotate_left
   ·intro x;go_simp
    try rfl
   try simp only[pu]
  obtain⟨c0,c1⟩:=Fp qA;obtain⟨f0,f1⟩:=ef qA;have HA:=kq4 TA BA qA au;clear TA BA qA au;refine pD fun K hK=>?_;go_simp;have qB:=ew HA.c (Xu k0) (Xu k1);have BB:=eT HA.b (HA.d) (Xu k0) (Xu k1);have TB:FF ((W.setCell ⟨b6,0,none⟩ (Xu k0)).setCell ⟨b6,1,none⟩ (Xu k1)) px ps ty kv kind td root:=HG.c.below BB;have a0:=HA.d;clear c0 c1 f0 f1 HA;generalize ((W.setCell ⟨b6,0,none⟩ (Xu k0)).setCell ⟨b6,1,none⟩ (Xu k1))=W7 at*
  try go_simp
  refine hK.out _ _ (HI.out _ TB) ?_;clear hK K
  try simp only[pu]
  refine pD fun K hK=>?_;go_simp
  try go_simp
  refine hK.out _ _ (HI.out _ TB) ?_;clear hK K
  try simp only[pu]
  refine eP ?_;have H7:=kq4 TB BB qB a0;clear TB BB qB a0;clear w1
 all_goals
  cases is
  ·have ht:=HU.b rfl;clear HU;subst ht;go_wp2_with fail;go_ret2;exact⟨rfl,H7.b⟩
  ·clear HI ar a4 m0 m1 m2 m3 m4 I;obtain⟨I,an,ai⟩:=lB (fun w'=>FF w' px ps ty kv kind td root) (fun w'=>w'.heap[b6]?=some (Xe k0 k1));have al:=fun x:Fq I=>(an _ x.ok).1;have a3:=fun x:Fq I=>(an _ x.ok).2;simp only[FF] at al;obtain⟨m0,m1,m2,m3,m4⟩:=iK al;obtain⟨n0,n1⟩:=fw a3;have HI:=If ai;have ar:I W7.drew:=ai _ H7.a H7.c;clear an ai al a3;go_wp2_with fail;refine fh I (.take 0 (.take 1 (.take 2 (.take 3 (.take 4 (.take 5 (.go 6 (.take 7 (.take 8 (.take 9 (.go 10 (.go 11 .nil)))))))))))) (by kernel_rfl) (by kernel_rfl) ar ?_;clear ar
   iterate 6
    refine' pT ?_ ?_;rotate_left
    ·intro x;go_simp
     try rfl
    try simp only[pu]
   refine pD fun K hK=>?_;go_simp;refine wx (HU.a (by trivial) _ H7.b.drew) fun w8 hb=>?_;have T2:=FF.below (w:=W7.drew) (H7.a.below (ab _ _).drew) hb;have q2:=(hb.block b6 (gl H7.c)).trans H7.c;have HX:=kq3 T2 q2 (H7.b.drew.trans (hb.mono H7.b.drew.size));clear hb T2 q2
   try go_simp
   refine hK.out _ _ (HI.out _ HX.a HX.b) ?_;clear hK K
   try simp only[pu]
   iterate 3
    refine' pT ?_ ?_;rotate_left
    ·intro x;go_simp
     try rfl
    try simp only[pu]
   refine pD fun K hK=>?_;go_simp
   try go_simp
   refine hK.out _ _ (HI.out _ HX.a HX.b) ?_;clear hK K
   try simp only[pu]
   refine pD fun K hK=>?_;go_simp
   try go_simp
   refine hK.out _ _ (HI.out _ HX.a HX.b) ?_;clear hK K
   try simp only[pu]
   refine eP ?_;go_wp2_with fail;go_ret2;exact⟨rfl,HX.c⟩
structure jC (w W:World) (px ps:Nat) (ty:TypeId) (kv:Value) (kind td root:Nat) (a b:List UInt8) (S:St) (Y:Nat->Prop) (q0 q1:Value):Prop where
 t:FF W px ps ty kv kind td root
 y:W.heap[w.heap.size]?=some (Xj a b)
 q:W.heap[w.heap.size+1]?=some (.cells #[q0,q1] 104)
 st:Ig W ps S (fun k=>Y k\/(w.heap.size<=k/\k<w.heap.size+2))
 k:Fo Y w W
theorem jC.drew{w W:World}{px ps kind td root:Nat}{a b:List UInt8}{q0 q1:Value}(h:jC w W px ps ty kv kind td root a b S Y q0 q1):jC w W.drew px ps ty kv kind td root a b S Y q0 q1:=
 ⟨h.t,h.y,h.q,h.st.below (ab _ _).drew,h.k.trans (Fo.drewN Y W 1)⟩
theorem jC.call{w W W':World}{px ps kind td root:Nat}{a b:List UInt8}{S S':St}{q0 q1:Value}(h:jC w W px ps ty kv kind td root a b S Y q0 q1)(hpx:Y px)(hs:Ig W' ps S' (fun k=>Y k\/(w.heap.size<=k/\k<w.heap.size+2)))(hk:Fo (fun k=>Y k\/(w.heap.size<=k/\k<w.heap.size+2)) W W'):jC w W' px ps ty kv kind td root a b S' Y q0 q1:=
 ⟨h.t.keep hk (aa hpx),(hk.block _ (ae ⟨by omega,by omega⟩)).trans h.y,(hk.block _ (ae ⟨by omega,by omega⟩)).trans h.q,hs,h.k.trans (hk.mono fun _ hk=>aa hk)⟩
theorem jC.write{w W W':World}{px ps kind td root:Nat}{a b:List UInt8}{q0 q1 r0 r1:Value}(h:jC w W px ps ty kv kind td root a b S Y q0 q1)(hpx:Y px)(hY:∀k,Y k->k<w.heap.size)(hz:W'.heap.size=W.heap.size)(ho:W'.os=W.os/\W'.tape=W.tape/\W'.output=W.output)(hw:∀k,k≠w.heap.size+1->W'.heap[k]?=W.heap[k]?)(hq:W'.heap[w.heap.size+1]?=some (.cells #[r0,r1] 104)):jC w W' px ps ty kv kind td root a b S Y r0 r1:=by
 have h1:=hY px hpx;refine⟨(hw px (by omega)).trans h.t,(hw _ (by omega)).trans h.y,hq,h.st.write (ae ⟨by omega,by omega⟩) h.q ⟨by decide,by decide⟩ (by simp) (by omega) fun k _ hk=>hw k hk,?_⟩;refine h.k.trans ⟨ho.1,ho.2.1,ho.2.2,by omega,fun k hk=>hw k ?_⟩;have:=hY k hk;omega
theorem ER{px ps kind td root:Nat}{S S':St}(h:Ig w ps S Y)(hi:Fv S)(hT:FF w px ps ty kv kind td root)(hpx:Y px)(a b:List UInt8)(hm:nJ S a b)(hp:itemsM S a b=some (p,S')):
 Ct 83 #[PV px,eu (a,b)] w fun e w'=>e=.returned (.tuple #[Id p.1 p.2,Xi 0])/\Ig w' ps S' Y/\Fo Y w w'/\Fv S'/\p.1<2^64/\p.2<2^64:=by
 obtain⟨e1,e2,e3⟩:=BI hp;have a2:=wu hm.2.2.1 hi;have a3:=wu hm.2.2.2 a2;have l1:=wv h.tabwf a;have a0:=fun W Z (hW:Ig W ps S Z)=>tP hW hi a hm.1 hm.2.2.1;have au:=fun W Z (hW:Ig W ps (fx S a).2 Z)=>And.intro (tP hW a2 b hm.2.1 hm.2.2.2) (wv hW.tabwf b);rw[e1] at a0 l1;rw[e2] at au;rw[<-e3] at a3 au;generalize (fx S a).2=S1 at*;obtain⟨p1,p2⟩:=p;simp only[eu,Id] at a0 au l1⊢;have B1:=(ab w.heap.size w).alloc Ih (Xj a b);have y1:=heap_alloc_new w (Xj a b);have z1:(w.alloc (Xj a b)).heap.size=w.heap.size+1:=by simp
 generalize a9:w.alloc (Xj a b)=w1 at*;have A2:=(ab w1.heap.size w1).alloc Ih (.cells #[Xu 0,Xu 0] 104);have B2:=B1.trans (A2.mono B1.size);have y2:=(A2.block w.heap.size (by omega)).trans y1;have q2:=heap_alloc_new w1 (.cells #[Xu 0,Xu 0] 104);have z2:(w1.alloc (.cells #[Xu 0,Xu 0] 104)).heap.size=w.heap.size+2:=by simp[z1]
 rw[z1] at q2;subst a9;have hY:=h.yl;have hA:jC w ((w.alloc (Xj a b)).alloc (.cells #[Xu 0,Xu 0] 104)) px ps ty kv kind td root a b S Y (Xu 0) (Xu 0):=⟨hT.below B2,y2,q2,by have:=h.wide B2;rwa[z2] at this,Fo.of_below B2 hY⟩;have HG:=kq4 a0 au hpx hY;have HL:=kq2 a3 l1;have HA:=If hA;clear a0 au hA B1 B2 y1 y2 q2 A2 z1 z2 hY h hi a2 a3 l1 hm hp e1 e2 e3 hT;go_enter func83,ntmps83;go_wp2_with fail;generalize ((w.alloc (Xj a b)).alloc (.cells #[Xu 0,Xu 0] 104))=W0 at*;obtain⟨I,a1,a5⟩:=lB (fun w'=>FF w' px ps ty kv kind td root) (fun w'=>w'.heap[w.heap.size]?=some (Xj a b));have a4:=fun x:Fq I=>(a1 _ x.ok).1;have a7:=fun x:Fq I=>(a1 _ x.ok).2;simp only[FF] at a4;obtain⟨m0,m1,m2,m3,m4⟩:=iK a4;obtain⟨n0,n1⟩:=fw a7;have HI:=If a5;clear a1 a5 a4 a7;have ar:I W0.drew:=HI.out _ HA.out.drew.t HA.out.drew.y;refine fh I (.take 0 (.take 1 (.take 2 (.take 3 (.take 4 (.take 5 (.go 6 (.take 7 (.take 8 (.take 9 (.take 10 (.go 11 (.go 12 .nil))))))))))))) (by kernel_rfl) (by kernel_rfl) ar ?_;clear ar
 iterate 6
  refine' pT ?_ ?_;rotate_left
  ·intro x;go_simp
   try rfl
  try simp only[pu]
 refine pD fun K hK=>?_;go_simp;refine(HG.a _ _ HA.out.drew.st).mono ?_;rintro e w3 ⟨rfl,h3,k3⟩;have al:=If (HA.out.drew.call HG.c h3 k3);clear h3 k3;have q:=al.out.q;obtain⟨c0,c1⟩:=Fp q;obtain⟨f0,f1⟩:=ef q;clear q
 try go_simp
 refine hK.out _ _ (HI.out _ al.out.t al.out.y) ?_;clear hK K
 try simp only[pu]
 iterate 4
  refine' pT ?_ ?_;rotate_left
  ·intro x;go_simp
   try rfl
  try simp only[pu]
 refine pD fun K hK=>?_;go_simp;have ad:=If (al.out.write (W':=w3.setCell ⟨w.heap.size+1,0,none⟩ (Xu p1)) HG.c HG.d (by simp) ⟨rfl,rfl,rfl⟩ (fun k hk=>FB hk) (heap_setCell al.out.q));clear c0 c1 f0 f1;generalize w3.setCell ⟨w.heap.size+1,0,none⟩ (Xu p1)=w4 at*
 try go_simp
 refine hK.out _ _ (HI.out _ ad.out.t ad.out.y) ?_;clear hK K
 try simp only[pu]
 refine pD fun K hK=>?_;go_simp
 try go_simp
 refine hK.out _ _ (HI.out _ ad.out.t ad.out.y) ?_;clear hK K
 try simp only[pu]
 refine eP ?_;go_wp2_with fail;have ar:I w4.drew:=HI.out _ ad.out.drew.t ad.out.drew.y;refine fh I (.take 0 (.take 1 (.take 2 (.take 3 (.take 4 (.take 5 (.go 6 (.take 7 (.take 8 (.take 9 (.take 10 (.go 11 (.go 12 .nil))))))))))))) (by kernel_rfl) (by kernel_rfl) ar ?_;clear ar
 iterate 6
  refine' pT ?_ ?_;rotate_left
  ·intro x;go_simp
   try rfl
  try simp only[pu]
 refine pD fun K hK=>?_;go_simp;obtain⟨a6,l2⟩:=HG.b _ _ ad.out.drew.st;refine a6.mono ?_;rintro e w5 ⟨rfl,h3,k3⟩;have an:=If (ad.out.drew.call HG.c h3 k3);have a8:=If l2;clear h3 k3 a6 l2;have q:=an.out.q;obtain⟨c0,c1⟩:=Fp q;obtain⟨f0,f1⟩:=ef q;clear q
 try go_simp
 refine hK.out _ _ (HI.out _ an.out.t an.out.y) ?_;clear hK K
 try simp only[pu]
 iterate 4
  refine' pT ?_ ?_;rotate_left
  ·intro x;go_simp
   try rfl
  try simp only[pu]
 refine pD fun K hK=>?_;go_simp;have ai:=If (an.out.write (W':=w5.setCell ⟨w.heap.size+1,1,none⟩ (Xu p2)) HG.c HG.d (by simp) ⟨rfl,rfl,rfl⟩ (fun k hk=>FB hk) (heap_setCell an.out.q));clear c0 c1 f0 f1;generalize w5.setCell ⟨w.heap.size+1,1,none⟩ (Xu p2)=w6 at*
 try go_simp
 refine hK.out _ _ (HI.out _ ai.out.t ai.out.y) ?_;clear hK K
 try simp only[pu]
 refine pD fun K hK=>?_;go_simp
 try go_simp
 refine hK.out _ _ (HI.out _ ai.out.t ai.out.y) ?_;clear hK K
 try simp only[pu]
 refine eP ?_;have q:=ai.out.q;obtain⟨c0,c1⟩:=Fp q;obtain⟨f0,f1⟩:=ef q;have HF:=If (ai.out.write (W':=((w6.setCell ⟨(w.heap.size+1),0,none⟩ (Xu p1)).setCell ⟨(w.heap.size+1),1,none⟩ (Xu p2))) HG.c HG.d (by simp) ⟨rfl,rfl,rfl⟩ (fun k hk=>fA hk _ _) (ew q _ _));clear q;go_wp2_with fail;generalize ((w6.setCell ⟨(w.heap.size+1),0,none⟩ (Xu p1)).setCell ⟨(w.heap.size+1),1,none⟩ (Xu p2))=w7 at*;have q:=HF.out.q;obtain⟨e0,e1⟩:=Fp q;exact bodyPost_ret (v:=.tuple #[.agg #[Xu p1,Xu p2],Xi 0]) (by simp[results,f83,go_sem,e0,e1]) rfl ⟨rfl,HF.out.st.mono fun k hk=>aa hk,HF.out.k,HL.a,HL.b,a8.out⟩
theorem xL{px ps kind td root:Nat}(h:Ig w ps S Y)(hi:Fv S)(hT:FF w px ps ty kv kind td root)(hpx:Y px)(k v:Nat)(hk:k<2^64)(hv:v<2^64)(hg:(fz S v).2≠8)(hi1:Fv (S.drop k).2):
 Ct 84 #[PV px,Id k v,.bool true] w fun e w'=>e=.returned (SV (fz S v).1)/\Ig w' ps ((S.drop k).2.drop v).2 Y/\Fo Y w w':=by
 have B1:=(ab w.heap.size w).alloc Ih (Xe k v);have q1:=heap_alloc_new w (Xe k v);have S1:=h.wide B1;have T1:=hT.below B1;have a4:=h.yl;have sw:(w.alloc (Xe k v)).heap.size=w.heap.size+1:=by simp
 rw[sw] at S1;have au:=fun W Z (hW:Ig W ps S Z)=>iz hW hi v hv hg;have a0:=fun W Z (hW:Ig W ps S Z)=>sE hW hi k hk;have a1:=fun W Z (hW:Ig W ps (S.drop k).2 Z)=>sE hW hi1 v hv;simp only[Id];generalize (fz S v).1=t at*;generalize (fz S v).2=er at*;generalize (S.drop k).1=e1 at*;generalize (S.drop k).2=S2 at*;generalize (S2.drop v).1=e2 at*;generalize (S2.drop v).2=S3 at*;have HG:=kq4 au a0 a1 (Fo.of_below B1 a4);clear au a0 a1 h hi hi1 hg;go_enter func84,ntmps84;go_wp2_with fail;generalize w.alloc (Xe k v)=W at*;obtain⟨I,ad,ai⟩:=lB (fun w'=>FF w' px ps ty kv kind td root) (fun w'=>w'.heap[w.heap.size]?=some (Xe k v));have al:=fun x:Fq I=>(ad _ x.ok).1;have a2:=fun x:Fq I=>(ad _ x.ok).2;simp only[FF] at al;obtain⟨m0,m1,m2,m3,m4⟩:=iK al;obtain⟨n0,n1⟩:=fw a2;have a3:I W.drew:=ai _ T1 q1;have HI:=If ai;have HW:=kq3 S1 T1 q1;clear S1 T1 q1 B1 ad ai al a2;refine fh I (.take 0 (.take 1 (.take 2 (.take 3 (.take 4 (.take 5 (.go 6 (.take 7 (.take 8 (.take 9 (.take 10 (.take 11 .nil)))))))))))) (by kernel_rfl) (by kernel_rfl) a3 ?_
 iterate 6
  refine' pT ?_ ?_;rotate_left
  ·intro x;go_simp
   try rfl
  try simp only[pu]
 refine pD fun K hK=>?_;go_simp;refine wx (HG.a _ _ (HW.a.drewN 1)) fun w2 hb2=>?_;have T2:FF w2 px ps ty kv kind td root:=FF.below (w:=W.drew) HW.b hb2;have q2:w2.heap[w.heap.size]?=_:=(hb2.block w.heap.size (gl HW.c)).trans HW.c;have s2:=(HW.a.drewN 1).below hb2;have k2:Fo Y W w2:=(Fo.drewN Y W 1).trans ((HW.a.drewN 1).keep hb2 |>.mono fun k hk=>aa hk);have H2:=kq4 s2 T2 q2 (HG.d.trans k2);clear s2 T2 q2 hb2 k2
 try go_simp
 refine hK.out _ _ (HI.out _ H2.b H2.c) ?_;clear hK K
 try simp only[pu]
 iterate 5
  refine' pT ?_ ?_;rotate_left
  ·intro x;go_simp
   try rfl
  try simp only[pu]
 refine eP ?_;go_wp2_with fail;have an:I w2.drew:=HI.out _ H2.b H2.c;refine fh I (.take 0 (.take 1 (.take 2 (.take 3 (.take 4 (.take 5 (.go 6 .nil))))))) (by kernel_rfl) (by kernel_rfl) an ?_
 iterate 6
  refine' pT ?_ ?_;rotate_left
  ·intro x;go_simp
   try rfl
  try simp only[pu]
 refine pD fun K hK=>?_;go_simp;refine(HG.b _ _ (H2.a.drewN 1)).mono ?_;rintro e w3 ⟨rfl,s3,k3⟩;have T3:FF w3 px ps ty kv kind td root:=FF.keep (w:=w2.drew) H2.b k3 (aa hpx);have q3:=(k3.block w.heap.size (ae ⟨Nat.le_refl _,aG _⟩)).trans H2.c;have H3:=kq4 s3 T3 q3 (H2.d.trans ((Fo.drewN Y w2 1).trans (k3.mono fun k hk=>aa hk)));clear s3 T3 q3 k3 an
 try go_simp
 refine hK.out _ _ (HI.out _ H3.b H3.c) ?_;clear hK K
 try simp only[pu]
 refine eP ?_;go_wp2_with fail;have ar:I w3.drew:=HI.out _ H3.b H3.c;refine fh I (.take 0 (.take 1 (.take 2 (.take 3 (.take 4 (.take 5 (.go 6 .nil))))))) (by kernel_rfl) (by kernel_rfl) ar ?_
 iterate 6
  refine' pT ?_ ?_;rotate_left
  ·intro x;go_simp
   try rfl
  try simp only[pu]
 refine pD fun K hK=>?_;go_simp;refine(HG.c _ _ (H3.a.drewN 1)).mono ?_;rintro e w4 ⟨rfl,s4,k4⟩;have T4:FF w4 px ps ty kv kind td root:=FF.keep (w:=w3.drew) H3.b k4 (aa hpx);have q4:=(k4.block w.heap.size (ae ⟨Nat.le_refl _,aG _⟩)).trans H3.c;have H4:=kq2 (s4.mono (Z:=Y) fun k hk=>aa hk) (H3.d.trans ((Fo.drewN Y w3 1).trans (k4.mono fun k hk=>aa hk)))
 try go_simp
 refine hK.out _ _ (HI.out _ T4 q4) ?_;clear hK K
 try simp only[pu]
 clear s4 k4 ar T4 q4;refine eP ?_;go_wp2_with fail;go_ret;exact⟨rfl,H4.out⟩
structure tn (w W:World) (px ps:Nat) (ty:TypeId) (kv:Value) (kind td root:Nat) (S:St) (Y:Nat->Prop) (b9 ik iv:Nat):Prop where
 t:FF W px ps ty kv kind td root
 st:Ig W ps S Y
 k:Fo Y w W
 q:W.heap[b9]?=some (Xe ik iv)
 l:w.heap.size<=b9
theorem ny{px ps kind td root:Nat}(h:Ig w ps S Y)(hi:Fv S)(hT:FF w px ps ty kv kind td root)(hpx:Y px)(a b:List UInt8)(hm:nJ S a b){S1:St}(hp:itemsM S a b=some (p,S1))(was:Bool)(tv:List UInt8){R:Nat->Nat->Nat->St->Prop}{R2:Nat->St->Prop}(hme:∀(f:Nat) (v:Value) (w:World),(method (f+1) ty v "loft/backend.insert").run prog w=.ok (fm,v) w)(hen:∀(args:Array Value) (w:World),(callFunc fm args).run prog w=.ok (.enter fm args) w)(hin:∀W Z,Ig W ps S1 Z->p.1<2^64->p.2<2^64->Ct fm #[kv,Xu root,Id p.1 p.2] W fun e w'=>∃(x ik iv:Nat) (S':St),e=.returned (.tuple #[Xu x,Id ik iv,.bool was,Xi 0])/\Ig w' ps S' Z/\Fo Z W w'/\R x ik iv S')(hgo:∀x ik iv S',R x ik iv S'->∀W Z,Ig W ps S' Z->FF W px ps ty kv kind td x->Z px->Ct 84 #[PV px,Id ik iv,.bool was] W fun e w'=>∃S3,e=.returned (SV tv)/\Ig w' ps S3 Z/\Fo Z W w'/\R2 x S3):
 Ct 43 #[PV px,eu (a,b)] w fun e w'=>∃(x:Nat) (S3:St),e=.returned (.tuple #[SV tv,.bool was,Xi 0])/\Ig w' ps S3 Y/\Fo (fun k=>Y k/\k≠px) w w'/\FF w' px ps ty kv kind td x/\R2 x S3:=by
 have a8:(1000<(a.length:Int))=False:=eq_false (by have:=hm.1;omega);have a9:(1000<(b.length:Int))=False:=eq_false (by have:=hm.2.1;omega);have B0:=(ab w.heap.size w).alloc Ih (Xj a b);have hn:=mW (hT.below B0);have an:=ER (h.below B0) hi (hT.below B0) hpx a b hm hp;have hY:=h.yl;have a2:=hT.below B0;have a1:=Fo.of_below B0 hY;obtain⟨p1,p2⟩:=p;simp only[eu,Id] at an hin hgo⊢;have HG:=kq8 hn an hin hgo hpx hY a2 a1;clear hn an hin hgo B0 h hi hT hm hp hY a2 a1;go_enter func43,ntmps43;go_wp2_with fail;refine Jc HG.a ?_;go_wp2_with fail;refine HG.b.mono ?_;rintro e w1 ⟨rfl,s1,k1,i1,l1,l2⟩;have A2:=(ab w1.heap.size w1).alloc Ih (Xe p1 p2);have q2:=heap_alloc_new w1 (Xe p1 p2);have s2:=s1.wide A2;have z2:(w1.alloc (Xe p1 p2)).heap.size=w1.heap.size+1:=by simp
 have K2:=HG.h.trans (k1.trans (s1.keep A2));have T2:FF (w1.alloc (Xe p1 p2)) px ps ty kv kind td root:=HG.g.keep (k1.trans (s1.keep A2)) HG.e;have ins:=fun W Z hW=>HG.c W Z hW l1 l2;have a5:w.heap.size<=w1.heap.size:=by have:=(HG.h.trans k1).size;exact this
 rw[z2] at s2;clear s1 k1 i1 A2;go_wp2_with fail;generalize a7:w1.alloc (Xe p1 p2)=w2 at*;generalize a6:w1.heap.size=b7 at*;clear a7 a6 w1;have H2:=kq7 T2 s2 K2 q2 ins a5 z2;obtain⟨I,ai,al⟩:=lB (fun w'=>FF w' px ps ty kv kind td root) (fun w'=>w'.heap[b7]?=some (Xe p1 p2));have ar:=fun x:Fq I=>(ai _ x.ok).1;have a4:=fun x:Fq I=>(ai _ x.ok).2;simp only[FF] at ar;obtain⟨m0,m1,m2,m3,m4⟩:=iK ar;obtain⟨n0,n1⟩:=fw a4;have a0:I w2.drew:=al _ T2 q2;have HI:=If al;clear ai al ar a4 T2 s2 K2 q2 ins a5 z2;refine fh I (.take 0 (.take 1 (.take 2 (.take 3 (.take 4 (.take 5 (.take 6 (.take 7 (.take 8 (.take 9 (.take 10 (.two 11 17 (.take 12 (.take 13 (.take 14 (.take 15 (.take 16 (.go 17 (.go 18 (.go 19 (.go 20 (.go 21 .nil)))))))))) (.go 11 (.take 12 (.take 13 (.take 14 (.take 15 (.take 16 (.go 18 (.go 19 (.go 20 (.go 21 .nil)))))))))))))))))))))) (by kernel_rfl) (by kernel_rfl) a0 ?_;clear a0
 iterate 11
  refine' pT ?_ ?_;rotate_left
  ·intro x;go_simp
   try rfl
  try simp only[pu]
 refine gL ?h1 ?h2
 case' h1=>
  refine pD fun K hK=>?_;go_simp;refine(H2.e _ _ (H2.b.below (ab _ _).drew)).mono ?_;rintro e w3 ⟨x,ik,iv,S',rfl,s3,k3,i3⟩;have T3:=FF.keep (w:=w2.drew) H2.a k3 (aa HG.e);have q3:w3.heap[b7]?=some (Xe p1 p2):=(k3.block b7 (ae ⟨Nat.le_refl _,aG _⟩)).trans H2.d;have H3:=kq5 T3 q3 s3 (k3.mono (Z:=Y) fun k hk=>aa hk) i3;clear T3 q3 s3 k3 i3
  try go_simp
  refine hK.out _ _ (HI.out _ H3.a H3.b) ?_;clear hK K
  try simp only[pu]
  iterate 5
   refine' pT ?_ ?_;rotate_left
   ·intro x;go_simp
    try rfl
   try simp only[pu]
  refine pD fun K hK=>?_;go_simp;have A4:=(ab w3.heap.size w3).alloc Ih (.cells #[Xu 0,Xu 0] 104);have TA:=H3.a.below A4;have q4:=(A4.block b7 (gl H3.b)).trans H3.b;have sA:=((H3.c.mono (Z:=Y) fun k hk=>aa hk).wide A4).mono (Z:=fun k=>Y k\/k=w3.heap.size) (fun k hk=>hk.imp id fun e=>⟨by omega,by simp;omega⟩);have kA:=(H2.c.trans (Fo.drewN Y w2 1)).trans (H3.d.trans ((H3.c.mono (Z:=Y) fun k hk=>aa hk).keep A4));have qA:=heap_alloc_new w3 (.cells #[Xu 0,Xu 0] 104);have lA:w.heap.size<=w3.heap.size:=((H2.c.trans (Fo.drewN Y w2 1)).trans H3.d).size;have iA:=H3.e;have nb:b7≠w3.heap.size:=Nat.ne_of_lt (gl H3.b);clear A4 H3;generalize w3.alloc (.cells #[Xu 0,Xu 0] 104)=W at*;generalize w3.heap.size=b9 at*
  try go_simp
  refine hK.out _ _ (HI.out _ TA q4) ?_;clear hK K
  try simp only[pu]
  refine pD fun K hK=>?_;go_simp
  try go_simp
  refine hK.out _ _ (HI.out _ TA q4) ?_;clear hK K
  try simp only[pu]
  obtain⟨c0,c1⟩:=Fp qA;obtain⟨f0,f1⟩:=ef qA;have HA:=kq6 TA sA kA qA lA iA;clear TA sA kA qA lA iA;refine pD fun K hK=>?_;go_simp;have q5:((W.setCell ⟨b9,0,none⟩ (Xu ik)).setCell ⟨b9,1,none⟩ (Xu iv)).heap[b7]?=some (Xe p1 p2):=(fA nb _ _).trans q4;have ad:px≠b9:=by have:=HG.f px HG.e;have:=HA.e;omega
  have qB:=ew HA.d (Xu ik) (Xu iv);have oB:∀k,k≠b9->((W.setCell ⟨b9,0,none⟩ (Xu ik)).setCell ⟨b9,1,none⟩ (Xu iv)).heap[k]?=W.heap[k]?:=fun k hk=>fA hk _ _;have sB:Ig ((W.setCell ⟨b9,0,none⟩ (Xu ik)).setCell ⟨b9,1,none⟩ (Xu iv)) ps S' Y:=(HA.b.write (ae rfl) HA.d ⟨by decide,by decide⟩ (by simp) (by simp) fun k _ hk=>oB k hk).mono fun k hk=>aa hk;have kB:Fo Y w ((W.setCell ⟨b9,0,none⟩ (Xu ik)).setCell ⟨b9,1,none⟩ (Xu iv)):=HA.c.trans ⟨rfl,rfl,rfl,by simp,fun k hk=>oB k (by have:=HG.f k hk;have:=HA.e;omega)⟩;have P7:tn w ((W.setCell ⟨b9,0,none⟩ (Xu ik)).setCell ⟨b9,1,none⟩ (Xu iv)) px ps ty kv kind td root S' Y b9 ik iv:=⟨(oB px ad).trans HA.a,sB,kB,qB,HA.e⟩;have au:=If HA.f;clear c0 c1 f0 f1 HA qB oB sB kB ad;have H7:=If P7;clear P7;generalize ((W.setCell ⟨b9,0,none⟩ (Xu ik)).setCell ⟨b9,1,none⟩ (Xu iv))=W7 at*
  try go_simp
  refine hK.out _ _ (HI.out _ H7.out.t q5) ?_;clear hK K
  try simp only[pu]
  refine pD fun K hK=>?_;go_simp
  try go_simp
  refine hK.out _ _ (HI.out _ H7.out.t q5) ?_;clear hK K
  try simp only[pu]
  refine pD fun K hK=>?_;go_simp
  try go_simp
  refine hK.out _ _ (HI.out _ H7.out.t q5) ?_;clear hK K
  try simp only[pu]
  refine eP ?_;clear q4 q5 w3 nb
 case' h2=>
  refine pD fun K hK=>?_;go_simp;have A3:=((ab w2.heap.size w2).alloc Ih (.cells #[Xu 0,Xu 0] 104)).drew;have T3:=H2.a.below A3;have q3:=(A3.block b7 (gl H2.d)).trans H2.d;have qz:(w2.alloc (.cells #[Xu 0,Xu 0] 104)).drew.heap[w2.heap.size]?=_:=heap_alloc_new w2 (.cells #[Xu 0,Xu 0] 104);have s3:=H2.b.wide A3;have z3:(w2.alloc (.cells #[Xu 0,Xu 0] 104)).drew.heap.size=w2.heap.size+1:=by show (w2.alloc _).heap.size=_;simp
  have k3:=H2.c.trans ((H2.b.mono (Z:=Y) fun k hk=>aa hk).keep A3);have nb:b7≠w2.heap.size:=by have:=H2.g;omega
  have lz:w.heap.size<=w2.heap.size:=H2.c.size;rw[z3] at s3;clear A3 z3;generalize (w2.alloc (.cells #[Xu 0,Xu 0] 104)).drew=w3 at*;generalize w2.heap.size=b9 at*
  try go_simp
  refine hK.out _ _ (HI.out _ T3 q3) ?_;clear hK K
  try simp only[pu]
  have H3:=kq6 T3 q3 s3 k3 qz lz;clear T3 q3 s3 k3 qz lz;refine pD fun K hK=>?_;go_simp;refine(H2.e _ _ H3.c).mono ?_;rintro e W ⟨x,ik,iv,S',rfl,s4,k4,i4⟩;have TA:=FF.keep (w:=w3) H3.a k4 (aa (aa HG.e));have q4:W.heap[b7]?=some (Xe p1 p2):=(k4.block b7 (aa (ae ⟨Nat.le_refl _,aG _⟩))).trans H3.b;have sA:=s4.mono (Z:=fun k=>Y k\/k=b9) (fun k hk=>hk.elim (fun h=>aa (aa h)) fun e=>ae ⟨by omega,by omega⟩);have kA:=H3.d.trans (k4.mono (Z:=Y) fun k hk=>aa (aa hk));have qA:W.heap[b9]?=some (.cells #[Xu 0,Xu 0] 104):=(k4.block b9 (ae ⟨Nat.le_refl _,aG _⟩)).trans H3.e;have lA:=H3.f;have iA:=i4;clear s4 k4 i4 H3
  try go_simp
  refine hK.out _ _ (HI.out _ TA q4) ?_;clear hK K
  try simp only[pu]
  iterate 5
   refine' pT ?_ ?_;rotate_left
   ·intro x;go_simp
    try rfl
   try simp only[pu]
  refine pD fun K hK=>?_;go_simp
  try go_simp
  refine hK.out _ _ (HI.out _ TA q4) ?_;clear hK K
  try simp only[pu]
  obtain⟨c0,c1⟩:=Fp qA;obtain⟨f0,f1⟩:=ef qA;have HA:=kq6 TA sA kA qA lA iA;clear TA sA kA qA lA iA;refine pD fun K hK=>?_;go_simp;have q5:((W.setCell ⟨b9,0,none⟩ (Xu ik)).setCell ⟨b9,1,none⟩ (Xu iv)).heap[b7]?=some (Xe p1 p2):=(fA nb _ _).trans q4;have ad:px≠b9:=by have:=HG.f px HG.e;have:=HA.e;omega
  have qB:=ew HA.d (Xu ik) (Xu iv);have oB:∀k,k≠b9->((W.setCell ⟨b9,0,none⟩ (Xu ik)).setCell ⟨b9,1,none⟩ (Xu iv)).heap[k]?=W.heap[k]?:=fun k hk=>fA hk _ _;have sB:Ig ((W.setCell ⟨b9,0,none⟩ (Xu ik)).setCell ⟨b9,1,none⟩ (Xu iv)) ps S' Y:=(HA.b.write (ae rfl) HA.d ⟨by decide,by decide⟩ (by simp) (by simp) fun k _ hk=>oB k hk).mono fun k hk=>aa hk;have kB:Fo Y w ((W.setCell ⟨b9,0,none⟩ (Xu ik)).setCell ⟨b9,1,none⟩ (Xu iv)):=HA.c.trans ⟨rfl,rfl,rfl,by simp,fun k hk=>oB k (by have:=HG.f k hk;have:=HA.e;omega)⟩;have P7:tn w ((W.setCell ⟨b9,0,none⟩ (Xu ik)).setCell ⟨b9,1,none⟩ (Xu iv)) px ps ty kv kind td root S' Y b9 ik iv:=⟨(oB px ad).trans HA.a,sB,kB,qB,HA.e⟩;have au:=If HA.f;clear c0 c1 f0 f1 HA qB oB sB kB ad;have H7:=If P7;clear P7;generalize ((W.setCell ⟨b9,0,none⟩ (Xu ik)).setCell ⟨b9,1,none⟩ (Xu iv))=W7 at*
  try go_simp
  refine hK.out _ _ (HI.out _ H7.out.t q5) ?_;clear hK K
  try simp only[pu]
  refine pD fun K hK=>?_;go_simp
  try go_simp
  refine hK.out _ _ (HI.out _ H7.out.t q5) ?_;clear hK K
  try simp only[pu]
  refine pD fun K hK=>?_;go_simp
  try go_simp
  refine hK.out _ _ (HI.out _ H7.out.t q5) ?_;clear hK K
  try simp only[pu]
  refine eP ?_;clear q4 q5 w3 nb
 all_goals
  clear m0 m1 m2 m3 m4 n0 n1 HI I;have t7:=H7.out.t;simp only[FF] at t7;obtain⟨c0,c1,c2,c3,c4⟩:=ld t7;obtain⟨f0,f1,f2,f3,f4⟩:=G2 t7;have ad:px≠b9:=by have:=HG.f px HG.e;have:=H7.out.l;omega
  have t8:FF (W7.setCell ⟨px,4,none⟩ (Xu x)) px ps ty kv kind td x:=heap_setCell t7;have q8:=(FB (w:=W7) (b:=px) (i:=4) (v:=Xu x) ad.symm).trans H7.out.q;have s8:Ig (W7.setCell ⟨px,4,none⟩ (Xu x)) ps S' Y:=H7.out.st.write HG.e t7 ⟨by decide,by decide⟩ (by simp) (by simp) fun k _ hk=>FB hk;have k8:Fo (fun k=>Y k/\k≠px) w (W7.setCell ⟨px,4,none⟩ (Xu x)):=(H7.out.k.mono fun k hk=>hk.1).trans ⟨rfl,rfl,rfl,by simp,fun k hk=>FB hk.2⟩;obtain⟨e0,e1⟩:=Fp q8;have H8:=kq3 t8 s8 k8;clear t7 t8 s8 k8 ad q8;go_wp2_with fail;refine(HG.d x ik iv S' au.out _ _ H8.b H8.a HG.e).mono ?_;rintro e w9 ⟨S3,rfl,s9,k9,r9⟩;have a3:Ig w9 ps S3 Y/\Fo (fun k=>Y k/\k≠px) w w9/\FF w9 px ps ty kv kind td x/\R2 x S3:=⟨s9,H8.c.trans (k9.mono fun k hk=>hk.1),FF.keep H8.a k9 HG.e,r9⟩;have HF:=If a3;clear a3 s9 k9 H8 c0 c1 c2 c3 c4 f0 f1 f2 f3 f4 e0 e1;go_wp2_with fail;go_ret3;exact⟨x,S3,rfl,HF.out⟩
end
section
open Go.RowKit Tryz Go.BigFrame Go.Maps Go.WideMaps Lf Tr
open Go.Shelf
variable{S:St}{Y:Nat->Prop}
structure fD (w0 w:World) (B ps:Nat) (S:St) (Y:Nat->Prop) (v1 v2 u1 u2:Value) (m1 m2:List Nat):Prop where
 own1:FE w B u1 m1
 own2:FE w B u2 m2
 st:Ig w ps S (fun k=>Y k\/(w0.heap.size<=k/\k<w.heap.size))
 keep:Fo (fun k=>k<w0.heap.size/\v1.ownBlock≠some k/\v2.ownBlock≠some k) w0 w
 p1:u1.ownBlock=v1.ownBlock\/∃g,u1.ownBlock=some g/\w0.heap.size<=g
 p2:u2.ownBlock=v2.ownBlock\/∃g,u2.ownBlock=some g/\w0.heap.size<=g
 apart:∀g,u1.ownBlock=some g->u2.ownBlock≠some g
 y1:∀g,v1.ownBlock=some g->Y g
 y2:∀g,v2.ownBlock=some g->Y g
theorem fD.swap{w0 w:World}{B ps:Nat}{v1 v2 u1 u2:Value}{m1 m2:List Nat}(h:fD w0 w B ps S Y v1 v2 u1 u2 m1 m2):fD w0 w B ps S Y v2 v1 u2 u1 m2 m1:=
 ⟨h.own2,h.own1,h.st,h.keep.mono fun _ hk=>⟨hk.1,hk.2.2,hk.2.1⟩,h.p2,h.p1,fun g h2 h1=>h.apart g h1 h2,h.y2,h.y1⟩
theorem fD.start{w:World}{B ps:Nat}{v1 v2:Value}{m1 m2:List Nat}(h:Ig w ps S Y)(o1:FE w B v1 m1)(o2:FE w B v2 m2)(ap:∀g,v1.ownBlock=some g->v2.ownBlock≠some g)(y1:∀g,v1.ownBlock=some g->Y g)(y2:∀g,v2.ownBlock=some g->Y g):fD w w B ps S Y v1 v2 v1 v2 m1 m2:=
 ⟨o1,o2,h.mono fun _ hk=>hk.elim id fun h=>absurd h.1 (Nat.not_le.2 h.2),Fo.refl _ _,aa rfl,aa rfl,ap,y1,y2⟩
theorem fD.below{w0 w w':World}{B ps:Nat}{v1 v2 u1 u2:Value}{m1 m2:List Nat}(h:fD w0 w B ps S Y v1 v2 u1 u2 m1 m2)(hb:Below w.heap.size w w'):fD w0 w' B ps S Y v1 v2 u1 u2 m1 m2:=
 ⟨h.own1.at fun x e=>hb.block x (h.own1.block e).2.1,h.own2.at fun x e=>hb.block x (h.own2.block e).2.1,
  (h.st.wide hb).mono fun k hk=>by
   rcases hk with hk | hk
   ·exact aa (aa hk)
   ·by_cases hw:k<w.heap.size
    ·exact aa (ae ⟨hk.1,hw⟩)
    ·exact ae ⟨by omega,hk.2⟩,
  h.keep.trans (Fo.of_below hb fun k hk=>by have:=h.keep.size;omega),h.p1,h.p2,h.apart,h.y1,h.y2⟩
theorem fD.ins{w0 w:World}{B ps:Nat}{v1 v2 u1 u2:Value}{m1 m2:List Nat}(h:fD w0 w B ps S Y v1 v2 u1 u2 m1 m2)(htab:fy<B)(hB:B<=w.heap.size)(hl:m1.length<=1000){i:Nat}(hi:i<=m1.length){x vb:Nat}(hx:w.heap[vb]?=some (.cells #[Xu x] 61 (0,0)))(hne:u1.ownBlock≠some vb):
 Ct 215 #[u1,Xi i,.slice (some ⟨vb,0,none⟩) 1 1] w fun e w'=>∃ad,e=.returned ad/\fD w0 w' B ps S Y v1 v2 ad u2 (m1.take i++x::m1.drop i) m2/\(∀k,k<w.heap.size->u1.ownBlock≠some k->w'.heap[k]?=w.heap[k]?):=by
 refine(uT h.st h.own1 (fun g hg=>?_) htab hl hi hx hne hB).mono ?_
 ·rcases h.p1 with e | ⟨g',e,ai⟩
  ·exact aa (h.y1 g (by rw[<-e];exact hg))
  ·rw[e] at hg
   injection hg with hg
   subst hg;exact ae ⟨ai,(h.own1.block e).2.1⟩
 ·rintro e w' ⟨ad,rfl,I⟩;have al:=h.keep.size;have an:=I.grown.size;refine⟨ad,rfl,⟨I.own,I.row h.own2 fun g hg e=>h.apart g e hg,I.st.mono fun k hk=>?_,h.keep.trans (I.keep fun k hk=>⟨by omega,fun e=>?_⟩),?_,h.p2,fun g hg e=>?_,h.y1,h.y2⟩,fun k hk hn=>I.other hk hn⟩
  ·rcases hk with hk | hk
   ·exact aa (aa hk)
   ·by_cases hw:k<w.heap.size
    ·exact aa (ae ⟨hk.1,hw⟩)
    ·exact ae ⟨by omega,hk.2⟩
  ·rcases h.p1 with e1 | ⟨g',e1,ai⟩
   ·exact hk.2.1 (by rw[<-e1];exact e)
   ·rw[e1] at e
    injection e with e
    omega
  ·rcases I.at' with e1 | ⟨g,e1,hg⟩
   ·rw[e1];exact h.p1
   ·exact ae ⟨g,e1,by omega⟩
  ·rcases I.at' with e1 | ⟨g',e1,ai⟩
   ·exact h.apart g (by rw[<-e1];exact hg) e
   ·rw[e1] at hg
    injection hg with hg
    have:=(h.own2.block e).2.1;omega
def JB(bt bl:Nat):Value:=.func (.func 214) #[] #[PV bl,PV bt]
def iQ:Option (It×Nat)->Array Value
 | none=>#[.bool false,Xu 0,Xu 0,Xu 0]
 | some (m,g)=>#[.bool true,Xu m.kh,Xu m.vh,Xu g]
def ky(r:Option (It×Nat)):Value:=.agg (iQ r)
def j4(d:Nat):Prop:=∀{w:World} {ps:Nat} {S:St} {o:Nat->Nat} {Z:Nat->Prop} {bt bl D t:Nat} {v:Value} {L:List Nat} {x:Bt (d+1)} {e:It} (i:Nat),
 Ig w ps S Z->Bt.Walk S o t x->(Bt.nodes x).Nodup->i+d<40->gz w bt bl D ps t v L->lG S t L->(∀h∈L,h∉Bt.nodes x)->Z bl->Z bt->(∀b,v.ownBlock=some b->Z b)->L.length<=1000->
 (∀a∈Bt.its x,a.k≠e.k)->Bt.ItLt (Bt.its x)->e.kh<2^64->e.vh<2^64->Bt.trail (Bt.fullB t e.k x)<=L.length->
 Ct 182 #[FH ps t,Xu (Bt.hd x:Nat),SV e.k,Id e.kh e.vh,JB bt bl,Xi i] w fun en w'=>∃(r:Option (It×Nat)) (S':St) (v':Value) (L' U:List Nat),en=.returned (ky r)/\L=L'++U/\Bt.Put S S' o t x e U r/\Ig w' ps S' Z/\Fo (fun k=>Z k/\k≠bl) w w'/\gz w' bt bl D ps t v' L'/\v'.ownBlock=v.ownBlock/\U.length=Bt.trail (Bt.fullB t e.k x)/\r.isSome=(Bt.fullB t e.k x).all id
end
section
open Go.RowKit Tryz Go.BigFrame Go.Maps Go.WideMaps Lf Tr
variable{S:St}{i:Nat}{o:Nat->Nat}
theorem ox{t d:Nat}{x:Bt (d+2)}(h:Bt.Walk S o t x)(hi:i<=(Bn.es x).length):(Bt.lo ((Bn.es x).take i) (((Bn.ks x).map Bt.its).take i)).length=i+fV x i:=by
 have:=Bt.Ok.kids h.ok;rw[Bt.lo_length _ _ (by rw[ay,ay,ao];omega),ay];unfold fV;rw[<-bS,cI,dl hi];rfl
theorem Bt.Walk.at_kid{t d:Nat}{x:Bt (d+2)}(h:Walk S o t x){i m:Nat}(hi:i<(Bn.ks x).length)(hm:m<(its (Bn.ks x)[i]).length):(its x)[i+fV x i+m]?=(its (Bn.ks x)[i])[m]?:=by
 have hk:=Bt.Ok.kids h.ok;rw[el,nA (k:=i) (by omega) h.ok.rows,jN hi,bQ (by rw[ox h (by omega)];omega),ox h (by omega),cu,cF hm]
theorem Bt.Walk.at_here{t d:Nat}{x:Bt (d+2)}(h:Walk S o t x)(hi:i<(Bn.ks x).length)(he:i<(Bn.es x).length):(its x)[i+fV x i+(its (Bn.ks x)[i]).length]?=(Bn.es x)[i]?:=by
 rw[el,nA (k:=i) (by omega) h.ok.rows,jN hi,bQ (by rw[ox h (by omega)];omega),ox h (by omega),cu,bQ Ih,dA,mP he,af he];rfl
theorem qFqac{P:Prop}(h:P:=by
 have eW:WF.drew.heap[w.heap.size]?=_:=eW;obtain⟨e0,e1⟩:=Fp eW;exact bodyPost_ret (v:=.tuple #[.agg #[Xu (e.kh:Nat),Xu (e.vh:Nat)],Xi 0]) (by simp[results,f322,go_sem,e0,e1]) rfl ⟨rfl,BF.drew⟩):P:=h
theorem zS{w:World}{ps:Nat}{Y:Nat->Prop}(h:Ig w ps S Y){t d:Nat}{x:Bt (d+1)}(hx:Bt.Walk S o t x)(hd:d<40){k:Nat}{e:It}(hke:(Bt.its x)[k]?=some e):
 Ct 322 #[PV ps,Xi t,Xu (Bt.hd x:Nat),Xi k] w fun e' w'=>e'=.returned (.tuple #[Id e.kh e.vh,Xi 0])/\Below w.heap.size w w':=by
 have a9:k<(Bt.its x).length:=(az.1 hke).1;have B1:=(ab w.heap.size w).alloc Ih (.cells #[Xu 0,Xu 0] 104);have B0:=B1.alloc (by simp) (Xc ps t);have z1:(w.alloc (.cells #[Xu 0,Xu 0] 104)).heap.size=w.heap.size+1:=by simp
 have q1:=heap_alloc_new w (.cells #[Xu 0,Xu 0] 104);have q3:=heap_alloc_new (w.alloc (.cells #[Xu 0,Xu 0] 104)) (Xc ps t);have q2:=(((ab (w.alloc (.cells #[Xu 0,Xu 0] 104)).heap.size (w.alloc (.cells #[Xu 0,Xu 0] 104))).alloc Ih (Xc ps t)).block w.heap.size (by simp)).trans q1;rw[z1] at q3;have hz:w.heap.size+2<=((w.alloc (.cells #[Xu 0,Xu 0] 104)).alloc (Xc ps t)).heap.size:=by simp
 have hi:=hx.fit.inv;have has:=kZ (h.below B1) hi hx.t1 hx.t2;generalize d9:w.alloc (.cells #[Xu 0,Xu 0] 104)=Wa at*;generalize hW:Wa.alloc (Xc ps t)=W0 at*;have er:Wa.heap.size=w.heap.size+1:=z1;have au:=fun W (hw:Below W0.heap.size W0 W) {n:BN} {hh:Nat} (hb:jg S t hh n)=>kI (h.below (B0.trans (hw.mono B0.size))) hi hb;have b1:=fun W (hw:Below W0.heap.size W0 W) {n:BN} {hh:Nat} (hb:jg S t hh n) hz=>nS (h.below (B0.trans (hw.mono B0.size))) hi hb hz;have a4:=b1 W0 (ab _ _) hx.read hx.size.2;have a4:Cb 175 #[FH ps t,Xu (Bt.hd x:Nat)] W0 (Xi ((Bt.its x).length:Nat)):=a4;obtain⟨x0,x1⟩:=Fp q3;have HG:=kq4 (kq4 B0 q2 q3 hz) @au @b1 has;have HX:=If hx;have d4:=hx.few;obtain⟨n0,bj⟩:=Ii (Bt.hd x);obtain⟨L,hL⟩:=Ii (Bt.its x).length;rw[bj,hL] at a4;rw[hL] at a9 d4;have HR:=kq2 hke bj;rw[bj];unfold FH at a4;have H0:=If a4;have eg:¬((L:Int)<=k):=by omega
 have ee:((k:Int)<0)=False:=eq_false (by omega);have eh:(L<=k)=False:=eq_false (by omega);clear au b1 h hx hi B0 B1 q1 q2 q3 z1 hz has a4 hke bj hL;go_enter func322,ntmps322;go_wp2_with fail;refine Jc HG.d ?_;go_wp2_with fail;refine wx H0.out fun w1 hb1=>?_;have d0:=If hb1;clear hb1 x0 x1;go_wp2_with fail
 go_loopw [2,3,12,13,14,15,36] (fun s2 s3 _ _ _ _ s36 wr=>∃(d' i kk hh:Nat),s2=Xu hh/\s3=Xi kk/\s36=Xi i/\i+d'<40/\kk<=1000000/\Hid (Below W0.heap.size W0 wr/\∃y:Bt (d'+1),Bt.Walk S o t y/\Bt.hd y=hh/\(Bt.its y)[kk]?=some e)) (fun _ _ _ _ _ _ s36 _=>40-(intOf s36).toNat)
 case atStart=>exact⟨d,0,k,n0,rfl,rfl,rfl,by omega,by omega,d0.out,x,HX.out,HR.b,HR.a⟩
 case round=>
  obtain⟨d',i,kk,hh,rfl,rfl,rfl,eb,ea,I⟩:=hrel;obtain⟨hB,y,hy,cw,al⟩:=I.out;have em:(i:Int)<40:=by omega
  have t3:=(hB.block (w.heap.size+1) (by have:=HG.a.d;omega)).trans HG.a.c;obtain⟨x0,x1⟩:=Fp t3;have au:=HG.b wr hB hy.read;unfold FH eC at au;rw[cw] at au;have HY:=kq3 hB hy al;clear hB hy cw al t3;obtain⟨n,hn⟩:=Ii (Bt.bn y);rw[hn] at au;have ca:=If au;clear au;go_wp2_with fail;refine ca.out.mono ?_;rintro e w1 ⟨vk,vv,vc,rfl,rows,hb⟩;obtain⟨Ak,ck,rfl⟩:=rows.k.slice2;obtain⟨Av,cv,rfl⟩:=rows.v.slice2;obtain⟨Ac,cc,rfl⟩:=rows.c.slice2;have a9:n.keys.length=(Bn.es y).length:=by rw[<-hn];unfold Bt.bn;rw[ao]
  have b9:n.vals.length=(Bn.es y).length:=by rw[<-hn];unfold Bt.bn;rw[ao]
  have bs:n.kids.length=(Bn.ks y).length:=by rw[<-hn];unfold Bt.bn;rw[ao]
  rw[a9] at rows;rw[b9] at rows;rw[bs] at rows;rw[a9,b9,bs];generalize n.size=sz at*;have hy:=HY.b;have d8:=hy.es.2.2;generalize c':(Bn.es y).length=lk at*;generalize c8:(Bn.ks y).length=lc at*;have A1:=(ab w1.heap.size w1).alloc Ih (.cells #[.slice Ak lk ck,.slice Av lk cv,.slice Ac lc cc,Xu sz] 215);have p1:=heap_alloc_new w1 (.cells #[.slice Ak lk ck,.slice Av lk cv,.slice Ac lc cc,Xu sz] 215);have B1:=HY.a.trans ((hb.trans (A1.mono hb.size)).mono HY.a.size);have a0:=rows.below A1;have bv:w1.heap.size<(w1.alloc (.cells #[.slice Ak lk ck,.slice Av lk cv,.slice Ac lc cc,Xu sz] 215)).heap.size:=by simp
  obtain⟨W1,cn⟩:=Ii (w1.alloc (.cells #[.slice Ak lk ck,.slice Av lk cv,.slice Ac lc cc,Xu sz] 215));rw[cn] at A1 p1 B1 a0 bv;have t3:=(B1.block (w.heap.size+1) (by have:=HG.a.d;omega)).trans HG.a.c;have q6:=(B1.block w.heap.size (by have:=HG.a.d;omega)).trans HG.a.b;have ba:=a0.k.hrow;have bb:=a0.v.hrow;have a':=a0.c.hrow;rw[<-hn] at ba bb a';have ba:FD W1 (.slice Ak lk ck) ((Bn.es y).map (·.kh)):=ba;have bb:FD W1 (.slice Av lk cv) ((Bn.es y).map (·.vh)):=bb;have a':FD W1 (.slice Ac lc cc) ((Bn.ks y).map Bt.hd):=a';have d7:=HY.a.size;have bk:=HG.a.d;have cj:∀g o,Ak=some ⟨g,o,none⟩->w.heap.size≠g:=fun g o e=>by subst e;have:=a0.k.ge g rfl;omega
  have cl:∀g o,Av=some ⟨g,o,none⟩->w.heap.size≠g:=fun g o e=>by subst e;have:=a0.v.ge g rfl;omega
  have ch:∀g o,Ac=some ⟨g,o,none⟩->w.heap.size≠g:=fun g o e=>by subst e;have:=a0.c.ge g rfl;omega
  have dn:w.heap.size≠w1.heap.size:=by have:=hb.size;omega
  have dp:w.heap.size+1<W1.heap.size:=by have:=B1.size;omega
  have H1:=kq6 B1 p1 (kq3 ba bb a') t3 bv q6;have HN:=kq5 cj cl ch dn dp;have HK:=kq2 c' c8;clear cj cl ch dn dp d7 bk rows a0 hb A1 p1 B1 t3 ba bb a' ca a9 b9 bs hn bv q6 c' c8 hy x0 x1;have d1:=If (ab W1.heap.size W1);obtain⟨su,b4⟩:∃su:Nat->Nat,fV y=su:=⟨_,rfl⟩;have d6:su 0=0:=by rw[<-b4];simp[fV]
  have bd:=If b4;clear b4;have p2:=H1.b;obtain⟨y0,y1,y2,y3⟩:=Fy p2;go_wp2_with fail;clear y0 y1 y2 y3 p2 cn
  go_loopw [3,14,15] (fun s3 s14 _ wr=>∃j q:Nat,j<=lk/\s3=Xi q/\s14=Xi j/\j+su j+q=kk/\Hid (Below W1.heap.size W1 wr)) (fun _ s14 _ _=>lk-(intOf s14).toNat)
  case atStart=>exact⟨0,kk,by omega,rfl,rfl,by rw[d6];omega,d1⟩
  case round=>
   obtain⟨j,q,ed,rfl,rfl,c6,ad⟩:=hrel;have p2:=(ad.out.block w1.heap.size H1.e).trans H1.b;have t2:=(ad.out.block (w.heap.size+1) HN.e).trans H1.d;have q2:=(ad.out.block w.heap.size (by have:=HN.e;omega)).trans H1.f;obtain⟨x0,x1⟩:=Fp t2;obtain⟨y0,y1,y2,y3⟩:=Fy p2;obtain⟨z0,z1⟩:=Fp q2;obtain⟨f0,f1⟩:=ef q2;have HQ:=If q2;clear p2 t2 q2
   cases d' with
   | zero=>
    have d3:lc=0:=by rw[<-HK.b,Bt.nil_of_zero (Bn.ks y)];rfl
    subst d3;have an:su j=0:=by rw[<-bd.out];unfold fV;rw[Bt.nil_of_zero (Bn.ks y)];simp
    have al:=HY.c;rw[Bt.its_leaf] at al;have c7:=(az.1 al).1;rw[HK.a] at c7;have c4:j<lk:=by omega
    have c5:(j:Int)<lk:=by omega
    by_cases hq0:q=0
    ·subst hq0;have a8:kk=j:=by omega
     rw[a8] at al;obtain⟨gk,ok,rfl,a1⟩:=FD.at (f:=fun d:It=>d.kh) (l:=Bn.es y) H1.c.a al;obtain⟨gv,ov,rfl,a2⟩:=FD.at (f:=fun d:It=>d.vh) (l:=Bn.es y) H1.c.b al;have dk:=(ad.out.cell (p:=⟨gk,ok+j,none⟩) (fK a1)).trans a1;have dv:=(ad.out.cell (p:=⟨gv,ov+j,none⟩) (fK a2)).trans a2;clear a1 a2 al c7 a8 c6;go_wp2_with fail
     go_region
     go_wp2_with fail;have BW:Below w.heap.size w wr:=HG.a.a.trans ((H1.a.trans (ad.out.mono H1.a.size)).mono HG.a.a.size);have eW:=ew HQ.out (Xu (e.kh:Nat)) (Xu (e.vh:Nat));have BF:=eT BW (b:=w.heap.size) (by omega) (Xu (e.kh:Nat)) (Xu (e.vh:Nat));generalize ((wr.setCell ⟨w.heap.size,0,none⟩ (Xu (e.kh:Nat))).setCell ⟨w.heap.size,1,none⟩ (Xu (e.vh:Nat)))=WF at*;exact qFqac
    ·have en:¬((q:Int)<=0):=by omega
     have ep:IntKind.i64.wrap ((q:Int)-1)=(q:Int)-1:=aB _ (by omega);have eo:su (j+1)=0:=by rw[<-bd.out];unfold fV;rw[Bt.nil_of_zero (Bn.ks y)];simp
     clear al;go_wp2_with fail;go_roundw
     case rel=>exact⟨j+1,q-1,by omega,by congr 1;omega,by simp,by omega,ad⟩
     case measure=>simp[intOf];omega
   | succ d'=>
    have hy:=HY.b;have bu:=Bt.Ok.kids hy.ok;rw[HK.a,HK.b] at bu;have ek:(0:Int)<lc:=by omega
    have a7:j<(Bn.ks y).length:=by rw[HK.b];omega
    have ec:(j:Int)<lc:=by omega
    have cr:(Bn.ks y)[j]?=some (Bn.ks y)[j]:=af a7;obtain⟨gc,oc,rfl,ar⟩:=FD.at (f:=Bt.hd) (l:=Bn.ks y) H1.c.c cr;have a3:=hy.kid (aF a7);have an:=fun W (hW:Below W1.heap.size W1 W)=>HG.c W (H1.a.trans (hW.mono H1.a.size)) a3.read a3.size.2;have an:∀W,Below W1.heap.size W1 W->Cb 175 #[FH ps t,Xu (Bt.hd (Bn.ks y)[j]:Nat)] W (Xi ((Bt.its (Bn.ks y)[j]).length:Nat)):=an;unfold FH at an;have a6:=fun m=>hy.at_kid (m:=m) a7;have a5:=fun h=>hy.at_here a7 h;have bc:=xt a7;have b2:=xr hy j;have bt:=a3.few;rw[bd.out] at a6 a5 bc b2;obtain⟨kj,a8⟩:=Ii ((Bn.ks y)[j]);rw[a8] at an a6 a5 bc ar a3 bt;obtain⟨nj,b0⟩:=Ii (Bt.hd kj);obtain⟨zj,b'⟩:=Ii (Bt.its kj).length;rw[b0] at an ar;rw[b'] at an a6 a5 bc bt;have dc:=(ad.out.cell (p:=⟨gc,oc+j,none⟩) (fK ar)).trans ar;have cs:=HN.c gc oc rfl;have HJ:=kq8 a6 a5 bc a3 b0 b' b2 bt;have HS:=If an;have cb:=If ar;have hke:=HY.c;rw[<-c6] at hke;have HE:=If hke;obtain⟨I,bf,bm⟩:=ub W1 w.heap.size;have ds:=fun x:Fq I=>(bf _ x.ok w1.heap.size H1.e (Ne.symm HN.d)).trans H1.b;have bk:=fun x:Fq I=>(bf _ x.ok (w.heap.size+1) HN.e (by omega)).trans H1.d;obtain⟨m0,m1,m2,m3⟩:=iB ds;obtain⟨n0,n1⟩:=fw bk;have o0:∀x:Fq I,x.to.cell? ⟨gc,oc+j,none⟩=some (Xu nj):=fun x=>(j9 (bf _ x.ok gc (fK ar) (Ne.symm cs))).trans ar;have cm:I wr.drew:=bm _ fun k hk _=>ad.out.block k hk;have HI:=If bm;have d2:=If bu;clear bm ds bk cr an ar cs a6 a5 bc a3 b0 b' a8 hke hy b2 bu
    by_cases c4:j<lk
    ·have c5:(j:Int)<lk:=by omega
     go_wp2_with fail;refine fh I (.take 0 (.take 1 (.take 2 (.take 3 (.take 4 (.take 5 (.go 6 (.take 7 .nil)))))))) (by kernel_rfl) (by kernel_rfl) cm ?_
     iterate 6
      refine' pT ?_ ?_;rotate_left
      ·intro x;go_simp
       try rfl
      try simp only[pu]
     refine pD fun K hK=>?_;go_simp;refine(HS.out wr.drew ad.out.drew).mono ?_;rintro e' w3 ⟨rfl,bo⟩;have B3:=ad.out.drew.trans (bo.mono ad.out.size);have q3:=(bo.block w.heap.size (gl HQ.out)).trans HQ.out;have ai:=kq2 B3 q3
     try go_simp
     refine hK.out _ _ (HI.out _ fun k hk _=>ai.a.block k hk) ?_;clear hK K
     try simp only[pu]
     clear B3 bo q3;refine' pT ?_ ?_;rotate_left
     ·intro x;go_simp
      try rfl
     try simp only[pu]
     refine eP ?_;clear m0 m1 m2 m3 n0 n1 o0 bf HI I cm x0 x1 y0 y1 y2 y3 z0 z1 f0 f1 dc;have p2:=(ai.a.block w1.heap.size H1.e).trans H1.b;have q2:=ai.b;obtain⟨y0,y1,y2,y3⟩:=Fy p2;obtain⟨z0,z1⟩:=Fp q2;obtain⟨f0,f1⟩:=ef q2;have dc:=(ai.a.cell (p:=⟨gc,oc+j,none⟩) (fK (cb.out))).trans cb.out;clear p2 q2
     rcases Nat.lt_trichotomy q zj with hq | hq | hq
     ·have g1:(q:Int)<=zj:=by omega
      have g2:((q:Int)==zj)=false:=by simp;omega
      have g3:¬(q:Int)=zj:=by omega
      go_wp2_with fail;go_roundw
      case rel=>exact⟨d',i+1,q,nj,rfl,rfl,by simp,by omega,by have:=HJ.h;omega,H1.a.trans (ai.a.mono H1.a.size),kj,HJ.d,HJ.e,by rw[<-HJ.a q hq];exact HE.out⟩
      case measure=>simp[intOf];omega
     ·subst hq;have hke:=HE.out;rw[HJ.b (by rw[HK.a];exact c4)] at hke;obtain⟨gk,ok,rfl,a1⟩:=FD.at (f:=fun d:It=>d.kh) (l:=Bn.es y) H1.c.a hke;obtain⟨gv,ov,rfl,a2⟩:=FD.at (f:=fun d:It=>d.vh) (l:=Bn.es y) H1.c.b hke;have dk:=(ai.a.cell (p:=⟨gk,ok+j,none⟩) (fK a1)).trans a1;have dv:=(ai.a.cell (p:=⟨gv,ov+j,none⟩) (fK a2)).trans a2;clear a1 a2 hke;go_wp2_with fail
      go_region
      go_wp2_with fail;have BW:Below w.heap.size w w3:=HG.a.a.trans ((H1.a.trans (ai.a.mono H1.a.size)).mono HG.a.a.size);have eW:=ew ai.b (Xu (e.kh:Nat)) (Xu (e.vh:Nat));have BF:=eT BW (b:=w.heap.size) (by omega) (Xu (e.kh:Nat)) (Xu (e.vh:Nat));generalize ((w3.setCell ⟨w.heap.size,0,none⟩ (Xu (e.kh:Nat))).setCell ⟨w.heap.size,1,none⟩ (Xu (e.vh:Nat)))=WF at*;exact qFqac
     ·have g1:¬(q:Int)<=zj:=by omega
      have g4:IntKind.i64.wrap ((zj:Int)+1)=(zj:Int)+1:=aB _ (by have:=HJ.h;omega);have g5:IntKind.i64.wrap ((q:Int)-((zj:Int)+1))=(q:Int)-((zj:Int)+1):=aB _ (by omega);go_wp2_with fail;go_roundw
      case rel=>exact⟨j+1,q-(zj+1),by omega,by congr 1;omega,by simp,by have:=HJ.c;omega,If ai.a⟩
      case measure=>simp[intOf];omega
    ·have c5:¬(j:Int)<lk:=by omega
     have c3:j=lk:=by omega
     have d5:=(az.1 HE.out).1;have cx:=Bt.its_length HY.b.ok.okN;have cp:su lc=((Bn.ks y).map fun k=>(Bt.its k).length).sum:=by rw[<-bd.out];unfold fV;rw[aZ (by rw[HK.b];exact Nat.le_refl _)]
     rw[<-cp,HK.a,d2.out] at cx;have hq:q<zj:=by have:=HJ.c;subst c3;omega
     have cd:=If hq;clear cx cp d5 hq c3;go_wp2_with fail;go_roundw
     case rel=>exact⟨d',i+1,q,nj,rfl,rfl,by simp,by omega,by have:=HJ.h;have:=cd.out;omega,H1.a.trans (ad.out.mono H1.a.size),kj,HJ.d,HJ.e,by rw[<-HJ.a q cd.out];exact HE.out⟩
     case measure=>simp[intOf];omega