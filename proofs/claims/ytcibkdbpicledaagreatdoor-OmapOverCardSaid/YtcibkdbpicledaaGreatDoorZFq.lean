/- Binary trees with their blobs: a pair put: plain. -/
import Derived.Test.YtcibkdbpicledaaGreatDoorZFf
import Derived.Test.YtcibkdbpicledaaGreatDoorZDc
set_option maxRecDepth 100000
set_option maxHeartbeats 3200000
namespace Go.Proofs.YtcibkdbpicledaaGreatDoor
section
open Lf
namespace Tr
variable{S:St}{d:It}{o:Nat->Nat}{t:Tr}
def gV(l:List (List UInt8×List UInt8))(a b:List UInt8):List (List UInt8×List UInt8):=
 l.filter (fun p=>decide (Fu p.1 a<0))++(a,b)::l.filter (fun p=>decide (0<Fu p.1 a))
theorem AQ{a:List UInt8}{L M:List (List UInt8×List UInt8)}(x:List (List UInt8×List UInt8))(hx:∀p∈x,p.1=a)(hL:∀p∈L,Fu p.1 a<0)(hM:∀p∈M,Fu a p.1<0):
 (L++x++M).filter (fun p=>decide (Fu p.1 a<0))=L/\(L++x++M).filter (fun p=>decide (0<Fu p.1 a))=M:=by
 have h1:L.filter (fun p=>decide (Fu p.1 a<0))=L:=dF.2 fun p hp=>by simpa using hL p hp
 have h2:M.filter (fun p=>decide (0<Fu p.1 a))=M:=dF.2 fun p hp=>by have:=hM p hp;rw[ie] at this;simp;omega
 have h3:L.filter (fun p=>decide (0<Fu p.1 a))=[]:=ct.2 fun p hp=>by have:=hL p hp;simp;omega
 have h4:M.filter (fun p=>decide (Fu p.1 a<0))=[]:=ct.2 fun p hp=>by have:=hM p hp;rw[ie] at this;simp;omega
 have h5:x.filter (fun p=>decide (Fu p.1 a<0))=[]:=ct.2 fun p hp=>by rw[hx p hp,fX];simp
 have h6:x.filter (fun p=>decide (0<Fu p.1 a))=[]:=ct.2 fun p hp=>by rw[hx p hp,fX];simp
 constructor
 ·rw[c9,c9,h1,h4,h5]
  simp
 ·rw[c9,c9,h2,h3,h6]
  simp
theorem rO(a b:List It):ep (a++b)=ep a++ep b:=by unfold ep;simp
theorem oO{a b:List UInt8}{tl tr mid:List It}(hd:d.k=a/\d.v=b)(hm:∀x∈mid,x.k=a)(h1:∀x∈tl,Fu x.k a<0)(h2:∀x∈tr,Fu a x.k<0):
 ep (tl++d::tr)=gV (ep (tl++mid++tr)) a b:=by
 obtain⟨f1,f2⟩:=AQ (a:=a) (L:=ep tl) (M:=ep tr) (ep mid) (fun p hp=>by obtain⟨x,hx,rfl⟩:=aC.1 hp;exact hm x hx) (fun p hp=>by obtain⟨x,hx,rfl⟩:=aC.1 hp;exact h1 x hx) (fun p hp=>by obtain⟨x,hx,rfl⟩:=aC.1 hp;exact h2 x hx);unfold gV;rw[rO,rO,rO,f1,f2]
 show ep tl++(d.k,d.v)::ep tr=_
 rw[hd.1,hd.2]
theorem gu.frame{S S':St}(h:gu S d)(h1:reco S' d.kh=reco S d.kh)(h2:reco S' d.vh=reco S d.vh):gu S' d:=⟨h1.trans h.k,h2.trans h.v,h.lk,h.lv⟩
theorem fC.some{Ok:Tr->Prop}(h:fC Ok S o t):∀y∈eB t.its,reco S y≠none:=by
 intro y hy;obtain⟨d,hd,e⟩:=gU.1 hy;have hb:=h.blobs d hd
 rcases e with rfl | rfl | rfl
 ·obtain⟨n,hn⟩:=h.at'.rec d.h (aC.2 ⟨d,hd,rfl⟩);rw[hn]
  simp
 ·rw[hb.k]
  simp
 ·rw[hb.v]
  simp
theorem fC.frame{Ok:Tr->Prop}{S S':St}{o o':Nat->Nat}(h:fC Ok S o t)(hf:Fw S' o')(hs:∀y∈eB t.its,reco S' y=reco S y):fC Ok S' o' t where
 fit:=hf
 at':=h.at'.frame fun y hy=>by
  obtain⟨d,hd,rfl⟩:=aC.1 hy;exact hs _ (gU.2 ⟨d,hd,ab rfl⟩)
 ok:=h.ok
 nd:=h.nd
 blobs d hd:=(h.blobs d hd).frame (hs _ (gU.2 ⟨d,hd,ae (ab rfl)⟩)) (hs _ (gU.2 ⟨d,hd,ae (ae rfl)⟩))
 sorted:=h.sorted
theorem xF(hf:Fw S o){a b:List UInt8}(ha:a.length<=1000)(hb:b.length<=1000)(hr:fc S 7 3):
 ∃ka vb hn S2 S3 o3,itemsM S a b=some ((ka,vb),S2)/\ft S2 ⟨ka,vb,0,0,0,1⟩=((hn,0),S3)/\pJ S a b/\Fw S3 o3/\reco S ka=none/\reco S vb=none/\reco S hn=none/\ka≠vb/\ka≠hn/\vb≠hn/\
  reco S3 ka=some (FK a)/\reco S3 vb=some (FK b)/\reco S3 hn=some (eM ⟨ka,vb,0,0,0,1⟩)/\(∀h',h'≠ka->h'≠vb->h'≠hn->reco S3 h'=reco S h')/\ej S S3 7 3:=by
 obtain⟨ka,S1,o1,e1,f1,n1,l1,q1,g1,k1⟩:=oL hf ha (hr.mono (by omega) (by omega));obtain⟨vb,S2,o2,e2,f2,n2,l2,q2,g2,k2⟩:=oL f1 hb (fc.grew (hr.mono (p':=3+3) (q':=1+1) (by omega) (by omega)) g1);have ad:ka≠vb:=by rintro rfl;rw[l1] at n2;cases n2
 have r2:fc S2 1 1:=fc.grew (hr.mono (p':=(3+3)+1) (q':=(1+1)+1) (by omega) (by omega)) (g1.trans g2);have ao:=(fL f1 l1).2.1;have ar:=(fL f2 l2).2.1;have ap:ji ⟨ka,vb,0,0,0,1⟩:=⟨ao,ar,by simp,by simp,by simp,by simp⟩;obtain⟨hn,S3,o3,e3,f3,n3,l3,q3,g3,k3⟩:=Cq f2 ap r2;have ai:ka≠hn:=by rintro rfl;rw[q2 _ ad,l1] at n3;cases n3
 have al:vb≠hn:=by rintro rfl;rw[l2] at n3;cases n3
 have an:itemsM S a b=some ((ka,vb),S2):=by
  unfold itemsM;rw[e1];simp only;rw[e2];simp
 refine⟨ka,vb,hn,S2,S3,o3,an,e3,⟨⟨ha,hb,k1,by rw[e1];exact k2⟩,fun p S4 h4=>?_⟩,f3,n1,(q1 _ ad.symm).symm.trans n2,((q1 _ ai.symm).symm.trans (q2 _ al.symm).symm).trans n3,ad,ai,al,(q3 _ ai).trans ((q2 _ ad).trans l1),(q3 _ al).trans l2,l3,fun h' w1 w2 w3=>(q3 h' w3).trans ((q2 h' w2).trans (q1 h' w1)),((g1.trans g2).trans g3).mono (by omega) (by omega)⟩;rw[an] at h4;injection h4 with h4
 injection h4 with _ e
 rw[<-e];exact k3
theorem ze{Ok:Tr->Prop}{S S3 S5:St}{o o5:Nat->Nat}{t u tl tr:Tr}{mid:List It}(h:fC Ok S o t)(hi:t.its=tl.its++mid++tr.its)(iu:u.its=tl.its++d::tr.its)
 (hd:∀y,y=d.h\/y=d.kh\/y=d.vh->reco S y=none) (hdn:d.kh≠d.vh/\d.kh≠d.h/\d.vh≠d.h) (f5:Fw S5 o5) (au:At S5 u) (ou:Ok u)
 (h3:∀y∈eB t.its,reco S3 y=reco S y) (hb3:gu S3 d) (h5:∀y,y∉t.hs->y≠d.h->reco S5 y=reco S3 y)
 (h1:∀x∈tl.its,Fu x.k d.k<0) (h2:∀x∈tr.its,Fu d.k x.k<0):fC Ok S5 o5 u:=by
 have ao:∀x,x∈tl.its\/x∈tr.its->x∈t.its:=fun x hx=>by
  rw[hi];rcases hx with hx | hx<;>simp[hx]
 have ad:∀y∈eB t.its,y≠d.h/\y≠d.kh/\y≠d.vh:=fun y hy=>by
  have:=h.some y hy;refine⟨?_,?_,?_⟩<;>rintro rfl
  ·exact this (hd _ (ab rfl))
  ·exact this (hd _ (ae (ab rfl)))
  ·exact this (hd _ (ae (ae rfl)))
 have ai:=h.nd;have e:eB t.its=eB tl.its++(eB mid++eB tr.its):=by rw[hi,iX,iX,bW]
 rw[e] at ai ad;obtain⟨n1,n2,n3⟩:=aw.1 ai;obtain⟨n4,n5,n6⟩:=aw.1 n2;refine⟨f5,au,ou,?_,?_,?_⟩
 ·rw[iu,iX,mx];refine aw.2 ⟨n1,?_,fun y hy z hz q=>?_⟩
  ·refine aF.2 ⟨?_,aF.2 ⟨?_,aF.2 ⟨?_,n5⟩⟩⟩
   ·simp only[ag,not_or];exact⟨fun q=>hdn.2.1 q.symm,fun q=>hdn.2.2 q.symm,fun hm=>(ad d.h (by simp[hm])).1 rfl⟩
   ·simp only[ag,not_or];exact⟨hdn.1,fun hm=>(ad d.kh (by simp[hm])).2.1 rfl⟩
   ·exact fun hm=>(ad d.vh (by simp[hm])).2.2 rfl
  ·subst q;have hw:=ad y (by simp[hy]);simp only[ag] at hz;rcases hz with hz | hz | hz | hz
   ·exact hw.1 hz
   ·exact hw.2.1 hz
   ·exact hw.2.2 hz
   ·exact n3 y hy y (by simp[hz]) rfl
 ·intro x hx;rw[iu] at hx;have hold:x∈t.its->gu S5 x:=fun hm=>by
   have hs:=(h.hs).2 x hm;have hk:x.kh∈eB t.its:=gU.2 ⟨x,hm,ae (ab rfl)⟩;have hv:x.vh∈eB t.its:=gU.2 ⟨x,hm,ae (ae rfl)⟩;refine(h.blobs x hm).frame ((h5 _ hs.1 ?_).trans (h3 _ hk)) ((h5 _ hs.2 ?_).trans (h3 _ hv))
   ·exact(ad _ (by rw[<-e];exact hk)).1
   ·exact(ad _ (by rw[<-e];exact hv)).1
  rcases am.1 hx with hx | hx
  ·exact hold (ao x (ab hx))
  ·rcases ag.1 hx with rfl | hx
   ·have al:∀y,y=x.h\/y=x.kh\/y=x.vh->y∉t.hs:=fun y hy hm=>by
     obtain⟨z,hz,rfl⟩:=aC.1 hm;exact h.some _ (gU.2 ⟨z,hz,ab rfl⟩) (hd _ hy)
    exact hb3.frame (h5 _ (al _ (ae (ab rfl))) hdn.2.1) (h5 _ (al _ (ae (ae rfl))) hdn.2.2)
   ·exact hold (ao x (ae hx))
 ·have an:=h.sorted;rw[hi] at an;obtain⟨s1,s2,s3⟩:=bC.1 an;obtain⟨s4,s5,s6⟩:=bC.1 s1;rw[iu];refine bC.2 ⟨s4,aQ.2 ⟨fun y hy=>h2 y hy,s2⟩,fun x hx y hy=>?_⟩;rcases ag.1 hy with rfl | hy
  ·exact h1 x hx
  ·exact s3 x (by simp[hx]) y hy
theorem uW{jn:Jn}{Ok:Tr->Prop}(J:kV jn Ok){S S3:St}{o o3:Nat->Nat}(h:fC Ok S o t)(hc:t.its.length<98)(f3:Fw S3 o3)(ha:d.k.length<=1000)(hv:d.v.length<=1000)
 (hd:∀y,y=d.h\/y=d.kh\/y=d.vh->reco S y=none) (hdn:d.kh≠d.vh/\d.kh≠d.h/\d.vh≠d.h) (hk:reco S3 d.kh=some (FK d.k)) (hvv:reco S3 d.vh=some (FK d.v)) {n0:Nd} (hn:reco S3 d.h=some (eM n0)) (hn1:n0.key=d.kh) (hn2:n0.val=d.vh)
 (h3:∀y∈eB t.its,reco S3 y=reco S y):
 ∃u old S5 tl tr mid,insertOkM jn S3 t.root d.h=some ((u.root,old),S5)/\fC Ok S5 o3 u/\t.its=tl++mid++tr/\u.its=tl++d::tr/\(∀x∈tl,Fu x.k d.k<0)/\(∀x∈tr,Fu d.k x.k<0)/\ej S3 S5 0 0/\
  (∀y,y∉t.hs->y≠d.h->reco S5 y=reco S3 y)/\((old=0/\mid=[])\/∃(x:It) (n1:Nd),mid=[x]/\old=x.h/\x.k=d.k/\reco S5 x.h=some (eM n1)/\n1.key=x.kh/\n1.val=x.vh):=by
 have h':=h.frame f3 h3;have an:=h.hs;have ad:d.h∉t.hs:=fun hm=>by
  obtain⟨z,hz,e⟩:=aC.1 hm;exact h.some _ (gU.2 ⟨z,hz,ab e.symm⟩) (hd _ (ab rfl))
 have a4:=jt f3 ha hk;have ap:=gw f3 hn;have bb:=(fL f3 hn).1;obtain⟨tl,m,tr,S4,e4,f4,al,ar,a9,a',o4,g4,hm,a0,au⟩:=sn J d.k 200 f3 h'.at' h'.ok an.1 (fun x hx=>⟨h'.blobs x hx,(an.2 x hx).1⟩) h'.sorted (by omega) (by omega);have a6:reco S4 d.h=some (eM n0):=(o4 _ ad).trans hn;obtain⟨mid,ai,a3⟩:∃mid:List It,t.its=tl.its++mid++tr.its/\((m=0/\mid=[])\/∃(x:It) (n1:Nd),mid=[x]/\m=x.h/\x.k=d.k/\reco S4 x.h=some (eM n1)/\n1.key=x.kh/\n1.val=x.vh):=by
  rcases hm with⟨e0,e⟩ | ⟨x,n1,e0,ek,e,q1,q2,q3⟩
  ·exact⟨[],by rw[e];simp,ab ⟨e0,rfl⟩⟩
  ·exact⟨[x],by rw[e];simp,ae ⟨x,n1,rfl,e0,ek,q1,q2,q3⟩⟩
 have a2:t.hs=tl.hs++(mid.map (·.h))++tr.hs:=by unfold Tr.hs;rw[ai];simp
 have a1:=an.1;rw[a2] at a1 ad;obtain⟨n1,n2,n3⟩:=aw.1 a1;obtain⟨n4,n5,n6⟩:=aw.1 n1;simp only[am,not_or] at ad;have a7:(tl.hs++d.h::tr.hs).Nodup:=aw.2 ⟨n4,aF.2 ⟨ad.2,n2⟩,fun x hx y hy q=>by
  subst q;rcases ag.1 hy with q | q
  ·exact ad.1.1 (q▸hx)
  ·exact n3 x (by simp[hx]) x q rfl⟩
 have a5:tl.its.length+tr.its.length<99:=by rw[ai] at hc;simp at hc;omega
 obtain⟨u,S5,e5,D5,ba,iu⟩:=J.join f4 al ar a9 a' a6 hn1 hn2 a7 a5;have ao:∀y,y∉t.hs->y≠d.h->reco S5 y=reco S3 y:=fun y hy hy2=>by
  refine(D5.other y fun hm=>?_).trans (o4 y hy);rw[a2] at hy;simp only[am,not_or] at hy;rcases am.1 hm with hm | hm
  ·exact hy.1.1 hm
  ·rcases ag.1 hm with hm | hm
   ·exact hy2 hm
   ·exact hy.2 hm
 refine⟨u,m,S5,tl.its,tr.its,mid,?_,?_,ai,iu,a0,au,g4.trans D5.grew,ao,?_⟩
 ·unfold insertOkM;rw[ap];simp only;rw[hn1,a4];rw[if_neg (by
   have:isT S3 d.h=true:=by unfold isT;rw[ap];simp
   rw[h'.at'.isT f3,this];simp;omega)]
  simp only;rw[e4];simp only;unfold jq;rw[e5];rfl
 ·exact ze h ai iu hd hdn D5.fit D5.at' ba h3 ⟨hk,hvv,ha,hv⟩ ao a0 au
 ·rcases a3 with⟨e0,e⟩ | ⟨x,a8,ex,e0,ek,q1,q2,q3⟩
  ·exact ab ⟨e0,e⟩
  ·refine ae ⟨x,a8,ex,e0,ek,(D5.other _ fun hm=>?_).trans q1,q2,q3⟩;rw[ex] at n6 n3 ad;simp only[aM,List.map_nil] at n6 n3 ad;rcases am.1 hm with hm | hm
   ·exact n6 x.h hm x.h (by simp) rfl
   ·rcases ag.1 hm with hm | hm
    ·exact ad.1.2 (by simp[hm])
    ·exact n3 x.h (by simp) x.h hm rfl
def tm(S S':St)(l:List It):Prop:=∀y,y∉eB l->reco S y≠none->reco S' y=reco S y
theorem qFqac{P:Prop}(h:P:=by
 ·rw[iu,iX,mx] at hy;rw[ad,iX,iX];simp only[am,ag] at hy⊢
  rcases hy with q | rfl | rfl | rfl | q
  ·exact ab (ab (ab q))
  ·exact ae r3
  ·exact ae r1
  ·exact ae r2
  ·exact ab (ae q)):P:=h
theorem DI{jn:Jn}{Ok:Tr->Prop}(J:kV jn Ok)(h:fC Ok S o t)(hc:t.its.length<98){a b:List UInt8}(ha:a.length<=1000)(hb:b.length<=1000)(hr:fc S 7 3)(hno:∀d∈t.its,d.k≠a):
 ∃u S' o',pJ S a b/\treePutM jn S t.root a b=some (u.root,S')/\fC Ok S' o' u/\ep u.its=gV (ep t.its) a b/\u.its.length=t.its.length+1/\ej S S' 7 3/\tm S S' t.its/\∀y∈eB u.its,y∈eB t.its\/reco S y=none:=by
 obtain⟨ka,vb,hn,S2,S3,o3,ar,a0,a1,f3,r1,r2,r3,d1,d2,d3,l1,l2,l3,q3,g3⟩:=xF h.fit ha hb hr;have al:∀y,reco S y≠none->reco S3 y=reco S y:=fun y hy=>q3 y (by rintro rfl;exact hy r1) (by rintro rfl;exact hy r2) (by rintro rfl;exact hy r3);obtain⟨u,a2,S5,tl,tr,mid,e5,B5,ad,iu,au,ap,g5,ao,an⟩:=uW J (d:=⟨hn,ka,vb,a,b⟩) h hc f3 ha hb (by rintro y (rfl | rfl | rfl)<;>assumption) ⟨d1,d2,d3⟩ l1 l2 l3 rfl rfl (fun y hy=>al y (h.some y hy));have ai:a2=0/\mid=[]:=by
  rcases an with q | ⟨x,n1,ex,_,ek,_⟩
  ·exact q
  ·exact absurd ek (hno x (by rw[ad,ex];simp))
 refine⟨u,S5,o3,a1,?_,B5,?_,?_,(g3.trans g5).mono (by omega) (by omega),fun y hy hs=>(ao y (fun hm=>?_) ?_).trans (al y hs),fun y hy=>?_⟩
 ·unfold treePutM;rw[ar];simp only;unfold binInsM;rw[a0];simp only;rw[if_neg (by simp),e5];simp only;rw[if_pos ai.1]
 ·rw[iu,ad];exact oO ⟨rfl,rfl⟩ (fun x hx=>by rw[ai.2] at hx;cases hx) au ap
 ·rw[iu,ad,ai.2]
  simp;omega
 ·obtain⟨z,hz,rfl⟩:=aC.1 hm;exact hy (gU.2 ⟨z,hz,ab rfl⟩)
 ·rintro rfl;exact hs r3
 exact qFqac
theorem DJ{jn:Jn}{Ok:Tr->Prop}(J:kV jn Ok)(h:fC Ok S o t)(hc:t.its.length<98){a b:List UInt8}(ha:a.length<=1000)(hb:b.length<=1000)(hr:fc S 7 3){x:It}(hx:x∈t.its)(hxk:x.k=a):
 ∃u S6 S8 o',pJ S a b/\treeRepM jn S t.root a b=some ((u.root,x.kh,x.vh),S6)/\Fw S6 o'/\fz S6 x.vh=(x.v,0)/\Fv (S6.drop x.kh).2/\S8=((S6.drop x.kh).2.drop x.vh).2/\fC Ok S8 o' u/\ep u.its=gV (ep t.its) a b/\u.its.length=t.its.length/\ej S S8 7 3/\tm S S8 t.its/\∀y∈eB u.its,y∈eB t.its\/reco S y=none:=by
 obtain⟨ka,vb,hn,S2,S3,o3,a8,a',ba,f3,r1,r2,r3,d1,d2,d3,l1,l2,l3,q3,g3⟩:=xF h.fit ha hb hr;have al:∀y,reco S y≠none->reco S3 y=reco S y:=fun y hy=>q3 y (by rintro rfl;exact hy r1) (by rintro rfl;exact hy r2) (by rintro rfl;exact hy r3);obtain⟨u,bc,S5,tl,tr,mid,e5,B5,ad,iu,a5,a2,g5,an,a7⟩:=uW J (d:=⟨hn,ka,vb,a,b⟩) h hc f3 ha hb (by rintro y (rfl | rfl | rfl)<;>assumption) ⟨d1,d2,d3⟩ l1 l2 l3 rfl rfl (fun y hy=>al y (h.some y hy));have a9:∃n1:Nd,mid=[x]/\bc=x.h/\reco S5 x.h=some (eM n1)/\n1.key=x.kh/\n1.val=x.vh:=by
  have ao:∀z,(z∈tl\/z∈tr)->z≠x:=by
   rintro z hz rfl
   rcases hz with hz | hz
   ·have:=a5 z hz;simp only[hxk,fX] at this;omega
   ·have:=a2 z hz;simp only[hxk,fX] at this;omega
  rcases a7 with⟨_,q⟩ | ⟨z,n1,ez,eo,_,e1,e2,e3⟩
  ·rw[ad,q] at hx;simp only[bZ,am] at hx;exact absurd rfl (ao x hx)
  ·have:z=x:=by
    rw[ad,ez] at hx;simp only[am,ag,List.not_mem_nil,or_false] at hx
    rcases hx with (hx | hx) | hx
    ·exact absurd rfl (ao x (ab hx))
    ·exact hx.symm
    ·exact absurd rfl (ao x (ae hx))
   subst this;exact⟨n1,ez,eo,e1,e2,e3⟩
 obtain⟨n1,em,eo,x1,x2,x3⟩:=a9;have ap:=h.blobs x hx;have bb:x.h∈eB t.its:=gU.2 ⟨x,hx,ab rfl⟩;have ar:x.kh∈eB t.its:=gU.2 ⟨x,hx,ae (ab rfl)⟩;have au:x.vh∈eB t.its:=gU.2 ⟨x,hx,ae (ae rfl)⟩;have a6:=h.nd;have a1:eB t.its=eB tl++([x.h,x.kh,x.vh]++eB tr):=by rw[ad,em,iX,iX,bW];rfl
 rw[a1] at a6;have ai:x.h∉eB u.its/\x.kh∉eB u.its/\x.vh∉eB u.its/\x.kh≠x.h/\x.vh≠x.h/\x.kh≠x.vh:=by
  obtain⟨p1,p2,p3⟩:=aw.1 a6;obtain⟨p4,p5,p6⟩:=aw.1 p2;have hw:∀y∈ [x.h,x.kh,x.vh],y∉eB u.its:=fun y hy hm=>by
   rw[iu,iX,mx] at hm;have a0:reco S y≠none:=h.some y (by rw[a1];simp only[am];exact ae (ab hy))
   rcases am.1 hm with hm | hm
   ·exact p3 y hm y (by simp only[am];exact ab hy) rfl
   ·simp only[ag] at hm
    rcases hm with hm | hm | hm | hm
    ·exact a0 (hm▸r3)
    ·exact a0 (hm▸r1)
    ·exact a0 (hm▸r2)
    ·exact p6 y hy y hm rfl
  simp only[aF,ag,List.not_mem_nil,or_false,not_or] at p4;exact⟨hw _ (by simp),hw _ (by simp),hw _ (by simp),fun q=>p4.1.1 q.symm,fun q=>p4.1.2 q.symm,p4.2.1⟩
 have a4:x.kh∉t.hs/\x.vh∉t.hs:=h.hs.2 x hx;have a3:x.kh≠hn/\x.vh≠hn:=⟨fun q=>h.some _ ar (q▸r3),fun q=>h.some _ au (q▸r3)⟩;have k5:reco S5 x.kh=some (FK x.k):=(an _ a4.1 a3.1).trans ((al _ (h.some _ ar)).trans ap.k);have v5:reco S5 x.vh=some (FK x.v):=(an _ a4.2 a3.2).trans ((al _ (h.some _ au)).trans ap.v);obtain⟨S6,e6,f6,m6,o6,g6⟩:=AH B5.fit x1;have k6:=(o6 _ ai.2.2.2.1).trans k5;have v6:=(o6 _ ai.2.2.2.2.1).trans v5;obtain⟨S7,e7,f7,m7,o7,g7⟩:=mQ f6 k6;have v7:=(o7 _ ai.2.2.2.2.2.symm).trans v6;obtain⟨S8,e8,f8,m8,o8,g8⟩:=mQ f7 v7;refine⟨u,S6,S8,o3,ba,?_,f6,jt f6 ap.lv v6,by rw[e7];exact f7.inv,by rw[e7,e8],B5.frame f8 (fun y hy=>?_),?_,?_,((((g3.trans g5).trans g6).trans g7).trans g8).mono (by omega) (by omega),fun y hy hs=>?_,fun y hy=>?_⟩
 ·unfold treeRepM;rw[a8];simp only;unfold binRepM;rw[a'];simp only;rw[if_neg (by simp),e5];simp only;rw[eo,e6];simp only;rw[gw B5.fit x1,x2,x3]
 ·have w1:y≠x.h:=fun q=>ai.1 (q▸hy);have w2:y≠x.kh:=fun q=>ai.2.1 (q▸hy);have w3:y≠x.vh:=fun q=>ai.2.2.1 (q▸hy);exact(o8 y w3).trans ((o7 y w2).trans (o6 y w1))
 ·rw[iu,ad];exact oO ⟨rfl,rfl⟩ (fun z hz=>by rw[em] at hz;simp only[ag,List.not_mem_nil,or_false] at hz;rw[hz];exact hxk) a5 a2
 ·rw[iu,ad,em]
  simp
 ·have w1:y≠x.h:=fun q=>hy (q▸bb);have w2:y≠x.kh:=fun q=>hy (q▸ar);have w3:y≠x.vh:=fun q=>hy (q▸au);refine(o8 y w3).trans ((o7 y w2).trans ((o6 y w1).trans ((an y (fun hm=>?_) ?_).trans (al y hs))))
  ·obtain⟨z,hz,rfl⟩:=aC.1 hm;exact hy (gU.2 ⟨z,hz,ab rfl⟩)
  ·rintro rfl;exact hs r3
 exact qFqac
end Tr
end
section
open Go.RowKit Tryz Go.BigFrame Go.Maps Go.WideMaps Lf
variable{Y:Nat->Prop}{ps:Nat}{w:World}
inductive BalDid (S S':St) (hh x a b:Nat):Prop
 | none (h1:a<=b+1) (h2:b<=a+1) (h3:x=hh) (h4:S'=S):BalDid S S' hh x a b
 | ll (c d:Nat) (h1:b+1<a) (h2:eE S (getNode S (getNode S hh).1.left).1.left=some c) (h3:eE S (getNode S (getNode S hh).1.left).1.right=some d) (h4:¬c<d) (h5:rightM S hh=some (x,S')):BalDid S S' hh x a b
 | lr (c d y:Nat) (S1 S2:St) (h1:b+1<a) (h2:eE S (getNode S (getNode S hh).1.left).1.left=some c) (h3:eE S (getNode S (getNode S hh).1.left).1.right=some d) (h4:c<d) (h5:leftM S (getNode S hh).1.left=some (y,S1)) (h6:fu S1 (getNode S hh).1 hh y (getNode S hh).1.right=some S2) (h7:rightM S2 hh=some (x,S')):BalDid S S' hh x a b
 | rr (c d:Nat) (h0:¬b+1<a) (h1:a+1<b) (h2:eE S (getNode S (getNode S hh).1.right).1.left=some c) (h3:eE S (getNode S (getNode S hh).1.right).1.right=some d) (h4:¬d<c) (h5:leftM S hh=some (x,S')):BalDid S S' hh x a b
 | rl (c d y:Nat) (S1 S2:St) (h0:¬b+1<a) (h1:a+1<b) (h2:eE S (getNode S (getNode S hh).1.right).1.left=some c) (h3:eE S (getNode S (getNode S hh).1.right).1.right=some d) (h4:d<c) (h5:rightM S (getNode S hh).1.right=some (y,S1)) (h6:fu S1 (getNode S hh).1 hh (getNode S hh).1.left y=some S2) (h7:leftM S2 hh=some (x,S')):BalDid S S' hh x a b
theorem tI{S S':St}{hh x:Nat}(h:balM S hh=some (x,S')):∃a b,eE S (getNode S hh).1.left=some a/\eE S (getNode S hh).1.right=some b/\BalDid S S' hh x a b:=by
 unfold balM at h
 split at h
 ·rename_i a b ha hb;refine⟨a,b,ha,hb,?_⟩
  split at h
  ·rename_i h1
   split at h
   ·rename_i c d hc hd
    split at h
    ·rename_i h4
     split at h
     ·cases h
     ·rename_i y S1 h5
      split at h
      ·cases h
      ·rename_i S2 h6;exact .lr c d y S1 S2 h1 hc hd h4 h5 h6 h
    ·rename_i h4;exact .ll c d h1 hc hd h4 h
   ·cases h
  ·rename_i h0
   split at h
   ·rename_i h1
    split at h
    ·rename_i c d hc hd
     split at h
     ·rename_i h4
      split at h
      ·cases h
      ·rename_i y S1 h5
       split at h
       ·cases h
       ·rename_i S2 h6;exact .rl c d y S1 S2 h0 h1 hc hd h4 h5 h6 h
     ·rename_i h4;exact .rr c d h0 h1 hc hd h4 h
    ·cases h
   ·rename_i h1
    injection h with h
    injection h with e1 e2
    exact .none (by omega) (by omega) e1.symm e2.symm
 ·cases h
theorem Cj{S S':St}(h:Ig w ps S Y){hh x:Nat}(hR:leftM S hh=some (x,S')):x<2^64:=by
 obtain⟨_,_,_,rfl⟩:=rp hR;exact(fs h hh).right
theorem D9{S S':St}(h:Ig w ps S Y){hh x:Nat}(hR:rightM S hh=some (x,S')):x<2^64:=by
 obtain⟨_,_,_,rfl⟩:=se hR;exact(fs h hh).left
theorem yQ{S:St}(h:Ig w ps S Y)(hi:Fv S)(hh:Nat)(hl:hh<2^64){a b:Nat}(ha:eE S (getNode S hh).1.left=some a)(hb:eE S (getNode S hh).1.right=some b)(h1:a<=b+1)(h2:b<=a+1):
 Ct 246 #[PV ps,.int .u64 hh] w fun e w'=>e=.returned (.int .u64 hh)/\Ig w' ps S Y/\Fo Y w w':=by
 have hg:=gR h hi hh hl;have ai:=fs h hh;have an:a<2^62:=by have:=num_some ha;omega
 have ao:b<2^62:=by have:=num_some hb;omega
 have hA:=fun W (hW:Below w.heap.size w W)=>fJ (h.below hW) hi (getNode S hh).1.left ai.left ha;have hB:=fun W (hW:Below w.heap.size w W)=>fJ (h.below hW) hi (getNode S hh).1.right ai.right hb;obtain⟨⟨⟨k0,k1,k2,k3,k4,k5⟩,er⟩,hE⟩:∃r,getNode S hh=r:=⟨_,rfl⟩;rw[hE] at hg hA hB;simp only at hg hA hB;simp only[gP] at hg;have d0:IntKind.i64.wrap ((a:Int)-b)=(a:Int)-b:=aD _ (by omega);have d1:((1:Int)<(a:Int)-b)=False:=eq_false (by omega);have d2:((a:Int)-b< -1)=False:=eq_false (by omega);have HG:=kq4 hg hA hB h;clear hg hA hB h hi hE ai ha hb h1 h2 an ao;go_enter func246,ntmps246;go_wp2_with fail;refine HG.a.mono ?_;rintro e w1 ⟨rfl,ad⟩;have q:=heap_alloc_new w1 (.cells #[.int .u64 k0,.int .u64 k1,.int .u64 k2,.int .u64 k3,.int .u64 k4,.int .u64 k5,.int .u64 hh] 319);have B1:=ad.alloc ad.size (.cells #[.int .u64 k0,.int .u64 k1,.int .u64 k2,.int .u64 k3,.int .u64 k4,.int .u64 k5,.int .u64 hh] 319);have a0:=ad.size;clear ad;go_wp2_with fail;generalize w1.alloc (.cells #[.int .u64 k0,.int .u64 k1,.int .u64 k2,.int .u64 k3,.int .u64 k4,.int .u64 k5,.int .u64 hh] 319)=W at*;have ql:=(gl q);generalize w1.heap.size=b1 at*;have ap:∀x:Fq (Below W.heap.size W),x.to.cell? ⟨b1,2,none⟩=some (.int .u64 k2):=fun x=>by rw[Fs ((x.ok.block _ ql).trans q)];rfl
 have ar:∀x:Fq (Below W.heap.size W),x.to.cell? ⟨b1,3,none⟩=some (.int .u64 k3):=fun x=>by rw[Fs ((x.ok.block _ ql).trans q)];rfl
 have hA:=fun x:Fq (Below W.heap.size W)=>Calls.keeps_below (HG.b x.to (B1.trans (x.ok.mono B1.size)));have hB:=fun x:Fq (Below W.heap.size W)=>Calls.keeps_below (HG.c x.to (B1.trans (x.ok.mono B1.size)));have HB:=kq2 B1 q;clear B1 q;refine iq (Below W.heap.size W) (by kernel_rfl) (by kernel_rfl) (aa _ _).drew (fun _=>?_)
 repeat (first | go_big_quiet_skip | (go_big_quiet_want;go_big_quiet_op;first | go_big_quiet_on | (apply Exists.intro;refine⟨fun x=>?_,?_⟩;(· first | with_reducible exact hA x | with_reducible exact hB x);go_big_quiet_on)))
 refine wpQuiet_nil ?_;rintro _ ⟨v,rfl⟩;clear hA hB ap ar;have r2:=(v.ok.block b1 ql).trans HB.b;have HX:=kq2 (HB.a.trans (v.ok.mono HB.a.size)) r2;have au:=v.ok.size;obtain⟨w2,al⟩:=Ii v.to;rw[al] at HX r2 au⊢;clear al v HB;clear r2;go_wp2_with fail;go_ret;exact⟨rfl,HG.d.below HX.a,Fo.of_below HX.a HG.d.yl⟩
theorem qFqaa{P:Prop}(h:P:=by
 generalize w3.heap.size=b2 at*;have ba:=(gl r4);have ar:=(gl q4);have a9:∀x:Fq (Below W3.heap.size W3),x.to.cell? ⟨b2,2,none⟩=some (.int .u64 g2):=fun x=>by rw[Fs ((x.ok.block _ ar).trans q4)];rfl
 have a':∀x:Fq (Below W3.heap.size W3),x.to.cell? ⟨b2,3,none⟩=some (.int .u64 g3):=fun x=>by rw[Fs ((x.ok.block _ ar).trans q4)];rfl
 have hC:=fun x:Fq (Below W3.heap.size W3)=>Calls.keeps_below (HG.f x.to (B4.trans (x.ok.mono B4.size)));have hD:=fun x:Fq (Below W3.heap.size W3)=>Calls.keeps_below (HG.g x.to (B4.trans (x.ok.mono B4.size)));have ai:=kq3 B4 r4 q4;clear B4 r4 q4;refine iq (Below W3.heap.size W3) (by kernel_rfl) (by kernel_rfl) (aa _ _).drew (fun _=>?_)
 repeat (first | go_big_quiet_skip | (go_big_quiet_want;go_big_quiet_op;first | go_big_quiet_on | (apply Exists.intro;refine⟨fun x=>?_,?_⟩;(· first | with_reducible exact hC x | with_reducible exact hD x);go_big_quiet_on)))
 refine wpQuiet_nil ?_;rintro _ ⟨v,rfl⟩;clear hC hD a9 a';have r5:=(v.ok.block b1 ba).trans ai.b;have q5:=(v.ok.block b2 ar).trans ai.c;have B5:=ai.a.trans (v.ok.mono ai.a.size);have bc:=v.ok.size;obtain⟨w5,a2⟩:=Ii v.to;rw[a2] at r5 q5 B5 bc⊢;clear a2 v ai;have au:=kq3 B5 r5 q5;clear r5 q5 B5;go_wp2_with fail;refine(HG.h _ _ (HG.d.below au.a)).mono ?_;rintro e w6 ⟨rfl,h6,k6⟩;have H6:=kq2 h6 ((Fo.of_below au.a HG.d.yl).trans k6);clear h6 k6;go_wp2_with fail;go_ret;exact⟨rfl,H6.out⟩):P:=h
theorem yO{S S':St}(h:Ig w ps S Y)(hi:Fv S)(hh:Nat)(hl:hh<2^64){a b:Nat}(ha:eE S (getNode S hh).1.left=some a)(hb:eE S (getNode S hh).1.right=some b){c d x:Nat}(h1:b+1<a)(h2:eE S (getNode S (getNode S hh).1.left).1.left=some c)(h3:eE S (getNode S (getNode S hh).1.left).1.right=some d)(h4:¬c<d)(h5:rightM S hh=some (x,S')):
 Ct 246 #[PV ps,.int .u64 hh] w fun e w'=>e=.returned (.int .u64 x)/\Ig w' ps S' Y/\Fo Y w w':=by
 have hg:=gR h hi hh hl;have ao:=fs h hh;have a3:a<2^62:=by have:=num_some ha;omega
 have a4:b<2^62:=by have:=num_some hb;omega
 have hA:=fun W (hW:Below w.heap.size w W)=>fJ (h.below hW) hi (getNode S hh).1.left ao.left ha;have hB:=fun W (hW:Below w.heap.size w W)=>fJ (h.below hW) hi (getNode S hh).1.right ao.right hb;have ap:=fs h (getNode S hh).1.left;have ad:=fun W (hW:Below w.heap.size w W)=>gR (h.below hW) hi (getNode S hh).1.left ao.left;have a5:c<2^62:=by have:=num_some h2;omega
 have a6:d<2^62:=by have:=num_some h3;omega
 have hC:=fun W (hW:Below w.heap.size w W)=>fJ (h.below hW) hi (getNode S (getNode S hh).1.left).1.left ap.left h2;have hD:=fun W (hW:Below w.heap.size w W)=>fJ (h.below hW) hi (getNode S (getNode S hh).1.left).1.right ap.right h3;have hF:=fun W Z (hW:Ig W ps S Z)=>pS hW hi hh hl h5;obtain⟨⟨⟨k0,k1,k2,k3,k4,k5⟩,er⟩,hE⟩:∃r,getNode S hh=r:=⟨_,rfl⟩;rw[hE] at hg hA hB ad hC hD;simp only at hg hA hB ad hC hD;obtain⟨⟨⟨g0,g1,g2,g3,g4,g5⟩,bd⟩,a0⟩:∃q,getNode S k2=q:=⟨_,rfl⟩;rw[a0] at ad hC hD;simp only[gP] at hg ad hC hD;have d0:IntKind.i64.wrap ((a:Int)-b)=(a:Int)-b:=aD _ (by omega);have d1:((1:Int)<(a:Int)-b)=True:=eq_true (by omega);have d3:((c:Int)<d)=False:=eq_false (by omega);have HG:=kq8 hg hA hB h ad hC hD hF;clear hg hA hB h ad hC hD hF hi hE ao ha hb h1 h2 a3 a4 h3 h4 h5 ap a0 a5 a6;go_enter func246,ntmps246;go_wp2_with fail;refine HG.a.mono ?_;rintro e w1 ⟨rfl,al⟩;have q:=heap_alloc_new w1 (.cells #[.int .u64 k0,.int .u64 k1,.int .u64 k2,.int .u64 k3,.int .u64 k4,.int .u64 k5,.int .u64 hh] 319);have B1:=al.alloc al.size (.cells #[.int .u64 k0,.int .u64 k1,.int .u64 k2,.int .u64 k3,.int .u64 k4,.int .u64 k5,.int .u64 hh] 319);have bf:=al.size;clear al;go_wp2_with fail;generalize w1.alloc (.cells #[.int .u64 k0,.int .u64 k1,.int .u64 k2,.int .u64 k3,.int .u64 k4,.int .u64 k5,.int .u64 hh] 319)=W at*;have ql:=(gl q);generalize w1.heap.size=b1 at*;have a7:∀x:Fq (Below W.heap.size W),x.to.cell? ⟨b1,2,none⟩=some (.int .u64 k2):=fun x=>by rw[Fs ((x.ok.block _ ql).trans q)];rfl
 have a8:∀x:Fq (Below W.heap.size W),x.to.cell? ⟨b1,3,none⟩=some (.int .u64 k3):=fun x=>by rw[Fs ((x.ok.block _ ql).trans q)];rfl
 have hA:=fun x:Fq (Below W.heap.size W)=>Calls.keeps_below (HG.b x.to (B1.trans (x.ok.mono B1.size)));have hB:=fun x:Fq (Below W.heap.size W)=>Calls.keeps_below (HG.c x.to (B1.trans (x.ok.mono B1.size)));have HB:=kq2 B1 q;clear B1 q;refine iq (Below W.heap.size W) (by kernel_rfl) (by kernel_rfl) (aa _ _).drew (fun _=>?_)
 repeat (first | go_big_quiet_skip | (go_big_quiet_want;go_big_quiet_op;first | go_big_quiet_on | (apply Exists.intro;refine⟨fun x=>?_,?_⟩;(· first | with_reducible exact hA x | with_reducible exact hB x);go_big_quiet_on)))
 refine wpQuiet_nil ?_;rintro _ ⟨v,rfl⟩;clear hA hB a7 a8;have r2:=(v.ok.block b1 ql).trans HB.b;have HX:=kq2 (HB.a.trans (v.ok.mono HB.a.size)) r2;have bb:=v.ok.size;obtain⟨w2,a1⟩:=Ii v.to;rw[a1] at HX r2 bb⊢;clear a1 v HB;obtain⟨c0,c1,c2,c3,c4,c5,c6⟩:=gG r2;clear r2;go_wp2_with fail;clear c0 c1 c2 c3 c4 c5 c6;refine(HG.e _ HX.a).mono ?_;rintro e w3 ⟨rfl,an⟩;have r3:=(an.block b1 (by omega)).trans HX.b;have B3:=HX.a.trans (an.mono HX.a.size);have q4:=heap_alloc_new w3 (.cells #[.int .u64 g0,.int .u64 g1,.int .u64 g2,.int .u64 g3,.int .u64 g4,.int .u64 g5,.int .u64 k2] 319);have bj:=an.size;have r4:=(((aa w3.heap.size w3).alloc Ih (.cells #[.int .u64 g0,.int .u64 g1,.int .u64 g2,.int .u64 g3,.int .u64 g4,.int .u64 g5,.int .u64 k2] 319)).block b1 (by omega)).trans r3;have B4:=B3.alloc B3.size (.cells #[.int .u64 g0,.int .u64 g1,.int .u64 g2,.int .u64 g3,.int .u64 g4,.int .u64 g5,.int .u64 k2] 319);have bk:w.heap.size<=w3.heap.size:=B3.size;clear an r3 B3;go_wp2_with fail;generalize w3.alloc (.cells #[.int .u64 g0,.int .u64 g1,.int .u64 g2,.int .u64 g3,.int .u64 g4,.int .u64 g5,.int .u64 k2] 319)=W3 at*;exact qFqaa
theorem qFqab{P:Prop}(h:P:=by
 iterate 8
  refine' hC ?_ ?_;rotate_left
  ·intro x;go_simp
   try rfl
  simp only[pu]
 refine mo ?_;clear y0 y1 y2 y3 y4 y5 y6 z0 z1 z2 z3 z4 z5 z6;refine gF _ (by rfl) (by rfl) (fun K hK=>?_);go_simp;refine(HG.i _ _ (HZ.out.below (aa _ _).drew)).mono ?_;rintro e w6 ⟨rfl,h6,k6⟩;have u6:=(k6.block b1 (ae ⟨by omega,by omega⟩)).trans ap.b;have v6:=(k6.block b2 (ae ⟨by omega,by omega⟩)).trans ap.c;have H6:=kq4 h6 k6 u6 v6;clear h6 k6 u6 v6
 try go_simp
 refine hK.out _ _ (HI.out _ H6.c H6.d) ?_;clear hK K
 try simp only[pu]
 refine gF _ (by rfl) (by rfl) (fun K hK=>?_);go_simp;refine(HG.j _ _ H6.a).mono ?_;rintro e w7 ⟨rfl,h7,k7⟩;have u7:=(k7.block b1 (ae ⟨by omega,by omega⟩)).trans H6.c;have v7:=(k7.block b2 (ae ⟨by omega,by omega⟩)).trans H6.d;have H7:=kq4 h7 (H6.b.trans k7) u7 v7;clear h7 k7 u7 v7
 try go_simp
 refine hK.out _ _ (HI.out _ H7.c H7.d) ?_;clear hK K
 try simp only[pu]
 refine mp ?_;go_wp2_with fail;refine(HG.h _ _ H7.a).mono ?_;rintro e w8 ⟨rfl,h8,k8⟩;have H8:=kq2 h8 (H7.b.trans k8);clear h8 k8;go_wp2_with fail;go_ret;exact⟨rfl,H8.a.mono fun k hk=>ab hk,(Fo.of_below ap.a.drew HG.d.yl).trans (H8.b.mono fun k hk=>ab hk)⟩):P:=h
theorem yP{S S':St}(h:Ig w ps S Y)(hi:Fv S)(hh:Nat)(hl:hh<2^64){a b:Nat}(ha:eE S (getNode S hh).1.left=some a)(hb:eE S (getNode S hh).1.right=some b){c d x y:Nat}{S1 S2:St}(h1:b+1<a)(h2:eE S (getNode S (getNode S hh).1.left).1.left=some c)(h3:eE S (getNode S (getNode S hh).1.left).1.right=some d)(h4:c<d)(h5:leftM S (getNode S hh).1.left=some (y,S1))(h6:fu S1 (getNode S hh).1 hh y (getNode S hh).1.right=some S2)(h7:rightM S2 hh=some (x,S')):
 Ct 246 #[PV ps,.int .u64 hh] w fun e w'=>e=.returned (.int .u64 x)/\Ig w' ps S' Y/\Fo Y w w':=by
 have hg:=gR h hi hh hl;have ad:=fs h hh;have ba:a<2^62:=by have:=num_some ha;omega
 have bb:b<2^62:=by have:=num_some hb;omega
 have hA:=fun W (hW:Below w.heap.size w W)=>fJ (h.below hW) hi (getNode S hh).1.left ad.left ha;have hB:=fun W (hW:Below w.heap.size w W)=>fJ (h.below hW) hi (getNode S hh).1.right ad.right hb;have a1:=fs h (getNode S hh).1.left;have ai:=fun W (hW:Below w.heap.size w W)=>gR (h.below hW) hi (getNode S hh).1.left ad.left;have bc:c<2^62:=by have:=num_some h2;omega
 have bd:d<2^62:=by have:=num_some h3;omega
 have hC:=fun W (hW:Below w.heap.size w W)=>fJ (h.below hW) hi (getNode S (getNode S hh).1.left).1.left a1.left h2;have hD:=fun W (hW:Below w.heap.size w W)=>fJ (h.below hW) hi (getNode S (getNode S hh).1.left).1.right a1.right h3;have a0:=ow hi h5;have a4:=gX a0 h6;have a8:=Cj h h5;have hM:=fun W Z (hW:Ig W ps S Z)=>pR hW hi (getNode S hh).1.left ad.left h5;have hN:=fun W Z (hW:Ig W ps S1 Z)=>jG hW a0 (getNode S hh).1 ad hh y (getNode S hh).1.right hl a8 ad.right h6;have hF:=fun W Z (hW:Ig W ps S2 Z)=>pS hW a4 hh hl h7;obtain⟨⟨⟨k0,k1,k2,k3,k4,k5⟩,er⟩,hE⟩:∃r,getNode S hh=r:=⟨_,rfl⟩;rw[hE] at hg hA hB ai hC hD hM hN;simp only at hg hA hB ai hC hD hM hN;obtain⟨⟨⟨g0,g1,g2,g3,g4,g5⟩,bu⟩,a3⟩:∃q,getNode S k2=q:=⟨_,rfl⟩;rw[a3] at ai hC hD;simp only[gP] at hg ai hC hD hN;have d0:IntKind.i64.wrap ((a:Int)-b)=(a:Int)-b:=aD _ (by omega);have d1:((1:Int)<(a:Int)-b)=True:=eq_true (by omega);have d3:((c:Int)<d)=True:=eq_true (by omega);have HG:=kq10 hg hA hB h ai hC hD hF hM hN;clear hg hA hB h ai hC hD hF hM hN hi hE ad ha hb h1 h2 ba bb h3 h4 h5 h6 h7 a1 a3 bc bd a0 a4 a8;go_enter func246,ntmps246;go_wp2_with fail;refine HG.a.mono ?_;rintro e w1 ⟨rfl,an⟩;have q:=heap_alloc_new w1 (.cells #[.int .u64 k0,.int .u64 k1,.int .u64 k2,.int .u64 k3,.int .u64 k4,.int .u64 k5,.int .u64 hh] 319);have B1:=an.alloc an.size (.cells #[.int .u64 k0,.int .u64 k1,.int .u64 k2,.int .u64 k3,.int .u64 k4,.int .u64 k5,.int .u64 hh] 319);have bv:=an.size;clear an;go_wp2_with fail;generalize w1.alloc (.cells #[.int .u64 k0,.int .u64 k1,.int .u64 k2,.int .u64 k3,.int .u64 k4,.int .u64 k5,.int .u64 hh] 319)=W at*;have ql:=(gl q);generalize w1.heap.size=b1 at*;have bf:∀x:Fq (Below W.heap.size W),x.to.cell? ⟨b1,2,none⟩=some (.int .u64 k2):=fun x=>by rw[Fs ((x.ok.block _ ql).trans q)];rfl
 have bj:∀x:Fq (Below W.heap.size W),x.to.cell? ⟨b1,3,none⟩=some (.int .u64 k3):=fun x=>by rw[Fs ((x.ok.block _ ql).trans q)];rfl
 have hA:=fun x:Fq (Below W.heap.size W)=>Calls.keeps_below (HG.b x.to (B1.trans (x.ok.mono B1.size)));have hB:=fun x:Fq (Below W.heap.size W)=>Calls.keeps_below (HG.c x.to (B1.trans (x.ok.mono B1.size)));have HB:=kq2 B1 q;clear B1 q;refine iq (Below W.heap.size W) (by kernel_rfl) (by kernel_rfl) (aa _ _).drew (fun _=>?_)
 repeat (first | go_big_quiet_skip | (go_big_quiet_want;go_big_quiet_op;first | go_big_quiet_on | (apply Exists.intro;refine⟨fun x=>?_,?_⟩;(· first | with_reducible exact hA x | with_reducible exact hB x);go_big_quiet_on)))
 refine wpQuiet_nil ?_;rintro _ ⟨v,rfl⟩;clear hA hB bf bj;have r2:=(v.ok.block b1 ql).trans HB.b;have HX:=kq2 (HB.a.trans (v.ok.mono HB.a.size)) r2;have bs:=v.ok.size;obtain⟨w2,a5⟩:=Ii v.to;rw[a5] at HX r2 bs⊢;clear a5 v HB;obtain⟨c0,c1,c2,c3,c4,c5,c6⟩:=gG r2;clear r2;go_wp2_with fail;clear c0 c1 c2 c3 c4 c5 c6;refine(HG.e _ HX.a).mono ?_;rintro e w3 ⟨rfl,ao⟩;have r3:=(ao.block b1 (by omega)).trans HX.b;have B3:=HX.a.trans (ao.mono HX.a.size);have q4:=heap_alloc_new w3 (.cells #[.int .u64 g0,.int .u64 g1,.int .u64 g2,.int .u64 g3,.int .u64 g4,.int .u64 g5,.int .u64 k2] 319);have b0:=ao.size;have r4:=(((aa w3.heap.size w3).alloc Ih (.cells #[.int .u64 g0,.int .u64 g1,.int .u64 g2,.int .u64 g3,.int .u64 g4,.int .u64 g5,.int .u64 k2] 319)).block b1 (by omega)).trans r3;have B4:=B3.alloc B3.size (.cells #[.int .u64 g0,.int .u64 g1,.int .u64 g2,.int .u64 g3,.int .u64 g4,.int .u64 g5,.int .u64 k2] 319);have b4:w.heap.size<=w3.heap.size:=B3.size;clear ao r3 B3;go_wp2_with fail;generalize w3.alloc (.cells #[.int .u64 g0,.int .u64 g1,.int .u64 g2,.int .u64 g3,.int .u64 g4,.int .u64 g5,.int .u64 k2] 319)=W3 at*;generalize w3.heap.size=b2 at*;have bo:=(gl r4);have a2:=(gl q4);have bk:∀x:Fq (Below W3.heap.size W3),x.to.cell? ⟨b2,2,none⟩=some (.int .u64 g2):=fun x=>by rw[Fs ((x.ok.block _ a2).trans q4)];rfl
 have bm:∀x:Fq (Below W3.heap.size W3),x.to.cell? ⟨b2,3,none⟩=some (.int .u64 g3):=fun x=>by rw[Fs ((x.ok.block _ a2).trans q4)];rfl
 have hC:=fun x:Fq (Below W3.heap.size W3)=>Calls.keeps_below (HG.f x.to (B4.trans (x.ok.mono B4.size)));have hD:=fun x:Fq (Below W3.heap.size W3)=>Calls.keeps_below (HG.g x.to (B4.trans (x.ok.mono B4.size)));have al:=kq3 B4 r4 q4;clear B4 r4 q4;refine iq (Below W3.heap.size W3) (by kernel_rfl) (by kernel_rfl) (aa _ _).drew (fun _=>?_)
 repeat (first | go_big_quiet_skip | (go_big_quiet_want;go_big_quiet_op;first | go_big_quiet_on | (apply Exists.intro;refine⟨fun x=>?_,?_⟩;(· first | with_reducible exact hC x | with_reducible exact hD x);go_big_quiet_on)))
 refine wpQuiet_nil ?_;rintro _ ⟨v,rfl⟩;clear hC hD bk bm;have r5:=(v.ok.block b1 bo).trans al.b;have q5:=(v.ok.block b2 a2).trans al.c;have B5:=al.a.trans (v.ok.mono al.a.size);have bt:=v.ok.size;obtain⟨w5,a6⟩:=Ii v.to;rw[a6] at r5 q5 B5 bt⊢;clear a6 v al;have ap:=kq3 B5 r5 q5;have HZ:=If (HG.d.wide B5);clear B5;go_wp2_with fail;obtain⟨I,ar,au⟩:∃I:World->Prop,(∀w',I w'->w'.heap[b1]?=some (.cells #[.int .u64 k0,.int .u64 k1,.int .u64 k2,.int .u64 k3,.int .u64 k4,.int .u64 k5,.int .u64 hh] 319 (0,0))/\w'.heap[b2]?=some (.cells #[.int .u64 g0,.int .u64 g1,.int .u64 g2,.int .u64 g3,.int .u64 g4,.int .u64 g5,.int .u64 k2] 319 (0,0)))/\(∀w',w'.heap[b1]?=some (.cells #[.int .u64 k0,.int .u64 k1,.int .u64 k2,.int .u64 k3,.int .u64 k4,.int .u64 k5,.int .u64 hh] 319 (0,0))->w'.heap[b2]?=some (.cells #[.int .u64 g0,.int .u64 g1,.int .u64 g2,.int .u64 g3,.int .u64 g4,.int .u64 g5,.int .u64 k2] 319 (0,0))->I w'):=⟨fun w'=>w'.heap[b1]?=some (.cells #[.int .u64 k0,.int .u64 k1,.int .u64 k2,.int .u64 k3,.int .u64 k4,.int .u64 k5,.int .u64 hh] 319 (0,0))/\w'.heap[b2]?=some (.cells #[.int .u64 g0,.int .u64 g1,.int .u64 g2,.int .u64 g3,.int .u64 g4,.int .u64 g5,.int .u64 k2] 319 (0,0)),fun _ h=>h,fun _ a b=>⟨a,b⟩⟩;have a7:=fun x:Fq I=>(ar _ x.ok).1;have a9:=fun x:Fq I=>(ar _ x.ok).2;obtain⟨y0,y1,y2,y3,y4,y5,y6⟩:=iZ a7;obtain⟨z0,z1,z2,z3,z4,z5,z6⟩:=iZ a9;have HI:=If au;have a':I w5.drew:=au _ r5 q5;clear a7 a9 q5 r5 ar au;refine mq I [0,1,2,3,4,6,7,8] [5,9] (by kernel_rfl) (by kernel_rfl) a' ?_;exact qFqab
theorem yS{S S':St}(h:Ig w ps S Y)(hi:Fv S)(hh:Nat)(hl:hh<2^64){a b:Nat}(ha:eE S (getNode S hh).1.left=some a)(hb:eE S (getNode S hh).1.right=some b){c d x:Nat}(h1:a+1<b)(h2:eE S (getNode S (getNode S hh).1.right).1.left=some c)(h3:eE S (getNode S (getNode S hh).1.right).1.right=some d)(h4:¬d<c)(h5:leftM S hh=some (x,S')):
 Ct 246 #[PV ps,.int .u64 hh] w fun e w'=>e=.returned (.int .u64 x)/\Ig w' ps S' Y/\Fo Y w w':=by
 have hg:=gR h hi hh hl;have ao:=fs h hh;have a3:a<2^62:=by have:=num_some ha;omega
 have a4:b<2^62:=by have:=num_some hb;omega
 have hA:=fun W (hW:Below w.heap.size w W)=>fJ (h.below hW) hi (getNode S hh).1.left ao.left ha;have hB:=fun W (hW:Below w.heap.size w W)=>fJ (h.below hW) hi (getNode S hh).1.right ao.right hb;have ap:=fs h (getNode S hh).1.right;have ad:=fun W (hW:Below w.heap.size w W)=>gR (h.below hW) hi (getNode S hh).1.right ao.right;have a5:c<2^62:=by have:=num_some h2;omega
 have a6:d<2^62:=by have:=num_some h3;omega
 have hC:=fun W (hW:Below w.heap.size w W)=>fJ (h.below hW) hi (getNode S (getNode S hh).1.right).1.left ap.left h2;have hD:=fun W (hW:Below w.heap.size w W)=>fJ (h.below hW) hi (getNode S (getNode S hh).1.right).1.right ap.right h3;have hF:=fun W Z (hW:Ig W ps S Z)=>pR hW hi hh hl h5;obtain⟨⟨⟨k0,k1,k2,k3,k4,k5⟩,er⟩,hE⟩:∃r,getNode S hh=r:=⟨_,rfl⟩;rw[hE] at hg hA hB ad hC hD;simp only at hg hA hB ad hC hD;obtain⟨⟨⟨g0,g1,g2,g3,g4,g5⟩,bd⟩,a0⟩:∃q,getNode S k3=q:=⟨_,rfl⟩;rw[a0] at ad hC hD;simp only[gP] at hg ad hC hD;have d0:IntKind.i64.wrap ((a:Int)-b)=(a:Int)-b:=aD _ (by omega);have d1:((1:Int)<(a:Int)-b)=False:=eq_false (by omega);have d2:((a:Int)-b< -1)=True:=eq_true (by omega);have d3:((d:Int)<c)=False:=eq_false (by omega);have HG:=kq8 hg hA hB h ad hC hD hF;clear hg hA hB h ad hC hD hF hi hE ao ha hb h1 h2 a3 a4 h3 h4 h5 ap a0 a5 a6;go_enter func246,ntmps246;go_wp2_with fail;refine HG.a.mono ?_;rintro e w1 ⟨rfl,al⟩;have q:=heap_alloc_new w1 (.cells #[.int .u64 k0,.int .u64 k1,.int .u64 k2,.int .u64 k3,.int .u64 k4,.int .u64 k5,.int .u64 hh] 319);have B1:=al.alloc al.size (.cells #[.int .u64 k0,.int .u64 k1,.int .u64 k2,.int .u64 k3,.int .u64 k4,.int .u64 k5,.int .u64 hh] 319);have bf:=al.size;clear al;go_wp2_with fail;generalize w1.alloc (.cells #[.int .u64 k0,.int .u64 k1,.int .u64 k2,.int .u64 k3,.int .u64 k4,.int .u64 k5,.int .u64 hh] 319)=W at*;have ql:=(gl q);generalize w1.heap.size=b1 at*;have a7:∀x:Fq (Below W.heap.size W),x.to.cell? ⟨b1,2,none⟩=some (.int .u64 k2):=fun x=>by rw[Fs ((x.ok.block _ ql).trans q)];rfl
 have a8:∀x:Fq (Below W.heap.size W),x.to.cell? ⟨b1,3,none⟩=some (.int .u64 k3):=fun x=>by rw[Fs ((x.ok.block _ ql).trans q)];rfl
 have hA:=fun x:Fq (Below W.heap.size W)=>Calls.keeps_below (HG.b x.to (B1.trans (x.ok.mono B1.size)));have hB:=fun x:Fq (Below W.heap.size W)=>Calls.keeps_below (HG.c x.to (B1.trans (x.ok.mono B1.size)));have HB:=kq2 B1 q;clear B1 q;refine iq (Below W.heap.size W) (by kernel_rfl) (by kernel_rfl) (aa _ _).drew (fun _=>?_)
 repeat (first | go_big_quiet_skip | (go_big_quiet_want;go_big_quiet_op;first | go_big_quiet_on | (apply Exists.intro;refine⟨fun x=>?_,?_⟩;(· first | with_reducible exact hA x | with_reducible exact hB x);go_big_quiet_on)))
 refine wpQuiet_nil ?_;rintro _ ⟨v,rfl⟩;clear hA hB a7 a8;have r2:=(v.ok.block b1 ql).trans HB.b;have HX:=kq2 (HB.a.trans (v.ok.mono HB.a.size)) r2;have bb:=v.ok.size;obtain⟨w2,a1⟩:=Ii v.to;rw[a1] at HX r2 bb⊢;clear a1 v HB;obtain⟨c0,c1,c2,c3,c4,c5,c6⟩:=gG r2;clear r2;go_wp2_with fail;clear c0 c1 c2 c3 c4 c5 c6;refine(HG.e _ HX.a).mono ?_;rintro e w3 ⟨rfl,an⟩;have r3:=(an.block b1 (by omega)).trans HX.b;have B3:=HX.a.trans (an.mono HX.a.size);have q4:=heap_alloc_new w3 (.cells #[.int .u64 g0,.int .u64 g1,.int .u64 g2,.int .u64 g3,.int .u64 g4,.int .u64 g5,.int .u64 k3] 319);have bj:=an.size;have r4:=(((aa w3.heap.size w3).alloc Ih (.cells #[.int .u64 g0,.int .u64 g1,.int .u64 g2,.int .u64 g3,.int .u64 g4,.int .u64 g5,.int .u64 k3] 319)).block b1 (by omega)).trans r3;have B4:=B3.alloc B3.size (.cells #[.int .u64 g0,.int .u64 g1,.int .u64 g2,.int .u64 g3,.int .u64 g4,.int .u64 g5,.int .u64 k3] 319);have bk:w.heap.size<=w3.heap.size:=B3.size;clear an r3 B3;go_wp2_with fail;generalize w3.alloc (.cells #[.int .u64 g0,.int .u64 g1,.int .u64 g2,.int .u64 g3,.int .u64 g4,.int .u64 g5,.int .u64 k3] 319)=W3 at*;exact qFqaa
theorem yR{S S':St}(h:Ig w ps S Y)(hi:Fv S)(hh:Nat)(hl:hh<2^64){a b:Nat}(ha:eE S (getNode S hh).1.left=some a)(hb:eE S (getNode S hh).1.right=some b){c d x y:Nat}{S1 S2:St}(h1:a+1<b)(h2:eE S (getNode S (getNode S hh).1.right).1.left=some c)(h3:eE S (getNode S (getNode S hh).1.right).1.right=some d)(h4:d<c)(h5:rightM S (getNode S hh).1.right=some (y,S1))(h6:fu S1 (getNode S hh).1 hh (getNode S hh).1.left y=some S2)(h7:leftM S2 hh=some (x,S')):
 Ct 246 #[PV ps,.int .u64 hh] w fun e w'=>e=.returned (.int .u64 x)/\Ig w' ps S' Y/\Fo Y w w':=by
 have hg:=gR h hi hh hl;have ad:=fs h hh;have ba:a<2^62:=by have:=num_some ha;omega
 have bb:b<2^62:=by have:=num_some hb;omega
 have hA:=fun W (hW:Below w.heap.size w W)=>fJ (h.below hW) hi (getNode S hh).1.left ad.left ha;have hB:=fun W (hW:Below w.heap.size w W)=>fJ (h.below hW) hi (getNode S hh).1.right ad.right hb;have a1:=fs h (getNode S hh).1.right;have ai:=fun W (hW:Below w.heap.size w W)=>gR (h.below hW) hi (getNode S hh).1.right ad.right;have bc:c<2^62:=by have:=num_some h2;omega
 have bd:d<2^62:=by have:=num_some h3;omega
 have hC:=fun W (hW:Below w.heap.size w W)=>fJ (h.below hW) hi (getNode S (getNode S hh).1.right).1.left a1.left h2;have hD:=fun W (hW:Below w.heap.size w W)=>fJ (h.below hW) hi (getNode S (getNode S hh).1.right).1.right a1.right h3;have a0:=oT hi h5;have a4:=gX a0 h6;have a8:=D9 h h5;have hM:=fun W Z (hW:Ig W ps S Z)=>pS hW hi (getNode S hh).1.right ad.right h5;have hN:=fun W Z (hW:Ig W ps S1 Z)=>jG hW a0 (getNode S hh).1 ad hh (getNode S hh).1.left y hl ad.left a8 h6;have hF:=fun W Z (hW:Ig W ps S2 Z)=>pR hW a4 hh hl h7;obtain⟨⟨⟨k0,k1,k2,k3,k4,k5⟩,er⟩,hE⟩:∃r,getNode S hh=r:=⟨_,rfl⟩;rw[hE] at hg hA hB ai hC hD hM hN;simp only at hg hA hB ai hC hD hM hN;obtain⟨⟨⟨g0,g1,g2,g3,g4,g5⟩,bu⟩,a3⟩:∃q,getNode S k3=q:=⟨_,rfl⟩;rw[a3] at ai hC hD;simp only[gP] at hg ai hC hD hN;have d0:IntKind.i64.wrap ((a:Int)-b)=(a:Int)-b:=aD _ (by omega);have d1:((1:Int)<(a:Int)-b)=False:=eq_false (by omega);have d2:((a:Int)-b< -1)=True:=eq_true (by omega);have d3:((d:Int)<c)=True:=eq_true (by omega);have HG:=kq10 hg hA hB h ai hC hD hF hM hN;clear hg hA hB h ai hC hD hF hM hN hi hE ad ha hb h1 h2 ba bb h3 h4 h5 h6 h7 a1 a3 bc bd a0 a4 a8;go_enter func246,ntmps246;go_wp2_with fail;refine HG.a.mono ?_;rintro e w1 ⟨rfl,an⟩;have q:=heap_alloc_new w1 (.cells #[.int .u64 k0,.int .u64 k1,.int .u64 k2,.int .u64 k3,.int .u64 k4,.int .u64 k5,.int .u64 hh] 319);have B1:=an.alloc an.size (.cells #[.int .u64 k0,.int .u64 k1,.int .u64 k2,.int .u64 k3,.int .u64 k4,.int .u64 k5,.int .u64 hh] 319);have bv:=an.size;clear an;go_wp2_with fail;generalize w1.alloc (.cells #[.int .u64 k0,.int .u64 k1,.int .u64 k2,.int .u64 k3,.int .u64 k4,.int .u64 k5,.int .u64 hh] 319)=W at*;have ql:=(gl q);generalize w1.heap.size=b1 at*;have bf:∀x:Fq (Below W.heap.size W),x.to.cell? ⟨b1,2,none⟩=some (.int .u64 k2):=fun x=>by rw[Fs ((x.ok.block _ ql).trans q)];rfl
 have bj:∀x:Fq (Below W.heap.size W),x.to.cell? ⟨b1,3,none⟩=some (.int .u64 k3):=fun x=>by rw[Fs ((x.ok.block _ ql).trans q)];rfl
 have hA:=fun x:Fq (Below W.heap.size W)=>Calls.keeps_below (HG.b x.to (B1.trans (x.ok.mono B1.size)));have hB:=fun x:Fq (Below W.heap.size W)=>Calls.keeps_below (HG.c x.to (B1.trans (x.ok.mono B1.size)));have HB:=kq2 B1 q;clear B1 q;refine iq (Below W.heap.size W) (by kernel_rfl) (by kernel_rfl) (aa _ _).drew (fun _=>?_)
 repeat (first | go_big_quiet_skip | (go_big_quiet_want;go_big_quiet_op;first | go_big_quiet_on | (apply Exists.intro;refine⟨fun x=>?_,?_⟩;(· first | with_reducible exact hA x | with_reducible exact hB x);go_big_quiet_on)))
 refine wpQuiet_nil ?_;rintro _ ⟨v,rfl⟩;clear hA hB bf bj;have r2:=(v.ok.block b1 ql).trans HB.b;have HX:=kq2 (HB.a.trans (v.ok.mono HB.a.size)) r2;have bs:=v.ok.size;obtain⟨w2,a5⟩:=Ii v.to;rw[a5] at HX r2 bs⊢;clear a5 v HB;obtain⟨c0,c1,c2,c3,c4,c5,c6⟩:=gG r2;clear r2;go_wp2_with fail;clear c0 c1 c2 c3 c4 c5 c6;refine(HG.e _ HX.a).mono ?_;rintro e w3 ⟨rfl,ao⟩;have r3:=(ao.block b1 (by omega)).trans HX.b;have B3:=HX.a.trans (ao.mono HX.a.size);have q4:=heap_alloc_new w3 (.cells #[.int .u64 g0,.int .u64 g1,.int .u64 g2,.int .u64 g3,.int .u64 g4,.int .u64 g5,.int .u64 k3] 319);have b0:=ao.size;have r4:=(((aa w3.heap.size w3).alloc Ih (.cells #[.int .u64 g0,.int .u64 g1,.int .u64 g2,.int .u64 g3,.int .u64 g4,.int .u64 g5,.int .u64 k3] 319)).block b1 (by omega)).trans r3;have B4:=B3.alloc B3.size (.cells #[.int .u64 g0,.int .u64 g1,.int .u64 g2,.int .u64 g3,.int .u64 g4,.int .u64 g5,.int .u64 k3] 319);have b4:w.heap.size<=w3.heap.size:=B3.size;clear ao r3 B3;go_wp2_with fail;generalize w3.alloc (.cells #[.int .u64 g0,.int .u64 g1,.int .u64 g2,.int .u64 g3,.int .u64 g4,.int .u64 g5,.int .u64 k3] 319)=W3 at*;generalize w3.heap.size=b2 at*;have bo:=(gl r4);have a2:=(gl q4);have bk:∀x:Fq (Below W3.heap.size W3),x.to.cell? ⟨b2,2,none⟩=some (.int .u64 g2):=fun x=>by rw[Fs ((x.ok.block _ a2).trans q4)];rfl
 have bm:∀x:Fq (Below W3.heap.size W3),x.to.cell? ⟨b2,3,none⟩=some (.int .u64 g3):=fun x=>by rw[Fs ((x.ok.block _ a2).trans q4)];rfl
 have hC:=fun x:Fq (Below W3.heap.size W3)=>Calls.keeps_below (HG.f x.to (B4.trans (x.ok.mono B4.size)));have hD:=fun x:Fq (Below W3.heap.size W3)=>Calls.keeps_below (HG.g x.to (B4.trans (x.ok.mono B4.size)));have al:=kq3 B4 r4 q4;clear B4 r4 q4;refine iq (Below W3.heap.size W3) (by kernel_rfl) (by kernel_rfl) (aa _ _).drew (fun _=>?_)
 repeat (first | go_big_quiet_skip | (go_big_quiet_want;go_big_quiet_op;first | go_big_quiet_on | (apply Exists.intro;refine⟨fun x=>?_,?_⟩;(· first | with_reducible exact hC x | with_reducible exact hD x);go_big_quiet_on)))
 refine wpQuiet_nil ?_;rintro _ ⟨v,rfl⟩;clear hC hD bk bm;have r5:=(v.ok.block b1 bo).trans al.b;have q5:=(v.ok.block b2 a2).trans al.c;have B5:=al.a.trans (v.ok.mono al.a.size);have bt:=v.ok.size;obtain⟨w5,a6⟩:=Ii v.to;rw[a6] at r5 q5 B5 bt⊢;clear a6 v al;have ap:=kq3 B5 r5 q5;have HZ:=If (HG.d.wide B5);clear B5;go_wp2_with fail;obtain⟨I,ar,au⟩:∃I:World->Prop,(∀w',I w'->w'.heap[b1]?=some (.cells #[.int .u64 k0,.int .u64 k1,.int .u64 k2,.int .u64 k3,.int .u64 k4,.int .u64 k5,.int .u64 hh] 319 (0,0))/\w'.heap[b2]?=some (.cells #[.int .u64 g0,.int .u64 g1,.int .u64 g2,.int .u64 g3,.int .u64 g4,.int .u64 g5,.int .u64 k3] 319 (0,0)))/\(∀w',w'.heap[b1]?=some (.cells #[.int .u64 k0,.int .u64 k1,.int .u64 k2,.int .u64 k3,.int .u64 k4,.int .u64 k5,.int .u64 hh] 319 (0,0))->w'.heap[b2]?=some (.cells #[.int .u64 g0,.int .u64 g1,.int .u64 g2,.int .u64 g3,.int .u64 g4,.int .u64 g5,.int .u64 k3] 319 (0,0))->I w'):=⟨fun w'=>w'.heap[b1]?=some (.cells #[.int .u64 k0,.int .u64 k1,.int .u64 k2,.int .u64 k3,.int .u64 k4,.int .u64 k5,.int .u64 hh] 319 (0,0))/\w'.heap[b2]?=some (.cells #[.int .u64 g0,.int .u64 g1,.int .u64 g2,.int .u64 g3,.int .u64 g4,.int .u64 g5,.int .u64 k3] 319 (0,0)),fun _ h=>h,fun _ a b=>⟨a,b⟩⟩;have a7:=fun x:Fq I=>(ar _ x.ok).1;have a9:=fun x:Fq I=>(ar _ x.ok).2;obtain⟨y0,y1,y2,y3,y4,y5,y6⟩:=iZ a7;obtain⟨z0,z1,z2,z3,z4,z5,z6⟩:=iZ a9;have HI:=If au;have a':I w5.drew:=au _ r5 q5;clear a7 a9 q5 r5 ar au;refine mq I [0,1,2,3,4,5,6,7] [8,9] (by kernel_rfl) (by kernel_rfl) a' ?_;exact qFqab
theorem tH{S S':St}{hh x:Nat}(hi:Fv S)(h:balM S hh=some (x,S')):Fv S':=by
 obtain⟨a,b,-,-,D⟩:=tI h
 cases D with
 | none _ _ _ h4=>rw[h4];exact hi
 | ll c d _ _ _ _ h5=>exact oT hi h5
 | lr c d y S1 S2 _ _ _ _ h5 h6 h7=>exact oT (gX (ow hi h5) h6) h7
 | rr c d _ _ _ _ _ h5=>exact ow hi h5
 | rl c d y S1 S2 _ _ _ _ _ h5 h6 h7=>exact ow (gX (oT hi h5) h6) h7
theorem tG{S S':St}(h:Ig w ps S Y)(hi:Fv S)(hh:Nat)(hl:hh<2^64){x:Nat}(hR:balM S hh=some (x,S')):
 Ct 246 #[PV ps,.int .u64 hh] w fun e w'=>e=.returned (.int .u64 x)/\Ig w' ps S' Y/\Fo Y w w':=by
 obtain⟨a,b,ha,hb,D⟩:=tI hR
 cases D with
 | none h1 h2 h3 h4=>subst h3 h4;exact yQ h hi x hl ha hb h1 h2
 | ll c d h1 h2 h3 h4 h5=>exact yO h hi hh hl ha hb h1 h2 h3 h4 h5
 | lr c d y S1 S2 h1 h2 h3 h4 h5 h6 h7=>exact yP h hi hh hl ha hb h1 h2 h3 h4 h5 h6 h7
 | rr c d _ h1 h2 h3 h4 h5=>exact yS h hi hh hl ha hb h1 h2 h3 h4 h5
 | rl c d y S1 S2 _ h1 h2 h3 h4 h5 h6 h7=>exact yR h hi hh hl ha hb h1 h2 h3 h4 h5 h6 h7