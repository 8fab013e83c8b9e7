/- B-trees in a store: an item more, by h_: plain. -/
import Derived.Test.YtpljannolpapgaaGreatDoorTZa
set_option maxRecDepth 100000
set_option maxHeartbeats 6400000
namespace Go.Proofs.YtpljannolpapgaaGreatDoor
section
open Lf Tr
namespace Bt
variable{S:St}{U:List Nat}{d:Nat}{e:It}{i:Nat}{k:Nat}{o:Nat->Nat}
theorem vW{A K B Y U:List Nat}(h:(A++(K++B)).Nodup)(hy:Y.Nodup)(hs:∀z∈Y,z∈K\/z∈U)(hu:∀z∈U,z∉A/\z∉B):(A++(Y++B)).Nodup:=by
 grind
theorem nodes_parts{x:Bt (d+1)}(h:k<(Bn.ks x).length):h_ x=(Bn.h x::(((Bn.ks x).take k).map h_).flatten)++(h_ (Bn.ks x)[k]++(((Bn.ks x).drop (k+1)).map h_).flatten):=by
 have e:(Bn.ks x).map h_=((Bn.ks x).take k).map h_++h_ (Bn.ks x)[k]::((Bn.ks x).drop (k+1)).map h_:=by rw[<-bg,<-aQ,<-oW h]
 rw[jQ,e,bW,dB]
 rfl
theorem ve{x:Bt (d+1)}(h:k<(Bn.ks x).length)(y:Bt d):h_ (ju x k y)=(Bn.h x::(((Bn.ks x).take k).map h_).flatten)++(h_ y++(((Bn.ks x).drop (k+1)).map h_).flatten):=by
 show Bn.h x::(((Bn.ks x).set k y).map h_).flatten=_
 rw[de,if_pos h,aQ,bg,bW,dB]
 rfl
theorem vf(x:Bt (d+1))(k:Nat)(y1:Bt d)(m:It)(y2:Bt d):h_ (ja x k y1 m y2)=(Bn.h x::(((Bn.ks x).take k).map h_).flatten)++((h_ y1++h_ y2)++(((Bn.ks x).drop (k+1)).map h_).flatten):=by
 show Bn.h x::(((Bn.ks x).take k++y1::y2::(Bn.ks x).drop (k+1)).map h_).flatten=_
 grind
theorem put_node(hf:Fw S o){t d:Nat}{x:Bt (d+1)}(hk:∀k∈Bn.ks x,At S t k)(hn:∀k∈Bn.ks x,hd x∉h_ k){ws:List Nat}(hr:i_ S (hd x)=some ws)(hw:ws.length=6*t)(hl:iT (bn x))(he:(Bn.es x).length<1000):
 Fw (FC S (hd x) 0 (w_ t (bn x))) o/\At (FC S (hd x) 0 (w_ t (bn x))) t x/\(∀h,h≠hd x->i_ (FC S (hd x) 0 (w_ t (bn x))) h=i_ S h)/\ej S (FC S (hd x) 0 (w_ t (bn x))) 0 0:=by
 obtain⟨q1,q2,q3,q4⟩:=mR hf hr (l:=w_ t (bn x)) (by rw[jJ,hw]) (kX hl (by unfold bn;grind));refine⟨q1,⟨q2,fun k hkm=>(hk k hkm).frame fun h hm=>q3 h fun e=>hn k hkm (e▸hm)⟩,q3,q4⟩
theorem hd_kids{x:Bt (d+1)}(h:(h_ x).Nodup):∀k∈Bn.ks x,hd x∉h_ k:=fun k hk hm=>by
 rw[jQ] at h;exact(aI.1 h).1 (cJ.2 ⟨_,az.2 ⟨k,hk,rfl⟩,hm⟩)
structure Mid (S S':St) (o:Nat->Nat) (t:Nat) {d:Nat} (x:Bt (d+1)) (e:It) (U:List Nat) (x':Bt (d+1)):Prop where
 fit:Fw S' o
 grew:ej S S' 0 0
 fr:∀h,h∉h_ x->h∉U->i_ S' h=i_ S h
 hd:Bn.h x'=Bn.h x
 okN:gY t x'
 its:Bt.its x'=insB e (Bt.its x)
 B_:∀k∈Bn.ks x',At S' t k
 nd:(h_ x').Nodup
 sub:∀h,h∈h_ x'↔h∈h_ x\/h∈U
 own:∃ws,i_ S' (Bn.h x)=some ws/\ws.length=6*t
 grow:(Bn.es x).length<=(Bn.es x').length
 lt:iT (bn x')
structure Put (S S':St) (o:Nat->Nat) (t:Nat) {d:Nat} (x:Bt (d+1)) (e:It) (U:List Nat) (r:Option (It×Nat)):Prop where
 fit:Fw S' o
 grew:ej S S' 0 0
 fr:∀h,h∉h_ x->h∉U->i_ S' h=i_ S h
 res:match r with
  | none=>∃y:Bt (d+1),Bn.h y=Bn.h x/\At S' t y/\Ok t y/\nk x<=nk y/\Bt.its y=insB e (Bt.its x)/\(h_ y).Nodup/\(∀h,h∈h_ y↔h∈h_ x\/h∈U)
  | some (m,g)=>∃y1 y2:Bt (d+1),Bn.h y1=Bn.h x/\Bn.h y2=g/\At S' t y1/\At S' t y2/\Ok t y1/\Ok t y2/\nk y1=t/\nk y2+1=t/\Bt.its y1++m::Bt.its y2=insB e (Bt.its x)/\(h_ y1++h_ y2).Nodup/\(∀h,h∈h_ y1++h_ y2↔h∈h_ x\/h∈U)
theorem mid_leaf(hf:Fw S o){t:Nat}(t1:1<=t){x:Bt 1}(ha:At S t x)(ok:Ok t x)(hnd:(h_ x).Nodup)(hb:∀d∈its x,d.kh<2^64/\d.vh<2^64)(he:e.kh<2^64/\e.vh<2^64)(hl:(its x).length<1000000):Mid S S o t x e [] (leafPut x e):=by
 have hi:=Ch x e;refine⟨hf,ej.refl S,fun _ _ _=>rfl,rfl,vj t1 ok e,hi,ha.2,hnd,fun h=>⟨ab,fun q=>q.elim id fun q=>(bT q).elim⟩,⟨_,ha.1,jJ _ _⟩,?_,?_⟩
 ·show _<=((Bn.es x).take (belowB e.k (Bn.es x))++e::(Bn.es x).drop (belowB e.k (Bn.es x))).length
  rw[lg (k:=belowB e.k (Bn.es x)) bY];omega
 ·refine bnLt_of hf (fun d hd=>?_) ha.2 ?_
  ·have ad:d∈insB e (its x):=by rw[<-hi];exact lN (vj t1 ok e) hd
   rcases kg.1 ad with rfl | ad
   ·exact he
   ·exact hb d ad
  ·rw[hi,insB_length];omega
theorem vg{S S':St}{t d:Nat}{x:Bt (d+1)}(ha:At S t x)(hnd:(h_ x).Nodup)(hU:∀h∈U,h∉h_ x)(hi:i<(Bn.ks x).length)(fr:∀h,h∉h_ (Bn.ks x)[i]->h∉U->i_ S' h=i_ S h):
 (∀k∈(Bn.ks x).take i++(Bn.ks x).drop (i+1),At S' t k)/\i_ S' (Bn.h x)=i_ S (Bn.h x):=by
 rw[nodes_parts hi] at hnd hU;obtain⟨h1,h2,h3⟩:=aD.1 hnd;obtain⟨h4,h5,h6⟩:=aD.1 h2;refine⟨fun k hk=>?_,fr _ (fun hm=>h3 _ (av ..) _ (aB _ hm) rfl) fun hm=>hU _ hm (aB _ (av ..))⟩
 rcases ao.1 hk with hk | hk
 ·refine(ha.2 k (bD hk)).frame fun h hh=>?_;have hm:h∈(((Bn.ks x).take i).map h_).flatten:=cJ.2 ⟨_,az.2 ⟨k,hk,rfl⟩,hh⟩
  grind
 ·refine(ha.2 k (bA hk)).frame fun h hh=>?_;have hm:h∈(((Bn.ks x).drop (i+1)).map h_).flatten:=cJ.2 ⟨_,az.2 ⟨k,hk,rfl⟩,hh⟩
  grind
theorem tw{x:Bt (d+1)}(hi:i<(Bn.ks x).length)(hU:∀h∈U,h∉h_ x):∀z∈U,z∉(Bn.h x::(((Bn.ks x).take i).map h_).flatten)/\z∉(((Bn.ks x).drop (i+1)).map h_).flatten:=fun z hz=>by
 have:=hU z hz;rw[nodes_parts hi] at this;exact⟨fun q=>this (aB _ q),fun q=>this (aA _ (aA _ q))⟩
abbrev ItLt(l:List It):Prop:=∀d∈l,d.kh<2^64/\d.vh<2^64
theorem mid_kid{S S':St}{t d:Nat}(t1:1<=t){x:Bt (d+2)}(ha:At S t x)(ok:Ok t x)(hnd:(h_ x).Nodup)(hs:(its x).Pairwise eU)(hb:ItLt (its x))(he:ItLt [e])(hl:(its x).length<1000000)(hU:∀h∈U,h∉h_ x)
 (hi:belowB e.k (Bn.es x)<(Bn.ks x).length) (hp:Put S S' o t (Bn.ks x)[belowB e.k (Bn.es x)] e U none):∃y,Bn.h y=hd (Bn.ks x)[belowB e.k (Bn.es x)]/\Mid S S' o t x e U (ju x (belowB e.k (Bn.es x)) y):=by
 obtain⟨y,y1,y2,y3,y4,y5,y6,y7⟩:=hp.res;obtain⟨ks,hr⟩:=vg ha hnd hU hi hp.fr;have hk:=ok.2.2 _ (aq hi);have ar:belowB e.k (Bn.es x)<=(Bn.es x).length:=bY;have ap:=BP t1 ok (belowB e.k (Bn.es x)) y3 o_;have ai:its (ju x (belowB e.k (Bn.es x)) y)=insB e (its x):=by
  have ho:=l7 (key:=e.k) ok.rows (by rw[<-ga];exact hs);have:=ho.insert;rw[jN hi,<-ga] at this;rw[BO ok _ ar,y5,this]
 have an:∀k∈(Bn.ks x).set (belowB e.k (Bn.es x)) y,At S' t k:=fun k hk=>by
  rw[de,if_pos hi] at hk;rcases ao.1 hk with hk | hk
  ·exact ks k (aB _ hk)
  ·rcases ah.1 hk with rfl | hk
   ·exact y2
   ·exact ks k (aA _ hk)
 refine⟨y,y1,hp.fit,hp.grew,fun h h1 h2=>hp.fr h (fun q=>h1 (mem_nodes_kid (aq hi) q)) h2,rfl,ap,ai,an,?_,fun h=>?_,⟨_,hr.T ha.1,jJ _ _⟩,Nat.le_refl _,?_⟩
 ·rw[ve hi];rw[nodes_parts hi] at hnd;exact vW hnd y6 (fun h hh=>(y7 h).1 hh) (tw hi hU)
 ·have q:=y7 h;rw[ve hi,nodes_parts hi];simp only[ao,q];grind
 ·refine bnLt_of hp.fit (fun d hd=>?_) an ?_
  ·have ad:d∈insB e (its x):=by rw[<-ai];exact lN ap hd
   rcases kg.1 ad with rfl | ad
   ·exact he _ (av ..)
   ·exact hb d ad
  ·rw[ai,insB_length];omega
theorem mid_split{S S':St}{t d:Nat}(t1:1<=t){x:Bt (d+2)}(ha:At S t x)(ok:Ok t x)(hnd:(h_ x).Nodup)(hs:(its x).Pairwise eU)(hb:ItLt (its x))(he:ItLt [e])(hl:(its x).length<1000000)(hU:∀h∈U,h∉h_ x)
 (hi:belowB e.k (Bn.es x)<(Bn.ks x).length) {m:It} {g:Nat} (hp:Put S S' o t (Bn.ks x)[belowB e.k (Bn.es x)] e U (some (m,g))):∃y1 y2,Bn.h y1=hd (Bn.ks x)[belowB e.k (Bn.es x)]/\Bn.h y2=g/\Mid S S' o t x e U (ja x (belowB e.k (Bn.es x)) y1 m y2):=by
 obtain⟨y1,y2,a1,a2,a3,a4,a5,a6,a7,a8,a9,a0,ap⟩:=hp.res;obtain⟨ks,hr⟩:=vg ha hnd hU hi hp.fr;have hk:=ok.2.2 _ (aq hi);have an:belowB e.k (Bn.es x)<=(Bn.es x).length:=bY;have au:=BS t1 ok (belowB e.k (Bn.es x)) an m a5 o_ a6 o_;have ai:its (ja x (belowB e.k (Bn.es x)) y1 m y2)=insB e (its x):=by
  have ho:=l7 (key:=e.k) ok.rows (by rw[<-ga];exact hs);have:=ho.insert;rw[jN hi,<-ga,<-a9] at this;rw[BQ ok _ an,this];simp[List.append_assoc]
 have ar:∀k∈(Bn.ks x).take (belowB e.k (Bn.es x))++y1::y2::(Bn.ks x).drop (belowB e.k (Bn.es x)+1),At S' t k:=fun k hk=>by
  rcases ao.1 hk with hk | hk
  ·exact ks k (aB _ hk)
  ·rcases ah.1 hk with rfl | hk
   ·exact a3
   ·rcases ah.1 hk with rfl | hk
    ·exact a4
    ·exact ks k (aA _ hk)
 refine⟨y1,y2,a1,a2,hp.fit,hp.grew,fun h h1 h2=>hp.fr h (fun q=>h1 (mem_nodes_kid (aq hi) q)) h2,rfl,au,ai,ar,?_,fun h=>?_,⟨_,hr.T ha.1,jJ _ _⟩,?_,?_⟩
 ·rw[vf];rw[nodes_parts hi] at hnd;exact vW hnd a0 (fun h hh=>(ap h).1 hh) (tw hi hU)
 ·have q:=ap h;rw[ao] at q;rw[vf,nodes_parts hi];simp only[ao,q];grind
 ·show (Bn.es x).length<=((Bn.es x).take (belowB e.k (Bn.es x))++m::(Bn.es x).drop (belowB e.k (Bn.es x))).length
  rw[lg an];omega
 ·refine bnLt_of hp.fit (fun d hd=>?_) ar ?_
  ·have ad:d∈insB e (its x):=by rw[<-ai];exact lN au hd
   rcases kg.1 ad with rfl | ad
   ·exact he _ (av ..)
   ·exact hb d ad
  ·rw[ai,insB_length];omega
theorem Mid.put{S S':St}{t d:Nat}{x:Bt (d+1)}{x':Bt (d+1)}(h:Mid S S' o t x e U x')(t2:t<=16)(hl:(Bn.es x').length<2*t):Put S (FC S' (Bn.h x) 0 (w_ t (bn x'))) o t x e U none:=by
 obtain⟨ws,hr,hw⟩:=h.own;have hh:Bt.hd x'=Bn.h x:=h.hd;have hp:=put_node h.fit h.B_ (hd_kids h.nd) (by grind) hw h.lt o_;rw[hh] at hp;obtain⟨p1,p2,p3,p4⟩:=hp;refine⟨p1,(h.grew.T p4).M o_ o_,fun y h1 h2=>(p3 y fun q=>h1 (q▸hd_mem x)).T (h.fr y h1 h2),⟨x',h.hd,p2,h.okN.ok hl,h.grow,h.its,h.nd,h.sub⟩⟩
theorem Mid.cut{S S':St}{t d:Nat}(t1:1<=t)(t2:t<=16){x:Bt (d+1)}{x':Bt (d+1)}(h:Mid S S' o t x e U x')(hl:(Bn.es x').length=2*t){g:Nat}(hg1:g∉U)(hg2:g∉h_ x){wg:List Nat}(hg3:i_ S g=some wg)(hg4:wg.length=6*t):
 Put S (FC (FC S' (Bn.h x) 0 (w_ t (bn (G_ t x')))) g 0 (w_ t (bn (G5 t x' g)))) o t x e (U++[g]) (some ((Bn.es x')[t]' o_,g)):=by
 obtain⟨ws,hr,hw⟩:=h.own;obtain⟨c1,c2,c3,c4,c5⟩:=h.okN.split t1 hl g;have a0:=h.nd;rw[jQ] at a0;obtain⟨n1,n2⟩:=aI.1 a0;have ad:g∉h_ x':=fun q=>((h.sub g).1 q).elim hg2 hg1;have ap:∀k∈Bn.ks (G_ t x'),k∈Bn.ks x':=fun k hk=>bD hk;have an:∀k∈Bn.ks (G5 t x' g),k∈Bn.ks x':=fun k hk=>bA hk;have hh:Bt.hd (G_ t x')=Bn.h x:=h.hd;have eN:((Bn.ks x').map h_).flatten=(((Bn.ks x').take (t+1)).map h_).flatten++(((Bn.ks x').drop (t+1)).map h_).flatten:=by
  conv=>lhs;rw[<-aS (t+1) (Bn.ks x'),aQ,bW]
 have au:∀q∈Bn.es x',q.kh<2^64/\q.vh<2^64:=fun q hq=>⟨h.lt.j_ _ (az.2 ⟨q,hq,rfl⟩),h.lt.E1 _ (az.2 ⟨q,hq,rfl⟩)⟩;have ar:=h.lt.size;have ar:(Bt.its x').length<2^64:=ar;rw[c1,ag,aj] at ar;have ai:=h.B_;have a5:iT (bn (G_ t x')):=bnLt_of h.fit (fun q hq=>au q (bD hq)) (fun k hk=>ai k (ap k hk)) o_;have a6:iT (bn (G5 t x' g)):=bnLt_of h.fit (fun q hq=>au q (bA hq)) (fun k hk=>ai k (an k hk)) o_;have hp:=put_node (x:=G_ t x') h.fit (fun k hk=>ai k (ap k hk)) (fun k hk=>by
  show Bn.h x'∉_
  exact hd_kids h.nd k (ap k hk)) (by rw[hh];exact hr) hw a5 (by show ((Bn.es x').take t).length<1000;rw[aM];omega)
 rw[hh] at hp;obtain⟨p1,p2,p3,p4⟩:=hp;have a1:g≠Bn.h x:=fun q=>hg2 (q▸hd_mem x);have a3:i_ (FC S' (Bn.h x) 0 (w_ t (bn (G_ t x')))) g=some wg:=(p3 g a1).T ((h.fr g hg2 hg1).T hg3);have a2:∀k∈Bn.ks (G5 t x' g),At (FC S' (Bn.h x) 0 (w_ t (bn (G_ t x')))) t k:=fun k hk=>(ai k (an k hk)).frame fun y hy=>p3 y fun q=>hd_kids h.nd k (an k hk) (by
  show Bn.h x'∈h_ k
  rw[h.hd,<-q];exact hy)
 obtain⟨r1,r2,r3,r4⟩:=put_node (x:=G5 t x' g) p1 a2 (fun k hk q=>ad (mem_nodes_kid (an k hk) q)) (ws:=wg) a3 hg4 a6 (by show ((Bn.es x').drop (t+1)).length<1000;rw[bQ];omega);have r3:∀y,y≠g->_:=r3;have hL:At (FC (FC S' (Bn.h x) 0 (w_ t (bn (G_ t x')))) g 0 (w_ t (bn (G5 t x' g)))) t (G_ t x'):=p2.frame fun y hy=>r3 y fun q=>by
  subst q;refine ad ?_;rw[jQ] at hy⊢
  rcases ah.1 hy with hy | hy
  ·exact hy▸av ..
  ·refine ak _ ?_;rw[eN];exact aB _ hy
 have a4:∀y,y∈h_ (G_ t x')++h_ (G5 t x' g)↔y∈h_ x'\/y=g:=fun y=>by
  rw[jQ x',eN]
  show y∈(Bn.h x'::(((Bn.ks x').take (t+1)).map h_).flatten)++(g::(((Bn.ks x').drop (t+1)).map h_).flatten)↔_
  simp only[ao,ah]
  grind
 refine⟨r1,((h.grew.T p4).T r4).M o_ o_,fun y h1 h2=>?_,⟨G_ t x',G5 t x' g,h.hd,rfl,hL,r2,c2,c3,c4,c5,?_,?_,fun y=>?_⟩⟩
 ·have h3:y∉U/\y≠g:=⟨fun q=>h2 (aB _ q),fun q=>h2 (aA _ (q▸av ..))⟩;exact(r3 y h3.2).T ((p3 y fun q=>h1 (q▸hd_mem x)).T (h.fr y h1 h3.1))
 ·rw[<-h.its,c1]
 ·rw[eN] at n1 n2;obtain⟨m1,m2,m3⟩:=aD.1 n2;rw[jQ x',eN] at ad
  show ((Bn.h x'::(((Bn.ks x').take (t+1)).map h_).flatten)++(g::(((Bn.ks x').drop (t+1)).map h_).flatten)).Nodup
  refine aD.2 ⟨aI.2 ⟨fun q=>n1 (aB _ q),m1⟩,aI.2 ⟨fun q=>ad (ak _ (aA _ q)),m2⟩,fun a ha b hb q=>?_⟩;subst q
  rcases ah.1 ha with rfl | ha
  ·rcases ah.1 hb with hb | hb
   ·exact ad (hb▸av ..)
   ·exact n1 (aA _ hb)
  ·rcases ah.1 hb with rfl | hb
   ·exact ad (ak _ (aB _ ha))
   ·exact m3 a ha a hb rfl
 ·rw[a4 y,h.sub y,ao,aH,or_assoc]
end Bt
end
section
open Go.RowKit Tryz Go.BigFrame Go.Maps Go.WideMaps Lf Tr
open Go.Shelf
variable{L:List Nat}{S:St}{Y:Nat->Prop}{o:Nat->Nat}{ps:Nat}{t:Nat}{v:Value}{w:World}
theorem J8(h:Ig w ps S Y):fy<w.1.size:=by
 obtain⟨pa,pm,ph,pt,v,h⟩:=h;exact h.heap.yl _ (ae (ae (ae (ab rfl))))
theorem qBjac{P:Prop}(h:P:=by
 rw[ai,if_pos rfl] at this
 injection this with this
 injection this with _ this
 exact absurd this d_):P:=h
theorem Ig.grown{w w':World}{row:Option Nat}(h:Ig w ps S Y)(hg:w.grownBy w' row)(hr:∀g,row=some g->Y g/\g≠fy/\∃cs fr,w.1[g]?=some (.cells cs 61 fr)):Ig w' ps S (fun k=>Y k\/(w.1.size<=k/\k<w'.1.size)):=by
 cases row with
 | none=>exact h.wide ⟨hg.os,hg.tape,hg.output,hg.size,fun k hk=>hg.block k hk s_⟩
 | some g=>
  obtain⟨h1,h2,cs,fr,h3⟩:=hr g rfl;have au:=(gl h3);obtain⟨w2,ad⟩:∃w2:World,w2= { w' with heap:=w'.heap.setIfInBounds g (.cells cs 61 fr) }:=⟨_,rfl⟩;have an:w2.1.size=w'.1.size:=by rw[ad];simp
  have ai:∀k,w2.1[k]?=if g=k then some (.cells cs 61 fr) else w'.1[k]?:=fun k=>by
   rw[ad]
   show (w'.heap.setIfInBounds g _)[k]?=_
   rw[Array.getElem?_setIfInBounds]
   split
   ·rename_i e;subst e;rw[if_pos (by have:=hg.size;omega)]
   ·rfl
  have ap:D_ w w2:=by
   refine⟨by rw[ad];exact hg.os,by rw[ad];exact hg.tape,by rw[ad];exact hg.output,by rw[an];exact hg.size,fun k hk=>?_⟩;rw[ai]
   split
   ·rename_i e;subst e;exact h3.S
   ·rename_i e;exact hg.block k hk (fun q=>e (Option.some.inj q).S)
  have hz:=h.wide ap;rw[an] at hz;obtain⟨pa,pm,ph,pt,v,hz⟩:=hz;refine⟨pa,pm,ph,pt,v,hz.of_keep (by rw[an];exact Nat.le_refl _) fun k hk hc=>?_⟩;have ar:k≠g:=by
   rintro rfl
   rcases hc with hc | rfl | rfl | rfl
   ·exact hc (ab h1)
   ·have:=hz.hd;exact qBjac
   ·have:=hz.heap.hp;exact qBjac
   ·exact h2 rfl
  rw[ai,if_neg (fun e=>ar e.S)]
structure lG (S:St) (t:Nat) (L:List Nat):Prop where
 nd:L.Nodup
 recs:∀h∈L,∃ws,i_ S h=some ws/\ws.length=6*t
theorem Eu(hf:Fw S o)(t1:2<=t)(t2:t<=16)(hr:fc S 2 1):
 ∃h S1 o1,S.make (6*t)=((h,0),S1)/\iw S (6*t)/\h<2^64/\S1.len h=(6*t,0)/\Fw (FC S1 h 0 (w_ t bn0)) o1/\i_ S h=none/\(∃ws,i_ (FC S1 h 0 (w_ t bn0)) h=some ws/\ws.length=6*t)/\(∀h',h'≠h->i_ (FC S1 h 0 (w_ t bn0)) h'=i_ S h')/\ej S (FC S1 h 0 (w_ t bn0)) 2 1:=by
 have ap:fa (6*t+2)<=2:=aG (qh o_ o_) o_;have an:=hr.M ap (Nat.le_refl 1);obtain⟨h,S1,o1,ws,e,ad,hn,ai,hl,ho,hg,_⟩:=oz hf (n:=6*t) o_ an;have ar:=rz hf (n:=6*t) o_ an;obtain⟨q1,q2,q3,q4⟩:=mR ad hl (l:=w_ t bn0) (by rw[jJ,ai]) (tQ t);exact⟨h,S1,o1,e,ar,(fL ad hl).2.1,by rw[jw ad.tab hl,ai],q1,hn,⟨_,q2,jJ _ _⟩,fun h' hne=>(q3 h' hne).T (ho h' hne),(hg.T q4).M o_ o_⟩
structure gz (w:World) (bt bl D ps t:Nat) (v:Value) (L:List Nat):Prop where
 box:w.1[bl]?=some (.cells #[v] 59 (0,0))
 tree:w.1[bt]?=some (.cells #[PV ps,Xi t] 145 (0,0))
 row:FE w D v L
 lo:bl<D/\bt<D/\bl≠bt
def iJ(bt bl:Nat)(v:Value):Nat->Prop:=fun k=>k=bt\/k=bl\/v.ownBlock=some k
theorem tU(h:Ig w ps S Y)(hf:Fw S o)(t1:2<=t)(t2:t<=16)(n:Nat)(hn:n<=1000)(hr:fc S (2*n) n):
 Ct 180 #[FH ps t,Xi n] w fun e w'=>e=.returned (.tuple #[.func (.func 214) #[] #[PV (w.1.size+1),PV w.1.size],Xi 0])/\
  ∃S' o' v L,Ig w' ps S' (fun k=>Y k\/iJ w.1.size (w.1.size+1) v k)/\Fo Y w w'/\gz w' w.1.size (w.1.size+1) (w.1.size+2) ps t v L/\Fw S' o'/\L.length=n/\lG S' t L/\(∀h∈L,i_ S h=none)/\(∀h,h∉L->i_ S' h=i_ S h)/\ej S S' (2*n) n:=by
 have B0:=(c_ w (Xc ps t)).alloc s_ (.cells #[n_] 59);have z1:(w.alloc (Xc ps t)).1.size=w.1.size+1:=s_
 have q1:=heap_alloc_new w (Xc ps t);have q2:=heap_alloc_new (w.alloc (Xc ps t)) (.cells #[n_] 59);have q3:=(((aa (w.alloc (Xc ps t)).1.size (w.alloc (Xc ps t))).alloc Ih (.cells #[n_] 59)).block w.1.size s_).T q1;rw[z1] at q2;have hz:((w.alloc (Xc ps t)).alloc (.cells #[n_] 59)).1.size=w.1.size+2:=s_
 have hY:=h.yl;have bq:=J8 h;have bk:=(h.wide B0).M (Z:=fun k=>Y k\/iJ w.1.size (w.1.size+1) n_ k) fun k hk=>hk.imp id fun hk=>by
  rcases hk with rfl | rfl | hk
  ·exact⟨Nat.le_refl _,by rw[hz];omega⟩
  ·exact⟨o_,by rw[hz];omega⟩
  ·cases hk
 have a':=h.A_ B0;generalize hW:(w.alloc (Xc ps t)).alloc (.cells #[n_] 59)=W0 at*;have HG:=kq4 hf hr hY bq;have H0:=kq4 bk a' q2 q3;have HZ:=If hz;unfold FH;clear h hf hr B0 z1 q1 q2 q3 bk a' hY bq hz;go_enter func180,ntmps180;go_wp2_with fail;clear hW;go_loopw [7,8,10,12] (fun _ _ _ s12 wr=>∃j:Nat,j<=n/\s12=Xi j/\Hid (∃S' o' v L,Ig wr ps S' (fun k=>Y k\/iJ w.1.size (w.1.size+1) v k)/\Fo Y w wr/\w.1.size+2<=wr.1.size/\gz wr w.1.size (w.1.size+1) (w.1.size+2) ps t v L/\Fw S' o'/\L.length=j/\lG S' t L/\(∀h∈L,i_ S h=none)/\(∀h,h∉L->i_ S' h=i_ S h)/\ej S S' (2*j) j)) (fun _ _ _ s12 _=>n-(intOf s12).toNat)
 case atStart=>exact⟨0,o_,rfl,S,o,n_,[],H0.a,H0.b,by rw[HZ.O];exact Nat.le_refl _,⟨H0.c,H0.d,World.ownsRow_nil _ _ _ _,o_⟩,HG.a,rfl,⟨da,fun _ hh=>(nomatch hh)⟩,fun _ hh=>(nomatch hh),fun _ _=>rfl,ej.refl S⟩
 case round=>
  obtain⟨j,b',rfl,I⟩:=hrel;obtain⟨S',o',v,L,st,kp,a6,sp,hf,hL,a2,a1,ar,ai⟩:=I.O;by_cases hlt:j<n
  ·have bx:(j:Int)<n:=o_
   have bf:=(HG.b.M (p':=2*j+2) (q':=j+1) o_ o_).grew ai;obtain⟨hh,S1,o1,e,bd,bv,bb,f2,bc,a7,a5,g2⟩:=Eu hf t1 t2 bf;have au:=zG st hf.inv t1 t2 bd e bv bb;obtain⟨S2,a8⟩:=Ii (FC S1 hh 0 (w_ t bn0));rw[a8] at au f2 a7 a5 g2;unfold eC at au;have t3:=sp.tree;obtain⟨x0,x1⟩:=Fp t3;have HM:=If au;have HI:=kq14 st kp sp f2 hL a2 a1 ar ai bc a7 a5 g2 a6;clear st kp sp hf a2 a1 ar ai bf e bd bb f2 bc a7 a5 g2 au t3 a8 hL a6;go_wp2_with fail;refine HM.O.M ?_;rintro e w1 ⟨rfl,bt,k1⟩;have b1:=(k1.block (w.1.size+1) (ae (ae (ab rfl)))).T HI.c.box;have bu:=(k1.block w.1.size (ae (ab rfl))).T HI.c.tree;have own1:FE w1 (w.1.size+2) v L:=HI.c.row.at fun g e=>k1.block g (ae (ae (ae e)));have a3:w.1.size+2<=w1.1.size:=aG HI.n k1.size;obtain⟨v2,w2,b0,an,ad,bs⟩:=jF own1 (by have:=HI.e;omega) hh a3 59;obtain⟨A2,m2,c2,rfl⟩:=an.slice;have a4:∀g,v.ownBlock=some g->w.1.size+2<=g:=fun g e=>(own1.ge g e).1;have ap:∀k,k<w.1.size+2->w2.1[k]?=w1.1[k]?:=fun k hk=>ad.block k o_ fun e=>by have:=a4 k e.S;omega
   have b2:=(ap (w.1.size+1) o_).T b1;have c0:w1.cell? (y_ (w.1.size+1))=some v:=e_ b1
   have d0:w2.cell? (y_ (w.1.size+1))=some v:=e_ b2
   have f0:w2.frozen? (y_ (w.1.size+1))=false:=AT b2;have bm:=bt.grown ad (fun g e=>⟨ae (ae (ae e)),by have:=a4 g e;have:=HG.d;omega,by
    rcases own1.2 with⟨e0,_⟩ | ⟨g',b4,b9,e0,_,hg,_⟩
    ·rw[e0] at e;cases e
    ·rw[e0] at e;have e:g'=g:=Option.some.inj e;subst e;exact⟨_,_,hg⟩⟩)
   have bo:Ig (w2.setCell (y_ (w.1.size+1)) (.slice A2 m2 c2)) ps S2 (fun k=>Y k\/iJ w.1.size (w.1.size+1) (.slice A2 m2 c2) k):=by
    refine(bm.write (b:=w.1.size+1) (ab (ae (ae (ab rfl)))) b2 ⟨d_,d_⟩ s_ s_ fun k _ hk=>FB hk).M fun k hk=>?_;rcases hk with hk | rfl | rfl | hk
    ·exact ab (ab hk)
    ·exact ab (ae (ab rfl))
    ·exact ab (ae (ae (ab rfl)))
    ·rcases bs with e | ⟨g,e,hg⟩
     ·rw[e] at hk;exact ab (ae (ae (ae hk)))
     ·rw[e] at hk;have hk:g=k:=Option.some.inj hk;subst hk;exact ae ⟨hg,(an.ge g e).2⟩
   have ba:Fo Y w (w2.setCell (y_ (w.1.size+1)) (.slice A2 m2 c2)):=(HI.b.T (k1.M fun k hk=>ab hk)).T ⟨ad.os,ad.tape,ad.output,by simpa using ad.size,fun k hk=>by
    have ca:=HG.c k hk;rw[FB o_];exact ap k o_⟩
   have bj:gz (w2.setCell (y_ (w.1.size+1)) (.slice A2 m2 c2)) w.1.size (w.1.size+1) (w.1.size+2) ps t (.slice A2 m2 c2) (L++[hh]):=
    ⟨heap_setCell b2,(FB o_).T ((ap w.1.size o_).T bu),an.at fun g e=>FB (by have:=(an.ge g e).1;omega),o_⟩
   have a0:hh∉L:=fun hm=>by
    obtain⟨ws,e,_⟩:=HI.f.recs hh hm;rw[HI.j] at e;cases e
   have a9:∃S' o' v L,Ig (w2.setCell (y_ (w.1.size+1)) (.slice A2 m2 c2)) ps S' (fun k=>Y k\/iJ w.1.size (w.1.size+1) v k)/\Fo Y w (w2.setCell (y_ (w.1.size+1)) (.slice A2 m2 c2))/\w.1.size+2<=(w2.setCell (y_ (w.1.size+1)) (.slice A2 m2 c2)).1.size/\gz (w2.setCell (y_ (w.1.size+1)) (.slice A2 m2 c2)) w.1.size (w.1.size+1) (w.1.size+2) ps t v L/\Fw S' o'/\L.length=j+1/\lG S' t L/\(∀h∈L,i_ S h=none)/\(∀h,h∉L->i_ S' h=i_ S h)/\ej S S' (2*(j+1)) (j+1):=by
    refine⟨S2,o1,.slice A2 m2 c2,L++[hh],bo,ba,by rw[size_setCell];exact aG a3 ad.size,bj,HI.d,by rw[ag,HI.e];rfl,⟨?_,fun y hy=>?_⟩,fun y hy=>?_,fun y hy=>?_,(HI.i.T HI.m).M o_ Ih⟩
    ·refine aD.2 ⟨HI.f.nd,s_,fun a ha b hb e=>?_⟩;rw[aH.1 hb] at e;exact a0 (e▸ha)
    ·rcases ao.1 hy with hy | hy
     ·obtain⟨ws,e,hw⟩:=HI.f.recs y hy;exact⟨ws,(HI.l y fun q=>a0 (q▸hy)).T e,hw⟩
     ·rw[aH.1 hy];exact HI.k
    ·rcases ao.1 hy with hy | hy
     ·exact HI.g y hy
     ·rw[aH.1 hy,<-HI.h hh a0];exact HI.j
    ·exact(HI.l y fun q=>hy (aA _ (q▸av ..))).T (HI.h y fun q=>hy (aB _ q))
   have HF:=If a9;clear a9 bm bo ba bj a0 b1 b2 bu own1 an ad bs a4 ap bt k1 a3 x0 x1;go_wp2_with (at_builtin;refine Lib.wpList_append_run _ rfl _ _ _ _ rfl _ _ rfl rfl _ _ b0 ?_)
   go_roundw
   case rel=>exact⟨j+1,o_,s_,HF.O⟩
   case measure=>simp[intOf];omega
  ·obtain rfl:j=n:=o_
   have bx:¬(j:Int)<j:=o_
   have HI:=kq9 st kp sp hf hL a2 a1 ar ai;clear st kp sp hf a2 a1 ar ai hL a6;go_wp2_with fail;go_ret2;exact⟨rfl,S',o',v,HI.a,HI.b,L,HI.O.2.2⟩
theorem FD.keeps{w w':World}{l:List Nat}(h:FD w v l)(e:∀g,v.ownBlock=some g->g<w.1.size->w'.1[g]?=w.1[g]?):FD w' v l:=by
 obtain⟨A,c,rfl,hc⟩:=h;refine⟨A,c,rfl,fun i hi=>?_⟩;obtain⟨g,o,rfl,h1⟩:=hc i hi;exact⟨g,o,rfl,(World.cell?_of_block (e g rfl (fK h1))).T h1⟩
theorem FE.short{D b c:Nat}{g:Nat}(h:FE w D (.slice (some (y_ b)) (L.length+1) c) (L++[g])):FE w D (.slice (some (y_ b)) L.length c) L:=by
 refine⟨by simp[hV],?_⟩
 rcases h.2 with⟨e,_⟩ | ⟨b',c',ad,e,hb,hg,ap,ai,an,ht⟩
 ·cases e
 ·injection e with e1 e2 e3
  injection e1 with e1
  injection e1 with e1
  subst e1 e3;rw[ag,bi] at ap ht;refine ae ⟨b,c,ad,rfl,hb,hg,o_,ai,an,?_⟩;rw[Nat.mul_one] at ht⊢;have h2:(ad.toList.take (L.length+1)).take L.length=(hV (L++[g])).take L.length:=by rw[ht]
  rw[List.take_take,Nat.min_eq_left o_] at h2;rw[h2];unfold hV;rw[aQ,List.take_left' s_]
theorem pZ{Z:Nat->Prop}{bt bl D t g:Nat}(h:Ig w ps S Z)(hi:Fv S)(sp:gz w bt bl D ps t v (L++[g]))(zb:Z bl)(zt:Z bt)(zv:∀b,v.ownBlock=some b->Z b)(hL:L.length<=1000)
 {n:BN} {vk vv vc:Value} (hn:iU t n) (hk:FD w vk n.j_) (hv:FD w vv n.E1) (hc:FD w vc n.B_) (nk:∀b,vk.ownBlock=some b->b≠bl) (nv:∀b,vv.ownBlock=some b->b≠bl) (nc:∀b,vc.ownBlock=some b->b≠bl)
 (hg:g<2^64) (hlen:S.len g=(6*t,0)) (hlt:∀x∈w_ t n,x<2^64):
 Ct 214 #[eC vk vv vc n.size,PV bl,PV bt] w fun e w'=>e=.returned (Xu g)/\∃v',Ig w' ps (FC S g 0 (w_ t n)) Z/\Fo (fun k=>Z k/\k≠bl) w w'/\gz w' bt bl D ps t v' L/\v'.ownBlock=v.ownBlock:=by
 have hY:=h.yl;obtain⟨b,c,bf⟩:∃b c,v=.slice (some (y_ b)) (L.length+1) c:=by
  rcases sp.row.2 with⟨_,e⟩ | ⟨b,c,a5,e,_⟩
  ·simp at e
  ·exact⟨b,c,by rw[e];simp⟩
 subst bf;have C6:=sp.row;have a8:=(C6.ge b rfl).1;have a2:=C6.short;have a6:L.length<=c:=by
  rcases C6.2 with⟨e,_⟩ | ⟨b',c',a5,e,hb,bu,bb,bq,bs,ht⟩
  ·cases e
  ·injection e with e1 e2 e3
   subst e3;rw[ag,bi] at bb;omega
 have au:w.cell? (x_ b L.length)=some (Xu g):=by
  have:=World.ownsRow.cells C6 (g:=b) rfl L.length (Xu g) (by simp[hV]);rw[Addr.add_lit] at this;simpa using this
 obtain⟨Ak,ck,rfl,ba⟩:=id hk;obtain⟨Av,cv,rfl,bd⟩:=id hv;obtain⟨Ac,cc,rfl,a'⟩:=id hc;clear ba bd a';have B0:=c_ w (.cells #[.slice Ak n.j_.length ck,.slice Av n.E1.length cv,.slice Ac n.B_.length cc,Xu n.size] 215);have q0:=heap_alloc_new w (.cells #[.slice Ak n.j_.length ck,.slice Av n.E1.length cv,.slice Ac n.B_.length cc,Xu n.size] 215);obtain⟨W0,hW⟩:=Ii (w.alloc (.cells #[.slice Ak n.j_.length ck,.slice Av n.E1.length cv,.slice Ac n.B_.length cc,Xu n.size] 215));rw[hW] at B0 q0;have a3:=h.wide B0;have q1:=(B0.block bl (hY bl zb)).T sp.box;have q2:=(B0.block bt (hY bt zt)).T sp.tree;have c1:=(B0.cell (p:=x_ b L.length) (fK au)).T au;have bc:w.1.size<W0.1.size:=(gl q0);have ap:=sp.lo;have a9:=hY bl zb;have ad:∀k,k≠bl->(W0.setCell (y_ bl) (.slice (some (y_ b)) L.length c)).1[k]?=W0.1[k]?:=fun k hk=>FB hk;have r1:=heap_setCell (i:=0) (v:=.slice (some (y_ b)) L.length c) q1;have a1:=a3.write (w':=W0.setCell (y_ bl) (.slice (some (y_ b)) L.length c)) (b:=bl) (ab zb) q1 ⟨d_,d_⟩ s_ s_ fun k _ hk=>ad k hk;have rk:=hk.keeps (w':=W0.setCell (y_ bl) (.slice (some (y_ b)) L.length c)) fun x e hx=>(ad x (nk x e)).T (B0.block x hx);have rv:=hv.keeps (w':=W0.setCell (y_ bl) (.slice (some (y_ b)) L.length c)) fun x e hx=>(ad x (nv x e)).T (B0.block x hx);have rc:=hc.keeps (w':=W0.setCell (y_ bl) (.slice (some (y_ b)) L.length c)) fun x e hx=>(ad x (nc x e)).T (B0.block x hx);have ar:=Jg a1 hi hn rk rv rc g hg hlen hlt;have t1:=(ad bt (fun e=>ap.2.2 e.S)).T q2;have t0:=(ad w.1.size o_).T q0;have ai:Fo (fun k=>Z k/\k≠bl) w (W0.setCell (y_ bl) (.slice (some (y_ b)) L.length c)):=(Fo.v_ B0 fun k hk=>hY k hk.1).T ⟨rfl,rfl,rfl,s_,fun k hk=>ad k hk.2⟩;have an:FE (W0.setCell (y_ bl) (.slice (some (y_ b)) L.length c)) D (.slice (some (y_ b)) L.length c) L:=a2.at fun x e=>(ad x (by have:b=x:=Option.some.inj e;omega)).T (B0.block x (by have:b=x:=Option.some.inj e;subst this;exact fK au));have a0:=zv b rfl;unfold eC at ar⊢;generalize n.j_.length=lk at*;generalize n.E1.length=lv at*;generalize n.B_.length=lc at*;generalize n.size=sz at*;have l0:(W0).cell? (y_ bl)=some (.slice (some (y_ b)) (L.length+1) c):=e_ q1
 have f0:(W0).frozen? (y_ bl)=false:=AT q1;obtain⟨N,hN⟩:=Ii L.length;rw[hN] at a6 hL c1 l0 ar r1 t1 t0 ai an rk rv rc a1 ad;obtain⟨W1,a7⟩:=Ii (W0.setCell (y_ bl) (.slice (some (y_ b)) N c));rw[a7] at ar r1 t1 t0 ai an;obtain⟨x0,x1⟩:=Fp t1;obtain⟨y0,y1,y2,y3⟩:=Fy t0;have HP:=If ar;have HF:=kq9 r1 t1 ai an zb zt a0 ap hN;have bj:((N:Int)+1==0)=false:=m_
 have bk:¬((N:Int)+1=0):=o_
 have bm:IntKind.i64.wrap ((N:Int)+1-1)=N:=by rw[Int.add_sub_cancel];exact ax _ o_
 have bo:(N:Int)<(N:Int)+1:=o_
 clear h hi sp zb zt zv hn hk hv hc nk nv nc hlen hlt hY C6 a8 a2 au B0 q0 a3 q1 q2 bc ap a9 ad r1 a1 rk rv rc ar t1 t0 ai an a0 hN;go_enter func214,ntmps214;go_wp2_with fail;refine HP.O.M ?_;rintro e w2 ⟨rfl,a4,k2⟩;have HS:=kq2 a4 k2;clear a4 k2;go_wp2_with fail;go_ret;obtain⟨r1,t1,ai,an,zb,zt,a0,ap,hN⟩:=HF.O;have k2:=HS.b;refine⟨rfl,.slice (some (y_ b)) N c,HS.a.M fun k hk=>ab hk,ai.T (k2.M fun k hk=>ab hk.1),⟨(k2.block bl (ab zb)).T r1,(k2.block bt (ab zt)).T t1,an.at fun x e=>k2.block x (by have:b=x:=Option.some.inj e;subst this;exact ab a0),ap⟩,rfl⟩
end
section
open Go.RowKit Tryz Go.BigFrame Go.Maps Go.WideMaps Lf Tr
theorem zO(w:World)(ps t:Nat)(key:List UInt8):
 Cb 181 #[FH ps t,Xu 0,SV key] w (Xi 1):=by
 have B0:=c_ w (Xc ps t);have HB:=If B0;clear B0;unfold FH;go_enter func181,ntmps181;go_wp2_with fail;go_ret;exact⟨rfl,HB.O⟩
theorem tT {w:World}{ps:Nat}{S:St}{Y:Nat->Prop}(h:Ig w ps S Y)(hi:Fv S){t:Nat}(t1:2<=t)(t2:t<=16)(hh:Nat)(hl:hh<2^64)(hlen:S.len hh=(0,7))(key:List UInt8):
 Cb 210 #[FH ps t,Xu hh,SV key] w (.tuple #[i7 none,.bool (none:Option It).isSome,Xi (0:Nat)]):=by
 have B0:=(c_ w (Xc ps t)).alloc s_ (.cells #[Xu 0,Xu 0] 104);have z1:(w.alloc (Xc ps t)).1.size=w.1.size+1:=s_
 have q1:=heap_alloc_new w (Xc ps t);have q2:=heap_alloc_new (w.alloc (Xc ps t)) (.cells #[Xu 0,Xu 0] 104);have q3:=(((aa (w.alloc (Xc ps t)).1.size (w.alloc (Xc ps t))).alloc Ih (.cells #[Xu 0,Xu 0] 104)).block w.1.size s_).T q1;rw[z1] at q2;have hz:w.1.size+2<=((w.alloc (Xc ps t)).alloc (.cells #[Xu 0,Xu 0] 104)).1.size:=s_
 generalize hW:(w.alloc (Xc ps t)).alloc (.cells #[Xu 0,Xu 0] 104)=W0 at*;have ad:=nQ (h.a_ B0) hi t1 t2 hh hl hlen;unfold FH eC at ad;unfold FH;have HG:=kq2 (kq4 B0 q2 q3 hz) ad;clear ad h hi B0 q1 q2 q3 z1 hz hlen;go_enter func210,ntmps210;go_wp2_with fail;clear hW
 go_loopw [1,7,8,9,10,11,12,13,14] (fun s1 s7 s8 _ _ _ _ _ s14 wr=>s1=Xu hh/\s7=.bool false/\s8=Xi 0/\s14=Xi 0/\wr=W0) (fun _ _ _ _ _ _ _ _ _ _=>0)
 case atStart=>exact⟨rfl,rfl,rfl,rfl,rfl⟩
 case round=>
  obtain⟨rfl,rfl,rfl,rfl,rfl⟩:=hrel;have t3:=HG.a.c;obtain⟨x0,x1⟩:=Fp t3;clear t3;go_wp2_with fail;refine b8 HG.b fun w1 hb=>?_;have A1:=c_ w1 (.cells #[n_,n_,n_,Xu 0] 215);have q6:=(hb.block (w.1.size+1) (by have:=HG.a.d;omega)).T HG.a.b;have r6:=(A1.block (w.1.size+1) (gl q6)).T q6;have HB:=kq2 (HG.a.a.T ((b_ hb A1).M HG.a.a.size)) r6;obtain⟨z0,z1⟩:=Fp r6;obtain⟨f0,f1⟩:=ef r6;clear hb A1 q6 r6;go_wp2_with fail;generalize w1.alloc (.cells #[n_,n_,n_,Xu 0] 215)=WX at*;have eW:=ew HB.b (Xu 0) (Xu 0);have BF:=eT HB.a (b:=w.1.size+1) o_ (Xu 0) (Xu 0);generalize ((WX.setCell (y_ (w.1.size+1)) (Xu 0)).setCell (x_ (w.1.size+1) 1) (Xu 0))=WF at*;obtain⟨e0,e1⟩:=Fp eW;exact bodyPost_ret (v:=.tuple #[.agg #[Xu 0,Xu 0],.bool false,Xi 0]) (by simp[results,f210,go_sem,e0,e1]) rfl ⟨rfl,BF⟩
end
section
open Go.RowKit Tryz Go.BigFrame Go.Maps Go.WideMaps Lf Tr
open Go.Shelf
variable{S:St}{Y:Nat->Prop}{i:Nat}{l:List Nat}{v:Value}{w:World}
theorem FE.block{B:Nat}(h:FE w B v l){g:Nat}(hg:v.ownBlock=some g):B<=g/\g<w.1.size/\∃cs fr,w.1[g]?=some (.cells cs 61 fr):=by
 rcases h.2 with⟨e,_⟩ | ⟨b,c,ad,e,hb,ai,ar,an,ap,ht⟩
 ·rw[e] at hg
  cases hg
 ·rw[e] at hg
  cases hg
  grind
structure kG (w w':World) (B ps:Nat) (S:St) (Y:Nat->Prop) (v v':Value) (l':List Nat):Prop where
 own:FE w' B v' l'
 st:Ig w' ps S (fun k=>Y k\/(w.1.size<=k/\k<w'.1.size))
 grown:w.grownBy w' v.ownBlock
 at':v'.ownBlock=v.ownBlock\/∃g,v'.ownBlock=some g/\w.1.size<=g
theorem kG.u_{w w':World}{B ps:Nat}{v v':Value}{l':List Nat}(h:kG w w' B ps S Y v v' l'){k:Nat}(hk:k<w.1.size)(hne:v.ownBlock≠some k):w'.1[k]?=w.1[k]?:=h.grown.block k hk (Ne.S hne)
theorem kG.A_{w w':World}{B ps:Nat}{v v':Value}{l':List Nat}(h:kG w w' B ps S Y v v' l'){Z:Nat->Prop}(hz:∀k,Z k->k<w.1.size/\v.ownBlock≠some k):Fo Z w w':=
 ⟨h.grown.os,h.grown.tape,h.grown.output,h.grown.size,fun k hk=>h.grown.block k (hz k hk).1 (Ne.S (hz k hk).2)⟩
theorem kG.row{w w':World}{B ps:Nat}{v v':Value}{l':List Nat}(h:kG w w' B ps S Y v v' l'){B2:Nat}{u:Value}{l2:List Nat}(hu:FE w B2 u l2)(hne:∀g,u.ownBlock=some g->v.ownBlock≠some g):FE w' B2 u l2:=
 hu.at fun x e=>h.u_ (hu.block e).2.1 (hne x e)
theorem uT{B ps:Nat}(h:Ig w ps S Y)(ho:FE w B v l)(hY:∀g,v.ownBlock=some g->Y g)(htab:fy<B)(hl:l.length<=1000)(hi:i<=l.length){x vb:Nat}(hx:w.1[vb]?=some (.cells #[Xu x] 61 (0,0)))(hne:v.ownBlock≠some vb)(hB:B<=w.1.size):
 Ct 215 #[v,Xi i,.slice (some (y_ vb)) 1 1] w fun e w'=>∃v',e=.returned v'/\kG w w' B ps S Y v v' (l.take i++x::l.drop i):=by
 refine(Bj ho hl hi hx hne hB).M ?_;rintro e w' ⟨v',rfl,h1,h2,h3⟩;refine⟨v',rfl,h1,h.grown h2 fun g hg=>?_,h2,h3⟩;obtain⟨hb,_,hc⟩:=ho.block hg;grind
structure fD (w0 w:World) (B ps:Nat) (S:St) (Y:Nat->Prop) (v1 v2 u1 u2:Value) (m1 m2:List Nat):Prop where
 own1:FE w B u1 m1
 own2:FE w B u2 m2
 st:Ig w ps S (fun k=>Y k\/(w0.1.size<=k/\k<w.1.size))
 A_:Fo (fun k=>k<w0.1.size/\v1.ownBlock≠some k/\v2.ownBlock≠some k) w0 w
 p1:u1.ownBlock=v1.ownBlock\/∃g,u1.ownBlock=some g/\w0.1.size<=g
 p2:u2.ownBlock=v2.ownBlock\/∃g,u2.ownBlock=some g/\w0.1.size<=g
 apart:∀g,u1.ownBlock=some g->u2.ownBlock≠some g
 y1:∀g,v1.ownBlock=some g->Y g
 y2:∀g,v2.ownBlock=some g->Y g
theorem fD.swap{w0 w:World}{B ps:Nat}{v1 v2 u1 u2:Value}{m1 m2:List Nat}(h:fD w0 w B ps S Y v1 v2 u1 u2 m1 m2):fD w0 w B ps S Y v2 v1 u2 u1 m2 m1:=
 ⟨h.own2,h.own1,h.st,h.A_.M fun _ hk=>⟨hk.1,hk.2.2,hk.2.1⟩,h.p2,h.p1,fun g h2 h1=>h.apart g h1 h2,h.y2,h.y1⟩
theorem fD.start{B ps:Nat}{v1 v2:Value}{m1 m2:List Nat}(h:Ig w ps S Y)(o1:FE w B v1 m1)(o2:FE w B v2 m2)(ap:∀g,v1.ownBlock=some g->v2.ownBlock≠some g)(y1:∀g,v1.ownBlock=some g->Y g)(y2:∀g,v2.ownBlock=some g->Y g):fD w w B ps S Y v1 v2 v1 v2 m1 m2:=
 ⟨o1,o2,h.M fun _ hk=>hk.elim id fun h=>absurd h.1 (Nat.not_le.2 h.2),Fo.refl _ _,ab rfl,ab rfl,ap,y1,y2⟩
theorem fD.a_{w0 w w':World}{B ps:Nat}{v1 v2 u1 u2:Value}{m1 m2:List Nat}(h:fD w0 w B ps S Y v1 v2 u1 u2 m1 m2)(hb:D_ w w'):fD w0 w' B ps S Y v1 v2 u1 u2 m1 m2:=
 ⟨h.own1.at fun x e=>hb.block x (h.own1.block e).2.1,h.own2.at fun x e=>hb.block x (h.own2.block e).2.1,
  (h.st.wide hb).M fun k hk=>by
   rcases hk with hk | hk
   ·exact ab (ab hk)
   ·by_cases hw:k<w.1.size
    ·exact ab (ae ⟨hk.1,hw⟩)
    ·exact ae ⟨o_,hk.2⟩,
  h.A_.T (Fo.v_ hb fun k hk=>by have:=h.A_.size;omega),h.p1,h.p2,h.apart,h.y1,h.y2⟩
theorem fD.ins{w0 w:World}{B ps:Nat}{v1 v2 u1 u2:Value}{m1 m2:List Nat}(h:fD w0 w B ps S Y v1 v2 u1 u2 m1 m2)(htab:fy<B)(hB:B<=w.1.size)(hl:m1.length<=1000)(hi:i<=m1.length){x vb:Nat}(hx:w.1[vb]?=some (.cells #[Xu x] 61 (0,0)))(hne:u1.ownBlock≠some vb):
 Ct 215 #[u1,Xi i,.slice (some (y_ vb)) 1 1] w fun e w'=>∃ad,e=.returned ad/\fD w0 w' B ps S Y v1 v2 ad u2 (m1.take i++x::m1.drop i) m2/\(∀k,k<w.1.size->u1.ownBlock≠some k->w'.1[k]?=w.1[k]?):=by
 refine(uT h.st h.own1 (fun g hg=>?_) htab hl hi hx hne hB).M ?_
 ·rcases h.p1 with e | ⟨g',e,ai⟩
  ·exact ab (h.y1 g (by grind))
  ·rw[e] at hg
   injection hg with hg
   subst hg;exact ae ⟨ai,(h.own1.block e).2.1⟩
 ·rintro e w' ⟨ad,rfl,I⟩;have an:=h.A_.size;have ap:=I.grown.size;refine⟨ad,rfl,⟨I.own,I.row h.own2 fun g hg e=>h.apart g e hg,I.st.M fun k hk=>?_,h.A_.T (I.A_ fun k hk=>⟨o_,fun e=>?_⟩),?_,h.p2,fun g hg e=>?_,h.y1,h.y2⟩,fun k hk hn=>I.u_ hk hn⟩
  ·grind
  ·rcases h.p1 with e1 | ⟨g',e1,ai⟩
   ·exact hk.2.1 (by rw[<-e1];exact e)
   grind
  ·rcases I.at' with e1 | ⟨g,e1,hg⟩
   ·rw[e1];exact h.p1
   grind
  ·rcases I.at' with e1 | ⟨g',e1,ai⟩
   ·exact h.apart g (by grind) e
   ·rw[e1] at hg
    injection hg with hg
    have:=(h.own2.block e).2.1;omega
def JB(bt bl:Nat):Value:=.func (.func 214) #[] #[PV bl,PV bt]
def iQ:Option (It×Nat)->Array Value
 | none=>#[.bool false,Xu 0,Xu 0,Xu 0]
 | some (m,g)=>#[.bool true,Xu m.kh,Xu m.vh,Xu g]
def ky(r:Option (It×Nat)):Value:=.agg (iQ r)
def j4(d:Nat):Prop:=∀{w:World} {ps:Nat} {S:St} {o:Nat->Nat} {Z:Nat->Prop} {bt bl D t:Nat} {v:Value} {L:List Nat} {x:Bt (d+1)} {e:It} (i:Nat),
 Ig w ps S Z->Bt.Walk S o t x->(Bt.h_ x).Nodup->i+d<40->gz w bt bl D ps t v L->lG S t L->(∀h∈L,h∉Bt.h_ x)->Z bl->Z bt->(∀b,v.ownBlock=some b->Z b)->L.length<=1000->
 (∀a∈Bt.its x,a.k≠e.k)->Bt.ItLt (Bt.its x)->e.kh<2^64->e.vh<2^64->Bt.trail (Bt.F1 t e.k x)<=L.length->
 Ct 182 #[FH ps t,Xu (Bt.hd x:Nat),SV e.k,Id e.kh e.vh,JB bt bl,Xi i] w fun en w'=>∃(r:Option (It×Nat)) (S':St) (v':Value) (L' U:List Nat),en=.returned (ky r)/\L=L'++U/\Bt.Put S S' o t x e U r/\Ig w' ps S' Z/\Fo (fun k=>Z k/\k≠bl) w w'/\gz w' bt bl D ps t v' L'/\v'.ownBlock=v.ownBlock/\U.length=Bt.trail (Bt.F1 t e.k x)/\r.isSome=(Bt.F1 t e.k x).all id
structure eH (w:World) (ps:Nat) (Z:Nat->Prop) (bt bl D t:Nat) (v:Value) (bN:Nat) (wc:World) (S':St) (Y:Nat->Prop) (v':Value) (L':List Nat) (vk vv vc:Value) (sz:Nat) (ks vs cs:List Nat):Prop where
 st:Ig wc ps S' Y
 zy:∀k,Z k->Y k
 zl:∀k,Z k->k<w.1.size
 zs:Z bl/\Z bt/\∀b,v.ownBlock=some b->Z b
 A_:Fo (fun k=>Z k/\k≠bl) w wc
 sp:gz wc bt bl D ps t v' L'
 own:v'.ownBlock=v.ownBlock
 box:wc.1[bN]?=some (.cells #[vk,vv,vc,Xu sz] 215 (0,0))
 rows:fN wc (w.1.size+3) vk vv vc ks vs cs
 yb:Y bN/\Y w.1.size/\Y (w.1.size+2)
 yk:∀g,(vk.ownBlock=some g\/vv.ownBlock=some g\/vc.ownBlock=some g)->Y g
 tree:wc.1[w.1.size]?=some (.cells #[PV ps,Xi t] 145 (0,0))
 res:wc.1[w.1.size+2]?=some (.cells #[.bool false,Xu 0,Xu 0,Xu 0] 274 (0,0))
 at3:w.1.size+3<=bN
theorem gz.keeps{w w':World}{bt bl D ps t:Nat}{L:List Nat}(h:gz w bt bl D ps t v L)(e:∀k,iJ bt bl v k->w'.1[k]?=w.1[k]?):gz w' bt bl D ps t v L:=
 ⟨(e bl (ae (ab rfl))).T h.box,(e bt (ab rfl)).T h.tree,h.row.at fun g hg=>e g (ae (ae hg)),h.lo⟩
section
variable {w wc wc':World}{ps:Nat}{Z:Nat->Prop}{bt bl D t:Nat}{v:Value}{bN:Nat}{S' S2:St}{Y Y':Nat->Prop}{v' v2:Value}{L' L2:List Nat}{vk vv vc uk uv uc:Value}{sz sz':Nat}{ks vs cs ks' vs' cs':List Nat}
theorem eH.ne(h:eH w ps Z bt bl D t v bN wc S' Y v' L' vk vv vc sz ks vs cs):vk.ownBlock≠some bN/\vv.ownBlock≠some bN/\vc.ownBlock≠some bN:=by
 have hb:=h.box;refine⟨fun q=>?_,fun q=>?_,fun q=>?_⟩
 ·obtain⟨cs,fr,e⟩:=(h.rows.k.block q).2.2
  grind
 ·obtain⟨cs,fr,e⟩:=(h.rows.v.block q).2.2
  grind
 ·obtain⟨cs,fr,e⟩:=(h.rows.c.block q).2.2
  grind
theorem eH.lt(h:eH w ps Z bt bl D t v bN wc S' Y v' L' vk vv vc sz ks vs cs):bN<wc.1.size:=(gl h.box)
theorem eH.spz(h:eH w ps Z bt bl D t v bN wc S' Y v' L' vk vv vc sz ks vs cs):∀k,iJ bt bl v' k->Z k:=fun k hk=>by
 rcases hk with rfl | rfl | hk
 ·exact h.zs.2.1
 ·exact h.zs.1
 ·exact h.zs.2.2 k (by rw[<-h.own];exact hk)
theorem eH.move(h:eH w ps Z bt bl D t v bN wc S' Y v' L' vk vv vc sz ks vs cs)(st:Ig wc' ps S2 Y')(hy:∀k,Y k->Y' k)(kp:Fo (fun k=>(Z k/\k≠bl)\/k=w.1.size\/k=w.1.size+2) wc wc')(sp:gz wc' bt bl D ps t v2 L2)(own:v2.ownBlock=v.ownBlock)
 (box:wc'.1[bN]?=some (.cells #[uk,uv,uc,Xu sz'] 215 (0,0))) (rows:fN wc' (w.1.size+3) uk uv uc ks' vs' cs') (yk:∀g,(uk.ownBlock=some g\/uv.ownBlock=some g\/uc.ownBlock=some g)->Y' g):eH w ps Z bt bl D t v bN wc' S2 Y' v2 L2 uk uv uc sz' ks' vs' cs':=
 ⟨st,fun k hk=>hy k (h.zy k hk),h.zl,h.zs,h.A_.T (kp.M fun _ hk=>ab hk),sp,own,box,rows,⟨hy _ h.yb.1,hy _ h.yb.2.1,hy _ h.yb.2.2⟩,yk,(kp.block _ (ae (ab rfl))).T h.tree,(kp.block _ (ae (ae rfl))).T h.res,h.at3⟩
theorem eH.a_(h:eH w ps Z bt bl D t v bN wc S' Y v' L' vk vv vc sz ks vs cs)(hb:D_ wc wc'):eH w ps Z bt bl D t v bN wc' S' (fun k=>Y k\/(wc.1.size<=k/\k<wc'.1.size)) v' L' vk vv vc sz ks vs cs:=by
 have ad:=h.st.yl;have ai:=h.A_.size;refine h.move (h.st.wide hb) (fun k hk=>ab hk) (Fo.v_ hb fun k hk=>?_) (h.sp.keeps fun k hk=>hb.block k (ad k (h.zy k (h.spz k hk)))) h.own ((hb.block bN h.lt).T h.box) (h.rows.a_ hb) fun g hg=>ab (h.yk g hg)
 rcases hk with hk | rfl | rfl
 ·exact ad k (h.zy k hk.1)
 ·exact ad _ h.yb.2.1
 ·exact ad _ h.yb.2.2
end
structure gQ (w:World) (ps:Nat) (S:St) (o:Nat->Nat) (Z:Nat->Prop) (bt bl D t:Nat) (v:Value) (L:List Nat) {d:Nat} (x:Bt (d+1)) (e:It) (bN:Nat) (wc:World) (S':St) (Y:Nat->Prop) (v':Value) (L' U:List Nat) (x':Bt (d+1)) (vk vv vc:Value):Prop where
 held:eH w ps Z bt bl D t v bN wc S' Y v' L' vk vv vc (Bt.its x).length (Bt.bn x').j_ (Bt.bn x').E1 (Bt.bn x').B_
 sum:L=L'++U
 mid:Bt.Mid S S' o t x e U x'
 num:U.length+(if(Bn.es x').length=2*t then 1 else 0)=Bt.trail (Bt.F1 t e.k x)
 all:decide ((Bn.es x').length=2*t)=(Bt.F1 t e.k x).all id
theorem fD.drew {w0 w:World}{B ps:Nat}{S:St}{Y:Nat->Prop}{v1 v2 u1 u2:Value}{m1 m2:List Nat}(h:fD w0 w B ps S Y v1 v2 u1 u2 m1 m2):fD w0 w.drew B ps S Y v1 v2 u1 u2 m1 m2:=h.a_ (aa _ w).drew
theorem fD.one {w0 w:World}{B ps:Nat}{S:St}{Y:Nat->Prop}{v1 v2 u1 u2:Value}{m1 m2:List Nat}(h:fD w0 w B ps S Y v1 v2 u1 u2 m1 m2)(x:Nat):fD w0 (w.alloc (Xf x)) B ps S Y v1 v2 u1 u2 m1 m2/\(w.alloc (Xf x)).1[w.1.size]?=some (.cells #[Xu x] 61 (0,0))/\u1.ownBlock≠some w.1.size/\u2.ownBlock≠some w.1.size/\w.1.size<(w.alloc (Xf x)).1.size/\D_ w (w.alloc (Xf x)):=
 ⟨h.a_ ((aa _ w).alloc Ih _),heap_alloc_new w _,fun q=>by have:=(h.own1.block q).2.1;omega,fun q=>by have:=(h.own2.block q).2.1;omega,s_,(aa _ w).alloc Ih _⟩
theorem fD.done {w0 w:World}{B ps:Nat}{S:St}{Y:Nat->Prop}{v1 v2 u1 u2:Value}{m1 m2:List Nat}(T:fD w0 w B ps S Y v1 v2 u1 u2 m1 m2){bN sz:Nat}{vc:Value}(hN:w0.1[bN]?=some (.cells #[v1,v2,vc,Xu sz] 215 (0,0)))(yN:Y bN)(n1:v1.ownBlock≠some bN)(n2:v2.ownBlock≠some bN):
 w.1[bN]?=some (.cells #[v1,v2,vc,Xu sz] 215 (0,0))/\(w.setCell (y_ bN) u1).1[bN]?=some (.cells #[u1,v2,vc,Xu sz] 215 (0,0))/\∀w',w'=(w.setCell (y_ bN) u1).setCell (x_ bN 1) u2->w'.1[bN]?=some (.cells #[u1,u2,vc,Xu sz] 215 (0,0))/\FE w' B u1 m1/\FE w' B u2 m2/\Ig w' ps S (fun k=>Y k\/(w0.1.size<=k/\k<w.1.size))/\Fo (fun k=>k<w0.1.size/\v1.ownBlock≠some k/\v2.ownBlock≠some k/\k≠bN) w0 w'/\w'.1.size=w.1.size:=by
 have hlt:bN<w0.1.size:=(gl hN);have e0:=(T.A_.block bN ⟨hlt,n1,n2⟩).T hN;have e1:(w.setCell (y_ bN) u1).1[bN]?=some (.cells #[u1,v2,vc,Xu sz] 215 (0,0)):=heap_setCell (i:=0) (v:=u1) e0;have e2:((w.setCell (y_ bN) u1).setCell (x_ bN 1) u2).1[bN]?=some (.cells #[u1,u2,vc,Xu sz] 215 (0,0)):=heap_setCell (i:=1) (v:=u2) e1;have ad:∀k,k≠bN->((w.setCell (y_ bN) u1).setCell (x_ bN 1) u2).1[k]?=w.1[k]?:=fun k hk=>(FB hk).T (FB hk);have q1:∀g,u1.ownBlock=some g->g≠bN:=fun g hg q=>by
  rcases T.p1 with e | ⟨g',e,ai⟩
  ·rw[e] at hg;exact n1 (hg.T (q▸rfl))
  grind
 have q2:∀g,u2.ownBlock=some g->g≠bN:=fun g hg q=>by
  rcases T.p2 with e | ⟨g',e,ai⟩
  ·rw[e] at hg;exact n2 (hg.T (q▸rfl))
  grind
 refine⟨e0,e1,?_⟩;rintro w' rfl;refine⟨e2,T.own1.at fun g hg=>ad g (q1 g hg),T.own2.at fun g hg=>ad g (q2 g hg),?_,?_,s_⟩
 ·exact T.st.write (b:=bN) (ab yN) e0 ⟨d_,d_⟩ s_ s_ fun k _ hk=>ad k hk
 ·exact((T.A_.M fun k hk=>⟨hk.1,hk.2.1,hk.2.2.1⟩).T (Fo.mark fun b hb=>hb.2.2.2)).T (Fo.mark fun b hb=>hb.2.2.2)
section
variable {w wc wc':World}{ps:Nat}{Z:Nat->Prop}{bt bl D t:Nat}{v:Value}{bN:Nat}{S' S2:St}{Y Y':Nat->Prop}{v' v2:Value}{L' L2:List Nat}{vk vv vc uk uv uc:Value}{sz sz':Nat}{ks vs cs ks' vs' cs':List Nat}
theorem eH.two(h:eH w ps Z bt bl D t v bN wc S' Y v' L' vk vv vc sz ks vs cs):fD wc wc (w.1.size+3) ps S' Y vk vv vk vv ks vs:=fD.start h.st h.rows.k h.rows.v h.rows.kv (fun g hg=>h.yk g (ab hg)) fun g hg=>h.yk g (ae (ab hg))
theorem qBjab{P:Prop}(h:P:=by
 rcases hk with hk | rfl | rfl
 ·have:=h.zl k hk.1;omega
 ·omega
 omega):P:=h
theorem eH.grow(h:eH w ps Z bt bl D t v bN wc S' Y v' L' vk vv vc sz ks vs cs)(T:fD wc wc' (w.1.size+3) ps S' Y vk vv uk uv ks' vs'):
 wc'.1[bN]?=some (.cells #[vk,vv,vc,Xu sz] 215 (0,0))/\(wc'.setCell (y_ bN) uk).1[bN]?=some (.cells #[uk,vv,vc,Xu sz] 215 (0,0))/\eH w ps Z bt bl D t v bN ((wc'.setCell (y_ bN) uk).setCell (x_ bN 1) uv) S' (fun k=>Y k\/(wc.1.size<=k/\k<wc'.1.size)) v' L' uk uv vc sz ks' vs' cs:=by
 have au:=h.st.yl;have ap:=h.A_.size;have hl:=h.lt;have h3:=h.at3;obtain⟨a0,a1,a2⟩:=T.done h.box h.yb.1 h.ne.1 h.ne.2.1;refine⟨a0,a1,?_⟩;obtain⟨b1,b2,b3,b4,b5,b6⟩:=a2 _ rfl;have an:∀g,(vk.ownBlock=some g\/vv.ownBlock=some g\/vc.ownBlock=some g)->w.1.size+3<=g/\g<wc.1.size:=fun g hg=>by
  rcases hg with hg | hg | hg
  ·exact⟨(h.rows.k.block hg).1,(h.rows.k.block hg).2.1⟩
  ·exact⟨(h.rows.v.block hg).1,(h.rows.v.block hg).2.1⟩
  ·exact⟨(h.rows.c.block hg).1,(h.rows.c.block hg).2.1⟩
 have kz:∀k,k<w.1.size+3->k<wc.1.size/\vk.ownBlock≠some k/\vv.ownBlock≠some k/\k≠bN:=fun k hk=>⟨o_,fun q=>by grind,fun q=>by grind,o_⟩;have ad:∀{u u0:Value},(u.ownBlock=u0.ownBlock\/∃g,u.ownBlock=some g/\wc.1.size<=g)->(∀g,u0.ownBlock=some g->vc.ownBlock≠some g)->∀g,u.ownBlock=some g->vc.ownBlock≠some g:=fun hu ha g hg q=>by
  grind
 refine h.move b4 (fun k hk=>ab hk) (b5.M fun k hk=>kz k ?_) (h.sp.keeps fun k hk=>b5.block k (kz k (by have:=h.zl k (h.spz k hk);omega))) h.own b1 ⟨b2,b3,?_,T.apart,ad T.p1 h.rows.kc,ad T.p2 h.rows.vc⟩ fun g hg=>?_
 ·exact qBjab
 ·refine h.rows.c.at fun g hg=>b5.block g ⟨(an g (ae (ae hg))).2,fun q=>h.rows.kc g q hg,fun q=>h.rows.vc g q hg,fun q=>h.ne.2.2 (q▸hg)⟩
 ·have ar:=b6
  rcases hg with hg | hg | hg
  ·rcases T.p1 with e | ⟨g',e,ai⟩
   ·exact ab (h.yk g (ab (e▸hg)))
   ·exact ae ⟨by grind,(T.own1.block hg).2.1⟩
  ·rcases T.p2 with e | ⟨g',e,ai⟩
   ·exact ab (h.yk g (ae (ab (e▸hg))))
   ·exact ae ⟨by grind,(T.own2.block hg).2.1⟩
  ·exact ab (h.yk g (ae (ae hg)))
theorem eH.grow3(h:eH w ps Z bt bl D t v bN wc S' Y v' L' vk vv vc sz ks vs cs)(I:kG wc wc' (w.1.size+3) ps S' Y vc uc cs'):
 wc'.1[bN]?=some (.cells #[vk,vv,vc,Xu sz] 215 (0,0))/\eH w ps Z bt bl D t v bN (wc'.setCell (x_ bN 2) uc) S' (fun k=>Y k\/(wc.1.size<=k/\k<wc'.1.size)) v' L' vk vv uc sz ks vs cs':=by
 have au:=h.st.yl;have ar:=h.A_.size;have hl:=h.lt;have h3:=h.at3;have e0:=(I.u_ hl h.ne.2.2).T h.box;refine⟨e0,?_⟩;have ap:=fun g (hg:vc.ownBlock=some g)=>h.rows.c.block hg;have an:∀k,k<wc.1.size->k≠bN->vc.ownBlock≠some k->(wc'.setCell (x_ bN 2) uc).1[k]?=wc.1[k]?:=fun k hk h1 h2=>(FB h1).T (I.u_ hk h2);have kz:∀k,k<w.1.size+3->(wc'.setCell (x_ bN 2) uc).1[k]?=wc.1[k]?:=fun k hk=>an k o_ o_ fun q=>by grind
 have ai:∀k,((Z k/\k≠bl)\/k=w.1.size\/k=w.1.size+2)->k<wc.1.size/\vc.ownBlock≠some k/\k≠bN:=fun k hk=>by
  have:k<w.1.size+3:=by
   rcases hk with hk | rfl | rfl
   ·have:=h.zl k hk.1;omega
   ·omega
   ·omega
  grind
 have n3:∀g,uc.ownBlock=some g->g≠bN:=fun g hg q=>by
  rcases I.at' with e | ⟨g',e,ad⟩
  ·rw[e] at hg;exact h.ne.2.2 (hg.T (q▸rfl))
  grind
 refine h.move (I.st.write (b:=bN) (ab h.yb.1) e0 ⟨d_,d_⟩ s_ s_ fun k _ hk=>FB hk) (fun k hk=>ab hk) (Fo.T (b:=wc') ⟨I.grown.os,I.grown.tape,I.grown.output,I.grown.size,fun k hk=>I.u_ (ai k hk).1 (ai k hk).2.1⟩ (Fo.mark fun k hk=>(ai k hk).2.2)) (h.sp.keeps fun k hk=>kz k (by have:=h.zl k (h.spz k hk);omega)) h.own (heap_setCell (i:=2) (v:=uc) e0) ⟨?_,?_,I.own.at fun g hg=>FB (n3 g hg),h.rows.kv,fun g hg q=>?_,fun g hg q=>?_⟩ fun g hg=>?_
 ·exact h.rows.k.at fun g hg=>an g (h.rows.k.block hg).2.1 (fun q=>h.ne.1 (q▸hg)) (h.rows.kc g hg)
 ·exact h.rows.v.at fun g hg=>an g (h.rows.v.block hg).2.1 (fun q=>h.ne.2.1 (q▸hg)) (h.rows.vc g hg)
 ·rcases I.at' with e | ⟨g',e,ad⟩
  ·exact h.rows.kc g hg (e▸q)
  ·rw[e] at q;have q:g'=g:=Option.some.inj q;have:=(h.rows.k.block hg).2.1;omega
 ·rcases I.at' with e | ⟨g',e,ad⟩
  ·exact h.rows.vc g hg (e▸q)
  ·rw[e] at q;have q:g'=g:=Option.some.inj q;have:=(h.rows.v.block hg).2.1;omega
 ·rcases hg with hg | hg | hg
  ·exact ab (h.yk g (ab hg))
  ·exact ab (h.yk g (ae (ab hg)))
  ·rcases I.at' with e | ⟨g',e,ad⟩
   ·exact ab (h.yk g (ae (ae (e▸hg))))
   ·exact ae ⟨by grind,(I.own.block hg).2.1⟩
theorem eH.size(h:eH w ps Z bt bl D t v bN wc S' Y v' L' vk vv vc sz ks vs cs)(n:Nat):eH w ps Z bt bl D t v bN (wc.setCell (x_ bN 3) (Xu n)) S' Y v' L' vk vv vc n ks vs cs:=by
 have hl:=h.lt;have h3:=h.at3;have ad:∀k,k≠bN->(wc.setCell (x_ bN 3) (Xu n)).1[k]?=wc.1[k]?:=fun k h1=>FB h1;refine h.move (h.st.write (b:=bN) h.yb.1 h.box ⟨d_,d_⟩ s_ s_ fun k _ hk=>FB hk) (fun k hk=>hk) (Fo.mark fun k hk=>?_) (h.sp.keeps fun k hk=>ad k (by have:=h.zl k (h.spz k hk);omega)) h.own (heap_setCell (i:=3) (v:=Xu n) h.box) ⟨?_,?_,?_,h.rows.kv,h.rows.kc,h.rows.vc⟩ h.yk
 ·exact qBjab
 ·exact h.rows.k.at fun g hg=>ad g fun q=>h.ne.1 (q▸hg)
 ·exact h.rows.v.at fun g hg=>ad g fun q=>h.ne.2.1 (q▸hg)
 ·exact h.rows.c.at fun g hg=>ad g fun q=>h.ne.2.2 (q▸hg)
theorem eH.kid(h:eH w ps Z bt bl D t v bN wc S' Y v' L' vk vv vc sz ks vs cs)(st:Ig wc' ps S2 Y)(kp:Fo (fun k=>Y k/\k≠bl) wc wc')(sp:gz wc' bt bl D ps t v2 L2)(own:v2.ownBlock=v'.ownBlock):eH w ps Z bt bl D t v bN wc' S2 Y v2 L2 vk vv vc sz ks vs cs:=by
 have ad:=h.zl bl h.zs.1;have h3:=h.at3;have q:=h.yk;have row:∀g,(vk.ownBlock=some g\/vv.ownBlock=some g\/vc.ownBlock=some g)->w.1.size+3<=g->wc'.1[g]?=wc.1[g]?:=fun g hg hg3=>kp.block g ⟨h.yk g hg,o_⟩;refine h.move st (fun k hk=>hk) (kp.M fun k hk=>?_) sp (own.T h.own) ((kp.block bN ⟨h.yb.1,o_⟩).T h.box) ⟨?_,?_,?_,h.rows.kv,h.rows.kc,h.rows.vc⟩ h.yk
 ·rcases hk with hk | rfl | rfl
  ·exact⟨h.zy k hk.1,hk.2⟩
  ·exact⟨h.yb.2.1,o_⟩
  ·exact⟨h.yb.2.2,o_⟩
 ·exact h.rows.k.at fun g hg=>row g (ab hg) (h.rows.k.block hg).1
 ·exact h.rows.v.at fun g hg=>row g (ae (ab hg)) (h.rows.v.block hg).1
 ·exact h.rows.c.at fun g hg=>row g (ae (ae hg)) (h.rows.c.block hg).1
end
namespace Bt
variable{U:List Nat}{d:Nat}{e:It}{k:Nat}
theorem leafPut_bn(x:Bt (d+1))(e:It):(bn (leafPut x e)).j_=(bn x).j_.take (belowB e.k (Bn.es x))++e.kh::(bn x).j_.drop (belowB e.k (Bn.es x))/\(bn (leafPut x e)).E1=(bn x).E1.take (belowB e.k (Bn.es x))++e.vh::(bn x).E1.drop (belowB e.k (Bn.es x))/\(bn (leafPut x e)).B_=(bn x).B_:=by
 refine⟨?_,?_,rfl⟩
 ·show ((Bn.es x).take _++e::(Bn.es x).drop _).map _=((Bn.es x).map _).take _++e.kh::((Bn.es x).map _).drop _
  simp_all
 ·show ((Bn.es x).take _++e::(Bn.es x).drop _).map _=((Bn.es x).map _).take _++e.vh::((Bn.es x).map _).drop _
  simp_all
theorem Ci(x:Bt (d+1))(e:It):(Bn.es (leafPut x e)).length=(Bn.es x).length+1:=lg (kH _) e
theorem BR(x:Bt (d+1))(e:It)(y1:Bt d)(m:It)(y2:Bt d):(Bn.es (ja x (belowB e.k (Bn.es x)) y1 m y2)).length=(Bn.es x).length+1:=lg (kH _) m
theorem kidPut_bn(x:Bt (d+1))(k:Nat)(hk:k<(Bn.ks x).length){y:Bt d}(hy:hd y=hd (Bn.ks x)[k]):(bn (ju x k y)).j_=(bn x).j_/\(bn (ju x k y)).E1=(bn x).E1/\(bn (ju x k y)).B_=(bn x).B_:=by
 refine⟨rfl,rfl,?_⟩
 show ((Bn.ks x).set k y).map hd=(Bn.ks x).map hd
 grind [List.map_set,hd,List.length_map,List.set_getElem_self]
theorem kidSplit_bn(x:Bt (d+1))(k:Nat)(hk:k<(Bn.ks x).length){y1 y2:Bt d}(m:It)(hy:hd y1=hd (Bn.ks x)[k]):(bn (ja x k y1 m y2)).j_=(bn x).j_.take k++m.kh::(bn x).j_.drop k/\(bn (ja x k y1 m y2)).E1=(bn x).E1.take k++m.vh::(bn x).E1.drop k/\(bn (ja x k y1 m y2)).B_=(bn x).B_.take (k+1)++hd y2::(bn x).B_.drop (k+1):=by
 refine⟨?_,?_,?_⟩
 ·show ((Bn.es x).take _++m::(Bn.es x).drop _).map _=((Bn.es x).map _).take _++m.kh::((Bn.es x).map _).drop _
  simp_all
 ·show ((Bn.es x).take _++m::(Bn.es x).drop _).map _=((Bn.es x).map _).take _++m.vh::((Bn.es x).map _).drop _
  simp_all
 ·show ((Bn.ks x).take k++y1::y2::(Bn.ks x).drop (k+1)).map hd=((Bn.ks x).map hd).take (k+1)++hd y2::((Bn.ks x).map hd).drop (k+1)
  rw[aQ,bg,bg,dy,List.map_drop,hy,aw (by grind),bG]
  simp
theorem num_leaf{t:Nat}(t1:1<=t)(x:Bt 1)(e:It):([]:List Nat).length+(if(Bn.es (leafPut x e)).length=2*t then 1 else 0)=trail (F1 t e.k x)/\decide ((Bn.es (leafPut x e)).length=2*t)=(F1 t e.k x).all id:=by
 rw[Ci,qJ]
 by_cases h:(Bn.es x).length=2*t-1
 ·simp[trail,h,show 2*t-1+1=2*t by omega]
 ·have h2:¬(Bn.es x).length+1=2*t:=o_
  simp[trail,h,h2]
theorem num_none{t d:Nat}(t1:1<=t){x:Bt (d+2)}(ok:Ok t x)(hk:belowB e.k (Bn.es x)=k)(h:k<(Bn.ks x).length)(y:Bt (d+1))(h1:U.length=trail (F1 t e.k (Bn.ks x)[k]))(h2:false=(F1 t e.k (Bn.ks x)[k]).all id):
 U.length+(if(Bn.es (ju x k y)).length=2*t then 1 else 0)=trail (F1 t e.k x)/\decide ((Bn.es (ju x k y)).length=2*t)=(F1 t e.k x).all id:=by
 rw[mI t e.k x hk h];have hl:¬(Bn.es (ju x k y)).length=2*t:=by
  have:=ok.1
  show ¬(Bn.es x).length=2*t
  omega
 have h3:¬(F1 t e.k (Bn.ks x)[k]).all id=true:=by rw[<-h2];simp
 unfold trail
 grind
theorem F4{t d:Nat}(t1:1<=t){x:Bt (d+2)}(hk:belowB e.k (Bn.es x)=k)(h:k<(Bn.ks x).length)(y1:Bt (d+1))(m:It)(y2:Bt (d+1))(h1:U.length=trail (F1 t e.k (Bn.ks x)[k]))(h2:true=(F1 t e.k (Bn.ks x)[k]).all id):
 U.length+(if(Bn.es (ja x k y1 m y2)).length=2*t then 1 else 0)=trail (F1 t e.k x)/\decide ((Bn.es (ja x k y1 m y2)).length=2*t)=(F1 t e.k x).all id:=by
 rw[mI t e.k x hk h];have hl:(Bn.es (ja x k y1 m y2)).length=(Bn.es x).length+1:=by rw[<-hk];exact BR x e y1 m y2
 have h3:=trail_all h2.S;unfold trail
 grind
theorem its_len{t d:Nat}{x:Bt (d+1)}(h:gY t x):(its x).length=(Bn.es x).length+((Bn.ks x).map fun k=>(its k).length).sum:=by
 rw[ga,sZ _ _ (by rcases h.rows with h | h;exact ab h.1;omega),cO];rfl
end Bt
section
variable {w wc:World}{ps:Nat}{Z:Nat->Prop}{bt bl D t:Nat}{v:Value}{bN:Nat}{S S':St}{o:Nat->Nat}{Y:Nat->Prop}{v':Value}{L L' U:List Nat}{vk vv vc:Value}{sz k:Nat}{e:It}
theorem rJ {x:Bt 1}(hx:Bt.Walk S o t x)(hnd:(Bt.h_ x).Nodup)(hit:Bt.ItLt (Bt.its x))(hkh:e.kh<2^64)(hvh:e.vh<2^64)(hk:belowB e.k (Bn.es x)=k)(hsz:sz=(Bt.its x).length)
 (h:eH w ps Z bt bl D t v bN wc S Y v L vk vv vc sz ((Bt.bn x).j_.take k++e.kh::(Bt.bn x).j_.drop k) ((Bt.bn x).E1.take k++e.vh::(Bt.bn x).E1.drop k) (Bt.bn x).B_):gQ w ps S o Z bt bl D t v L x e bN wc S Y v L [] (Bt.leafPut x e) vk vv vc:=by
 have t1:1<=t:=by have:=hx.t1;omega
 obtain⟨n1,n2⟩:=Bt.num_leaf t1 x e;obtain⟨p1,p2,p3⟩:=Bt.leafPut_bn x e;subst hk hsz;rw[<-p1,<-p2,<-p3] at h;exact⟨h,s_,Bt.mid_leaf hx.fit t1 hx.at' hx.ok hnd hit ⟨hkh,hvh⟩ hx.few,n1,n2⟩
theorem Db {d:Nat}{x:Bt (d+2)}(hx:Bt.Walk S o t x)(hnd:(Bt.h_ x).Nodup)(hit:Bt.ItLt (Bt.its x))(hkh:e.kh<2^64)(hvh:e.vh<2^64)(hLx:∀h∈L,h∉Bt.h_ x)(hk:belowB e.k (Bn.es x)=k)(hkl:k<(Bn.ks x).length)(hsz:sz=(Bt.its x).length)
 (hL:L=L'++U) (hp:Bt.Put S S' o t (Bn.ks x)[k] e U none) (n1:U.length=Bt.trail (Bt.F1 t e.k (Bn.ks x)[k])) (n2:false=(Bt.F1 t e.k (Bn.ks x)[k]).all id)
 (h:eH w ps Z bt bl D t v bN wc S' Y v' L' vk vv vc sz (Bt.bn x).j_ (Bt.bn x).E1 (Bt.bn x).B_):∃x',gQ w ps S o Z bt bl D t v L x e bN wc S' Y v' L' U x' vk vv vc:=by
 have t1:1<=t:=by have:=hx.t1;omega
 subst hk hsz;obtain⟨y,hy,M⟩:=Bt.mid_kid t1 hx.at' hx.ok hnd hx.F3 hit (fun a ha=>by grind) hx.few (fun a ha=>hLx a (hL▸aA _ ha)) hkl hp;obtain⟨p1,p2,p3⟩:=Bt.kidPut_bn x _ hkl (y:=y) hy;obtain⟨m1,m2⟩:=Bt.num_none t1 hx.ok rfl hkl y n1 n2;rw[<-p1,<-p2,<-p3] at h;exact⟨_,h,hL,M,m1,m2⟩
theorem Dc {d:Nat}{x:Bt (d+2)}(hx:Bt.Walk S o t x)(hnd:(Bt.h_ x).Nodup)(hit:Bt.ItLt (Bt.its x))(hkh:e.kh<2^64)(hvh:e.vh<2^64)(hLx:∀h∈L,h∉Bt.h_ x)(hk:belowB e.k (Bn.es x)=k)(hkl:k<(Bn.ks x).length)(hsz:sz=(Bt.its x).length){m:It}{g:Nat}
 (hL:L=L'++U) (hp:Bt.Put S S' o t (Bn.ks x)[k] e U (some (m,g))) (n1:U.length=Bt.trail (Bt.F1 t e.k (Bn.ks x)[k])) (n2:true=(Bt.F1 t e.k (Bn.ks x)[k]).all id)
 (h:eH w ps Z bt bl D t v bN wc S' Y v' L' vk vv vc sz ((Bt.bn x).j_.take k++m.kh::(Bt.bn x).j_.drop k) ((Bt.bn x).E1.take k++m.vh::(Bt.bn x).E1.drop k) ((Bt.bn x).B_.take (k+1)++g::(Bt.bn x).B_.drop (k+1))):∃x',gQ w ps S o Z bt bl D t v L x e bN wc S' Y v' L' U x' vk vv vc:=by
 have t1:1<=t:=by have:=hx.t1;omega
 subst hk hsz;obtain⟨y1,y2,h1,h2,M⟩:=Bt.mid_split t1 hx.at' hx.ok hnd hx.F3 hit (fun a ha=>by grind) hx.few (fun a ha=>hLx a (hL▸aA _ ha)) hkl hp;obtain⟨p1,p2,p3⟩:=Bt.kidSplit_bn x _ hkl (y1:=y1) (y2:=y2) m h1;obtain⟨m1,m2⟩:=Bt.F4 t1 rfl hkl y1 m y2 n1 n2;have h2:Bt.hd (d:=d+1) y2=g:=h2;rw[h2] at p3;rw[<-p1,<-p2,<-p3] at h;exact⟨_,h,hL,M,m1,m2⟩
end
structure jp (w:World) (ps:Nat) (S:St) (o:Nat->Nat) (Z:Nat->Prop) (bt bl D t:Nat) (v:Value) (L:List Nat) {d:Nat} (y:Bt (d+1)) (e:It) (bN:Nat) (vk vv vc:Value) (sz:Nat) (ks vs cs:List Nat) (b:Nat) (wc:World) (r:Option (It×Nat)) (S4:St) (Y4:Nat->Prop) (v4:Value) (L4 U:List Nat):Prop where
 held:eH w ps Z bt bl D t v bN wc S4 Y4 v4 L4 vk vv vc sz ks vs cs
 sum:L=L4++U
 put:Bt.Put S S4 o t y e U r
 num:U.length=Bt.trail (Bt.F1 t e.k y)
 all:r.isSome=(Bt.F1 t e.k y).all id
 up:wc.1[b]?=some (.cells (iQ r) 274 (0,0))
theorem Bt.trail_cons(b:Bool)(r:List Bool):Bt.trail r<=Bt.trail (b::r):=by
 conv=>rhs;unfold Bt.trail
 by_cases h:r.all id=true
 ·rw[if_pos h,Bt.trail_all h]
  split<;>omega
 grind
section
variable {w wc wc':World}{ps:Nat}{Z:Nat->Prop}{bt bl D t:Nat}{v:Value}{bN:Nat}{S S' S2:St}{o:Nat->Nat}{Y Y':Nat->Prop}{v' v2:Value}{L L' L2:List Nat}{vk vv vc uk uv uc:Value}{sz sz' k:Nat}{ks vs cs ks' vs' cs':List Nat}{e:It}
theorem eH.u_(h:eH w ps Z bt bl D t v bN wc S' Y v' L' vk vv vc sz ks vs cs){b:Nat}{cs0:Array Value}{fr:Nat×Nat}(hb:Y b)(h3:w.1.size+3<=b)(hx:wc.1[b]?=some (.cells cs0 274 fr))(hz:cs0.size<64)(kp:Fo (fun k=>k≠b) wc wc'):eH w ps Z bt bl D t v bN wc' S' Y v' L' vk vv vc sz ks vs cs:=by
 have n3:∀{u:Value} {l:List Nat},FE wc (w.1.size+3) u l->∀g,u.ownBlock=some g->g≠b:=fun hu g hg q=>by
  obtain⟨ad,ai,e1⟩:=(hu.block hg).2.2
  grind
 have nb:bN≠b:=fun q=>by
  have e1:=h.box
  grind
 refine h.move (h.st.write (b:=b) hb hx ⟨d_,d_⟩ hz kp.size fun k _ hk=>kp.block k hk) (fun k hk=>hk) (kp.M fun k hk=>?_) (h.sp.keeps fun k hk=>kp.block k (by have:=h.zl k (h.spz k hk);omega)) h.own ((kp.block bN nb).T h.box) ⟨?_,?_,?_,h.rows.kv,h.rows.kc,h.rows.vc⟩ h.yk
 ·exact qBjab
 ·exact h.rows.k.at fun g hg=>kp.block g (n3 h.rows.k g hg)
 ·exact h.rows.v.at fun g hg=>kp.block g (n3 h.rows.v g hg)
 ·exact h.rows.c.at fun g hg=>kp.block g (n3 h.rows.c g hg)
theorem Bt.Walk.kid_lt {d:Nat}{x:Bt (d+2)}(hx:Bt.Walk S o t x)(hk:belowB e.k (Bn.es x)=k):k<(Bn.ks x).length:=hk▸hx.klen e.k
theorem BG {d:Nat}(hrec:j4 d){x:Bt (d+2)}(hx:Bt.Walk S o t x)(hnd:(Bt.h_ x).Nodup){i:Nat}(hid:i+(d+1)<40)(spare:lG S t L)(hLx:∀h∈L,h∉Bt.h_ x)(hL:L.length<=1000)(hnew:∀a∈Bt.its x,a.k≠e.k)(hit:Bt.ItLt (Bt.its x))(hkh:e.kh<2^64)(hvh:e.vh<2^64)(htr:Bt.trail (Bt.F1 t e.k x)<=L.length)(hk:belowB e.k (Bn.es x)=k)(hkl:k<(Bn.ks x).length)
 {Y1:Nat->Prop} (Hd:eH w ps Z bt bl D t v bN wc S Y1 v L vk vv vc sz ks vs cs):
 Ct 182 #[FH ps t,Xu (Bt.hd (Bn.ks x)[k]:Nat),SV e.k,Id e.kh e.vh,JB bt bl,Xi ((i:Int)+1)] wc fun en w'=>∃(r:Option (It×Nat)) (S4:St) (v4:Value) (L4 U:List Nat),en=.returned (ky r)/\(L=L4++U/\Bt.Put S S4 o t (Bn.ks x)[k] e U r/\U.length=Bt.trail (Bt.F1 t e.k (Bn.ks x)[k])/\r.isSome=(Bt.F1 t e.k (Bn.ks x)[k]).all id/\eH w ps Z bt bl D t v bN w' S4 Y1 v4 L4 vk vv vc sz ks vs cs/\Fo (fun k=>Y1 k/\k≠bl) wc w'):=by
 have hm:=aq hkl;have ad:∀a∈Bt.its (Bn.ks x)[k],a∈Bt.its x:=fun a ha=>Bt.kid_its hx.ok.okN hm ha;have ai:(Bt.h_ (Bn.ks x)[k]).Nodup:=by
  rw[Bt.nodes_parts hkl] at hnd;grind
 have an:Bt.trail (Bt.F1 t e.k (Bn.ks x)[k])<=L.length:=by
  grind [mI,Nat.le_trans,Bt.trail_cons]
 have hc:=hrec (i+1) Hd.st (hx.kid hm) ai o_ Hd.sp spare (fun h hh q=>hLx h hh (Bt.mem_nodes_kid hm q)) (Hd.zy _ Hd.zs.1) (Hd.zy _ Hd.zs.2.1) (fun b hb=>Hd.zy _ (Hd.zs.2.2 b hb)) hL (fun a ha=>hnew a (ad a ha)) (fun a ha=>hit a (ad a ha)) hkh hvh an;have e1:((i+1:Nat):Int)=(i:Int)+1:=o_
 refine hc.M ?_;rintro en w' ⟨r,S4,v4,L4,U,rfl,h1,h2,h3,h4,h5,h6,h7,h8⟩;exact⟨r,S4,v4,L4,U,rfl,h1,h2,h7,h8,Hd.kid h3 h4 h5 h6,h4⟩
end
section
variable {w wc wc':World}{ps:Nat}{Z:Nat->Prop}{bt bl D t:Nat}{v:Value}{bN:Nat}{S S4:St}{o:Nat->Nat}{Y:Nat->Prop}{v4:Value}{L L4 U:List Nat}{vk vv vc:Value}{sz:Nat}{ks vs cs:List Nat}{e:It}{d:Nat}{y:Bt (d+1)}{r:Option (It×Nat)}{Y1:Nat->Prop}{w0:World}
theorem jp.new(h:L=L4++U/\Bt.Put S S4 o t y e U r/\U.length=Bt.trail (Bt.F1 t e.k y)/\r.isSome=(Bt.F1 t e.k y).all id/\eH w ps Z bt bl D t v bN wc S4 Y v4 L4 vk vv vc sz ks vs cs/\Fo (fun k=>Y1 k/\k≠bl) w0 wc):
 jp w ps S o Z bt bl D t v L y e bN vk vv vc sz ks vs cs wc.1.size (wc.alloc (.cells (iQ r) 274)) r S4 (fun k=>Y k\/(wc.1.size<=k/\k<(wc.alloc (.cells (iQ r) 274)).1.size)) v4 L4 U:=
 ⟨h.2.2.2.2.1.a_ ((aa _ wc).alloc Ih _),h.1,h.2.1,h.2.2.1,h.2.2.2.1,heap_alloc_new wc _⟩
theorem jp.set(h:L=L4++U/\Bt.Put S S4 o t y e U r/\U.length=Bt.trail (Bt.F1 t e.k y)/\r.isSome=(Bt.F1 t e.k y).all id/\eH w ps Z bt bl D t v bN wc S4 Y v4 L4 vk vv vc sz ks vs cs/\Fo (fun k=>Y1 k/\k≠bl) w0 wc){b:Nat}(hb:Y b)(h3:w.1.size+3<=b){z0 z1 z2 z3 c0 c1 c2 c3:Value}(hx:wc.1[b]?=some (.cells #[z0,z1,z2,z3] 274 (0,0)))(hr:iQ r=#[c0,c1,c2,c3]):
 jp w ps S o Z bt bl D t v L y e bN vk vv vc sz ks vs cs b ((((wc.setCell (y_ b) (c0)).setCell (x_ b 1) (c1)).setCell (x_ b 2) (c2)).setCell (x_ b 3) (c3)) r S4 Y v4 L4 U:=
 ⟨h.2.2.2.2.1.u_ hb h3 hx s_ ((((Fo.mark fun _ h=>h).T (Fo.mark fun _ h=>h)).T (Fo.mark fun _ h=>h)).T (Fo.mark fun _ h=>h)),h.1,h.2.1,h.2.2.1,h.2.2.2.1,by
  rw[hr];exact heap_setCell (i:=3) (v:=c3) (heap_setCell (i:=2) (v:=c2) (heap_setCell (i:=1) (v:=c1) (heap_setCell (i:=0) (v:=c0) hx)))⟩
theorem jp.ne {b:Nat}(h:jp w ps S o Z bt bl D t v L y e bN vk vv vc sz ks vs cs b wc r S4 Y v4 L4 U):b<wc.1.size/\vk.ownBlock≠some b/\vv.ownBlock≠some b/\vc.ownBlock≠some b/\b≠bN:=by
 have hb:=h.up;refine⟨(gl hb),fun q=>?_,fun q=>?_,fun q=>?_,fun q=>?_⟩
 ·obtain⟨cs,fr,e⟩:=(h.held.rows.k.block q).2.2
  grind
 ·obtain⟨cs,fr,e⟩:=(h.held.rows.v.block q).2.2
  grind
 ·obtain⟨cs,fr,e⟩:=(h.held.rows.c.block q).2.2
  grind
 ·have e:=h.held.box
  grind
end
theorem Bt.bnok_of {S:St}{o:Nat->Nat}(hf:Fw S o){t:Nat}(t1:2<=t)(t2:t<=16){d:Nat}{x:Bt (d+1)}(hk:∀k∈Bn.ks x,Bt.At S t k)(ok:Bt.Ok t x):iU t (Bt.bn x):=by
 refine⟨t1,t2,by unfold Bt.bn;rw[am];exact ok.1,by unfold Bt.bn;grind,?_⟩;have hq:=ok.2.1;unfold Bt.bn;simp only[am]
 by_cases hd0:d=0
 ·grind
 ·rw[if_neg hd0] at hq;refine ae ⟨hq,?_⟩
  grind [List.contains_iff_mem,Bt.At.hd_ok]
section
variable {w wc wc':World}{ps:Nat}{Z:Nat->Prop}{bt bl D t:Nat}{v:Value}{bN:Nat}{S S4 S2:St}{o:Nat->Nat}{Y:Nat->Prop}{v4 v2:Value}{L L4 L2 U:List Nat}{vk vv vc:Value}{sz:Nat}{ks vs cs:List Nat}{e:It}{d:Nat}
theorem eH.fin(h:eH w ps Z bt bl D t v bN wc S2 Y v2 L2 vk vv vc sz ks vs cs){z0 z1 z2 z3:Value}(hx:wc.1[w.1.size+2]?=some (.cells #[z0,z1,z2,z3] 274 (0,0)))(c0 c1 c2 c3:Value)(wd:World)(hwd:wd=((((wc.setCell (y_ (w.1.size+2)) (c0)).setCell (x_ (w.1.size+2) 1) (c1)).setCell (x_ (w.1.size+2) 2) (c2)).setCell (x_ (w.1.size+2) 3) (c3))):
 Ig wd ps S2 Z/\Fo (fun k=>Z k/\k≠bl) w wd/\gz wd bt bl D ps t v2 L2/\wd.1[w.1.size+2]?=some (.cells #[c0,c1,c2,c3] 274 (0,0)):=by
 subst hwd;have kp:Fo (fun k=>k≠w.1.size+2) wc ((((wc.setCell (y_ (w.1.size+2)) (c0)).setCell (x_ (w.1.size+2) 1) (c1)).setCell (x_ (w.1.size+2) 2) (c2)).setCell (x_ (w.1.size+2) 3) (c3)):=(((Fo.mark fun _ h=>h).T (Fo.mark fun _ h=>h)).T (Fo.mark fun _ h=>h)).T (Fo.mark fun _ h=>h);refine⟨(h.st.write (b:=w.1.size+2) h.yb.2.2 hx ⟨d_,d_⟩ s_ kp.size fun k _ hk=>kp.block k hk).M fun k hk=>h.zy k hk,h.A_.T (kp.M fun k hk=>by have:=h.zl k hk.1;omega),h.sp.keeps fun k hk=>kp.block k (by have:=h.zl k (h.spz k hk);omega),?_⟩;exact heap_setCell (i:=3) (v:=c3) (heap_setCell (i:=2) (v:=c2) (heap_setCell (i:=1) (v:=c1) (heap_setCell (i:=0) (v:=c0) hx)))
theorem gQ.putting {x:Bt (d+1)}{U:List Nat}{x':Bt (d+1)}{L':List Nat}{v':Value}{S':St}(M:gQ w ps S o Z bt bl D t v L x e bN wc S' Y v' L' U x' vk vv vc):Fv S'/\S'.len (Bn.h x)=(6*t,0)/\Bn.h x<2^64/\(Bt.its x').length=(Bt.its x).length+1/\(Bt.bn x').j_.length=(Bn.es x').length/\(Bt.bn x').E1.length=(Bn.es x').length/\(Bt.bn x').B_.length=(Bn.ks x').length:=by
 obtain⟨ws,hr,hw⟩:=M.mid.own;refine⟨M.mid.fit.inv,by rw[jw M.mid.fit.tab hr,hw],(fL M.mid.fit hr).2.1,by rw[M.mid.its,Bt.insB_length],?_,?_,?_⟩
 ·unfold Bt.bn
  grind
 ·unfold Bt.bn
  grind
 ·unfold Bt.bn
  grind
end
theorem FE.some {w:World}{D:Nat}{v:Value}{l:List Nat}(h:FE w D v l)(hl:0<l.length):∃b c,v=.slice (some (y_ b)) l.length c/\l.length<=c:=by
 rcases h.2 with⟨e,e2⟩ | ⟨b,c,ad,e,hb,ai,ar,an,ap,ht⟩
 ·exact absurd e2 (by intro q;simp[q] at hl)
 grind
theorem FD.take {w:World}{b n c c' j:Nat}{l:List Nat}(h:FD w (.slice (some (y_ b)) n c) l)(hj:j<=l.length):FD w (.slice (some (y_ b)) j c') (l.take j):=by
 obtain⟨A,c1,e,hc⟩:=h
 injection e with e1 e2 e3
 subst e1;refine⟨_,c',by rw[aM,Nat.min_eq_left hj],fun k hk=>?_⟩;have ad:k<l.length:=by rw[aM] at hk;omega
 grind
theorem FD.drop {w:World}{b n c c' j:Nat}{l:List Nat}(h:FD w (.slice (some (y_ b)) n c) l)(hj:j<=l.length):FD w (.slice (some (x_ b j)) (n-j) c') (l.drop j):=by
 obtain⟨A,c1,e,hc⟩:=h
 injection e with e1 e2 e3
 subst e1;refine⟨_,c',by rw[bQ,e2],fun k hk=>?_⟩;have ad:j+k<l.length:=by rw[bQ] at hk;omega
 grind
structure eV (wc wd:World) (ps:Nat) (S':St) (Y:Nat->Prop) (bL bR:Nat) (l r:Array Value):Prop where
 st:Ig wd ps S' (fun k=>Y k\/k=bL\/k=bR)
 yl:∀k,Y k->k<wc.1.size
 kp:Fo Y wc wd
 bl:wd.1[bL]?=some (.cells l 215 (0,0))
 br:wd.1[bR]?=some (.cells r 215 (0,0))
 ge:wc.1.size<=bL/\wc.1.size<=bR/\bL≠bR
section
variable {wc wd wd':World}{ps:Nat}{S' S2:St}{Y:Nat->Prop}{bL bR:Nat}{l r:Array Value}
theorem eV.start(st:Ig wc ps S' Y)(l r:Array Value):eV wc ((wc.alloc (.cells l 215)).alloc (.cells r 215)).drew ps S' Y wc.1.size (wc.1.size+1) l r:=by
 have z1:(wc.alloc (.cells l 215)).1.size=wc.1.size+1:=s_
 have c1:=(aa (wc.alloc (.cells l 215)).1.size (wc.alloc (.cells l 215))).alloc Ih (.cells r 215);have b2:=(c_ wc (.cells l 215)).T (c1.M (by rw[z1];omega));have q2:=heap_alloc_new (wc.alloc (.cells l 215)) (.cells r 215);rw[z1] at q2;have hs:((wc.alloc (.cells l 215)).alloc (.cells r 215)).drew.1.size=wc.1.size+2:=s_
 refine⟨(st.wide b2.drew).M fun k hk=>?_,st.yl,st.A_ b2.drew,((c1.block wc.1.size (by rw[z1];omega)).T (heap_alloc_new wc (.cells l 215))),q2,Nat.le_refl _,o_,o_⟩
 grind
theorem eV.turn(h:eV wc wd ps S' Y bL bR l r):eV wc wd ps S' Y bR bL r l:=
 ⟨h.st.M fun k hk=>by rcases hk with hk | hk | hk;exact ab hk;exact ae (ae hk);exact ae (ab hk),h.yl,h.kp,h.br,h.bl,h.ge.2.1,h.ge.1,h.ge.2.2.S⟩
theorem eV.lt(h:eV wc wd ps S' Y bL bR l r):bL<wd.1.size/\bR<wd.1.size:=⟨(gl h.bl),(gl h.br)⟩
theorem eV.a_(h:eV wc wd ps S' Y bL bR l r)(hb:D_ wd wd'):eV wc wd' ps S' Y bL bR l r:=
 ⟨h.st.a_ hb,h.yl,h.kp.T (Fo.v_ hb fun k hk=>by have:=h.yl k hk;have:=h.kp.size;omega),(hb.block _ h.lt.1).T h.bl,(hb.block _ h.lt.2).T h.br,h.ge⟩
theorem eV.put(h:eV wc wd ps S' Y bL bR l r)(st:Ig wd' ps S2 (fun k=>Y k\/k=bL\/k=bR))(kp:Fo (fun k=>Y k\/k=bL\/k=bR) wd wd'):eV wc wd' ps S2 Y bL bR l r:=
 ⟨st,h.yl,h.kp.T (kp.M fun _ hk=>ab hk),(kp.block _ (ae (ab rfl))).T h.bl,(kp.block _ (ae (ae rfl))).T h.br,h.ge⟩
theorem eV.setL(h:eV wc wd ps S' Y bL bR l r)(hl:l.size<64)(i:Nat)(v:Value)(l':Array Value)(e:(wd.setCell (x_ bL i) v).1[bL]?=some (.cells l' 215 (0,0))):eV wc (wd.setCell (x_ bL i) v) ps S' Y bL bR l' r:=
 ⟨h.st.write (b:=bL) (ae (ab rfl)) h.bl ⟨d_,d_⟩ hl s_ fun k _ hk=>FB hk,h.yl,h.kp.T (Fo.mark fun k hk=>by have:=h.yl k hk;have:=h.ge.1;omega),e,(FB (Ne.S h.ge.2.2)).T h.br,h.ge⟩
theorem eV.row(h:eV wc wd ps S' Y bL bR l r){v:Value}{u:List Nat}(hu:FD wc v u)(hy:∀g,v.ownBlock=some g->Y g):FD wd v u:=hu.keeps fun g hg _=>h.kp.block g (hy g hg)
end
section
variable {wc wd:World}{ps:Nat}{S':St}{Y:Nat->Prop}{bL bR:Nat}{a b c z a' b' c' z':Value}
theorem eV.setL2(h:eV wc wd ps S' Y bL bR #[a,b,c,z] #[a',b',c',z'])(v:Value):eV wc (wd.setCell (x_ bL 2) v) ps S' Y bL bR #[a,b,v,z] #[a',b',c',z']:=h.setL s_ 2 v _ (heap_setCell (i:=2) (v:=v) h.bl)
theorem eV.setL3(h:eV wc wd ps S' Y bL bR #[a,b,c,z] #[a',b',c',z'])(v:Value):eV wc (wd.setCell (x_ bL 3) v) ps S' Y bL bR #[a,b,c,v] #[a',b',c',z']:=h.setL s_ 3 v _ (heap_setCell (i:=3) (v:=v) h.bl)
theorem eV.setR2(h:eV wc wd ps S' Y bL bR #[a,b,c,z] #[a',b',c',z'])(v:Value):eV wc (wd.setCell (x_ bR 2) v) ps S' Y bL bR #[a,b,c,z] #[a',b',v,z']:=(h.turn.setL2 v).turn
theorem eV.setR3(h:eV wc wd ps S' Y bL bR #[a,b,c,z] #[a',b',c',z'])(v:Value):eV wc (wd.setCell (x_ bR 3) v) ps S' Y bL bR #[a,b,c,z] #[a',b',c',v]:=(h.turn.setL3 v).turn
end
theorem EC {α:Type}(f:α->Nat)(l:List α)(a j:Nat):(((l.drop a).take j).map f).sum<=(l.map f).sum:=by
 have h1:(l.map f).sum=((l.take a).map f).sum+((l.drop a).map f).sum:=by rw[<-dJ,<-aQ,aS]
 grind [List.take_append_drop]
theorem ED {α:Type}(f:α->Nat)(l:List α){j:Nat}(h:j<l.length):((l.take (j+1)).map f).sum=((l.take j).map f).sum+f l[j]:=by
 grind [List.take_succ_eq_append_getElem]
namespace Bt
theorem Put.same {S S':St}{o:Nat->Nat}{t d:Nat}{x:Bt (d+1)}{e:It}{U V:List Nat}{r:Option (It×Nat)}(h:Put S S' o t x e U r)(hv:∀y,y∈U↔y∈V):Put S S' o t x e V r:=by
 refine⟨h.fit,h.grew,fun y h1 h2=>h.fr y h1 fun q=>h2 ((hv y).1 q),?_⟩;have:=h.res
 cases r with
 | none=>
  obtain⟨y,a,b,c,d,e,f,g⟩:=this;exact⟨y,a,b,c,d,e,f,fun z=>(g z).trans (or_congr Iff.rfl (hv z))⟩
 | some q=>
  obtain⟨m,g⟩:=q;obtain⟨y1,y2,a1,a2,a3,a4,a5,a6,a7,a8,a9,ad,ai⟩:=this;exact⟨y1,y2,a1,a2,a3,a4,a5,a6,a7,a8,a9,ad,fun z=>(ai z).trans (or_congr Iff.rfl (hv z))⟩
end Bt
namespace Bt
theorem leftOf_bn(t:Nat){d:Nat}(x:Bt (d+1)):(bn (G_ t x)).j_=(bn x).j_.take t/\(bn (G_ t x)).E1=(bn x).E1.take t/\(bn (G_ t x)).B_=(bn x).B_.take (t+1):=by
 refine⟨?_,?_,?_⟩
 ·show ((Bn.es x).take t).map _=((Bn.es x).map _).take t
  simp_all
 ·show ((Bn.es x).take t).map _=((Bn.es x).map _).take t
  simp_all
 ·show ((Bn.ks x).take (t+1)).map _=((Bn.ks x).map _).take (t+1)
  simp_all
theorem rightOf_bn(t:Nat){d:Nat}(x:Bt (d+1))(g:Nat):(bn (G5 t x g)).j_=(bn x).j_.drop (t+1)/\(bn (G5 t x g)).E1=(bn x).E1.drop (t+1)/\(bn (G5 t x g)).B_=(bn x).B_.drop (t+1)/\(bn (G5 t x g)).B_=((Bn.ks x).drop (t+1)).map hd:=by
 refine⟨?_,?_,?_,rfl⟩
 ·show ((Bn.es x).drop (t+1)).map _=((Bn.es x).map _).drop (t+1)
  simp_all
 ·show ((Bn.es x).drop (t+1)).map _=((Bn.es x).map _).drop (t+1)
  simp_all
 ·show ((Bn.ks x).drop (t+1)).map _=((Bn.ks x).map _).drop (t+1)
  simp_all
end Bt
section
variable {w wc:World}{ps:Nat}{Z:Nat->Prop}{bt bl D t:Nat}{v:Value}{bN:Nat}{S S':St}{o:Nat->Nat}{Y:Nat->Prop}{v':Value}{L L' U:List Nat}{vk vv vc:Value}{e:It}{d:Nat}{x x':Bt (d+1)}
theorem gQ.spare(M:gQ w ps S o Z bt bl D t v L x e bN wc S' Y v' L' U x' vk vv vc)(htr:Bt.trail (Bt.F1 t e.k x)<=L.length)(spare:lG S t L)(hLx:∀h∈L,h∉Bt.h_ x)(hn:(Bn.es x').length=2*t):∃L2 g,L'=L2++[g]/\g∉U/\g∉Bt.h_ x/\g≠Bn.h x/\∃wg,i_ S g=some wg/\i_ S' g=some wg/\wg.length=6*t:=by
 have ap:=M.num;have an:L.length=L'.length+U.length:=by rw[M.sum,ag]
 have ai:L'≠[]:=fun q=>by grind
 obtain⟨L2,g,hg⟩:∃L2 g,L'=L2++[g]:=⟨L'.dropLast,L'.getLast ai,(List.dropLast_concat_getLast ai).S⟩;have hm:g∈L:=by rw[M.sum,hg];simp
 have ad:=spare.nd;rw[M.sum,hg] at ad;have hU:g∉U:=fun q=>(aD.1 ad).2.2 g s_ g q rfl;obtain⟨wg,h1,h2⟩:=spare.recs g hm;exact⟨L2,g,hg,hU,hLx g hm,fun q=>hLx g hm (q▸Bt.hd_mem x),wg,h1,(M.mid.fr g (hLx g hm) hU).T h1,h2⟩
theorem gQ.halves(M:gQ w ps S o Z bt bl D t v L x e bN wc S' Y v' L' U x' vk vv vc)(t1:2<=t)(hn:(Bn.es x').length=2*t)(g:Nat):Bt.Ok t (Bt.G_ t x')/\Bt.Ok t (Bt.G5 t x' g)/\(Bt.its x').length=(Bt.its (Bt.G_ t x')).length+1+(Bt.its (Bt.G5 t x' g)).length/\(∀k∈Bn.ks (Bt.G_ t x'),Bt.At S' t k)/\(∀k∈Bn.ks (Bt.G5 t x' g),Bt.At S' t k)/\(Bt.its (Bt.G5 t x' g)).length=(Bn.es x').length-(t+1)+(((Bn.ks x').drop (t+1)).map fun k=>(Bt.its k).length).sum:=by
 obtain⟨c1,c2,c3,c4,c5⟩:=M.mid.okN.split o_ hn g;refine⟨c2,c3,?_,fun k hk=>M.mid.B_ k (bD hk),fun k hk=>M.mid.B_ k (bA hk),?_⟩
 ·grind
 ·rw[Bt.its_len c3.okN]
  show ((Bn.es x').drop (t+1)).length+_=_
  rw[bQ]
  rfl
theorem gQ.lts(M:gQ w ps S o Z bt bl D t v L x e bN wc S' Y v' L' U x' vk vv vc)(t1:2<=t)(hn:(Bn.es x').length=2*t)(g:Nat):iT (Bt.bn (Bt.G_ t x'))/\iT (Bt.bn (Bt.G5 t x' g)):=by
 have hs:=(M.halves t1 hn g).2.2.1;have hz:(Bt.its x').length<2^64:=M.mid.lt.size;have ad:∀q∈Bn.es x',q.kh<2^64/\q.vh<2^64:=fun q hq=>⟨M.mid.lt.j_ _ (az.2 ⟨q,hq,rfl⟩),M.mid.lt.E1 _ (az.2 ⟨q,hq,rfl⟩)⟩;exact⟨Bt.bnLt_of M.mid.fit (fun q hq=>ad q (bD hq)) (fun k hk=>M.mid.B_ k (bD hk)) o_,Bt.bnLt_of M.mid.fit (fun q hq=>ad q (bA hq)) (fun k hk=>M.mid.B_ k (bA hk)) o_⟩
end
theorem ri {S':St}{o:Nat->Nat}{t ps:Nat}:∀{d:Nat} {k:Bt d},Fw S' o->2<=t->t<=16->Bt.At S' t k->Bt.Ok t k->(Bt.its k).length<2^62->∀(W:World) (Yx:Nat->Prop),Ig W ps S' Yx->Cb 175 #[FH ps t,Xu (Bt.hd k:Nat)] W (Xi (Bt.its k).length)
 | 0,k,_,_,_,_,_,_=>nomatch k
 | _+1,_,hf,t1,t2,ha,ok,hz=>fun _ _ hst=>nS hst hf.inv (Bt.At.read hf t1 t2 ha ok) hz
section
variable {w wc:World}{ps:Nat}{Z:Nat->Prop}{bt bl D t:Nat}{v:Value}{bN:Nat}{S S':St}{o:Nat->Nat}{Y:Nat->Prop}{v':Value}{L L' U:List Nat}{vk vv vc:Value}{e:It}{d:Nat}{x x':Bt (d+1)}
theorem gQ.left_put(M:gQ w ps S o Z bt bl D t v L x e bN wc S' Y v' L' U x' vk vv vc)(t1:2<=t)(t2:t<=16)(hn:(Bn.es x').length=2*t){g:Nat}(hgx:g≠Bn.h x){wg:List Nat}(hg:i_ S' g=some wg):Fw (FC S' (Bn.h x) 0 (w_ t (Bt.bn (Bt.G_ t x')))) o/\i_ (FC S' (Bn.h x) 0 (w_ t (Bt.bn (Bt.G_ t x')))) g=some wg:=by
 obtain⟨ws,hr,hw⟩:=M.mid.own;have hh:Bt.hd (Bt.G_ t x')=Bn.h x:=M.mid.hd;have hp:=Bt.put_node (x:=Bt.G_ t x') M.mid.fit (fun k hk=>M.mid.B_ k (bD hk)) (fun k hk=>by
  show Bn.h x'∉_
  exact Bt.hd_kids M.mid.nd k (bD hk)) (by rw[hh];exact hr) hw (M.lts t1 hn 0).1 (by show ((Bn.es x').take t).length<1000;rw[aM];omega)
 grind
theorem gQ.done(M:gQ w ps S o Z bt bl D t v L x e bN wc S' Y v' L' U x' vk vv vc)(t1:2<=t)(t2:t<=16)(hn:(Bn.es x').length=2*t){g:Nat}(hU:g∉U)(hx:g∉Bt.h_ x){wg:List Nat}(h1:i_ S g=some wg)(h2:wg.length=6*t)(ht:t<(Bn.es x').length):
 Bt.Put S (FC (FC S' (Bn.h x) 0 (w_ t (Bt.bn (Bt.G_ t x')))) g 0 (w_ t (Bt.bn (Bt.G5 t x' g)))) o t x e (g::U) (some ((Bn.es x')[t],g))/\(g::U).length=Bt.trail (Bt.F1 t e.k x)/\true=(Bt.F1 t e.k x).all id:=by
 have ai:=M.num;have ad:=M.all;rw[if_pos hn] at ai;rw[decide_eq_true hn] at ad;exact⟨(M.mid.cut o_ t2 hn hU hx h1 h2).same fun y=>by grind,o_,ad⟩
end
end
section
open Go.RowKit Tryz Go.BigFrame Go.Maps Go.WideMaps Lf
def Lf.binRepM(jn:Jn)(S:St)(f9 k v:Nat):Option ((Nat×Nat×Nat)×St):=
 if(ft S ⟨k,v,0,0,0,1⟩).1.2≠0 then none
 else match insertOkM jn (ft S ⟨k,v,0,0,0,1⟩).2 f9 (ft S ⟨k,v,0,0,0,1⟩).1.1 with
  | none=>none
  | some ((now,o),S1)=>match jr S1 o with
   | (0,S2)=>some ((now,(f_ S1 o).1.key,(f_ S1 o).1.val),S2)
   | _=>none
theorem y9 {jn:Jn}{S S':St}{f9 k v:Nat}{R:Nat×Nat×Nat}(h:binRepM jn S f9 k v=some (R,S')):
 ∃o S1,(ft S ⟨k,v,0,0,0,1⟩).1.2=0/\insertOkM jn (ft S ⟨k,v,0,0,0,1⟩).2 f9 (ft S ⟨k,v,0,0,0,1⟩).1.1=some ((R.1,o),S1)/\jr S1 o=(0,S')/\R.2.1=(f_ S1 o).1.key/\R.2.2=(f_ S1 o).1.val:=by
 unfold binRepM at h
 split at h
 ·cases h
 ·rename_i h0
  split at h
  ·cases h
  ·rename_i now o S1 h1
   split at h
   ·rename_i S2 h2;have h:=Option.some.inj h
    injection h with e1 e2
    subst e1 e2;exact⟨o,S1,dz.1 h0,h1,h2,rfl,rfl⟩
   ·cases h
theorem zd {w:World}{ps:Nat}{S S':St}{Y:Nat->Prop}(h:Ig w ps S Y)(hm:iw S 6){l_:Nat}{j c:FuncId}{jn:Jn}(hk:jD l_ j c jn)(f9 k v:Nat)(hl:f9<2^64)(hkl:k<2^64)(hvl:v<2^64){R:Nat×Nat×Nat}(hx:binRepM jn S f9 k v=some (R,S'))(hi':Fv S'):
 Ct 301 #[fE ps l_,Xu f9,Id k v] w fun e w'=>e=.returned (.tuple #[Xu R.1,Id R.2.1 R.2.2,.bool true,Xi 0])/\Ig w' ps S' Y/\Fo Y w w'/\Fv S'/\R.1<2^64:=by
 obtain⟨o,S2,h0,h1,h2,e1,e2⟩:=y9 hx;obtain⟨x,ik,iv⟩:=R;simp only at h1 e1 e2⊢;have ar:=vz hm ⟨k,v,0,0,0,1⟩;have a4:=LH h.tabwf ⟨k,v,0,0,0,1⟩;have ai:=fun W Z (hW:Ig W ps S Z)=>vU hW hm ⟨k,v,0,0,0,1⟩ ⟨hkl,hvl,s_,s_,s_,s_⟩;generalize ft S ⟨k,v,0,0,0,1⟩=M at*;obtain⟨⟨m,em⟩,S1⟩:=M;simp only at h0 h1 ar a4 ai;subst h0;have a3:=fun W Z (hW:Ig W ps S1 Z)=>In hW ar hk.joins hk.way f9 m hl a4 h1;have an:=fun W Z (hi2:Fv S2) (ho:o<2^64) (hW:Ig W ps S2 Z)=>zi hW hi2 l_ o ho h2;rw[<-e1,<-e2] at an;simp only[fE,Id,eS] at ai an⊢;have B1:=c_ w (Xk ps l_);have q1:=heap_alloc_new w (Xk ps l_);generalize a6:w.alloc (Xk ps l_)=w1 at*;have z1:w1.1.size=w.1.size+1:=by rw[<-a6];simp
 have A2:=c_ w1 (Xe k v);have B2:=B1.alloc B1.size (Xe k v);have q2:=(A2.block w.1.size o_).T q1;have z2:(w1.alloc (Xe k v)).1.size=w.1.size+2:=by simp[z1]
 generalize a':w1.alloc (Xe k v)=w2 at*;have A3:=c_ w2 (.cells #[Xu 0,Xu 0] 104);have q3:=(A3.block w.1.size o_).T q2;have B3:=B2.alloc B2.size (.cells #[Xu 0,Xu 0] 104);have y3:=heap_alloc_new w2 (.cells #[Xu 0,Xu 0] 104);rw[z2] at y3;have z3:(w2.alloc (.cells #[Xu 0,Xu 0] 104)).1.size=w.1.size+3:=by simp[z2]
 subst a' a6;have hY:=h.yl;have HG:=kq9 ai a3 an (h.wide B3) q3 y3 z3 B3 hY;clear ai a3 an h q1 q2 q3 y3 A2 A3 B1 B2 B3 z1 z2 z3 ar h1 h2 e1 e2 hm hk hY hx;go_enter func301,ntmps301;go_wp2_with fail;refine(HG.a _ _ HG.d).M ?_;rintro e w4 ⟨rfl,h4,k4⟩;have q4:=(k4.block w.1.size (ae ⟨Nat.le_refl _,by have:=HG.g;omega⟩)).T HG.e;have y4:=(k4.block (w.1.size+2) (ae ⟨o_,by have:=HG.g;omega⟩)).T HG.f;obtain⟨c0,c1⟩:=Fp q4;have H4:=kq4 h4 k4 q4 y4;clear h4 k4 q4 y4;go_wp2_with fail;obtain⟨hp,a2,a7,a5⟩:=HG.b _ _ H4.a;refine hp.M ?_;rintro e w5 ⟨rfl,h5,k5⟩;have q5:=(k5.block w.1.size (ae ⟨Nat.le_refl _,by have:=HG.g;omega⟩)).T H4.c;have y5:=(k5.block (w.1.size+2) (ae ⟨o_,by have:=HG.g;omega⟩)).T H4.d;obtain⟨d0,d1⟩:=Fp q5;have H5:=kq6 h5 (H4.b.T k5) a2 a7 y5 a5;clear h5 k5 q5 y5 hp a2 a7 a5 c0 c1;go_wp2_with fail;refine(HG.c _ _ H5.c H5.f H5.a).M ?_;rintro e w6 ⟨rfl,h6,au⟩;have y6:=(au.block (w.1.size+2) (ae ⟨o_,by have:=HG.g;omega⟩)).T H5.e;obtain⟨e0,e1⟩:=Fp y6;obtain⟨f0,f1⟩:=ef y6;have q7:((w6.setCell (y_ (w.1.size+2)) (Xu ik)).setCell (x_ (w.1.size+2) 1) (Xu iv)).1[w.1.size+2]?=_:=ew y6 (Xu ik) (Xu iv);have o7:∀k,k≠w.1.size+2->((w6.setCell (y_ (w.1.size+2)) (Xu ik)).setCell (x_ (w.1.size+2) 1) (Xu iv)).1[k]?=w6.1[k]?:=fun k hk=>fA hk _ _;have z7:((w6.setCell (y_ (w.1.size+2)) (Xu ik)).setCell (x_ (w.1.size+2) 1) (Xu iv)).1.size=w6.1.size:=s_
 have s7:((w6.setCell (y_ (w.1.size+2)) (Xu ik)).setCell (x_ (w.1.size+2) 1) (Xu iv)).os=w6.os/\((w6.setCell (y_ (w.1.size+2)) (Xu ik)).setCell (x_ (w.1.size+2) 1) (Xu iv)).tape=w6.tape/\((w6.setCell (y_ (w.1.size+2)) (Xu ik)).setCell (x_ (w.1.size+2) 1) (Xu iv)).output=w6.output:=⟨rfl,rfl,rfl⟩;have ba:∀k,Y k->k<w.1.size:=HG.i;have k6:=H5.b.T au;have H6:=kq9 h6 k6 H5.c H5.d y6 q7 o7 z7 s7;clear y6 d0 d1 h6 k6 au o7 z7 s7 q7;go_wp2_with fail;generalize ((w6.setCell (y_ (w.1.size+2)) (Xu ik)).setCell (x_ (w.1.size+2) 1) (Xu iv))=w7 at*;have q7:=H6.f;obtain⟨I,a0,ap⟩:∃I:World->Prop,(∀w',I w'->w'.1[w.1.size+2]?=some (Xe ik iv))/\(∀w',w'.1[w.1.size+2]?=some (Xe ik iv)->I w'):=⟨fun w'=>w'.1[w.1.size+2]?=some (Xe ik iv),fun _ h=>h,fun _ a=>a⟩;have a8:=fun x:Fq I=>a0 _ x.ok;obtain⟨m0,m1⟩:=mt a8;obtain⟨g0,g1⟩:=Fp q7;obtain⟨h0,h1⟩:=ef q7;have HI:=If ap;have a9:I w7.drew:=ap _ q7;have HQ:=If q7;clear e0 e1 f0 f1 q7 a0 ap a8;refine nF I [(true,0),(true,1),(true,2),(true,3),(false,4),(false,5),(false,6),(false,7)] k_ k_ a9 ?_
 iterate 4
  refine' mT ?_ ?_;rotate_left
  ·intro x;go_simp
   try rfl
  try simp only[pu]
 refine mD fun K hK=>?_;go_simp
 try go_simp
 refine hK.O _ _ (HI.O _ HQ.O) ?_;clear hK K
 try simp only[pu]
 refine mD fun K hK=>?_;go_simp;have q8:((w7.setCell (y_ (w.1.size+2)) (Xu ik)).setCell (x_ (w.1.size+2) 1) (Xu iv)).drew.1[w.1.size+2]?=_:=ew HQ.O (Xu ik) (Xu iv);have o8:∀k,k≠w.1.size+2->((w7.setCell (y_ (w.1.size+2)) (Xu ik)).setCell (x_ (w.1.size+2) 1) (Xu iv)).drew.1[k]?=w7.1[k]?:=fun k hk=>fA hk _ _;have z8:((w7.setCell (y_ (w.1.size+2)) (Xu ik)).setCell (x_ (w.1.size+2) 1) (Xu iv)).drew.1.size=w7.1.size:=by show ((w7.setCell (y_ (w.1.size+2)) (Xu ik)).setCell (x_ (w.1.size+2) 1) (Xu iv)).1.size=_;simp
 have s8:((w7.setCell (y_ (w.1.size+2)) (Xu ik)).setCell (x_ (w.1.size+2) 1) (Xu iv)).drew.os=w7.os/\((w7.setCell (y_ (w.1.size+2)) (Xu ik)).setCell (x_ (w.1.size+2) 1) (Xu iv)).drew.tape=w7.tape/\((w7.setCell (y_ (w.1.size+2)) (Xu ik)).setCell (x_ (w.1.size+2) 1) (Xu iv)).drew.output=w7.output:=⟨rfl,rfl,rfl⟩;generalize ((w7.setCell (y_ (w.1.size+2)) (Xu ik)).setCell (x_ (w.1.size+2) 1) (Xu iv)).drew=w8 at*
 try go_simp
 refine hK.O _ _ (HI.O _ q8) ?_;clear hK K
 try simp only[pu]
 refine mD fun K hK=>?_;go_simp
 try go_simp
 refine hK.O _ _ (HI.O _ q8) ?_;clear hK K
 try simp only[pu]
 refine mD fun K hK=>?_;go_simp
 try go_simp
 refine hK.O _ _ (HI.O _ q8) ?_;clear hK K
 try simp only[pu]
 refine mX ?_;obtain⟨e0,e1⟩:=Fp q8;have a1:Ig w8 ps S' Y/\Fo Y w w8:=by
  obtain⟨h6,k6,-,-,y6,-,o7,z7,s7⟩:=H6.O;have hY:=HG.i;have hz:=HG.g;have hw:∀k,k≠w.1.size+2->w8.1[k]?=w6.1[k]?:=fun k hk=>(o8 k hk).T (o7 k hk);refine⟨(h6.write (ae ⟨o_,o_⟩) y6 ⟨d_,d_⟩ s_ o_ fun k _ hk=>hw k hk).M fun k hk=>ab hk,?_⟩;have ad:=(Fo.v_ HG.h hY).T (k6.M fun k hk=>ab hk);exact⟨(s8.1.T s7.1).T ad.os,(s8.2.1.T s7.2.1).T ad.tape,(s8.2.2.T s7.2.2).T ad.output,by have:=ad.size;omega,fun k hk=>(hw k (by have:=hY k hk;omega)).T (ad.block k hk)⟩
 have HF:=If a1;clear a1 q8 o8 z8 s8 g0 g1 h0 h1 m0 m1;go_wp2_with fail;exact bodyPost_ret (v:=.tuple #[Xu x,.agg #[Xu ik,Xu iv],.bool true,Xi 0]) (by simp[results,f301,go_sem,e0,e1]) rfl ⟨rfl,HF.O.1,HF.O.2,hi',H6.d⟩
def Lf.treeRepM(jn:Jn)(S:St)(f9:Nat)(a b:List UInt8):Option ((Nat×Nat×Nat)×St):=
 match itemsM S a b with
 | none=>none
 | some (p,S1)=>binRepM jn S1 f9 p.1 p.2
end
section
open Lf
namespace Tr
variable{S:St}{d:It}{o:Nat->Nat}{t:Tr}
def gV(l:List (List UInt8×List UInt8))(a b:List UInt8):List (List UInt8×List UInt8):=
 l.filter (fun p=>decide (Fu p.1 a<0))++(a,b)::l.filter (fun p=>decide (0<Fu p.1 a))
theorem AQ{a:List UInt8}{L M:List (List UInt8×List UInt8)}(x:List (List UInt8×List UInt8))(hx:∀p∈x,p.1=a)(hL:∀p∈L,Fu p.1 a<0)(hM:∀p∈M,Fu a p.1<0):
 (L++x++M).filter (fun p=>decide (Fu p.1 a<0))=L/\(L++x++M).filter (fun p=>decide (0<Fu p.1 a))=M:=by
 have h1:L.filter (fun p=>decide (Fu p.1 a<0))=L:=List.filter_eq_self.2 fun p hp=>by simpa using hL p hp
 have h2:M.filter (fun p=>decide (0<Fu p.1 a))=M:=List.filter_eq_self.2 fun p hp=>by have:=hM p hp;rw[ie] at this;simp;omega
 have h3:L.filter (fun p=>decide (0<Fu p.1 a))=[]:=dt.2 fun p hp=>by have:=hL p hp;simp;omega
 have h4:M.filter (fun p=>decide (Fu p.1 a<0))=[]:=dt.2 fun p hp=>by have:=hM p hp;rw[ie] at this;simp;omega
 have h5:x.filter (fun p=>decide (Fu p.1 a<0))=[]:=dt.2 fun p hp=>by rw[hx p hp,fX];simp
 have h6:x.filter (fun p=>decide (0<Fu p.1 a))=[]:=dt.2 fun p hp=>by rw[hx p hp,fX];simp
 grind
theorem rO(a b:List It):F0 (a++b)=F0 a++F0 b:=by unfold F0;simp
theorem oO{a b:List UInt8}{tl tr mid:List It}(hd:d.k=a/\d.v=b)(hm:∀x∈mid,x.k=a)(h1:∀x∈tl,Fu x.k a<0)(h2:∀x∈tr,Fu a x.k<0):
 F0 (tl++d::tr)=gV (F0 (tl++mid++tr)) a b:=by
 obtain⟨f1,f2⟩:=AQ (a:=a) (L:=F0 tl) (M:=F0 tr) (F0 mid) (fun p hp=>by obtain⟨x,hx,rfl⟩:=az.1 hp;exact hm x hx) (fun p hp=>by obtain⟨x,hx,rfl⟩:=az.1 hp;exact h1 x hx) (fun p hp=>by obtain⟨x,hx,rfl⟩:=az.1 hp;exact h2 x hx);grind [gV,rO,F0]
theorem gu.frame{S S':St}(h:gu S d)(h1:i_ S' d.kh=i_ S d.kh)(h2:i_ S' d.vh=i_ S d.vh):gu S' d:=⟨h1.T h.k,h2.T h.v,h.lk,h.lv⟩
theorem fC.some{Ok:Tr->Prop}(h:fC Ok S o t):∀y∈eB t.its,i_ S y≠none:=by
 intro y hy;obtain⟨d,hd,e⟩:=gU.1 hy;have hb:=h.F5 d hd
 rcases e with rfl | rfl | rfl
 ·obtain⟨n,hn⟩:=h.at'.rec d.h (az.2 ⟨d,hd,rfl⟩)
  grind
 ·rw[hb.k]
  simp
 ·rw[hb.v]
  simp
theorem fC.frame{Ok:Tr->Prop}{S S':St}{o o':Nat->Nat}(h:fC Ok S o t)(hf:Fw S' o')(hs:∀y∈eB t.its,i_ S' y=i_ S y):fC Ok S' o' t where
 fit:=hf
 at':=h.at'.frame fun y hy=>by
  obtain⟨d,hd,rfl⟩:=az.1 hy;exact hs _ (gU.2 ⟨d,hd,ab rfl⟩)
 ok:=h.ok
 nd:=h.nd
 F5 d hd:=(h.F5 d hd).frame (hs _ (gU.2 ⟨d,hd,ae (ab rfl)⟩)) (hs _ (gU.2 ⟨d,hd,ae (ae rfl)⟩))
 F3:=h.F3
theorem xF(hf:Fw S o){a b:List UInt8}(ha:a.length<=1000)(hb:b.length<=1000)(hr:fc S 7 3):
 ∃ka vb hn S2 S3 o3,itemsM S a b=some ((ka,vb),S2)/\ft S2 ⟨ka,vb,0,0,0,1⟩=((hn,0),S3)/\pJ S a b/\Fw S3 o3/\i_ S ka=none/\i_ S vb=none/\i_ S hn=none/\ka≠vb/\ka≠hn/\vb≠hn/\
  i_ S3 ka=some (FK a)/\i_ S3 vb=some (FK b)/\i_ S3 hn=some (eM ⟨ka,vb,0,0,0,1⟩)/\(∀h',h'≠ka->h'≠vb->h'≠hn->i_ S3 h'=i_ S h')/\ej S S3 7 3:=by
 obtain⟨ka,S1,o1,e1,f1,n1,l1,q1,g1,k1⟩:=oL hf ha (hr.M o_ o_);obtain⟨vb,S2,o2,e2,f2,n2,l2,q2,g2,k2⟩:=oL f1 hb (fc.grew (hr.M (p':=3+3) (q':=1+1) o_ o_) g1);have ad:ka≠vb:=by rintro rfl;rw[l1] at n2;cases n2
 have r2:fc S2 1 1:=fc.grew (hr.M (p':=(3+3)+1) (q':=(1+1)+1) o_ o_) (g1.T g2);have ar:ji ⟨ka,vb,0,0,0,1⟩:=⟨(fL f1 l1).2.1,(fL f2 l2).2.1,s_,s_,s_,s_⟩;obtain⟨hn,S3,o3,e3,f3,n3,l3,q3,g3,k3⟩:=Cq f2 ar r2;have ai:ka≠hn:=by rintro rfl;rw[q2 _ ad,l1] at n3;cases n3
 have an:vb≠hn:=by rintro rfl;rw[l2] at n3;cases n3
 have ap:itemsM S a b=some ((ka,vb),S2):=by
  unfold itemsM;rw[e1];simp only;rw[e2];simp
 refine⟨ka,vb,hn,S2,S3,o3,ap,e3,⟨⟨ha,hb,k1,by rw[e1];exact k2⟩,fun p S4 h4=>?_⟩,f3,n1,(q1 _ ad.S).S.T n2,((q1 _ ai.S).S.T (q2 _ an.S).S).T n3,ad,ai,an,(q3 _ ai).T ((q2 _ ad).T l1),(q3 _ an).T l2,l3,fun h' w1 w2 w3=>(q3 h' w3).T ((q2 h' w2).T (q1 h' w1)),((g1.T g2).T g3).M o_ o_⟩;grind
theorem ze{Ok:Tr->Prop}{S S3 S5:St}{o o5:Nat->Nat}{t u tl tr:Tr}{mid:List It}(h:fC Ok S o t)(hi:t.its=tl.its++mid++tr.its)(iu:u.its=tl.its++d::tr.its)
 (hd:∀y,y=d.h\/y=d.kh\/y=d.vh->i_ S y=none) (hdn:d.kh≠d.vh/\d.kh≠d.h/\d.vh≠d.h) (f5:Fw S5 o5) (au:At S5 u) (ou:Ok u)
 (h3:∀y∈eB t.its,i_ S3 y=i_ S y) (hb3:gu S3 d) (h5:∀y,y∉t.hs->y≠d.h->i_ S5 y=i_ S3 y)
 (h1:∀x∈tl.its,Fu x.k d.k<0) (h2:∀x∈tr.its,Fu d.k x.k<0):fC Ok S5 o5 u:=by
 have ar:∀x,x∈tl.its\/x∈tr.its->x∈t.its:=fun x hx=>by
  grind
 have ai:∀y∈eB t.its,y≠d.h/\y≠d.kh/\y≠d.vh:=fun y hy=>by
  have:=h.some y hy;refine⟨?_,?_,?_⟩<;>rintro rfl
  ·exact this (hd _ (ab rfl))
  ·exact this (hd _ (ae (ab rfl)))
  grind
 have ad:=h.nd;have e:eB t.its=eB tl.its++(eB mid++eB tr.its):=by rw[hi,iX,iX,aY]
 rw[e] at ad ai;obtain⟨n1,n2,n3⟩:=aD.1 ad;obtain⟨n4,n5,n6⟩:=aD.1 n2;refine⟨f5,au,ou,?_,?_,?_⟩
 ·rw[iu,iX,mx];grind
 ·intro x hx;rw[iu] at hx;have hold:x∈t.its->gu S5 x:=fun hm=>by
   have hs:=(h.hs).2 x hm;have hk:x.kh∈eB t.its:=gU.2 ⟨x,hm,ae (ab rfl)⟩;have hv:x.vh∈eB t.its:=gU.2 ⟨x,hm,ae (ae rfl)⟩;refine(h.F5 x hm).frame ((h5 _ hs.1 ?_).T (h3 _ hk)) ((h5 _ hs.2 ?_).T (h3 _ hv))
   ·exact(ai _ (by rw[<-e];exact hk)).1
   grind
  rcases ao.1 hx with hx | hx
  ·grind
  ·rcases ah.1 hx with rfl | hx
   ·have an:∀y,y=x.h\/y=x.kh\/y=x.vh->y∉t.hs:=fun y hy hm=>by
     obtain⟨z,hz,rfl⟩:=az.1 hm;exact h.some _ (gU.2 ⟨z,hz,ab rfl⟩) (hd _ hy)
    exact hb3.frame (h5 _ (an _ (ae (ab rfl))) hdn.2.1) (h5 _ (an _ (ae (ae rfl))) hdn.2.2)
   grind
 ·have ap:=h.F3;rw[hi] at ap;obtain⟨s1,s2,s3⟩:=bE.1 ap;obtain⟨s4,s5,s6⟩:=bE.1 s1;rw[iu];refine bE.2 ⟨s4,bB.2 ⟨fun y hy=>h2 y hy,s2⟩,fun x hx y hy=>?_⟩;rcases ah.1 hy with rfl | hy
  ·exact h1 x hx
  grind
theorem uW{jn:Jn}{Ok:Tr->Prop}(J:kV jn Ok){S S3:St}{o o3:Nat->Nat}(h:fC Ok S o t)(hc:t.its.length<98)(f3:Fw S3 o3)(ha:d.k.length<=1000)(hv:d.v.length<=1000)
 (hd:∀y,y=d.h\/y=d.kh\/y=d.vh->i_ S y=none) (hdn:d.kh≠d.vh/\d.kh≠d.h/\d.vh≠d.h) (hk:i_ S3 d.kh=some (FK d.k)) (hvv:i_ S3 d.vh=some (FK d.v)) {n0:Nd} (hn:i_ S3 d.h=some (eM n0)) (hn1:n0.key=d.kh) (hn2:n0.val=d.vh)
 (h3:∀y∈eB t.its,i_ S3 y=i_ S y):
 ∃u old S5 tl tr mid,insertOkM jn S3 t.f9 d.h=some ((u.f9,old),S5)/\fC Ok S5 o3 u/\t.its=tl++mid++tr/\u.its=tl++d::tr/\(∀x∈tl,Fu x.k d.k<0)/\(∀x∈tr,Fu d.k x.k<0)/\ej S3 S5 0 0/\
  (∀y,y∉t.hs->y≠d.h->i_ S5 y=i_ S3 y)/\((old=0/\mid=[])\/∃(x:It) (n1:Nd),mid=[x]/\old=x.h/\x.k=d.k/\i_ S5 x.h=some (eM n1)/\n1.key=x.kh/\n1.val=x.vh):=by
 have h':=h.frame f3 h3;have ai:=h.hs;have ad:d.h∉t.hs:=fun hm=>by
  obtain⟨z,hz,e⟩:=az.1 hm;grind [gU]
 have ap:=gw f3 hn;have ba:=(fL f3 hn).1;obtain⟨tl,m,tr,S4,e4,f4,al,ar,a8,a9,o4,g4,hm,hlt,au⟩:=sn J d.k 200 f3 h'.at' h'.ok ai.1 (fun x hx=>⟨h'.F5 x hx,(ai.2 x hx).1⟩) h'.F3 o_ o_;have a4:i_ S4 d.h=some (eM n0):=(o4 _ ad).T hn;obtain⟨mid,a0,a2⟩:∃mid:List It,t.its=tl.its++mid++tr.its/\((m=0/\mid=[])\/∃(x:It) (n1:Nd),mid=[x]/\m=x.h/\x.k=d.k/\i_ S4 x.h=some (eM n1)/\n1.key=x.kh/\n1.val=x.vh):=by
  grind
 have a6:t.hs=tl.hs++(mid.map (·.h))++tr.hs:=by unfold Tr.hs;grind
 have a1:=ai.1;rw[a6] at a1 ad;obtain⟨n1,n2,n3⟩:=aD.1 a1;obtain⟨n4,n5,n6⟩:=aD.1 n1;simp only[ao,not_or] at ad;have a5:(tl.hs++d.h::tr.hs).Nodup:=aD.2 ⟨n4,aI.2 ⟨ad.2,n2⟩,fun x hx y hy q=>by
  grind⟩
 have a3:tl.its.length+tr.its.length<99:=by grind
 obtain⟨u,S5,e5,D5,a',iu⟩:=J.join f4 al ar a8 a9 a4 hn1 hn2 a5 a3;have an:∀y,y∉t.hs->y≠d.h->i_ S5 y=i_ S3 y:=fun y hy hy2=>by
  refine(D5.u_ y fun hm=>?_).T (o4 y hy);grind
 refine⟨u,m,S5,tl.its,tr.its,mid,?_,?_,a0,iu,hlt,au,g4.T D5.grew,an,?_⟩
 ·unfold insertOkM;rw[ap];simp only;rw[hn1,jt f3 ha hk];rw[if_neg (by
   have:isT S3 d.h=true:=by unfold isT;rw[ap];simp
   rw[h'.at'.isT f3,this];simp;omega)]
  grind [jq]
 ·exact ze h a0 iu hd hdn D5.fit D5.at' a' h3 ⟨hk,hvv,ha,hv⟩ an hlt au
 ·rcases a2 with⟨e0,e⟩ | ⟨x,a7,ex,e0,ek,q1,q2,q3⟩
  ·grind
  ·refine ae ⟨x,a7,ex,e0,ek,(D5.u_ _ fun hm=>?_).T q1,q2,q3⟩;grind
def tm(S S':St)(l:List It):Prop:=∀y,y∉eB l->i_ S y≠none->i_ S' y=i_ S y
def KY(S S':St)(l l':List It):Prop:=∀y,i_ S' y≠none->y∈eB l'\/i_ S y≠none/\y∉eB l
theorem qBjaa{P:Prop}(h:P:=by
 simp only[ao,ah] at hy⊢
 rcases hy with q | rfl | rfl | rfl | q
 ·exact ab (ab (ab q))
 ·exact ae r3
 ·exact ae r1
 ·exact ae r2
 ·exact ab (ae q)):P:=h
theorem DI{jn:Jn}{Ok:Tr->Prop}(J:kV jn Ok)(h:fC Ok S o t)(hc:t.its.length<98){a b:List UInt8}(ha:a.length<=1000)(hb:b.length<=1000)(hr:fc S 7 3)(hno:∀d∈t.its,d.k≠a):
 ∃u S' o',pJ S a b/\treePutM jn S t.f9 a b=some (u.f9,S')/\fC Ok S' o' u/\F0 u.its=gV (F0 t.its) a b/\u.its.length=t.its.length+1/\ej S S' 7 3/\tm S S' t.its/\(∀y∈eB u.its,y∈eB t.its\/i_ S y=none)/\KY S S' t.its u.its:=by
 obtain⟨ka,vb,hn,S2,S3,o3,a0,a1,a2,f3,r1,r2,r3,d1,d2,d3,l1,l2,l3,q3,g3⟩:=xF h.fit ha hb hr;have an:∀y,i_ S y≠none->i_ S3 y=i_ S y:=fun y hy=>q3 y (by rintro rfl;exact hy r1) (by rintro rfl;exact hy r2) (by rintro rfl;exact hy r3);obtain⟨u,a3,S5,tl,tr,mid,e5,B5,ad,iu,hlt,au,g5,ap,ar⟩:=uW J (d:=⟨hn,ka,vb,a,b⟩) h hc f3 ha hb (by rintro y (rfl | rfl | rfl)<;>assumption) ⟨d1,d2,d3⟩ l1 l2 l3 rfl rfl (fun y hy=>an y (h.some y hy));have ai:a3=0/\mid=[]:=by
  rcases ar with q | ⟨x,n1,ex,_,ek,_⟩
  ·exact q
  ·exact absurd ek (hno x (by rw[ad,ex];simp))
 refine⟨u,S5,o3,a2,?_,B5,?_,?_,(g3.T g5).M o_ o_,fun y hy hs=>(ap y (fun hm=>?_) ?_).T (an y hs),fun y hy=>?_,fun y hy=>Classical.byCases (p:=y∈eB u.its) ab fun hm=>ae ?_⟩
 ·unfold treePutM;rw[a0];simp only;unfold binInsM;rw[a1];simp only;rw[if_neg s_,e5];simp only;rw[if_pos ai.1]
 ·rw[iu,ad];exact oO ⟨rfl,rfl⟩ (fun x hx=>by rw[ai.2] at hx;cases hx) hlt au
 ·rw[iu,ad,ai.2]
  simp;omega
 ·obtain⟨z,hz,rfl⟩:=az.1 hm;exact hy (gU.2 ⟨z,hz,ab rfl⟩)
 ·rintro rfl;exact hs r3
 ·rw[iu,iX,mx] at hy;rw[ad,iX,iX];exact qBjaa
 ·rw[iu,iX,mx] at hm;simp only[ao,ah,not_or] at hm;obtain⟨p1,p2,p3,p4,p5⟩:=hm;have hm:y∉eB t.its:=by
   rw[ad,ai.2,bw,iX];simp only[ao,not_or];exact⟨p1,p5⟩
  refine⟨fun q=>hy ?_,hm⟩;rw[ap y (fun hs=>hm ?_) p2,q3 y p3 p4 p2]
  ·exact q
  ·obtain⟨z,hz,rfl⟩:=az.1 hs;exact gU.2 ⟨z,hz,ab rfl⟩
theorem DJ{jn:Jn}{Ok:Tr->Prop}(J:kV jn Ok)(h:fC Ok S o t)(hc:t.its.length<98){a b:List UInt8}(ha:a.length<=1000)(hb:b.length<=1000)(hr:fc S 7 3){x:It}(hx:x∈t.its)(hxk:x.k=a):
 ∃u S6 S8 o',pJ S a b/\treeRepM jn S t.f9 a b=some ((u.f9,x.kh,x.vh),S6)/\Fw S6 o'/\fz S6 x.vh=(x.v,0)/\Fv (S6.drop x.kh).2/\S8=((S6.drop x.kh).2.drop x.vh).2/\fC Ok S8 o' u/\F0 u.its=gV (F0 t.its) a b/\u.its.length=t.its.length/\ej S S8 7 3/\tm S S8 t.its/\(∀y∈eB u.its,y∈eB t.its\/i_ S y=none)/\KY S S8 t.its u.its:=by
 obtain⟨ka,vb,hn,S2,S3,o3,a9,ba,bb,f3,r1,r2,r3,d1,d2,d3,l1,l2,l3,q3,g3⟩:=xF h.fit ha hb hr;have an:∀y,i_ S y≠none->i_ S3 y=i_ S y:=fun y hy=>q3 y (by rintro rfl;exact hy r1) (by rintro rfl;exact hy r2) (by rintro rfl;exact hy r3);obtain⟨u,bd,S5,tl,tr,mid,e5,B5,ai,iu,hlt,a4,g5,ap,a8⟩:=uW J (d:=⟨hn,ka,vb,a,b⟩) h hc f3 ha hb (by rintro y (rfl | rfl | rfl)<;>assumption) ⟨d1,d2,d3⟩ l1 l2 l3 rfl rfl (fun y hy=>an y (h.some y hy));have a':∃n1:Nd,mid=[x]/\bd=x.h/\i_ S5 x.h=some (eM n1)/\n1.key=x.kh/\n1.val=x.vh:=by
  have au:∀z,(z∈tl\/z∈tr)->z≠x:=by
   rintro z hz rfl
   rcases hz with hz | hz
   ·have:=hlt z hz;simp only[hxk,fX] at this;omega
   ·have:=a4 z hz;simp only[hxk,fX] at this;omega
  rcases a8 with⟨_,q⟩ | ⟨z,n1,ez,eo,_,e1,e2,e3⟩
  ·rw[ai,q] at hx;simp only[bw,ao] at hx;exact absurd rfl (au x hx)
  ·have:z=x:=by
    rw[ai,ez] at hx;simp only[ao,ah,bT,or_false] at hx
    rcases hx with (hx | hx) | hx
    ·exact absurd rfl (au x (ab hx))
    ·exact hx.S
    ·exact absurd rfl (au x (ae hx))
   subst this;exact⟨n1,ez,eo,e1,e2,e3⟩
 obtain⟨n1,em,eo,x1,x2,x3⟩:=a';have a0:=h.F5 x hx;have bc:x.h∈eB t.its:=gU.2 ⟨x,hx,ab rfl⟩;have a1:x.kh∈eB t.its:=gU.2 ⟨x,hx,ae (ab rfl)⟩;have a2:x.vh∈eB t.its:=gU.2 ⟨x,hx,ae (ae rfl)⟩;have a7:=h.nd;have ar:eB t.its=eB tl++([x.h,x.kh,x.vh]++eB tr):=by rw[ai,em,iX,iX,aY];rfl
 rw[ar] at a7;have ad:x.h∉eB u.its/\x.kh∉eB u.its/\x.vh∉eB u.its/\x.kh≠x.h/\x.vh≠x.h/\x.kh≠x.vh:=by
  obtain⟨p1,p2,p3⟩:=aD.1 a7;obtain⟨p4,p5,p6⟩:=aD.1 p2;have hw:∀y∈ [x.h,x.kh,x.vh],y∉eB u.its:=fun y hy hm=>by
   rw[iu,iX,mx] at hm;have a3:i_ S y≠none:=h.some y (by rw[ar];simp only[ao];exact ae (ab hy))
   rcases ao.1 hm with hm | hm
   ·exact p3 y hm y (by simp only[ao];exact ab hy) rfl
   ·simp only[ah] at hm
    rcases hm with hm | hm | hm | hm
    ·exact a3 (hm▸r3)
    ·exact a3 (hm▸r1)
    ·exact a3 (hm▸r2)
    ·exact p6 y hy y hm rfl
  simp only[aI,ah,bT,or_false,not_or] at p4;exact⟨hw _ s_,hw _ s_,hw _ s_,fun q=>p4.1.1 q.S,fun q=>p4.1.2 q.S,p4.2.1⟩
 have a6:x.kh∉t.hs/\x.vh∉t.hs:=h.hs.2 x hx;have a5:x.kh≠hn/\x.vh≠hn:=⟨fun q=>h.some _ a1 (q▸r3),fun q=>h.some _ a2 (q▸r3)⟩;have k5:i_ S5 x.kh=some (FK x.k):=(ap _ a6.1 a5.1).T ((an _ (h.some _ a1)).T a0.k);have v5:i_ S5 x.vh=some (FK x.v):=(ap _ a6.2 a5.2).T ((an _ (h.some _ a2)).T a0.v);obtain⟨S6,e6,f6,m6,o6,g6⟩:=AH B5.fit x1;have k6:=(o6 _ ad.2.2.2.1).T k5;have v6:=(o6 _ ad.2.2.2.2.1).T v5;obtain⟨S7,e7,f7,m7,o7,g7⟩:=mQ f6 k6;have v7:=(o7 _ ad.2.2.2.2.2.S).T v6;obtain⟨S8,e8,f8,m8,o8,g8⟩:=mQ f7 v7;refine⟨u,S6,S8,o3,bb,?_,f6,jt f6 a0.lv v6,by rw[e7];exact f7.inv,by rw[e7,e8],B5.frame f8 (fun y hy=>?_),?_,?_,((((g3.T g5).T g6).T g7).T g8).M o_ o_,fun y hy hs=>?_,fun y hy=>?_,fun y hy=>Classical.byCases (p:=y∈eB u.its) ab fun hm=>ae ?_⟩
 ·unfold treeRepM;rw[a9];simp only;unfold binRepM;rw[ba];simp only;rw[if_neg s_,e5];simp only;rw[eo,e6];simp only;rw[gw B5.fit x1,x2,x3]
 ·have w1:y≠x.h:=fun q=>ad.1 (q▸hy);have w2:y≠x.kh:=fun q=>ad.2.1 (q▸hy);have w3:y≠x.vh:=fun q=>ad.2.2.1 (q▸hy);exact(o8 y w3).T ((o7 y w2).T (o6 y w1))
 ·rw[iu,ai];exact oO ⟨rfl,rfl⟩ (fun z hz=>by rw[em] at hz;simp only[ah,bT,or_false] at hz;rw[hz];exact hxk) hlt a4
 ·rw[iu,ai,em]
  simp
 ·have w1:y≠x.h:=fun q=>hy (q▸bc);have w2:y≠x.kh:=fun q=>hy (q▸a1);have w3:y≠x.vh:=fun q=>hy (q▸a2);refine(o8 y w3).T ((o7 y w2).T ((o6 y w1).T ((ap y (fun hm=>?_) ?_).T (an y hs))))
  ·obtain⟨z,hz,rfl⟩:=az.1 hm;exact hy (gU.2 ⟨z,hz,ab rfl⟩)
  ·rintro rfl;exact hs r3
 ·rw[iu,iX,mx] at hy;rw[ai,iX,iX];exact qBjaa
 ·rw[iu,iX,mx] at hm;simp only[ao,ah,not_or] at hm;obtain⟨p1,p2,p3,p4,p5⟩:=hm;have w1:y≠x.h:=by
   rintro rfl;exact hy ((o8 _ ad.2.2.2.2.1.S).T ((o7 _ ad.2.2.2.1.S).T m6))
  have w2:y≠x.kh:=by
   rintro rfl;exact hy ((o8 _ ad.2.2.2.2.2).T m7)
  have w3:y≠x.vh:=by
   rintro rfl;exact hy m8
  have hm:y∉eB t.its:=by
   rw[ar];simp only[ao,ah,bT,or_false,not_or];exact⟨p1,⟨w1,w2,w3⟩,p5⟩
  refine⟨fun q=>hy ?_,hm⟩;rw[o8 y w3,o7 y w2,o6 y w1,ap y (fun hs=>hm ?_) p2,q3 y p3 p4 p2]
  ·exact q
  ·obtain⟨z,hz,rfl⟩:=az.1 hs;exact gU.2 ⟨z,hz,ab rfl⟩
end Tr
end
section
open Go.RowKit Tryz Go.BigFrame Go.Maps Go.WideMaps Lf
variable{w:World}{z:Nat}
theorem CQ{pm px ps A6:Nat}(hM:Ic w pm px ps A6)(ht:Cb 19 #[PV px] w (Xi z)):
 Cb 39 #[PV pm] w (Xi z):=by
 have HG:=kq2 (ki hM) ht;unfold Ic at hM;obtain⟨c0,c1,c2⟩:=fq hM;clear hM ht;go_enter func39,ntmps39;go_wp2_with fail;refine Jc HG.a ?_;go_wp2_with fail;refine b8 HG.b fun w2 hb=>?_;have HB:=If hb;clear hb;go_wp2_with fail;go_ret;exact⟨rfl,HB.O⟩
theorem CU{pm px ps A6:Nat}(hM:Ic w pm px ps A6)(k:List UInt8)(ht:Cb 16 #[PV px,SV k] w (Xi z)):
 Cb 99 #[PV pm,SV k] w (Xi z):=by
 have HG:=kq2 (ki hM) ht;unfold Ic at hM;obtain⟨c0,c1,c2⟩:=fq hM;clear hM ht;go_enter func99,ntmps99;go_wp2_with fail;refine Jc HG.a ?_;go_wp2_with fail;refine b8 HG.b fun w2 hb=>?_;have HB:=If hb;clear hb;go_wp2_with fail;go_ret;exact⟨rfl,HB.O⟩
theorem CL{pm px ps A6:Nat}(hM:Ic w pm px ps A6)(a:List UInt8){n:Nat}(hn:n<2^62)(is:Bool)(v:List UInt8)(h1:Cb 16 #[PV px,SV a] w (Xi n))(h2:∀W,D_ w W->Cb 17 #[PV px,SV a] W (.tuple #[SV v,.bool is])):
 Cb 98 #[PV pm,SV a] w (Xi (if is=true then(n:Int) else(n:Int)-1)):=by
 have hw:IntKind.i64.wrap ((n:Int)-1)=(n:Int)-1:=ax _ o_;have HG:=kq3 h1 h2 hM;unfold Ic at hM;obtain⟨c0,c1,c2⟩:=fq hM;clear h1 h2 hM
 cases is
 all_goals
  go_enter func98,ntmps98;go_wp2_with fail;refine b8 HG.a fun w1 hb1=>?_;have ad:=HG.c.a_ hb1;unfold Ic at ad;obtain⟨d0,d1,d2⟩:=fq ad;have H1:=If hb1;clear hb1 ad;go_wp2_with fail;refine b8 (HG.b _ H1.O) fun w2 hb2=>?_;have H2:=If (b_ H1.O hb2);clear hb2;go_wp2_with fail;go_ret;exact⟨rfl,H2.O⟩
theorem CS{pm px ps A6:Nat}(hM:Ic w pm px ps A6)(a b t:List UInt8)(was:Bool)(ha:a.length<=A6)(hb:b.length<=A6){Q:World->Prop}(ht:Ct 43 #[PV px,.agg #[SV a,SV b]] w fun e w'=>e=.returned (.tuple #[SV t,.bool was,Xi 0])/\Q w'):
 Ct 24 #[PV pm,SV a,SV b] w fun e w'=>e=.returned (.tuple #[SV t,.bool was,Xi 0])/\Q w':=by
 have HG:=kq2 (vH hM a b ha hb) ht;unfold Ic at hM;obtain⟨c0,c1,c2⟩:=fq hM;clear hM ha hb ht;go_enter func24,ntmps24;go_wp2_with fail;refine Jc HG.a ?_;go_wp2_with fail;refine b8 HG.b fun w2 hr=>?_;have HR:=If hr;clear hr;go_wp2_with fail;go_ret3;exact⟨rfl,HR.O⟩
end
section
open Go.RowKit Tryz Go.BigFrame Go.Maps Go.WideMaps Lf Tr
theorem Ig.row {w w2:World}{ps D x:Nat}{S:St}{Y:Nat->Prop}{v v2:Value}{L:List Nat}(h:Ig w ps S (fun k=>Y k\/v.ownBlock=some k))(hD:fy<D)(own:FE w D v L)(ho2:FE w2 D v2 (L++[x]))(hg:w.grownBy w2 v.ownBlock)(hv:v2.ownBlock=v.ownBlock\/∃g,v2.ownBlock=some g/\w.1.size<=g):Ig w2 ps S (fun k=>Y k\/v2.ownBlock=some k):=by
 refine(h.grown hg fun g e=>⟨ae e,by have:=(own.ge g e).1;omega,(own.block e).2.2⟩).M fun k hk=>?_
 rcases hk with hk | hk
 ·exact ab (ab hk)
 ·rcases hv with e | ⟨g,e,hg⟩
  ·rw[e] at hk;exact ab (ae hk)
  ·rw[e] at hk;obtain rfl:g=k:=Option.some.inj hk;exact ae ⟨hg,(ho2.ge g e).2⟩
section
variable {w w':World}{ps bb D n:Nat}{S S':St}{Y Z:Nat->Prop}{l_:Int}
end
