/- B-trees in a store: an item more, by h_: plain. -/
import Derived.Test.YtpljannolpapgaaGreatDoorRZa
set_option maxRecDepth 100000
set_option maxHeartbeats 6400000
namespace Go.Proofs.YtpljannolpapgaaGreatDoor
section
open Lf Tr
namespace Bt
variable{S:St}{U:List Nat}{d:Nat}{e:It}{i:Nat}{k:Nat}{o:Nat->Nat}
theorem vW{A K B Y U:List Nat}(h:(A++(K++B)).Nodup)(hy:Y.Nodup)(hs:∀z∈Y,z∈K\/z∈U)(hu:∀z∈U,z∉A/\z∉B):(A++(Y++B)).Nodup:=by
 grind
theorem nodes_parts{x:Bt (d+1)}(h:k<(Bn.ks x).length):h_ x=(Bn.h x::(((Bn.ks x).take k).map h_).flatten)++(h_ (Bn.ks x)[k]++(((Bn.ks x).drop (k+1)).map h_).flatten):=by
 have e:(Bn.ks x).map h_=((Bn.ks x).take k).map h_++h_ (Bn.ks x)[k]::((Bn.ks x).drop (k+1)).map h_:=by rw[<-bi,<-aN,<-oW h]
 rw[jQ,e,cg,dy]
 rfl
theorem ve{x:Bt (d+1)}(h:k<(Bn.ks x).length)(y:Bt d):h_ (ju x k y)=(Bn.h x::(((Bn.ks x).take k).map h_).flatten)++(h_ y++(((Bn.ks x).drop (k+1)).map h_).flatten):=by
 show Bn.h x::(((Bn.ks x).set k y).map h_).flatten=_
 rw[de,if_pos h,aN,bi,cg,dy]
 rfl
theorem vf(x:Bt (d+1))(k:Nat)(y1:Bt d)(m:It)(y2:Bt d):h_ (ja x k y1 m y2)=(Bn.h x::(((Bn.ks x).take k).map h_).flatten)++((h_ y1++h_ y2)++(((Bn.ks x).drop (k+1)).map h_).flatten):=by
 show Bn.h x::(((Bn.ks x).take k++y1::y2::(Bn.ks x).drop (k+1)).map h_).flatten=_
 grind
theorem put_node(hf:Fw S o){t d:Nat}{x:Bt (d+1)}(hk:∀k∈Bn.ks x,At S t k)(hn:∀k∈Bn.ks x,hd x∉h_ k){ws:List Nat}(hr:i_ S (hd x)=some ws)(hw:ws.length=6*t)(hl:iT (bn x))(he:(Bn.es x).length<1000):
 Fw (FC S (hd x) 0 (v8 t (bn x))) o/\At (FC S (hd x) 0 (v8 t (bn x))) t x/\(∀h,h≠hd x->i_ (FC S (hd x) 0 (v8 t (bn x))) h=i_ S h)/\ej S (FC S (hd x) 0 (v8 t (bn x))) 0 0:=by
 obtain⟨q1,q2,q3,q4⟩:=mR hf hr (l:=v8 t (bn x)) (by rw[jJ,hw]) (kX hl (by unfold bn;grind));refine⟨q1,⟨q2,fun k hkm=>(hk k hkm).frame fun h hm=>q3 h fun e=>hn k hkm (e▸hm)⟩,q3,q4⟩
theorem hd_kids{x:Bt (d+1)}(h:(h_ x).Nodup):∀k∈Bn.ks x,hd x∉h_ k:=fun k hk hm=>by
 rw[jQ] at h;exact(aI.1 h).1 (cM.2 ⟨_,az.2 ⟨k,hk,rfl⟩,hm⟩)
structure Mid (S S':St) (o:Nat->Nat) (t:Nat) {d:Nat} (x:Bt (d+1)) (e:It) (U:List Nat) (x':Bt (d+1)):Prop where
 fit:Fw S' o
 grew:ej S S' 0 0
 fr:∀h,h∉h_ x->h∉U->i_ S' h=i_ S h
 hd:Bn.h x'=Bn.h x
 okN:gY t x'
 its:Bt.its x'=insB e (Bt.its x)
 A6:∀k∈Bn.ks x',At S' t k
 nd:(h_ x').Nodup
 sub:∀h,h∈h_ x'↔h∈h_ x\/h∈U
 own:∃ws,i_ S' (Bn.h x)=some ws/\ws.length=6*t
 grow:(Bn.es x).length<=(Bn.es x').length
 lt:iT (bn x')
structure Put (S S':St) (o:Nat->Nat) (t:Nat) {d:Nat} (x:Bt (d+1)) (e:It) (U:List Nat) (r:Option (It×Nat)):Prop where
 fit:Fw S' o
 grew:ej S S' 0 0
 fr:∀h,h∉h_ x->h∉U->i_ S' h=i_ S h
 res:match r with
  | none=>∃y:Bt (d+1),Bn.h y=Bn.h x/\At S' t y/\Ok t y/\nk x<=nk y/\Bt.its y=insB e (Bt.its x)/\(h_ y).Nodup/\(∀h,h∈h_ y↔h∈h_ x\/h∈U)
  | some (m,g)=>∃y1 y2:Bt (d+1),Bn.h y1=Bn.h x/\Bn.h y2=g/\At S' t y1/\At S' t y2/\Ok t y1/\Ok t y2/\nk y1=t/\nk y2+1=t/\Bt.its y1++m::Bt.its y2=insB e (Bt.its x)/\(h_ y1++h_ y2).Nodup/\(∀h,h∈h_ y1++h_ y2↔h∈h_ x\/h∈U)
theorem mid_leaf(hf:Fw S o){t:Nat}(t1:1<=t){x:Bt 1}(ha:At S t x)(ok:Ok t x)(hnd:(h_ x).Nodup)(hb:∀d∈its x,d.kh<2^64/\d.vh<2^64)(he:e.kh<2^64/\e.vh<2^64)(hl:(its x).length<1000000):Mid S S o t x e [] (leafPut x e):=by
 have hi:=Ch x e;refine⟨hf,ej.refl S,fun _ _ _=>rfl,rfl,OI t1 ok e,hi,ha.2,hnd,fun h=>⟨ab,fun q=>q.elim id fun q=>(bX q).elim⟩,⟨_,ha.1,jJ _ _⟩,?_,?_⟩
 ·show _<=((Bn.es x).take (belowB e.k (Bn.es x))++e::(Bn.es x).drop (belowB e.k (Bn.es x))).length
  rw[lg (k:=belowB e.k (Bn.es x)) ct];omega
 ·refine bnLt_of hf (fun d hd=>?_) ha.2 ?_
  ·have ad:d∈insB e (its x):=by rw[<-hi];exact lN (OI t1 ok e) hd
   rcases kg.1 ad with rfl | ad
   ·exact he
   ·exact hb d ad
  ·rw[hi,insB_length];omega
theorem vg{S S':St}{t d:Nat}{x:Bt (d+1)}(ha:At S t x)(hnd:(h_ x).Nodup)(hU:∀h∈U,h∉h_ x)(hi:i<(Bn.ks x).length)(fr:∀h,h∉h_ (Bn.ks x)[i]->h∉U->i_ S' h=i_ S h):
 (∀k∈(Bn.ks x).take i++(Bn.ks x).drop (i+1),At S' t k)/\i_ S' (Bn.h x)=i_ S (Bn.h x):=by
 rw[nodes_parts hi] at hnd hU;obtain⟨h1,h2,h3⟩:=aF.1 hnd;obtain⟨h4,h5,h6⟩:=aF.1 h2;refine⟨fun k hk=>?_,fr _ (fun hm=>h3 _ (av ..) _ (aD _ hm) rfl) fun hm=>hU _ hm (aD _ (av ..))⟩
 rcases aq.1 hk with hk | hk
 ·refine(ha.2 k (bD hk)).frame fun h hh=>?_;have hm:h∈(((Bn.ks x).take i).map h_).flatten:=cM.2 ⟨_,az.2 ⟨k,hk,rfl⟩,hh⟩
  grind
 ·refine(ha.2 k (bB hk)).frame fun h hh=>?_;have hm:h∈(((Bn.ks x).drop (i+1)).map h_).flatten:=cM.2 ⟨_,az.2 ⟨k,hk,rfl⟩,hh⟩
  grind
theorem tw{x:Bt (d+1)}(hi:i<(Bn.ks x).length)(hU:∀h∈U,h∉h_ x):∀z∈U,z∉(Bn.h x::(((Bn.ks x).take i).map h_).flatten)/\z∉(((Bn.ks x).drop (i+1)).map h_).flatten:=fun z hz=>by
 have:=hU z hz;rw[nodes_parts hi] at this;exact⟨fun q=>this (aD _ q),fun q=>this (aA _ (aA _ q))⟩
abbrev ItLt(l:List It):Prop:=∀d∈l,d.kh<2^64/\d.vh<2^64
theorem mid_kid{S S':St}{t d:Nat}(t1:1<=t){x:Bt (d+2)}(ha:At S t x)(ok:Ok t x)(hnd:(h_ x).Nodup)(hs:(its x).Pairwise eU)(hb:ItLt (its x))(he:ItLt [e])(hl:(its x).length<1000000)(hU:∀h∈U,h∉h_ x)
 (hi:belowB e.k (Bn.es x)<(Bn.ks x).length) (hp:Put S S' o t (Bn.ks x)[belowB e.k (Bn.es x)] e U none):∃y,Bn.h y=hd (Bn.ks x)[belowB e.k (Bn.es x)]/\Mid S S' o t x e U (ju x (belowB e.k (Bn.es x)) y):=by
 obtain⟨y,y1,y2,y3,y4,y5,y6,y7⟩:=hp.res;obtain⟨ks,hr⟩:=vg ha hnd hU hi hp.fr;have hk:=ok.2.2 _ (ao hi);have ar:belowB e.k (Bn.es x)<=(Bn.es x).length:=ct;have ap:=BP t1 ok (belowB e.k (Bn.es x)) y3 o_;have ai:its (ju x (belowB e.k (Bn.es x)) y)=insB e (its x):=by
  have ho:=l7 (key:=e.k) ok.rows (by rw[<-ga];exact hs);have:=ho.insert;rw[jN hi,<-ga] at this;rw[BO ok _ ar,y5,this]
 have an:∀k∈(Bn.ks x).set (belowB e.k (Bn.es x)) y,At S' t k:=fun k hk=>by
  rw[de,if_pos hi] at hk;rcases aq.1 hk with hk | hk
  ·exact ks k (aD _ hk)
  ·rcases ah.1 hk with rfl | hk
   ·exact y2
   ·exact ks k (aA _ hk)
 refine⟨y,y1,hp.fit,hp.grew,fun h h1 h2=>hp.fr h (fun q=>h1 (mem_nodes_kid (ao hi) q)) h2,rfl,ap,ai,an,?_,fun h=>?_,⟨_,hr.T ha.1,jJ _ _⟩,Nat.le_refl _,?_⟩
 ·rw[ve hi];rw[nodes_parts hi] at hnd;exact vW hnd y6 (fun h hh=>(y7 h).1 hh) (tw hi hU)
 ·have q:=y7 h;rw[ve hi,nodes_parts hi];simp only[aq,q];grind
 ·refine bnLt_of hp.fit (fun d hd=>?_) an ?_
  ·have ad:d∈insB e (its x):=by rw[<-ai];exact lN ap hd
   rcases kg.1 ad with rfl | ad
   ·exact he _ (av ..)
   ·exact hb d ad
  ·rw[ai,insB_length];omega
theorem mid_split{S S':St}{t d:Nat}(t1:1<=t){x:Bt (d+2)}(ha:At S t x)(ok:Ok t x)(hnd:(h_ x).Nodup)(hs:(its x).Pairwise eU)(hb:ItLt (its x))(he:ItLt [e])(hl:(its x).length<1000000)(hU:∀h∈U,h∉h_ x)
 (hi:belowB e.k (Bn.es x)<(Bn.ks x).length) {m:It} {g:Nat} (hp:Put S S' o t (Bn.ks x)[belowB e.k (Bn.es x)] e U (some (m,g))):∃y1 y2,Bn.h y1=hd (Bn.ks x)[belowB e.k (Bn.es x)]/\Bn.h y2=g/\Mid S S' o t x e U (ja x (belowB e.k (Bn.es x)) y1 m y2):=by
 obtain⟨y1,y2,a1,a2,a3,a4,a5,a6,a7,a8,a9,a0,ap⟩:=hp.res;obtain⟨ks,hr⟩:=vg ha hnd hU hi hp.fr;have hk:=ok.2.2 _ (ao hi);have an:belowB e.k (Bn.es x)<=(Bn.es x).length:=ct;have au:=BS t1 ok (belowB e.k (Bn.es x)) an m a5 o_ a6 o_;have ai:its (ja x (belowB e.k (Bn.es x)) y1 m y2)=insB e (its x):=by
  have ho:=l7 (key:=e.k) ok.rows (by rw[<-ga];exact hs);have:=ho.insert;rw[jN hi,<-ga,<-a9] at this;rw[BQ ok _ an,this];simp[List.append_assoc]
 have ar:∀k∈(Bn.ks x).take (belowB e.k (Bn.es x))++y1::y2::(Bn.ks x).drop (belowB e.k (Bn.es x)+1),At S' t k:=fun k hk=>by
  rcases aq.1 hk with hk | hk
  ·exact ks k (aD _ hk)
  ·rcases ah.1 hk with rfl | hk
   ·exact a3
   ·rcases ah.1 hk with rfl | hk
    ·exact a4
    ·exact ks k (aA _ hk)
 refine⟨y1,y2,a1,a2,hp.fit,hp.grew,fun h h1 h2=>hp.fr h (fun q=>h1 (mem_nodes_kid (ao hi) q)) h2,rfl,au,ai,ar,?_,fun h=>?_,⟨_,hr.T ha.1,jJ _ _⟩,?_,?_⟩
 ·rw[vf];rw[nodes_parts hi] at hnd;exact vW hnd a0 (fun h hh=>(ap h).1 hh) (tw hi hU)
 ·have q:=ap h;rw[aq] at q;rw[vf,nodes_parts hi];simp only[aq,q];grind
 ·show (Bn.es x).length<=((Bn.es x).take (belowB e.k (Bn.es x))++m::(Bn.es x).drop (belowB e.k (Bn.es x))).length
  rw[lg an];omega
 ·refine bnLt_of hp.fit (fun d hd=>?_) ar ?_
  ·have ad:d∈insB e (its x):=by rw[<-ai];exact lN au hd
   rcases kg.1 ad with rfl | ad
   ·exact he _ (av ..)
   ·exact hb d ad
  ·rw[ai,insB_length];omega
theorem Mid.put{S S':St}{t d:Nat}{x:Bt (d+1)}{x':Bt (d+1)}(h:Mid S S' o t x e U x')(t2:t<=16)(hl:(Bn.es x').length<2*t):Put S (FC S' (Bn.h x) 0 (v8 t (bn x'))) o t x e U none:=by
 obtain⟨ws,hr,hw⟩:=h.own;have hh:Bt.hd x'=Bn.h x:=h.hd;have hp:=put_node h.fit h.A6 (hd_kids h.nd) (by grind) hw h.lt o_;rw[hh] at hp;obtain⟨p1,p2,p3,p4⟩:=hp;refine⟨p1,(h.grew.T p4).M o_ o_,fun y h1 h2=>(p3 y fun q=>h1 (q▸hd_mem x)).T (h.fr y h1 h2),⟨x',h.hd,p2,h.okN.ok hl,h.grow,h.its,h.nd,h.sub⟩⟩
theorem Mid.cut{S S':St}{t d:Nat}(t1:1<=t)(t2:t<=16){x:Bt (d+1)}{x':Bt (d+1)}(h:Mid S S' o t x e U x')(hl:(Bn.es x').length=2*t){g:Nat}(hg1:g∉U)(hg2:g∉h_ x){wg:List Nat}(hg3:i_ S g=some wg)(hg4:wg.length=6*t):
 Put S (FC (FC S' (Bn.h x) 0 (v8 t (bn (G_ t x')))) g 0 (v8 t (bn (G5 t x' g)))) o t x e (U++[g]) (some ((Bn.es x')[t]' o_,g)):=by
 obtain⟨ws,hr,hw⟩:=h.own;obtain⟨c1,c2,c3,c4,c5⟩:=h.okN.split t1 hl g;have a0:=h.nd;rw[jQ] at a0;obtain⟨n1,n2⟩:=aI.1 a0;have ad:g∉h_ x':=fun q=>((h.sub g).1 q).elim hg2 hg1;have ap:∀k∈Bn.ks (G_ t x'),k∈Bn.ks x':=fun k hk=>bD hk;have an:∀k∈Bn.ks (G5 t x' g),k∈Bn.ks x':=fun k hk=>bB hk;have hh:Bt.hd (G_ t x')=Bn.h x:=h.hd;have eN:((Bn.ks x').map h_).flatten=(((Bn.ks x').take (t+1)).map h_).flatten++(((Bn.ks x').drop (t+1)).map h_).flatten:=by
  conv=>lhs;rw[<-aU (t+1) (Bn.ks x'),aN,cg]
 have au:∀q∈Bn.es x',q.kh<2^64/\q.vh<2^64:=fun q hq=>⟨h.lt.j_ _ (az.2 ⟨q,hq,rfl⟩),h.lt.C9 _ (az.2 ⟨q,hq,rfl⟩)⟩;have ar:=h.lt.size;have ar:(Bt.its x').length<2^64:=ar;rw[c1,ag,aj] at ar;have ai:=h.A6;have a5:iT (bn (G_ t x')):=bnLt_of h.fit (fun q hq=>au q (bD hq)) (fun k hk=>ai k (ap k hk)) o_;have a6:iT (bn (G5 t x' g)):=bnLt_of h.fit (fun q hq=>au q (bB hq)) (fun k hk=>ai k (an k hk)) o_;have hp:=put_node (x:=G_ t x') h.fit (fun k hk=>ai k (ap k hk)) (fun k hk=>by
  show Bn.h x'∉_
  exact hd_kids h.nd k (ap k hk)) (by rw[hh];exact hr) hw a5 (by show ((Bn.es x').take t).length<1000;rw[aK];omega)
 rw[hh] at hp;obtain⟨p1,p2,p3,p4⟩:=hp;have a1:g≠Bn.h x:=fun q=>hg2 (q▸hd_mem x);have a3:i_ (FC S' (Bn.h x) 0 (v8 t (bn (G_ t x')))) g=some wg:=(p3 g a1).T ((h.fr g hg2 hg1).T hg3);have a2:∀k∈Bn.ks (G5 t x' g),At (FC S' (Bn.h x) 0 (v8 t (bn (G_ t x')))) t k:=fun k hk=>(ai k (an k hk)).frame fun y hy=>p3 y fun q=>hd_kids h.nd k (an k hk) (by
  show Bn.h x'∈h_ k
  rw[h.hd,<-q];exact hy)
 obtain⟨r1,r2,r3,r4⟩:=put_node (x:=G5 t x' g) p1 a2 (fun k hk q=>ad (mem_nodes_kid (an k hk) q)) (ws:=wg) a3 hg4 a6 (by show ((Bn.es x').drop (t+1)).length<1000;rw[bT];omega);have r3:∀y,y≠g->_:=r3;have hL:At (FC (FC S' (Bn.h x) 0 (v8 t (bn (G_ t x')))) g 0 (v8 t (bn (G5 t x' g)))) t (G_ t x'):=p2.frame fun y hy=>r3 y fun q=>by
  subst q;refine ad ?_;rw[jQ] at hy⊢
  rcases ah.1 hy with hy | hy
  ·exact hy▸av ..
  ·refine ak _ ?_;rw[eN];exact aD _ hy
 have a4:∀y,y∈h_ (G_ t x')++h_ (G5 t x' g)↔y∈h_ x'\/y=g:=fun y=>by
  rw[jQ x',eN]
  show y∈(Bn.h x'::(((Bn.ks x').take (t+1)).map h_).flatten)++(g::(((Bn.ks x').drop (t+1)).map h_).flatten)↔_
  simp only[aq,ah]
  grind
 refine⟨r1,((h.grew.T p4).T r4).M o_ o_,fun y h1 h2=>?_,⟨G_ t x',G5 t x' g,h.hd,rfl,hL,r2,c2,c3,c4,c5,?_,?_,fun y=>?_⟩⟩
 ·have h3:y∉U/\y≠g:=⟨fun q=>h2 (aD _ q),fun q=>h2 (aA _ (q▸av ..))⟩;exact(r3 y h3.2).T ((p3 y fun q=>h1 (q▸hd_mem x)).T (h.fr y h1 h3.1))
 ·rw[<-h.its,c1]
 ·rw[eN] at n1 n2;obtain⟨m1,m2,m3⟩:=aF.1 n2;rw[jQ x',eN] at ad
  show ((Bn.h x'::(((Bn.ks x').take (t+1)).map h_).flatten)++(g::(((Bn.ks x').drop (t+1)).map h_).flatten)).Nodup
  refine aF.2 ⟨aI.2 ⟨fun q=>n1 (aD _ q),m1⟩,aI.2 ⟨fun q=>ad (ak _ (aA _ q)),m2⟩,fun a ha b hb q=>?_⟩;subst q
  rcases ah.1 ha with rfl | ha
  ·rcases ah.1 hb with hb | hb
   ·exact ad (hb▸av ..)
   ·exact n1 (aA _ hb)
  ·rcases ah.1 hb with rfl | hb
   ·exact ad (ak _ (aD _ ha))
   ·exact m3 a ha a hb rfl
 ·rw[a4 y,h.sub y,aq,aE,or_assoc]
end Bt
end
section
open Go.RowKit Tryz Go.BigFrame Go.Maps Go.WideMaps Lf Tr
open Go.Shelf
variable{L:List Nat}{S:St}{Y:Nat->Prop}{o:Nat->Nat}{ps:Nat}{t:Nat}{v:Value}{w:World}
theorem J8(h:Ig w ps S Y):fy<w.1.size:=by
 obtain⟨pa,pm,ph,pt,v,h⟩:=h;exact h.heap.yl _ (ae (ae (ae (ab rfl))))
theorem qBjaa{P:Prop}(h:P:=by
 rw[ai,if_pos rfl] at this
 injection this with this
 injection this with _ this
 exact absurd this d_):P:=h
theorem Ig.grown{w w':World}{row:Option Nat}(h:Ig w ps S Y)(hg:w.grownBy w' row)(hr:∀g,row=some g->Y g/\g≠fy/\∃cs fr,w.1[g]?=some (.cells cs 61 fr)):Ig w' ps S (fun k=>Y k\/(w.1.size<=k/\k<w'.1.size)):=by
 cases row with
 | none=>exact h.wide ⟨hg.os,hg.tape,hg.output,hg.size,fun k hk=>hg.block k hk s_⟩
 | some g=>
  obtain⟨h1,h2,cs,fr,h3⟩:=hr g rfl;have au:=(gl h3);obtain⟨w2,ad⟩:∃w2:World,w2= { w' with heap:=w'.heap.setIfInBounds g (.cells cs 61 fr) }:=⟨_,rfl⟩;have an:w2.1.size=w'.1.size:=by rw[ad];simp
  have ai:∀k,w2.1[k]?=if g=k then some (.cells cs 61 fr) else w'.1[k]?:=fun k=>by
   rw[ad]
   show (w'.heap.setIfInBounds g _)[k]?=_
   rw[Array.getElem?_setIfInBounds]
   split
   ·rename_i e;subst e;rw[if_pos (by have:=hg.size;omega)]
   ·rfl
  have ap:D_ w w2:=by
   refine⟨by rw[ad];exact hg.os,by rw[ad];exact hg.tape,by rw[ad];exact hg.output,by rw[an];exact hg.size,fun k hk=>?_⟩;rw[ai]
   split
   ·rename_i e;subst e;exact h3.S
   ·rename_i e;exact hg.block k hk (fun q=>e (Option.some.inj q).S)
  have hz:=h.wide ap;rw[an] at hz;obtain⟨pa,pm,ph,pt,v,hz⟩:=hz;refine⟨pa,pm,ph,pt,v,hz.of_keep (by rw[an];exact Nat.le_refl _) fun k hk hc=>?_⟩;have ar:k≠g:=by
   rintro rfl
   rcases hc with hc | rfl | rfl | rfl
   ·exact hc (ab h1)
   ·have:=hz.hd;exact qBjaa
   ·have:=hz.heap.hp;exact qBjaa
   ·exact h2 rfl
  rw[ai,if_neg (fun e=>ar e.S)]
structure lG (S:St) (t:Nat) (L:List Nat):Prop where
 nd:L.Nodup
 recs:∀h∈L,∃ws,i_ S h=some ws/\ws.length=6*t
theorem Eu(hf:Fw S o)(t1:2<=t)(t2:t<=16)(hr:fc S 2 1):
 ∃h S1 o1,S.make (6*t)=((h,0),S1)/\iw S (6*t)/\h<2^64/\S1.len h=(6*t,0)/\Fw (FC S1 h 0 (v8 t bn0)) o1/\i_ S h=none/\(∃ws,i_ (FC S1 h 0 (v8 t bn0)) h=some ws/\ws.length=6*t)/\(∀h',h'≠h->i_ (FC S1 h 0 (v8 t bn0)) h'=i_ S h')/\ej S (FC S1 h 0 (v8 t bn0)) 2 1:=by
 have ap:fa (6*t+2)<=2:=aH (vn o_ o_) o_;have an:=hr.M ap (Nat.le_refl 1);obtain⟨h,S1,o1,ws,e,ad,hn,ai,hl,ho,hg,_⟩:=oz hf (n:=6*t) o_ an;have ar:=rz hf (n:=6*t) o_ an;obtain⟨q1,q2,q3,q4⟩:=mR ad hl (l:=v8 t bn0) (by rw[jJ,ai]) (tQ t);exact⟨h,S1,o1,e,ar,(fL ad hl).2.1,by rw[jw ad.tab hl,ai],q1,hn,⟨_,q2,jJ _ _⟩,fun h' hne=>(q3 h' hne).T (ho h' hne),(hg.T q4).M o_ o_⟩
structure gz (w:World) (bt bl D ps t:Nat) (v:Value) (L:List Nat):Prop where
 box:w.1[bl]?=some (.cells #[v] 59 (0,0))
 tree:w.1[bt]?=some (.cells #[PV ps,Xi t] 145 (0,0))
 row:FE w D v L
 lo:bl<D/\bt<D/\bl≠bt
def iJ(bt bl:Nat)(v:Value):Nat->Prop:=fun k=>k=bt\/k=bl\/v.ownBlock=some k
theorem tU(h:Ig w ps S Y)(hf:Fw S o)(t1:2<=t)(t2:t<=16)(n:Nat)(hn:n<=1000)(hr:fc S (2*n) n):
 Ct 180 #[FH ps t,Xi n] w fun e w'=>e=.returned (.tuple #[.func (.func 214) #[] #[PV (w.1.size+1),PV w.1.size],Xi 0])/\
  ∃S' o' v L,Ig w' ps S' (fun k=>Y k\/iJ w.1.size (w.1.size+1) v k)/\Fo Y w w'/\gz w' w.1.size (w.1.size+1) (w.1.size+2) ps t v L/\Fw S' o'/\L.length=n/\lG S' t L/\(∀h∈L,i_ S h=none)/\(∀h,h∉L->i_ S' h=i_ S h)/\ej S S' (2*n) n:=by
 have B0:=(c_ w (Xc ps t)).alloc s_ (.cells #[n_] 59);have z1:(w.alloc (Xc ps t)).1.size=w.1.size+1:=s_
 have q1:=heap_alloc_new w (Xc ps t);have q2:=heap_alloc_new (w.alloc (Xc ps t)) (.cells #[n_] 59);have q3:=(((aa (w.alloc (Xc ps t)).1.size (w.alloc (Xc ps t))).alloc Ih (.cells #[n_] 59)).block w.1.size s_).T q1;rw[z1] at q2;have hz:((w.alloc (Xc ps t)).alloc (.cells #[n_] 59)).1.size=w.1.size+2:=s_
 have hY:=h.yl;have bq:=J8 h;have bk:=(h.wide B0).M (Z:=fun k=>Y k\/iJ w.1.size (w.1.size+1) n_ k) fun k hk=>hk.imp id fun hk=>by
  rcases hk with rfl | rfl | hk
  ·exact⟨Nat.le_refl _,by rw[hz];omega⟩
  ·exact⟨o_,by rw[hz];omega⟩
  ·cases hk
 have a':=h.w_ B0;generalize hW:(w.alloc (Xc ps t)).alloc (.cells #[n_] 59)=W0 at*;have HG:=kq4 hf hr hY bq;have H0:=kq4 bk a' q2 q3;have HZ:=If hz;unfold FH;clear h hf hr B0 z1 q1 q2 q3 bk a' hY bq hz;go_enter func180,ntmps180;go_wp2_with fail;clear hW;go_loopw [7,8,10,12] (fun _ _ _ s12 wr=>∃j:Nat,j<=n/\s12=Xi j/\Hid (∃S' o' v L,Ig wr ps S' (fun k=>Y k\/iJ w.1.size (w.1.size+1) v k)/\Fo Y w wr/\w.1.size+2<=wr.1.size/\gz wr w.1.size (w.1.size+1) (w.1.size+2) ps t v L/\Fw S' o'/\L.length=j/\lG S' t L/\(∀h∈L,i_ S h=none)/\(∀h,h∉L->i_ S' h=i_ S h)/\ej S S' (2*j) j)) (fun _ _ _ s12 _=>n-(intOf s12).toNat)
 case atStart=>exact⟨0,o_,rfl,S,o,n_,[],H0.a,H0.b,by rw[HZ.O];exact Nat.le_refl _,⟨H0.c,H0.d,World.ownsRow_nil _ _ _ _,o_⟩,HG.a,rfl,⟨dl,fun _ hh=>(nomatch hh)⟩,fun _ hh=>(nomatch hh),fun _ _=>rfl,ej.refl S⟩
 case round=>
  obtain⟨j,b',rfl,I⟩:=hrel;obtain⟨S',o',v,L,st,kp,a6,sp,hf,hL,a2,a1,ar,ai⟩:=I.O;by_cases hlt:j<n
  ·have bx:(j:Int)<n:=o_
   have bf:=(HG.b.M (p':=2*j+2) (q':=j+1) o_ o_).grew ai;obtain⟨hh,S1,o1,e,bd,bv,bb,f2,bc,a7,a5,g2⟩:=Eu hf t1 t2 bf;have au:=zG st hf.inv t1 t2 bd e bv bb;obtain⟨S2,a8⟩:=Ii (FC S1 hh 0 (v8 t bn0));rw[a8] at au f2 a7 a5 g2;unfold eC at au;have t3:=sp.tree;obtain⟨x0,x1⟩:=Fp t3;have HM:=If au;have HI:=kq14 st kp sp f2 hL a2 a1 ar ai bc a7 a5 g2 a6;clear st kp sp hf a2 a1 ar ai bf e bd bb f2 bc a7 a5 g2 au t3 a8 hL a6;go_wp2_with fail;refine HM.O.M ?_;rintro e w1 ⟨rfl,bt,k1⟩;have b1:=(k1.block (w.1.size+1) (ae (ae (ab rfl)))).T HI.c.box;have bu:=(k1.block w.1.size (ae (ab rfl))).T HI.c.tree;have own1:FE w1 (w.1.size+2) v L:=HI.c.row.at fun g e=>k1.block g (ae (ae (ae e)));have a3:w.1.size+2<=w1.1.size:=aH HI.n k1.size;obtain⟨v2,w2,b0,an,ad,bs⟩:=jF own1 (by have:=HI.e;omega) hh a3 59;obtain⟨A2,m2,c2,rfl⟩:=an.slice;have a4:∀g,v.ownBlock=some g->w.1.size+2<=g:=fun g e=>(own1.ge g e).1;have ap:∀k,k<w.1.size+2->w2.1[k]?=w1.1[k]?:=fun k hk=>ad.block k o_ fun e=>by have:=a4 k e.S;omega
   have b2:=(ap (w.1.size+1) o_).T b1;have c0:w1.cell? (y_ (w.1.size+1))=some v:=e_ b1
   have d0:w2.cell? (y_ (w.1.size+1))=some v:=e_ b2
   have f0:w2.frozen? (y_ (w.1.size+1))=false:=AT b2;have bm:=bt.grown ad (fun g e=>⟨ae (ae (ae e)),by have:=a4 g e;have:=HG.d;omega,by
    rcases own1.2 with⟨e0,_⟩ | ⟨g',b4,b9,e0,_,hg,_⟩
    ·rw[e0] at e;cases e
    ·rw[e0] at e;have e:g'=g:=Option.some.inj e;subst e;exact⟨_,_,hg⟩⟩)
   have bo:Ig (w2.setCell (y_ (w.1.size+1)) (.slice A2 m2 c2)) ps S2 (fun k=>Y k\/iJ w.1.size (w.1.size+1) (.slice A2 m2 c2) k):=by
    refine(bm.write (b:=w.1.size+1) (ab (ae (ae (ab rfl)))) b2 ⟨d_,d_⟩ s_ s_ fun k _ hk=>FB hk).M fun k hk=>?_;rcases hk with hk | rfl | rfl | hk
    ·exact ab (ab hk)
    ·exact ab (ae (ab rfl))
    ·exact ab (ae (ae (ab rfl)))
    ·rcases bs with e | ⟨g,e,hg⟩
     ·rw[e] at hk;exact ab (ae (ae (ae hk)))
     ·rw[e] at hk;have hk:g=k:=Option.some.inj hk;subst hk;exact ae ⟨hg,(an.ge g e).2⟩
   have ba:Fo Y w (w2.setCell (y_ (w.1.size+1)) (.slice A2 m2 c2)):=(HI.b.T (k1.M fun k hk=>ab hk)).T ⟨ad.os,ad.tape,ad.output,by simpa using ad.size,fun k hk=>by
    have ca:=HG.c k hk;rw[FB o_];exact ap k o_⟩
   have bj:gz (w2.setCell (y_ (w.1.size+1)) (.slice A2 m2 c2)) w.1.size (w.1.size+1) (w.1.size+2) ps t (.slice A2 m2 c2) (L++[hh]):=
    ⟨heap_setCell b2,(FB o_).T ((ap w.1.size o_).T bu),an.at fun g e=>FB (by have:=(an.ge g e).1;omega),o_⟩
   have a0:hh∉L:=fun hm=>by
    obtain⟨ws,e,_⟩:=HI.f.recs hh hm;rw[HI.j] at e;cases e
   have a9:∃S' o' v L,Ig (w2.setCell (y_ (w.1.size+1)) (.slice A2 m2 c2)) ps S' (fun k=>Y k\/iJ w.1.size (w.1.size+1) v k)/\Fo Y w (w2.setCell (y_ (w.1.size+1)) (.slice A2 m2 c2))/\w.1.size+2<=(w2.setCell (y_ (w.1.size+1)) (.slice A2 m2 c2)).1.size/\gz (w2.setCell (y_ (w.1.size+1)) (.slice A2 m2 c2)) w.1.size (w.1.size+1) (w.1.size+2) ps t v L/\Fw S' o'/\L.length=j+1/\lG S' t L/\(∀h∈L,i_ S h=none)/\(∀h,h∉L->i_ S' h=i_ S h)/\ej S S' (2*(j+1)) (j+1):=by
    refine⟨S2,o1,.slice A2 m2 c2,L++[hh],bo,ba,by rw[size_setCell];exact aH a3 ad.size,bj,HI.d,by rw[ag,HI.e];rfl,⟨?_,fun y hy=>?_⟩,fun y hy=>?_,fun y hy=>?_,(HI.i.T HI.m).M o_ Ih⟩
    ·refine aF.2 ⟨HI.f.nd,s_,fun a ha b hb e=>?_⟩;rw[aE.1 hb] at e;exact a0 (e▸ha)
    ·rcases aq.1 hy with hy | hy
     ·obtain⟨ws,e,hw⟩:=HI.f.recs y hy;exact⟨ws,(HI.l y fun q=>a0 (q▸hy)).T e,hw⟩
     ·rw[aE.1 hy];exact HI.k
    ·rcases aq.1 hy with hy | hy
     ·exact HI.g y hy
     ·rw[aE.1 hy,<-HI.h hh a0];exact HI.j
    ·exact(HI.l y fun q=>hy (aA _ (q▸av ..))).T (HI.h y fun q=>hy (aD _ q))
   have HF:=If a9;clear a9 bm bo ba bj a0 b1 b2 bu own1 an ad bs a4 ap bt k1 a3 x0 x1;go_wp2_with (at_builtin;refine Lib.wpList_append_run _ rfl _ _ _ _ rfl _ _ rfl rfl _ _ b0 ?_)
   go_roundw
   case rel=>exact⟨j+1,o_,s_,HF.O⟩
   case measure=>simp[intOf];omega
  ·obtain rfl:j=n:=o_
   have bx:¬(j:Int)<j:=o_
   have HI:=kq9 st kp sp hf hL a2 a1 ar ai;clear st kp sp hf a2 a1 ar ai hL a6;go_wp2_with fail;go_ret2;exact⟨rfl,S',o',v,HI.a,HI.b,L,HI.O.2.2⟩
theorem FD.keeps{w w':World}{l:List Nat}(h:FD w v l)(e:∀g,v.ownBlock=some g->g<w.1.size->w'.1[g]?=w.1[g]?):FD w' v l:=by
 obtain⟨A,c,rfl,hc⟩:=h;refine⟨A,c,rfl,fun i hi=>?_⟩;obtain⟨g,o,rfl,h1⟩:=hc i hi;exact⟨g,o,rfl,(World.cell?_of_block (e g rfl (fK h1))).T h1⟩
theorem FE.short{D b c:Nat}{g:Nat}(h:FE w D (.slice (some (y_ b)) (L.length+1) c) (L++[g])):FE w D (.slice (some (y_ b)) L.length c) L:=by
 refine⟨by simp[hV],?_⟩
 rcases h.2 with⟨e,_⟩ | ⟨b',c',ad,e,hb,hg,ap,ai,an,ht⟩
 ·cases e
 ·injection e with e1 e2 e3
  injection e1 with e1
  injection e1 with e1
  subst e1 e3;rw[ag,bp] at ap ht;refine ae ⟨b,c,ad,rfl,hb,hg,o_,ai,an,?_⟩;rw[Nat.mul_one] at ht⊢;have h2:(ad.toList.take (L.length+1)).take L.length=(hV (L++[g])).take L.length:=by rw[ht]
  rw[List.take_take,Nat.min_eq_left o_] at h2;rw[h2];unfold hV;rw[aN,List.take_left' s_]
theorem pZ{Z:Nat->Prop}{bt bl D t g:Nat}(h:Ig w ps S Z)(hi:Fv S)(sp:gz w bt bl D ps t v (L++[g]))(zb:Z bl)(zt:Z bt)(zv:∀b,v.ownBlock=some b->Z b)(hL:L.length<=1000)
 {n:BN} {vk vv vc:Value} (hn:iU t n) (hk:FD w vk n.j_) (hv:FD w vv n.C9) (hc:FD w vc n.A6) (nk:∀b,vk.ownBlock=some b->b≠bl) (nv:∀b,vv.ownBlock=some b->b≠bl) (nc:∀b,vc.ownBlock=some b->b≠bl)
 (hg:g<2^64) (hlen:S.len g=(6*t,0)) (hlt:∀x∈v8 t n,x<2^64):
 Ct 214 #[eC vk vv vc n.size,PV bl,PV bt] w fun e w'=>e=.returned (Xu g)/\∃v',Ig w' ps (FC S g 0 (v8 t n)) Z/\Fo (fun k=>Z k/\k≠bl) w w'/\gz w' bt bl D ps t v' L/\v'.ownBlock=v.ownBlock:=by
 have hY:=h.yl;obtain⟨b,c,bf⟩:∃b c,v=.slice (some (y_ b)) (L.length+1) c:=by
  rcases sp.row.2 with⟨_,e⟩ | ⟨b,c,a5,e,_⟩
  ·simp at e
  ·exact⟨b,c,by rw[e];simp⟩
 subst bf;have C_:=sp.row;have a8:=(C_.ge b rfl).1;have a2:=C_.short;have a6:L.length<=c:=by
  rcases C_.2 with⟨e,_⟩ | ⟨b',c',a5,e,hb,bu,bb,bq,bs,ht⟩
  ·cases e
  ·injection e with e1 e2 e3
   subst e3;rw[ag,bp] at bb;omega
 have au:w.cell? (x_ b L.length)=some (Xu g):=by
  have:=World.ownsRow.cells C_ (g:=b) rfl L.length (Xu g) (by simp[hV]);rw[Addr.add_lit] at this;simpa using this
 obtain⟨Ak,ck,rfl,ba⟩:=id hk;obtain⟨Av,cv,rfl,bd⟩:=id hv;obtain⟨Ac,cc,rfl,a'⟩:=id hc;clear ba bd a';have B0:=c_ w (.cells #[.slice Ak n.j_.length ck,.slice Av n.C9.length cv,.slice Ac n.A6.length cc,Xu n.size] 215);have q0:=heap_alloc_new w (.cells #[.slice Ak n.j_.length ck,.slice Av n.C9.length cv,.slice Ac n.A6.length cc,Xu n.size] 215);obtain⟨W0,hW⟩:=Ii (w.alloc (.cells #[.slice Ak n.j_.length ck,.slice Av n.C9.length cv,.slice Ac n.A6.length cc,Xu n.size] 215));rw[hW] at B0 q0;have a3:=h.wide B0;have q1:=(B0.block bl (hY bl zb)).T sp.box;have q2:=(B0.block bt (hY bt zt)).T sp.tree;have c1:=(B0.cell (p:=x_ b L.length) (fK au)).T au;have bc:w.1.size<W0.1.size:=(gl q0);have ap:=sp.lo;have a9:=hY bl zb;have ad:∀k,k≠bl->(W0.setCell (y_ bl) (.slice (some (y_ b)) L.length c)).1[k]?=W0.1[k]?:=fun k hk=>FB hk;have r1:=heap_setCell (i:=0) (v:=.slice (some (y_ b)) L.length c) q1;have a1:=a3.write (w':=W0.setCell (y_ bl) (.slice (some (y_ b)) L.length c)) (b:=bl) (ab zb) q1 ⟨d_,d_⟩ s_ s_ fun k _ hk=>ad k hk;have rk:=hk.keeps (w':=W0.setCell (y_ bl) (.slice (some (y_ b)) L.length c)) fun x e hx=>(ad x (nk x e)).T (B0.block x hx);have rv:=hv.keeps (w':=W0.setCell (y_ bl) (.slice (some (y_ b)) L.length c)) fun x e hx=>(ad x (nv x e)).T (B0.block x hx);have rc:=hc.keeps (w':=W0.setCell (y_ bl) (.slice (some (y_ b)) L.length c)) fun x e hx=>(ad x (nc x e)).T (B0.block x hx);have ar:=Jg a1 hi hn rk rv rc g hg hlen hlt;have t1:=(ad bt (fun e=>ap.2.2 e.S)).T q2;have t0:=(ad w.1.size o_).T q0;have ai:Fo (fun k=>Z k/\k≠bl) w (W0.setCell (y_ bl) (.slice (some (y_ b)) L.length c)):=(Fo.v_ B0 fun k hk=>hY k hk.1).T ⟨rfl,rfl,rfl,s_,fun k hk=>ad k hk.2⟩;have an:FE (W0.setCell (y_ bl) (.slice (some (y_ b)) L.length c)) D (.slice (some (y_ b)) L.length c) L:=a2.at fun x e=>(ad x (by have:b=x:=Option.some.inj e;omega)).T (B0.block x (by have:b=x:=Option.some.inj e;subst this;exact fK au));have a0:=zv b rfl;unfold eC at ar⊢;generalize n.j_.length=lk at*;generalize n.C9.length=lv at*;generalize n.A6.length=lc at*;generalize n.size=sz at*;have l0:(W0).cell? (y_ bl)=some (.slice (some (y_ b)) (L.length+1) c):=e_ q1
 have f0:(W0).frozen? (y_ bl)=false:=AT q1;obtain⟨N,hN⟩:=Ii L.length;rw[hN] at a6 hL c1 l0 ar r1 t1 t0 ai an rk rv rc a1 ad;obtain⟨W1,a7⟩:=Ii (W0.setCell (y_ bl) (.slice (some (y_ b)) N c));rw[a7] at ar r1 t1 t0 ai an;obtain⟨x0,x1⟩:=Fp t1;obtain⟨y0,y1,y2,y3⟩:=Fy t0;have HP:=If ar;have HF:=kq9 r1 t1 ai an zb zt a0 ap hN;have bj:((N:Int)+1==0)=false:=m_
 have bk:¬((N:Int)+1=0):=o_
 have bm:IntKind.i64.wrap ((N:Int)+1-1)=N:=by rw[Int.add_sub_cancel];exact ax _ o_
 have bo:(N:Int)<(N:Int)+1:=o_
 clear h hi sp zb zt zv hn hk hv hc nk nv nc hlen hlt hY C_ a8 a2 au B0 q0 a3 q1 q2 bc ap a9 ad r1 a1 rk rv rc ar t1 t0 ai an a0 hN;go_enter func214,ntmps214;go_wp2_with fail;refine HP.O.M ?_;rintro e w2 ⟨rfl,a4,k2⟩;have HS:=kq2 a4 k2;clear a4 k2;go_wp2_with fail;go_ret;obtain⟨r1,t1,ai,an,zb,zt,a0,ap,hN⟩:=HF.O;have k2:=HS.b;refine⟨rfl,.slice (some (y_ b)) N c,HS.a.M fun k hk=>ab hk,ai.T (k2.M fun k hk=>ab hk.1),⟨(k2.block bl (ab zb)).T r1,(k2.block bt (ab zt)).T t1,an.at fun x e=>k2.block x (by have:b=x:=Option.some.inj e;subst this;exact ab a0),ap⟩,rfl⟩
end
section
open Go.RowKit Tryz Go.BigFrame Go.Maps Go.WideMaps Lf Tr
theorem zO(w:World)(ps t:Nat)(key:List UInt8):
 Cb 181 #[FH ps t,Xu 0,SV key] w (Xi 1):=by
 have B0:=c_ w (Xc ps t);have HB:=If B0;clear B0;unfold FH;go_enter func181,ntmps181;go_wp2_with fail;go_ret;exact⟨rfl,HB.O⟩
theorem tT {w:World}{ps:Nat}{S:St}{Y:Nat->Prop}(h:Ig w ps S Y)(hi:Fv S){t:Nat}(t1:2<=t)(t2:t<=16)(hh:Nat)(hl:hh<2^64)(hlen:S.len hh=(0,7))(key:List UInt8):
 Cb 210 #[FH ps t,Xu hh,SV key] w (.tuple #[i7 none,.bool (none:Option It).isSome,Xi (0:Nat)]):=by
 have B0:=(c_ w (Xc ps t)).alloc s_ (.cells #[Xu 0,Xu 0] 104);have z1:(w.alloc (Xc ps t)).1.size=w.1.size+1:=s_
 have q1:=heap_alloc_new w (Xc ps t);have q2:=heap_alloc_new (w.alloc (Xc ps t)) (.cells #[Xu 0,Xu 0] 104);have q3:=(((aa (w.alloc (Xc ps t)).1.size (w.alloc (Xc ps t))).alloc Ih (.cells #[Xu 0,Xu 0] 104)).block w.1.size s_).T q1;rw[z1] at q2;have hz:w.1.size+2<=((w.alloc (Xc ps t)).alloc (.cells #[Xu 0,Xu 0] 104)).1.size:=s_
 generalize hW:(w.alloc (Xc ps t)).alloc (.cells #[Xu 0,Xu 0] 104)=W0 at*;have ad:=nQ (h.a_ B0) hi t1 t2 hh hl hlen;unfold FH eC at ad;unfold FH;have HG:=kq2 (kq4 B0 q2 q3 hz) ad;clear ad h hi B0 q1 q2 q3 z1 hz hlen;go_enter func210,ntmps210;go_wp2_with fail;clear hW
 go_loopw [1,7,8,9,10,11,12,13,14] (fun s1 s7 s8 _ _ _ _ _ s14 wr=>s1=Xu hh/\s7=.bool false/\s8=Xi 0/\s14=Xi 0/\wr=W0) (fun _ _ _ _ _ _ _ _ _ _=>0)
 case atStart=>exact⟨rfl,rfl,rfl,rfl,rfl⟩
 case round=>
  obtain⟨rfl,rfl,rfl,rfl,rfl⟩:=hrel;have t3:=HG.a.c;obtain⟨x0,x1⟩:=Fp t3;clear t3;go_wp2_with fail;refine dR HG.b fun w1 hb=>?_;have A1:=c_ w1 (.cells #[n_,n_,n_,Xu 0] 215);have q6:=(hb.block (w.1.size+1) (by have:=HG.a.d;omega)).T HG.a.b;have r6:=(A1.block (w.1.size+1) (gl q6)).T q6;have HB:=kq2 (HG.a.a.T ((b_ hb A1).M HG.a.a.size)) r6;obtain⟨z0,z1⟩:=Fp r6;obtain⟨f0,f1⟩:=ef r6;clear hb A1 q6 r6;go_wp2_with fail;generalize w1.alloc (.cells #[n_,n_,n_,Xu 0] 215)=WX at*;have eW:=ew HB.b (Xu 0) (Xu 0);have BF:=eT HB.a (b:=w.1.size+1) o_ (Xu 0) (Xu 0);generalize ((WX.setCell (y_ (w.1.size+1)) (Xu 0)).setCell (x_ (w.1.size+1) 1) (Xu 0))=WF at*;obtain⟨e0,e1⟩:=Fp eW;exact bodyPost_ret (v:=.tuple #[.agg #[Xu 0,Xu 0],.bool false,Xi 0]) (by simp[results,f210,go_sem,e0,e1]) rfl ⟨rfl,BF⟩
end
section
open Go.RowKit Tryz Go.BigFrame Go.Maps Go.WideMaps Lf Tr
open Go.Shelf
variable{S:St}{Y:Nat->Prop}{l:List Nat}{v:Value}{w:World}
theorem FE.block{B:Nat}(h:FE w B v l){g:Nat}(hg:v.ownBlock=some g):B<=g/\g<w.1.size/\∃cs fr,w.1[g]?=some (.cells cs 61 fr):=by
 rcases h.2 with⟨e,_⟩ | ⟨b,c,ad,e,hb,ai,ar,an,ap,ht⟩
 ·rw[e] at hg
  cases hg
 ·rw[e] at hg
  cases hg
  grind
structure kG (w w':World) (B ps:Nat) (S:St) (Y:Nat->Prop) (v v':Value) (l':List Nat):Prop where
 own:FE w' B v' l'
 st:Ig w' ps S (fun k=>Y k\/(w.1.size<=k/\k<w'.1.size))
 grown:w.grownBy w' v.ownBlock
 at':v'.ownBlock=v.ownBlock\/∃g,v'.ownBlock=some g/\w.1.size<=g
theorem kG.u_{w w':World}{B ps:Nat}{v v':Value}{l':List Nat}(h:kG w w' B ps S Y v v' l'){k:Nat}(hk:k<w.1.size)(hne:v.ownBlock≠some k):w'.1[k]?=w.1[k]?:=h.grown.block k hk (Ne.S hne)
theorem kG.w_{w w':World}{B ps:Nat}{v v':Value}{l':List Nat}(h:kG w w' B ps S Y v v' l'){Z:Nat->Prop}(hz:∀k,Z k->k<w.1.size/\v.ownBlock≠some k):Fo Z w w':=
 ⟨h.grown.os,h.grown.tape,h.grown.output,h.grown.size,fun k hk=>h.grown.block k (hz k hk).1 (Ne.S (hz k hk).2)⟩
theorem kG.row{w w':World}{B ps:Nat}{v v':Value}{l':List Nat}(h:kG w w' B ps S Y v v' l'){B2:Nat}{u:Value}{l2:List Nat}(hu:FE w B2 u l2)(hne:∀g,u.ownBlock=some g->v.ownBlock≠some g):FE w' B2 u l2:=
 hu.at fun x e=>h.u_ (hu.block e).2.1 (hne x e)
theorem uT{B ps:Nat}(h:Ig w ps S Y)(ho:FE w B v l)(hY:∀g,v.ownBlock=some g->Y g)(htab:fy<B)(hl:l.length<=1000){i:Nat}(hi:i<=l.length){x vb:Nat}(hx:w.1[vb]?=some (.cells #[Xu x] 61 (0,0)))(hne:v.ownBlock≠some vb)(hB:B<=w.1.size):
 Ct 215 #[v,Xi i,.slice (some (y_ vb)) 1 1] w fun e w'=>∃v',e=.returned v'/\kG w w' B ps S Y v v' (l.take i++x::l.drop i):=by
 refine(Bj ho hl hi hx hne hB).M ?_;rintro e w' ⟨v',rfl,h1,h2,h3⟩;refine⟨v',rfl,h1,h.grown h2 fun g hg=>?_,h2,h3⟩;obtain⟨hb,_,hc⟩:=ho.block hg;grind
end
section
open Go.RowKit Tryz Go.BigFrame Go.Maps Go.WideMaps Lf Tr
def JW(x:It×Nd):Array Value:=#[Xu x.1.h,eS x.2]
def mA(n0:Nat)(X:Nat->Prop)(W W':World):Prop:=Below n0 W W'/\∀k o,X k->W.1[k]?=some o->W'.1[k]?=some o
theorem mA.refl(n0:Nat)(X:Nat->Prop)(W:World):mA n0 X W W:=⟨aa _ _,fun _ _ _ e=>e⟩
theorem mA.T {n0:Nat}{X:Nat->Prop}{A B C:World}(h:mA n0 X A B)(k:mA n0 X B C):mA n0 X A C:=⟨h.1.T (k.1),fun g o hx e=>k.2 g o hx (h.2 g o hx e)⟩
theorem mA.eq {n0 k:Nat}{X:Nat->Prop}{A B:World}(h:mA n0 X A B)(hx:X k)(hk:k<A.1.size):B.1[k]?=A.1[k]?:=(h.2 k _ hx (bY hk)).T (bY hk).S
structure m9 (w0:World) (D ps Bs Br:Nat) (J:(Nat->Prop)->List (It×Nd)->World->Prop) (pre:List (It×Nd)) (f9:Nat) (v:Value) (st:List Nat) (W:World):Prop where
 ex:∃X,J X pre W/\(∀g,v.ownBlock=some g->X g)/\X Bs/\X Br
 bl:D_ w0 W
 own:FE W D v st
 cs:W.1[Bs]?=some (Xg ps)
 cr:W.1[Br]?=some (Xf f9)
 lo:w0.1.size<=Bs/\w0.1.size<=Br/\Bs≠Br/\Bs<D/\Br<D/\D<=W.1.size
set_option maxRecDepth 4000
section
variable {w0 W W':World}{D ps Bs Br f9:Nat}{J:(Nat->Prop)->List (It×Nd)->World->Prop}{pre:List (It×Nd)}{v:Value}{st:List Nat}
theorem m9.a_(hJ:Ka D J)(h:m9 w0 D ps Bs Br J pre f9 v st W)(hb:D_ W W'):m9 w0 D ps Bs Br J pre f9 v st W':=by
 obtain⟨X,h1,h2,h3,h4⟩:=h.ex;have lt:∀{k o},W.1[k]?=some o->W'.1[k]?=some o:=fun e=>(hb.block _ (gl e)).T e;have ad:=hb.size;have:=h.lo;exact⟨⟨X,hJ X X pre W W' none h1 (lf hb) (fun r e=>by cases e) (fun _ hk=> .inl hk),h2,h3,h4⟩,b_ h.bl hb,h.own.at fun g e=>hb.block g (h.own.ge g e).2,lt h.cs,lt h.cr,o_⟩
theorem m9.write(hJ:Ka D J)(h:m9 w0 D ps Bs Br J pre f9 v st W)(r:Nat):m9 w0 D ps Bs Br J pre r v st (W.setCell (y_ Br) (Xu r)):=by
 obtain⟨X,h1,h2,h3,h4⟩:=h.ex;have ad:=h.lo;refine⟨⟨X,hJ X X pre W _ (some Br) h1 (grownBy_setCell' W Br _) (fun r e=>by grind) (fun _ hk=> .inl hk),h2,h3,h4⟩,h.bl.T ⟨rfl,rfl,rfl,s_,fun k hk=>FB o_⟩,h.own.at fun g e=>FB (by have:=(h.own.ge g e).1;omega),(FB ad.2.2.1).T h.cs,heap_setCell (i:=0) (v:=Xu r) h.cr,by simp_all⟩
theorem m9.push(hJ:Ka D J)(h:m9 w0 D ps Bs Br J pre f9 v st W)(hl:st.length<=100000)(x:Nat)(ty:TypeId):
 ∃A m c,v=.slice A m c/\∃A2 m2 c2 W2,(Builtin.append_ #[59,59] ty #[.slice A m c,.slice (some (y_ W.1.size)) 1 1]).run prog (W.alloc (Xf x))=.ok (.slice A2 m2 c2) W2/\m9 w0 D ps Bs Br J pre f9 (.slice A2 m2 c2) (st++[x]) W2/\∀k,k<W.1.size->v.ownBlock≠some k->W2.1[k]?=W.1[k]?:=by
 obtain⟨X,h1,h2,h3,h4⟩:=h.ex;have ai:=h.lo;obtain⟨v2,W2,ap,an,ad,au⟩:=jF h.own hl x ai.2.2.2.2.2 ty;obtain⟨A,m,c,rfl⟩:=h.own.slice;obtain⟨A2,m2,c2,rfl⟩:=an.slice;have hk:∀k,k<D->W2.1[k]?=W.1[k]?:=fun k hk=>ad.block k o_ fun e=>by have:=(h.own.ge k e.S).1;omega
 have ar:=ad.size;have hx:∀k,(X k\/(Value.slice A2 m2 c2).ownBlock=some k)->X k\/W.1.size<=k/\k<W2.1.size:=fun k hk=>by
  rcases hk with hk | hk
  ·grind
  ·have hlt:=(an.ge k hk).2
   grind
 refine⟨A,m,c,rfl,A2,m2,c2,W2,ap,⟨⟨fun k=>X k\/(Value.slice A2 m2 c2).ownBlock=some k,hJ X _ pre W W2 _ h1 ad (fun r e=> .inl (h2 r e)) hx,fun g e=> .inr e,.inl h3,.inl h4⟩,h.bl.T ⟨ad.os,ad.tape,ad.output,ar,fun k q=>hk k o_⟩,an,(hk _ ai.2.2.2.1).T h.cs,(hk _ ai.2.2.2.2.1).T h.cr,o_⟩,fun k hk hne=>ad.block k hk fun e=>hne e.S⟩
theorem m9.pop {x:Nat}(h:m9 w0 D ps Bs Br J pre f9 v (st++[x]) W):
 ∃b c,v=.slice (some (y_ b)) (st.length+1) c/\st.length+1<=c/\W.cell? (x_ b st.length)=some (Xu x)/\m9 w0 D ps Bs Br J pre f9 (.slice (some (y_ b)) st.length c) st W:=by
 obtain⟨b,c,e,hc⟩:∃b c,v=.slice (some (y_ b)) (st++[x]).length c/\(st++[x]).length<=c:=by
  rcases h.own.2 with⟨_,e0⟩ | ⟨b,c,ad,e,_,_,ai,_⟩
  ·simp at e0
  grind
 rw[ag,bp] at e hc;subst e;have ho:FE W D (.slice (some (y_ b)) (st.length+1) c) (st++[x]):=h.own;obtain⟨X,h1,h2,h3,h4⟩:=h.ex;refine⟨b,c,rfl,hc,?_,⟨X,h1,h2,h3,h4⟩,h.bl,ho.short,h.cs,h.cr,h.lo⟩;rw[<-(World.ownsRow.cells h.own (g:=b) rfl st.length (Xu x) (by simp[hV]))];unfold Addr.add
 cases st<;>simp
theorem m9.yield {F:Fence}{m l:Nat}{P:Program}{x:It×Nd}{S:List (It×Nd)->Prop}(o:Obj)(hJ:Ka D J)(hY:∀X pre x W1,J X pre W1->(∃r,S (pre++x::r))->YieldAt F m P l (JW x) W1 fun e W'=>e=.returned (.bool true)/\J X (pre++[x]) W'/\mA w0.1.size X W1 W')(h:m9 w0 D ps Bs Br J pre f9 v st W)(hl:∃r,S (pre++x::r)):
 YieldAt F m P l (JW x) (W.alloc o) fun e W'=>e=.returned (.bool true)/\m9 w0 D ps Bs Br J (pre++[x]) f9 v st W'/\W'.1[W.1.size]?=some o:=by
 obtain⟨X,h1,h2,h3,h4⟩:=h.ex;have hb:D_ W (W.alloc o):=(aa _ _).alloc Ih _;refine(hY _ pre x _ (hJ X (fun k=>X k\/k=W.1.size) pre W _ none h1 (lf hb) (fun r e=>by cases e) (fun k hk=>hk.imp id fun e=>by simp_all)) hl).M ?_;rintro e W' ⟨rfl,hj,ad⟩;have an:=ad.1.size;have ai:=h.bl.size;have:=h.lo;have lt:∀{k c},W.1[k]?=some c->(W.alloc o).1[k]?=some c:=fun e=>(hb.block _ (gl e)).T e;exact⟨rfl,⟨⟨_,hj,fun g e=> .inl (h2 g e),.inl h3,.inl h4⟩,(h.bl.T (hb.M ai)).T ad.1,h.own.at fun g e=>(ad.eq (.inl (h2 g e)) (aB (h.own.ge g e).2 hb.size)).T (hb.block g (h.own.ge g e).2),ad.2 _ _ (.inl h3) (lt h.cs),ad.2 _ _ (.inl h4) (lt h.cr),by rw[World.size_alloc] at an;omega⟩,ad.2 _ _ (.inr rfl) (World.alloc_heap_new _ _)⟩
end
theorem Kg {F:Fence}{n:Nat}{P:Program}(w:World){ops:Array Oper}{rest:List Oper}{o:Oper}{a:Act}{Q:Exit->Act->World->Prop}
 (hg:o.guard=none) (s x:Operand) (t tn:TypeId) (hop:o.op=Op.call { callee:=Callee.builtin Builtin.append,args:=#[s,x],argTypes:=#[t,tn] })
 (vs vx:Value) (hs:a.eval s=vs) (hx:a.eval x=vx) (v':Value) (w':World) (hr:(Builtin.append_ #[t,tn] o.type #[vs,vx]).run P w=.ok v' w') (h:wpListIn F n P ops Q rest (a.put o.dst v') w'):wpListIn F n P ops Q (o::rest) a w:=by
 refine wpListIn_plain hg fun K hK'=>?_;refine⟨?_,?_⟩
 ·simp[Oper.about,hop,resolve,Target.leads,Sem.run_pure]
 ·rw[Oper.semAt_plain F _ _ (by rw[hop];intro c hc';cases hc')];simp[execOp,hop,resolve,invoke,builtin,hs,hx,hr,Result.andThen]
  exact hK' _ _ h
def Km:Value->Nat
 | .slice _ m _=>m
 | _=>0
theorem Tr.st_late:∀{st:List Tr},(∀x∈st,x≠ .nil)->st.length<=(st.flatMap late).length
 | [],_=>Nat.le_refl _
 | .nil::_,h=>absurd rfl (h _ (av ..))
 | .node l d m r::st,h=>by
  have:=st_late (st:=st) fun x hx=>h x (ak _ hx);simp only[co,late,ag,aj];omega
theorem Tr.is_node:∀t:Tr,t=.nil\/∃l d m r,t=.node l d m r
 | .nil=> .inl rfl
 | .node l d m r=> .inr ⟨l,d,m,r,rfl⟩
theorem LA {α:Type}:∀st:List α,st=[]\/∃x st',st=x::st'
 | []=> .inl rfl
 | x::st=> .inr ⟨x,st,rfl⟩
theorem J5(n:Nd):eS n=.agg #[Xu n.key,Xu n.val,Xu n.left,Xu n.right,Xu n.mark,Xu n.size]:=rfl
theorem Ls {w0 w:World}{ps:Nat}{S:St}{o:Nat->Nat}{Y:Nat->Prop}{t:Tr}(h:Ig w0 ps S Y)(hf:Fw S o)(ha:Tr.At S t)(hN:t.h_.length<A_ S)(hN2:t.h_.length<=1000)(Bs Br:Nat)(hb:D_ w0 w)(lo:w0.1.size<=Bs/\w0.1.size<=Br/\Bs≠Br/\Bs<w.1.size/\Br<w.1.size)(cs:w.1[Bs]?=some (Xg ps))(cr:w.1[Br]?=some (Xf t.f9)):
 Kv Fence.wide 6 prog 161 #[PV Bs,PV Br] JW (mA w0.1.size) (fun k=>k=Bs\/k=Br) (fun xs=>xs=t.h_) w:=fun l J W hW hJ hY h0=>by
 have c6:Fence.wide.fn 162:=trivial;have c5:Fence.wide.fn 76:=trivial;have a':=b_ hb hW;have bu:CallsIn Fence.wide 5 prog 162 #[PV ps] W _:=callsIn_wide.2 (sX (h.a_ a'));have hL:1<=A_ S/\A_ S<=40000:=by have:=nB h;unfold A_;omega
 generalize A_ S=L at*;have cs:=(hW.block Bs lo.2.2.2.1).T cs;have cr:=(hW.block Br lo.2.2.2.2).T cr;have ck:=hW.size;have hI:m9 w0 W.1.size ps Bs Br J [] t.f9 n_ [] W:=⟨⟨_,h0,(fun g e=>nomatch e),.inl rfl,.inr rfl⟩,a',World.ownsRow_nil _ _ _ _,cs,cr,o_⟩;have HJ:=kq6 hJ hI hf ha hY h;have c0:(W).cell? (y_ Bs)=some (PV ps):=e_ cs
 obtain⟨N,bc⟩:=Ii t.h_.length;rw[bc] at hN hN2;have HN:=If bc;clear hI hW hJ hY h0 hb lo cs cr h hf ha a' ck bc;refine callsIn_of_wp func161 rfl trivial ?_ rfl;simp only[ntmps161,aS,aj,aL,Nat.reduceAdd,Nat.reduceSub,aO,aP,aT,aR,aX,aJ];gi_wp2_with fail;refine bu.M ?_;rintro e w1 ⟨rfl,bm⟩;have H1:=If (m9.a_ HJ.a HJ.b bm);clear bm bu c0;have cv:(0:Int)<L:=o_
 gi_wp2_with fail;gi_loopw [4,6,7,8,9,10,11] (fun s4 s6 _ _ _ _ _ wr=>∃(k:Nat) (ad:List (It×Nd)) (r:Tr) (st:List Tr),s6=Xi k/\k=ad.length+st.length/\Hid (m9 w0 W.1.size ps Bs Br J ad r.f9 s4 (st.map topH).reverse wr/\ad++restN r st=t.h_/\Tr.At S r/\(∀x∈st,Tr.At S x)/\∀x∈st,x≠ .nil)) (fun s4 s6 _ _ _ _ _ _=>N+Km s4-(intOf s6).toNat)
 case atStart=>exact⟨0,[],t,[],rfl,rfl,H1.O,by simp[restN],HJ.d,(fun x hx=>nomatch hx),(fun x hx=>nomatch hx)⟩
 case round=>
  obtain⟨k,ad,r,st,rfl,hk,J0⟩:=hrel;have a7:ad.length+st.length<=N:=by
   have e:=congrArg List.length J0.O.2.1;rw[HN.O,ag] at e;have:=st_late J0.O.2.2.2.2;unfold restN at e;rw[ag] at e;omega
  have ch:(k:Int)<L:=o_
  obtain⟨p,hp⟩:=Ii ad.length;rw[hp] at hk a7;have HP:=If hp;have HL:=If (show Km u4=st.length by
   obtain⟨A,c,e⟩:=J0.O.1.own.E_;rw[e];simp[Km])
  have HK:=If hk;clear hk;gi_wp2_with fail;gi_loopw [4,6,7,8] (fun s4 s6 _ _ wr=>∃(k:Nat) (r:Tr) (st:List Tr),s6=Xi k/\k=p+st.length/\Hid (m9 w0 W.1.size ps Bs Br J ad r.f9 s4 (st.map topH).reverse wr/\ad++restN r st=t.h_/\Tr.At S r/\(∀x∈st,Tr.At S x)/\∀x∈st,x≠ .nil)) (fun _ s6 _ _ _=>N-(intOf s6).toNat)
  case atStart=>exact⟨k,r,st,rfl,HK.O,J0.O⟩
  case round=>
   obtain⟨k,r,st,rfl,hk,J1⟩:=hrel;have a7:p+(r.h_.length+st.length)<=N:=by
    have e:=congrArg List.length J1.O.2.1;rw[HN.O,ag,HP.O] at e;have:=st_late J1.O.2.2.2.2;unfold restN at e;rw[ag] at e;omega
   have ch:(k:Int)<L:=o_
   have c7:k<=N:=o_
   have a8:=If hk;clear hk;have cs:=J1.O.1.cs;have cr:=J1.O.1.cr;have c0:(wr).cell? (y_ Bs)=some (PV ps):=e_ cs
   have b0:(wr).cell? (y_ Br)=some (Xu r.f9):=e_ cr
   have HQ:=kq2 cs cr;rcases is_node r with rfl | ⟨l',d,m,r',rfl⟩
   ·--nothing more to the left
    replace b0:wr.cell? (y_ Br)=some (Xu 0):=b0
    rcases LA st with rfl | ⟨x,ar,rfl⟩
    ·obtain⟨A,c,rfl⟩:=J1.O.1.own.E_;have cb:ad=t.h_:=by
      have:=J1.O.2.1;rw[restN_nil,aW] at this;exact this
     have HF:=kq2 cb J1.O.1.ex;gi_wp2_with fail;refine bodyPost_ret (results_none rfl _ _ _) rfl ?_;obtain⟨e1,X,hj,_⟩:=HF.O;exact⟨⟨_,rfl⟩,X,ad,e1,hj⟩
    ·rcases is_node x with rfl | ⟨l2,d2,m2,r2,rfl⟩
     ·exact absurd rfl (J1.O.2.2.2.2 _ (av ..))
     have bx:((Tr.node l2 d2 m2 r2::ar).map topH).reverse=(ar.map topH).reverse++[d2.h]:=by simp[topH]
     have ba:=J1.O.1;rw[bx] at ba;have a6:(ar.map topH).reverse.length=ar.length:=s_
     obtain⟨bb,cc,rfl,b',ca,hI⟩:=ba.pop;obtain⟨n,hn⟩:=Ii (ar.map topH).reverse.length;rw[hn] at b' ca hI a6;rw[hn];have bf:=If (show k=p+(n+1) by rw[a8.O,aj,a6]);have a4:=J1.O.2.2.2.1 _ (av ..);have a1:=a4.f_ HJ.c;have ai:CallsIn Fence.wide 5 prog 76 #[PV ps,Xu d2.h] wr _:=callsIn_wide.2 (iO (HJ.f.a_ hI.bl) HJ.c.inv d2.h ((fL HJ.c a4.1).2.1));rw[a1] at ai;obtain⟨nn,an⟩:=Ii (Tr.nd l2 d2 m2 r2);have b1:nn.right=r2.f9:=by rw[<-an];rfl
     have bk:ad++(d2,nn)::restN r2 ar=t.h_:=by
      rw[<-an,<-restN_pop];exact J1.O.2.1
     rw[an] at ai;have HG:=kq6 ai hI b1 bk a4 a6;have HU:=If (show p+(n+1)<=N by rw[aj] at a7;omega);have c9:n<=1000:=by have:=HU.O;omega
     have cw:((n:Int)+1==0)=false:=m_
     have hN2:¬((n:Int)+1=0):=o_
     have cx:IntKind.i64.wrap ((n:Int)+1-1)=n:=by rw[Int.add_sub_cancel];exact ax _ o_
     have c3:(n:Int)<(n:Int)+1:=o_
     clear bx ba a6 hn a4 a1 ai an b1 bk hI a7;gi_wp2_with fail;refine HG.a.M ?_;rintro e w2 ⟨rfl,a5⟩;have au:=HG.b.a_ HJ.a a5;have a0:(w2).cell? (y_ Bs)=some (PV ps):=e_ au.cs
     have b2:=If au;rw[J5];obtain⟨fn,dc,cp,cq,hy,b4⟩:=m9.yield (S:=fun xs=>xs=t.h_) (Xb nn.key nn.val nn.left nn.right nn.mark nn.size) HJ.a HJ.e b2.O ⟨_,HG.d⟩;dsimp only[JW] at hy
     rw[J5] at hy;gi_wp2_with fail;refine b4.M ?_;rintro e w4 ⟨rfl,ap,b9⟩;have cr:=ap.cr;obtain⟨g0,g1,g2,g3,g4,g5⟩:=ia b9;have e0:(w4).cell? (y_ Br)=some (Xu (Tr.f9 .nil:Nat)):=e_ cr
     have f0:(w4).frozen? (y_ Br)=false:=AT cr;have H4:=If ap;gi_wp2_with fail;go_roundw
     case rel=>
      refine⟨k,ad++[(d2,nn)],r2,ar,rfl,?_,?_⟩
      ·rw[bf.O,ag,bp,HP.O,<-HG.f];omega
      ·rw[HG.c];refine⟨H4.O.write HJ.a r2.f9,?_,HG.e.2.2,fun x hx=>J1.O.2.2.2.1 x (ak _ hx),fun x hx=>J1.O.2.2.2.2 x (ak _ hx)⟩;rw[aV];exact HG.d
     case measure=>
      rw[HL.O];have:=HK.O;have:=HU.O;have:=bf.O;simp[Km,intOf]
      omega
   ·have a3:=J1.O.2.2.1;have a1:=a3.f_ HJ.c;have bq:=fL HJ.c a3.1;have c4:((d.h:Int) !=0)=true:=by have:=bq.1;simp;omega
    have ai:CallsIn Fence.wide 5 prog 76 #[PV ps,Xu d.h] wr _:=callsIn_wide.2 (iO (HJ.f.a_ J1.O.1.bl) HJ.c.inv d.h bq.2.1);rw[a1] at ai;obtain⟨nn,an⟩:=Ii (Tr.nd l' d m r');have hlt:nn.left=l'.f9:=by rw[<-an];rfl
    rw[an] at ai;replace b0:wr.cell? (y_ Br)=some (Xu d.h):=b0
    have bt:(st.map topH).reverse.length<=1000:=m_
    have HG:=kq4 ai hlt a3 bt;clear a3 a1 ai an hlt bt;gi_wp2_with fail;refine HG.a.M ?_;rintro e w2 ⟨rfl,a5⟩;have au:=J1.O.1.a_ HJ.a a5;obtain⟨W3,bj⟩:=Ii (w2.alloc (Xb nn.key nn.val nn.left nn.right nn.mark nn.size));have bo:D_ w2 W3:=by rw[<-bj];exact(aa _ _).alloc Ih _
    have bd:W3.1[w2.1.size]?=some (Xb nn.key nn.val nn.left nn.right nn.mark nn.size):=by rw[<-bj];exact World.alloc_heap_new _ _
    have a2:=au.a_ HJ.a bo;obtain⟨A,mm,c,rfl,A2,cn,c2,W4,cj,ap,bs⟩:=a2.push HJ.a (by have:=HG.d;omega) d.h 59;have a0:(W3).cell? (y_ Bs)=some (PV ps):=e_ a2.cs
    have q0:(W3).cell? (y_ Br)=some (Xu d.h):=e_ a2.cr
    have a9:=ap.cr;obtain⟨g0,g1,g2,g3,g4,g5⟩:=ia ((bs _ (gl bd) (fun e=>by have:=(au.own.ge _ e).2;omega)).T bd);have e0:(W4).cell? (y_ Br)=some (Xu (Tr.node l' d m r').f9):=e_ a9
    have f0:(W4).frozen? (y_ Br)=false:=AT a9;have bv:cn=st.length+1:=by
     obtain⟨A',c',e⟩:=ap.own.E_;cases e
     simp
    have H4:=kq2 ap bv;rw[J5];clear a5 au bo bd a2 ap bs a9 c0 b0 bv;gi_wp2_with (gi_at_builtin;refine Kg _ rfl _ _ _ _ rfl _ _ rfl rfl _ _ cj ?_)
    go_roundw
    case rel=>
     refine⟨k+1,l',Tr.node l' d m r'::st,s_,by have:=a8.O;rw[aj];omega,?_⟩;rw[HG.b];refine⟨?_,by rw[restN_push];exact J1.O.2.1,HG.c.2.1,fun x hx=>?_,fun x hx=>?_⟩
     ·have:=H4.a.write HJ.a l'.f9;rw[bi,List.reverse_cons];exact this
     ·rcases ah.1 hx with rfl | hx
      ·exact J1.O.2.2.1
      ·exact J1.O.2.2.2.1 x hx
     ·rcases ah.1 hx with rfl | hx
      ·exact fun e=>Tr.noConfusion e
      ·exact J1.O.2.2.2.2 x hx
    case measure=>
     have:1<=(Tr.node l' d m r').h_.length:=by simp[h_];omega
     have:=a8.O;simp[intOf]
     omega
attribute [local go_sem] Oper.semAt_some
structure xb (w:World) (Bo D:Nat) (X:Nat->Prop) (L:List Nat) (W:World):Prop where
 lo:w.1.size<=Bo/\Bo<D/\D<=W.1.size
 bl:D_ w W
 xl:∀k,X k->w.1.size<=k/\k≠Bo/\k<W.1.size
 ex:∃A c,W.1[Bo]?=some (.cells #[.slice A L.length c] 59)/\FE W D (.slice A L.length c) L/\∀g,(Value.slice A L.length c).ownBlock=some g->¬X g
section
variable {w W W':World}{Bo D B:Nat}{X X':Nat->Prop}{L:List Nat}{row:Option Nat}
theorem xb.grown(h:xb w Bo D X L W)(hB:w.1.size<=B)(hg:W.grownBy W' row)(hr:∀r,row=some r->X r\/B<=r/\∃o:Obj,W.1[r]?=some o/\o.isCells=false)(hx:∀k,X' k->X k\/W.1.size<=k/\k<W'.1.size):xb w Bo D X' L W':=by
 obtain⟨A,c,h1,h2,h3⟩:=h.ex;have ap:=hg.size;have ar:=h.lo;have au:=h.bl.size;have ai:=(gl h1);have an:∀k cs ty fr,W.1[k]?=some (.cells cs ty fr)->¬X k->row≠some k:=fun k cs ty fr e hx e2=>by
  rcases hr k e2 with q | ⟨_,o,q,q2⟩
  ·grind
  ·rw[e] at q
   cases q
   cases q2
 have ad:¬X Bo:=fun q=>(h.xl _ q).2.1 rfl;refine⟨o_,h.bl.T ⟨hg.os,hg.tape,hg.output,ap,fun k hk=>hg.block k o_ fun e=>?_⟩,fun k hk=>?_,A,c,(hg.block _ ai fun e=>an _ _ _ _ h1 ad e.S).T h1,h2.at fun g e=>hg.block g (h2.ge g e).2 fun q=>?_,fun g e q=>?_⟩
 ·rcases hr k e.S with q | ⟨q,_⟩
  ·have:=(h.xl _ q).1;omega
  omega
 ·rcases hx k hk with q | q
  ·have:=h.xl _ q;omega
  omega
 ·obtain⟨_,_,cs,fr,e3⟩:=h2.block e
  grind
 ·have:=(h2.ge g e).2
  grind
theorem xb.own {α:Type}(f:List α->List Nat)(hB:w.1.size<=B):JT B (fun X xs W=>xb w Bo D X (f xs) W):=fun _ _ _ _ _ _ h hg hr hx=>h.grown hB hg hr hx
theorem xb.append(h:xb w Bo D X L W)(hl:L.length<=100000)(x:Nat)(ty:TypeId)(n0:Nat)(hn:n0<=Bo):
 ∃A c,W.1[Bo]?=some (.cells #[.slice A L.length c] 59)/\∃A2 c2 W2,(Builtin.append_ #[59,59] ty #[.slice A L.length c,.slice (some (y_ W.1.size)) 1 1]).run prog (W.alloc (Xf x))=.ok (.slice A2 (L.length+1) c2) W2/\(∃v,W2.1[Bo]?=some (.cells #[v] 59))/\
  xb w Bo D X (L++[x]) (W2.setCell (y_ Bo) (.slice A2 (L.length+1) c2))/\KeepsFrom D W (W2.setCell (y_ Bo) (.slice A2 (L.length+1) c2))/\mA n0 X W (W2.setCell (y_ Bo) (.slice A2 (L.length+1) c2)):=by
 obtain⟨A,c,h1,h2,h3⟩:=h.ex;have ap:=h.lo;obtain⟨v2,W2,a0,ai,ad,a1⟩:=jF h2 hl x ap.2.2 ty;obtain⟨A2,c2,rfl⟩:=ai.E_;have a3:=ad.size;rw[ag,bp] at a0 ai a1;have ar:∀k,k<W.1.size->(k<D\/X k)->W2.1[k]?=W.1[k]?:=fun k hk q=>ad.block k hk fun e=>by
  rcases q with q | q
  ·have:=(h2.ge k e.S).1;omega
  grind
 have an:=(ar Bo ((gl h1)) (.inl ap.2.1)).T h1;have hs:∀k,k≠Bo->(W2.setCell (y_ Bo) (.slice A2 (L.length+1) c2)).1[k]?=W2.1[k]?:=fun k hk=>FB hk;have au:=ai;have key:∀k,k<W.1.size->(k<D\/X k)->k≠Bo->(W2.setCell (y_ Bo) (.slice A2 (L.length+1) c2)).1[k]?=W.1[k]?:=fun k hk q q2=>(hs k q2).T (ar k hk q);refine⟨A,c,h1,A2,c2,W2,a0,⟨_,an⟩,⟨by rw[size_setCell];omega,h.bl.T ⟨ad.os,ad.tape,ad.output,by simp_all,fun k hk=>key k o_ (.inl o_) o_⟩,(fun k hk=>by have:=h.xl k hk;grind),A2,c2,?_,?_,fun g e q=>?_⟩,⟨by simp_all,fun k o hk e hc=>?_⟩,⟨ad.os,ad.tape,ad.output,by simp_all,fun k hk=>key k o_ (.inl o_) o_⟩,fun k o hk e=>(key k (gl e) (.inr hk) (h.xl k hk).2.1).T e⟩
 ·rw[ag,bp];exact heap_setCell (i:=0) (v:=.slice A2 (L.length+1) c2) an
 ·rw[ag,bp];exact au.at fun g e=>hs g (by have:=(au.ge g e).1;omega)
 ·rw[ag,bp] at e;rcases a1 with q2 | ⟨g',q2,hg⟩
  ·grind
  ·rw[e] at q2;cases q2
   have:=h.xl g q;omega
 ·have a2:=(gl e);refine(hs k o_).T ((ad.block k a2 fun q=>?_).T e);obtain⟨_,_,cs,fr,e3⟩:=h2.block q.S;rw[e] at e3;cases e3
  cases hc
end
theorem NE {w:World}{ps:Nat}{S:St}{o:Nat->Nat}{Y:Nat->Prop}{t:Tr}(h:Ig w ps S Y)(hf:Fw S o)(ha:Tr.At S t)(hN:t.h_.length<A_ S)(hN2:t.h_.length<=1000):
 CallsIn Fence.wide 7 prog 75 #[PV ps,Xu t.f9] w fun e w'=>∃v,e=.returned v/\FE w' (w.1.size+3) v t.hs/\D_ w w':=by
 have h1:1<=7:=o_
 have a8:Fence.wide.fn 121:=trivial;have a1:∀W,CallsIn Fence.wide 6 prog 121 #[PV ps,Xu t.f9] W _:=fun W=>callsIn_wide.2 (EY ps t.f9 W);have HR:=kq5 h hf ha hN hN2;refine callsIn_of_wp_marks func75 rfl trivial ?_ rfl;simp only[ntmps75,aS,aj,aL,Nat.reduceAdd,Nat.reduceSub,aO,aP,aT,aR,aX,aJ];gi_wp2_with fail;refine(a1 _).M ?_;rintro e w4 ⟨rfl,rfl⟩;gi_wp2_with fail;have hb:=((c_ w (.cells #[n_] 59)).alloc s_ (Xg ps)).alloc m_ (Xf t.f9);obtain⟨W0,ai⟩:=Ii (((w.alloc (.cells #[n_] 59)).alloc (Xg ps)).alloc (Xf t.f9));have z0:W0.1.size=w.1.size+3:=by rw[<-ai];simp
 have g0:W0.1[w.1.size]?=some (.cells #[n_] 59):=by
  grind [Below.heap_alloc,World.alloc_heap_new]
 have g1:W0.1[w.1.size+1]?=some (Xg ps):=by
  rw[<-ai,cL _ _ _ s_];have:=World.alloc_heap_new (w.alloc (.cells #[n_] 59)) (Xg ps)
  simp_all
 have g2:W0.1[w.1.size+1+1]?=some (Xf t.f9):=by
  rw[<-ai];have:=World.alloc_heap_new ((w.alloc (.cells #[n_] 59)).alloc (Xg ps)) (Xf t.f9)
  simp_all
 rw[ai] at hb⊢;have ar:xb w w.1.size (w.1.size+3) (fun k=>k=w.1.size+1\/k=w.1.size+1+1) [] W0:=⟨o_,hb,fun k hk=>by omega,none,0,g0,World.ownsRow_nil _ _ _ _,fun g e=>nomatch e⟩;refine KW rfl h1 (gf:=161) (lb:=#[PV (w.1.size+1),PV (w.1.size+1+1)]) rfl trivial (enters_of func161 k_ rfl)
  (Ls HR.a HR.b HR.c HR.d HR.e _ _ hb o_ g1 g2) (fun k hk=>by omega) mA.T
  (fun X W l o o' h1 h2 h3 h4 h5=>⟨nN W l o o' o_ h3 h4 h5,fun k o2 hx e=>(World.putObj_heap_other (by grind)).T e⟩) (aa _ _) (fun _=>rfl)
  (fun X ad W=>xb w w.1.size (w.1.size+3) X (ad.map (·.1.h)) W)
  (xb.own (B:=W0.1.size) (fun l:List (It×Nd)=>l.map (·.1.h)) o_)
  ar
  (fun x a' _=>a'= { tmps:=#[PV ps,Xu t.f9,undef,undef,n_,PV w.1.size,Xu x.1.h,PV ps,Xu t.f9,.func (.func 161) #[] #[PV (w.1.size+1),PV (w.1.size+1+1)],Xu x.1.h,eS x.2,undef,undef,undef,undef,undef],defers:=[] })
  (fun x a' _ X W' row hs hg hr=>hs)
  ?assign ?body ?done
 case assign=>
  rintro l X ad x W K hI hK;have HK:=If hK;simp only[JW]
  gi_wp2
  exact HK.O _ _ (KeepsFrom.refl _ _) (mA.refl _ _ _) hI rfl
 case body=>
  rintro l X ad x a' W a9 ba hI rfl ⟨r,a6⟩;have a4:(ad.map (·.1.h)).length<=100000:=by
   have:=congrArg List.length a6;have:=HR.e
   grind
  obtain⟨A,c,an,A2,c2,W2,a7,⟨v2,ap⟩,au,a2,a3⟩:=hI.append a4 x.1.h 59 w.1.size Ih;generalize (ad.map (·.1.h)).length=n at*;have c0:(W).cell? (y_ w.1.size)=some (.slice A n c):=e_ an
  have d0:(W2).cell? (y_ w.1.size)=some (v2):=e_ ap
  have f0:(W2).frozen? (y_ w.1.size)=false:=AT ap;have HI:=kq3 au a2 a3
  gi_wp2_with (gi_at_builtin;refine Kg _ rfl _ _ _ _ rfl _ _ rfl rfl _ _ a7 ?_)
  refine⟨by rw[z0];exact HI.b,HI.c,?_⟩
  show xb w w.1.size (w.1.size+3) X ((ad++[x]).map (·.1.h)) _
  rw[aN];exact HI.a
 case done=>
  rintro D X xs W hD rfl hI hK;obtain⟨A,c,an,ho,_⟩:=hI.ex;have HI:=kq2 ho hI.bl;generalize (t.h_.map (·.1.h)).length=n at*;have c0:(W).cell? (y_ w.1.size)=some (.slice A n c):=e_ an
  gi_wp2
  refine⟨s_,.inl ⟨_,_,rfl,run_takeDeferred hK,?_⟩⟩;obtain⟨ho,a0⟩:=HI.O;have a5:∀g,(Value.slice A n c).ownBlock=some g->g≠D:=fun g e q=>by
   subst q;obtain⟨_,_,cs,fr,e3⟩:=ho.block e
   grind
  refine⟨.slice A n c,by simp[results,f75,go_sem],_,rfl,?_,a0.T (nN W D _ _ o_ hK rfl rfl)⟩;rw[<-nodes_h];exact ho.at fun g e=>World.putObj_heap_other (a5 g e)
theorem Kr {w:World}{ps:Nat}{S:St}{o:Nat->Nat}{Y:Nat->Prop}{t:Tr}(h:Ig w ps S Y)(hf:Fw S o)(ha:Tr.At S t)(hN:t.h_.length<A_ S)(hN2:t.h_.length<=1000):
 Ct 75 #[PV ps,Xu t.f9] w fun e w'=>∃v,e=.returned v/\FE w' (w.1.size+3) v t.hs/\D_ w w':=callsIn_wide.1 (NE h hf ha hN hN2)
theorem Ky {w:World}{B:Nat}{v:Value}{l xs:List Nat}(h:FE w B v l)(hl:l.length+xs.length<=100000)(ad:Addr)(c:Nat)(hc:∀j u,(hV xs)[j]?=some u->w.cell? (ad.add j)=some u)(hB:B<=w.1.size)(ty:TypeId):
 ∃v' w',(Builtin.append_ #[59,59] ty #[v,.slice (some ad) xs.length c]).run prog w=.ok v' w'/\FE w' B v' (l++xs)/\w.grownBy w' v.ownBlock/\(v'.ownBlock=v.ownBlock\/∃g,v'.ownBlock=some g/\w.1.size<=g):=by
 obtain⟨i,hi,ai,an,ap⟩:=info_parts uP;obtain⟨v',w',h1,h2,h3,_,h4⟩:=run_append_own_at (P:=prog) (w:=w) B 59 ty 61 i (Xu 0) 1 8 underlying59 hi ai an ap rfl d_ v l.length (hV l) h ad xs.length c (hV xs) (by simp[hV]) hc (fun u hu=>by obtain⟨x,_,rfl⟩:=az.1 hu;rfl) (by unfold maxLen;omega) o_ hB;refine⟨v',w',h1,?_,h3,?_⟩
 ·have e:hV (l++xs)=hV l++hV xs:=by simp[hV]
  unfold FE;rw[e,ag];exact h2
 grind
theorem Kz {w:World}{B:Nat}{v:Value}{l:List Nat}(h:FE w B v l)(hl:l.length<=90000)(x y:Nat)(hB:B<=w.1.size)(ty:TypeId):
 ∃v' w',(Builtin.append_ #[59,59] ty #[v,.slice (some (y_ w.1.size)) 2 2]).run prog (w.alloc (.cells #[Xu x,Xu y] 61))=.ok v' w'/\FE w' B v' (l++[x,y])/\w.grownBy w' v.ownBlock/\(v'.ownBlock=v.ownBlock\/∃g,v'.ownBlock=some g/\w.1.size<=g):=by
 obtain⟨v',w',h1,h2,h3,h4⟩:=Ky (xs:=[x,y]) (w:=w.alloc (.cells #[Xu x,Xu y] 61)) (h.alloc _) (by grind) (y_ w.1.size) 2 (fun j u hu=>by
  rw[Addr.add_lit,bz,q_ (World.alloc_heap_new w (.cells #[Xu x,Xu y] 61))]
  grind [hV]) m_ ty
 exact⟨v',w',h1,h2,(World.grownBy_alloc w _ _).T h3,h4.imp id fun⟨g,e,hg⟩=>⟨g,e,by simp at hg;omega⟩⟩
def Kx(D b:Nat)(X:Nat->Prop)(W W':World):Prop:=KeepsFrom D W W'/\mA b X W W'
theorem Kx.T {D b:Nat}{X:Nat->Prop}{A B C:World}(h:Kx D b X A B)(k:Kx D b X B C):Kx D b X A C:=⟨⟨aH h.1.size k.1.size,fun i o h1 h2 h3=>k.1.same i o h1 (h.1.same i o h1 h2 h3) h3⟩,h.2.T k.2⟩
structure mz (w:World) (ps mb Bm Bd Bl Bf D:Nat) (X:Nat->Prop) (ks sd:List Nat) (lk:List UInt8) (fb:Bool) (W:World):Prop where
 lo:w.1.size+1<mb/\mb<Bm/\Bm<Bd/\Bd<Bl/\Bl<Bf/\Bf<D/\D<=W.1.size
 bl:D_ w W
 cs:W.1[w.1.size]?=some (Xg ps)
 ce:W.1[w.1.size+1]?=some (.cells #[Xi 0] 27)
 cm:W.1[Bm]?=some (.cells #[.map (some mb)] 123)
 cd:∃A c,W.1[Bd]?=some (.cells #[.slice A sd.length c] 59)/\FE W w.1.size (.slice A sd.length c) sd/\∀g,(Value.slice A sd.length c).ownBlock=some g->¬X g
 cl:W.1[Bl]?=some (.cells #[SV lk] 9)
 cf:W.1[Bf]?=some (.cells #[.bool fb] 4)
 mp:mq W mb ks
 xl:∀k,X k->w.1.size<=k/\k<W.1.size/\k≠w.1.size/\k≠w.1.size+1/\k≠mb/\k≠Bm/\k≠Bd/\k≠Bl/\k≠Bf
section
variable {w W W':World}{ps mb Bm Bd Bl Bf D B:Nat}{X X':Nat->Prop}{ks sd:List Nat}{lk:List UInt8}{fb:Bool}{row:Option Nat}
theorem mz.grown(h:mz w ps mb Bm Bd Bl Bf D X ks sd lk fb W)(hB:D<=B)(hg:W.grownBy W' row)(hr:∀r,row=some r->X r\/B<=r/\∃o:Obj,W.1[r]?=some o/\o.isCells=false)(hx:∀k,X' k->X k\/W.1.size<=k/\k<W'.1.size):mz w ps mb Bm Bd Bl Bf D X' ks sd lk fb W':=by
 obtain⟨A,c,d1,d2,d3⟩:=h.cd;have ad:=hg.size;have ai:=h.lo;have ne:∀k,k<D->¬X k->row≠some k:=fun k hk hx e=>by
  grind
 have kp:∀{k o},W.1[k]?=some o->k<D->¬X k->W'.1[k]?=some o:=fun e hk hx=>(hg.block _ (gl e) fun q=>ne _ hk hx q.S).T e;have nx:∀{k:Nat},k=w.1.size\/k=w.1.size+1\/k=mb\/k=Bm\/k=Bd\/k=Bl\/k=Bf->¬X k:=fun q hx=>by have:=h.xl _ hx;omega
 refine⟨o_,h.bl.T ⟨hg.os,hg.tape,hg.output,ad,fun k hk=>hg.block k o_ fun e=>?_⟩,kp h.cs o_ (nx o_),kp h.ce o_ (nx o_),kp h.cm o_ (nx o_),⟨A,c,kp d1 o_ (nx o_),d2.at fun g e=>hg.block g (d2.ge g e).2 fun q=>?_,fun g e q=>?_⟩,kp h.cl o_ (nx o_),kp h.cf o_ (nx o_),h.mp.kept (hg.block _ h.mp.lt fun q=>ne mb o_ (nx o_) q.S),fun k hk=>?_⟩
 ·rcases hr k e.S with q | ⟨q,_⟩
  ·have:=h.xl _ q;omega
  omega
 ·obtain⟨_,_,cs,fr,e3⟩:=d2.block e
  rcases hr g q.S with q | ⟨_,o,q,q2⟩
  ·grind
  ·rw[e3] at q
   cases q
   cases q2
 ·have:=(d2.ge g e).2
  grind
 ·rcases hx k hk with q | q
  ·have:=h.xl _ q;omega
  omega
theorem mz.a_(h:mz w ps mb Bm Bd Bl Bf D X ks sd lk fb W)(hb:D_ W W'):mz w ps mb Bm Bd Bl Bf D X ks sd lk fb W'/\Kx D w.1.size X W W':=by
 have lt:∀{k o},W.1[k]?=some o->W'.1[k]?=some o:=fun e=>(hb.block _ (gl e)).T e;exact⟨h.grown (B:=D) Ih (lf hb) (fun r e=>by cases e) (fun k hk=> .inl hk),⟨hb.size,fun k o _ e _=>lt e⟩,⟨hb.M h.bl.size,fun k o _ e=>lt e⟩⟩
theorem mz.one {r:Nat}(h:mz w ps mb Bm Bd Bl Bf D X ks sd lk fb W)(hr:r=mb\/r=Bl\/r=Bf)(hg:W.grownBy W' (some r)){ks':List Nat}{lk':List UInt8}{fb':Bool}
 (cl:W'.1[Bl]?=some (.cells #[SV lk'] 9)) (cf:W'.1[Bf]?=some (.cells #[.bool fb'] 4)) (mp:mq W' mb ks'):mz w ps mb Bm Bd Bl Bf D X ks' sd lk' fb' W'/\Kx D w.1.size X W W':=by
 obtain⟨A,c,d1,d2,d3⟩:=h.cd;have ad:=hg.size;have an:=h.lo;have ai:∀g,(Value.slice A sd.length c).ownBlock=some g->g≠r:=fun g e q=>by
  subst q;obtain⟨_,_,cs,fr,e3⟩:=d2.block e;rcases hr with rfl | rfl | rfl
  ·obtain⟨es,cc,e4⟩:=h.mp.obj;grind
  ·have e4:=h.cl;grind
  ·have e4:=h.cf;grind
 have kp:∀{k o},W.1[k]?=some o->k≠r->W'.1[k]?=some o:=fun e hk=>(hg.block _ (gl e) fun q=>hk (Option.some.inj q)).T e;refine⟨⟨o_,h.bl.T ⟨hg.os,hg.tape,hg.output,ad,fun k hk=>hg.block k o_ fun q=>by grind⟩,kp h.cs o_,kp h.ce o_,kp h.cm o_,⟨A,c,kp d1 o_,d2.at fun g e=>hg.block g (d2.ge g e).2 fun q=>ai g e (Option.some.inj q),d3⟩,cl,cf,mp,fun k hk=>by have:=h.xl k hk;omega⟩,⟨ad,fun k o hk e _=>kp e o_⟩,⟨hg.os,hg.tape,hg.output,ad,fun k hk=>hg.block k o_ fun q=>by grind⟩,fun k o hx e=>kp e fun q=>by have:=h.xl k hx;omega⟩
theorem mz.seen(h:mz w ps mb Bm Bd Bl Bf D X ks sd lk fb W){x:Nat}(hx:x<2^64)(hn:x∉ks)(hl:ks.length<100000):
 (Instr.lookup 123 (.map (some mb)) (Xu x) false).run prog W=.ok (Xi 0) W/\∃W',(Instr.mapUpdate 123 (.map (some mb)) (Xu x) (Xi 1)).run prog W=.ok () W'/\
  (Instr.lookup 123 (.map (some mb)) (Xu x) false).run prog W'=.ok (Xi 1) W'/\W.grownBy W' (some mb)/\mz w ps mb Bm Bd Bl Bf D X (ks++[x]) sd lk fb W'/\Kx D w.1.size X W W':=by
 have hc:ks.count x=0:=dI.2 hn;have h0:=h.mp.look x hx;obtain⟨W',hr,hm,hg⟩:=h.mp.store x hx hl;have h2:=hm.look x hx;have ad:(ks++[x]).count x=1:=by rw[List.count_append,hc];simp
 have ai:=h.lo;have kp:∀{k o},W.1[k]?=some o->k≠mb->W'.1[k]?=some o:=fun e hk=>(hg.block _ (gl e) fun q=>hk (Option.some.inj q)).T e;obtain⟨r1,r2⟩:=h.one (.inl rfl) hg (kp h.cl o_) (kp h.cf o_) hm;grind
theorem mz.last(h:mz w ps mb Bm Bd Bl Bf D X ks sd lk fb W)(k:List UInt8):mz w ps mb Bm Bd Bl Bf D X ks sd k fb (W.setCell (y_ Bl) (SV k))/\Kx D w.1.size X W (W.setCell (y_ Bl) (SV k)):=by
 have ad:=h.lo;exact h.one (.inr (.inl rfl)) (grownBy_setCell' W Bl _) (heap_setCell (i:=0) (v:=SV k) h.cl) ((FB o_).T h.cf) (h.mp.kept (FB o_))
theorem mz.first(h:mz w ps mb Bm Bd Bl Bf D X ks sd lk fb W)(b:Bool):mz w ps mb Bm Bd Bl Bf D X ks sd lk b (W.setCell (y_ Bf) (.bool b))/\Kx D w.1.size X W (W.setCell (y_ Bf) (.bool b)):=by
 have ad:=h.lo;exact h.one (.inr (.inr rfl)) (grownBy_setCell' W Bf _) ((FB o_).T h.cl) (heap_setCell (i:=0) (v:=.bool b) h.cf) (h.mp.kept (FB o_))
theorem mz.side(h:mz w ps mb Bm Bd Bl Bf D X ks sd lk fb W)(hl:sd.length<=10000)(x y:Nat)(ty:TypeId):
 ∃A c,W.1[Bd]?=some (.cells #[.slice A sd.length c] 59)/\∃A2 c2 W2,(Builtin.append_ #[59,59] ty #[.slice A sd.length c,.slice (some (y_ W.1.size)) 2 2]).run prog (W.alloc (.cells #[Xu x,Xu y] 61))=.ok (.slice A2 (sd.length+2) c2) W2/\(∃v,W2.1[Bd]?=some (.cells #[v] 59))/\
  mz w ps mb Bm Bd Bl Bf D X ks (sd++[x,y]) lk fb (W2.setCell (y_ Bd) (.slice A2 (sd.length+2) c2))/\Kx D w.1.size X W (W2.setCell (y_ Bd) (.slice A2 (sd.length+2) c2)):=by
 obtain⟨A,c,d1,d2,d3⟩:=h.cd;have a3:=h.lo;obtain⟨v2,W2,a0,au,ad,a1⟩:=Kz d2 o_ x y h.bl.size ty;obtain⟨A2,c2,rfl⟩:=au.E_;have a4:=ad.size;have el:(sd++[x,y]).length=sd.length+2:=s_
 rw[el] at a0;have ai:∀g cs ty fr,W.1[g]?=some (.cells cs ty fr)->ty≠61->(Value.slice A sd.length c).ownBlock≠some g:=fun g cs ty fr e q q2=>by
  obtain⟨_,_,ap,ar,e3⟩:=d2.block q2;grind
 have kp:∀{k o},W.1[k]?=some o->(Value.slice A sd.length c).ownBlock≠some k->W2.1[k]?=some o:=fun e q=>(ad.block _ (gl e) fun q2=>q q2.S).T e;have k1:=kp d1 (ai _ _ _ _ d1 d_);have hs:∀k,k≠Bd->(W2.setCell (y_ Bd) (.slice A2 (sd.length+2) c2)).1[k]?=W2.1[k]?:=fun k hk=>FB hk;have kq:∀{k o},W.1[k]?=some o->(Value.slice A sd.length c).ownBlock≠some k->k≠Bd->(W2.setCell (y_ Bd) (.slice A2 (sd.length+2) c2)).1[k]?=some o:=fun e q q2=>(hs _ q2).T (kp e q);have lb:∀k,k<w.1.size->(Value.slice A sd.length c).ownBlock≠some k:=fun k hk e=>by have:=(d2.ge k e).1;omega
 have hm:(Value.slice A sd.length c).ownBlock≠some mb:=fun e=>by
  obtain⟨_,_,ap,ar,e3⟩:=d2.block e;obtain⟨es,cc,e4⟩:=h.mp.obj;grind
 have an:∀k,k<w.1.size->(W2.setCell (y_ Bd) (.slice A2 (sd.length+2) c2)).1[k]?=W.1[k]?:=fun k hk=>(hs k o_).T (ad.block k o_ fun e=>lb k hk e.S);refine⟨A,c,d1,A2,c2,W2,a0,⟨_,k1⟩,⟨by rw[size_setCell];omega,h.bl.T ⟨ad.os,ad.tape,ad.output,by simp_all,an⟩,kq h.cs (ai _ _ _ _ h.cs d_) o_,kq h.ce (ai _ _ _ _ h.ce d_) o_,kq h.cm (ai _ _ _ _ h.cm d_) o_,⟨A2,c2,?_,?_,fun g e q=>?_⟩,kq h.cl (ai _ _ _ _ h.cl d_) o_,kq h.cf (ai _ _ _ _ h.cf d_) o_,?_,fun k hk=>?_⟩,⟨by simp_all,fun k o hk e hc=>kq e (fun q=>?_) o_⟩,⟨ad.os,ad.tape,ad.output,by simp_all,an⟩,fun k o hx e=>kq e (fun q=>d3 k q hx) fun q=>by have:=h.xl k hx;omega⟩
 ·rw[el];exact heap_setCell (i:=0) (v:=.slice A2 (sd.length+2) c2) k1
 ·exact au.at fun g e=>hs g fun q=>by
   grind
 ·rcases a1 with q2 | ⟨g',q2,a2⟩
  ·grind
  ·rw[q2] at e;cases e
   have:=h.xl g q;omega
 ·obtain⟨es,cc,e4⟩:=h.mp.obj;exact h.mp.kept ((kq e4 hm o_).T e4.S)
 ·rw[size_setCell];have:=h.xl k hk;omega
 ·obtain⟨_,_,ap,ar,e3⟩:=d2.block q;rw[e] at e3;cases e3
  cases hc
end
theorem M3:(prog.info? 104).map (fun i=>(i.zero,i.size,i.bytes))=some (some (.agg #[Xu 0,Xu 0]),2,16):=k_
def JN(l:List It):List Value:=l.flatMap fun d=>[Xu d.kh,Xu d.vh]
abbrev py(w:World)(B:Nat)(v:Value)(l:List It):Prop:=w.ownsRow B 104 2 v l.length (JN l)
theorem OQ(l:List It)(d:It):JN (l++[d])=JN l++[Xu d.kh,Xu d.vh]:=by simp[JN]
theorem Lw:∀(l:List It) (i:Nat) (h:i<l.length),(JN l)[i*2]?=some (Xu l[i].kh)/\(JN l)[i*2+1]?=some (Xu l[i].vh)
 | d::l,0,_=>⟨rfl,rfl⟩
 | d::l,i+1,h=>by
  obtain⟨h1,h2⟩:=Lw l i (by simpa using h);grind [JN,List.getElem?_cons_succ]
theorem py.slice {w:World}{B:Nat}{v:Value}{l:List It}(h:py w B v l):∃A c,v=.slice A l.length c:=by
 rcases h.2 with⟨e,e0⟩ | ⟨g,c,ad,e,_⟩
 ·refine⟨none,0,?_⟩
  cases l with
  | nil=>exact e
  | cons d l=>simp at e0
 grind
theorem py.cell_at {w:World}{D:Nat}{v:Value}{l:List It}(h:py w D v l){j:Nat}(hj:j<l.length):∃b c,v=.slice (some (y_ b)) l.length c/\D<=b/\w.cell? ⟨b,j*2,none⟩=some (Xu l[j].kh)/\w.cell? ⟨b,j*2+1,none⟩=some (Xu l[j].vh):=by
 obtain⟨i1,i2⟩:=Lw l j hj
 rcases id h.2 with⟨_,e0⟩ | ⟨b,c,ad,e,hb,_⟩
 ·omega
 ·have e1:=World.ownsRow.cells h (g:=b) (by rw[e];rfl) (j*2) _ i1;have e2:=World.ownsRow.cells h (g:=b) (by rw[e];rfl) (j*2+1) _ i2;rw[Addr.add_lit,bz] at e1 e2
  grind
theorem LP {w w':World}{B:Nat}{e:TypeId}{size:Nat}{v:Value}{n:Nat}{xs:List Value}(h:w.ownsRow B e size v n xs)(hb:D_ w w'):w'.ownsRow B e size v n xs:=
 h.kept (lf hb) (Classical.em _)
theorem Mo(W:World)(u v:Value)(t:TypeId):∀(j:Nat) (x:Value),[u,v][j]?=some x->(W.alloc (.cells #[u,v] t)).cell? (((y_ W.1.size):Addr).add j)=some x:=fun j x hx=>by
 rw[Addr.add_lit,bz,q_ (heap_alloc_new W _),<-hx];simp
theorem K7 {w:World}{B:Nat}{v:Value}{l:List It}(h:py w B v l)(hl:l.length<=10000)(d:It)(hB:B<=w.1.size)(ty:TypeId):
 ∃v' w',(Builtin.append_ #[135,135] ty #[v,.slice (some (y_ w.1.size)) 1 1]).run prog (w.alloc (Xe d.kh d.vh))=.ok v' w'/\py w' B v' (l++[d])/\w.grownBy w' v.ownBlock/\(v'.ownBlock=v.ownBlock\/∃g,v'.ownBlock=some g/\w.1.size<=g):=by
 obtain⟨i,hi,ad,ai,an⟩:=info_parts M3;obtain⟨v',w',h1,h2,h3,_,h4⟩:=run_append_own_at (P:=prog) (w:=w.alloc (Xe d.kh d.vh)) B 135 ty 104 i (.agg #[Xu 0,Xu 0]) 2 16 underlying135 hi ad ai an rfl d_ v l.length (JN l) (h.alloc _) (y_ w.1.size) 1 1 [Xu d.kh,Xu d.vh] rfl (Mo _ _ _ _) (fun u hu=>by
  rcases ah.1 hu with rfl | hu
  ·rfl
  ·rcases ah.1 hu with rfl | hu
   ·rfl
   ·cases hu) (by unfold maxLen;omega) o_ m_
 refine⟨v',w',h1,by unfold py;rw[OQ,ag];exact h2,(World.grownBy_alloc w _ _).T h3,?_⟩
 rcases h4 with h4 | h4
 ·exact ab h4
 simp_all
theorem FE.cell_at {w:World}{D:Nat}{v:Value}{l:List Nat}(h:FE w D v l){j:Nat}(hj:j<l.length):∃b c,v=.slice (some (y_ b)) l.length c/\D<=b/\w.cell? (x_ b j)=some (Xu (l[j]:Nat)):=by
 rcases id h.2 with⟨_,e0⟩ | ⟨b,c,ad,e,_⟩
 ·omega
 ·have e2:=World.ownsRow.cells h (g:=b) (by rw[e];rfl) j (Xu (l[j]:Nat)) (by simp[hV,hj]);rw[Addr.add_lit,bz] at e2
  grind
theorem xA {w w':World}{b o:Nat}(h:w'.1[b]?=w.1[b]?):w'.cell? (x_ b o)=w.cell? (x_ b o):=by simp only[World.cell?,h]
end
section
open Go.RowKit Tryz Go.BigFrame Go.Maps Go.WideMaps Lf
open Go.Shelf
variable{Y:Nat->Prop}{s:r_}
attribute [local go_sem] Oper.semAt_some
theorem mA.v_{n0:Nat}{X:Nat->Prop}{A B:World}(h:D_ A B)(hn:n0<=A.1.size):mA n0 X A B:=⟨h.M hn,fun k _ _ e=>(h.block k (gl e)).T e⟩
theorem MT{w:World}{ph pa pm:Nat}(h:Fz w ph pa pm s Y):∀x∈heads s,x.1<=1048575/\x.2.l_<256/\x.2.n<2^56/\x.2.w<2^64:=by
 have key:∀(l:List Nat) (nx:Nat),(∀p∈l,p<=1048575)->∀x∈gC s nx l,x.1<=1048575/\x.2=FA s x.1:=by
  intro l
  induction l with
  | nil=>exact fun _ _ _ hx=>by cases hx
  | cons p l ih=>
   intro nx hp x hx;unfold gC at hx
   split at hx
   ·exact ih _ (fun q hq=>hp q (ak _ hq)) x hx
   ·rcases ah.1 hx with rfl | hx
    ·exact⟨hp p (av ..),rfl⟩
    ·exact ih _ (fun q hq=>hp q (ak _ hq)) x hx
 intro x hx;obtain⟨h1,h2⟩:=key s.j_ 0 (fun p hp=>h.wf.top p hp) x hx;rw[h2];exact⟨h1,getH_lt h x.1⟩
theorem Lp:∀{l:List (Nat×Hr)},(∀x∈l,x.1<=1048575/\x.2.l_<256/\x.2.n<2^56/\x.2.w<2^64)->∃r:List iH,gt r=l
 | [],_=>⟨[],rfl⟩
 | x::l,h=>by
  obtain⟨r,hr⟩:=Lp (l:=l) fun y hy=>h y (ak _ hy);exact⟨⟨x,h x (av ..)⟩::r,by show _::r.map (·.1)=_;rw[show r.map (·.1)=l from hr]⟩
theorem MS{w0 w:World}{ph pa pm:Nat}(h:Fz w0 ph pa pm s Y)(hb0:D_ w0 w)(B:Nat)(hBl:B<w.1.size)(hB:w.cell? (y_ B)=some (PV ph)):
 Kv Fence.wide 6 prog 159 #[PV B] mF (mA w0.1.size) (fun k=>k=B) (fun xs=>gt xs=heads s) w:=fun l J W hW hJ hY h0=>by
 have a4:=b_ hb0 hW;have hH:=h.a_ a4;have bx:W.cell? (y_ B)=some (PV ph):=(hW.cell (p:=y_ B) hBl).T hB;have b4:CallsIn Fence.wide 5 prog 132 #[PV pa] W _:=callsIn_wide.2 hH.B_;have c1:=hH.cell;have bv:=hW.size;have HY:=If hY;have ck:Fence.wide.fn 132:=trivial;have cj:Fence.wide.fn 153:=trivial;have HJ:=If hJ;have H0:=kq6 hH h0 a4 (aB hBl bv) bx h;clear hY hJ hH h0 h hB hW hBl hb0 a4 bv;refine callsIn_of_wp func159 rfl trivial ?_ rfl;simp only[ntmps159,aS,aj,aL,Nat.reduceAdd,Nat.reduceSub,aO,aP,aT,aR,aX,aJ];gi_wp2_with (gi_at_call 132;refine b4.M ?_;rintro e w1 ⟨v,rfl,⟨A,c,rfl,C_⟩,bb⟩)
 have HR:=kq3 C_ bb (H0.a.a_ bb);clear C_ bb c1;gi_loopw [3,5,13] (fun nx _ i wr=>∃k:Nat,k<=s.j_.length/\i=Xi k/\nx=Xi (fl s k).2/\Hid (mA w0.1.size (fun k=>k=B\/W.1.size<=k/\k<w1.1.size) w1 wr/\∃pX,gt pX=(fl s k).1/\J (fun k=>k=B\/W.1.size<=k/\k<w1.1.size) pX wr)) (fun _ _ i _=>s.j_.length-(intOf i).toNat)
 case atStart=>exact⟨0,o_,rfl,rfl,mA.refl _ _ _,[],rfl,HJ.O _ _ _ _ _ none H0.b (lf HR.b) (fun r e=>by cases e) (fun k hk=>hk)⟩
 case round=>
  obtain⟨k,hk,rfl,rfl,ad⟩:=hrel;have a9:=H0.c.T ((HR.b.M H0.c.size).T ad.O.1.1);have an:=H0.f.a_ a9;have cn:k<=4096:=by
   have h1:=an.wf.room;have h2:=an.wf.E1;rw[i8] at hk;omega
  by_cases hlt:k<s.j_.length
  ·obtain⟨b,o,rfl,a4,bm,bo⟩:=HR.a k hlt;have bo:=(xA (o:=o+k) (ad.O.1.eq (.inr ⟨a4,bm⟩) bm)).T bo;have b0:=aB H0.d HR.b.size;have ch:=(xA (o:=0) (ad.O.1.eq (.inl rfl) b0)).T ((HR.b.cell (p:=y_ B) H0.d).T H0.e);have bs:s.j_.getD k 0=s.j_[k]:=by rw[ay,af hlt];rfl
   have b9:s.j_[k]<=1048575:=an.wf.top _ (ao _);have bu:=uG an k o_;have a6:fl s (k+1)=if s.j_[k]<(fl s k).2 then fl s k
    else((fl s k).1++[(s.j_[k],FA s s.j_[k])],if(FA s s.j_[k]).l_=2 then s.j_[k]+(FA s s.j_[k]).n else(fl s k).2):=by
    conv=>lhs;unfold fl
    rw[bs]
   have bt:=uF s k;have cq:(k:Int)<s.j_.length:=o_
   have ar:Hid (k+1<=s.j_.length):=If hlt;have bd:∀pX:List iH,gt pX=(fl s (k+1)).1->∃r,gt (pX++r)=heads s:=fun pX hp=>by
    obtain⟨dd,hd⟩:∃dd,s.j_.length=k+1+dd:=⟨s.j_.length-(k+1),o_⟩;obtain⟨r,hr⟩:=qO s (k+1) dd;rw[<-hd,qN] at hr;obtain⟨r2,b'⟩:=Lp (l:=r) fun x hx=>MT H0.f x (by rw[<-hr];exact aA _ hx);exact⟨r2,by show (pX++r2).map (·.1)=_;rw[aN,show pX.map (·.1)=(fl s (k+1)).1 from hp,show r2.map (·.1)=r from b',hr]⟩
   obtain⟨T,hT⟩:=Ii (fl s k);obtain⟨T',ba⟩:=Ii (fl s (k+1));rw[hT] at ad bu a6 bt⊢;rw[ba] at a6 bd;have bq:=getH_lt an s.j_[k];have b1:CallsIn Fence.wide 5 prog 153 #[PV ph,Xi (s.j_[k]:Nat)] wr _:=callsIn_wide.2 (qU an s.j_[k] o_);generalize FA s s.j_[k]=x at*;generalize s.j_[k]=p at*;obtain⟨a1,nx⟩:=T;simp only at ad bu a6 bt⊢;have HS:=kq5 ba a6 an bd a9;clear hT ba a6 an bs bd a9;by_cases hsk:p<nx
   ·have ap:T'=(a1,nx):=by rw[HS.b,if_pos hsk]
    gi_wp2_with fail;go_roundw
    case rel=>exact⟨k+1,ar.O,by go_num,by rw[HS.a,ap],by rw[HS.a,ap];exact ad⟩
    case measure=>have:=ar.O;simp[intOf];omega
   ·gi_wp2_with fail;refine b1.M ?_;rintro e w2 ⟨rfl,a8⟩;obtain⟨w3,ai⟩:=Ii (w2.alloc (Xj x.l_ x.n x.w));have a3:D_ wr w3:=by rw[<-ai];exact a8.alloc a8.size _
    obtain⟨pX,a0,a7⟩:=ad.O.2;have a':=HJ.O _ _ _ _ _ none a7 (lf a3) (fun r e=>by cases e) (fun _ hk=> .inl hk);have b2:pX.length=a1.length:=by rw[<-a0];exact(am _).S
    obtain⟨xX,bj⟩:∃xX:iH,xX.1=(p,x):=⟨⟨(p,x),b9,bq⟩,rfl⟩;have bc:gt (pX++[xX])=a1++[(p,x)]:=by show (pX++[xX]).map (·.1)=_;rw[aN,show pX.map (·.1)=a1 from a0];simp[bj]
    obtain⟨rr,bf⟩:=HS.d (pX++[xX]) (by rw[bc,HS.b,if_neg hsk]);rw[aV] at bf;obtain⟨fn,cv,cb,cc,hy,au⟩:=HY.O _ pX xX w3 a' ⟨rr,bf⟩;have bk:=If bc;clear bc a0 b2 a7 bf;dsimp only[mF] at hy
    rw[bj] at hy;obtain⟨kd,xn,xw⟩:=x;dsimp only[fT] at hy
    simp only at bq ai;clear bj;by_cases hk2:kd=2
    ·subst hk2;have ap:T'=(a1++[(p,⟨2,xn,xw⟩)],p+xn):=by rw[HS.b,if_neg hsk,if_pos rfl]
     rw[show ((2:Nat):Int)=2 from rfl] at ai hy;rw[<-ai] at hy au;have H3:=If a3;rw[<-ai] at H3;clear a3 a8 a' ai;simp only[fT];gi_wp2_with fail;refine au.M ?_;rintro e w4 ⟨rfl,a2,a5⟩;have H4:=kq2 (ad.O.1.T ((mA.v_ H3.O (HS.e.size)).T a5)) a2;clear a2 a5 hy au;gi_wp2_with fail;go_roundw
     case rel=>exact⟨k+1,ar.O,by go_num,by rw[HS.a,ap];go_num,by rw[HS.a,ap];exact⟨H4.a,_,bk.O,H4.b⟩⟩
     case measure=>have:=ar.O;simp[intOf];omega
    ·have cp:((kd:Int)==2)=false:=m_
     have ap:T'=(a1++[(p,⟨kd,xn,xw⟩)],nx):=by rw[HS.b,if_neg hsk,if_neg hk2]
     have ca:=If hk2;clear hk2;rw[<-ai] at hy au;have H3:=If a3;rw[<-ai] at H3;clear a3 a8 a' ai;simp only[fT];gi_wp2_with fail;refine au.M ?_;rintro e w4 ⟨rfl,a2,a5⟩;have H4:=kq2 (ad.O.1.T ((mA.v_ H3.O (HS.e.size)).T a5)) a2;clear a2 a5 hy au;gi_wp2_with fail;go_roundw
     case rel=>exact⟨k+1,ar.O,by go_num,by rw[HS.a,ap],by rw[HS.a,ap];exact⟨H4.a,_,bk.O,H4.b⟩⟩
     case measure=>have:=ar.O;simp[intOf];omega
  ·obtain rfl:k=s.j_.length:=o_
   gi_wp2
   go_end0
   obtain⟨pX,a0,a7⟩:=ad.O.2;rw[qN] at a0;exact⟨⟨_,rfl⟩,_,pX,a0,a7⟩
end
section
open Go.RowKit Tryz Go.BigFrame Go.Maps Go.WideMaps Lf
variable{B:Nat}{D:Nat}{l:List Nat}{v:Value}{w:World}
def nV(l:List Nat):List Value:=l.map fun x:Nat=>Value.int .i64 x
theorem OP:(prog.info? 3).map (fun i=>(i.zero,i.size,i.bytes))=some (some (Xi 0),1,8):=k_
abbrev za(w:World)(B:Nat)(v:Value)(l:List Nat):Prop:=w.ownsRow B 3 1 v l.length (nV l)
theorem L8(h:za w B v l)(hl:l.length<=100000)(x:Nat)(hB:B<=w.1.size)(ty:TypeId):
 ∃v' w',(Builtin.append_ #[57,57] ty #[v,.slice (some (y_ w.1.size)) 1 1]).run prog (w.alloc (Xh x))=.ok v' w'/\za w' B v' (l++[x])/\w.grownBy w' v.ownBlock/\(v'.ownBlock=v.ownBlock\/∃g,v'.ownBlock=some g/\w.1.size<=g):=by
 obtain⟨i,hi,ad,ai,an⟩:=info_parts OP;obtain⟨v',w',h1,h2,h3,_,h4⟩:=run_append_own_at (P:=prog) (w:=w.alloc (Xh x)) B 57 ty 3 i (Xi 0) 1 8 underlying57 hi ad ai an rfl d_ v l.length (nV l) (h.alloc _) (y_ w.1.size) 1 1 [Xi x] rfl (cell_one_new _ _ _) (by simp[Value.oneCell']) (by unfold maxLen;omega) o_ m_;refine⟨v',w',h1,?_,(World.grownBy_alloc w _ _).T h3,?_⟩
 ·have e:nV (l++[x])=nV l++[Xi x]:=by simp[nV]
  unfold za;rw[e,ag];exact h2
 ·rcases h4 with h4 | h4
  ·exact ab h4
  ·exact ae ⟨_,h4,s_⟩
theorem za.at{w w':World}(h:za w D v l)(e:∀g,v.ownBlock=some g->w'.1[g]?=w.1[g]?):za w' D v l:=by
 refine⟨h.1,?_⟩
 rcases h.2 with hn | ⟨g,ad,ai,rfl,hb,an,ap⟩
 ·exact .inl hn
 ·exact .inr ⟨g,ad,ai,rfl,hb,(e g rfl).T an,ap⟩
theorem za.ge(h:za w D v l):∀g,v.ownBlock=some g->D<=g/\g<w.1.size:=World.ownsRow.lt h
theorem za.E_(h:za w D v l):∃A c,v=.slice A l.length c:=by
 rcases h.2 with⟨rfl,e⟩ | ⟨g,ad,ai,rfl,_⟩
 ·exact⟨none,0,by rw[e]⟩
 ·exact⟨_,_,rfl⟩
theorem za.block(h:za w B v l){g:Nat}(hg:v.ownBlock=some g):B<=g/\g<w.1.size/\∃cs fr,w.1[g]?=some (.cells cs 3 fr):=by
 rcases h.2 with⟨e,_⟩ | ⟨b,c,ai,e,hb,ad,ar,an,ap,ht⟩
 ·rw[e] at hg
  cases hg
 ·rw[e] at hg
  cases hg
  exact⟨hb,(gl ad),_,_,ad⟩
structure qZ (w:World) (Bo D:Nat) (X:Nat->Prop) (L:List Nat) (W:World):Prop where
 lo:w.1.size<=Bo/\Bo<D/\D<=W.1.size
 bl:D_ w W
 xl:∀k,X k->w.1.size<=k/\k≠Bo/\k<W.1.size
 ex:∃A c,W.1[Bo]?=some (.cells #[.slice A L.length c] 57)/\za W D (.slice A L.length c) L/\∀g,(Value.slice A L.length c).ownBlock=some g->¬X g
section
variable {w W W':World}{Bo D B:Nat}{X X':Nat->Prop}{L:List Nat}{row:Option Nat}
theorem qZ.grown(h:qZ w Bo D X L W)(hB:w.1.size<=B)(hg:W.grownBy W' row)(hr:∀r,row=some r->X r\/B<=r/\∃o:Obj,W.1[r]?=some o/\o.isCells=false)(hx:∀k,X' k->X k\/W.1.size<=k/\k<W'.1.size):qZ w Bo D X' L W':=by
 obtain⟨A,c,h1,h2,h3⟩:=h.ex;have ap:=hg.size;have ar:=h.lo;have au:=h.bl.size;have an:=(gl h1);have ad:∀k cs ty fr,W.1[k]?=some (.cells cs ty fr)->¬X k->row≠some k:=fun k cs ty fr e hx e2=>by
  rcases hr k e2 with q | ⟨_,o,q,q2⟩
  ·exact hx q
  ·rw[e] at q
   cases q
   cases q2
 have ai:¬X Bo:=fun q=>(h.xl _ q).2.1 rfl;refine⟨o_,h.bl.T ⟨hg.os,hg.tape,hg.output,ap,fun k hk=>hg.block k o_ fun e=>?_⟩,fun k hk=>?_,A,c,(hg.block _ an fun e=>ad _ _ _ _ h1 ai e.S).T h1,h2.at fun g e=>hg.block g (h2.ge g e).2 fun q=>?_,fun g e q=>?_⟩
 ·rcases hr k e.S with q | ⟨q,_⟩
  ·have:=(h.xl _ q).1;omega
  ·omega
 ·rcases hx k hk with q | q
  ·have:=h.xl _ q;omega
  ·omega
 ·obtain⟨_,_,cs,fr,e3⟩:=h2.block e;exact ad _ _ _ _ e3 (h3 g e) q.S
 ·have:=(h2.ge g e).2
  rcases hx g q with q | q
  ·exact h3 g e q
  ·omega
theorem qZ.own {α:Type}(f:List α->List Nat)(hB:w.1.size<=B):JT B (fun X xs W=>qZ w Bo D X (f xs) W):=fun _ _ _ _ _ _ h hg hr hx=>h.grown hB hg hr hx
theorem qZ.append(h:qZ w Bo D X L W)(hl:L.length<=100000)(x:Nat)(ty:TypeId)(n0:Nat)(hn:n0<=Bo):
 ∃A c,W.1[Bo]?=some (.cells #[.slice A L.length c] 57)/\∃A2 c2 W2,(Builtin.append_ #[57,57] ty #[.slice A L.length c,.slice (some (y_ W.1.size)) 1 1]).run prog (W.alloc (Xh x))=.ok (.slice A2 (L.length+1) c2) W2/\(∃v,W2.1[Bo]?=some (.cells #[v] 57))/\
  qZ w Bo D X (L++[x]) (W2.setCell (y_ Bo) (.slice A2 (L.length+1) c2))/\KeepsFrom D W (W2.setCell (y_ Bo) (.slice A2 (L.length+1) c2))/\mA n0 X W (W2.setCell (y_ Bo) (.slice A2 (L.length+1) c2))/\∀k o,W.1[k]?=some o->k≠Bo->(∀cs fr,o≠ .cells cs 3 fr)->(W2.setCell (y_ Bo) (.slice A2 (L.length+1) c2)).1[k]?=some o:=by
 obtain⟨A,c,h1,h2,h3⟩:=h.ex;have ar:=h.lo;have a3:=(gl h1);obtain⟨v2,W2,a1,ai,ad,a2⟩:=L8 h2 hl x ar.2.2 ty;obtain⟨A2,c2,rfl⟩:=ai.E_;have an:=ad.size;rw[ag,bp] at a1 ai a2;have au:∀k,k<W.1.size->(k<D\/X k)->W2.1[k]?=W.1[k]?:=fun k hk q=>ad.block k hk fun e=>by
  rcases q with q | q
  ·have:=(h2.ge k e.S).1;omega
  ·exact h3 k e.S q
 have ap:=(au Bo a3 (.inl ar.2.1)).T h1;have hs:∀k,k≠Bo->(W2.setCell (y_ Bo) (.slice A2 (L.length+1) c2)).1[k]?=W2.1[k]?:=fun k hk=>FB hk;have a0:=ai;have key:∀k,k<W.1.size->(k<D\/X k)->k≠Bo->(W2.setCell (y_ Bo) (.slice A2 (L.length+1) c2)).1[k]?=W.1[k]?:=fun k hk q q2=>(hs k q2).T (au k hk q);refine⟨A,c,h1,A2,c2,W2,a1,⟨_,ap⟩,⟨by rw[size_setCell];omega,h.bl.T ⟨ad.os,ad.tape,ad.output,by rw[size_setCell];exact an,fun k hk=>key k (by have:=h.bl.size;omega) (.inl o_) o_⟩,(fun k hk=>by have:=h.xl k hk;rw[size_setCell];omega),A2,c2,?_,?_,fun g e q=>?_⟩,⟨by rw[size_setCell];exact an,fun k o hk e hc=>?_⟩,⟨⟨ad.os,ad.tape,ad.output,by rw[size_setCell];exact an,fun k hk=>key k (by have:=h.lo;omega) (.inl o_) o_⟩,fun k o hk e=>(key k (gl e) (.inr hk) (h.xl k hk).2.1).T e⟩,fun k o e hk ht=>(hs k hk).T ((ad.block k (gl e) fun q=>by
  obtain⟨_,_,cs,fr,e3⟩:=h2.block q.S;rw[e] at e3;exact ht _ _ (Option.some.inj e3)).T e)⟩
 ·rw[ag,bp];exact heap_setCell (i:=0) (v:=.slice A2 (L.length+1) c2) ap
 ·rw[ag,bp];exact a0.at fun g e=>hs g (by have:=(a0.ge g e).1;omega)
 ·rw[ag,bp] at e;rcases a2 with q2 | ⟨g',q2,hg⟩
  ·exact h3 g (q2▸e) q
  ·rw[e] at q2;cases q2
   have:=h.xl g q;omega
 ·have a4:=(gl e);refine(hs k o_).T ((ad.block k a4 fun q=>?_).T e);obtain⟨_,_,cs,fr,e3⟩:=h2.block q.S;rw[e] at e3;cases e3
  cases hc
end
end
section
open Go.RowKit Tryz Go.BigFrame Go.Maps Go.WideMaps Lf
open Go.Shelf
variable{X:Nat->Prop}{w:World}
attribute [local go_sem] Oper.semAt_some
theorem KL(l m:List (Nat×Hr)):GB (l++m)=GB l++GB m:=by
 induction l with
 | nil=>rfl
 | cons x l ih=>obtain⟨p,y⟩:=x;simp only[aJ,GB,ih,aV]
theorem mA.put{n0:Nat}{W:World}{l:Nat}{o o':Obj}(hn:n0<=l)(hx:¬X l)(h:W.1[l]?=some o)(h1:o.isCells=false)(h2:o.isWalk=false):mA n0 X W (W.putObj l o'):=
 ⟨nN W l o o' hn h h1 h2,fun k o2 hk e=>(World.putObj_heap_other (by intro q;subst q;exact hx hk)).T e⟩
theorem qZ.a_{w W W':World}{Bo D:Nat}{L:List Nat}(h:qZ w Bo D X L W)(hb:D_ W W'):qZ w Bo D X L W'/\Kx D w.1.size X W W':=
 ⟨h.grown (B:=w.1.size) Ih (lf hb) (fun r e=>by cases e) (fun _ hk=> .inl hk),⟨hb.size,fun k o _ e _=>(hb.block k (gl e)).T e⟩,mA.v_ hb h.bl.size⟩
theorem za.base{B B':Nat}{v:Value}{l:List Nat}(h:za w B v l)(hB:B'<=B):za w B' v l:=
 ⟨h.1,h.2.imp id fun⟨g,cap,cur,h1,h2,h3⟩=>⟨g,cap,cur,h1,aH hB h2,h3⟩⟩
def yW(p n w k:Nat):List Nat:=((List.range k).filter fun j=>jI w j).map (fF p n)
theorem LD(p n w k:Nat):yW p n w (k+1)=if jI w k=true then yW p n w k++[fF p n k] else yW p n w k:=by
 unfold yW;rw[dr,List.filter_append]
 by_cases h:jI w k=true
 ·rw[if_pos h,List.filter_cons_of_pos h]
  simp
 ·rw[if_neg h,List.filter_cons_of_neg h]
  simp
theorem Nb(p n w k m:Nat)(h:k<=m):(yW p n w k).length<=(yW p n w m).length:=by
 induction m with
 | zero=>rw[show k=0 by omega];exact Nat.le_refl _
 | succ m ih=>
  by_cases q:k=m+1
  ·rw[q];exact Nat.le_refl _
  ·have:=ih o_;rw[LD]
   split
   ·rw[ag];omega
   ·exact this
theorem MV{ph pa pm:Nat}{s:r_}{Y:Nat->Prop}(h:Fz w ph pa pm s Y)(hn:(G6 s).length<=90000):
 Ct 68 #[PV ph] w fun e w'=>∃v,e=.returned v/\za w' w.1.size v (G6 s)/\D_ w w':=by
 refine(callsIn_wide (n:=7)).1 ?_;have h1:1<=7:=o_
 have dn:Fence.wide.fn 117:=trivial;have dc:Fence.wide.fn 116:=trivial;have c':Fence.wide.fn 118:=trivial;have dk:Fence.wide.fn 119:=trivial;have dd:Fence.wide.fn 101:=trivial;have ca:=(callsIn_wide (n:=6)).2 (dQ h);have b':∀W,CallsIn Fence.wide 6 prog 116 #[PV ph] W _:=fun W=>callsIn_wide.2 (qQ ph W);have HR:=kq3 h hn ca;clear h hn ca;refine callsIn_of_wp_marks func68 rfl trivial ?_ rfl;simp only[ntmps68,aS,aj,aL,Nat.reduceAdd,Nat.reduceSub,aO,aP,aT,aR,aX,aJ];gi_wp2_with fail;refine HR.c.M ?_;rintro e w1 ⟨rfl,rfl⟩;gi_wp2_with fail;refine(b' _).M ?_;rintro e w4 ⟨rfl,rfl⟩;gi_wp2_with fail;have hb:D_ w ((w.alloc (.cells #[n_] 57)).alloc (Xm ph)):=((aa _ _).alloc Ih _).alloc s_ _;have g0:((w.alloc (.cells #[n_] 57)).alloc (Xm ph)).1[w.1.size]?=some (.cells #[n_] 57):=by
  rw[cL _ _ _ s_];exact World.alloc_heap_new _ _
 have g1:((w.alloc (.cells #[n_] 57)).alloc (Xm ph)).1[w.1.size+1]?=some (Xm ph):=by
  have:=World.alloc_heap_new (w.alloc (.cells #[n_] 57)) (Xm ph);rw[World.size_alloc] at this;exact this
 have z0:((w.alloc (.cells #[n_] 57)).alloc (Xm ph)).1.size=w.1.size+2:=s_
 generalize ((w.alloc (.cells #[n_] 57)).alloc (Xm ph))=W0 at*;have a4:qZ w w.1.size (w.1.size+2) (fun k=>k=w.1.size+1) (GB (gt [])) W0:=⟨o_,hb,fun k hk=>by omega,none,0,g0,World.ownsRow_nil _ _ _ _,fun g e=>nomatch e⟩;clear b';refine KW rfl h1 (gf:=159) (lb:=#[PV (w.1.size+1)]) rfl trivial (enters_of func159 k_ rfl)
  (MS HR.a hb (w.1.size+1) o_ (e_ g1)) (fun k hk=>by omega) mA.T
  (fun X W l o o' h1 h2 h3 h4 h5=>mA.put o_ h2 h3 h4 h5) (aa _ _) (fun _=>rfl)
  (fun X ad W=>qZ w w.1.size (w.1.size+2) X (GB (gt ad)) W)
  (qZ.own (B:=W0.1.size) (fun l:List iH=>GB (gt l)) o_)
  a4
  (fun x a' W=>∃bx,a'= { tmps:=#[PV ph,undef,n_,PV w.1.size,Xi x.1.1,PV bx,undef,undef,undef,PV ph,.bool false,PV ph,.func (.func 159) #[] #[PV (w.1.size+1)],Xi x.1.1,fT x.1.2,undef,undef,undef,undef,undef,undef,undef,undef,undef,undef,undef,undef,undef,undef,undef,undef,undef,undef,undef,undef,undef,undef,undef,undef,undef,undef,undef,undef,undef,undef,undef,undef,undef],defers:=[] } /\w.1.size+2<=bx/\W.1[bx]?=some (Xj x.1.2.l_ x.1.2.n x.1.2.w))
  (fun x a' _ W W' row hs hg hr=>by
   obtain⟨bn,e1,e2,e3⟩:=hs;refine⟨bn,e1,e2,(hg.block _ (gl e3) fun q=>?_).T e3⟩;obtain⟨_,o,q1,q2⟩:=hr bn q.S;rw[e3] at q1
   cases q1
   cases q2)
  ?assign ?body ?done
 case assign=>
  rintro l X ad x W K hI hK;have HK:=If hK;have HI:=If hI;clear hK hI;simp only[mF,fT]
  gi_wp2
  obtain⟨i1,i2,i3⟩:=HI.O.a_ (W':=W.alloc (Xj x.1.2.l_ x.1.2.n x.1.2.w)) ((aa _ _).alloc Ih _);exact HK.O _ _ ⟨i2.size,fun k o hk=>i2.same k o o_⟩ i3 i1 ⟨W.1.size,rfl,HI.O.lo.2.2,World.alloc_heap_new _ _⟩
 case body=>
  rintro l X ad ⟨⟨p,kd,xn,xw⟩,hx⟩ a' W dp ds hI ⟨bx,rfl,bu,a1⟩ ⟨rr,bo⟩;simp only at hx a1;obtain⟨cj,a2,ck,cn⟩:=hx;have au:(GB (gt ad)).length+(GB [(p,⟨kd,xn,xw⟩)]).length<=90000:=by
   have h2:=HR.b;unfold G6 at h2;rw[<-bo] at h2;have e:gt (ad++⟨(p,⟨kd,xn,xw⟩),cj,a2,ck,cn⟩::rr)=gt ad++((p,⟨kd,xn,xw⟩)::gt rr):=by
    show (ad++_::rr).map (·.1)=_
    rw[aN]
    rfl
   rw[e,KL,show ((p,(⟨kd,xn,xw⟩:Hr))::gt rr)=[(p,⟨kd,xn,xw⟩)]++gt rr from rfl,KL,ag,ag] at h2;omega
  have an:GB (gt (ad++[(⟨(p,⟨kd,xn,xw⟩),cj,a2,ck,cn⟩:iH)]))=GB (gt ad)++GB [(p,⟨kd,xn,xw⟩)]:=by
   rw[<-KL]
   show GB ((ad++_).map (·.1))=_
   rw[aN]
   rfl
  obtain⟨b0,b1,b2⟩:=fq a1;simp only[fT]
  by_cases hk2:kd=2
  ·subst hk2;have e1:GB [(p,(⟨2,xn,xw⟩:Hr))]=[p*64+2]:=by simp[GB]
   rw[e1] at au an;obtain⟨A,c,ai,A2,c2,W2,cb,⟨v2,bb⟩,a0,ap,ar,_⟩:=hI.append o_ (p*64+2) 57 w.1.size Ih;rw[show ((p*64+2:Nat):Int)=(p:Int)*64+2 by omega] at cb;generalize (GB (gt ad)).length=n at*;have c0:(W).cell? (y_ w.1.size)=some (.slice A n c):=e_ ai
   have d0:(W2).cell? (y_ w.1.size)=some (v2):=e_ bb
   have f0:(W2).frozen? (y_ w.1.size)=false:=AT bb;have HI:=kq4 a0 ap ar an;clear hI a0 ap ar ai bb bo au an a1 e1
   gi_wp2_with (gi_at_builtin;refine Kg _ rfl _ _ _ _ rfl _ _ rfl rfl _ _ cb ?_)
   refine⟨by rw[z0];exact HI.b,HI.c,?_⟩
   show qZ w w.1.size (w.1.size+2) X (GB (gt (ad++_))) _
   rw[HI.d];exact HI.a
  ·have c3:((kd:Int)==2)=false:=m_
   have e1:GB [(p,(⟨kd,xn,xw⟩:Hr))]=yW p xn xw (eJ xn):=by simp[GB,hk2,yW]
   rw[e1] at au an;obtain⟨er,ch⟩:=wW xn;have a7:CallsIn Fence.wide 4 prog 117 #[Xi xn] W _:=callsIn_wide.2 (qk xn W);rw[ch] at a7;have cx:=nX xn;obtain⟨m,hm⟩:=Ii (eJ xn);rw[hm] at a7 cx au an;have HS:=kq5 a7 hI a1 au an;clear a7 ch hm hI a1 au an e1 hk2 bo;gi_wp2_with fail;refine(CallsIn.inRound l HS.a).M ?_;rintro e w2 ⟨rfl,ai⟩;obtain⟨a0,a2⟩:=HS.b.a_ ai;have b9:=(ai.block _ (gl HS.c)).T HS.c;have H2:=kq3 a0 a2 b9;clear ai a0 a2 b9 b0 b1 b2 c3;gi_wp2_with fail
   gi_loopw [8,31] (fun _ i wr=>∃k:Nat,i=Xi k/\k<=m/\Hid (qZ w w.1.size (w.1.size+2) X (GB (gt ad)++yW p xn xw k) wr/\Kx (w.1.size+2) w.1.size X W wr/\wr.1[bx]?=some (Xj kd xn xw))) (fun _ i _=>m-(intOf i).toNat)
   case atStart=>exact⟨0,rfl,o_,by rw[show yW p xn xw 0=[] from rfl,aW];exact H2.O⟩
   case round=>
    obtain⟨k,rfl,hk,J0⟩:=hrel
    by_cases hkm:k<m
    ·have c4:(k:Int)<m:=o_
     have bv:=J0.O.2.2;obtain⟨b0,b1,b2⟩:=fq bv;have bf:CallsIn Fence.wide 4 prog 118 #[Xu xw,Xi k] wr _:=callsIn_wide.2 (zx xw k wr o_ o_);have bm:=fun W=>uJ p xn k W o_ o_ o_;have a6:=LD p xn xw k;have c6:=Nb p xn xw k m hk;obtain⟨bt,b4⟩:=Ii (jI xw k);obtain⟨P,hP⟩:=Ii (fF p xn k);rw[b4] at bf a6;rw[hP] at bm a6;have HE:=kq4 bf bm a6 (by rw[ag];have:=HS.d;omega:(GB (gt ad)++yW p xn xw k).length<=100000);clear bf bm a6 c6 b4 hP bv;gi_wp2_with fail;refine(CallsIn.inRound l HE.a).M ?_;rintro e w3 ⟨rfl,h3⟩;rw[<-h3];clear h3
     cases bt with
     | false=>
      gi_wp2_with fail;go_roundw
      case rel=>exact⟨k+1,s_,o_,by rw[HE.c,if_neg s_];exact J0.O⟩
      case measure=>simp[intOf];omega
     | true=>
      obtain⟨A,c,ai,c9,_⟩:=J0.O.1.ex;have J1:=J0.O.1.a_ (aa wr.1.size wr).drew;obtain⟨nl,bj⟩:=Ii (GB (gt ad)++yW p xn xw k).length;rw[bj] at ai;obtain⟨I,a9,ba⟩:=ic fun w'=>w'.1[bx]?=some (Xj kd xn xw)/\w'.1[w.1.size]?=some (.cells #[.slice A nl c] 57);have cq:=fun x:Fq I=>(a9 _ x.ok).1;have cv:=fun x:Fq I=>(a9 _ x.ok).2;have a4:I wr.drew:=ba _ ⟨J0.O.2.2,ai⟩;have HI:=kq4 ba J1 (show wr.drew.1[bx]?=_/\wr.drew.1[w.1.size]?=_ from⟨J0.O.2.2,ai⟩) bj;clear a9 ba J1 ai c9 b0 b1 b2 bj
      gi_upto_region 14 with fail
      obtain⟨b0,b1,b2⟩:=qf cq;have c0:∀x:Fq I,x.to.cell? (y_ w.1.size)=some (.slice A nl c):=fun x=>by rw[q_ (cv x)];rfl
      refine NI I (fun i=>[7,8].contains i) (.take 0 (.take 1 (.take 2 (.take 3 (.take 4 (.go 5 (.go 6 (.go 7 (.go 8 .nil))))))))) k_ k_ k_ a4 ?_;clear a4 cq cv;generalize wr.drew=Wd at*
      iterate 5
       refine qT_ ?_
       try simp only[pu]
      refine qD fun K hK=>?_;go_simp;refine(HE.b Wd).M ?_;rintro e w5 ⟨rfl,a5⟩;obtain⟨bq,cp⟩:=HI.b.1.a_ a5;have q5:=(a5.block _ (gl HI.c.1)).T HI.c.1;have r5:=(a5.block _ (gl HI.c.2)).T HI.c.2
      try go_simp
      refine hK.O _ _ (HI.a _ ⟨q5,r5⟩) ?_;clear hK K
      try simp only[pu]
      obtain⟨A5,c5,bs,A2,c2,W6,cc,⟨v6,bc⟩,a8,ap,ar,bk⟩:=bq.append HE.d P 57 w.1.size Ih;have a3:=bs.S.T r5;rw[HI.d] at a3 cc a8 ap ar bk;obtain⟨rfl,rfl⟩:A5=A/\c5=c:=by simp at a3;exact a3
      have bd:D_ w5 (w5.alloc (Xh P)):=(aa _ _).alloc Ih _;have q6:=(bd.block _ (gl q5)).T q5;have r6:=(bd.block _ (gl r5)).T r5;have q9:=bk bx _ q5 o_ (fun cs fr e=>by cases e);have H9:=kq3 a8 (J0.O.2.1.T (HI.b.2.T (cp.T ⟨ap,ar⟩))) q9;clear b0 b1 b2 c0;have d0:(W6).cell? (y_ w.1.size)=some (v6):=e_ bc
      have f0:(W6).frozen? (y_ w.1.size)=false:=AT bc;refine qD fun K hK=>?_;go_simp
      try go_simp
      refine hK.O _ _ (HI.a _ ⟨q6,r6⟩) ?_;clear hK K
      try simp only[pu]
      refine qL (fun K hK=>kE _ _ _ rfl rfl rfl cc ?_)
      try go_simp
      refine hK.O _ _ trivial ?_;clear hK K
      try simp only[pu]
      clear bq cp q5 r5 bs bc a8 ap ar bk a3 bd q6 r6 q9 a5 HI;refine qL fun K hK=>?_;go_simp
      try go_simp
      refine hK.O _ _ trivial ?_;clear hK K
      try simp only[pu]
      refine Ja ?_;gi_wp2_with fail;go_roundw
      case rel=>exact⟨k+1,s_,o_,by rw[HE.c,if_pos trivial,<-aV];exact H9.O⟩
      case measure=>simp[intOf];omega
    ·obtain rfl:k=m:=o_
     have c4:¬(k:Int)<k:=o_
     gi_wp2_with fail;refine⟨J0.O.2.1.1,J0.O.2.1.2,?_⟩
     show qZ w w.1.size (w.1.size+2) X (GB (gt (ad++_))) _
     rw[HS.e];exact J0.O.1
 case done=>
  rintro D X xs W hD hS hI hK;obtain⟨A,c,ai,ho,_⟩:=hI.ex;have cw:GB (gt xs)=G6 s:=by rw[hS];rfl
  rw[cw] at ai ho;have HI:=kq2 ho hI.bl;generalize (G6 s).length=n at*;have c0:(W).cell? (y_ w.1.size)=some (.slice A n c):=e_ ai
  clear hI ai ho
  gi_wp2
  refine⟨s_,.inl ⟨_,_,rfl,run_takeDeferred hK,?_⟩⟩;obtain⟨ho,bu⟩:=HI.O;have c7:∀g,(Value.slice A n c).ownBlock=some g->g≠D:=fun g e q=>by
   subst q;obtain⟨_,_,cs,fr,e3⟩:=ho.block e;rw[hK] at e3
   cases e3
  refine⟨.slice A n c,by simp[results,f68,go_sem],_,rfl,?_,bu.T (nN W D _ _ o_ hK rfl rfl)⟩;exact(ho.at fun g e=>World.putObj_heap_other (c7 g e)).base o_
end
section
open Go.RowKit Tryz Go.BigFrame Go.Maps Go.WideMaps Lf
variable{S:St}{Y:Nat->Prop}{l_:Nat}{l:List Nat}{ps:Nat}{v:Value}{w:World}
theorem FE.base2{B B':Nat}(h:FE w B v l)(hB:B'<=B):FE w B' v l:=
 ⟨h.1,h.2.imp id fun⟨g,cap,cur,h1,h2,h3⟩=>⟨g,cap,cur,h1,aH hB h2,h3⟩⟩
theorem za.cell_at{D:Nat}(h:za w D v l){j:Nat}(hj:j<l.length):∃b c,v=.slice (some (y_ b)) l.length c/\D<=b/\w.cell? (x_ b j)=some (Xi (l[j]:Nat)):=by
 rcases id h.2 with⟨_,e0⟩ | ⟨b,c,ad,e,_⟩
 ·rw[e0] at hj
  simp at hj
 ·have e2:=World.ownsRow.cells h (g:=b) (by rw[e];rfl) j (Xi (l[j]:Nat)) (by simp[nV,hj]);rw[Addr.add_lit,bz] at e2;exact⟨b,c,e,(h.ge b (by rw[e];rfl)).1,e2⟩
theorem KQ{o:Nat->Nat}(h:Ig w ps S Y)(hf:Fw S o):
 Ct 33 #[PV ps] w fun e w'=>∃v,e=.returned v/\FE w' w.1.size v S.all/\D_ w w':=by
 have a2:=sI h;obtain⟨pa,pm,ph,pt,vt,hI⟩:=h;have a0:(G6 S.a).length<=65536:=aH hf.live_le (aH hf.tab.len hf.tab.most.2);have a1:=MV hI.heap o_;obtain⟨_,_,_,c3,_⟩:=hI.cells;have HR:=kq5 hI hf a2 a1 a0;clear hI hf a2 a1 a0;go_enter func33,ntmps33;go_wp2_with fail;refine Jc HR.c ?_;go_wp2_with fail;refine HR.d.M ?_;rintro e w1 ⟨v0,rfl,an,ap⟩;obtain⟨A0,c0,rfl⟩:=an.E_;have a9:(G6 S.a).length<=65536:=HR.e;have HV:=kq2 an ap;clear an ap c3;generalize hn:(G6 S.a).length=n at*;have HN:=If hn;clear hn;go_wp2_with fail
 go_loopw [3,5,6,7,16] (fun s3 _ _ _ s16 wr=>∃j:Nat,j<=n/\s16=Xi j/\Hid (FE wr w1.1.size s3 (S.all.take j)/\D_ w1 wr)) (fun _ _ _ _ s16 _=>n-(intOf s16).toNat)
 case atStart=>exact⟨0,o_,rfl,World.ownsRow_nil _ _ _ _,aa _ _⟩
 case round=>
  obtain⟨j,a',rfl,I⟩:=hrel
  by_cases hlt:j<n
  ·have a6:(j:Int)<n:=o_
   have ai:D_ w wr:=b_ HV.b I.O.2;have a5:za wr w.1.size (.slice A0 n c0) (G6 S.a):=HV.a.at fun g e=>I.O.2.block g (HV.a.ge g e).2;obtain⟨b,c,e,hb,hc⟩:=a5.cell_at (j:=j) (by rw[HN.O];exact hlt)
   injection e with e1 e2 e3
   subst e1;have hm:(G6 S.a)[j]'(by rw[HN.O];exact hlt)∈G6 S.a:=ao _;obtain⟨x,hx⟩:∃x,(G6 S.a)[j]'(by rw[HN.O];exact hlt)=x:=⟨_,rfl⟩;rw[hx] at hc hm;have a4:=(HR.a.heap.a_ ai).read x (HR.b.addr_le hm);obtain⟨_,_,c2,_,_⟩:=(HR.a.a_ ai).cells;have ar:S.all.take (j+1)=S.all.take j++[S.a.rd x]:=by
    unfold St.all;rw[aw (by rw[am,HN.O];exact hlt),bG,hx]
   have au:(S.all.take j).length<=100000:=by rw[aK];omega
   have HM:=kq5 a4 ar au I.O.1 I.O.2;clear a4 ar au ai a5 hb hm e2 e3 I hx;go_wp2_with fail;refine Jc HM.a ?_;obtain⟨v2,w2,a7,a3,ad,a8⟩:=jF HM.d HM.c (S.a.rd x) HM.e.size 59;have HE:Hid (FE w2 w1.1.size v2 (S.all.take (j+1))/\D_ w1 w2):=⟨by rw[HM.b];exact a3,HM.e.T ⟨ad.os,ad.tape,ad.output,ad.size,fun k hk=>ad.block k (aB hk HM.e.size) fun e=>by
    have:=(HM.d.ge k e.S).1;omega⟩⟩
   clear a3 ad a8
   go_wp2_with (at_builtin;refine Lib.wpList_append_run _ rfl _ _ _ _ rfl _ _ rfl rfl _ _ a7 ?_)
   go_roundw
   case rel=>exact⟨j+1,o_,s_,HE⟩
   case measure=>simp[intOf];omega
  ·obtain rfl:j=n:=o_
   have a6:¬(j:Int)<j:=o_
   go_wp2_with fail;go_ret;refine⟨_,rfl,?_,b_ HV.b I.O.2⟩;have e:S.all.take j=S.all:=by
    rw[aQ];rw[Kc,HN.O];exact Nat.le_refl _
   rw[<-e];exact FE.base2 I.O.1 HV.b.size
theorem ET(h:Ig w ps S Y)(hi:Fv S){j c:FuncId}{jn:Jn}(hk:jD l_ j c jn)(t:Int):
 Ct 47 #[PV ps,Xi l_,Xi t,Xu 0] w fun e w'=>∃px,e=.returned (.tuple #[PV px,Xi 0])/\tt w' px ps l_ 0/\D_ w w'/\w.1.size<=px:=by
 have hc:=JF h hi hk t;have hq:((l_:Int)==3)=false:=by have:=hk.is;simp;omega
 have HG:=If hc;clear hc h hi hk;go_enter func47,ntmps47;go_wp2_with fail;refine dR HG.O fun w1 hb1=>?_;have q:=heap_alloc_new w1 (.cells #[PV ps,Xi l_,Xi 0,.iface 162 (fE ps l_),Xu 0] 100);have B:=hb1.alloc hb1.size (.cells #[PV ps,Xi l_,Xi 0,.iface 162 (fE ps l_),Xu 0] 100);simp only[fE] at q B;have HB:=kq3 q B hb1.size;clear q B hb1;go_wp2_with fail;go_ret2;exact⟨w1.1.size,rfl,HB.a,HB.b,HB.c⟩
theorem ES(h:Ig w ps S Y)(hi:Fv S){j c:FuncId}{jn:Jn}(hk:jD l_ j c jn)(t:Int):
 Ct 13 #[PV ps,Xi l_,Xi t] w fun e w'=>∃px,e=.returned (.tuple #[PV px,Xi 0])/\tt w' px ps l_ 0/\D_ w w'/\w.1.size<=px:=by
 have HG:=If (ET h hi hk t);clear h hi hk;go_enter func13,ntmps13;go_wp2_with fail;refine HG.O.M ?_;rintro e w1 ⟨px,rfl,hr⟩;have HB:=If hr;clear hr;go_wp2_with fail;go_ret2;exact⟨px,rfl,HB.O⟩
def Ic(w:World)(pm px ps A_:Nat):Prop:=w.1[pm]?=some (.cells #[PV ps,PV px,Xi A_] 116)
theorem Ic.a_{w w':World}{pm px ps A_:Nat}(h:Ic w pm px ps A_)(hb:D_ w w'):Ic w' pm px ps A_:=(hb.block pm (gl h)).T h
theorem ki{pm px ps A_:Nat}(hM:Ic w pm px ps A_):
 Ct 57 #[PV pm] w fun e w'=>e=.returned (.bool false)/\w=w':=by
 unfold Ic at hM;obtain⟨c0,c1,c2⟩:=fq hM;clear hM;go_enter func57,ntmps57;go_wp2_with fail;go_ret;exact⟨rfl,rfl⟩
theorem OS(w:World):
 Ct 57 #[.pointer none] w fun e w'=>e=.returned (.bool true)/\w=w':=by
 go_enter func57,ntmps57;go_wp2_with fail;go_ret;exact⟨rfl,rfl⟩
theorem Gh{pm px ps A_:Nat}(hM:Ic w pm px ps A_):
 Ct 23 #[PV pm] w fun e w'=>e=.returned (PV px)/\w=w':=by
 have HG:=If (ki hM);unfold Ic at hM;obtain⟨c0,c1,c2⟩:=fq hM;clear hM;go_enter func23,ntmps23;go_wp2_with fail;refine Jc HG.O ?_;go_wp2_with fail;go_ret;exact⟨rfl,rfl⟩
theorem vH{pm px ps A_:Nat}(hM:Ic w pm px ps A_)(a b:List UInt8)(ha:a.length<=A_)(hb:b.length<=A_):
 Ct 58 #[PV pm,SV a,SV b] w fun e w'=>e=.returned (Xi 0)/\w=w':=by
 have HG:=If (ki hM);unfold Ic at hM;obtain⟨c0,c1,c2⟩:=fq hM;have ad:((A_:Int)<(a.length:Int))=False:=eq_false o_;have ai:((A_:Int)<(b.length:Int))=False:=eq_false o_;clear hM ha hb;go_enter func58,ntmps58;go_wp2_with fail;refine Jc HG.O ?_;go_wp2_with fail;go_ret;exact⟨rfl,rfl⟩
def F7(w:World)(v:Value):Prop:=v=.pointer none\/∃pm,v=PV pm/\w.1[pm]?=some (.cells #[.pointer none,.pointer none,Xi 0] 116)
theorem OT(h:F7 w v):
 Ct 57 #[v] w fun e w'=>e=.returned (.bool true)/\w=w':=by
 rcases h with rfl | ⟨pm,rfl,hM⟩
 ·exact OS w
 ·obtain⟨c0,c1,c2⟩:=fq hM;clear hM;go_enter func57,ntmps57;go_wp2_with fail;go_ret;exact⟨rfl,rfl⟩
theorem OJ(h:F7 w v):
 Ct 70 #[v] w fun e w'=>e=.returned (.pointer none)/\w=w':=by
 have HG:=If (OT h);clear h;go_enter func70,ntmps70;go_wp2_with fail;refine Jc HG.O ?_;go_wp2_with fail;go_ret;exact⟨rfl,rfl⟩
theorem OW(w:World):
 Ct 61 #[.pointer none] w fun e w'=>e=.returned (.bool true)/\w=w':=by
 go_enter func61,ntmps61;go_wp2_with fail;go_ret;exact⟨rfl,rfl⟩
theorem OU(h:Nat)(w:World):
 Ct 82 #[.pointer none,Xu h] w fun e w'=>e=.returned (.tuple #[Xi 0,Xi 0,Xi 1])/\w=w':=by
 have HG:=If (OW w);go_enter func82,ntmps82;go_wp2_with fail;refine Jc (HG.O) ?_;go_wp2_with fail;go_ret3;exact⟨rfl,rfl⟩
theorem OV(h:Nat)(w:World):
 Ct 42 #[.pointer none,Xu h] w fun e w'=>e=.returned (.tuple #[Xi 0,Xi 1])/\w=w':=by
 have HG:=If (OU h w);go_enter func42,ntmps42;go_wp2_with fail;refine Jc (HG.O) ?_;go_wp2_with fail;go_ret2;exact⟨rfl,rfl⟩