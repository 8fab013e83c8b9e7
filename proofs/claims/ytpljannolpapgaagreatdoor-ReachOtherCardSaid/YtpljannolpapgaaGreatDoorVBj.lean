/- B-trees in a store: an item more, by nodes: plain. -/
import Derived.Test.YtpljannolpapgaaGreatDoorVFf
import Derived.Test.YtpljannolpapgaaGreatDoorVBh
set_option maxRecDepth 100000
set_option maxHeartbeats 6400000
namespace Go.Proofs.YtpljannolpapgaaGreatDoor
section
open Lf Tr
namespace Bt
variable{S:St}{U:List Nat}{d:Nat}{e:It}{i:Nat}{k:Nat}{o:Nat->Nat}
theorem vW{A K B Y U:List Nat}(h:(A++(K++B)).Nodup)(hy:Y.Nodup)(hs:∀z∈Y,z∈K\/z∈U)(hu:∀z∈U,z∉A/\z∉B):(A++(Y++B)).Nodup:=by
 grind
theorem nodes_parts{x:Bt (d+1)}(h:k<(Bn.ks x).length):nodes x=(Bn.h x::(((Bn.ks x).take k).map nodes).flatten)++(nodes (Bn.ks x)[k]++(((Bn.ks x).drop (k+1)).map nodes).flatten):=by
 have e:(Bn.ks x).map nodes=((Bn.ks x).take k).map nodes++nodes (Bn.ks x)[k]::((Bn.ks x).drop (k+1)).map nodes:=by rw[<-bg,<-aP,<-oW h]
 rw[jQ,e,cP,dy]
 rfl
theorem ve{x:Bt (d+1)}(h:k<(Bn.ks x).length)(y:Bt d):nodes (ju x k y)=(Bn.h x::(((Bn.ks x).take k).map nodes).flatten)++(nodes y++(((Bn.ks x).drop (k+1)).map nodes).flatten):=by
 show Bn.h x::(((Bn.ks x).set k y).map nodes).flatten=_
 rw[cX,if_pos h,aP,bg,cP,dy]
 rfl
theorem vf(x:Bt (d+1))(k:Nat)(y1:Bt d)(m:It)(y2:Bt d):nodes (ja x k y1 m y2)=(Bn.h x::(((Bn.ks x).take k).map nodes).flatten)++((nodes y1++nodes y2)++(((Bn.ks x).drop (k+1)).map nodes).flatten):=by
 show Bn.h x::(((Bn.ks x).take k++y1::y2::(Bn.ks x).drop (k+1)).map nodes).flatten=_
 grind
theorem put_node(hf:Fw S o){t d:Nat}{x:Bt (d+1)}(hk:∀k∈Bn.ks x,At S t k)(hn:∀k∈Bn.ks x,hd x∉nodes k){ws:List Nat}(hr:reco S (hd x)=some ws)(hw:ws.length=6*t)(hl:iT (bn x))(he:(Bn.es x).length<1000):
 Fw (FC S (hd x) 0 (bnWords t (bn x))) o/\At (FC S (hd x) 0 (bnWords t (bn x))) t x/\(∀h,h≠hd x->reco (FC S (hd x) 0 (bnWords t (bn x))) h=reco S h)/\ej S (FC S (hd x) 0 (bnWords t (bn x))) 0 0:=by
 obtain⟨q1,q2,q3,q4⟩:=mR hf hr (l:=bnWords t (bn x)) (by rw[jJ,hw]) (kX hl (by unfold bn;grind));refine⟨q1,⟨q2,fun k hkm=>(hk k hkm).frame fun h hm=>q3 h fun e=>hn k hkm (e▸hm)⟩,q3,q4⟩
theorem hd_kids{x:Bt (d+1)}(h:(nodes x).Nodup):∀k∈Bn.ks x,hd x∉nodes k:=fun k hk hm=>by
 rw[jQ] at h;exact(aF.1 h).1 (cC.2 ⟨_,ay.2 ⟨k,hk,rfl⟩,hm⟩)
structure Mid (S S':St) (o:Nat->Nat) (t:Nat) {d:Nat} (x:Bt (d+1)) (e:It) (U:List Nat) (x':Bt (d+1)):Prop where
 fit:Fw S' o
 grew:ej S S' 0 0
 fr:∀h,h∉nodes x->h∉U->reco S' h=reco S h
 hd:Bn.h x'=Bn.h x
 okN:gY t x'
 its:Bt.its x'=insB e (Bt.its x)
 kids:∀k∈Bn.ks x',At S' t k
 nd:(nodes x').Nodup
 sub:∀h∈nodes x',h∈nodes x\/h∈U
 own:∃ws,reco S' (Bn.h x)=some ws/\ws.length=6*t
 grow:(Bn.es x).length<=(Bn.es x').length
 lt:iT (bn x')
structure Put (S S':St) (o:Nat->Nat) (t:Nat) {d:Nat} (x:Bt (d+1)) (e:It) (U:List Nat) (r:Option (It×Nat)):Prop where
 fit:Fw S' o
 grew:ej S S' 0 0
 fr:∀h,h∉nodes x->h∉U->reco S' h=reco S h
 res:match r with
  | none=>∃y:Bt (d+1),Bn.h y=Bn.h x/\At S' t y/\Ok t y/\nk x<=nk y/\Bt.its y=insB e (Bt.its x)/\(nodes y).Nodup/\(∀h∈nodes y,h∈nodes x\/h∈U)
  | some (m,g)=>∃y1 y2:Bt (d+1),Bn.h y1=Bn.h x/\Bn.h y2=g/\At S' t y1/\At S' t y2/\Ok t y1/\Ok t y2/\nk y1=t/\nk y2+1=t/\Bt.its y1++m::Bt.its y2=insB e (Bt.its x)/\(nodes y1++nodes y2).Nodup/\(∀h∈nodes y1++nodes y2,h∈nodes x\/h∈U)
theorem mid_leaf(hf:Fw S o){t:Nat}(t1:1<=t){x:Bt 1}(ha:At S t x)(ok:Ok t x)(hnd:(nodes x).Nodup)(hb:∀d∈its x,d.kh<2^64/\d.vh<2^64)(he:e.kh<2^64/\e.vh<2^64)(hl:(its x).length<1000000):Mid S S o t x e [] (leafPut x e):=by
 have hi:=Ch x e;refine⟨hf,ej.refl S,fun _ _ _=>rfl,rfl,vj t1 ok e,hi,ha.2,hnd,fun h hh=>ab hh,⟨_,ha.1,jJ _ _⟩,?_,?_⟩
 ·show _<=((Bn.es x).take (Fr e.k (Bn.es x))++e::(Bn.es x).drop (Fr e.k (Bn.es x))).length
  grind
 ·refine bnLt_of hf (fun d hd=>?_) ha.2 ?_
  ·have ad:d∈insB e (its x):=by rw[<-hi];exact lN (vj t1 ok e) hd
   grind [kg]
  ·rw[hi,insB_length];omega
theorem vg{S S':St}{t d:Nat}{x:Bt (d+1)}(ha:At S t x)(hnd:(nodes x).Nodup)(hU:∀h∈U,h∉nodes x)(hi:i<(Bn.ks x).length)(fr:∀h,h∉nodes (Bn.ks x)[i]->h∉U->reco S' h=reco S h):
 (∀k∈(Bn.ks x).take i++(Bn.ks x).drop (i+1),At S' t k)/\reco S' (Bn.h x)=reco S (Bn.h x):=by
 rw[nodes_parts hi] at hnd hU;obtain⟨h1,h2,h3⟩:=aC.1 hnd;obtain⟨h4,h5,h6⟩:=aC.1 h2;refine⟨fun k hk=>?_,fr _ (fun hm=>h3 _ (am ..) _ (aE _ hm) rfl) fun hm=>hU _ hm (aE _ (am ..))⟩
 rcases ax.1 hk with hk | hk
 ·refine(ha.2 k (bB hk)).frame fun h hh=>?_;have hm:h∈(((Bn.ks x).take i).map nodes).flatten:=cC.2 ⟨_,ay.2 ⟨k,hk,rfl⟩,hh⟩
  grind
 ·refine(ha.2 k (bw hk)).frame fun h hh=>?_;have hm:h∈(((Bn.ks x).drop (i+1)).map nodes).flatten:=cC.2 ⟨_,ay.2 ⟨k,hk,rfl⟩,hh⟩
  grind
theorem tw{x:Bt (d+1)}(hi:i<(Bn.ks x).length)(hU:∀h∈U,h∉nodes x):∀z∈U,z∉(Bn.h x::(((Bn.ks x).take i).map nodes).flatten)/\z∉(((Bn.ks x).drop (i+1)).map nodes).flatten:=fun z hz=>by
 have:=hU z hz;rw[nodes_parts hi] at this;exact⟨fun q=>this (aE _ q),fun q=>this (aG _ (aG _ q))⟩
abbrev ItLt(l:List It):Prop:=∀d∈l,d.kh<2^64/\d.vh<2^64
theorem mid_kid{S S':St}{t d:Nat}(t1:1<=t){x:Bt (d+2)}(ha:At S t x)(ok:Ok t x)(hnd:(nodes x).Nodup)(hs:(its x).Pairwise eU)(hb:ItLt (its x))(he:ItLt [e])(hl:(its x).length<1000000)(hU:∀h∈U,h∉nodes x)
 (hi:Fr e.k (Bn.es x)<(Bn.ks x).length) (hp:Put S S' o t (Bn.ks x)[Fr e.k (Bn.es x)] e U none):∃y,Bn.h y=hd (Bn.ks x)[Fr e.k (Bn.es x)]/\Mid S S' o t x e U (ju x (Fr e.k (Bn.es x)) y):=by
 obtain⟨y,y1,y2,y3,y4,y5,y6,y7⟩:=hp.res;obtain⟨ks,hr⟩:=vg ha hnd hU hi hp.fr;have hk:=ok.2.2 _ (aw hi);have ar:Fr e.k (Bn.es x)<=(Bn.es x).length:=cB;have an:=BP t1 ok (Fr e.k (Bn.es x)) y3 (by omega);have ad:its (ju x (Fr e.k (Bn.es x)) y)=insB e (its x):=by
  have:=(l7 (key:=e.k) ok.rows (by rw[<-dQ];exact hs)).insert;grind [jN,dQ,BO]
 have ai:∀k∈(Bn.ks x).set (Fr e.k (Bn.es x)) y,At S' t k:=fun k hk=>by
  rw[cX,if_pos hi] at hk;grind
 refine⟨y,y1,hp.fit,hp.grew,fun h h1 h2=>hp.fr h (fun q=>h1 (mem_nodes_kid (aw hi) q)) h2,rfl,an,ad,ai,?_,fun h hh=>?_,⟨_,hr.trans ha.1,jJ _ _⟩,Nat.le_refl _,?_⟩
 ·rw[ve hi];rw[nodes_parts hi] at hnd;exact vW hnd y6 y7 (tw hi hU)
 ·grind [ve,nodes_parts,List.mem_append_left,List.mem_append_right,id]
 ·refine bnLt_of hp.fit (fun d hd=>?_) ai ?_
  ·have ap:d∈insB e (its x):=by rw[<-ad];exact lN an hd
   grind [kg,List.mem_cons_self]
  ·rw[ad,insB_length];omega
theorem mid_split{S S':St}{t d:Nat}(t1:1<=t){x:Bt (d+2)}(ha:At S t x)(ok:Ok t x)(hnd:(nodes x).Nodup)(hs:(its x).Pairwise eU)(hb:ItLt (its x))(he:ItLt [e])(hl:(its x).length<1000000)(hU:∀h∈U,h∉nodes x)
 (hi:Fr e.k (Bn.es x)<(Bn.ks x).length) {m:It} {g:Nat} (hp:Put S S' o t (Bn.ks x)[Fr e.k (Bn.es x)] e U (some (m,g))):∃y1 y2,Bn.h y1=hd (Bn.ks x)[Fr e.k (Bn.es x)]/\Bn.h y2=g/\Mid S S' o t x e U (ja x (Fr e.k (Bn.es x)) y1 m y2):=by
 obtain⟨y1,y2,a1,a2,a3,a4,a5,a6,a7,a8,a9,ap,ar⟩:=hp.res;obtain⟨ks,hr⟩:=vg ha hnd hU hi hp.fr;have hk:=ok.2.2 _ (aw hi);have au:Fr e.k (Bn.es x)<=(Bn.es x).length:=cB;have an:=BS t1 ok (Fr e.k (Bn.es x)) au m a5 (by omega) a6 (by omega);have ad:its (ja x (Fr e.k (Bn.es x)) y1 m y2)=insB e (its x):=by
  have:=(l7 (key:=e.k) ok.rows (by rw[<-dQ];exact hs)).insert;grind [jN,dQ,BQ,List.append_assoc]
 have ai:∀k∈(Bn.ks x).take (Fr e.k (Bn.es x))++y1::y2::(Bn.ks x).drop (Fr e.k (Bn.es x)+1),At S' t k:=fun k hk=>by
  grind
 refine⟨y1,y2,a1,a2,hp.fit,hp.grew,fun h h1 h2=>hp.fr h (fun q=>h1 (mem_nodes_kid (aw hi) q)) h2,rfl,an,ad,ai,?_,fun h hh=>?_,⟨_,hr.trans ha.1,jJ _ _⟩,?_,?_⟩
 ·rw[vf];rw[nodes_parts hi] at hnd;exact vW hnd ap ar (tw hi hU)
 ·grind [vf,nodes_parts,List.mem_append_left,List.mem_append_right,id]
 ·show (Bn.es x).length<=((Bn.es x).take (Fr e.k (Bn.es x))++m::(Bn.es x).drop (Fr e.k (Bn.es x))).length
  grind
 ·refine bnLt_of hp.fit (fun d hd=>?_) ai ?_
  ·have a0:d∈insB e (its x):=by rw[<-ad];exact lN an hd
   grind [kg,List.mem_cons_self]
  ·rw[ad,insB_length];omega
theorem Mid.put{S S':St}{t d:Nat}{x:Bt (d+1)}{x':Bt (d+1)}(h:Mid S S' o t x e U x')(t2:t<=16)(hl:(Bn.es x').length<2*t):Put S (FC S' (Bn.h x) 0 (bnWords t (bn x'))) o t x e U none:=by
 obtain⟨ws,hr,hw⟩:=h.own;have hh:Bt.hd x'=Bn.h x:=h.hd;have hp:=put_node h.fit h.kids (hd_kids h.nd) (by grind) hw h.lt (by omega);rw[hh] at hp;obtain⟨p1,p2,p3,p4⟩:=hp;refine⟨p1,(h.grew.trans p4).mono (by omega) (by omega),fun y h1 h2=>(p3 y fun q=>h1 (q▸hd_mem x)).trans (h.fr y h1 h2),⟨x',h.hd,p2,h.okN.ok hl,h.grow,h.its,h.nd,h.sub⟩⟩
theorem Mid.cut{S S':St}{t d:Nat}(t1:1<=t)(t2:t<=16){x:Bt (d+1)}{x':Bt (d+1)}(h:Mid S S' o t x e U x')(hl:(Bn.es x').length=2*t){g:Nat}(hg1:g∉U)(hg2:g∉nodes x){wg:List Nat}(hg3:reco S g=some wg)(hg4:wg.length=6*t):
 Put S (FC (FC S' (Bn.h x) 0 (bnWords t (bn (leftOf t x')))) g 0 (bnWords t (bn (rightOf t x' g)))) o t x e (U++[g]) (some ((Bn.es x')[t]'(by omega),g)):=by
 obtain⟨ws,hr,hw⟩:=h.own;obtain⟨c1,c2,c3,c4,c5⟩:=h.okN.split t1 hl g;have a0:=h.nd;rw[jQ] at a0;obtain⟨n1,n2⟩:=aF.1 a0;have an:g∉nodes x':=fun q=>(h.sub g q).elim hg2 hg1;have au:∀k∈Bn.ks (leftOf t x'),k∈Bn.ks x':=fun k hk=>bB hk;have ai:∀k∈Bn.ks (rightOf t x' g),k∈Bn.ks x':=fun k hk=>bw hk;have hh:Bt.hd (leftOf t x')=Bn.h x:=h.hd;have eN:((Bn.ks x').map nodes).flatten=(((Bn.ks x').take (t+1)).map nodes).flatten++(((Bn.ks x').drop (t+1)).map nodes).flatten:=by
  conv=>lhs;rw[<-aX (t+1) (Bn.ks x'),aP,cP]
 have ar:∀q∈Bn.es x',q.kh<2^64/\q.vh<2^64:=fun q hq=>⟨h.lt.keys _ (ay.2 ⟨q,hq,rfl⟩),h.lt.vals _ (ay.2 ⟨q,hq,rfl⟩)⟩;have ap:=h.lt.size;have ap:(Bt.its x').length<2^64:=ap;rw[c1,ah,ag] at ap;have ad:=h.kids;have a5:iT (bn (leftOf t x')):=bnLt_of h.fit (fun q hq=>ar q (bB hq)) (fun k hk=>ad k (au k hk)) (by omega);have a6:iT (bn (rightOf t x' g)):=bnLt_of h.fit (fun q hq=>ar q (bw hq)) (fun k hk=>ad k (ai k hk)) (by omega);have hp:=put_node (x:=leftOf t x') h.fit (fun k hk=>ad k (au k hk)) (fun k hk=>by
  show Bn.h x'∉_
  grind) (by grind) hw a5 (by show ((Bn.es x').take t).length<1000;grind)
 rw[hh] at hp;obtain⟨p1,p2,p3,p4⟩:=hp;have a1:g≠Bn.h x:=fun q=>hg2 (q▸hd_mem x);have a3:reco (FC S' (Bn.h x) 0 (bnWords t (bn (leftOf t x')))) g=some wg:=(p3 g a1).trans ((h.fr g hg2 hg1).trans hg3);have a2:∀k∈Bn.ks (rightOf t x' g),At (FC S' (Bn.h x) 0 (bnWords t (bn (leftOf t x')))) t k:=fun k hk=>(ad k (ai k hk)).frame fun y hy=>p3 y fun q=>hd_kids h.nd k (ai k hk) (by
  show Bn.h x'∈nodes k
  rw[h.hd,<-q];omega)
 obtain⟨r1,r2,r3,r4⟩:=put_node (x:=rightOf t x' g) p1 a2 (fun k hk q=>an (mem_nodes_kid (ai k hk) q)) (ws:=wg) a3 hg4 a6 (by show ((Bn.es x').drop (t+1)).length<1000;grind);have r3:∀y,y≠g->_:=r3;have hL:At (FC (FC S' (Bn.h x) 0 (bnWords t (bn (leftOf t x')))) g 0 (bnWords t (bn (rightOf t x' g)))) t (leftOf t x'):=p2.frame fun y hy=>r3 y fun q=>by
  subst q;refine an ?_;rw[jQ] at hy⊢
  rcases aj.1 hy with hy | hy
  ·exact hy▸am ..
  ·refine ak _ ?_;rw[eN];exact aE _ hy
 have a4:∀y∈nodes (leftOf t x')++nodes (rightOf t x' g),y∈nodes x'\/y=g:=fun y hy=>by
  rw[jQ x',eN]
  rcases ax.1 hy with hy | hy
  ·rcases aj.1 hy with hy | hy
   ·exact ab (hy▸am ..)
   ·exact ab (ak _ (aE _ hy))
  ·rcases aj.1 hy with hy | hy
   ·exact ae hy
   ·exact ab (ak _ (aG _ hy))
 refine⟨r1,((h.grew.trans p4).trans r4).mono (by omega) (by omega),fun y h1 h2=>?_,⟨leftOf t x',rightOf t x' g,h.hd,rfl,hL,r2,c2,c3,c4,c5,?_,?_,fun y hy=>?_⟩⟩
 ·have h3:y∉U/\y≠g:=⟨fun q=>h2 (aE _ q),fun q=>h2 (aG _ (q▸am ..))⟩;exact(r3 y h3.2).trans ((p3 y fun q=>h1 (q▸hd_mem x)).trans (h.fr y h1 h3.1))
 ·rw[<-h.its,c1]
 ·rw[eN] at n1 n2;obtain⟨m1,m2,m3⟩:=aC.1 n2;rw[jQ x',eN] at an
  show ((Bn.h x'::(((Bn.ks x').take (t+1)).map nodes).flatten)++(g::(((Bn.ks x').drop (t+1)).map nodes).flatten)).Nodup
  grind
 ·rcases a4 y hy with hy | rfl
  ·exact(h.sub y hy).imp id fun q=>aE _ q
  grind
end Bt
end
section
open Go.RowKit Tryz Go.BigFrame Go.Maps Go.WideMaps Lf Tr
open Go.Shelf
variable{L:List Nat}{S:St}{Y:Nat->Prop}{o:Nat->Nat}{ps:Nat}{t:Nat}{v:Value}{w:World}
theorem xA(h:Ig w ps S Y):fy<w.heap.size:=by
 obtain⟨pa,pm,ph,pt,v,h⟩:=h;exact h.heap.yl _ (ae (ae (ae (ab rfl))))
theorem qBjac{P:Prop}(h:P:=by
 rw[ai,if_pos rfl] at this
 injection this with this
 injection this with _ this
 exact absurd this (by decide)):P:=h
theorem Ig.grown{w w':World}{row:Option Nat}(h:Ig w ps S Y)(hg:w.grownBy w' row)(hr:∀g,row=some g->Y g/\g≠fy/\∃cs fr,w.heap[g]?=some (.cells cs 61 fr)):Ig w' ps S (fun k=>Y k\/(w.heap.size<=k/\k<w'.heap.size)):=by
 cases row with
 | none=>exact h.wide ⟨hg.os,hg.tape,hg.output,hg.size,fun k hk=>hg.block k hk (by simp)⟩
 | some g=>
  obtain⟨h1,h2,cs,fr,h3⟩:=hr g rfl;have au:=(gl h3);obtain⟨w2,ad⟩:∃w2:World,w2= { w' with heap:=w'.heap.setIfInBounds g (.cells cs 61 fr) }:=⟨_,rfl⟩;have an:w2.heap.size=w'.heap.size:=by rw[ad];simp
  have ai:∀k,w2.heap[k]?=if g=k then some (.cells cs 61 fr) else w'.heap[k]?:=fun k=>by
   rw[ad]
   show (w'.heap.setIfInBounds g _)[k]?=_
   rw[Array.getElem?_setIfInBounds]
   split
   ·rename_i e;subst e;rw[if_pos (by have:=hg.size;omega)]
   ·rfl
  have ap:Below w.heap.size w w2:=by
   refine⟨by rw[ad];exact hg.os,by rw[ad];exact hg.tape,by rw[ad];exact hg.output,by rw[an];exact hg.size,fun k hk=>?_⟩;rw[ai]
   split
   ·rename_i e;subst e;exact h3.symm
   ·rename_i e;exact hg.block k hk (fun q=>e (Option.some.inj q).symm)
  have hz:=h.wide ap;rw[an] at hz;obtain⟨pa,pm,ph,pt,v,hz⟩:=hz;refine⟨pa,pm,ph,pt,v,hz.of_keep (by rw[an];exact Nat.le_refl _) fun k hk hc=>?_⟩;have ar:k≠g:=by
   rintro rfl
   rcases hc with hc | rfl | rfl | rfl
   ·exact hc (ab h1)
   ·have:=hz.hd;exact qBjac
   ·have:=hz.heap.hp;exact qBjac
   ·exact h2 rfl
  rw[ai,if_neg (fun e=>ar e.symm)]
structure lG (S:St) (t:Nat) (L:List Nat):Prop where
 nd:L.Nodup
 recs:∀h∈L,∃ws,reco S h=some ws/\ws.length=6*t
theorem Eu(hf:Fw S o)(t1:2<=t)(t2:t<=16)(hr:fc S 2 1):
 ∃h S1 o1,S.make (6*t)=((h,0),S1)/\iw S (6*t)/\h<2^64/\S1.len h=(6*t,0)/\Fw (FC S1 h 0 (bnWords t bn0)) o1/\reco S h=none/\(∃ws,reco (FC S1 h 0 (bnWords t bn0)) h=some ws/\ws.length=6*t)/\(∀h',h'≠h->reco (FC S1 h 0 (bnWords t bn0)) h'=reco S h')/\ej S (FC S1 h 0 (bnWords t bn0)) 2 1:=by
 have ap:fa (6*t+2)<=2:=aB (qh (by omega) (by omega)) (by omega);have an:=hr.mono ap (Nat.le_refl 1);obtain⟨h,S1,o1,ws,e,ad,hn,ai,hl,ho,hg,_⟩:=oz hf (n:=6*t) (by omega) an;have ar:=rz hf (n:=6*t) (by omega) an;obtain⟨q1,q2,q3,q4⟩:=mR ad hl (l:=bnWords t bn0) (by rw[jJ,ai]) (tQ t);exact⟨h,S1,o1,e,ar,(fL ad hl).2.1,by rw[jw ad.tab hl,ai],q1,hn,⟨_,q2,jJ _ _⟩,fun h' hne=>(q3 h' hne).trans (ho h' hne),(hg.trans q4).mono (by omega) (by omega)⟩
structure gz (w:World) (bt bl D ps t:Nat) (v:Value) (L:List Nat):Prop where
 box:w.heap[bl]?=some (.cells #[v] 59 (0,0))
 tree:w.heap[bt]?=some (.cells #[PV ps,Xi t] 145 (0,0))
 row:FE w D v L
 lo:bl<D/\bt<D/\bl≠bt
def iJ(bt bl:Nat)(v:Value):Nat->Prop:=fun k=>k=bt\/k=bl\/v.ownBlock=some k
theorem tU(h:Ig w ps S Y)(hf:Fw S o)(t1:2<=t)(t2:t<=16)(n:Nat)(hn:n<=1000)(hr:fc S (2*n) n):
 Ct 180 #[FH ps t,Xi n] w fun e w'=>e=.returned (.tuple #[.func (.func 214) #[] #[PV (w.heap.size+1),PV w.heap.size],Xi 0])/\
  ∃S' o' v L,Ig w' ps S' (fun k=>Y k\/iJ w.heap.size (w.heap.size+1) v k)/\Fo Y w w'/\gz w' w.heap.size (w.heap.size+1) (w.heap.size+2) ps t v L/\Fw S' o'/\L.length=n/\lG S' t L/\(∀h∈L,reco S h=none)/\(∀h,h∉L->reco S' h=reco S h)/\ej S S' (2*n) n:=by
 have B0:=((aa w.heap.size w).alloc Ih (Xd ps t)).alloc (by simp) (.cells #[.slice none 0 0] 59);have z1:(w.alloc (Xd ps t)).heap.size=w.heap.size+1:=by simp
 have q1:=heap_alloc_new w (Xd ps t);have q2:=heap_alloc_new (w.alloc (Xd ps t)) (.cells #[.slice none 0 0] 59);have q3:=(((aa (w.alloc (Xd ps t)).heap.size (w.alloc (Xd ps t))).alloc Ih (.cells #[.slice none 0 0] 59)).block w.heap.size (by simp)).trans q1;rw[z1] at q2;have hz:((w.alloc (Xd ps t)).alloc (.cells #[.slice none 0 0] 59)).heap.size=w.heap.size+2:=by simp
 have hY:=h.yl;have bq:=xA h;have bk:=(h.wide B0).mono (Z:=fun k=>Y k\/iJ w.heap.size (w.heap.size+1) (.slice none 0 0) k) fun k hk=>hk.imp id fun hk=>by
  rcases hk with rfl | rfl | hk
  ·exact⟨Nat.le_refl _,by rw[hz];omega⟩
  ·exact⟨by omega,by rw[hz];omega⟩
  ·cases hk
 have a':=h.keep B0;generalize hW:(w.alloc (Xd ps t)).alloc (.cells #[.slice none 0 0] 59)=W0 at*;have HG:=kq4 hf hr hY bq;have H0:=kq4 bk a' q2 q3;have HZ:=If hz;unfold FH;clear h hf hr B0 z1 q1 q2 q3 bk a' hY bq hz;go_enter func180,ntmps180;go_wp2_with fail;clear hW;go_loopw [7,8,10,12] (fun _ _ _ s12 wr=>∃j:Nat,j<=n/\s12=Xi j/\Hid (∃S' o' v L,Ig wr ps S' (fun k=>Y k\/iJ w.heap.size (w.heap.size+1) v k)/\Fo Y w wr/\w.heap.size+2<=wr.heap.size/\gz wr w.heap.size (w.heap.size+1) (w.heap.size+2) ps t v L/\Fw S' o'/\L.length=j/\lG S' t L/\(∀h∈L,reco S h=none)/\(∀h,h∉L->reco S' h=reco S h)/\ej S S' (2*j) j)) (fun _ _ _ s12 _=>n-(intOf s12).toNat)
 case atStart=>exact⟨0,by omega,rfl,S,o,.slice none 0 0,[],H0.a,H0.b,by rw[HZ.out];exact Nat.le_refl _,⟨H0.c,H0.d,World.ownsRow_nil _ _ _ _,by omega⟩,HG.a,rfl,⟨dJ,fun _ hh=>(nomatch hh)⟩,fun _ hh=>(nomatch hh),fun _ _=>rfl,ej.refl S⟩
 case round=>
  obtain⟨j,b',rfl,I⟩:=hrel;obtain⟨S',o',v,L,st,kp,a6,sp,hf,hL,a2,a1,ar,ai⟩:=I.out;by_cases hlt:j<n
  ·have bx:(j:Int)<n:=by omega
   have bf:=(HG.b.mono (p':=2*j+2) (q':=j+1) (by omega) (by omega)).grew ai;obtain⟨hh,S1,o1,e,bd,bv,bb,f2,bc,a7,a5,g2⟩:=Eu hf t1 t2 bf;have au:=zG st hf.inv t1 t2 bd e bv bb;obtain⟨S2,a8⟩:=Ii (FC S1 hh 0 (bnWords t bn0));rw[a8] at au f2 a7 a5 g2;unfold eC at au;have t3:=sp.tree;obtain⟨x0,x1⟩:=Fp t3;have HM:=If au;have HI:=kq14 st kp sp f2 hL a2 a1 ar ai bc a7 a5 g2 a6;clear st kp sp hf a2 a1 ar ai bf e bd bb f2 bc a7 a5 g2 au t3 a8 hL a6;go_wp2_with fail;refine HM.out.mono ?_;rintro e w1 ⟨rfl,bt,k1⟩;have b1:=(k1.block (w.heap.size+1) (ae (ae (ab rfl)))).trans HI.c.box;have bu:=(k1.block w.heap.size (ae (ab rfl))).trans HI.c.tree;have own1:FE w1 (w.heap.size+2) v L:=HI.c.row.at fun g e=>k1.block g (ae (ae (ae e)));have a3:w.heap.size+2<=w1.heap.size:=aB HI.n k1.size;obtain⟨v2,w2,b0,an,ad,bs⟩:=jF own1 (by have:=HI.e;omega) hh a3 59;obtain⟨A2,m2,c2,rfl⟩:=an.slice;have a4:∀g,v.ownBlock=some g->w.heap.size+2<=g:=fun g e=>(own1.ge g e).1;have ap:∀k,k<w.heap.size+2->w2.heap[k]?=w1.heap[k]?:=fun k hk=>ad.block k (by omega) fun e=>by have:=a4 k e.symm;omega
   have b2:=(ap (w.heap.size+1) (by omega)).trans b1;have c0:w1.cell? ⟨w.heap.size+1,0,none⟩=some v:=by rw[cell_of_block b1];rfl
   have d0:w2.cell? ⟨w.heap.size+1,0,none⟩=some v:=by rw[cell_of_block b2];rfl
   have f0:w2.frozen? ⟨w.heap.size+1,0,none⟩=false:=AT b2;have bm:=bt.grown ad (fun g e=>⟨ae (ae (ae e)),by have:=a4 g e;have:=HG.d;omega,by
    rcases own1.2 with⟨e0,_⟩ | ⟨g',b4,b9,e0,_,hg,_⟩
    ·rw[e0] at e;cases e
    ·rw[e0] at e;have e:g'=g:=Option.some.inj e;subst e;exact⟨_,_,hg⟩⟩)
   have bo:Ig (w2.setCell ⟨w.heap.size+1,0,none⟩ (.slice A2 m2 c2)) ps S2 (fun k=>Y k\/iJ w.heap.size (w.heap.size+1) (.slice A2 m2 c2) k):=by
    refine(bm.write (b:=w.heap.size+1) (ab (ae (ae (ab rfl)))) b2 ⟨by decide,by decide⟩ (by simp) (by simp) fun k _ hk=>FB hk).mono fun k hk=>?_;rcases hk with hk | rfl | rfl | hk
    ·exact ab (ab hk)
    ·exact ab (ae (ab rfl))
    ·exact ab (ae (ae (ab rfl)))
    ·rcases bs with e | ⟨g,e,hg⟩
     ·rw[e] at hk;exact ab (ae (ae (ae hk)))
     ·rw[e] at hk;have hk:g=k:=Option.some.inj hk;subst hk;exact ae ⟨hg,(an.ge g e).2⟩
   have ba:Fo Y w (w2.setCell ⟨w.heap.size+1,0,none⟩ (.slice A2 m2 c2)):=(HI.b.trans (k1.mono fun k hk=>ab hk)).trans ⟨ad.os,ad.tape,ad.output,by simpa using ad.size,fun k hk=>by
    have ca:=HG.c k hk;rw[FB (by omega)];exact ap k (by omega)⟩
   have bj:gz (w2.setCell ⟨w.heap.size+1,0,none⟩ (.slice A2 m2 c2)) w.heap.size (w.heap.size+1) (w.heap.size+2) ps t (.slice A2 m2 c2) (L++[hh]):=
    ⟨heap_setCell b2,(FB (by omega)).trans ((ap w.heap.size (by omega)).trans bu),an.at fun g e=>FB (by have:=(an.ge g e).1;omega),by omega⟩
   have a0:hh∉L:=fun hm=>by
    obtain⟨ws,e,_⟩:=HI.f.recs hh hm;rw[HI.j] at e;cases e
   have a9:∃S' o' v L,Ig (w2.setCell ⟨w.heap.size+1,0,none⟩ (.slice A2 m2 c2)) ps S' (fun k=>Y k\/iJ w.heap.size (w.heap.size+1) v k)/\Fo Y w (w2.setCell ⟨w.heap.size+1,0,none⟩ (.slice A2 m2 c2))/\w.heap.size+2<=(w2.setCell ⟨w.heap.size+1,0,none⟩ (.slice A2 m2 c2)).heap.size/\gz (w2.setCell ⟨w.heap.size+1,0,none⟩ (.slice A2 m2 c2)) w.heap.size (w.heap.size+1) (w.heap.size+2) ps t v L/\Fw S' o'/\L.length=j+1/\lG S' t L/\(∀h∈L,reco S h=none)/\(∀h,h∉L->reco S' h=reco S h)/\ej S S' (2*(j+1)) (j+1):=by
    refine⟨S2,o1,.slice A2 m2 c2,L++[hh],bo,ba,by rw[size_setCell];exact aB a3 ad.size,bj,HI.d,by rw[ah,HI.e];rfl,⟨?_,fun y hy=>?_⟩,fun y hy=>?_,fun y hy=>?_,(HI.i.trans HI.m).mono (by omega) Ih⟩
    ·refine aC.2 ⟨HI.f.nd,by simp,fun a ha b hb e=>?_⟩;rw[aA.1 hb] at e;exact a0 (e▸ha)
    ·rcases ax.1 hy with hy | hy
     ·obtain⟨ws,e,hw⟩:=HI.f.recs y hy;exact⟨ws,(HI.l y fun q=>a0 (q▸hy)).trans e,hw⟩
     ·rw[aA.1 hy];exact HI.k
    ·rcases ax.1 hy with hy | hy
     ·exact HI.g y hy
     ·rw[aA.1 hy,<-HI.h hh a0];exact HI.j
    ·exact(HI.l y fun q=>hy (aG _ (q▸am ..))).trans (HI.h y fun q=>hy (aE _ q))
   have HF:=If a9;clear a9 bm bo ba bj a0 b1 b2 bu own1 an ad bs a4 ap bt k1 a3 x0 x1;go_wp2_with (at_builtin;refine Lib.wpList_append_run _ rfl _ _ _ _ rfl _ _ rfl rfl _ _ b0 ?_)
   go_roundw
   case rel=>exact⟨j+1,by omega,by simp,HF.out⟩
   case measure=>simp[intOf];omega
  ·obtain rfl:j=n:=by omega
   have bx:¬(j:Int)<j:=by omega
   have HI:=kq9 st kp sp hf hL a2 a1 ar ai;clear st kp sp hf a2 a1 ar ai hL a6;go_wp2_with fail;go_ret2;exact⟨rfl,S',o',v,HI.a,HI.b,L,HI.out.2.2⟩
theorem FD.keeps{w w':World}{l:List Nat}(h:FD w v l)(e:∀g,v.ownBlock=some g->g<w.heap.size->w'.heap[g]?=w.heap[g]?):FD w' v l:=by
 obtain⟨A,c,rfl,hc⟩:=h;refine⟨A,c,rfl,fun i hi=>?_⟩;obtain⟨g,o,rfl,h1⟩:=hc i hi;exact⟨g,o,rfl,(World.cell?_of_block (e g rfl (fK h1))).trans h1⟩
theorem FE.short{D b c:Nat}{g:Nat}(h:FE w D (.slice (some ⟨b,0,none⟩) (L.length+1) c) (L++[g])):FE w D (.slice (some ⟨b,0,none⟩) L.length c) L:=by
 refine⟨by simp[hV],?_⟩
 rcases h.2 with⟨e,_⟩ | ⟨b',c',ad,e,hb,hg,ap,ai,an,ht⟩
 ·cases e
 ·injection e with e1 e2 e3
  injection e1 with e1
  injection e1 with e1
  subst e1 e3;rw[ah,bi] at ap ht;refine ae ⟨b,c,ad,rfl,hb,hg,by omega,ai,an,?_⟩;rw[Nat.mul_one] at ht⊢;have h2:(ad.toList.take (L.length+1)).take L.length=(hV (L++[g])).take L.length:=by rw[ht]
  rw[List.take_take,dE (by omega)] at h2;rw[h2];unfold hV;rw[aP,List.take_left' (by simp)]
theorem pZ{Z:Nat->Prop}{bt bl D t g:Nat}(h:Ig w ps S Z)(hi:Fv S)(sp:gz w bt bl D ps t v (L++[g]))(zb:Z bl)(zt:Z bt)(zv:∀b,v.ownBlock=some b->Z b)(hL:L.length<=1000)
 {n:BN} {vk vv vc:Value} (hn:iU t n) (hk:FD w vk n.keys) (hv:FD w vv n.vals) (hc:FD w vc n.kids) (nk:∀b,vk.ownBlock=some b->b≠bl) (nv:∀b,vv.ownBlock=some b->b≠bl) (nc:∀b,vc.ownBlock=some b->b≠bl)
 (hg:g<2^64) (hlen:S.len g=(6*t,0)) (hlt:∀x∈bnWords t n,x<2^64):
 Ct 214 #[eC vk vv vc n.size,PV bl,PV bt] w fun e w'=>e=.returned (Xu g)/\∃v',Ig w' ps (FC S g 0 (bnWords t n)) Z/\Fo (fun k=>Z k/\k≠bl) w w'/\gz w' bt bl D ps t v' L/\v'.ownBlock=v.ownBlock:=by
 have hY:=h.yl;obtain⟨b,c,bf⟩:∃b c,v=.slice (some ⟨b,0,none⟩) (L.length+1) c:=by
  rcases sp.row.2 with⟨_,e⟩ | ⟨b,c,a5,e,_⟩
  ·simp at e
  ·exact⟨b,c,by rw[e];simp⟩
 subst bf;have hrow:=sp.row;have a8:=(hrow.ge b rfl).1;have a2:=hrow.short;have a6:L.length<=c:=by
  rcases hrow.2 with⟨e,_⟩ | ⟨b',c',a5,e,hb,bu,bb,bq,bs,ht⟩
  ·cases e
  ·injection e with e1 e2 e3
   subst e3;rw[ah,bi] at bb;omega
 have au:w.cell? ⟨b,L.length,none⟩=some (Xu g):=by
  have:=World.ownsRow.cells hrow (g:=b) rfl L.length (Xu g) (by simp[hV]);rw[Addr.add_lit] at this;simpa using this
 obtain⟨Ak,ck,rfl,ba⟩:=id hk;obtain⟨Av,cv,rfl,bd⟩:=id hv;obtain⟨Ac,cc,rfl,a'⟩:=id hc;clear ba bd a';have B0:=(aa w.heap.size w).alloc Ih (.cells #[.slice Ak n.keys.length ck,.slice Av n.vals.length cv,.slice Ac n.kids.length cc,Xu n.size] 215);have q0:=heap_alloc_new w (.cells #[.slice Ak n.keys.length ck,.slice Av n.vals.length cv,.slice Ac n.kids.length cc,Xu n.size] 215);obtain⟨W0,hW⟩:=Ii (w.alloc (.cells #[.slice Ak n.keys.length ck,.slice Av n.vals.length cv,.slice Ac n.kids.length cc,Xu n.size] 215));rw[hW] at B0 q0;have a3:=h.wide B0;have q1:=(B0.block bl (hY bl zb)).trans sp.box;have q2:=(B0.block bt (hY bt zt)).trans sp.tree;have c1:=(B0.cell (p:=⟨b,L.length,none⟩) (fK au)).trans au;have bc:w.heap.size<W0.heap.size:=(gl q0);have ap:=sp.lo;have a9:=hY bl zb;have ad:∀k,k≠bl->(W0.setCell ⟨bl,0,none⟩ (.slice (some ⟨b,0,none⟩) L.length c)).heap[k]?=W0.heap[k]?:=fun k hk=>FB hk;have r1:=heap_setCell (i:=0) (v:=.slice (some ⟨b,0,none⟩) L.length c) q1;have a1:=a3.write (w':=W0.setCell ⟨bl,0,none⟩ (.slice (some ⟨b,0,none⟩) L.length c)) (b:=bl) (ab zb) q1 ⟨by decide,by decide⟩ (by simp) (by simp) fun k _ hk=>ad k hk;have rk:=hk.keeps (w':=W0.setCell ⟨bl,0,none⟩ (.slice (some ⟨b,0,none⟩) L.length c)) fun x e hx=>(ad x (nk x e)).trans (B0.block x hx);have rv:=hv.keeps (w':=W0.setCell ⟨bl,0,none⟩ (.slice (some ⟨b,0,none⟩) L.length c)) fun x e hx=>(ad x (nv x e)).trans (B0.block x hx);have rc:=hc.keeps (w':=W0.setCell ⟨bl,0,none⟩ (.slice (some ⟨b,0,none⟩) L.length c)) fun x e hx=>(ad x (nc x e)).trans (B0.block x hx);have ar:=Jg a1 hi hn rk rv rc g hg hlen hlt;have t1:=(ad bt (fun e=>ap.2.2 e.symm)).trans q2;have t0:=(ad w.heap.size (by omega)).trans q0;have ai:Fo (fun k=>Z k/\k≠bl) w (W0.setCell ⟨bl,0,none⟩ (.slice (some ⟨b,0,none⟩) L.length c)):=(Fo.of_below B0 fun k hk=>hY k hk.1).trans ⟨rfl,rfl,rfl,by simp,fun k hk=>ad k hk.2⟩;have an:FE (W0.setCell ⟨bl,0,none⟩ (.slice (some ⟨b,0,none⟩) L.length c)) D (.slice (some ⟨b,0,none⟩) L.length c) L:=a2.at fun x e=>(ad x (by have:b=x:=Option.some.inj e;omega)).trans (B0.block x (by have:b=x:=Option.some.inj e;subst this;exact fK au));have a0:=zv b rfl;unfold eC at ar⊢;generalize n.keys.length=lk at*;generalize n.vals.length=lv at*;generalize n.kids.length=lc at*;generalize n.size=sz at*;have l0:(W0).cell? ⟨bl,0,none⟩=some (.slice (some ⟨b,0,none⟩) (L.length+1) c):=by rw[cell_of_block q1];rfl
 have f0:(W0).frozen? ⟨bl,0,none⟩=false:=AT q1;obtain⟨N,hN⟩:=Ii L.length;rw[hN] at a6 hL c1 l0 ar r1 t1 t0 ai an rk rv rc a1 ad;obtain⟨W1,a7⟩:=Ii (W0.setCell ⟨bl,0,none⟩ (.slice (some ⟨b,0,none⟩) N c));rw[a7] at ar r1 t1 t0 ai an;obtain⟨x0,x1⟩:=Fp t1;obtain⟨y0,y1,y2,y3⟩:=Fy t0;have HP:=If ar;have HF:=kq9 r1 t1 ai an zb zt a0 ap hN;have bj:((N:Int)+1==0)=false:=by simp;omega
 have bk:¬((N:Int)+1=0):=by omega
 have bm:IntKind.i64.wrap ((N:Int)+1-1)=N:=by rw[Int.add_sub_cancel];exact az _ (by omega)
 have bo:(N:Int)<(N:Int)+1:=by omega
 clear h hi sp zb zt zv hn hk hv hc nk nv nc hlen hlt hY hrow a8 a2 au B0 q0 a3 q1 q2 bc ap a9 ad r1 a1 rk rv rc ar t1 t0 ai an a0 hN;go_enter func214,ntmps214;go_wp2_with fail;refine HP.out.mono ?_;rintro e w2 ⟨rfl,a4,k2⟩;have HS:=kq2 a4 k2;clear a4 k2;go_wp2_with fail;go_ret;obtain⟨r1,t1,ai,an,zb,zt,a0,ap,hN⟩:=HF.out;have k2:=HS.b;refine⟨rfl,.slice (some ⟨b,0,none⟩) N c,HS.a.mono fun k hk=>ab hk,ai.trans (k2.mono fun k hk=>ab hk.1),⟨(k2.block bl (ab zb)).trans r1,(k2.block bt (ab zt)).trans t1,an.at fun x e=>k2.block x (by have:b=x:=Option.some.inj e;subst this;exact ab a0),ap⟩,rfl⟩
end
section
open Go.RowKit Tryz Go.BigFrame Go.Maps Go.WideMaps Lf Tr
variable{S:St}{Y:Nat->Prop}{ps:Nat}{w:World}
theorem zO(w:World)(ps t:Nat)(key:List UInt8):
 Cb 181 #[FH ps t,Xu 0,SV key] w (Xi 1):=by
 have B0:=(aa w.heap.size w).alloc Ih (Xd ps t);have HB:=If B0;clear B0;unfold FH;go_enter func181,ntmps181;go_wp2_with fail;go_ret;exact⟨rfl,HB.out⟩
theorem tT(h:Ig w ps S Y)(hi:Fv S){t:Nat}(t1:2<=t)(t2:t<=16)(hh:Nat)(hl:hh<2^64)(hlen:S.len hh=(0,7))(key:List UInt8):
 Cb 210 #[FH ps t,Xu hh,SV key] w (.tuple #[i7 none,.bool (none:Option It).isSome,Xi (0:Nat)]):=by
 have B0:=((aa w.heap.size w).alloc Ih (Xd ps t)).alloc (by simp) (.cells #[Xu 0,Xu 0] 104);have z1:(w.alloc (Xd ps t)).heap.size=w.heap.size+1:=by simp
 have q1:=heap_alloc_new w (Xd ps t);have q2:=heap_alloc_new (w.alloc (Xd ps t)) (.cells #[Xu 0,Xu 0] 104);have q3:=(((aa (w.alloc (Xd ps t)).heap.size (w.alloc (Xd ps t))).alloc Ih (.cells #[Xu 0,Xu 0] 104)).block w.heap.size (by simp)).trans q1;rw[z1] at q2;have hz:w.heap.size+2<=((w.alloc (Xd ps t)).alloc (.cells #[Xu 0,Xu 0] 104)).heap.size:=by simp
 generalize hW:(w.alloc (Xd ps t)).alloc (.cells #[Xu 0,Xu 0] 104)=W0 at*;have ad:=nQ (h.below B0) hi t1 t2 hh hl hlen;unfold FH eC at ad;unfold FH;have HG:=kq2 (kq4 B0 q2 q3 hz) ad;clear ad h hi B0 q1 q2 q3 z1 hz hlen;go_enter func210,ntmps210;go_wp2_with fail;clear hW
 go_loopw [1,7,8,9,10,11,12,13,14] (fun s1 s7 s8 _ _ _ _ _ s14 wr=>s1=Xu hh/\s7=.bool false/\s8=Xi 0/\s14=Xi 0/\wr=W0) (fun _ _ _ _ _ _ _ _ _ _=>0)
 case atStart=>exact⟨rfl,rfl,rfl,rfl,rfl⟩
 case round=>
  obtain⟨rfl,rfl,rfl,rfl,rfl⟩:=hrel;have t3:=HG.a.c;obtain⟨x0,x1⟩:=Fp t3;clear t3;go_wp2_with fail;refine b8 HG.b fun w1 hb=>?_;have A1:=(aa w1.heap.size w1).alloc Ih (.cells #[.slice none 0 0,.slice none 0 0,.slice none 0 0,Xu 0] 215);have q6:=(hb.block (w.heap.size+1) (by have:=HG.a.d;omega)).trans HG.a.b;have r6:=(A1.block (w.heap.size+1) (gl q6)).trans q6;have HB:=kq2 (HG.a.a.trans ((hb.trans (A1.mono hb.size)).mono HG.a.a.size)) r6;obtain⟨z0,z1⟩:=Fp r6;obtain⟨f0,f1⟩:=ef r6;clear hb A1 q6 r6;go_wp2_with fail;generalize w1.alloc (.cells #[.slice none 0 0,.slice none 0 0,.slice none 0 0,Xu 0] 215)=WX at*;have eW:=ew HB.b (Xu 0) (Xu 0);have BF:=eT HB.a (b:=w.heap.size+1) (by omega) (Xu 0) (Xu 0);generalize ((WX.setCell ⟨w.heap.size+1,0,none⟩ (Xu 0)).setCell ⟨w.heap.size+1,1,none⟩ (Xu 0))=WF at*;obtain⟨e0,e1⟩:=Fp eW;exact bodyPost_ret (v:=.tuple #[.agg #[Xu 0,Xu 0],.bool false,Xi 0]) (by simp[results,f210,go_sem,e0,e1]) rfl ⟨rfl,BF⟩
theorem qBjab{P:Prop}(h:P:=by
 obtain⟨e0,e1⟩:=Fp eW;exact bodyPost_ret (v:=.tuple #[.agg #[Xu 0,Xu 0],Xi 2]) (by simp[results,f322,go_sem,e0,e1]) rfl ⟨rfl,BF⟩):P:=h
theorem zT(h:Ig w ps S Y)(hi:Fv S){t hh z:Nat}(t1:2<=t)(t2:t<=16)(hs:∀W,Below w.heap.size w W->Cb 175 #[FH ps t,Xu hh] W (Xi z)){k:Int}(hk:k<0\/(z:Int)<=k):
 Ct 322 #[PV ps,Xi t,Xu hh,Xi k] w fun e' w'=>e'=.returned (.tuple #[Id 0 0,Xi 2])/\Below w.heap.size w w':=by
 have B1:=(aa w.heap.size w).alloc Ih (.cells #[Xu 0,Xu 0] 104);have B0:=B1.alloc (by simp) (Xd ps t);have z1:(w.alloc (.cells #[Xu 0,Xu 0] 104)).heap.size=w.heap.size+1:=by simp
 have q1:=heap_alloc_new w (.cells #[Xu 0,Xu 0] 104);have q3:=heap_alloc_new (w.alloc (.cells #[Xu 0,Xu 0] 104)) (Xd ps t);have q2:=(((aa (w.alloc (.cells #[Xu 0,Xu 0] 104)).heap.size (w.alloc (.cells #[Xu 0,Xu 0] 104))).alloc Ih (Xd ps t)).block w.heap.size (by simp)).trans q1;rw[z1] at q3;have hz:w.heap.size+2<=((w.alloc (.cells #[Xu 0,Xu 0] 104)).alloc (Xd ps t)).heap.size:=by simp
 have has:=kZ (h.below B1) hi t1 t2;generalize an:w.alloc (.cells #[Xu 0,Xu 0] 104)=Wa at*;generalize hW:Wa.alloc (Xd ps t)=W0 at*;have ar:Wa.heap.size=w.heap.size+1:=z1;have ad:=hs W0 B0;obtain⟨x0,x1⟩:=Fp q3;obtain⟨c0,c1⟩:=Fp q2;obtain⟨f0,f1⟩:=ef q2;have HG:=kq2 (kq4 B0 q2 q3 hz) has;unfold FH at ad;have H0:=If ad;clear h hi hs B0 B1 q1 q2 q3 z1 hz has ad
 rcases hk with hk | hk
 ·go_enter func322,ntmps322;go_wp2_with fail;refine Jc HG.b ?_;go_wp2_with fail;have eW:=ew HG.a.b (Xu 0) (Xu 0);have BF:=eT HG.a.a (b:=w.heap.size) (by omega) (Xu 0) (Xu 0);generalize ((W0.setCell ⟨w.heap.size,0,none⟩ (Xu 0)).setCell ⟨w.heap.size,1,none⟩ (Xu 0))=WF at*;exact qBjab
 ·have ap:¬k<0:=by omega
  clear c0 c1 f0;go_enter func322,ntmps322;go_wp2_with fail;refine Jc HG.b ?_;go_wp2_with fail;refine b8 H0.out fun w2 hb1=>?_;have r2:=(hb1.block w.heap.size (by have:=HG.a.d;omega)).trans HG.a.b;obtain⟨c0,c1⟩:=Fp r2;obtain⟨f0,f1⟩:=ef r2;have ai:=kq2 (HG.a.a.trans (hb1.mono HG.a.a.size)) r2;clear hb1 x0 x1 r2;go_wp2_with fail;have eW:=ew ai.b (Xu 0) (Xu 0);have BF:=eT ai.a (b:=w.heap.size) (by omega) (Xu 0) (Xu 0);generalize ((w2.setCell ⟨w.heap.size,0,none⟩ (Xu 0)).setCell ⟨w.heap.size,1,none⟩ (Xu 0))=WF at*;exact qBjab
end
section
open Go.RowKit Tryz Go.BigFrame Go.Maps Go.WideMaps Lf Tr
open Go.Shelf
variable{S:St}{Y:Nat->Prop}{i:Nat}{l:List Nat}{v:Value}{w:World}
theorem FE.block{B:Nat}(h:FE w B v l){g:Nat}(hg:v.ownBlock=some g):B<=g/\g<w.heap.size/\∃cs fr,w.heap[g]?=some (.cells cs 61 fr):=by
 rcases h.2 with⟨e,_⟩ | ⟨b,c,ad,e,hb,ai,ar,an,ap,ht⟩
 ·rw[e] at hg
  cases hg
 ·rw[e] at hg
  cases hg
  grind
structure kG (w w':World) (B ps:Nat) (S:St) (Y:Nat->Prop) (v v':Value) (l':List Nat):Prop where
 own:FE w' B v' l'
 st:Ig w' ps S (fun k=>Y k\/(w.heap.size<=k/\k<w'.heap.size))
 grown:w.grownBy w' v.ownBlock
 at':v'.ownBlock=v.ownBlock\/∃g,v'.ownBlock=some g/\w.heap.size<=g
theorem kG.other{w w':World}{B ps:Nat}{v v':Value}{l':List Nat}(h:kG w w' B ps S Y v v' l'){k:Nat}(hk:k<w.heap.size)(hne:v.ownBlock≠some k):w'.heap[k]?=w.heap[k]?:=h.grown.block k hk (Ne.symm hne)
theorem kG.keep{w w':World}{B ps:Nat}{v v':Value}{l':List Nat}(h:kG w w' B ps S Y v v' l'){Z:Nat->Prop}(hz:∀k,Z k->k<w.heap.size/\v.ownBlock≠some k):Fo Z w w':=
 ⟨h.grown.os,h.grown.tape,h.grown.output,h.grown.size,fun k hk=>h.grown.block k (hz k hk).1 (Ne.symm (hz k hk).2)⟩
theorem kG.row{w w':World}{B ps:Nat}{v v':Value}{l':List Nat}(h:kG w w' B ps S Y v v' l'){B2:Nat}{u:Value}{l2:List Nat}(hu:FE w B2 u l2)(hne:∀g,u.ownBlock=some g->v.ownBlock≠some g):FE w' B2 u l2:=
 hu.at fun x e=>h.other (hu.block e).2.1 (hne x e)
theorem uT{B ps:Nat}(h:Ig w ps S Y)(ho:FE w B v l)(hY:∀g,v.ownBlock=some g->Y g)(htab:fy<B)(hl:l.length<=1000)(hi:i<=l.length){x vb:Nat}(hx:w.heap[vb]?=some (.cells #[Xu x] 61 (0,0)))(hne:v.ownBlock≠some vb)(hB:B<=w.heap.size):
 Ct 215 #[v,Xi i,.slice (some ⟨vb,0,none⟩) 1 1] w fun e w'=>∃v',e=.returned v'/\kG w w' B ps S Y v v' (l.take i++x::l.drop i):=by
 refine(Bj ho hl hi hx hne hB).mono ?_;rintro e w' ⟨v',rfl,h1,h2,h3⟩;refine⟨v',rfl,h1,h.grown h2 fun g hg=>?_,h2,h3⟩;obtain⟨hb,_,hc⟩:=ho.block hg;grind
structure fD (w0 w:World) (B ps:Nat) (S:St) (Y:Nat->Prop) (v1 v2 u1 u2:Value) (m1 m2:List Nat):Prop where
 own1:FE w B u1 m1
 own2:FE w B u2 m2
 st:Ig w ps S (fun k=>Y k\/(w0.heap.size<=k/\k<w.heap.size))
 keep:Fo (fun k=>k<w0.heap.size/\v1.ownBlock≠some k/\v2.ownBlock≠some k) w0 w
 p1:u1.ownBlock=v1.ownBlock\/∃g,u1.ownBlock=some g/\w0.heap.size<=g
 p2:u2.ownBlock=v2.ownBlock\/∃g,u2.ownBlock=some g/\w0.heap.size<=g
 apart:∀g,u1.ownBlock=some g->u2.ownBlock≠some g
 y1:∀g,v1.ownBlock=some g->Y g
 y2:∀g,v2.ownBlock=some g->Y g
theorem fD.swap{w0 w:World}{B ps:Nat}{v1 v2 u1 u2:Value}{m1 m2:List Nat}(h:fD w0 w B ps S Y v1 v2 u1 u2 m1 m2):fD w0 w B ps S Y v2 v1 u2 u1 m2 m1:=
 ⟨h.own2,h.own1,h.st,h.keep.mono fun _ hk=>⟨hk.1,hk.2.2,hk.2.1⟩,h.p2,h.p1,fun g h2 h1=>h.apart g h1 h2,h.y2,h.y1⟩
theorem fD.start{B ps:Nat}{v1 v2:Value}{m1 m2:List Nat}(h:Ig w ps S Y)(o1:FE w B v1 m1)(o2:FE w B v2 m2)(ap:∀g,v1.ownBlock=some g->v2.ownBlock≠some g)(y1:∀g,v1.ownBlock=some g->Y g)(y2:∀g,v2.ownBlock=some g->Y g):fD w w B ps S Y v1 v2 v1 v2 m1 m2:=
 ⟨o1,o2,h.mono fun _ hk=>hk.elim id fun h=>absurd h.1 (Nat.not_le.2 h.2),Fo.refl _ _,ab rfl,ab rfl,ap,y1,y2⟩
theorem fD.below{w0 w w':World}{B ps:Nat}{v1 v2 u1 u2:Value}{m1 m2:List Nat}(h:fD w0 w B ps S Y v1 v2 u1 u2 m1 m2)(hb:Below w.heap.size w w'):fD w0 w' B ps S Y v1 v2 u1 u2 m1 m2:=
 ⟨h.own1.at fun x e=>hb.block x (h.own1.block e).2.1,h.own2.at fun x e=>hb.block x (h.own2.block e).2.1,
  (h.st.wide hb).mono fun k hk=>by
   rcases hk with hk | hk
   ·exact ab (ab hk)
   ·by_cases hw:k<w.heap.size
    ·exact ab (ae ⟨hk.1,hw⟩)
    ·exact ae ⟨by omega,hk.2⟩,
  h.keep.trans (Fo.of_below hb fun k hk=>by have:=h.keep.size;omega),h.p1,h.p2,h.apart,h.y1,h.y2⟩
theorem fD.ins{w0 w:World}{B ps:Nat}{v1 v2 u1 u2:Value}{m1 m2:List Nat}(h:fD w0 w B ps S Y v1 v2 u1 u2 m1 m2)(htab:fy<B)(hB:B<=w.heap.size)(hl:m1.length<=1000)(hi:i<=m1.length){x vb:Nat}(hx:w.heap[vb]?=some (.cells #[Xu x] 61 (0,0)))(hne:u1.ownBlock≠some vb):
 Ct 215 #[u1,Xi i,.slice (some ⟨vb,0,none⟩) 1 1] w fun e w'=>∃ad,e=.returned ad/\fD w0 w' B ps S Y v1 v2 ad u2 (m1.take i++x::m1.drop i) m2/\(∀k,k<w.heap.size->u1.ownBlock≠some k->w'.heap[k]?=w.heap[k]?):=by
 refine(uT h.st h.own1 (fun g hg=>?_) htab hl hi hx hne hB).mono ?_
 ·rcases h.p1 with e | ⟨g',e,ai⟩
  ·exact ab (h.y1 g (by grind))
  ·rw[e] at hg
   injection hg with hg
   subst hg;exact ae ⟨ai,(h.own1.block e).2.1⟩
 ·rintro e w' ⟨ad,rfl,I⟩;have an:=h.keep.size;have ap:=I.grown.size;refine⟨ad,rfl,⟨I.own,I.row h.own2 fun g hg e=>h.apart g e hg,I.st.mono fun k hk=>?_,h.keep.trans (I.keep fun k hk=>⟨by omega,fun e=>?_⟩),?_,h.p2,fun g hg e=>?_,h.y1,h.y2⟩,fun k hk hn=>I.other hk hn⟩
  ·grind
  ·rcases h.p1 with e1 | ⟨g',e1,ai⟩
   ·exact hk.2.1 (by rw[<-e1];exact e)
   grind
  ·rcases I.at' with e1 | ⟨g,e1,hg⟩
   ·rw[e1];exact h.p1
   grind
  ·rcases I.at' with e1 | ⟨g',e1,ai⟩
   ·exact h.apart g (by grind) e
   ·rw[e1] at hg
    injection hg with hg
    have:=(h.own2.block e).2.1;omega
def JB(bt bl:Nat):Value:=.func (.func 214) #[] #[PV bl,PV bt]
def iQ:Option (It×Nat)->Array Value
 | none=>#[.bool false,Xu 0,Xu 0,Xu 0]
 | some (m,g)=>#[.bool true,Xu m.kh,Xu m.vh,Xu g]
def ky(r:Option (It×Nat)):Value:=.agg (iQ r)
def j4(d:Nat):Prop:=∀{w:World} {ps:Nat} {S:St} {o:Nat->Nat} {Z:Nat->Prop} {bt bl D t:Nat} {v:Value} {L:List Nat} {x:Bt (d+1)} {e:It} (i:Nat),
 Ig w ps S Z->Bt.Walk S o t x->(Bt.nodes x).Nodup->i+d<40->gz w bt bl D ps t v L->lG S t L->(∀h∈L,h∉Bt.nodes x)->Z bl->Z bt->(∀b,v.ownBlock=some b->Z b)->L.length<=1000->
 (∀a∈Bt.its x,a.k≠e.k)->Bt.ItLt (Bt.its x)->e.kh<2^64->e.vh<2^64->Bt.trail (Bt.fullB t e.k x)<=L.length->
 Ct 182 #[FH ps t,Xu (Bt.hd x:Nat),SV e.k,Id e.kh e.vh,JB bt bl,Xi i] w fun en w'=>∃(r:Option (It×Nat)) (S':St) (v':Value) (L' U:List Nat),en=.returned (ky r)/\L=L'++U/\Bt.Put S S' o t x e U r/\Ig w' ps S' Z/\Fo (fun k=>Z k/\k≠bl) w w'/\gz w' bt bl D ps t v' L'/\v'.ownBlock=v.ownBlock/\U.length=Bt.trail (Bt.fullB t e.k x)/\r.isSome=(Bt.fullB t e.k x).all id
structure eH (w:World) (ps:Nat) (Z:Nat->Prop) (bt bl D t:Nat) (v:Value) (bN:Nat) (wc:World) (S':St) (Y:Nat->Prop) (v':Value) (L':List Nat) (vk vv vc:Value) (sz:Nat) (ks vs cs:List Nat):Prop where
 st:Ig wc ps S' Y
 zy:∀k,Z k->Y k
 zl:∀k,Z k->k<w.heap.size
 zs:Z bl/\Z bt/\∀b,v.ownBlock=some b->Z b
 keep:Fo (fun k=>Z k/\k≠bl) w wc
 sp:gz wc bt bl D ps t v' L'
 own:v'.ownBlock=v.ownBlock
 box:wc.heap[bN]?=some (.cells #[vk,vv,vc,Xu sz] 215 (0,0))
 rows:fN wc (w.heap.size+3) vk vv vc ks vs cs
 yb:Y bN/\Y w.heap.size/\Y (w.heap.size+2)
 yk:∀g,(vk.ownBlock=some g\/vv.ownBlock=some g\/vc.ownBlock=some g)->Y g
 tree:wc.heap[w.heap.size]?=some (.cells #[PV ps,Xi t] 145 (0,0))
 res:wc.heap[w.heap.size+2]?=some (.cells #[.bool false,Xu 0,Xu 0,Xu 0] 274 (0,0))
 at3:w.heap.size+3<=bN
theorem gz.keeps{w w':World}{bt bl D ps t:Nat}{L:List Nat}(h:gz w bt bl D ps t v L)(e:∀k,iJ bt bl v k->w'.heap[k]?=w.heap[k]?):gz w' bt bl D ps t v L:=
 ⟨(e bl (ae (ab rfl))).trans h.box,(e bt (ab rfl)).trans h.tree,h.row.at fun g hg=>e g (ae (ae hg)),h.lo⟩
section
variable {w wc wc':World}{ps:Nat}{Z:Nat->Prop}{bt bl D t:Nat}{v:Value}{bN:Nat}{S' S2:St}{Y Y':Nat->Prop}{v' v2:Value}{L' L2:List Nat}{vk vv vc uk uv uc:Value}{sz sz':Nat}{ks vs cs ks' vs' cs':List Nat}
theorem eH.ne(h:eH w ps Z bt bl D t v bN wc S' Y v' L' vk vv vc sz ks vs cs):vk.ownBlock≠some bN/\vv.ownBlock≠some bN/\vc.ownBlock≠some bN:=by
 have hb:=h.box;refine⟨fun q=>?_,fun q=>?_,fun q=>?_⟩
 ·obtain⟨cs,fr,e⟩:=(h.rows.k.block q).2.2
  grind
 ·obtain⟨cs,fr,e⟩:=(h.rows.v.block q).2.2
  grind
 ·obtain⟨cs,fr,e⟩:=(h.rows.c.block q).2.2
  grind
theorem eH.lt(h:eH w ps Z bt bl D t v bN wc S' Y v' L' vk vv vc sz ks vs cs):bN<wc.heap.size:=(gl h.box)
theorem eH.spz(h:eH w ps Z bt bl D t v bN wc S' Y v' L' vk vv vc sz ks vs cs):∀k,iJ bt bl v' k->Z k:=fun k hk=>by
 rcases hk with rfl | rfl | hk
 ·exact h.zs.2.1
 ·exact h.zs.1
 ·exact h.zs.2.2 k (by rw[<-h.own];exact hk)
theorem eH.move(h:eH w ps Z bt bl D t v bN wc S' Y v' L' vk vv vc sz ks vs cs)(st:Ig wc' ps S2 Y')(hy:∀k,Y k->Y' k)(kp:Fo (fun k=>(Z k/\k≠bl)\/k=w.heap.size\/k=w.heap.size+2) wc wc')(sp:gz wc' bt bl D ps t v2 L2)(own:v2.ownBlock=v.ownBlock)
 (box:wc'.heap[bN]?=some (.cells #[uk,uv,uc,Xu sz'] 215 (0,0))) (rows:fN wc' (w.heap.size+3) uk uv uc ks' vs' cs') (yk:∀g,(uk.ownBlock=some g\/uv.ownBlock=some g\/uc.ownBlock=some g)->Y' g):eH w ps Z bt bl D t v bN wc' S2 Y' v2 L2 uk uv uc sz' ks' vs' cs':=
 ⟨st,fun k hk=>hy k (h.zy k hk),h.zl,h.zs,h.keep.trans (kp.mono fun _ hk=>ab hk),sp,own,box,rows,⟨hy _ h.yb.1,hy _ h.yb.2.1,hy _ h.yb.2.2⟩,yk,(kp.block _ (ae (ab rfl))).trans h.tree,(kp.block _ (ae (ae rfl))).trans h.res,h.at3⟩
theorem eH.below(h:eH w ps Z bt bl D t v bN wc S' Y v' L' vk vv vc sz ks vs cs)(hb:Below wc.heap.size wc wc'):eH w ps Z bt bl D t v bN wc' S' (fun k=>Y k\/(wc.heap.size<=k/\k<wc'.heap.size)) v' L' vk vv vc sz ks vs cs:=by
 have ad:=h.st.yl;have ai:=h.keep.size;refine h.move (h.st.wide hb) (fun k hk=>ab hk) (Fo.of_below hb fun k hk=>?_) (h.sp.keeps fun k hk=>hb.block k (ad k (h.zy k (h.spz k hk)))) h.own ((hb.block bN h.lt).trans h.box) (h.rows.below hb) fun g hg=>ab (h.yk g hg)
 rcases hk with hk | rfl | rfl
 ·exact ad k (h.zy k hk.1)
 ·exact ad _ h.yb.2.1
 ·exact ad _ h.yb.2.2
end
structure gQ (w:World) (ps:Nat) (S:St) (o:Nat->Nat) (Z:Nat->Prop) (bt bl D t:Nat) (v:Value) (L:List Nat) {d:Nat} (x:Bt (d+1)) (e:It) (bN:Nat) (wc:World) (S':St) (Y:Nat->Prop) (v':Value) (L' U:List Nat) (x':Bt (d+1)) (vk vv vc:Value):Prop where
 held:eH w ps Z bt bl D t v bN wc S' Y v' L' vk vv vc (Bt.its x).length (Bt.bn x').keys (Bt.bn x').vals (Bt.bn x').kids
 sum:L=L'++U
 mid:Bt.Mid S S' o t x e U x'
 num:U.length+(if(Bn.es x').length=2*t then 1 else 0)=Bt.trail (Bt.fullB t e.k x)
 all:decide ((Bn.es x').length=2*t)=(Bt.fullB t e.k x).all id
theorem fD.drew {w0 w:World}{B ps:Nat}{S:St}{Y:Nat->Prop}{v1 v2 u1 u2:Value}{m1 m2:List Nat}(h:fD w0 w B ps S Y v1 v2 u1 u2 m1 m2):fD w0 w.drew B ps S Y v1 v2 u1 u2 m1 m2:=h.below (aa _ w).drew
theorem fD.one {w0 w:World}{B ps:Nat}{S:St}{Y:Nat->Prop}{v1 v2 u1 u2:Value}{m1 m2:List Nat}(h:fD w0 w B ps S Y v1 v2 u1 u2 m1 m2)(x:Nat):fD w0 (w.alloc (Xf x)) B ps S Y v1 v2 u1 u2 m1 m2/\(w.alloc (Xf x)).heap[w.heap.size]?=some (.cells #[Xu x] 61 (0,0))/\u1.ownBlock≠some w.heap.size/\u2.ownBlock≠some w.heap.size/\w.heap.size<(w.alloc (Xf x)).heap.size/\Below w.heap.size w (w.alloc (Xf x)):=
 ⟨h.below ((aa _ w).alloc Ih _),heap_alloc_new w _,fun q=>by have:=(h.own1.block q).2.1;omega,fun q=>by have:=(h.own2.block q).2.1;omega,by simp,(aa _ w).alloc Ih _⟩
theorem fD.done {w0 w:World}{B ps:Nat}{S:St}{Y:Nat->Prop}{v1 v2 u1 u2:Value}{m1 m2:List Nat}(T:fD w0 w B ps S Y v1 v2 u1 u2 m1 m2){bN sz:Nat}{vc:Value}(hN:w0.heap[bN]?=some (.cells #[v1,v2,vc,Xu sz] 215 (0,0)))(yN:Y bN)(n1:v1.ownBlock≠some bN)(n2:v2.ownBlock≠some bN):
 w.heap[bN]?=some (.cells #[v1,v2,vc,Xu sz] 215 (0,0))/\(w.setCell ⟨bN,0,none⟩ u1).heap[bN]?=some (.cells #[u1,v2,vc,Xu sz] 215 (0,0))/\∀w',w'=(w.setCell ⟨bN,0,none⟩ u1).setCell ⟨bN,1,none⟩ u2->w'.heap[bN]?=some (.cells #[u1,u2,vc,Xu sz] 215 (0,0))/\FE w' B u1 m1/\FE w' B u2 m2/\Ig w' ps S (fun k=>Y k\/(w0.heap.size<=k/\k<w.heap.size))/\Fo (fun k=>k<w0.heap.size/\v1.ownBlock≠some k/\v2.ownBlock≠some k/\k≠bN) w0 w'/\w'.heap.size=w.heap.size:=by
 have hlt:bN<w0.heap.size:=(gl hN);have e0:=(T.keep.block bN ⟨hlt,n1,n2⟩).trans hN;have e1:(w.setCell ⟨bN,0,none⟩ u1).heap[bN]?=some (.cells #[u1,v2,vc,Xu sz] 215 (0,0)):=heap_setCell (i:=0) (v:=u1) e0;have e2:((w.setCell ⟨bN,0,none⟩ u1).setCell ⟨bN,1,none⟩ u2).heap[bN]?=some (.cells #[u1,u2,vc,Xu sz] 215 (0,0)):=heap_setCell (i:=1) (v:=u2) e1;have ad:∀k,k≠bN->((w.setCell ⟨bN,0,none⟩ u1).setCell ⟨bN,1,none⟩ u2).heap[k]?=w.heap[k]?:=fun k hk=>(FB hk).trans (FB hk);have q1:∀g,u1.ownBlock=some g->g≠bN:=fun g hg q=>by
  rcases T.p1 with e | ⟨g',e,ai⟩
  ·rw[e] at hg;exact n1 (hg.trans (q▸rfl))
  grind
 have q2:∀g,u2.ownBlock=some g->g≠bN:=fun g hg q=>by
  rcases T.p2 with e | ⟨g',e,ai⟩
  ·rw[e] at hg;exact n2 (hg.trans (q▸rfl))
  grind
 refine⟨e0,e1,?_⟩;rintro w' rfl;refine⟨e2,T.own1.at fun g hg=>ad g (q1 g hg),T.own2.at fun g hg=>ad g (q2 g hg),?_,?_,by simp⟩
 ·exact T.st.write (b:=bN) (ab yN) e0 ⟨by decide,by decide⟩ (by simp) (by simp) fun k _ hk=>ad k hk
 ·exact((T.keep.mono fun k hk=>⟨hk.1,hk.2.1,hk.2.2.1⟩).trans (Fo.mark fun b hb=>hb.2.2.2)).trans (Fo.mark fun b hb=>hb.2.2.2)
section
variable {w wc wc':World}{ps:Nat}{Z:Nat->Prop}{bt bl D t:Nat}{v:Value}{bN:Nat}{S' S2:St}{Y Y':Nat->Prop}{v' v2:Value}{L' L2:List Nat}{vk vv vc uk uv uc:Value}{sz sz':Nat}{ks vs cs ks' vs' cs':List Nat}
theorem eH.two(h:eH w ps Z bt bl D t v bN wc S' Y v' L' vk vv vc sz ks vs cs):fD wc wc (w.heap.size+3) ps S' Y vk vv vk vv ks vs:=fD.start h.st h.rows.k h.rows.v h.rows.kv (fun g hg=>h.yk g (ab hg)) fun g hg=>h.yk g (ae (ab hg))
theorem qBjaa{P:Prop}(h:P:=by
 rcases hk with hk | rfl | rfl
 ·have:=h.zl k hk.1;omega
 ·omega
 omega):P:=h
theorem eH.grow(h:eH w ps Z bt bl D t v bN wc S' Y v' L' vk vv vc sz ks vs cs)(T:fD wc wc' (w.heap.size+3) ps S' Y vk vv uk uv ks' vs'):
 wc'.heap[bN]?=some (.cells #[vk,vv,vc,Xu sz] 215 (0,0))/\(wc'.setCell ⟨bN,0,none⟩ uk).heap[bN]?=some (.cells #[uk,vv,vc,Xu sz] 215 (0,0))/\eH w ps Z bt bl D t v bN ((wc'.setCell ⟨bN,0,none⟩ uk).setCell ⟨bN,1,none⟩ uv) S' (fun k=>Y k\/(wc.heap.size<=k/\k<wc'.heap.size)) v' L' uk uv vc sz ks' vs' cs:=by
 have au:=h.st.yl;have ap:=h.keep.size;have hl:=h.lt;have h3:=h.at3;obtain⟨a0,a1,a2⟩:=T.done h.box h.yb.1 h.ne.1 h.ne.2.1;refine⟨a0,a1,?_⟩;obtain⟨b1,b2,b3,b4,b5,b6⟩:=a2 _ rfl;have an:∀g,(vk.ownBlock=some g\/vv.ownBlock=some g\/vc.ownBlock=some g)->w.heap.size+3<=g/\g<wc.heap.size:=fun g hg=>by
  rcases hg with hg | hg | hg
  ·exact⟨(h.rows.k.block hg).1,(h.rows.k.block hg).2.1⟩
  ·exact⟨(h.rows.v.block hg).1,(h.rows.v.block hg).2.1⟩
  ·exact⟨(h.rows.c.block hg).1,(h.rows.c.block hg).2.1⟩
 have kz:∀k,k<w.heap.size+3->k<wc.heap.size/\vk.ownBlock≠some k/\vv.ownBlock≠some k/\k≠bN:=fun k hk=>⟨by omega,fun q=>by grind,fun q=>by grind,by omega⟩;have ad:∀{u u0:Value},(u.ownBlock=u0.ownBlock\/∃g,u.ownBlock=some g/\wc.heap.size<=g)->(∀g,u0.ownBlock=some g->vc.ownBlock≠some g)->∀g,u.ownBlock=some g->vc.ownBlock≠some g:=fun hu ha g hg q=>by
  grind
 refine h.move b4 (fun k hk=>ab hk) (b5.mono fun k hk=>kz k ?_) (h.sp.keeps fun k hk=>b5.block k (kz k (by have:=h.zl k (h.spz k hk);omega))) h.own b1 ⟨b2,b3,?_,T.apart,ad T.p1 h.rows.kc,ad T.p2 h.rows.vc⟩ fun g hg=>?_
 ·exact qBjaa
 ·refine h.rows.c.at fun g hg=>b5.block g ⟨(an g (ae (ae hg))).2,fun q=>h.rows.kc g q hg,fun q=>h.rows.vc g q hg,fun q=>h.ne.2.2 (q▸hg)⟩
 ·have ar:=b6
  rcases hg with hg | hg | hg
  ·rcases T.p1 with e | ⟨g',e,ai⟩
   ·exact ab (h.yk g (ab (e▸hg)))
   ·exact ae ⟨by grind,(T.own1.block hg).2.1⟩
  ·rcases T.p2 with e | ⟨g',e,ai⟩
   ·exact ab (h.yk g (ae (ab (e▸hg))))
   ·exact ae ⟨by grind,(T.own2.block hg).2.1⟩
  ·exact ab (h.yk g (ae (ae hg)))
theorem eH.grow3(h:eH w ps Z bt bl D t v bN wc S' Y v' L' vk vv vc sz ks vs cs)(I:kG wc wc' (w.heap.size+3) ps S' Y vc uc cs'):
 wc'.heap[bN]?=some (.cells #[vk,vv,vc,Xu sz] 215 (0,0))/\eH w ps Z bt bl D t v bN (wc'.setCell ⟨bN,2,none⟩ uc) S' (fun k=>Y k\/(wc.heap.size<=k/\k<wc'.heap.size)) v' L' vk vv uc sz ks vs cs':=by
 have au:=h.st.yl;have ar:=h.keep.size;have hl:=h.lt;have h3:=h.at3;have e0:=(I.other hl h.ne.2.2).trans h.box;refine⟨e0,?_⟩;have ap:=fun g (hg:vc.ownBlock=some g)=>h.rows.c.block hg;have an:∀k,k<wc.heap.size->k≠bN->vc.ownBlock≠some k->(wc'.setCell ⟨bN,2,none⟩ uc).heap[k]?=wc.heap[k]?:=fun k hk h1 h2=>(FB h1).trans (I.other hk h2);have kz:∀k,k<w.heap.size+3->(wc'.setCell ⟨bN,2,none⟩ uc).heap[k]?=wc.heap[k]?:=fun k hk=>an k (by omega) (by omega) fun q=>by grind
 have ai:∀k,((Z k/\k≠bl)\/k=w.heap.size\/k=w.heap.size+2)->k<wc.heap.size/\vc.ownBlock≠some k/\k≠bN:=fun k hk=>by
  have:k<w.heap.size+3:=by
   rcases hk with hk | rfl | rfl
   ·have:=h.zl k hk.1;omega
   ·omega
   ·omega
  grind
 have n3:∀g,uc.ownBlock=some g->g≠bN:=fun g hg q=>by
  rcases I.at' with e | ⟨g',e,ad⟩
  ·rw[e] at hg;exact h.ne.2.2 (hg.trans (q▸rfl))
  grind
 refine h.move (I.st.write (b:=bN) (ab h.yb.1) e0 ⟨by decide,by decide⟩ (by simp) (by simp) fun k _ hk=>FB hk) (fun k hk=>ab hk) (Fo.trans (b:=wc') ⟨I.grown.os,I.grown.tape,I.grown.output,I.grown.size,fun k hk=>I.other (ai k hk).1 (ai k hk).2.1⟩ (Fo.mark fun k hk=>(ai k hk).2.2)) (h.sp.keeps fun k hk=>kz k (by have:=h.zl k (h.spz k hk);omega)) h.own (heap_setCell (i:=2) (v:=uc) e0) ⟨?_,?_,I.own.at fun g hg=>FB (n3 g hg),h.rows.kv,fun g hg q=>?_,fun g hg q=>?_⟩ fun g hg=>?_
 ·exact h.rows.k.at fun g hg=>an g (h.rows.k.block hg).2.1 (fun q=>h.ne.1 (q▸hg)) (h.rows.kc g hg)
 ·exact h.rows.v.at fun g hg=>an g (h.rows.v.block hg).2.1 (fun q=>h.ne.2.1 (q▸hg)) (h.rows.vc g hg)
 ·rcases I.at' with e | ⟨g',e,ad⟩
  ·exact h.rows.kc g hg (e▸q)
  ·rw[e] at q;have q:g'=g:=Option.some.inj q;have:=(h.rows.k.block hg).2.1;omega
 ·rcases I.at' with e | ⟨g',e,ad⟩
  ·exact h.rows.vc g hg (e▸q)
  ·rw[e] at q;have q:g'=g:=Option.some.inj q;have:=(h.rows.v.block hg).2.1;omega
 ·rcases hg with hg | hg | hg
  ·exact ab (h.yk g (ab hg))
  ·exact ab (h.yk g (ae (ab hg)))
  ·rcases I.at' with e | ⟨g',e,ad⟩
   ·exact ab (h.yk g (ae (ae (e▸hg))))
   ·exact ae ⟨by grind,(I.own.block hg).2.1⟩
theorem eH.size(h:eH w ps Z bt bl D t v bN wc S' Y v' L' vk vv vc sz ks vs cs)(n:Nat):eH w ps Z bt bl D t v bN (wc.setCell ⟨bN,3,none⟩ (Xu n)) S' Y v' L' vk vv vc n ks vs cs:=by
 have hl:=h.lt;have h3:=h.at3;have ad:∀k,k≠bN->(wc.setCell ⟨bN,3,none⟩ (Xu n)).heap[k]?=wc.heap[k]?:=fun k h1=>FB h1;refine h.move (h.st.write (b:=bN) h.yb.1 h.box ⟨by decide,by decide⟩ (by simp) (by simp) fun k _ hk=>FB hk) (fun k hk=>hk) (Fo.mark fun k hk=>?_) (h.sp.keeps fun k hk=>ad k (by have:=h.zl k (h.spz k hk);omega)) h.own (heap_setCell (i:=3) (v:=Xu n) h.box) ⟨?_,?_,?_,h.rows.kv,h.rows.kc,h.rows.vc⟩ h.yk
 ·exact qBjaa
 ·exact h.rows.k.at fun g hg=>ad g fun q=>h.ne.1 (q▸hg)
 ·exact h.rows.v.at fun g hg=>ad g fun q=>h.ne.2.1 (q▸hg)
 ·exact h.rows.c.at fun g hg=>ad g fun q=>h.ne.2.2 (q▸hg)
theorem eH.kid(h:eH w ps Z bt bl D t v bN wc S' Y v' L' vk vv vc sz ks vs cs)(st:Ig wc' ps S2 Y)(kp:Fo (fun k=>Y k/\k≠bl) wc wc')(sp:gz wc' bt bl D ps t v2 L2)(own:v2.ownBlock=v'.ownBlock):eH w ps Z bt bl D t v bN wc' S2 Y v2 L2 vk vv vc sz ks vs cs:=by
 have ad:=h.zl bl h.zs.1;have h3:=h.at3;have q:=h.yk;have row:∀g,(vk.ownBlock=some g\/vv.ownBlock=some g\/vc.ownBlock=some g)->w.heap.size+3<=g->wc'.heap[g]?=wc.heap[g]?:=fun g hg hg3=>kp.block g ⟨h.yk g hg,by omega⟩;refine h.move st (fun k hk=>hk) (kp.mono fun k hk=>?_) sp (own.trans h.own) ((kp.block bN ⟨h.yb.1,by omega⟩).trans h.box) ⟨?_,?_,?_,h.rows.kv,h.rows.kc,h.rows.vc⟩ h.yk
 ·rcases hk with hk | rfl | rfl
  ·exact⟨h.zy k hk.1,hk.2⟩
  ·exact⟨h.yb.2.1,by omega⟩
  ·exact⟨h.yb.2.2,by omega⟩
 ·exact h.rows.k.at fun g hg=>row g (ab hg) (h.rows.k.block hg).1
 ·exact h.rows.v.at fun g hg=>row g (ae (ab hg)) (h.rows.v.block hg).1
 ·exact h.rows.c.at fun g hg=>row g (ae (ae hg)) (h.rows.c.block hg).1
end
namespace Bt
variable{U:List Nat}{d:Nat}{e:It}{k:Nat}
theorem leafPut_bn(x:Bt (d+1))(e:It):(bn (leafPut x e)).keys=(bn x).keys.take (Fr e.k (Bn.es x))++e.kh::(bn x).keys.drop (Fr e.k (Bn.es x))/\(bn (leafPut x e)).vals=(bn x).vals.take (Fr e.k (Bn.es x))++e.vh::(bn x).vals.drop (Fr e.k (Bn.es x))/\(bn (leafPut x e)).kids=(bn x).kids:=by
 refine⟨?_,?_,rfl⟩
 ·show ((Bn.es x).take _++e::(Bn.es x).drop _).map _=((Bn.es x).map _).take _++e.kh::((Bn.es x).map _).drop _
  simp_all
 ·show ((Bn.es x).take _++e::(Bn.es x).drop _).map _=((Bn.es x).map _).take _++e.vh::((Bn.es x).map _).drop _
  simp_all
theorem Ci(x:Bt (d+1))(e:It):(Bn.es (leafPut x e)).length=(Bn.es x).length+1:=lg (kH _) e
theorem BR(x:Bt (d+1))(e:It)(y1:Bt d)(m:It)(y2:Bt d):(Bn.es (ja x (Fr e.k (Bn.es x)) y1 m y2)).length=(Bn.es x).length+1:=lg (kH _) m
theorem kidPut_bn(x:Bt (d+1))(k:Nat)(hk:k<(Bn.ks x).length){y:Bt d}(hy:hd y=hd (Bn.ks x)[k]):(bn (ju x k y)).keys=(bn x).keys/\(bn (ju x k y)).vals=(bn x).vals/\(bn (ju x k y)).kids=(bn x).kids:=by
 refine⟨rfl,rfl,?_⟩
 show ((Bn.ks x).set k y).map hd=(Bn.ks x).map hd
 grind [List.map_set,hd,List.length_map,List.set_getElem_self]
theorem kidSplit_bn(x:Bt (d+1))(k:Nat)(hk:k<(Bn.ks x).length){y1 y2:Bt d}(m:It)(hy:hd y1=hd (Bn.ks x)[k]):(bn (ja x k y1 m y2)).keys=(bn x).keys.take k++m.kh::(bn x).keys.drop k/\(bn (ja x k y1 m y2)).vals=(bn x).vals.take k++m.vh::(bn x).vals.drop k/\(bn (ja x k y1 m y2)).kids=(bn x).kids.take (k+1)++hd y2::(bn x).kids.drop (k+1):=by
 refine⟨?_,?_,?_⟩
 ·show ((Bn.es x).take _++m::(Bn.es x).drop _).map _=((Bn.es x).map _).take _++m.kh::((Bn.es x).map _).drop _
  simp_all
 ·show ((Bn.es x).take _++m::(Bn.es x).drop _).map _=((Bn.es x).map _).take _++m.vh::((Bn.es x).map _).drop _
  simp_all
 ·show ((Bn.ks x).take k++y1::y2::(Bn.ks x).drop (k+1)).map hd=((Bn.ks x).map hd).take (k+1)++hd y2::((Bn.ks x).map hd).drop (k+1)
  rw[aP,bg,bg,dh,List.map_drop,hy,aH (by grind),bI]
  simp
theorem num_leaf{t:Nat}(t1:1<=t)(x:Bt 1)(e:It):([]:List Nat).length+(if(Bn.es (leafPut x e)).length=2*t then 1 else 0)=trail (fullB t e.k x)/\decide ((Bn.es (leafPut x e)).length=2*t)=(fullB t e.k x).all id:=by
 rw[Ci,qJ]
 by_cases h:(Bn.es x).length=2*t-1
 ·simp[trail,h,show 2*t-1+1=2*t by omega]
 ·have h2:¬(Bn.es x).length+1=2*t:=by omega
  simp[trail,h,h2]
theorem num_none{t d:Nat}(t1:1<=t){x:Bt (d+2)}(ok:Ok t x)(hk:Fr e.k (Bn.es x)=k)(h:k<(Bn.ks x).length)(y:Bt (d+1))(h1:U.length=trail (fullB t e.k (Bn.ks x)[k]))(h2:false=(fullB t e.k (Bn.ks x)[k]).all id):
 U.length+(if(Bn.es (ju x k y)).length=2*t then 1 else 0)=trail (fullB t e.k x)/\decide ((Bn.es (ju x k y)).length=2*t)=(fullB t e.k x).all id:=by
 rw[mI t e.k x hk h];have hl:¬(Bn.es (ju x k y)).length=2*t:=by
  have:=ok.1
  show ¬(Bn.es x).length=2*t
  omega
 have h3:¬(fullB t e.k (Bn.ks x)[k]).all id=true:=by rw[<-h2];simp
 unfold trail
 grind
theorem num_some{t d:Nat}(t1:1<=t){x:Bt (d+2)}(hk:Fr e.k (Bn.es x)=k)(h:k<(Bn.ks x).length)(y1:Bt (d+1))(m:It)(y2:Bt (d+1))(h1:U.length=trail (fullB t e.k (Bn.ks x)[k]))(h2:true=(fullB t e.k (Bn.ks x)[k]).all id):
 U.length+(if(Bn.es (ja x k y1 m y2)).length=2*t then 1 else 0)=trail (fullB t e.k x)/\decide ((Bn.es (ja x k y1 m y2)).length=2*t)=(fullB t e.k x).all id:=by
 rw[mI t e.k x hk h];have hl:(Bn.es (ja x k y1 m y2)).length=(Bn.es x).length+1:=by rw[<-hk];exact BR x e y1 m y2
 have h3:=trail_all h2.symm;unfold trail
 grind
theorem its_len{t d:Nat}{x:Bt (d+1)}(h:gY t x):(its x).length=(Bn.es x).length+((Bn.ks x).map fun k=>(its k).length).sum:=by
 rw[dQ,sZ _ _ (by rcases h.rows with h | h;exact ab h.1;omega),cD];rfl
end Bt
section
variable {w wc:World}{ps:Nat}{Z:Nat->Prop}{bt bl D t:Nat}{v:Value}{bN:Nat}{S S':St}{o:Nat->Nat}{Y:Nat->Prop}{v':Value}{L L' U:List Nat}{vk vv vc:Value}{sz k:Nat}{e:It}
theorem rJ {x:Bt 1}(hx:Bt.Walk S o t x)(hnd:(Bt.nodes x).Nodup)(hit:Bt.ItLt (Bt.its x))(hkh:e.kh<2^64)(hvh:e.vh<2^64)(hk:Fr e.k (Bn.es x)=k)(hsz:sz=(Bt.its x).length)
 (h:eH w ps Z bt bl D t v bN wc S Y v L vk vv vc sz ((Bt.bn x).keys.take k++e.kh::(Bt.bn x).keys.drop k) ((Bt.bn x).vals.take k++e.vh::(Bt.bn x).vals.drop k) (Bt.bn x).kids):gQ w ps S o Z bt bl D t v L x e bN wc S Y v L [] (Bt.leafPut x e) vk vv vc:=by
 have t1:1<=t:=by have:=hx.t1;omega
 obtain⟨n1,n2⟩:=Bt.num_leaf t1 x e;obtain⟨p1,p2,p3⟩:=Bt.leafPut_bn x e;subst hk hsz;rw[<-p1,<-p2,<-p3] at h;exact⟨h,by simp,Bt.mid_leaf hx.fit t1 hx.at' hx.ok hnd hit ⟨hkh,hvh⟩ hx.few,n1,n2⟩
theorem Db {d:Nat}{x:Bt (d+2)}(hx:Bt.Walk S o t x)(hnd:(Bt.nodes x).Nodup)(hit:Bt.ItLt (Bt.its x))(hkh:e.kh<2^64)(hvh:e.vh<2^64)(hLx:∀h∈L,h∉Bt.nodes x)(hk:Fr e.k (Bn.es x)=k)(hkl:k<(Bn.ks x).length)(hsz:sz=(Bt.its x).length)
 (hL:L=L'++U) (hp:Bt.Put S S' o t (Bn.ks x)[k] e U none) (n1:U.length=Bt.trail (Bt.fullB t e.k (Bn.ks x)[k])) (n2:false=(Bt.fullB t e.k (Bn.ks x)[k]).all id)
 (h:eH w ps Z bt bl D t v bN wc S' Y v' L' vk vv vc sz (Bt.bn x).keys (Bt.bn x).vals (Bt.bn x).kids):∃x',gQ w ps S o Z bt bl D t v L x e bN wc S' Y v' L' U x' vk vv vc:=by
 have t1:1<=t:=by have:=hx.t1;omega
 subst hk hsz;obtain⟨y,hy,M⟩:=Bt.mid_kid t1 hx.at' hx.ok hnd hx.sorted hit (fun a ha=>by grind) hx.few (fun a ha=>hLx a (hL▸aG _ ha)) hkl hp;obtain⟨p1,p2,p3⟩:=Bt.kidPut_bn x _ hkl (y:=y) hy;obtain⟨m1,m2⟩:=Bt.num_none t1 hx.ok rfl hkl y n1 n2;rw[<-p1,<-p2,<-p3] at h;exact⟨_,h,hL,M,m1,m2⟩
theorem Dc {d:Nat}{x:Bt (d+2)}(hx:Bt.Walk S o t x)(hnd:(Bt.nodes x).Nodup)(hit:Bt.ItLt (Bt.its x))(hkh:e.kh<2^64)(hvh:e.vh<2^64)(hLx:∀h∈L,h∉Bt.nodes x)(hk:Fr e.k (Bn.es x)=k)(hkl:k<(Bn.ks x).length)(hsz:sz=(Bt.its x).length){m:It}{g:Nat}
 (hL:L=L'++U) (hp:Bt.Put S S' o t (Bn.ks x)[k] e U (some (m,g))) (n1:U.length=Bt.trail (Bt.fullB t e.k (Bn.ks x)[k])) (n2:true=(Bt.fullB t e.k (Bn.ks x)[k]).all id)
 (h:eH w ps Z bt bl D t v bN wc S' Y v' L' vk vv vc sz ((Bt.bn x).keys.take k++m.kh::(Bt.bn x).keys.drop k) ((Bt.bn x).vals.take k++m.vh::(Bt.bn x).vals.drop k) ((Bt.bn x).kids.take (k+1)++g::(Bt.bn x).kids.drop (k+1))):∃x',gQ w ps S o Z bt bl D t v L x e bN wc S' Y v' L' U x' vk vv vc:=by
 have t1:1<=t:=by have:=hx.t1;omega
 subst hk hsz;obtain⟨y1,y2,h1,h2,M⟩:=Bt.mid_split t1 hx.at' hx.ok hnd hx.sorted hit (fun a ha=>by grind) hx.few (fun a ha=>hLx a (hL▸aG _ ha)) hkl hp;obtain⟨p1,p2,p3⟩:=Bt.kidSplit_bn x _ hkl (y1:=y1) (y2:=y2) m h1;obtain⟨m1,m2⟩:=Bt.num_some t1 rfl hkl y1 m y2 n1 n2;have h2:Bt.hd (d:=d+1) y2=g:=h2;rw[h2] at p3;rw[<-p1,<-p2,<-p3] at h;exact⟨_,h,hL,M,m1,m2⟩
end
structure jp (w:World) (ps:Nat) (S:St) (o:Nat->Nat) (Z:Nat->Prop) (bt bl D t:Nat) (v:Value) (L:List Nat) {d:Nat} (y:Bt (d+1)) (e:It) (bN:Nat) (vk vv vc:Value) (sz:Nat) (ks vs cs:List Nat) (b:Nat) (wc:World) (r:Option (It×Nat)) (S4:St) (Y4:Nat->Prop) (v4:Value) (L4 U:List Nat):Prop where
 held:eH w ps Z bt bl D t v bN wc S4 Y4 v4 L4 vk vv vc sz ks vs cs
 sum:L=L4++U
 put:Bt.Put S S4 o t y e U r
 num:U.length=Bt.trail (Bt.fullB t e.k y)
 all:r.isSome=(Bt.fullB t e.k y).all id
 up:wc.heap[b]?=some (.cells (iQ r) 274 (0,0))
theorem Bt.trail_cons(b:Bool)(r:List Bool):Bt.trail r<=Bt.trail (b::r):=by
 conv=>rhs;unfold Bt.trail
 by_cases h:r.all id=true
 ·rw[if_pos h,Bt.trail_all h]
  split<;>omega
 grind
section
variable {w wc wc':World}{ps:Nat}{Z:Nat->Prop}{bt bl D t:Nat}{v:Value}{bN:Nat}{S S' S2:St}{o:Nat->Nat}{Y Y':Nat->Prop}{v' v2:Value}{L L' L2:List Nat}{vk vv vc uk uv uc:Value}{sz sz' k:Nat}{ks vs cs ks' vs' cs':List Nat}{e:It}
theorem eH.other(h:eH w ps Z bt bl D t v bN wc S' Y v' L' vk vv vc sz ks vs cs){b:Nat}{cs0:Array Value}{fr:Nat×Nat}(hb:Y b)(h3:w.heap.size+3<=b)(hx:wc.heap[b]?=some (.cells cs0 274 fr))(hz:cs0.size<64)(kp:Fo (fun k=>k≠b) wc wc'):eH w ps Z bt bl D t v bN wc' S' Y v' L' vk vv vc sz ks vs cs:=by
 have n3:∀{u:Value} {l:List Nat},FE wc (w.heap.size+3) u l->∀g,u.ownBlock=some g->g≠b:=fun hu g hg q=>by
  obtain⟨ad,ai,e1⟩:=(hu.block hg).2.2
  grind
 have nb:bN≠b:=fun q=>by
  have e1:=h.box
  grind
 refine h.move (h.st.write (b:=b) hb hx ⟨by decide,by decide⟩ hz kp.size fun k _ hk=>kp.block k hk) (fun k hk=>hk) (kp.mono fun k hk=>?_) (h.sp.keeps fun k hk=>kp.block k (by have:=h.zl k (h.spz k hk);omega)) h.own ((kp.block bN nb).trans h.box) ⟨?_,?_,?_,h.rows.kv,h.rows.kc,h.rows.vc⟩ h.yk
 ·exact qBjaa
 ·exact h.rows.k.at fun g hg=>kp.block g (n3 h.rows.k g hg)
 ·exact h.rows.v.at fun g hg=>kp.block g (n3 h.rows.v g hg)
 ·exact h.rows.c.at fun g hg=>kp.block g (n3 h.rows.c g hg)
theorem Bt.Walk.kid_lt {d:Nat}{x:Bt (d+2)}(hx:Bt.Walk S o t x)(hk:Fr e.k (Bn.es x)=k):k<(Bn.ks x).length:=hk▸hx.klen e.k
theorem BG {d:Nat}(hrec:j4 d){x:Bt (d+2)}(hx:Bt.Walk S o t x)(hnd:(Bt.nodes x).Nodup){i:Nat}(hid:i+(d+1)<40)(spare:lG S t L)(hLx:∀h∈L,h∉Bt.nodes x)(hL:L.length<=1000)(hnew:∀a∈Bt.its x,a.k≠e.k)(hit:Bt.ItLt (Bt.its x))(hkh:e.kh<2^64)(hvh:e.vh<2^64)(htr:Bt.trail (Bt.fullB t e.k x)<=L.length)(hk:Fr e.k (Bn.es x)=k)(hkl:k<(Bn.ks x).length)
 {Y1:Nat->Prop} (Hd:eH w ps Z bt bl D t v bN wc S Y1 v L vk vv vc sz ks vs cs):
 Ct 182 #[FH ps t,Xu (Bt.hd (Bn.ks x)[k]:Nat),SV e.k,Id e.kh e.vh,JB bt bl,Xi ((i:Int)+1)] wc fun en w'=>∃(r:Option (It×Nat)) (S4:St) (v4:Value) (L4 U:List Nat),en=.returned (ky r)/\(L=L4++U/\Bt.Put S S4 o t (Bn.ks x)[k] e U r/\U.length=Bt.trail (Bt.fullB t e.k (Bn.ks x)[k])/\r.isSome=(Bt.fullB t e.k (Bn.ks x)[k]).all id/\eH w ps Z bt bl D t v bN w' S4 Y1 v4 L4 vk vv vc sz ks vs cs/\Fo (fun k=>Y1 k/\k≠bl) wc w'):=by
 have hm:=aw hkl;have ad:∀a∈Bt.its (Bn.ks x)[k],a∈Bt.its x:=fun a ha=>Bt.kid_its hx.ok.okN hm ha;have ai:(Bt.nodes (Bn.ks x)[k]).Nodup:=by
  rw[Bt.nodes_parts hkl] at hnd;grind
 have an:Bt.trail (Bt.fullB t e.k (Bn.ks x)[k])<=L.length:=by
  grind [mI,Nat.le_trans,Bt.trail_cons]
 have hc:=hrec (i+1) Hd.st (hx.kid hm) ai (by omega) Hd.sp spare (fun h hh q=>hLx h hh (Bt.mem_nodes_kid hm q)) (Hd.zy _ Hd.zs.1) (Hd.zy _ Hd.zs.2.1) (fun b hb=>Hd.zy _ (Hd.zs.2.2 b hb)) hL (fun a ha=>hnew a (ad a ha)) (fun a ha=>hit a (ad a ha)) hkh hvh an;have e1:((i+1:Nat):Int)=(i:Int)+1:=by omega
 refine hc.mono ?_;rintro en w' ⟨r,S4,v4,L4,U,rfl,h1,h2,h3,h4,h5,h6,h7,h8⟩;exact⟨r,S4,v4,L4,U,rfl,h1,h2,h7,h8,Hd.kid h3 h4 h5 h6,h4⟩
end
section
variable {w wc wc':World}{ps:Nat}{Z:Nat->Prop}{bt bl D t:Nat}{v:Value}{bN:Nat}{S S4:St}{o:Nat->Nat}{Y:Nat->Prop}{v4:Value}{L L4 U:List Nat}{vk vv vc:Value}{sz:Nat}{ks vs cs:List Nat}{e:It}{d:Nat}{y:Bt (d+1)}{r:Option (It×Nat)}{Y1:Nat->Prop}{w0:World}
theorem jp.new(h:L=L4++U/\Bt.Put S S4 o t y e U r/\U.length=Bt.trail (Bt.fullB t e.k y)/\r.isSome=(Bt.fullB t e.k y).all id/\eH w ps Z bt bl D t v bN wc S4 Y v4 L4 vk vv vc sz ks vs cs/\Fo (fun k=>Y1 k/\k≠bl) w0 wc):
 jp w ps S o Z bt bl D t v L y e bN vk vv vc sz ks vs cs wc.heap.size (wc.alloc (.cells (iQ r) 274)) r S4 (fun k=>Y k\/(wc.heap.size<=k/\k<(wc.alloc (.cells (iQ r) 274)).heap.size)) v4 L4 U:=
 ⟨h.2.2.2.2.1.below ((aa _ wc).alloc Ih _),h.1,h.2.1,h.2.2.1,h.2.2.2.1,heap_alloc_new wc _⟩
theorem jp.set(h:L=L4++U/\Bt.Put S S4 o t y e U r/\U.length=Bt.trail (Bt.fullB t e.k y)/\r.isSome=(Bt.fullB t e.k y).all id/\eH w ps Z bt bl D t v bN wc S4 Y v4 L4 vk vv vc sz ks vs cs/\Fo (fun k=>Y1 k/\k≠bl) w0 wc){b:Nat}(hb:Y b)(h3:w.heap.size+3<=b){z0 z1 z2 z3 c0 c1 c2 c3:Value}(hx:wc.heap[b]?=some (.cells #[z0,z1,z2,z3] 274 (0,0)))(hr:iQ r=#[c0,c1,c2,c3]):
 jp w ps S o Z bt bl D t v L y e bN vk vv vc sz ks vs cs b ((((wc.setCell ⟨b,0,none⟩ (c0)).setCell ⟨b,1,none⟩ (c1)).setCell ⟨b,2,none⟩ (c2)).setCell ⟨b,3,none⟩ (c3)) r S4 Y v4 L4 U:=
 ⟨h.2.2.2.2.1.other hb h3 hx (by simp) ((((Fo.mark fun _ h=>h).trans (Fo.mark fun _ h=>h)).trans (Fo.mark fun _ h=>h)).trans (Fo.mark fun _ h=>h)),h.1,h.2.1,h.2.2.1,h.2.2.2.1,by
  rw[hr];exact heap_setCell (i:=3) (v:=c3) (heap_setCell (i:=2) (v:=c2) (heap_setCell (i:=1) (v:=c1) (heap_setCell (i:=0) (v:=c0) hx)))⟩
theorem jp.ne {b:Nat}(h:jp w ps S o Z bt bl D t v L y e bN vk vv vc sz ks vs cs b wc r S4 Y v4 L4 U):b<wc.heap.size/\vk.ownBlock≠some b/\vv.ownBlock≠some b/\vc.ownBlock≠some b/\b≠bN:=by
 have hb:=h.up;refine⟨(gl hb),fun q=>?_,fun q=>?_,fun q=>?_,fun q=>?_⟩
 ·obtain⟨cs,fr,e⟩:=(h.held.rows.k.block q).2.2
  grind
 ·obtain⟨cs,fr,e⟩:=(h.held.rows.v.block q).2.2
  grind
 ·obtain⟨cs,fr,e⟩:=(h.held.rows.c.block q).2.2
  grind
 ·have e:=h.held.box
  grind
end
theorem Bt.bnok_of {S:St}{o:Nat->Nat}(hf:Fw S o){t:Nat}(t1:2<=t)(t2:t<=16){d:Nat}{x:Bt (d+1)}(hk:∀k∈Bn.ks x,Bt.At S t k)(ok:Bt.Ok t x):iU t (Bt.bn x):=by
 refine⟨t1,t2,by unfold Bt.bn;rw[ao];exact ok.1,by unfold Bt.bn;grind,?_⟩;have hq:=ok.2.1;unfold Bt.bn;simp only[ao]
 by_cases hd0:d=0
 ·grind
 ·rw[if_neg hd0] at hq;refine ae ⟨hq,?_⟩
  grind [List.contains_iff_mem,Bt.At.hd_ok]
section
variable {w wc wc':World}{ps:Nat}{Z:Nat->Prop}{bt bl D t:Nat}{v:Value}{bN:Nat}{S S4 S2:St}{o:Nat->Nat}{Y:Nat->Prop}{v4 v2:Value}{L L4 L2 U:List Nat}{vk vv vc:Value}{sz:Nat}{ks vs cs:List Nat}{e:It}{d:Nat}
theorem eH.fin(h:eH w ps Z bt bl D t v bN wc S2 Y v2 L2 vk vv vc sz ks vs cs){z0 z1 z2 z3:Value}(hx:wc.heap[w.heap.size+2]?=some (.cells #[z0,z1,z2,z3] 274 (0,0)))(c0 c1 c2 c3:Value)(wd:World)(hwd:wd=((((wc.setCell ⟨w.heap.size+2,0,none⟩ (c0)).setCell ⟨w.heap.size+2,1,none⟩ (c1)).setCell ⟨w.heap.size+2,2,none⟩ (c2)).setCell ⟨w.heap.size+2,3,none⟩ (c3))):
 Ig wd ps S2 Z/\Fo (fun k=>Z k/\k≠bl) w wd/\gz wd bt bl D ps t v2 L2/\wd.heap[w.heap.size+2]?=some (.cells #[c0,c1,c2,c3] 274 (0,0)):=by
 subst hwd;have kp:Fo (fun k=>k≠w.heap.size+2) wc ((((wc.setCell ⟨w.heap.size+2,0,none⟩ (c0)).setCell ⟨w.heap.size+2,1,none⟩ (c1)).setCell ⟨w.heap.size+2,2,none⟩ (c2)).setCell ⟨w.heap.size+2,3,none⟩ (c3)):=(((Fo.mark fun _ h=>h).trans (Fo.mark fun _ h=>h)).trans (Fo.mark fun _ h=>h)).trans (Fo.mark fun _ h=>h);refine⟨(h.st.write (b:=w.heap.size+2) h.yb.2.2 hx ⟨by decide,by decide⟩ (by simp) kp.size fun k _ hk=>kp.block k hk).mono fun k hk=>h.zy k hk,h.keep.trans (kp.mono fun k hk=>by have:=h.zl k hk.1;omega),h.sp.keeps fun k hk=>kp.block k (by have:=h.zl k (h.spz k hk);omega),?_⟩;exact heap_setCell (i:=3) (v:=c3) (heap_setCell (i:=2) (v:=c2) (heap_setCell (i:=1) (v:=c1) (heap_setCell (i:=0) (v:=c0) hx)))
theorem gQ.putting {x:Bt (d+1)}{U:List Nat}{x':Bt (d+1)}{L':List Nat}{v':Value}{S':St}(M:gQ w ps S o Z bt bl D t v L x e bN wc S' Y v' L' U x' vk vv vc):Fv S'/\S'.len (Bn.h x)=(6*t,0)/\Bn.h x<2^64/\(Bt.its x').length=(Bt.its x).length+1/\(Bt.bn x').keys.length=(Bn.es x').length/\(Bt.bn x').vals.length=(Bn.es x').length/\(Bt.bn x').kids.length=(Bn.ks x').length:=by
 obtain⟨ws,hr,hw⟩:=M.mid.own;refine⟨M.mid.fit.inv,by rw[jw M.mid.fit.tab hr,hw],(fL M.mid.fit hr).2.1,by rw[M.mid.its,Bt.insB_length],?_,?_,?_⟩
 ·unfold Bt.bn
  grind
 ·unfold Bt.bn
  grind
 ·unfold Bt.bn
  grind
end
theorem FE.some {w:World}{D:Nat}{v:Value}{l:List Nat}(h:FE w D v l)(hl:0<l.length):∃b c,v=.slice (some ⟨b,0,none⟩) l.length c/\l.length<=c:=by
 rcases h.2 with⟨e,e2⟩ | ⟨b,c,ad,e,hb,ai,ar,an,ap,ht⟩
 ·exact absurd e2 (by intro q;simp[q] at hl)
 grind
theorem FD.take {w:World}{b n c c' j:Nat}{l:List Nat}(h:FD w (.slice (some ⟨b,0,none⟩) n c) l)(hj:j<=l.length):FD w (.slice (some ⟨b,0,none⟩) j c') (l.take j):=by
 obtain⟨A,c1,e,hc⟩:=h
 injection e with e1 e2 e3
 subst e1;refine⟨_,c',by rw[aL,dE hj],fun k hk=>?_⟩;have ad:k<l.length:=by rw[aL] at hk;omega
 grind
theorem FD.drop {w:World}{b n c c' j:Nat}{l:List Nat}(h:FD w (.slice (some ⟨b,0,none⟩) n c) l)(hj:j<=l.length):FD w (.slice (some ⟨b,j,none⟩) (n-j) c') (l.drop j):=by
 obtain⟨A,c1,e,hc⟩:=h
 injection e with e1 e2 e3
 subst e1;refine⟨_,c',by rw[bS,e2],fun k hk=>?_⟩;have ad:j+k<l.length:=by rw[bS] at hk;omega
 grind
structure eV (wc wd:World) (ps:Nat) (S':St) (Y:Nat->Prop) (bL bR:Nat) (l r:Array Value):Prop where
 st:Ig wd ps S' (fun k=>Y k\/k=bL\/k=bR)
 yl:∀k,Y k->k<wc.heap.size
 kp:Fo Y wc wd
 bl:wd.heap[bL]?=some (.cells l 215 (0,0))
 br:wd.heap[bR]?=some (.cells r 215 (0,0))
 ge:wc.heap.size<=bL/\wc.heap.size<=bR/\bL≠bR
section
variable {wc wd wd':World}{ps:Nat}{S' S2:St}{Y:Nat->Prop}{bL bR:Nat}{l r:Array Value}
theorem eV.start(st:Ig wc ps S' Y)(l r:Array Value):eV wc ((wc.alloc (.cells l 215)).alloc (.cells r 215)).drew ps S' Y wc.heap.size (wc.heap.size+1) l r:=by
 have z1:(wc.alloc (.cells l 215)).heap.size=wc.heap.size+1:=by simp
 have c1:=(aa (wc.alloc (.cells l 215)).heap.size (wc.alloc (.cells l 215))).alloc Ih (.cells r 215);have b2:=((aa wc.heap.size wc).alloc Ih (.cells l 215)).trans (c1.mono (by rw[z1];omega));have q2:=heap_alloc_new (wc.alloc (.cells l 215)) (.cells r 215);rw[z1] at q2;have hs:((wc.alloc (.cells l 215)).alloc (.cells r 215)).drew.heap.size=wc.heap.size+2:=by simp
 refine⟨(st.wide b2.drew).mono fun k hk=>?_,st.yl,st.keep b2.drew,((c1.block wc.heap.size (by rw[z1];omega)).trans (heap_alloc_new wc (.cells l 215))),q2,Nat.le_refl _,by omega,by omega⟩
 grind
theorem eV.turn(h:eV wc wd ps S' Y bL bR l r):eV wc wd ps S' Y bR bL r l:=
 ⟨h.st.mono fun k hk=>by rcases hk with hk | hk | hk;exact ab hk;exact ae (ae hk);exact ae (ab hk),h.yl,h.kp,h.br,h.bl,h.ge.2.1,h.ge.1,h.ge.2.2.symm⟩
theorem eV.lt(h:eV wc wd ps S' Y bL bR l r):bL<wd.heap.size/\bR<wd.heap.size:=⟨(gl h.bl),(gl h.br)⟩
theorem eV.below(h:eV wc wd ps S' Y bL bR l r)(hb:Below wd.heap.size wd wd'):eV wc wd' ps S' Y bL bR l r:=
 ⟨h.st.below hb,h.yl,h.kp.trans (Fo.of_below hb fun k hk=>by have:=h.yl k hk;have:=h.kp.size;omega),(hb.block _ h.lt.1).trans h.bl,(hb.block _ h.lt.2).trans h.br,h.ge⟩
theorem eV.put(h:eV wc wd ps S' Y bL bR l r)(st:Ig wd' ps S2 (fun k=>Y k\/k=bL\/k=bR))(kp:Fo (fun k=>Y k\/k=bL\/k=bR) wd wd'):eV wc wd' ps S2 Y bL bR l r:=
 ⟨st,h.yl,h.kp.trans (kp.mono fun _ hk=>ab hk),(kp.block _ (ae (ab rfl))).trans h.bl,(kp.block _ (ae (ae rfl))).trans h.br,h.ge⟩
theorem eV.setL(h:eV wc wd ps S' Y bL bR l r)(hl:l.size<64)(i:Nat)(v:Value)(l':Array Value)(e:(wd.setCell ⟨bL,i,none⟩ v).heap[bL]?=some (.cells l' 215 (0,0))):eV wc (wd.setCell ⟨bL,i,none⟩ v) ps S' Y bL bR l' r:=
 ⟨h.st.write (b:=bL) (ae (ab rfl)) h.bl ⟨by decide,by decide⟩ hl (by simp) fun k _ hk=>FB hk,h.yl,h.kp.trans (Fo.mark fun k hk=>by have:=h.yl k hk;have:=h.ge.1;omega),e,(FB (Ne.symm h.ge.2.2)).trans h.br,h.ge⟩
theorem eV.row(h:eV wc wd ps S' Y bL bR l r){v:Value}{u:List Nat}(hu:FD wc v u)(hy:∀g,v.ownBlock=some g->Y g):FD wd v u:=hu.keeps fun g hg _=>h.kp.block g (hy g hg)
end
section
variable {wc wd:World}{ps:Nat}{S':St}{Y:Nat->Prop}{bL bR:Nat}{a b c z a' b' c' z':Value}
theorem eV.setL2(h:eV wc wd ps S' Y bL bR #[a,b,c,z] #[a',b',c',z'])(v:Value):eV wc (wd.setCell ⟨bL,2,none⟩ v) ps S' Y bL bR #[a,b,v,z] #[a',b',c',z']:=h.setL (by simp) 2 v _ (heap_setCell (i:=2) (v:=v) h.bl)
theorem eV.setL3(h:eV wc wd ps S' Y bL bR #[a,b,c,z] #[a',b',c',z'])(v:Value):eV wc (wd.setCell ⟨bL,3,none⟩ v) ps S' Y bL bR #[a,b,c,v] #[a',b',c',z']:=h.setL (by simp) 3 v _ (heap_setCell (i:=3) (v:=v) h.bl)
theorem eV.setR2(h:eV wc wd ps S' Y bL bR #[a,b,c,z] #[a',b',c',z'])(v:Value):eV wc (wd.setCell ⟨bR,2,none⟩ v) ps S' Y bL bR #[a,b,c,z] #[a',b',v,z']:=(h.turn.setL2 v).turn
theorem eV.setR3(h:eV wc wd ps S' Y bL bR #[a,b,c,z] #[a',b',c',z'])(v:Value):eV wc (wd.setCell ⟨bR,3,none⟩ v) ps S' Y bL bR #[a,b,c,z] #[a',b',c',v]:=(h.turn.setL3 v).turn
end
theorem EC {α:Type}(f:α->Nat)(l:List α)(a j:Nat):(((l.drop a).take j).map f).sum<=(l.map f).sum:=by
 have h1:(l.map f).sum=((l.take a).map f).sum+((l.drop a).map f).sum:=by rw[<-List.sum_append,<-aP,aX]
 grind [List.take_append_drop]
theorem ED {α:Type}(f:α->Nat)(l:List α){j:Nat}(h:j<l.length):((l.take (j+1)).map f).sum=((l.take j).map f).sum+f l[j]:=by
 grind [List.take_succ_eq_append_getElem]
namespace Bt
theorem Put.same {S S':St}{o:Nat->Nat}{t d:Nat}{x:Bt (d+1)}{e:It}{U V:List Nat}{r:Option (It×Nat)}(h:Put S S' o t x e U r)(hv:∀y,y∈U↔y∈V):Put S S' o t x e V r:=by
 refine⟨h.fit,h.grew,fun y h1 h2=>h.fr y h1 fun q=>h2 ((hv y).1 q),?_⟩;have:=h.res;grind
end Bt
namespace Bt
theorem leftOf_bn(t:Nat){d:Nat}(x:Bt (d+1)):(bn (leftOf t x)).keys=(bn x).keys.take t/\(bn (leftOf t x)).vals=(bn x).vals.take t/\(bn (leftOf t x)).kids=(bn x).kids.take (t+1):=by
 refine⟨?_,?_,?_⟩
 ·show ((Bn.es x).take t).map _=((Bn.es x).map _).take t
  simp_all
 ·show ((Bn.es x).take t).map _=((Bn.es x).map _).take t
  simp_all
 ·show ((Bn.ks x).take (t+1)).map _=((Bn.ks x).map _).take (t+1)
  simp_all
theorem rightOf_bn(t:Nat){d:Nat}(x:Bt (d+1))(g:Nat):(bn (rightOf t x g)).keys=(bn x).keys.drop (t+1)/\(bn (rightOf t x g)).vals=(bn x).vals.drop (t+1)/\(bn (rightOf t x g)).kids=(bn x).kids.drop (t+1)/\(bn (rightOf t x g)).kids=((Bn.ks x).drop (t+1)).map hd:=by
 refine⟨?_,?_,?_,rfl⟩
 ·show ((Bn.es x).drop (t+1)).map _=((Bn.es x).map _).drop (t+1)
  simp_all
 ·show ((Bn.es x).drop (t+1)).map _=((Bn.es x).map _).drop (t+1)
  simp_all
 ·show ((Bn.ks x).drop (t+1)).map _=((Bn.ks x).map _).drop (t+1)
  simp_all
end Bt
section
variable {w wc:World}{ps:Nat}{Z:Nat->Prop}{bt bl D t:Nat}{v:Value}{bN:Nat}{S S':St}{o:Nat->Nat}{Y:Nat->Prop}{v':Value}{L L' U:List Nat}{vk vv vc:Value}{e:It}{d:Nat}{x x':Bt (d+1)}
theorem gQ.spare(M:gQ w ps S o Z bt bl D t v L x e bN wc S' Y v' L' U x' vk vv vc)(htr:Bt.trail (Bt.fullB t e.k x)<=L.length)(spare:lG S t L)(hLx:∀h∈L,h∉Bt.nodes x)(hn:(Bn.es x').length=2*t):∃L2 g,L'=L2++[g]/\g∉U/\g∉Bt.nodes x/\g≠Bn.h x/\∃wg,reco S g=some wg/\reco S' g=some wg/\wg.length=6*t:=by
 have ap:=M.num;have an:L.length=L'.length+U.length:=by rw[M.sum,ah]
 have ai:L'≠[]:=fun q=>by grind
 obtain⟨L2,g,hg⟩:∃L2 g,L'=L2++[g]:=⟨L'.dropLast,L'.getLast ai,(List.dropLast_concat_getLast ai).symm⟩;have hm:g∈L:=by rw[M.sum,hg];simp
 have ad:=spare.nd;rw[M.sum,hg] at ad;have hU:g∉U:=fun q=>(aC.1 ad).2.2 g (by simp) g q rfl;obtain⟨wg,h1,h2⟩:=spare.recs g hm;exact⟨L2,g,hg,hU,hLx g hm,fun q=>hLx g hm (q▸Bt.hd_mem x),wg,h1,(M.mid.fr g (hLx g hm) hU).trans h1,h2⟩
theorem gQ.halves(M:gQ w ps S o Z bt bl D t v L x e bN wc S' Y v' L' U x' vk vv vc)(t1:2<=t)(hn:(Bn.es x').length=2*t)(g:Nat):Bt.Ok t (Bt.leftOf t x')/\Bt.Ok t (Bt.rightOf t x' g)/\(Bt.its x').length=(Bt.its (Bt.leftOf t x')).length+1+(Bt.its (Bt.rightOf t x' g)).length/\(∀k∈Bn.ks (Bt.leftOf t x'),Bt.At S' t k)/\(∀k∈Bn.ks (Bt.rightOf t x' g),Bt.At S' t k)/\(Bt.its (Bt.rightOf t x' g)).length=(Bn.es x').length-(t+1)+(((Bn.ks x').drop (t+1)).map fun k=>(Bt.its k).length).sum:=by
 obtain⟨c1,c2,c3,c4,c5⟩:=M.mid.okN.split (by omega) hn g;refine⟨c2,c3,?_,fun k hk=>M.mid.kids k (bB hk),fun k hk=>M.mid.kids k (bw hk),?_⟩
 ·grind
 ·rw[Bt.its_len c3.okN]
  show ((Bn.es x').drop (t+1)).length+_=_
  rw[bS]
  rfl
theorem gQ.lts(M:gQ w ps S o Z bt bl D t v L x e bN wc S' Y v' L' U x' vk vv vc)(t1:2<=t)(hn:(Bn.es x').length=2*t)(g:Nat):iT (Bt.bn (Bt.leftOf t x'))/\iT (Bt.bn (Bt.rightOf t x' g)):=by
 have hs:=(M.halves t1 hn g).2.2.1;have hz:(Bt.its x').length<2^64:=M.mid.lt.size;have ad:∀q∈Bn.es x',q.kh<2^64/\q.vh<2^64:=fun q hq=>⟨M.mid.lt.keys _ (ay.2 ⟨q,hq,rfl⟩),M.mid.lt.vals _ (ay.2 ⟨q,hq,rfl⟩)⟩;exact⟨Bt.bnLt_of M.mid.fit (fun q hq=>ad q (bB hq)) (fun k hk=>M.mid.kids k (bB hk)) (by omega),Bt.bnLt_of M.mid.fit (fun q hq=>ad q (bw hq)) (fun k hk=>M.mid.kids k (bw hk)) (by omega)⟩
end
theorem ri {S':St}{o:Nat->Nat}{t ps:Nat}:∀{d:Nat} {k:Bt d},Fw S' o->2<=t->t<=16->Bt.At S' t k->Bt.Ok t k->(Bt.its k).length<2^62->∀(W:World) (Yx:Nat->Prop),Ig W ps S' Yx->Cb 175 #[FH ps t,Xu (Bt.hd k:Nat)] W (Xi (Bt.its k).length)
 | 0,k,_,_,_,_,_,_=>nomatch k
 | _+1,_,hf,t1,t2,ha,ok,hz=>fun _ _ hst=>nS hst hf.inv (Bt.At.read hf t1 t2 ha ok) hz
section
variable {w wc:World}{ps:Nat}{Z:Nat->Prop}{bt bl D t:Nat}{v:Value}{bN:Nat}{S S':St}{o:Nat->Nat}{Y:Nat->Prop}{v':Value}{L L' U:List Nat}{vk vv vc:Value}{e:It}{d:Nat}{x x':Bt (d+1)}
theorem gQ.left_put(M:gQ w ps S o Z bt bl D t v L x e bN wc S' Y v' L' U x' vk vv vc)(t1:2<=t)(t2:t<=16)(hn:(Bn.es x').length=2*t){g:Nat}(hgx:g≠Bn.h x){wg:List Nat}(hg:reco S' g=some wg):Fw (FC S' (Bn.h x) 0 (bnWords t (Bt.bn (Bt.leftOf t x')))) o/\reco (FC S' (Bn.h x) 0 (bnWords t (Bt.bn (Bt.leftOf t x')))) g=some wg:=by
 obtain⟨ws,hr,hw⟩:=M.mid.own;have hh:Bt.hd (Bt.leftOf t x')=Bn.h x:=M.mid.hd;have hp:=Bt.put_node (x:=Bt.leftOf t x') M.mid.fit (fun k hk=>M.mid.kids k (bB hk)) (fun k hk=>by
  show Bn.h x'∉_
  exact Bt.hd_kids M.mid.nd k (bB hk)) (by rw[hh];exact hr) hw (M.lts t1 hn 0).1 (by show ((Bn.es x').take t).length<1000;rw[aL];omega)
 grind
theorem gQ.done(M:gQ w ps S o Z bt bl D t v L x e bN wc S' Y v' L' U x' vk vv vc)(t1:2<=t)(t2:t<=16)(hn:(Bn.es x').length=2*t){g:Nat}(hU:g∉U)(hx:g∉Bt.nodes x){wg:List Nat}(h1:reco S g=some wg)(h2:wg.length=6*t)(ht:t<(Bn.es x').length):
 Bt.Put S (FC (FC S' (Bn.h x) 0 (bnWords t (Bt.bn (Bt.leftOf t x')))) g 0 (bnWords t (Bt.bn (Bt.rightOf t x' g)))) o t x e (g::U) (some ((Bn.es x')[t],g))/\(g::U).length=Bt.trail (Bt.fullB t e.k x)/\true=(Bt.fullB t e.k x).all id:=by
 have ai:=M.num;have ad:=M.all;rw[if_pos hn] at ai;rw[decide_eq_true hn] at ad;exact⟨(M.mid.cut (by omega) t2 hn hU hx h1 h2).same fun y=>by grind,by omega,ad⟩
end
end
section
open Lf
namespace Tr
variable{S:St}{d:It}{o:Nat->Nat}{t:Tr}
def gV(l:List (List UInt8×List UInt8))(a b:List UInt8):List (List UInt8×List UInt8):=
 l.filter (fun p=>decide (Fu p.1 a<0))++(a,b)::l.filter (fun p=>decide (0<Fu p.1 a))
theorem AQ{a:List UInt8}{L M:List (List UInt8×List UInt8)}(x:List (List UInt8×List UInt8))(hx:∀p∈x,p.1=a)(hL:∀p∈L,Fu p.1 a<0)(hM:∀p∈M,Fu a p.1<0):
 (L++x++M).filter (fun p=>decide (Fu p.1 a<0))=L/\(L++x++M).filter (fun p=>decide (0<Fu p.1 a))=M:=by
 have h1:L.filter (fun p=>decide (Fu p.1 a<0))=L:=List.filter_eq_self.2 fun p hp=>by simpa using hL p hp
 have h2:M.filter (fun p=>decide (0<Fu p.1 a))=M:=List.filter_eq_self.2 fun p hp=>by have:=hM p hp;rw[ie] at this;simp;omega
 have h3:L.filter (fun p=>decide (0<Fu p.1 a))=[]:=dt.2 fun p hp=>by have:=hL p hp;simp;omega
 have h4:M.filter (fun p=>decide (Fu p.1 a<0))=[]:=dt.2 fun p hp=>by have:=hM p hp;rw[ie] at this;simp;omega
 have h5:x.filter (fun p=>decide (Fu p.1 a<0))=[]:=dt.2 fun p hp=>by rw[hx p hp,fX];simp
 have h6:x.filter (fun p=>decide (0<Fu p.1 a))=[]:=dt.2 fun p hp=>by rw[hx p hp,fX];simp
 grind
theorem rO(a b:List It):pairs (a++b)=pairs a++pairs b:=by unfold pairs;simp
theorem oO{a b:List UInt8}{tl tr mid:List It}(hd:d.k=a/\d.v=b)(hm:∀x∈mid,x.k=a)(h1:∀x∈tl,Fu x.k a<0)(h2:∀x∈tr,Fu a x.k<0):
 pairs (tl++d::tr)=gV (pairs (tl++mid++tr)) a b:=by
 obtain⟨f1,f2⟩:=AQ (a:=a) (L:=pairs tl) (M:=pairs tr) (pairs mid) (fun p hp=>by obtain⟨x,hx,rfl⟩:=ay.1 hp;exact hm x hx) (fun p hp=>by obtain⟨x,hx,rfl⟩:=ay.1 hp;exact h1 x hx) (fun p hp=>by obtain⟨x,hx,rfl⟩:=ay.1 hp;exact h2 x hx);grind [gV,rO,pairs]
theorem gu.frame{S S':St}(h:gu S d)(h1:reco S' d.kh=reco S d.kh)(h2:reco S' d.vh=reco S d.vh):gu S' d:=⟨h1.trans h.k,h2.trans h.v,h.lk,h.lv⟩
theorem fC.some{Ok:Tr->Prop}(h:fC Ok S o t):∀y∈eB t.its,reco S y≠none:=by
 intro y hy;obtain⟨d,hd,e⟩:=gU.1 hy;have hb:=h.blobs d hd
 rcases e with rfl | rfl | rfl
 ·obtain⟨n,hn⟩:=h.at'.rec d.h (ay.2 ⟨d,hd,rfl⟩)
  grind
 ·rw[hb.k]
  simp
 ·rw[hb.v]
  simp
theorem fC.frame{Ok:Tr->Prop}{S S':St}{o o':Nat->Nat}(h:fC Ok S o t)(hf:Fw S' o')(hs:∀y∈eB t.its,reco S' y=reco S y):fC Ok S' o' t where
 fit:=hf
 at':=h.at'.frame fun y hy=>by
  obtain⟨d,hd,rfl⟩:=ay.1 hy;exact hs _ (gU.2 ⟨d,hd,ab rfl⟩)
 ok:=h.ok
 nd:=h.nd
 blobs d hd:=(h.blobs d hd).frame (hs _ (gU.2 ⟨d,hd,ae (ab rfl)⟩)) (hs _ (gU.2 ⟨d,hd,ae (ae rfl)⟩))
 sorted:=h.sorted
theorem xF(hf:Fw S o){a b:List UInt8}(ha:a.length<=1000)(hb:b.length<=1000)(hr:fc S 7 3):
 ∃ka vb hn S2 S3 o3,itemsM S a b=some ((ka,vb),S2)/\ga S2 ⟨ka,vb,0,0,0,1⟩=((hn,0),S3)/\pJ S a b/\Fw S3 o3/\reco S ka=none/\reco S vb=none/\reco S hn=none/\ka≠vb/\ka≠hn/\vb≠hn/\
  reco S3 ka=some (FK a)/\reco S3 vb=some (FK b)/\reco S3 hn=some (eM ⟨ka,vb,0,0,0,1⟩)/\(∀h',h'≠ka->h'≠vb->h'≠hn->reco S3 h'=reco S h')/\ej S S3 7 3:=by
 obtain⟨ka,S1,o1,e1,f1,n1,l1,q1,g1,k1⟩:=oL hf ha (hr.mono (by omega) (by omega));obtain⟨vb,S2,o2,e2,f2,n2,l2,q2,g2,k2⟩:=oL f1 hb (fc.grew (hr.mono (p':=3+3) (q':=1+1) (by omega) (by omega)) g1);have ad:ka≠vb:=by rintro rfl;rw[l1] at n2;cases n2
 have r2:fc S2 1 1:=fc.grew (hr.mono (p':=(3+3)+1) (q':=(1+1)+1) (by omega) (by omega)) (g1.trans g2);have ar:ji ⟨ka,vb,0,0,0,1⟩:=⟨(fL f1 l1).2.1,(fL f2 l2).2.1,by simp,by simp,by simp,by simp⟩;obtain⟨hn,S3,o3,e3,f3,n3,l3,q3,g3,k3⟩:=Cq f2 ar r2;have ai:ka≠hn:=by rintro rfl;rw[q2 _ ad,l1] at n3;cases n3
 have an:vb≠hn:=by rintro rfl;rw[l2] at n3;cases n3
 have ap:itemsM S a b=some ((ka,vb),S2):=by
  unfold itemsM;rw[e1];simp only;rw[e2];simp
 refine⟨ka,vb,hn,S2,S3,o3,ap,e3,⟨⟨ha,hb,k1,by rw[e1];exact k2⟩,fun p S4 h4=>?_⟩,f3,n1,(q1 _ ad.symm).symm.trans n2,((q1 _ ai.symm).symm.trans (q2 _ an.symm).symm).trans n3,ad,ai,an,(q3 _ ai).trans ((q2 _ ad).trans l1),(q3 _ an).trans l2,l3,fun h' w1 w2 w3=>(q3 h' w3).trans ((q2 h' w2).trans (q1 h' w1)),((g1.trans g2).trans g3).mono (by omega) (by omega)⟩;grind
theorem ze{Ok:Tr->Prop}{S S3 S5:St}{o o5:Nat->Nat}{t u tl tr:Tr}{mid:List It}(h:fC Ok S o t)(hi:t.its=tl.its++mid++tr.its)(iu:u.its=tl.its++d::tr.its)
 (hd:∀y,y=d.h\/y=d.kh\/y=d.vh->reco S y=none) (hdn:d.kh≠d.vh/\d.kh≠d.h/\d.vh≠d.h) (f5:Fw S5 o5) (au:At S5 u) (ou:Ok u)
 (h3:∀y∈eB t.its,reco S3 y=reco S y) (hb3:gu S3 d) (h5:∀y,y∉t.hs->y≠d.h->reco S5 y=reco S3 y)
 (h1:∀x∈tl.its,Fu x.k d.k<0) (h2:∀x∈tr.its,Fu d.k x.k<0):fC Ok S5 o5 u:=by
 have ar:∀x,x∈tl.its\/x∈tr.its->x∈t.its:=fun x hx=>by
  grind
 have ai:∀y∈eB t.its,y≠d.h/\y≠d.kh/\y≠d.vh:=fun y hy=>by
  have:=h.some y hy;refine⟨?_,?_,?_⟩<;>rintro rfl
  ·exact this (hd _ (ab rfl))
  ·exact this (hd _ (ae (ab rfl)))
  grind
 have ad:=h.nd;have e:eB t.its=eB tl.its++(eB mid++eB tr.its):=by rw[hi,iX,iX,bC]
 rw[e] at ad ai;obtain⟨n1,n2,n3⟩:=aC.1 ad;obtain⟨n4,n5,n6⟩:=aC.1 n2;refine⟨f5,au,ou,?_,?_,?_⟩
 ·rw[iu,iX,mx];grind
 ·intro x hx;rw[iu] at hx;have hold:x∈t.its->gu S5 x:=fun hm=>by
   have hs:=(h.hs).2 x hm;have hk:x.kh∈eB t.its:=gU.2 ⟨x,hm,ae (ab rfl)⟩;have hv:x.vh∈eB t.its:=gU.2 ⟨x,hm,ae (ae rfl)⟩;refine(h.blobs x hm).frame ((h5 _ hs.1 ?_).trans (h3 _ hk)) ((h5 _ hs.2 ?_).trans (h3 _ hv))
   ·exact(ai _ (by rw[<-e];exact hk)).1
   grind
  rcases ax.1 hx with hx | hx
  ·grind
  ·rcases aj.1 hx with rfl | hx
   ·have an:∀y,y=x.h\/y=x.kh\/y=x.vh->y∉t.hs:=fun y hy hm=>by
     obtain⟨z,hz,rfl⟩:=ay.1 hm;exact h.some _ (gU.2 ⟨z,hz,ab rfl⟩) (hd _ hy)
    exact hb3.frame (h5 _ (an _ (ae (ab rfl))) hdn.2.1) (h5 _ (an _ (ae (ae rfl))) hdn.2.2)
   grind
 ·have ap:=h.sorted;rw[hi] at ap;obtain⟨s1,s2,s3⟩:=bz.1 ap;obtain⟨s4,s5,s6⟩:=bz.1 s1;rw[iu];refine bz.2 ⟨s4,bp.2 ⟨fun y hy=>h2 y hy,s2⟩,fun x hx y hy=>?_⟩;rcases aj.1 hy with rfl | hy
  ·exact h1 x hx
  grind
theorem uW{jn:Jn}{Ok:Tr->Prop}(J:kV jn Ok){S S3:St}{o o3:Nat->Nat}(h:fC Ok S o t)(hc:t.its.length<98)(f3:Fw S3 o3)(ha:d.k.length<=1000)(hv:d.v.length<=1000)
 (hd:∀y,y=d.h\/y=d.kh\/y=d.vh->reco S y=none) (hdn:d.kh≠d.vh/\d.kh≠d.h/\d.vh≠d.h) (hk:reco S3 d.kh=some (FK d.k)) (hvv:reco S3 d.vh=some (FK d.v)) {n0:Nd} (hn:reco S3 d.h=some (eM n0)) (hn1:n0.key=d.kh) (hn2:n0.val=d.vh)
 (h3:∀y∈eB t.its,reco S3 y=reco S y):
 ∃u old S5 tl tr mid,insertOkM jn S3 t.root d.h=some ((u.root,old),S5)/\fC Ok S5 o3 u/\t.its=tl++mid++tr/\u.its=tl++d::tr/\(∀x∈tl,Fu x.k d.k<0)/\(∀x∈tr,Fu d.k x.k<0)/\ej S3 S5 0 0/\
  (∀y,y∉t.hs->y≠d.h->reco S5 y=reco S3 y)/\((old=0/\mid=[])\/∃(x:It) (n1:Nd),mid=[x]/\old=x.h/\x.k=d.k/\reco S5 x.h=some (eM n1)/\n1.key=x.kh/\n1.val=x.vh):=by
 have h':=h.frame f3 h3;have ai:=h.hs;have ad:d.h∉t.hs:=fun hm=>by
  obtain⟨z,hz,e⟩:=ay.1 hm;grind [gU]
 have ap:=gw f3 hn;have ba:=(fL f3 hn).1;obtain⟨tl,m,tr,S4,e4,f4,al,ar,a8,a9,o4,g4,hm,hlt,au⟩:=sn J d.k 200 f3 h'.at' h'.ok ai.1 (fun x hx=>⟨h'.blobs x hx,(ai.2 x hx).1⟩) h'.sorted (by omega) (by omega);have a4:reco S4 d.h=some (eM n0):=(o4 _ ad).trans hn;obtain⟨mid,a0,a2⟩:∃mid:List It,t.its=tl.its++mid++tr.its/\((m=0/\mid=[])\/∃(x:It) (n1:Nd),mid=[x]/\m=x.h/\x.k=d.k/\reco S4 x.h=some (eM n1)/\n1.key=x.kh/\n1.val=x.vh):=by
  grind
 have a6:t.hs=tl.hs++(mid.map (·.h))++tr.hs:=by unfold Tr.hs;grind
 have a1:=ai.1;rw[a6] at a1 ad;obtain⟨n1,n2,n3⟩:=aC.1 a1;obtain⟨n4,n5,n6⟩:=aC.1 n1;simp only[ax,not_or] at ad;have a5:(tl.hs++d.h::tr.hs).Nodup:=aC.2 ⟨n4,aF.2 ⟨ad.2,n2⟩,fun x hx y hy q=>by
  grind⟩
 have a3:tl.its.length+tr.its.length<99:=by grind
 obtain⟨u,S5,e5,D5,a',iu⟩:=J.join f4 al ar a8 a9 a4 hn1 hn2 a5 a3;have an:∀y,y∉t.hs->y≠d.h->reco S5 y=reco S3 y:=fun y hy hy2=>by
  refine(D5.other y fun hm=>?_).trans (o4 y hy);grind
 refine⟨u,m,S5,tl.its,tr.its,mid,?_,?_,a0,iu,hlt,au,g4.trans D5.grew,an,?_⟩
 ·unfold insertOkM;rw[ap];simp only;rw[hn1,jt f3 ha hk];rw[if_neg (by
   have:isT S3 d.h=true:=by unfold isT;rw[ap];simp
   rw[h'.at'.isT f3,this];simp;omega)]
  grind [jq]
 ·exact ze h a0 iu hd hdn D5.fit D5.at' a' h3 ⟨hk,hvv,ha,hv⟩ an hlt au
 ·rcases a2 with⟨e0,e⟩ | ⟨x,a7,ex,e0,ek,q1,q2,q3⟩
  ·grind
  ·refine ae ⟨x,a7,ex,e0,ek,(D5.other _ fun hm=>?_).trans q1,q2,q3⟩;grind
def tm(S S':St)(l:List It):Prop:=∀y,y∉eB l->reco S y≠none->reco S' y=reco S y
theorem DI{jn:Jn}{Ok:Tr->Prop}(J:kV jn Ok)(h:fC Ok S o t)(hc:t.its.length<98){a b:List UInt8}(ha:a.length<=1000)(hb:b.length<=1000)(hr:fc S 7 3)(hno:∀d∈t.its,d.k≠a):
 ∃u S' o',pJ S a b/\treePutM jn S t.root a b=some (u.root,S')/\fC Ok S' o' u/\pairs u.its=gV (pairs t.its) a b/\u.its.length=t.its.length+1/\ej S S' 7 3/\tm S S' t.its/\∀y∈eB u.its,y∈eB t.its\/reco S y=none:=by
 obtain⟨ka,vb,hn,S2,S3,o3,a0,a1,a2,f3,r1,r2,r3,d1,d2,d3,l1,l2,l3,q3,g3⟩:=xF h.fit ha hb hr;have an:∀y,reco S y≠none->reco S3 y=reco S y:=fun y hy=>q3 y (by rintro rfl;exact hy r1) (by rintro rfl;exact hy r2) (by rintro rfl;exact hy r3);obtain⟨u,a3,S5,tl,tr,mid,e5,B5,ai,iu,hlt,au,g5,ar,ap⟩:=uW J (d:=⟨hn,ka,vb,a,b⟩) h hc f3 ha hb (by rintro y (rfl | rfl | rfl)<;>assumption) ⟨d1,d2,d3⟩ l1 l2 l3 rfl rfl (fun y hy=>an y (h.some y hy));have ad:a3=0/\mid=[]:=by
  rcases ap with q | ⟨x,n1,ex,_,ek,_⟩
  ·exact q
  ·exact absurd ek (hno x (by rw[ai,ex];simp))
 refine⟨u,S5,o3,a2,?_,B5,?_,?_,(g3.trans g5).mono (by omega) (by omega),fun y hy hs=>(ar y (fun hm=>?_) ?_).trans (an y hs),fun y hy=>?_⟩
 ·unfold treePutM;rw[a0];simp only;unfold binInsM;rw[a1];simp only;rw[if_neg (by simp),e5];simp only;rw[if_pos ad.1]
 ·rw[iu,ai];exact oO ⟨rfl,rfl⟩ (fun x hx=>by rw[ad.2] at hx;cases hx) hlt au
 ·rw[iu,ai,ad.2]
  simp;omega
 ·obtain⟨z,hz,rfl⟩:=ay.1 hm;exact hy (gU.2 ⟨z,hz,ab rfl⟩)
 ·rintro rfl;exact hs r3
 grind [iX,mx]
theorem DJ{jn:Jn}{Ok:Tr->Prop}(J:kV jn Ok)(h:fC Ok S o t)(hc:t.its.length<98){a b:List UInt8}(ha:a.length<=1000)(hb:b.length<=1000)(hr:fc S 7 3){x:It}(hx:x∈t.its)(hxk:x.k=a):
 ∃u S6 S8 o',pJ S a b/\treeRepM jn S t.root a b=some ((u.root,x.kh,x.vh),S6)/\Fw S6 o'/\fz S6 x.vh=(x.v,0)/\Fv (S6.drop x.kh).2/\S8=((S6.drop x.kh).2.drop x.vh).2/\fC Ok S8 o' u/\pairs u.its=gV (pairs t.its) a b/\u.its.length=t.its.length/\ej S S8 7 3/\tm S S8 t.its/\∀y∈eB u.its,y∈eB t.its\/reco S y=none:=by
 obtain⟨ka,vb,hn,S2,S3,o3,a9,ba,bb,f3,r1,r2,r3,d1,d2,d3,l1,l2,l3,q3,g3⟩:=xF h.fit ha hb hr;have an:∀y,reco S y≠none->reco S3 y=reco S y:=fun y hy=>q3 y (by rintro rfl;exact hy r1) (by rintro rfl;exact hy r2) (by rintro rfl;exact hy r3);obtain⟨u,bd,S5,tl,tr,mid,e5,B5,ad,iu,hlt,a4,g5,ap,a8⟩:=uW J (d:=⟨hn,ka,vb,a,b⟩) h hc f3 ha hb (by rintro y (rfl | rfl | rfl)<;>assumption) ⟨d1,d2,d3⟩ l1 l2 l3 rfl rfl (fun y hy=>an y (h.some y hy));have a':∃n1:Nd,mid=[x]/\bd=x.h/\reco S5 x.h=some (eM n1)/\n1.key=x.kh/\n1.val=x.vh:=by
  have ar:∀z,(z∈tl\/z∈tr)->z≠x:=by
   rintro z hz rfl
   rcases hz with hz | hz
   ·have:=hlt z hz;simp only[hxk,fX] at this;omega
   ·have:=a4 z hz;simp only[hxk,fX] at this;omega
  rcases a8 with⟨_,q⟩ | ⟨z,n1,ez,eo,_,e1,e2,e3⟩
  ·rw[ad,q] at hx;simp only[bD,ax] at hx;exact absurd rfl (ar x hx)
  ·have:z=x:=by
    rw[ad,ez] at hx;simp only[ax,aj,List.not_mem_nil,or_false] at hx
    rcases hx with (hx | hx) | hx
    ·exact absurd rfl (ar x (ab hx))
    ·exact hx.symm
    ·exact absurd rfl (ar x (ae hx))
   subst this;exact⟨n1,ez,eo,e1,e2,e3⟩
 obtain⟨n1,em,eo,x1,x2,x3⟩:=a';have au:=h.blobs x hx;have bc:x.h∈eB t.its:=gU.2 ⟨x,hx,ab rfl⟩;have a0:x.kh∈eB t.its:=gU.2 ⟨x,hx,ae (ab rfl)⟩;have a1:x.vh∈eB t.its:=gU.2 ⟨x,hx,ae (ae rfl)⟩;have a7:=h.nd;have a3:eB t.its=eB tl++([x.h,x.kh,x.vh]++eB tr):=by rw[ad,em,iX,iX,bC];rfl
 rw[a3] at a7;have ai:x.h∉eB u.its/\x.kh∉eB u.its/\x.vh∉eB u.its/\x.kh≠x.h/\x.vh≠x.h/\x.kh≠x.vh:=by
  obtain⟨p1,p2,p3⟩:=aC.1 a7;obtain⟨p4,p5,p6⟩:=aC.1 p2;have hw:∀y∈ [x.h,x.kh,x.vh],y∉eB u.its:=fun y hy hm=>by
   rw[iu,iX,mx] at hm;have a2:reco S y≠none:=h.some y (by rw[a3];simp only[ax];exact ae (ab hy))
   rcases ax.1 hm with hm | hm
   ·exact p3 y hm y (by simp only[ax];exact ab hy) rfl
   ·simp only[aj] at hm
    rcases hm with hm | hm | hm | hm
    ·exact a2 (hm▸r3)
    ·exact a2 (hm▸r1)
    ·exact a2 (hm▸r2)
    ·exact p6 y hy y hm rfl
  simp only[aF,aj,List.not_mem_nil,or_false,not_or] at p4;exact⟨hw _ (by simp),hw _ (by simp),hw _ (by simp),fun q=>p4.1.1 q.symm,fun q=>p4.1.2 q.symm,p4.2.1⟩
 have a6:x.kh∉t.hs/\x.vh∉t.hs:=h.hs.2 x hx;have a5:x.kh≠hn/\x.vh≠hn:=⟨fun q=>h.some _ a0 (q▸r3),fun q=>h.some _ a1 (q▸r3)⟩;have k5:reco S5 x.kh=some (FK x.k):=(ap _ a6.1 a5.1).trans ((an _ (h.some _ a0)).trans au.k);have v5:reco S5 x.vh=some (FK x.v):=(ap _ a6.2 a5.2).trans ((an _ (h.some _ a1)).trans au.v);obtain⟨S6,e6,f6,m6,o6,g6⟩:=AH B5.fit x1;have v6:=(o6 _ ai.2.2.2.2.1).trans v5;obtain⟨S7,e7,f7,m7,o7,g7⟩:=mQ f6 ((o6 _ ai.2.2.2.1).trans k5);obtain⟨S8,e8,f8,m8,o8,g8⟩:=mQ f7 ((o7 _ ai.2.2.2.2.2.symm).trans v6);refine⟨u,S6,S8,o3,bb,?_,f6,jt f6 au.lv v6,by rw[e7];exact f7.inv,by rw[e7,e8],B5.frame f8 (fun y hy=>?_),?_,?_,((((g3.trans g5).trans g6).trans g7).trans g8).mono (by omega) (by omega),fun y hy hs=>?_,fun y hy=>?_⟩
 ·unfold treeRepM;rw[a9];simp only;unfold binRepM;rw[ba];simp only;rw[if_neg (by simp),e5];simp only;rw[eo,e6];simp only;rw[gw B5.fit x1,x2,x3]
 ·have w1:y≠x.h:=fun q=>ai.1 (q▸hy);have w2:y≠x.kh:=fun q=>ai.2.1 (q▸hy);have w3:y≠x.vh:=fun q=>ai.2.2.1 (q▸hy);exact(o8 y w3).trans ((o7 y w2).trans (o6 y w1))
 ·rw[iu,ad];exact oO ⟨rfl,rfl⟩ (fun z hz=>by rw[em] at hz;simp only[aj,List.not_mem_nil,or_false] at hz;rw[hz];exact hxk) hlt a4
 ·rw[iu,ad,em]
  simp
 ·have w1:y≠x.h:=fun q=>hy (q▸bc);have w2:y≠x.kh:=fun q=>hy (q▸a0);have w3:y≠x.vh:=fun q=>hy (q▸a1);refine(o8 y w3).trans ((o7 y w2).trans ((o6 y w1).trans ((ap y (fun hm=>?_) ?_).trans (an y hs))))
  ·obtain⟨z,hz,rfl⟩:=ay.1 hm;exact hy (gU.2 ⟨z,hz,ab rfl⟩)
  ·rintro rfl;exact hs r3
 ·rw[iu,iX,mx] at hy;rw[ad,iX,iX];simp only[ax,aj] at hy⊢
  rcases hy with q | rfl | rfl | rfl | q
  ·exact ab (ab (ab q))
  ·exact ae r3
  ·exact ae r1
  ·exact ae r2
  ·exact ab (ae q)
end Tr
end
section
open Lf Tr
def ff(l:List It):List Nat:=l.flatMap fun d=>[d.kh,d.vh]
theorem gh {l:List It}{y:Nat}:y∈ff l↔∃d∈l,y=d.kh\/y=d.vh:=by
 unfold ff;grind
theorem nO(a b:List It):ff (a++b)=ff a++ff b:=by unfold ff;grind
namespace Bt
structure Tree (S:St) (o:Nat->Nat) (t:Nat) {d:Nat} (x:Bt (d+1)):Prop where
 fit:Fw S o
 t1:2<=t
 t2:t<=16
 at':At S t x
 ok:Ok t x
 sorted:(its x).Pairwise eU
 blobs:∀a∈its x,gu S a
 few:(its x).length<1000000
 nodes:(nodes x).Nodup
 texts:(ff (its x)).Nodup
 apart:∀h∈Bt.nodes x,h∉ff (its x)
 pos:1<=nk x
variable {S S':St}{o o':Nat->Nat}{t d:Nat}{x:Bt (d+1)}
theorem Tree.walk(h:Tree S o t x):Walk S o t x:=
 ⟨h.fit,h.t1,h.t2,h.at',h.ok,h.sorted,⟨fun a ha=>(blobs_lt h.fit (h.blobs a ha)).1,fun a ha=>jt h.fit (h.blobs a ha).lk (h.blobs a ha).k⟩,h.few⟩
theorem Tree.lts(h:Tree S o t x):ItLt (its x):=fun a ha=>blobs_lt h.fit (h.blobs a ha)
theorem Tree.low(h:Tree S o t x):d<19:=by
 have h1:=pow_le t h.t1 h.ok h.pos;have h2:=h.few
 rcases co d 19 with h3 | h3
 ·omega
 ·have:2^20<=2^(d+1):=cL (by decide) (by omega);omega
def recs(x:Bt (d+1)):List Nat:=Bt.nodes x++ff (its x)
theorem Tree.has(h:Tree S o t x):∀y∈recs x,reco S y≠none:=fun y hy q=>by
 rcases ax.1 hy with hy | hy
 ·obtain⟨n,e⟩:=h.at'.rec y hy;rw[q] at e;cases e
 ·obtain⟨a,ha,e⟩:=gh.1 hy;have hb:=h.blobs a ha;rcases e with rfl | rfl
  ·have:=hb.k;rw[q] at this;cases this
  ·have:=hb.v;rw[q] at this;cases this
theorem Tree.frame(h:Tree S o t x)(hf:Fw S' o')(hs:∀y∈recs x,reco S' y=reco S y):Tree S' o' t x:=
 ⟨hf,h.t1,h.t2,h.at'.frame fun y hy=>hs y (aE _ hy),h.ok,h.sorted,fun a ha=>(h.blobs a ha).frame (hs _ (aG _ (gh.2 ⟨a,ha,ab rfl⟩))) (hs _ (aG _ (gh.2 ⟨a,ha,ae rfl⟩))),h.few,h.nodes,h.texts,h.apart,h.pos⟩
theorem blobH_ins {e:It}:∀{l:List It},∀y,y∈ff (insB e l)↔y=e.kh\/y=e.vh\/y∈ff l:=fun {l} y=>by
 constructor
 ·intro hy;obtain⟨a,ha,q⟩:=gh.1 hy;rcases kg.1 ha with rfl | ha
  ·rcases q with q | q
   ·exact ab q
   ·exact ae (ab q)
  ·exact ae (ae (gh.2 ⟨a,ha,q⟩))
 ·rintro(q | q | hy)
  ·exact gh.2 ⟨e,kg.2 (ab rfl),ab q⟩
  ·exact gh.2 ⟨e,kg.2 (ab rfl),ae q⟩
  ·obtain⟨a,ha,q⟩:=gh.1 hy;exact gh.2 ⟨a,kg.2 (ae ha),q⟩
theorem zA {e:It}{l:List It}:(ff (insB e l)).Perm (e.kh::e.vh::ff l):=by
 have h:(insB e l).Perm (e::l):=by
  refine List.perm_middle.trans ?_;rw[aX]
 unfold ff
 grind
structure New (S:St) (x:Bt (d+1)) (e:It):Prop where
 blobs:gu S e
 ne:e.kh≠e.vh
 off:e.kh∉recs x/\e.vh∉recs x
 key:∀a∈its x,a.k≠e.k
 few:(its x).length+1<1000000
theorem New.texts {e:It}(n:New S x e)(h:Tree S o t x){L:List Nat}(hL:∀y∈L,reco S y=none):(ff (insB e (its x))).Nodup/\∀y∈ff (insB e (its x)),y∉Bt.nodes x/\y∉L:=by
 refine⟨zA.nodup_iff.2 (aF.2 ⟨fun hm=>?_,aF.2 ⟨fun hm=>n.off.2 (aG _ hm),h.texts⟩⟩),fun y hy=>?_⟩
 ·rcases aj.1 hm with q | hm
  ·exact n.ne q
  ·exact n.off.1 (aG _ hm)
 ·have hk:reco S y≠none:=by
   intro q;obtain⟨a,ha,e1⟩:=gh.1 hy;have hb:gu S a:=by
    rcases kg.1 ha with rfl | ha
    ·exact n.blobs
    ·exact h.blobs a ha
   rcases e1 with rfl | rfl
   ·have:=hb.k
    grind
   ·have:=hb.v
    grind
  refine⟨fun hm=>?_,fun hm=>hk (hL y hm)⟩
  rcases(blobH_ins y).1 hy with q | q | hb
  ·exact n.off.1 (q▸aE _ hm)
  ·exact n.off.2 (q▸aE _ hm)
  ·exact h.apart y hm hb
theorem New.stay {e:It}(n:New S x e)(h:Tree S o t x){L:List Nat}(hL:∀y∈L,reco S y=none)(hS:∀y,y∉Bt.nodes x->y∉L->reco S' y=reco S y):∀a∈insB e (its x),gu S' a:=fun a ha=>by
 have hb:gu S a:=by
  rcases kg.1 ha with rfl | ha
  ·exact n.blobs
  ·exact h.blobs a ha
 have hd:=(n.texts h hL).2;have h1:=hd a.kh (gh.2 ⟨a,ha,ab rfl⟩);have h2:=hd a.vh (gh.2 ⟨a,ha,ae rfl⟩);exact hb.frame (hS _ h1.1 h1.2) (hS _ h2.1 h2.2)
theorem Tree.insert_none(h:Tree S o t x){e:It}(n:New S x e){S1 S2:St}{o1:Nat->Nat}{L U:List Nat}(hL:∀y∈L,reco S y=none)(h1:∀y,y∉L->reco S1 y=reco S y)(hU:∀y∈U,y∈L)(p:Put S1 S2 o1 t x e U none):
 ∃y:Bt (d+1),hd y=hd x/\Tree S2 o1 t y/\its y=insB e (its x)/\(∀z∈Bt.nodes y,z∈Bt.nodes x\/z∈U):=by
 obtain⟨y,a1,a2,a3,a4,a5,a6,a7⟩:=p.res;have hs:∀z,z∉Bt.nodes x->z∉L->reco S2 z=reco S z:=fun z q1 q2=>(p.fr z q1 fun q=>q2 (hU z q)).trans (h1 z q2);obtain⟨t3,t4⟩:=n.texts h hL;refine⟨y,a1,⟨p.fit,h.t1,h.t2,a2,a3,by rw[a5];exact uR h.sorted n.key,by rw[a5];exact n.stay h hL hs,by rw[a5,insB_length];exact n.few,a6,by rw[a5];exact t3,fun z hz hb=>?_,aB h.pos a4⟩,a5,a7⟩;grind
def rootOf(g:Nat)(m:It)(y1 y2:Bt (d+1)):Bt (d+2):=(⟨g,[m],[y1,y2]⟩:Bn (Bt (d+1)))
theorem wJ(g:Nat)(m:It)(y1 y2:Bt (d+1)):Bt.nodes (rootOf g m y1 y2)=g::(Bt.nodes y1++Bt.nodes y2):=by
 show g::([y1,y2].map Bt.nodes).flatten=_
 simp
theorem Tree.insert_root(h:Tree S o t x){e:It}(n:New S x e){S1 S2:St}{o1:Nat->Nat}{L U:List Nat}(hL:∀y∈L,reco S y=none)(h1:∀y,y∉L->reco S1 y=reco S y)(hU:∀y∈U,y∈L){m:It}{g:Nat}(p:Put S1 S2 o1 t x e U (some (m,g))){r:Nat}(hr:r∈L)(hrU:r∉U){ws:List Nat}(hw:reco S1 r=some ws)(hl:ws.length=6*t):
 ∃y1 y2:Bt (d+1),hd y1=hd x/\hd y2=g/\At S2 t y1/\At S2 t y2/\Ok t y1/\Ok t y2/\(its y1).length+(its y2).length+1<1000000/\Ok t (rootOf r m y1 y2)/\iT (bn (rootOf r m y1 y2))/\(reco S2 r=some ws)/\Tree (FC S2 r 0 (bnWords t (bn (rootOf r m y1 y2)))) o1 t (rootOf r m y1 y2)/\its (rootOf r m y1 y2)=insB e (its x)/\(∀z∈Bt.nodes (rootOf r m y1 y2),z∈Bt.nodes x\/z∈L)/\(∀z,z≠r->reco (FC S2 r 0 (bnWords t (bn (rootOf r m y1 y2)))) z=reco S2 z)/\ej S2 (FC S2 r 0 (bnWords t (bn (rootOf r m y1 y2)))) 0 0:=by
 obtain⟨y1,y2,a1,a2,a3,a4,a5,a6,a7,a8,a9,ba,an⟩:=p.res;have a0:r∉Bt.nodes x:=fun q=>h.has r (aE _ q) (hL r hr);have au:reco S2 r=some ws:=(p.fr r a0 hrU).trans hw;have hs:∀z,z∉Bt.nodes x->z∉L->reco S2 z=reco S z:=fun z q1 q2=>(p.fr z q1 fun q=>q2 (hU z q)).trans (h1 z q2);obtain⟨t3,t4⟩:=n.texts h hL;have ai:r∉Bt.nodes y1++Bt.nodes y2:=fun q=>(an r q).elim a0 hrU;have ad:its (rootOf r m y1 y2)=insB e (its x):=a9;have t1:=h.t1;have ok:Ok t (rootOf r m y1 y2):=by
  refine⟨by show 1<=2*t-1;omega,by show 2=if d+1=0 then 0 else 1+1;rw[if_neg (by omega)],fun k hk=>?_⟩;have hk:k∈ [y1,y2]:=hk
  rcases aj.1 hk with rfl | hk
  ·exact⟨a5,by omega⟩
  ·rw[aA.1 hk];exact⟨a6,by omega⟩
 have bb:(its y1).length+(its y2).length+1<1000000:=by
  have e1:=congrArg List.length a9;rw[ah,ag,insB_length] at e1;have:=n.few;omega
 have ar:∀k∈Bn.ks (rootOf r m y1 y2),At S2 t k:=fun k hk=>by
  have hk:k∈ [y1,y2]:=hk
  rcases aj.1 hk with rfl | hk
  ·exact a3
  ·rw[aA.1 hk];exact a4
 have a':=n.stay h hL hs;have ap:iT (bn (rootOf r m y1 y2)):=bnLt_of p.fit (fun a ha=>blobs_lt p.fit (a' a (by rw[<-ad];exact lN ok.okN ha))) ar (by rw[ad,insB_length];have:=n.few;omega);have bc:∀k∈Bn.ks (rootOf r m y1 y2),hd (rootOf r m y1 y2)∉Bt.nodes k:=fun k hk q=>by
  have hk:k∈ [y1,y2]:=hk;have q:r∈Bt.nodes k:=q
  rcases aj.1 hk with rfl | hk
  ·exact ai (aE _ q)
  ·rw[aA.1 hk] at q;exact ai (aG _ q)
 obtain⟨p1,p2,p3,p4⟩:=put_node (x:=rootOf r m y1 y2) p.fit ar bc (ws:=ws) au hl ap (by show 1<1000;omega);have p3:∀z,z≠r->reco (FC S2 r 0 (bnWords t (bn (rootOf r m y1 y2)))) z=reco S2 z:=p3;have bd:∀z∈Bt.nodes (rootOf r m y1 y2),z∈Bt.nodes x\/z∈L:=fun z hz=>by
  rw[wJ] at hz
  rcases aj.1 hz with rfl | hz
  ·exact ae hr
  ·exact(an z hz).imp id (hU z)
 refine⟨y1,y2,a1,a2,a3,a4,a5,a6,bb,ok,ap,au,⟨p1,h.t1,h.t2,p2,ok,by rw[ad];exact uR h.sorted n.key,?_,by rw[ad,insB_length];exact n.few,?_,by rw[ad];exact t3,fun z hz hb=>?_,Nat.le_refl 1⟩,ad,bd,p3,p4⟩
 ·rw[ad];intro a ha;exact(a' a ha).frame (p3 _ fun q=>(t4 a.kh (gh.2 ⟨a,ha,ab rfl⟩)).2 (q▸hr)) (p3 _ fun q=>(t4 a.vh (gh.2 ⟨a,ha,ae rfl⟩)).2 (q▸hr))
 ·rw[wJ];exact aF.2 ⟨ai,ba⟩
 grind
end Bt
end
section
open Go.RowKit Tryz Go.BigFrame Go.Maps Go.WideMaps Lf Tr
theorem Ig.row {w w2:World}{ps D x:Nat}{S:St}{Y:Nat->Prop}{v v2:Value}{L:List Nat}(h:Ig w ps S (fun k=>Y k\/v.ownBlock=some k))(hD:fy<D)(own:FE w D v L)(ho2:FE w2 D v2 (L++[x]))(hg:w.grownBy w2 v.ownBlock)(hv:v2.ownBlock=v.ownBlock\/∃g,v2.ownBlock=some g/\w.heap.size<=g):Ig w2 ps S (fun k=>Y k\/v2.ownBlock=some k):=by
 refine(h.grown hg fun g e=>⟨ae e,by have:=(own.ge g e).1;omega,(own.block e).2.2⟩).mono fun k hk=>?_
 rcases hk with hk | hk
 ·exact ab (ab hk)
 ·rcases hv with e | ⟨g,e,hg⟩
  ·rw[e] at hk;exact ab (ae hk)
  ·rw[e] at hk;obtain rfl:g=k:=Option.some.inj hk;exact ae ⟨hg,(ho2.ge g e).2⟩
section
variable {w w':World}{ps bb D n:Nat}{S S':St}{Y Z:Nat->Prop}{kind:Int}
end
