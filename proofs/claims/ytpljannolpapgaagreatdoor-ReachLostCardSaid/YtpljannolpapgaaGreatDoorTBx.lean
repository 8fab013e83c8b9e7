/- B-trees in a store, as wholes: an item more at the f9: plain. -/
import Derived.Test.YtpljannolpapgaaGreatDoorTBj
import Derived.Sort.EveryDepth
import Derived.CellFam
import Derived.Deep.CutRange
import Derived.Deep.CutBlock
set_option maxRecDepth 100000
set_option maxHeartbeats 8000000
namespace Go.Proofs.YtpljannolpapgaaGreatDoor
section
open Lf Tr
def ff(l:List It):List Nat:=l.flatMap fun d=>[d.kh,d.vh]
theorem gh {l:List It}{y:Nat}:y∈ff l↔∃d∈l,y=d.kh\/y=d.vh:=by
 unfold ff;grind
theorem nO(a b:List It):ff (a++b)=ff a++ff b:=by unfold ff;grind
namespace Bt
structure Tree (S:St) (o:Nat->Nat) (t:Nat) {d:Nat} (x:Bt (d+1)):Prop where
 fit:Fw S o
 t1:2<=t
 t2:t<=16
 at':At S t x
 ok:Ok t x
 F3:(its x).Pairwise eU
 F5:∀a∈its x,gu S a
 few:(its x).length<1000000
 h_:(h_ x).Nodup
 texts:(ff (its x)).Nodup
 apart:∀h∈Bt.h_ x,h∉ff (its x)
 pos:1<=nk x
variable {S S':St}{o o':Nat->Nat}{t d:Nat}{x:Bt (d+1)}
theorem Tree.walk(h:Tree S o t x):Walk S o t x:=
 ⟨h.fit,h.t1,h.t2,h.at',h.ok,h.F3,⟨fun a ha=>(blobs_lt h.fit (h.F5 a ha)).1,fun a ha=>jt h.fit (h.F5 a ha).lk (h.F5 a ha).k⟩,h.few⟩
theorem Tree.lts(h:Tree S o t x):ItLt (its x):=fun a ha=>blobs_lt h.fit (h.F5 a ha)
theorem Tree.low(h:Tree S o t x):d<19:=by
 have h1:=pow_le t h.t1 h.ok h.pos;have h2:=h.few
 rcases cB d 19 with h3 | h3
 ·omega
 ·have:2^20<=2^(d+1):=cT d_ o_;omega
def recs(x:Bt (d+1)):List Nat:=Bt.h_ x++ff (its x)
theorem Tree.has(h:Tree S o t x):∀y∈recs x,i_ S y≠none:=fun y hy q=>by
 rcases ao.1 hy with hy | hy
 ·obtain⟨n,e⟩:=h.at'.rec y hy;rw[q] at e;cases e
 ·obtain⟨a,ha,e⟩:=gh.1 hy;have hb:=h.F5 a ha;rcases e with rfl | rfl
  ·have:=hb.k;rw[q] at this;cases this
  ·have:=hb.v;rw[q] at this;cases this
theorem Tree.frame(h:Tree S o t x)(hf:Fw S' o')(hs:∀y∈recs x,i_ S' y=i_ S y):Tree S' o' t x:=
 ⟨hf,h.t1,h.t2,h.at'.frame fun y hy=>hs y (aB _ hy),h.ok,h.F3,fun a ha=>(h.F5 a ha).frame (hs _ (aA _ (gh.2 ⟨a,ha,ab rfl⟩))) (hs _ (aA _ (gh.2 ⟨a,ha,ae rfl⟩))),h.few,h.h_,h.texts,h.apart,h.pos⟩
theorem blobH_ins {e:It}:∀{l:List It},∀y,y∈ff (insB e l)↔y=e.kh\/y=e.vh\/y∈ff l:=fun {l} y=>by
 constructor
 ·intro hy;obtain⟨a,ha,q⟩:=gh.1 hy;rcases kg.1 ha with rfl | ha
  ·rcases q with q | q
   ·exact ab q
   ·exact ae (ab q)
  ·exact ae (ae (gh.2 ⟨a,ha,q⟩))
 ·rintro(q | q | hy)
  ·exact gh.2 ⟨e,kg.2 (ab rfl),ab q⟩
  ·exact gh.2 ⟨e,kg.2 (ab rfl),ae q⟩
  ·obtain⟨a,ha,q⟩:=gh.1 hy;exact gh.2 ⟨a,kg.2 (ae ha),q⟩
theorem zA {e:It}{l:List It}:(ff (insB e l)).Perm (e.kh::e.vh::ff l):=by
 have h:(insB e l).Perm (e::l):=by
  refine List.perm_middle.T ?_;rw[aS]
 unfold ff
 grind
structure New (S:St) (x:Bt (d+1)) (e:It):Prop where
 F5:gu S e
 ne:e.kh≠e.vh
 off:e.kh∉recs x/\e.vh∉recs x
 key:∀a∈its x,a.k≠e.k
 few:(its x).length+1<1000000
theorem New.texts {e:It}(n:New S x e)(h:Tree S o t x){L:List Nat}(hL:∀y∈L,i_ S y=none):(ff (insB e (its x))).Nodup/\∀y∈ff (insB e (its x)),y∉Bt.h_ x/\y∉L:=by
 refine⟨zA.nodup_iff.2 (aI.2 ⟨fun hm=>?_,aI.2 ⟨fun hm=>n.off.2 (aA _ hm),h.texts⟩⟩),fun y hy=>?_⟩
 ·rcases ah.1 hm with q | hm
  ·exact n.ne q
  ·exact n.off.1 (aA _ hm)
 ·have hk:i_ S y≠none:=by
   intro q;obtain⟨a,ha,e1⟩:=gh.1 hy;have hb:gu S a:=by
    rcases kg.1 ha with rfl | ha
    ·exact n.F5
    ·exact h.F5 a ha
   rcases e1 with rfl | rfl
   ·have:=hb.k
    grind
   ·have:=hb.v
    grind
  refine⟨fun hm=>?_,fun hm=>hk (hL y hm)⟩
  rcases(blobH_ins y).1 hy with q | q | hb
  ·exact n.off.1 (q▸aB _ hm)
  ·exact n.off.2 (q▸aB _ hm)
  ·exact h.apart y hm hb
theorem New.stay {e:It}(n:New S x e)(h:Tree S o t x){L:List Nat}(hL:∀y∈L,i_ S y=none)(hS:∀y,y∉Bt.h_ x->y∉L->i_ S' y=i_ S y):∀a∈insB e (its x),gu S' a:=fun a ha=>by
 have hb:gu S a:=by
  rcases kg.1 ha with rfl | ha
  ·exact n.F5
  ·exact h.F5 a ha
 have hd:=(n.texts h hL).2;have h1:=hd a.kh (gh.2 ⟨a,ha,ab rfl⟩);have h2:=hd a.vh (gh.2 ⟨a,ha,ae rfl⟩);exact hb.frame (hS _ h1.1 h1.2) (hS _ h2.1 h2.2)
theorem Tree.insert_none(h:Tree S o t x){e:It}(n:New S x e){S1 S2:St}{o1:Nat->Nat}{L U:List Nat}(hL:∀y∈L,i_ S y=none)(h1:∀y,y∉L->i_ S1 y=i_ S y)(hU:∀y∈U,y∈L)(p:Put S1 S2 o1 t x e U none):
 ∃y:Bt (d+1),hd y=hd x/\Tree S2 o1 t y/\its y=insB e (its x)/\(∀z,z∈Bt.h_ y↔z∈Bt.h_ x\/z∈U):=by
 obtain⟨y,a1,a2,a3,a4,a5,a6,a7⟩:=p.res;have hs:∀z,z∉Bt.h_ x->z∉L->i_ S2 z=i_ S z:=fun z q1 q2=>(p.fr z q1 fun q=>q2 (hU z q)).T (h1 z q2);obtain⟨t3,t4⟩:=n.texts h hL;refine⟨y,a1,⟨p.fit,h.t1,h.t2,a2,a3,by rw[a5];exact uR h.F3 n.key,by rw[a5];exact n.stay h hL hs,by rw[a5,insB_length];exact n.few,a6,by rw[a5];exact t3,fun z hz hb=>?_,aG h.pos a4⟩,a5,a7⟩;rw[a5] at hb
 rcases(a7 z).1 hz with q | q
 ·exact(t4 z hb).1 q
 ·exact(t4 z hb).2 (hU z q)
def F8(g:Nat)(m:It)(y1 y2:Bt (d+1)):Bt (d+2):=(⟨g,[m],[y1,y2]⟩:Bn (Bt (d+1)))
theorem wJ(g:Nat)(m:It)(y1 y2:Bt (d+1)):Bt.h_ (F8 g m y1 y2)=g::(Bt.h_ y1++Bt.h_ y2):=by
 show g::([y1,y2].map Bt.h_).flatten=_
 simp
theorem Tree.insert_root(h:Tree S o t x){e:It}(n:New S x e){S1 S2:St}{o1:Nat->Nat}{L U:List Nat}(hL:∀y∈L,i_ S y=none)(h1:∀y,y∉L->i_ S1 y=i_ S y)(hU:∀y∈U,y∈L){m:It}{g:Nat}(p:Put S1 S2 o1 t x e U (some (m,g))){r:Nat}(hr:r∈L)(hrU:r∉U){ws:List Nat}(hw:i_ S1 r=some ws)(hl:ws.length=6*t):
 ∃y1 y2:Bt (d+1),hd y1=hd x/\hd y2=g/\At S2 t y1/\At S2 t y2/\Ok t y1/\Ok t y2/\(its y1).length+(its y2).length+1<1000000/\Ok t (F8 r m y1 y2)/\iT (bn (F8 r m y1 y2))/\(i_ S2 r=some ws)/\Tree (FC S2 r 0 (w_ t (bn (F8 r m y1 y2)))) o1 t (F8 r m y1 y2)/\its (F8 r m y1 y2)=insB e (its x)/\(∀z∈Bt.h_ (F8 r m y1 y2),z∈Bt.h_ x\/z∈L)/\(∀z,z≠r->i_ (FC S2 r 0 (w_ t (bn (F8 r m y1 y2)))) z=i_ S2 z)/\ej S2 (FC S2 r 0 (w_ t (bn (F8 r m y1 y2)))) 0 0/\∀z,z∈Bt.h_ x\/z∈U\/z=r->z∈Bt.h_ (F8 r m y1 y2):=by
 obtain⟨y1,y2,a1,a2,a3,a4,a5,a6,a7,a8,a9,bb,ai⟩:=p.res;have a':r∉Bt.h_ x:=fun q=>h.has r (aB _ q) (hL r hr);have a0:i_ S2 r=some ws:=(p.fr r a' hrU).T hw;have hs:∀z,z∉Bt.h_ x->z∉L->i_ S2 z=i_ S z:=fun z q1 q2=>(p.fr z q1 fun q=>q2 (hU z q)).T (h1 z q2);obtain⟨t3,t4⟩:=n.texts h hL;have an:r∉Bt.h_ y1++Bt.h_ y2:=fun q=>((ai r).1 q).elim a' hrU;have ad:its (F8 r m y1 y2)=insB e (its x):=a9;have t1:=h.t1;have ok:Ok t (F8 r m y1 y2):=by
  refine⟨by show 1<=2*t-1;omega,by show 2=if d+1=0 then 0 else 1+1;rw[if_neg o_],fun k hk=>?_⟩;have hk:k∈ [y1,y2]:=hk
  rcases ah.1 hk with rfl | hk
  ·exact⟨a5,o_⟩
  ·rw[aH.1 hk];exact⟨a6,o_⟩
 have bc:(its y1).length+(its y2).length+1<1000000:=by
  have e1:=congrArg List.length a9;rw[ag,aj,insB_length] at e1;have:=n.few;omega
 have ar:∀k∈Bn.ks (F8 r m y1 y2),At S2 t k:=fun k hk=>by
  have hk:k∈ [y1,y2]:=hk
  rcases ah.1 hk with rfl | hk
  ·exact a3
  ·rw[aH.1 hk];exact a4
 have ba:=n.stay h hL hs;have ap:iT (bn (F8 r m y1 y2)):=bnLt_of p.fit (fun a ha=>blobs_lt p.fit (ba a (by rw[<-ad];exact lN ok.okN ha))) ar (by rw[ad,insB_length];have:=n.few;omega);have bd:∀k∈Bn.ks (F8 r m y1 y2),hd (F8 r m y1 y2)∉Bt.h_ k:=fun k hk q=>by
  have hk:k∈ [y1,y2]:=hk;have q:r∈Bt.h_ k:=q
  rcases ah.1 hk with rfl | hk
  ·exact an (aB _ q)
  ·rw[aH.1 hk] at q;exact an (aA _ q)
 obtain⟨p1,p2,p3,p4⟩:=put_node (x:=F8 r m y1 y2) p.fit ar bd (ws:=ws) a0 hl ap (by show 1<1000;omega);have p3:∀z,z≠r->i_ (FC S2 r 0 (w_ t (bn (F8 r m y1 y2)))) z=i_ S2 z:=p3;have au:∀z∈Bt.h_ (F8 r m y1 y2),z∈Bt.h_ x\/z∈L:=fun z hz=>by
  rw[wJ] at hz
  rcases ah.1 hz with rfl | hz
  ·exact ae hr
  ·exact((ai z).1 hz).imp id (hU z)
 refine⟨y1,y2,a1,a2,a3,a4,a5,a6,bc,ok,ap,a0,⟨p1,h.t1,h.t2,p2,ok,by rw[ad];exact uR h.F3 n.key,?_,by rw[ad,insB_length];exact n.few,?_,by rw[ad];exact t3,fun z hz hb=>?_,Nat.le_refl 1⟩,ad,au,p3,p4,fun z hz=>?_⟩
 ·rw[ad];intro a ha;have h5:=t4 a.kh (gh.2 ⟨a,ha,ab rfl⟩);have h6:=t4 a.vh (gh.2 ⟨a,ha,ae rfl⟩);exact(ba a ha).frame (p3 _ fun q=>h5.2 (q▸hr)) (p3 _ fun q=>h6.2 (q▸hr))
 ·rw[wJ];exact aI.2 ⟨an,bb⟩
 ·rw[ad] at hb
  rcases au z hz with q | q
  ·exact(t4 z hb).1 q
  ·exact(t4 z hb).2 q
 ·rw[wJ]
  rcases hz with q | q | rfl
  ·exact ak _ ((ai z).2 (.inl q))
  ·exact ak _ ((ai z).2 (.inr q))
  ·exact av ..
end Bt
namespace Bt
variable{d:Nat}{e:It}{key:List UInt8}
def rep(e d:It):It:=if d.k=e.k then e else d
theorem wI(e d:It):(rep e d).k=d.k:=by
 unfold rep;grind
theorem mg{e d:It}(h:d.k≠e.k):rep e d=d:=if_neg h
def mapB(f:It->It): {d:Nat} ->Bt d->Bt d
 | 0,x=>nomatch x
 | d+1,x=>(⟨Bn.h x,(Bn.es x).map f,(Bn.ks x).map fun k=>mapB f k⟩:Bn (Bt d))
theorem CI(f:It->It)(x:Bt (d+1)):mapB f x=(⟨Bn.h x,(Bn.es x).map f,(Bn.ks x).map (mapB f)⟩:Bn (Bt d)):=rfl
theorem KV(f:It->It):∀(es:List It) (ks:List (List It)),ei (es.map f) (ks.map (List.map f))=(ei es ks).map f
 | [],[]=>rfl
 | [],_::_=>rfl
 | e::es,[]=>by
  have:=KV f es [];simp only[bg,List.map_nil] at this⊢;rw[ei,ei,bg,this]
 | e::es,k::ks=>by
  have:=KV f es ks;simp only[bg];rw[ei,ei,aQ,bg,this]
theorem xW:∀(es:List It) (ks:List (List It)),(ks=[]\/ks.length=es.length+1)->(ei es ks).Perm (es++ks.flatten)
 | [],[],_=>List.Perm.refl _
 | [],[k],_=>by simp[ei]
 | [],_::_::_,h=>by simp at h
 | e::es,[],_=>by rw[jY];simp
 | e::es,k::ks,h=>by
  have ih:=xW es ks (ae (by simpa using h));rw[ei,dB];refine List.perm_middle.T (List.Perm.cons e ((ih.append_left k).T ?_));show (k++(es++ks.flatten)).Perm (es++(k++ks.flatten))
  rw[<-aY,<-aY];exact List.Perm.append_right _ List.perm_append_comm
theorem ln(f:It->It):∀{d:Nat} (x:Bt d),its (mapB f x)=(its x).map f
 | 0,x=>nomatch x
 | d+1,x=>by
  show ei ((Bn.es x).map f) (((Bn.ks x).map (mapB f)).map its)=(ei (Bn.es x) ((Bn.ks x).map its)).map f
  rw[<-KV,cO,cO];congr 1
  exact aZ fun k _=>ln f k
theorem lW(f:It->It):∀{d:Nat} (x:Bt d),h_ (mapB f x)=h_ x
 | 0,x=>nomatch x
 | d+1,x=>by
  show Bn.h x::(((Bn.ks x).map (mapB f)).map h_).flatten=Bn.h x::((Bn.ks x).map h_).flatten
  rw[cO];congr 2
  exact aZ fun k _=>lW f k
theorem mapB_hd(f:It->It):∀{d:Nat} (x:Bt d),hd (mapB f x)=hd x
 | 0,x=>nomatch x
 | _+1,_=>rfl
theorem vE(f:It->It):∀{d:Nat} (x:Bt d),nk (mapB f x)=nk x
 | 0,x=>nomatch x
 | _+1,x=>by
  show ((Bn.es x).map f).length=(Bn.es x).length
  rw[am]
theorem vF(f:It->It){t:Nat}:∀{d:Nat} {x:Bt d},Ok t x->Ok t (mapB f x)
 | 0,x,_=>nomatch x
 | d+1,x,h=>by
  obtain⟨h1,h2,h3⟩:=h;refine⟨?_,?_,?_⟩
  ·show ((Bn.es x).map f).length<=_
   rw[am];exact h1
  ·show ((Bn.ks x).map (mapB f)).length=if d=0 then 0 else((Bn.es x).map f).length+1
   rw[am,am];exact h2
  ·intro k hk;have hk:k∈(Bn.ks x).map (mapB f):=hk;obtain⟨c,hc,rfl⟩:=az.1 hk;exact⟨vF f (h3 c hc).1,by rw[vE];exact(h3 c hc).2⟩
theorem rC {f:It->It}{t:Nat}:∀{d:Nat} {x:Bt d},Ok t x->(∀a∈its x,f a=a)->mapB f x=x
 | 0,x,_,_=>nomatch x
 | d+1,x,h,hf=>by
  have e1:(Bn.es x).map f=Bn.es x:=(aZ fun a ha=>(hf a (lN h.okN ha):f a=id a)).T (dO _);have e2:(Bn.ks x).map (mapB f)=Bn.ks x:=(aZ fun k hk=>(rC (h.2.2 k hk).1 fun a ha=>hf a (kid_its h.okN hk ha):mapB f k=id k)).T (dO _);rw[CI,e1,e2];rfl
theorem og{α:Type}{R:α->α->Prop}{L:List (List α)}(h:L.flatten.Pairwise R){i j:Nat}(hi:i<L.length)(hj:j<L.length)(hij:i<j):∀x∈L[i],∀y∈L[j],R x y:=by
 grind [List.pairwise_iff_getElem]
def nodeB(key:List UInt8): {d:Nat} ->Bt d->Option (Nat×BN×Nat)
 | 0,x=>nomatch x
 | _+1,x=>if fo key (Bn.es x)=true then some (Bn.h x,bn x,belowB key (Bn.es x)) else match (Bn.ks x)[belowB key (Bn.es x)]? with | some k=>nodeB key k | none=>none
theorem nodeB_here{x:Bt (d+1)}(h:fo key (Bn.es x)=true):nodeB key x=some (hd x,bn x,belowB key (Bn.es x)):=if_pos h
theorem nodeB_down{x:Bt (d+1)}(h:fo key (Bn.es x)=false){k:Bt d}(hk:(Bn.ks x)[belowB key (Bn.es x)]?=some k):nodeB key x=nodeB key k:=by
 show (if fo key (Bn.es x)=true then some (Bn.h x,bn x,belowB key (Bn.es x)) else match (Bn.ks x)[belowB key (Bn.es x)]? with | some k=>nodeB key k | none=>none)=_
 grind
theorem nodeB_none{x:Bt (d+1)}(h:fo key (Bn.es x)=false)(hk:(Bn.ks x)[belowB key (Bn.es x)]?=none):nodeB key x=none:=by
 show (if fo key (Bn.es x)=true then some (Bn.h x,bn x,belowB key (Bn.es x)) else match (Bn.ks x)[belowB key (Bn.es x)]? with | some k=>nodeB key k | none=>none)=_
 grind
def setN(n:BN)(k:Nat)(e:It):BN:= { n with j_:=n.j_.set k e.kh,E1:=n.E1.set k e.vh }
theorem Ca{a b:It}(h:eU a b):a.k≠b.k:=ne_of_lt h
theorem vd{t d:Nat}{x:Bt (d+1)}(ok:Ok t x)(hs:(its x).Pairwise eU):(Bn.es x++((Bn.ks x).map its).flatten).Pairwise fun a b=>a.k≠b.k:=by
 have h1:(its x).Pairwise fun a b=>a.k≠b.k:=hs.imp Ca;refine(List.Perm.pairwise_iff (fun h=>Ne.S h) (xW _ _ ?_)).1 (by rw[<-ga];exact h1)
 rcases ok.okN.rows with⟨h0,_⟩ | ⟨h0,_⟩
 ·exact ab h0
 omega
theorem D8{es:List It}(hs:es.Pairwise fun a b=>a.k≠b.k){k:Nat}(hk:k<es.length)(he:es[k].k=e.k):es.map (rep e)=es.set k e:=by
 refine dH s_ fun i h1 h2=>?_;rw[bG,List.getElem_set]
 by_cases q:k=i
 ·subst q;rw[if_pos rfl];exact if_pos he
 ·rw[if_neg q]
  grind [List.pairwise_iff_getElem,hs,mg,Nat.lt_or_ge]
theorem CY{t d:Nat}{l:List (Bt d)}(ok:∀k∈l,Ok t k)(h:∀a∈(l.map its).flatten,a.k≠e.k):l.map (mapB (rep e))=l:=
 (aZ fun k hk=>(rC (ok k hk) fun a ha=>mg (h a (cJ.2 ⟨its k,az.2 ⟨k,hk,rfl⟩,ha⟩)):mapB (rep e) k=id k)).T (dO _)
structure RepAt (S:St) (o:Nat->Nat) (t:Nat) {d:Nat} (x:Bt d) (e e0:It) (g:Nat) (n:BN) (k:Nat):Prop where
 find:G7 e.k (its x)=some e0
 key:n.j_[k]?=some e0.kh
 val:n.E1[k]?=some e0.vh
 mem:g∈h_ x
 bnok:iU t (setN n k e)
 words:∀v∈w_ t (setN n k e),v<2^64
 len:i_ S g=some (w_ t n)
 fit:Fw (FC S g 0 (w_ t (setN n k e))) o
 at':At (FC S g 0 (w_ t (setN n k e))) t (mapB (rep e) x)
 fr:∀z,z≠g->i_ (FC S g 0 (w_ t (setN n k e))) z=i_ S z
 grew:ej S (FC S g 0 (w_ t (setN n k e))) 0 0
theorem D7{S:St}{o:Nat->Nat}{t d:Nat}{x:Bt (d+1)}(he:e.kh<2^64/\e.vh<2^64)(hx:Walk S o t x)(hn:(h_ x).Nodup)(hb:ItLt (its x))(h:fo e.k (Bn.es x)=true):
 ∃e0,RepAt S o t x e e0 (hd x) (bn x) (belowB e.k (Bn.es x)):=by
 obtain⟨hk,ai⟩:=mO h;obtain⟨k1,k2,k3⟩:=bE.1 (vd hx.ok hx.F3);have a1:=D8 k1 hk ai;have a0:(Bn.ks x).map (mapB (rep e))=Bn.ks x:=CY (fun k hk=>(hx.ok.2.2 k hk).1) fun a ha q=>k3 _ (aq hk) a ha (ai.T q.S);have a4:(its (mapB (rep e) x)).length=(its x).length:=by rw[ln,am]
 have ar:bn (mapB (rep e) x)=setN (bn x) (belowB e.k (Bn.es x)) e:=by
  have e1:Bn.es (mapB (rep e) x)=(Bn.es x).set (belowB e.k (Bn.es x)) e:=a1;have e2:Bn.ks (mapB (rep e) x)=Bn.ks x:=a0;unfold bn setN
  simp_all
 have a5:∀a∈Bn.es (mapB (rep e) x),a.kh<2^64/\a.vh<2^64:=fun a ha=>by
  have e1:Bn.es (mapB (rep e) x)=(Bn.es x).set (belowB e.k (Bn.es x)) e:=a1;rw[e1] at ha
  rcases dg ha with q | rfl
  ·exact hb a (lN hx.ok.okN q)
  omega
 have au:∀k∈Bn.ks (mapB (rep e) x),At S t k:=fun k hk=>by
  have e2:Bn.ks (mapB (rep e) x)=Bn.ks x:=a0;rw[e2] at hk;exact hx.at'.2 k hk
 have ap:=bnLt_of (x:=mapB (rep e) x) hx.fit a5 au (by rw[a4];have:=hx.few;omega);have a6:∀k∈Bn.ks (mapB (rep e) x),hd (mapB (rep e) x)∉h_ k:=hd_kids (by rw[lW];omega);have a8:(Bn.es (mapB (rep e) x)).length<=31:=by
  show ((Bn.es x).map (rep e)).length<=31
  rw[am];exact hx.es.2.2
 have a7:(w_ t (bn x)).length=6*t:=jJ ..;have hp:=put_node (x:=mapB (rep e) x) hx.fit au a6 (ws:=w_ t (bn x)) hx.at'.1 a7 ap o_;have ad:=hx.at'.bnok hx.fit hx.t1 hx.t2 hx.ok;have a2:=kX (t:=t) ap (by unfold bn;grind);rw[ar,mapB_hd] at hp;rw[ar] at a2;obtain⟨p1,p2,p3,p4⟩:=hp;have a3:G7 e.k (its x)=some (Bn.es x)[belowB e.k (Bn.es x)]:=by
  have an:=hx.F3;rw[ga] at an⊢
  rcases hx.ok.okN.rows with⟨h0,_⟩ | ⟨h0,_⟩
  ·rw[h0,jY] at an⊢;exact Lz an hk ai
  ·exact((l7 h0 an).here hk ai).1
 exact⟨(Bn.es x)[belowB e.k (Bn.es x)],a3,by unfold bn;grind,by unfold bn;grind,hd_mem x,⟨ad.lo,ad.hi,by unfold setN;rw[bz];exact ad.many,by unfold setN;rw[bz,bz];exact ad.E1,by unfold setN;rw[bz];exact ad.B_⟩,a2,hx.at'.1,p1,p2,p3,p4⟩
theorem rep_at {S:St}{o:Nat->Nat}{t:Nat}{e:It}(he:e.kh<2^64/\e.vh<2^64){g:Nat}{n:BN}{k:Nat}:
 ∀{d:Nat} {x:Bt d},Walk S o t x->(h_ x).Nodup->ItLt (its x)->nodeB e.k x=some (g,n,k)->∃e0,RepAt S o t x e e0 g n k
 | 0,x,_,_,_,_=>nomatch x
 | d+1,x,hx,hn,hb,hnb=>by
  cases hh:fo e.k (Bn.es x) with
  | true=>
   rw[nodeB_here hh] at hnb;cases hnb
   exact D7 he hx hn hb hh
  | false=>
   cases hj:(Bn.ks x)[belowB e.k (Bn.es x)]? with
   | none=>
    rw[nodeB_none hh hj] at hnb;cases hnb
   | some c=>
    rw[nodeB_down hh hj] at hnb;obtain⟨a9,an⟩:=aC.1 hj;have ad:c∈Bn.ks x:=by grind
    have ap:((Bn.ks x).map h_).flatten.Nodup:=(aI.1 hn).2;have a8:(h_ c).Nodup:=(List.pairwise_flatten.1 ap).1 _ (az.2 ⟨c,ad,rfl⟩);obtain⟨e0,r⟩:=rep_at he (hx.kid ad) a8 (fun a ha=>hb a (kid_its hx.ok.okN ad ha)) hnb;have a6:g∈h_ x:=mem_nodes_kid ad r.mem;have a5:hd x≠g:=fun q=>hd_kids hn c ad (q▸r.mem);obtain⟨k1,k2,k3⟩:=bE.1 (vd hx.ok hx.F3);obtain⟨f1,f2⟩:e0∈its c/\e0.k=e.k:=by
     have:=r.find;grind [G7,List.mem_of_find?_eq_some]
    have a4:(Bn.es x).map (rep e)=Bn.es x:=(aZ fun a ha=>(mg fun q=>k3 a ha e0 (cJ.2 ⟨its c,az.2 ⟨c,ad,rfl⟩,f1⟩) (q.T f2.S):rep e a=id a)).T (dO _);have ba:(its (mapB (rep e) x)).length=(its x).length:=by rw[ln,am]
    have a3:bn (mapB (rep e) x)=bn x:=by
     have e1:Bn.es (mapB (rep e) x)=Bn.es x:=a4;have e2:(Bn.ks (mapB (rep e) x)).map hd=(Bn.ks x).map hd:=by
      show ((Bn.ks x).map (mapB (rep e))).map hd=_
      rw[cO];exact aZ fun k _=>mapB_hd (rep e) k
     unfold bn;grind
    refine⟨e0,?_,r.key,r.val,a6,r.bnok,r.words,r.len,r.fit,⟨?_,fun k hk=>?_⟩,r.fr,r.grew⟩
    ·have a2:=hx.F3;rw[ga] at a2⊢;rcases hx.ok.okN.rows with⟨h0,_⟩ | ⟨h0,_⟩
     ·grind
     ·rw[(l7 h0 a2).down (mN hh)];have a':belowB e.k (Bn.es x)<((Bn.ks x).map its).length:=by grind
      have:((Bn.ks x).map its).getD (belowB e.k (Bn.es x)) []=its c:=by grind
      rw[this];exact r.find
    ·show i_ _ (Bn.h x)=some (w_ t (bn (mapB (rep e) x)))
     rw[a3];exact(r.fr _ a5).T hx.at'.1
    ·have hk:k∈(Bn.ks x).map (mapB (rep e)):=hk;obtain⟨c',ai,rfl⟩:=az.1 hk;obtain⟨i,hi,a7⟩:=cR.1 ai;by_cases q:i=belowB e.k (Bn.es x)
     ·subst q;have:c'=c:=a7.S.T an;rw[this];exact r.at'
     ·have ar:i<((Bn.ks x).map its).length:=by grind
      have a0:belowB e.k (Bn.es x)<((Bn.ks x).map its).length:=by grind
      have au:i<((Bn.ks x).map h_).length:=by grind
      have a1:belowB e.k (Bn.es x)<((Bn.ks x).map h_).length:=by grind
      have hz:∀a∈its c',a.k≠e.k:=fun a ha q1=>by
       rcases cB i (belowB e.k (Bn.es x)) with h3 | h3
       ·exact og k2 ar a0 h3 a (by grind) e0 (by grind) (q1.T f2.S)
       ·exact og k2 a0 ar o_ e0 (by grind) a (by grind) (f2.T q1.S)
      rw[rC (hx.ok.2.2 c' ai).1 fun a ha=>mg (hz a ha)];refine(hx.at'.2 c' ai).frame fun z hz1=>r.fr z fun q1=>?_;rcases cB i (belowB e.k (Bn.es x)) with h3 | h3
      ·exact og ap au a1 h3 z (by grind) g (by rw[bG,an];exact r.mem) q1
      ·exact og ap a1 au o_ g (by rw[bG,an];exact r.mem) z (by grind) q1.S
theorem nodeB_some {S:St}{o:Nat->Nat}{t:Nat}{key:List UInt8}:∀{d:Nat} {x:Bt d},Walk S o t x->(G7 key (its x)).isSome=true->∃r,nodeB key x=some r
 | 0,x,_,_=>nomatch x
 | d+1,x,hx,hf=>by
  cases hh:fo key (Bn.es x) with
  | true=>exact⟨_,nodeB_here hh⟩
  | false=>
   have ad:=hx.F3;rw[ga] at ad hf;rcases hx.ok.okN.rows with⟨h0,_⟩ | ⟨h0,_⟩
   ·rw[h0,jY] at ad hf;rw[findB_none (vl ad (mN hh))] at hf;grind
   ·rw[(l7 h0 ad).down (mN hh)] at hf;have an:=kH (key:=key) (Bn.es x);have ai:belowB key (Bn.es x)<(Bn.ks x).length:=by rw[am] at h0;omega
    rw[jN ai] at hf;obtain⟨r,hr⟩:=nodeB_some (hx.kid (aq ai)) hf;grind [nodeB_down,List.getElem?_eq_getElem,trans]
end Bt
end
section
open Go.RowKit Tryz Go.BigFrame Go.Maps Go.WideMaps Lf Tr
variable{S:St}{Y:Nat->Prop}{l:List Nat}{ps:Nat}{w:World}
theorem Im{D b c k:Nat}(h:FE w D (.slice (some (y_ b)) l.length c) l)(x:Nat)(hk:k<l.length):
 FE (w.setCell (x_ b k) (Xu x)) D (.slice (some (y_ b)) l.length c) (l.set k x):=by
 rcases h.2 with⟨h0,_⟩ | ⟨g',an,ad,hv,hg,hb,h1,h2,h3,h4⟩
 ·cases h0
 ·injection hv with hv1 hv2 hv3
  injection hv1 with hv1
  injection hv1 with hv1
  subst hv1 hv3;refine⟨by simp[hV],ae ⟨b,c,ad.setIfInBounds k (Xu x),by rw[bz],hg,heap_setCell hb,by rw[bz];exact h1,h2,by simpa using h3,?_⟩⟩;have hl:(hV l).length=l.length:=by simp[hV]
  have ai:ad.toList=hV l++ad.toList.drop (l.length*1):=by rw[<-h4,aS]
  rw[bz];simp only[cX];rw[ai,List.set_append_left _ _ o_,List.take_left' (by simp[hV])]
  simp[hV,List.map_set]
theorem qBxag{P:Prop}(h:P:=by
 rw[h3] at this
 injection this with this
 injection this with _ this
 exact absurd this d_):P:=h
theorem wL{D b c k:Nat}(h:Ig w ps S Y)(ho:FE w D (.slice (some (y_ b)) l.length c) l)(hD:fy<D)(hy:Y b)(x:Nat):Ig (w.setCell (x_ b k) (Xu x)) ps S Y:=by
 obtain⟨h1,h2,cs,fr,h3⟩:=FE.block ho rfl;obtain⟨pa,pm,ph,pt,v,h⟩:=h;refine⟨pa,pm,ph,pt,v,h.of_keep (by rw[size_setCell];exact Nat.le_refl _) fun k hk hc=>FB ?_⟩;rintro rfl
 rcases hc with hc | rfl | rfl | rfl
 ·exact hc hy
 ·have:=h.hd;exact qBxag
 ·have:=h.heap.hp;exact qBxag
 ·exact absurd (aE hD h1) (Nat.lt_irrefl _)
theorem oJ{w w':World}{D:Nat}{v:Value}(h:FE w D v l)(hb:D_ w w'):FE w' D v l:=FE.at h fun g hg=>hb.block g (FE.ge h g hg).2
theorem mY{D b c k v:Nat}(h:FE w D (.slice (some (y_ b)) l.length c) l)(hk:l[k]?=some v):w.cell? (x_ b k)=some (Xu v)/\w.frozen? (x_ b k)=false:=by
 obtain⟨ad,ai⟩:=aC.1 hk;have h1:=World.ownsRow.cells h (g:=b) rfl k (Xu v) (by simp[hV,ai,ad]);rw[Addr.add_lit] at h1;obtain⟨_,_,cs,fr,h3⟩:=FE.block h rfl
 rcases h.2 with⟨h0,_⟩ | ⟨g',an,ap,hv,hg,hb,_⟩
 ·cases h0
 ·injection hv with hv1 _ _
  injection hv1 with hv1
  injection hv1 with hv1
  subst hv1;exact⟨by simpa using h1,AT hb⟩
theorem zR{o:Nat->Nat}(h:Ig w ps S Y){t d:Nat}{x:Bt (d+1)}(hx:Bt.Walk S o t x)(hd:d<40){e e0:It}{g:Nat}{n0:BN}{k0:Nat}(hnd:Bt.nodeB e.k x=some (g,n0,k0))(hrep:Bt.RepAt S o t x e e0 g n0 k0):
 Ct 179 #[FH ps t,Xu (Bt.hd x:Nat),SV e.k,Id e.kh e.vh] w fun en w'=>en=.returned (Id e0.kh e0.vh)/\Ig w' ps (FC S g 0 (w_ t (Bt.setN n0 k0 e))) Y/\Fo Y w w':=by
 have B0:=((c_ w (Xc ps t)).alloc s_ (Xe e.kh e.vh)).alloc m_ (.cells #[Xu 0,Xu 0] 104);have z1:(w.alloc (Xc ps t)).1.size=w.1.size+1:=s_
 have z2:((w.alloc (Xc ps t)).alloc (Xe e.kh e.vh)).1.size=w.1.size+2:=s_
 have q1:=heap_alloc_new w (Xc ps t);have q2:=heap_alloc_new (w.alloc (Xc ps t)) (Xe e.kh e.vh);have q3:=heap_alloc_new ((w.alloc (Xc ps t)).alloc (Xe e.kh e.vh)) (.cells #[Xu 0,Xu 0] 104);rw[z1] at q2;rw[z2] at q3;have c2:=(aa (w.1.size+2) ((w.alloc (Xc ps t)).alloc (Xe e.kh e.vh))).alloc (by rw[z2];exact Nat.le_refl _) (.cells #[Xu 0,Xu 0] 104);have c1:=(aa (w.1.size+1) (w.alloc (Xc ps t))).alloc (by rw[z1];exact Nat.le_refl _) (Xe e.kh e.vh);have q1:=(c2.block w.1.size o_).T ((c1.block w.1.size o_).T q1);have q2:=(c2.block (w.1.size+1) o_).T q2;have hz:w.1.size+3<=(((w.alloc (Xc ps t)).alloc (Xe e.kh e.vh)).alloc (.cells #[Xu 0,Xu 0] 104)).1.size:=s_
 have eg:=J8 h;generalize hW:((w.alloc (Xc ps t)).alloc (Xe e.kh e.vh)).alloc (.cells #[Xu 0,Xu 0] 104)=W0 at*;clear c1 c2 z1 z2;have hi:=hx.fit.inv;have a0:=fun W (hw:D_ W0 W) {n:BN} {hh:Nat} (hb:jg S t hh n)=>kI (h.a_ (b_ B0 hw)) hi hb;have ec:=fun W (hw:D_ W0 W) {es:List It} {vk vv vc:Value} {sz:Nat} hk hl hs he=>nR (h.a_ (b_ B0 hw)) hi t (es:=es) (vk:=vk) (vv:=vv) (vc:=vc) (sz:=sz) hk hl hs he e.k;have ed:=fun W (hw:D_ W0 W)=>h.wide (b_ B0 hw);have d6:=fL hx.fit hrep.len;have cb:=jw hx.fit.tab hrep.len;rw[jJ] at cb;have a1:=fun(W:World) (Z:Nat->Prop) (hW:Ig W ps S Z) {vk vv vc:Value} (k1:FD W vk (Bt.setN n0 k0 e).j_) (k2:FD W vv (Bt.setN n0 k0 e).E1) (k3:FD W vc (Bt.setN n0 k0 e).B_)=>Jg hW hi hrep.bnok k1 k2 k3 g d6.2.1 cb hrep.words;have HG:=kq5 (kq7 B0 q1 q2 q3 hz eg h.yl) @a0 @ec ed @a1;have HX:=kq3 hx hnd hrep;obtain⟨h0,b4⟩:=Ii (Bt.hd x);have HR:=If b4;rw[b4];obtain⟨ek,b2⟩:=Ii e.k;have a5:=If b2;rw[b2];unfold FH Id;clear a0 ec h hx hi B0 q1 q2 q3 hz b4 b2 hnd hrep a1 ed d6 cb eg;go_enter func179,ntmps179;go_wp2_with fail;clear hW
 go_loopw [1,9,10,11,12,13,14] (fun s1 _ _ _ _ _ s14 wr=>∃(d' i hh:Nat),s1=Xu hh/\s14=Xi i/\i+d'<40/\Hid (D_ W0 wr/\∃y:Bt (d'+1),Bt.Walk S o t y/\Bt.hd y=hh/\Bt.nodeB e.k y=some (g,n0,k0))) (fun _ _ _ _ _ _ s14 _=>40-(intOf s14).toNat)
 case atStart=>exact⟨d,0,h0,rfl,rfl,o_,aa _ _,x,HX.a,HR.O,HX.b⟩
 case round=>
  obtain⟨d',i,hh,rfl,rfl,g3,I⟩:=hrel;obtain⟨hB,y,hy,b',eb⟩:=I.O;have hlt:(i:Int)<40:=o_
  have t3:=(hB.block w.1.size (by have:=HG.a.e;omega)).T HG.a.b;obtain⟨x0,x1⟩:=Fp t3;have a0:=HG.b wr hB hy.read;unfold FH eC at a0;rw[b'] at a0;have HY:=kq4 hB hy b' eb;clear hB hy b' eb t3;obtain⟨n,hn⟩:=Ii (Bt.bn y);rw[hn] at a0;have c9:=If a0;clear a0;go_wp2_with fail;refine c9.O.M ?_;rintro en w1 ⟨vk,vv,vc,rfl,rows,hb⟩;obtain⟨Ak,ck,rfl⟩:=rows.k.E_;obtain⟨Av,cv,rfl⟩:=rows.v.E_;obtain⟨Ac,cc,rfl⟩:=rows.c.E_;have ai:n.j_.length=(Bn.es y).length:=by rw[<-hn];unfold Bt.bn;rw[am]
  have an:n.E1.length=(Bn.es y).length:=by rw[<-hn];unfold Bt.bn;rw[am]
  have bf:n.B_.length=(Bn.ks y).length:=by rw[<-hn];unfold Bt.bn;rw[am]
  have hy:=HY.b;obtain⟨dd,dn,g2⟩:=hy.es;generalize ch:(Bn.es y).length=lk at*;generalize d9:(Bn.ks y).length=lc at*;rw[ai] at rows;rw[an] at rows;rw[bf] at rows;rw[ai,an,bf];generalize ee:n.size=sz at*;have A1:=c_ w1 (.cells #[.slice Ak lk ck,.slice Av lk cv,.slice Ac lc cc,Xu sz] 215);have p1:=heap_alloc_new w1 (.cells #[.slice Ak lk ck,.slice Av lk cv,.slice Ac lc cc,Xu sz] 215);have B1:=HY.a.T ((b_ hb A1).M HY.a.size);have bo:=rows.a_ A1;have cj:w1.1.size<(w1.alloc (.cells #[.slice Ak lk ck,.slice Av lk cv,.slice Ac lc cc,Xu sz] 215)).1.size:=s_
  have d4:=hb.size;have ea:(∀g,(Value.slice Ak lk ck).ownBlock=some g->g<w1.1.size)/\(∀g,(Value.slice Av lk cv).ownBlock=some g->g<w1.1.size)/\∀g,(Value.slice Ac lc cc).ownBlock=some g->g<w1.1.size:=⟨fun g q=>(rows.k.ge g q).2,fun g q=>(rows.v.ge g q).2,fun g q=>(rows.c.ge g q).2⟩;obtain⟨W1,d3⟩:=Ii (w1.alloc (.cells #[.slice Ak lk ck,.slice Av lk cv,.slice Ac lc cc,Xu sz] 215));rw[d3] at A1 p1 B1 bo cj;have t3:=(B1.block w.1.size (by have:=HG.a.e;omega)).T HG.a.b;obtain⟨x0,x1⟩:=Fp t3;obtain⟨y0,y1,y2,y3⟩:=Fy p1;have d7:n.j_=(Bn.es y).map (·.kh):=by rw[<-hn];rfl
  have co:=bo.k.C6;rw[d7] at co;have bj:=HG.c W1 B1 (vv:=.slice Av lk cv) (vc:=.slice Ac lc cc) (sz:=sz) co o_ dd dn;unfold FH eC at bj;rw[a5.O] at bj;have bq:=If bj;have ep:=HY.a.size;have H1:=kq8 B1 p1 bo t3 cj d4 ep ea;clear bj rows bo hb A1 p1 B1 t3 co d7 c9 cj d4 ep dd dn ea;obtain⟨k,hk⟩:=Ii (belowB ek (Bn.es y));obtain⟨he,b9⟩:=Ii (fo ek (Bn.es y));rw[hk,b9] at bq;have g5:k<=lk:=by rw[<-hk,<-ch];exact kH _
  have HK:=kq9 hk b9 ch d9 hn ee ai an bf;clear hk b9 ch d9 hn ee ai an bf hy;go_wp2_with fail;refine bq.O.M ?_;rintro en w2 ⟨rfl,bd⟩;have p2:=(bd.block w1.1.size H1.e).T H1.b;have t2:=(bd.block w.1.size (by have:=H1.a.size;have:=HG.a.e;omega)).T H1.d;clear x0 x1 y0 y1 y2 y3;obtain⟨x0,x1⟩:=Fp t2;obtain⟨y0,y1,y2,y3⟩:=Fy p2;have a4:=If bd;clear bd p2 t2 bq d3
  cases he with
  | true=>
   have a6:=Bt.nodeB_here (key:=e.k) (x:=y) (by rw[a5.O];exact HK.b);rw[HY.d,HY.c,a5.O,HK.a,HK.e] at a6
   injection a6 with a6
   injection a6 with hg1 a6
   injection a6 with hn1 hk1
   subst hg1 hn1 hk1;have hrep:=HX.c;have ca:=hrep.key;have el:=hrep.val;obtain⟨gn,_⟩:=aC.1 ca;rw[HK.g] at gn;have g6:(k0:Int)<lk:=o_
   have R2:=H1.c.a_ a4.O;have ai:=HK.g;have an:=HK.h;obtain⟨gk,g0,cp,_⟩:=FE.some R2.k (by rw[ai];omega);obtain⟨gv,g1,cq,_⟩:=FE.some R2.v (by rw[an];omega)
   injection cp with cp hv1b hv1c
   injection cq with cq hv2b hv2c
   clear hv1b hv1c hv2b hv2c;subst cp cq;have Rk:=R2.k;have Rv:=R2.v;rw[<-ai] at Rk;rw[<-an] at Rv;obtain⟨dk,fk⟩:=mY Rk ca;obtain⟨dv,fv⟩:=mY Rv el;have d8:gk≠gv:=fun q=>R2.kv gk rfl (by rw[q];rfl);have gf:=R2.k.ge gk rfl;have gs:=R2.v.ge gv rfl;have p2:=(a4.O.block w1.1.size H1.e).T H1.b;have t2:=(a4.O.block w.1.size (by have:=H1.a.size;have:=HG.a.e;omega)).T H1.d;have B2:=b_ H1.a a4.O;have a2:=(B2.block (w.1.size+1) (by have:=HG.a.e;omega)).T HG.a.c;have r2:=(B2.block (w.1.size+2) (by have:=HG.a.e;omega)).T HG.a.d;have hj:=B2.size;have hf:=H1.g;have g9:=H1.h.1 gk rfl;have g':=H1.h.2.1 gv rfl;have g8:=H1.h.2.2;have hm:=H1.f;have ha:=HG.a.e;have e8:=kq11 R2 ai an p2 t2 a2 r2 B2 Rk Rv hrep;have ds:w1.1.size<w2.1.size:=(gl p2);obtain⟨I,ar,au⟩:=ub w2 w2.1.size;have ez:=fun x:Fq I=>(ar _ x.ok w1.1.size ds o_).T p2;obtain⟨m0,m1,m2,m3⟩:=iB ez;have o1:∀x:Fq I,x.to.cell? (x_ gk k0)=some (Xu (e0.kh:Nat)):=fun x=>(j9 (ar _ x.ok gk gf.2 o_)).T dk;have o2:∀x:Fq I,x.to.cell? (x_ gv k0)=some (Xu (e0.vh:Nat)):=fun x=>(j9 (ar _ x.ok gv gs.2 o_)).T dv;have f':I w2.drew:=au _ fun k hk _=>rfl;have HI:=If au;clear ar au ez R2 Rk Rv ai an p2 t2 a2 r2 B2 ca el hrep dk fk dv fv x0 x1 y0 y1 y2 y3;go_wp2_with fail;refine fh I (.take 0 (.take 1 (.take 2 (.take 3 (.take 4 (.take 5 (.take 6 (.take 7 (.take 8 (.take 9 (.take 10 (.go 11 (.go 12 .nil))))))))))))) k_ k_ f' ?_
   iterate 11
    refine pT_ ?_
    try simp only[pu]
   refine pD fun K hK=>?_;go_simp
   try go_simp
   refine hK.O _ _ (HI.O _ fun k hk _=>(c_ w2 _).drew.block k hk) ?_;clear hK K
   try simp only[pu]
   refine pD fun K hK=>?_;go_simp;have B8:D_ w2 (w2.alloc (Xe (e0.kh:Nat) (e0.vh:Nat))).drew:=(c_ w2 _).drew;have q8:(w2.alloc (Xe (e0.kh:Nat) (e0.vh:Nat))).drew.1[w2.1.size]?=_:=heap_alloc_new w2 (Xe (e0.kh:Nat) (e0.vh:Nat));have e7:=If (gl q8);generalize (w2.alloc (Xe (e0.kh:Nat) (e0.vh:Nat))).drew=w8 at*
   try go_simp
   refine hK.O _ _ (HI.O _ fun k hk _=>B8.block k hk) ?_;clear hK K
   try simp only[pu]
   refine eP ?_;clear m0 m1 m2 m3 o1 o2;have ad:=e8.O;have c8:=b_ ad.2.2.2.2.2.2.2.1 B8;have R8:=ad.1.a_ B8;have bc:=oJ ad.2.2.2.2.2.2.2.2.1 B8;have b0:=oJ ad.2.2.2.2.2.2.2.2.2.1 B8;have p8:=(B8.block w1.1.size ds).T ad.2.2.2.1;have t8:=(B8.block w.1.size o_).T ad.2.2.2.2.1;have a8:=(B8.block (w.1.size+1) o_).T ad.2.2.2.2.2.1;have r8:=(B8.block (w.1.size+2) o_).T ad.2.2.2.2.2.2.1;have e5:=HG.d w8 c8;have ho:=HG.a.f;obtain⟨dc,dp⟩:=mY bc ad.2.2.2.2.2.2.2.2.2.2.key;obtain⟨e',fn⟩:=mY b0 ad.2.2.2.2.2.2.2.2.2.2.val;have gp:=B8.size;have yk:Y gk\/(w.1.size<=gk/\gk<w8.1.size):=ae ⟨o_,o_⟩;have yv:Y gv\/(w.1.size<=gv/\gv<w8.1.size):=ae ⟨o_,o_⟩;have c6:=wL (k:=k0) (e5.a_ (aa _ _).drew) (oJ bc (aa _ _).drew) o_ yk e.kh;have bv:=Im (oJ bc (aa _ _).drew) e.kh (k:=k0) (aC.1 ad.2.2.2.2.2.2.2.2.2.2.key).1;have o9:∀b,b≠gk->(w8.drew.setCell (x_ gk k0) (Xu (e.kh:Nat))).1[b]?=w8.1[b]?:=fun b hb=>FB hb;have a':FE (w8.drew.setCell (x_ gk k0) (Xu (e.kh:Nat))) wr.1.size (.slice (some (y_ gv)) n0.E1.length cv) n0.E1:=FE.at b0 fun g hg=>by
    have:g=gv:=by injection hg with hg;exact hg.S
    rw[this];exact o9 gv (Ne.S d8)
   have bt:FE (w8.drew.setCell (x_ gk k0) (Xu (e.kh:Nat))) wr.1.size (.slice Ac lc cc) n0.B_:=FE.at R8.c fun g hg=>o9 g fun q=>R8.kc gk rfl (by rw[<-q];exact hg);have p9:=(o9 w1.1.size o_).T p8;have t9:=(o9 w.1.size o_).T t8;have a9:=(o9 (w.1.size+1) o_).T a8;have r9:=(o9 (w.1.size+2) o_).T r8;have q9:=(o9 w2.1.size o_).T q8;have k9:Fo Y w8 (w8.drew.setCell (x_ gk k0) (Xu (e.kh:Nat))):=⟨rfl,rfl,rfl,s_,fun k hk=>o9 k (by have:=HG.a.g k hk;omega)⟩;have z9:(w8.drew.setCell (x_ gk k0) (Xu (e.kh:Nat))).1.size=w8.1.size:=s_
   obtain⟨fb,fw⟩:=mY a' ad.2.2.2.2.2.2.2.2.2.2.val;obtain⟨w9,eo⟩:=Ii (w8.drew.setCell (x_ gk k0) (Xu (e.kh:Nat)));rw[eo] at c6 bv a' bt p9 t9 a9 r9 q9 k9 z9 fb fw;clear o9;have c5:=wL (k:=k0) c6 a' o_ yv e.vh;have bx:=Im a' e.vh (k:=k0) (aC.1 ad.2.2.2.2.2.2.2.2.2.2.val).1;have ap:∀b,b≠gv->(w9.setCell (x_ gv k0) (Xu (e.vh:Nat))).1[b]?=w9.1[b]?:=fun b hb=>FB hb;have bu:FE (w9.setCell (x_ gv k0) (Xu (e.vh:Nat))) wr.1.size (.slice (some (y_ gk)) n0.j_.length ck) (n0.j_.set k0 e.kh):=FE.at bv fun g hg=>by
    have:g=gk:=by injection hg with hg;exact hg.S
    rw[this];exact ap gk d8
   have bs:FE (w9.setCell (x_ gv k0) (Xu (e.vh:Nat))) wr.1.size (.slice Ac lc cc) n0.B_:=FE.at bt fun g hg=>ap g fun q=>R8.vc gv rfl (by rw[<-q];exact hg);have a3:=(ap w1.1.size o_).T p9;have a7:=(ap w.1.size o_).T t9;have c4:=(ap (w.1.size+2) o_).T r9;have c3:=(ap w2.1.size o_).T q9;have b1:=(ap (w.1.size+1) o_).T a9;have cu:Fo Y w8 (w9.setCell (x_ gv k0) (Xu (e.vh:Nat))):=k9.T ⟨rfl,rfl,rfl,s_,fun k hk=>ap k (by have:=HG.a.g k hk;omega)⟩;have c7:(w9.setCell (x_ gv k0) (Xu (e.vh:Nat))).1.size=w8.1.size:=by simp[z9]
   obtain⟨e6,em⟩:=Ii (w9.setCell (x_ gv k0) (Xu (e.vh:Nat)));rw[em] at c5 bx bu bs a3 a7 c4 c3 b1 cu c7;clear ap;obtain⟨I,ar,au⟩:=lB (fun w'=>w'.1[w1.1.size]?=some (.cells #[.slice (some (y_ gk)) lk ck,.slice (some (y_ gv)) lk cv,.slice Ac lc cc,Xu sz] 215)) (fun w'=>w'.1[w.1.size+1]?=some (Xe (e.kh:Nat) (e.vh:Nat)));have er:=fun x:Fq I=>(ar _ x.ok).1;have ev:=fun x:Fq I=>(ar _ x.ok).2;obtain⟨m0,m1,m2,m3⟩:=iB er;obtain⟨z0,z1⟩:=mt ev;have d1:I w8.drew:=au _ p8 a8;have d2:I w9:=au _ p9 a9;have d0:I e6:=au _ a3 b1;have fj:w8.drew.cell? (x_ gk k0)=some (Xu (e0.kh:Nat)):=dc;have fm:w8.drew.frozen? (x_ gk k0)=false:=dp;have HT:=kq8 c5 (kq3 bu bx bs) a3 a7 c4 c3 cu c7;clear ar au er ev e5 c6 c5 bv a' bt bu bx bs p8 t8 a8 r8 q8 p9 t9 a9 r9 q9 k9 z9 a3 a7 c4 c3 b1 cu c7 R8 bc b0 dc dp e' fn yk yv;go_wp2_with fail;refine fh I (.take 0 (.take 1 (.take 2 (.take 3 (.take 4 (.take 5 (.take 6 (.take 7 (.take 8 (.take 9 (.take 10 (.go 11 (.take 12 (.go 13 .nil)))))))))))))) k_ k_ d1 ?_
   iterate 11
    refine pT_ ?_
    try simp only[pu]
   refine pD fun K hK=>?_;go_simp
   try go_simp
   refine hK.O _ _ d2 ?_;clear hK K
   try simp only[pu]
   refine pT_ ?_
   try simp only[pu]
   refine pD fun K hK=>?_;go_simp
   try go_simp
   refine hK.O _ _ d0 ?_;clear hK K
   try simp only[pu]
   refine eP ?_;clear m0 m1 m2 m3 z0 z1 fj fm eo em d1 d2 d0;have cw:=FE.C6 HT.b.a;have cx:=FE.C6 HT.b.b;have e2:=FE.C6 HT.b.c;rw[ad.2.1] at cw;rw[ad.2.2.1] at cx;have a1:=HG.e e6 _ HT.a (vk:=.slice (some (y_ gk)) lk ck) (vv:=.slice (some (y_ gv)) lk cv) (vc:=.slice Ac lc cc) cw cx e2;unfold eC at a1;rw[show (Bt.setN n0 k0 e).size=sz from HK.f] at a1;have c':=If a1;have a3:=HT.c;have a7:=HT.d;obtain⟨x0,x1⟩:=Fp a7;obtain⟨y0,y1,y2,y3⟩:=Fy a3;clear a1 cw cx e2 a3 a7 ad;go_wp2_with fail;refine c'.O.M ?_;rintro en ba ⟨rfl,e4,bk⟩;have bm:=(bk.block (w.1.size+2) (ae ⟨o_,o_⟩)).T HT.e;have e3:=(bk.block w2.1.size (ae ⟨o_,by have:=gp;have:w2.1.size<w8.1.size:=e7.O;omega⟩)).T HT.f;have e1:=(Fo.v_ (b_ HG.a.a c8) HG.a.g).T (HT.g.T (bk.M fun k hk=>ab hk));clear x0 x1 y0 y1 y2 y3;obtain⟨x0,x1⟩:=Fp e3;obtain⟨y0,y1⟩:=Fp bm;obtain⟨f0,f1⟩:=ef bm;have bb:=kq3 e4 e1 bm;clear e4 bk bm e3 e1 c';go_wp2_with fail;have qF:=ew bb.c (Xu (e0.kh:Nat)) (Xu (e0.vh:Nat));have oF:∀k,k≠w.1.size+2->((ba.setCell (y_ (w.1.size+2)) (Xu (e0.kh:Nat))).setCell (x_ (w.1.size+2) 1) (Xu (e0.vh:Nat))).1[k]?=ba.1[k]?:=fun k hk=>fA hk _ _;have sF:Ig ((ba.setCell (y_ (w.1.size+2)) (Xu (e0.kh:Nat))).setCell (x_ (w.1.size+2) 1) (Xu (e0.vh:Nat))) ps (FC S g 0 (w_ t (Bt.setN n0 k0 e))) Y:=(bb.a.write (b:=w.1.size+2) (ae ⟨o_,o_⟩) bb.c ⟨d_,d_⟩ s_ s_ fun k _ hk=>oF k hk).M fun k hk=>ab hk;have kF:Fo Y w ((ba.setCell (y_ (w.1.size+2)) (Xu (e0.kh:Nat))).setCell (x_ (w.1.size+2) 1) (Xu (e0.vh:Nat))):=bb.b.T ⟨rfl,rfl,rfl,s_,fun k hk=>oF k (by have:=HG.a.g k hk;omega)⟩;clear x0 x1 y0 y1 f0 f1 oF;generalize ((ba.setCell (y_ (w.1.size+2)) (Xu (e0.kh:Nat))).setCell (x_ (w.1.size+2) 1) (Xu (e0.vh:Nat)))=WF at*;obtain⟨x0,x1⟩:=Fp qF;exact bodyPost_ret (v:=.agg #[Xu (e0.kh:Nat),Xu (e0.vh:Nat)]) (by simp[results,f179,go_sem,x0,x1]) rfl ⟨rfl,sF,kF⟩
  | false=>
   have hnd:=HY.d;obtain⟨c,hc⟩:∃c,(Bn.ks y)[belowB e.k (Bn.es y)]?=some c:=by
    cases hc:(Bn.ks y)[belowB e.k (Bn.es y)]? with
    | some c=>exact⟨c,rfl⟩
    | none=>
     rw[Bt.nodeB_none (by rw[a5.O];exact HK.b) hc] at hnd
     cases hnd
   rw[Bt.nodeB_down (by rw[a5.O];exact HK.b) hc] at hnd;rw[a5.O,HK.a] at hc
   cases d' with
   | zero=>rw[Bt.G8 (Bn.ks y)] at hc;cases hc
   | succ d'=>
    obtain⟨gc,oc,rfl,gb⟩:=FD.at (f:=Bt.hd) (l:=Bn.ks y) (by have:=(H1.c.a_ a4.O).c.C6;rw[<-HK.e] at this;exact this) hc;obtain⟨gg,d5⟩:=aC.1 hc;rw[HK.d] at gg;have g4:(k:Int)<lc:=o_
    have g7:((lc:Nat):Int)≠0:=o_
    obtain⟨nc,cn⟩:=Ii (Bt.hd c);rw[cn] at gb;have HC:=kq4 hc hnd cn d5;clear hc hnd cn d5;go_wp2_with fail;go_roundw
    case rel=>exact⟨d',i+1,nc,rfl,s_,o_,b_ H1.a a4.O,c,HY.b.kid (di HC.a),HC.c,HC.b⟩
    case measure=>simp[intOf];omega
structure SP where
 D:Nat
 b:Nat
 off:Nat
 n:Nat
 c:Nat
 w:World
 l:List Nat
 z:off=0
 big:n<=100000
structure PS (p:SP) (w:World) (l:List Nat):Prop where
 a_:Below p.D p.w w
 perm:l.Perm p.l
 own:FE w p.D (.slice (some (y_ p.b)) l.length p.c) l
 len:l.length=p.n
def PX(p:SP)(w:World):Prop:=∃l,PS p w l
abbrev pd(p:SP):Value:=.slice (some (x_ p.b p.off)) p.n p.c
theorem PS.d{p:SP}(h:PS p w l):p.D<=p.b/\p.b<w.1.size:=FE.ge h.own p.b rfl
theorem PX.draws{p:SP}(h:PX p w)(q:Nat):PX p (w.drewN q):=by
 obtain⟨l,h⟩:=h;have h1:Below p.D p.w (w.drewN q):=⟨h.a_.os,h.a_.tape,h.a_.output,h.a_.size,h.a_.block⟩;exact⟨l,h1,h.perm,h.own.at fun _ _=>rfl,h.len⟩
theorem PX.grow{p:SP}{w w':World}(h:PX p w)(hb:D_ w w'):PX p w':=by
 obtain⟨l,h⟩:=h;exact⟨l,h.a_.T (hb.M (Nat.le_of_lt (cM h.d.1 h.d.2))),h.perm,oJ h.own hb,h.len⟩
theorem PX.open{p:SP}(h:PX p w):∃g:Nat->Nat,(∀t,t<p.n->w.cell? ⟨p.b,p.off+t,none⟩=some (Xu (g t:Nat)))/\(∀t,t<p.n->w.frozen? ⟨p.b,p.off+t,none⟩=false)/\
 ∀i j,i<p.n->j<p.n->∀q,PX p (((w.drewN q).setCell ⟨p.b,p.off+i,none⟩ (Xu (g j:Nat))).setCell ⟨p.b,p.off+j,none⟩ (Xu (g i:Nat))):=by
 obtain⟨l,h⟩:=h;have hl:=h.len;rw[p.z];have hc:∀t,t<p.n->w.cell? (x_ p.b t)=some (Xu (l.getD t 0:Nat))/\w.frozen? (x_ p.b t)=false:=fun t ht=>mY h.own (v:=l.getD t 0) (by rw[ay,af o_];rfl);refine⟨fun t=>l.getD t 0,fun t ht=>by rw[bC];exact(hc t ht).1,fun t ht=>by rw[bC];exact(hc t ht).2,fun i j hi hj q=>PX.draws (w:=(w.setCell _ _).setCell _ _) ?_ q⟩;have ad:i<l.length:=o_
 have ai:j<l.length:=o_
 have o1:=Im h.own (l.getD j 0) ad;rw[show l.length=(l.set i (l.getD j 0)).length from bz.S] at o1;have o2:=Im o1 (l.getD i 0) (k:=j) (by rw[bz];exact ai);refine⟨(l.set i (l.getD j 0)).set j (l.getD i 0),(h.a_.setCell h.d.1 _).setCell h.d.1 _,?_,?_,by rw[bz,bz];exact hl⟩
 ·refine List.Perm.T ?_ h.perm;have e1:l.getD j 0=l[j]:=by rw[ay,af ai];rfl
  have e2:l.getD i 0=l[i]:=by rw[ay,af ad];rfl
  rw[e1,e2];exact List.set_set_perm ad ai
 grind
theorem MG(x:Nat)(w:World):Ct 279 #[Xu x] w fun e w'=>e=.returned (.bool false)/\w'=w:=by
 go_enter func279,ntmps279;go_wp2_with fail;go_ret;simp_all
theorem MF(x y:Nat)(w:World):Ct 271 #[Xu x,Xu y] w fun e w'=>e=.returned (.bool (decide (x<y)))/\w'=w:=by
 go_enter func271,ntmps271;go_wp2_with fail;refine Jc (MG x _) ?_;go_wp2_with fail;go_ret;simp_all
theorem mW(x y:Nat)(w:World)(n:Nat):Ct 271 #[Xu x,Xu y] (w.drewN n) fun e w''=>e=.returned (.bool (decide (x<y)))/\∃m,w''=w.drewN m:=
 (MF x y _).M fun _ _ h=>⟨h.1,n,h.2⟩
theorem qBxah{P:Prop}(h:P:=by
 go_roundw
 case rel=>exact⟨i+1,s_,o_,J.O.draws _⟩
 case measure=>simp[intOf];omega):P:=h
theorem qBxaf{P:Prop}(h:P:=by
 go_wp2_with fail
 go_end0
 exact⟨rfl,I.O⟩):P:=h
theorem ME{p:SP}(h:PX p w){a z:Nat}(hz:z<=p.n)(haz:a<=z):Ct 265 #[pd p,Xi a,Xi z] w fun e w'=>e=.returned (.tuple #[])/\PX p w':=by
 have H:=If h;have big:=p.big;go_enter func265,ntmps265;go_wp2_with fail
 go_loopw [6,7] (fun s6 _ wr=>∃i:Nat,s6=Xi i/\i<=z+1/\Hid (PX p wr)) (fun s6 _ _=>z+1-(intOf s6).toNat)
 case atStart=>exact⟨a+1,s_,o_,H⟩
 case round=>
  obtain⟨i,rfl,hi,I⟩:=hrel
  by_cases hlt:(i:Int)<z
  ·go_wp2_with fail
   go_loopw [7] (fun s7 wq=>∃j:Nat,s7=Xi j/\j<=i/\Hid (PX p wq)) (fun s7 _=>(intOf s7).toNat)
   case atStart=>grind
   case round=>
    obtain⟨j,rfl,hj,J⟩:=hrel
    by_cases hja:a<j
    ·obtain⟨k,rfl⟩:∃k,j=k+1:=⟨j-1,o_⟩;obtain⟨g,cw,fw,hs⟩:=PX.open (J.O);have ai:=If (hs (k+1) k o_ o_);have ad:(a:Int)<k+1:=o_
     go_wp2_with fail
     go_quiet (exact mW _ _ _ _)
     go_wp2_with fail
     ·go_region
      go_wp2_with fail;go_roundw
      case rel=>exact⟨k,s_,o_,ai.O _⟩
      case measure=>simp[intOf]
     ·exact qBxah
    ·have ad:decide (a<j)=false:=decide_eq_false hja;go_wp2_with fail
     go_quiet (exact mW _ _ _ _)
     go_wp2_with fail;exact qBxah
  ·exact qBxaf
theorem MM{p:SP}(h:PX p w){a z:Nat}(hz:z<=p.n)(haz:a<z):Ct 269 #[pd p,Xi a,Xi z] w fun e w'=>e=.returned (.tuple #[])/\PX p w':=by
 have H:=If h;have big:=p.big;unfold pd;clear h;go_enter func269,ntmps269;go_wp2_with fail
 go_loopw [6,7] (fun s6 s7 wr=>∃i j:Nat,s6=Xi i/\s7=Xi j/\j<z/\i<=z/\Hid (PX p wr)) (fun s6 _ _=>z-(intOf s6).toNat)
 case atStart=>exact⟨a,z-1,rfl,by congr 1;omega,o_,o_,H⟩
 case round=>
  obtain⟨i,j,rfl,rfl,hj,hi,I⟩:=hrel
  by_cases hlt:(i:Int)<j
  ·obtain⟨k,rfl⟩:∃k,j=k+1:=⟨j-1,o_⟩;obtain⟨g,cw,fw,hs⟩:=PX.open (I.O);have ad:=If (hs i (k+1) o_ o_);clear hs;go_wp2_with fail
   go_region
   go_wp2_with fail;go_roundw
   case rel=>exact⟨i+1,k,s_,s_,o_,o_,ad.O _⟩
   case measure=>simp[intOf];omega
  ·exact qBxaf
theorem Ln{p:SP}(h:PX p w){lo hi first:Nat}(hl:lo<=hi)(hf:first+hi<=p.n):Ct 276 #[pd p,Xi lo,Xi hi,Xi first] w fun e w'=>e=.returned (.tuple #[])/\PX p w':=by
 have H:=If h;have big:=p.big;unfold pd;clear h;go_enter func276,ntmps276;go_wp2_with fail
 go_loopg [8,9] (hi-lo) (fun k s8 _ wr=>∃r:Nat,s8=Xi r/\r<=hi/\hi-r<=k/\Hid (PX p wr))
 case atStart=>exact⟨lo,rfl,hl,Nat.le_refl _,H⟩
 case round=>
  obtain⟨r,rfl,hr,ap,I⟩:=hrel
  by_cases h0:(hi:Int)<=2*r+1
  ·exact qBxaf
  ·obtain⟨g,cw,fw,hs⟩:=PX.open (I.O);clear hs
   go_upto_region 3 with fail
   go_cut [36] from 11 to 75 (fun s36 wx=>∃b:Bool,s36=.bool b/\(b=true->2*r+1+1<hi)/\Hid (PX p wx))
   case first=>
    by_cases h1:2*(r:Int)+1+1<hi
    ·go_quiet (exact mW _ _ _ _)
     go_wp2_with fail
     go_meet
     exact⟨_,rfl,fun _=>by omega,I.O.draws _⟩
    ·have hz:decide (2*(r:Int)+1+1<hi)=false:=decide_eq_false h1
     go_quiet (exact mW _ _ _ _)
     go_wp2_with fail
     go_meet
     exact⟨_,rfl,(fun h=>nomatch h),I.O.draws _⟩
   case rest=>
    obtain⟨b,rfl,hb,J⟩:=hcut;clear cw fw I
    go_upto_if 36 with fail
    go_cut [9] from 11 to 75 (fun s9 wx=>∃ch:Nat,s9=Xi ch/\r<ch/\ch<hi/\Hid (PX p wx))
    case first=>
     cases b
     ·go_wp2_with fail
      go_meet
      exact⟨2*r+1,s_,o_,o_,J⟩
     ·have hb:=hb rfl;go_wp2_with fail
      go_meet
      exact⟨2*r+1+1,s_,o_,o_,J⟩
    case rest=>
     clear J hb;obtain⟨ch,rfl,ai,an,J⟩:=hcut;obtain⟨g,cw,fw,hs⟩:=PX.open (J.O);have ad:=If (hs (first+r) (first+ch) o_ o_);clear hs;go_wp2_with fail
     go_quiet (exact mW _ _ _ _)
     go_wp2_with fail
     ·refine bodyPost_ret (results_none rfl _ _ _) rfl ?_;exact⟨rfl,J.O.draws _⟩
     ·go_region
      go_wp2_with fail
      go_roundg (hi-ch)
      case rel=>exact⟨ch,rfl,o_,Nat.le_refl _,ad.O _⟩
      case measure=>omega
theorem qBxac{P:Prop}(h:P:=by
 go_region
 go_wp2_with fail
 go_meet
 exact ad.O _):P:=h
theorem MD{p:SP}(h:PX p w){a m:Nat}(hz:a+m+1<=p.n):Ct 266 #[pd p,Xi a,Xi ((a:Int)+m+1)] w fun e w'=>e=.returned (.tuple #[])/\PX p w':=by
 have H:=If h;have big:=p.big;unfold pd;clear h;have ez:(a:Int)+m+1-a=m+1:=o_
 go_enter func266,ntmps266;go_wp2_with fail
 go_loopw [9] (fun s9 wr=>∃k:Nat,s9=Xi ((k:Int)-1)/\k<=m+1/\Hid (PX p wr)) (fun s9 _=>(intOf s9+1).toNat)
 case atStart=>exact⟨m / 2+1,s_,o_,H⟩
 case round=>
  obtain⟨k,rfl,hk,I⟩:=hrel
  cases k with
  | zero=>
   go_wp2_with fail
   go_loopg [10] (m+1) (fun k s10 wr=>s10=Xi ((k:Int)-1)/\k<=m+1/\Hid (PX p wr))
   case atStart=>exact⟨s_,o_,I⟩
   case round=>
    obtain⟨rfl,hk,I⟩:=hrel
    cases gk with
    | zero=>
     exact qBxaf
    | succ k=>
     go_upto_region 10 with fail
     go_cut [] from 29 to 55 (fun wx=>Hid (PX p wx))
     case first=>
      obtain⟨g,cw,fw,hs⟩:=PX.open (I.O);have ad:=If (hs a (a+k) o_ o_);clear hs
      rcases Nat.eq_zero_or_pos k with rfl | ai
      all_goals
       exact qBxac
     case rest=>
      go_wp2_with fail;refine b8 (Ln hcut.O (lo:=0) (hi:=k) (first:=a) o_ o_) fun w1 J=>?_;go_wp2_with fail
      go_roundg k
      case rel=>exact⟨s_,o_,J⟩
      case measure=>omega
  | succ k=>
   go_wp2_with fail;refine b8 (Ln I.O (lo:=k) (hi:=m+1) (first:=a) o_ o_) fun w1 J=>?_;go_wp2_with fail;go_roundw
   case rel=>exact⟨k,s_,o_,J⟩
   case measure=>simp[intOf]
theorem qBxad{P:Prop}(h:P:=by
 go_wp2_with fail
 go_roundg (j-1+2-(i+1))
 case rel=>exact⟨i+1,j-1,s_,by congr 1;omega,o_,o_,o_,o_,o_,Nat.le_refl _,hcut⟩
 case measure=>omega):P:=h
theorem qBxab{P:Prop}(h:P:=by
 obtain⟨i,rfl,q1,q2,q3,I⟩:=hrel;obtain⟨f,cw,fw,hs⟩:=PX.open I.O
 by_cases hc:i<=j0
 ·go_wp2_with fail
  go_quiet (exact mW _ _ _ _)
  go_wp2_with fail
  ·go_roundw
   case rel=>exact⟨i+1,s_,o_,o_,o_,I.O.draws _⟩
   case measure=>simp[intOf];omega
  ·go_meet
   exact⟨i,rfl,q1,q2,q3,I.O.draws _⟩
 ·have ai:decide (i<=j0)=false:=decide_eq_false hc;go_wp2_with fail
  go_quiet (exact mW _ _ _ _)
  go_wp2_with fail
  go_meet
  exact⟨i,rfl,q1,q2,q3,I.O.draws _⟩):P:=h
theorem qBxaa{P:Prop}(h:P:=by
 obtain⟨j,rfl,r1,r2,r3,I⟩:=hrel;obtain⟨f,cw,fw,hs⟩:=PX.open I.O
 by_cases hc:i<=j
 ·go_wp2_with fail
  go_quiet (exact mW _ _ _ _)
  go_wp2_with fail
  ·go_roundw
   case rel=>exact⟨j-1,by congr 1;omega,o_,o_,o_,I.O.draws _⟩
   case measure=>simp[intOf];omega
  ·go_meet
   exact⟨j,rfl,r1,r2,r3,I.O.draws _⟩
 ·have ai:decide (i<=j)=false:=decide_eq_false hc;go_wp2_with fail
  go_quiet (exact mW _ _ _ _)
  go_wp2_with fail
  go_meet
  exact⟨j,rfl,r1,r2,r3,I.O.draws _⟩):P:=h
theorem MC{p:SP}(h:PX p w){a z v:Nat}(hz:z<=p.n)(hv:a<=v/\v<z):Ct 272 #[pd p,Xi a,Xi z,Xi v] w fun e w'=>∃x:Nat,e=.returned (Xi (x:Nat))/\(a<x/\x<=z)/\PX p w':=by
 have big:=p.big;have H:=If h;obtain⟨f,cw,fw,hs⟩:=PX.open h;have ad:=If (hs a v o_ o_);go_enter func272,ntmps272
 go_upto_region 1 with fail
 go_cut [] from 11 (fun wx=>Hid (PX p wx))
 case first=>
  rcases cL hv.1 with rfl | an
  all_goals
   exact qBxac
 case rest=>
  go_wp2_with fail
  go_loopg [9,10] (z+1) (fun k s9 s10 wr=>∃i j:Nat,s9=Xi i/\s10=Xi j/\a<i/\i<=z/\i<=j+2/\a<=j/\j<z/\j+2-i<=k/\Hid (PX p wr))
  case atStart=>exact⟨a+1,z-1,s_,by congr 1;omega,o_,o_,o_,o_,o_,o_,hcut⟩
  case round=>
   obtain⟨i0,j0,rfl,rfl,hi,au,ar,hj,a0,ap,I⟩:=hrel
   go_upto_block 2 with fail
   go_cut [9] from 29 to 82 (fun s9 wx=>∃i:Nat,s9=Xi i/\i0<=i/\i<=z/\i<=j0+2/\Hid (PX p wx))
   case first=>
    go_wp2_with fail
    go_loopw [9] (fun s9 wr=>∃i:Nat,s9=Xi i/\i0<=i/\i<=z/\i<=j0+2/\Hid (PX p wr)) (fun s9 _=>j0+2-(intOf s9).toNat)
    case atStart=>exact⟨i0,rfl,o_,o_,o_,I⟩
    case round=>
     exact qBxab
   case rest=>
    obtain⟨i,rfl,q1,q2,q3,I⟩:=hcut
    go_upto_block 4 with fail
    go_cut [10] from 29 to 82 (fun s10 wx=>∃j:Nat,s10=Xi j/\j<=j0/\a<=j/\i<=j+2/\Hid (PX p wx))
    case first=>
     go_wp2_with fail
     go_loopw [10] (fun s10 wr=>∃j:Nat,s10=Xi j/\j<=j0/\a<=j/\i<=j+2/\Hid (PX p wr)) (fun s10 _=>(intOf s10).toNat)
     case atStart=>exact⟨j0,rfl,o_,o_,o_,I⟩
     case round=>
      exact qBxaa
    case rest=>
     obtain⟨j,rfl,r1,r2,r3,I⟩:=hcut
     by_cases hc:(j:Int)<i
     ·go_wp2_with fail;go_ret;exact⟨i,rfl,o_,I.O⟩
     ·obtain⟨f,cw,fw,hs⟩:=PX.open I.O;have ad:=If (hs i j o_ o_)
      go_upto_region 8 with fail
      go_cut [] from 29 to 82 (fun wx=>Hid (PX p wx))
      case first=>
       rcases cL (show i<=j by omega) with rfl | hlt
       all_goals
        exact qBxac
      case rest=>
       exact qBxad
theorem MJ{p:SP}(h:PX p w){a z v:Nat}(hz:z<=p.n)(hv:a<=v/\v<z):Ct 273 #[pd p,Xi a,Xi z,Xi v] w fun e w'=>∃(x:Nat) (b:Bool),e=.returned (.tuple #[Xi (x:Nat),.bool b])/\(a<=x/\x<z)/\PX p w':=by
 have big:=p.big;have H:=If h;obtain⟨f,cw,fw,hs⟩:=PX.open h;have ad:=If (hs a v o_ o_);go_enter func273,ntmps273
 go_upto_region 1 with fail
 go_cut [] from 12 (fun wx=>Hid (PX p wx))
 case first=>
  rcases cL hv.1 with rfl | a0
  all_goals
   exact qBxac
 case rest=>
  go_upto_region 2 with fail
  go_cut [10,11] from 26 (fun s10 s11 wx=>∃i j:Nat,s10=Xi i/\s11=Xi j/\a<i/\i<=z/\i<=j+2/\a<=j/\j<z/\Hid (PX p wx))
  case first=>
   go_wp2_with fail
   go_meet
   exact⟨a+1,z-1,s_,by congr 1;omega,o_,o_,o_,o_,o_,hcut⟩
  case rest=>
   obtain⟨i0,j0,rfl,rfl,hi,ar,ap,hj,au,I⟩:=hcut
   go_upto_block 0 with fail
   go_cut [10] from 30 (fun s10 wx=>∃i:Nat,s10=Xi i/\i0<=i/\i<=z/\i<=j0+2/\Hid (PX p wx))
   case first=>
    go_wp2_with fail
    go_loopw [10] (fun s10 wr=>∃i:Nat,s10=Xi i/\i0<=i/\i<=z/\i<=j0+2/\Hid (PX p wr)) (fun s10 _=>j0+2-(intOf s10).toNat)
    case atStart=>exact⟨i0,rfl,o_,o_,o_,I⟩
    case round=>
     exact qBxab
   case rest=>
    obtain⟨i,rfl,q1,q2,q3,I⟩:=hcut
    go_upto_block 2 with fail
    go_cut [11] from 46 (fun s11 wx=>∃j:Nat,s11=Xi j/\j<=j0/\a<=j/\i<=j+2/\Hid (PX p wx))
    case first=>
     go_wp2_with fail
     go_loopw [11] (fun s11 wr=>∃j:Nat,s11=Xi j/\j<=j0/\a<=j/\i<=j+2/\Hid (PX p wr)) (fun s11 _=>(intOf s11).toNat)
     case atStart=>exact⟨j0,rfl,o_,o_,o_,I⟩
     case round=>
      exact qBxaa
    case rest=>
     obtain⟨j,rfl,r1,r2,r3,I⟩:=hcut;obtain⟨f,cw,fw,hs⟩:=PX.open I.O;have an:=If (hs j a o_ o_)
     by_cases hc:(j:Int)<i
     ·clear hs
      rcases cL r2 with rfl | hlt
      all_goals
       go_wp2_with fail
       go_region
       go_wp2_with fail;go_ret2;exact⟨_,true,rfl,⟨r2,o_⟩,an.O _⟩
     ·have ad:=If (hs i j o_ o_)
      go_upto_region 10 with fail
      go_cut [] from 66 (fun wx=>Hid (PX p wx))
      case first=>
       rcases cL (show i<=j by omega) with rfl | hlt
       all_goals
        exact qBxac
      case rest=>
       have I:=hcut;go_wp2_with fail
       go_loopg [10,11] (z+1) (fun k s10 s11 wr=>∃i j:Nat,s10=Xi i/\s11=Xi j/\a<i/\i<=z/\i<=j+2/\a<=j/\j<z/\j+2-i<=k/\Hid (PX p wr))
       case atStart=>exact⟨i+1,j-1,s_,by congr 1;omega,o_,o_,o_,o_,o_,o_,I⟩
       case round=>
        obtain⟨i0,j0,rfl,rfl,hi,ar,ap,hj,au,a1,I⟩:=hrel
        go_upto_block 6 with fail
        go_cut [10] from 99 to 152 (fun s10 wx=>∃i:Nat,s10=Xi i/\i0<=i/\i<=z/\i<=j0+2/\Hid (PX p wx))
        case first=>
         go_wp2_with fail
         go_loopw [10] (fun s10 wr=>∃i:Nat,s10=Xi i/\i0<=i/\i<=z/\i<=j0+2/\Hid (PX p wr)) (fun s10 _=>j0+2-(intOf s10).toNat)
         case atStart=>exact⟨i0,rfl,o_,o_,o_,I⟩
         case round=>
          exact qBxab
        case rest=>
         obtain⟨i,rfl,q1,q2,q3,I⟩:=hcut
         go_upto_block 8 with fail
         go_cut [11] from 99 to 152 (fun s11 wx=>∃j:Nat,s11=Xi j/\j<=j0/\a<=j/\i<=j+2/\Hid (PX p wx))
         case first=>
          go_wp2_with fail
          go_loopw [11] (fun s11 wr=>∃j:Nat,s11=Xi j/\j<=j0/\a<=j/\i<=j+2/\Hid (PX p wr)) (fun s11 _=>(intOf s11).toNat)
          case atStart=>exact⟨j0,rfl,o_,o_,o_,I⟩
          case round=>
           exact qBxaa
         case rest=>
          obtain⟨j,rfl,r1,r2,r3,I⟩:=hcut;obtain⟨f,cw,fw,hs⟩:=PX.open I.O;have an:=If (hs j a o_ o_)
          by_cases hc:(j:Int)<i
          ·clear hs
           rcases cL r2 with rfl | hlt
           all_goals
            go_wp2_with fail
            go_region
            go_wp2_with fail;go_ret2;exact⟨_,false,rfl,⟨r2,o_⟩,an.O _⟩
          ·have ad:=If (hs i j o_ o_)
           go_upto_region 18 with fail
           go_cut [] from 99 to 152 (fun wx=>Hid (PX p wx))
           case first=>
            rcases cL (show i<=j by omega) with rfl | hlt
            all_goals
             exact qBxac
           case rest=>
            exact qBxad
structure PW (p:SP) (g s:Nat) (w:World):Prop where
 x:PX p w
 d:p.D<=g
 ne:g≠p.b
 box:w.1[g]?=some (.cells #[Xi s] 3 (0,0))
theorem PX.set{p:SP}(h:PX p w){a:Addr}(hd:p.D<=a.block)(hn:a.block≠p.b)(v:Value):PX p (w.setCell a v):=by
 obtain⟨l,h⟩:=h;refine⟨l,h.a_.setCell hd v,h.perm,h.own.at fun k hk=>?_,h.len⟩
 cases hk
 exact cg w a v p.b fun e=>hn e.S
theorem PW.draws{p:SP}{g s:Nat}(h:PW p g s w)(q:Nat):PW p g s (w.drewN q):=⟨h.x.draws q,h.d,h.ne,h.box⟩
theorem MH{p:SP}{g s:Nat}(h:PW p g s w){lo up i j:Nat}(hs:s<=100)(hh:up<=p.n)(hi:lo<=i/\i<up)(hj:lo<=j/\j<up):
 Ct 280 #[pd p,Xi i,Xi j,PV g] w fun e w'=>∃x y s',e=.returned (.tuple #[Xi (x:Nat),Xi (y:Nat)])/\(lo<=x/\x<up)/\(lo<=y/\y<up)/\s'<=s+1/\PW p g s' w':=by
 have H:=If h;obtain⟨f,cw,fw,hx⟩:=PX.open h.x;have hb:=h.box;obtain⟨k0,kf⟩:=qS hb;go_enter func280,ntmps280;go_wp2_with fail
 go_quiet (exact mW _ _ _ _)
 go_wp2_with fail
 ·go_ret2;refine⟨j,i,s+1,rfl,hj,hi,Nat.le_refl _,(H.O.x.draws _).set H.O.d H.O.ne _,H.O.d,H.O.ne,?_⟩;rw[heap_setCell (H.O.draws _).box]
  simp
 ·go_ret2;exact⟨i,j,s,rfl,hi,hj,o_,H.O.draws _⟩
theorem Lm{p:SP}{g s:Nat}(h:PW p g s w){lo up i j k:Nat}(hs:s<=90)(hh:up<=p.n)(hi:lo<=i/\i<up)(hj:lo<=j/\j<up)(hk:lo<=k/\k<up):
 Ct 278 #[pd p,Xi i,Xi j,Xi k,PV g] w fun e w'=>∃x s',e=.returned (Xi (x:Nat))/\(lo<=x/\x<up)/\s'<=s+3/\PW p g s' w':=by
 have ad:=fun(W:World) (r:Nat) (h:PW p g r W) {i j:Nat} =>MH (lo:=lo) (up:=up) (i:=i) (j:=j) h;unfold pd at*;have H:=kq2 h ad;clear h ad;go_enter func278,ntmps278;go_wp2_with fail;refine(H.b _ _ H.a o_ hh hi hj).M ?_;rintro e w1 ⟨x1,y1,s1,rfl,ai,ap,au,h1⟩;go_wp2_with fail;refine(H.b _ _ h1 o_ hh ap hk).M ?_;rintro e w2 ⟨x2,y2,s2,rfl,an,a3,a0,h2⟩;go_wp2_with fail;refine(H.b _ _ h2 o_ hh ai an).M ?_;rintro e w3 ⟨x3,y3,s3,rfl,a2,ar,a1,h3⟩;go_wp2_with fail;go_ret;exact⟨y3,s3,rfl,ar,o_,h3⟩
theorem Mw{p:SP}{g s:Nat}(h:PW p g s w){lo up i:Nat}(hs:s<=90)(hh:up<=p.n)(h1:lo<i)(h2:i+1<up):
 Ct 277 #[pd p,Xi i,PV g] w fun e w'=>∃x s',e=.returned (Xi (x:Nat))/\(lo<=x/\x<up)/\s'<=s+3/\PW p g s' w':=by
 obtain⟨k,rfl⟩:∃k,i=k+1:=⟨i-1,o_⟩;have big:=p.big;have H:=If (Lm h (lo:=lo) (up:=up) (i:=k) (j:=k+1) (k:=k+1+1) hs hh ⟨o_,o_⟩ ⟨o_,o_⟩ ⟨o_,o_⟩);go_enter func277,ntmps277;go_wp2_with fail;refine H.O.M ?_;rintro e w1 ⟨x1,s1,rfl,ai,ad,h1⟩;go_wp2_with fail;go_ret;exact⟨x1,s1,rfl,ai,ad,h1⟩
theorem ML{p:SP}(h:PX p w){a L:Nat}(hL:12<L)(hz:a+L<=p.n):
 Ct 268 #[pd p,Xi a,Xi ((a:Int)+L)] w fun e w'=>∃x t:Nat,e=.returned (.tuple #[Xi (x:Nat),Xi (t:Nat)])/\(a<=x/\x<a+L)/\PX p w':=by
 have big:=p.big;have ez:(a:Int)+L-a=L:=o_
 obtain⟨Q,hQ⟩:=Ii (L / 4);have a0:(L:Int) / 4=Q:=o_
 have h8:(8:Int)<=L:=o_
 have hq:4*Q<=L/\L<4*Q+4:=o_
 have P0:PW p w.1.size 0 (w.alloc (.cells #[Xi 0] 3)):=by
  obtain⟨l,h⟩:=h;have:=h.d;exact⟨PX.grow ⟨l,h⟩ ((aa _ _).alloc Ih _),o_,o_,heap_alloc_new w _⟩
 have ai:=fun(W:World) (r:Nat) (h:PW p w.1.size r W) {i:Nat} =>Mw (lo:=a) (up:=a+L) (i:=i) h;have an:=fun(W:World) (r:Nat) (h:PW p w.1.size r W) {i j k:Nat} =>Lm (lo:=a) (up:=a+L) (i:=i) (j:=j) (k:=k) h;unfold pd at*;obtain⟨W,hW⟩:=Ii (w.alloc (.cells #[Xi 0] 3));rw[hW] at P0;have H:=kq3 P0 ai an;clear h ai an P0 hQ;go_enter func268,ntmps268
 go_upto_if 34 with fail
 go_cut [10,11,12] from 33 (fun s10 s11 s12 wx=>∃i j k s:Nat,s10=Xi i/\s11=Xi j/\s12=Xi k/\(a<=i/\i<a+L)/\(a<=j/\j<a+L)/\(a<=k/\k<a+L)/\s<=9/\Hid (PW p w.1.size s wx))
 case first=>
  by_cases h50:(50:Int)<=L
  ·go_wp2_with fail;refine(H.b _ _ H.a (i:=a+Q) o_ hz o_ o_).M ?_;rintro e w1 ⟨x1,s1,rfl,ad,ap,h1⟩;go_wp2_with fail;refine(H.b _ _ h1 (i:=a+Q*2) o_ hz o_ o_).M ?_;rintro e w2 ⟨x2,s2,rfl,ar,a1,h2⟩;go_wp2_with fail;refine(H.b _ _ h2 (i:=a+Q*3) o_ hz o_ o_).M ?_;rintro e w3 ⟨x3,s3,rfl,au,a2,h3⟩;go_wp2_with fail
   go_meet
   exact⟨x1,x2,x3,s3,rfl,rfl,rfl,ad,ar,au,o_,h3⟩
  ·go_wp2_with fail
   go_meet
   exact⟨a+Q,a+Q*2,a+Q*3,0,s_,s_,s_,o_,o_,o_,o_,H.a⟩
 case rest=>
  obtain⟨i,j,k,s,rfl,rfl,rfl,hi,hj,hk,hs,J⟩:=hcut;go_wp2_with fail;refine(H.c _ _ J.O o_ hz hi hj hk).M ?_;rintro e w1 ⟨x1,s1,rfl,ad,ap,h1⟩;have hb:=h1.box;have c0:(w1).cell? (y_ w.1.size)=some (Xi s1):=e_ hb
  have J1:=If h1.x;clear h1 hb;go_wp2_with fail
  all_goals
   go_ret2;exact⟨_,_,rfl,ad,J1.O⟩
end
section
open Go.RowKit Tryz Go.BigFrame Go.Maps Go.WideMaps Lf Tr
open Go.Sort Go.Shelf
variable{w:World}
structure XB (p:SP) (B:Nat) (w:World):Prop where
 x:PX p w
 d:p.D<=B
 ne:B≠p.b
 box:∃X:Nat,X<2^64/\w.1[B]?=some (.cells #[Xu X] 347 (0,0))
theorem XB.next{p:SP}{B:Nat}(h:XB p B w){R:Nat}(hR:R<2^64):XB p B ((w.setCell (y_ B) (Xu (R:Nat))).drewN 3):=by
 obtain⟨X,_,hb⟩:=h.box;exact⟨(h.x.set h.d h.ne _).draws 3,h.d,h.ne,R,hR,heap_setCell hb⟩
theorem XB.step{p:SP}{B i j:Nat}{u v:Value}(h:XB p B w)(hx:∀q,PX p (((w.drewN q).setCell (x_ p.b i) u).setCell (x_ p.b j) v))(q:Nat):XB p B (((w.drewN q).setCell (x_ p.b i) u).setCell (x_ p.b j) v):=by
 obtain⟨X,h1,hb⟩:=h.box;exact⟨hx q,h.d,h.ne,X,h1,(cg _ _ _ B h.ne).T ((cg _ _ _ B h.ne).T hb)⟩
theorem My{p:SP}(h:PX p w){a L:Nat}(hL:12<L)(hz:a+L<=p.n):Ct 267 #[pd p,Xi a,Xi ((a:Int)+L)] w fun e w'=>e=.returned (.tuple #[])/\PX p w':=by
 have big:=p.big;have ez:(a:Int)+L-a=L:=o_
 obtain⟨Q,hQ⟩:=Ii (L / 4);have a2:(L:Int) / 4=Q:=o_
 have hq:4*Q<=L/\L<4*Q+4:=o_
 obtain⟨M,hM⟩:∃M:Nat,M=1<<<bitsLen L:=⟨_,rfl⟩;have a3:1<=M:=by rw[hM,Nat.one_shiftLeft];exact Nat.two_pow_pos _
 have a4:M<=2*L:=by rw[hM,Nat.one_shiftLeft];exact two_pow_bitsLen_le o_
 have ai:∀w,Ct 260 #[Xi (L:Int)] w fun e w'=>e=.returned (Xu (M:Int))/\w'=w:=by rw[hM];exact fun w=>calls_of_every_depth fun D=>AnySM.nextPowerOfTwoIn { sortA with } D L o_ w
 have ap:∀(X:Nat) (w:World),X<2^64->∀g,w.cell? (y_ g)=some (Xu X)->w.frozen? (y_ g)=false->Ct 261 #[.pointer (some (y_ g))] w fun e w'=>e=.returned (Xu (xorNextN X:Nat))/\w'=(w.setCell (y_ g) (Xu (xorNextN X:Nat))).drewN 3:=fun X w hX g hc hf=>calls_of_every_depth fun D=>AnySM.xorshift_NextIn { sortA with } D g 0 X hX w hc hf;have K0:XB p w.1.size (w.alloc (.cells #[Xu (L:Nat)] 347)):=by
  obtain⟨l,h⟩:=h;have:=h.d;exact⟨PX.grow ⟨l,h⟩ ((aa _ _).alloc Ih _),o_,o_,L,o_,heap_alloc_new w _⟩
 have K:=If K0;obtain⟨B,hB⟩:=Ii w.1.size;rw[hB] at K;have a0:=If ap;have au:=If ai;unfold pd;clear h hQ hM ap ai K0;have h8:(8:Int)<=L:=o_
 go_enter func267,ntmps267;go_wp2_with fail;refine Jc (au.O _) ?_;go_wp2_with fail
 go_loopg [9,10] 3 (fun k s9 _ wr=>∃t i:Nat,s9=Xi i/\i+1<=a+Q*2+t/\a+Q*2+t<=i+1/\t<=3/\3-t<=k/\Hid (XB p B wr))
 case atStart=>exact⟨0,a+Q*2-1,by congr 1;omega,o_,o_,o_,o_,K⟩
 case round=>
  obtain⟨t,i,rfl,h1,h2,ht,a5,I⟩:=hrel
  by_cases h3:(i:Int)<=a+Q*2+1
  ·obtain⟨X,hX,hB⟩:=I.O.box;have ad:=a0.O X wr hX B (r_ hB) (AT hB);obtain⟨R,hR⟩:∃R:Nat,xorNextN X=R:=⟨_,rfl⟩;have lR:R<2^64:=by rw[<-hR];exact xorNextN_lt X hX
   rw[hR] at ad;have HN:=If ad;obtain⟨O,hO⟩:∃O:Nat,O=R &&& (M-1):=⟨_,rfl⟩;have lO:O<=M-1:=by rw[hO];exact Nat.and_le_right
   have a1:bits .and .u64 (R:Int) ((M:Int)-1)=(O:Int):=by
    rw[show ((M:Int)-1)=((M-1:Nat):Int) by omega,bits_and_u64_nat _ _ lR o_,hO]
   clear hO ad hB hR;go_wp2_with fail;refine Jc HN.O ?_;have J:XB p B ((wr.setCell (y_ B) (Xu (R:Nat))).drewN 3):=I.O.next lR;obtain⟨W2,an⟩:=Ii ((wr.setCell (y_ B) (Xu (R:Nat))).drewN 3);rw[an] at J⊢;have J:=If J;clear an HN I
   go_upto_if 43 with fail
   go_cut [10] from 26 to 64 (fun s10 wx=>∃o:Nat,s10=Xi o/\o<L/\wx=W2)
   case first=>
    by_cases hlo:(L:Int)<=O
    ·go_wp2_with fail
     go_meet
     exact⟨O-L,by congr 1;omega,o_,rfl⟩
    ·go_wp2_with fail
     go_meet
     exact⟨O,rfl,o_,rfl⟩
   case rest=>
    obtain⟨o,rfl,ho,rfl⟩:=hcut;obtain⟨f,cw,fw,hs⟩:=PX.open J.O.x;have ar:=If (J.O.step (hs i (a+o) o_ o_));clear hs a1 lO lR
    by_cases heq:i=a+o
    ·subst heq;go_wp2_with fail
     go_region
     go_wp2_with fail
     go_roundg (2-t)
     case rel=>exact⟨t+1,a+o+1,s_,o_,o_,o_,o_,ar.O _⟩
     case measure=>omega
    ·go_wp2_with fail
     go_region
     go_wp2_with fail
     go_roundg (2-t)
     case rel=>exact⟨t+1,i+1,s_,o_,o_,o_,o_,ar.O _⟩
     case measure=>omega
  ·go_wp2_with fail
   go_end0
   exact⟨rfl,I.O.x⟩
end
section
open Go.RowKit Tryz Go.BigFrame Go.Maps Go.WideMaps Lf Tr
theorem MI {p:SP}{w:World}(h:PX p w){a z:Nat}(hz:z<=p.n)(haz:a<z):Ct 270 #[pd p,Xi a,Xi z] w fun e w'=>∃b:Bool,e=.returned (.bool b)/\PX p w':=by
 have big:=p.big;have H:=If h;go_enter func270,ntmps270;go_wp2_with fail
 go_loopg [7,8,9,10] 5 (fun k s7 s8 _ _ wr=>∃i j:Nat,s7=Xi i/\s8=Xi j/\a<i/\i<=z/\j<=5/\5-j<=k/\Hid (PX p wr))
 case atStart=>exact⟨a+1,0,s_,rfl,o_,o_,o_,o_,H⟩
 case round=>
  obtain⟨i0,j0,rfl,rfl,hi,ai,hj,ap,I⟩:=hrel
  by_cases hj5:(j0:Int)<5
  ·go_upto_block 2 with fail
   go_cut [7] from 13 to 132 (fun s7 wx=>∃i:Nat,s7=Xi i/\a<i/\i<=z/\Hid (PX p wx))
   case first=>
    go_wp2_with fail
    go_loopw [7] (fun s7 wr=>∃i:Nat,s7=Xi i/\a<i/\i<=z/\Hid (PX p wr)) (fun s7 _=>z-(intOf s7).toNat)
    case atStart=>exact⟨i0,rfl,hi,ai,I⟩
    case round=>
     obtain⟨i,rfl,q1,q2,I⟩:=hrel;obtain⟨k,rfl⟩:∃k,i=k+1:=⟨i-1,o_⟩;obtain⟨f,cw,fw,hs⟩:=PX.open I.O
     by_cases hc:(k:Int)+1<z
     ·go_wp2_with fail
      go_quiet (exact mW _ _ _ _)
      go_wp2_with fail
      ·go_roundw
       case rel=>exact⟨k+1+1,s_,o_,o_,I.O.draws _⟩
       case measure=>simp[intOf];omega
      ·go_meet
       exact⟨k+1,s_,q1,q2,I.O.draws _⟩
     ·have an:decide ((k:Int)+1<z)=false:=decide_eq_false hc;go_wp2_with fail
      go_quiet (exact mW _ _ _ _)
      go_wp2_with fail
      go_meet
      exact⟨k+1,s_,q1,q2,I.O.draws _⟩
   case rest=>
    obtain⟨i,rfl,q1,q2,I⟩:=hcut;obtain⟨k,rfl⟩:∃k,i=k+1:=⟨i-1,o_⟩
    by_cases ai:(k:Int)+1=z
    ·go_wp2_with fail;go_ret;exact⟨_,rfl,I.O⟩
    ·by_cases h50:(z:Int)-a<50
     ·go_wp2_with fail;go_ret;exact⟨_,rfl,I.O⟩
     ·go_upto_region 11 with fail
      go_cut [] from 13 to 132 (fun wx=>Hid (PX p wx))
      case first=>
       obtain⟨f,cw,fw,hs⟩:=PX.open I.O;have ad:=If (hs (k+1) k o_ o_);exact qBxac
      case rest=>
       go_upto_if 61 with fail
       go_cut [9] from 13 to 132 (fun _ wx=>Hid (PX p wx))
       case first=>
        by_cases h2:(2:Int)<=k+1-a
        ·go_wp2_with fail
         go_loopw [9] (fun s9 wr=>∃j:Nat,s9=Xi j/\j<=k/\Hid (PX p wr)) (fun s9 _=>(intOf s9).toNat)
         case atStart=>exact⟨k,s_,o_,hcut⟩
         case round=>
          obtain⟨j,rfl,r1,I⟩:=hrel
          by_cases hj1:(1:Int)<=j
          ·obtain⟨m,rfl⟩:∃m,j=m+1:=⟨j-1,o_⟩;obtain⟨f,cw,fw,hs⟩:=PX.open I.O;have ad:=If (hs (m+1) m o_ o_);go_wp2_with fail
           go_quiet (exact mW _ _ _ _)
           go_wp2_with fail
           ·go_meet
            exact I.O.draws _
           ·go_region
            go_wp2_with fail;go_roundw
            case rel=>exact⟨m,s_,o_,ad.O _⟩
            case measure=>simp[intOf]
          ·go_wp2_with fail
           go_meet
           omega
        ·go_wp2_with fail
         go_meet
         omega
       case rest=>
        have I:=hcut
        by_cases h2:(2:Int)<=z-(k+1)
        ·go_wp2_with fail
         go_loopw [10] (fun s9 wr=>∃j:Nat,s9=Xi ((j:Int)+1)/\j<z/\Hid (PX p wr)) (fun s9 _=>z-(intOf s9).toNat)
         case atStart=>exact⟨k+1,s_,o_,I⟩
         case round=>
          obtain⟨j,rfl,r1,I⟩:=hrel
          by_cases hj1:(j:Int)+1<z
          ·obtain⟨f,cw,fw,hs⟩:=PX.open I.O;have ad:=If (hs (j+1) j o_ o_);go_wp2_with fail
           go_quiet (exact mW _ _ _ _)
           go_wp2_with fail
           ·go_roundg (4-j0)
            case rel=>exact⟨k+1,j0+1,s_,s_,o_,o_,o_,o_,I.O.draws _⟩
            omega
           ·go_region
            go_wp2_with fail;go_roundw
            case rel=>exact⟨j+1,s_,o_,ad.O _⟩
            case measure=>simp[intOf];omega
          ·go_wp2_with fail
           go_roundg (4-j0)
           case rel=>exact⟨k+1,j0+1,s_,s_,o_,o_,o_,o_,I.O⟩
           omega
        ·go_wp2_with fail
         go_roundg (4-j0)
         case rel=>exact⟨k+1,j0+1,s_,s_,o_,o_,o_,o_,I⟩
         omega
  ·go_wp2_with fail;go_ret;exact⟨.inl rfl,I.O⟩
end
section
open Go.Sort Go.RowKit Go.BigFrame Go.Maps Go.WideMaps Lf Tr
theorem qBxai{P:Prop}(h:P:=by
 go_quiet (exact mW _ _ _ _)
 go_wp2_with fail
 go_meet
 exact⟨_,rfl,I.O.draws _⟩):P:=h
theorem qBxae{P:Prop}(h:P:=by
 go_wp2_with fail;refine bodyPost_ret (results_none rfl _ _ _) rfl ?_;exact⟨rfl,J⟩):P:=h
theorem MK {p:SP}:∀(N:Nat) {w:World} {a z lim:Nat},PX p w->z-a<N->a<=z->z<=p.n->lim<=100->Ct 257 #[pd p,Xi a,Xi z,Xi lim] w fun e w'=>e=.returned (.tuple #[])/\PX p w':=by
 intro N
 induction N with
 | zero=>exact fun _ h=>absurd h o_
 | succ N ih=>
  intro w a z lim h hN ai hz ad;have big:=p.big;have H:=kq2 h (fun(w:World) (a z lim:Nat)=> @ih w a z lim);go_enter Tryz.func257,Tryz.ntmps257;go_wp2_with fail
  go_loopg [1,2,3,8,9,10,11,12,13,14,15,16,17,18] (z-a) (fun k s1 s2 s3 s8 s9 _ _ _ _ _ _ _ _ _ wr=>∃(a z lim:Nat) (b c:Bool),s1=Xi a/\s2=Xi z/\s3=Xi lim/\s8=.bool b/\s9=.bool c/\a<=z/\z<=p.n/\lim<=100/\z-a<=N/\z-a<=k/\Hid (PX p wr))
  case atStart=>exact⟨a,z,lim,true,true,rfl,rfl,rfl,rfl,rfl,ai,hz,ad,o_,o_,H.a⟩
  case round=>
   obtain⟨a,z,lim,b,c,rfl,rfl,rfl,rfl,rfl,ai,hz,ad,hN,au,I⟩:=hrel;obtain⟨L,rfl⟩:∃L,z=a+L:=⟨z-a,o_⟩;have ez:(a:Int)+L-a=L:=o_
   by_cases h12:(L:Int)<=12
   ·go_wp2_with fail;refine b8 (ME I.O (a:=a) (z:=a+L) hz o_) fun w1 J=>?_;exact qBxae
   ·by_cases hl0:(lim:Int)=0
    ·obtain⟨m,rfl⟩:∃m,L=m+1:=⟨L-1,o_⟩;go_wp2_with fail;refine b8 (MD I.O (a:=a) (m:=m) o_) fun w1 J=>?_;exact qBxae
    ·go_upto_if 35 with fail
     go_cut [3] from 19 to 133 (fun s3 wx=>∃lim:Nat,s3=Xi lim/\lim<=100/\Hid (PX p wx))
     case first=>
      cases b
      ·go_wp2_with fail;refine b8 (My I.O (a:=a) (L:=L) o_ o_) fun w1 J=>?_;go_wp2_with fail
       go_meet
       exact⟨lim-1,by congr 1;omega,o_,J⟩
      ·go_wp2_with fail
       go_meet
       exact⟨lim,rfl,ad,I⟩
     case rest=>
      obtain⟨lim,rfl,ad,I⟩:=hcut;go_wp2_with fail;refine(ML I.O (a:=a) (L:=L) o_ o_).M ?_;rintro e w1 ⟨x,t,rfl,hx,J⟩;have J:=If J
      go_upto_if 50 with fail
      go_cut [11,12] from 19 to 133 (fun s11 s12 wx=>∃x t:Nat,s11=Xi x/\s12=Xi t/\a<=x/\x<a+L/\Hid (PX p wx))
      case first=>
       by_cases h2:(t:Int)=2
       ·go_wp2_with fail;refine b8 (MM J.O (a:=a) (z:=a+L) hz o_) fun w2 J2=>?_;go_wp2_with fail
        go_meet
        exact⟨a+L-1-(x-a),1,by congr 1;omega,rfl,o_,o_,J2⟩
       ·go_wp2_with fail
        go_meet
        exact⟨x,t,rfl,rfl,hx.1,hx.2,J⟩
      case rest=>
       obtain⟨x,t,rfl,rfl,an,ap,I⟩:=hcut
       go_upto_region 15 with fail
       go_cut [68] from 19 to 133 (fun s68 wx=>∃q:Bool,s68=.bool q/\Hid (PX p wx))
       case first=>
        by_cases h1:(t:Int)=1
        all_goals
         cases b
         all_goals
          cases c
          all_goals
           go_wp2_with fail
           go_meet
           exact⟨_,rfl,I⟩
       case rest=>
       obtain⟨q,rfl,I⟩:=hcut
       go_upto_if 68 with fail
       go_cut [] from 19 to 133 (fun wx=>Hid (PX p wx))
       case first=>
        cases q
        ·go_wp2_with fail
         go_meet
         exact I
        ·go_wp2_with fail;refine(MI I.O (a:=a) (z:=a+L) hz o_).M ?_;rintro e w2 ⟨bb,rfl,J⟩
         cases bb
         ·go_wp2_with fail
          go_meet
          exact J
         ·exact qBxae
       case rest=>
        have I:=hcut
        go_upto_region 17 with fail
        go_cut [87] from 19 to 133 (fun s87 wx=>∃q:Bool,s87=.bool q/\Hid (PX p wx))
        case first=>
         by_cases ha:0<a
         ·obtain⟨k,rfl⟩:∃k,a=k+1:=⟨a-1,o_⟩;obtain⟨f,cw,fw,hs⟩:=PX.open I.O;exact qBxai
         ·have ar:decide (0<a)=false:=decide_eq_false ha;exact qBxai
        case rest=>
         obtain⟨q,rfl,I⟩:=hcut
         cases q
         case true=>
          go_wp2_with fail;refine(MC I.O (a:=a) (z:=a+L) (v:=x) hz ⟨an,ap⟩).M ?_;rintro e w2 ⟨y,rfl,hy,J⟩;go_wp2_with fail
          go_roundg (a+L-y)
          case rel=>exact⟨y,a+L,lim,b,c,rfl,s_,rfl,rfl,rfl,hy.2,hz,ad,o_,o_,J⟩
          omega
         go_wp2_with fail;refine(MJ I.O (a:=a) (z:=a+L) (v:=x) hz ⟨an,ap⟩).M ?_;rintro e w2 ⟨y,b2,rfl,hy,J⟩
         by_cases hlt:(y:Int)-a<a+L-y
         ·go_wp2_with fail;refine b8 (H.b _ a y lim J o_ hy.1 o_ ad) fun w3 J=>?_;go_wp2_with fail
          go_roundg (a+L-(y+1))
          case rel=>exact⟨y+1,a+L,lim,_,b2,s_,s_,rfl,rfl,rfl,o_,hz,ad,o_,o_,J⟩
          omega
         ·go_wp2_with fail;refine b8 (H.b _ (y+1) (a+L) lim J o_ o_ o_ ad) fun w3 J=>?_;go_wp2_with fail
          go_roundg (y-a)
          case rel=>exact⟨a,y,lim,_,b2,rfl,rfl,rfl,rfl,rfl,hy.1,o_,ad,o_,o_,J⟩
          omega
theorem MN {p:SP}{w:World}(h:PX p w):Ct 232 #[pd p] w fun e w'=>e=.returned (.tuple #[])/\PX p w':=by
 have big:=p.big;have hk:Go.Sort.bitsLen p.n<=62:=(Go.Sort.bitsLen_le_iff p.n 62).2 o_;have ad:∀w,Ct 230 #[Xu (p.n:Int)] w fun e w'=>e=.returned (Xi (Go.Sort.bitsLen p.n:Nat))/\w'=w:=fun w=>by
  have h:=calls_of_every_depth fun D=>AnySM.bits_LenIn { Tryz.sortA with } D (p.n:Int) w o_ o_;rwa[cV,bitLen_eq _ o_] at h
 obtain⟨q,hq⟩:=Ii (Go.Sort.bitsLen p.n);have H:=kq2 h ad;go_enter Tryz.func232,Tryz.ntmps232;go_wp2_with fail;refine Jc (H.b _) ?_;go_wp2_with fail;refine b8 (MK (p.n+1) H.a (a:=0) (z:=p.n) (lim:=q) o_ o_ o_ o_) fun w2 J=>?_;go_wp2_with fail
 go_end0
 grind
end
section
open Go.RowKit Tryz Go.BigFrame Go.Maps Go.WideMaps Lf Tr
open Go.Shelf
variable{N:Nat}{g:Nat}{lb:Array Value}{q:List Nat}{w:World}
attribute [local go_sem] Oper.semAt_some
theorem MQ(w:World)(A:Option Addr)(m c:Nat):Ct 205 #[.slice A m c] w fun e w'=>e=.returned (.func (.func 233) #[] #[PV w.1.size])/\w'=w.alloc (.cells #[.slice A m c] 59):=by
 go_enter func205,ntmps205
 go_wp2
 go_ret;exact⟨rfl,rfl⟩
theorem MP{B G c:Nat}{l:List Nat}{fr:Nat×Nat}(hN:l.length<=100000)(hl:∀x∈l,x<2^64)(hB:w.1[B]?=some (.cells #[.slice (some (y_ G)) l.length c] 59 fr))(hG:∀(j:Nat) (h:j<l.length),w.cell? (x_ G j)=some (Xu (l[j]:Nat)))(hGl:G<w.1.size):
 SeqStopsK Fence.wide 6 prog 233 #[PV B] mG (Below w.1.size) (fun xs=>iR xs=l) (fun _=>True) l.length w:=fun L J Jx W hW hJ hJx hY h0=>by
 have a3:=(gl hB);have a8:W.cell? (y_ B)=some (.slice (some (y_ G)) l.length c):=e_ ((hW.block B a3).T hB)
 obtain⟨n,hn⟩:=Ii l.length;rw[hn] at a8 hN hY;have HY:=If hY;have HJ:=kq2 hJ hJx;have H0:=kq6 h0 hG hGl hl hn hW;clear hY hJ hJx h0 hB hG hW hl hGl a3 hn;refine callsIn_of_wp func233 rfl trivial ?_ rfl;simp only[ntmps233,aT,aj,aK,Nat.reduceAdd,Nat.reduceSub,aO,aP,aU,aR,aV,aJ];gi_wp2_with fail;gi_loopw [4,7] (fun _ i wr=>∃k:Nat,k<=n/\i=Xi k/\Hid (D_ w wr/\∃pX,iR pX=l.take k/\J pX wr)) (fun _ i _=>n-(intOf i).toNat)
 case atStart=>exact⟨0,o_,rfl,H0.f,[],rfl,H0.a⟩
 case round=>
  obtain⟨k,hk,rfl,an⟩:=hrel;by_cases hlt:k<n
  ·have bb:(k:Int)<n:=o_
   have ap:k<l.length:=by have:=H0.e;omega
   have hc:wr.cell? (x_ G k)=some (Xu (l[k]:Nat)):=(an.O.1.cell (p:=x_ G k) H0.c).T (H0.b k ap);have a0:=H0.d l[k] (aq ap);have a1:l.take (k+1)=l.take k++[l[k]]:=(List.take_append_getElem ap).S;obtain⟨x,hx⟩:=Ii l[k];rw[hx] at hc a0 a1;obtain⟨pX,ad,ai⟩:=an.O.2;obtain⟨xX,a2⟩:∃xX:Jf,xX.1=x:=⟨⟨x,a0⟩,rfl⟩;have a9:pX.length=k:=by
    have:=congrArg List.length ad;rw[aM] at this;simp[iR] at this
    omega
   obtain⟨fn,bc,a',ba,hy,au⟩:=HY.O pX xX wr ai o_;have a7:iR (pX++[xX])=l.take (k+1):=by rw[a1,<-ad,<-a2];simp[iR]
   have ar:=kq2 a7 hlt;unfold mG at hy;rw[a2] at hy;clear a7 ad a9 ai a2 a0 a1 ap hx;gi_wp2_with fail;refine au.M ?_;rintro e w4 (⟨rfl,a4,a6⟩ | ⟨rfl,a5⟩)
   ·have H4:=kq2 (an.O.1.T a6) a4;clear a4 a6 hy au hc;gi_wp2_with fail;go_roundw
    case rel=>exact⟨k+1,ar.b,by go_num,H4.a,_,ar.a,H4.b⟩
    case measure=>have:=ar.b;simp[intOf];omega
   ·have H4:=If a5;clear a5 hy au hc;gi_wp2_with fail;refine bodyPost_ret (results_none rfl _ _ _) rfl ?_;exact⟨⟨_,rfl⟩,.inr ⟨_,trivial,H4.O⟩⟩
  ·obtain rfl:k=n:=o_
   gi_wp2
   go_end0
   obtain⟨pX,ad,ai⟩:=an.O.2;exact⟨⟨_,rfl⟩,.inl ⟨_,by rw[ad,aN (by rw[H0.e];exact Nat.le_refl _)],ai⟩⟩
theorem Mx(hN:N<=100000)(eg:∀args w,(callFunc g args).run prog w=.ok (.enter g args) w)
 (hseq:SeqStopsK Fence.wide 6 prog g lb mG (Below w.1.size) (fun xs=>iR xs=q) (fun _=>True) N w):
 CallsIn Fence.wide 7 prog 256 #[n_,.func (.func g) #[] lb] w fun e w'=>∃v,e=.returned v/\w'.ownsRow w.1.size 61 1 v q.length (uV q)/\D_ w w':=by
 have h1:1<=7:=o_
 obtain⟨i0,hi,bm,bo,bq⟩:=info_parts uP;refine callsIn_of_wp_marks func256 rfl trivial ?_ rfl;simp only[ntmps256,aT,aj,aK,Nat.reduceAdd,Nat.reduceSub,aO,aP,aU,aR,aV,aJ];gi_wp2_with fail;have k0:(w.alloc (.cells #[n_] 59)).1[w.1.size]?=some (.cells #[n_] 59 (0,0)):=heap_alloc_new w _;have a0:D_ w (w.alloc (.cells #[n_] 59)):=(aa _ w).alloc Ih _;have bc:(w.alloc (.cells #[n_] 59)).1.size=w.1.size+1:=s_
 generalize w.alloc (.cells #[n_] 59)=W0 at*;refine wpIn_rangeFunc_ownH rfl h1 (gf:=g) (lb:=lb) rfl trivial eg hseq (fun h k=>h.T k) (fun W l o o' h1 h2 h3 h4=>nN W l o o' o_ h2 h3 h4) a0 (fun _=>rfl)
  (fun ai W=>(∃v,W.1[w.1.size]?=some (.cells #[v] 59 (0,0))/\W.ownsRow w.1.size 61 1 v ai.length (uV (iR ai)))/\D_ w W)
  (fun _ _ _=>False)
  (OwnFrom.and (Own.from (fun s A B row hs hg hr=>by
   obtain⟨v,hv,C6⟩:=hs;refine⟨v,(hg.block _ (gl hv) (fun e=>?_)).T hv,wi C6 hg hr⟩;obtain⟨o,ho,hc⟩:=hr _ e.S;rw[hv] at ho;injection ho with ho
   subst ho;cases hc) _) (ownFrom_below Ih o_))
  (fun cd=>Own.from (fun s A B row hs hg hr=>hs) _)
  ⟨⟨_,k0,rfl,ab ⟨rfl,rfl⟩⟩,a0⟩
  (fun x a' _=>a'= { tmps:=#[n_,.func (.func g) #[] lb,PV w.1.size,undef,n_,Xu (x.1:Nat),.func (.func g) #[] lb,Xu (x.1:Nat),undef,undef,undef,undef,undef],defers:=[] })
  (fun x a' _ X W' row hs hg hr=>hs)
  ?assign ?body ?done ?stop
 case assign=>
  rintro l ai ⟨x,hx⟩ W K hI hK;have HK:=If hK;have HI:=If hI;clear hK hI;simp only[mG];gi_wp2
  exact HK.O _ _ (KeepsFrom.refl _ _) (aa _ _) HI.O rfl
 case body=>
  rintro l ai ⟨x,hx⟩ a' W hl _ ⟨⟨v,hv,C6⟩,hB⟩ rfl hlt;obtain⟨c1,f1⟩:=qS hv;have HI:=kq6 hv C6 hB hlt bc hl;obtain⟨m,hm⟩:=Ii ai.length;have bu:m<=100000:=o_
  rw[hm] at HI;clear hv C6 hB hlt hm;gi_wp2_with (gi_at_builtin;refine wpListIn_append_own_at _ rfl _ _ 59 rfl w.1.size 61 i0 (Xu 0) 1 8 underlying59 hi bm bo bq rfl d_ _ _ _ rfl (HI.b.alloc _) (y_ W.1.size) 1 1 [Xu x] rfl rfl (cell_one_new _ _ _) ?c2 ?c3 ?c4 ?c5 ?_)
  case c2=>simp[Value.oneCell']
  case c3=>unfold maxLen;omega
  case c4=>omega
  case c5=>have:=HI.c.size;simp;omega
  intro v' w1 hown hgrow _ hat;obtain⟨g',au,bd,rfl,a3,ap,a8,a9,ba,bb⟩:=hown.2.resolve_left (by rintro⟨_,h⟩;exact absurd h s_);obtain⟨hv,C6,hB,hlt,bc,hl⟩:=HI.O;have an:=hB.size;have a4:=(gl hv);have a7:v.ownBlock≠some w.1.size:=fun e'=>by
   rcases C6.2 with⟨rfl,_⟩ | ⟨g0,bs,bt,rfl,_,bf,_⟩
   ·cases e'
   ·have:g0=w.1.size:=by simpa[Value.ownBlock] using e'
    subst this;rw[bf] at hv;injection hv with hv
    injection hv with _ hv
    exact absurd hv d_
  have ad:w1.1[w.1.size]?=some (.cells #[v] 59 (0,0)):=by
   rw[hgrow.block _ m_ (fun e=>a7 e.S),heap_alloc_old W _ a4];exact hv
  have a5:g'≠w.1.size:=fun e=>by
   subst e;rw[ap] at ad;injection ad with ad
   injection ad with _ ad
   exact absurd ad d_
  have a1:Below w.1.size W w1:=((aa _ W).M an |>.alloc an (Xf x)).grown hgrow m_ (fun k e=>(C6.lt k e).1);have a6:KeepsFrom W0.1.size W w1:=((KeepsOthers.alloc W (Xf x)).from _).T (BL (C6.alloc _) hgrow);obtain⟨d1,e1⟩:=qS ad;have HW:=kq11 ad ap a5 a1 a6 hown a3 a8 a9 ba bb;clear ad ap a5 a1 a6 hown a3 a8 a9 ba bb hgrow hat a7 a4 an hv C6 hB hlt hl;gi_wp2_with fail;have a2:=HW.d.setCell (p:=y_ w.1.size) (Nat.le_refl w.1.size) (.slice (some (y_ g')) (m+1) au);refine⟨HW.e.T ((KeepsOthers.setCell _ _ _).from _),a2,⟨_,heap_setCell HW.a,?_⟩,HI.c.T a2⟩;have bj:(ai++[(⟨x,hx⟩:Jf)]).length=m+1:=by have:=HW.f.1;simp[uV,iR] at this⊢;omega
  have bk:uV (iR (ai++[(⟨x,hx⟩:Jf)]))=uV (iR ai)++[Xu x]:=by simp[uV,iR]
  rw[bj,bk];exact⟨HW.f.1,ae ⟨g',au,bd,rfl,HW.g,(FB HW.c).T HW.b,HW.O.2.2.2.2.2.2.2⟩⟩
 case done=>
  rintro D ys W hD hS ⟨⟨v,hv,C6⟩,hB⟩ hK;obtain⟨c1,f1⟩:=qS hv;have ar:ys.length=q.length:=by rw[<-hS];simp[iR]
  rw[hS,ar] at C6;have HI:=kq5 C6 hB hv ar hS;clear C6 hB hv ar hS f1;gi_wp2
  refine⟨s_,.inl ⟨_,_,rfl,run_takeDeferred hK,?_⟩⟩;refine⟨v,by simp[results,f256,go_sem],v,rfl,?_,HI.b.T (nN W D _ _ o_ hK rfl rfl)⟩;exact wi HI.a (grownBy_putObj' W D _) (fun r e=>by cases e;exact⟨_,hK,rfl⟩)
 case stop=>
  rintro D cd ai W hD bv hF;exact hF.elim
theorem MA(hN:N<=100000)(eg:∀args w,(callFunc g args).run prog w=.ok (.enter g args) w)
 (hseq:SeqStopsK Fence.wide 6 prog g lb mG (Below w.1.size) (fun xs=>iR xs=q) (fun _=>True) N w):
 Ct 231 #[.func (.func g) #[] lb] w fun e w'=>∃v,e=.returned v/\FE w' w.1.size v q/\D_ w w':=by
 have hc:=callsIn_wide.1 (Mx hN eg hseq);have H:=If hc;clear hc hseq;go_enter func231,ntmps231;go_wp2_with fail;refine H.O.M ?_;rintro e w1 ⟨v,rfl,h1,h2⟩;have J:=kq2 h1 h2;clear h1 h2;go_wp2_with fail;go_ret;exact⟨v,rfl,J.a,J.b⟩
end
section
open Go.RowKit Tryz Go.BigFrame Go.Maps Go.WideMaps Lf Tr
def JW(x:It×Nd):Array Value:=#[Xu x.1.h,eS x.2]
def mA(n0:Nat)(X:Nat->Prop)(W W':World):Prop:=Below n0 W W'/\∀k o,X k->W.1[k]?=some o->W'.1[k]?=some o
theorem mA.refl(n0:Nat)(X:Nat->Prop)(W:World):mA n0 X W W:=⟨aa _ _,fun _ _ _ e=>e⟩
theorem mA.T {n0:Nat}{X:Nat->Prop}{A B C:World}(h:mA n0 X A B)(k:mA n0 X B C):mA n0 X A C:=⟨h.1.T (k.1),fun g o hx e=>k.2 g o hx (h.2 g o hx e)⟩
theorem mA.eq {n0 k:Nat}{X:Nat->Prop}{A B:World}(h:mA n0 X A B)(hx:X k)(hk:k<A.1.size):B.1[k]?=A.1[k]?:=(h.2 k _ hx (df hk)).T (df hk).S
structure m9 (w0:World) (D ps Bs Br:Nat) (J:(Nat->Prop)->List (It×Nd)->World->Prop) (pre:List (It×Nd)) (f9:Nat) (v:Value) (st:List Nat) (W:World):Prop where
 ex:∃X,J X pre W/\(∀g,v.ownBlock=some g->X g)/\X Bs/\X Br
 bl:D_ w0 W
 own:FE W D v st
 cs:W.1[Bs]?=some (Xg ps)
 cr:W.1[Br]?=some (Xf f9)
 lo:w0.1.size<=Bs/\w0.1.size<=Br/\Bs≠Br/\Bs<D/\Br<D/\D<=W.1.size
set_option maxRecDepth 4000
section
variable {w0 W W':World}{D ps Bs Br f9:Nat}{J:(Nat->Prop)->List (It×Nd)->World->Prop}{pre:List (It×Nd)}{v:Value}{st:List Nat}
theorem m9.a_(hJ:Ka D J)(h:m9 w0 D ps Bs Br J pre f9 v st W)(hb:D_ W W'):m9 w0 D ps Bs Br J pre f9 v st W':=by
 obtain⟨X,h1,h2,h3,h4⟩:=h.ex;have lt:∀{k o},W.1[k]?=some o->W'.1[k]?=some o:=fun e=>(hb.block _ (gl e)).T e;have ad:=hb.size;have:=h.lo;exact⟨⟨X,hJ X X pre W W' none h1 (lf hb) (fun r e=>by cases e) (fun _ hk=> .inl hk),h2,h3,h4⟩,b_ h.bl hb,h.own.at fun g e=>hb.block g (h.own.ge g e).2,lt h.cs,lt h.cr,o_⟩
theorem m9.write(hJ:Ka D J)(h:m9 w0 D ps Bs Br J pre f9 v st W)(r:Nat):m9 w0 D ps Bs Br J pre r v st (W.setCell (y_ Br) (Xu r)):=by
 obtain⟨X,h1,h2,h3,h4⟩:=h.ex;have ad:=h.lo;refine⟨⟨X,hJ X X pre W _ (some Br) h1 (grownBy_setCell' W Br _) (fun r e=>by grind) (fun _ hk=> .inl hk),h2,h3,h4⟩,h.bl.T ⟨rfl,rfl,rfl,s_,fun k hk=>FB o_⟩,h.own.at fun g e=>FB (by have:=(h.own.ge g e).1;omega),(FB ad.2.2.1).T h.cs,heap_setCell (i:=0) (v:=Xu r) h.cr,by simp_all⟩
theorem m9.push(hJ:Ka D J)(h:m9 w0 D ps Bs Br J pre f9 v st W)(hl:st.length<=100000)(x:Nat)(ty:TypeId):
 ∃A m c,v=.slice A m c/\∃A2 m2 c2 W2,(Builtin.append_ #[59,59] ty #[.slice A m c,.slice (some (y_ W.1.size)) 1 1]).run prog (W.alloc (Xf x))=.ok (.slice A2 m2 c2) W2/\m9 w0 D ps Bs Br J pre f9 (.slice A2 m2 c2) (st++[x]) W2/\∀k,k<W.1.size->v.ownBlock≠some k->W2.1[k]?=W.1[k]?:=by
 obtain⟨X,h1,h2,h3,h4⟩:=h.ex;have ai:=h.lo;obtain⟨v2,W2,ap,an,ad,au⟩:=jF h.own hl x ai.2.2.2.2.2 ty;obtain⟨A,m,c,rfl⟩:=h.own.slice;obtain⟨A2,m2,c2,rfl⟩:=an.slice;have hk:∀k,k<D->W2.1[k]?=W.1[k]?:=fun k hk=>ad.block k o_ fun e=>by have:=(h.own.ge k e.S).1;omega
 have ar:=ad.size;have hx:∀k,(X k\/(Value.slice A2 m2 c2).ownBlock=some k)->X k\/W.1.size<=k/\k<W2.1.size:=fun k hk=>by
  rcases hk with hk | hk
  ·grind
  ·have hlt:=(an.ge k hk).2
   grind
 refine⟨A,m,c,rfl,A2,m2,c2,W2,ap,⟨⟨fun k=>X k\/(Value.slice A2 m2 c2).ownBlock=some k,hJ X _ pre W W2 _ h1 ad (fun r e=> .inl (h2 r e)) hx,fun g e=> .inr e,.inl h3,.inl h4⟩,h.bl.T ⟨ad.os,ad.tape,ad.output,ar,fun k q=>hk k o_⟩,an,(hk _ ai.2.2.2.1).T h.cs,(hk _ ai.2.2.2.2.1).T h.cr,o_⟩,fun k hk hne=>ad.block k hk fun e=>hne e.S⟩
theorem m9.pop {x:Nat}(h:m9 w0 D ps Bs Br J pre f9 v (st++[x]) W):
 ∃b c,v=.slice (some (y_ b)) (st.length+1) c/\st.length+1<=c/\W.cell? (x_ b st.length)=some (Xu x)/\m9 w0 D ps Bs Br J pre f9 (.slice (some (y_ b)) st.length c) st W:=by
 obtain⟨b,c,e,hc⟩:∃b c,v=.slice (some (y_ b)) (st++[x]).length c/\(st++[x]).length<=c:=by
  rcases h.own.2 with⟨_,e0⟩ | ⟨b,c,ad,e,_,_,ai,_⟩
  ·simp at e0
  grind
 rw[ag,bi] at e hc;subst e;have ho:FE W D (.slice (some (y_ b)) (st.length+1) c) (st++[x]):=h.own;obtain⟨X,h1,h2,h3,h4⟩:=h.ex;refine⟨b,c,rfl,hc,?_,⟨X,h1,h2,h3,h4⟩,h.bl,ho.short,h.cs,h.cr,h.lo⟩;rw[<-(World.ownsRow.cells h.own (g:=b) rfl st.length (Xu x) (by simp[hV]))];unfold Addr.add
 cases st<;>simp
theorem m9.yield {F:Fence}{m l:Nat}{P:Program}{x:It×Nd}{S:List (It×Nd)->Prop}(o:Obj)(hJ:Ka D J)(hY:∀X pre x W1,J X pre W1->(∃r,S (pre++x::r))->YieldAt F m P l (JW x) W1 fun e W'=>e=.returned (.bool true)/\J X (pre++[x]) W'/\mA w0.1.size X W1 W')(h:m9 w0 D ps Bs Br J pre f9 v st W)(hl:∃r,S (pre++x::r)):
 YieldAt F m P l (JW x) (W.alloc o) fun e W'=>e=.returned (.bool true)/\m9 w0 D ps Bs Br J (pre++[x]) f9 v st W'/\W'.1[W.1.size]?=some o:=by
 obtain⟨X,h1,h2,h3,h4⟩:=h.ex;have hb:D_ W (W.alloc o):=(aa _ _).alloc Ih _;refine(hY _ pre x _ (hJ X (fun k=>X k\/k=W.1.size) pre W _ none h1 (lf hb) (fun r e=>by cases e) (fun k hk=>hk.imp id fun e=>by simp_all)) hl).M ?_;rintro e W' ⟨rfl,hj,ad⟩;have an:=ad.1.size;have ai:=h.bl.size;have:=h.lo;have lt:∀{k c},W.1[k]?=some c->(W.alloc o).1[k]?=some c:=fun e=>(hb.block _ (gl e)).T e;exact⟨rfl,⟨⟨_,hj,fun g e=> .inl (h2 g e),.inl h3,.inl h4⟩,(h.bl.T (hb.M ai)).T ad.1,h.own.at fun g e=>(ad.eq (.inl (h2 g e)) (aE (h.own.ge g e).2 hb.size)).T (hb.block g (h.own.ge g e).2),ad.2 _ _ (.inl h3) (lt h.cs),ad.2 _ _ (.inl h4) (lt h.cr),by rw[World.size_alloc] at an;omega⟩,ad.2 _ _ (.inr rfl) (World.alloc_heap_new _ _)⟩
end
theorem Kg {F:Fence}{n:Nat}{P:Program}(w:World){ops:Array Oper}{rest:List Oper}{o:Oper}{a:Act}{Q:Exit->Act->World->Prop}
 (hg:o.guard=none) (s x:Operand) (t tn:TypeId) (hop:o.op=Op.call { callee:=Callee.builtin Builtin.append,args:=#[s,x],argTypes:=#[t,tn] })
 (vs vx:Value) (hs:a.eval s=vs) (hx:a.eval x=vx) (v':Value) (w':World) (hr:(Builtin.append_ #[t,tn] o.type #[vs,vx]).run P w=.ok v' w') (h:wpListIn F n P ops Q rest (a.put o.dst v') w'):wpListIn F n P ops Q (o::rest) a w:=by
 refine wpListIn_plain hg fun K hK'=>?_;refine⟨?_,?_⟩
 ·simp[Oper.about,hop,resolve,Target.leads,Sem.run_pure]
 ·rw[Oper.semAt_plain F _ _ (by rw[hop];intro c hc';cases hc')];simp[execOp,hop,resolve,invoke,builtin,hs,hx,hr,Result.andThen]
  exact hK' _ _ h
def Km:Value->Nat
 | .slice _ m _=>m
 | _=>0
theorem Tr.st_late:∀{st:List Tr},(∀x∈st,x≠ .nil)->st.length<=(st.flatMap late).length
 | [],_=>Nat.le_refl _
 | .nil::_,h=>absurd rfl (h _ (av ..))
 | .node l d m r::st,h=>by
  have:=st_late (st:=st) fun x hx=>h x (ak _ hx);simp only[cy,late,ag,aj];omega
theorem Tr.is_node:∀t:Tr,t=.nil\/∃l d m r,t=.node l d m r
 | .nil=> .inl rfl
 | .node l d m r=> .inr ⟨l,d,m,r,rfl⟩
theorem LA {α:Type}:∀st:List α,st=[]\/∃x st',st=x::st'
 | []=> .inl rfl
 | x::st=> .inr ⟨x,st,rfl⟩
theorem J5(n:Nd):eS n=.agg #[Xu n.key,Xu n.val,Xu n.left,Xu n.right,Xu n.mark,Xu n.size]:=rfl
theorem Ls {w0 w:World}{ps:Nat}{S:St}{o:Nat->Nat}{Y:Nat->Prop}{t:Tr}(h:Ig w0 ps S Y)(hf:Fw S o)(ha:Tr.At S t)(hN:t.h_.length<A6 S)(hN2:t.h_.length<=1000)(Bs Br:Nat)(hb:D_ w0 w)(lo:w0.1.size<=Bs/\w0.1.size<=Br/\Bs≠Br/\Bs<w.1.size/\Br<w.1.size)(cs:w.1[Bs]?=some (Xg ps))(cr:w.1[Br]?=some (Xf t.f9)):
 Kv Fence.wide 6 prog 161 #[PV Bs,PV Br] JW (mA w0.1.size) (fun k=>k=Bs\/k=Br) (fun xs=>xs=t.h_) w:=fun l J W hW hJ hY h0=>by
 have c4:Fence.wide.fn 162:=trivial;have c3:Fence.wide.fn 76:=trivial;have a':=b_ hb hW;have bu:CallsIn Fence.wide 5 prog 162 #[PV ps] W _:=callsIn_wide.2 (sX (h.a_ a'));have hL:1<=A6 S/\A6 S<=40000:=by have:=nB h;unfold A6;omega
 generalize A6 S=L at*;have cs:=(hW.block Bs lo.2.2.2.1).T cs;have cr:=(hW.block Br lo.2.2.2.2).T cr;have ck:=hW.size;have hI:m9 w0 W.1.size ps Bs Br J [] t.f9 n_ [] W:=⟨⟨_,h0,(fun g e=>nomatch e),.inl rfl,.inr rfl⟩,a',World.ownsRow_nil _ _ _ _,cs,cr,o_⟩;have HJ:=kq6 hJ hI hf ha hY h;have c0:(W).cell? (y_ Bs)=some (PV ps):=e_ cs
 obtain⟨N,bc⟩:=Ii t.h_.length;rw[bc] at hN hN2;have HN:=If bc;clear hI hW hJ hY h0 hb lo cs cr h hf ha a' ck bc;refine callsIn_of_wp func161 rfl trivial ?_ rfl;simp only[ntmps161,aT,aj,aK,Nat.reduceAdd,Nat.reduceSub,aO,aP,aU,aR,aV,aJ];gi_wp2_with fail;refine bu.M ?_;rintro e w1 ⟨rfl,bm⟩;have H1:=If (m9.a_ HJ.a HJ.b bm);clear bm bu c0;have cq:(0:Int)<L:=o_
 gi_wp2_with fail;gi_loopw [4,6,7,8,9,10,11] (fun s4 s6 _ _ _ _ _ wr=>∃(k:Nat) (ad:List (It×Nd)) (r:Tr) (st:List Tr),s6=Xi k/\k=ad.length+st.length/\Hid (m9 w0 W.1.size ps Bs Br J ad r.f9 s4 (st.map topH).reverse wr/\ad++restN r st=t.h_/\Tr.At S r/\(∀x∈st,Tr.At S x)/\∀x∈st,x≠ .nil)) (fun s4 s6 _ _ _ _ _ _=>N+Km s4-(intOf s6).toNat)
 case atStart=>exact⟨0,[],t,[],rfl,rfl,H1.O,by simp[restN],HJ.d,(fun x hx=>nomatch hx),(fun x hx=>nomatch hx)⟩
 case round=>
  obtain⟨k,ad,r,st,rfl,hk,J0⟩:=hrel;have a7:ad.length+st.length<=N:=by
   have e:=congrArg List.length J0.O.2.1;rw[HN.O,ag] at e;have:=st_late J0.O.2.2.2.2;unfold restN at e;rw[ag] at e;omega
  have ch:(k:Int)<L:=o_
  obtain⟨p,hp⟩:=Ii ad.length;rw[hp] at hk a7;have HP:=If hp;have HL:=If (show Km u4=st.length by
   obtain⟨A,c,e⟩:=J0.O.1.own.E_;rw[e];simp[Km])
  have HK:=If hk;clear hk;gi_wp2_with fail;gi_loopw [4,6,7,8] (fun s4 s6 _ _ wr=>∃(k:Nat) (r:Tr) (st:List Tr),s6=Xi k/\k=p+st.length/\Hid (m9 w0 W.1.size ps Bs Br J ad r.f9 s4 (st.map topH).reverse wr/\ad++restN r st=t.h_/\Tr.At S r/\(∀x∈st,Tr.At S x)/\∀x∈st,x≠ .nil)) (fun _ s6 _ _ _=>N-(intOf s6).toNat)
  case atStart=>exact⟨k,r,st,rfl,HK.O,J0.O⟩
  case round=>
   obtain⟨k,r,st,rfl,hk,J1⟩:=hrel;have a7:p+(r.h_.length+st.length)<=N:=by
    have e:=congrArg List.length J1.O.2.1;rw[HN.O,ag,HP.O] at e;have:=st_late J1.O.2.2.2.2;unfold restN at e;rw[ag] at e;omega
   have ch:(k:Int)<L:=o_
   have c5:k<=N:=o_
   have a8:=If hk;clear hk;have cs:=J1.O.1.cs;have cr:=J1.O.1.cr;have c0:(wr).cell? (y_ Bs)=some (PV ps):=e_ cs
   have b0:(wr).cell? (y_ Br)=some (Xu r.f9):=e_ cr
   have HQ:=kq2 cs cr;rcases is_node r with rfl | ⟨l',d,m,r',rfl⟩
   ·--nothing more to the left
    replace b0:wr.cell? (y_ Br)=some (Xu 0):=b0
    rcases LA st with rfl | ⟨x,ar,rfl⟩
    ·obtain⟨A,c,rfl⟩:=J1.O.1.own.E_;have cb:ad=t.h_:=by
      have:=J1.O.2.1;rw[restN_nil,bw] at this;exact this
     have HF:=kq2 cb J1.O.1.ex;gi_wp2_with fail;refine bodyPost_ret (results_none rfl _ _ _) rfl ?_;obtain⟨e1,X,hj,_⟩:=HF.O;exact⟨⟨_,rfl⟩,X,ad,e1,hj⟩
    ·rcases is_node x with rfl | ⟨l2,d2,m2,r2,rfl⟩
     ·exact absurd rfl (J1.O.2.2.2.2 _ (av ..))
     have bx:((Tr.node l2 d2 m2 r2::ar).map topH).reverse=(ar.map topH).reverse++[d2.h]:=by simp[topH]
     have ba:=J1.O.1;rw[bx] at ba;have a6:(ar.map topH).reverse.length=ar.length:=s_
     obtain⟨bb,cc,rfl,b',ca,hI⟩:=ba.pop;obtain⟨n,hn⟩:=Ii (ar.map topH).reverse.length;rw[hn] at b' ca hI a6;rw[hn];have bf:=If (show k=p+(n+1) by rw[a8.O,aj,a6]);have a4:=J1.O.2.2.2.1 _ (av ..);have a1:=a4.f_ HJ.c;have ai:CallsIn Fence.wide 5 prog 76 #[PV ps,Xu d2.h] wr _:=callsIn_wide.2 (iO (HJ.f.a_ hI.bl) HJ.c.inv d2.h ((fL HJ.c a4.1).2.1));rw[a1] at ai;obtain⟨nn,an⟩:=Ii (Tr.nd l2 d2 m2 r2);have b1:nn.right=r2.f9:=by rw[<-an];rfl
     have bk:ad++(d2,nn)::restN r2 ar=t.h_:=by
      rw[<-an,<-restN_pop];exact J1.O.2.1
     rw[an] at ai;have HG:=kq6 ai hI b1 bk a4 a6;have HU:=If (show p+(n+1)<=N by rw[aj] at a7;omega);have c6:n<=1000:=by have:=HU.O;omega
     have cu:((n:Int)+1==0)=false:=m_
     have hN2:¬((n:Int)+1=0):=o_
     have cv:IntKind.i64.wrap ((n:Int)+1-1)=n:=by rw[Int.add_sub_cancel];exact ax _ o_
     have cw:(n:Int)<(n:Int)+1:=o_
     clear bx ba a6 hn a4 a1 ai an b1 bk hI a7;gi_wp2_with fail;refine HG.a.M ?_;rintro e w2 ⟨rfl,a5⟩;have au:=HG.b.a_ HJ.a a5;have a0:(w2).cell? (y_ Bs)=some (PV ps):=e_ au.cs
     have b2:=If au;rw[J5];obtain⟨fn,c7,co,cp,hy,b4⟩:=m9.yield (S:=fun xs=>xs=t.h_) (Xb nn.key nn.val nn.left nn.right nn.mark nn.size) HJ.a HJ.e b2.O ⟨_,HG.d⟩;dsimp only[JW] at hy
     rw[J5] at hy;gi_wp2_with fail;refine b4.M ?_;rintro e w4 ⟨rfl,ap,b9⟩;have cr:=ap.cr;obtain⟨g0,g1,g2,g3,g4,g5⟩:=ia b9;have e0:(w4).cell? (y_ Br)=some (Xu (Tr.f9 .nil:Nat)):=e_ cr
     have f0:(w4).frozen? (y_ Br)=false:=AT cr;have H4:=If ap;gi_wp2_with fail;go_roundw
     case rel=>
      refine⟨k,ad++[(d2,nn)],r2,ar,rfl,?_,?_⟩
      ·rw[bf.O,ag,bi,HP.O,<-HG.f];omega
      ·rw[HG.c];refine⟨H4.O.write HJ.a r2.f9,?_,HG.e.2.2,fun x hx=>J1.O.2.2.2.1 x (ak _ hx),fun x hx=>J1.O.2.2.2.2 x (ak _ hx)⟩;rw[aY];exact HG.d
     case measure=>
      rw[HL.O];have:=HK.O;have:=HU.O;have:=bf.O;simp[Km,intOf]
      omega
   ·have a3:=J1.O.2.2.1;have a1:=a3.f_ HJ.c;have bq:=fL HJ.c a3.1;have cx:((d.h:Int) !=0)=true:=by have:=bq.1;simp;omega
    have ai:CallsIn Fence.wide 5 prog 76 #[PV ps,Xu d.h] wr _:=callsIn_wide.2 (iO (HJ.f.a_ J1.O.1.bl) HJ.c.inv d.h bq.2.1);rw[a1] at ai;obtain⟨nn,an⟩:=Ii (Tr.nd l' d m r');have hlt:nn.left=l'.f9:=by rw[<-an];rfl
    rw[an] at ai;replace b0:wr.cell? (y_ Br)=some (Xu d.h):=b0
    have bt:(st.map topH).reverse.length<=1000:=m_
    have HG:=kq4 ai hlt a3 bt;clear a3 a1 ai an hlt bt;gi_wp2_with fail;refine HG.a.M ?_;rintro e w2 ⟨rfl,a5⟩;have au:=J1.O.1.a_ HJ.a a5;obtain⟨W3,bj⟩:=Ii (w2.alloc (Xb nn.key nn.val nn.left nn.right nn.mark nn.size));have bo:D_ w2 W3:=by rw[<-bj];exact(aa _ _).alloc Ih _
    have bd:W3.1[w2.1.size]?=some (Xb nn.key nn.val nn.left nn.right nn.mark nn.size):=by rw[<-bj];exact World.alloc_heap_new _ _
    have a2:=au.a_ HJ.a bo;obtain⟨A,mm,c,rfl,A2,cn,c2,W4,cj,ap,bs⟩:=a2.push HJ.a (by have:=HG.d;omega) d.h 59;have a0:(W3).cell? (y_ Bs)=some (PV ps):=e_ a2.cs
    have q0:(W3).cell? (y_ Br)=some (Xu d.h):=e_ a2.cr
    have a9:=ap.cr;obtain⟨g0,g1,g2,g3,g4,g5⟩:=ia ((bs _ (gl bd) (fun e=>by have:=(au.own.ge _ e).2;omega)).T bd);have e0:(W4).cell? (y_ Br)=some (Xu (Tr.node l' d m r').f9):=e_ a9
    have f0:(W4).frozen? (y_ Br)=false:=AT a9;have bv:cn=st.length+1:=by
     obtain⟨A',c',e⟩:=ap.own.E_;cases e
     simp
    have H4:=kq2 ap bv;rw[J5];clear a5 au bo bd a2 ap bs a9 c0 b0 bv;gi_wp2_with (gi_at_builtin;refine Kg _ rfl _ _ _ _ rfl _ _ rfl rfl _ _ cj ?_)
    go_roundw
    case rel=>
     refine⟨k+1,l',Tr.node l' d m r'::st,s_,by have:=a8.O;rw[aj];omega,?_⟩;rw[HG.b];refine⟨?_,by rw[restN_push];exact J1.O.2.1,HG.c.2.1,fun x hx=>?_,fun x hx=>?_⟩
     ·have:=H4.a.write HJ.a l'.f9;rw[bg,List.reverse_cons];exact this
     ·rcases ah.1 hx with rfl | hx
      ·exact J1.O.2.2.1
      ·exact J1.O.2.2.2.1 x hx
     ·rcases ah.1 hx with rfl | hx
      ·exact fun e=>Tr.noConfusion e
      ·exact J1.O.2.2.2.2 x hx
    case measure=>
     have:1<=(Tr.node l' d m r').h_.length:=by simp[h_];omega
     have:=a8.O;simp[intOf]
     omega
