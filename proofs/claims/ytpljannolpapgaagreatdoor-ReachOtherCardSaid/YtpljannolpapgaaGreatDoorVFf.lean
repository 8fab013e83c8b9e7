/- Trees balanced by their heights: join; trees of a kind that is joined: split, insert: plain. -/
import Derived.Test.YtpljannolpapgaaGreatDoorVFc
import Derived.Test.YtpljannolpapgaaGreatDoorVYd
set_option maxRecDepth 100000
set_option maxHeartbeats 6400000
namespace Go.Proofs.YtpljannolpapgaaGreatDoor
section
open Lf
namespace Tr
theorem eZ.nil_of {t:Tr}(h:eZ t)(hm:t.mark=0):t=nil:=by
 cases t with
 | nil=>rfl
 | node l d m r=>
  obtain⟨_,_,h3,_,_⟩:=h;have h3:m=max l.mark r.mark+1:=h3;have hm:m=0:=hm;omega
theorem rg {d:It}{n:Nd}(hk:n.key=d.kh)(hv:n.val=d.vh):∀(f:Nat) {S:St} {o:Nat->Nat} {l r:Tr} {n0:Nd},Fw S o->At S l->At S r->eZ l->eZ r->reco S d.h=some (eM n0)->n0.key=d.kh->n0.val=d.vh->
 (l.hs++d.h::r.hs).Nodup->l.its.length+r.its.length<9000->max l.mark r.mark<=f->
 ∃t S',joinB n d.h f S l.root r.root=some (t.root,S')/\lF S S' o (l.hs++d.h::r.hs) t/\eZ t/\t.its=l.its++d::r.its/\max l.mark r.mark<=t.mark/\t.mark<=max l.mark r.mark+1
 | 0,S,o,l,r,n0,hf,hl,hr,bl,br,hd,hk0,hv0,hnd,hlen,hm=>by
  obtain rfl:=bl.nil_of (by omega);obtain rfl:=br.nil_of (by omega);obtain⟨S1,e1,f1,a1,o1,w1⟩:=jZ hf hl hr hd hk0 hv0 hk hv (by grind) (by grind) (by decide) (by decide) (by omega) (by omega);refine⟨mk nil d nil,S1,?_,⟨f1,a1,fun y hy=>o1 y fun e=>hy (by grind),w1⟩,eZ.mk d trivial trivial (bY _) (bY _),rfl,by omega,by rw[ey];omega⟩;rw[qY,e1];rfl
 | f+1,S,o,l,r,n0,hf,hl,hr,bl,br,hd,hk0,hv0,hnd,hlen,hm=>by
  have sl:=bl.sm (by omega);have sr:=br.sm (by omega);obtain⟨n1,n2,n3⟩:=aC.1 hnd;obtain⟨n4,n5⟩:=aF.1 n2;have a3:d.h∉l.hs:=fun hm=>n3 _ hm _ (am ..) rfl;rw[qX,(hl.height hf (by have:=sl.1;omega)),(hr.height hf (by have:=sr.1;omega))];simp only;by_cases c1:r.mark+1<l.mark
  ·rw[if_pos c1];obtain⟨a,e,b,rfl,ba,bb,a6,a7⟩:=bl.pos (by omega);rw[ey] at c1 hm;have a4:(mk a e b).hs=a.hs++e.h::b.hs:=eY ..;have ap:a.its.length<9000/\b.its.length+r.its.length<9000:=by rw[dQ] at hlen;grind
   rw[a4] at n1 n3 a3;obtain⟨m1,m2,m3⟩:=aC.1 n1;obtain⟨m4,m5⟩:=aF.1 m2;simp only[ax,aj,not_or] at a3;have au:(b.hs++d.h::r.hs).Nodup:=aC.2 ⟨m5,n2,fun x hx y hy=>n3 x (by grind) y hy⟩;obtain⟨t,S1,e1,D1,bt,it,bf,bj⟩:=rg hk hv f hf hl.2.2 hr bb br hd hk0 hv0 au ap.2 (by omega);have bd:t.hs=b.hs++d.h::r.hs:=by unfold hs;grind
   have a9:∀y∈a.hs,y∉b.hs++d.h::r.hs:=fun y hy hm=>by
    grind
   have an:e.h∉b.hs++d.h::r.hs:=fun hm=>by
    grind
   have a8:e.h∉a.hs:=fun hm=>m3 _ hm _ (am ..) rfl;have a1:At S1 a:=hl.2.1.frame fun y hy=>D1.other y (a9 y hy);have bc:t.its.length<9000:=by rw[it];rw[dQ] at hlen;grind
   obtain⟨S2,e2,f2,a2,o2,w2⟩:=jZ D1.fit (n:=nd a e (max a.mark b.mark+1) b) (d:=e) a1 D1.at' ((D1.other _ an).trans hl.1) rfl rfl rfl rfl a8 (by grind)
    (by have:=(ba.sm (by omega)).1;omega) (by have:=(bt.sm (by omega)).1;omega) (by omega) (by omega)
   have ar:(mk a e t).hs=(a.hs++e.h::b.hs)++d.h::r.hs:=by grind [mk,hs,eY]
   have ai:(mk a e t).its=(a.its++e::b.its)++d::r.its:=by rw[dQ,it];simp
   have a0:(mk a e t).hs.Nodup:=by grind
   obtain⟨u,S3,e3,D3,bu,iu,bk,bm,bo⟩:=tJ f2 a2 a0 ba bt (by rw[ai];rw[dQ] at hlen;grind) (by omega) (by omega);refine⟨u,S3,?_,⟨D3.fit,D3.at',?_,(D1.grew.trans w2).trans D3.grew⟩,bu,?_,?_,?_⟩
   ·rw[show (mk a e b).root=e.h from rfl,gw hf hl.1];simp only[nd];rw[e1];simp only;have ad:=e2;simp only[nd] at ad;rw[ad];simp only;rw[e3];exact nU (D3.at'.root_lt D3.fit)
   ·intro y hy;rw[a4] at hy;rw[ar] at D3;have y1:y≠e.h:=fun e=>hy (by rw[e];simp);refine(D3.other y hy).trans ((o2 y y1).trans (D1.other y fun hm=>hy ?_));grind
   ·rw[iu,ai];rfl
   ·rw[ey];omega
   ·rw[ey];omega
  ·rw[if_neg c1];by_cases c2:l.mark+1<r.mark
   ·rw[if_pos c2];obtain⟨a,e,b,rfl,ba,bb,a6,a7⟩:=br.pos (by omega);rw[ey] at c2 hm;have a5:(mk a e b).hs=a.hs++e.h::b.hs:=eY ..;have ap:l.its.length+a.its.length<9000/\b.its.length<9000:=by rw[dQ] at hlen;grind
    rw[a5] at n5 n4 n3;obtain⟨m1,m2,m3⟩:=aC.1 n5;obtain⟨m4,m5⟩:=aF.1 m2;simp only[ax,aj,not_or] at n4;have au:(l.hs++d.h::a.hs).Nodup:=aC.2 ⟨n1,aF.2 ⟨n4.1,m1⟩,fun x hx y hy=>n3 x hx y (by rcases aj.1 hy with hy | hy<;>simp[hy])⟩;obtain⟨t,S1,e1,D1,bt,it,bf,bj⟩:=rg hk hv f hf hl hr.2.1 bl ba hd hk0 hv0 au ap.1 (by omega);have bd:t.hs=l.hs++d.h::a.hs:=by unfold hs;grind
    have a':∀y∈b.hs,y∉l.hs++d.h::a.hs:=fun y hy hm=>by
     grind
    have an:e.h∉l.hs++d.h::a.hs:=fun hm=>by
     grind
    have b1:At S1 b:=hr.2.2.frame fun y hy=>D1.other y (a' y hy);have bc:t.its.length<9000:=by rw[it];rw[dQ] at hlen;grind
    obtain⟨S2,e2,f2,a2,o2,w2⟩:=jZ D1.fit (n:=nd a e (max a.mark b.mark+1) b) (d:=e) D1.at' b1 ((D1.other _ an).trans hr.1) rfl rfl rfl rfl (by grind) m4
     (by have:=(bt.sm (by omega)).1;omega) (by have:=(bb.sm (by omega)).1;omega) (by omega) (by omega)
    have ar:(mk t e b).hs=l.hs++d.h::(a.hs++e.h::b.hs):=by grind [mk,hs,eY]
    have ai:(mk t e b).its=l.its++d::(a.its++e::b.its):=by rw[dQ,it];simp
    have a0:(mk t e b).hs.Nodup:=by grind
    obtain⟨u,S3,e3,D3,bu,iu,bk,bm,bo⟩:=tJ f2 a2 a0 bt bb (by rw[ai];rw[dQ] at hlen;grind) (by omega) (by omega);refine⟨u,S3,?_,⟨D3.fit,D3.at',?_,(D1.grew.trans w2).trans D3.grew⟩,bu,?_,?_,?_⟩
    ·rw[show (mk a e b).root=e.h from rfl,gw hf hr.1];simp only[nd];rw[e1];simp only;have ad:=e2;simp only[nd] at ad;rw[ad];simp only;rw[e3];exact nU (D3.at'.root_lt D3.fit)
    ·intro y hy;rw[a5] at hy;rw[ar] at D3;have y1:y≠e.h:=fun e=>hy (by rw[e];simp);refine(D3.other y hy).trans ((o2 y y1).trans (D1.other y fun hm=>hy ?_));grind
    ·rw[iu,ai];rfl
    ·rw[ey];omega
    ·rw[ey];omega
   ·rw[if_neg c2];obtain⟨S1,e1,f1,a1,o1,w1⟩:=jZ hf hl hr hd hk0 hv0 hk hv a3 n4 (by have:=sl.1;omega) (by have:=sr.1;omega) (by omega) (by omega);refine⟨mk l d r,S1,by rw[e1];rfl,⟨f1,a1,fun y hy=>o1 y fun e=>hy (by grind),w1⟩,eZ.mk d bl br (by omega) (by omega),rfl,by rw[ey];omega,by rw[ey];omega⟩
structure kV (jn:Jn) (Ok:Tr->Prop):Prop where
 nil:Ok nil
 sub:∀{l d m r},Ok (node l d m r)->Ok l/\Ok r
 join:∀{S:St} {o:Nat->Nat} {l r:Tr} {d:It} {n0:Nd},Fw S o->At S l->At S r->Ok l->Ok r->reco S d.h=some (eM n0)->n0.key=d.kh->n0.val=d.vh->
  (l.hs++d.h::r.hs).Nodup->l.its.length+r.its.length<99->
  ∃t S',jn S l.root d.h r.root=some ((t.root,0),S')/\lF S S' o (l.hs++d.h::r.hs) t/\Ok t/\t.its=l.its++d::r.its
theorem va:kV avlJ eZ where
 nil:=trivial
 sub h:=⟨h.1,h.2.1⟩
 join:=by
  intro S o l r d n0 hf hl hr bl br hd hk0 hv0 hnd hlen;obtain⟨t,S',e,D,bt,it,_⟩:=rg (n:=n0) hk0 hv0 100 hf hl hr bl br hd hk0 hv0 hnd (by omega) (by have:=bl.mark_le;have:=br.mark_le;omega);refine⟨t,S',?_,D,bt,it⟩;have ad:=(fL hf hd).1;unfold avlJ;rw[if_neg]
  ·rw[gw hf hd,e];rfl
  ·rw[hl.isT hf,hr.isT hf];have:isT S d.h=true:=by unfold isT;rw[gw hf hd];simp
   grind
theorem fX:∀a:List UInt8,Fu a a=0
 | []=>rfl
 | x::a=>by unfold Fu;rw[if_neg (UInt8.lt_irrefl x),if_neg (UInt8.lt_irrefl x)];exact fX a
theorem jL:∀{a b:List UInt8},Fu a b=0->a=b
 | [],[],_=>rfl
 | [],_::_,h=>by unfold Fu at h;omega
 | _::_,[],h=>by unfold Fu at h;omega
 | x::a,y::b,h=>by
  unfold Fu at h;split at h
  ·omega
  ·rename_i h1;split at h
   ·omega
   ·rename_i h2;have:x=y:=UInt8.le_antisymm (dL.1 h2) (dL.1 h1);rw[this,jL h]
theorem ie:∀a b:List UInt8,Fu b a= -Fu a b
 | [],[]=>rfl
 | [],_::_=>rfl
 | _::_,[]=>rfl
 | x::a,y::b=>by
  unfold Fu;by_cases h1:x<y
  ·rw[if_pos h1,if_neg (UInt8.lt_asymm h1),if_pos h1];rfl
  ·by_cases h2:y<x
   ·rw[if_pos h2,if_neg h1,if_pos h2]
   ·rw[if_neg h1,if_neg h2,if_neg h2,if_neg h1];exact ie a b
theorem ig:∀{a b c:List UInt8},Fu a b<0->Fu b c<0->Fu a c<0
 | [],[],_,h,_=>by unfold Fu at h;omega
 | [],_::_,[],_,h=>by unfold Fu at h;omega
 | [],_::_,_::_,_,_=>by unfold Fu;omega
 | _::_,[],_,h,_=>by unfold Fu at h;omega
 | _::_,_::_,[],_,h=>by unfold Fu at h;omega
 | x::a,y::b,z::c,h1,h2=>by
  unfold Fu at h1 h2⊢;by_cases p:x<y
  ·by_cases q:y<z
   ·rw[if_pos (UInt8.lt_trans p q)];omega
   ·rw[if_neg q] at h2;by_cases q':z<y
    ·rw[if_pos q'] at h2;omega
    ·have:y=z:=UInt8.le_antisymm (dL.1 q') (dL.1 q);subst this;rw[if_pos p];omega
  ·rw[if_neg p] at h1;by_cases p':y<x
   ·rw[if_pos p'] at h1;omega
   ·have:x=y:=UInt8.le_antisymm (dL.1 p') (dL.1 p);subst this;rw[if_neg p'] at h1;by_cases q:x<z
    ·rw[if_pos q];omega
    ·rw[if_neg q] at h2⊢;by_cases q':z<x
     ·rw[if_pos q'] at h2;omega
     ·rw[if_neg q'] at h2⊢;exact ig h1 h2
def eU(a b:It):Prop:=Fu a.k b.k<0
structure gu (S:St) (d:It):Prop where
 k:reco S d.kh=some (FK d.k)
 v:reco S d.vh=some (FK d.v)
 lk:d.k.length<=1000
 lv:d.v.length<=1000
theorem At.blob {S:St}{o:Nat->Nat}(hf:Fw S o){t:List UInt8}(ht:t.length<=1000){h:Nat}(hl:reco S h=some (FK t)):gD S h=some t:=by
 unfold gD;rw[jt hf ht hl];rfl
theorem sn {jn:Jn}{Ok:Tr->Prop}(J:kV jn Ok)(key:List UInt8):∀(f:Nat) {S:St} {o:Nat->Nat} {t:Tr},Fw S o->At S t->Ok t->t.hs.Nodup->(∀d∈t.its,gu S d/\d.kh∉t.hs)->t.its.Pairwise eU->t.its.length<=f->t.its.length<99->
 ∃tl m tr S',kr jn key f S t.root=some ((tl.root,m,tr.root),S')/\Fw S' o/\At S' tl/\At S' tr/\Ok tl/\Ok tr/\(∀h',h'∉t.hs->reco S' h'=reco S h')/\ej S S' 0 0/\
  ((m=0/\t.its=tl.its++tr.its)\/(∃d n0,m=d.h/\d.k=key/\t.its=tl.its++d::tr.its/\reco S' d.h=some (eM n0)/\n0.key=d.kh/\n0.val=d.vh))/\(∀d∈tl.its,Fu d.k key<0)/\(∀d∈tr.its,Fu key d.k<0)
 | 0,S,o,t,hf,ht,hok,hnd,hb,hs,hl,hl2=>by
  cases t with
  | nil=>exact⟨nil,0,nil,S,wZ ..,hf,trivial,trivial,J.nil,J.nil,fun _ _=>rfl,ej.refl S,ab ⟨rfl,rfl⟩,by grind,by grind⟩
  | node l d m r=>simp[its] at hl
 | f+1,S,o,t,hf,ht,hok,hnd,hb,hs,hl,hl2=>by
  cases t with
  | nil=>exact⟨nil,0,nil,S,by rw[sk];rfl,hf,trivial,trivial,J.nil,J.nil,fun _ _=>rfl,ej.refl S,ab ⟨rfl,rfl⟩,by simp[its],by simp[its]⟩
  | node l d m r=>
   obtain⟨h1,h2,h3⟩:=ht;obtain⟨a1,a2⟩:=J.sub hok;have g1:=gw hf h1;have bo:=(fL hf h1).1;rw[eY] at hnd hb⊢;have a6:=(hb d (by simp[its])).1;have ba:=At.blob hf a6.lk a6.k;have bf:(node l d m r).its=l.its++d::r.its:=rfl;rw[bf] at hs hl hl2⊢;obtain⟨n1,n2,n3⟩:=aC.1 hnd;obtain⟨n4,n5⟩:=aF.1 n2;have bk:d.h∉l.hs:=fun hm=>n3 _ hm _ (am ..) rfl;obtain⟨s1,s2,s3⟩:=bz.1 hs;obtain⟨s4,s5⟩:=bp.1 s2;simp only[ah,ag] at hl hl2;have er:(node l d m r).root=d.h:=rfl;rw[er,sk,if_neg (by omega),g1];simp only[nd];rw[ba];simp only;by_cases c1:Fu key d.k<0
   ·rw[if_pos c1];obtain⟨tl,m',tr,S1,e1,f1,al,ar,a3,a4,o1,w1,hm,hlt,a7⟩:=sn J key f hf h2 a1 n1 (fun x hx=>⟨(hb x (by grind)).1,fun hm=>(hb x (by grind)).2 (by grind)⟩) s1 (by omega) (by omega);have ap:∀x∈tr.its,x∈l.its:=fun x hx=>by
     rcases hm with⟨_,e⟩ | ⟨d',_,_,_,e,_⟩<;>rw[e]<;>simp[hx]
    have au:∀x∈tl.its,x∈l.its:=fun x hx=>by
     rcases hm with⟨_,e⟩ | ⟨d',_,_,_,e,_⟩<;>rw[e]<;>simp[hx]
    have a9:∀y∈tr.hs,y∈l.hs:=fun y hy=>by
     obtain⟨x,hx,rfl⟩:=ay.1 hy;exact ay.2 ⟨x,ap x hx,rfl⟩
    have a8:∀y∈tl.hs,y∈l.hs:=fun y hy=>by
     obtain⟨x,hx,rfl⟩:=ay.1 hy;exact ay.2 ⟨x,au x hx,rfl⟩
    have bc:l.hs=tl.hs++tr.hs\/∃x:It,m'=x.h/\l.hs=tl.hs++x.h::tr.hs:=by
     grind [Tr.hs]
    have a0:tr.hs.Nodup/\∀y∈tl.hs,y∉tr.hs:=by
     grind
    have ai:(tr.hs++d.h::r.hs).Nodup:=aC.2 ⟨a0.1,n2,fun x hx y hy=>n3 x (a9 x hx) y hy⟩;have bd:At S1 r:=h3.frame fun y hy=>o1 y fun hm=>n3 _ hm _ (ak _ hy) rfl;have bj:tr.its.length<=l.its.length:=by
     grind
    obtain⟨u,S2,e2,D2,a5,iu⟩:=J.join f1 ar bd a4 a2 ((o1 _ bk).trans h1) rfl rfl ai (by omega);have an:∀y∈tl.hs,y∉tr.hs++d.h::r.hs:=fun y hy hm=>by
     grind
    refine⟨tl,m',u,S2,?_,D2.fit,al.frame fun y hy=>D2.other y (an y hy),D2.at',a3,a5,?_,w1.trans D2.grew,?_,hlt,?_⟩
    ·grind [jq]
    ·intro y hy;simp only[ax,aj,not_or] at hy;refine(D2.other y fun hm=>?_).trans (o1 y hy.1);grind
    ·rcases hm with⟨e0,e⟩ | ⟨d',n0,e0,ek,e,q1,q2,q3⟩
     ·grind
     ·right
      refine⟨d',n0,e0,ek,by rw[iu,e];simp,(D2.other _ fun hm=>?_).trans q1,q2,q3⟩;grind [Tr.hs,List.nodup_cons,List.nodup_append]
    ·intro x hx;rw[iu] at hx;rcases ax.1 hx with hx | hx
     ·grind
     ·rcases aj.1 hx with hx | hx
      ·grind
      ·exact ig c1 (s4 x hx)
   ·rw[if_neg c1];by_cases c2:0<Fu key d.k
    ·rw[if_pos c2];have a':Fu d.k key<0:=by rw[ie];omega
     obtain⟨tl,m',tr,S1,e1,f1,al,ar,a3,a4,o1,w1,hm,hlt,a7⟩:=sn J key f hf h3 a2 n5 (fun x hx=>⟨(hb x (by grind)).1,fun hm=>(hb x (by grind)).2 (by grind)⟩) s5 (by omega) (by omega);have ap:∀x∈tr.its,x∈r.its:=fun x hx=>by
      rcases hm with⟨_,e⟩ | ⟨d',_,_,_,e,_⟩<;>rw[e]<;>simp[hx]
     have au:∀x∈tl.its,x∈r.its:=fun x hx=>by
      rcases hm with⟨_,e⟩ | ⟨d',_,_,_,e,_⟩<;>rw[e]<;>simp[hx]
     have a9:∀y∈tr.hs,y∈r.hs:=fun y hy=>by
      obtain⟨x,hx,rfl⟩:=ay.1 hy;exact ay.2 ⟨x,ap x hx,rfl⟩
     have a8:∀y∈tl.hs,y∈r.hs:=fun y hy=>by
      obtain⟨x,hx,rfl⟩:=ay.1 hy;exact ay.2 ⟨x,au x hx,rfl⟩
     have bc:r.hs=tl.hs++tr.hs\/∃x:It,m'=x.h/\r.hs=tl.hs++x.h::tr.hs:=by
      grind [Tr.hs]
     have a0:tl.hs.Nodup/\∀y∈tl.hs,y∉tr.hs:=by
      grind
     have ai:(l.hs++d.h::tl.hs).Nodup:=aC.2 ⟨n1,aF.2 ⟨fun hm=>n4 (a8 _ hm),a0.1⟩,fun x hx y hy=>n3 x hx y (by
      grind)⟩
     have bb:At S1 l:=h2.frame fun y hy=>o1 y fun hm=>n3 _ hy _ (ak _ hm) rfl;have bj:tl.its.length<=r.its.length:=by
      rcases hm with⟨_,e⟩ | ⟨d',_,_,_,e,_⟩<;>rw[e]<;>simp
     obtain⟨u,S2,e2,D2,a5,iu⟩:=J.join f1 bb al a1 a3 ((o1 _ n4).trans h1) rfl rfl ai (by omega);have an:∀y∈tr.hs,y∉l.hs++d.h::tl.hs:=fun y hy hm=>by
      grind
     refine⟨u,m',tr,S2,?_,D2.fit,D2.at',ar.frame fun y hy=>D2.other y (an y hy),a5,a4,?_,w1.trans D2.grew,?_,?_,a7⟩
     ·grind [jq]
     ·intro y hy;simp only[ax,aj,not_or] at hy;refine(D2.other y fun hm=>?_).trans (o1 y hy.2.2);grind
     ·rcases hm with⟨e0,e⟩ | ⟨d',n0,e0,ek,e,q1,q2,q3⟩
      ·grind
      ·right
       refine⟨d',n0,e0,ek,by rw[iu,e];simp,(D2.other _ fun hm=>?_).trans q1,q2,q3⟩;have bm:d'.h∈r.hs:=ay.2 ⟨d',by rw[e];simp,rfl⟩;grind [List.mem_cons_of_mem,Tr.hs,List.nodup_append,List.mem_cons_self]
     ·intro x hx;rw[iu] at hx;rcases ax.1 hx with hx | hx
      ·exact ig (s3 x hx d (am ..)) a'
      grind
    ·rw[if_neg c2];have ad:key=d.k:=jL (by omega);refine⟨l,d.h,r,S,rfl,hf,h2,h3,a1,a2,fun _ _=>rfl,ej.refl S,ae ⟨d,_,rfl,ad.symm,rfl,h1,rfl,rfl⟩,?_,?_⟩
     ·intro x hx;rw[ad];exact s3 x hx d (am ..)
     ·intro x hx;rw[ad];exact s4 x hx
end Tr
namespace Tr
variable{S:St}{k:Nat}{key:List UInt8}{o:Nat->Nat}{t:Tr}
def eB(l:List It):List Nat:=l.flatMap fun d=>[d.h,d.kh,d.vh]
def pairs(l:List It):List (List UInt8×List UInt8):=l.map fun d=>(d.k,d.v)
structure fC (Ok:Tr->Prop) (S:St) (o:Nat->Nat) (t:Tr):Prop where
 fit:Fw S o
 at':At S t
 ok:Ok t
 nd:(eB t.its).Nodup
 blobs:∀d∈t.its,gu S d
 sorted:t.its.Pairwise eU
theorem iX(a b:List It):eB (a++b)=eB a++eB b:=by unfold eB;grind
theorem mx(d:It)(b:List It):eB (d::b)=d.h::d.kh::d.vh::eB b:=rfl
theorem gU{l:List It}{y:Nat}:y∈eB l↔∃d∈l,y=d.h\/y=d.kh\/y=d.vh:=by
 unfold eB;grind
theorem tB:∀{l:List It},(eB l).Nodup->(l.map (·.h)).Nodup/\∀d∈l,d.kh∉l.map (·.h)/\d.vh∉l.map (·.h)
 | [],_=>⟨dJ,fun _ hd=>by cases hd⟩
 | d::l,h=>by
  rw[mx] at h;obtain⟨h1,h2⟩:=aF.1 h;obtain⟨h3,h4⟩:=aF.1 h2;obtain⟨h5,h6⟩:=aF.1 h4;obtain⟨g1,g2⟩:=tB h6;simp only[aj,not_or] at h1 h3;have ad:∀x∈l,x.h∈eB l/\x.kh∈eB l/\x.vh∈eB l:=fun x hx=>⟨gU.2 ⟨x,hx,ab rfl⟩,gU.2 ⟨x,hx,ae (ab rfl)⟩,gU.2 ⟨x,hx,ae (ae rfl)⟩⟩;have hm:∀y,y∉eB l->y∉l.map (·.h):=fun y hy hm=>by
   obtain⟨x,hx,rfl⟩:=ay.1 hm;exact hy (ad x hx).1
  refine⟨aF.2 ⟨hm _ h1.2.2,g1⟩,fun x hx=>?_⟩;rw[bg];simp only[aj,not_or];rcases aj.1 hx with rfl | hx
  ·exact⟨⟨fun e=>h1.1 e.symm,hm _ h3.2⟩,fun e=>h1.2.1 e.symm,hm _ h5⟩
  ·exact⟨⟨fun e=>h1.2.2 (e▸(ad x hx).2.1),(g2 x hx).1⟩,fun e=>h1.2.2 (e▸(ad x hx).2.2),(g2 x hx).2⟩
theorem fC.hs{Ok:Tr->Prop}(h:fC Ok S o t):t.hs.Nodup/\∀d∈t.its,d.kh∉t.hs/\d.vh∉t.hs:=tB h.nd
theorem Dk{l m:List Nat}(h:l.Nodup)(hs:∀y∈l,y∈m):l.length<=m.length:=by
 induction l generalizing m with
 | nil=>exact bY _
 | cons x r ih=>
  obtain⟨h1,h2⟩:=aF.1 h;have hx:=hs x (am ..);have:=ih h2 (m:=m.erase x) fun y hy=>by
   grind
  rw[List.length_erase_of_mem hx] at this;have:0<m.length:=List.length_pos_of_mem hx;simp only[ag];omega
theorem vV {f:Nat->Nat}:∀{l:List Nat},(∀x∈l,∀y∈l,f x=f y->x=y)->l.Nodup->(l.map f).Nodup
 | [],_,_=>dJ
 | x::l,h,hn=>by
  obtain⟨h1,h2⟩:=aF.1 hn;rw[bg];refine aF.2 ⟨fun hm=>?_,vV (fun a ha b hb=>h a (ak _ ha) b (ak _ hb)) h2⟩;obtain⟨y,hy,e⟩:=ay.1 hm;have:=h y (ak _ hy) x (am ..) e;exact h1 (this▸hy)
theorem EB(n:Nat):(List.replicate n 8).sum=n*8:=by
 simp_all
theorem AI(hf:Fw S o){h:Nat}{ws:List Nat}(hl:reco S h=some ws)(hw:6<=ws.length):∃a r,eO S.a o a r/\8<=r/\∃(k:Nat) (x:dR),S.t.slots[k]?=some x/\x.is=1/\h=gj x.gen k/\x.addr=a:=by
 obtain⟨k,x,hx,h1,h2,rfl⟩:=(gT hf.tab).1 hl;obtain⟨r,g1,g2,g3⟩:=hf.live k x hx h1;grind [Jy]
theorem D6(hf:Fw S o){l:List Nat}(hn:l.Nodup)(hl:∀h∈l,∃ws,reco S h=some ws/\6<=ws.length):l.length<=8*S.a.pages.length:=by
 have key:∀h∈l,∃a r,eO S.a o a r/\8<=r/\∃(k:Nat) (x:dR),S.t.slots[k]?=some x/\x.is=1/\h=gj x.gen k/\x.addr=a:=fun h hm=>by
  obtain⟨ws,h1,h2⟩:=hl h hm;exact AI hf h1 h2
 let f:Nat->Nat:=fun h=>if hm:h∈l then(key h hm).choose / 8 else 0
 have ad:∀h (hm:h∈l),f h=(key h hm).choose / 8:=fun h hm=>by grind
 have ai:(l.map f).Nodup:=by
  refine vV ?_ hn;intro x hx y hy he;rw[ad x hx,ad y hy] at he;obtain⟨r,p1,q1,k1,s1,a1,b1,c1,d1⟩:=(key x hx).choose_spec;obtain⟨r',p2,q2,k2,s2,a2,b2,c2,d2⟩:=(key y hy).choose_spec;generalize (key x hx).choose=A at*;generalize (key y hy).choose=B at*
  rcases eO.apart hf.own p1 p2 with g | g | g
  ·have e:k1=k2:=hf.inj k1 k2 s1 s2 a1 a2 b1 b2 (by rw[d1,d2];exact g.1);subst e;rw[a1] at a2
   injection a2 with a2
   subst a2;rw[c1,c2]
  ·omega
  omega
 have an:∀y∈l.map f,y∈S.a.keys.flatMap fun p=>(List.range 8).map fun j=>8*p+j:=by
  intro y hy;obtain⟨h,hm,rfl⟩:=ay.1 hy;rw[ad h hm];obtain⟨r,p1,q1,_⟩:=(key h hm).choose_spec;generalize (key h hm).choose=A at*;refine List.mem_flatMap.2 ⟨A / 64,((p1.ok hf.own (b:=0) (by omega)).2.2),ay.2 ⟨A / 8 % 8,aZ.2 (by omega),by omega⟩⟩
 have:=Dk ai an;rw[ao,List.length_flatMap] at this;have e:(S.a.keys.map fun p=>((List.range 8).map fun j=>8*p+j).length)=S.a.keys.map fun _=>8:=by
  grind
 rw[e,List.map_const',EB,i8] at this;omega
theorem At.rec {S:St}:∀{t:Tr},At S t->∀h∈t.hs,∃n:Nd,reco S h=some (eM n)
 | nil,_,h,hm=>by cases hm
 | node l d m r,⟨h1,h2,h3⟩,h,hm=>by
  rw[eY] at hm;rcases ax.1 hm with hm | hm
  ·exact h2.rec h hm
  ·rcases aj.1 hm with rfl | hm
   ·exact⟨_,h1⟩
   ·exact h3.rec h hm
theorem fC.limit{Ok:Tr->Prop}(h:fC Ok S o t):t.its.length<Lf.limit S:=by
 have:=D6 h.fit h.hs.1 fun y hy=>by
  obtain⟨n,hn⟩:=h.at'.rec y hy;exact⟨_,hn,by simp[eM]⟩
 grind [Tr.hs,List.length_map,Lf.limit,St.words]
def Fr(key:List UInt8)(l:List It):Nat:=l.countP fun d=>decide (Fu d.k key<0)
theorem lJ(key:List UInt8)(a b:List It):Fr key (a++b)=Fr key a+Fr key b:=List.countP_append
theorem lI{l:List It}(h:∀d∈l,Fu d.k key<0):Fr key l=l.length:=List.countP_eq_length.2 fun d hd=>by simpa using h d hd
theorem lK{l:List It}(h:∀d∈l,¬Fu d.k key<0):Fr key l=0:=List.countP_eq_zero.2 fun d hd=>by simpa using h d hd
theorem qs {S:St}{o:Nat->Nat}(hf:Fw S o)(key:List UInt8):∀(f:Nat) {t:Tr} {b:Nat},At S t->(∀d∈t.its,gu S d)->t.its.Pairwise eU->t.its.length<=f->b+t.its.length<1000000->
 ∃hh,ij S key f t.root b=some (hh,b+Fr key t.its)/\((hh=0/\∀d∈t.its,d.k≠key)\/∃d∈t.its,d.k=key/\hh=d.h)
 | 0,t,b,ha,hb,hs,hl,hc=>by
  cases t with
  | nil=>exact⟨0,rfl,ab ⟨rfl,fun _ hd=>by grind⟩⟩
  | node l d m r=>simp[its] at hl
 | f+1,t,b,ha,hb,hs,hl,hc=>by
  cases t with
  | nil=>exact⟨0,by rw[JO];rfl,ab ⟨rfl,fun _ hd=>by cases hd⟩⟩
  | node l d m r=>
   have g1:=ha.getNode hf;obtain⟨h1,h2,h3⟩:=ha;have ar:=(fL hf h1).1;have hi:(node l d m r).its=l.its++d::r.its:=rfl;rw[hi] at hb hs hl hc⊢;simp only[ah,ag] at hl hc;obtain⟨s1,s2,s3⟩:=bz.1 hs;obtain⟨s4,s5⟩:=bp.1 s2;have ai:=hb d (by simp);have er:(node l d m r).root=d.h:=rfl;rw[er,JO,if_neg (by omega),g1,if_neg (by simp)];simp only[nd];rw[At.blob hf ai.lk ai.k];simp only;rw[lJ];by_cases c1:Fu key d.k<0
   ·rw[if_pos c1];obtain⟨hh,e,q⟩:=qs hf key f h2 (fun x hx=>hb x (by simp[hx])) s1 (by omega) (b:=b) (by omega);have hz:Fr key (d::r.its)=0:=lK fun x hx=>by
     rcases aj.1 hx with rfl | hx
     ·rw[ie];omega
     ·have:=ig c1 (s4 x hx);rw[ie];omega
    refine⟨hh,by rw[e,hz];rfl,?_⟩;rcases q with⟨q1,q2⟩ | ⟨x,hx,q⟩
    ·left
     refine⟨q1,fun x hx=>?_⟩;rcases ax.1 hx with hx | hx
     ·exact q2 x hx
     ·intro e;rcases aj.1 hx with rfl | hx
      ·rw[<-e,fX] at c1;omega
      ·have:=ig c1 (s4 x hx);rw[e,fX] at this;omega
    grind
   ·rw[if_neg c1,(h2.size hf (by omega))];simp only;by_cases c2:0<Fu key d.k
    ·rw[if_pos c2,oI (by omega)];simp only;have ad:Fu d.k key<0:=by rw[ie];omega
     obtain⟨hh,e,q⟩:=qs hf key f h3 (fun x hx=>hb x (by simp[hx])) s5 (by omega) (b:=b+(l.its.length+1)) (by omega);have hz:Fr key l.its=l.its.length:=lI fun x hx=>ig (s3 x hx d (am ..)) ad;have ap:Fr key (d::r.its)=Fr key r.its+1:=by
      unfold Fr;rw[List.countP_cons,if_pos (by simpa using ad)]
     refine⟨hh,by rw[e,hz,ap];congr 2;omega,?_⟩;rcases q with⟨q1,q2⟩ | ⟨x,hx,q⟩
     ·left
      refine⟨q1,fun x hx=>?_⟩;rcases ax.1 hx with hx | hx
      ·intro e;have:=ig (s3 x hx d (am ..)) ad;rw[e,fX] at this;omega
      ·rcases aj.1 hx with rfl | hx
       ·intro e;rw[e,fX] at c2;omega
       ·exact q2 x hx
     grind
    ·rw[if_neg c2,oI (by omega)];have an:key=d.k:=jL (by omega);have hz:Fr key l.its=l.its.length:=lI fun x hx=>by rw[an];exact s3 x hx d (am ..)
     have ap:Fr key (d::r.its)=0:=lK fun x hx=>by
      grind [fX,eU,ie]
     exact⟨d.h,by simp_all,ae ⟨d,by simp,an.symm,rfl⟩⟩
theorem pP {S:St}{o:Nat->Nat}(hf:Fw S o):∀(f:Nat) {t:Tr} {k:Nat} (_:At S t) (_:t.its.length<=f) (_:t.its.length<1000000) (hk:k<t.its.length),j8 S f t.root k=some (t.its[k].h,0)
 | 0,t,k,ha,hl,hc,hk=>by omega
 | f+1,t,k,ha,hl,hc,hk=>by
  cases t with
  | nil=>simp[its] at hk
  | node l d m r=>
   have g1:=ha.getNode hf;obtain⟨h1,h2,h3⟩:=ha;have hi:(node l d m r).its=l.its++d::r.its:=rfl;have ad:(node l d m r).its.length=l.its.length+(r.its.length+1):=by grind
   have er:(node l d m r).root=d.h:=rfl;rw[er,tF,g1,if_neg (by simp)];simp only[nd];rw[(h2.size hf (by omega))];simp only;by_cases c1:k<l.its.length
   ·rw[if_pos c1,pP hf f h2 (by omega) (by omega) c1];grind
   ·rw[if_neg c1];by_cases c2:l.its.length<k
    ·rw[if_pos c2,pP hf f h3 (k:=k-(l.its.length+1)) (by omega) (by omega) (by omega)];simp only[hi];rw[List.getElem_append_right (by omega),List.getElem_cons,dif_neg (by omega)];congr 3
    grind
theorem fC.down{Ok:Tr->Prop}(h:fC Ok S o t)(hc:t.its.length<100000)(key:List UInt8):∃hh,ij S key (Lf.limit S) t.root 0=some (hh,Fr key t.its)/\((hh=0/\∀d∈t.its,d.k≠key)\/∃d∈t.its,d.k=key/\hh=d.h):=by
 obtain⟨hh,e,q⟩:=qs h.fit key (Lf.limit S) h.at' h.blobs h.sorted (by have:=h.limit;omega) (b:=0) (by omega);grind
theorem fC.place{Ok:Tr->Prop}(h:fC Ok S o t)(hc:t.its.length<100000)(hk:k<t.its.length):treeAtM S t.root k=some (t.its[k].k,t.its[k].v):=by
 have hm:t.its[k]∈t.its:=aw hk;have hb:=h.blobs _ hm;have hw:kD S t.root k=some (t.its[k].h,0):=by
  unfold kD;rw[h.at'.size h.fit (by omega)];simp only;rw[if_neg (by omega),pP h.fit _ h.at' (by have:=h.limit;omega) (by omega) hk]
 have ad:∃n0:Nd,reco S t.its[k].h=some (eM n0)/\n0.key=t.its[k].kh/\n0.val=t.its[k].vh:=by
  have:∀{t:Tr},At S t->∀d∈t.its,∃n0:Nd,reco S d.h=some (eM n0)/\n0.key=d.kh/\n0.val=d.vh:=by
   intro t
   induction t with
   | nil=>intro _ d hd;cases hd
   | node l e m r ih1 ih2=>
    intro ha d hd;obtain⟨h1,h2,h3⟩:=ha
    rcases ax.1 (show d∈l.its++e::r.its from hd) with hd | hd
    ·grind
    ·rcases aj.1 hd with rfl | hd
     ·exact⟨_,h1,rfl,rfl⟩
     grind
  exact this h.at' _ hm
 obtain⟨n0,e1,e2,e3⟩:=ad;unfold treeAtM;rw[hw];simp only;rw[if_neg (by have:=(fL h.fit e1).2.1;omega),gw h.fit e1];simp only;rw[e2,e3,At.blob h.fit hb.lk hb.k,At.blob h.fit hb.lv hb.v]
theorem fC.over{Ok:Tr->Prop}(h:fC Ok S o t)(hc:t.its.length<100000)(hk:t.its.length<=k):kD S t.root k=some (0,2):=by
 unfold kD;rw[h.at'.size h.fit (by omega)];grind
end Tr
end
section
open Lf Tr
structure Bn (K:Type) where
 h:Nat
 es:List It
 ks:List K
def Bt:Nat->Type
 | 0=>Empty
 | d+1=>Bn (Bt d)
namespace Bt
variable{d:Nat}{k:Nat}{key:List UInt8}
def ei:List It->List (List It)->List It
 | [],[]=>[]
 | [],k::_=>k
 | e::es,[]=>e::ei es []
 | e::es,k::ks=>k++e::ei es ks
def lo:List It->List (List It)->List It
 | e::es,k::ks=>k++e::lo es ks
 | _,_=>[]
def hd: {d:Nat} ->Bt d->Nat
 | 0,x=>nomatch x
 | _+1,x=>Bn.h x
def nk: {d:Nat} ->Bt d->Nat
 | 0,x=>nomatch x
 | _+1,x=>(Bn.es x).length
def its: {d:Nat} ->Bt d->List It
 | 0,x=>nomatch x
 | _+1,x=>ei (Bn.es x) ((Bn.ks x).map fun k=>its k)
def nodes: {d:Nat} ->Bt d->List Nat
 | 0,x=>nomatch x
 | _+1,x=>Bn.h x::((Bn.ks x).map fun k=>nodes k).flatten
def Ok(t:Nat): {d:Nat} ->Bt d->Prop
 | 0,x=>nomatch x
 | d+1,x=>(Bn.es x).length<=2*t-1/\((Bn.ks x).length=if d=0 then 0 else(Bn.es x).length+1)/\∀k∈Bn.ks x,Ok t k/\t<=nk k+1
theorem dQ(x:Bt (d+1)):its x=ei (Bn.es x) ((Bn.ks x).map its):=rfl
theorem jQ(x:Bt (d+1)):nodes x=Bn.h x::((Bn.ks x).map nodes).flatten:=rfl
theorem jY:∀es:List It,ei es []=es
 | []=>rfl
 | e::es=>by rw[ei,jY es]
theorem nil_of_zero(l:List (Bt 0)):l=[]:=by
 cases l with
 | nil=>rfl
 | cons a _=>exact nomatch (a:Empty)
theorem its_leaf(x:Bt 1):its x=Bn.es x:=by rw[dQ,nil_of_zero (Bn.ks x)];exact jY _
theorem xU:∀(es:List It) (ks:List (List It)) (k:Nat),k<=es.length->ks.length=es.length+1->ei es ks=lo (es.take k) (ks.take k)++ei (es.drop k) (ks.drop k)
 | _,_,0,_,_=>by simp[lo]
 | [],_,k+1,h,_=>by simp at h
 | e::es,[],k+1,_,h=>by simp at h
 | e::es,a::ks,k+1,h1,h2=>by
  simp only[ag,Nat.add_le_add_iff_right,di] at h1 h2;have:=xU es ks k h1 h2;simp only[bW,bU,lo,ei,this,bC,aK]
def gJ(es:List It)(ks:List (List It))(k:Nat):List It:=
 match es.drop k with
 | []=>[]
 | e::r=>e::ei r (ks.drop (k+1))
theorem nA{es:List It}{ks:List (List It)}(h1:k<=es.length)(h2:ks.length=es.length+1):ei es ks=lo (es.take k) (ks.take k)++(ks.getD k []++gJ es ks k):=by
 grind [xU,List.drop_eq_getElem_cons,List.getElem?_eq_getElem,gJ,ei]
theorem mP{es:List It}{ks:List (List It)}(h:k<es.length):gJ es ks k=es[k]::ei (es.drop (k+1)) (ks.drop (k+1)):=by
 unfold gJ;rw[bM h]
theorem uL{es:List It}{ks:List (List It)}(h:es.length<=k):gJ es ks k=[]:=by
 unfold gJ;rw[dr h]
theorem lo_length:∀(es:List It) (ks:List (List It)),es.length=ks.length->(lo es ks).length=es.length+(ks.map List.length).sum
 | [],[],_=>rfl
 | [],_::_,h=>by simp at h
 | _::_,[],h=>by simp at h
 | e::es,k::ks,h=>by
  simp only[ag,di] at h;have:=lo_length es ks h;simp only[lo,ah,ag,this,bg,List.sum_cons];omega
theorem JD:∀(es:List It) (ks:List (List It)),(ks=[]\/ks.length=es.length+1)->es.Sublist (ei es ks)
 | [],_,_=>List.nil_sublist _
 | e::es,[],_=>by rw[jY];grind
 | e::es,k::ks,h=>by
  have h:ks.length=es.length+1:=by
   rcases h with h | h
   ·cases h
   ·simpa using h
  exact((JD es ks (ae h)).cons_cons e).trans (List.sublist_append_right _ _)
theorem Lv{a b c:It}(h:eU a b)(g:eU b c):eU a c:=ig h g
theorem vu {key:List UInt8}:∀(es:List It) (ks:List (List It)),es.length=ks.length->(lo es ks).Pairwise eU->(∀e∈es,Fu e.k key<0)->∀d∈lo es ks,Fu d.k key<0
 | [],_,_,_,_,d,hd=>by cases hd
 | _::_,[],h,_,_,d,hd=>by simp at h
 | e::es,k::ks,h,hp,hb,d,hd=>by
  simp only[ag,di] at h;rw[lo] at hp hd;obtain⟨p1,p2,p3⟩:=bz.1 hp;have he:=hb e (am ..);rcases ax.1 hd with hd | hd
  ·exact ig (p3 d hd e (am ..)) he
  ·rcases aj.1 hd with rfl | hd
   ·exact he
   ·exact vu es ks h (bp.1 p2).2 (fun e he=>hb e (ak _ he)) d hd
theorem lL {key:List UInt8}:∀{l:List It},l.Pairwise eU->(∀d∈l.take (Fr key l),Fu d.k key<0)/\(∀d∈l.drop (Fr key l),¬Fu d.k key<0)/\Fr key l<=l.length
 | [],_=>⟨by grind,by grind,Nat.le_refl _⟩
 | e::l,h=>by
  obtain⟨h1,h2⟩:=bp.1 h;obtain⟨g1,g2,g3⟩:=lL (key:=key) h2;by_cases he:Fu e.k key<0
  ·have hb:Fr key (e::l)=Fr key l+1:=by unfold Fr;rw[List.countP_cons_of_pos (by simpa using he)]
   grind
  ·have ad:∀d∈l,¬Fu d.k key<0:=fun d hd hlt=>he (ig (h1 d hd) hlt);have hb:Fr key (e::l)=0:=lK fun d hd=>by
    rcases aj.1 hd with rfl | hd
    ·exact he
    ·exact ad d hd
   grind
def findB(key:List UInt8)(l:List It):Option It:=l.find? fun d=>d.k==key
theorem oa{a b:List It}(h:∀d∈a,d.k≠key):findB key (a++b)=findB key b:=by
 grind [findB,List.find?_eq_none,hd]
theorem findB_none{a:List It}(h:∀d∈a,d.k≠key):findB key a=none:=bE.2 fun d hd=>by simpa using h d hd
theorem AR{a b:List It}(h:∀d∈b,d.k≠key):findB key (a++b)=findB key a:=by
 grind [findB,List.find?_eq_none,hd,List.find?]
theorem ur{e:It}{l:List It}(h:e.k=key):findB key (e::l)=some e:=by
 unfold findB;grind
theorem ne_of_lt{d:It}(h:Fu d.k key<0):d.k≠key:=fun e=>by rw[e,fX] at h;omega
theorem ne_of_gt{d:It}(h:0<Fu d.k key):d.k≠key:=fun e=>by rw[e,fX] at h;omega
structure ix (key:List UInt8) (es:List It) (ks:List (List It)):Prop where
 len:ks.length=es.length+1
 lo:∀d∈lo (es.take (Fr key es)) (ks.take (Fr key es)),Fu d.k key<0
 le:Fr key es<=es.length
 hi:∀d∈gJ es ks (Fr key es),¬Fu d.k key<0
 kid:(ks.getD (Fr key es) []).Pairwise eU
 hiS:(gJ es ks (Fr key es)).Pairwise eU
 kh:∀a∈ks.getD (Fr key es) [],∀b∈gJ es ks (Fr key es),eU a b
theorem l7{es:List It}{ks:List (List It)}(h:ks.length=es.length+1)(hs:(ei es ks).Pairwise eU):ix key es ks:=by
 have ad:es.Pairwise eU:=hs.sublist (JD es ks (ae h));obtain⟨b1,b2,b3⟩:=lL (key:=key) ad;have hw:=nA (ks:=ks) b3 h;rw[hw] at hs;obtain⟨p1,p2,p3⟩:=bz.1 hs;obtain⟨q1,q2,q3⟩:=bz.1 p2;refine⟨h,vu _ _ (by grind) p1 b1,b3,?_,q1,q2,q3⟩;intro d hd
 by_cases hk:Fr key es<es.length
 ·rw[mP hk] at hd q2;have he:=b2 es[Fr key es] (by rw[bM hk];grind)
  rcases aj.1 hd with rfl | hd
  ·omega
  ·exact fun hlt=>he (ig ((bp.1 q2).1 d hd) hlt)
 ·rw[uL (by omega)] at hd
  grind
theorem ix.parts{es:List It}{ks:List (List It)}(h:ix key es ks):ei es ks=Bt.lo (es.take (Fr key es)) (ks.take (Fr key es))++(ks.getD (Fr key es) []++gJ es ks (Fr key es)):=nA h.le h.len
theorem ix.lo_len{es:List It}{ks:List (List It)}(h:ix key es ks):(Bt.lo (es.take (Fr key es)) (ks.take (Fr key es))).length=Fr key es+((ks.take (Fr key es)).map List.length).sum:=by
 have h1:=h.le;have h2:=h.len;grind [lo_length,List.length_take]
theorem ix.below{es:List It}{ks:List (List It)}(h:ix key es ks):Fr key (ei es ks)=Fr key es+((ks.take (Fr key es)).map List.length).sum+Fr key (ks.getD (Fr key es) []):=by
 rw[h.parts,lJ,lJ,lI h.lo,lK h.hi,h.lo_len];rfl
theorem ix.here{es:List It}{ks:List (List It)}(h:ix key es ks)(hk:Fr key es<es.length)(he:(es[Fr key es]).k=key):findB key (ei es ks)=some es[Fr key es]/\Fr key (ks.getD (Fr key es) [])=(ks.getD (Fr key es) []).length:=by
 have ad:∀d∈ks.getD (Fr key es) [],Fu d.k key<0:=fun d hd=>by
  have:=h.kh d hd es[Fr key es] (by rw[mP hk];exact am ..);unfold eU at this
  grind
 refine⟨?_,lI ad⟩;rw[h.parts,oa fun d hd=>ne_of_lt (h.lo d hd),oa fun d hd=>ne_of_lt (ad d hd),mP hk,ur he]
theorem ix.down{es:List It}{ks:List (List It)}(h:ix key es ks)(hn:∀hk:Fr key es<es.length,(es[Fr key es]).k≠key):findB key (ei es ks)=findB key (ks.getD (Fr key es) []):=by
 rw[h.parts,oa fun d hd=>ne_of_lt (h.lo d hd),AR];intro d hd
 by_cases hk:Fr key es<es.length
 ·have h2:=h.hi;have h3:=h.hiS;rw[mP hk] at hd h2 h3;have e0:=h2 _ (am ..);have e1:0<Fu (es[Fr key es]).k key:=by
   grind [Int.lt_trichotomy,Fu,Fr,absurd,jL]
  rcases aj.1 hd with rfl | hd
  ·grind
  ·have:=(bp.1 h3).1 d hd;have h4:Fu key d.k<0:=ig (by rw[ie];omega) this
   grind
 ·rw[uL (by omega)] at hd
  grind
theorem vl{es:List It}(hs:es.Pairwise eU)(hn:∀hk:Fr key es<es.length,(es[Fr key es]).k≠key):∀d∈es,d.k≠key:=by
 obtain⟨b1,b2,b3⟩:=lL (key:=key) hs;intro d hd;rw[<-aX (Fr key es) es] at hd
 rcases ax.1 hd with hd | hd
 ·exact ne_of_lt (b1 d hd)
 ·by_cases hk:Fr key es<es.length
  ·have ad:=hs.drop (i:=Fr key es);rw[bM hk] at hd b2 ad;have e1:0<Fu (es[Fr key es]).k key:=by
    rcases dI (Fu (es[Fr key es]).k key) 0 with g | g | g
    ·exact absurd g (b2 _ (am ..))
    ·exact absurd (jL g) (hn hk)
    ·exact g
   rcases aj.1 hd with rfl | hd
   ·exact ne_of_gt e1
   ·have:=(bp.1 ad).1 d hd;have h4:Fu key d.k<0:=ig (by rw[ie];omega) this;exact fun e=>by rw[e,fX] at h4;omega
  grind
theorem Kv{es:List It}(hs:es.Pairwise eU)(hk:Fr key es<es.length)(he:(es[Fr key es]).k=key):findB key es=some es[Fr key es]:=by
 obtain⟨b1,b2,b3⟩:=lL (key:=key) hs
 conv=>lhs;rw[<-aX (Fr key es) es]
 grind [oa,hd,ne_of_lt,List.drop_eq_getElem_cons,ur]
theorem Ok.kids{t d:Nat}{x:Bt (d+2)}(h:Ok t x):(Bn.ks x).length=(Bn.es x).length+1:=by
 have:=h.2.1;grind
theorem Ok.rows{t d:Nat}{x:Bt (d+2)}(h:Ok t x):((Bn.ks x).map its).length=(Bn.es x).length+1:=by
 rw[ao];exact h.kids
theorem jN{ks:List (Bt d)}(h:k<ks.length):(ks.map its).getD k []=its ks[k]:=by
 grind
theorem pow_le(t:Nat)(ht:2<=t):∀{d:Nat} {x:Bt d},Ok t x->1<=nk x->2^d<=(its x).length+1
 | 0,x,_,_=>nomatch x
 | 1,x,_,h=>by
  rw[its_leaf];have:1<=(Bn.es x).length:=h;omega
 | d+2,x,h,h1=>by
  have hk:=Ok.kids h;have h1:1<=(Bn.es x).length:=h1;obtain⟨e,es,he⟩:=dj (l:=Bn.es x) (by omega);have ad:2<=(Bn.ks x).length:=by omega
  obtain⟨a,r,hr⟩:=dj (l:=Bn.ks x) (by omega);obtain⟨b,r2,ai⟩:=dj (l:=r) (by rw[hr] at ad;simp at ad;omega);subst ai;have ha:=h.2.2 a (by rw[hr];exact am ..);have hb:=h.2.2 b (by rw[hr];exact ak _ (am ..));have pa:=pow_le t ht ha.1 (by omega);have pb:=pow_le t ht hb.1 (by omega);have hi:its (d:=d+2) x=its a++e::ei es (its b::r2.map its):=by
   rw[dQ,he,hr];rfl
  have hw:(its b).length<=(ei es (its b::r2.map its)).length:=by
   cases es with
   | nil=>simp[ei]
   | cons f es=>simp[ei]
  grind
end Bt
namespace Bt
variable{e:It}{k:Nat}
theorem nz:∀(A B:List It) (C D:List (List It)),A.length=C.length->ei (A++B) (C++D)=lo A C++ei B D
 | [],_,[],_,_=>rfl
 | [],_,_::_,_,h=>by simp at h
 | _::_,_,[],_,h=>by simp at h
 | a::A,B,c::C,D,h=>by
  simp only[ag,di] at h;simp only[aK,ei,lo,nz A B C D h,bC]
theorem xV(es:List It)(ks:List (List It))(k:Nat)(r:List It):ei (es.drop k) (r::ks.drop (k+1))=r++gJ es ks k:=by
 grind [gJ,ei]
theorem oW{α:Type}{l:List α}(h:k<l.length):l=l.take k++l[k]::l.drop (k+1):=by
 simp_all
theorem E6{es:List It}{ks:List (List It)}(h1:k<=es.length)(h2:ks.length=es.length+1)(r:List It):ei es (ks.set k r)=lo (es.take k) (ks.take k)++(r++gJ es ks k):=by
 have hk:k<ks.length:=by omega
 have e1:ks.set k r=ks.take k++r::ks.drop (k+1):=by rw[cX,if_pos hk]
 grind [List.take_append_drop,nz,List.length_take,xV]
theorem E4{es:List It}{ks:List (List It)}(h1:k<=es.length)(h2:ks.length=es.length+1)(m:It)(r1 r2:List It):
 ei (es.take k++m::es.drop k) (ks.take k++r1::r2::ks.drop (k+1))=lo (es.take k) (ks.take k)++(r1++m::(r2++gJ es ks k)):=by
 grind [nz,List.length_take,ei,xV]
theorem E5{es:List It}{ks:List (List It)}{i:Nat}(h1:i<es.length)(h2:ks.length=es.length+1):ei es ks=ei (es.take i) (ks.take (i+1))++es[i]::ei (es.drop (i+1)) (ks.drop (i+1)):=by
 have hk:i<ks.length:=by omega
 have e3:ks.take (i+1)=ks.take i++[ks[i]]:=by rw[aH hk]
 have e4:=nz (es.take i) [] (ks.take i) [ks[i]] (by rw[aL,aL];omega)
 grind [oW,nz,List.length_take,ei]
theorem sZ:∀(es:List It) (ks:List (List It)),ks=[]\/ks.length=es.length+1->(ei es ks).length=es.length+(ks.map List.length).sum
 | [],[],_=>rfl
 | [],[k],_=>by simp[ei]
 | [],_::_::_,h=>by grind
 | e::es,[],_=>by rw[jY];simp
 | e::es,k::ks,h=>by
  have h:ks.length=es.length+1:=by simpa using h
  have:=sZ es ks (ae h);simp only[ei,ah,ag,this,bg,List.sum_cons];omega
def insB(e:It)(l:List It):List It:=l.take (Fr e.k l)++e::l.drop (Fr e.k l)
theorem BE{A K B:List It}(hA:∀d∈A,Fu d.k e.k<0)(hB:∀d∈B,¬Fu d.k e.k<0):insB e (A++(K++B))=A++(insB e K++B):=by
 have hb:Fr e.k (A++(K++B))=A.length+Fr e.k K:=by rw[lJ,lJ,lI hA,lK hB];rfl
 have hk:Fr e.k K<=K.length:=cB;unfold insB;rw[hb,List.take_append,List.drop_append,aT (by omega),show A.drop (A.length+Fr e.k K)=[] from dr (by omega),dl,List.take_append,List.drop_append,
  Nat.sub_eq_zero_of_le hk,cJ,cT,bD,aY]
 grind
theorem insB_length(e:It)(l:List It):(insB e l).length=l.length+1:=by
 have:Fr e.k l<=l.length:=cB;grind [insB,List.length_append,List.length_cons,List.length_take,List.length_drop]
theorem kg{e d:It}{l:List It}:d∈insB e l↔d=e\/d∈l:=by
 grind [insB,List.take_append_drop,Fr]
theorem uR{l:List It}(hs:l.Pairwise eU)(hn:∀d∈l,d.k≠e.k):(insB e l).Pairwise eU:=by
 obtain⟨b1,b2,b3⟩:=lL (key:=e.k) hs;have ad:∀d∈l.drop (Fr e.k l),eU e d:=fun d hd=>by
  have h1:=b2 d hd;have h2:=hn d (bw hd)
  grind [eU,ie,Int.lt_trichotomy,Fu,absurd,jL]
 refine bz.2 ⟨hs.take,bp.2 ⟨ad,hs.drop⟩,fun a ha b hb=>?_⟩
 rcases aj.1 hb with rfl | hb
 ·exact b1 a ha
 ·exact Lv (b1 a ha) (ad b hb)
theorem CZ{d:Nat}(ks:List (Bt d))(k:Nat)(y:Bt d):(ks.set k y).map its=(ks.map its).set k (its y):=List.map_set ..
theorem ix.insert{es:List It}{ks:List (List It)}(h:ix e.k es ks):insB e (ei es ks)=Bt.lo (es.take (Fr e.k es)) (ks.take (Fr e.k es))++(insB e (ks.getD (Fr e.k es) [])++gJ es ks (Fr e.k es)):=by
 rw[h.parts,BE h.lo h.hi]
def gY(t:Nat){d:Nat}(x:Bt (d+1)):Prop:=(Bn.es x).length<=2*t/\((Bn.ks x).length=if d=0 then 0 else(Bn.es x).length+1)/\∀k∈Bn.ks x,Ok t k/\t<=nk k+1
def leafPut {d:Nat}(x:Bt (d+1))(e:It):Bt (d+1):=(⟨Bn.h x,(Bn.es x).take (Fr e.k (Bn.es x))++e::(Bn.es x).drop (Fr e.k (Bn.es x)),Bn.ks x⟩:Bn (Bt d))
def ju {d:Nat}(x:Bt (d+1))(k:Nat)(y:Bt d):Bt (d+1):=(⟨Bn.h x,Bn.es x,(Bn.ks x).set k y⟩:Bn (Bt d))
def ja {d:Nat}(x:Bt (d+1))(k:Nat)(y1:Bt d)(m:It)(y2:Bt d):Bt (d+1):=(⟨Bn.h x,(Bn.es x).take k++m::(Bn.es x).drop k,(Bn.ks x).take k++y1::y2::(Bn.ks x).drop (k+1)⟩:Bn (Bt d))
def leftOf(t:Nat){d:Nat}(x:Bt (d+1)):Bt (d+1):=(⟨Bn.h x,(Bn.es x).take t,(Bn.ks x).take (t+1)⟩:Bn (Bt d))
def rightOf(t:Nat){d:Nat}(x:Bt (d+1))(h:Nat):Bt (d+1):=(⟨h,(Bn.es x).drop (t+1),(Bn.ks x).drop (t+1)⟩:Bn (Bt d))
theorem Ch(x:Bt 1)(e:It):its (leafPut x e)=insB e (its x):=by
 rw[its_leaf,its_leaf];rfl
theorem lg{es:List It}(h:k<=es.length)(m:It):(es.take k++m::es.drop k).length=es.length+1:=by
 grind
theorem vj{t:Nat}(ht:1<=t){x:Bt 1}(h:Ok t x)(e:It):gY t (leafPut x e):=by
 refine⟨?_,h.2.1,h.2.2⟩;have:=h.1
 show ((Bn.es x).take (Fr e.k (Bn.es x))++e::(Bn.es x).drop (Fr e.k (Bn.es x))).length<=2*t
 grind
theorem BO{t d:Nat}{x:Bt (d+2)}(h:Ok t x)(k:Nat)(hk:k<=(Bn.es x).length)(y:Bt (d+1)):its (ju x k y)=lo ((Bn.es x).take k) (((Bn.ks x).map its).take k)++(its y++gJ (Bn.es x) ((Bn.ks x).map its) k):=by
 show ei (Bn.es x) (((Bn.ks x).set k y).map its)=_
 rw[CZ,E6 hk h.rows]
theorem BQ{t d:Nat}{x:Bt (d+2)}(h:Ok t x)(k:Nat)(hk:k<=(Bn.es x).length)(y1:Bt (d+1))(m:It)(y2:Bt (d+1)):its (ja x k y1 m y2)=lo ((Bn.es x).take k) (((Bn.ks x).map its).take k)++(its y1++m::(its y2++gJ (Bn.es x) ((Bn.ks x).map its) k)):=by
 rw[dQ,<-E4 hk h.rows]
 show ei _ (((Bn.ks x).take k++y1::y2::(Bn.ks x).drop (k+1)).map its)=_
 rw[aP,bg,bg,dh,List.map_drop]
 rfl
theorem BP{t d:Nat}(ht:1<=t){x:Bt (d+2)}(h:Ok t x)(k:Nat){y:Bt (d+1)}(hy:Ok t y)(hn:t<=nk y+1):gY t (ju x k y):=by
 refine⟨?_,?_,fun z hz=>?_⟩
 ·have:=h.1
  show (Bn.es x).length<=2*t;omega
 ·show ((Bn.ks x).set k y).length=_;rw[bA];exact h.2.1
 ·rcases cy hz with hz | rfl
  ·exact h.2.2 z hz
  grind
theorem BS{t d:Nat}(ht:1<=t){x:Bt (d+2)}(h:Ok t x)(k:Nat)(hk:k<=(Bn.es x).length){y1 y2:Bt (d+1)}(m:It)(h1:Ok t y1)(n1:t<=nk y1+1)(h2:Ok t y2)(n2:t<=nk y2+1):gY t (ja x k y1 m y2):=by
 have ad:=Ok.kids h;refine⟨?_,?_,fun z hz=>?_⟩
 ·have:=h.1
  show ((Bn.es x).take k++m::(Bn.es x).drop k).length<=2*t
  grind
 ·rw[if_neg (by omega)]
  show ((Bn.ks x).take k++y1::y2::(Bn.ks x).drop (k+1)).length=((Bn.es x).take k++m::(Bn.es x).drop k).length+1
  grind
 ·rcases ax.1 (show z∈(Bn.ks x).take k++y1::y2::(Bn.ks x).drop (k+1) from hz) with hz | hz
  ·exact h.2.2 z (bB hz)
  ·rcases aj.1 hz with rfl | hz
   ·grind
   ·rcases aj.1 hz with rfl | hz
    ·grind
    ·exact h.2.2 z (bw hz)
theorem gY.ok{t d:Nat}{x:Bt (d+1)}(h:gY t x)(hl:(Bn.es x).length<2*t):Ok t x:=⟨by omega,h.2.1,h.2.2⟩
theorem gY.rows{t d:Nat}{x:Bt (d+1)}(h:gY t x):((Bn.ks x).map its=[]/\d=0)\/(((Bn.ks x).map its).length=(Bn.es x).length+1/\d≠0):=by
 by_cases hd:d=0
 ·subst hd;exact ab ⟨by rw[nil_of_zero (Bn.ks x)];rfl,rfl⟩
 ·have:=h.2.1
  grind
theorem gY.split{t d:Nat}(ht:1<=t){x:Bt (d+1)}(h:gY t x)(hl:(Bn.es x).length=2*t)(g:Nat):its x=its (leftOf t x)++(Bn.es x)[t]'(by omega)::its (rightOf t x g)/\Ok t (leftOf t x)/\Ok t (rightOf t x g)/\nk (leftOf t x)=t/\nk (rightOf t x g)+1=t:=by
 have hL:nk (leftOf t x)=t:=by show ((Bn.es x).take t).length=t;grind
 have hR:nk (rightOf t x g)+1=t:=by show ((Bn.es x).drop (t+1)).length+1=t;grind
 have hk:=h.2.1;refine⟨?_,⟨by have:((Bn.es x).take t).length=t:=hL;show ((Bn.es x).take t).length<=_;omega,?_,fun z hz=>h.2.2 z (bB hz)⟩,⟨by have:((Bn.es x).drop (t+1)).length+1=t:=hR;show ((Bn.es x).drop (t+1)).length<=_;omega,?_,fun z hz=>h.2.2 z (bw hz)⟩,hL,hR⟩
 ·rw[dQ,dQ,dQ]
  show _=ei ((Bn.es x).take t) (((Bn.ks x).take (t+1)).map its)++_::ei ((Bn.es x).drop (t+1)) (((Bn.ks x).drop (t+1)).map its)
  rw[dh,List.map_drop]
  rcases h.rows with⟨h0,_⟩ | ⟨h0,_⟩
  ·rw[h0,List.take_nil,List.drop_nil,jY,jY,jY];exact oW (by omega)
  ·exact E5 (by omega) h0
 ·show ((Bn.ks x).take (t+1)).length=if d=0 then 0 else((Bn.es x).take t).length+1
  grind
 ·show ((Bn.ks x).drop (t+1)).length=if d=0 then 0 else((Bn.es x).drop (t+1)).length+1
  grind
theorem qFfab{P:Prop}(h:P:=by
 rcases h.rows with⟨h0,_⟩ | ⟨h0,_⟩
 ·exact ab h0
 omega):P:=h
theorem its_length{t d:Nat}{x:Bt (d+1)}(h:gY t x):(its x).length=(Bn.es x).length+((Bn.ks x).map fun k=>(its k).length).sum:=by
 rw[dQ,sZ]
 ·rw[cD]
  rfl
 ·exact qFfab
theorem Ok.okN{t d:Nat}{x:Bt (d+1)}(h:Ok t x):gY t x:=⟨by have:=h.1;omega,h.2.1,h.2.2⟩
end Bt
structure jg (S:St) (t h:Nat) (n:BN):Prop where
 ok:iU t n
 lt:h<2^64
 len:S.len h=(6*t,0)
 get:∀k,k<6*t->S.get h k=(wAt t n n.keys.length n.kids.length k,0)
 words:∀v∈bnWords t n,v<2^64
theorem zC {S:St}{o:Nat->Nat}(hf:Fw S o){t h:Nat}{n:BN}(hl:reco S h=some (bnWords t n))(hn:iU t n):jg S t h n:=by
 have h1:=jw hf.tab hl;have h2:=fL hf hl;rw[jJ] at h1;refine⟨hn,h2.2.1,h1,fun k hk=>?_,h2.2.2.2⟩;rw[ru hf hl (by rw[jJ];exact hk)];grind [bnWords,List.getElem?_range]
structure iT (n:BN):Prop where
 keys:∀v∈n.keys,v<2^64
 vals:∀v∈n.vals,v<2^64
 kids:∀v∈n.kids,v<2^64
 size:n.size<2^64
theorem qK {l:List Nat}(h:∀v∈l,v<2^64)(k:Nat):l.getD k 0<2^64:=by
 grind [List.getElem?_eq_getElem,List.getElem_mem,List.getElem?_eq_none]
theorem kX {t:Nat}{n:BN}(h:iT n)(hk:n.keys.length<2^64):∀v∈bnWords t n,v<2^64:=by
 intro v hv;obtain⟨j,_,rfl⟩:=ay.1 hv;have h1:=qK h.keys ((j-2) / 2);have h2:=qK h.vals ((j-2) / 2);have h3:=qK h.kids (j-4*t);have h4:=h.size;unfold wAt;grind
namespace Bt
variable{S:St}{d:Nat}{e:It}{o:Nat->Nat}{t:Nat}
def bn {d:Nat}(x:Bt (d+1)):BN:=⟨(Bn.es x).map (·.kh),(Bn.es x).map (·.vh),(Bn.ks x).map hd,(its x).length⟩
def At(S:St)(t:Nat): {d:Nat} ->Bt d->Prop
 | 0,x=>nomatch x
 | _+1,x=>reco S (Bn.h x)=some (bnWords t (bn x))/\∀k∈Bn.ks x,At S t k
theorem At.hd_ok(hf:Fw S o):∀{d:Nat} {x:Bt d},At S t x->hd x≠0/\hd x<2^64
 | 0,x,_=>nomatch x
 | d+1,x,h=>by
  have:=fL hf h.1;refine⟨fun e=>?_,this.2.1⟩;have e:Bn.h x=0:=e;have:=this.1;omega
theorem At.bnok(hf:Fw S o)(t1:2<=t)(t2:t<=16){x:Bt (d+1)}(h:At S t x)(ok:Ok t x):iU t (bn x):=by
 refine⟨t1,t2,by unfold bn;rw[ao];exact ok.1,by unfold bn;grind,?_⟩;have hk:=ok.2.1;unfold bn;simp only[ao]
 by_cases hd0:d=0
 ·grind
 ·rw[if_neg hd0] at hk;refine ae ⟨hk,?_⟩;rw[Bool.eq_false_iff];intro hc;obtain⟨k,ad,e⟩:=ay.1 (cW.1 hc);exact(At.hd_ok hf (h.2 k ad)).1 e
theorem At.read(hf:Fw S o)(t1:2<=t)(t2:t<=16){x:Bt (d+1)}(h:At S t x)(ok:Ok t x):jg S t (hd x) (bn x):=zC hf h.1 (h.bnok hf t1 t2 ok)
theorem At.frame {S S':St}{t:Nat}:∀{d:Nat} {x:Bt d},At S t x->(∀h∈nodes x,reco S' h=reco S h)->At S' t x
 | 0,x,_,_=>nomatch x
 | d+1,x,h,hf=>by
  refine⟨(hf _ (am ..)).trans h.1,fun k hk=>(h.2 k hk).frame fun y hy=>hf y (ak _ ?_)⟩;exact cC.2 ⟨_,ay.2 ⟨k,hk,rfl⟩,hy⟩
theorem mem_nodes_kid{x:Bt (d+1)}{k:Bt d}(hk:k∈Bn.ks x){y:Nat}(hy:y∈nodes k):y∈nodes x:=ak _ (cC.2 ⟨_,ay.2 ⟨k,hk,rfl⟩,hy⟩)
theorem hd_mem:∀{d:Nat} (x:Bt d),hd x∈nodes x
 | 0,x=>nomatch x
 | _+1,_=>am ..
theorem At.rec {S:St}{t:Nat}:∀{d:Nat} {x:Bt d},At S t x->∀h∈nodes x,∃n,reco S h=some (bnWords t n)
 | 0,x,_,_,_=>nomatch x
 | d+1,x,h,y,hy=>by
  rcases aj.1 hy with rfl | hy
  ·exact⟨_,h.1⟩
  ·obtain⟨l,hl,hy⟩:=cC.1 hy;obtain⟨k,hk,rfl⟩:=ay.1 hl;exact(h.2 k hk).rec y hy
theorem bnLt_of(hf:Fw S o){t d:Nat}{x:Bt (d+1)}(hb:∀e∈Bn.es x,e.kh<2^64/\e.vh<2^64)(hk:∀k∈Bn.ks x,At S t k)(hl:(its x).length<2^64):iT (bn x):=by
 refine⟨fun v hv=>?_,fun v hv=>?_,fun v hv=>?_,hl⟩
 ·obtain⟨e,he,rfl⟩:=ay.1 hv
  grind
 ·obtain⟨e,he,rfl⟩:=ay.1 hv
  grind
 ·obtain⟨k,ad,rfl⟩:=ay.1 hv;exact(At.hd_ok hf (hk k ad)).2
theorem blobs_lt(hf:Fw S o)(h:gu S e):e.kh<2^64/\e.vh<2^64:=⟨(fL hf h.k).2.1,(fL hf h.v).2.1⟩
theorem lN{x:Bt (d+1)}(h:gY t x)(he:e∈Bn.es x):e∈its x:=by
 rw[dQ];refine(JD _ _ ?_).subset he;exact qFfab
theorem vM:∀(es:List It) (ks:List (List It)),(ks=[]\/ks.length=es.length+1)->∀k∈ks,∀e∈k,e∈ei es ks
 | _,[],_,k,hk,_,_=>by cases hk
 | [],[a],_,k,hk,e,he=>by
  rcases aj.1 hk with rfl | hk
  ·exact he
  ·cases hk
 | [],_::_::_,h,_,_,_,_=>by simp at h
 | f::es,a::ks,h,k,hk,e,he=>by
  rw[ei];rcases aj.1 hk with rfl | hk
  ·exact aE _ he
  ·exact aG _ (ak _ (vM es ks (ae (by simpa using h)) k hk e he))
theorem kid_its{x:Bt (d+1)}(h:gY t x){k:Bt d}(hk:k∈Bn.ks x)(he:e∈its k):e∈its x:=by
 refine vM _ _ ?_ (its k) (ay.2 ⟨k,hk,rfl⟩) e he;exact qFfab
def fullB(t:Nat)(key:List UInt8): {d:Nat} ->Bt d->List Bool
 | 0,x=>nomatch x
 | _+1,x=>decide ((Bn.es x).length=2*t-1)::(match (Bn.ks x)[Fr key (Bn.es x)]? with | none=>[] | some k=>fullB t key k)
def trail:List Bool->Nat
 | []=>0
 | b::r=>if r.all id=true then(if b=true then r.length+1 else r.length) else trail r
def needB:Nat->Bool->List Bool->Nat
 | full,all,[]=>full+if all=true then 1 else 0
 | full,all,b::r=>if b=true then needB (full+1) all r else needB 0 false r
theorem trail_all:∀{r:List Bool},r.all id=true->trail r=r.length
 | [],_=>rfl
 | b::r,h=>by
  simp only[List.all_cons,aI,id] at h;unfold trail;rw[if_pos h.2,if_pos h.1];rfl
theorem rK:∀(p:List Bool) (full:Nat) (all:Bool),needB full all p=if p.all id=true then full+p.length+(if all=true then 1 else 0) else trail p
 | [],full,all=>by unfold needB;simp
 | b::r,full,all=>by
  unfold needB trail;cases b with
  | true=>
   rw[if_pos rfl,rK r];simp only[List.all_cons,id,Bool.true_and,ag];by_cases h:r.all id=true
   ·rw[if_pos h,if_pos h];omega
   ·rw[if_neg h,if_neg h,if_neg h]
  | false=>
   rw[if_neg (by simp),rK r];simp only[List.all_cons,id,Bool.false_and];by_cases h:r.all id=true
   ·rw[if_pos h,if_neg (by simp),if_pos h,if_neg (by simp)];simp
   ·rw[if_neg h,if_neg (by simp),if_neg h]
theorem need_zero(p:List Bool):needB 0 true p=trail p+if p.all id=true then 1 else 0:=by
 rw[rK]
 by_cases h:p.all id=true
 ·rw[if_pos h,if_pos h,trail_all h]
  simp
 grind
end Bt
end
section
open Go.RowKit Tryz Go.BigFrame Go.Maps Go.WideMaps Lf Tr
variable{S:St}{Y:Nat->Prop}{d:Nat}{j:Nat}{k:List UInt8}{key:List UInt8}{n:BN}{o:Nat->Nat}{ps:Nat}{t:Nat}{v:Value}{w:World}{z:Nat}
def FH(ps t:Nat):Value:=.agg #[PV ps,Xi t]
theorem zK(h:Ig w ps S Y)(hi:Fv S)(t hh:Nat)(hl:hh<2^64)(hg:fz S hh=(k,0)):
 Cb 174 #[FH ps t,Xu hh] w (SV k):=by
 have ad:Below w.heap.size w (w.alloc (Xd ps t)):=(aa _ w).alloc Ih _;have ai:=hg;have hg:=iz (h.below ad) hi hh hl (by rw[hg];show (0:Nat)≠8;decide);rw[ai] at hg;unfold FH;have HG:=kq2 hg ad;clear hg ad h hi ai;go_enter func174,ntmps174;go_wp2_with fail;refine b8 HG.a fun w1 hb=>?_;have HB:=If (HG.b.trans (hb.mono HG.b.size));clear hb;go_wp2_with fail;go_ret;exact⟨rfl,HB.out⟩
theorem zP(h:Ig w ps S Y)(hi:Fv S)(t hh:Nat)(hl:hh<2^64)(hg:fz S hh=(k,0))(key:List UInt8){b:Nat}(hb:w.heap[b]?=some (.cells #[PV ps,Xi t] 145 (0,0))):
 Cb 237 #[Xu hh,SV key,PV b] w (Xi (Fu k key)):=by
 have hk:=zK h hi t hh hl hg;unfold FH at hk;obtain⟨c0,c1⟩:=Fp hb;have HG:=If hk;have HC:=fun W=>If (sT k key W);clear hk h hi hg hb;go_enter func237,ntmps237;go_wp2_with fail;refine b8 HG.out fun w1 hb=>?_;have HB:=If hb;clear hb;go_wp2_with fail;refine Jc (HC _).out ?_;go_wp2_with fail;go_ret;exact⟨rfl,HB.out⟩
def fo(key:List UInt8)(es:List It):Bool:=match es[Fr key es]? with | some e=>decide (e.k=key) | none=>false
theorem yY{es:List It}{k:Nat}(h1:∀(j:Nat) (h:j<es.length),j<k->Fu es[j].k key<0)(h2:∀(j:Nat) (h:j<es.length),k<=j->0<=Fu es[j].k key)(hk:k<=es.length):Fr key es=k:=by
 conv=>lhs;rw[<-aX k es]
 rw[lJ,lI,lK,aL]
 ·omega
 ·intro d hd;obtain⟨j,hj,rfl⟩:=bK.1 hd;rw[List.getElem_drop];have:=h2 (k+j) (by rw[bS] at hj;omega) (by omega);omega
 ·intro d hd;obtain⟨j,hj,rfl⟩:=bK.1 hd;rw[List.getElem_take];rw[aL] at hj;exact h1 _ _ (by omega)
theorem G3{es:List It}(h:FD w v (es.map (·.kh)))(hl:es.length<=100000)(hs:es.Pairwise eU)(key:List UInt8){f b:Nat}(hen:∀(args:Array Value) (w:World),(callFunc f args).run prog w=.ok (.enter f args) w)
 (hcall:∀W,Below w.heap.size w W->∀(j:Nat) (hj:j<es.length),Ct f #[Xu (es[j].kh:Nat),SV key,PV b] W fun e w'=>e=.returned (Xi (Fu es[j].k key))/\Below W.heap.size W w'):
 Cb 236 #[v,SV key,.func (.func f) #[] #[PV b]] w (.tuple #[Xi (Fr key es:Nat),.bool (fo key es)]):=by
 obtain⟨A,c,rfl,hc⟩:=h;have hc:∀(i:Nat) (h:i<es.length),∃g o,A=some ⟨g,o,none⟩/\w.cell? ⟨g,o+i,none⟩=some (Xu (es[i].kh:Nat)):=fun i h=>by
  obtain⟨g,o,e1,e2⟩:=hc i (by simpa using h);rw[bI] at e2;exact⟨g,o,e1,e2⟩
 rw[ao];obtain⟨n,hn⟩:=Ii es.length;have a1:∀(i j:Nat) (hi:i<es.length) (hj:j<es.length),i<=j->Fu es[j].k key<0->Fu es[i].k key<0:=fun i j hi hj hij hlt=>by
  rcases co i j with h | h
  ·exact ig (cz.1 hs i j hi hj h) hlt
  ·obtain rfl:i=j:=by omega
   exact hlt
 rw[hn] at hl⊢;have H:=kq4 hc hcall a1 hn;clear hc hcall a1 hs;go_enter func236,ntmps236;go_wp2_with fail;go_loopw [9,10] (fun s9 s10 wr=>∃lo hi:Nat,lo<=hi/\hi<=n/\s9=Xi lo/\s10=Xi hi/\Hid (Below w.heap.size w wr/\(∀(j:Nat) (h:j<es.length),j<lo->Fu es[j].k key<0)/\(∀(j:Nat) (h:j<es.length),hi<=j->0<=Fu es[j].k key))) (fun s9 s10 _=>(intOf s10).toNat-(intOf s9).toNat)
 case atStart=>exact⟨0,n,by omega,by omega,rfl,rfl,aa _ _,fun _ _ h=>absurd h (by omega),fun j h1 h2=>absurd h1 (by omega)⟩
 case round=>
  obtain⟨lo,hi,a5,a0,rfl,rfl,I⟩:=hrel;by_cases hlt:lo<hi
  ·obtain⟨m,hm⟩:=Ii ((lo+hi) / 2);have ar:m<es.length:=by omega
   have a4:(lo:Int)<hi:=by omega
   have q1:IntKind.i64.wrap ((lo:Int)+hi)=(lo:Int)+hi:=az _ (by omega);obtain⟨g,o,rfl,c1⟩:=H.a m ar;have c2:=(I.out.1.cell (p:=⟨g,o+m,none⟩) (fK c1)).trans c1;have an:=H.b wr I.out.1 m ar;have a6:((lo:Int)+hi) / 2=(m:Nat):=by omega
   have a7:(m:Int)<n:=by omega
   have HK:=kq2 an hm;obtain⟨e,he⟩:=Ii es[m];have HE:=If he;rw[he] at c2 HK;clear an he c1 hm;by_cases hcp:Fu e.k key<0
   ·go_wp2_with fail;refine b8 HK.a fun w' hb=>?_;have ai:Below w.heap.size w w'/\(∀(j:Nat) (h:j<es.length),j<m+1->Fu es[j].k key<0)/\(∀(j:Nat) (h:j<es.length),hi<=j->0<=Fu es[j].k key):=
     ⟨I.out.1.trans (hb.mono I.out.1.size),fun j h1 h2=>H.c j m h1 ar (by omega) (by rw[HE.out];exact hcp),I.out.2.2⟩
    have HI:=If ai;clear ai hb;go_wp2_with fail;go_roundw
    case rel=>exact⟨m+1,hi,by have:=HK.b;omega,a0,by simp,rfl,HI⟩
    case measure=>have:=HK.b;simp[intOf];omega
   ·go_wp2_with fail;refine b8 HK.a fun w' hb=>?_;have ai:Below w.heap.size w w'/\(∀(j:Nat) (h:j<es.length),j<lo->Fu es[j].k key<0)/\(∀(j:Nat) (h:j<es.length),m<=j->0<=Fu es[j].k key):=
     ⟨I.out.1.trans (hb.mono I.out.1.size),I.out.2.1,fun j h1 h2=>Int.not_lt.1 fun hx=>by have:=H.c m j ar h1 h2 hx;rw[HE.out] at this;omega⟩
    have HI:=If ai;clear ai hb;go_wp2_with fail;go_roundw
    case rel=>exact⟨lo,m,by have:=HK.b;omega,by omega,rfl,rfl,HI⟩
    case measure=>have:=HK.b;simp[intOf];omega
  ·obtain rfl:lo=hi:=by omega
   have a4:¬(lo:Int)<lo:=by omega
   have ad:=yY I.out.2.1 I.out.2.2 (by rw[H.d];exact a0);by_cases hln:lo<n
   ·have au:lo<es.length:=by omega
    have a3:(lo:Int)<n:=by omega
    obtain⟨g,o,rfl,c1⟩:=H.a lo au;have c2:=(I.out.1.cell (p:=⟨g,o+lo,none⟩) (fK c1)).trans c1;have an:=H.b wr I.out.1 lo au;have ap:fo key es=decide (Fu es[lo].k key=0):=by
     unfold fo;rw[ad,af au];exact decide_eq_decide.2 ⟨fun e=>by rw[e,fX],jL⟩
    have HK:=kq3 an ad ap;obtain⟨e,he⟩:=Ii es[lo];rw[he] at c2 HK;clear an he c1 ad ap;generalize a2:Fu e.k key=q at*;clear a2;by_cases hq0:q=0
    ·subst hq0;go_wp2_with fail;refine HK.a.mono ?_;rintro e' w' ⟨rfl,hb⟩;have HI:=If (I.out.1.trans (hb.mono I.out.1.size));clear hb;go_wp2_with fail;go_ret2;exact⟨by rw[HK.b,HK.c];rfl,HI.out⟩
    ·have a8:(q==0)=false:=by simp;exact hq0
     go_wp2_with fail;refine HK.a.mono ?_;rintro e' w' ⟨rfl,hb⟩;have HI:=If (I.out.1.trans (hb.mono I.out.1.size));clear hb;go_wp2_with fail;go_ret2;exact⟨by rw[HK.b,HK.c,decide_eq_false hq0];rfl,HI.out⟩
   ·have a3:¬(lo:Int)<n:=by omega
    have ap:fo key es=false:=by
     unfold fo;rw[ad,aS (by omega)]
    have HK:=kq2 ad ap;clear ad ap;go_wp2_with fail;go_ret2;exact⟨by rw[HK.a,HK.b];rfl,I.out.1⟩
structure pv (S:St) (es:List It):Prop where
 lt:∀e∈es,e.kh<2^64
 get:∀e∈es,fz S e.kh=(e.k,0)
theorem nR(h:Ig w ps S Y)(hi:Fv S)(t:Nat){es:List It}{vk vv vc:Value}{sz:Nat}(hk:FD w vk (es.map (·.kh)))(hl:es.length<=100000)(hs:es.Pairwise eU)(he:pv S es)(key:List UInt8):
 Cb 211 #[FH ps t,eC vk vv vc sz,SV key] w (.tuple #[Xi (Fr key es:Nat),.bool (fo key es)]):=by
 have B0:=((aa w.heap.size w).alloc Ih (Xd ps t)).alloc (by simp) (.cells #[vk,vv,vc,Xu sz] 215);have z1:(w.alloc (Xd ps t)).heap.size=w.heap.size+1:=by simp
 have q1:=heap_alloc_new w (Xd ps t);have q2:=heap_alloc_new (w.alloc (Xd ps t)) (.cells #[vk,vv,vc,Xu sz] 215);have q3:=(((aa (w.alloc (Xd ps t)).heap.size (w.alloc (Xd ps t))).alloc Ih (.cells #[vk,vv,vc,Xu sz] 215)).block w.heap.size (by simp)).trans q1;rw[z1] at q2;have ad:∀(args:Array Value) (w:World),(callFunc 237 args).run prog w=.ok (.enter 237 args) w:=fun args w=>by go_simp
 generalize hW:(w.alloc (Xd ps t)).alloc (.cells #[vk,vv,vc,Xu sz] 215)=W0 at*;have ai:=G3 (hk.below B0) hl hs key (f:=237) (b:=w.heap.size) ad fun W hW j hj=>zP (h.below (B0.trans (hW.mono B0.size))) hi t _ (he.lt _ (aw hj)) (he.get _ (aw hj)) key ((hW.block w.heap.size (gl q3)).trans q3);obtain⟨c0,c1,c2,c3⟩:=Fy q2;unfold FH eC;have HG:=kq3 ai B0 hW;clear ai B0 h hi hk he q1 q2 q3 ad hs;go_enter func211,ntmps211;have hW:=HG.c;go_wp2_with fail;refine b8 HG.a fun w1 hb=>?_;have HB:=If (HG.b.trans (hb.mono HG.b.size));clear hb;go_wp2_with fail;go_ret2;exact⟨rfl,HB.out⟩
theorem kI(h:Ig w ps S Y)(hi:Fv S){t hh:Nat}(hb:jg S t hh n):
 Ct 126 #[FH ps t,Xu hh] w fun e w'=>∃vk vv vc,e=.returned (.tuple #[eC vk vv vc n.size,.bool true])/\fN w' w.heap.size vk vv vc n.keys n.vals n.kids/\Below w.heap.size w w':=by
 have B0:=((aa w.heap.size w).alloc Ih (Xd ps t)).alloc (by simp) (.cells #[.slice none 0 0,.slice none 0 0,.slice none 0 0,Xu 0] 215);have z1:(w.alloc (Xd ps t)).heap.size=w.heap.size+1:=by simp
 have q1:=heap_alloc_new w (Xd ps t);have q2:=heap_alloc_new (w.alloc (Xd ps t)) (.cells #[.slice none 0 0,.slice none 0 0,.slice none 0 0,Xu 0] 215);have q3:=(((aa (w.alloc (Xd ps t)).heap.size (w.alloc (Xd ps t))).alloc Ih (.cells #[.slice none 0 0,.slice none 0 0,.slice none 0 0,Xu 0] 215)).block w.heap.size (by simp)).trans q1;rw[z1] at q2;generalize hW:(w.alloc (Xd ps t)).alloc (.cells #[.slice none 0 0,.slice none 0 0,.slice none 0 0,Xu 0] 215)=W0 at*;obtain⟨sz,ar⟩:=Ii n.size;have hg:=zE (h.below B0) hi hb.ok hh hb.lt hb.len hb.get hb.words;unfold eC at hg;rw[ar] at hg;obtain⟨c0,c1⟩:=Fp q3;have hz:w.heap.size+2<=W0.heap.size:=by rw[<-hW];simp
 unfold FH;have HG:=kq5 hg B0 q2 hW hz;clear hg B0 h hi hb q1 q2 q3 z1 hz;go_enter func126,ntmps126;go_wp2_with fail;refine HG.a.mono ?_;rintro e w1 ⟨vk,vv,vc,rfl,rows,hb⟩;obtain⟨Ak,ck,rfl⟩:=rows.k.slice2;obtain⟨Av,cv,rfl⟩:=rows.v.slice2;obtain⟨Ac,cc,rfl⟩:=rows.c.slice2;obtain⟨ks,ai⟩:∃l,n.keys=l:=⟨_,rfl⟩;obtain⟨vs,an⟩:∃l,n.vals=l:=⟨_,rfl⟩;obtain⟨cs,ad⟩:∃l,n.kids=l:=⟨_,rfl⟩;rw[ai,an,ad] at rows⊢;rw[ai,an,ad] at HG;generalize a2:ks.length=lk at rows⊢;generalize a3:vs.length=lv at rows⊢;generalize a1:cs.length=lc at rows⊢;have A1:=(aa w1.heap.size w1).alloc Ih (.cells #[(.slice Ak lk ck),(.slice Av lv cv),(.slice Ac lc cc),Xu sz] 215);have p1:=heap_alloc_new w1 (.cells #[(.slice Ak lk ck),(.slice Av lv cv),(.slice Ac lc cc),Xu sz] 215);have r2:=(A1.block (w.heap.size+1) (by have:=hb.size;have:=HG.e;omega)).trans ((hb.block (w.heap.size+1) (by have:=HG.e;omega)).trans HG.c);have ap:w.heap.size+1≠w1.heap.size:=by have:=hb.size;have:=HG.e;omega
 have BA:=HG.b.trans ((hb.trans (A1.mono hb.size)).mono HG.b.size);have au:=rows.lift (W':=w1.alloc (.cells #[(.slice Ak lk ck),(.slice Av lv cv),(.slice Ac lc cc),Xu sz] 215)) (D':=W0.heap.size) Ih fun g _ hg=>A1.block g hg;have r1:=(hb.block (w.heap.size+1) (by have:=HG.e;omega)).trans HG.c;have HB:=kq6 au BA r2 p1 r1 ap;clear rows hb A1 p1 r2 BA au ap r1;obtain⟨W1,a0⟩:=Ii (w1.alloc (.cells #[(.slice Ak lk ck),(.slice Av lv cv),(.slice Ac lc cc),Xu sz] 215));rw[a0] at HB;have r2:=HB.c;have p1:=HB.d;obtain⟨x0,x1,x2,x3⟩:=Fy p1;obtain⟨y0,y1,y2,y3⟩:=Fy r2;obtain⟨f0,f1,f2,f3⟩:=fO r2;clear r2 p1;go_wp2_with fail;have e5:=oZ (u0:=(.slice Ak lk ck)) (u1:=(.slice Av lv cv)) (u2:=(.slice Ac lc cc)) (u3:=Xu sz) HB.c;have B5:=oY (u0:=(.slice Ak lk ck)) (u1:=(.slice Av lv cv)) (u2:=(.slice Ac lc cc)) (u3:=Xu sz) (b:=w.heap.size+1) HB.b (by omega);have R5:=HB.a.lift (W':=((((W1.setCell ⟨w.heap.size+1,0,none⟩ ((.slice Ak lk ck))).setCell ⟨w.heap.size+1,1,none⟩ ((.slice Av lv cv))).setCell ⟨w.heap.size+1,2,none⟩ ((.slice Ac lc cc))).setCell ⟨w.heap.size+1,3,none⟩ (Xu sz))) (D':=w.heap.size) (by have:=HG.e;omega) fun g hg _=>sy (by have:=HG.e;omega);generalize ((((W1.setCell ⟨w.heap.size+1,0,none⟩ ((.slice Ak lk ck))).setCell ⟨w.heap.size+1,1,none⟩ ((.slice Av lv cv))).setCell ⟨w.heap.size+1,2,none⟩ ((.slice Ac lc cc))).setCell ⟨w.heap.size+1,3,none⟩ (Xu sz))=W9 at*;obtain⟨e0,e1,e2,e3⟩:=Fy e5;exact bodyPost_ret (v:=.tuple #[.agg #[(.slice Ak lk ck),(.slice Av lv cv),(.slice Ac lc cc),Xu sz],.bool true]) (by simp[results,f126,go_sem,e0,e1,e2,e3]) rfl ⟨.slice Ak lk ck,.slice Av lv cv,.slice Ac lc cc,by rw[ar];rfl,by rw[ai,an,ad];exact R5,B5⟩
theorem nS(h:Ig w ps S Y)(hi:Fv S){t hh:Nat}(hb:jg S t hh n)(hz:n.size<2^62):
 Cb 175 #[FH ps t,Xu hh] w (Xi n.size):=by
 have B0:=(aa w.heap.size w).alloc Ih (Xd ps t);have hg:=kI (h.below B0) hi hb;obtain⟨sz,ad⟩:=Ii n.size;unfold FH eC at hg;unfold FH;rw[ad] at hz hg⊢;have hw:IntKind.i64.wrap (sz:Int)=(sz:Int):=az _ (by omega);have HG:=kq2 hg B0;clear hg B0 h hi hb;go_enter func175,ntmps175;go_wp2_with fail;refine HG.a.mono ?_;rintro e w1 ⟨vk,vv,vc,rfl,rows,hb⟩;obtain⟨Ak,ck,rfl⟩:=rows.k.slice2;obtain⟨Av,cv,rfl⟩:=rows.v.slice2;obtain⟨Ac,cc,rfl⟩:=rows.c.slice2;generalize n.keys.length=lk at*;generalize n.vals.length=lv at*;generalize n.kids.length=lc at*;clear rows;have HB:=If ((HG.b.trans (hb.mono HG.b.size)).alloc (aB HG.b.size hb.size) (.cells #[.slice Ak lk ck,.slice Av lv cv,.slice Ac lc cc,Xu sz] 215));clear hb;go_wp2_with fail;go_ret;exact⟨rfl,HB.out⟩
theorem zF(h:Ig w ps S Y)(hi:Fv S)(t1:2<=t)(t2:t<=16)(hh:Nat)(hl:hh<2^64)(hlen:S.len hh=(0,7)):
 Cb 166 #[PV ps,Xi t,Xu hh] w (.tuple #[eC (.slice none 0 0) (.slice none 0 0) (.slice none 0 0) 0,Xi 7]):=by
 have ad:=fun W (hW:Below w.heap.size w W)=>fB (h.below hW) hi 0 (by omega);have ai:=fun W (hW:Below w.heap.size w W)=>fB (h.below hW) hi hh hl;rw[fU] at ad;rw[hlen] at ai;have an:=fun W=>om t1 t2▸nP (t:Int) W;have six:=uz w ps hh;have HG:=kq3 ad ai an;clear ad ai an h hi hlen;unfold eC;generalize ap:((((w.alloc (Xh ps)).alloc (Xf hh)).alloc (.cells #[.slice none 0 0,.slice none 0 0,.slice none 0 0,Xu 0] 215)).alloc (.cells #[Xi 0] 27))=w4 at*;have e3:=six.b3;have e5:=six.b5;have e6:=six.b6;have e7:=six.b7;have x0:(w4).cell? ⟨w.heap.size,0,none⟩=some (PV ps):=by rw[cell_of_block e3];rfl
 have y0:(w4).cell? ⟨w.heap.size+1,0,none⟩=some (Xu hh):=by rw[cell_of_block e5];rfl
 obtain⟨z0,z1,z2,z3⟩:=Fy e6;obtain⟨f0,f1,f2,f3⟩:=fO e6;have c0:(w4).cell? ⟨w.heap.size+1+1+1,0,none⟩=some (Xi 0):=by rw[cell_of_block e7];rfl
 have g0:(w4).frozen? ⟨w.heap.size+1+1+1,0,none⟩=false:=AT e7;have S4:=If six;clear e3 e5 e6 e7 six;go_enter func166,ntmps166;go_wp2_with fail;refine Jc (HG.a _ S4.out.below) ?_;go_wp2_with fail;refine Jc (HG.c _) ?_;go_wp2_with fail;refine Jc (HG.b _ S4.out.below) ?_;go_wp2_with fail;have p6:=oZ (u0:=.slice none 0 0) (u1:=.slice none 0 0) (u2:=.slice none 0 0) (u3:=Xu 0) S4.out.b6;have B6:=oY (u0:=.slice none 0 0) (u1:=.slice none 0 0) (u2:=.slice none 0 0) (u3:=Xu 0) (b:=w.heap.size+1+1) S4.out.below (by omega);have p7:=(sy (w:=w4) (b:=w.heap.size+1+1) (k:=w.heap.size+1+1+1) (u0:=.slice none 0 0) (u1:=.slice none 0 0) (u2:=.slice none 0 0) (u3:=Xu 0) (by omega)).trans S4.out.b7;generalize ((((w4.setCell ⟨w.heap.size+1+1,0,none⟩ (.slice none 0 0)).setCell ⟨w.heap.size+1+1,1,none⟩ (.slice none 0 0)).setCell ⟨w.heap.size+1+1,2,none⟩ (.slice none 0 0)).setCell ⟨w.heap.size+1+1,3,none⟩ (Xu 0))=W5 at*;have r7:=heap_setCell (i:=0) (v:=Xi 7) p7;have r6:=(FB (w:=W5) (b:=w.heap.size+1+1+1) (i:=0) (v:=Xi 7) (k:=w.heap.size+1+1) (by omega)).trans p6;have B7:=B6.setCell (p:=⟨w.heap.size+1+1+1,0,none⟩) (by show w.heap.size<=w.heap.size+1+1+1;omega) (Xi 7);generalize W5.setCell ⟨w.heap.size+1+1+1,0,none⟩ (Xi 7)=W6 at*;obtain⟨e0,e1,e2,e3⟩:=Fy r6;have d0:W6.cell? ⟨w.heap.size+1+1+1,0,none⟩=some (Xi 7):=by rw[cell_of_block r7];rfl
 exact bodyPost_ret (v:=.tuple #[.agg #[.slice none 0 0,.slice none 0 0,.slice none 0 0,Xu 0],Xi 7]) (by simp[results,f166,go_sem,e0,e1,e2,e3,d0]) rfl ⟨rfl,B7⟩
theorem nQ(h:Ig w ps S Y)(hi:Fv S)(t1:2<=t)(t2:t<=16)(hh:Nat)(hl:hh<2^64)(hlen:S.len hh=(0,7)):
 Cb 126 #[FH ps t,Xu hh] w (.tuple #[eC (.slice none 0 0) (.slice none 0 0) (.slice none 0 0) 0,.bool false]):=by
 have B0:=((aa w.heap.size w).alloc Ih (Xd ps t)).alloc (by simp) (.cells #[.slice none 0 0,.slice none 0 0,.slice none 0 0,Xu 0] 215);have z1:(w.alloc (Xd ps t)).heap.size=w.heap.size+1:=by simp
 have q1:=heap_alloc_new w (Xd ps t);have q2:=heap_alloc_new (w.alloc (Xd ps t)) (.cells #[.slice none 0 0,.slice none 0 0,.slice none 0 0,Xu 0] 215);have q3:=(((aa (w.alloc (Xd ps t)).heap.size (w.alloc (Xd ps t))).alloc Ih (.cells #[.slice none 0 0,.slice none 0 0,.slice none 0 0,Xu 0] 215)).block w.heap.size (by simp)).trans q1;rw[z1] at q2;generalize hW:(w.alloc (Xd ps t)).alloc (.cells #[.slice none 0 0,.slice none 0 0,.slice none 0 0,Xu 0] 215)=W0 at*;have hg:=zF (h.below B0) hi t1 t2 hh hl hlen;obtain⟨x0,x1⟩:=Fp q3;have hz:w.heap.size+2<=W0.heap.size:=by rw[<-hW];simp
 unfold FH;unfold eC at hg⊢;have HG:=kq5 hg B0 q2 hW hz;clear hg B0 h hi q1 q2 q3 z1 hz hlen;go_enter func126,ntmps126;go_wp2_with fail;refine b8 HG.a fun w1 hb=>?_;have A1:=(aa w1.heap.size w1).alloc Ih (.cells #[.slice none 0 0,.slice none 0 0,.slice none 0 0,Xu 0] 215);have p1:=heap_alloc_new w1 (.cells #[.slice none 0 0,.slice none 0 0,.slice none 0 0,Xu 0] 215);have r2:=(A1.block (w.heap.size+1) (by have:=hb.size;have:=HG.e;omega)).trans ((hb.block (w.heap.size+1) (by have:=HG.e;omega)).trans HG.c);have BA:=HG.b.trans ((hb.trans (A1.mono hb.size)).mono HG.b.size);have HB:=kq3 BA r2 p1;clear hb A1 p1 r2 BA;have r2:=HB.b;have p1:=HB.c;obtain⟨x0,x1,x2,x3⟩:=Fy p1;obtain⟨y0,y1,y2,y3⟩:=Fy r2;obtain⟨f0,f1,f2,f3⟩:=fO r2;clear r2 p1 hW;go_wp2_with fail;generalize w1.alloc (.cells #[.slice none 0 0,.slice none 0 0,.slice none 0 0,Xu 0] 215)=W1 at*;have e5:=oZ (u0:=.slice none 0 0) (u1:=.slice none 0 0) (u2:=.slice none 0 0) (u3:=Xu 0) HB.b;have B5:=oY (u0:=.slice none 0 0) (u1:=.slice none 0 0) (u2:=.slice none 0 0) (u3:=Xu 0) (b:=w.heap.size+1) HB.a (by omega);generalize ((((W1.setCell ⟨w.heap.size+1,0,none⟩ (.slice none 0 0)).setCell ⟨w.heap.size+1,1,none⟩ (.slice none 0 0)).setCell ⟨w.heap.size+1,2,none⟩ (.slice none 0 0)).setCell ⟨w.heap.size+1,3,none⟩ (Xu 0))=W9 at*;obtain⟨e0,e1,e2,e3⟩:=Fy e5;exact bodyPost_ret (v:=.tuple #[.agg #[.slice none 0 0,.slice none 0 0,.slice none 0 0,Xu 0],.bool false]) (by simp[results,f126,go_sem,e0,e1,e2,e3]) rfl ⟨rfl,B5⟩
theorem zQ(h:Ig w ps S Y)(hi:Fv S)(t1:2<=t)(t2:t<=16)(hh:Nat)(hl:hh<2^64)(hlen:S.len hh=(0,7)):
 Cb 175 #[FH ps t,Xu hh] w (Xi 0):=by
 have B0:=(aa w.heap.size w).alloc Ih (Xd ps t);have hg:=nQ (h.below B0) hi t1 t2 hh hl hlen;unfold FH eC at hg;unfold FH;have HG:=kq2 hg B0;clear hg B0 h hi hlen;go_enter func175,ntmps175;go_wp2_with fail;refine b8 HG.a fun w1 hb=>?_;have HB:=If ((HG.b.trans (hb.mono HG.b.size)).alloc (aB HG.b.size hb.size) (.cells #[.slice none 0 0,.slice none 0 0,.slice none 0 0,Xu 0] 215));clear hb;go_wp2_with fail;go_ret;exact⟨rfl,HB.out⟩
theorem kZ(h:Ig w ps S Y)(hi:Fv S)(t1:2<=t)(t2:t<=16):
 Ct 79 #[PV ps,Xi t] w fun e w'=>e=.returned (Xi 0)/\w=w':=by
 have ad:=fB h hi 0 (by omega);rw[fU] at ad;have ai:=fun W=>pW t t1 t2 W;have hq:((6*(t:Int))==0)=false:=by simp;omega
 have an:¬(t:Int)=0:=by omega
 have HG:=kq2 ad ai;clear ad ai h hi;go_enter func79,ntmps79;go_wp2_with fail;refine Jc HG.a ?_;go_wp2_with fail;refine Jc (HG.b _) ?_;go_wp2_with fail;go_ret;exact⟨rfl,rfl⟩
theorem zX{ps t hh z:Nat}(hs:Cb 175 #[FH ps t,Xu hh] w (Xi z)):
 Cb 324 #[PV ps,Xi t,Xu hh] w (Xi z):=by
 unfold FH at hs;have HG:=If hs;clear hs;go_enter func324,ntmps324;go_wp2_with fail;refine b8 HG.out fun w1 hb=>?_;have HB:=If hb;clear hb;go_wp2_with fail;go_ret;exact⟨rfl,HB.out⟩
structure Bt.Walk (S:St) (o:Nat->Nat) (t:Nat) {d:Nat} (x:Bt d):Prop where
 fit:Fw S o
 t1:2<=t
 t2:t<=16
 at':Bt.At S t x
 ok:Bt.Ok t x
 sorted:(Bt.its x).Pairwise eU
 keys:pv S (Bt.its x)
 few:(Bt.its x).length<1000000
theorem Bt.Walk.kid{t d:Nat}{x:Bt (d+1)}(h:Walk S o t x){k:Bt d}(hk:k∈Bn.ks x):Walk S o t k:=by
 have ad:∀e∈its k,e∈its x:=fun e he=>kid_its h.ok.okN hk he;have ai:(its k).Sublist (its x):=by
  rw[dQ];have hr:=h.ok.okN.rows;obtain⟨i,hi,rfl⟩:=bK.1 hk
  rcases hr with⟨h0,_⟩ | ⟨h0,_⟩
  ·have:((Bn.ks x).map its).length=0:=by rw[h0];rfl
   rw[ao] at this;omega
  ·have an:i<=(Bn.es x).length:=by rw[ao] at h0;omega
   rw[nA an h0,jN hi];exact(List.sublist_append_left _ _).trans (List.sublist_append_right _ _)
 exact⟨h.fit,h.t1,h.t2,h.at'.2 k hk,(h.ok.2.2 k hk).1,h.sorted.sublist ai,⟨fun e he=>h.keys.lt e (ad e he),fun e he=>h.keys.get e (ad e he)⟩,cV ai.length_le h.few⟩
theorem Bt.Walk.es{t d:Nat}{x:Bt (d+1)}(h:Walk S o t x):(Bn.es x).Pairwise eU/\pv S (Bn.es x)/\(Bn.es x).length<=31:=by
 have hs:(Bn.es x).Sublist (its x):=by
  rw[dQ];refine JD _ _ ?_
  rcases h.ok.okN.rows with⟨h0,_⟩ | ⟨h0,_⟩
  ·exact ab h0
  ·exact ae h0
 exact⟨h.sorted.sublist hs,⟨fun e he=>h.keys.lt e (hs.subset he),fun e he=>h.keys.get e (hs.subset he)⟩,by have:=h.ok.1;have:=h.t2;omega⟩
theorem Bt.Walk.read{t d:Nat}{x:Bt (d+1)}(h:Walk S o t x):jg S t (hd x) (bn x):=h.at'.read h.fit h.t1 h.t2 h.ok
theorem Bt.Walk.size{t d:Nat}{x:Bt (d+1)}(h:Walk S o t x):(bn x).size=(its x).length/\(bn x).size<2^62:=⟨rfl,by have:=h.few;show (its x).length<_;omega⟩
theorem FD.at{α:Type}{W:World}{A:Option Addr}{n c k:Nat}{l:List α}{f:α->Nat}{e:α}(h:FD W (.slice A n c) (l.map f))(he:l[k]?=some e):∃g o,A=some ⟨g,o,none⟩/\W.cell? ⟨g,o+k,none⟩=some (Xu (f e:Nat)):=by
 obtain⟨A',c',e1,hc⟩:=h;obtain⟨hk,he⟩:=aq.1 he;obtain⟨g,o,e2,ad⟩:=hc k (by rw[ao];exact hk);rw[bI,he] at ad;have e1:A=A':=by injection e1
 exact⟨g,o,e1.trans e2,ad⟩
def i7:Option It->Value
 | some e=>Id e.kh e.vh
 | none=>Id 0 0
theorem mO{es:List It}(h:fo key es=true):∃hk:Fr key es<es.length,(es[Fr key es]).k=key:=by
 unfold fo at h
 split at h
 ·rename_i e he;obtain⟨hk,he⟩:=aq.1 he;exact⟨hk,by rw[he];exact of_decide_eq_true h⟩
 ·cases h
theorem mN{es:List It}(h:fo key es=false):∀hk:Fr key es<es.length,(es[Fr key es]).k≠key:=by
 intro hk e;unfold fo at h;rw[af hk] at h;simp only[decide_eq_false_iff_not] at h;exact h e
def fV {d:Nat}(x:Bt (d+1))(j:Nat):Nat:=(((Bn.ks x).take j).map fun k=>(Bt.its k).length).sum
theorem xt{x:Bt (d+1)}(h:j<(Bn.ks x).length):fV x (j+1)=fV x j+(Bt.its (Bn.ks x)[j]).length:=by
 unfold fV;rw[aH h,aP,List.sum_append];simp
theorem xr{t d:Nat}{x:Bt (d+1)}(h:Bt.Walk S o t x)(j:Nat):(Bn.es x).length+fV x j<=(Bt.its x).length:=by
 rw[Bt.its_length h.ok.okN];refine Nat.add_le_add_left ?_ _;unfold fV
 conv=>rhs;rw[<-aX j (Bn.ks x),aP,List.sum_append]
 omega
theorem kH(l:List It):Fr key l<=l.length:=cB
theorem Bt.Walk.leaf {S:St}{o:Nat->Nat}{t:Nat}{x:Bt 1}(h:Walk S o t x)(key:List UInt8):Fr key (its x)=Fr key (Bn.es x)/\findB key (its x)=if fo key (Bn.es x)=true then(Bn.es x)[Fr key (Bn.es x)]? else none:=by
 have hs:=h.es.1;rw[its_leaf];refine⟨rfl,?_⟩
 cases hh:fo key (Bn.es x) with
 | true=>
  obtain⟨hk,he⟩:=mO hh;rw[if_pos rfl,Kv hs hk he,af hk]
 | false=>rw[if_neg (by simp)];exact findB_none (vl hs (mN hh))
theorem Bt.Walk.ord{t d:Nat}{x:Bt (d+2)}(h:Walk S o t x)(key:List UInt8):ix key (Bn.es x) ((Bn.ks x).map its):=l7 h.ok.rows (by rw[<-dQ];exact h.sorted)
theorem Bt.Walk.klen{t d:Nat}{x:Bt (d+2)}(h:Walk S o t x)(key:List UInt8):Fr key (Bn.es x)<(Bn.ks x).length:=by have:=Ok.kids h.ok;have:=kH (key:=key) (Bn.es x);omega
theorem Bt.Walk.inner{t d:Nat}{x:Bt (d+2)}(h:Walk S o t x)(key:List UInt8)(hk:Fr key (Bn.es x)<(Bn.ks x).length):
 (fo key (Bn.es x)=true->Fr key (its x)=Fr key (Bn.es x)+fV x (Fr key (Bn.es x))+(its (Bn.ks x)[Fr key (Bn.es x)]).length/\findB key (its x)=(Bn.es x)[Fr key (Bn.es x)]?)/\
 (fo key (Bn.es x)=false->Fr key (its x)=Fr key (Bn.es x)+fV x (Fr key (Bn.es x))+Fr key (its (Bn.ks x)[Fr key (Bn.es x)])/\findB key (its x)=findB key (its (Bn.ks x)[Fr key (Bn.es x)])):=by
 have ho:=h.ord key;have hb:=ho.below;rw[<-dQ,jN hk] at hb;have ai:((((Bn.ks x).map its).take (Fr key (Bn.es x))).map List.length).sum=fV x (Fr key (Bn.es x)):=by
  unfold fV;rw[<-dh,cD];rfl
 rw[ai] at hb;refine⟨fun hh=>?_,fun hh=>?_⟩
 ·obtain⟨ad,he⟩:=mO hh;obtain⟨h1,h2⟩:=ho.here ad he;rw[jN hk] at h2;rw[dQ,h1,af ad,<-dQ];exact⟨by rw[hb,h2],rfl⟩
 ·have:=ho.down (mN hh);rw[jN hk,<-dQ] at this;exact⟨hb,this⟩
theorem Bt.Walk.inner'{t d:Nat}{x:Bt (d+2)}(h:Walk S o t x)(key:List UInt8){k:Nat}(hb:Fr key (Bn.es x)=k)(hk:k<(Bn.ks x).length):
 (fo key (Bn.es x)=true->Fr key (its x)=k+fV x k+(its (Bn.ks x)[k]).length/\findB key (its x)=(Bn.es x)[k]?)/\
 (fo key (Bn.es x)=false->Fr key (its x)=k+fV x k+Fr key (its (Bn.ks x)[k])/\findB key (its x)=findB key (its (Bn.ks x)[k])):=by
 subst hb;exact h.inner key hk
theorem ub(W1:World)(b:Nat):∃I:World->Prop,(∀w',I w'->∀k,k<W1.heap.size->k≠b->w'.heap[k]?=W1.heap[k]?)/\(∀w',(∀k,k<W1.heap.size->k≠b->w'.heap[k]?=W1.heap[k]?)->I w'):=⟨fun w'=>∀k,k<W1.heap.size->k≠b->w'.heap[k]?=W1.heap[k]?,fun _ h=>h,fun _ h=>h⟩
theorem j9{w w':World}{g o:Nat}(h:w'.heap[g]?=w.heap[g]?):w'.cell? ⟨g,o,none⟩=w.cell? ⟨g,o,none⟩:=World.cell?_of_block h
theorem pY(h:Ig w ps S Y){t d:Nat}{x:Bt (d+1)}(hx:Bt.Walk S o t x)(hd:d<40)(key:List UInt8):
 Cb 210 #[FH ps t,Xu (Bt.hd x:Nat),SV key] w (.tuple #[i7 (Bt.findB key (Bt.its x)),.bool (Bt.findB key (Bt.its x)).isSome,Xi (Fr key (Bt.its x):Nat)]):=by
 have B0:=((aa w.heap.size w).alloc Ih (Xd ps t)).alloc (by simp) (.cells #[Xu 0,Xu 0] 104);have z1:(w.alloc (Xd ps t)).heap.size=w.heap.size+1:=by simp
 have q1:=heap_alloc_new w (Xd ps t);have q2:=heap_alloc_new (w.alloc (Xd ps t)) (.cells #[Xu 0,Xu 0] 104);have q3:=(((aa (w.alloc (Xd ps t)).heap.size (w.alloc (Xd ps t))).alloc Ih (.cells #[Xu 0,Xu 0] 104)).block w.heap.size (by simp)).trans q1;rw[z1] at q2;have hz:w.heap.size+2<=((w.alloc (Xd ps t)).alloc (.cells #[Xu 0,Xu 0] 104)).heap.size:=by simp
 generalize hW:(w.alloc (Xd ps t)).alloc (.cells #[Xu 0,Xu 0] 104)=W0 at*;have hi:=hx.fit.inv;have an:=fun W (hw:Below W0.heap.size W0 W) {n:BN} {hh:Nat} (hb:jg S t hh n)=>kI (h.below (B0.trans (hw.mono B0.size))) hi hb;have cp:=fun W (hw:Below W0.heap.size W0 W) {n:BN} {hh:Nat} (hb:jg S t hh n) hz=>nS (h.below (B0.trans (hw.mono B0.size))) hi hb hz;have cb:=fun W (hw:Below W0.heap.size W0 W) {es:List It} {vk vv vc:Value} {sz:Nat} hk hl hs he=>nR (h.below (B0.trans (hw.mono B0.size))) hi t (es:=es) (vk:=vk) (vv:=vv) (vc:=vc) (sz:=sz) hk hl hs he key;have HG:=kq4 (kq4 B0 q2 q3 hz) @an @cp @cb;have HX:=If hx;obtain⟨R,hR⟩:=Ii (Bt.findB key (Bt.its x));obtain⟨rb,cn⟩:=Ii (Fr key (Bt.its x));have e3:rb<=1000000:=by have:=hx.few;have:=kH (key:=key) (Bt.its x);omega
 obtain⟨n0,b'⟩:=Ii (Bt.hd x);have HR:=kq3 hR cn b';rw[hR,cn,b'];unfold FH at an cp cb⊢;clear an cp cb h hx hi B0 q1 q2 q3 z1 hz hR cn b';go_enter func210,ntmps210;go_wp2_with fail;clear hW
 go_loopw [1,8,9,10,11,12,13,14] (fun s1 s8 _ _ _ _ _ s14 wr=>∃(d' i b hh:Nat),s1=Xu hh/\s8=Xi b/\s14=Xi i/\i+d'<40/\b<=1000000/\Hid (Below W0.heap.size W0 wr/\∃y:Bt (d'+1),Bt.Walk S o t y/\Bt.hd y=hh/\b+Fr key (Bt.its y)=rb/\Bt.findB key (Bt.its y)=R)) (fun _ _ _ _ _ _ _ s14 _=>40-(intOf s14).toNat)
 case atStart=>exact⟨d,0,0,n0,rfl,rfl,rfl,by omega,by omega,aa _ _,x,HX.out,HR.c,by rw[HR.b];omega,HR.a⟩
 case round=>
  obtain⟨d',i,b,hh,rfl,rfl,rfl,en,em,I⟩:=hrel;obtain⟨hB,y,hy,b0,dn,ds⟩:=I.out;have hlt:(i:Int)<40:=by omega
  have t3:=(hB.block w.heap.size (by have:=HG.a.d;omega)).trans HG.a.c;obtain⟨x0,x1⟩:=Fp t3;have an:=HG.b wr hB hy.read;unfold FH eC at an;rw[b0] at an;have HY:=kq5 hB hy b0 dn ds;clear hB hy b0 dn ds t3;obtain⟨n,hn⟩:=Ii (Bt.bn y);rw[hn] at an;have c3:=If an;clear an;go_wp2_with fail;refine c3.out.mono ?_;rintro e w1 ⟨vk,vv,vc,rfl,rows,hb⟩;obtain⟨Ak,ck,rfl⟩:=rows.k.slice2;obtain⟨Av,cv,rfl⟩:=rows.v.slice2;obtain⟨Ac,cc,rfl⟩:=rows.c.slice2;have a6:n.keys.length=(Bn.es y).length:=by rw[<-hn];unfold Bt.bn;rw[ao]
  have cx:n.vals.length=(Bn.es y).length:=by rw[<-hn];unfold Bt.bn;rw[ao]
  have bt:n.kids.length=(Bn.ks y).length:=by rw[<-hn];unfold Bt.bn;rw[ao]
  rw[a6] at rows;rw[cx] at rows;rw[bt] at rows;rw[a6,cx,bt];generalize n.size=sz at*;have hy:=HY.b;obtain⟨c4,c5,ee⟩:=hy.es;generalize b4:(Bn.es y).length=lk at*;generalize a8:(Bn.ks y).length=lc at*;have A1:=(aa w1.heap.size w1).alloc Ih (.cells #[.slice Ak lk ck,.slice Av lk cv,.slice Ac lc cc,Xu sz] 215);have p1:=heap_alloc_new w1 (.cells #[.slice Ak lk ck,.slice Av lk cv,.slice Ac lc cc,Xu sz] 215);have B1:=HY.a.trans ((hb.trans (A1.mono hb.size)).mono HY.a.size);have au:=rows.below A1;have b9:w1.heap.size<(w1.alloc (.cells #[.slice Ak lk ck,.slice Av lk cv,.slice Ac lc cc,Xu sz] 215)).heap.size:=by simp
  obtain⟨W1,dd⟩:=Ii (w1.alloc (.cells #[.slice Ak lk ck,.slice Av lk cv,.slice Ac lc cc,Xu sz] 215));rw[dd] at A1 p1 B1 au b9;have t3:=(B1.block w.heap.size (by have:=HG.a.d;omega)).trans HG.a.c;obtain⟨x0,x1⟩:=Fp t3;obtain⟨y0,y1,y2,y3⟩:=Fy p1;have d2:n.keys=(Bn.es y).map (·.kh):=by rw[<-hn];rfl
  have bf:=au.k.hrow;rw[d2] at bf;have ca:=HG.d W1 B1 (vv:=.slice Av lk cv) (vc:=.slice Ac lc cc) (sz:=sz) bf (by omega) c4 c5;unfold FH eC at ca;have bo:=If ca;have a':=au.v.hrow;have a9:=au.c.hrow;rw[<-hn] at a' a9;have a':FD W1 (.slice Av lk cv) ((Bn.es y).map (·.vh)):=a';have a9:FD W1 (.slice Ac lc cc) ((Bn.ks y).map Bt.hd):=a9;have q6:=(B1.block (w.heap.size+1) (by have:=HG.a.d;omega)).trans HG.a.b;have d6:=HY.a.size;have ba:=HG.a.d;have c7:∀g o,Ak=some ⟨g,o,none⟩->w.heap.size+1≠g:=fun g o e=>by subst e;have:=au.k.ge g rfl;omega
  have c8:∀g o,Av=some ⟨g,o,none⟩->w.heap.size+1≠g:=fun g o e=>by subst e;have:=au.v.ge g rfl;omega
  have c6:∀g o,Ac=some ⟨g,o,none⟩->w.heap.size+1≠g:=fun g o e=>by subst e;have:=au.c.ge g rfl;omega
  have d4:w.heap.size+1≠w1.heap.size:=by have:=hb.size;omega
  have H1:=kq6 B1 p1 (kq3 bf a' a9) t3 b9 q6;have HN:=kq5 c7 c8 c6 d4 (aB ba d6);clear c7 c8 c6 d4 d6 ba;clear ca rows au hb A1 p1 B1 t3 bf a' a9 d2 c3 a6 cx bt hn c4 c5 b9 q6;obtain⟨k,hk⟩:=Ii (Fr key (Bn.es y));obtain⟨he,bx⟩:=Ii (fo key (Bn.es y));rw[hk,bx] at bo;have ev:k<=lk:=by rw[<-hk,<-b4];exact kH _
  have e5:IntKind.i64.wrap ((b:Int)+k)=(b:Int)+k:=az _ (by omega);have HK:=kq4 hk bx b4 a8;clear hk bx b4 a8 hy;go_wp2_with fail;refine b8 bo.out fun w2 hb2=>?_;have p2:=(hb2.block w1.heap.size H1.e).trans H1.b;have t2:=(hb2.block w.heap.size (by have:=H1.a.size;have:=HG.a.d;omega)).trans H1.d;clear x0 x1 y0 y1 y2 y3;obtain⟨x0,x1⟩:=Fp t2;obtain⟨y0,y1,y2,y3⟩:=Fy p2;have ap:=If hb2;clear hb2 p2 t2 bo dd
  cases d' with
  | zero=>
   have d8:lc=0:=by rw[<-HK.d,Bt.nil_of_zero (Bn.ks y)];rfl
   subst d8;obtain⟨ch,cj⟩:=HY.b.leaf key;rw[HK.a,HK.b] at cj;rw[HK.a] at ch;have c':rb=b+k:=by have:=HY.d;rw[ch] at this;exact this.symm
   have bs:=HY.e;rw[cj] at bs;have bb:=If bs;clear ch cj bs x0 x1 y0 y1 y2 y3;go_wp2_with fail
   go_loopw [8,13] (fun s8 s13 wq=>s8=Xi ((b:Int)+k)/\s13=Xi 0/\wq=w2) (fun _ _ _=>0)
   case atStart=>exact⟨rfl,rfl,rfl⟩
   case round=>
    obtain⟨rfl,rfl,rfl⟩:=hrel;have p2:=(ap.out.block w1.heap.size H1.e).trans H1.b;have t2:=(ap.out.block w.heap.size (by have:=H1.a.size;have:=HG.a.d;omega)).trans H1.d;have q2:=(ap.out.block (w.heap.size+1) (by have:=H1.a.size;have:=HG.a.d;omega)).trans H1.f;obtain⟨x0,x1⟩:=Fp t2;obtain⟨y0,y1,y2,y3⟩:=Fy p2;obtain⟨z0,z1⟩:=Fp q2;obtain⟨f0,f1⟩:=ef q2
    cases he with
    | true=>
     obtain⟨a4,bu⟩:=mO HK.b;have a6:=HK.c;obtain⟨e,ai⟩:∃e,(Bn.es y)[k]?=some e:=by rw[<-HK.a];exact⟨_,af a4⟩
     have eb:k<lk:=by rw[<-HK.a,<-a6];exact a4
     have ec:(k:Int)<lk:=by omega
     rw[if_pos rfl,ai] at bb;obtain⟨gk,ok,rfl,a2⟩:=FD.at H1.c.a ai;obtain⟨gv,ov,rfl,a3⟩:=FD.at (f:=fun d:It=>d.vh) (l:=Bn.es y) H1.c.b ai;have dk:=(ap.out.cell (p:=⟨gk,ok+k,none⟩) (fK a2)).trans a2;have dv:=(ap.out.cell (p:=⟨gv,ov+k,none⟩) (fK a3)).trans a3;have HQ:=If q2;clear a2 a3 ai a4 bu a6 p2 t2 q2;go_wp2_with fail
     go_region
     go_wp2_with fail;have BW:Below w.heap.size w wr:=HG.a.a.trans ((H1.a.trans (ap.out.mono H1.a.size)).mono HG.a.a.size);have eW:=ew HQ.out (Xu (e.kh:Nat)) (Xu (e.vh:Nat));have BF:=eT BW (b:=w.heap.size+1) (by omega) (Xu (e.kh:Nat)) (Xu (e.vh:Nat));generalize ((wr.setCell ⟨w.heap.size+1,0,none⟩ (Xu (e.kh:Nat))).setCell ⟨w.heap.size+1,1,none⟩ (Xu (e.vh:Nat)))=WF at*;have eW:WF.drew.heap[w.heap.size+1]?=_:=eW;obtain⟨e0,e1⟩:=Fp eW;exact bodyPost_ret (v:=.tuple #[.agg #[Xu (e.kh:Nat),Xu (e.vh:Nat)],.bool true,Xi ((b:Int)+k)]) (by simp[results,f210,go_sem,e0,e1]) rfl ⟨by rw[<-bb.out,c'];rfl,BF.drew⟩
    | false=>
     rw[if_neg (by simp)] at bb;have HQ:=If q2;clear p2 t2 q2;go_wp2_with fail;have BW:Below w.heap.size w wr:=HG.a.a.trans ((H1.a.trans (ap.out.mono H1.a.size)).mono HG.a.a.size);have eW:=ew HQ.out (Xu 0) (Xu 0);have BF:=eT BW (b:=w.heap.size+1) (by omega) (Xu 0) (Xu 0);generalize ((wr.setCell ⟨w.heap.size+1,0,none⟩ (Xu 0)).setCell ⟨w.heap.size+1,1,none⟩ (Xu 0))=WF at*;obtain⟨e0,e1⟩:=Fp eW;exact bodyPost_ret (v:=.tuple #[.agg #[Xu 0,Xu 0],.bool false,Xi ((b:Int)+k)]) (by simp[results,f210,go_sem,e0,e1]) rfl ⟨by rw[<-bb.out,c'];rfl,BF⟩
  | succ d'=>
   have hy:=HY.b;have b2:=hy.klen key;rw[HK.a] at b2;have bc:=hy.inner' key HK.a b2;rw[HK.b] at bc;have a8:=HK.d;have d3:=HK.c;have ez:(0:Int)<lc:=by omega
   have er:(k:Int)<lc:=by omega
   have cq:=xr hy;have dp:=hy.few;have d5:∀W,Below W1.heap.size W1 W->∀j (h:j<(Bn.ks y).length),Cb 175 #[.agg #[PV ps,Xi t],Xu (Bt.hd (Bn.ks y)[j]:Nat)] W (Xi ((Bt.its (Bn.ks y)[j]).length:Nat)):=fun W hW j h=>by
    have ar:=hy.kid (aw h);have:=HG.c W (H1.a.trans (hW.mono H1.a.size)) ar.read ar.size.2;unfold FH at this;exact this
   obtain⟨su,bk⟩:∃su:Nat->Nat,fV y=su:=⟨_,rfl⟩;have cu:=fun j h=>xt (x:=y) (j:=j) h;have ed:su 0=0:=by rw[<-bk];simp[fV]
   rw[bk] at bc cq;simp only[bk] at cu;have HZ:=kq9 hy bc cq dp d5 cu b2 a8 d3;clear bc cq dp d5 cu bk x0 x1 y0 y1 y2 y3 a8 d3;go_wp2_with fail
   go_loopw [8,13] (fun s8 s13 wr=>∃j:Nat,j<=k/\s8=Xi ((b:Int)+k+(su j:Nat))/\s13=Xi j/\Hid (Below W1.heap.size W1 wr)) (fun _ s13 _=>k-(intOf s13).toNat)
   case atStart=>exact⟨0,by omega,by rw[ed];simp,rfl,ap⟩
   case round=>
    obtain⟨j,eo,rfl,rfl,ad⟩:=hrel;have p2:=(ad.out.block w1.heap.size H1.e).trans H1.b;have t2:=(ad.out.block w.heap.size (by have:=H1.a.size;have:=HG.a.d;omega)).trans H1.d;have q2:=(ad.out.block (w.heap.size+1) (by have:=H1.a.size;have:=HG.a.d;omega)).trans H1.f;obtain⟨x0,x1⟩:=Fp t2;obtain⟨y0,y1,y2,y3⟩:=Fy p2;obtain⟨z0,z1⟩:=Fp q2;obtain⟨f0,f1⟩:=ef q2;have b1:j<(Bn.ks y).length:=by have:=HZ.g;omega
    have ai:(Bn.ks y)[j]?=some (Bn.ks y)[j]:=af b1;obtain⟨gc,oc,rfl,a1⟩:=FD.at (f:=Bt.hd) (l:=Bn.ks y) H1.c.c ai;obtain⟨kj,ar⟩:=Ii ((Bn.ks y)[j]);obtain⟨nj,bd⟩:=Ii (Bt.hd kj);obtain⟨zj,bm⟩:=Ii (Bt.its kj).length;have bj:=fun W hW=>HZ.e W hW j b1;rw[ar,bd] at bj;rw[ar,bd] at a1;rw[bm] at bj;have cw:=HZ.f j b1;rw[ar,bm] at cw;have ek:=HZ.c j;have el:=HZ.c (j+1);have eg:=HZ.d;have bv:=HN.c gc oc rfl;have dc:=(ad.out.cell (p:=⟨gc,oc+j,none⟩) (fK a1)).trans a1;have ep:(j:Int)<lc:=by omega
    have e4:IntKind.i64.wrap ((b:Int)+k+(su j:Nat)+(zj:Nat))=(b:Int)+k+(su j:Nat)+(zj:Nat):=az _ (by omega);obtain⟨I,a7,bq⟩:=ub W1 (w.heap.size+1);have d7:=fun x:Fq I=>(a7 _ x.ok w1.heap.size H1.e (Ne.symm HN.d)).trans H1.b;have ba:=fun x:Fq I=>(a7 _ x.ok w.heap.size (by have:=H1.a.size;have:=HG.a.d;omega) (by omega)).trans H1.d;obtain⟨m0,m1,m2,m3⟩:=iB d7;obtain⟨n0,n1⟩:=fw ba;have o0:∀x:Fq I,x.to.cell? ⟨gc,oc+j,none⟩=some (Xu nj):=fun x=>(j9 (a7 _ x.ok gc (fK a1) (Ne.symm bv))).trans a1;have c9:I wr.drew:=bq _ fun k hk _=>ad.out.block k hk;have HI:=If bq;have HS:=If bj;have HQ:=If q2;have HJ:=kq6 ar bd bm cw a1 bv;clear bq d7 ba ai bj a1 p2 t2 q2 ar bd bm cw bv
    by_cases hjlt:j<k
    ·have ea:(j:Int)<k:=by omega
     go_wp2_with fail;refine fh I (.take 0 (.take 1 (.take 2 (.take 3 (.take 4 (.take 5 (.take 6 (.go 7 (.take 8 (.take 9 .nil)))))))))) (by kernel_rfl) (by kernel_rfl) c9 ?_
     iterate 7
      refine' pT ?_ ?_;rotate_left
      ·intro x;go_simp
       try rfl
      try simp only[pu]
     refine pD fun K hK=>?_;go_simp;refine b8 (HS.out wr.drew ad.out.drew) fun w3 a5=>?_;have B3:=ad.out.drew.trans (a5.mono ad.out.size);have a0:=If B3;clear a5
     try go_simp
     refine hK.out _ _ (HI.out _ fun k hk _=>a0.out.block k hk) ?_;clear hK K
     try simp only[pu]
     clear B3
     iterate 2
      refine' pT ?_ ?_;rotate_left
      ·intro x;go_simp
       try rfl
      try simp only[pu]
     refine eP ?_;go_wp2_with fail;go_roundw
     case rel=>exact⟨j+1,by omega,by rw[HJ.d];congr 1;omega,by simp,a0⟩
     case measure=>simp[intOf];omega
    ·obtain rfl:j=k:=by omega
     have ea:¬(j:Int)<j:=by omega
     cases he with
     | true=>
      obtain⟨f1,f2⟩:=HZ.b.1 rfl;obtain⟨a4,bu⟩:=mO HK.b;obtain⟨e,ai⟩:∃e,(Bn.es y)[j]?=some e:=by rw[<-HK.a];exact⟨_,af a4⟩
      have eb:j<lk:=by rw[<-HK.a,<-HK.c];exact a4
      have ec:(j:Int)<lk:=by omega
      have e1:=HY.d;have e2:=HY.e;rw[f1,HJ.a,HJ.c] at e1;rw[f2,ai] at e2;have HE:=kq2 e1 e2;obtain⟨gk,ok,rfl,a2⟩:=FD.at (f:=fun d:It=>d.kh) (l:=Bn.es y) H1.c.a ai;obtain⟨gv,ov,rfl,a3⟩:=FD.at (f:=fun d:It=>d.vh) (l:=Bn.es y) H1.c.b ai;have d0:=HN.a gk ok rfl;have d1:=HN.b gv ov rfl;have o1:∀x:Fq I,x.to.cell? ⟨gk,ok+j,none⟩=some (Xu (e.kh:Nat)):=fun x=>(j9 (a7 _ x.ok gk (fK a2) (Ne.symm d0))).trans a2;have o2:∀x:Fq I,x.to.cell? ⟨gv,ov+j,none⟩=some (Xu (e.vh:Nat)):=fun x=>(j9 (a7 _ x.ok gv (fK a3) (Ne.symm d1))).trans a3;clear e1 e2 f1 f2 ai a4 bu a2 a3 d0 d1;go_wp2_with fail;refine fh I (.take 0 (.take 1 (.take 2 (.take 3 (.take 4 (.take 5 (.take 6 (.take 7 (.take 8 (.take 9 (.take 10 (.take 11 (.take 12 (.take 13 (.take 14 (.take 15 (.take 16 (.take 17 (.go 18 (.take 19 (.go 20 (.take 21 (.take 22 .nil))))))))))))))))))))))) (by kernel_rfl) (by kernel_rfl) c9 ?_
      iterate 18
       refine' pT ?_ ?_;rotate_left
       ·intro x;go_simp
        try rfl
       try simp only[pu]
      refine pD fun K hK=>?_;go_simp;refine(HS.out wr.drew ad.out.drew).mono ?_;rintro e' w3 ⟨rfl,a5⟩;have B3:=ad.out.drew.trans (a5.mono ad.out.size);have q3:=(a5.block (w.heap.size+1) (gl HQ.out)).trans HQ.out;have a0:=kq2 B3 q3;obtain⟨c0,c1⟩:=Fp q3;obtain⟨g0,g1⟩:=ef q3;clear a5 q3
      try go_simp
      refine hK.out _ _ (HI.out _ fun k hk _=>a0.a.block k hk) ?_;clear hK K
      try simp only[pu]
      clear B3;refine' pT ?_ ?_;rotate_left
      ·intro x;go_simp
       try rfl
      try simp only[pu]
      refine pD fun K hK=>?_;go_simp
      try go_simp
      refine hK.out _ _ (HI.out _ fun k hk hne=>(fA hne _ _).trans (a0.a.block k hk)) ?_;clear hK K
      try simp only[pu]
      iterate 2
       refine' pT ?_ ?_;rotate_left
       ·intro x;go_simp
        try rfl
       try simp only[pu]
      refine eP ?_;go_wp2_with fail;have BW:Below w.heap.size w w3:=HG.a.a.trans ((H1.a.trans (a0.a.mono H1.a.size)).mono HG.a.a.size);have eW:=ew a0.b (Xu (e.kh:Nat)) (Xu (e.vh:Nat));have BF:=eT BW (b:=w.heap.size+1) (by omega) (Xu (e.kh:Nat)) (Xu (e.vh:Nat));generalize ((w3.setCell ⟨w.heap.size+1,0,none⟩ (Xu (e.kh:Nat))).setCell ⟨w.heap.size+1,1,none⟩ (Xu (e.vh:Nat)))=WF at*;obtain⟨e0,e1⟩:=Fp eW;have d9:((b+(j+su j+zj):Nat):Int)=(b:Int)+j+(su j:Nat)+(zj:Nat):=by omega
      exact bodyPost_ret (v:=.tuple #[.agg #[Xu (e.kh:Nat),Xu (e.vh:Nat)],.bool true,Xi ((b:Int)+j+(su j:Nat)+(zj:Nat))]) (by simp[results,f210,go_sem,e0,e1]) rfl ⟨by rw[<-HE.b,<-HE.a,d9];rfl,BF⟩
     | false=>
      go_wp2_with fail;go_roundw
      case rel=>
       obtain⟨f1,f2⟩:=HZ.b.2 rfl;have e1:=HY.d;rw[f1,HJ.a] at e1;refine⟨d',i+1,b+j+su j,nj,rfl,by congr 1,by simp,by omega,by omega,H1.a.trans (ad.out.mono H1.a.size),kj,?_,HJ.b,?_,?_⟩
       ·rw[<-HJ.a];exact HZ.a.kid (aw _)
       ·omega
       ·have:=HY.e;rw[f2,HJ.a] at this;exact this
      case measure=>simp[intOf];omega
theorem nT{t hh:Nat}{R:Option It}(hs:Cb 210 #[FH ps t,Xu hh,SV key] w (.tuple #[i7 R,.bool R.isSome,Xi z]))(hw:∀W,W=w.alloc (.cells #[Xu 0,Xu 0] 104)->Cb 210 #[FH ps t,Xu hh,SV key] W (.tuple #[i7 R,.bool R.isSome,Xi z])):
 Cb 178 #[PV ps,Xi t,Xu hh,SV key] w (.tuple #[i7 R,.bool R.isSome]):=by
 have q1:=heap_alloc_new w (.cells #[Xu 0,Xu 0] 104);have B0:=(aa w.heap.size w).alloc Ih (.cells #[Xu 0,Xu 0] 104);obtain⟨W0,hW⟩:=Ii (w.alloc (.cells #[Xu 0,Xu 0] 104));rw[hW] at q1 B0;have hs:=hw W0 hW.symm;have ad:∃k v:Nat,i7 R=.agg #[Xu k,Xu v]:=by
  cases R with
  | none=>exact⟨0,0,rfl⟩
  | some e=>exact⟨e.kh,e.vh,rfl⟩
 obtain⟨k,v,hR⟩:=ad;rw[hR] at hs⊢;generalize R.isSome=b at*;unfold FH at hs;have HG:=kq3 hs B0 q1;clear hs hw B0 q1 hR;go_enter func178,ntmps178;go_wp2_with fail;refine b8 HG.a fun w1 hb=>?_;have A1:=(aa w1.heap.size w1).alloc Ih (Xe k v);have r1:=(hb.block w.heap.size (gl HG.c)).trans HG.c;have r2:=(A1.block w.heap.size (gl r1)).trans r1;have B1:=HG.b.trans ((hb.trans (A1.mono hb.size)).mono HG.b.size);have p1:=heap_alloc_new w1 (Xe k v);obtain⟨W1,ai⟩:=Ii (w1.alloc (Xe k v));rw[ai] at r2 B1 p1;obtain⟨x0,x1⟩:=Fp p1;obtain⟨y0,y1⟩:=Fp r2;obtain⟨f0,f1⟩:=ef r2;have HB:=kq2 B1 r2;clear hb A1 r1 r2 B1 p1 hW;go_wp2_with fail;have eW:=ew HB.b (Xu (k:Nat)) (Xu (v:Nat));have BF:=eT HB.a (b:=w.heap.size) Ih (Xu (k:Nat)) (Xu (v:Nat));generalize ((W1.setCell ⟨w.heap.size,0,none⟩ (Xu (k:Nat))).setCell ⟨w.heap.size,1,none⟩ (Xu (v:Nat)))=WF at*;obtain⟨e0,e1⟩:=Fp eW;exact bodyPost_ret (v:=.tuple #[.agg #[Xu (k:Nat),Xu (v:Nat)],.bool b]) (by simp[results,f178,go_sem,e0,e1]) rfl ⟨rfl,BF⟩
theorem K5{t hh:Nat}{R:Option It}(hs:Cb 210 #[FH ps t,Xu hh,SV key] w (.tuple #[i7 R,.bool R.isSome,Xi z])):
 Cb 323 #[PV ps,Xi t,Xu hh,SV key] w (Xi z):=by
 have ad:∃k v:Nat,i7 R=.agg #[Xu k,Xu v]:=by
  cases R with
  | none=>exact⟨0,0,rfl⟩
  | some e=>exact⟨e.kh,e.vh,rfl⟩
 obtain⟨k,v,hR⟩:=ad;rw[hR] at hs;generalize R.isSome=b at*;unfold FH at hs;have HG:=If hs;clear hs hR;go_enter func323,ntmps323;go_wp2_with fail;refine b8 HG.out fun w1 hb=>?_;have HB:=If (hb.alloc hb.size (Xe k v));clear hb;go_wp2_with fail;go_ret;exact⟨rfl,HB.out⟩
theorem qJ(t:Nat)(key:List UInt8)(y:Bt 1):Bt.fullB t key y=[decide ((Bn.es y).length=2*t-1)]:=by
 have:(Bn.ks y)[Fr key (Bn.es y)]?=none:=by rw[Bt.nil_of_zero (Bn.ks y)];rfl
 unfold Bt.fullB;rw[this]
theorem mI(t:Nat)(key:List UInt8)(y:Bt (d+1)){k:Nat}(hk:Fr key (Bn.es y)=k)(h:k<(Bn.ks y).length):Bt.fullB t key y=decide ((Bn.es y).length=2*t-1)::Bt.fullB t key (Bn.ks y)[k]:=by
 subst hk;rw[Bt.fullB,af h]
theorem qFfaa{P:Prop}(h:P:=by
 go_wp2_with fail;go_ret;have BW:Below w.heap.size w W1:=HG.a.a.trans (H1.a.mono HG.a.a.size);exact⟨by rw[<-a5.out];rfl,BW⟩):P:=h
theorem zN(h:Ig w ps S Y){t d:Nat}{x:Bt (d+1)}(hx:Bt.Walk S o t x)(hd:d<40)(key:List UInt8):
 Cb 181 #[FH ps t,Xu (Bt.hd x:Nat),SV key] w (Xi (Bt.needB 0 true (Bt.fullB t key x):Nat)):=by
 have B0:=(aa w.heap.size w).alloc Ih (Xd ps t);have q3:=heap_alloc_new w (Xd ps t);have hz:w.heap.size+1<=(w.alloc (Xd ps t)).heap.size:=by simp
 generalize hW:w.alloc (Xd ps t)=W0 at*;have hi:=hx.fit.inv;have ap:=fun W (hw:Below W0.heap.size W0 W) {n:BN} {hh:Nat} (hb:jg S t hh n)=>kI (h.below (B0.trans (hw.mono B0.size))) hi hb;have b0:=fun W (hw:Below W0.heap.size W0 W) {es:List It} {vk vv vc:Value} {sz:Nat} hk hl hs he=>nR (h.below (B0.trans (hw.mono B0.size))) hi t (es:=es) (vk:=vk) (vv:=vv) (vc:=vc) (sz:=sz) hk hl hs he key;have HG:=kq3 (kq3 B0 q3 hz) @ap @b0;have HX:=If hx;have ca:=(Bt.At.hd_ok hx.fit hx.at').1;have t1:=hx.t1;have t2:=hx.t2;obtain⟨R,hR⟩:=Ii (Bt.needB 0 true (Bt.fullB t key x));obtain⟨n0,a6⟩:=Ii (Bt.hd x);have HR:=kq2 hR a6;rw[hR,a6];rw[a6] at ca;have cb:((n0:Int)==0)=false:=by simp;omega
 have ch:¬(n0:Int)=0:=by omega
 unfold FH;clear ap b0 h hx hi B0 q3 hz hR a6;have m1:IntKind.i64.wrap (2*(t:Int))=2*(t:Int):=az _ (by omega);have m2:IntKind.i64.wrap (2*(t:Int)-1)=2*(t:Int)-1:=az _ (by omega);go_enter func181,ntmps181;go_wp2_with fail;clear hW cb ch
 go_loopw [1,7,8,9,10,11,12,15] (fun s1 s7 s8 _ _ _ _ s15 wr=>∃(d' i f hh:Nat) (a:Bool),s1=Xu hh/\s7=Xi f/\s8=.bool a/\s15=Xi i/\i+d'<40/\f<=i/\Hid (Below W0.heap.size W0 wr/\∃y:Bt (d'+1),Bt.Walk S o t y/\Bt.hd y=hh/\Bt.needB f a (Bt.fullB t key y)=R)) (fun _ _ _ _ _ _ _ s15 _=>40-(intOf s15).toNat)
 case atStart=>exact⟨d,0,0,n0,true,rfl,rfl,rfl,rfl,by omega,by omega,aa _ _,x,HX.out,HR.b,HR.a⟩
 case round=>
  obtain⟨d',i,f,hh,a,rfl,rfl,rfl,rfl,cp,cn,I⟩:=hrel;obtain⟨hB,y,hy,bs,bx⟩:=I.out;have hlt:(i:Int)<40:=by omega
  have t3:=(hB.block w.heap.size (by have:=HG.a.c;omega)).trans HG.a.b;obtain⟨x0,x1⟩:=Fp t3;have ap:=HG.b wr hB hy.read;unfold FH eC at ap;rw[bs] at ap;have HY:=kq3 hB hy bx;clear hB hy bs bx t3;obtain⟨n,hn⟩:=Ii (Bt.bn y);rw[hn] at ap;have bj:=If ap;clear ap;go_wp2_with fail;refine bj.out.mono ?_;rintro e w1 ⟨vk,vv,vc,rfl,rows,hb⟩;obtain⟨Ak,ck,rfl⟩:=rows.k.slice2;obtain⟨Av,cv,rfl⟩:=rows.v.slice2;obtain⟨Ac,cc,rfl⟩:=rows.c.slice2;have bb:n.keys.length=(Bn.es y).length:=by rw[<-hn];unfold Bt.bn;rw[ao]
  have bf:n.vals.length=(Bn.es y).length:=by rw[<-hn];unfold Bt.bn;rw[ao]
  have ba:n.kids.length=(Bn.ks y).length:=by rw[<-hn];unfold Bt.bn;rw[ao]
  rw[bb] at rows;rw[bf] at rows;rw[ba] at rows;rw[bb,bf,ba];generalize n.size=sz at*;have hy:=HY.b;obtain⟨bm,bo,cj⟩:=hy.es;have bv:=hy.ok.1;generalize bu:(Bn.es y).length=lk at*;generalize bt:(Bn.ks y).length=lc at*;have A1:=(aa w1.heap.size w1).alloc Ih (.cells #[.slice Ak lk ck,.slice Av lk cv,.slice Ac lc cc,Xu sz] 215);have p1:=heap_alloc_new w1 (.cells #[.slice Ak lk ck,.slice Av lk cv,.slice Ac lc cc,Xu sz] 215);have B1:=HY.a.trans ((hb.trans (A1.mono hb.size)).mono HY.a.size);have a8:=rows.below A1;have bd:w1.heap.size<(w1.alloc (.cells #[.slice Ak lk ck,.slice Av lk cv,.slice Ac lc cc,Xu sz] 215)).heap.size:=by simp
  obtain⟨W1,b1⟩:=Ii (w1.alloc (.cells #[.slice Ak lk ck,.slice Av lk cv,.slice Ac lc cc,Xu sz] 215));rw[b1] at A1 p1 B1 a8 bd;have t3:=(B1.block w.heap.size (by have:=HG.a.c;omega)).trans HG.a.b;have a4:=a8.k.hrow;have a3:=a8.c.hrow;rw[<-hn] at a4 a3;have a4:FD W1 (.slice Ak lk ck) ((Bn.es y).map (·.kh)):=a4;have a3:FD W1 (.slice Ac lc cc) ((Bn.ks y).map Bt.hd):=a3;have a7:=HG.c W1 B1 (vv:=.slice Av lk cv) (vc:=.slice Ac lc cc) (sz:=sz) a4 (by omega) bm bo;unfold FH eC at a7;obtain⟨k,hk⟩:=Ii (Fr key (Bn.es y));obtain⟨he,bq⟩:=Ii (fo key (Bn.es y));rw[hk,bq] at a7;have bk:=If a7;have H1:=kq5 B1 p1 a3 t3 bd;have HK:=kq4 bu bt hk bv;obtain⟨x0,x1⟩:=Fp t3;obtain⟨y0,y1,y2,y3⟩:=Fy p1;clear rows a8 hb A1 p1 B1 t3 a4 a3 a7 bj bb bf ba hn bd bu bt hy bm bo hk bq bv
  by_cases hfull:lk=2*t-1
  ·have b2:¬((lk:Int)<2*(t:Int)-1):=by omega
   have cq:IntKind.i64.wrap ((f:Int)+1)=(f:Int)+1:=az _ (by omega);have cu:IntKind.i64.wrap ((f:Int)+1+1)=(f:Int)+1+1:=az _ (by omega);have a0:decide ((Bn.es y).length=2*t-1)=true:=by rw[HK.a];exact decide_eq_true hfull
   have HD:=If a0;clear a0 hfull
   cases d' with
   | zero=>
    have a':lc=0:=by rw[<-HK.b,Bt.nil_of_zero (Bn.ks y)];rfl
    subst a';have ad:=HY.c;rw[qJ,HD.out] at ad;have ad:(f+1)+(if a=true then 1 else 0)=R:=ad;have a5:=If ad;clear ad
    cases a with
    | true=>
     exact qFfaa
    | false=>
     exact qFfaa
   | succ d'=>
    have an:=HY.b.klen key;rw[HK.c] at an;have a1:(Bn.ks y)[k]?=some (Bn.ks y)[k]:=af an;obtain⟨gc,oc,rfl,ai⟩:=FD.at (f:=Bt.hd) (l:=Bn.ks y) H1.c a1;have ad:=HY.c;rw[mI t key y HK.c an,HD.out] at ad;have ar:=HY.b.kid (aw an);have bc:=HK.b;have b4:(k:Int)<lc:=by omega
    have b9:¬((lc:Int)=0):=by omega
    have b':((lc:Int)==0)=false:=by simp;omega
    obtain⟨kj,a2⟩:=Ii ((Bn.ks y)[k]);obtain⟨nj,au⟩:=Ii (Bt.hd kj);rw[a2] at ai ad ar;rw[au] at ai;have ad:Bt.needB (f+1) a (Bt.fullB t key kj)=R:=ad;have HJ:=kq4 ad ar au ai;clear ad ar au ai a2 a1 bc;go_wp2_with fail;refine b8 bk.out fun w2 hb2=>?_;have p2:=(hb2.block w1.heap.size H1.e).trans H1.b;clear x0 x1 y0 y1 y2 y3;obtain⟨y0,y1,y2,y3⟩:=Fy p2;have dc:=(hb2.cell (p:=⟨gc,oc+k,none⟩) (fK HJ.d)).trans HJ.d;have a9:=If hb2;clear hb2 p2;go_wp2_with fail;go_roundw
    case rel=>exact⟨d',i+1,(f+1),nj,a,rfl,by simp,rfl,by simp,by omega,by omega,H1.a.trans (a9.out.mono H1.a.size),kj,HJ.b,HJ.c,HJ.a⟩
    case measure=>simp[intOf];omega
  ·have b2:(lk:Int)<2*(t:Int)-1:=by have:=HK.d;omega
   have a0:decide ((Bn.es y).length=2*t-1)=false:=by rw[HK.a];exact decide_eq_false hfull
   have HD:=If a0;clear a0 hfull
   cases d' with
   | zero=>
    have a':lc=0:=by rw[<-HK.b,Bt.nil_of_zero (Bn.ks y)];rfl
    subst a';have ad:=HY.c;rw[qJ,HD.out] at ad;have ad:0+(if false=true then 1 else 0)=R:=ad;have a5:=If ad;clear ad;exact qFfaa
   | succ d'=>
    have an:=HY.b.klen key;rw[HK.c] at an;have a1:(Bn.ks y)[k]?=some (Bn.ks y)[k]:=af an;obtain⟨gc,oc,rfl,ai⟩:=FD.at (f:=Bt.hd) (l:=Bn.ks y) H1.c a1;have ad:=HY.c;rw[mI t key y HK.c an,HD.out] at ad;have ar:=HY.b.kid (aw an);have bc:=HK.b;have b4:(k:Int)<lc:=by omega
    have b9:¬((lc:Int)=0):=by omega
    have b':((lc:Int)==0)=false:=by simp;omega
    obtain⟨kj,a2⟩:=Ii ((Bn.ks y)[k]);obtain⟨nj,au⟩:=Ii (Bt.hd kj);rw[a2] at ai ad ar;rw[au] at ai;have ad:Bt.needB 0 false (Bt.fullB t key kj)=R:=ad;have HJ:=kq4 ad ar au ai;clear ad ar au ai a2 a1 bc;go_wp2_with fail;refine b8 bk.out fun w2 hb2=>?_;have p2:=(hb2.block w1.heap.size H1.e).trans H1.b;clear x0 x1 y0 y1 y2 y3;obtain⟨y0,y1,y2,y3⟩:=Fy p2;have dc:=(hb2.cell (p:=⟨gc,oc+k,none⟩) (fK HJ.d)).trans HJ.d;have a9:=If hb2;clear hb2 p2;go_wp2_with fail;go_roundw
    case rel=>exact⟨d',i+1,0,nj,false,rfl,by simp,rfl,by simp,by omega,by omega,H1.a.trans (a9.out.mono H1.a.size),kj,HJ.b,HJ.c,HJ.a⟩
    case measure=>simp[intOf];omega
theorem FE.cell_at{D:Nat}{l:List Nat}(h:FE w D v l)(hj:j<l.length):∃b c,v=.slice (some ⟨b,0,none⟩) l.length c/\D<=b/\w.cell? ⟨b,j,none⟩=some (Xu (l[j]:Nat)):=by
 rcases id h.2 with⟨_,e0⟩ | ⟨b,c,ad,e,_⟩
 ·rw[e0] at hj
  simp at hj
 ·have e2:=World.ownsRow.cells h (g:=b) (by rw[e];rfl) j (Xu (l[j]:Nat)) (by simp[hV,hj]);rw[Addr.add_lit,bH] at e2;exact⟨b,c,e,(h.ge b (by rw[e];rfl)).1,e2⟩
theorem Ha{w w':World}{b o:Nat}(h:w'.heap[b]?=w.heap[b]?):w'.cell? ⟨b,o,none⟩=w.cell? ⟨b,o,none⟩:=by simp only[World.cell?,h]
end
section
open Lf Tr
variable{S:St}{o:Nat->Nat}
theorem LX(hf:Fw S o){h:Nat}{ws:List Nat}(hl:reco S h=some ws):∃a r,eO S.a o a r/\ws.length+2<=r/\∃(k:Nat) (x:dR),S.t.slots[k]?=some x/\x.is=1/\h=gj x.gen k/\x.addr=a:=by
 obtain⟨k,x,hx,h1,h2,rfl⟩:=(gT hf.tab).1 hl;obtain⟨r,g1,g2,g3⟩:=hf.live k x hx h1;exact⟨x.addr,r,g1,by rw[Jy];omega,k,x,hx,h1,h2,rfl⟩
theorem LL(hf:Fw S o){l:List Nat}{n:Nat}(h0:0<n)(hn:l.Nodup)(hl:∀h∈l,∃ws,reco S h=some ws/\n<=ws.length+2):l.length*n<=64*S.a.pages.length:=by
 have key:∀i:Nat,∃a:Nat,∀hi:i<l.length,∃r,eO S.a o a r/\n<=r/\∃(k:Nat) (x:dR),S.t.slots[k]?=some x/\x.is=1/\l[i]=gj x.gen k/\x.addr=a:=fun i=>by
  by_cases hi:i<l.length
  ·obtain⟨ws,h1,h2⟩:=hl _ (aw hi);obtain⟨a,r,p,q,s⟩:=LX hf h1;exact⟨a,fun _=>⟨r,p,by omega,s⟩⟩
  ·exact⟨0,fun h=>absurd h hi⟩
 let A:Nat->Nat:=fun i=>(key i).choose
 have hA:∀i (hi:i<l.length),∃r,eO S.a o (A i) r/\n<=r/\∃(k:Nat) (x:dR),S.t.slots[k]?=some x/\x.is=1/\l[i]=gj x.gen k/\x.addr=A i:=fun i hi=>(key i).choose_spec hi;have hd:∀m,m<l.length*n->m / n<l.length/\m % n<n:=fun m hm=>⟨(Nat.div_lt_iff_lt_mul h0).2 hm,Nat.mod_lt _ h0⟩;have ai:((List.range (l.length*n)).map fun m=>A (m / n)+m % n).Nodup:=by
  refine vV (fun x hx y hy he=>?_) List.nodup_range;obtain⟨x1,x2⟩:=hd x (aZ.1 hx);obtain⟨y1,y2⟩:=hd y (aZ.1 hy);obtain⟨r,p1,q1,k1,s1,a1,b1,c1,d1⟩:=hA _ x1;obtain⟨r',p2,q2,k2,s2,a2,b2,c2,d2⟩:=hA _ y1;have hq:x / n=y / n:=by
   rcases eO.apart hf.own p1 p2 with g | g | g
   ·have e:k1=k2:=hf.inj k1 k2 s1 s2 a1 a2 b1 b2 (by rw[d1,d2];exact g.1);subst e;rw[a1] at a2
    injection a2 with a2
    subst a2;have ad:=c1.trans c2.symm;have hp:=cz.1 hn
    rcases Nat.lt_trichotomy (x / n) (y / n) with q | q | q
    ·exact absurd ad (hp _ _ x1 y1 q)
    ·exact q
    ·exact absurd ad.symm (hp _ _ y1 x1 q)
   ·omega
   ·omega
  rw[hq] at he;rw[<-Nat.div_add_mod x n,<-Nat.div_add_mod y n,hq];omega
 have an:∀y∈(List.range (l.length*n)).map (fun m=>A (m / n)+m % n),y∈S.a.keys.flatMap fun p=>(List.range 64).map fun j=>64*p+j:=by
  intro y hy;obtain⟨m,hm,rfl⟩:=ay.1 hy;obtain⟨m1,m2⟩:=hd m (aZ.1 hm);obtain⟨r,p1,q1,_⟩:=hA _ m1;have hp:=(p1.ok hf.own (b:=m % n) (by omega)).2.2;exact List.mem_flatMap.2 ⟨(A (m / n)+m % n) / 64,hp,ay.2 ⟨(A (m / n)+m % n) % 64,aZ.2 (by omega),by omega⟩⟩
 have:=Dk ai an;rw[ao,de,List.length_flatMap] at this;have e:(S.a.keys.map fun p=>((List.range 64).map fun j=>64*p+j).length)=S.a.keys.map fun _=>64:=by
  refine aW fun p _=>?_
  simp
 have hs:∀k:Nat,(List.replicate k 64).sum=64*k:=fun k=>by
  induction k with
  | zero=>rfl
  | succ k ih=>rw[List.replicate_succ,List.sum_cons,ih];omega
 rw[e,List.map_const',hs,i8] at this;exact this