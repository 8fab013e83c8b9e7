/- Trees balanced by their heights: join; trees of a kind that is joined: split, insert: plain. -/
import Derived.Test.YtcibkdbpicledaaGreatDoorZFd
import Derived.Test.YtcibkdbpicledaaGreatDoorZYd
set_option maxRecDepth 100000
namespace Go.Proofs.YtcibkdbpicledaaGreatDoor
section
open Lf
namespace Tr
theorem eZ.nil_of {t:Tr}(h:eZ t)(hm:t.mark=0):t=nil:=by
 cases t with
 | nil=>rfl
 | node l d m r=>
  obtain⟨_,_,h3,_,_⟩:=h;have h3:m=max l.mark r.mark+1:=h3;have hm:m=0:=hm;omega
theorem rg {d:It}{n:Nd}(hk:n.key=d.kh)(hv:n.val=d.vh):∀(f:Nat) {S:St} {o:Nat->Nat} {l r:Tr} {n0:Nd},Fw S o->At S l->At S r->eZ l->eZ r->reco S d.h=some (eM n0)->n0.key=d.kh->n0.val=d.vh->
 (l.hs++d.h::r.hs).Nodup->l.its.length+r.its.length<9000->max l.mark r.mark<=f->
 ∃t S',joinB n d.h f S l.root r.root=some (t.root,S')/\lF S S' o (l.hs++d.h::r.hs) t/\eZ t/\t.its=l.its++d::r.its/\max l.mark r.mark<=t.mark/\t.mark<=max l.mark r.mark+1
 | 0,S,o,l,r,n0,hf,hl,hr,bl,br,hd,hk0,hv0,hnd,hlen,hm=>by
  obtain rfl:=bl.nil_of (by omega);obtain rfl:=br.nil_of (by omega);obtain⟨S1,e1,f1,a1,o1,w1⟩:=jZ hf hl hr hd hk0 hv0 hk hv (by simp[hs,its]) (by simp[hs,its]) (by decide) (by decide) (by simp[its]) (by simp[its]);refine⟨mk nil d nil,S1,?_,⟨f1,a1,fun y hy=>o1 y fun e=>hy (by rw[e];simp),w1⟩,eZ.mk d trivial trivial (cH _) (cH _),rfl,by rw[ey];omega,by rw[ey];exact Nat.le_refl _⟩;rw[qY,e1];rfl
 | f+1,S,o,l,r,n0,hf,hl,hr,bl,br,hd,hk0,hv0,hnd,hlen,hm=>by
  have sl:=bl.sm (by omega);have sr:=br.sm (by omega);have k1:=hl.height hf (by have:=sl.1;omega);have k2:=hr.height hf (by have:=sr.1;omega);obtain⟨n1,n2,n3⟩:=aw.1 hnd;obtain⟨n4,n5⟩:=aF.1 n2;have a4:d.h∉l.hs:=fun hm=>n3 _ hm _ (av ..) rfl;rw[qX,k1,k2];simp only;by_cases c1:r.mark+1<l.mark
  ·rw[if_pos c1];obtain⟨a,e,b,rfl,ba,bb,a5,a6⟩:=bl.pos (by omega);rw[ey] at c1 hm;have a0:(mk a e b).hs=a.hs++e.h::b.hs:=eY ..;have ap:a.its.length<9000/\b.its.length+r.its.length<9000:=by rw[el] at hlen;simp at hlen;omega
   rw[a0] at n1 n3 a4;obtain⟨m1,m2,m3⟩:=aw.1 n1;obtain⟨m4,m5⟩:=aF.1 m2;simp only[am,ag,not_or] at a4;have ar:(b.hs++d.h::r.hs).Nodup:=aw.2 ⟨m5,n2,fun x hx y hy=>n3 x (by simp[hx]) y hy⟩;have g1:=gw hf hl.1;obtain⟨t,S1,e1,D1,bt,it,bc,bd⟩:=rg hk hv f hf hl.2.2 hr bb br hd hk0 hv0 ar ap.2 (by omega);have ao:t.hs=b.hs++d.h::r.hs:=by unfold hs;rw[it];simp
   have a8:∀y∈a.hs,y∉b.hs++d.h::r.hs:=fun y hy hm=>by
    rcases am.1 hm with hm | hm
    ·exact m3 _ hy _ (ah _ hm) rfl
    ·exact n3 y (by simp[hy]) y hm rfl
   have ai:e.h∉b.hs++d.h::r.hs:=fun hm=>by
    rcases am.1 hm with hm | hm
    ·exact m4 hm
    ·exact n3 e.h (by simp) e.h hm rfl
   have a7:e.h∉a.hs:=fun hm=>m3 _ hm _ (av ..) rfl;have a1:At S1 a:=hl.2.1.frame fun y hy=>D1.other y (a8 y hy);have a':t.its.length<9000:=by rw[it];rw[el] at hlen;simp at hlen⊢;omega
   obtain⟨S2,e2,f2,a2,o2,w2⟩:=jZ D1.fit (n:=nd a e (max a.mark b.mark+1) b) (d:=e) a1 D1.at' ((D1.other _ ai).trans hl.1) rfl rfl rfl rfl a7 (by rw[ao];exact ai)
    (by have:=(ba.sm (by omega)).1;omega) (by have:=(bt.sm (by omega)).1;omega) (by omega) (by omega)
   have al:(mk a e t).hs=(a.hs++e.h::b.hs)++d.h::r.hs:=by rw[show (mk a e t).hs=a.hs++e.h::t.hs from eY ..,ao];simp
   have an:(mk a e t).its=(a.its++e::b.its)++d::r.its:=by rw[el,it];simp
   have au:(mk a e t).hs.Nodup:=by rw[al,<-a0];exact hnd
   obtain⟨u,S3,e3,D3,bu,iu,bf,bj,bk⟩:=tJ f2 a2 au ba bt (by rw[an];rw[el] at hlen;simp at hlen⊢;omega) (by omega) (by omega);refine⟨u,S3,?_,⟨D3.fit,D3.at',?_,(D1.grew.trans w2).trans D3.grew⟩,bu,?_,?_,?_⟩
   ·rw[show (mk a e b).root=e.h from rfl,g1];simp only[nd];rw[e1];simp only;have ad:=e2;simp only[nd] at ad;rw[ad];simp only;rw[e3];exact nU (D3.at'.root_lt D3.fit)
   ·intro y hy;rw[a0] at hy;rw[al] at D3;have y1:y≠e.h:=fun e=>hy (by rw[e];simp);refine(D3.other y hy).trans ((o2 y y1).trans (D1.other y fun hm=>hy ?_));rcases am.1 hm with hm | hm
    ·simp[hm]
    ·rcases ag.1 hm with hm | hm<;>simp[hm]
   ·rw[iu,an];rfl
   ·rw[ey];omega
   ·rw[ey];omega
  ·rw[if_neg c1];by_cases c2:l.mark+1<r.mark
   ·rw[if_pos c2];obtain⟨a,e,b,rfl,ba,bb,a5,a6⟩:=br.pos (by omega);rw[ey] at c2 hm;have a3:(mk a e b).hs=a.hs++e.h::b.hs:=eY ..;have ap:l.its.length+a.its.length<9000/\b.its.length<9000:=by rw[el] at hlen;simp at hlen;omega
    rw[a3] at n5 n4 n3;obtain⟨m1,m2,m3⟩:=aw.1 n5;obtain⟨m4,m5⟩:=aF.1 m2;simp only[am,ag,not_or] at n4;have ar:(l.hs++d.h::a.hs).Nodup:=aw.2 ⟨n1,aF.2 ⟨n4.1,m1⟩,fun x hx y hy=>n3 x hx y (by rcases ag.1 hy with hy | hy<;>simp[hy])⟩;have g1:=gw hf hr.1;obtain⟨t,S1,e1,D1,bt,it,bc,bd⟩:=rg hk hv f hf hl hr.2.1 bl ba hd hk0 hv0 ar ap.1 (by omega);have ao:t.hs=l.hs++d.h::a.hs:=by unfold hs;rw[it];simp
    have a9:∀y∈b.hs,y∉l.hs++d.h::a.hs:=fun y hy hm=>by
     rcases am.1 hm with hm | hm
     ·exact n3 y hm y (by simp[hy]) rfl
     ·rcases ag.1 hm with hm | hm
      ·subst hm;exact n4.2.2 hy
      ·exact m3 _ hm _ (ah _ hy) rfl
    have ai:e.h∉l.hs++d.h::a.hs:=fun hm=>by
     rcases am.1 hm with hm | hm
     ·exact n3 e.h hm e.h (by simp) rfl
     ·rcases ag.1 hm with hm | hm
      ·exact n4.2.1 hm.symm
      ·exact m3 _ hm _ (av ..) rfl
    have b1:At S1 b:=hr.2.2.frame fun y hy=>D1.other y (a9 y hy);have a':t.its.length<9000:=by rw[it];rw[el] at hlen;simp at hlen⊢;omega
    obtain⟨S2,e2,f2,a2,o2,w2⟩:=jZ D1.fit (n:=nd a e (max a.mark b.mark+1) b) (d:=e) D1.at' b1 ((D1.other _ ai).trans hr.1) rfl rfl rfl rfl (by rw[ao];exact ai) m4
     (by have:=(bt.sm (by omega)).1;omega) (by have:=(bb.sm (by omega)).1;omega) (by omega) (by omega)
    have al:(mk t e b).hs=l.hs++d.h::(a.hs++e.h::b.hs):=by rw[show (mk t e b).hs=t.hs++e.h::b.hs from eY ..,ao];simp
    have an:(mk t e b).its=l.its++d::(a.its++e::b.its):=by rw[el,it];simp
    have au:(mk t e b).hs.Nodup:=by rw[al,<-a3];exact hnd
    obtain⟨u,S3,e3,D3,bu,iu,bf,bj,bk⟩:=tJ f2 a2 au bt bb (by rw[an];rw[el] at hlen;simp at hlen⊢;omega) (by omega) (by omega);refine⟨u,S3,?_,⟨D3.fit,D3.at',?_,(D1.grew.trans w2).trans D3.grew⟩,bu,?_,?_,?_⟩
    ·rw[show (mk a e b).root=e.h from rfl,g1];simp only[nd];rw[e1];simp only;have ad:=e2;simp only[nd] at ad;rw[ad];simp only;rw[e3];exact nU (D3.at'.root_lt D3.fit)
    ·intro y hy;rw[a3] at hy;rw[al] at D3;have y1:y≠e.h:=fun e=>hy (by rw[e];simp);refine(D3.other y hy).trans ((o2 y y1).trans (D1.other y fun hm=>hy ?_));rcases am.1 hm with hm | hm
     ·simp[hm]
     ·rcases ag.1 hm with hm | hm<;>simp[hm]
    ·rw[iu,an];rfl
    ·rw[ey];omega
    ·rw[ey];omega
   ·rw[if_neg c2];obtain⟨S1,e1,f1,a1,o1,w1⟩:=jZ hf hl hr hd hk0 hv0 hk hv a4 n4 (by have:=sl.1;omega) (by have:=sr.1;omega) (by omega) (by omega);refine⟨mk l d r,S1,by rw[e1];rfl,⟨f1,a1,fun y hy=>o1 y fun e=>hy (by rw[e];simp),w1⟩,eZ.mk d bl br (by omega) (by omega),rfl,by rw[ey];omega,by rw[ey];omega⟩
structure kV (jn:Jn) (Ok:Tr->Prop):Prop where
 nil:Ok nil
 sub:∀{l d m r},Ok (node l d m r)->Ok l/\Ok r
 join:∀{S:St} {o:Nat->Nat} {l r:Tr} {d:It} {n0:Nd},Fw S o->At S l->At S r->Ok l->Ok r->reco S d.h=some (eM n0)->n0.key=d.kh->n0.val=d.vh->
  (l.hs++d.h::r.hs).Nodup->l.its.length+r.its.length<99->
  ∃t S',jn S l.root d.h r.root=some ((t.root,0),S')/\lF S S' o (l.hs++d.h::r.hs) t/\Ok t/\t.its=l.its++d::r.its
theorem va:kV avlJ eZ where
 nil:=trivial
 sub h:=⟨h.1,h.2.1⟩
 join:=by
  intro S o l r d n0 hf hl hr bl br hd hk0 hv0 hnd hlen;obtain⟨t,S',e,D,bt,it,_⟩:=rg (n:=n0) hk0 hv0 100 hf hl hr bl br hd hk0 hv0 hnd (by omega) (by have:=bl.mark_le;have:=br.mark_le;omega);refine⟨t,S',?_,D,bt,it⟩;have ad:=(fL hf hd).1;unfold avlJ;rw[if_neg]
  ·rw[gw hf hd,e];rfl
  ·rw[hl.isT hf,hr.isT hf];have:isT S d.h=true:=by unfold isT;rw[gw hf hd];simp
   rw[this];simp;omega
theorem fX:∀a:List UInt8,Fu a a=0
 | []=>rfl
 | x::a=>by unfold Fu;rw[if_neg (UInt8.lt_irrefl x),if_neg (UInt8.lt_irrefl x)];exact fX a
theorem jL:∀{a b:List UInt8},Fu a b=0->a=b
 | [],[],_=>rfl
 | [],_::_,h=>by unfold Fu at h;omega
 | _::_,[],h=>by unfold Fu at h;omega
 | x::a,y::b,h=>by
  unfold Fu at h;split at h
  ·omega
  ·rename_i h1;split at h
   ·omega
   ·rename_i h2;have:x=y:=dU (dr.1 h2) (dr.1 h1);rw[this,jL h]
theorem ie:∀a b:List UInt8,Fu b a= -Fu a b
 | [],[]=>rfl
 | [],_::_=>rfl
 | _::_,[]=>rfl
 | x::a,y::b=>by
  unfold Fu;by_cases h1:x<y
  ·rw[if_pos h1,if_neg (UInt8.lt_asymm h1),if_pos h1];rfl
  ·by_cases h2:y<x
   ·rw[if_pos h2,if_neg h1,if_pos h2]
   ·rw[if_neg h1,if_neg h2,if_neg h2,if_neg h1];exact ie a b
theorem ig:∀{a b c:List UInt8},Fu a b<0->Fu b c<0->Fu a c<0
 | [],[],_,h,_=>by unfold Fu at h;omega
 | [],_::_,[],_,h=>by unfold Fu at h;omega
 | [],_::_,_::_,_,_=>by unfold Fu;omega
 | _::_,[],_,h,_=>by unfold Fu at h;omega
 | _::_,_::_,[],_,h=>by unfold Fu at h;omega
 | x::a,y::b,z::c,h1,h2=>by
  unfold Fu at h1 h2⊢;by_cases p:x<y
  ·by_cases q:y<z
   ·rw[if_pos (UInt8.lt_trans p q)];omega
   ·rw[if_neg q] at h2;by_cases q':z<y
    ·rw[if_pos q'] at h2;omega
    ·have:y=z:=dU (dr.1 q') (dr.1 q);subst this;rw[if_pos p];omega
  ·rw[if_neg p] at h1;by_cases p':y<x
   ·rw[if_pos p'] at h1;omega
   ·have:x=y:=dU (dr.1 p') (dr.1 p);subst this;rw[if_neg p'] at h1;by_cases q:x<z
    ·rw[if_pos q];omega
    ·rw[if_neg q] at h2⊢;by_cases q':z<x
     ·rw[if_pos q'] at h2;omega
     ·rw[if_neg q'] at h2⊢;exact ig h1 h2
def eU(a b:It):Prop:=Fu a.k b.k<0
structure gu (S:St) (d:It):Prop where
 k:reco S d.kh=some (FK d.k)
 v:reco S d.vh=some (FK d.v)
 lk:d.k.length<=1000
 lv:d.v.length<=1000
theorem At.blob {S:St}{o:Nat->Nat}(hf:Fw S o){t:List UInt8}(ht:t.length<=1000){h:Nat}(hl:reco S h=some (FK t)):gD S h=some t:=by
 unfold gD;rw[jt hf ht hl];rfl
theorem sn {jn:Jn}{Ok:Tr->Prop}(J:kV jn Ok)(key:List UInt8):∀(f:Nat) {S:St} {o:Nat->Nat} {t:Tr},Fw S o->At S t->Ok t->t.hs.Nodup->(∀d∈t.its,gu S d/\d.kh∉t.hs)->t.its.Pairwise eU->t.its.length<=f->t.its.length<99->
 ∃tl m tr S',kr jn key f S t.root=some ((tl.root,m,tr.root),S')/\Fw S' o/\At S' tl/\At S' tr/\Ok tl/\Ok tr/\(∀h',h'∉t.hs->reco S' h'=reco S h')/\ej S S' 0 0/\
  ((m=0/\t.its=tl.its++tr.its)\/(∃d n0,m=d.h/\d.k=key/\t.its=tl.its++d::tr.its/\reco S' d.h=some (eM n0)/\n0.key=d.kh/\n0.val=d.vh))/\(∀d∈tl.its,Fu d.k key<0)/\(∀d∈tr.its,Fu key d.k<0)
 | 0,S,o,t,hf,ht,hok,hnd,hb,hs,hl,hl2=>by
  cases t with
  | nil=>exact⟨nil,0,nil,S,wZ ..,hf,trivial,trivial,J.nil,J.nil,fun _ _=>rfl,ej.refl S,ab ⟨rfl,rfl⟩,by simp[its],by simp[its]⟩
  | node l d m r=>simp[its] at hl
 | f+1,S,o,t,hf,ht,hok,hnd,hb,hs,hl,hl2=>by
  cases t with
  | nil=>exact⟨nil,0,nil,S,by rw[sk];rfl,hf,trivial,trivial,J.nil,J.nil,fun _ _=>rfl,ej.refl S,ab ⟨rfl,rfl⟩,by simp[its],by simp[its]⟩
  | node l d m r=>
   obtain⟨h1,h2,h3⟩:=ht;obtain⟨a7,a8⟩:=J.sub hok;have g1:=gw hf h1;have bo:=(fL hf h1).1;rw[eY] at hnd hb⊢;have bc:=(hb d (by simp[its])).1;have bd:=At.blob hf bc.lk bc.k;have ai:(node l d m r).its=l.its++d::r.its:=rfl;rw[ai] at hs hl hl2⊢;obtain⟨n1,n2,n3⟩:=aw.1 hnd;obtain⟨n4,n5⟩:=aF.1 n2;have bm:d.h∉l.hs:=fun hm=>n3 _ hm _ (av ..) rfl;obtain⟨s1,s2,s3⟩:=bC.1 hs;obtain⟨s4,s5⟩:=aQ.1 s2;simp only[aE,ak] at hl hl2;have er:(node l d m r).root=d.h:=rfl;rw[er,sk,if_neg (by omega),g1];simp only[nd];rw[bd];simp only;by_cases c1:Fu key d.k<0
   ·rw[if_pos c1];obtain⟨tl,m',tr,S1,e1,f1,al,ar,a9,a',o1,w1,hm,a2,au⟩:=sn J key f hf h2 a7 n1 (fun x hx=>⟨(hb x (by simp[ai,hx])).1,fun hm=>(hb x (by simp[ai,hx])).2 (by simp[hm])⟩) s1 (by omega) (by omega);have a5:∀x∈tr.its,x∈l.its:=fun x hx=>by
     rcases hm with⟨_,e⟩ | ⟨d',_,_,_,e,_⟩<;>rw[e]<;>simp[hx]
    have a6:∀x∈tl.its,x∈l.its:=fun x hx=>by
     rcases hm with⟨_,e⟩ | ⟨d',_,_,_,e,_⟩<;>rw[e]<;>simp[hx]
    have ao:∀y∈tr.hs,y∈l.hs:=fun y hy=>by
     obtain⟨x,hx,rfl⟩:=aC.1 hy;exact aC.2 ⟨x,a5 x hx,rfl⟩
    have an:∀y∈tl.hs,y∈l.hs:=fun y hy=>by
     obtain⟨x,hx,rfl⟩:=aC.1 hy;exact aC.2 ⟨x,a6 x hx,rfl⟩
    have a1:l.hs=tl.hs++tr.hs\/∃x:It,m'=x.h/\l.hs=tl.hs++x.h::tr.hs:=by
     rcases hm with⟨_,e⟩ | ⟨d',_,e0,_,e,_⟩
     ·left;unfold Tr.hs;rw[e];simp
     ·right;exact⟨d',e0,by unfold Tr.hs;rw[e];simp⟩
    have ap:tr.hs.Nodup/\∀y∈tl.hs,y∉tr.hs:=by
     rcases a1 with e | ⟨x,_,e⟩
     ·rw[e] at n1;exact⟨(aw.1 n1).2.1,fun y hy hm=>(aw.1 n1).2.2 _ hy _ hm rfl⟩
     ·rw[e] at n1;exact⟨(aF.1 (aw.1 n1).2.1).2,fun y hy hm=>(aw.1 n1).2.2 _ hy _ (ah _ hm) rfl⟩
    have a3:(tr.hs++d.h::r.hs).Nodup:=aw.2 ⟨ap.1,n2,fun x hx y hy=>n3 x (ao x hx) y hy⟩;have bj:At S1 r:=h3.frame fun y hy=>o1 y fun hm=>n3 _ hm _ (ah _ hy) rfl;have bk:tr.its.length<=l.its.length:=by
     rcases hm with⟨_,e⟩ | ⟨d',_,_,_,e,_⟩<;>rw[e]<;>simp<;>omega
    obtain⟨u,S2,e2,D2,ba,iu⟩:=J.join f1 ar bj a' a8 ((o1 _ bm).trans h1) rfl rfl a3 (by omega);have a4:∀y∈tl.hs,y∉tr.hs++d.h::r.hs:=fun y hy hm=>by
     rcases am.1 hm with hm | hm
     ·exact ap.2 y hy hm
     ·exact n3 _ (an y hy) _ hm rfl
    refine⟨tl,m',u,S2,?_,D2.fit,al.frame fun y hy=>D2.other y (a4 y hy),D2.at',a9,ba,?_,w1.trans D2.grew,?_,a2,?_⟩
    ·rw[e1];simp only;unfold jq;rw[e2];rfl
    ·intro y hy;simp only[am,ag,not_or] at hy;refine(D2.other y fun hm=>?_).trans (o1 y hy.1);rcases am.1 hm with hm | hm
     ·exact hy.1 (ao y hm)
     ·rcases ag.1 hm with hm | hm
      ·exact hy.2.1 hm
      ·exact hy.2.2 hm
    ·rcases hm with⟨e0,e⟩ | ⟨d',n0,e0,ek,e,q1,q2,q3⟩
     ·left;exact⟨e0,by rw[iu,e];simp⟩
     ·right
      refine⟨d',n0,e0,ek,by rw[iu,e];simp,(D2.other _ fun hm=>?_).trans q1,q2,q3⟩;have ad:d'.h∈l.hs:=aC.2 ⟨d',by rw[e];simp,rfl⟩;rcases am.1 hm with hm | hm
      ·have:l.hs=tl.hs++d'.h::tr.hs:=by unfold Tr.hs;rw[e];simp
       rw[this] at n1;exact(aF.1 (aw.1 n1).2.1).1 hm
      ·exact n3 _ ad _ hm rfl
    ·intro x hx;rw[iu] at hx;rcases am.1 hx with hx | hx
     ·exact au x hx
     ·rcases ag.1 hx with hx | hx
      ·rw[hx];exact c1
      ·exact ig c1 (s4 x hx)
   ·rw[if_neg c1];by_cases c2:0<Fu key d.k
    ·rw[if_pos c2];have bb:Fu d.k key<0:=by rw[ie];omega
     obtain⟨tl,m',tr,S1,e1,f1,al,ar,a9,a',o1,w1,hm,a2,au⟩:=sn J key f hf h3 a8 n5 (fun x hx=>⟨(hb x (by simp[ai,hx])).1,fun hm=>(hb x (by simp[ai,hx])).2 (by simp[hm])⟩) s5 (by omega) (by omega);have a5:∀x∈tr.its,x∈r.its:=fun x hx=>by
      rcases hm with⟨_,e⟩ | ⟨d',_,_,_,e,_⟩<;>rw[e]<;>simp[hx]
     have a6:∀x∈tl.its,x∈r.its:=fun x hx=>by
      rcases hm with⟨_,e⟩ | ⟨d',_,_,_,e,_⟩<;>rw[e]<;>simp[hx]
     have ao:∀y∈tr.hs,y∈r.hs:=fun y hy=>by
      obtain⟨x,hx,rfl⟩:=aC.1 hy;exact aC.2 ⟨x,a5 x hx,rfl⟩
     have an:∀y∈tl.hs,y∈r.hs:=fun y hy=>by
      obtain⟨x,hx,rfl⟩:=aC.1 hy;exact aC.2 ⟨x,a6 x hx,rfl⟩
     have a1:r.hs=tl.hs++tr.hs\/∃x:It,m'=x.h/\r.hs=tl.hs++x.h::tr.hs:=by
      rcases hm with⟨_,e⟩ | ⟨d',_,e0,_,e,_⟩
      ·left;unfold Tr.hs;rw[e];simp
      ·right;exact⟨d',e0,by unfold Tr.hs;rw[e];simp⟩
     have ap:tl.hs.Nodup/\∀y∈tl.hs,y∉tr.hs:=by
      rcases a1 with e | ⟨x,_,e⟩
      ·rw[e] at n5;exact⟨(aw.1 n5).1,fun y hy hm=>(aw.1 n5).2.2 _ hy _ hm rfl⟩
      ·rw[e] at n5;exact⟨(aw.1 n5).1,fun y hy hm=>(aw.1 n5).2.2 _ hy _ (ah _ hm) rfl⟩
     have a3:(l.hs++d.h::tl.hs).Nodup:=aw.2 ⟨n1,aF.2 ⟨fun hm=>n4 (an _ hm),ap.1⟩,fun x hx y hy=>n3 x hx y (by
      rcases ag.1 hy with hy | hy
      ·rw[hy];simp
      ·exact ah _ (an y hy))⟩
     have bf:At S1 l:=h2.frame fun y hy=>o1 y fun hm=>n3 _ hy _ (ah _ hm) rfl;have bk:tl.its.length<=r.its.length:=by
      rcases hm with⟨_,e⟩ | ⟨d',_,_,_,e,_⟩<;>rw[e]<;>simp
     obtain⟨u,S2,e2,D2,ba,iu⟩:=J.join f1 bf al a7 a9 ((o1 _ n4).trans h1) rfl rfl a3 (by omega);have a4:∀y∈tr.hs,y∉l.hs++d.h::tl.hs:=fun y hy hm=>by
      rcases am.1 hm with hm | hm
      ·exact n3 _ hm _ (ah _ (ao y hy)) rfl
      ·rcases ag.1 hm with hm | hm
       ·subst hm;exact n4 (ao _ hy)
       ·exact ap.2 y hm hy
     refine⟨u,m',tr,S2,?_,D2.fit,D2.at',ar.frame fun y hy=>D2.other y (a4 y hy),ba,a',?_,w1.trans D2.grew,?_,?_,au⟩
     ·rw[e1];simp only;unfold jq;rw[e2];rfl
     ·intro y hy;simp only[am,ag,not_or] at hy;refine(D2.other y fun hm=>?_).trans (o1 y hy.2.2);rcases am.1 hm with hm | hm
      ·exact hy.1 hm
      ·rcases ag.1 hm with hm | hm
       ·exact hy.2.1 hm
       ·exact hy.2.2 (an y hm)
     ·rcases hm with⟨e0,e⟩ | ⟨d',n0,e0,ek,e,q1,q2,q3⟩
      ·left;exact⟨e0,by rw[iu,e];simp⟩
      ·right
       refine⟨d',n0,e0,ek,by rw[iu,e];simp,(D2.other _ fun hm=>?_).trans q1,q2,q3⟩;have ad:d'.h∈r.hs:=aC.2 ⟨d',by rw[e];simp,rfl⟩;rcases am.1 hm with hm | hm
       ·exact n3 _ hm _ (ah _ ad) rfl
       ·rcases ag.1 hm with hm | hm
        ·rw[hm] at ad;exact n4 ad
        ·have:r.hs=tl.hs++d'.h::tr.hs:=by unfold Tr.hs;rw[e];simp
         rw[this] at n5;exact(aw.1 n5).2.2 _ hm _ (av ..) rfl
     ·intro x hx;rw[iu] at hx;rcases am.1 hx with hx | hx
      ·exact ig (s3 x hx d (av ..)) bb
      ·rcases ag.1 hx with hx | hx
       ·rw[hx];exact bb
       ·exact a2 x hx
    ·rw[if_neg c2];have a0:key=d.k:=jL (by omega);refine⟨l,d.h,r,S,rfl,hf,h2,h3,a7,a8,fun _ _=>rfl,ej.refl S,ae ⟨d,_,rfl,a0.symm,rfl,h1,rfl,rfl⟩,?_,?_⟩
     ·intro x hx;rw[a0];exact s3 x hx d (av ..)
     ·intro x hx;rw[a0];exact s4 x hx
end Tr
namespace Tr
variable{S:St}{k:Nat}{key:List UInt8}{o:Nat->Nat}{t:Tr}
def eB(l:List It):List Nat:=l.flatMap fun d=>[d.h,d.kh,d.vh]
def ep(l:List It):List (List UInt8×List UInt8):=l.map fun d=>(d.k,d.v)
structure fC (Ok:Tr->Prop) (S:St) (o:Nat->Nat) (t:Tr):Prop where
 fit:Fw S o
 at':At S t
 ok:Ok t
 nd:(eB t.its).Nodup
 blobs:∀d∈t.its,gu S d
 sorted:t.its.Pairwise eU
theorem iX(a b:List It):eB (a++b)=eB a++eB b:=by unfold eB;exact dG
theorem mx(d:It)(b:List It):eB (d::b)=d.h::d.kh::d.vh::eB b:=rfl
theorem gU{l:List It}{y:Nat}:y∈eB l↔∃d∈l,y=d.h\/y=d.kh\/y=d.vh:=by
 unfold eB;rw[List.mem_flatMap];simp
theorem tB:∀{l:List It},(eB l).Nodup->(l.map (·.h)).Nodup/\∀d∈l,d.kh∉l.map (·.h)/\d.vh∉l.map (·.h)
 | [],_=>⟨List.nodup_nil,fun _ hd=>by cases hd⟩
 | d::l,h=>by
  rw[mx] at h;obtain⟨h1,h2⟩:=aF.1 h;obtain⟨h3,h4⟩:=aF.1 h2;obtain⟨h5,h6⟩:=aF.1 h4;obtain⟨g1,g2⟩:=tB h6;simp only[ag,not_or] at h1 h3;have ad:∀x∈l,x.h∈eB l/\x.kh∈eB l/\x.vh∈eB l:=fun x hx=>⟨gU.2 ⟨x,hx,ab rfl⟩,gU.2 ⟨x,hx,ae (ab rfl)⟩,gU.2 ⟨x,hx,ae (ae rfl)⟩⟩;have hm:∀y,y∉eB l->y∉l.map (·.h):=fun y hy hm=>by
   obtain⟨x,hx,rfl⟩:=aC.1 hm;exact hy (ad x hx).1
  refine⟨aF.2 ⟨hm _ h1.2.2,g1⟩,fun x hx=>?_⟩;rw[aM];simp only[ag,not_or];rcases ag.1 hx with rfl | hx
  ·exact⟨⟨fun e=>h1.1 e.symm,hm _ h3.2⟩,fun e=>h1.2.1 e.symm,hm _ h5⟩
  ·exact⟨⟨fun e=>h1.2.2 (e▸(ad x hx).2.1),(g2 x hx).1⟩,fun e=>h1.2.2 (e▸(ad x hx).2.2),(g2 x hx).2⟩
theorem fC.hs{Ok:Tr->Prop}(h:fC Ok S o t):t.hs.Nodup/\∀d∈t.its,d.kh∉t.hs/\d.vh∉t.hs:=tB h.nd
theorem Dk{l m:List Nat}(h:l.Nodup)(hs:∀y∈l,y∈m):l.length<=m.length:=by
 induction l generalizing m with
 | nil=>exact cH _
 | cons x r ih=>
  obtain⟨h1,h2⟩:=aF.1 h;have hx:=hs x (av ..);have:=ih h2 (m:=m.erase x) fun y hy=>by
   have ai:=hs y (ah _ hy);have ad:y≠x:=fun e=>h1 (e▸hy);exact(List.mem_erase_of_ne ad).2 ai
  rw[List.length_erase_of_mem hx] at this;have:0<m.length:=List.length_pos_of_mem hx;simp only[ak];omega
theorem vV {f:Nat->Nat}:∀{l:List Nat},(∀x∈l,∀y∈l,f x=f y->x=y)->l.Nodup->(l.map f).Nodup
 | [],_,_=>List.nodup_nil
 | x::l,h,hn=>by
  obtain⟨h1,h2⟩:=aF.1 hn;rw[aM];refine aF.2 ⟨fun hm=>?_,vV (fun a ha b hb=>h a (ah _ ha) b (ah _ hb)) h2⟩;obtain⟨y,hy,e⟩:=aC.1 hm;have:=h y (ah _ hy) x (av ..) e;exact h1 (this▸hy)
theorem EB(n:Nat):(List.replicate n 8).sum=n*8:=by
 induction n with
 | zero=>rfl
 | succ n ih=>rw[List.replicate_succ,List.sum_cons,ih];omega
theorem AI(hf:Fw S o){h:Nat}{ws:List Nat}(hl:reco S h=some ws)(hw:6<=ws.length):∃a r,eO S.a o a r/\8<=r/\∃(k:Nat) (x:e9),S.t.slots[k]?=some x/\x.is=1/\h=gj x.gen k/\x.addr=a:=by
 obtain⟨k,x,hx,h1,h2,rfl⟩:=(gT hf.tab).1 hl;obtain⟨r,g1,g2,g3⟩:=hf.live k x hx h1;rw[mn] at hw;exact⟨x.addr,r,g1,by omega,k,x,hx,h1,h2,rfl⟩
theorem D6(hf:Fw S o){l:List Nat}(hn:l.Nodup)(hl:∀h∈l,∃ws,reco S h=some ws/\6<=ws.length):l.length<=8*S.a.pages.length:=by
 have key:∀h∈l,∃a r,eO S.a o a r/\8<=r/\∃(k:Nat) (x:e9),S.t.slots[k]?=some x/\x.is=1/\h=gj x.gen k/\x.addr=a:=fun h hm=>by
  obtain⟨ws,h1,h2⟩:=hl h hm;exact AI hf h1 h2
 let f:Nat->Nat:=fun h=>if hm:h∈l then(key h hm).choose / 8 else 0
 have ad:∀h (hm:h∈l),f h=(key h hm).choose / 8:=fun h hm=>by simp only[f,dif_pos hm]
 have ai:(l.map f).Nodup:=by
  refine vV ?_ hn;intro x hx y hy he;rw[ad x hx,ad y hy] at he;obtain⟨r,p1,q1,k1,s1,a1,b1,c1,d1⟩:=(key x hx).choose_spec;obtain⟨r',p2,q2,k2,s2,a2,b2,c2,d2⟩:=(key y hy).choose_spec;generalize (key x hx).choose=A at*;generalize (key y hy).choose=B at*
  rcases eO.apart hf.own p1 p2 with g | g | g
  ·have e:k1=k2:=hf.inj k1 k2 s1 s2 a1 a2 b1 b2 (by rw[d1,d2];exact g.1);subst e;rw[a1] at a2
   injection a2 with a2
   subst a2;rw[c1,c2]
  ·omega
  ·omega
 have al:∀y∈l.map f,y∈S.a.keys.flatMap fun p=>(List.range 8).map fun j=>8*p+j:=by
  intro y hy;obtain⟨h,hm,rfl⟩:=aC.1 hy;rw[ad h hm];obtain⟨r,p1,q1,_⟩:=(key h hm).choose_spec;generalize (key h hm).choose=A at*;have hp:=(p1.ok hf.own (b:=0) (by omega)).2.2;refine List.mem_flatMap.2 ⟨A / 64,hp,aC.2 ⟨A / 8 % 8,bJ.2 (by omega),by omega⟩⟩
 have:=Dk ai al;rw[aq,List.length_flatMap] at this;have e:(S.a.keys.map fun p=>((List.range 8).map fun j=>8*p+j).length)=S.a.keys.map fun _=>8:=by
  refine aR fun p _=>?_
  simp
 rw[e,List.map_const',EB,i8] at this;omega
theorem At.rec {S:St}:∀{t:Tr},At S t->∀h∈t.hs,∃n:Nd,reco S h=some (eM n)
 | nil,_,h,hm=>by cases hm
 | node l d m r,⟨h1,h2,h3⟩,h,hm=>by
  rw[eY] at hm;rcases am.1 hm with hm | hm
  ·exact h2.rec h hm
  ·rcases ag.1 hm with rfl | hm
   ·exact⟨_,h1⟩
   ·exact h3.rec h hm
theorem fC.limit{Ok:Tr->Prop}(h:fC Ok S o t):t.its.length<Lf.limit S:=by
 have:=D6 h.fit h.hs.1 fun y hy=>by
  obtain⟨n,hn⟩:=h.at'.rec y hy;exact⟨_,hn,by simp[eM]⟩
 unfold Tr.hs at this;rw[aq] at this;unfold Lf.limit St.words;omega
def Fr(key:List UInt8)(l:List It):Nat:=l.countP fun d=>decide (Fu d.k key<0)
theorem lJ(key:List UInt8)(a b:List It):Fr key (a++b)=Fr key a+Fr key b:=List.countP_append
theorem lI{l:List It}(h:∀d∈l,Fu d.k key<0):Fr key l=l.length:=List.countP_eq_length.2 fun d hd=>by simpa using h d hd
theorem lK{l:List It}(h:∀d∈l,¬Fu d.k key<0):Fr key l=0:=dE.2 fun d hd=>by simpa using h d hd
theorem qs {S:St}{o:Nat->Nat}(hf:Fw S o)(key:List UInt8):∀(f:Nat) {t:Tr} {b:Nat},At S t->(∀d∈t.its,gu S d)->t.its.Pairwise eU->t.its.length<=f->b+t.its.length<1000000->
 ∃hh,ij S key f t.root b=some (hh,b+Fr key t.its)/\((hh=0/\∀d∈t.its,d.k≠key)\/∃d∈t.its,d.k=key/\hh=d.h)
 | 0,t,b,ha,hb,hs,hl,hc=>by
  cases t with
  | nil=>exact⟨0,rfl,ab ⟨rfl,fun _ hd=>by cases hd⟩⟩
  | node l d m r=>simp[its] at hl
 | f+1,t,b,ha,hb,hs,hl,hc=>by
  cases t with
  | nil=>exact⟨0,by rw[n8];rfl,ab ⟨rfl,fun _ hd=>by cases hd⟩⟩
  | node l d m r=>
   have g1:=ha.getNode hf;obtain⟨h1,h2,h3⟩:=ha;have ar:=(fL hf h1).1;have hi:(node l d m r).its=l.its++d::r.its:=rfl;rw[hi] at hb hs hl hc⊢;simp only[aE,ak] at hl hc;obtain⟨s1,s2,s3⟩:=bC.1 hs;obtain⟨s4,s5⟩:=aQ.1 s2;have an:=hb d (by simp);have ao:=At.blob hf an.lk an.k;have er:(node l d m r).root=d.h:=rfl;have ap:=h2.size hf (by omega);rw[er,n8,if_neg (by omega),g1,if_neg (by simp)];simp only[nd];rw[ao];simp only;rw[lJ];by_cases c1:Fu key d.k<0
   ·rw[if_pos c1];obtain⟨hh,e,q⟩:=qs hf key f h2 (fun x hx=>hb x (by simp[hx])) s1 (by omega) (b:=b) (by omega);have hz:Fr key (d::r.its)=0:=lK fun x hx=>by
     rcases ag.1 hx with rfl | hx
     ·rw[ie];omega
     ·have:=ig c1 (s4 x hx);rw[ie];omega
    refine⟨hh,by rw[e,hz];rfl,?_⟩;rcases q with⟨q1,q2⟩ | ⟨x,hx,q⟩
    ·left
     refine⟨q1,fun x hx=>?_⟩;rcases am.1 hx with hx | hx
     ·exact q2 x hx
     ·intro e;rcases ag.1 hx with rfl | hx
      ·rw[<-e,fX] at c1;omega
      ·have:=ig c1 (s4 x hx);rw[e,fX] at this;omega
    ·exact ae ⟨x,by simp[hx],q⟩
   ·rw[if_neg c1,ap];simp only;by_cases c2:0<Fu key d.k
    ·rw[if_pos c2,oI (by omega)];simp only;have ai:Fu d.k key<0:=by rw[ie];omega
     obtain⟨hh,e,q⟩:=qs hf key f h3 (fun x hx=>hb x (by simp[hx])) s5 (by omega) (b:=b+(l.its.length+1)) (by omega);have hz:Fr key l.its=l.its.length:=lI fun x hx=>ig (s3 x hx d (av ..)) ai;have al:Fr key (d::r.its)=Fr key r.its+1:=by
      unfold Fr;rw[List.countP_cons,if_pos (by simpa using ai)]
     refine⟨hh,by rw[e,hz,al];congr 2;omega,?_⟩;rcases q with⟨q1,q2⟩ | ⟨x,hx,q⟩
     ·left
      refine⟨q1,fun x hx=>?_⟩;rcases am.1 hx with hx | hx
      ·intro e;have:=ig (s3 x hx d (av ..)) ai;rw[e,fX] at this;omega
      ·rcases ag.1 hx with rfl | hx
       ·intro e;rw[e,fX] at c2;omega
       ·exact q2 x hx
     ·exact ae ⟨x,by simp[hx],q⟩
    ·rw[if_neg c2,oI (by omega)];have ad:key=d.k:=jL (by omega);have hz:Fr key l.its=l.its.length:=lI fun x hx=>by rw[ad];exact s3 x hx d (av ..)
     have al:Fr key (d::r.its)=0:=lK fun x hx=>by
      rcases ag.1 hx with rfl | hx
      ·rw[ad,fX];omega
      ·have:=s4 x hx;unfold eU at this;rw[ad,ie];omega
     exact⟨d.h,by rw[hz,al];rfl,ae ⟨d,by simp,ad.symm,rfl⟩⟩
theorem pP {S:St}{o:Nat->Nat}(hf:Fw S o):∀(f:Nat) {t:Tr} {k:Nat} (_:At S t) (_:t.its.length<=f) (_:t.its.length<1000000) (hk:k<t.its.length),j8 S f t.root k=some (t.its[k].h,0)
 | 0,t,k,ha,hl,hc,hk=>by omega
 | f+1,t,k,ha,hl,hc,hk=>by
  cases t with
  | nil=>simp[its] at hk
  | node l d m r=>
   have g1:=ha.getNode hf;obtain⟨h1,h2,h3⟩:=ha;have hi:(node l d m r).its=l.its++d::r.its:=rfl;have ai:(node l d m r).its.length=l.its.length+(r.its.length+1):=by rw[hi];simp
   have ad:=h2.size hf (by omega);have er:(node l d m r).root=d.h:=rfl;rw[er,tF,g1,if_neg (by simp)];simp only[nd];rw[ad];simp only;by_cases c1:k<l.its.length
   ·rw[if_pos c1,pP hf f h2 (by omega) (by omega) c1];simp only[hi];rw[List.getElem_append_left c1]
   ·rw[if_neg c1];by_cases c2:l.its.length<k
    ·rw[if_pos c2,pP hf f h3 (k:=k-(l.its.length+1)) (by omega) (by omega) (by omega)];simp only[hi];rw[List.getElem_append_right (by omega),List.getElem_cons,dif_neg (by omega)];congr 3
    ·rw[if_neg c2];have:k=l.its.length:=by omega
     subst this;simp[hi]
theorem fC.down{Ok:Tr->Prop}(h:fC Ok S o t)(hc:t.its.length<100000)(key:List UInt8):∃hh,ij S key (Lf.limit S) t.root 0=some (hh,Fr key t.its)/\((hh=0/\∀d∈t.its,d.k≠key)\/∃d∈t.its,d.k=key/\hh=d.h):=by
 obtain⟨hh,e,q⟩:=qs h.fit key (Lf.limit S) h.at' h.blobs h.sorted (by have:=h.limit;omega) (b:=0) (by omega);rw[bT] at e;exact⟨hh,e,q⟩
theorem fC.place{Ok:Tr->Prop}(h:fC Ok S o t)(hc:t.its.length<100000)(hk:k<t.its.length):treeAtM S t.root k=some (t.its[k].k,t.its[k].v):=by
 have hm:t.its[k]∈t.its:=aG hk;have hb:=h.blobs _ hm;have hw:kD S t.root k=some (t.its[k].h,0):=by
  unfold kD;rw[h.at'.size h.fit (by omega)];simp only;rw[if_neg (by omega),pP h.fit _ h.at' (by have:=h.limit;omega) (by omega) hk]
 have ad:∃n0:Nd,reco S t.its[k].h=some (eM n0)/\n0.key=t.its[k].kh/\n0.val=t.its[k].vh:=by
  have:∀{t:Tr},At S t->∀d∈t.its,∃n0:Nd,reco S d.h=some (eM n0)/\n0.key=d.kh/\n0.val=d.vh:=by
   intro t
   induction t with
   | nil=>intro _ d hd;cases hd
   | node l e m r ih1 ih2=>
    intro ha d hd;obtain⟨h1,h2,h3⟩:=ha
    rcases am.1 (show d∈l.its++e::r.its from hd) with hd | hd
    ·exact ih1 h2 d hd
    ·rcases ag.1 hd with rfl | hd
     ·exact⟨_,h1,rfl,rfl⟩
     ·exact ih2 h3 d hd
  exact this h.at' _ hm
 obtain⟨n0,e1,e2,e3⟩:=ad;unfold treeAtM;rw[hw];simp only;rw[if_neg (by have:=(fL h.fit e1).2.1;omega),gw h.fit e1];simp only;rw[e2,e3,At.blob h.fit hb.lk hb.k,At.blob h.fit hb.lv hb.v]
theorem fC.over{Ok:Tr->Prop}(h:fC Ok S o t)(hc:t.its.length<100000)(hk:t.its.length<=k):kD S t.root k=some (0,2):=by
 unfold kD;rw[h.at'.size h.fit (by omega)];simp only;rw[if_pos hk]
end Tr
end
section
open Lf Tr
structure Bn (K:Type) where
 h:Nat
 es:List It
 ks:List K
def Bt:Nat->Type
 | 0=>Empty
 | d+1=>Bn (Bt d)
namespace Bt
variable{d:Nat}{k:Nat}{key:List UInt8}
def ei:List It->List (List It)->List It
 | [],[]=>[]
 | [],k::_=>k
 | e::es,[]=>e::ei es []
 | e::es,k::ks=>k++e::ei es ks
def lo:List It->List (List It)->List It
 | e::es,k::ks=>k++e::lo es ks
 | _,_=>[]
def hd: {d:Nat} ->Bt d->Nat
 | 0,x=>nomatch x
 | _+1,x=>Bn.h x
def nk: {d:Nat} ->Bt d->Nat
 | 0,x=>nomatch x
 | _+1,x=>(Bn.es x).length
def its: {d:Nat} ->Bt d->List It
 | 0,x=>nomatch x
 | _+1,x=>ei (Bn.es x) ((Bn.ks x).map fun k=>its k)
def nodes: {d:Nat} ->Bt d->List Nat
 | 0,x=>nomatch x
 | _+1,x=>Bn.h x::((Bn.ks x).map fun k=>nodes k).flatten
def Ok(t:Nat): {d:Nat} ->Bt d->Prop
 | 0,x=>nomatch x
 | d+1,x=>(Bn.es x).length<=2*t-1/\((Bn.ks x).length=if d=0 then 0 else(Bn.es x).length+1)/\∀k∈Bn.ks x,Ok t k/\t<=nk k+1
theorem el(x:Bt (d+1)):its x=ei (Bn.es x) ((Bn.ks x).map its):=rfl
theorem jQ(x:Bt (d+1)):nodes x=Bn.h x::((Bn.ks x).map nodes).flatten:=rfl
theorem jY:∀es:List It,ei es []=es
 | []=>rfl
 | e::es=>by rw[ei,jY es]
theorem nil_of_zero(l:List (Bt 0)):l=[]:=by
 cases l with
 | nil=>rfl
 | cons a _=>exact nomatch (a:Empty)
theorem its_leaf(x:Bt 1):its x=Bn.es x:=by rw[el,nil_of_zero (Bn.ks x)];exact jY _
theorem xU:∀(es:List It) (ks:List (List It)) (k:Nat),k<=es.length->ks.length=es.length+1->ei es ks=lo (es.take k) (ks.take k)++ei (es.drop k) (ks.drop k)
 | _,_,0,_,_=>by simp[lo]
 | [],_,k+1,h,_=>by simp at h
 | e::es,[],k+1,_,h=>by simp at h
 | e::es,a::ks,k+1,h1,h2=>by
  simp only[ak,Nat.add_le_add_iff_right,dj] at h1 h2;have:=xU es ks k h1 h2;simp only[bS,ce,lo,ei,this,bW,aP]
def gJ(es:List It)(ks:List (List It))(k:Nat):List It:=
 match es.drop k with
 | []=>[]
 | e::r=>e::ei r (ks.drop (k+1))
theorem nA{es:List It}{ks:List (List It)}(h1:k<=es.length)(h2:ks.length=es.length+1):ei es ks=lo (es.take k) (ks.take k)++(ks.getD k []++gJ es ks k):=by
 rw[xU es ks k h1 h2]
 congr 1
 have hk:k<ks.length:=by omega
 rw[aY hk,aj,af hk];unfold gJ
 cases he:es.drop k with
 | nil=>simp[ei]
 | cons e r=>simp[ei]
theorem mP{es:List It}{ks:List (List It)}(h:k<es.length):gJ es ks k=es[k]::ei (es.drop (k+1)) (ks.drop (k+1)):=by
 unfold gJ;rw[aY h]
theorem uL{es:List It}{ks:List (List It)}(h:es.length<=k):gJ es ks k=[]:=by
 unfold gJ;rw[bY h]
theorem lo_length:∀(es:List It) (ks:List (List It)),es.length=ks.length->(lo es ks).length=es.length+(ks.map List.length).sum
 | [],[],_=>rfl
 | [],_::_,h=>by simp at h
 | _::_,[],h=>by simp at h
 | e::es,k::ks,h=>by
  simp only[ak,dj] at h;have:=lo_length es ks h;simp only[lo,aE,ak,this,aM,List.sum_cons];omega
theorem pd:∀(es:List It) (ks:List (List It)),(ks=[]\/ks.length=es.length+1)->es.Sublist (ei es ks)
 | [],_,_=>List.nil_sublist _
 | e::es,[],_=>by rw[jY];exact List.Sublist.refl _
 | e::es,k::ks,h=>by
  have h:ks.length=es.length+1:=by
   rcases h with h | h
   ·cases h
   ·simpa using h
  rw[ei];exact((pd es ks (ae h)).cons_cons e).trans (List.sublist_append_right _ _)
theorem BY{a b c:It}(h:eU a b)(g:eU b c):eU a c:=ig h g
theorem vu {key:List UInt8}:∀(es:List It) (ks:List (List It)),es.length=ks.length->(lo es ks).Pairwise eU->(∀e∈es,Fu e.k key<0)->∀d∈lo es ks,Fu d.k key<0
 | [],_,_,_,_,d,hd=>by cases hd
 | _::_,[],h,_,_,d,hd=>by simp at h
 | e::es,k::ks,h,hp,hb,d,hd=>by
  simp only[ak,dj] at h;rw[lo] at hp hd;obtain⟨p1,p2,p3⟩:=bC.1 hp;have he:=hb e (av ..);rcases am.1 hd with hd | hd
  ·exact ig (p3 d hd e (av ..)) he
  ·rcases ag.1 hd with rfl | hd
   ·exact he
   ·exact vu es ks h (aQ.1 p2).2 (fun e he=>hb e (ah _ he)) d hd
theorem lL {key:List UInt8}:∀{l:List It},l.Pairwise eU->(∀d∈l.take (Fr key l),Fu d.k key<0)/\(∀d∈l.drop (Fr key l),¬Fu d.k key<0)/\Fr key l<=l.length
 | [],_=>⟨by simp[Fr],by simp[Fr],Nat.le_refl _⟩
 | e::l,h=>by
  obtain⟨h1,h2⟩:=aQ.1 h;obtain⟨g1,g2,g3⟩:=lL (key:=key) h2;by_cases he:Fu e.k key<0
  ·have hb:Fr key (e::l)=Fr key l+1:=by unfold Fr;rw[cW (by simpa using he)]
   rw[hb];refine⟨fun d hd=>?_,fun d hd=>?_,by simp only[ak];omega⟩
   ·rw[bS] at hd;rcases ag.1 hd with rfl | hd
    ·exact he
    ·exact g1 d hd
   ·rw[ce] at hd;exact g2 d hd
  ·have ad:∀d∈l,¬Fu d.k key<0:=fun d hd hlt=>he (ig (h1 d hd) hlt);have hb:Fr key (e::l)=0:=lK fun d hd=>by
    rcases ag.1 hd with rfl | hd
    ·exact he
    ·exact ad d hd
   rw[hb];refine⟨by simp,fun d hd=>?_,cH _⟩;rw[cR] at hd;rcases ag.1 hd with rfl | hd
   ·exact he
   ·exact ad d hd
def findB(key:List UInt8)(l:List It):Option It:=l.find? fun d=>d.k==key
theorem oa{a b:List It}(h:∀d∈a,d.k≠key):findB key (a++b)=findB key b:=by
 unfold findB;rw[List.find?_append,bF.2 (fun d hd=>by simpa using h d hd)];rfl
theorem findB_none{a:List It}(h:∀d∈a,d.k≠key):findB key a=none:=bF.2 fun d hd=>by simpa using h d hd
theorem AR{a b:List It}(h:∀d∈b,d.k≠key):findB key (a++b)=findB key a:=by
 unfold findB;have hb:b.find? (fun d=>d.k==key)=none:=bF.2 fun d hd=>by simpa using h d hd
 rw[List.find?_append,hb]
 cases List.find? (fun d:It=>d.k==key) a<;>rfl
theorem ur{e:It}{l:List It}(h:e.k=key):findB key (e::l)=some e:=by
 unfold findB;rw[List.find?_cons,h];simp
theorem ne_of_lt{d:It}(h:Fu d.k key<0):d.k≠key:=fun e=>by rw[e,fX] at h;omega
theorem ne_of_gt{d:It}(h:0<Fu d.k key):d.k≠key:=fun e=>by rw[e,fX] at h;omega
structure ix (key:List UInt8) (es:List It) (ks:List (List It)):Prop where
 len:ks.length=es.length+1
 lo:∀d∈lo (es.take (Fr key es)) (ks.take (Fr key es)),Fu d.k key<0
 le:Fr key es<=es.length
 hi:∀d∈gJ es ks (Fr key es),¬Fu d.k key<0
 kid:(ks.getD (Fr key es) []).Pairwise eU
 hiS:(gJ es ks (Fr key es)).Pairwise eU
 kh:∀a∈ks.getD (Fr key es) [],∀b∈gJ es ks (Fr key es),eU a b
theorem l7{es:List It}{ks:List (List It)}(h:ks.length=es.length+1)(hs:(ei es ks).Pairwise eU):ix key es ks:=by
 have ad:es.Pairwise eU:=hs.sublist (pd es ks (ae h));obtain⟨b1,b2,b3⟩:=lL (key:=key) ad;have hw:=nA (ks:=ks) b3 h;rw[hw] at hs;obtain⟨p1,p2,p3⟩:=bC.1 hs;obtain⟨q1,q2,q3⟩:=bC.1 p2;refine⟨h,vu _ _ (by rw[ay,ay];omega) p1 b1,b3,?_,q1,q2,q3⟩;intro d hd
 by_cases hk:Fr key es<es.length
 ·rw[mP hk] at hd q2;have he:=b2 es[Fr key es] (by rw[aY hk];exact av ..)
  rcases ag.1 hd with rfl | hd
  ·exact he
  ·exact fun hlt=>he (ig ((aQ.1 q2).1 d hd) hlt)
 ·rw[uL (by omega)] at hd
  cases hd
theorem ix.parts{es:List It}{ks:List (List It)}(h:ix key es ks):ei es ks=Bt.lo (es.take (Fr key es)) (ks.take (Fr key es))++(ks.getD (Fr key es) []++gJ es ks (Fr key es)):=nA h.le h.len
theorem ix.lo_len{es:List It}{ks:List (List It)}(h:ix key es ks):(Bt.lo (es.take (Fr key es)) (ks.take (Fr key es))).length=Fr key es+((ks.take (Fr key es)).map List.length).sum:=by
 have h1:=h.le;have h2:=h.len;rw[lo_length _ _ (by rw[ay,ay];omega),ay];omega
theorem ix.below{es:List It}{ks:List (List It)}(h:ix key es ks):Fr key (ei es ks)=Fr key es+((ks.take (Fr key es)).map List.length).sum+Fr key (ks.getD (Fr key es) []):=by
 rw[h.parts,lJ,lJ,lI h.lo,lK h.hi,h.lo_len];rfl
theorem ix.here{es:List It}{ks:List (List It)}(h:ix key es ks)(hk:Fr key es<es.length)(he:(es[Fr key es]).k=key):findB key (ei es ks)=some es[Fr key es]/\Fr key (ks.getD (Fr key es) [])=(ks.getD (Fr key es) []).length:=by
 have ad:∀d∈ks.getD (Fr key es) [],Fu d.k key<0:=fun d hd=>by
  have:=h.kh d hd es[Fr key es] (by rw[mP hk];exact av ..);unfold eU at this;rwa[he] at this
 refine⟨?_,lI ad⟩;rw[h.parts,oa fun d hd=>ne_of_lt (h.lo d hd),oa fun d hd=>ne_of_lt (ad d hd),mP hk,ur he]
theorem qFfac{P:Prop}(h:P:=by
 have h4:Fu key d.k<0:=ig (by rw[ie];omega) this;exact fun e=>by rw[e,fX] at h4;omega):P:=h
theorem qFfab{P:Prop}(h:P:=by
 rcases cV (Fu (es[Fr key es]).k key) 0 with g | g | g
 ·exact absurd g e0
 ·exact absurd (jL g) (hn hk)
 ·exact g):P:=h
theorem ix.down{es:List It}{ks:List (List It)}(h:ix key es ks)(hn:∀hk:Fr key es<es.length,(es[Fr key es]).k≠key):findB key (ei es ks)=findB key (ks.getD (Fr key es) []):=by
 rw[h.parts,oa fun d hd=>ne_of_lt (h.lo d hd),AR];intro d hd
 by_cases hk:Fr key es<es.length
 ·have h2:=h.hi;have h3:=h.hiS;rw[mP hk] at hd h2 h3;have e0:=h2 _ (av ..);have e1:0<Fu (es[Fr key es]).k key:=by
   exact qFfab
  rcases ag.1 hd with rfl | hd
  ·exact ne_of_gt e1
  ·have:=(aQ.1 h3).1 d hd;exact qFfac
 ·rw[uL (by omega)] at hd
  cases hd
theorem vl{es:List It}(hs:es.Pairwise eU)(hn:∀hk:Fr key es<es.length,(es[Fr key es]).k≠key):∀d∈es,d.k≠key:=by
 obtain⟨b1,b2,b3⟩:=lL (key:=key) hs;intro d hd;rw[<-aX (Fr key es) es] at hd
 rcases am.1 hd with hd | hd
 ·exact ne_of_lt (b1 d hd)
 ·by_cases hk:Fr key es<es.length
  ·have ad:=hs.drop (i:=Fr key es);rw[aY hk] at hd b2 ad;have e0:=b2 _ (av ..);have e1:0<Fu (es[Fr key es]).k key:=by
    exact qFfab
   rcases ag.1 hd with rfl | hd
   ·exact ne_of_gt e1
   ·have:=(aQ.1 ad).1 d hd;exact qFfac
  ·rw[bY (by omega)] at hd
   cases hd
theorem vm{es:List It}(hs:es.Pairwise eU)(hk:Fr key es<es.length)(he:(es[Fr key es]).k=key):findB key es=some es[Fr key es]:=by
 obtain⟨b1,b2,b3⟩:=lL (key:=key) hs
 conv=>lhs;rw[<-aX (Fr key es) es]
 rw[oa fun d hd=>ne_of_lt (b1 d hd),aY hk,ur he]
theorem Ok.kids{t d:Nat}{x:Bt (d+2)}(h:Ok t x):(Bn.ks x).length=(Bn.es x).length+1:=by
 have:=h.2.1;rwa[if_neg (by omega)] at this
theorem Ok.rows{t d:Nat}{x:Bt (d+2)}(h:Ok t x):((Bn.ks x).map its).length=(Bn.es x).length+1:=by
 rw[aq];exact h.kids
theorem jN{ks:List (Bt d)}(h:k<ks.length):(ks.map its).getD k []=its ks[k]:=by
 rw[aj,bg,af h];rfl
theorem pow_le(t:Nat)(ht:2<=t):∀{d:Nat} {x:Bt d},Ok t x->1<=nk x->2^d<=(its x).length+1
 | 0,x,_,_=>nomatch x
 | 1,x,_,h=>by
  rw[its_leaf];have:1<=(Bn.es x).length:=h;simp only[Nat.pow_one];omega
 | d+2,x,h,h1=>by
  have hk:=Ok.kids h;have h1:1<=(Bn.es x).length:=h1;obtain⟨e,es,he⟩:=dl (l:=Bn.es x) (by omega);have ad:2<=(Bn.ks x).length:=by omega
  obtain⟨a,r,hr⟩:=dl (l:=Bn.ks x) (by omega);obtain⟨b,r2,ai⟩:=dl (l:=r) (by rw[hr] at ad;simp at ad;omega);subst ai;have ha:=h.2.2 a (by rw[hr];exact av ..);have hb:=h.2.2 b (by rw[hr];exact ah _ (av ..));have pa:=pow_le t ht ha.1 (by omega);have pb:=pow_le t ht hb.1 (by omega);have hi:its (d:=d+2) x=its a++e::ei es (its b::r2.map its):=by
   rw[el,he,hr];rfl
  have hw:(its b).length<=(ei es (its b::r2.map its)).length:=by
   cases es with
   | nil=>simp[ei]
   | cons f es=>simp[ei]
  rw[hi,aE,ak,Nat.pow_succ];omega
end Bt
namespace Bt
variable{e:It}{k:Nat}
theorem nz:∀(A B:List It) (C D:List (List It)),A.length=C.length->ei (A++B) (C++D)=lo A C++ei B D
 | [],_,[],_,_=>rfl
 | [],_,_::_,_,h=>by simp at h
 | _::_,_,[],_,h=>by simp at h
 | a::A,B,c::C,D,h=>by
  simp only[ak,dj] at h;simp only[aP,ei,lo,nz A B C D h,bW]
theorem xV(es:List It)(ks:List (List It))(k:Nat)(r:List It):ei (es.drop k) (r::ks.drop (k+1))=r++gJ es ks k:=by
 unfold gJ
 cases es.drop k with
 | nil=>simp[ei]
 | cons e q=>simp[ei]
theorem oW{α:Type}{l:List α}(h:k<l.length):l=l.take k++l[k]::l.drop (k+1):=by
 conv=>lhs;rw[<-aX k l,aY h]
theorem E6{es:List It}{ks:List (List It)}(h1:k<=es.length)(h2:ks.length=es.length+1)(r:List It):ei es (ks.set k r)=lo (es.take k) (ks.take k)++(r++gJ es ks k):=by
 have hk:k<ks.length:=by omega
 have e1:ks.set k r=ks.take k++r::ks.drop (k+1):=by rw[dd,if_pos hk]
 rw[e1]
 conv=>lhs;rw[<-aX k es]
 rw[nz _ _ _ _ (by rw[ay,ay];omega),xV]
theorem E4{es:List It}{ks:List (List It)}(h1:k<=es.length)(h2:ks.length=es.length+1)(m:It)(r1 r2:List It):
 ei (es.take k++m::es.drop k) (ks.take k++r1::r2::ks.drop (k+1))=lo (es.take k) (ks.take k)++(r1++m::(r2++gJ es ks k)):=by
 rw[nz _ _ _ _ (by rw[ay,ay];omega),ei,xV]
theorem E5{es:List It}{ks:List (List It)}{i:Nat}(h1:i<es.length)(h2:ks.length=es.length+1):ei es ks=ei (es.take i) (ks.take (i+1))++es[i]::ei (es.drop (i+1)) (ks.drop (i+1)):=by
 have hk:i<ks.length:=by omega
 have e3:ks.take (i+1)=ks.take i++[ks[i]]:=by rw[bx hk]
 have e4:=nz (es.take i) [] (ks.take i) [ks[i]] (by rw[ay,ay];omega);rw[bZ] at e4;rw[e3,e4]
 conv=>lhs;rw[oW h1,oW hk]
 rw[nz _ _ _ _ (by rw[ay,ay];omega),ei]
 simp[ei]
theorem sZ:∀(es:List It) (ks:List (List It)),ks=[]\/ks.length=es.length+1->(ei es ks).length=es.length+(ks.map List.length).sum
 | [],[],_=>rfl
 | [],[k],_=>by simp[ei]
 | [],_::_::_,h=>by simp at h
 | e::es,[],_=>by rw[jY];simp
 | e::es,k::ks,h=>by
  have h:ks.length=es.length+1:=by simpa using h
  have:=sZ es ks (ae h);simp only[ei,aE,ak,this,aM,List.sum_cons];omega
def insB(e:It)(l:List It):List It:=l.take (Fr e.k l)++e::l.drop (Fr e.k l)
theorem BE{A K B:List It}(hA:∀d∈A,Fu d.k e.k<0)(hB:∀d∈B,¬Fu d.k e.k<0):insB e (A++(K++B))=A++(insB e K++B):=by
 have hb:Fr e.k (A++(K++B))=A.length+Fr e.k K:=by rw[lJ,lJ,lI hA,lK hB];rfl
 have hk:Fr e.k K<=K.length:=cf;unfold insB;rw[hb,List.take_append,List.drop_append,bi (by omega),show A.drop (A.length+Fr e.k K)=[] from bY (by omega),cE,List.take_append,List.drop_append,
  Nat.sub_eq_zero_of_le hk,cF,cR,bZ,aU]
 simp[List.append_assoc]
theorem insB_length(e:It)(l:List It):(insB e l).length=l.length+1:=by
 have:Fr e.k l<=l.length:=cf;unfold insB;rw[aE,ak,ay,aN];omega
theorem kg{e d:It}{l:List It}:d∈insB e l↔d=e\/d∈l:=by
 unfold insB
 conv=>rhs;rw[<-aX (Fr e.k l) l]
 simp only[am,ag]
 constructor
 ·rintro(h | h | h)
  ·exact ae (ab h)
  ·exact ab h
  ·exact ae (ae h)
 ·rintro(h | h | h)
  ·exact ae (ab h)
  ·exact ab h
  ·exact ae (ae h)
theorem uR{l:List It}(hs:l.Pairwise eU)(hn:∀d∈l,d.k≠e.k):(insB e l).Pairwise eU:=by
 obtain⟨b1,b2,b3⟩:=lL (key:=e.k) hs;unfold insB;have ad:∀d∈l.drop (Fr e.k l),eU e d:=fun d hd=>by
  have h1:=b2 d hd;have h2:=hn d (bB hd);unfold eU;rw[ie]
  rcases cV (Fu d.k e.k) 0 with g | g | g
  ·exact absurd g h1
  ·exact absurd (jL g) h2
  ·omega
 refine bC.2 ⟨hs.take,aQ.2 ⟨ad,hs.drop⟩,fun a ha b hb=>?_⟩
 rcases ag.1 hb with rfl | hb
 ·exact b1 a ha
 ·exact BY (b1 a ha) (ad b hb)
theorem CZ{d:Nat}(ks:List (Bt d))(k:Nat)(y:Bt d):(ks.set k y).map its=(ks.map its).set k (its y):=dS ..
theorem ix.insert{es:List It}{ks:List (List It)}(h:ix e.k es ks):insB e (ei es ks)=Bt.lo (es.take (Fr e.k es)) (ks.take (Fr e.k es))++(insB e (ks.getD (Fr e.k es) [])++gJ es ks (Fr e.k es)):=by
 rw[h.parts,BE h.lo h.hi]
def gY(t:Nat){d:Nat}(x:Bt (d+1)):Prop:=(Bn.es x).length<=2*t/\((Bn.ks x).length=if d=0 then 0 else(Bn.es x).length+1)/\∀k∈Bn.ks x,Ok t k/\t<=nk k+1
def leafPut {d:Nat}(x:Bt (d+1))(e:It):Bt (d+1):=(⟨Bn.h x,(Bn.es x).take (Fr e.k (Bn.es x))++e::(Bn.es x).drop (Fr e.k (Bn.es x)),Bn.ks x⟩:Bn (Bt d))
def ju {d:Nat}(x:Bt (d+1))(k:Nat)(y:Bt d):Bt (d+1):=(⟨Bn.h x,Bn.es x,(Bn.ks x).set k y⟩:Bn (Bt d))
def ja {d:Nat}(x:Bt (d+1))(k:Nat)(y1:Bt d)(m:It)(y2:Bt d):Bt (d+1):=(⟨Bn.h x,(Bn.es x).take k++m::(Bn.es x).drop k,(Bn.ks x).take k++y1::y2::(Bn.ks x).drop (k+1)⟩:Bn (Bt d))
def leftOf(t:Nat){d:Nat}(x:Bt (d+1)):Bt (d+1):=(⟨Bn.h x,(Bn.es x).take t,(Bn.ks x).take (t+1)⟩:Bn (Bt d))
def rightOf(t:Nat){d:Nat}(x:Bt (d+1))(h:Nat):Bt (d+1):=(⟨h,(Bn.es x).drop (t+1),(Bn.ks x).drop (t+1)⟩:Bn (Bt d))
theorem Ch(x:Bt 1)(e:It):its (leafPut x e)=insB e (its x):=by
 rw[its_leaf,its_leaf];rfl
theorem lg{es:List It}(h:k<=es.length)(m:It):(es.take k++m::es.drop k).length=es.length+1:=by
 rw[aE,ak,ay,aN];omega
theorem vj{t:Nat}(ht:1<=t){x:Bt 1}(h:Ok t x)(e:It):gY t (leafPut x e):=by
 refine⟨?_,h.2.1,h.2.2⟩;have:=h.1
 show ((Bn.es x).take (Fr e.k (Bn.es x))++e::(Bn.es x).drop (Fr e.k (Bn.es x))).length<=2*t
 rw[lg (k:=Fr e.k (Bn.es x)) cf];omega
theorem BO{t d:Nat}{x:Bt (d+2)}(h:Ok t x)(k:Nat)(hk:k<=(Bn.es x).length)(y:Bt (d+1)):its (ju x k y)=lo ((Bn.es x).take k) (((Bn.ks x).map its).take k)++(its y++gJ (Bn.es x) ((Bn.ks x).map its) k):=by
 rw[el]
 show ei (Bn.es x) (((Bn.ks x).set k y).map its)=_
 rw[CZ,E6 hk h.rows]
theorem BQ{t d:Nat}{x:Bt (d+2)}(h:Ok t x)(k:Nat)(hk:k<=(Bn.es x).length)(y1:Bt (d+1))(m:It)(y2:Bt (d+1)):its (ja x k y1 m y2)=lo ((Bn.es x).take k) (((Bn.ks x).map its).take k)++(its y1++m::(its y2++gJ (Bn.es x) ((Bn.ks x).map its) k)):=by
 rw[el,<-E4 hk h.rows]
 show ei _ (((Bn.ks x).take k++y1::y2::(Bn.ks x).drop (k+1)).map its)=_
 rw[aL,aM,aM,bX,cB]
 rfl
theorem BP{t d:Nat}(ht:1<=t){x:Bt (d+2)}(h:Ok t x)(k:Nat){y:Bt (d+1)}(hy:Ok t y)(hn:t<=nk y+1):gY t (ju x k y):=by
 refine⟨?_,?_,fun z hz=>?_⟩
 ·have:=h.1
  show (Bn.es x).length<=2*t;omega
 ·show ((Bn.ks x).set k y).length=_;rw[bG];exact h.2.1
 ·rcases cJ hz with hz | rfl
  ·exact h.2.2 z hz
  ·exact⟨hy,hn⟩
theorem BS{t d:Nat}(ht:1<=t){x:Bt (d+2)}(h:Ok t x)(k:Nat)(hk:k<=(Bn.es x).length){y1 y2:Bt (d+1)}(m:It)(h1:Ok t y1)(n1:t<=nk y1+1)(h2:Ok t y2)(n2:t<=nk y2+1):gY t (ja x k y1 m y2):=by
 have ad:=Ok.kids h;refine⟨?_,?_,fun z hz=>?_⟩
 ·have:=h.1
  show ((Bn.es x).take k++m::(Bn.es x).drop k).length<=2*t
  rw[lg hk];omega
 ·rw[if_neg (by omega)]
  show ((Bn.ks x).take k++y1::y2::(Bn.ks x).drop (k+1)).length=((Bn.es x).take k++m::(Bn.es x).drop k).length+1
  rw[lg hk,aE,ak,ak,ay,aN];omega
 ·rcases am.1 (show z∈(Bn.ks x).take k++y1::y2::(Bn.ks x).drop (k+1) from hz) with hz | hz
  ·exact h.2.2 z (bI hz)
  ·rcases ag.1 hz with rfl | hz
   ·exact⟨h1,n1⟩
   ·rcases ag.1 hz with rfl | hz
    ·exact⟨h2,n2⟩
    ·exact h.2.2 z (bB hz)
theorem gY.ok{t d:Nat}{x:Bt (d+1)}(h:gY t x)(hl:(Bn.es x).length<2*t):Ok t x:=⟨by omega,h.2.1,h.2.2⟩
theorem gY.rows{t d:Nat}{x:Bt (d+1)}(h:gY t x):((Bn.ks x).map its=[]/\d=0)\/(((Bn.ks x).map its).length=(Bn.es x).length+1/\d≠0):=by
 by_cases hd:d=0
 ·subst hd;exact ab ⟨by rw[nil_of_zero (Bn.ks x)];rfl,rfl⟩
 ·have:=h.2.1;rw[if_neg hd] at this;exact ae ⟨by rw[aq];exact this,hd⟩
theorem gY.split{t d:Nat}(ht:1<=t){x:Bt (d+1)}(h:gY t x)(hl:(Bn.es x).length=2*t)(g:Nat):its x=its (leftOf t x)++(Bn.es x)[t]'(by omega)::its (rightOf t x g)/\Ok t (leftOf t x)/\Ok t (rightOf t x g)/\nk (leftOf t x)=t/\nk (rightOf t x g)+1=t:=by
 have hL:nk (leftOf t x)=t:=by show ((Bn.es x).take t).length=t;rw[ay];omega
 have hR:nk (rightOf t x g)+1=t:=by show ((Bn.es x).drop (t+1)).length+1=t;rw[aN];omega
 have hk:=h.2.1;refine⟨?_,⟨by have:((Bn.es x).take t).length=t:=hL;show ((Bn.es x).take t).length<=_;omega,?_,fun z hz=>h.2.2 z (bI hz)⟩,⟨by have:((Bn.es x).drop (t+1)).length+1=t:=hR;show ((Bn.es x).drop (t+1)).length<=_;omega,?_,fun z hz=>h.2.2 z (bB hz)⟩,hL,hR⟩
 ·rw[el,el,el]
  show _=ei ((Bn.es x).take t) (((Bn.ks x).take (t+1)).map its)++_::ei ((Bn.es x).drop (t+1)) (((Bn.ks x).drop (t+1)).map its)
  rw[bX,cB]
  rcases h.rows with⟨h0,_⟩ | ⟨h0,_⟩
  ·rw[h0,List.take_nil,List.drop_nil,jY,jY,jY];exact oW (by omega)
  ·exact E5 (by omega) h0
 ·show ((Bn.ks x).take (t+1)).length=if d=0 then 0 else((Bn.es x).take t).length+1
  rw[ay,ay,hk]
  split<;>omega
 ·show ((Bn.ks x).drop (t+1)).length=if d=0 then 0 else((Bn.es x).drop (t+1)).length+1
  rw[aN,aN,hk]
  split<;>omega
theorem qFfaa{P:Prop}(h:P:=by
 rcases h.rows with⟨h0,_⟩ | ⟨h0,_⟩
 ·exact ab h0
 ·exact ae h0):P:=h
theorem its_length{t d:Nat}{x:Bt (d+1)}(h:gY t x):(its x).length=(Bn.es x).length+((Bn.ks x).map fun k=>(its k).length).sum:=by
 rw[el,sZ]
 ·rw[cN]
  rfl
 ·exact qFfaa
theorem Ok.okN{t d:Nat}{x:Bt (d+1)}(h:Ok t x):gY t x:=⟨by have:=h.1;omega,h.2.1,h.2.2⟩
end Bt
structure jg (S:St) (t h:Nat) (n:BN):Prop where
 ok:iU t n
 lt:h<2^64
 len:S.len h=(6*t,0)
 get:∀k,k<6*t->S.get h k=(wAt t n n.keys.length n.kids.length k,0)
 words:∀v∈bnWords t n,v<2^64
theorem zC {S:St}{o:Nat->Nat}(hf:Fw S o){t h:Nat}{n:BN}(hl:reco S h=some (bnWords t n))(hn:iU t n):jg S t h n:=by
 have h1:=jw hf.tab hl;have h2:=fL hf hl;rw[jJ] at h1;refine⟨hn,h2.2.1,h1,fun k hk=>?_,h2.2.2.2⟩;rw[ru hf hl (by rw[jJ];exact hk)];unfold bnWords;rw[aj,bg,bO hk];rfl
structure iT (n:BN):Prop where
 keys:∀v∈n.keys,v<2^64
 vals:∀v∈n.vals,v<2^64
 kids:∀v∈n.kids,v<2^64
 size:n.size<2^64
theorem qK {l:List Nat}(h:∀v∈l,v<2^64)(k:Nat):l.getD k 0<2^64:=by
 rw[aj]
 by_cases hk:k<l.length
 ·rw[af hk];exact h _ (aG hk)
 ·rw[aH (by omega)];decide
theorem kX {t:Nat}{n:BN}(h:iT n)(hk:n.keys.length<2^64):∀v∈bnWords t n,v<2^64:=by
 intro v hv;unfold bnWords at hv;obtain⟨j,_,rfl⟩:=aC.1 hv;have h1:=qK h.keys ((j-2) / 2);have h2:=qK h.vals ((j-2) / 2);have h3:=qK h.kids (j-4*t);have h4:=h.size;unfold wAt;repeat (first | split | omega)
namespace Bt
variable{S:St}{d:Nat}{e:It}{o:Nat->Nat}{t:Nat}
def bn {d:Nat}(x:Bt (d+1)):BN:=⟨(Bn.es x).map (·.kh),(Bn.es x).map (·.vh),(Bn.ks x).map hd,(its x).length⟩
def At(S:St)(t:Nat): {d:Nat} ->Bt d->Prop
 | 0,x=>nomatch x
 | _+1,x=>reco S (Bn.h x)=some (bnWords t (bn x))/\∀k∈Bn.ks x,At S t k
theorem At.hd_ok(hf:Fw S o):∀{d:Nat} {x:Bt d},At S t x->hd x≠0/\hd x<2^64
 | 0,x,_=>nomatch x
 | d+1,x,h=>by
  have:=fL hf h.1;refine⟨fun e=>?_,this.2.1⟩;have e:Bn.h x=0:=e;have:=this.1;omega
theorem At.bnok(hf:Fw S o)(t1:2<=t)(t2:t<=16){x:Bt (d+1)}(h:At S t x)(ok:Ok t x):iU t (bn x):=by
 refine⟨t1,t2,by unfold bn;rw[aq];exact ok.1,by unfold bn;rw[aq,aq],?_⟩;have hk:=ok.2.1;unfold bn;simp only[aq]
 by_cases hd0:d=0
 ·rw[if_pos hd0] at hk;exact ab hk
 ·rw[if_neg hd0] at hk;refine ae ⟨hk,?_⟩;rw[dP];intro hc;obtain⟨k,ad,e⟩:=aC.1 (db.1 hc);exact(At.hd_ok hf (h.2 k ad)).1 e
theorem At.read(hf:Fw S o)(t1:2<=t)(t2:t<=16){x:Bt (d+1)}(h:At S t x)(ok:Ok t x):jg S t (hd x) (bn x):=zC hf h.1 (h.bnok hf t1 t2 ok)
theorem At.frame {S S':St}{t:Nat}:∀{d:Nat} {x:Bt d},At S t x->(∀h∈nodes x,reco S' h=reco S h)->At S' t x
 | 0,x,_,_=>nomatch x
 | d+1,x,h,hf=>by
  refine⟨(hf _ (av ..)).trans h.1,fun k hk=>(h.2 k hk).frame fun y hy=>hf y (ah _ ?_)⟩;exact cM.2 ⟨_,aC.2 ⟨k,hk,rfl⟩,hy⟩
theorem mem_nodes_kid{x:Bt (d+1)}{k:Bt d}(hk:k∈Bn.ks x){y:Nat}(hy:y∈nodes k):y∈nodes x:=ah _ (cM.2 ⟨_,aC.2 ⟨k,hk,rfl⟩,hy⟩)
theorem hd_mem:∀{d:Nat} (x:Bt d),hd x∈nodes x
 | 0,x=>nomatch x
 | _+1,_=>av ..
theorem At.rec {S:St}{t:Nat}:∀{d:Nat} {x:Bt d},At S t x->∀h∈nodes x,∃n,reco S h=some (bnWords t n)
 | 0,x,_,_,_=>nomatch x
 | d+1,x,h,y,hy=>by
  rcases ag.1 hy with rfl | hy
  ·exact⟨_,h.1⟩
  ·obtain⟨l,hl,hy⟩:=cM.1 hy;obtain⟨k,hk,rfl⟩:=aC.1 hl;exact(h.2 k hk).rec y hy
theorem bnLt_of(hf:Fw S o){t d:Nat}{x:Bt (d+1)}(hb:∀e∈Bn.es x,e.kh<2^64/\e.vh<2^64)(hk:∀k∈Bn.ks x,At S t k)(hl:(its x).length<2^64):iT (bn x):=by
 refine⟨fun v hv=>?_,fun v hv=>?_,fun v hv=>?_,hl⟩
 ·obtain⟨e,he,rfl⟩:=aC.1 hv;exact(hb e he).1
 ·obtain⟨e,he,rfl⟩:=aC.1 hv;exact(hb e he).2
 ·obtain⟨k,ad,rfl⟩:=aC.1 hv;exact(At.hd_ok hf (hk k ad)).2
theorem blobs_lt(hf:Fw S o)(h:gu S e):e.kh<2^64/\e.vh<2^64:=⟨(fL hf h.k).2.1,(fL hf h.v).2.1⟩
theorem lN{x:Bt (d+1)}(h:gY t x)(he:e∈Bn.es x):e∈its x:=by
 rw[el];refine(pd _ _ ?_).subset he;exact qFfaa
theorem vM:∀(es:List It) (ks:List (List It)),(ks=[]\/ks.length=es.length+1)->∀k∈ks,∀e∈k,e∈ei es ks
 | _,[],_,k,hk,_,_=>by cases hk
 | [],[a],_,k,hk,e,he=>by
  rcases ag.1 hk with rfl | hk
  ·exact he
  ·cases hk
 | [],_::_::_,h,_,_,_,_=>by simp at h
 | f::es,a::ks,h,k,hk,e,he=>by
  rw[ei];rcases ag.1 hk with rfl | hk
  ·exact az _ he
  ·exact ax _ (ah _ (vM es ks (ae (by simpa using h)) k hk e he))
theorem kid_its{x:Bt (d+1)}(h:gY t x){k:Bt d}(hk:k∈Bn.ks x)(he:e∈its k):e∈its x:=by
 rw[el];refine vM _ _ ?_ (its k) (aC.2 ⟨k,hk,rfl⟩) e he;exact qFfaa
def fullB(t:Nat)(key:List UInt8): {d:Nat} ->Bt d->List Bool
 | 0,x=>nomatch x
 | _+1,x=>decide ((Bn.es x).length=2*t-1)::(match (Bn.ks x)[Fr key (Bn.es x)]? with | none=>[] | some k=>fullB t key k)
def trail:List Bool->Nat
 | []=>0
 | b::r=>if r.all id=true then(if b=true then r.length+1 else r.length) else trail r
def needB:Nat->Bool->List Bool->Nat
 | full,all,[]=>full+if all=true then 1 else 0
 | full,all,b::r=>if b=true then needB (full+1) all r else needB 0 false r
theorem trail_all:∀{r:List Bool},r.all id=true->trail r=r.length
 | [],_=>rfl
 | b::r,h=>by
  simp only[List.all_cons,aI,id] at h;unfold trail;rw[if_pos h.2,if_pos h.1];rfl
theorem rK:∀(p:List Bool) (full:Nat) (all:Bool),needB full all p=if p.all id=true then full+p.length+(if all=true then 1 else 0) else trail p
 | [],full,all=>by unfold needB;simp
 | b::r,full,all=>by
  unfold needB trail;cases b with
  | true=>
   rw[if_pos rfl,rK r];simp only[List.all_cons,id,Bool.true_and,ak];by_cases h:r.all id=true
   ·rw[if_pos h,if_pos h];omega
   ·rw[if_neg h,if_neg h,if_neg h]
  | false=>
   rw[if_neg (by simp),rK r];simp only[List.all_cons,id,Bool.false_and];by_cases h:r.all id=true
   ·rw[if_pos h,if_neg (by simp),if_pos h,if_neg (by simp)];simp
   ·rw[if_neg h,if_neg (by simp),if_neg h]
theorem need_zero(p:List Bool):needB 0 true p=trail p+if p.all id=true then 1 else 0:=by
 rw[rK]
 by_cases h:p.all id=true
 ·rw[if_pos h,if_pos h,trail_all h]
  simp
 ·rw[if_neg h,if_neg h]
  rfl
end Bt
