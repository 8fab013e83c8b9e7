/- Trees taken apart and put together: Insert: the walk. -/
import Derived.Test.YtpljannolpapgaaGreatDoorVKe
import Derived.Test.YtpljannolpapgaaGreatDoorVUb
set_option maxRecDepth 100000
set_option maxHeartbeats 3200000
namespace Go.Proofs.YtpljannolpapgaaGreatDoor
section
open Go.RowKit Tryz Go.BigFrame Go.Maps Go.WideMaps Lf
def Lf.insertOkM(jn:Jn)(S:St)(root m:Nat):Option ((Nat×Nat)×St):=
 if isT S root=false\/isT S m=false\/m=0\/(fz S (getNode S m).1.key).2≠0 then none
 else match kr jn (fz S (getNode S m).1.key).1 200 S root with
  | none=>none
  | some ((l,old,r),S1)=>(jq jn S1 l m r).map fun x=>((x.1,old),x.2)
theorem In {w:World}{ps:Nat}{S S':St}{Y:Nat->Prop}(h:Ig w ps S Y)(hi:Fv S){kind:Nat}{j c:FuncId}{jn:Jn}(hjn:mz j jn)(hk:j6 kind j c)(root m:Nat)(hl:root<2^64)(hm:m<2^64){R:Nat×Nat}(hR:insertOkM jn S root m=some (R,S')):
 (Ct 308 #[PV ps,Xi kind,Xu root,Xu m] w fun e w'=>e=.returned (.tuple #[Xu R.1,Xu R.2,Xi 0])/\Ig w' ps S' Y/\Fo Y w w')/\Fv S'/\R.1<2^64/\R.2<2^64:=by
 unfold insertOkM at hR
 split at hR
 ·cases hR
 rename_i hc;simp only[not_or,Bool.not_eq_false,cZ] at hc;obtain⟨t1,t2,m0,a0⟩:=hc
 split at hR
 ·cases hR
 rename_i l old r S1 hs;obtain⟨⟨x,S2⟩,ar,he⟩:=aC.1 hR
 injection he with e1 e2
 simp only at e1 e2 ar;subst e1 e2;have a5:=fs h m;obtain⟨-,an,ad,hold,ai⟩:=uf (c:=c) hjn _ 200 0 rfl h hi hl hs;have a3:=fun W Z (hW:Ig W ps S Z)=>(uf (c:=c) hjn _ 200 0 rfl hW hi hl hs).1;have a2:=nW hjn ar;have a1:=fun W Z (hW:Ig W ps S1 Z)=>qn (c:=c) hW an hjn l m r ad hm ai ar;refine⟨?_,hjn.inv an a2,(by have q:=hjn.lt an (by first | exact hm | exact ad | exact ai) (by first | exact hm | exact ad | exact ai) (by first | exact hm | exact ad | exact ai) a2;exact q),hold⟩;have hg:=fun W (hW:Below w.heap.size w W)=>iO (h.below hW) hi m hm;have hb:=fun W (hW:Below w.heap.size w W)=>iz (h.below hW) hi (getNode S m).1.key a5.key (by rw[a0];decide);have hw:=fun W (hW:Below w.heap.size w W) rb t fr hrb=>yH (t:=t) (fr:=fr) (h.below hW) hi hk root m hl hm t1 t2 rb hrb;rw[a0] at hb;generalize (fz S (getNode S m).1.key).1=key at*;obtain⟨⟨⟨k0,k1,k2,k3,k4,k5⟩,er⟩,hE⟩:∃q,getNode S m=q:=⟨_,rfl⟩;rw[hE] at hg hb;simp only[gS,eL,eS] at hg hb hw a3 a1⊢;have a8:((m:Int)==0)=false:=by simp;omega
 have HG:=kq6 hg hb hw a3 a1 h;clear hg hb hw a3 a1 h hi hE hjn hk hR t1 t2 m0 a0 hs ar a5 an ad hold ai a2;go_enter func308,ntmps308;go_wp2_with fail;refine wx (HG.c _ ((ab _ w).alloc Ih _) _ _ _ (heap_alloc_new w _)) fun w1 hb1=>?_;have B1:=((ab w.heap.size w).alloc Ih (.cells #[Xu root,Xu m] 61)).trans (hb1.mono (by simp));have q1:=heap_alloc_new w1 (.cells #[PV ps,.func (.func j) #[] #[],.func (.func c) #[] #[]] 265);have al:=B1.alloc B1.size (.cells #[PV ps,.func (.func j) #[] #[],.func (.func c) #[] #[]] 265);have z1:=B1.size;clear hb1 B1;go_wp2_with fail;generalize w1.alloc (.cells #[PV ps,.func (.func j) #[] #[],.func (.func c) #[] #[]] 265)=W1 at*;generalize w1.heap.size=b11 at*;refine wx (HG.a _ al) fun w2 hb2=>?_;have au:=hb2.alloc hb2.size (Xd k0 k1 k2 k3 k4 k5);have q2:=heap_alloc_new w2 (Xd k0 k1 k2 k3 k4 k5);have r2:=(au.block b11 (gl q1)).trans q1;have B2:=al.trans (au.mono al.size);obtain⟨d0,d1,d2,d3,d4,d5⟩:=ia q2;have H2:=kq3 B2 r2 z1;clear hb2 au q2 r2 B2 al q1 z1;go_wp2_with fail;refine wx (HG.b _ H2.a) fun w3 hb3=>?_;have r3:=(hb3.block b11 (gl H2.b)).trans H2.b;obtain⟨e0,e1,e2⟩:=fq r3;have a7:=(gl r3);have H3:=kq2 (H2.a.trans (hb3.mono H2.a.size)) r3;clear hb3 r3 d0 d1 d2 d3 d4 d5;go_wp2_with fail;refine(HG.d _ _ (HG.f.wide H3.a)).mono ?_;rintro e w4 ⟨rfl,h4,a4⟩;have r4:=(a4.block b11 (ae ⟨H2.c,a7⟩)).trans H3.b;obtain⟨f0,f1,f2⟩:=fq r4;have H4:=kq2 h4 a4;clear h4 a4 r4 e0 e1 e2;go_wp2_with fail;refine(HG.e _ _ H4.a).mono ?_;rintro e w5 ⟨rfl,h5,a6⟩;have H5:=kq2 (h5.mono (Z:=Y) fun k hk=>aa hk) ((Fo.of_below H3.a HG.f.yl).trans ((H4.b.trans a6).mono fun k hk=>aa hk));clear h5 a6 f0 f1 f2;go_wp2_with fail;go_ret3;exact⟨rfl,H5.out⟩
end
section
open Lf
namespace Tr
theorem eZ.nil_of {t:Tr}(h:eZ t)(hm:t.mark=0):t=nil:=by
 cases t with
 | nil=>rfl
 | node l d m r=>
  obtain⟨_,_,h3,_,_⟩:=h;have h3:m=max l.mark r.mark+1:=h3;have hm:m=0:=hm;omega
theorem rg {d:It}{n:Nd}(hk:n.key=d.kh)(hv:n.val=d.vh):∀(f:Nat) {S:St} {o:Nat->Nat} {l r:Tr} {n0:Nd},Fw S o->At S l->At S r->eZ l->eZ r->reco S d.h=some (eM n0)->n0.key=d.kh->n0.val=d.vh->
 (l.hs++d.h::r.hs).Nodup->l.its.length+r.its.length<9000->max l.mark r.mark<=f->
 ∃t S',joinB n d.h f S l.root r.root=some (t.root,S')/\lF S S' o (l.hs++d.h::r.hs) t/\eZ t/\t.its=l.its++d::r.its/\max l.mark r.mark<=t.mark/\t.mark<=max l.mark r.mark+1
 | 0,S,o,l,r,n0,hf,hl,hr,bl,br,hd,hk0,hv0,hnd,hlen,hm=>by
  obtain rfl:=bl.nil_of (by omega);obtain rfl:=br.nil_of (by omega);obtain⟨S1,e1,f1,a1,o1,w1⟩:=jZ hf hl hr hd hk0 hv0 hk hv (by simp[hs,its]) (by simp[hs,its]) (by decide) (by decide) (by simp[its]) (by simp[its]);refine⟨mk nil d nil,S1,?_,⟨f1,a1,fun y hy=>o1 y fun e=>hy (by rw[e];simp),w1⟩,eZ.mk d trivial trivial (cz _) (cz _),rfl,by rw[ey];omega,by rw[ey];exact Nat.le_refl _⟩;rw[qY,e1];rfl
 | f+1,S,o,l,r,n0,hf,hl,hr,bl,br,hd,hk0,hv0,hnd,hlen,hm=>by
  have sl:=bl.sm (by omega);have sr:=br.sm (by omega);have k1:=hl.height hf (by have:=sl.1;omega);have k2:=hr.height hf (by have:=sr.1;omega);obtain⟨n1,n2,n3⟩:=av.1 hnd;obtain⟨n4,n5⟩:=aE.1 n2;have a6:d.h∉l.hs:=fun hm=>n3 _ hm _ (aq ..) rfl;rw[qX,k1,k2];simp only;by_cases c1:r.mark+1<l.mark
  ·rw[if_pos c1];obtain⟨a,e,b,rfl,ba,bb,a7,a8⟩:=bl.pos (by omega);rw[ey] at c1 hm;have a4:(mk a e b).hs=a.hs++e.h::b.hs:=eY ..;have au:a.its.length<9000/\b.its.length+r.its.length<9000:=by rw[el] at hlen;simp at hlen;omega
   rw[a4] at n1 n3 a6;obtain⟨m1,m2,m3⟩:=av.1 n1;obtain⟨m4,m5⟩:=aE.1 m2;simp only[aj,ag,not_or] at a6;have a0:(b.hs++d.h::r.hs).Nodup:=av.2 ⟨m5,n2,fun x hx y hy=>n3 x (by simp[hx]) y hy⟩;have g1:=gw hf hl.1;obtain⟨t,S1,e1,D1,bt,it,bf,bj⟩:=rg hk hv f hf hl.2.2 hr bb br hd hk0 hv0 a0 au.2 (by omega);have ar:t.hs=b.hs++d.h::r.hs:=by unfold hs;rw[it];simp
   have a':∀y∈a.hs,y∉b.hs++d.h::r.hs:=fun y hy hm=>by
    rcases aj.1 hm with hm | hm
    ·exact m3 _ hy _ (ah _ hm) rfl
    ·exact n3 y (by simp[hy]) y hm rfl
   have ai:e.h∉b.hs++d.h::r.hs:=fun hm=>by
    rcases aj.1 hm with hm | hm
    ·exact m4 hm
    ·exact n3 e.h (by simp) e.h hm rfl
   have a9:e.h∉a.hs:=fun hm=>m3 _ hm _ (aq ..) rfl;have a1:At S1 a:=hl.2.1.frame fun y hy=>D1.other y (a' y hy);have bd:t.its.length<9000:=by rw[it];rw[el] at hlen;simp at hlen⊢;omega
   obtain⟨S2,e2,f2,a2,o2,w2⟩:=jZ D1.fit (n:=nd a e (max a.mark b.mark+1) b) (d:=e) a1 D1.at' ((D1.other _ ai).trans hl.1) rfl rfl rfl rfl a9 (by rw[ar];exact ai)
    (by have:=(ba.sm (by omega)).1;omega) (by have:=(bt.sm (by omega)).1;omega) (by omega) (by omega)
   have al:(mk a e t).hs=(a.hs++e.h::b.hs)++d.h::r.hs:=by rw[show (mk a e t).hs=a.hs++e.h::t.hs from eY ..,ar];simp
   have an:(mk a e t).its=(a.its++e::b.its)++d::r.its:=by rw[el,it];simp
   have a3:(mk a e t).hs.Nodup:=by rw[al,<-a4];exact hnd
   obtain⟨u,S3,e3,D3,bu,iu,bk,bm,bo⟩:=tJ f2 a2 a3 ba bt (by rw[an];rw[el] at hlen;simp at hlen⊢;omega) (by omega) (by omega);refine⟨u,S3,?_,⟨D3.fit,D3.at',?_,(D1.grew.trans w2).trans D3.grew⟩,bu,?_,?_,?_⟩
   ·rw[show (mk a e b).root=e.h from rfl,g1];simp only[nd];rw[e1];simp only;have ad:=e2;simp only[nd] at ad;rw[ad];simp only;rw[e3];exact nU (D3.at'.root_lt D3.fit)
   ·intro y hy;rw[a4] at hy;rw[al] at D3;have y1:y≠e.h:=fun e=>hy (by rw[e];simp);refine(D3.other y hy).trans ((o2 y y1).trans (D1.other y fun hm=>hy ?_));rcases aj.1 hm with hm | hm
    ·simp[hm]
    ·rcases ag.1 hm with hm | hm<;>simp[hm]
   ·rw[iu,an];rfl
   ·rw[ey];omega
   ·rw[ey];omega
  ·rw[if_neg c1];by_cases c2:l.mark+1<r.mark
   ·rw[if_pos c2];obtain⟨a,e,b,rfl,ba,bb,a7,a8⟩:=br.pos (by omega);rw[ey] at c2 hm;have a5:(mk a e b).hs=a.hs++e.h::b.hs:=eY ..;have au:l.its.length+a.its.length<9000/\b.its.length<9000:=by rw[el] at hlen;simp at hlen;omega
    rw[a5] at n5 n4 n3;obtain⟨m1,m2,m3⟩:=av.1 n5;obtain⟨m4,m5⟩:=aE.1 m2;simp only[aj,ag,not_or] at n4;have a0:(l.hs++d.h::a.hs).Nodup:=av.2 ⟨n1,aE.2 ⟨n4.1,m1⟩,fun x hx y hy=>n3 x hx y (by rcases ag.1 hy with hy | hy<;>simp[hy])⟩;have g1:=gw hf hr.1;obtain⟨t,S1,e1,D1,bt,it,bf,bj⟩:=rg hk hv f hf hl hr.2.1 bl ba hd hk0 hv0 a0 au.1 (by omega);have ar:t.hs=l.hs++d.h::a.hs:=by unfold hs;rw[it];simp
    have bc:∀y∈b.hs,y∉l.hs++d.h::a.hs:=fun y hy hm=>by
     rcases aj.1 hm with hm | hm
     ·exact n3 y hm y (by simp[hy]) rfl
     ·rcases ag.1 hm with hm | hm
      ·subst hm;exact n4.2.2 hy
      ·exact m3 _ hm _ (ah _ hy) rfl
    have ai:e.h∉l.hs++d.h::a.hs:=fun hm=>by
     rcases aj.1 hm with hm | hm
     ·exact n3 e.h hm e.h (by simp) rfl
     ·rcases ag.1 hm with hm | hm
      ·exact n4.2.1 hm.symm
      ·exact m3 _ hm _ (aq ..) rfl
    have b1:At S1 b:=hr.2.2.frame fun y hy=>D1.other y (bc y hy);have bd:t.its.length<9000:=by rw[it];rw[el] at hlen;simp at hlen⊢;omega
    obtain⟨S2,e2,f2,a2,o2,w2⟩:=jZ D1.fit (n:=nd a e (max a.mark b.mark+1) b) (d:=e) D1.at' b1 ((D1.other _ ai).trans hr.1) rfl rfl rfl rfl (by rw[ar];exact ai) m4
     (by have:=(bt.sm (by omega)).1;omega) (by have:=(bb.sm (by omega)).1;omega) (by omega) (by omega)
    have al:(mk t e b).hs=l.hs++d.h::(a.hs++e.h::b.hs):=by rw[show (mk t e b).hs=t.hs++e.h::b.hs from eY ..,ar];simp
    have an:(mk t e b).its=l.its++d::(a.its++e::b.its):=by rw[el,it];simp
    have a3:(mk t e b).hs.Nodup:=by rw[al,<-a5];exact hnd
    obtain⟨u,S3,e3,D3,bu,iu,bk,bm,bo⟩:=tJ f2 a2 a3 bt bb (by rw[an];rw[el] at hlen;simp at hlen⊢;omega) (by omega) (by omega);refine⟨u,S3,?_,⟨D3.fit,D3.at',?_,(D1.grew.trans w2).trans D3.grew⟩,bu,?_,?_,?_⟩
    ·rw[show (mk a e b).root=e.h from rfl,g1];simp only[nd];rw[e1];simp only;have ad:=e2;simp only[nd] at ad;rw[ad];simp only;rw[e3];exact nU (D3.at'.root_lt D3.fit)
    ·intro y hy;rw[a5] at hy;rw[al] at D3;have y1:y≠e.h:=fun e=>hy (by rw[e];simp);refine(D3.other y hy).trans ((o2 y y1).trans (D1.other y fun hm=>hy ?_));rcases aj.1 hm with hm | hm
     ·simp[hm]
     ·rcases ag.1 hm with hm | hm<;>simp[hm]
    ·rw[iu,an];rfl
    ·rw[ey];omega
    ·rw[ey];omega
   ·rw[if_neg c2];obtain⟨S1,e1,f1,a1,o1,w1⟩:=jZ hf hl hr hd hk0 hv0 hk hv a6 n4 (by have:=sl.1;omega) (by have:=sr.1;omega) (by omega) (by omega);refine⟨mk l d r,S1,by rw[e1];rfl,⟨f1,a1,fun y hy=>o1 y fun e=>hy (by rw[e];simp),w1⟩,eZ.mk d bl br (by omega) (by omega),rfl,by rw[ey];omega,by rw[ey];omega⟩
structure kV (jn:Jn) (Ok:Tr->Prop):Prop where
 nil:Ok nil
 sub:∀{l d m r},Ok (node l d m r)->Ok l/\Ok r
 join:∀{S:St} {o:Nat->Nat} {l r:Tr} {d:It} {n0:Nd},Fw S o->At S l->At S r->Ok l->Ok r->reco S d.h=some (eM n0)->n0.key=d.kh->n0.val=d.vh->
  (l.hs++d.h::r.hs).Nodup->l.its.length+r.its.length<99->
  ∃t S',jn S l.root d.h r.root=some ((t.root,0),S')/\lF S S' o (l.hs++d.h::r.hs) t/\Ok t/\t.its=l.its++d::r.its
theorem va:kV avlJ eZ where
 nil:=trivial
 sub h:=⟨h.1,h.2.1⟩
 join:=by
  intro S o l r d n0 hf hl hr bl br hd hk0 hv0 hnd hlen;obtain⟨t,S',e,D,bt,it,_⟩:=rg (n:=n0) hk0 hv0 100 hf hl hr bl br hd hk0 hv0 hnd (by omega) (by have:=bl.mark_le;have:=br.mark_le;omega);refine⟨t,S',?_,D,bt,it⟩;have ad:=(fL hf hd).1;unfold avlJ;rw[if_neg]
  ·rw[gw hf hd,e];rfl
  ·rw[hl.isT hf,hr.isT hf];have:isT S d.h=true:=by unfold isT;rw[gw hf hd];simp
   rw[this];simp;omega
theorem fX:∀a:List UInt8,Fu a a=0
 | []=>rfl
 | x::a=>by unfold Fu;rw[if_neg (UInt8.lt_irrefl x),if_neg (UInt8.lt_irrefl x)];exact fX a
theorem jL:∀{a b:List UInt8},Fu a b=0->a=b
 | [],[],_=>rfl
 | [],_::_,h=>by unfold Fu at h;omega
 | _::_,[],h=>by unfold Fu at h;omega
 | x::a,y::b,h=>by
  unfold Fu at h;split at h
  ·omega
  ·rename_i h1;split at h
   ·omega
   ·rename_i h2;have:x=y:=dT (dj.1 h2) (dj.1 h1);rw[this,jL h]
theorem ie:∀a b:List UInt8,Fu b a= -Fu a b
 | [],[]=>rfl
 | [],_::_=>rfl
 | _::_,[]=>rfl
 | x::a,y::b=>by
  unfold Fu;by_cases h1:x<y
  ·rw[if_pos h1,if_neg (UInt8.lt_asymm h1),if_pos h1];rfl
  ·by_cases h2:y<x
   ·rw[if_pos h2,if_neg h1,if_pos h2]
   ·rw[if_neg h1,if_neg h2,if_neg h2,if_neg h1];exact ie a b
theorem ig:∀{a b c:List UInt8},Fu a b<0->Fu b c<0->Fu a c<0
 | [],[],_,h,_=>by unfold Fu at h;omega
 | [],_::_,[],_,h=>by unfold Fu at h;omega
 | [],_::_,_::_,_,_=>by unfold Fu;omega
 | _::_,[],_,h,_=>by unfold Fu at h;omega
 | _::_,_::_,[],_,h=>by unfold Fu at h;omega
 | x::a,y::b,z::c,h1,h2=>by
  unfold Fu at h1 h2⊢;by_cases p:x<y
  ·by_cases q:y<z
   ·rw[if_pos (UInt8.lt_trans p q)];omega
   ·rw[if_neg q] at h2;by_cases q':z<y
    ·rw[if_pos q'] at h2;omega
    ·have:y=z:=dT (dj.1 q') (dj.1 q);subst this;rw[if_pos p];omega
  ·rw[if_neg p] at h1;by_cases p':y<x
   ·rw[if_pos p'] at h1;omega
   ·have:x=y:=dT (dj.1 p') (dj.1 p);subst this;rw[if_neg p'] at h1;by_cases q:x<z
    ·rw[if_pos q];omega
    ·rw[if_neg q] at h2⊢;by_cases q':z<x
     ·rw[if_pos q'] at h2;omega
     ·rw[if_neg q'] at h2⊢;exact ig h1 h2
def eU(a b:It):Prop:=Fu a.k b.k<0
structure gu (S:St) (d:It):Prop where
 k:reco S d.kh=some (FK d.k)
 v:reco S d.vh=some (FK d.v)
 lk:d.k.length<=1000
 lv:d.v.length<=1000
theorem At.blob {S:St}{o:Nat->Nat}(hf:Fw S o){t:List UInt8}(ht:t.length<=1000){h:Nat}(hl:reco S h=some (FK t)):gD S h=some t:=by
 unfold gD;rw[jt hf ht hl];rfl
theorem sn {jn:Jn}{Ok:Tr->Prop}(J:kV jn Ok)(key:List UInt8):∀(f:Nat) {S:St} {o:Nat->Nat} {t:Tr},Fw S o->At S t->Ok t->t.hs.Nodup->(∀d∈t.its,gu S d/\d.kh∉t.hs)->t.its.Pairwise eU->t.its.length<=f->t.its.length<99->
 ∃tl m tr S',kr jn key f S t.root=some ((tl.root,m,tr.root),S')/\Fw S' o/\At S' tl/\At S' tr/\Ok tl/\Ok tr/\(∀h',h'∉t.hs->reco S' h'=reco S h')/\ej S S' 0 0/\
  ((m=0/\t.its=tl.its++tr.its)\/(∃d n0,m=d.h/\d.k=key/\t.its=tl.its++d::tr.its/\reco S' d.h=some (eM n0)/\n0.key=d.kh/\n0.val=d.vh))/\(∀d∈tl.its,Fu d.k key<0)/\(∀d∈tr.its,Fu key d.k<0)
 | 0,S,o,t,hf,ht,hok,hnd,hb,hs,hl,hl2=>by
  cases t with
  | nil=>exact⟨nil,0,nil,S,wZ ..,hf,trivial,trivial,J.nil,J.nil,fun _ _=>rfl,ej.refl S,aa ⟨rfl,rfl⟩,by simp[its],by simp[its]⟩
  | node l d m r=>simp[its] at hl
 | f+1,S,o,t,hf,ht,hok,hnd,hb,hs,hl,hl2=>by
  cases t with
  | nil=>exact⟨nil,0,nil,S,by rw[sk];rfl,hf,trivial,trivial,J.nil,J.nil,fun _ _=>rfl,ej.refl S,aa ⟨rfl,rfl⟩,by simp[its],by simp[its]⟩
  | node l d m r=>
   obtain⟨h1,h2,h3⟩:=ht;obtain⟨a9,a'⟩:=J.sub hok;have g1:=gw hf h1;have bt:=(fL hf h1).1;rw[eY] at hnd hb⊢;have bf:=(hb d (by simp[its])).1;have bj:=At.blob hf bf.lk bf.k;have ai:(node l d m r).its=l.its++d::r.its:=rfl;rw[ai] at hs hl hl2⊢;obtain⟨n1,n2,n3⟩:=av.1 hnd;obtain⟨n4,n5⟩:=aE.1 n2;have bs:d.h∉l.hs:=fun hm=>n3 _ hm _ (aq ..) rfl;obtain⟨s1,s2,s3⟩:=bA.1 hs;obtain⟨s4,s5⟩:=aT.1 s2;simp only[aD,ak] at hl hl2;have er:(node l d m r).root=d.h:=rfl;rw[er,sk,if_neg (by omega),g1];simp only[nd];rw[bj];simp only;by_cases c1:Fu key d.k<0
   ·rw[if_pos c1];obtain⟨tl,m',tr,S1,e1,f1,al,ar,ba,bb,o1,w1,hm,a4,a1⟩:=sn J key f hf h2 a9 n1 (fun x hx=>⟨(hb x (by simp[ai,hx])).1,fun hm=>(hb x (by simp[ai,hx])).2 (by simp[hm])⟩) s1 (by omega) (by omega);have a7:∀x∈tr.its,x∈l.its:=fun x hx=>by
     rcases hm with⟨_,e⟩ | ⟨d',_,_,_,e,_⟩<;>rw[e]<;>simp[hx]
    have a8:∀x∈tl.its,x∈l.its:=fun x hx=>by
     rcases hm with⟨_,e⟩ | ⟨d',_,_,_,e,_⟩<;>rw[e]<;>simp[hx]
    have au:∀y∈tr.hs,y∈l.hs:=fun y hy=>by
     obtain⟨x,hx,rfl⟩:=aA.1 hy;exact aA.2 ⟨x,a7 x hx,rfl⟩
    have an:∀y∈tl.hs,y∈l.hs:=fun y hy=>by
     obtain⟨x,hx,rfl⟩:=aA.1 hy;exact aA.2 ⟨x,a8 x hx,rfl⟩
    have a3:l.hs=tl.hs++tr.hs\/∃x:It,m'=x.h/\l.hs=tl.hs++x.h::tr.hs:=by
     rcases hm with⟨_,e⟩ | ⟨d',_,e0,_,e,_⟩
     ·left;unfold Tr.hs;rw[e];simp
     ·right;exact⟨d',e0,by unfold Tr.hs;rw[e];simp⟩
    have a0:tr.hs.Nodup/\∀y∈tl.hs,y∉tr.hs:=by
     rcases a3 with e | ⟨x,_,e⟩
     ·rw[e] at n1;exact⟨(av.1 n1).2.1,fun y hy hm=>(av.1 n1).2.2 _ hy _ hm rfl⟩
     ·rw[e] at n1;exact⟨(aE.1 (av.1 n1).2.1).2,fun y hy hm=>(av.1 n1).2.2 _ hy _ (ah _ hm) rfl⟩
    have a5:(tr.hs++d.h::r.hs).Nodup:=av.2 ⟨a0.1,n2,fun x hx y hy=>n3 x (au x hx) y hy⟩;have bm:At S1 r:=h3.frame fun y hy=>o1 y fun hm=>n3 _ hm _ (ah _ hy) rfl;have bo:tr.its.length<=l.its.length:=by
     rcases hm with⟨_,e⟩ | ⟨d',_,_,_,e,_⟩<;>rw[e]<;>simp<;>omega
    obtain⟨u,S2,e2,D2,bc,iu⟩:=J.join f1 ar bm bb a' ((o1 _ bs).trans h1) rfl rfl a5 (by omega);have a6:∀y∈tl.hs,y∉tr.hs++d.h::r.hs:=fun y hy hm=>by
     rcases aj.1 hm with hm | hm
     ·exact a0.2 y hy hm
     ·exact n3 _ (an y hy) _ hm rfl
    refine⟨tl,m',u,S2,?_,D2.fit,al.frame fun y hy=>D2.other y (a6 y hy),D2.at',ba,bc,?_,w1.trans D2.grew,?_,a4,?_⟩
    ·rw[e1];simp only;unfold jq;rw[e2];rfl
    ·intro y hy;simp only[aj,ag,not_or] at hy;refine(D2.other y fun hm=>?_).trans (o1 y hy.1);rcases aj.1 hm with hm | hm
     ·exact hy.1 (au y hm)
     ·rcases ag.1 hm with hm | hm
      ·exact hy.2.1 hm
      ·exact hy.2.2 hm
    ·rcases hm with⟨e0,e⟩ | ⟨d',n0,e0,ek,e,q1,q2,q3⟩
     ·left;exact⟨e0,by rw[iu,e];simp⟩
     ·right
      refine⟨d',n0,e0,ek,by rw[iu,e];simp,(D2.other _ fun hm=>?_).trans q1,q2,q3⟩;have ad:d'.h∈l.hs:=aA.2 ⟨d',by rw[e];simp,rfl⟩;rcases aj.1 hm with hm | hm
      ·have:l.hs=tl.hs++d'.h::tr.hs:=by unfold Tr.hs;rw[e];simp
       rw[this] at n1;exact(aE.1 (av.1 n1).2.1).1 hm
      ·exact n3 _ ad _ hm rfl
    ·intro x hx;rw[iu] at hx;rcases aj.1 hx with hx | hx
     ·exact a1 x hx
     ·rcases ag.1 hx with hx | hx
      ·rw[hx];exact c1
      ·exact ig c1 (s4 x hx)
   ·rw[if_neg c1];by_cases c2:0<Fu key d.k
    ·rw[if_pos c2];have bd:Fu d.k key<0:=by rw[ie];omega
     obtain⟨tl,m',tr,S1,e1,f1,al,ar,ba,bb,o1,w1,hm,a4,a1⟩:=sn J key f hf h3 a' n5 (fun x hx=>⟨(hb x (by simp[ai,hx])).1,fun hm=>(hb x (by simp[ai,hx])).2 (by simp[hm])⟩) s5 (by omega) (by omega);have a7:∀x∈tr.its,x∈r.its:=fun x hx=>by
      rcases hm with⟨_,e⟩ | ⟨d',_,_,_,e,_⟩<;>rw[e]<;>simp[hx]
     have a8:∀x∈tl.its,x∈r.its:=fun x hx=>by
      rcases hm with⟨_,e⟩ | ⟨d',_,_,_,e,_⟩<;>rw[e]<;>simp[hx]
     have au:∀y∈tr.hs,y∈r.hs:=fun y hy=>by
      obtain⟨x,hx,rfl⟩:=aA.1 hy;exact aA.2 ⟨x,a7 x hx,rfl⟩
     have an:∀y∈tl.hs,y∈r.hs:=fun y hy=>by
      obtain⟨x,hx,rfl⟩:=aA.1 hy;exact aA.2 ⟨x,a8 x hx,rfl⟩
     have a3:r.hs=tl.hs++tr.hs\/∃x:It,m'=x.h/\r.hs=tl.hs++x.h::tr.hs:=by
      rcases hm with⟨_,e⟩ | ⟨d',_,e0,_,e,_⟩
      ·left;unfold Tr.hs;rw[e];simp
      ·right;exact⟨d',e0,by unfold Tr.hs;rw[e];simp⟩
     have a0:tl.hs.Nodup/\∀y∈tl.hs,y∉tr.hs:=by
      rcases a3 with e | ⟨x,_,e⟩
      ·rw[e] at n5;exact⟨(av.1 n5).1,fun y hy hm=>(av.1 n5).2.2 _ hy _ hm rfl⟩
      ·rw[e] at n5;exact⟨(av.1 n5).1,fun y hy hm=>(av.1 n5).2.2 _ hy _ (ah _ hm) rfl⟩
     have a5:(l.hs++d.h::tl.hs).Nodup:=av.2 ⟨n1,aE.2 ⟨fun hm=>n4 (an _ hm),a0.1⟩,fun x hx y hy=>n3 x hx y (by
      rcases ag.1 hy with hy | hy
      ·rw[hy];simp
      ·exact ah _ (an y hy))⟩
     have bk:At S1 l:=h2.frame fun y hy=>o1 y fun hm=>n3 _ hy _ (ah _ hm) rfl;have bo:tl.its.length<=r.its.length:=by
      rcases hm with⟨_,e⟩ | ⟨d',_,_,_,e,_⟩<;>rw[e]<;>simp
     obtain⟨u,S2,e2,D2,bc,iu⟩:=J.join f1 bk al a9 ba ((o1 _ n4).trans h1) rfl rfl a5 (by omega);have a6:∀y∈tr.hs,y∉l.hs++d.h::tl.hs:=fun y hy hm=>by
      rcases aj.1 hm with hm | hm
      ·exact n3 _ hm _ (ah _ (au y hy)) rfl
      ·rcases ag.1 hm with hm | hm
       ·subst hm;exact n4 (au _ hy)
       ·exact a0.2 y hm hy
     refine⟨u,m',tr,S2,?_,D2.fit,D2.at',ar.frame fun y hy=>D2.other y (a6 y hy),bc,bb,?_,w1.trans D2.grew,?_,?_,a1⟩
     ·rw[e1];simp only;unfold jq;rw[e2];rfl
     ·intro y hy;simp only[aj,ag,not_or] at hy;refine(D2.other y fun hm=>?_).trans (o1 y hy.2.2);rcases aj.1 hm with hm | hm
      ·exact hy.1 hm
      ·rcases ag.1 hm with hm | hm
       ·exact hy.2.1 hm
       ·exact hy.2.2 (an y hm)
     ·rcases hm with⟨e0,e⟩ | ⟨d',n0,e0,ek,e,q1,q2,q3⟩
      ·left;exact⟨e0,by rw[iu,e];simp⟩
      ·right
       refine⟨d',n0,e0,ek,by rw[iu,e];simp,(D2.other _ fun hm=>?_).trans q1,q2,q3⟩;have ad:d'.h∈r.hs:=aA.2 ⟨d',by rw[e];simp,rfl⟩;rcases aj.1 hm with hm | hm
       ·exact n3 _ hm _ (ah _ ad) rfl
       ·rcases ag.1 hm with hm | hm
        ·rw[hm] at ad;exact n4 ad
        ·have:r.hs=tl.hs++d'.h::tr.hs:=by unfold Tr.hs;rw[e];simp
         rw[this] at n5;exact(av.1 n5).2.2 _ hm _ (aq ..) rfl
     ·intro x hx;rw[iu] at hx;rcases aj.1 hx with hx | hx
      ·exact ig (s3 x hx d (aq ..)) bd
      ·rcases ag.1 hx with hx | hx
       ·rw[hx];exact bd
       ·exact a4 x hx
    ·rw[if_neg c2];have a2:key=d.k:=jL (by omega);refine⟨l,d.h,r,S,rfl,hf,h2,h3,a9,a',fun _ _=>rfl,ej.refl S,ae ⟨d,_,rfl,a2.symm,rfl,h1,rfl,rfl⟩,?_,?_⟩
     ·intro x hx;rw[a2];exact s3 x hx d (aq ..)
     ·intro x hx;rw[a2];exact s4 x hx
end Tr
end
section
open Go.RowKit Tryz Go.BigFrame Go.Maps Go.WideMaps Lf
open Go.Shelf
variable{S:St}{Y:Nat->Prop}{ps:Nat}{w:World}
attribute [local go_sem] Oper.semAt_some
theorem xS(h:Ig w ps S Y)(hi:Fv S):
 Cb 144 #[PV ps,Xu 0] w (Xi 0):=by
 have B0:=(ab w.heap.size w).alloc Ih (Xh ps);have B1:=B0.alloc B0.size (.cells #[Xi 0] 27);have ad:=fB (h.below B1) hi 0 (by omega);rw[fU] at ad;have HG:=kq2 ad B1;clear ad h hi B0 B1;go_enter func144,ntmps144;go_wp2_with fail;refine Jc HG.a ?_;go_wp2_with fail;exact bodyPost_ret (v:=Xi 0) (by simp[results,f144,go_sem]) rfl ⟨rfl,HG.b⟩
theorem EY(ps root:Nat)(w:World):
 Ct 121 #[PV ps,Xu root] w fun e w'=>e=.returned (.func (.func 161) #[] #[PV w.heap.size,PV (w.heap.size+1)])/\w'=(w.alloc (Xh ps)).alloc (Xf root):=by
 go_enter func121,ntmps121
 go_wp2
 go_ret;exact⟨rfl,rfl⟩
def AJ(x:Empty):Array Value:=nomatch x
theorem BC(h:Ig w ps S Y)(Bs Br:Nat)(hBs:Bs<w.heap.size/\w.cell? ⟨Bs,0,none⟩=some (PV ps))(hBr:Br<w.heap.size/\w.cell? ⟨Br,0,none⟩=some (Xu 0)):
 SeqStopsK Fence.wide 6 prog 161 #[PV Bs,PV Br] AJ (Below w.heap.size) (fun xs=>xs=[]) (fun _=>True) 0 w:=fun l J Jx W hW hJ hJx hY h0=>by
 have ar:Fence.wide.fn 162:=trivial;have al:CallsIn Fence.wide 5 prog 162 #[PV ps] W _:=callsIn_wide.2 (sX (h.below hW));have hL:1<=limit S/\limit S<=40000:=by have:=nB h;unfold limit;omega
 generalize limit S=L at*;have cs:=(hW.cell (p:=⟨Bs,0,none⟩) hBs.1).trans hBs.2;have cr:=(hW.cell (p:=⟨Br,0,none⟩) hBr.1).trans hBr.2;have HL:=If al;have HJ:=kq5 hJ h0 hW hBs hBr;have ai:=If hW;clear al hW hJ hJx hY h0 hBs hBr h;refine callsIn_of_wp func161 rfl trivial ?_ rfl;simp only[ntmps161,bp,ak,aM,Nat.reduceAdd,Nat.reduceSub,aV,aW,bx,bg,aY,aR];gi_wp2_with fail;refine HL.out.mono ?_;rintro e w1 ⟨rfl,ad⟩;have j1:=HJ.a _ _ _ none HJ.b (lf ad) (fun r e=>by cases e);have cs:=(ad.cell (p:=⟨Bs,0,none⟩) (aX HJ.d.1 ai.out.size)).trans cs;have cr:=(ad.cell (p:=⟨Br,0,none⟩) (aX HJ.e.1 ai.out.size)).trans cr;have H1:=If j1;clear HL ad j1;have an:(0:Int)<L:=by omega
 gi_wp2_with fail;gi_loopw [4,6,7,8,9,10,11] (fun l0 k _ _ _ _ _ wr=>l0=.slice none 0 0/\k=Xi 0/\wr=w1) (fun _ _ _ _ _ _ _ _=>0)
 case atStart=>exact⟨rfl,rfl,rfl⟩
 case round=>
  obtain⟨rfl,rfl,rfl⟩:=hrel;gi_wp2_with fail;gi_loopw [4,6,7,8] (fun l0 k _ _ wr'=>l0=.slice none 0 0/\k=Xi 0/\wr'=wr) (fun _ _ _ _ _=>0)
  case atStart=>exact⟨rfl,rfl,rfl⟩
  case round=>
   obtain⟨rfl,rfl,rfl⟩:=hrel;gi_wp2_with fail;refine bodyPost_ret (results_none rfl _ _ _) rfl ?_;exact⟨⟨_,rfl⟩,.inl ⟨[],rfl,H1.out⟩⟩
theorem E0(h:Ig w ps S Y):
 CallsIn Fence.wide 7 prog 75 #[PV ps,Xu 0] w fun e w'=>e=.returned (.slice none 0 0)/\Below w.heap.size w w':=by
 have h1:1<=7:=by omega
 have an:Fence.wide.fn 121:=trivial;have ai:∀W,CallsIn Fence.wide 6 prog 121 #[PV ps,Xu 0] W _:=fun W=>callsIn_wide.2 (EY ps 0 W);have HR:=If h;clear h;refine callsIn_of_wp_marks func75 rfl trivial ?_ rfl;simp only[ntmps75,bp,ak,aM,Nat.reduceAdd,Nat.reduceSub,aV,aW,bx,bg,aY,aR];gi_wp2_with fail;refine(ai _).mono ?_;rintro e w4 ⟨rfl,rfl⟩;gi_wp2_with fail;have k0:=((Bx.new w (.slice none 0 0) 59).alloc (Xh ps)).alloc (.cells #[Xu 0] 61);have k1:=(Bx.new (w.alloc (.cells #[.slice none 0 0] 59)) (PV ps) 26).alloc (.cells #[Xu 0] 61);have k2:=Bx.new ((w.alloc (.cells #[.slice none 0 0] 59)).alloc (Xh ps)) (Xu 0) 61;have hb:=(((ab w.heap.size w).alloc Ih (.cells #[.slice none 0 0] 59)).alloc (by simp) (Xh ps)).alloc (by simp;omega) (.cells #[Xu 0] 61);simp only[World.size_alloc] at k0 k1 k2;generalize (((w.alloc (.cells #[.slice none 0 0] 59)).alloc (Xh ps)).alloc (.cells #[Xu 0] 61))=W0 at*;refine wpIn_rangeFunc_ownH rfl h1 (gf:=161) (lb:=#[PV (w.heap.size+1),PV (w.heap.size+1+1)]) rfl trivial (enters_of func161 (by kernel_rfl) rfl)
  (BC (HR.out.below hb) _ _ ⟨Cx.lt (show Cx W0 _ 0 _ from k1),k1.1⟩ ⟨Cx.lt (show Cx W0 _ 0 _ from k2),k2.1⟩) (fun h k=>h.trans k) (fun W l o o' h1 h2 h3 h4=>nN W l o o' (by omega) h2 h3 h4) (ab _ _) (fun x=>nomatch x)
  (fun _ W=>Bx W w.heap.size (.slice none 0 0)/\Below w.heap.size w W)
  (fun _ _ _=>False)
  (OwnFrom.and (Own.from (fun s A B row hs hg hr=>hs.kept hg hr) _) (ownFrom_below Ih hb.size))
  (fun cd=>Own.from (fun s A B row hs hg hr=>hs) _)
  ⟨k0,hb⟩
  (fun x _ _=>nomatch x)
  (fun x=>nomatch x)
  ?assign ?body ?done ?stop
 case assign=>exact fun l ad x=>nomatch x
 case body=>exact fun l ad x=>nomatch x
 case done=>
  rintro D ys W hD _ ⟨k0,hB⟩ hK;obtain⟨c1,f1⟩:=id k0;have al:w.heap.size<=D:=aK hb.size hD;have HI:=kq2 hB k0;clear hB k0 k1 k2 hb
  gi_wp2
  refine⟨by simp,.inl ⟨_,_,rfl,run_takeDeferred hK,?_⟩⟩;refine⟨.slice none 0 0,by simp[results,f75,go_sem],rfl,HI.a.trans (nN W D _ _ al hK rfl rfl)⟩
 case stop=>
  rintro D cd ad W hD ar hF;exact hF.elim
theorem sY(h:Ig w ps S Y):
 Cb 75 #[PV ps,Xu 0] w (.slice none 0 0):=callsIn_wide.1 (E0 h)
end
section
open Go.RowKit Tryz Go.BigFrame Go.Maps Go.WideMaps Lf
variable{R:Nat×Nat}{S:St}{Y:Nat->Prop}{kind:Nat}{ps:Nat}{w:World}{z:Nat}
theorem yT(h:Ig w ps S Y)(hi:Fv S):
 Cb 234 #[PV ps,Xu 0] w (Xi 0):=by
 have hc:=xS h hi;have hl:=fun W (hW:Below w.heap.size w W)=>sY (h.below hW);have HG:=kq2 hc hl;clear hc hl h hi;go_enter func234,ntmps234;go_wp2_with fail;refine wx HG.a fun w1 hb1=>?_;have H1:=If hb1;clear hb1;go_wp2_with fail;refine wx (HG.b _ H1.out) fun w2 hb2=>?_;have H2:=If (H1.out.trans (hb2.mono H1.out.size));clear hb2;go_wp2_with fail
 go_loopw [7,8,9,10,21] (fun _ _ _ _ k wr=>k=Xi 0/\wr=w2) (fun _ _ _ _ _ _=>0)
 case atStart=>exact⟨rfl,rfl⟩
 case round=>
  obtain⟨rfl,rfl⟩:=hrel;go_wp2_with fail;go_ret;exact⟨rfl,H2.out⟩
structure nI (c:FuncId):Prop where
 enter:∀(args:Array Value) (w:World),(callFunc c args).run prog w=.ok (.enter c args) w
 call:∀{w:World} {ps:Nat} {S:St} {Y:Nat->Prop},Ig w ps S Y->Fv S->Ct c #[PV ps,Xu 0] w fun e w'=>e=.returned (Xi 0)/\Below w.heap.size w w'
theorem Ai:nI 234 where
 enter args w:=by go_simp
 call h hi:=yT h hi
theorem Dr(h:Ig w ps S Y)(hi:Fv S){j c:FuncId}(hk:j6 kind j c)(hc:nI c):
 Cb 134 #[PV ps,Xi kind,Xu 0] w (Xi 0):=by
 have ha:=yG h hi hk;have ai:=hc.enter;have ad:=fun W (hW:Below w.heap.size w W)=>hc.call (h.below hW) hi;simp only[gS,eL] at ha;have HG:=kq2 ha ad;clear ha ad h hi hk hc;go_enter func134,ntmps134;go_wp2_with fail;refine wx HG.a fun w1 hb1=>?_;have H1:=If (hb1.alloc hb1.size (.cells #[PV ps,.func (.func j) #[] #[],.func (.func c) #[] #[]] 265));clear hb1;go_wp2_with fail;refine wx (HG.b _ H1.out) fun w2 hb2=>?_;have H2:=If (H1.out.trans (hb2.mono H1.out.size));clear hb2;go_wp2_with fail;go_ret;exact⟨rfl,H2.out⟩
theorem zY(h:Ig w ps S Y)(hi:Fv S)(hk:kind=1\/kind=2)(t:Int):
 Ct 87 #[PV ps,Xi kind,Xi t] w fun e w'=>e=.returned (Xi 0)/\w=w':=by
 have ad:=fB h hi 0 (by omega);rw[fU] at ad;have HG:=If ad;clear ad h hi
 rcases hk with rfl | rfl
 all_goals
  go_enter func87,ntmps87;go_wp2_with fail;refine Jc HG.out ?_;go_wp2_with fail;go_ret;exact⟨rfl,rfl⟩
structure jD (kind:Nat) (j c:FuncId) (jn:Jn):Prop where
 is:kind=1\/kind=2
 way:j6 kind j c
 joins:mz j jn
 checks:nI c
theorem JF(h:Ig w ps S Y)(hi:Fv S){j c:FuncId}{jn:Jn}(hk:jD kind j c jn)(t:Int):
 Cb 86 #[PV ps,Xi kind,Xi t,Xu 0] w (Xi 0):=by
 have ha:=zY h hi hk.is t;have hc:=Dr h hi hk.way hk.checks;have hq:((kind:Int)==3)=false:=by have:=hk.is;simp;omega
 have HG:=kq2 ha hc;clear ha hc h hi hk;go_enter func86,ntmps86;go_wp2_with fail;refine Jc HG.a ?_;go_wp2_with fail;refine wx HG.b fun w2 hb2=>?_;have H2:=If hb2;clear hb2;go_wp2_with fail;go_ret;exact⟨rfl,H2.out⟩
theorem Aa(h:Ig w ps S Y)(hi:Fv S){j c:FuncId}{jn:Jn}(hk:jD kind j c jn)(t:Int):
 Cb 59 #[PV ps,Xi kind,Xi t,Xu 0] w (.tuple #[.slice none 0 0,Xi 0]):=by
 have hc:=JF h hi hk t;have hl:=fun W (hW:Below w.heap.size w W)=>sY (h.below hW);have hq:((kind:Int)==3)=false:=by have:=hk.is;simp;omega
 have HG:=kq2 hc hl;clear hc hl h hi hk;go_enter func59,ntmps59;go_wp2_with fail;refine wx HG.a fun w1 hb1=>?_;have H1:=If hb1;clear hb1;go_wp2_with fail;refine wx (HG.b _ H1.out) fun w2 hb2=>?_;have H2:=If (H1.out.trans (hb2.mono H1.out.size));clear hb2;go_wp2_with fail
 go_loopw [11,13,14,15,41] (fun l0 _ _ _ k wr=>l0=.slice none 0 0/\k=Xi 0/\wr=w2) (fun _ _ _ _ _ _=>0)
 case atStart=>exact⟨rfl,rfl,rfl⟩
 case round=>
  obtain⟨rfl,rfl,rfl⟩:=hrel;go_wp2_with fail
  go_loopw [16,18,19,20,21,22,62] (fun l1 _ _ _ _ _ k wr'=>l1=.slice none 0 0/\k=Xi 0/\wr'=wr) (fun _ _ _ _ _ _ _ _=>0)
  case atStart=>exact⟨rfl,rfl,rfl⟩
  case round=>
   obtain⟨rfl,rfl,rfl⟩:=hrel;go_wp2_with fail;go_ret2;exact⟨rfl,H2.out⟩
theorem EW(h:Ig w ps S Y)(hi:Fv S)(root:Nat)(k:Int)(hk:k<0):
 Ct 305 #[PV ps,Xu root,Xi k] w fun e w'=>e=.returned (.tuple #[Xu 0,Xi 2])/\w=w':=by
 have ad:=fB h hi 0 (by omega);rw[fU] at ad;have HG:=If ad;clear ad h hi;go_enter func305,ntmps305;go_wp2_with fail;refine Jc HG.out ?_;go_wp2_with fail;go_ret2;exact⟨rfl,rfl⟩
theorem EV(h:Ig w ps S Y)(hi:Fv S)(root:Nat)(hl:root<2^64)(k:Nat)(hk:k<2^62)(hR:kD S root k=some R):
 Cb 305 #[PV ps,Xu root,Xi k] w (.tuple #[Xu R.1,Xi R.2]):=by
 have al:=fB h hi 0 (by omega);rw[fU] at al;unfold kD at hR
 cases hz:fY S root with
 | none=>rw[hz] at hR;cases hR
 | some z=>
 rw[hz] at hR;simp only at hR;have bt:z<2^62:=by have:=num_some hz;omega
 have ai:=kP h hi root hl hz
 by_cases hzk:z<=k
 ·rw[if_pos hzk] at hR;have hR:=Option.some.inj hR;have bs:(z:Int)<=k:=by omega
  have HG:=kq3 al ai hR;clear al ai hR h hi hz hzk;go_enter func305,ntmps305;go_wp2_with fail;refine Jc HG.a ?_;go_wp2_with fail;refine wx HG.b fun w1 hb=>?_;have HB:=If hb;clear hb;go_wp2_with fail;go_ret2;obtain rfl:=HG.c;exact⟨rfl,HB.out⟩
 rw[if_neg hzk] at hR;have bs:(k:Int)<z:=by omega
 have bk:=nB h;have hL:limit S<=40000:=by unfold limit;omega
 obtain⟨L,a8⟩:=Ii (limit S);have a1:=fun W (hW:Below w.heap.size w W)=>sX (h.below hW);rw[a8] at a1 hL hR;have bb:=fun hh=>fs h hh;have HG:=kq7 al h hi hR bb ai a1;clear al h hi hR bk a8 bb a1 ai hz hzk;go_enter func305,ntmps305;go_wp2_with fail;refine Jc HG.a ?_;go_wp2_with fail;refine wx HG.f fun w0 hb0=>?_;have an:=If hb0;clear hb0;go_wp2_with fail;refine wx (HG.g _ an.out) fun w1 hb1=>?_;have bc:=If (an.out.trans (hb1.mono an.out.size));clear hb1;go_wp2_with fail
 go_loopw [1,2,11,12,13,14] (fun r b i _ _ _ wr=>∃f root kk ii:Nat,r=Xu root/\b=Xi kk/\i=Xi ii/\f+ii=L/\root<2^64/\kk<2^62/\Hid (j8 S f root kk=some R/\Below w.heap.size w wr)) (fun _ _ i _ _ _ _=>L-(intOf i).toNat)
 case atStart=>exact⟨L,root,k,0,rfl,rfl,rfl,by omega,hl,hk,HG.d,bc.out⟩
 case round=>
  obtain⟨f,root,kk,ii,rfl,rfl,rfl,hf,bo,bj,ad⟩:=hrel;have bv:ii<=40000:=by omega
  cases f with
  | zero=>
   have b0:ii=L:=by omega
   have a9:R=(0,2):=by have h9:=ad.out.1;rw[yK] at h9;exact(Option.some.inj h9).symm
   have HE:=kq2 a9 ad.out.2;have bu:(L:Int)<=ii:=by omega
   clear a9 ad;go_wp2_with fail;go_ret2;obtain rfl:=HE.a;exact⟨rfl,HE.b⟩
  | succ f=>
   have b1:(ii:Int)<L:=by omega
   have hd:=ad.out.1;rw[tF] at hd;have a0:=HG.b.below ad.out.2;have hg:=iO a0 HG.c root bo;have a5:=HG.e root;obtain⟨⟨nd,er⟩,hE⟩:∃r,getNode S root=r:=⟨_,rfl⟩;rw[hE] at hg a5 hd;simp only at hg a5 hd;obtain⟨k0,k1,k2,k3,k4,k5⟩:=nd;obtain⟨n0,n1,n2,n3,n4,n5⟩:=a5;simp only at n0 n1 n2 n3 n4 n5;have a4:eS ⟨k0,k1,k2,k3,k4,k5⟩=.agg #[Xu k0,Xu k1,Xu k2,Xu k3,Xu k4,Xu k5]:=rfl;rw[a4] at hg
   cases er with
   | succ er=>
    rw[if_pos (by omega)] at hd;have hd:=Option.some.inj hd;have bm:(((er+1:Nat):Int) !=0)=true:=by simp;omega
    obtain⟨g1,a'⟩:=Ii (er+1);rw[a'] at hg bm;have HE:=kq3 hg hd ad.out.2;clear hg hd ad a0 hE a' a4;go_wp2_with fail;refine wx HE.a fun w2 hb2=>?_;have bd:=If ((HE.c.trans (hb2.mono HE.c.size)).alloc (aK HE.c.size hb2.size) (Xd k0 k1 k2 k3 k4 k5));clear hb2;go_wp2_with fail;go_ret2;obtain rfl:=HE.b;exact⟨rfl,bd.out⟩
   | zero=>
    rw[if_neg (by omega)] at hd
    cases hz:fY S k2 with
    | none=>rw[hz] at hd;cases hd
    | some z=>
     rw[hz] at hd;simp only at hd;have bt:z<2^62:=by have:=num_some hz;omega
     have HE:=kq3 hg ad.out.2 hz;clear hg ad a0 hE hz;go_wp2_with fail;refine wx HE.a fun w2 hb2=>?_;have au:=(HE.b.trans (hb2.mono HE.b.size)).alloc (aK HE.b.size hb2.size) (Xd k0 k1 k2 k3 k4 k5);have ai:=kP (HG.b.below au) HG.c k2 n2 HE.c;have hx:=heap_alloc_new w2 (Xd k0 k1 k2 k3 k4 k5);have ba:w2.heap.size<(w2.alloc (Xd k0 k1 k2 k3 k4 k5)).heap.size:=by simp
     have HK:=kq4 ai au hx ba;clear hb2 au ai hx ba a4;go_wp2_with fail;refine wx HK.a fun w3 hb3=>?_;have a7:=HK.b.trans (hb3.mono HK.b.size);have a6:=(hb3.block _ HK.d).trans HK.c;have a2:w3.cell? ⟨w2.heap.size,2,none⟩=some (Xu k2):=by rw[cell_of_block a6];rfl
     have a3:w3.cell? ⟨w2.heap.size,3,none⟩=some (Xu k3):=by rw[cell_of_block a6];rfl
     have ar:=If a7;clear hb3 a7 a6
     by_cases hc:kk<z
     ·rw[if_pos hc] at hd;have bf:(kk:Int)<z:=by omega
      have HD:=If hd;clear hd;go_wp2_with fail;go_roundw
      case rel=>exact⟨f,k2,kk,ii+1,rfl,rfl,by simp,by omega,n2,bj,HD.out,ar.out⟩
      case measure=>simp[intOf];omega
     ·rw[if_neg hc] at hd
      by_cases hc2:z<kk
      ·rw[if_pos hc2] at hd;have bf:(z:Int)<kk:=by omega
       have HD:=If hd;clear hd;go_wp2_with fail;go_roundw
       case rel=>exact⟨f,k3,kk-(z+1),ii+1,rfl,by rw[show ((kk-(z+1):Nat):Int)=(kk:Int)-((z:Int)+1) by omega],by simp,by omega,n3,by omega,HD.out,ar.out⟩
       case measure=>simp[intOf];omega
      ·rw[if_neg hc2] at hd;obtain rfl:kk=z:=by omega
       have hd:=Option.some.inj hd;have HD:=If hd;clear hd;go_wp2_with fail;go_ret2;obtain rfl:=HD.out;exact⟨rfl,ar.out⟩
theorem fA{W:World}{b c:Nat}(h:c≠b)(v0 v1:Value):((W.setCell ⟨b,0,none⟩ (v0)).setCell ⟨b,1,none⟩ (v1)).heap[c]?=W.heap[c]?:=by rw[FB h,FB h]
def fE(ps kind:Nat):Value:=.agg #[PV ps,Xi kind]
def Id(k v:Nat):Value:=.agg #[Xu k,Xu v]
theorem zh(h:Ig w ps S Y)(hi:Fv S)(kind root:Nat)(hl:root<2^64)(hz:fY S root=some z):
 Cb 304 #[fE ps kind,Xu root] w (Xi z):=by
 have B0:=(ab w.heap.size w).alloc Ih (Xg ps kind);have hs:=kP (h.below B0) hi root hl hz;have HG:=kq2 hs B0;clear hs B0 h hi hz;simp only[fE];go_enter func304,ntmps304;go_wp2_with fail;refine wx HG.a fun w1 hb1=>?_;have H1:=If (HG.b.trans (hb1.mono HG.b.size));clear hb1;go_wp2_with fail;go_ret;exact⟨rfl,H1.out⟩
theorem zf(h:Ig w ps S Y)(hi:Fv S)(kind root:Nat)(hl:root<2^64)(k:List UInt8)(hz:oP S root k=some z):
 Cb 302 #[fE ps kind,Xu root,SV k] w (Xi z):=by
 have B0:=(ab w.heap.size w).alloc Ih (Xg ps kind);have hs:=E1 (h.below B0) hi root hl k hz;have HG:=kq2 hs B0;clear hs B0 h hi hz;simp only[fE];go_enter func302,ntmps302;go_wp2_with fail;refine wx HG.a fun w1 hb1=>?_;have H1:=If (HG.b.trans (hb1.mono HG.b.size));clear hb1;go_wp2_with fail;go_ret;exact⟨rfl,H1.out⟩
theorem my(h:Ig w ps S Y)(hi:Fv S)(kind hh:Nat)(hl:hh<2^64):
 Cb 306 #[fE ps kind,Xu hh] w (Id (getNode S hh).1.key (getNode S hh).1.val):=by
 have B1:=(ab w.heap.size w).alloc Ih (Xg ps kind);have B0:=B1.alloc B1.size (.cells #[Xu 0,Xu 0] 104);have z1:=heap_alloc_new (w.alloc (Xg ps kind)) (.cells #[Xu 0,Xu 0] 104);simp only[World.size_alloc] at z1;have hg:=iO (h.below B0) hi hh hl;obtain⟨⟨⟨k0,k1,k2,k3,k4,k5⟩,er⟩,hE⟩:∃q,getNode S hh=q:=⟨_,rfl⟩;rw[hE] at hg⊢;simp only[eS] at hg;have HG:=kq3 hg B0 z1;clear hg B0 B1 h hi hE z1;simp only[fE,Id];go_enter func306,ntmps306;go_wp2_with fail;refine wx HG.a fun w1 hb1=>?_;have ad:=hb1.alloc hb1.size (Xd k0 k1 k2 k3 k4 k5);have q1:=heap_alloc_new w1 (Xd k0 k1 k2 k3 k4 k5);have z1:=(ad.block (w.heap.size+1) (by simp)).trans HG.c;have B1:=HG.b.trans (ad.mono HG.b.size);clear hb1 ad;obtain⟨c0,c1⟩:=Fp z1;obtain⟨f0,f1⟩:=ef z1;have HW:=kq2 B1 z1;clear B1 z1 q1;go_wp2_with fail;have q3:=ew HW.b (Xu k0) (Xu k1);have B3:=eT HW.a (bG w.heap.size) (Xu k0) (Xu k1);generalize (((w1.alloc (Xd k0 k1 k2 k3 k4 k5)).setCell ⟨(w.heap.size+1),0,none⟩ (Xu k0)).setCell ⟨(w.heap.size+1),1,none⟩ (Xu k1))=W3 at*;obtain⟨e0,e1⟩:=Fp q3;exact bodyPost_ret (v:=.agg #[Xu k0,Xu k1]) (by simp[results,f306,go_sem,e0,e1]) rfl ⟨rfl,B3⟩
theorem tK(h:Ig w ps S Y)(hi:Fv S)(kind root:Nat)(hl:root<2^64)(k:Nat)(hk:k<2^62)(hR:kD S root k=some R)(hR1:R.1<2^64):
 Cb 299 #[fE ps kind,Xu root,Xi k] w (.tuple #[Id (getNode S R.1).1.key (getNode S R.1).1.val,Xi R.2]):=by
 have B1:=(ab w.heap.size w).alloc Ih (Xg ps kind);have q1:=heap_alloc_new w (Xg ps kind);have B0:=B1.alloc B1.size (.cells #[Xu 0,Xu 0] 104);have z1:=heap_alloc_new (w.alloc (Xg ps kind)) (.cells #[Xu 0,Xu 0] 104);have q1:=(((ab (w.alloc (Xg ps kind)).heap.size (w.alloc (Xg ps kind))).alloc Ih (.cells #[Xu 0,Xu 0] 104)).block w.heap.size (by simp)).trans q1;simp only[World.size_alloc] at z1;have ha:=EV (h.below B0) hi root hl k hk hR;have ad:=fun W (hW:Below w.heap.size w W)=>my (h.below hW) hi kind R.1 hR1;simp only[Id,fE] at ad⊢;generalize (getNode S R.1).1.key=k0 at*;generalize (getNode S R.1).1.val=k1 at*;obtain⟨r,er⟩:=R;simp only at ha ad⊢;have HG:=kq5 ha ad B0 z1 q1;clear ha ad B0 B1 h hi hR z1 q1 hR1;go_enter func299,ntmps299;go_wp2_with fail;refine wx HG.a fun w1 hb1=>?_;have z1:=(hb1.block (w.heap.size+1) (by simp)).trans HG.d;have q1:=(hb1.block w.heap.size (by simp;omega)).trans HG.e;obtain⟨c0,c1⟩:=Fp q1;have H1:=kq2 (HG.c.trans (hb1.mono HG.c.size)) z1;clear hb1 z1 q1;go_wp2_with fail;refine wx (HG.b _ H1.a) fun w2 hb2=>?_;have z2:=(hb2.block (w.heap.size+1) (gl H1.b)).trans H1.b;obtain⟨d0,d1⟩:=Fp z2;obtain⟨f0,f1⟩:=ef z2;have HW:=kq2 (H1.a.trans (hb2.mono H1.a.size)) z2;clear hb2 z2 c0 c1;go_wp2_with fail;have q3:=ew HW.b (Xu k0) (Xu k1);have B3:=eT HW.a (bG w.heap.size) (Xu k0) (Xu k1);generalize ((w2.setCell ⟨(w.heap.size+1),0,none⟩ (Xu k0)).setCell ⟨(w.heap.size+1),1,none⟩ (Xu k1))=W3 at*;obtain⟨e0,e1⟩:=Fp q3;exact bodyPost_ret (v:=.tuple #[.agg #[Xu k0,Xu k1],Xi er]) (by simp[results,f299,go_sem,e0,e1]) rfl ⟨rfl,B3⟩
theorem pO(S:St):fZ S 0=7:=by
 unfold fZ;rw[fU];rfl
theorem qM(S:St):getNode S 0=(Nd.zero,7):=by
 unfold getNode;rw[pO];rfl
theorem zk(h:Ig w ps S Y)(hi:Fv S)(kind:Nat):
 Cb 309 #[fE ps kind,Xu 0] w (.tuple #[Id 0 0,.bool false]):=by
 have B1:=(ab w.heap.size w).alloc Ih (Xg ps kind);have q1:=heap_alloc_new w (Xg ps kind);have B0:=B1.alloc B1.size (.cells #[Xu 0,Xu 0] 104);have z1:=heap_alloc_new (w.alloc (Xg ps kind)) (.cells #[Xu 0,Xu 0] 104);have q1:=(((ab (w.alloc (Xg ps kind)).heap.size (w.alloc (Xg ps kind))).alloc Ih (.cells #[Xu 0,Xu 0] 104)).block w.heap.size (by simp)).trans q1;simp only[World.size_alloc] at z1;have ai:=my (h.below B0) hi kind 0 (by decide);have ar:=fun W (hW:Below w.heap.size w W)=>vT (h.below hW) hi 0 (by decide) (by rw[pO];decide);rw[qM] at ai;rw[pO] at ar;simp only[Id,fE,Nd.zero] at ai⊢;have HG:=kq5 ai ar B0 z1 q1;clear ai ar B0 B1 h hi z1 q1;go_enter func309,ntmps309;go_wp2_with fail;refine wx HG.a fun w1 hb1=>?_;have ad:=hb1.alloc hb1.size (.cells #[Xu 0,Xu 0] 104);have y1:=heap_alloc_new w1 (.cells #[Xu 0,Xu 0] 104);have z1:=(ad.block (w.heap.size+1) (by simp)).trans HG.d;have q1:=(ad.block w.heap.size (by simp;omega)).trans HG.e;have B2:=HG.c.trans (ad.mono HG.c.size);go_wp2_with fail;generalize w1.alloc (.cells #[Xu 0,Xu 0] 104)=W at*;obtain⟨I,al,an⟩:∃I:World->Prop,(∀w',I w'->w'.heap[w.heap.size]?=some (Xg ps kind)/\w'.heap[w1.heap.size]?=some (.cells #[Xu 0,Xu 0] 104))/\(∀w',w'.heap[w.heap.size]?=some (Xg ps kind)->w'.heap[w1.heap.size]?=some (.cells #[Xu 0,Xu 0] 104)->I w'):=⟨fun w'=>w'.heap[w.heap.size]?=some (Xg ps kind)/\w'.heap[w1.heap.size]?=some (.cells #[Xu 0,Xu 0] 104),fun _ h=>h,fun _ a b=>⟨a,b⟩⟩;have au:=fun x:Fq I=>(al _ x.ok).1;have a0:=fun x:Fq I=>(al _ x.ok).2;obtain⟨a3,a4⟩:=fw au;obtain⟨a5,a6⟩:=fw a0;obtain⟨e0,e1⟩:=Fp z1;obtain⟨f0,f1⟩:=ef z1;have a2:w1.heap.size≠w.heap.size+1:=by have:=hb1.size;simp at this;omega
 have HW:=kq4 B2 z1 q1 y1;have HI:=If an;have a1:I W.drew:=an _ q1 y1;clear B2 z1 q1 y1 hb1 ad au a0 al an;refine nF I [(true,0),(true,1),(true,2),(true,3),(false,4),(true,5),(false,6),(false,7)] (by kernel_rfl) (by kernel_rfl) a1 ?_
 iterate 4
  refine' mT ?_ ?_;rotate_left
  ·intro x;go_simp
   try rfl
  try simp only[pu]
 refine mD fun K hK=>?_;go_simp;refine Jc (HG.b _ HW.a.drew) ?_
 try go_simp
 refine hK.out _ _ (HI.out _ HW.c HW.d) ?_;clear hK K
 try simp only[pu]
 refine' mT ?_ ?_;rotate_left
 ·intro x;go_simp
  try rfl
 try simp only[pu]
 refine mD fun K hK=>?_;go_simp;have q3:((W.setCell ⟨(w.heap.size+1),0,none⟩ (Xu 0)).setCell ⟨(w.heap.size+1),1,none⟩ (Xu 0)).drew.heap[w.heap.size+1]?=_:=ew HW.b (Xu 0) (Xu 0);have B3:=(eT HW.a (bG w.heap.size) (Xu 0) (Xu 0)).drew;have r3:((W.setCell ⟨(w.heap.size+1),0,none⟩ (Xu 0)).setCell ⟨(w.heap.size+1),1,none⟩ (Xu 0)).drew.heap[w.heap.size]?=_:=(fA (by omega) (Xu 0) (Xu 0)).trans HW.c;have y3:((W.setCell ⟨(w.heap.size+1),0,none⟩ (Xu 0)).setCell ⟨(w.heap.size+1),1,none⟩ (Xu 0)).drew.heap[w1.heap.size]?=_:=(fA a2 (Xu 0) (Xu 0)).trans HW.d;generalize ((W.setCell ⟨(w.heap.size+1),0,none⟩ (Xu 0)).setCell ⟨(w.heap.size+1),1,none⟩ (Xu 0)).drew=W3 at*
 try go_simp
 refine hK.out _ _ (HI.out _ r3 y3) ?_;clear hK K
 try simp only[pu]
 refine mD fun K hK=>?_;go_simp
 try go_simp
 refine hK.out _ _ (HI.out _ r3 y3) ?_;clear hK K
 try simp only[pu]
 refine mX ?_;obtain⟨g0,g1⟩:=Fp q3;clear e0 e1 f0 f1 q3 r3 y3;have HB:=If B3;clear B3;go_wp2_with fail;exact bodyPost_ret (v:=.tuple #[.agg #[Xu 0,Xu 0],.bool false]) (by simp[results,f309,go_sem,g0,g1]) rfl ⟨rfl,HB.out⟩
theorem Ig.write{w w':World}{b:Nat}{cs:Array Value}{t:TypeId}{fr:Nat×Nat}(h:Ig w ps S Y)(hy:Y b)(hb:w.heap[b]?=some (.cells cs t fr))(ht:t≠94/\t≠160)(hz:cs.size<64)
 (hs:w.heap.size<=w'.heap.size) (hw:∀k,k<w.heap.size->k≠b->w'.heap[k]?=w.heap[k]?):Ig w' ps S Y:=by
 obtain⟨pa,pm,ph,pt,v,h⟩:=h;refine⟨pa,pm,ph,pt,v,h.of_keep hs fun k hk hc=>hw k hk ?_⟩;rintro rfl;rcases hc with hc | rfl | rfl | rfl
 ·exact hc hy
 ·have:=h.hd;rw[hb] at this;injection this with this
  injection this with _ this
  exact ht.1 this
 ·have:=h.heap.hp;rw[hb] at this;injection this with this
  injection this with _ this
  exact ht.2 this
 ·have:=h.heap.tab 63 (by decide);rw[cell_of_block hb,cQ (by omega)] at this;cases this
def Lf.binInsM(jn:Jn)(S:St)(root k v:Nat):Option (Nat×St):=
 if(ft S ⟨k,v,0,0,0,1⟩).1.2≠0 then none
 else match insertOkM jn (ft S ⟨k,v,0,0,0,1⟩).2 root (ft S ⟨k,v,0,0,0,1⟩).1.1 with
  | none=>none
  | some ((now,old),S1)=>if old=0 then some (now,S1) else none
theorem y8{jn:Jn}{S S':St}{root k v x:Nat}(h:binInsM jn S root k v=some (x,S')):
 (ft S ⟨k,v,0,0,0,1⟩).1.2=0/\insertOkM jn (ft S ⟨k,v,0,0,0,1⟩).2 root (ft S ⟨k,v,0,0,0,1⟩).1.1=some ((x,0),S'):=by
 unfold binInsM at h
 split at h
 ·cases h
 ·rename_i h0
  split at h
  ·cases h
  ·rename_i now old S1 h1
   split at h
   ·rename_i h2;have h:=Option.some.inj h
    injection h with e1 e2
    subst e1 e2 h2;exact⟨cZ.1 h0,h1⟩
   ·cases h
theorem Cr(S:St)(n:Nd):(ft S n).1.1=(S.make 6).1.1\/(ft S n).1.1=0:=by
 unfold ft
 split
 ·rename_i h s1 e
  left;rw[e]
 ·right;rfl
theorem yW(hw:iW S.t)(n:Nd):(ft S n).1.1<2^64:=by
 rcases Cr S n with e | e
 ·rw[e];exact oA hw 6
 ·rw[e];decide
theorem vz(hm:iw S 6)(n:Nd):Fv (ft S n).2:=by
 have h2:=hm.2;unfold ft
 split
 ·rename_i h s1 e;rw[e] at h2;exact rT h2 _ _
 ·rename_i e0 h er s1 e;rw[e] at h2;exact h2
theorem zc{S S':St}(h:Ig w ps S Y)(hm:iw S 6){j c:FuncId}{jn:Jn}(hk:jD kind j c jn)(root k v:Nat)(hl:root<2^64)(hkl:k<2^64)(hvl:v<2^64){x:Nat}(hx:binInsM jn S root k v=some (x,S')):
 Ct 301 #[fE ps kind,Xu root,Id k v] w fun e w'=>e=.returned (.tuple #[Xu x,Id 0 0,.bool false,Xi 0])/\Ig w' ps S' Y/\Fo Y w w'/\Fv S'/\x<2^64:=by
 obtain⟨h0,h1⟩:=y8 hx;have an:=vz hm ⟨k,v,0,0,0,1⟩;have a3:=yW h.tabwf ⟨k,v,0,0,0,1⟩;have ai:=fun W Z (hW:Ig W ps S Z)=>vU hW hm ⟨k,v,0,0,0,1⟩ ⟨hkl,hvl,by simp,by simp,by simp,by simp⟩;generalize ft S ⟨k,v,0,0,0,1⟩=M at*;obtain⟨⟨m,em⟩,S1⟩:=M;simp only at h0 h1 an a3 ai;subst h0;have a2:=fun W Z (hW:Ig W ps S1 Z)=>In hW an hk.joins hk.way root m hl a3 h1;have ar:=fun W Z (hi2:Fv S') (hW:Ig W ps S' Z)=>zk hW hi2 kind;simp only[fE,Id,eS] at ai ar⊢;have B1:=(ab w.heap.size w).alloc Ih (Xg ps kind);have q1:=heap_alloc_new w (Xg ps kind);generalize a4:w.alloc (Xg ps kind)=w1 at*;have z1:w1.heap.size=w.heap.size+1:=by rw[<-a4];simp
 have A2:=(ab w1.heap.size w1).alloc Ih (Xe k v);have B2:=B1.alloc B1.size (Xe k v);have q2:=(A2.block w.heap.size (by omega)).trans q1;have z2:(w1.alloc (Xe k v)).heap.size=w.heap.size+2:=by simp[z1]
 generalize a8:w1.alloc (Xe k v)=w2 at*;have A3:=(ab w2.heap.size w2).alloc Ih (.cells #[Xu 0,Xu 0] 104);have q3:=(A3.block w.heap.size (by omega)).trans q2;have B3:=B2.alloc B2.size (.cells #[Xu 0,Xu 0] 104);have y3:=heap_alloc_new w2 (.cells #[Xu 0,Xu 0] 104);rw[z2] at y3;have z3:(w2.alloc (.cells #[Xu 0,Xu 0] 104)).heap.size=w.heap.size+3:=by simp[z2]
 subst a8 a4;have hY:=h.yl;have HG:=kq9 ai a2 ar (h.wide B3) q3 y3 z3 B3 hY;clear ai a2 ar h q1 q2 q3 y3 A2 A3 B1 B2 B3 z1 z2 z3 an h1 hm hk hY hx;go_enter func301,ntmps301;go_wp2_with fail;refine(HG.a _ _ HG.d).mono ?_;rintro e w4 ⟨rfl,h4,k4⟩;have q4:=(k4.block w.heap.size (ae ⟨Nat.le_refl _,by have:=HG.g;omega⟩)).trans HG.e;have y4:=(k4.block (w.heap.size+2) (ae ⟨by omega,by have:=HG.g;omega⟩)).trans HG.f;obtain⟨c0,c1⟩:=Fp q4;have H4:=kq4 h4 k4 q4 y4;clear h4 k4 q4 y4;go_wp2_with fail;obtain⟨hp,a1,a5,-⟩:=HG.b _ _ H4.a;refine hp.mono ?_;rintro e w5 ⟨rfl,h5,k5⟩;have q5:=(k5.block w.heap.size (ae ⟨Nat.le_refl _,by have:=HG.g;omega⟩)).trans H4.c;have y5:=(k5.block (w.heap.size+2) (ae ⟨by omega,by have:=HG.g;omega⟩)).trans H4.d;obtain⟨d0,d1⟩:=Fp q5;have H5:=kq5 h5 (H4.b.trans k5) a1 a5 y5;clear h5 k5 q5 y5 hp a1 a5 c0 c1;go_wp2_with fail;refine wx (HG.c _ _ H5.c H5.a) fun w6 hb6=>?_;have y6:=(hb6.block (w.heap.size+2) (gl H5.e)).trans H5.e;obtain⟨e0,e1⟩:=Fp y6;obtain⟨f0,f1⟩:=ef y6;have q7:((w6.setCell ⟨(w.heap.size+2),0,none⟩ (Xu 0)).setCell ⟨(w.heap.size+2),1,none⟩ (Xu 0)).heap[w.heap.size+2]?=_:=ew y6 (Xu 0) (Xu 0);have o7:∀k,k≠w.heap.size+2->((w6.setCell ⟨(w.heap.size+2),0,none⟩ (Xu 0)).setCell ⟨(w.heap.size+2),1,none⟩ (Xu 0)).heap[k]?=w6.heap[k]?:=fun k hk=>fA hk _ _;have z7:((w6.setCell ⟨(w.heap.size+2),0,none⟩ (Xu 0)).setCell ⟨(w.heap.size+2),1,none⟩ (Xu 0)).heap.size=w6.heap.size:=by simp
 have s7:((w6.setCell ⟨(w.heap.size+2),0,none⟩ (Xu 0)).setCell ⟨(w.heap.size+2),1,none⟩ (Xu 0)).os=w6.os/\((w6.setCell ⟨(w.heap.size+2),0,none⟩ (Xu 0)).setCell ⟨(w.heap.size+2),1,none⟩ (Xu 0)).tape=w6.tape/\((w6.setCell ⟨(w.heap.size+2),0,none⟩ (Xu 0)).setCell ⟨(w.heap.size+2),1,none⟩ (Xu 0)).output=w6.output:=⟨rfl,rfl,rfl⟩;have a9:∀k,Y k->k<w.heap.size:=HG.i;have h6:=H5.a.below hb6;have k6:=H5.b.trans (H5.a.keep hb6);have H6:=kq9 h6 k6 H5.c H5.d y6 q7 o7 z7 s7;clear hb6 y6 d0 d1 h6 k6 o7 z7 s7 q7;go_wp2_with fail;generalize ((w6.setCell ⟨(w.heap.size+2),0,none⟩ (Xu 0)).setCell ⟨(w.heap.size+2),1,none⟩ (Xu 0))=w7 at*;have q7:=H6.f;obtain⟨I,au,al⟩:∃I:World->Prop,(∀w',I w'->w'.heap[w.heap.size+2]?=some (.cells #[Xu 0,Xu 0] 104))/\(∀w',w'.heap[w.heap.size+2]?=some (.cells #[Xu 0,Xu 0] 104)->I w'):=⟨fun w'=>w'.heap[w.heap.size+2]?=some (.cells #[Xu 0,Xu 0] 104),fun _ h=>h,fun _ a=>a⟩;have a6:=fun x:Fq I=>au _ x.ok;obtain⟨m0,m1⟩:=fw a6;obtain⟨g0,g1⟩:=Fp q7;obtain⟨h0,h1⟩:=ef q7;have HI:=If al;have a7:I w7.drew:=al _ q7;have HQ:=If q7;clear e0 e1 f0 f1 q7 au al a6;refine nF I [(true,0),(true,1),(true,2),(true,3),(false,4),(false,5),(false,6),(false,7)] (by kernel_rfl) (by kernel_rfl) a7 ?_
 iterate 4
  refine' mT ?_ ?_;rotate_left
  ·intro x;go_simp
   try rfl
  try simp only[pu]
 refine mD fun K hK=>?_;go_simp
 try go_simp
 refine hK.out _ _ (HI.out _ HQ.out) ?_;clear hK K
 try simp only[pu]
 refine mD fun K hK=>?_;go_simp;have q8:((w7.setCell ⟨(w.heap.size+2),0,none⟩ (Xu 0)).setCell ⟨(w.heap.size+2),1,none⟩ (Xu 0)).drew.heap[w.heap.size+2]?=_:=ew HQ.out (Xu 0) (Xu 0);have o8:∀k,k≠w.heap.size+2->((w7.setCell ⟨(w.heap.size+2),0,none⟩ (Xu 0)).setCell ⟨(w.heap.size+2),1,none⟩ (Xu 0)).drew.heap[k]?=w7.heap[k]?:=fun k hk=>fA hk _ _;have z8:((w7.setCell ⟨(w.heap.size+2),0,none⟩ (Xu 0)).setCell ⟨(w.heap.size+2),1,none⟩ (Xu 0)).drew.heap.size=w7.heap.size:=by show ((w7.setCell ⟨(w.heap.size+2),0,none⟩ (Xu 0)).setCell ⟨(w.heap.size+2),1,none⟩ (Xu 0)).heap.size=_;simp
 have s8:((w7.setCell ⟨(w.heap.size+2),0,none⟩ (Xu 0)).setCell ⟨(w.heap.size+2),1,none⟩ (Xu 0)).drew.os=w7.os/\((w7.setCell ⟨(w.heap.size+2),0,none⟩ (Xu 0)).setCell ⟨(w.heap.size+2),1,none⟩ (Xu 0)).drew.tape=w7.tape/\((w7.setCell ⟨(w.heap.size+2),0,none⟩ (Xu 0)).setCell ⟨(w.heap.size+2),1,none⟩ (Xu 0)).drew.output=w7.output:=⟨rfl,rfl,rfl⟩;generalize ((w7.setCell ⟨(w.heap.size+2),0,none⟩ (Xu 0)).setCell ⟨(w.heap.size+2),1,none⟩ (Xu 0)).drew=w8 at*
 try go_simp
 refine hK.out _ _ (HI.out _ q8) ?_;clear hK K
 try simp only[pu]
 refine mD fun K hK=>?_;go_simp
 try go_simp
 refine hK.out _ _ (HI.out _ q8) ?_;clear hK K
 try simp only[pu]
 refine mD fun K hK=>?_;go_simp
 try go_simp
 refine hK.out _ _ (HI.out _ q8) ?_;clear hK K
 try simp only[pu]
 refine mX ?_;obtain⟨e0,e1⟩:=Fp q8;have a0:Ig w8 ps S' Y/\Fo Y w w8:=by
  obtain⟨h6,k6,-,-,y6,-,o7,z7,s7⟩:=H6.out;have hY:=HG.i;have hz:=HG.g;have hw:∀k,k≠w.heap.size+2->w8.heap[k]?=w6.heap[k]?:=fun k hk=>(o8 k hk).trans (o7 k hk);refine⟨(h6.write (ae ⟨by omega,by omega⟩) y6 ⟨by decide,by decide⟩ (by simp) (by omega) fun k _ hk=>hw k hk).mono fun k hk=>aa hk,?_⟩;have ad:=(Fo.of_below HG.h hY).trans (k6.mono fun k hk=>aa hk);exact⟨(s8.1.trans s7.1).trans ad.os,(s8.2.1.trans s7.2.1).trans ad.tape,(s8.2.2.trans s7.2.2).trans ad.output,by have:=ad.size;omega,fun k hk=>(hw k (by have:=hY k hk;omega)).trans (ad.block k hk)⟩
 have HF:=If a0;clear a0 q8 o8 z8 s8 g0 g1 h0 h1 m0 m1;go_wp2_with fail;exact bodyPost_ret (v:=.tuple #[Xu x,.agg #[Xu 0,Xu 0],.bool false,Xi 0]) (by simp[results,f301,go_sem,e0,e1]) rfl ⟨rfl,HF.out.1,HF.out.2,H6.c,H6.d⟩
def tt(w:World)(px ps kind root:Nat):Prop:=w.heap[px]?=some (.cells #[PV ps,Xi kind,Xi 0,.iface 162 (fE ps kind),Xu root] 100)
theorem Da(f:Nat)(v:Value)(w:World):(method (f+1) 162 v "loft/backend.size").run prog w=.ok (304,v) w:=by kernel_rfl
theorem C9(f:Nat)(v:Value)(w:World):(method (f+1) 162 v "loft/backend.rank").run prog w=.ok (302,v) w:=by kernel_rfl
theorem rI(f:Nat)(v:Value)(w:World):(method (f+1) 162 v "loft/backend.at").run prog w=.ok (299,v) w:=by kernel_rfl
theorem vQ(f:Nat)(v:Value)(w:World):(method (f+1) 162 v "loft/backend.insert").run prog w=.ok (301,v) w:=by kernel_rfl
theorem lB(A B:World->Prop):∃I:World->Prop,(∀w',I w'->A w'/\B w')/\(∀w',A w'->B w'->I w'):=⟨fun w'=>A w'/\B w',fun _ h=>h,fun _ a b=>⟨a,b⟩⟩
def Lf.treeAtM(S:St)(root k:Nat):Option (List UInt8×List UInt8):=
 match kD S root k with
 | none=>none
 | some (h,e)=>if e≠0\/18446744073709551616<=h then none else
  match gD S (getNode S h).1.key,gD S (getNode S h).1.val with
  | some a,some b=>some (a,b)
  | _,_=>none
theorem EQ{root k:Nat}{p:List UInt8×List UInt8}(h:treeAtM S root k=some p):∃hh,hh<2^64/\kD S root k=some (hh,0)/\gD S (getNode S hh).1.key=some p.1/\gD S (getNode S hh).1.val=some p.2:=by
 unfold treeAtM at h
 split at h
 ·cases h
 rename_i hh e h1
 split at h
 ·cases h
 rename_i hc;simp only[not_or,cZ,Nat.not_le] at hc
 split at h
 ·rename_i a b h2 h3;have h:=Option.some.inj h;subst h;exact⟨hh,hc.2,by rw[h1,hc.1],h2,h3⟩
 ·cases h
def eu(p:List UInt8×List UInt8):Value:=.agg #[SV p.1,SV p.2]
theorem sS{hh:Nat}{t:List UInt8}(h:gD S hh=some t):(fz S hh).2≠8/\(fz S hh).1=t:=by
 unfold gD at h
 split at h
 ·cases h
 ·rename_i h8;exact⟨h8,Option.some.inj h⟩
end
section
open Lf
namespace Tr
variable{S:St}{k:Nat}{key:List UInt8}{o:Nat->Nat}{t:Tr}
def eB(l:List It):List Nat:=l.flatMap fun d=>[d.h,d.kh,d.vh]
def pairs(l:List It):List (List UInt8×List UInt8):=l.map fun d=>(d.k,d.v)
structure fC (Ok:Tr->Prop) (S:St) (o:Nat->Nat) (t:Tr):Prop where
 fit:Fw S o
 at':At S t
 ok:Ok t
 nd:(eB t.its).Nodup
 blobs:∀d∈t.its,gu S d
 sorted:t.its.Pairwise eU
theorem iX(a b:List It):eB (a++b)=eB a++eB b:=by unfold eB;exact dC
theorem mx(d:It)(b:List It):eB (d::b)=d.h::d.kh::d.vh::eB b:=rfl
theorem gU{l:List It}{y:Nat}:y∈eB l↔∃d∈l,y=d.h\/y=d.kh\/y=d.vh:=by
 unfold eB;rw[dz];simp
theorem tB:∀{l:List It},(eB l).Nodup->(l.map (·.h)).Nodup/\∀d∈l,d.kh∉l.map (·.h)/\d.vh∉l.map (·.h)
 | [],_=>⟨dP,fun _ hd=>by cases hd⟩
 | d::l,h=>by
  rw[mx] at h;obtain⟨h1,h2⟩:=aE.1 h;obtain⟨h3,h4⟩:=aE.1 h2;obtain⟨h5,h6⟩:=aE.1 h4;obtain⟨g1,g2⟩:=tB h6;simp only[ag,not_or] at h1 h3;have ad:∀x∈l,x.h∈eB l/\x.kh∈eB l/\x.vh∈eB l:=fun x hx=>⟨gU.2 ⟨x,hx,aa rfl⟩,gU.2 ⟨x,hx,ae (aa rfl)⟩,gU.2 ⟨x,hx,ae (ae rfl)⟩⟩;have hm:∀y,y∉eB l->y∉l.map (·.h):=fun y hy hm=>by
   obtain⟨x,hx,rfl⟩:=aA.1 hm;exact hy (ad x hx).1
  refine⟨aE.2 ⟨hm _ h1.2.2,g1⟩,fun x hx=>?_⟩;rw[aL];simp only[ag,not_or];rcases ag.1 hx with rfl | hx
  ·exact⟨⟨fun e=>h1.1 e.symm,hm _ h3.2⟩,fun e=>h1.2.1 e.symm,hm _ h5⟩
  ·exact⟨⟨fun e=>h1.2.2 (e▸(ad x hx).2.1),(g2 x hx).1⟩,fun e=>h1.2.2 (e▸(ad x hx).2.2),(g2 x hx).2⟩
theorem fC.hs{Ok:Tr->Prop}(h:fC Ok S o t):t.hs.Nodup/\∀d∈t.its,d.kh∉t.hs/\d.vh∉t.hs:=tB h.nd
theorem Dk{l m:List Nat}(h:l.Nodup)(hs:∀y∈l,y∈m):l.length<=m.length:=by
 induction l generalizing m with
 | nil=>exact cz _
 | cons x r ih=>
  obtain⟨h1,h2⟩:=aE.1 h;have hx:=hs x (aq ..);have:=ih h2 (m:=m.erase x) fun y hy=>by
   have ai:=hs y (ah _ hy);have ad:y≠x:=fun e=>h1 (e▸hy);exact(List.mem_erase_of_ne ad).2 ai
  rw[List.length_erase_of_mem hx] at this;have:0<m.length:=List.length_pos_of_mem hx;simp only[ak];omega
theorem vV {f:Nat->Nat}:∀{l:List Nat},(∀x∈l,∀y∈l,f x=f y->x=y)->l.Nodup->(l.map f).Nodup
 | [],_,_=>dP
 | x::l,h,hn=>by
  obtain⟨h1,h2⟩:=aE.1 hn;rw[aL];refine aE.2 ⟨fun hm=>?_,vV (fun a ha b hb=>h a (ah _ ha) b (ah _ hb)) h2⟩;obtain⟨y,hy,e⟩:=aA.1 hm;have:=h y (ah _ hy) x (aq ..) e;exact h1 (this▸hy)
theorem EB(n:Nat):(List.replicate n 8).sum=n*8:=by
 induction n with
 | zero=>rfl
 | succ n ih=>rw[List.replicate_succ,List.sum_cons,ih];omega
theorem AI(hf:Fw S o){h:Nat}{ws:List Nat}(hl:reco S h=some ws)(hw:6<=ws.length):∃a r,eO S.a o a r/\8<=r/\∃(k:Nat) (x:fb),S.t.slots[k]?=some x/\x.is=1/\h=gj x.gen k/\x.addr=a:=by
 obtain⟨k,x,hx,h1,h2,rfl⟩:=(gT hf.tab).1 hl;obtain⟨r,g1,g2,g3⟩:=hf.live k x hx h1;rw[Jy] at hw;exact⟨x.addr,r,g1,by omega,k,x,hx,h1,h2,rfl⟩
theorem D6(hf:Fw S o){l:List Nat}(hn:l.Nodup)(hl:∀h∈l,∃ws,reco S h=some ws/\6<=ws.length):l.length<=8*S.a.pages.length:=by
 have key:∀h∈l,∃a r,eO S.a o a r/\8<=r/\∃(k:Nat) (x:fb),S.t.slots[k]?=some x/\x.is=1/\h=gj x.gen k/\x.addr=a:=fun h hm=>by
  obtain⟨ws,h1,h2⟩:=hl h hm;exact AI hf h1 h2
 let f:Nat->Nat:=fun h=>if hm:h∈l then(key h hm).choose / 8 else 0
 have ad:∀h (hm:h∈l),f h=(key h hm).choose / 8:=fun h hm=>by simp only[f,dif_pos hm]
 have ai:(l.map f).Nodup:=by
  refine vV ?_ hn;intro x hx y hy he;rw[ad x hx,ad y hy] at he;obtain⟨r,p1,q1,k1,s1,a1,b1,c1,d1⟩:=(key x hx).choose_spec;obtain⟨r',p2,q2,k2,s2,a2,b2,c2,d2⟩:=(key y hy).choose_spec;generalize (key x hx).choose=A at*;generalize (key y hy).choose=B at*
  rcases eO.apart hf.own p1 p2 with g | g | g
  ·have e:k1=k2:=hf.inj k1 k2 s1 s2 a1 a2 b1 b2 (by rw[d1,d2];exact g.1);subst e;rw[a1] at a2
   injection a2 with a2
   subst a2;rw[c1,c2]
  ·omega
  ·omega
 have al:∀y∈l.map f,y∈S.a.keys.flatMap fun p=>(List.range 8).map fun j=>8*p+j:=by
  intro y hy;obtain⟨h,hm,rfl⟩:=aA.1 hy;rw[ad h hm];obtain⟨r,p1,q1,_⟩:=(key h hm).choose_spec;generalize (key h hm).choose=A at*;have hp:=(p1.ok hf.own (b:=0) (by omega)).2.2;refine dz.2 ⟨A / 64,hp,aA.2 ⟨A / 8 % 8,bw.2 (by omega),by omega⟩⟩
 have:=Dk ai al;rw[ao,List.length_flatMap] at this;have e:(S.a.keys.map fun p=>((List.range 8).map fun j=>8*p+j).length)=S.a.keys.map fun _=>8:=by
  refine aP fun p _=>?_
  simp
 rw[e,List.map_const',EB,i8] at this;omega
theorem At.rec {S:St}:∀{t:Tr},At S t->∀h∈t.hs,∃n:Nd,reco S h=some (eM n)
 | nil,_,h,hm=>by cases hm
 | node l d m r,⟨h1,h2,h3⟩,h,hm=>by
  rw[eY] at hm;rcases aj.1 hm with hm | hm
  ·exact h2.rec h hm
  ·rcases ag.1 hm with rfl | hm
   ·exact⟨_,h1⟩
   ·exact h3.rec h hm
theorem fC.limit{Ok:Tr->Prop}(h:fC Ok S o t):t.its.length<Lf.limit S:=by
 have:=D6 h.fit h.hs.1 fun y hy=>by
  obtain⟨n,hn⟩:=h.at'.rec y hy;exact⟨_,hn,by simp[eM]⟩
 unfold Tr.hs at this;rw[ao] at this;unfold Lf.limit St.words;omega
def Fr(key:List UInt8)(l:List It):Nat:=l.countP fun d=>decide (Fu d.k key<0)
theorem lJ(key:List UInt8)(a b:List It):Fr key (a++b)=Fr key a+Fr key b:=List.countP_append
theorem lI{l:List It}(h:∀d∈l,Fu d.k key<0):Fr key l=l.length:=List.countP_eq_length.2 fun d hd=>by simpa using h d hd
theorem lK{l:List It}(h:∀d∈l,¬Fu d.k key<0):Fr key l=0:=dB.2 fun d hd=>by simpa using h d hd
theorem qs {S:St}{o:Nat->Nat}(hf:Fw S o)(key:List UInt8):∀(f:Nat) {t:Tr} {b:Nat},At S t->(∀d∈t.its,gu S d)->t.its.Pairwise eU->t.its.length<=f->b+t.its.length<1000000->
 ∃hh,ij S key f t.root b=some (hh,b+Fr key t.its)/\((hh=0/\∀d∈t.its,d.k≠key)\/∃d∈t.its,d.k=key/\hh=d.h)
 | 0,t,b,ha,hb,hs,hl,hc=>by
  cases t with
  | nil=>exact⟨0,rfl,aa ⟨rfl,fun _ hd=>by cases hd⟩⟩
  | node l d m r=>simp[its] at hl
 | f+1,t,b,ha,hb,hs,hl,hc=>by
  cases t with
  | nil=>exact⟨0,by rw[n8];rfl,aa ⟨rfl,fun _ hd=>by cases hd⟩⟩
  | node l d m r=>
   have g1:=ha.getNode hf;obtain⟨h1,h2,h3⟩:=ha;have a0:=(fL hf h1).1;have hi:(node l d m r).its=l.its++d::r.its:=rfl;rw[hi] at hb hs hl hc⊢;simp only[aD,ak] at hl hc;obtain⟨s1,s2,s3⟩:=bA.1 hs;obtain⟨s4,s5⟩:=aT.1 s2;have an:=hb d (by simp);have ar:=At.blob hf an.lk an.k;have er:(node l d m r).root=d.h:=rfl;have au:=h2.size hf (by omega);rw[er,n8,if_neg (by omega),g1,if_neg (by simp)];simp only[nd];rw[ar];simp only;rw[lJ];by_cases c1:Fu key d.k<0
   ·rw[if_pos c1];obtain⟨hh,e,q⟩:=qs hf key f h2 (fun x hx=>hb x (by simp[hx])) s1 (by omega) (b:=b) (by omega);have hz:Fr key (d::r.its)=0:=lK fun x hx=>by
     rcases ag.1 hx with rfl | hx
     ·rw[ie];omega
     ·have:=ig c1 (s4 x hx);rw[ie];omega
    refine⟨hh,by rw[e,hz];rfl,?_⟩;rcases q with⟨q1,q2⟩ | ⟨x,hx,q⟩
    ·left
     refine⟨q1,fun x hx=>?_⟩;rcases aj.1 hx with hx | hx
     ·exact q2 x hx
     ·intro e;rcases ag.1 hx with rfl | hx
      ·rw[<-e,fX] at c1;omega
      ·have:=ig c1 (s4 x hx);rw[e,fX] at this;omega
    ·exact ae ⟨x,by simp[hx],q⟩
   ·rw[if_neg c1,au];simp only;by_cases c2:0<Fu key d.k
    ·rw[if_pos c2,oI (by omega)];simp only;have ai:Fu d.k key<0:=by rw[ie];omega
     obtain⟨hh,e,q⟩:=qs hf key f h3 (fun x hx=>hb x (by simp[hx])) s5 (by omega) (b:=b+(l.its.length+1)) (by omega);have hz:Fr key l.its=l.its.length:=lI fun x hx=>ig (s3 x hx d (aq ..)) ai;have al:Fr key (d::r.its)=Fr key r.its+1:=by
      unfold Fr;rw[List.countP_cons,if_pos (by simpa using ai)]
     refine⟨hh,by rw[e,hz,al];congr 2;omega,?_⟩;rcases q with⟨q1,q2⟩ | ⟨x,hx,q⟩
     ·left
      refine⟨q1,fun x hx=>?_⟩;rcases aj.1 hx with hx | hx
      ·intro e;have:=ig (s3 x hx d (aq ..)) ai;rw[e,fX] at this;omega
      ·rcases ag.1 hx with rfl | hx
       ·intro e;rw[e,fX] at c2;omega
       ·exact q2 x hx
     ·exact ae ⟨x,by simp[hx],q⟩
    ·rw[if_neg c2,oI (by omega)];have ad:key=d.k:=jL (by omega);have hz:Fr key l.its=l.its.length:=lI fun x hx=>by rw[ad];exact s3 x hx d (aq ..)
     have al:Fr key (d::r.its)=0:=lK fun x hx=>by
      rcases ag.1 hx with rfl | hx
      ·rw[ad,fX];omega
      ·have:=s4 x hx;unfold eU at this;rw[ad,ie];omega
     exact⟨d.h,by rw[hz,al];rfl,ae ⟨d,by simp,ad.symm,rfl⟩⟩
theorem pP {S:St}{o:Nat->Nat}(hf:Fw S o):∀(f:Nat) {t:Tr} {k:Nat} (_:At S t) (_:t.its.length<=f) (_:t.its.length<1000000) (hk:k<t.its.length),j8 S f t.root k=some (t.its[k].h,0)
 | 0,t,k,ha,hl,hc,hk=>by omega
 | f+1,t,k,ha,hl,hc,hk=>by
  cases t with
  | nil=>simp[its] at hk
  | node l d m r=>
   have g1:=ha.getNode hf;obtain⟨h1,h2,h3⟩:=ha;have hi:(node l d m r).its=l.its++d::r.its:=rfl;have ai:(node l d m r).its.length=l.its.length+(r.its.length+1):=by rw[hi];simp
   have ad:=h2.size hf (by omega);have er:(node l d m r).root=d.h:=rfl;rw[er,tF,g1,if_neg (by simp)];simp only[nd];rw[ad];simp only;by_cases c1:k<l.its.length
   ·rw[if_pos c1,pP hf f h2 (by omega) (by omega) c1];simp only[hi];rw[List.getElem_append_left c1]
   ·rw[if_neg c1];by_cases c2:l.its.length<k
    ·rw[if_pos c2,pP hf f h3 (k:=k-(l.its.length+1)) (by omega) (by omega) (by omega)];simp only[hi];rw[List.getElem_append_right (by omega),List.getElem_cons,dif_neg (by omega)];congr 3
    ·rw[if_neg c2];have:k=l.its.length:=by omega
     subst this;simp[hi]
theorem fC.down{Ok:Tr->Prop}(h:fC Ok S o t)(hc:t.its.length<100000)(key:List UInt8):∃hh,ij S key (Lf.limit S) t.root 0=some (hh,Fr key t.its)/\((hh=0/\∀d∈t.its,d.k≠key)\/∃d∈t.its,d.k=key/\hh=d.h):=by
 obtain⟨hh,e,q⟩:=qs h.fit key (Lf.limit S) h.at' h.blobs h.sorted (by have:=h.limit;omega) (b:=0) (by omega);rw[bO] at e;exact⟨hh,e,q⟩
theorem fC.place{Ok:Tr->Prop}(h:fC Ok S o t)(hc:t.its.length<100000)(hk:k<t.its.length):treeAtM S t.root k=some (t.its[k].k,t.its[k].v):=by
 have hm:t.its[k]∈t.its:=aF hk;have hb:=h.blobs _ hm;have hw:kD S t.root k=some (t.its[k].h,0):=by
  unfold kD;rw[h.at'.size h.fit (by omega)];simp only;rw[if_neg (by omega),pP h.fit _ h.at' (by have:=h.limit;omega) (by omega) hk]
 have ad:∃n0:Nd,reco S t.its[k].h=some (eM n0)/\n0.key=t.its[k].kh/\n0.val=t.its[k].vh:=by
  have:∀{t:Tr},At S t->∀d∈t.its,∃n0:Nd,reco S d.h=some (eM n0)/\n0.key=d.kh/\n0.val=d.vh:=by
   intro t
   induction t with
   | nil=>intro _ d hd;cases hd
   | node l e m r ih1 ih2=>
    intro ha d hd;obtain⟨h1,h2,h3⟩:=ha
    rcases aj.1 (show d∈l.its++e::r.its from hd) with hd | hd
    ·exact ih1 h2 d hd
    ·rcases ag.1 hd with rfl | hd
     ·exact⟨_,h1,rfl,rfl⟩
     ·exact ih2 h3 d hd
  exact this h.at' _ hm
 obtain⟨n0,e1,e2,e3⟩:=ad;unfold treeAtM;rw[hw];simp only;rw[if_neg (by have:=(fL h.fit e1).2.1;omega),gw h.fit e1];simp only;rw[e2,e3,At.blob h.fit hb.lk hb.k,At.blob h.fit hb.lv hb.v]
theorem fC.over{Ok:Tr->Prop}(h:fC Ok S o t)(hc:t.its.length<100000)(hk:t.its.length<=k):kD S t.root k=some (0,2):=by
 unfold kD;rw[h.at'.size h.fit (by omega)];simp only;rw[if_pos hk]
end Tr
end
section
open Lf Tr
structure Bn (K:Type) where
 h:Nat
 es:List It
 ks:List K
def Bt:Nat->Type
 | 0=>Empty
 | d+1=>Bn (Bt d)
namespace Bt
variable{d:Nat}{k:Nat}{key:List UInt8}
def ei:List It->List (List It)->List It
 | [],[]=>[]
 | [],k::_=>k
 | e::es,[]=>e::ei es []
 | e::es,k::ks=>k++e::ei es ks
def lo:List It->List (List It)->List It
 | e::es,k::ks=>k++e::lo es ks
 | _,_=>[]
def hd: {d:Nat} ->Bt d->Nat
 | 0,x=>nomatch x
 | _+1,x=>Bn.h x
def nk: {d:Nat} ->Bt d->Nat
 | 0,x=>nomatch x
 | _+1,x=>(Bn.es x).length
def its: {d:Nat} ->Bt d->List It
 | 0,x=>nomatch x
 | _+1,x=>ei (Bn.es x) ((Bn.ks x).map fun k=>its k)
def nodes: {d:Nat} ->Bt d->List Nat
 | 0,x=>nomatch x
 | _+1,x=>Bn.h x::((Bn.ks x).map fun k=>nodes k).flatten
def Ok(t:Nat): {d:Nat} ->Bt d->Prop
 | 0,x=>nomatch x
 | d+1,x=>(Bn.es x).length<=2*t-1/\((Bn.ks x).length=if d=0 then 0 else(Bn.es x).length+1)/\∀k∈Bn.ks x,Ok t k/\t<=nk k+1
theorem el(x:Bt (d+1)):its x=ei (Bn.es x) ((Bn.ks x).map its):=rfl
theorem jQ(x:Bt (d+1)):nodes x=Bn.h x::((Bn.ks x).map nodes).flatten:=rfl
theorem jY:∀es:List It,ei es []=es
 | []=>rfl
 | e::es=>by rw[ei,jY es]
theorem nil_of_zero(l:List (Bt 0)):l=[]:=by
 cases l with
 | nil=>rfl
 | cons a _=>exact nomatch (a:Empty)
theorem its_leaf(x:Bt 1):its x=Bn.es x:=by rw[el,nil_of_zero (Bn.ks x)];exact jY _
theorem xU:∀(es:List It) (ks:List (List It)) (k:Nat),k<=es.length->ks.length=es.length+1->ei es ks=lo (es.take k) (ks.take k)++ei (es.drop k) (ks.drop k)
 | _,_,0,_,_=>by simp[lo]
 | [],_,k+1,h,_=>by simp at h
 | e::es,[],k+1,_,h=>by simp at h
 | e::es,a::ks,k+1,h1,h2=>by
  simp only[ak,Nat.add_le_add_iff_right,de] at h1 h2;have:=xU es ks k h1 h2;simp only[bM,bX,lo,ei,this,bK,aR]
def gJ(es:List It)(ks:List (List It))(k:Nat):List It:=
 match es.drop k with
 | []=>[]
 | e::r=>e::ei r (ks.drop (k+1))
theorem nA{es:List It}{ks:List (List It)}(h1:k<=es.length)(h2:ks.length=es.length+1):ei es ks=lo (es.take k) (ks.take k)++(ks.getD k []++gJ es ks k):=by
 rw[xU es ks k h1 h2]
 congr 1
 have hk:k<ks.length:=by omega
 rw[aU hk,am,af hk];unfold gJ
 cases he:es.drop k with
 | nil=>simp[ei]
 | cons e r=>simp[ei]
theorem mP{es:List It}{ks:List (List It)}(h:k<es.length):gJ es ks k=es[k]::ei (es.drop (k+1)) (ks.drop (k+1)):=by
 unfold gJ;rw[aU h]
theorem uL{es:List It}{ks:List (List It)}(h:es.length<=k):gJ es ks k=[]:=by
 unfold gJ;rw[bU h]
theorem lo_length:∀(es:List It) (ks:List (List It)),es.length=ks.length->(lo es ks).length=es.length+(ks.map List.length).sum
 | [],[],_=>rfl
 | [],_::_,h=>by simp at h
 | _::_,[],h=>by simp at h
 | e::es,k::ks,h=>by
  simp only[ak,de] at h;have:=lo_length es ks h;simp only[lo,aD,ak,this,aL,List.sum_cons];omega
theorem JD:∀(es:List It) (ks:List (List It)),(ks=[]\/ks.length=es.length+1)->es.Sublist (ei es ks)
 | [],_,_=>List.nil_sublist _
 | e::es,[],_=>by rw[jY];exact List.Sublist.refl _
 | e::es,k::ks,h=>by
  have h:ks.length=es.length+1:=by
   rcases h with h | h
   ·cases h
   ·simpa using h
  rw[ei];exact((JD es ks (ae h)).cons_cons e).trans (List.sublist_append_right _ _)
theorem BY{a b c:It}(h:eU a b)(g:eU b c):eU a c:=ig h g
theorem vu {key:List UInt8}:∀(es:List It) (ks:List (List It)),es.length=ks.length->(lo es ks).Pairwise eU->(∀e∈es,Fu e.k key<0)->∀d∈lo es ks,Fu d.k key<0
 | [],_,_,_,_,d,hd=>by cases hd
 | _::_,[],h,_,_,d,hd=>by simp at h
 | e::es,k::ks,h,hp,hb,d,hd=>by
  simp only[ak,de] at h;rw[lo] at hp hd;obtain⟨p1,p2,p3⟩:=bA.1 hp;have he:=hb e (aq ..);rcases aj.1 hd with hd | hd
  ·exact ig (p3 d hd e (aq ..)) he
  ·rcases ag.1 hd with rfl | hd
   ·exact he
   ·exact vu es ks h (aT.1 p2).2 (fun e he=>hb e (ah _ he)) d hd
theorem lL {key:List UInt8}:∀{l:List It},l.Pairwise eU->(∀d∈l.take (Fr key l),Fu d.k key<0)/\(∀d∈l.drop (Fr key l),¬Fu d.k key<0)/\Fr key l<=l.length
 | [],_=>⟨by simp[Fr],by simp[Fr],Nat.le_refl _⟩
 | e::l,h=>by
  obtain⟨h1,h2⟩:=aT.1 h;obtain⟨g1,g2,g3⟩:=lL (key:=key) h2;by_cases he:Fu e.k key<0
  ·have hb:Fr key (e::l)=Fr key l+1:=by unfold Fr;rw[cO (by simpa using he)]
   rw[hb];refine⟨fun d hd=>?_,fun d hd=>?_,by simp only[ak];omega⟩
   ·rw[bM] at hd;rcases ag.1 hd with rfl | hd
    ·exact he
    ·exact g1 d hd
   ·rw[bX] at hd;exact g2 d hd
  ·have ad:∀d∈l,¬Fu d.k key<0:=fun d hd hlt=>he (ig (h1 d hd) hlt);have hb:Fr key (e::l)=0:=lK fun d hd=>by
    rcases ag.1 hd with rfl | hd
    ·exact he
    ·exact ad d hd
   rw[hb];refine⟨by simp,fun d hd=>?_,cz _⟩;rw[cL] at hd;rcases ag.1 hd with rfl | hd
   ·exact he
   ·exact ad d hd
def findB(key:List UInt8)(l:List It):Option It:=l.find? fun d=>d.k==key
theorem oa{a b:List It}(h:∀d∈a,d.k≠key):findB key (a++b)=findB key b:=by
 unfold findB;rw[List.find?_append,bB.2 (fun d hd=>by simpa using h d hd)];rfl
theorem findB_none{a:List It}(h:∀d∈a,d.k≠key):findB key a=none:=bB.2 fun d hd=>by simpa using h d hd
theorem AR{a b:List It}(h:∀d∈b,d.k≠key):findB key (a++b)=findB key a:=by
 unfold findB;have hb:b.find? (fun d=>d.k==key)=none:=bB.2 fun d hd=>by simpa using h d hd
 rw[List.find?_append,hb]
 cases List.find? (fun d:It=>d.k==key) a<;>rfl
theorem ur{e:It}{l:List It}(h:e.k=key):findB key (e::l)=some e:=by
 unfold findB;rw[List.find?_cons,h];simp
theorem ne_of_lt{d:It}(h:Fu d.k key<0):d.k≠key:=fun e=>by rw[e,fX] at h;omega
theorem ne_of_gt{d:It}(h:0<Fu d.k key):d.k≠key:=fun e=>by rw[e,fX] at h;omega
structure ix (key:List UInt8) (es:List It) (ks:List (List It)):Prop where
 len:ks.length=es.length+1
 lo:∀d∈lo (es.take (Fr key es)) (ks.take (Fr key es)),Fu d.k key<0
 le:Fr key es<=es.length
 hi:∀d∈gJ es ks (Fr key es),¬Fu d.k key<0
 kid:(ks.getD (Fr key es) []).Pairwise eU
 hiS:(gJ es ks (Fr key es)).Pairwise eU
 kh:∀a∈ks.getD (Fr key es) [],∀b∈gJ es ks (Fr key es),eU a b
theorem l7{es:List It}{ks:List (List It)}(h:ks.length=es.length+1)(hs:(ei es ks).Pairwise eU):ix key es ks:=by
 have ad:es.Pairwise eU:=hs.sublist (JD es ks (ae h));obtain⟨b1,b2,b3⟩:=lL (key:=key) ad;have hw:=nA (ks:=ks) b3 h;rw[hw] at hs;obtain⟨p1,p2,p3⟩:=bA.1 hs;obtain⟨q1,q2,q3⟩:=bA.1 p2;refine⟨h,vu _ _ (by rw[ay,ay];omega) p1 b1,b3,?_,q1,q2,q3⟩;intro d hd
 by_cases hk:Fr key es<es.length
 ·rw[mP hk] at hd q2;have he:=b2 es[Fr key es] (by rw[aU hk];exact aq ..)
  rcases ag.1 hd with rfl | hd
  ·exact he
  ·exact fun hlt=>he (ig ((aT.1 q2).1 d hd) hlt)
 ·rw[uL (by omega)] at hd
  cases hd
theorem ix.parts{es:List It}{ks:List (List It)}(h:ix key es ks):ei es ks=Bt.lo (es.take (Fr key es)) (ks.take (Fr key es))++(ks.getD (Fr key es) []++gJ es ks (Fr key es)):=nA h.le h.len
theorem ix.lo_len{es:List It}{ks:List (List It)}(h:ix key es ks):(Bt.lo (es.take (Fr key es)) (ks.take (Fr key es))).length=Fr key es+((ks.take (Fr key es)).map List.length).sum:=by
 have h1:=h.le;have h2:=h.len;rw[lo_length _ _ (by rw[ay,ay];omega),ay];omega
theorem ix.below{es:List It}{ks:List (List It)}(h:ix key es ks):Fr key (ei es ks)=Fr key es+((ks.take (Fr key es)).map List.length).sum+Fr key (ks.getD (Fr key es) []):=by
 rw[h.parts,lJ,lJ,lI h.lo,lK h.hi,h.lo_len];rfl
theorem ix.here{es:List It}{ks:List (List It)}(h:ix key es ks)(hk:Fr key es<es.length)(he:(es[Fr key es]).k=key):findB key (ei es ks)=some es[Fr key es]/\Fr key (ks.getD (Fr key es) [])=(ks.getD (Fr key es) []).length:=by
 have ad:∀d∈ks.getD (Fr key es) [],Fu d.k key<0:=fun d hd=>by
  have:=h.kh d hd es[Fr key es] (by rw[mP hk];exact aq ..);unfold eU at this;rwa[he] at this
 refine⟨?_,lI ad⟩;rw[h.parts,oa fun d hd=>ne_of_lt (h.lo d hd),oa fun d hd=>ne_of_lt (ad d hd),mP hk,ur he]
theorem qYdac{P:Prop}(h:P:=by
 have h4:Fu key d.k<0:=ig (by rw[ie];omega) this;exact fun e=>by rw[e,fX] at h4;omega):P:=h
theorem qYdab{P:Prop}(h:P:=by
 rcases cN (Fu (es[Fr key es]).k key) 0 with g | g | g
 ·exact absurd g e0
 ·exact absurd (jL g) (hn hk)
 ·exact g):P:=h
theorem ix.down{es:List It}{ks:List (List It)}(h:ix key es ks)(hn:∀hk:Fr key es<es.length,(es[Fr key es]).k≠key):findB key (ei es ks)=findB key (ks.getD (Fr key es) []):=by
 rw[h.parts,oa fun d hd=>ne_of_lt (h.lo d hd),AR];intro d hd
 by_cases hk:Fr key es<es.length
 ·have h2:=h.hi;have h3:=h.hiS;rw[mP hk] at hd h2 h3;have e0:=h2 _ (aq ..);have e1:0<Fu (es[Fr key es]).k key:=by
   exact qYdab
  rcases ag.1 hd with rfl | hd
  ·exact ne_of_gt e1
  ·have:=(aT.1 h3).1 d hd;exact qYdac
 ·rw[uL (by omega)] at hd
  cases hd
theorem vl{es:List It}(hs:es.Pairwise eU)(hn:∀hk:Fr key es<es.length,(es[Fr key es]).k≠key):∀d∈es,d.k≠key:=by
 obtain⟨b1,b2,b3⟩:=lL (key:=key) hs;intro d hd;rw[<-aQ (Fr key es) es] at hd
 rcases aj.1 hd with hd | hd
 ·exact ne_of_lt (b1 d hd)
 ·by_cases hk:Fr key es<es.length
  ·have ad:=hs.drop (i:=Fr key es);rw[aU hk] at hd b2 ad;have e0:=b2 _ (aq ..);have e1:0<Fu (es[Fr key es]).k key:=by
    exact qYdab
   rcases ag.1 hd with rfl | hd
   ·exact ne_of_gt e1
   ·have:=(aT.1 ad).1 d hd;exact qYdac
  ·rw[bU (by omega)] at hd
   cases hd
theorem xA{es:List It}(hs:es.Pairwise eU)(hk:Fr key es<es.length)(he:(es[Fr key es]).k=key):findB key es=some es[Fr key es]:=by
 obtain⟨b1,b2,b3⟩:=lL (key:=key) hs
 conv=>lhs;rw[<-aQ (Fr key es) es]
 rw[oa fun d hd=>ne_of_lt (b1 d hd),aU hk,ur he]
theorem Ok.kids{t d:Nat}{x:Bt (d+2)}(h:Ok t x):(Bn.ks x).length=(Bn.es x).length+1:=by
 have:=h.2.1;rwa[if_neg (by omega)] at this
theorem Ok.rows{t d:Nat}{x:Bt (d+2)}(h:Ok t x):((Bn.ks x).map its).length=(Bn.es x).length+1:=by
 rw[ao];exact h.kids
theorem jN{ks:List (Bt d)}(h:k<ks.length):(ks.map its).getD k []=its ks[k]:=by
 rw[am,bi,af h];rfl
theorem pow_le(t:Nat)(ht:2<=t):∀{d:Nat} {x:Bt d},Ok t x->1<=nk x->2^d<=(its x).length+1
 | 0,x,_,_=>nomatch x
 | 1,x,_,h=>by
  rw[its_leaf];have:1<=(Bn.es x).length:=h;simp only[Nat.pow_one];omega
 | d+2,x,h,h1=>by
  have hk:=Ok.kids h;have h1:1<=(Bn.es x).length:=h1;obtain⟨e,es,he⟩:=dg (l:=Bn.es x) (by omega);have ad:2<=(Bn.ks x).length:=by omega
  obtain⟨a,r,hr⟩:=dg (l:=Bn.ks x) (by omega);obtain⟨b,r2,ai⟩:=dg (l:=r) (by rw[hr] at ad;simp at ad;omega);subst ai;have ha:=h.2.2 a (by rw[hr];exact aq ..);have hb:=h.2.2 b (by rw[hr];exact ah _ (aq ..));have pa:=pow_le t ht ha.1 (by omega);have pb:=pow_le t ht hb.1 (by omega);have hi:its (d:=d+2) x=its a++e::ei es (its b::r2.map its):=by
   rw[el,he,hr];rfl
  have hw:(its b).length<=(ei es (its b::r2.map its)).length:=by
   cases es with
   | nil=>simp[ei]
   | cons f es=>simp[ei]
  rw[hi,aD,ak,Nat.pow_succ];omega
end Bt
namespace Bt
variable{e:It}{k:Nat}
theorem nz:∀(A B:List It) (C D:List (List It)),A.length=C.length->ei (A++B) (C++D)=lo A C++ei B D
 | [],_,[],_,_=>rfl
 | [],_,_::_,_,h=>by simp at h
 | _::_,_,[],_,h=>by simp at h
 | a::A,B,c::C,D,h=>by
  simp only[ak,de] at h;simp only[aR,ei,lo,nz A B C D h,bK]
theorem xV(es:List It)(ks:List (List It))(k:Nat)(r:List It):ei (es.drop k) (r::ks.drop (k+1))=r++gJ es ks k:=by
 unfold gJ
 cases es.drop k with
 | nil=>simp[ei]
 | cons e q=>simp[ei]
theorem oW{α:Type}{l:List α}(h:k<l.length):l=l.take k++l[k]::l.drop (k+1):=by
 conv=>lhs;rw[<-aQ k l,aU h]
theorem E6{es:List It}{ks:List (List It)}(h1:k<=es.length)(h2:ks.length=es.length+1)(r:List It):ei es (ks.set k r)=lo (es.take k) (ks.take k)++(r++gJ es ks k):=by
 have hk:k<ks.length:=by omega
 have e1:ks.set k r=ks.take k++r::ks.drop (k+1):=by rw[cX,if_pos hk]
 rw[e1]
 conv=>lhs;rw[<-aQ k es]
 rw[nz _ _ _ _ (by rw[ay,ay];omega),xV]
theorem E4{es:List It}{ks:List (List It)}(h1:k<=es.length)(h2:ks.length=es.length+1)(m:It)(r1 r2:List It):
 ei (es.take k++m::es.drop k) (ks.take k++r1::r2::ks.drop (k+1))=lo (es.take k) (ks.take k)++(r1++m::(r2++gJ es ks k)):=by
 rw[nz _ _ _ _ (by rw[ay,ay];omega),ei,xV]
theorem E5{es:List It}{ks:List (List It)}{i:Nat}(h1:i<es.length)(h2:ks.length=es.length+1):ei es ks=ei (es.take i) (ks.take (i+1))++es[i]::ei (es.drop (i+1)) (ks.drop (i+1)):=by
 have hk:i<ks.length:=by omega
 have e3:ks.take (i+1)=ks.take i++[ks[i]]:=by rw[aO hk]
 have e4:=nz (es.take i) [] (ks.take i) [ks[i]] (by rw[ay,ay];omega);rw[bP] at e4;rw[e3,e4]
 conv=>lhs;rw[oW h1,oW hk]
 rw[nz _ _ _ _ (by rw[ay,ay];omega),ei]
 simp[ei]
theorem sZ:∀(es:List It) (ks:List (List It)),ks=[]\/ks.length=es.length+1->(ei es ks).length=es.length+(ks.map List.length).sum
 | [],[],_=>rfl
 | [],[k],_=>by simp[ei]
 | [],_::_::_,h=>by simp at h
 | e::es,[],_=>by rw[jY];simp
 | e::es,k::ks,h=>by
  have h:ks.length=es.length+1:=by simpa using h
  have:=sZ es ks (ae h);simp only[ei,aD,ak,this,aL,List.sum_cons];omega
def insB(e:It)(l:List It):List It:=l.take (Fr e.k l)++e::l.drop (Fr e.k l)
theorem BE{A K B:List It}(hA:∀d∈A,Fu d.k e.k<0)(hB:∀d∈B,¬Fu d.k e.k<0):insB e (A++(K++B))=A++(insB e K++B):=by
 have hb:Fr e.k (A++(K++B))=A.length+Fr e.k K:=by rw[lJ,lJ,lI hA,lK hB];rfl
 have hk:Fr e.k K<=K.length:=bY;unfold insB;rw[hb,List.take_append,List.drop_append,aZ (by omega),show A.drop (A.length+Fr e.k K)=[] from bU (by omega),cu,List.take_append,List.drop_append,
  Nat.sub_eq_zero_of_le hk,cC,cL,bP,aY]
 simp[List.append_assoc]
theorem insB_length(e:It)(l:List It):(insB e l).length=l.length+1:=by
 have:Fr e.k l<=l.length:=bY;unfold insB;rw[aD,ak,ay,aN];omega
theorem kg{e d:It}{l:List It}:d∈insB e l↔d=e\/d∈l:=by
 unfold insB
 conv=>rhs;rw[<-aQ (Fr e.k l) l]
 simp only[aj,ag]
 constructor
 ·rintro(h | h | h)
  ·exact ae (aa h)
  ·exact aa h
  ·exact ae (ae h)
 ·rintro(h | h | h)
  ·exact ae (aa h)
  ·exact aa h
  ·exact ae (ae h)
theorem uR{l:List It}(hs:l.Pairwise eU)(hn:∀d∈l,d.k≠e.k):(insB e l).Pairwise eU:=by
 obtain⟨b1,b2,b3⟩:=lL (key:=e.k) hs;unfold insB;have ad:∀d∈l.drop (Fr e.k l),eU e d:=fun d hd=>by
  have h1:=b2 d hd;have h2:=hn d (bq hd);unfold eU;rw[ie]
  rcases cN (Fu d.k e.k) 0 with g | g | g
  ·exact absurd g h1
  ·exact absurd (jL g) h2
  ·omega
 refine bA.2 ⟨hs.take,aT.2 ⟨ad,hs.drop⟩,fun a ha b hb=>?_⟩
 rcases ag.1 hb with rfl | hb
 ·exact b1 a ha
 ·exact BY (b1 a ha) (ad b hb)
theorem CZ{d:Nat}(ks:List (Bt d))(k:Nat)(y:Bt d):(ks.set k y).map its=(ks.map its).set k (its y):=dO ..
theorem ix.insert{es:List It}{ks:List (List It)}(h:ix e.k es ks):insB e (ei es ks)=Bt.lo (es.take (Fr e.k es)) (ks.take (Fr e.k es))++(insB e (ks.getD (Fr e.k es) [])++gJ es ks (Fr e.k es)):=by
 rw[h.parts,BE h.lo h.hi]
def gY(t:Nat){d:Nat}(x:Bt (d+1)):Prop:=(Bn.es x).length<=2*t/\((Bn.ks x).length=if d=0 then 0 else(Bn.es x).length+1)/\∀k∈Bn.ks x,Ok t k/\t<=nk k+1
def leafPut {d:Nat}(x:Bt (d+1))(e:It):Bt (d+1):=(⟨Bn.h x,(Bn.es x).take (Fr e.k (Bn.es x))++e::(Bn.es x).drop (Fr e.k (Bn.es x)),Bn.ks x⟩:Bn (Bt d))
def ju {d:Nat}(x:Bt (d+1))(k:Nat)(y:Bt d):Bt (d+1):=(⟨Bn.h x,Bn.es x,(Bn.ks x).set k y⟩:Bn (Bt d))
def ja {d:Nat}(x:Bt (d+1))(k:Nat)(y1:Bt d)(m:It)(y2:Bt d):Bt (d+1):=(⟨Bn.h x,(Bn.es x).take k++m::(Bn.es x).drop k,(Bn.ks x).take k++y1::y2::(Bn.ks x).drop (k+1)⟩:Bn (Bt d))
def leftOf(t:Nat){d:Nat}(x:Bt (d+1)):Bt (d+1):=(⟨Bn.h x,(Bn.es x).take t,(Bn.ks x).take (t+1)⟩:Bn (Bt d))
def rightOf(t:Nat){d:Nat}(x:Bt (d+1))(h:Nat):Bt (d+1):=(⟨h,(Bn.es x).drop (t+1),(Bn.ks x).drop (t+1)⟩:Bn (Bt d))
theorem Ch(x:Bt 1)(e:It):its (leafPut x e)=insB e (its x):=by
 rw[its_leaf,its_leaf];rfl
theorem lg{es:List It}(h:k<=es.length)(m:It):(es.take k++m::es.drop k).length=es.length+1:=by
 rw[aD,ak,ay,aN];omega
theorem vj{t:Nat}(ht:1<=t){x:Bt 1}(h:Ok t x)(e:It):gY t (leafPut x e):=by
 refine⟨?_,h.2.1,h.2.2⟩;have:=h.1
 show ((Bn.es x).take (Fr e.k (Bn.es x))++e::(Bn.es x).drop (Fr e.k (Bn.es x))).length<=2*t
 rw[lg (k:=Fr e.k (Bn.es x)) bY];omega
theorem BO{t d:Nat}{x:Bt (d+2)}(h:Ok t x)(k:Nat)(hk:k<=(Bn.es x).length)(y:Bt (d+1)):its (ju x k y)=lo ((Bn.es x).take k) (((Bn.ks x).map its).take k)++(its y++gJ (Bn.es x) ((Bn.ks x).map its) k):=by
 rw[el]
 show ei (Bn.es x) (((Bn.ks x).set k y).map its)=_
 rw[CZ,E6 hk h.rows]
theorem BQ{t d:Nat}{x:Bt (d+2)}(h:Ok t x)(k:Nat)(hk:k<=(Bn.es x).length)(y1:Bt (d+1))(m:It)(y2:Bt (d+1)):its (ja x k y1 m y2)=lo ((Bn.es x).take k) (((Bn.ks x).map its).take k)++(its y1++m::(its y2++gJ (Bn.es x) ((Bn.ks x).map its) k)):=by
 rw[el,<-E4 hk h.rows]
 show ei _ (((Bn.ks x).take k++y1::y2::(Bn.ks x).drop (k+1)).map its)=_
 rw[aJ,aL,aL,bS,co]
 rfl
theorem BP{t d:Nat}(ht:1<=t){x:Bt (d+2)}(h:Ok t x)(k:Nat){y:Bt (d+1)}(hy:Ok t y)(hn:t<=nk y+1):gY t (ju x k y):=by
 refine⟨?_,?_,fun z hz=>?_⟩
 ·have:=h.1
  show (Bn.es x).length<=2*t;omega
 ·show ((Bn.ks x).set k y).length=_;rw[bE];exact h.2.1
 ·rcases cG hz with hz | rfl
  ·exact h.2.2 z hz
  ·exact⟨hy,hn⟩
theorem BS{t d:Nat}(ht:1<=t){x:Bt (d+2)}(h:Ok t x)(k:Nat)(hk:k<=(Bn.es x).length){y1 y2:Bt (d+1)}(m:It)(h1:Ok t y1)(n1:t<=nk y1+1)(h2:Ok t y2)(n2:t<=nk y2+1):gY t (ja x k y1 m y2):=by
 have ad:=Ok.kids h;refine⟨?_,?_,fun z hz=>?_⟩
 ·have:=h.1
  show ((Bn.es x).take k++m::(Bn.es x).drop k).length<=2*t
  rw[lg hk];omega
 ·rw[if_neg (by omega)]
  show ((Bn.ks x).take k++y1::y2::(Bn.ks x).drop (k+1)).length=((Bn.es x).take k++m::(Bn.es x).drop k).length+1
  rw[lg hk,aD,ak,ak,ay,aN];omega
 ·rcases aj.1 (show z∈(Bn.ks x).take k++y1::y2::(Bn.ks x).drop (k+1) from hz) with hz | hz
  ·exact h.2.2 z (bC hz)
  ·rcases ag.1 hz with rfl | hz
   ·exact⟨h1,n1⟩
   ·rcases ag.1 hz with rfl | hz
    ·exact⟨h2,n2⟩
    ·exact h.2.2 z (bq hz)
theorem gY.ok{t d:Nat}{x:Bt (d+1)}(h:gY t x)(hl:(Bn.es x).length<2*t):Ok t x:=⟨by omega,h.2.1,h.2.2⟩
theorem gY.rows{t d:Nat}{x:Bt (d+1)}(h:gY t x):((Bn.ks x).map its=[]/\d=0)\/(((Bn.ks x).map its).length=(Bn.es x).length+1/\d≠0):=by
 by_cases hd:d=0
 ·subst hd;exact aa ⟨by rw[nil_of_zero (Bn.ks x)];rfl,rfl⟩
 ·have:=h.2.1;rw[if_neg hd] at this;exact ae ⟨by rw[ao];exact this,hd⟩
theorem gY.split{t d:Nat}(ht:1<=t){x:Bt (d+1)}(h:gY t x)(hl:(Bn.es x).length=2*t)(g:Nat):its x=its (leftOf t x)++(Bn.es x)[t]'(by omega)::its (rightOf t x g)/\Ok t (leftOf t x)/\Ok t (rightOf t x g)/\nk (leftOf t x)=t/\nk (rightOf t x g)+1=t:=by
 have hL:nk (leftOf t x)=t:=by show ((Bn.es x).take t).length=t;rw[ay];omega
 have hR:nk (rightOf t x g)+1=t:=by show ((Bn.es x).drop (t+1)).length+1=t;rw[aN];omega
 have hk:=h.2.1;refine⟨?_,⟨by have:((Bn.es x).take t).length=t:=hL;show ((Bn.es x).take t).length<=_;omega,?_,fun z hz=>h.2.2 z (bC hz)⟩,⟨by have:((Bn.es x).drop (t+1)).length+1=t:=hR;show ((Bn.es x).drop (t+1)).length<=_;omega,?_,fun z hz=>h.2.2 z (bq hz)⟩,hL,hR⟩
 ·rw[el,el,el]
  show _=ei ((Bn.es x).take t) (((Bn.ks x).take (t+1)).map its)++_::ei ((Bn.es x).drop (t+1)) (((Bn.ks x).drop (t+1)).map its)
  rw[bS,co]
  rcases h.rows with⟨h0,_⟩ | ⟨h0,_⟩
  ·rw[h0,List.take_nil,List.drop_nil,jY,jY,jY];exact oW (by omega)
  ·exact E5 (by omega) h0
 ·show ((Bn.ks x).take (t+1)).length=if d=0 then 0 else((Bn.es x).take t).length+1
  rw[ay,ay,hk]
  split<;>omega
 ·show ((Bn.ks x).drop (t+1)).length=if d=0 then 0 else((Bn.es x).drop (t+1)).length+1
  rw[aN,aN,hk]
  split<;>omega
theorem qYdaa{P:Prop}(h:P:=by
 rcases h.rows with⟨h0,_⟩ | ⟨h0,_⟩
 ·exact aa h0
 ·exact ae h0):P:=h
theorem its_length{t d:Nat}{x:Bt (d+1)}(h:gY t x):(its x).length=(Bn.es x).length+((Bn.ks x).map fun k=>(its k).length).sum:=by
 rw[el,sZ]
 ·rw[cI]
  rfl
 ·exact qYdaa
theorem Ok.okN{t d:Nat}{x:Bt (d+1)}(h:Ok t x):gY t x:=⟨by have:=h.1;omega,h.2.1,h.2.2⟩
end Bt
structure jg (S:St) (t h:Nat) (n:BN):Prop where
 ok:iU t n
 lt:h<2^64
 len:S.len h=(6*t,0)
 get:∀k,k<6*t->S.get h k=(wAt t n n.keys.length n.kids.length k,0)
 words:∀v∈bnWords t n,v<2^64
theorem zC {S:St}{o:Nat->Nat}(hf:Fw S o){t h:Nat}{n:BN}(hl:reco S h=some (bnWords t n))(hn:iU t n):jg S t h n:=by
 have h1:=jw hf.tab hl;have h2:=fL hf hl;rw[jJ] at h1;refine⟨hn,h2.2.1,h1,fun k hk=>?_,h2.2.2.2⟩;rw[ru hf hl (by rw[jJ];exact hk)];unfold bnWords;rw[am,bi,bH hk];rfl
structure iT (n:BN):Prop where
 keys:∀v∈n.keys,v<2^64
 vals:∀v∈n.vals,v<2^64
 kids:∀v∈n.kids,v<2^64
 size:n.size<2^64
theorem qK {l:List Nat}(h:∀v∈l,v<2^64)(k:Nat):l.getD k 0<2^64:=by
 rw[am]
 by_cases hk:k<l.length
 ·rw[af hk];exact h _ (aF hk)
 ·rw[aH (by omega)];decide
theorem kX {t:Nat}{n:BN}(h:iT n)(hk:n.keys.length<2^64):∀v∈bnWords t n,v<2^64:=by
 intro v hv;unfold bnWords at hv;obtain⟨j,_,rfl⟩:=aA.1 hv;have h1:=qK h.keys ((j-2) / 2);have h2:=qK h.vals ((j-2) / 2);have h3:=qK h.kids (j-4*t);have h4:=h.size;unfold wAt;repeat (first | split | omega)
namespace Bt
variable{S:St}{d:Nat}{e:It}{o:Nat->Nat}{t:Nat}
def bn {d:Nat}(x:Bt (d+1)):BN:=⟨(Bn.es x).map (·.kh),(Bn.es x).map (·.vh),(Bn.ks x).map hd,(its x).length⟩
def At(S:St)(t:Nat): {d:Nat} ->Bt d->Prop
 | 0,x=>nomatch x
 | _+1,x=>reco S (Bn.h x)=some (bnWords t (bn x))/\∀k∈Bn.ks x,At S t k
theorem At.hd_ok(hf:Fw S o):∀{d:Nat} {x:Bt d},At S t x->hd x≠0/\hd x<2^64
 | 0,x,_=>nomatch x
 | d+1,x,h=>by
  have:=fL hf h.1;refine⟨fun e=>?_,this.2.1⟩;have e:Bn.h x=0:=e;have:=this.1;omega
theorem At.bnok(hf:Fw S o)(t1:2<=t)(t2:t<=16){x:Bt (d+1)}(h:At S t x)(ok:Ok t x):iU t (bn x):=by
 refine⟨t1,t2,by unfold bn;rw[ao];exact ok.1,by unfold bn;rw[ao,ao],?_⟩;have hk:=ok.2.1;unfold bn;simp only[ao]
 by_cases hd0:d=0
 ·rw[if_pos hd0] at hk;exact aa hk
 ·rw[if_neg hd0] at hk;refine ae ⟨hk,?_⟩;rw[dL];intro hc;obtain⟨k,ad,e⟩:=aA.1 (cW.1 hc);exact(At.hd_ok hf (h.2 k ad)).1 e
theorem At.read(hf:Fw S o)(t1:2<=t)(t2:t<=16){x:Bt (d+1)}(h:At S t x)(ok:Ok t x):jg S t (hd x) (bn x):=zC hf h.1 (h.bnok hf t1 t2 ok)
theorem At.frame {S S':St}{t:Nat}:∀{d:Nat} {x:Bt d},At S t x->(∀h∈nodes x,reco S' h=reco S h)->At S' t x
 | 0,x,_,_=>nomatch x
 | d+1,x,h,hf=>by
  refine⟨(hf _ (aq ..)).trans h.1,fun k hk=>(h.2 k hk).frame fun y hy=>hf y (ah _ ?_)⟩;exact cH.2 ⟨_,aA.2 ⟨k,hk,rfl⟩,hy⟩
theorem mem_nodes_kid{x:Bt (d+1)}{k:Bt d}(hk:k∈Bn.ks x){y:Nat}(hy:y∈nodes k):y∈nodes x:=ah _ (cH.2 ⟨_,aA.2 ⟨k,hk,rfl⟩,hy⟩)
theorem hd_mem:∀{d:Nat} (x:Bt d),hd x∈nodes x
 | 0,x=>nomatch x
 | _+1,_=>aq ..
theorem At.rec {S:St}{t:Nat}:∀{d:Nat} {x:Bt d},At S t x->∀h∈nodes x,∃n,reco S h=some (bnWords t n)
 | 0,x,_,_,_=>nomatch x
 | d+1,x,h,y,hy=>by
  rcases ag.1 hy with rfl | hy
  ·exact⟨_,h.1⟩
  ·obtain⟨l,hl,hy⟩:=cH.1 hy;obtain⟨k,hk,rfl⟩:=aA.1 hl;exact(h.2 k hk).rec y hy
theorem bnLt_of(hf:Fw S o){t d:Nat}{x:Bt (d+1)}(hb:∀e∈Bn.es x,e.kh<2^64/\e.vh<2^64)(hk:∀k∈Bn.ks x,At S t k)(hl:(its x).length<2^64):iT (bn x):=by
 refine⟨fun v hv=>?_,fun v hv=>?_,fun v hv=>?_,hl⟩
 ·obtain⟨e,he,rfl⟩:=aA.1 hv;exact(hb e he).1
 ·obtain⟨e,he,rfl⟩:=aA.1 hv;exact(hb e he).2
 ·obtain⟨k,ad,rfl⟩:=aA.1 hv;exact(At.hd_ok hf (hk k ad)).2
theorem blobs_lt(hf:Fw S o)(h:gu S e):e.kh<2^64/\e.vh<2^64:=⟨(fL hf h.k).2.1,(fL hf h.v).2.1⟩
theorem lN{x:Bt (d+1)}(h:gY t x)(he:e∈Bn.es x):e∈its x:=by
 rw[el];refine(JD _ _ ?_).subset he;exact qYdaa
theorem vM:∀(es:List It) (ks:List (List It)),(ks=[]\/ks.length=es.length+1)->∀k∈ks,∀e∈k,e∈ei es ks
 | _,[],_,k,hk,_,_=>by cases hk
 | [],[a],_,k,hk,e,he=>by
  rcases ag.1 hk with rfl | hk
  ·exact he
  ·cases hk
 | [],_::_::_,h,_,_,_,_=>by simp at h
 | f::es,a::ks,h,k,hk,e,he=>by
  rw[ei];rcases ag.1 hk with rfl | hk
  ·exact ax _ he
  ·exact aw _ (ah _ (vM es ks (ae (by simpa using h)) k hk e he))
theorem kid_its{x:Bt (d+1)}(h:gY t x){k:Bt d}(hk:k∈Bn.ks x)(he:e∈its k):e∈its x:=by
 rw[el];refine vM _ _ ?_ (its k) (aA.2 ⟨k,hk,rfl⟩) e he;exact qYdaa
def fullB(t:Nat)(key:List UInt8): {d:Nat} ->Bt d->List Bool
 | 0,x=>nomatch x
 | _+1,x=>decide ((Bn.es x).length=2*t-1)::(match (Bn.ks x)[Fr key (Bn.es x)]? with | none=>[] | some k=>fullB t key k)
def trail:List Bool->Nat
 | []=>0
 | b::r=>if r.all id=true then(if b=true then r.length+1 else r.length) else trail r
def needB:Nat->Bool->List Bool->Nat
 | full,all,[]=>full+if all=true then 1 else 0
 | full,all,b::r=>if b=true then needB (full+1) all r else needB 0 false r
theorem trail_all:∀{r:List Bool},r.all id=true->trail r=r.length
 | [],_=>rfl
 | b::r,h=>by
  simp only[List.all_cons,aI,id] at h;unfold trail;rw[if_pos h.2,if_pos h.1];rfl
theorem rK:∀(p:List Bool) (full:Nat) (all:Bool),needB full all p=if p.all id=true then full+p.length+(if all=true then 1 else 0) else trail p
 | [],full,all=>by unfold needB;simp
 | b::r,full,all=>by
  unfold needB trail;cases b with
  | true=>
   rw[if_pos rfl,rK r];simp only[List.all_cons,id,Bool.true_and,ak];by_cases h:r.all id=true
   ·rw[if_pos h,if_pos h];omega
   ·rw[if_neg h,if_neg h,if_neg h]
  | false=>
   rw[if_neg (by simp),rK r];simp only[List.all_cons,id,Bool.false_and];by_cases h:r.all id=true
   ·rw[if_pos h,if_neg (by simp),if_pos h,if_neg (by simp)];simp
   ·rw[if_neg h,if_neg (by simp),if_neg h]
theorem need_zero(p:List Bool):needB 0 true p=trail p+if p.all id=true then 1 else 0:=by
 rw[rK]
 by_cases h:p.all id=true
 ·rw[if_pos h,if_pos h,trail_all h]
  simp
 ·rw[if_neg h,if_neg h]
  rfl
end Bt
end
section
open Go.RowKit Tryz Go.BigFrame Go.Maps Go.WideMaps Lf Tr
variable{S:St}{Y:Nat->Prop}{k:List UInt8}{n:BN}{ps:Nat}{w:World}
def FH(ps t:Nat):Value:=.agg #[PV ps,Xi t]
theorem zK(h:Ig w ps S Y)(hi:Fv S)(t hh:Nat)(hl:hh<2^64)(hg:fz S hh=(k,0)):
 Cb 174 #[FH ps t,Xu hh] w (SV k):=by
 have ad:Below w.heap.size w (w.alloc (Xc ps t)):=(ab _ w).alloc Ih _;have ai:=hg;have hg:=iz (h.below ad) hi hh hl (by rw[hg];show (0:Nat)≠8;decide);rw[ai] at hg;unfold FH;have HG:=kq2 hg ad;clear hg ad h hi ai;go_enter func174,ntmps174;go_wp2_with fail;refine wx HG.a fun w1 hb=>?_;have HB:=If (HG.b.trans (hb.mono HG.b.size));clear hb;go_wp2_with fail;go_ret;exact⟨rfl,HB.out⟩
theorem zP(h:Ig w ps S Y)(hi:Fv S)(t hh:Nat)(hl:hh<2^64)(hg:fz S hh=(k,0))(key:List UInt8){b:Nat}(hb:w.heap[b]?=some (.cells #[PV ps,Xi t] 145 (0,0))):
 Cb 237 #[Xu hh,SV key,PV b] w (Xi (Fu k key)):=by
 have hk:=zK h hi t hh hl hg;unfold FH at hk;obtain⟨c0,c1⟩:=Fp hb;have HG:=If hk;have HC:=fun W=>If (sT k key W);clear hk h hi hg hb;go_enter func237,ntmps237;go_wp2_with fail;refine wx HG.out fun w1 hb=>?_;have HB:=If hb;clear hb;go_wp2_with fail;refine Jc (HC _).out ?_;go_wp2_with fail;go_ret;exact⟨rfl,HB.out⟩
def fo(key:List UInt8)(es:List It):Bool:=match es[Fr key es]? with | some e=>decide (e.k=key) | none=>false
theorem yY{key:List UInt8}{es:List It}{k:Nat}(h1:∀(j:Nat) (h:j<es.length),j<k->Fu es[j].k key<0)(h2:∀(j:Nat) (h:j<es.length),k<=j->0<=Fu es[j].k key)(hk:k<=es.length):Fr key es=k:=by
 conv=>lhs;rw[<-aQ k es]
 rw[lJ,lI,lK,ay]
 ·omega
 ·intro d hd;obtain⟨j,hj,rfl⟩:=bT.1 hd;rw[dN];have:=h2 (k+j) (by rw[aN] at hj;omega) (by omega);omega
 ·intro d hd;obtain⟨j,hj,rfl⟩:=bT.1 hd;rw[dw];rw[ay] at hj;exact h1 _ _ (by omega)
theorem G3{v:Value}{es:List It}(h:FD w v (es.map (·.kh)))(hl:es.length<=100000)(hs:es.Pairwise eU)(key:List UInt8){f b:Nat}(hen:∀(args:Array Value) (w:World),(callFunc f args).run prog w=.ok (.enter f args) w)
 (hcall:∀W,Below w.heap.size w W->∀(j:Nat) (hj:j<es.length),Ct f #[Xu (es[j].kh:Nat),SV key,PV b] W fun e w'=>e=.returned (Xi (Fu es[j].k key))/\Below W.heap.size W w'):
 Cb 236 #[v,SV key,.func (.func f) #[] #[PV b]] w (.tuple #[Xi (Fr key es:Nat),.bool (fo key es)]):=by
 obtain⟨A,c,rfl,hc⟩:=h;have hc:∀(i:Nat) (h:i<es.length),∃g o,A=some ⟨g,o,none⟩/\w.cell? ⟨g,o+i,none⟩=some (Xu (es[i].kh:Nat)):=fun i h=>by
  obtain⟨g,o,e1,e2⟩:=hc i (by simpa using h);rw[bz] at e2;exact⟨g,o,e1,e2⟩
 rw[ao];obtain⟨n,hn⟩:=Ii es.length;have a1:∀(i j:Nat) (hi:i<es.length) (hj:j<es.length),i<=j->Fu es[j].k key<0->Fu es[i].k key<0:=fun i j hi hj hij hlt=>by
  rcases bW i j with h | h
  ·exact ig (bJ.1 hs i j hi hj h) hlt
  ·obtain rfl:i=j:=by omega
   exact hlt
 rw[hn] at hl⊢;have H:=kq4 hc hcall a1 hn;clear hc hcall a1 hs;go_enter func236,ntmps236;go_wp2_with fail;go_loopw [9,10] (fun s9 s10 wr=>∃lo hi:Nat,lo<=hi/\hi<=n/\s9=Xi lo/\s10=Xi hi/\Hid (Below w.heap.size w wr/\(∀(j:Nat) (h:j<es.length),j<lo->Fu es[j].k key<0)/\(∀(j:Nat) (h:j<es.length),hi<=j->0<=Fu es[j].k key))) (fun s9 s10 _=>(intOf s10).toNat-(intOf s9).toNat)
 case atStart=>exact⟨0,n,by omega,by omega,rfl,rfl,ab _ _,fun _ _ h=>absurd h (by omega),fun j h1 h2=>absurd h1 (by omega)⟩
 case round=>
  obtain⟨lo,hi,a5,a0,rfl,rfl,I⟩:=hrel;by_cases hlt:lo<hi
  ·obtain⟨m,hm⟩:=Ii ((lo+hi) / 2);have ar:m<es.length:=by omega
   have a4:(lo:Int)<hi:=by omega
   have q1:IntKind.i64.wrap ((lo:Int)+hi)=(lo:Int)+hi:=aB _ (by omega);obtain⟨g,o,rfl,c1⟩:=H.a m ar;have c2:=(I.out.1.cell (p:=⟨g,o+m,none⟩) (fK c1)).trans c1;have al:=H.b wr I.out.1 m ar;have a6:((lo:Int)+hi) / 2=(m:Nat):=by omega
   have a7:(m:Int)<n:=by omega
   have HK:=kq2 al hm;obtain⟨e,he⟩:=Ii es[m];have HE:=If he;rw[he] at c2 HK;clear al he c1 hm;by_cases hcp:Fu e.k key<0
   ·go_wp2_with fail;refine wx HK.a fun w' hb=>?_;have ai:Below w.heap.size w w'/\(∀(j:Nat) (h:j<es.length),j<m+1->Fu es[j].k key<0)/\(∀(j:Nat) (h:j<es.length),hi<=j->0<=Fu es[j].k key):=
     ⟨I.out.1.trans (hb.mono I.out.1.size),fun j h1 h2=>H.c j m h1 ar (by omega) (by rw[HE.out];exact hcp),I.out.2.2⟩
    have HI:=If ai;clear ai hb;go_wp2_with fail;go_roundw
    case rel=>exact⟨m+1,hi,by have:=HK.b;omega,a0,by simp,rfl,HI⟩
    case measure=>have:=HK.b;simp[intOf];omega
   ·go_wp2_with fail;refine wx HK.a fun w' hb=>?_;have ai:Below w.heap.size w w'/\(∀(j:Nat) (h:j<es.length),j<lo->Fu es[j].k key<0)/\(∀(j:Nat) (h:j<es.length),m<=j->0<=Fu es[j].k key):=
     ⟨I.out.1.trans (hb.mono I.out.1.size),I.out.2.1,fun j h1 h2=>Int.not_lt.1 fun hx=>by have:=H.c m j ar h1 h2 hx;rw[HE.out] at this;omega⟩
    have HI:=If ai;clear ai hb;go_wp2_with fail;go_roundw
    case rel=>exact⟨lo,m,by have:=HK.b;omega,by omega,rfl,rfl,HI⟩
    case measure=>have:=HK.b;simp[intOf];omega
  ·obtain rfl:lo=hi:=by omega
   have a4:¬(lo:Int)<lo:=by omega
   have ad:=yY I.out.2.1 I.out.2.2 (by rw[H.d];exact a0);by_cases hln:lo<n
   ·have au:lo<es.length:=by omega
    have a3:(lo:Int)<n:=by omega
    obtain⟨g,o,rfl,c1⟩:=H.a lo au;have c2:=(I.out.1.cell (p:=⟨g,o+lo,none⟩) (fK c1)).trans c1;have al:=H.b wr I.out.1 lo au;have an:fo key es=decide (Fu es[lo].k key=0):=by
     unfold fo;rw[ad,af au];exact decide_eq_decide.2 ⟨fun e=>by rw[e,fX],jL⟩
    have HK:=kq3 al ad an;obtain⟨e,he⟩:=Ii es[lo];rw[he] at c2 HK;clear al he c1 ad an;generalize a2:Fu e.k key=q at*;clear a2;by_cases hq0:q=0
    ·subst hq0;go_wp2_with fail;refine HK.a.mono ?_;rintro e' w' ⟨rfl,hb⟩;have HI:=If (I.out.1.trans (hb.mono I.out.1.size));clear hb;go_wp2_with fail;go_ret2;exact⟨by rw[HK.b,HK.c];rfl,HI.out⟩
    ·have a8:(q==0)=false:=by simp;exact hq0
     go_wp2_with fail;refine HK.a.mono ?_;rintro e' w' ⟨rfl,hb⟩;have HI:=If (I.out.1.trans (hb.mono I.out.1.size));clear hb;go_wp2_with fail;go_ret2;exact⟨by rw[HK.b,HK.c,decide_eq_false hq0];rfl,HI.out⟩
   ·have a3:¬(lo:Int)<n:=by omega
    have an:fo key es=false:=by
     unfold fo;rw[ad,aH (by omega)]
    have HK:=kq2 ad an;clear ad an;go_wp2_with fail;go_ret2;exact⟨by rw[HK.a,HK.b];rfl,I.out.1⟩
structure pc (S:St) (es:List It):Prop where
 lt:∀e∈es,e.kh<2^64
 get:∀e∈es,fz S e.kh=(e.k,0)
theorem nR(h:Ig w ps S Y)(hi:Fv S)(t:Nat){es:List It}{vk vv vc:Value}{sz:Nat}(hk:FD w vk (es.map (·.kh)))(hl:es.length<=100000)(hs:es.Pairwise eU)(he:pc S es)(key:List UInt8):
 Cb 211 #[FH ps t,eC vk vv vc sz,SV key] w (.tuple #[Xi (Fr key es:Nat),.bool (fo key es)]):=by
 have B0:=((ab w.heap.size w).alloc Ih (Xc ps t)).alloc (by simp) (.cells #[vk,vv,vc,Xu sz] 215);have z1:(w.alloc (Xc ps t)).heap.size=w.heap.size+1:=by simp
 have q1:=heap_alloc_new w (Xc ps t);have q2:=heap_alloc_new (w.alloc (Xc ps t)) (.cells #[vk,vv,vc,Xu sz] 215);have q3:=(((ab (w.alloc (Xc ps t)).heap.size (w.alloc (Xc ps t))).alloc Ih (.cells #[vk,vv,vc,Xu sz] 215)).block w.heap.size (by simp)).trans q1;rw[z1] at q2;have ad:∀(args:Array Value) (w:World),(callFunc 237 args).run prog w=.ok (.enter 237 args) w:=fun args w=>by go_simp
 generalize hW:(w.alloc (Xc ps t)).alloc (.cells #[vk,vv,vc,Xu sz] 215)=W0 at*;have ai:=G3 (hk.below B0) hl hs key (f:=237) (b:=w.heap.size) ad fun W hW j hj=>zP (h.below (B0.trans (hW.mono B0.size))) hi t _ (he.lt _ (aF hj)) (he.get _ (aF hj)) key ((hW.block w.heap.size (gl q3)).trans q3);obtain⟨c0,c1,c2,c3⟩:=Fy q2;unfold FH eC;have HG:=kq3 ai B0 hW;clear ai B0 h hi hk he q1 q2 q3 ad hs;go_enter func211,ntmps211;have hW:=HG.c;go_wp2_with fail;refine wx HG.a fun w1 hb=>?_;have HB:=If (HG.b.trans (hb.mono HG.b.size));clear hb;go_wp2_with fail;go_ret2;exact⟨rfl,HB.out⟩
theorem kI(h:Ig w ps S Y)(hi:Fv S){t hh:Nat}(hb:jg S t hh n):
 Ct 126 #[FH ps t,Xu hh] w fun e w'=>∃vk vv vc,e=.returned (.tuple #[eC vk vv vc n.size,.bool true])/\fN w' w.heap.size vk vv vc n.keys n.vals n.kids/\Below w.heap.size w w':=by
 have B0:=((ab w.heap.size w).alloc Ih (Xc ps t)).alloc (by simp) (.cells #[.slice none 0 0,.slice none 0 0,.slice none 0 0,Xu 0] 215);have z1:(w.alloc (Xc ps t)).heap.size=w.heap.size+1:=by simp
 have q1:=heap_alloc_new w (Xc ps t);have q2:=heap_alloc_new (w.alloc (Xc ps t)) (.cells #[.slice none 0 0,.slice none 0 0,.slice none 0 0,Xu 0] 215);have q3:=(((ab (w.alloc (Xc ps t)).heap.size (w.alloc (Xc ps t))).alloc Ih (.cells #[.slice none 0 0,.slice none 0 0,.slice none 0 0,Xu 0] 215)).block w.heap.size (by simp)).trans q1;rw[z1] at q2;generalize hW:(w.alloc (Xc ps t)).alloc (.cells #[.slice none 0 0,.slice none 0 0,.slice none 0 0,Xu 0] 215)=W0 at*;obtain⟨sz,ar⟩:=Ii n.size;have hg:=zE (h.below B0) hi hb.ok hh hb.lt hb.len hb.get hb.words;unfold eC at hg;rw[ar] at hg;obtain⟨c0,c1⟩:=Fp q3;have hz:w.heap.size+2<=W0.heap.size:=by rw[<-hW];simp
 unfold FH;have HG:=kq5 hg B0 q2 hW hz;clear hg B0 h hi hb q1 q2 q3 z1 hz;go_enter func126,ntmps126;go_wp2_with fail;refine HG.a.mono ?_;rintro e w1 ⟨vk,vv,vc,rfl,rows,hb⟩;obtain⟨Ak,ck,rfl⟩:=rows.k.slice2;obtain⟨Av,cv,rfl⟩:=rows.v.slice2;obtain⟨Ac,cc,rfl⟩:=rows.c.slice2;obtain⟨ks,ai⟩:∃l,n.keys=l:=⟨_,rfl⟩;obtain⟨vs,al⟩:∃l,n.vals=l:=⟨_,rfl⟩;obtain⟨cs,ad⟩:∃l,n.kids=l:=⟨_,rfl⟩;rw[ai,al,ad] at rows⊢;rw[ai,al,ad] at HG;generalize a2:ks.length=lk at rows⊢;generalize a3:vs.length=lv at rows⊢;generalize a1:cs.length=lc at rows⊢;have A1:=(ab w1.heap.size w1).alloc Ih (.cells #[(.slice Ak lk ck),(.slice Av lv cv),(.slice Ac lc cc),Xu sz] 215);have p1:=heap_alloc_new w1 (.cells #[(.slice Ak lk ck),(.slice Av lv cv),(.slice Ac lc cc),Xu sz] 215);have r2:=(A1.block (w.heap.size+1) (by have:=hb.size;have:=HG.e;omega)).trans ((hb.block (w.heap.size+1) (by have:=HG.e;omega)).trans HG.c);have an:w.heap.size+1≠w1.heap.size:=by have:=hb.size;have:=HG.e;omega
 have BA:=HG.b.trans ((hb.trans (A1.mono hb.size)).mono HG.b.size);have au:=rows.lift (W':=w1.alloc (.cells #[(.slice Ak lk ck),(.slice Av lv cv),(.slice Ac lc cc),Xu sz] 215)) (D':=W0.heap.size) Ih fun g _ hg=>A1.block g hg;have r1:=(hb.block (w.heap.size+1) (by have:=HG.e;omega)).trans HG.c;have HB:=kq6 au BA r2 p1 r1 an;clear rows hb A1 p1 r2 BA au an r1;obtain⟨W1,a0⟩:=Ii (w1.alloc (.cells #[(.slice Ak lk ck),(.slice Av lv cv),(.slice Ac lc cc),Xu sz] 215));rw[a0] at HB;have r2:=HB.c;have p1:=HB.d;obtain⟨x0,x1,x2,x3⟩:=Fy p1;obtain⟨y0,y1,y2,y3⟩:=Fy r2;obtain⟨f0,f1,f2,f3⟩:=fO r2;clear r2 p1;go_wp2_with fail;have e5:=oZ (u0:=(.slice Ak lk ck)) (u1:=(.slice Av lv cv)) (u2:=(.slice Ac lc cc)) (u3:=Xu sz) HB.c;have B5:=oY (u0:=(.slice Ak lk ck)) (u1:=(.slice Av lv cv)) (u2:=(.slice Ac lc cc)) (u3:=Xu sz) (b:=w.heap.size+1) HB.b (by omega);have R5:=HB.a.lift (W':=((((W1.setCell ⟨w.heap.size+1,0,none⟩ ((.slice Ak lk ck))).setCell ⟨w.heap.size+1,1,none⟩ ((.slice Av lv cv))).setCell ⟨w.heap.size+1,2,none⟩ ((.slice Ac lc cc))).setCell ⟨w.heap.size+1,3,none⟩ (Xu sz))) (D':=w.heap.size) (by have:=HG.e;omega) fun g hg _=>sy (by have:=HG.e;omega);generalize ((((W1.setCell ⟨w.heap.size+1,0,none⟩ ((.slice Ak lk ck))).setCell ⟨w.heap.size+1,1,none⟩ ((.slice Av lv cv))).setCell ⟨w.heap.size+1,2,none⟩ ((.slice Ac lc cc))).setCell ⟨w.heap.size+1,3,none⟩ (Xu sz))=W9 at*;obtain⟨e0,e1,e2,e3⟩:=Fy e5;exact bodyPost_ret (v:=.tuple #[.agg #[(.slice Ak lk ck),(.slice Av lv cv),(.slice Ac lc cc),Xu sz],.bool true]) (by simp[results,f126,go_sem,e0,e1,e2,e3]) rfl ⟨.slice Ak lk ck,.slice Av lv cv,.slice Ac lc cc,by rw[ar];rfl,by rw[ai,al,ad];exact R5,B5⟩
theorem nS(h:Ig w ps S Y)(hi:Fv S){t hh:Nat}(hb:jg S t hh n)(hz:n.size<2^62):
 Cb 175 #[FH ps t,Xu hh] w (Xi n.size):=by
 have B0:=(ab w.heap.size w).alloc Ih (Xc ps t);have hg:=kI (h.below B0) hi hb;obtain⟨sz,ad⟩:=Ii n.size;unfold FH eC at hg;unfold FH;rw[ad] at hz hg⊢;have hw:IntKind.i64.wrap (sz:Int)=(sz:Int):=aB _ (by omega);have HG:=kq2 hg B0;clear hg B0 h hi hb;go_enter func175,ntmps175;go_wp2_with fail;refine HG.a.mono ?_;rintro e w1 ⟨vk,vv,vc,rfl,rows,hb⟩;obtain⟨Ak,ck,rfl⟩:=rows.k.slice2;obtain⟨Av,cv,rfl⟩:=rows.v.slice2;obtain⟨Ac,cc,rfl⟩:=rows.c.slice2;generalize n.keys.length=lk at*;generalize n.vals.length=lv at*;generalize n.kids.length=lc at*;clear rows;have HB:=If ((HG.b.trans (hb.mono HG.b.size)).alloc (aK HG.b.size hb.size) (.cells #[.slice Ak lk ck,.slice Av lv cv,.slice Ac lc cc,Xu sz] 215));clear hb;go_wp2_with fail;go_ret;exact⟨rfl,HB.out⟩