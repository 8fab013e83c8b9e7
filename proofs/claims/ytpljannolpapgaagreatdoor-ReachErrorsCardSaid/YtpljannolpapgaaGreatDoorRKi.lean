/- Nodes: asked, fields, Get, Put, Make, Drop: the walks. -/
import Derived.Test.YtpljannolpapgaaGreatDoorRJe
import Derived.Test.YtpljannolpapgaaGreatDoorRXq
import Derived.Laws.EntriesVeiled
set_option maxRecDepth 100000
set_option maxHeartbeats 6400000
namespace Go.Proofs.YtpljannolpapgaaGreatDoor
section
open Go.RowKit Tryz Go.BigFrame Go.Maps Go.WideMaps Lf
variable{S:St}{Y:Nat->Prop}{ps:Nat}{w:World}
def eS(n:Nd):Value:=.agg #[Xu n.key,Xu n.val,Xu n.left,Xu n.right,Xu n.mark,Xu n.size]
structure ji (n:Nd):Prop where
 key:n.key<2^64
 val:n.val<2^64
 left:n.left<2^64
 right:n.right<2^64
 mark:n.mark<2^64
 size:n.size<2^64
theorem qKiab{P:Prop}(h:P:=by
 go_enter func122,ntmps122;go_wp2_with fail;refine Jc HG.a ?_;go_wp2_with fail;go_ret;obtain rfl:=HG.b;exact⟨rfl,rfl⟩):P:=h
theorem oG(h:Ig w ps S Y)(hi:Fv S)(hh:Nat)(hl:hh<2^64):
 Ct 122 #[PV ps,Xu hh] w fun e w'=>e=.returned (Xi (fZ S hh:Nat))/\w=w':=by
 have ai:=fB h hi hh hl;obtain⟨R,hR⟩:=Ii (fZ S hh);rw[hR];unfold fZ at hR;obtain⟨⟨n,er⟩,hn⟩:∃r,S.len hh=r:=⟨_,rfl⟩;rw[hn] at ai hR;simp only at ai
 cases er with
 | succ er=>
  have ad:R=er+1:=by rw[<-hR];rfl
  have ap:(((er+1:Nat):Int)==0)=false:=m_
  obtain⟨g1,an⟩:=Ii (er+1);rw[an] at ai ad ap;have HG:=kq2 ai ad;clear ai hR ad an h hi hn;exact qKiab
 | zero=>
  by_cases h6:n=6
  ·have ad:R=0:=by rw[<-hR,h6];rfl
   subst h6;have HG:=kq2 ai ad;clear ai hR ad h hi hn;exact qKiab
  ·have ad:R=8:=by rw[<-hR];show (if n≠6 then 8 else 0)=8;rw[if_pos h6]
   have ap:((n:Int) !=6)=true:=m_
   have HG:=kq2 ai ad;clear ai hR ad h hi hn h6;exact qKiab
theorem Dj(n:Nd)(w:World):
 Cb 216 #[eS n] w (eS n):=by
 obtain⟨k,v,l,r,m,s⟩:=n;unfold eS;simp only;have hb:∀o o',D_ w ((w.alloc o).alloc o'):=fun o o'=>((aa _ w).alloc Ih o).alloc s_ o';have HB:=If hb;clear hb;go_enter func216,ntmps216;go_wp2_with fail;refine bodyPost_ret (v:=.agg #[Xu k,Xu v,Xu l,Xu r,Xu m,Xu s]) (by simp[results,f216,go_sem]) rfl ⟨rfl,HB.O _ _⟩
def JK(S:St)(hh k:Nat):List Value:=(List.range 6).map fun i=>Xu (if i<k then((S.get hh i).1:Nat) else(0:Nat))
theorem iO(h:Ig w ps S Y)(hi:Fv S)(hh:Nat)(hl:hh<2^64):
 Cb 76 #[PV ps,Xu hh] w (.tuple #[eS (f_ S hh).1,Xi ((f_ S hh).2:Nat)]):=by
 have ai:D_ w (w.alloc (.cells #[Xu 0,Xu 0,Xu 0,Xu 0,Xu 0,Xu 0] 139)):=(aa _ w).alloc Ih _;have has:=oG (h.a_ ai) hi hh hl;have ap:=fun W (hW:D_ w W) (k:Nat) (hk:k<=6)=>sG (h.a_ hW) hi hh k hl o_;obtain⟨R,hR⟩:=Ii (f_ S hh);rw[hR];unfold f_ at hR;obtain⟨a,ha⟩:=Ii (fZ S hh);rw[ha] at has hR
 cases a with
 | succ a=>
  have ad:R=(Nd.zero,a+1):=by rw[<-hR];rfl
  have a7:(((a+1:Nat):Int) !=0)=true:=m_
  obtain⟨g1,au⟩:=Ii (a+1);rw[au] at has ad a7;have HG:=kq3 has ad ai;clear has hR ad au h hi ha ap ai;go_enter func76,ntmps76;go_wp2_with fail;refine Jc HG.a ?_;go_wp2_with fail;obtain rfl:=HG.b;refine bodyPost_ret (v:=.tuple #[eS Nd.zero,Xi g1]) (by simp[results,f76,go_sem,eS,Nd.zero]) rfl ⟨rfl,(aa _ w).alloc Ih _⟩
 | zero=>
  have ad:R=(⟨(S.get hh 0).1,(S.get hh 1).1,(S.get hh 2).1,(S.get hh 3).1,(S.get hh 4).1,(S.get hh 5).1⟩,0):=by rw[<-hR];rfl
  have HG:=kq4 has ad ai ap;clear has hR ad h hi ha ap ai;go_enter func76,ntmps76;go_wp2_with fail;refine Jc HG.a ?_;go_wp2_with fail;have hA:∀k,JK S hh k=[Xu (if 0<k then((S.get hh 0).1:Nat) else(0:Nat)),Xu (if 1<k then((S.get hh 1).1:Nat) else(0:Nat)),Xu (if 2<k then((S.get hh 2).1:Nat) else(0:Nat)),Xu (if 3<k then((S.get hh 3).1:Nat) else(0:Nat)),Xu (if 4<k then((S.get hh 4).1:Nat) else(0:Nat)),Xu (if 5<k then((S.get hh 5).1:Nat) else(0:Nat))]:=fun k=>rfl;have a6:∀k,k<6->(JK S hh k).toArray.setIfInBounds k (Xu ((S.get hh k).1:Nat))=(JK S hh (k+1)).toArray:=fun k hk=>by
   apply Array.toList_inj.1;simp only[cZ];apply dC (by simp[JK]);intro n h1 h2;simp only[JK,List.getElem_set,bG,List.getElem_range]
   by_cases e:k=n
   ·subst e
    simp
   ·rw[if_neg e]
    by_cases e2:n<k
    ·rw[if_pos e2,if_pos o_]
    ·rw[if_neg e2,if_neg o_]
  go_name_world W0 HW0
  have q1:W0.1[w.1.size+1]?=some (.cells (JK S hh 0).toArray 212 (0,0)):=by
   rw[<-HW0];have:=heap_alloc_new (w.alloc (.cells #[Xu 0,Xu 0,Xu 0,Xu 0,Xu 0,Xu 0] 139)) (.cells #[Xu 0,Xu 0,Xu 0,Xu 0,Xu 0,Xu 0] 212);rw[World.size_alloc] at this;exact this
  have q0:W0.1[w.1.size]?=some (.cells #[Xu 0,Xu 0,Xu 0,Xu 0,Xu 0,Xu 0] 139 (0,0)):=by
   rw[<-HW0,heap_alloc_old _ _ s_];exact heap_alloc_new w _
  have qb:D_ w W0:=by rw[<-HW0];exact HG.c.alloc s_ _
  clear HW0;have H0:=kq5 q1 q0 qb hA a6;clear q1 q0 qb hA a6
  go_loopw [8,16] (fun _ i wr=>∃k:Nat,k<=6/\i=Xi k/\wr.1[w.1.size+1]?=some (.cells (JK S hh k).toArray 212 (0,0))/\wr.1[w.1.size]?=some (.cells #[Xu 0,Xu 0,Xu 0,Xu 0,Xu 0,Xu 0] 139 (0,0))/\D_ w wr) (fun _ i _=>6-(intOf i).toNat)
  case atStart=>exact⟨0,o_,rfl,H0.a,H0.b,H0.c⟩
  case round=>
   obtain⟨k,hk,rfl,r1,r0,rb⟩:=hrel
   by_cases hlt:k<6
   ·have a8:(k:Int)<6:=o_
    have an:=HG.d wr rb k hk;have c1:∃v,wr.cell? (x_ (w.1.size+1) k)=some v:=by
     rw[q_ r1];refine⟨(JK S hh k)[k]'(by simp[JK];omega),?_⟩;rw[bO,af]
    obtain⟨v0,c1⟩:=c1;have f1:wr.frozen? (x_ (w.1.size+1) k)=false:=AT r1;have ar:=H0.e k hlt;generalize (S.get hh k).1=x at an ar;generalize (S.get hh k).2=er at an;have HK:=kq5 an r1 r0 rb ar;clear an r1 r0 rb ar;go_wp2_with fail;refine Jc HK.a ?_;go_wp2_with fail;go_roundw
    case rel=>
     refine⟨k+1,o_,s_,?_,?_,HK.d.setCell (p:=x_ (w.1.size+1) k) s_ _⟩
     ·rw[heap_setCell HK.b,HK.e]
     ·rw[FB o_];exact HK.c
    case measure=>simp[intOf];omega
   ·obtain rfl:k=6:=o_
    have hA:=H0.d 6;simp only[show (0:Nat)<6 from by decide,show (1:Nat)<6 from by decide,show (2:Nat)<6 from by decide,show (3:Nat)<6 from by decide,show (4:Nat)<6 from by decide,show (5:Nat)<6 from by decide,if_true] at hA;rw[hA] at r1;have g0:=HG.b;generalize (S.get hh 0).1=x0 at r1 g0;generalize (S.get hh 1).1=x1 at r1 g0;generalize (S.get hh 2).1=x2 at r1 g0;generalize (S.get hh 3).1=x3 at r1 g0;generalize (S.get hh 4).1=x4 at r1 g0;generalize (S.get hh 5).1=x5 at r1 g0;have a0:wr.cell? (y_ (w.1.size+1))=some (Xu x0):=e_ r1
    have a1:wr.cell? (x_ (w.1.size+1) 1)=some (Xu x1):=e_ r1
    have a2:wr.cell? (x_ (w.1.size+1) 2)=some (Xu x2):=e_ r1
    have a3:wr.cell? (x_ (w.1.size+1) 3)=some (Xu x3):=e_ r1
    have a4:wr.cell? (x_ (w.1.size+1) 4)=some (Xu x4):=e_ r1
    have a5:wr.cell? (x_ (w.1.size+1) 5)=some (Xu x5):=e_ r1
    have b0:wr.cell? (y_ w.1.size)=some (Xu 0):=e_ r0
    have b1:wr.cell? (x_ w.1.size 1)=some (Xu 0):=e_ r0
    have b2:wr.cell? (x_ w.1.size 2)=some (Xu 0):=e_ r0
    have b3:wr.cell? (x_ w.1.size 3)=some (Xu 0):=e_ r0
    have b4:wr.cell? (x_ w.1.size 4)=some (Xu 0):=e_ r0
    have b5:wr.cell? (x_ w.1.size 5)=some (Xu 0):=e_ r0
    have bf:∀o,wr.frozen? (x_ w.1.size o)=false:=fun o=>AT r0;have f0:=bf 0;have f1:=bf 1;have f2:=bf 2;have f3:=bf 3;have f4:=bf 4;have f5:=bf 5;have HK:=kq4 r1 r0 rb g0;clear r1 r0 rb g0 hA bf;go_wp2_with fail;have hX:((((((wr.setCell (y_ w.1.size) (Xu x0)).setCell (x_ w.1.size 1) (Xu x1)).setCell (x_ w.1.size 2) (Xu x2)).setCell (x_ w.1.size 3) (Xu x3)).setCell (x_ w.1.size 4) (Xu x4)).setCell (x_ w.1.size 5) (Xu x5)).1[w.1.size]?=some (.cells #[Xu x0,Xu x1,Xu x2,Xu x3,Xu x4,Xu x5] 139 (0,0)):=by
     rw[heap_setCell (heap_setCell (heap_setCell (heap_setCell (heap_setCell (heap_setCell HK.b)))))]
     rfl
    have hY:D_ w ((((((wr.setCell (y_ w.1.size) (Xu x0)).setCell (x_ w.1.size 1) (Xu x1)).setCell (x_ w.1.size 2) (Xu x2)).setCell (x_ w.1.size 3) (Xu x3)).setCell (x_ w.1.size 4) (Xu x4)).setCell (x_ w.1.size 5) (Xu x5)):=
     (((((HK.c.setCell (p:=y_ w.1.size) (Nat.le_refl w.1.size) _).setCell (p:=x_ w.1.size 1) (Nat.le_refl w.1.size) _).setCell (p:=x_ w.1.size 2) (Nat.le_refl w.1.size) _).setCell (p:=x_ w.1.size 3) (Nat.le_refl w.1.size) _).setCell (p:=x_ w.1.size 4) (Nat.le_refl w.1.size) _).setCell (p:=x_ w.1.size 5) (Nat.le_refl w.1.size) _
    generalize ((((((wr.setCell (y_ w.1.size) (Xu x0)).setCell (x_ w.1.size 1) (Xu x1)).setCell (x_ w.1.size 2) (Xu x2)).setCell (x_ w.1.size 3) (Xu x3)).setCell (x_ w.1.size 4) (Xu x4)).setCell (x_ w.1.size 5) (Xu x5))=W9 at*;have e0:W9.cell? (y_ w.1.size)=some (Xu x0):=e_ hX
    have e1:W9.cell? (x_ w.1.size 1)=some (Xu x1):=e_ hX
    have e2:W9.cell? (x_ w.1.size 2)=some (Xu x2):=e_ hX
    have e3:W9.cell? (x_ w.1.size 3)=some (Xu x3):=e_ hX
    have e4:W9.cell? (x_ w.1.size 4)=some (Xu x4):=e_ hX
    have e5:W9.cell? (x_ w.1.size 5)=some (Xu x5):=e_ hX
    obtain rfl:=HK.d;exact bodyPost_ret (v:=.tuple #[.agg #[Xu x0,Xu x1,Xu x2,Xu x3,Xu x4,Xu x5],Xi 0]) (by simp[results,f76,go_sem,e0,e1,e2,e3,e4,e5]) rfl ⟨rfl,hY⟩
theorem qKiah{P:Prop}(h:P:=by
 go_wp2_with fail;refine Jc HG.O ?_;go_wp2_with fail;go_ret;exact⟨rfl,rfl⟩):P:=h
theorem vT(h:Ig w ps S Y)(hi:Fv S)(hh:Nat)(hl:hh<2^64)(ha:fZ S hh≠0):
 Ct 145 #[PV ps,Xu hh] w fun e w'=>e=.returned (Xi (fZ S hh:Nat))/\w=w':=by
 have has:=oG h hi hh hl;generalize fZ S hh=a at*;have ad:((a:Int) !=0)=true:=m_
 have HG:=If has;clear has ha h hi;go_enter func145,ntmps145;exact qKiah
def vR(n:Nd):List Nat:=[n.key,n.val,n.left,n.right,n.mark,n.size]
def jh(ps hh:Nat)(n:Nd)(Y:Nat->Prop)(w2:World)(F:St)(k:Nat)(wr:World):Prop:=∃Sk,Ig wr ps Sk Y/\Fv Sk/\FC Sk hh k ((vR n).drop k)=F/\Fo Y w2 wr
theorem jh.step{ps hh:Nat}{n:Nd}{w2:World}{F:St}{k:Nat}{wr:World}(h:jh ps hh n Y w2 F k wr)(hl:hh<2^64)(x:Nat)(hx:x<2^64)(hk:k<6)(hxk:(vR n)[k]?=some x):
 Ct 167 #[PV ps,Xu hh,Xi k,Xu x] wr fun e w'=>∃er:Int,e=.returned (Xi er)/\jh ps hh n Y w2 F (k+1) w':=by
 obtain⟨Sk,h1,h2,h3,h4⟩:=h;refine(LV h1 h2 hh k x hl o_ hx).M ?_;rintro e w' ⟨rfl,h5,h6⟩;obtain⟨hlt,hv⟩:=aC.1 hxk;rw[bJ hlt,hv] at h3;exact⟨_,rfl,_,h5,h2.put hh k x,h3,h4.T h6⟩
theorem lS(a0 a1 a2 a3 a4 a5:Value)(w:World):
 (Instr.index 212 (.agg #[a0,a1,a2,a3,a4,a5]) (Xi 0)).run prog w=.ok a0 w/\
 (Instr.index 212 (.agg #[a0,a1,a2,a3,a4,a5]) (Xi 1)).run prog w=.ok a1 w/\
 (Instr.index 212 (.agg #[a0,a1,a2,a3,a4,a5]) (Xi 2)).run prog w=.ok a2 w/\
 (Instr.index 212 (.agg #[a0,a1,a2,a3,a4,a5]) (Xi 3)).run prog w=.ok a3 w/\
 (Instr.index 212 (.agg #[a0,a1,a2,a3,a4,a5]) (Xi 4)).run prog w=.ok a4 w/\
 (Instr.index 212 (.agg #[a0,a1,a2,a3,a4,a5]) (Xi 5)).run prog w=.ok a5 w:=by
 refine⟨?_,?_,?_,?_,?_,?_⟩<;>kernel_rfl
theorem rM(h:Ig w ps S Y)(hi:Fv S)(hh:Nat)(hl:hh<2^64)(n:Nd)(hn:ji n):
 Ct 183 #[PV ps,Xu hh,eS n] w fun e w'=>e=.returned (Xi ((gM S hh n).1:Nat))/\Ig w' ps (gM S hh n).2 Y/\Fo Y w w':=by
 have hY:=h.yl;obtain⟨R,hR⟩:=Ii (gM S hh n);rw[hR];unfold gM at hR;have hf:=fun W=>Dj n W;have hP:∀{F:St} {w2:World},True:=trivial;obtain⟨k0,k1,k2,k3,k4,k5⟩:=n;obtain⟨l0,l1,l2,l3,l4,l5⟩:=hn;simp only at l0 l1 l2 l3 l4 l5;unfold eS at hf⊢;simp only at hf⊢;have ai:D_ w (w.alloc (Xb k0 k1 k2 k3 k4 k5)):=(aa _ w).alloc Ih _;have has:=oG (h.a_ ai) hi hh hl;obtain⟨a,ha⟩:=Ii (fZ S hh);rw[ha] at has hR
 cases a with
 | succ a=>
  have ad:R=(a+1,S):=by rw[<-hR];rfl
  have au:(((a+1:Nat):Int) !=0)=true:=m_
  obtain⟨g1,ar⟩:=Ii (a+1);rw[ar] at has ad au;have HG:=kq4 has ad ai h;clear has hR ad ar h hi ha hf ai hY;go_enter func183,ntmps183;go_wp2_with fail;refine Jc HG.a ?_;go_wp2_with fail;go_ret;obtain rfl:=HG.b;exact⟨rfl,HG.d.a_ HG.c,HG.d.w_ HG.c⟩
 | zero=>
  have ad:R=(0,FC S hh 0 [k0,k1,k2,k3,k4,k5]):=by rw[<-hR];rfl
  have HG:=kq6 has ad ai h hi hf;clear has hR ad h hi ha hf ai hY;go_enter func183,ntmps183;go_wp2_with fail;refine Jc HG.a ?_;go_wp2_with fail;refine dR (HG.f _) fun w2 hb2=>?_;have ap:=b_ HG.c hb2;have H0:jh ps hh ⟨k0,k1,k2,k3,k4,k5⟩ Y w2 R.2 0 w2:=⟨S,HG.d.a_ ap,HG.e,by rw[HG.b];rfl,Fo.refl _ _⟩;have HB:=If ap;clear ap hb2;go_wp2_with fail
  go_loopw [8,9,18] (fun _ _ i wr=>(i=Xi 0/\jh ps hh ⟨k0,k1,k2,k3,k4,k5⟩ Y w2 R.2 0 wr)\/(i=Xi 1/\jh ps hh ⟨k0,k1,k2,k3,k4,k5⟩ Y w2 R.2 1 wr)\/(i=Xi 2/\jh ps hh ⟨k0,k1,k2,k3,k4,k5⟩ Y w2 R.2 2 wr)\/(i=Xi 3/\jh ps hh ⟨k0,k1,k2,k3,k4,k5⟩ Y w2 R.2 3 wr)\/(i=Xi 4/\jh ps hh ⟨k0,k1,k2,k3,k4,k5⟩ Y w2 R.2 4 wr)\/(i=Xi 5/\jh ps hh ⟨k0,k1,k2,k3,k4,k5⟩ Y w2 R.2 5 wr)\/(i=Xi 6/\jh ps hh ⟨k0,k1,k2,k3,k4,k5⟩ Y w2 R.2 6 wr)) (fun _ _ i _=>6-(intOf i).toNat)
  case atStart=>exact ab ⟨rfl,H0⟩
  case round=>
   rcases hrel with⟨rfl,hP⟩ | ⟨rfl,hP⟩ | ⟨rfl,hP⟩ | ⟨rfl,hP⟩ | ⟨rfl,hP⟩ | ⟨rfl,hP⟩ | ⟨rfl,hP⟩
   ·have HS:=If (hP.step hl k0 l0 d_ rfl);have an:=fun w=>(lS (Xu k0) (Xu k1) (Xu k2) (Xu k3) (Xu k4) (Xu k5) w).1;clear hP H0;go_wp2_with fail;refine HS.O.M ?_;rintro e w3 ⟨er,rfl,hP⟩;go_wp2_with fail;go_roundw
    case rel=>exact ae (ab ⟨rfl,hP⟩)
    case measure=>simp[intOf]
   ·have HS:=If (hP.step hl k1 l1 d_ rfl);have an:=fun w=>(lS (Xu k0) (Xu k1) (Xu k2) (Xu k3) (Xu k4) (Xu k5) w).2.1;clear hP H0;go_wp2_with fail;refine HS.O.M ?_;rintro e w3 ⟨er,rfl,hP⟩;go_wp2_with fail;go_roundw
    case rel=>exact ae (ae (ab ⟨rfl,hP⟩))
    case measure=>simp[intOf]
   ·have HS:=If (hP.step hl k2 l2 d_ rfl);have an:=fun w=>(lS (Xu k0) (Xu k1) (Xu k2) (Xu k3) (Xu k4) (Xu k5) w).2.2.1;clear hP H0;go_wp2_with fail;refine HS.O.M ?_;rintro e w3 ⟨er,rfl,hP⟩;go_wp2_with fail;go_roundw
    case rel=>exact ae (ae (ae (ab ⟨rfl,hP⟩)))
    case measure=>simp[intOf]
   ·have HS:=If (hP.step hl k3 l3 d_ rfl);have an:=fun w=>(lS (Xu k0) (Xu k1) (Xu k2) (Xu k3) (Xu k4) (Xu k5) w).2.2.2.1;clear hP H0;go_wp2_with fail;refine HS.O.M ?_;rintro e w3 ⟨er,rfl,hP⟩;go_wp2_with fail;go_roundw
    case rel=>exact ae (ae (ae (ae (ab ⟨rfl,hP⟩))))
    case measure=>simp[intOf]
   ·have HS:=If (hP.step hl k4 l4 d_ rfl);have an:=fun w=>(lS (Xu k0) (Xu k1) (Xu k2) (Xu k3) (Xu k4) (Xu k5) w).2.2.2.2.1;clear hP H0;go_wp2_with fail;refine HS.O.M ?_;rintro e w3 ⟨er,rfl,hP⟩;go_wp2_with fail;go_roundw
    case rel=>exact ae (ae (ae (ae (ae (ab ⟨rfl,hP⟩)))))
    case measure=>simp[intOf]
   ·have HS:=If (hP.step hl k5 l5 d_ rfl);have an:=fun w=>(lS (Xu k0) (Xu k1) (Xu k2) (Xu k3) (Xu k4) (Xu k5) w).2.2.2.2.2;clear hP H0;go_wp2_with fail;refine HS.O.M ?_;rintro e w3 ⟨er,rfl,hP⟩;go_wp2_with fail;go_roundw
    case rel=>exact ae (ae (ae (ae (ae (ae ⟨rfl,hP⟩)))))
    case measure=>simp[intOf]
   ·have HP:=If hP;clear hP H0;go_wp2_with fail;go_ret;obtain⟨Sk,h1,h2,h3,h4⟩:=HP.O;have e1:R.1=0:=by rw[HG.b]
    have e2:Sk=R.2:=h3;rw[e1,<-e2];exact⟨rfl,h1,(Fo.v_ HB.O HG.d.yl).T h4⟩
theorem vU(h:Ig w ps S Y)(hm:iw S 6)(n:Nd)(hn:ji n):
 Ct 140 #[PV ps,eS n] w fun e w'=>e=.returned (.tuple #[Xu ((ft S n).1.1:Nat),Xi ((ft S n).1.2:Nat)])/\Ig w' ps (ft S n).2 Y/\Fo Y w w':=by
 have an:=fun W (hW:D_ w W)=>sH (h.wide hW) 6 o_ hm.1;have a8:=oA h.tabwf 6;have ai:=hm.2;obtain⟨R,hR⟩:=Ii (ft S n);rw[hR];unfold ft at hR;obtain⟨⟨⟨hh,er⟩,S1⟩,hS⟩:∃r,S.make 6=r:=⟨_,rfl⟩;rw[hS] at an a8 ai hR;simp only at an a8 ai;have ap:=fun W Z (hW:Ig W ps S1 Z)=>rM hW ai hh a8 n hn;obtain⟨k0,k1,k2,k3,k4,k5⟩:=n;unfold eS at ap⊢;simp only at ap⊢;have a6:D_ w (w.alloc (Xb k0 k1 k2 k3 k4 k5)):=(aa _ w).alloc Ih _;have kx:=heap_alloc_new w (Xb k0 k1 k2 k3 k4 k5);have HG:=kq6 (an _ a6) hR a6 h ap kx;clear an hR a6 hm ai hS hn ap kx;go_enter func140,ntmps140;go_wp2_with fail;refine HG.a.M ?_;rintro e w1 ⟨rfl,h1,a9⟩;have hx:w1.1[w.1.size]?=some (.cells #[Xu k0,Xu k1,Xu k2,Xu k3,Xu k4,Xu k5] 139 (0,0)):=(a9.block _ (ae ⟨Nat.le_refl _,s_⟩)).T HG.f;have a0:w1.cell? (y_ w.1.size)=some (Xu k0):=e_ hx
 have a1:w1.cell? (x_ w.1.size 1)=some (Xu k1):=e_ hx
 have a2:w1.cell? (x_ w.1.size 2)=some (Xu k2):=e_ hx
 have a3:w1.cell? (x_ w.1.size 3)=some (Xu k3):=e_ hx
 have a4:w1.cell? (x_ w.1.size 4)=some (Xu k4):=e_ hx
 have a5:w1.cell? (x_ w.1.size 5)=some (Xu k5):=e_ hx
 have au:=h1.M (Z:=Y) fun k hk=>ab hk;have a':=(Fo.v_ HG.c h.yl).T (a9.M (Z:=Y) fun k hk=>ab hk);have H1:=kq3 au a' (HG.e w1 Y au);clear h1 a9 hx au a' h
 cases er with
 | succ er=>
  have ad:R=((0,er+1),S1):=by rw[<-HG.b];rfl
  have bb:(((er+1:Nat):Int) !=0)=true:=m_
  obtain⟨g1,a7⟩:=Ii (er+1);rw[a7] at ad bb;simp only[a7];have ar:=If ad;clear ad a7;go_wp2_with fail;go_ret2;obtain rfl:=ar.O;exact⟨rfl,H1.a,H1.b⟩
 | zero=>
  have ad:R=((hh,(gM S1 hh ⟨k0,k1,k2,k3,k4,k5⟩).1),(gM S1 hh ⟨k0,k1,k2,k3,k4,k5⟩).2):=by rw[<-HG.b];rfl
  have ar:=If ad;clear ad;go_wp2_with fail;refine H1.c.M ?_;rintro e w2 ⟨rfl,h2,ba⟩;have H2:=kq2 h2 (H1.b.T ba);clear h2 ba;go_wp2_with fail;go_ret2;obtain rfl:=ar.O;exact⟨rfl,H2.O⟩
end
section
open Lf
variable{S:St}{h:Nat}{n:Nat}{o:Nat->Nat}{t:List UInt8}
theorem D4(hf:Fw S o){ws:List Nat}(hl:i_ S h=some ws):kM S h=ws:=by
 unfold kM;rw[jw hf.tab hl];refine dx fun i=>?_
 by_cases hi:i<ws.length
 ·rw[bQ,bU hi]
  show some (S.get h i).1=_
  rw[ru hf hl hi,af hi,ay,af hi]
  rfl
 grind
theorem jt(hf:Fw S o)(ht:t.length<=1000)(hl:i_ S h=some (FK t)):fz S h=(t,0):=by
 unfold fz;rw[jw hf.tab hl];simp only;rw[D4 hf hl,EN t ht]
theorem OF(h:n<=1000):many n=1+(n+7) / 8/\many n<=126:=by
 have:many n=1+(n+7) / 8:=by unfold many;grind
 omega
theorem vn(h1:1<=n)(h2:n<=4000):fa n<=(n+65) / 64:=by
 unfold fa;grind
theorem oL(hf:Fw S o)(ht:t.length<=1000)(hr:fc S 3 1):
 ∃h S' o',fx S t=((h,0),S')/\Fw S' o'/\i_ S h=none/\i_ S' h=some (FK t)/\(∀h',h'≠h->i_ S' h'=i_ S h')/\ej S S' 3 1/\iw S (many t.length):=by
 obtain⟨m1,m2⟩:=OF ht;have ad:fa (many t.length+2)<=3:=aH (vn o_ o_) o_;obtain⟨h,S1,o1,ws,e,ai,hn,an,hl,ho,hg,_⟩:=oz hf (n:=many t.length) o_ (hr.M ad Ih);obtain⟨q1,q2,q3,q4⟩:=mR ai hl (l:=FK t) (by rw[Ks,an,m1]) (xZ t o_);refine⟨h,FC S1 h 0 (FK t),o1,?_,q1,hn,q2,fun h' hne=>(q3 h' hne).T (ho h' hne),(hg.T q4).M o_ o_,(rz hf (n:=many t.length) o_ (hr.M ad Ih))⟩;unfold fx;grind
def eM(n:Nd):List Nat:=[n.key,n.val,n.left,n.right,n.mark,n.size]
theorem pN(hf:Fw S o){n:Nd}(hl:i_ S h=some (eM n)):fZ S h=0:=by
 unfold fZ;rw[jw hf.tab hl];simp[eM]
theorem gw(hf:Fw S o){n:Nd}(hl:i_ S h=some (eM n)):f_ S h=(n,0):=by
 have g:=fun k hk=>ru hf hl (k:=k) hk;have ad:(eM n).length=6:=rfl;unfold f_;rw[pN hf hl];simp only;rw[g 0 o_,g 1 o_,g 2 o_,g 3 o_,g 4 o_,g 5 o_];rfl
theorem Mu(hl:i_ S h=none):f_ S h=(Nd.zero,7):=by
 unfold f_ fZ;rw[oy hl];rfl
theorem Co:i_ S 0=none:=by
 unfold i_ Hs.of;simp
theorem Bc(S:St):f_ S 0=(Nd.zero,7):=Mu Co
theorem vS{n:Nd}(hn:ji n):∀v∈eM n,v<2^64:=by
 intro v hv;have h1:=hn.key;have h2:=hn.val;have h3:=hn.left;have h4:=hn.right;have h5:=hn.mark;have h6:=hn.size;simp only[eM,ah,List.mem_nil_iff,or_false] at hv;rcases hv with rfl | rfl | rfl | rfl | rfl | rfl<;>assumption
theorem ww(hf:Fw S o){n0 n:Nd}(hl:i_ S h=some (eM n0))(hn:ji n):
 ∃S',gM S h n=(0,S')/\Fw S' o/\i_ S' h=some (eM n)/\(∀h',h'≠h->i_ S' h'=i_ S h')/\ej S S' 0 0:=by
 obtain⟨q1,q2,q3,q4⟩:=mR hf hl (l:=eM n) rfl (vS hn);grind [FC,eM,gM,pN]
theorem Cq(hf:Fw S o){n:Nd}(hn:ji n)(hr:fc S 1 1):
 ∃h S' o',ft S n=((h,0),S')/\Fw S' o'/\i_ S h=none/\i_ S' h=some (eM n)/\(∀h',h'≠h->i_ S' h'=i_ S h')/\ej S S' 1 1/\iw S 6:=by
 have ad:fa (6+2)<=1:=aH (vn o_ o_) o_;obtain⟨h,S1,o1,ws,e,ai,ap,an,hl,ho,hg,_⟩:=oz hf (n:=6) o_ (hr.M ad Ih);obtain⟨q1,q2,q3,q4⟩:=mR ai hl (l:=eM n) (by rw[an];rfl) (vS hn);have ha:fZ S1 h=0:=by
  unfold fZ;rw[jw ai.tab hl,an]
  rfl
 refine⟨h,FC S1 h 0 (eM n),o1,?_,q1,ap,q2,fun h' hne=>(q3 h' hne).T (ho h' hne),(hg.T q4).M o_ o_,(rz hf (n:=6) o_ (hr.M ad Ih))⟩;unfold ft;rw[e];simp only;unfold gM;rw[ha]
 rfl
theorem AH(hf:Fw S o){n:Nd}(hl:i_ S h=some (eM n)):
 ∃S',jr S h=(0,S')/\Fw S' o/\i_ S' h=none/\(∀h',h'≠h->i_ S' h'=i_ S h')/\ej S S' 0 0:=by
 grind [mQ,jr,pN]
theorem ux(q n l:Nat)(hq:q<=262144)(hn:1<=n/\n<=65536)(hl:1<=l/\l<4294967296):Fw ⟨⟨q,[]⟩,⟨n,l,[]⟩⟩ id where
 own:=⟨⟨List.Pairwise.nil,s_,s_,by simp[r_.j_],s_,hq⟩,by simp[r_.j_],by simp[r_.j_]⟩
 tab:=⟨hn,hl,s_,s_⟩
 live:=s_
 inj:=s_
 full:=by rintro a r ⟨h,hp,_⟩;simp[r_.j_] at hp
end
section
open Go.RowKit Tryz Go.BigFrame Go.Maps Go.WideMaps Lf
variable{S:St}{Y:Nat->Prop}{b:Nat}{ps:Nat}{w:World}{z:Nat}
theorem fs(h:Ig w ps S Y)(hh:Nat):ji (f_ S hh).1:=by
 have g:=fun k=>uC h hh k;unfold f_
 split
 ·exact⟨g 0,g 1,g 2,g 3,g 4,g 5⟩
 ·have z:0<2^64:=d_
  exact⟨z,z,z,z,z,z⟩
theorem F3{x y:Nat}(h:num x=some y):y=x/\x<2^62:=by
 unfold num at h
 split at h
 ·rename_i hx
  injection h with h;exact⟨h.S,o_⟩
 ·cases h
theorem nB(h:Ig w ps S Y):S.words<=262144:=by
 obtain⟨_,_,_,_,_,h⟩:=h;have:=h.heap.wf.room;have:=h.heap.wf.E1;unfold St.words;omega
theorem sX(h:Ig w ps S Y):
 Cb 162 #[PV ps] w (Xi (A_ S:Nat)):=by
 have hw:=xo h;have ad:=nB h;unfold A_;generalize S.words=m at*;have HG:=If hw;clear hw h;go_enter func162,ntmps162;go_wp2_with fail;refine dR HG.O fun w1 hb=>?_;have HB:=If hb;clear hb;go_wp2_with fail;go_ret;exact⟨s_,HB.O⟩
theorem qKiag{P:Prop}(h:P:=by
 unfold f_ at he⊢
 split
 ·rename_i e;rw[e] at he;exact absurd rfl he
 ·rfl):P:=h
theorem qKiad{P:Prop}(h:P:=by
 go_wp2_with fail;refine dR HG.O fun w1 hb=>?_;have HB:=If (hb.alloc hb.size (Xb k0 k1 k2 k3 k4 k5));clear hb;go_wp2_with fail;go_ret;exact⟨rfl,HB.O⟩):P:=h
theorem qKiac{P:Prop}(h:P:=by
 go_wp2_with fail;refine dR HG.O fun w1 hb=>?_;have HB:=If (hb.alloc hb.size (.cells #[Xu 0,Xu 0,Xu 0,Xu 0,Xu 0,Xu 0] 139));clear hb;go_wp2_with fail;go_ret;exact⟨rfl,HB.O⟩):P:=h
theorem kP(h:Ig w ps S Y)(hi:Fv S)(hh:Nat)(hl:hh<2^64)(hz:fY S hh=some z):
 Cb 224 #[PV ps,Xu hh] w (Xi z):=by
 have hg:=iO h hi hh hl;unfold fY sj at hz;obtain⟨rfl,an⟩:=F3 hz;clear hz;have ad:(f_ S hh).2≠0->(f_ S hh).1=Nd.zero:=fun he=>by
  exact qKiag
 obtain⟨⟨⟨k0,k1,k2,k3,k4,k5⟩,er⟩,hE⟩:∃r,f_ S hh=r:=⟨_,rfl⟩;rw[hE] at hg an ad⊢;simp only at hg an ad⊢;unfold eS at hg;simp only at hg
 cases er with
 | succ er=>
  have h0:=ad o_
  injection h0 with h0 h1 h2 h3 h4 h5
  subst h0 h1 h2 h3 h4 h5;have ap:(((er+1:Nat):Int) !=0)=true:=m_
  obtain⟨g1,ai⟩:=Ii (er+1);rw[ai] at hg ap;have HG:=If hg;clear hg h hi hE ad ai;go_enter func224,ntmps224;exact qKiac
 | zero=>
  have HG:=If hg;clear hg h hi hE ad;go_enter func224,ntmps224;exact qKiad
theorem fJ(h:Ig w ps S Y)(hi:Fv S)(hh:Nat)(hl:hh<2^64)(hz:eE S hh=some z):
 Cb 217 #[PV ps,Xu hh] w (Xi z):=by
 have hg:=iO h hi hh hl;unfold eE mU at hz;obtain⟨rfl,an⟩:=F3 hz;clear hz;have ad:(f_ S hh).2≠0->(f_ S hh).1=Nd.zero:=fun he=>by
  exact qKiag
 obtain⟨⟨⟨k0,k1,k2,k3,k4,k5⟩,er⟩,hE⟩:∃r,f_ S hh=r:=⟨_,rfl⟩;rw[hE] at hg an ad⊢;simp only at hg an ad⊢;unfold eS at hg;simp only at hg
 cases er with
 | succ er=>
  have h0:=ad o_
  injection h0 with h0 h1 h2 h3 h4 h5
  subst h0 h1 h2 h3 h4 h5;have ap:(((er+1:Nat):Int) !=0)=true:=m_
  obtain⟨g1,ai⟩:=Ii (er+1);rw[ai] at hg ap;have HG:=If hg;clear hg h hi hE ad ai;go_enter func217,ntmps217;exact qKiac
 | zero=>
  have HG:=If hg;clear hg h hi hE ad;go_enter func217,ntmps217;exact qKiad
def gP(n:Nd)(h:Nat):Value:=.agg #[Xu n.key,Xu n.val,Xu n.left,Xu n.right,Xu n.mark,Xu n.size,Xu h]
theorem Ew{W:World}{u0 u1 u2 u3 u4 u5 u6:Value}{t:TypeId}{fr:Nat×Nat}(h:W.1[b]?=some (.cells #[u0,u1,u2,u3,u4,u5,u6] t fr))(v0 v1 v2 v3 v4 v5 v6:Value):(((((((W.setCell (y_ b) (v0)).setCell (x_ b 1) (v1)).setCell (x_ b 2) (v2)).setCell (x_ b 3) (v3)).setCell (x_ b 4) (v4)).setCell (x_ b 5) (v5)).setCell (x_ b 6) (v6)).1[b]?=some (.cells #[v0,v1,v2,v3,v4,v5,v6] t fr):=by
 rw[heap_setCell (heap_setCell (heap_setCell (heap_setCell (heap_setCell (heap_setCell (heap_setCell h))))))];rfl
theorem Ev{w W:World}(h:D_ w W)(hb:w.1.size<=b)(v0 v1 v2 v3 v4 v5 v6:Value):D_ w (((((((W.setCell (y_ b) (v0)).setCell (x_ b 1) (v1)).setCell (x_ b 2) (v2)).setCell (x_ b 3) (v3)).setCell (x_ b 4) (v4)).setCell (x_ b 5) (v5)).setCell (x_ b 6) (v6)):=
 ((((((h.setCell (p:=y_ b) hb _).setCell (p:=x_ b 1) hb _).setCell (p:=x_ b 2) hb _).setCell (p:=x_ b 3) hb _).setCell (p:=x_ b 4) hb _).setCell (p:=x_ b 5) hb _).setCell (p:=x_ b 6) hb _
theorem gR(h:Ig w ps S Y)(hi:Fv S)(hh:Nat)(hl:hh<2^64):
 Cb 186 #[PV ps,Xu hh] w (gP (f_ S hh).1 hh):=by
 have ad:D_ w (w.alloc (.cells #[Xu 0,Xu 0,Xu 0,Xu 0,Xu 0,Xu 0,Xu 0] 280)):=(aa _ w).alloc Ih _;have hg:=iO (h.a_ ad) hi hh hl;obtain⟨⟨⟨k0,k1,k2,k3,k4,k5⟩,er⟩,hE⟩:∃r,f_ S hh=r:=⟨_,rfl⟩;rw[hE] at hg⊢;unfold eS at hg;unfold gP;simp only at hg⊢;have hx:=heap_alloc_new w (.cells #[Xu 0,Xu 0,Xu 0,Xu 0,Xu 0,Xu 0,Xu 0] 280);have HG:=kq3 hg ad hx;clear hg ad h hi hE hx;go_enter func186,ntmps186;go_wp2_with fail;refine dR HG.a fun w1 hb=>?_;have r0:=(hb.block w.1.size s_).T HG.c;obtain⟨b0,b1,b2,b3,b4,b5,b6⟩:=gG r0;obtain⟨f0,f1,f2,f3,f4,f5,f6⟩:=qI r0;have hlt:w.1.size<w1.1.size:=(gl r0);have HB:=kq2 r0 (b_ HG.b hb);clear r0 hb;go_wp2_with fail;have hX:=Ew HB.a (Xu k0) (Xu k1) (Xu k2) (Xu k3) (Xu k4) (Xu k5) (Xu hh);have hY:=Ev HB.b (Nat.le_refl w.1.size) (Xu k0) (Xu k1) (Xu k2) (Xu k3) (Xu k4) (Xu k5) (Xu hh);have ap:(((((((w1.setCell (y_ w.1.size) (Xu k0)).setCell (x_ w.1.size 1) (Xu k1)).setCell (x_ w.1.size 2) (Xu k2)).setCell (x_ w.1.size 3) (Xu k3)).setCell (x_ w.1.size 4) (Xu k4)).setCell (x_ w.1.size 5) (Xu k5)).setCell (x_ w.1.size 6) (Xu hh)).1.size=w1.1.size:=s_
 generalize (((((((w1.setCell (y_ w.1.size) (Xu k0)).setCell (x_ w.1.size 1) (Xu k1)).setCell (x_ w.1.size 2) (Xu k2)).setCell (x_ w.1.size 3) (Xu k3)).setCell (x_ w.1.size 4) (Xu k4)).setCell (x_ w.1.size 5) (Xu k5)).setCell (x_ w.1.size 6) (Xu hh))=W9 at*;have ai:(W9.alloc (Xb k0 k1 k2 k3 k4 k5)).1[w.1.size]?=some (.cells #[Xu k0,Xu k1,Xu k2,Xu k3,Xu k4,Xu k5,Xu hh] 280 (0,0)):=by rw[heap_alloc_old _ _ o_];exact hX
 have an:=hY.alloc hY.size (Xb k0 k1 k2 k3 k4 k5);generalize W9.alloc (Xb k0 k1 k2 k3 k4 k5)=W10 at*;obtain⟨e0,e1,e2,e3,e4,e5,e6⟩:=gG ai;exact bodyPost_ret (v:=.agg #[Xu k0,Xu k1,Xu k2,Xu k3,Xu k4,Xu k5,Xu hh]) (by simp[results,f186,go_sem,e0,e1,e2,e3,e4,e5,e6]) rfl ⟨rfl,an⟩
theorem pQ(h:Ig w ps S Y)(hi:Fv S)(hh:Nat)(hl:hh<2^64):
 Cb 184 #[PV ps,Xu hh] w (.bool (isT S hh)):=by
 have hg:=iO h hi hh hl;obtain⟨R,hR⟩:=Ii (isT S hh);rw[hR];unfold isT at hR;obtain⟨⟨⟨k0,k1,k2,k3,k4,k5⟩,er⟩,hE⟩:∃r,f_ S hh=r:=⟨_,rfl⟩;rw[hE] at hg hR;unfold eS at hg;simp only at hg hR;have ad:R=(((hh:Int)==0) || ((er:Int)==0)):=by
  rw[<-hR]
  by_cases a:hh=0<;>by_cases b:er=0<;>simp[a,b]<;>omega
 have HG:=kq2 hg ad;clear hg h hi hE hR ad
 by_cases h0:hh=0
 ·subst h0;go_enter func184,ntmps184;go_wp2_with fail;refine dR HG.a fun w1 hb=>?_;have HB:=If (hb.alloc hb.size (Xb k0 k1 k2 k3 k4 k5));clear hb;go_wp2_with fail;go_ret;obtain rfl:=HG.b;exact⟨s_,HB.O⟩
 ·have hq:((hh:Int)==0)=false:=m_
  go_enter func184,ntmps184;go_wp2_with fail;refine dR HG.a fun w1 hb=>?_;have HB:=If (hb.alloc hb.size (Xb k0 k1 k2 k3 k4 k5));clear hb;go_wp2_with fail;go_ret;obtain rfl:=HG.b;exact⟨by simp[hq],HB.O⟩
theorem rT(hi:Fv S)(hh:Nat)(n:Nd):Fv (gM S hh n).2:=by
 unfold gM
 split
 ·exact(rV hh _ S 0 hi).1
 ·exact hi
theorem Ht{S S':St}{n:Nd}{h l r:Nat}(hw:fu S n h l r=some S'):∃a b x y,eE S l=some a/\eE S r=some b/\fY S l=some x/\fY S r=some y/\S'=(gM S h { n with left:=l,right:=r,mark:=max a b+1,size:=x+y+1 }).2:=by
 unfold fu at hw
 split at hw
 ·rename_i a b x y h1 h2 h3 h4;exact⟨a,b,x,y,h1,h2,h3,h4,(Option.some.inj hw).S⟩
 ·cases hw
theorem gX{S S':St}{n:Nd}{h l r:Nat}(hi:Fv S)(hw:fu S n h l r=some S'):Fv S':=by
 obtain⟨_,_,_,_,_,_,_,_,rfl⟩:=Ht hw;exact rT hi _ _
theorem jG{S S':St}(h:Ig w ps S Y)(hi:Fv S)(n:Nd)(hn:ji n)(hh l r:Nat)(hl:hh<2^64)(hll:l<2^64)(hrl:r<2^64)(hw:fu S n hh l r=some S'):
 Ct 219 #[gP n hh,PV ps,Xu l,Xu r] w fun e w'=>e=.returned (Xu hh)/\Ig w' ps S' Y/\Fo Y w w':=by
 obtain⟨a,b,x,y,h1,h2,h3,h4,rfl⟩:=Ht hw;have ha:a<2^62:=by have:=F3 h1;omega
 have hb:b<2^62:=by have:=F3 h2;omega
 have hx:x<2^62:=by have:=F3 h3;omega
 have hy:y<2^62:=by have:=F3 h4;omega
 obtain⟨m,hm⟩:=Ii (max a b);have a3:m<2^62:=o_
 have a2:max (a:Int) (b:Int)=(m:Int):=o_
 rw[hm];obtain⟨k0,k1,k2,k3,k4,k5⟩:=n;obtain⟨n0,n1,n2,n3,n4,n5⟩:=hn;simp only at n0 n1 n2 n3 n4 n5;simp only[gP];have ad:=fun W Z (hW:Ig W ps S Z)=>rM hW hi hh hl ⟨k0,k1,l,r,m+1,x+y+1⟩ ⟨n0,n1,hll,hrl,by simp only;omega,by simp only;omega⟩;have a0:eS ⟨k0,k1,l,r,m+1,x+y+1⟩=.agg #[Xu k0,Xu k1,Xu l,Xu r,Xu ((m:Int)+1),Xu ((x:Int)+y+1)]:=by simp[eS]
 rw[a0] at ad;have q0:=heap_alloc_new w (Xa k0 k1 l r k4 k5 hh);have qb:D_ w (w.alloc (Xa k0 k1 l r k4 k5 hh)):=(aa _ w).alloc Ih _;have ai:=fun W (hW:D_ w W)=>fJ (h.a_ hW) hi l hll h1;have an:=fun W (hW:D_ w W)=>fJ (h.a_ hW) hi r hrl h2;have ap:=fun W (hW:D_ w W)=>kP (h.a_ hW) hi l hll h3;have ar:=fun W (hW:D_ w W)=>kP (h.a_ hW) hi r hrl h4;have HG:=kq8 ai an ap ar ad h q0 qb;clear ai an ap ar ad h q0 qb h1 h2 h3 h4 hw hm hi a0;go_enter func219,ntmps219;go_wp2_with fail;refine dR (HG.a _ HG.h) fun w1 hb1=>?_;have r1:=(hb1.block w.1.size s_).T HG.g;have H1:=kq2 (HG.h.T (hb1.M s_)) r1;clear hb1 r1;go_wp2_with fail;refine dR (HG.b _ H1.a) fun w2 hb2=>?_;have r2:=(hb2.block w.1.size (gl H1.b)).T H1.b;obtain⟨c0,c1,c2,c3,c4,c5,c6⟩:=gG r2;obtain⟨f0,f1,f2,f3,f4,f5,f6⟩:=qI r2;have H2:=kq2 (b_ H1.a hb2) r2;clear hb2 r2;go_wp2_with fail;have r3:(w2.setCell (x_ w.1.size 4) (Xu ((m:Int)+1))).1[w.1.size]?=some (.cells #[Xu k0,Xu k1,Xu l,Xu r,Xu ((m:Int)+1),Xu k5,Xu hh] 280 (0,0)):=by rw[heap_setCell H2.b];rfl
 have B3:=H2.a.setCell (p:=x_ w.1.size 4) (Nat.le_refl w.1.size) (Xu ((m:Int)+1));generalize w2.setCell (x_ w.1.size 4) (Xu ((m:Int)+1))=w3 at*;refine dR (HG.c _ B3) fun w4 hb4=>?_;have H4:=kq2 (b_ B3 hb4) ((hb4.block w.1.size (gl r3)).T r3);clear hb4 r3 B3 c0 c1 c2 c3 c4 c5 c6 f0 f1 f2 f3 f4 f5 f6;go_wp2_with fail;refine dR (HG.d _ H4.a) fun w5 hb5=>?_;have r5:=(hb5.block w.1.size (gl H4.b)).T H4.b;obtain⟨c0,c1,c2,c3,c4,c5,c6⟩:=gG r5;obtain⟨f0,f1,f2,f3,f4,f5,f6⟩:=qI r5;have H5:=kq2 (b_ H4.a hb5) r5;clear hb5 r5;go_wp2_with fail;have r6:(w5.setCell (x_ w.1.size 5) (Xu ((x:Int)+y+1))).1[w.1.size]?=some (.cells #[Xu k0,Xu k1,Xu l,Xu r,Xu ((m:Int)+1),Xu ((x:Int)+y+1),Xu hh] 280 (0,0)):=by rw[heap_setCell H5.b];rfl
 have B6:=H5.a.setCell (p:=x_ w.1.size 5) (Nat.le_refl w.1.size) (Xu ((x:Int)+y+1));have au:w.1.size<(w5.setCell (x_ w.1.size 5) (Xu ((x:Int)+y+1))).1.size:=(gl r6);refine(HG.e _ _ (HG.f.wide B6)).M ?_;rintro e w7 ⟨rfl,h7,k7⟩;have r7:=(k7.block w.1.size (ae ⟨Nat.le_refl _,au⟩)).T r6;have a1:w7.cell? (x_ w.1.size 6)=some (Xu hh):=e_ r7
 have H7:=kq2 (h7.M (Z:=Y) fun k hk=>ab hk) ((Fo.v_ B6 HG.f.yl).T (k7.M fun k hk=>ab hk));clear h7 k7 r7 r6 B6 au c0 c1 c2 c3 c4 c5 c6 f0 f1 f2 f3 f4 f5 f6;go_wp2_with fail;go_ret;exact⟨rfl,H7.O⟩
end
section
open Lf
def Lf.leftM(S:St)(h:Nat):Option (Nat×St):=
 match fu S (f_ S h).1 h (f_ S h).1.left (f_ S (f_ S h).1.right).1.left with
 | none=>none
 | some S1=>(fu S1 (f_ S (f_ S h).1.right).1 (f_ S h).1.right h (f_ S (f_ S h).1.right).1.right).map fun S2=>((f_ S h).1.right,S2)
def Lf.rightM(S:St)(h:Nat):Option (Nat×St):=
 match fu S (f_ S h).1 h (f_ S (f_ S h).1.left).1.right (f_ S h).1.right with
 | none=>none
 | some S1=>(fu S1 (f_ S (f_ S h).1.left).1 (f_ S h).1.left (f_ S (f_ S h).1.left).1.left h).map fun S2=>((f_ S h).1.left,S2)
def Lf.balM(S:St)(h:Nat):Option (Nat×St):=
 match eE S (f_ S h).1.left,eE S (f_ S h).1.right with
 | some a,some b=>
  if b+1<a then
   match eE S (f_ S (f_ S h).1.left).1.left,eE S (f_ S (f_ S h).1.left).1.right with
   | some c,some d=>
    if c<d then
     match leftM S (f_ S h).1.left with
     | none=>none
     | some (x,S1)=>match fu S1 (f_ S h).1 h x (f_ S h).1.right with
      | none=>none
      | some S2=>rightM S2 h
    else rightM S h
   | _,_=>none
  else if a+1<b then
   match eE S (f_ S (f_ S h).1.right).1.left,eE S (f_ S (f_ S h).1.right).1.right with
   | some c,some d=>
    if d<c then
     match rightM S (f_ S h).1.right with
     | none=>none
     | some (x,S1)=>match fu S1 (f_ S h).1 h (f_ S h).1.left x with
      | none=>none
      | some S2=>leftM S2 h
    else leftM S h
   | _,_=>none
  else some (h,S)
 | _,_=>none
def Lf.chk(o:Option (Nat×St)):Option (Nat×St):=
 match o with
 | none=>none
 | some (x,S)=>if x<2^64 then some (x,S) else none
theorem lM {o:Option (Nat×St)}{x:Nat}{S:St}(h:chk o=some (x,S)):o=some (x,S)/\x<2^64:=by
 unfold chk at h;grind
theorem nU {x:Nat}{S:St}(h:x<2^64):chk (some (x,S))=some (x,S):=by
 unfold chk;grind
def Lf.joinB(n:Nd)(m:Nat):Nat->St->Nat->Nat->Option (Nat×St)
 | 0,S,l,r=>(fu S n m l r).map fun S'=>(m,S')
 | f+1,S,l,r=>
  match eE S l,eE S r with
  | some a,some b=>
   if b+1<a then
    match joinB n m f S (f_ S l).1.right r with
    | none=>none
    | some (x,S1)=>
     match fu S1 (f_ S l).1 l (f_ S l).1.left x with
     | none=>none
     | some S2=>chk (balM S2 l)
   else if a+1<b then
    match joinB n m f S l (f_ S r).1.left with
    | none=>none
    | some (x,S1)=>
     match fu S1 (f_ S r).1 r x (f_ S r).1.right with
     | none=>none
     | some S2=>chk (balM S2 r)
   else(fu S n m l r).map fun S'=>(m,S')
  | _,_=>none
theorem qY(n:Nd)(m:Nat)(S:St)(l r:Nat):joinB n m 0 S l r=(fu S n m l r).map fun S'=>(m,S'):=rfl
theorem qX(n:Nd)(m f:Nat)(S:St)(l r:Nat):joinB n m (f+1) S l r=
 match eE S l,eE S r with
 | some a,some b=>
  if b+1<a then
   match joinB n m f S (f_ S l).1.right r with
   | none=>none
   | some (x,S1)=>
    match fu S1 (f_ S l).1 l (f_ S l).1.left x with
    | none=>none
    | some S2=>chk (balM S2 l)
  else if a+1<b then
   match joinB n m f S l (f_ S r).1.left with
   | none=>none
   | some (x,S1)=>
    match fu S1 (f_ S r).1 r x (f_ S r).1.right with
    | none=>none
    | some S2=>chk (balM S2 r)
  else(fu S n m l r).map fun S'=>(m,S')
 | _,_=>none:=rfl
def Lf.avlJ(S:St)(l m r:Nat):Option ((Nat×Nat)×St):=
 if m=0\/isT S l=false\/isT S m=false\/isT S r=false then none
 else(joinB (f_ S m).1 m 100 S l r).map fun x=>((x.1,0),x.2)
structure It where
 h:Nat
 kh:Nat
 vh:Nat
 k:List UInt8
 v:List UInt8
inductive Tr where
 | nil:Tr
 | node (l:Tr) (d:It) (m:Nat) (r:Tr):Tr
namespace Tr
variable{S:St}{o:Nat->Nat}
def f9:Tr->Nat
 | nil=>0
 | node _ d _ _=>d.h
def mark:Tr->Nat
 | nil=>0
 | node _ _ m _=>m
def its:Tr->List It
 | nil=>[]
 | node l d _ r=>l.its++d::r.its
def hs(t:Tr):List Nat:=t.its.map (·.h)
def nd(l:Tr)(d:It)(m:Nat)(r:Tr):Nd:=⟨d.kh,d.vh,l.f9,r.f9,m,(node l d m r).its.length⟩
def At(S:St):Tr->Prop
 | nil=>True
 | node l d m r=>i_ S d.h=some (eM (nd l d m r))/\At S l/\At S r
def mk(l:Tr)(d:It)(r:Tr):Tr:=node l d (max l.mark r.mark+1) r
theorem ga(l:Tr)(d:It)(r:Tr):(mk l d r).its=l.its++d::r.its:=rfl
theorem eY(l:Tr)(d:It)(m:Nat)(r:Tr):(node l d m r).hs=l.hs++d.h::r.hs:=by
 show (l.its++d::r.its).map (·.h)=_
 simp[hs]
theorem At.frame {S S':St}:∀{t:Tr},At S t->(∀h∈t.hs,i_ S' h=i_ S h)->At S' t
 | nil,_,_=>trivial
 | node l d m r,⟨h1,h2,h3⟩,hf=>by
  rw[eY] at hf;refine⟨(hf d.h s_).T h1,h2.frame fun h hm=>hf h (by simp[hm]),h3.frame fun h hm=>hf h (by simp[hm])⟩
theorem At.f_(hf:Fw S o){l:Tr}{d:It}{m:Nat}{r:Tr}(h:At S (node l d m r)):Lf.f_ S d.h=(nd l d m r,0):=gw hf h.1
theorem At.root_lt(hf:Fw S o):∀{t:Tr},At S t->t.f9<2^64
 | nil,_=>by unfold f9;decide
 | node _ _ _ _,h=>(fL hf h.1).2.1
theorem At.mark_eq(hf:Fw S o):∀{t:Tr},At S t->mU S t.f9=t.mark/\sj S t.f9=t.its.length
 | nil,_=>by
  show (Lf.f_ S 0).1.mark=0/\(Lf.f_ S 0).1.size=0
  rw[Bc];exact⟨rfl,rfl⟩
 | node l d m r,h=>by
  show (Lf.f_ S d.h).1.mark=m/\(Lf.f_ S d.h).1.size=_
  rw[h.f_ hf];exact⟨rfl,rfl⟩
theorem At.isT {S:St}{o:Nat->Nat}(hf:Fw S o):∀{t:Tr},At S t->Lf.isT S t.f9=true
 | nil,_=>rfl
 | node l d m r,h=>by
  show Lf.isT S d.h=true
  unfold Lf.isT;rw[h.f_ hf];simp
theorem oI{x:Nat}(h:x<2^62):num x=some x:=by
 unfold num;grind
theorem At.height(hf:Fw S o){t:Tr}(h:At S t)(hm:t.mark<1000000):eE S t.f9=some t.mark:=by
 unfold eE;rw[(h.mark_eq hf).1];exact oI o_
theorem At.size(hf:Fw S o){t:Tr}(h:At S t)(hm:t.its.length<1000000):fY S t.f9=some t.its.length:=by
 unfold fY;rw[(h.mark_eq hf).2];exact oI o_
theorem jZ(hf:Fw S o){l r:Tr}{d:It}{n n0:Nd}(hl:At S l)(hr:At S r)(hd:i_ S d.h=some (eM n0))(hk0:n0.key=d.kh)(hv0:n0.val=d.vh)(hk:n.key=d.kh)(hv:n.val=d.vh)
 (hnl:d.h∉l.hs) (hnr:d.h∉r.hs) (ml:l.mark<100000) (mr:r.mark<100000) (cl:l.its.length<100000) (cr:r.its.length<100000):
 ∃S',fu S n d.h l.f9 r.f9=some S'/\Fw S' o/\At S' (mk l d r)/\(∀h',h'≠d.h->i_ S' h'=i_ S h')/\ej S S' 0 0:=by
 have hw:=(fL hf hd).2.2.2;have ai:d.kh<2^64:=by rw[<-hk0];exact hw _ (by simp[eM])
 have ar:d.vh<2^64:=by rw[<-hv0];exact hw _ (by simp[eM])
 have ap:ji (nd l d (max l.mark r.mark+1) r):=by
  have:(node l d (max l.mark r.mark+1) r).its.length=l.its.length+(r.its.length+1):=by simp[its]
  refine⟨ai,ar,hl.root_lt hf,hr.root_lt hf,?_,?_⟩
  ·show max l.mark r.mark+1<_;omega
  ·show (node l d (max l.mark r.mark+1) r).its.length<_;omega
 obtain⟨S',e,ad,an,ho,hg⟩:=ww hf hd ap;refine⟨S',?_,ad,?_,ho,hg⟩
 ·unfold fu;rw[hl.height hf o_,hr.height hf o_,hl.size hf o_,hr.size hf o_];grind [mark,max,nd,its]
 ·exact⟨an,hl.frame fun h hm=>ho h fun e=>hnl (e▸hm),hr.frame fun h hm=>ho h fun e=>hnr (e▸hm)⟩
def Sm(t:Tr):Prop:=t.mark<50000/\t.its.length<10000
theorem rq(hf:Fw S o){l a b:Tr}{d e:It}{m m':Nat}(h:At S (node l d m (node a e m' b)))(hd:(node l d m (node a e m' b)).hs.Nodup)(sl:Sm l)(sa:Sm a)(sb:Sm b):
 ∃S',leftM S d.h=some (e.h,S')/\Fw S' o/\At S' (mk (mk l d a) e b)/\(∀h',h'≠d.h->h'≠e.h->i_ S' h'=i_ S h')/\ej S S' 0 0:=by
 obtain⟨h1,h2,h3⟩:=h;have g1:=gw hf h1;have g2:=gw hf h3.1;simp only[eY,aF,aI,aq,ah,not_or] at hd;obtain⟨a6,⟨ad,a7,ar,au⟩,ai⟩:=hd;have nl:d.h∉l.hs:=fun hm=>ai _ hm _ (ab rfl) rfl;have na:d.h∉a.hs:=ad.1;have an:d.h≠e.h:=ad.2.1;have a0:d.h∉b.hs:=ad.2.2;have a5:e.h∉l.hs:=fun hm=>ai _ hm _ (ae (ae (ab rfl))) rfl;have a3:e.h∉a.hs:=fun hm=>au _ hm _ (ab rfl) rfl;have a4:e.h∉b.hs:=ar.1;obtain⟨S1,e1,f1,a1,o1,w1⟩:=jZ hf (n:=nd l d m (node a e m' b)) h2 h3.2.1 h1 rfl rfl rfl rfl nl na (by have:=sl.1;omega) (by have:=sa.1;omega) (by have:=sl.2;omega) (by have:=sa.2;omega);have ap:At S1 b:=h3.2.2.frame fun h hm=>o1 h fun e=>a0 (e▸hm);obtain⟨S2,e2,f2,a2,o2,w2⟩:=jZ f1 (n:=nd a e m' b) (d:=e) a1 ap ((o1 _ fun e=>an e.S).T h3.1) rfl rfl rfl rfl
  (by rw[show (mk l d a).hs=l.hs++d.h::a.hs from eY ..];simp only[aq,ah,not_or];exact⟨a5,fun e=>an e.S,a3⟩) a4
  (by show max l.mark a.mark+1<_;have:=sl.1;have:=sa.1;omega) (by have:=sb.1;omega) (by rw[ga];simp;have:=sl.2;have:=sa.2;omega) (by have:=sb.2;omega)
 refine⟨S2,?_,f2,a2,fun h' q1 q2=>(o2 h' q2).T (o1 h' q1),w1.T w2⟩
 grind [leftM,nd,f9,mk]
theorem sf(hf:Fw S o){a b r:Tr}{d e:It}{m m':Nat}(h:At S (node (node a e m' b) d m r))(hd:(node (node a e m' b) d m r).hs.Nodup)(sa:Sm a)(sb:Sm b)(sr:Sm r):
 ∃S',rightM S d.h=some (e.h,S')/\Fw S' o/\At S' (mk a e (mk b d r))/\(∀h',h'≠d.h->h'≠e.h->i_ S' h'=i_ S h')/\ej S S' 0 0:=by
 obtain⟨h1,h2,h3⟩:=h;have g1:=gw hf h1;have g2:=gw hf h2.1;simp only[eY,aF,aI,aq,ah] at hd;obtain⟨⟨a5,⟨ap,a6⟩,ar⟩,⟨au,a7⟩,ad⟩:=hd;have nr:d.h∉r.hs:=au;have nb:d.h∉b.hs:=fun hm=>ad _ (ae (ae hm)) _ (ab rfl) rfl;have na:d.h∉a.hs:=fun hm=>ad _ (ab hm) _ (ab rfl) rfl;have ai:d.h≠e.h:=fun hm=>ad _ (ae (ab hm)) _ (ab rfl) rfl;have a0:e.h∉a.hs:=fun hm=>ar _ hm _ (ab rfl) rfl;have a3:e.h∉b.hs:=ap;have a4:e.h∉r.hs:=fun hm=>ad _ (ae (ab rfl)) _ (ae hm) rfl;obtain⟨S1,e1,f1,a1,o1,w1⟩:=jZ hf (n:=nd (node a e m' b) d m r) (d:=d) h2.2.2 h3 h1 rfl rfl rfl rfl nb nr (by have:=sb.1;omega) (by have:=sr.1;omega) (by have:=sb.2;omega) (by have:=sr.2;omega);have an:At S1 a:=h2.2.1.frame fun h hm=>o1 h fun e=>na (e▸hm);obtain⟨S2,e2,f2,a2,o2,w2⟩:=jZ f1 (n:=nd a e m' b) (d:=e) an a1 ((o1 _ fun e=>ai e.S).T h2.1) rfl rfl rfl rfl a0
  (by rw[show (mk b d r).hs=b.hs++d.h::r.hs from eY ..];simp only[aq,ah,not_or];exact⟨a3,fun e=>ai e.S,a4⟩)
  (by have:=sa.1;omega) (by show max b.mark r.mark+1<_;have:=sb.1;have:=sr.1;omega) (by have:=sa.2;omega) (by rw[ga];simp;have:=sb.2;have:=sr.2;omega)
 refine⟨S2,?_,f2,a2,fun h' q1 q2=>(o2 h' q2).T (o1 h' q1),w1.T w2⟩
 grind [rightM,nd,f9,mk]
def eZ:Tr->Prop
 | nil=>True
 | node l _ m r=>eZ l/\eZ r/\m=max l.mark r.mark+1/\l.mark<=r.mark+1/\r.mark<=l.mark+1
theorem eZ.mark_le:∀{t:Tr},eZ t->t.mark<=t.its.length
 | nil,_=>Nat.le_refl _
 | node l d m r,⟨h1,h2,h3,_,_⟩=>by
  have:=h1.mark_le;have:=h2.mark_le;show m<=(l.its++d::r.its).length
  simp only[ag,aj];omega
theorem eZ.sm{t:Tr}(h:eZ t)(hl:t.its.length<10000):Sm t:=⟨by have:=h.mark_le;omega,hl⟩
theorem eZ.mk{l r:Tr}(d:It)(hl:eZ l)(hr:eZ r)(h1:l.mark<=r.mark+1)(h2:r.mark<=l.mark+1):eZ (Tr.mk l d r):=⟨hl,hr,rfl,h1,h2⟩
theorem ey(l:Tr)(d:It)(r:Tr):(mk l d r).mark=max l.mark r.mark+1:=rfl
theorem eZ.pos {t:Tr}(h:eZ t)(hm:0<t.mark):∃l d r,t=Tr.mk l d r/\eZ l/\eZ r/\l.mark<=r.mark+1/\r.mark<=l.mark+1:=by
 cases t with
 | nil=>exact absurd hm (by simp[mark])
 | node l d m r=>
  obtain⟨h1,h2,h3,h4,h5⟩:=h;exact⟨l,d,r,by unfold Tr.mk;rw[h3],h1,h2,h4,h5⟩
structure lF (S S':St) (o:Nat->Nat) (hs:List Nat) (t:Tr):Prop where
 fit:Fw S' o
 at':At S' t
 u_:∀h',h'∉hs->i_ S' h'=i_ S h'
 grew:ej S S' 0 0
theorem qKiaf{P:Prop}(h:P:=by
 rw[show (mk a e b).f9=e.h from rfl,g2];simp only[nd];rw[k3,k4];simp only;rw[if_neg c2,e1]
 rfl):P:=h
theorem qKiae{P:Prop}(h:P:=by
 ·intro z1 z2;simp only[ey] at z1 z2;omega):P:=h
theorem tJ(hf:Fw S o){l r:Tr}{d:It}(h:At S (mk l d r))(hd:(mk l d r).hs.Nodup)(bl:eZ l)(br:eZ r)(hc:(mk l d r).its.length<10000)(q1:l.mark<=r.mark+2)(q2:r.mark<=l.mark+2):
 ∃t S',balM S d.h=some (t.f9,S')/\lF S S' o (mk l d r).hs t/\eZ t/\t.its=(mk l d r).its/\t.mark<=max l.mark r.mark+1/\max l.mark r.mark<=t.mark/\(l.mark<=r.mark+1->r.mark<=l.mark+1->t.mark=max l.mark r.mark+1):=by
 have an:l.its.length<10000/\r.its.length<10000:=by rw[ga] at hc;grind
 have sl:=bl.sm an.1;have sr:=br.sm an.2;have g1:=gw hf h.1;have k1:=h.2.1.height hf (by have:=sl.1;omega);have k2:=h.2.2.height hf (by have:=sr.1;omega)
 by_cases c1:r.mark+1<l.mark
 ·obtain⟨a,e,b,rfl,ba,bb,a4,a5⟩:=bl.pos o_;rw[ey] at c1 q1 q2;have ad:a.its.length<10000/\b.its.length<10000:=by rw[ga] at an;grind
  have sa:=ba.sm ad.1;have sb:=bb.sm ad.2;have hl:=h.2.1;have g2:=gw hf hl.1;have k3:=hl.2.1.height hf (by have:=sa.1;omega);have k4:=hl.2.2.height hf (by have:=sb.1;omega);have a8:d.h∈(mk (mk a e b) d r).hs:=by grind [mk,hs,eY]
  have a9:e.h∈(mk (mk a e b) d r).hs:=by grind [mk,hs,eY]
  by_cases c2:a.mark<b.mark
  ·obtain⟨b1,x,b2,rfl,ap,ai,bj,bk⟩:=bb.pos o_;rw[ey] at c1 c2 a4 a5 q1 q2;have ar:b1.its.length<10000/\b2.its.length<10000:=by have:=ad.2;rw[ga] at this;grind
   have s2:=ai.sm ar.2;have b0:x.h∈(mk (mk a e (mk b1 x b2)) d r).hs:=by
    grind [mk,hs,eY]
   have bt:(mk a e (mk b1 x b2)).hs.Nodup:=by
    grind [mk,hs,eY,List.nodup_append]
   obtain⟨S1,e1,f1,a1,o1,w1⟩:=rq hf hl bt sa (ap.sm ar.1) s2;have bo:d.h∉(mk a e (mk b1 x b2)).hs:=by
    grind [mk,hs,eY,List.nodup_append,List.mem_cons_self]
   have bv:(mk (mk a e b1) x b2).hs=(mk a e (mk b1 x b2)).hs:=by unfold hs;simp[ga]
   have bq:d.h∉r.hs:=by
    grind [mk,hs,eY,List.nodup_cons,List.nodup_append]
   have bf:∀y,y∈(mk a e (mk b1 x b2)).hs->y≠d.h:=fun y hy e=>bo (e▸hy);have au:e.h∈(mk a e (mk b1 x b2)).hs:=by grind [mk,hs,eY]
   have a0:x.h∈(mk a e (mk b1 x b2)).hs:=by grind [mk,hs,eY]
   have bd:∀y∈r.hs,y∉(mk a e (mk b1 x b2)).hs:=by
    grind [mk,hs,eY,List.nodup_append,List.mem_cons_of_mem]
   have bu:At S1 r:=h.2.2.frame fun y hy=>o1 y (fun e=>bd y hy (e▸au)) (fun e=>bd y hy (e▸a0));obtain⟨S2,e2,f2,a2,o2,w2⟩:=jZ f1 (n:=nd (mk a e (mk b1 x b2)) d (max (mk a e (mk b1 x b2)).mark r.mark+1) r) (d:=d) a1 bu ((o1 _ (fun e=>bf _ au e.S) (fun e=>bf _ a0 e.S)).T h.1) rfl rfl rfl rfl
    (by grind) bq (by rw[ey,ey];have:=sa.1;omega) (by have:=sr.1;omega)
    (by grind [mk,ga]) o_
   have a7:Sm (mk a e b1):=⟨by rw[ey];have:=(ba.mark_le);omega,by have:=an.1;simp[ga] at this⊢;omega⟩;have a6:(mk (mk (mk a e b1) x b2) d r).hs.Nodup:=by
    grind [mk,hs,eY]
   obtain⟨S3,e3,f3,a3,o3,w3⟩:=sf f2 a2 a6 a7 s2 sr;refine⟨mk (mk a e b1) x (mk b2 d r),S3,?_,⟨f3,a3,?_,(w1.T w2).T w3⟩,?_,?_,?_,?_,?_⟩
   ·unfold balM;rw[g1];simp only[nd];rw[k1,k2];simp only;rw[if_pos (by rw[ey,ey];omega)];rw[show (mk a e (mk b1 x b2)).f9=e.h from rfl,g2];simp only[nd];rw[k3,k4];simp only;rw[if_pos (by rw[ey];omega),e1]
    grind [mk,f9,nd]
   ·grind
   ·refine eZ.mk _ (eZ.mk _ ba ap ?_ ?_) (eZ.mk _ ai br ?_ ?_) ?_ ?_<;>(try simp only[ey])<;>omega
   ·simp[ga]
   ·simp only[ey];omega
   ·simp only[ey];omega
   exact qKiae
  ·obtain⟨S1,e1,f1,a1,o1,w1⟩:=sf hf h hd sa sb sr;refine⟨mk a e (mk b d r),S1,?_,⟨f1,a1,fun y hy=>o1 y (fun e=>hy (e▸a8)) (fun e=>hy (e▸a9)),w1⟩,?_,?_,?_,?_,?_⟩
   ·unfold balM;rw[g1];simp only[nd];rw[k1,k2];simp only;rw[if_pos (by rw[ey];omega)];exact qKiaf
   ·refine eZ.mk _ ba (eZ.mk _ bb br ?_ ?_) ?_ ?_<;>(try simp only[ey])<;>omega
   ·simp[ga]
   ·simp only[ey];omega
   ·simp only[ey];omega
   exact qKiae
 ·by_cases c1':l.mark+1<r.mark
  ·obtain⟨a,e,b,rfl,ba,bb,a4,a5⟩:=br.pos o_;rw[ey] at c1 c1' q1 q2;have ad:a.its.length<10000/\b.its.length<10000:=by rw[ga] at an;grind
   have sa:=ba.sm ad.1;have sb:=bb.sm ad.2;have hr:=h.2.2;have g2:=gw hf hr.1;have k3:=hr.2.1.height hf (by have:=sa.1;omega);have k4:=hr.2.2.height hf (by have:=sb.1;omega);have a8:d.h∈(mk l d (mk a e b)).hs:=by grind [mk,hs,eY]
   have a9:e.h∈(mk l d (mk a e b)).hs:=by grind [mk,hs,eY]
   by_cases c2:b.mark<a.mark
   ·obtain⟨b1,x,b2,rfl,ap,ai,bj,bk⟩:=ba.pos o_;rw[ey] at c1 c1' c2 a4 a5 q1 q2;have ar:b1.its.length<10000/\b2.its.length<10000:=by have:=ad.1;rw[ga] at this;grind
    have s1:=ap.sm ar.1;have bx:(mk l d (mk (mk b1 x b2) e b)).hs=l.hs++d.h::(mk (mk b1 x b2) e b).hs:=eY ..;have b4:(mk (mk b1 x b2) e b).hs=(mk b1 x b2).hs++e.h::b.hs:=eY ..;have b9:(mk b1 x b2).hs=b1.hs++x.h::b2.hs:=eY ..;have a':=hd;rw[bx] at a';obtain⟨n1,n2,n3⟩:=aF.1 a';obtain⟨n4,n5⟩:=aI.1 n2;have b0:x.h∈(mk l d (mk (mk b1 x b2) e b)).hs:=by grind
    have au:e.h∈(mk (mk b1 x b2) e b).hs:=by grind
    have a0:x.h∈(mk (mk b1 x b2) e b).hs:=by grind
    obtain⟨S1,e1,f1,a1,o1,w1⟩:=sf hf hr n5 s1 (ai.sm ar.2) sb;have bv:(mk b1 x (mk b2 e b)).hs=(mk (mk b1 x b2) e b).hs:=by unfold hs;simp[ga]
    have bm:d.h∉l.hs:=fun hm=>n3 _ hm _ (av ..) rfl;have bc:∀y∈l.hs,y∉(mk (mk b1 x b2) e b).hs:=fun y hy hm=>n3 _ hy _ (ak _ hm) rfl;have bs:At S1 l:=h.2.1.frame fun y hy=>o1 y (fun e=>bc y hy (e▸au)) (fun e=>bc y hy (e▸a0));obtain⟨S2,e2,f2,a2,o2,w2⟩:=jZ f1 (n:=nd l d (max l.mark (mk (mk b1 x b2) e b).mark+1) (mk (mk b1 x b2) e b)) (d:=d) bs a1 ((o1 d.h (fun q=>n4 (q.S▸au)) (fun q=>n4 (q.S▸a0))).T h.1) rfl rfl rfl rfl
     bm (by grind) (by have:=sl.1;omega) (by rw[ey,ey];have:=sb.1;omega) o_
     (by grind [mk,ga])
    have a7:Sm (mk b2 e b):=⟨by rw[ey];have:=ai.mark_le;omega,by have:=an.2;simp[ga] at this⊢;omega⟩;have a6:(mk l d (mk b1 x (mk b2 e b))).hs.Nodup:=by
     grind [mk,hs,eY]
    obtain⟨S3,e3,f3,a3,o3,w3⟩:=rq f2 a2 a6 sl s1 a7;refine⟨mk (mk l d b1) x (mk b2 e b),S3,?_,⟨f3,a3,?_,(w1.T w2).T w3⟩,?_,?_,?_,?_,?_⟩
    ·unfold balM;rw[g1];simp only[nd];rw[k1,k2];simp only;rw[if_neg (by rw[ey,ey];omega),if_pos (by rw[ey,ey];omega)];rw[show (mk (mk b1 x b2) e b).f9=e.h from rfl,g2];simp only[nd];rw[k3,k4];simp only;rw[if_pos (by rw[ey];omega),e1]
     grind [mk,f9,nd]
    ·grind
    ·refine eZ.mk _ (eZ.mk _ bl ap ?_ ?_) (eZ.mk _ ai bb ?_ ?_) ?_ ?_<;>(try simp only[ey])<;>omega
    ·simp[ga]
    ·simp only[ey];omega
    ·simp only[ey];omega
    exact qKiae
   ·obtain⟨S1,e1,f1,a1,o1,w1⟩:=rq hf h hd sl sa sb;refine⟨mk (mk l d a) e b,S1,?_,⟨f1,a1,fun y hy=>o1 y (fun e=>hy (e▸a8)) (fun e=>hy (e▸a9)),w1⟩,?_,?_,?_,?_,?_⟩
    ·unfold balM;rw[g1];simp only[nd];rw[k1,k2];simp only;rw[if_neg (by rw[ey];omega),if_pos (by rw[ey];omega)];exact qKiaf
    ·refine eZ.mk _ (eZ.mk _ bl ba ?_ ?_) bb ?_ ?_<;>(try simp only[ey])<;>omega
    ·simp[ga]
    ·simp only[ey];omega
    ·simp only[ey];omega
    exact qKiae
  ·refine⟨mk l d r,S,?_,⟨hf,h,fun _ _=>rfl,ej.refl S⟩,eZ.mk _ bl br o_ o_,rfl,by rw[ey];omega,by rw[ey];omega,fun _ _=>rfl⟩;unfold balM;rw[g1];simp only[nd];rw[k1,k2];simp only;rw[if_neg c1,if_neg c1']
   rfl
end Tr
end
section
open Go.RowKit Tryz Go.BigFrame Go.Maps Go.WideMaps Lf Tr
def Tr.h_:Tr->List (It×Nd)
 | .nil=>[]
 | .node l d m r=>h_ l++(d,nd l d m r)::h_ r
def Tr.late:Tr->List (It×Nd)
 | .nil=>[]
 | .node l d m r=>(d,nd l d m r)::h_ r
def Tr.restN(r:Tr)(st:List Tr):List (It×Nd):=r.h_++st.flatMap late
def Tr.topH:Tr->Nat
 | .nil=>0
 | .node _ d _ _=>d.h
theorem Tr.restN_push(l:Tr)(d:It)(m:Nat)(r:Tr)(st:List Tr):restN l (.node l d m r::st)=restN (.node l d m r) st:=by
 unfold restN;simp[h_,late]
theorem Tr.restN_pop(l:Tr)(d:It)(m:Nat)(r:Tr)(st:List Tr):restN .nil (.node l d m r::st)=(d,nd l d m r)::restN r st:=by
 unfold restN;simp[h_,late]
theorem Tr.restN_nil:restN .nil []=[]:=rfl
theorem Tr.nodes_its:∀t:Tr,t.h_.map (·.1)=t.its
 | .nil=>rfl
 | .node l d m r=>by
  show (h_ l++(d,nd l d m r)::h_ r).map (·.1)=l.its++d::r.its
  rw[<-nodes_its l,<-nodes_its r];simp
theorem Tr.nodes_len(t:Tr):t.h_.length=t.its.length:=by rw[<-nodes_its,am]
theorem Tr.nodes_h(t:Tr):t.h_.map (·.1.h)=t.hs:=by
 unfold Tr.hs;rw[<-nodes_its,cQ];rfl
theorem Tr.nodes_at {S:St}:∀{t:Tr},At S t->∀x∈t.h_,∃l m r,x.2=nd l x.1 m r/\At S (.node l x.1 m r)/\l.its.length+r.its.length<t.its.length/\(∀y∈l.its,y∈t.its)/\∀y∈r.its,y∈t.its
 | .nil,_,x,hx=>by cases hx
 | .node l d m r,⟨h1,h2,h3⟩,x,hx=>by
  have hs:∀y,y∈(Tr.node l d m r).its↔y∈l.its\/y=d\/y∈r.its:=fun y=>by
   show y∈l.its++d::r.its↔_
   rw[aq,ah]
  have hl:(Tr.node l d m r).its.length=l.its.length+(r.its.length+1):=by
   show (l.its++d::r.its).length=_
   rw[ag,aj]
  rcases aq.1 (show x∈h_ l++(d,nd l d m r)::h_ r from hx) with hx | hx
  ·obtain⟨l',m',r',e1,e2,e3,e4,e5⟩:=nodes_at h2 x hx;exact⟨l',m',r',e1,e2,o_,fun y hy=>(hs y).2 (.inl (e4 y hy)),fun y hy=>(hs y).2 (.inl (e5 y hy))⟩
  ·rcases ah.1 hx with rfl | hx
   ·exact⟨l,m,r,rfl,⟨h1,h2,h3⟩,o_,fun y hy=>(hs y).2 (.inl hy),fun y hy=>(hs y).2 (.inr (.inr hy))⟩
   ·obtain⟨l',m',r',e1,e2,e3,e4,e5⟩:=nodes_at h3 x hx;exact⟨l',m',r',e1,e2,o_,fun y hy=>(hs y).2 (.inr (.inr (e4 y hy))),fun y hy=>(hs y).2 (.inr (.inr (e5 y hy)))⟩
end
section
open Go.RowKit Tryz Go.BigFrame Go.Maps Go.WideMaps Lf
variable{S:St}{W:World}{Y:Nat->Prop}{b:Nat}{fr:Nat×Nat}{l_:Nat}{ps:Nat}{t:TypeId}{w:World}
def eL(f:FuncId):Value:=.func (.func f) #[] #[]
def j6(l_:Nat)(j c:FuncId):Prop:=∀W,Cb 208 #[Xi l_] W (.tuple #[.agg #[eL j,eL c],.bool true])
def gS(ps:Nat)(j c:FuncId):Value:=.agg #[PV ps,eL j,eL c]
theorem ew{u0 u1:Value}(h:W.1[b]?=some (.cells #[u0,u1] t fr))(v0 v1:Value):((W.setCell (y_ b) (v0)).setCell (x_ b 1) (v1)).1[b]?=some (.cells #[v0,v1] t fr):=by
 rw[heap_setCell (heap_setCell h)];rfl
theorem eT{w W:World}(h:D_ w W)(hb:w.1.size<=b)(v0 v1:Value):D_ w ((W.setCell (y_ b) (v0)).setCell (x_ b 1) (v1)):=
 (h.setCell (p:=y_ b) hb _).setCell (p:=x_ b 1) hb _
theorem xf{u0 u1 u2:Value}(h:W.1[b]?=some (.cells #[u0,u1,u2] t fr))(v0 v1 v2:Value):(((W.setCell (y_ b) (v0)).setCell (x_ b 1) (v1)).setCell (x_ b 2) (v2)).1[b]?=some (.cells #[v0,v1,v2] t fr):=by
 rw[heap_setCell (heap_setCell (heap_setCell h))];rfl
theorem xe{w W:World}(h:D_ w W)(hb:w.1.size<=b)(v0 v1 v2:Value):D_ w (((W.setCell (y_ b) (v0)).setCell (x_ b 1) (v1)).setCell (x_ b 2) (v2)):=
 ((h.setCell (p:=y_ b) hb _).setCell (p:=x_ b 1) hb _).setCell (p:=x_ b 2) hb _
theorem E2:j6 1 141 234:=by
 intro W;simp only[eL];go_enter func208,ntmps208;go_wp2_with fail;exact bodyPost_ret (v:=.tuple #[.agg #[.func (.func 141) #[] #[],.func (.func 234) #[] #[]],.bool true]) (by simp[results,f208,go_sem]) rfl ⟨rfl,(aa _ _).alloc Ih _⟩
theorem qKiaa{P:Prop}(h:P:=by
 obtain⟨c0,c1,c2⟩:=fq r2;obtain⟨f0,f1,f2⟩:=uA r2;obtain⟨d0,d1⟩:=Fp q2;have HX:=kq2 r2 B2;clear r2 B2 q2;go_wp2_with fail;have q3:=xf HX.a (PV ps) (.func (.func j) #[] #[]) (.func (.func c) #[] #[]);have B3:=xe HX.b (Nat.le_refl w.1.size) (PV ps) (.func (.func j) #[] #[]) (.func (.func c) #[] #[]);generalize (((wr.setCell (y_ w.1.size) (PV ps)).setCell (x_ w.1.size 1) (.func (.func j) #[] #[])).setCell (x_ w.1.size 2) (.func (.func c) #[] #[]))=W3 at*;obtain⟨e0,e1,e2⟩:=fq q3;exact bodyPost_ret (v:=.tuple #[.agg #[PV ps,.func (.func j) #[] #[],.func (.func c) #[] #[]],Xi 0]) (by simp[results,f176,go_sem,e0,e1,e2]) rfl ⟨rfl,B3⟩):P:=h
theorem yG(h:Ig w ps S Y)(hi:Fv S){j c:FuncId}(hk:j6 l_ j c):
 Cb 176 #[PV ps,Xi l_,.string ⟨#[]⟩,n_] w (.tuple #[gS ps j c,Xi 0]):=by
 have q0:=heap_alloc_new w (.cells #[.pointer none,.nilFunc,.nilFunc] 265);have B0:=c_ w (.cells #[.pointer none,.nilFunc,.nilFunc] 265);have ai:=fB (h.a_ B0) hi 0 o_;rw[fU] at ai;simp only[gS,j6,eL] at hk⊢;have HG:=kq4 ai hk q0 B0;clear ai hk h hi q0 B0;go_enter func176,ntmps176;go_wp2_with fail;refine Jc HG.a ?_;go_wp2_with fail;refine dR (HG.b _) fun w2 hb2=>?_;have ad:=hb2.alloc hb2.size (.cells #[.func (.func j) #[] #[],.func (.func c) #[] #[]] 263);have r2:=(ad.block w.1.size s_).T HG.c;have q2:=heap_alloc_new w2 (.cells #[.func (.func j) #[] #[],.func (.func c) #[] #[]] 263);have B2:=b_ HG.d ad;go_wp2_with fail;generalize w2.alloc (.cells #[.func (.func j) #[] #[],.func (.func c) #[] #[]] 263)=W at*;generalize w2.1.size=bt at*;have HR:=kq3 r2 B2 q2;clear r2 B2 hb2 ad q2
 go_loopw [15,16,17,40] (fun _ _ _ i wr=>i=Xi 0/\wr=W) (fun _ _ _ _ _=>0)
 case atStart=>exact⟨rfl,rfl⟩
 case round=>
  obtain⟨rfl,rfl⟩:=hrel;obtain⟨r2,B2,q2⟩:=HR.O;exact qKiaa
theorem yH(h:Ig w ps S Y)(hi:Fv S){j c:FuncId}(hk:j6 l_ j c)(a b:Nat)(ha:a<2^64)(hb:b<2^64)(hta:isT S a=true)(htb:isT S b=true)(rb:Nat)(hr:w.1[rb]?=some (.cells #[Xu a,Xu b] t fr)):
 Cb 176 #[PV ps,Xi l_,.string ⟨#[]⟩,.slice (some (y_ rb)) 2 2] w (.tuple #[gS ps j c,Xi 0]):=by
 have q0:=heap_alloc_new w (.cells #[.pointer none,.nilFunc,.nilFunc] 265);have B0:=c_ w (.cells #[.pointer none,.nilFunc,.nilFunc] 265);have a6:=fB (h.a_ B0) hi 0 o_;rw[fU] at a6;have ap:=fun W (hW:D_ w W)=>iO (h.a_ hW) hi a ha;have ar:=fun W (hW:D_ w W)=>iO (h.a_ hW) hi b hb;have ai:∀er:Nat,(f_ S a).2=er->(((a:Int) !=0) && ((er:Int) !=0))=false:=fun er he=>by
  unfold isT at hta;simp only[he,Bool.or_eq_true,decide_eq_true_eq] at hta
  rcases hta with e | e<;>simp[e]
 have an:∀er:Nat,(f_ S b).2=er->(((b:Int) !=0) && ((er:Int) !=0))=false:=fun er he=>by
  unfold isT at htb;simp only[he,Bool.or_eq_true,decide_eq_true_eq] at htb
  rcases htb with e | e<;>simp[e]
 obtain⟨⟨⟨a0,a1,a2,a3,a4,a5⟩,ea⟩,a7⟩:∃q,f_ S a=q:=⟨_,rfl⟩;obtain⟨⟨⟨b0,b1,b2,b3,b4,b5⟩,eb⟩,a8⟩:∃q,f_ S b=q:=⟨_,rfl⟩;rw[a7] at ap ai;rw[a8] at ar an;have ai:=ai ea rfl;have an:=an eb rfl;simp only[gS,j6,eL,eS] at hk ap ar⊢;have HG:=kq7 a6 hk q0 B0 ap ar hr;clear a6 hk h hi q0 B0 ap ar hta htb a7 a8 hr;have HZ:=kq2 ai an;clear ai an;go_enter func176,ntmps176;go_wp2_with fail;refine Jc HG.a ?_;go_wp2_with fail;refine dR (HG.b _) fun w2 hb2=>?_;have au:=hb2.alloc hb2.size (.cells #[.func (.func j) #[] #[],.func (.func c) #[] #[]] 263);have r2:=(au.block w.1.size s_).T HG.c;have q2:=heap_alloc_new w2 (.cells #[.func (.func j) #[] #[],.func (.func c) #[] #[]] 263);have B2:=b_ HG.d au;have a9:w.1.size<w2.1.size:=by have:=hb2.size;simp at this;omega
 go_wp2_with fail;generalize w2.alloc (.cells #[.func (.func j) #[] #[],.func (.func c) #[] #[]] 263)=W at*;generalize w2.1.size=bt at*;have HR:=kq4 r2 B2 q2 a9;clear r2 B2 hb2 au q2 a9
 go_loopw [15,16,17,40] (fun _ _ _ i wr=>(i=Xi 0/\D_ W wr)\/(i=Xi 1/\D_ W wr)\/(i=Xi 2/\D_ W wr)) (fun _ _ _ i _=>2-(intOf i).toNat)
 case atStart=>exact ab ⟨rfl,aa _ _⟩
 case round=>
  obtain⟨rfl,hW⟩ | ⟨rfl,hW⟩ | ⟨rfl,hW⟩:=hrel
  ·have ad:=((b_ HR.b hW).block rb (gl HG.g)).T HG.g;obtain⟨c0,c1⟩:=Fp ad;have HW:=If hW;clear hW ad;go_wp2_with fail;refine dR (HG.e _ (b_ HR.b HW.O)) fun w5 hb5=>?_;have H5:=If ((b_ HW.O hb5).alloc (b_ HW.O hb5).size (Xb a0 a1 a2 a3 a4 a5));clear hb5;have hz:=HZ.a;go_wp2_with fail
   all_goals exact⟨ae (ab ⟨rfl,H5.O⟩),by simp[intOf]⟩
  ·have ad:=((b_ HR.b hW).block rb (gl HG.g)).T HG.g;obtain⟨c0,c1⟩:=Fp ad;have HW:=If hW;clear hW ad;go_wp2_with fail;refine dR (HG.f _ (b_ HR.b HW.O)) fun w5 hb5=>?_;have H5:=If ((b_ HW.O hb5).alloc (b_ HW.O hb5).size (Xb b0 b1 b2 b3 b4 b5));clear hb5;have hz:=HZ.b;go_wp2_with fail
   all_goals exact⟨ae (ae ⟨rfl,H5.O⟩),by simp[intOf]⟩
  ·obtain⟨r2,B2,q2,-⟩:=HR.O
   replace B2:=b_ B2 hW
   replace r2:=(hW.block _ (gl r2)).T r2
   replace q2:=(hW.block _ (gl q2)).T q2
   exact qKiaa
theorem xj{u0 u1 u2 u3 u4 u5:Value}(h:W.1[b]?=some (.cells #[u0,u1,u2,u3,u4,u5] t fr))(v0 v1 v2 v3 v4 v5:Value):((((((W.setCell (y_ b) (v0)).setCell (x_ b 1) (v1)).setCell (x_ b 2) (v2)).setCell (x_ b 3) (v3)).setCell (x_ b 4) (v4)).setCell (x_ b 5) (v5)).1[b]?=some (.cells #[v0,v1,v2,v3,v4,v5] t fr):=by
 rw[heap_setCell (heap_setCell (heap_setCell (heap_setCell (heap_setCell (heap_setCell h)))))];rfl
theorem LU{w W:World}(h:D_ w W)(hb:w.1.size<=b)(v0 v1 v2 v3 v4 v5:Value):D_ w ((((((W.setCell (y_ b) (v0)).setCell (x_ b 1) (v1)).setCell (x_ b 2) (v2)).setCell (x_ b 3) (v3)).setCell (x_ b 4) (v4)).setCell (x_ b 5) (v5)):=
 (((((h.setCell (p:=y_ b) hb _).setCell (p:=x_ b 1) hb _).setCell (p:=x_ b 2) hb _).setCell (p:=x_ b 3) hb _).setCell (p:=x_ b 4) hb _).setCell (p:=x_ b 5) hb _
structure kW (j:FuncId) (jn:Jn):Prop where
 enter:∀(args:Array Value) (w:World),(callFunc j args).run prog w=.ok (.enter j args) w
 inv:∀{S S':St} {l m r:Nat} {R:Nat×Nat},Fv S->jn S l m r=some (R,S')->Fv S'
 lt:∀{S S':St} {l m r:Nat} {R:Nat×Nat},Fv S->l<2^64->m<2^64->r<2^64->jn S l m r=some (R,S')->R.1<2^64
 ok:∀{S S':St} {l m r:Nat} {R:Nat×Nat},jn S l m r=some (R,S')->R.2=0
 call:∀{w:World} {ps:Nat} {S S':St} {Y:Nat->Prop} {l m r:Nat} {R:Nat×Nat},Ig w ps S Y->Fv S->l<2^64->m<2^64->r<2^64->jn S l m r=some (R,S')->
  Ct j #[PV ps,Xu l,Xu m,Xu r] w fun e w'=>e=.returned (.tuple #[Xu R.1,Xi R.2])/\Ig w' ps S' Y/\Fo Y w w'
theorem nW{j:FuncId}{jn:Jn}(hj:kW j jn){S S':St}{l m r x:Nat}(h:jq jn S l m r=some (x,S')):jn S l m r=some ((x,0),S'):=by
 unfold jq at h;obtain⟨⟨⟨a,b⟩,S1⟩,h1,h2⟩:=aG.1 h;have:=hj.ok h1;simp only at this;subst this;simp only[if_true] at h2
 injection h2 with e1 e2
 rw[h1,e1,e2]
theorem qn{S S':St}(h:Ig w ps S Y)(hi:Fv S){j c:FuncId}{jn:Jn}(hj:kW j jn)(l m r:Nat)(hl:l<2^64)(hm:m<2^64)(hr:r<2^64){x:Nat}(hx:jq jn S l m r=some (x,S')):
 Ct 313 #[gS ps j c,Xu l,Xu m,Xu r] w fun e w'=>e=.returned (Xu x)/\Ig w' ps S' Y/\Fo Y w w':=by
 have h1:=nW hj hx;have q0:=heap_alloc_new w (.cells #[PV ps,eL j,eL c] 265);have B0:=c_ w (.cells #[PV ps,eL j,eL c] 265);have hc:=hj.call (h.a_ B0) hi hl hm hr h1;simp only[gS,eL] at q0 B0 hc⊢;have ad:=hj.enter;have HG:=kq4 hc B0 q0 h;clear hc q0 B0 h hi hj hx h1;go_enter func313,ntmps313;go_wp2_with fail;refine HG.a.M ?_;rintro e w1 ⟨rfl,h1,k1⟩;have H1:=kq2 h1 ((Fo.v_ HG.b HG.d.yl).T k1);clear h1 k1;go_wp2_with fail;go_ret;exact⟨rfl,H1.O⟩
theorem AD(h:Ig w ps S Y)(hi:Fv S){j c:FuncId}(hh:Nat)(hl:hh<2^64){t:List UInt8}(ht:gD S (f_ S hh).1.key=some t):
 Cb 315 #[gS ps j c,Xu hh] w (.tuple #[SV t,eS (f_ S hh).1]):=by
 have hlt:=fs h hh;have hg:=fun W (hW:D_ w W)=>iO (h.a_ hW) hi hh hl;obtain⟨⟨⟨k0,k1,k2,k3,k4,k5⟩,er⟩,hE⟩:∃q,f_ S hh=q:=⟨_,rfl⟩;rw[hE] at hg hlt ht⊢;unfold gD at ht
 split at ht
 ·cases ht
 rename_i h8;have ht:=Option.some.inj ht;have hb:=fun W (hW:D_ w W)=>iz (h.a_ hW) hi k0 hlt.key h8;simp only at hb ht;rw[ht] at hb;generalize (fz S k0).2=eb at*;have q0:=heap_alloc_new w (.cells #[PV ps,eL j,eL c] 265);have B1:=c_ w (.cells #[PV ps,eL j,eL c] 265);have Bz:=(aa (w.alloc (.cells #[PV ps,eL j,eL c] 265)).1.size (w.alloc (.cells #[PV ps,eL j,eL c] 265))).alloc Ih (.cells #[Xu 0,Xu 0,Xu 0,Xu 0,Xu 0,Xu 0] 139);have q1:=(Bz.block w.1.size s_).T q0;have z1:=heap_alloc_new (w.alloc (.cells #[PV ps,eL j,eL c] 265)) (.cells #[Xu 0,Xu 0,Xu 0,Xu 0,Xu 0,Xu 0] 139);have B0:=b_ B1 Bz;simp only[World.size_alloc] at z1;simp only[gS,eL,eS] at B0 hg q1 z1⊢;have HG:=kq5 hg hb B0 q1 z1;clear hg hb B0 h hi hlt hE ht h8 q0 q1 B1 Bz z1;go_enter func315,ntmps315;go_wp2_with fail;refine dR (HG.a _ HG.c) fun w1 hb1=>?_;have ad:=hb1.alloc hb1.size (Xb k0 k1 k2 k3 k4 k5);have q2:=heap_alloc_new w1 (Xb k0 k1 k2 k3 k4 k5);have r2:=(ad.block w.1.size m_).T HG.d;have z2:=(ad.block (w.1.size+1) s_).T HG.e;obtain⟨c0,c1,c2⟩:=fq r2;have H2:=kq3 (b_ HG.c ad) q2 z2;clear hb1 ad q2 r2 z2;go_wp2_with fail;refine dR (HG.b _ H2.a) fun w3 hb3=>?_;have q3:=(hb3.block _ (gl H2.b)).T H2.b;have z3:=(hb3.block _ (gl H2.c)).T H2.c;obtain⟨d0,d1,d2,d3,d4,d5⟩:=ia q3;obtain⟨e0,e1,e2,e3,e4,e5⟩:=ia z3;obtain⟨f0,f1,f2,f3,f4,f5⟩:=lP z3;have H3:=kq2 (b_ H2.a hb3) z3;clear hb3 q3 z3;go_wp2_with fail
 go_region
 go_wp2_with fail;have q6:((((((w3.setCell (y_ (w.1.size+1)) (Xu k0)).setCell (x_ (w.1.size+1) 1) (Xu k1)).setCell (x_ (w.1.size+1) 2) (Xu k2)).setCell (x_ (w.1.size+1) 3) (Xu k3)).setCell (x_ (w.1.size+1) 4) (Xu k4)).setCell (x_ (w.1.size+1) 5) (Xu k5)).drew.1[w.1.size+1]?=_:=xj H3.b (Xu k0) (Xu k1) (Xu k2) (Xu k3) (Xu k4) (Xu k5);have B6:=(LU H3.a (dz w.1.size) (Xu k0) (Xu k1) (Xu k2) (Xu k3) (Xu k4) (Xu k5)).drew;generalize ((((((w3.setCell (y_ (w.1.size+1)) (Xu k0)).setCell (x_ (w.1.size+1) 1) (Xu k1)).setCell (x_ (w.1.size+1) 2) (Xu k2)).setCell (x_ (w.1.size+1) 3) (Xu k3)).setCell (x_ (w.1.size+1) 4) (Xu k4)).setCell (x_ (w.1.size+1) 5) (Xu k5)).drew=W6 at*;obtain⟨g0,g1,g2,g3,g4,g5⟩:=ia q6;exact bodyPost_ret (v:=.tuple #[SV t,.agg #[Xu k0,Xu k1,Xu k2,Xu k3,Xu k4,Xu k5]]) (by simp[results,f315,go_sem,g0,g1,g2,g3,g4,g5]) rfl ⟨rfl,B6⟩
theorem uf{j c:FuncId}{jn:Jn}(hjn:kW j jn)(key:List UInt8):∀(f d:Nat),d+f=200->∀{w:World} {S S':St} {Y:Nat->Prop} {f9 l m r:Nat},Ig w ps S Y->Fv S->f9<2^64->
 kr jn key f S f9=some ((l,m,r),S')->
 (Ct 312 #[gS ps j c,Xu f9,SV key,Xi d] w fun e w'=>e=.returned (.tuple #[Xu l,Xu m,Xu r])/\Ig w' ps S' Y/\Fo Y w w')/\Fv S'/\l<2^64/\m<2^64/\r<2^64:=by
 intro f;induction f with
 | zero=>
  intro d hd w S S' Y f9 l m r h hi hl hs;obtain rfl:d=200:=o_
  rw[wZ] at hs;have hs:=Option.some.inj hs;injection hs with e1 e2
  injection e1 with e1 e3
  injection e3 with e3 e4
  subst e1 e2 e3 e4;refine⟨?_,hi,d_,d_,d_⟩;have HG:=kq2 (h.a_ (c_ w (.cells #[PV ps,.func (.func j) #[] #[],.func (.func c) #[] #[]] 265))) (h.w_ (c_ w (.cells #[PV ps,.func (.func j) #[] #[],.func (.func c) #[] #[]] 265)));simp only[gS,eL];clear h hi hd hjn;go_enter func312,ntmps312;go_wp2_with fail;all_goals (go_ret3;exact⟨rfl,HG.O⟩)
 | succ f ih=>
  intro d hd w S S' Y f9 l m r h hi hl hs;rw[sk] at hs;split at hs
  ·rename_i h0;subst h0;have hs:=Option.some.inj hs;injection hs with e1 e2
   injection e1 with e1 e3
   injection e3 with e3 e4
   subst e1 e2 e3 e4;refine⟨?_,hi,d_,d_,d_⟩;have HG:=kq2 (h.a_ (c_ w (.cells #[PV ps,.func (.func j) #[] #[],.func (.func c) #[] #[]] 265))) (h.w_ (c_ w (.cells #[PV ps,.func (.func j) #[] #[],.func (.func c) #[] #[]] 265)));simp only[gS,eL];clear h hi hd hjn ih;go_enter func312,ntmps312;go_wp2_with fail;all_goals (go_ret3;exact⟨rfl,HG.O⟩)
  ·rename_i h0;split at hs
   ·cases hs
   rename_i k hk;have hq:((f9:Int)==0)=false:=m_
   have bb:((d:Int)==200)=false:=m_
   have bc:IntKind.i64.wrap ((d:Int)+1)=(d:Int)+1:=ax _ o_;have hlt:=fs h f9;have q0:=heap_alloc_new w (.cells #[PV ps,eL j,eL c] 265);have B0:=c_ w (.cells #[PV ps,eL j,eL c] 265);have an:=fun W (hW:D_ w W)=>AD (j:=j) (c:=c) (h.a_ hW) hi f9 hl hk;have a5:=fun W=>sT key k W;split at hs
   ·rename_i hc;have a':(Fu key k<0)=True:=eq_true hc;split at hs
    ·cases hs
    rename_i l1 m1 r1 S1 h1;obtain⟨⟨x,S2⟩,au,he⟩:=aG.1 hs;injection he with e1 e2
    injection e1 with e1 e3
    injection e3 with e3 e4
    simp only at e1 e3 e4 au;subst e1 e2 e3 e4;have ai:=fun W Z (hW:Ig W ps S Z)=>(ih (d+1) o_ hW hi hlt.left h1).1;obtain⟨-,ar,a1,a6,a3⟩:=ih (d+1) o_ h hi hlt.left h1;have a4:=nW hjn au;have ad:=fun W Z (hW:Ig W ps S1 Z)=>qn (c:=c) hW ar hjn r1 f9 (f_ S f9).1.right a3 hl hlt.right au;refine⟨?_,hjn.inv ar a4,a1,a6,(by have q:=hjn.lt ar (by first | exact hl | exact a3 | exact hlt.right) (by first | exact hl | exact a3 | exact hlt.right) (by first | exact hl | exact a3 | exact hlt.right) a4;exact q)⟩;obtain⟨⟨⟨k0,k1,k2,k3,k4,k5⟩,er⟩,hE⟩:∃q,f_ S f9=q:=⟨_,rfl⟩;rw[hE] at an hlt ai ad;simp only at hlt ai ad;simp only[gS,eL,eS] at q0 B0 an ai ad⊢;have HG:=kq7 an a5 q0 B0 ai ad h;clear an a5 q0 B0 ai ad h hi hE hk h1 hs au ar hjn ih hd h0 hlt a1 a6 a3 a4 hl;go_enter func312,ntmps312;go_wp2_with fail;refine dR (HG.a _ HG.d) fun w1 hb1=>?_;have ap:=hb1.alloc hb1.size (Xb k0 k1 k2 k3 k4 k5);have q2:=heap_alloc_new w1 (Xb k0 k1 k2 k3 k4 k5);have r2:=(ap.block w.1.size s_).T HG.c;have a2:w.1.size<=w1.1.size:=by have:=hb1.size;simp at this;omega
    have B2:=b_ HG.d ap;go_wp2_with fail;generalize w1.alloc (Xb k0 k1 k2 k3 k4 k5)=W at*;generalize w1.1.size=b12 at*;refine Jc (HG.b _) ?_;obtain⟨c0,c1,c2⟩:=fq r2;obtain⟨d0,d1,d2,d3,d4,d5⟩:=ia q2;have l8:=(gl r2);have a9:=(gl q2);have H2:=kq3 B2 r2 q2;have a8:=If a2;clear hb1 ap q2 r2 B2 a2;go_wp2_with fail;refine(HG.e _ _ (HG.g.wide H2.a)).M ?_;rintro e w3 ⟨rfl,h3,a0⟩;have r3:=(a0.block w.1.size (ae ⟨Nat.le_refl _,l8⟩)).T H2.b;have q3:=(a0.block b12 (ae ⟨a8.O,a9⟩)).T H2.c;obtain⟨e0,e1,e2⟩:=fq r3;obtain⟨g0,g1,g2,g3,g4,g5⟩:=ia q3;have H3:=kq2 h3 a0;clear h3 a0 r3 q3 c0 c1 c2 d0 d1 d2 d3 d4 d5;go_wp2_with fail;refine(HG.f _ _ H3.a).M ?_;rintro e w4 ⟨rfl,h4,a7⟩;have H4:=kq2 (h4.M (Z:=Y) fun k hk=>ab hk) ((Fo.v_ H2.a HG.g.yl).T ((H3.b.T a7).M fun k hk=>ab hk));clear h4 a7 e0 e1 e2 g0 g1 g2 g3 g4 g5;go_wp2_with fail;go_ret3;exact⟨rfl,H4.O⟩
   ·rename_i hc;split at hs
    ·rename_i hc2;have a':(Fu key k<0)=False:=eq_false hc;have ba:(0<Fu key k)=True:=eq_true hc2;split at hs
     ·cases hs
     rename_i l1 m1 r1 S1 h1;obtain⟨⟨x,S2⟩,au,he⟩:=aG.1 hs;injection he with e1 e2
     injection e1 with e1 e3
     injection e3 with e3 e4
     simp only at e1 e3 e4 au;subst e1 e2 e3 e4;have ai:=fun W Z (hW:Ig W ps S Z)=>(ih (d+1) o_ hW hi hlt.right h1).1;obtain⟨-,ar,a1,a6,a3⟩:=ih (d+1) o_ h hi hlt.right h1;have a4:=nW hjn au;have ad:=fun W Z (hW:Ig W ps S1 Z)=>qn (c:=c) hW ar hjn (f_ S f9).1.left f9 l1 hlt.left hl a1 au;refine⟨?_,hjn.inv ar a4,(by have q:=hjn.lt ar (by first | exact hl | exact a1 | exact hlt.left) (by first | exact hl | exact a1 | exact hlt.left) (by first | exact hl | exact a1 | exact hlt.left) a4;exact q),a6,a3⟩;obtain⟨⟨⟨k0,k1,k2,k3,k4,k5⟩,er⟩,hE⟩:∃q,f_ S f9=q:=⟨_,rfl⟩;rw[hE] at an hlt ai ad;simp only at hlt ai ad;simp only[gS,eL,eS] at q0 B0 an ai ad⊢;have HG:=kq7 an a5 q0 B0 ai ad h;clear an a5 q0 B0 ai ad h hi hE hk h1 hs au ar hjn ih hd h0 hlt a1 a6 a3 a4 hl;go_enter func312,ntmps312;go_wp2_with fail;refine dR (HG.a _ HG.d) fun w1 hb1=>?_;have ap:=hb1.alloc hb1.size (Xb k0 k1 k2 k3 k4 k5);have q2:=heap_alloc_new w1 (Xb k0 k1 k2 k3 k4 k5);have r2:=(ap.block w.1.size s_).T HG.c;have a2:w.1.size<=w1.1.size:=by have:=hb1.size;simp at this;omega
     have B2:=b_ HG.d ap;go_wp2_with fail;generalize w1.alloc (Xb k0 k1 k2 k3 k4 k5)=W at*;generalize w1.1.size=b12 at*;refine Jc (HG.b _) ?_;obtain⟨c0,c1,c2⟩:=fq r2;obtain⟨d0,d1,d2,d3,d4,d5⟩:=ia q2;have l8:=(gl r2);have a9:=(gl q2);have H2:=kq3 B2 r2 q2;have a8:=If a2;clear hb1 ap q2 r2 B2 a2;go_wp2_with fail;refine(HG.e _ _ (HG.g.wide H2.a)).M ?_;rintro e w3 ⟨rfl,h3,a0⟩;have r3:=(a0.block w.1.size (ae ⟨Nat.le_refl _,l8⟩)).T H2.b;have q3:=(a0.block b12 (ae ⟨a8.O,a9⟩)).T H2.c;obtain⟨e0,e1,e2⟩:=fq r3;obtain⟨g0,g1,g2,g3,g4,g5⟩:=ia q3;have H3:=kq2 h3 a0;clear h3 a0 r3 q3 c0 c1 c2 d0 d1 d2 d3 d4 d5;go_wp2_with fail;refine(HG.f _ _ H3.a).M ?_;rintro e w4 ⟨rfl,h4,a7⟩;have H4:=kq2 (h4.M (Z:=Y) fun k hk=>ab hk) ((Fo.v_ H2.a HG.g.yl).T ((H3.b.T a7).M fun k hk=>ab hk));clear h4 a7 e0 e1 e2 g0 g1 g2 g3 g4 g5;go_wp2_with fail;go_ret3;exact⟨rfl,H4.O⟩
    ·rename_i hc2;have a':(Fu key k<0)=False:=eq_false hc;have ba:(0<Fu key k)=False:=eq_false hc2;have hs:=Option.some.inj hs;injection hs with e1 e2
     injection e1 with e1 e3
     injection e3 with e3 e4
     subst e1 e2 e3 e4;refine⟨?_,hi,hlt.left,hl,hlt.right⟩;have ai:=True.intro;have ad:=True.intro;obtain⟨⟨⟨k0,k1,k2,k3,k4,k5⟩,er⟩,hE⟩:∃q,f_ S f9=q:=⟨_,rfl⟩;rw[hE] at an hlt⊢;simp only at hlt⊢;simp only[gS,eL,eS] at q0 B0 an⊢;have HG:=kq5 an a5 q0 B0 h;clear an a5 q0 B0 ai ad h hi hE hk hjn ih hd h0 hlt hl;go_enter func312,ntmps312;go_wp2_with fail;refine dR (HG.a _ HG.d) fun w1 hb1=>?_;have ap:=hb1.alloc hb1.size (Xb k0 k1 k2 k3 k4 k5);have q2:=heap_alloc_new w1 (Xb k0 k1 k2 k3 k4 k5);have r2:=(ap.block w.1.size s_).T HG.c;have a2:w.1.size<=w1.1.size:=by have:=hb1.size;simp at this;omega
     have B2:=b_ HG.d ap;go_wp2_with fail;generalize w1.alloc (Xb k0 k1 k2 k3 k4 k5)=W at*;generalize w1.1.size=b12 at*;refine Jc (HG.b _) ?_;obtain⟨c0,c1,c2⟩:=fq r2;obtain⟨d0,d1,d2,d3,d4,d5⟩:=ia q2;have l8:=(gl r2);have a9:=(gl q2);have H2:=kq3 B2 r2 q2;have a8:=If a2;clear hb1 ap q2 r2 B2 a2;go_wp2_with fail;go_quiet (fail)
     go_wp2_with fail;go_ret3;exact⟨rfl,HG.e.a_ (H2.a.T ⟨rfl,rfl,rfl,Nat.le_refl _,fun _ _=>rfl⟩),HG.e.w_ (H2.a.T ⟨rfl,rfl,rfl,Nat.le_refl _,fun _ _=>rfl⟩)⟩
def Lf.insertOkM(jn:Jn)(S:St)(f9 m:Nat):Option ((Nat×Nat)×St):=
 if isT S f9=false\/isT S m=false\/m=0\/(fz S (f_ S m).1.key).2≠0 then none
 else match kr jn (fz S (f_ S m).1.key).1 200 S f9 with
  | none=>none
  | some ((l,old,r),S1)=>(jq jn S1 l m r).map fun x=>((x.1,old),x.2)
theorem In{S S':St}(h:Ig w ps S Y)(hi:Fv S){j c:FuncId}{jn:Jn}(hjn:kW j jn)(hk:j6 l_ j c)(f9 m:Nat)(hl:f9<2^64)(hm:m<2^64){R:Nat×Nat}(hR:insertOkM jn S f9 m=some (R,S')):
 (Ct 308 #[PV ps,Xi l_,Xu f9,Xu m] w fun e w'=>e=.returned (.tuple #[Xu R.1,Xu R.2,Xi 0])/\Ig w' ps S' Y/\Fo Y w w')/\Fv S'/\R.1<2^64/\R.2<2^64:=by
 unfold insertOkM at hR
 split at hR
 ·cases hR
 rename_i hc;simp only[not_or,Bool.not_eq_false,dw] at hc;obtain⟨t1,t2,m0,a0⟩:=hc
 split at hR
 ·cases hR
 rename_i l old r S1 hs;obtain⟨⟨x,S2⟩,ar,he⟩:=aG.1 hR
 injection he with e1 e2
 simp only at e1 e2 ar;subst e1 e2;have hlt:=fs h m;obtain⟨-,ap,ad,hold,ai⟩:=uf (c:=c) hjn _ 200 0 rfl h hi hl hs;have a3:=fun W Z (hW:Ig W ps S Z)=>(uf (c:=c) hjn _ 200 0 rfl hW hi hl hs).1;have a2:=nW hjn ar;have a1:=fun W Z (hW:Ig W ps S1 Z)=>qn (c:=c) hW ap hjn l m r ad hm ai ar;refine⟨?_,hjn.inv ap a2,(by have q:=hjn.lt ap (by first | exact hm | exact ad | exact ai) (by first | exact hm | exact ad | exact ai) (by first | exact hm | exact ad | exact ai) a2;exact q),hold⟩;have hg:=fun W (hW:D_ w W)=>iO (h.a_ hW) hi m hm;have hb:=fun W (hW:D_ w W)=>iz (h.a_ hW) hi (f_ S m).1.key hlt.key (by rw[a0];decide);have hw:=fun W (hW:D_ w W) rb t fr hrb=>yH (t:=t) (fr:=fr) (h.a_ hW) hi hk f9 m hl hm t1 t2 rb hrb;rw[a0] at hb;generalize (fz S (f_ S m).1.key).1=key at*;obtain⟨⟨⟨k0,k1,k2,k3,k4,k5⟩,er⟩,hE⟩:∃q,f_ S m=q:=⟨_,rfl⟩;rw[hE] at hg hb;simp only[gS,eL,eS] at hg hb hw a3 a1⊢;have a7:((m:Int)==0)=false:=m_
 have HG:=kq6 hg hb hw a3 a1 h;clear hg hb hw a3 a1 h hi hE hjn hk hR t1 t2 m0 a0 hs ar hlt ap ad hold ai a2;go_enter func308,ntmps308;go_wp2_with fail;refine dR (HG.c _ ((aa _ w).alloc Ih _) _ _ _ (heap_alloc_new w _)) fun w1 hb1=>?_;have B1:=(c_ w (.cells #[Xu f9,Xu m] 61)).T (hb1.M s_);have q1:=heap_alloc_new w1 (.cells #[PV ps,.func (.func j) #[] #[],.func (.func c) #[] #[]] 265);have an:=B1.alloc B1.size (.cells #[PV ps,.func (.func j) #[] #[],.func (.func c) #[] #[]] 265);have z1:=B1.size;clear hb1 B1;go_wp2_with fail;generalize w1.alloc (.cells #[PV ps,.func (.func j) #[] #[],.func (.func c) #[] #[]] 265)=W1 at*;generalize w1.1.size=b11 at*;refine dR (HG.a _ an) fun w2 hb2=>?_;have au:=hb2.alloc hb2.size (Xb k0 k1 k2 k3 k4 k5);have q2:=heap_alloc_new w2 (Xb k0 k1 k2 k3 k4 k5);have r2:=(au.block b11 (gl q1)).T q1;have B2:=b_ an au;obtain⟨d0,d1,d2,d3,d4,d5⟩:=ia q2;have H2:=kq3 B2 r2 z1;clear hb2 au q2 r2 B2 an q1 z1;go_wp2_with fail;refine dR (HG.b _ H2.a) fun w3 hb3=>?_;have r3:=(hb3.block b11 (gl H2.b)).T H2.b;obtain⟨e0,e1,e2⟩:=fq r3;have a6:=(gl r3);have H3:=kq2 (b_ H2.a hb3) r3;clear hb3 r3 d0 d1 d2 d3 d4 d5;go_wp2_with fail;refine(HG.d _ _ (HG.f.wide H3.a)).M ?_;rintro e w4 ⟨rfl,h4,a4⟩;have r4:=(a4.block b11 (ae ⟨H2.c,a6⟩)).T H3.b;obtain⟨f0,f1,f2⟩:=fq r4;have H4:=kq2 h4 a4;clear h4 a4 r4 e0 e1 e2;go_wp2_with fail;refine(HG.e _ _ H4.a).M ?_;rintro e w5 ⟨rfl,h5,a5⟩;have H5:=kq2 (h5.M (Z:=Y) fun k hk=>ab hk) ((Fo.v_ H3.a HG.f.yl).T ((H4.b.T a5).M fun k hk=>ab hk));clear h5 a5 f0 f1 f2;go_wp2_with fail;go_ret3;exact⟨rfl,H5.O⟩
end
section
open Lf
namespace Tr
theorem eZ.nil_of {t:Tr}(h:eZ t)(hm:t.mark=0):t=nil:=by
 cases t with
 | nil=>rfl
 | node l d m r=>
  obtain⟨_,_,h3,_,_⟩:=h;have h3:m=max l.mark r.mark+1:=h3;have hm:m=0:=hm;omega
theorem rg {d:It}{n:Nd}(hk:n.key=d.kh)(hv:n.val=d.vh):∀(f:Nat) {S:St} {o:Nat->Nat} {l r:Tr} {n0:Nd},Fw S o->At S l->At S r->eZ l->eZ r->i_ S d.h=some (eM n0)->n0.key=d.kh->n0.val=d.vh->
 (l.hs++d.h::r.hs).Nodup->l.its.length+r.its.length<9000->max l.mark r.mark<=f->
 ∃t S',joinB n d.h f S l.f9 r.f9=some (t.f9,S')/\lF S S' o (l.hs++d.h::r.hs) t/\eZ t/\t.its=l.its++d::r.its/\max l.mark r.mark<=t.mark/\t.mark<=max l.mark r.mark+1
 | 0,S,o,l,r,n0,hf,hl,hr,bl,br,hd,hk0,hv0,hnd,hlen,hm=>by
  obtain rfl:=bl.nil_of o_;obtain rfl:=br.nil_of o_;obtain⟨S1,e1,f1,a1,o1,w1⟩:=jZ hf hl hr hd hk0 hv0 hk hv (by grind) (by grind) d_ d_ o_ o_;refine⟨mk nil d nil,S1,?_,⟨f1,a1,fun y hy=>o1 y fun e=>hy (by grind),w1⟩,eZ.mk d trivial trivial (cC _) (cC _),rfl,o_,by rw[ey];omega⟩;rw[qY,e1];rfl
 | f+1,S,o,l,r,n0,hf,hl,hr,bl,br,hd,hk0,hv0,hnd,hlen,hm=>by
  have sl:=bl.sm o_;have sr:=br.sm o_;obtain⟨n1,n2,n3⟩:=aF.1 hnd;obtain⟨n4,n5⟩:=aI.1 n2;have a3:d.h∉l.hs:=fun hm=>n3 _ hm _ (av ..) rfl;rw[qX,(hl.height hf (by have:=sl.1;omega)),(hr.height hf (by have:=sr.1;omega))];simp only;by_cases c1:r.mark+1<l.mark
  ·rw[if_pos c1];obtain⟨a,e,b,rfl,ba,bb,a6,a7⟩:=bl.pos o_;rw[ey] at c1 hm;have a4:(mk a e b).hs=a.hs++e.h::b.hs:=eY ..;have ap:a.its.length<9000/\b.its.length+r.its.length<9000:=by rw[ga] at hlen;grind
   rw[a4] at n1 n3 a3;obtain⟨m1,m2,m3⟩:=aF.1 n1;obtain⟨m4,m5⟩:=aI.1 m2;simp only[aq,ah,not_or] at a3;have au:(b.hs++d.h::r.hs).Nodup:=aF.2 ⟨m5,n2,fun x hx y hy=>n3 x (by grind) y hy⟩;obtain⟨t,S1,e1,D1,bt,it,bf,bj⟩:=rg hk hv f hf hl.2.2 hr bb br hd hk0 hv0 au ap.2 o_;have bd:t.hs=b.hs++d.h::r.hs:=by unfold hs;grind
   have a9:∀y∈a.hs,y∉b.hs++d.h::r.hs:=fun y hy hm=>by
    grind
   have an:e.h∉b.hs++d.h::r.hs:=fun hm=>by
    grind
   have a8:e.h∉a.hs:=fun hm=>m3 _ hm _ (av ..) rfl;have a1:At S1 a:=hl.2.1.frame fun y hy=>D1.u_ y (a9 y hy);have bc:t.its.length<9000:=by rw[it];rw[ga] at hlen;grind
   obtain⟨S2,e2,f2,a2,o2,w2⟩:=jZ D1.fit (n:=nd a e (max a.mark b.mark+1) b) (d:=e) a1 D1.at' ((D1.u_ _ an).T hl.1) rfl rfl rfl rfl a8 (by grind)
    (by have:=(ba.sm o_).1;omega) (by have:=(bt.sm o_).1;omega) o_ o_
   have ar:(mk a e t).hs=(a.hs++e.h::b.hs)++d.h::r.hs:=by grind [mk,hs,eY]
   have ai:(mk a e t).its=(a.its++e::b.its)++d::r.its:=by rw[ga,it];simp
   have a0:(mk a e t).hs.Nodup:=by grind
   obtain⟨u,S3,e3,D3,bu,iu,bk,bm,bo⟩:=tJ f2 a2 a0 ba bt (by rw[ai];rw[ga] at hlen;grind) o_ o_;refine⟨u,S3,?_,⟨D3.fit,D3.at',?_,(D1.grew.T w2).T D3.grew⟩,bu,?_,?_,?_⟩
   ·rw[show (mk a e b).f9=e.h from rfl,gw hf hl.1];simp only[nd];rw[e1];simp only;have ad:=e2;simp only[nd] at ad;rw[ad];simp only;rw[e3];exact nU (D3.at'.root_lt D3.fit)
   ·intro y hy;rw[a4] at hy;rw[ar] at D3;have y1:y≠e.h:=fun e=>hy (by rw[e];simp);refine(D3.u_ y hy).T ((o2 y y1).T (D1.u_ y fun hm=>hy ?_));grind
   ·rw[iu,ai];rfl
   ·rw[ey];omega
   ·rw[ey];omega
  ·rw[if_neg c1];by_cases c2:l.mark+1<r.mark
   ·rw[if_pos c2];obtain⟨a,e,b,rfl,ba,bb,a6,a7⟩:=br.pos o_;rw[ey] at c2 hm;have a5:(mk a e b).hs=a.hs++e.h::b.hs:=eY ..;have ap:l.its.length+a.its.length<9000/\b.its.length<9000:=by rw[ga] at hlen;grind
    rw[a5] at n5 n4 n3;obtain⟨m1,m2,m3⟩:=aF.1 n5;obtain⟨m4,m5⟩:=aI.1 m2;simp only[aq,ah,not_or] at n4;have au:(l.hs++d.h::a.hs).Nodup:=aF.2 ⟨n1,aI.2 ⟨n4.1,m1⟩,fun x hx y hy=>n3 x hx y (by rcases ah.1 hy with hy | hy<;>simp[hy])⟩;obtain⟨t,S1,e1,D1,bt,it,bf,bj⟩:=rg hk hv f hf hl hr.2.1 bl ba hd hk0 hv0 au ap.1 o_;have bd:t.hs=l.hs++d.h::a.hs:=by unfold hs;grind
    have a':∀y∈b.hs,y∉l.hs++d.h::a.hs:=fun y hy hm=>by
     grind
    have an:e.h∉l.hs++d.h::a.hs:=fun hm=>by
     grind
    have b1:At S1 b:=hr.2.2.frame fun y hy=>D1.u_ y (a' y hy);have bc:t.its.length<9000:=by rw[it];rw[ga] at hlen;grind
    obtain⟨S2,e2,f2,a2,o2,w2⟩:=jZ D1.fit (n:=nd a e (max a.mark b.mark+1) b) (d:=e) D1.at' b1 ((D1.u_ _ an).T hr.1) rfl rfl rfl rfl (by grind) m4
     (by have:=(bt.sm o_).1;omega) (by have:=(bb.sm o_).1;omega) o_ o_
    have ar:(mk t e b).hs=l.hs++d.h::(a.hs++e.h::b.hs):=by grind [mk,hs,eY]
    have ai:(mk t e b).its=l.its++d::(a.its++e::b.its):=by rw[ga,it];simp
    have a0:(mk t e b).hs.Nodup:=by grind
    obtain⟨u,S3,e3,D3,bu,iu,bk,bm,bo⟩:=tJ f2 a2 a0 bt bb (by rw[ai];rw[ga] at hlen;grind) o_ o_;refine⟨u,S3,?_,⟨D3.fit,D3.at',?_,(D1.grew.T w2).T D3.grew⟩,bu,?_,?_,?_⟩
    ·rw[show (mk a e b).f9=e.h from rfl,gw hf hr.1];simp only[nd];rw[e1];simp only;have ad:=e2;simp only[nd] at ad;rw[ad];simp only;rw[e3];exact nU (D3.at'.root_lt D3.fit)
    ·intro y hy;rw[a5] at hy;rw[ar] at D3;have y1:y≠e.h:=fun e=>hy (by rw[e];simp);refine(D3.u_ y hy).T ((o2 y y1).T (D1.u_ y fun hm=>hy ?_));grind
    ·rw[iu,ai];rfl
    ·rw[ey];omega
    ·rw[ey];omega
   ·rw[if_neg c2];obtain⟨S1,e1,f1,a1,o1,w1⟩:=jZ hf hl hr hd hk0 hv0 hk hv a3 n4 (by have:=sl.1;omega) (by have:=sr.1;omega) o_ o_;refine⟨mk l d r,S1,by rw[e1];rfl,⟨f1,a1,fun y hy=>o1 y fun e=>hy (by grind),w1⟩,eZ.mk d bl br o_ o_,rfl,by rw[ey];omega,by rw[ey];omega⟩
structure kV (jn:Jn) (Ok:Tr->Prop):Prop where
 nil:Ok nil
 sub:∀{l d m r},Ok (node l d m r)->Ok l/\Ok r
 join:∀{S:St} {o:Nat->Nat} {l r:Tr} {d:It} {n0:Nd},Fw S o->At S l->At S r->Ok l->Ok r->i_ S d.h=some (eM n0)->n0.key=d.kh->n0.val=d.vh->
  (l.hs++d.h::r.hs).Nodup->l.its.length+r.its.length<99->
  ∃t S',jn S l.f9 d.h r.f9=some ((t.f9,0),S')/\lF S S' o (l.hs++d.h::r.hs) t/\Ok t/\t.its=l.its++d::r.its
theorem va:kV avlJ eZ where
 nil:=trivial
 sub h:=⟨h.1,h.2.1⟩
 join:=by
  intro S o l r d n0 hf hl hr bl br hd hk0 hv0 hnd hlen;obtain⟨t,S',e,D,bt,it,_⟩:=rg (n:=n0) hk0 hv0 100 hf hl hr bl br hd hk0 hv0 hnd o_ (by have:=bl.mark_le;have:=br.mark_le;omega);refine⟨t,S',?_,D,bt,it⟩;have ad:=(fL hf hd).1;unfold avlJ;rw[if_neg]
  ·rw[gw hf hd,e];rfl
  ·rw[hl.isT hf,hr.isT hf];have:isT S d.h=true:=by unfold isT;rw[gw hf hd];simp
   grind
theorem fX:∀a:List UInt8,Fu a a=0
 | []=>rfl
 | x::a=>by unfold Fu;rw[if_neg (UInt8.lt_irrefl x),if_neg (UInt8.lt_irrefl x)];exact fX a
theorem jL:∀{a b:List UInt8},Fu a b=0->a=b
 | [],[],_=>rfl
 | [],_::_,h=>by unfold Fu at h;omega
 | _::_,[],h=>by unfold Fu at h;omega
 | x::a,y::b,h=>by
  unfold Fu at h;split at h
  ·omega
  ·rename_i h1;split at h
   ·omega
   ·rename_i h2;have:x=y:=UInt8.le_antisymm (dN.1 h2) (dN.1 h1);rw[this,jL h]
theorem ie:∀a b:List UInt8,Fu b a= -Fu a b
 | [],[]=>rfl
 | [],_::_=>rfl
 | _::_,[]=>rfl
 | x::a,y::b=>by
  unfold Fu;by_cases h1:x<y
  ·rw[if_pos h1,if_neg (UInt8.lt_asymm h1),if_pos h1];rfl
  ·by_cases h2:y<x
   ·rw[if_pos h2,if_neg h1,if_pos h2]
   ·rw[if_neg h1,if_neg h2,if_neg h2,if_neg h1];exact ie a b
theorem ig:∀{a b c:List UInt8},Fu a b<0->Fu b c<0->Fu a c<0
 | [],[],_,h,_=>by unfold Fu at h;omega
 | [],_::_,[],_,h=>by unfold Fu at h;omega
 | [],_::_,_::_,_,_=>by unfold Fu;omega
 | _::_,[],_,h,_=>by unfold Fu at h;omega
 | _::_,_::_,[],_,h=>by unfold Fu at h;omega
 | x::a,y::b,z::c,h1,h2=>by
  unfold Fu at h1 h2⊢;by_cases p:x<y
  ·by_cases q:y<z
   ·rw[if_pos (UInt8.lt_trans p q)];omega
   ·rw[if_neg q] at h2;by_cases q':z<y
    ·rw[if_pos q'] at h2;omega
    ·have:y=z:=UInt8.le_antisymm (dN.1 q') (dN.1 q);subst this;rw[if_pos p];omega
  ·rw[if_neg p] at h1;by_cases p':y<x
   ·rw[if_pos p'] at h1;omega
   ·have:x=y:=UInt8.le_antisymm (dN.1 p') (dN.1 p);subst this;rw[if_neg p'] at h1;by_cases q:x<z
    ·rw[if_pos q];omega
    ·rw[if_neg q] at h2⊢;by_cases q':z<x
     ·rw[if_pos q'] at h2;omega
     ·rw[if_neg q'] at h2⊢;exact ig h1 h2
def eU(a b:It):Prop:=Fu a.k b.k<0
structure gu (S:St) (d:It):Prop where
 k:i_ S d.kh=some (FK d.k)
 v:i_ S d.vh=some (FK d.v)
 lk:d.k.length<=1000
 lv:d.v.length<=1000
theorem At.blob {S:St}{o:Nat->Nat}(hf:Fw S o){t:List UInt8}(ht:t.length<=1000){h:Nat}(hl:i_ S h=some (FK t)):gD S h=some t:=by
 unfold gD;rw[jt hf ht hl];rfl
theorem sn {jn:Jn}{Ok:Tr->Prop}(J:kV jn Ok)(key:List UInt8):∀(f:Nat) {S:St} {o:Nat->Nat} {t:Tr},Fw S o->At S t->Ok t->t.hs.Nodup->(∀d∈t.its,gu S d/\d.kh∉t.hs)->t.its.Pairwise eU->t.its.length<=f->t.its.length<99->
 ∃tl m tr S',kr jn key f S t.f9=some ((tl.f9,m,tr.f9),S')/\Fw S' o/\At S' tl/\At S' tr/\Ok tl/\Ok tr/\(∀h',h'∉t.hs->i_ S' h'=i_ S h')/\ej S S' 0 0/\
  ((m=0/\t.its=tl.its++tr.its)\/(∃d n0,m=d.h/\d.k=key/\t.its=tl.its++d::tr.its/\i_ S' d.h=some (eM n0)/\n0.key=d.kh/\n0.val=d.vh))/\(∀d∈tl.its,Fu d.k key<0)/\(∀d∈tr.its,Fu key d.k<0)
 | 0,S,o,t,hf,ht,hok,hnd,hb,hs,hl,hl2=>by
  cases t with
  | nil=>exact⟨nil,0,nil,S,wZ ..,hf,trivial,trivial,J.nil,J.nil,fun _ _=>rfl,ej.refl S,ab ⟨rfl,rfl⟩,by grind,by grind⟩
  | node l d m r=>simp[its] at hl
 | f+1,S,o,t,hf,ht,hok,hnd,hb,hs,hl,hl2=>by
  cases t with
  | nil=>exact⟨nil,0,nil,S,by rw[sk];rfl,hf,trivial,trivial,J.nil,J.nil,fun _ _=>rfl,ej.refl S,ab ⟨rfl,rfl⟩,by simp[its],by simp[its]⟩
  | node l d m r=>
   obtain⟨h1,h2,h3⟩:=ht;obtain⟨ok1,a1⟩:=J.sub hok;have g1:=gw hf h1;have bm:=(fL hf h1).1;rw[eY] at hnd hb⊢;have a5:=(hb d (by simp[its])).1;have a':=At.blob hf a5.lk a5.k;have bd:(node l d m r).its=l.its++d::r.its:=rfl;rw[bd] at hs hl hl2⊢;obtain⟨n1,n2,n3⟩:=aF.1 hnd;obtain⟨n4,n5⟩:=aI.1 n2;have bj:d.h∉l.hs:=fun hm=>n3 _ hm _ (av ..) rfl;obtain⟨s1,s2,s3⟩:=bE.1 hs;obtain⟨s4,s5⟩:=bC.1 s2;simp only[ag,aj] at hl hl2;have er:(node l d m r).f9=d.h:=rfl;rw[er,sk,if_neg o_,g1];simp only[nd];rw[a'];simp only;by_cases c1:Fu key d.k<0
   ·rw[if_pos c1];obtain⟨tl,m',tr,S1,e1,f1,al,ar,a2,a3,o1,w1,hm,hlt,a6⟩:=sn J key f hf h2 ok1 n1 (fun x hx=>⟨(hb x (by grind)).1,fun hm=>(hb x (by grind)).2 (by grind)⟩) s1 o_ o_;have ap:∀x∈tr.its,x∈l.its:=fun x hx=>by
     rcases hm with⟨_,e⟩ | ⟨d',_,_,_,e,_⟩<;>rw[e]<;>simp[hx]
    have au:∀x∈tl.its,x∈l.its:=fun x hx=>by
     rcases hm with⟨_,e⟩ | ⟨d',_,_,_,e,_⟩<;>rw[e]<;>simp[hx]
    have a8:∀y∈tr.hs,y∈l.hs:=fun y hy=>by
     obtain⟨x,hx,rfl⟩:=az.1 hy;exact az.2 ⟨x,ap x hx,rfl⟩
    have a7:∀y∈tl.hs,y∈l.hs:=fun y hy=>by
     obtain⟨x,hx,rfl⟩:=az.1 hy;exact az.2 ⟨x,au x hx,rfl⟩
    have bb:l.hs=tl.hs++tr.hs\/∃x:It,m'=x.h/\l.hs=tl.hs++x.h::tr.hs:=by
     grind [Tr.hs]
    have a0:tr.hs.Nodup/\∀y∈tl.hs,y∉tr.hs:=by
     grind
    have ai:(tr.hs++d.h::r.hs).Nodup:=aF.2 ⟨a0.1,n2,fun x hx y hy=>n3 x (a8 x hx) y hy⟩;have bc:At S1 r:=h3.frame fun y hy=>o1 y fun hm=>n3 _ hm _ (ak _ hy) rfl;have bf:tr.its.length<=l.its.length:=by
     grind
    obtain⟨u,S2,e2,D2,a4,iu⟩:=J.join f1 ar bc a3 a1 ((o1 _ bj).T h1) rfl rfl ai o_;have an:∀y∈tl.hs,y∉tr.hs++d.h::r.hs:=fun y hy hm=>by
     grind
    refine⟨tl,m',u,S2,?_,D2.fit,al.frame fun y hy=>D2.u_ y (an y hy),D2.at',a2,a4,?_,w1.T D2.grew,?_,hlt,?_⟩
    ·grind [jq]
    ·intro y hy;simp only[aq,ah,not_or] at hy;refine(D2.u_ y fun hm=>?_).T (o1 y hy.1);grind
    ·rcases hm with⟨e0,e⟩ | ⟨d',n0,e0,ek,e,q1,q2,q3⟩
     ·grind
     ·right
      refine⟨d',n0,e0,ek,by rw[iu,e];simp,(D2.u_ _ fun hm=>?_).T q1,q2,q3⟩;grind [Tr.hs,List.nodup_cons,List.nodup_append]
    ·intro x hx;rw[iu] at hx;rcases aq.1 hx with hx | hx
     ·grind
     ·rcases ah.1 hx with hx | hx
      ·grind
      ·exact ig c1 (s4 x hx)
   ·rw[if_neg c1];by_cases c2:0<Fu key d.k
    ·rw[if_pos c2];have a9:Fu d.k key<0:=by rw[ie];omega
     obtain⟨tl,m',tr,S1,e1,f1,al,ar,a2,a3,o1,w1,hm,hlt,a6⟩:=sn J key f hf h3 a1 n5 (fun x hx=>⟨(hb x (by grind)).1,fun hm=>(hb x (by grind)).2 (by grind)⟩) s5 o_ o_;have ap:∀x∈tr.its,x∈r.its:=fun x hx=>by
      rcases hm with⟨_,e⟩ | ⟨d',_,_,_,e,_⟩<;>rw[e]<;>simp[hx]
     have au:∀x∈tl.its,x∈r.its:=fun x hx=>by
      rcases hm with⟨_,e⟩ | ⟨d',_,_,_,e,_⟩<;>rw[e]<;>simp[hx]
     have a8:∀y∈tr.hs,y∈r.hs:=fun y hy=>by
      obtain⟨x,hx,rfl⟩:=az.1 hy;exact az.2 ⟨x,ap x hx,rfl⟩
     have a7:∀y∈tl.hs,y∈r.hs:=fun y hy=>by
      obtain⟨x,hx,rfl⟩:=az.1 hy;exact az.2 ⟨x,au x hx,rfl⟩
     have bb:r.hs=tl.hs++tr.hs\/∃x:It,m'=x.h/\r.hs=tl.hs++x.h::tr.hs:=by
      grind [Tr.hs]
     have a0:tl.hs.Nodup/\∀y∈tl.hs,y∉tr.hs:=by
      grind
     have ai:(l.hs++d.h::tl.hs).Nodup:=aF.2 ⟨n1,aI.2 ⟨fun hm=>n4 (a7 _ hm),a0.1⟩,fun x hx y hy=>n3 x hx y (by
      grind)⟩
     have ba:At S1 l:=h2.frame fun y hy=>o1 y fun hm=>n3 _ hy _ (ak _ hm) rfl;have bf:tl.its.length<=r.its.length:=by
      rcases hm with⟨_,e⟩ | ⟨d',_,_,_,e,_⟩<;>rw[e]<;>simp
     obtain⟨u,S2,e2,D2,a4,iu⟩:=J.join f1 ba al ok1 a2 ((o1 _ n4).T h1) rfl rfl ai o_;have an:∀y∈tr.hs,y∉l.hs++d.h::tl.hs:=fun y hy hm=>by
      grind
     refine⟨u,m',tr,S2,?_,D2.fit,D2.at',ar.frame fun y hy=>D2.u_ y (an y hy),a4,a3,?_,w1.T D2.grew,?_,?_,a6⟩
     ·grind [jq]
     ·intro y hy;simp only[aq,ah,not_or] at hy;refine(D2.u_ y fun hm=>?_).T (o1 y hy.2.2);grind
     ·rcases hm with⟨e0,e⟩ | ⟨d',n0,e0,ek,e,q1,q2,q3⟩
      ·grind
      ·right
       refine⟨d',n0,e0,ek,by rw[iu,e];simp,(D2.u_ _ fun hm=>?_).T q1,q2,q3⟩;have bk:d'.h∈r.hs:=az.2 ⟨d',by rw[e];simp,rfl⟩;grind [List.mem_cons_of_mem,Tr.hs,List.nodup_append,List.mem_cons_self]
     ·intro x hx;rw[iu] at hx;rcases aq.1 hx with hx | hx
      ·exact ig (s3 x hx d (av ..)) a9
      grind
    ·rw[if_neg c2];have ad:key=d.k:=jL o_;refine⟨l,d.h,r,S,rfl,hf,h2,h3,ok1,a1,fun _ _=>rfl,ej.refl S,ae ⟨d,_,rfl,ad.S,rfl,h1,rfl,rfl⟩,?_,?_⟩
     ·intro x hx;rw[ad];exact s3 x hx d (av ..)
     ·intro x hx;rw[ad];exact s4 x hx
end Tr
end
section
open Go.RowKit Tryz Go.BigFrame Go.Maps Go.WideMaps Lf
open Go.Shelf
variable{S:St}{Y:Nat->Prop}{ps:Nat}{w:World}
attribute [local go_sem] Oper.semAt_some
theorem xS(h:Ig w ps S Y)(hi:Fv S):
 Cb 144 #[PV ps,Xu 0] w (Xi 0):=by
 have B0:=c_ w (Xg ps);have B1:=B0.alloc B0.size (.cells #[Xi 0] 27);have ad:=fB (h.a_ B1) hi 0 o_;rw[fU] at ad;have HG:=kq2 ad B1;clear ad h hi B0 B1;go_enter func144,ntmps144;go_wp2_with fail;refine Jc HG.a ?_;go_wp2_with fail;exact bodyPost_ret (v:=Xi 0) (by simp[results,f144,go_sem]) rfl ⟨rfl,HG.b⟩
theorem EY(ps f9:Nat)(w:World):
 Ct 121 #[PV ps,Xu f9] w fun e w'=>e=.returned (.func (.func 161) #[] #[PV w.1.size,PV (w.1.size+1)])/\w'=(w.alloc (Xg ps)).alloc (Xf f9):=by
 go_enter func121,ntmps121
 go_wp2
 go_ret;exact⟨rfl,rfl⟩
def AJ(x:Empty):Array Value:=nomatch x
theorem BC(h:Ig w ps S Y)(Bs Br:Nat)(hBs:Bs<w.1.size/\w.cell? (y_ Bs)=some (PV ps))(hBr:Br<w.1.size/\w.cell? (y_ Br)=some (Xu 0)):
 SeqStopsK Fence.wide 6 prog 161 #[PV Bs,PV Br] AJ (Below w.1.size) (fun xs=>xs=[]) (fun _=>True) 0 w:=fun l J Jx W hW hJ hJx hY h0=>by
 have ar:Fence.wide.fn 162:=trivial;have an:CallsIn Fence.wide 5 prog 162 #[PV ps] W _:=callsIn_wide.2 (sX (h.a_ hW));have hL:1<=A_ S/\A_ S<=40000:=by have:=nB h;unfold A_;omega
 generalize A_ S=L at*;have cs:=(hW.cell (p:=y_ Bs) hBs.1).T hBs.2;have cr:=(hW.cell (p:=y_ Br) hBr.1).T hBr.2;have HL:=If an;have HJ:=kq5 hJ h0 hW hBs hBr;have ai:=If hW;clear an hW hJ hJx hY h0 hBs hBr h;refine callsIn_of_wp func161 rfl trivial ?_ rfl;simp only[ntmps161,aS,aj,aL,Nat.reduceAdd,Nat.reduceSub,aO,aP,aT,aR,aX,aJ];gi_wp2_with fail;refine HL.O.M ?_;rintro e w1 ⟨rfl,ad⟩;have j1:=HJ.a _ _ _ none HJ.b (lf ad) (fun r e=>by cases e);have cs:=(ad.cell (p:=y_ Bs) (aB HJ.d.1 ai.O.size)).T cs;have cr:=(ad.cell (p:=y_ Br) (aB HJ.e.1 ai.O.size)).T cr;have H1:=If j1;clear HL ad j1;have ap:(0:Int)<L:=o_
 gi_wp2_with fail;gi_loopw [4,6,7,8,9,10,11] (fun l0 k _ _ _ _ _ wr=>l0=.slice none 0 0/\k=Xi 0/\wr=w1) (fun _ _ _ _ _ _ _ _=>0)
 case atStart=>exact⟨rfl,rfl,rfl⟩
 case round=>
  obtain⟨rfl,rfl,rfl⟩:=hrel;gi_wp2_with fail;gi_loopw [4,6,7,8] (fun l0 k _ _ wr'=>l0=.slice none 0 0/\k=Xi 0/\wr'=wr) (fun _ _ _ _ _=>0)
  case atStart=>exact⟨rfl,rfl,rfl⟩
  case round=>
   obtain⟨rfl,rfl,rfl⟩:=hrel;gi_wp2_with fail;refine bodyPost_ret (results_none rfl _ _ _) rfl ?_;exact⟨⟨_,rfl⟩,.inl ⟨[],rfl,H1.O⟩⟩
theorem E0(h:Ig w ps S Y):
 CallsIn Fence.wide 7 prog 75 #[PV ps,Xu 0] w fun e w'=>e=.returned n_/\D_ w w':=by
 have h1:1<=7:=o_
 have ap:Fence.wide.fn 121:=trivial;have ai:∀W,CallsIn Fence.wide 6 prog 121 #[PV ps,Xu 0] W _:=fun W=>callsIn_wide.2 (EY ps 0 W);have HR:=If h;clear h;refine callsIn_of_wp_marks func75 rfl trivial ?_ rfl;simp only[ntmps75,aS,aj,aL,Nat.reduceAdd,Nat.reduceSub,aO,aP,aT,aR,aX,aJ];gi_wp2_with fail;refine(ai _).M ?_;rintro e w4 ⟨rfl,rfl⟩;gi_wp2_with fail;have k0:=((Bx.new w n_ 59).alloc (Xg ps)).alloc (.cells #[Xu 0] 61);have k1:=(Bx.new (w.alloc (.cells #[n_] 59)) (PV ps) 26).alloc (.cells #[Xu 0] 61);have k2:=Bx.new ((w.alloc (.cells #[n_] 59)).alloc (Xg ps)) (Xu 0) 61;have hb:=((c_ w (.cells #[n_] 59)).alloc s_ (Xg ps)).alloc m_ (.cells #[Xu 0] 61);simp only[World.size_alloc] at k0 k1 k2;generalize (((w.alloc (.cells #[n_] 59)).alloc (Xg ps)).alloc (.cells #[Xu 0] 61))=W0 at*;refine wpIn_rangeFunc_ownH rfl h1 (gf:=161) (lb:=#[PV (w.1.size+1),PV (w.1.size+1+1)]) rfl trivial (enters_of func161 k_ rfl)
  (BC (HR.O.a_ hb) _ _ ⟨Cx.lt (show Cx W0 _ 0 _ from k1),k1.1⟩ ⟨Cx.lt (show Cx W0 _ 0 _ from k2),k2.1⟩) (fun h k=>h.T k) (fun W l o o' h1 h2 h3 h4=>nN W l o o' o_ h2 h3 h4) (aa _ _) (fun x=>nomatch x)
  (fun _ W=>Bx W w.1.size n_/\D_ w W)
  (fun _ _ _=>False)
  (OwnFrom.and (Own.from (fun s A B row hs hg hr=>hs.kept hg hr) _) (ownFrom_below Ih hb.size))
  (fun cd=>Own.from (fun s A B row hs hg hr=>hs) _)
  ⟨k0,hb⟩
  (fun x _ _=>nomatch x)
  (fun x=>nomatch x)
  ?assign ?body ?done ?stop
 case assign=>exact fun l ad x=>nomatch x
 case body=>exact fun l ad x=>nomatch x
 case done=>
  rintro D ys W hD _ ⟨k0,hB⟩ hK;obtain⟨c1,f1⟩:=id k0;have an:w.1.size<=D:=aH hb.size hD;have HI:=kq2 hB k0;clear hB k0 k1 k2 hb
  gi_wp2
  refine⟨s_,.inl ⟨_,_,rfl,run_takeDeferred hK,?_⟩⟩;refine⟨.slice none 0 0,by simp[results,f75,go_sem],rfl,HI.a.T (nN W D _ _ an hK rfl rfl)⟩
 case stop=>
  rintro D cd ad W hD ar hF;exact hF.elim
theorem sY(h:Ig w ps S Y):
 Cb 75 #[PV ps,Xu 0] w n_:=callsIn_wide.1 (E0 h)
end
section
open Go.RowKit Tryz Go.BigFrame Go.Maps Go.WideMaps Lf
variable{S:St}{Y:Nat->Prop}{l_:Nat}{ps:Nat}{w:World}
theorem yT(h:Ig w ps S Y)(hi:Fv S):
 Cb 234 #[PV ps,Xu 0] w (Xi 0):=by
 have hc:=xS h hi;have hl:=fun W (hW:D_ w W)=>sY (h.a_ hW);have HG:=kq2 hc hl;clear hc hl h hi;go_enter func234,ntmps234;go_wp2_with fail;refine dR HG.a fun w1 hb1=>?_;have H1:=If hb1;clear hb1;go_wp2_with fail;refine dR (HG.b _ H1.O) fun w2 hb2=>?_;have H2:=If (b_ H1.O hb2);clear hb2;go_wp2_with fail
 go_loopw [7,8,9,10,21] (fun _ _ _ _ k wr=>k=Xi 0/\wr=w2) (fun _ _ _ _ _ _=>0)
 case atStart=>exact⟨rfl,rfl⟩
 case round=>
  obtain⟨rfl,rfl⟩:=hrel;go_wp2_with fail;go_ret;exact⟨rfl,H2.O⟩
structure nI (c:FuncId):Prop where
 enter:∀(args:Array Value) (w:World),(callFunc c args).run prog w=.ok (.enter c args) w
 call:∀{w:World} {ps:Nat} {S:St} {Y:Nat->Prop},Ig w ps S Y->Fv S->Ct c #[PV ps,Xu 0] w fun e w'=>e=.returned (Xi 0)/\D_ w w'
theorem Ai:nI 234 where
 enter args w:=by go_simp
 call h hi:=yT h hi
theorem Dr(h:Ig w ps S Y)(hi:Fv S){j c:FuncId}(hk:j6 l_ j c)(hc:nI c):
 Cb 134 #[PV ps,Xi l_,Xu 0] w (Xi 0):=by
 have ha:=yG h hi hk;have ai:=hc.enter;have ad:=fun W (hW:D_ w W)=>hc.call (h.a_ hW) hi;simp only[gS,eL] at ha;have HG:=kq2 ha ad;clear ha ad h hi hk hc;go_enter func134,ntmps134;go_wp2_with fail;refine dR HG.a fun w1 hb1=>?_;have H1:=If (hb1.alloc hb1.size (.cells #[PV ps,.func (.func j) #[] #[],.func (.func c) #[] #[]] 265));clear hb1;go_wp2_with fail;refine dR (HG.b _ H1.O) fun w2 hb2=>?_;have H2:=If (b_ H1.O hb2);clear hb2;go_wp2_with fail;go_ret;exact⟨rfl,H2.O⟩
theorem zY(h:Ig w ps S Y)(hi:Fv S)(hk:l_=1\/l_=2)(t:Int):
 Ct 87 #[PV ps,Xi l_,Xi t] w fun e w'=>e=.returned (Xi 0)/\w=w':=by
 have ad:=fB h hi 0 o_;rw[fU] at ad;have HG:=If ad;clear ad h hi
 rcases hk with rfl | rfl
 all_goals
  go_enter func87,ntmps87;exact qKiah
structure jD (l_:Nat) (j c:FuncId) (jn:Jn):Prop where
 is:l_=1\/l_=2
 way:j6 l_ j c
 joins:kW j jn
 checks:nI c
theorem JF(h:Ig w ps S Y)(hi:Fv S){j c:FuncId}{jn:Jn}(hk:jD l_ j c jn)(t:Int):
 Cb 86 #[PV ps,Xi l_,Xi t,Xu 0] w (Xi 0):=by
 have ha:=zY h hi hk.is t;have hc:=Dr h hi hk.way hk.checks;have hq:((l_:Int)==3)=false:=by have:=hk.is;simp;omega
 have HG:=kq2 ha hc;clear ha hc h hi hk;go_enter func86,ntmps86;go_wp2_with fail;refine Jc HG.a ?_;go_wp2_with fail;refine dR HG.b fun w2 hb2=>?_;have H2:=If hb2;clear hb2;go_wp2_with fail;go_ret;exact⟨rfl,H2.O⟩