/- Backends of binary trees: size, rank, item, at, without: the walks. -/
import Derived.Test.YtpljannolpapgaaGreatDoorRKi
import Derived.Test.YtpljannolpapgaaGreatDoorRUv
set_option maxRecDepth 100000
set_option maxHeartbeats 6400000
namespace Go.Proofs.YtpljannolpapgaaGreatDoor
section
open Go.RowKit Tryz Go.BigFrame Go.Maps Go.WideMaps Lf
variable{S:St}{Y:Nat->Prop}{ps:Nat}{w:World}
theorem fA{W:World}{b c:Nat}(h:c≠b)(v0 v1:Value):((W.setCell (y_ b) (v0)).setCell (x_ b 1) (v1)).1[c]?=W.1[c]?:=by rw[FB h,FB h]
def fE(ps l_:Nat):Value:=.agg #[PV ps,Xi l_]
def Id(k v:Nat):Value:=.agg #[Xu k,Xu v]
theorem my(h:Ig w ps S Y)(hi:Fv S)(l_ hh:Nat)(hl:hh<2^64):
 Cb 306 #[fE ps l_,Xu hh] w (Id (f_ S hh).1.key (f_ S hh).1.val):=by
 have B1:=c_ w (Xk ps l_);have B0:=B1.alloc B1.size (.cells #[Xu 0,Xu 0] 104);have z1:=heap_alloc_new (w.alloc (Xk ps l_)) (.cells #[Xu 0,Xu 0] 104);simp only[World.size_alloc] at z1;have hg:=iO (h.a_ B0) hi hh hl;obtain⟨⟨⟨k0,k1,k2,k3,k4,k5⟩,er⟩,hE⟩:∃q,f_ S hh=q:=⟨_,rfl⟩;rw[hE] at hg⊢;simp only[eS] at hg;have HG:=kq3 hg B0 z1;clear hg B0 B1 h hi hE z1;simp only[fE,Id];go_enter func306,ntmps306;go_wp2_with fail;refine dR HG.a fun w1 hb1=>?_;have ad:=hb1.alloc hb1.size (Xb k0 k1 k2 k3 k4 k5);have q1:=heap_alloc_new w1 (Xb k0 k1 k2 k3 k4 k5);have z1:=(ad.block (w.1.size+1) s_).T HG.c;have B1:=b_ HG.b ad;clear hb1 ad;obtain⟨c0,c1⟩:=Fp z1;obtain⟨f0,f1⟩:=ef z1;have HW:=kq2 B1 z1;clear B1 z1 q1;go_wp2_with fail;have q3:=ew HW.b (Xu k0) (Xu k1);have B3:=eT HW.a (dz w.1.size) (Xu k0) (Xu k1);generalize (((w1.alloc (Xb k0 k1 k2 k3 k4 k5)).setCell (y_ (w.1.size+1)) (Xu k0)).setCell (x_ (w.1.size+1) 1) (Xu k1))=W3 at*;obtain⟨e0,e1⟩:=Fp q3;exact bodyPost_ret (v:=.agg #[Xu k0,Xu k1]) (by simp[results,f306,go_sem,e0,e1]) rfl ⟨rfl,B3⟩
theorem pO(S:St):fZ S 0=7:=by
 unfold fZ;rw[fU];rfl
theorem qM(S:St):f_ S 0=(Nd.zero,7):=by
 unfold f_;rw[pO];rfl
theorem zk(h:Ig w ps S Y)(hi:Fv S)(l_:Nat):
 Cb 309 #[fE ps l_,Xu 0] w (.tuple #[Id 0 0,.bool false]):=by
 have B1:=c_ w (Xk ps l_);have q1:=heap_alloc_new w (Xk ps l_);have B0:=B1.alloc B1.size (.cells #[Xu 0,Xu 0] 104);have z1:=heap_alloc_new (w.alloc (Xk ps l_)) (.cells #[Xu 0,Xu 0] 104);have q1:=(((aa (w.alloc (Xk ps l_)).1.size (w.alloc (Xk ps l_))).alloc Ih (.cells #[Xu 0,Xu 0] 104)).block w.1.size s_).T q1;simp only[World.size_alloc] at z1;have ai:=my (h.a_ B0) hi l_ 0 d_;have ar:=fun W (hW:D_ w W)=>vT (h.a_ hW) hi 0 d_ (by rw[pO];decide);rw[qM] at ai;rw[pO] at ar;simp only[Id,fE,Nd.zero] at ai⊢;have HG:=kq5 ai ar B0 z1 q1;clear ai ar B0 B1 h hi z1 q1;go_enter func309,ntmps309;go_wp2_with fail;refine dR HG.a fun w1 hb1=>?_;have ad:=hb1.alloc hb1.size (.cells #[Xu 0,Xu 0] 104);have y1:=heap_alloc_new w1 (.cells #[Xu 0,Xu 0] 104);have z1:=(ad.block (w.1.size+1) s_).T HG.d;have q1:=(ad.block w.1.size m_).T HG.e;have B2:=b_ HG.c ad;go_wp2_with fail;generalize w1.alloc (.cells #[Xu 0,Xu 0] 104)=W at*;obtain⟨I,an,ap⟩:∃I:World->Prop,(∀w',I w'->w'.1[w.1.size]?=some (Xk ps l_)/\w'.1[w1.1.size]?=some (.cells #[Xu 0,Xu 0] 104))/\(∀w',w'.1[w.1.size]?=some (Xk ps l_)->w'.1[w1.1.size]?=some (.cells #[Xu 0,Xu 0] 104)->I w'):=⟨fun w'=>w'.1[w.1.size]?=some (Xk ps l_)/\w'.1[w1.1.size]?=some (.cells #[Xu 0,Xu 0] 104),fun _ h=>h,fun _ a b=>⟨a,b⟩⟩;have au:=fun x:Fq I=>(an _ x.ok).1;have a0:=fun x:Fq I=>(an _ x.ok).2;obtain⟨a3,a4⟩:=mt au;obtain⟨a5,a6⟩:=mt a0;obtain⟨e0,e1⟩:=Fp z1;obtain⟨f0,f1⟩:=ef z1;have a2:w1.1.size≠w.1.size+1:=by have:=hb1.size;simp at this;omega
 have HW:=kq4 B2 z1 q1 y1;have HI:=If ap;have a1:I W.drew:=ap _ q1 y1;clear B2 z1 q1 y1 hb1 ad au a0 an ap;refine nF I [(true,0),(true,1),(true,2),(true,3),(false,4),(true,5),(false,6),(false,7)] k_ k_ a1 ?_
 iterate 4
  refine' mT ?_ ?_;rotate_left
  ·intro x;go_simp
   try rfl
  try simp only[pu]
 refine mD fun K hK=>?_;go_simp;refine Jc (HG.b _ HW.a.drew) ?_
 try go_simp
 refine hK.O _ _ (HI.O _ HW.c HW.d) ?_;clear hK K
 try simp only[pu]
 refine' mT ?_ ?_;rotate_left
 ·intro x;go_simp
  try rfl
 try simp only[pu]
 refine mD fun K hK=>?_;go_simp;have q3:((W.setCell (y_ (w.1.size+1)) (Xu 0)).setCell (x_ (w.1.size+1) 1) (Xu 0)).drew.1[w.1.size+1]?=_:=ew HW.b (Xu 0) (Xu 0);have B3:=(eT HW.a (dz w.1.size) (Xu 0) (Xu 0)).drew;have r3:((W.setCell (y_ (w.1.size+1)) (Xu 0)).setCell (x_ (w.1.size+1) 1) (Xu 0)).drew.1[w.1.size]?=_:=(fA o_ (Xu 0) (Xu 0)).T HW.c;have y3:((W.setCell (y_ (w.1.size+1)) (Xu 0)).setCell (x_ (w.1.size+1) 1) (Xu 0)).drew.1[w1.1.size]?=_:=(fA a2 (Xu 0) (Xu 0)).T HW.d;generalize ((W.setCell (y_ (w.1.size+1)) (Xu 0)).setCell (x_ (w.1.size+1) 1) (Xu 0)).drew=W3 at*
 try go_simp
 refine hK.O _ _ (HI.O _ r3 y3) ?_;clear hK K
 try simp only[pu]
 refine mD fun K hK=>?_;go_simp
 try go_simp
 refine hK.O _ _ (HI.O _ r3 y3) ?_;clear hK K
 try simp only[pu]
 refine mX ?_;obtain⟨g0,g1⟩:=Fp q3;clear e0 e1 f0 f1 q3 r3 y3;have HB:=If B3;clear B3;go_wp2_with fail;exact bodyPost_ret (v:=.tuple #[.agg #[Xu 0,Xu 0],.bool false]) (by simp[results,f309,go_sem,g0,g1]) rfl ⟨rfl,HB.O⟩
theorem Ig.write{w w':World}{b:Nat}{cs:Array Value}{t:TypeId}{fr:Nat×Nat}(h:Ig w ps S Y)(hy:Y b)(hb:w.1[b]?=some (.cells cs t fr))(ht:t≠94/\t≠160)(hz:cs.size<64)
 (hs:w.1.size<=w'.1.size) (hw:∀k,k<w.1.size->k≠b->w'.1[k]?=w.1[k]?):Ig w' ps S Y:=by
 obtain⟨pa,pm,ph,pt,v,h⟩:=h;refine⟨pa,pm,ph,pt,v,h.of_keep hs fun k hk hc=>hw k hk ?_⟩;rintro rfl;rcases hc with hc | rfl | rfl | rfl
 ·exact hc hy
 ·have:=h.hd;rw[hb] at this;injection this with this
  injection this with _ this
  exact ht.1 this
 ·have:=h.heap.hp;rw[hb] at this;injection this with this
  injection this with _ this
  exact ht.2 this
 ·have:=h.heap.tab 63 d_;rw[q_ hb,cX o_] at this;cases this
def Lf.binInsM(jn:Jn)(S:St)(f9 k v:Nat):Option (Nat×St):=
 if(ft S ⟨k,v,0,0,0,1⟩).1.2≠0 then none
 else match insertOkM jn (ft S ⟨k,v,0,0,0,1⟩).2 f9 (ft S ⟨k,v,0,0,0,1⟩).1.1 with
  | none=>none
  | some ((now,old),S1)=>if old=0 then some (now,S1) else none
theorem y8{jn:Jn}{S S':St}{f9 k v x:Nat}(h:binInsM jn S f9 k v=some (x,S')):
 (ft S ⟨k,v,0,0,0,1⟩).1.2=0/\insertOkM jn (ft S ⟨k,v,0,0,0,1⟩).2 f9 (ft S ⟨k,v,0,0,0,1⟩).1.1=some ((x,0),S'):=by
 unfold binInsM at h
 split at h
 ·cases h
 ·rename_i h0
  split at h
  ·cases h
  ·rename_i now old S1 h1
   split at h
   ·rename_i h2;have h:=Option.some.inj h
    injection h with e1 e2
    subst e1 e2 h2;exact⟨dw.1 h0,h1⟩
   ·cases h
theorem Cr(S:St)(n:Nd):(ft S n).1.1=(S.make 6).1.1\/(ft S n).1.1=0:=by
 unfold ft
 split
 ·rename_i h s1 e
  left;rw[e]
 ·right;rfl
theorem LH(hw:iW S.t)(n:Nd):(ft S n).1.1<2^64:=by
 rcases Cr S n with e | e
 ·rw[e];exact oA hw 6
 ·rw[e];decide
theorem vz(hm:iw S 6)(n:Nd):Fv (ft S n).2:=by
 have h2:=hm.2;unfold ft
 split
 ·rename_i h s1 e;rw[e] at h2;exact rT h2 _ _
 ·rename_i e0 h er s1 e;rw[e] at h2;exact h2
theorem zc{S S':St}(h:Ig w ps S Y)(hm:iw S 6){l_:Nat}{j c:FuncId}{jn:Jn}(hk:jD l_ j c jn)(f9 k v:Nat)(hl:f9<2^64)(hkl:k<2^64)(hvl:v<2^64){x:Nat}(hx:binInsM jn S f9 k v=some (x,S')):
 Ct 301 #[fE ps l_,Xu f9,Id k v] w fun e w'=>e=.returned (.tuple #[Xu x,Id 0 0,.bool false,Xi 0])/\Ig w' ps S' Y/\Fo Y w w'/\Fv S'/\x<2^64:=by
 obtain⟨h0,h1⟩:=y8 hx;have ap:=vz hm ⟨k,v,0,0,0,1⟩;have a3:=LH h.tabwf ⟨k,v,0,0,0,1⟩;have ai:=fun W Z (hW:Ig W ps S Z)=>vU hW hm ⟨k,v,0,0,0,1⟩ ⟨hkl,hvl,s_,s_,s_,s_⟩;generalize ft S ⟨k,v,0,0,0,1⟩=M at*;obtain⟨⟨m,em⟩,S1⟩:=M;simp only at h0 h1 ap a3 ai;subst h0;have a2:=fun W Z (hW:Ig W ps S1 Z)=>In hW ap hk.joins hk.way f9 m hl a3 h1;have ar:=fun W Z (hi2:Fv S') (hW:Ig W ps S' Z)=>zk hW hi2 l_;simp only[fE,Id,eS] at ai ar⊢;have B1:=c_ w (Xk ps l_);have q1:=heap_alloc_new w (Xk ps l_);generalize a4:w.alloc (Xk ps l_)=w1 at*;have z1:w1.1.size=w.1.size+1:=by rw[<-a4];simp
 have A2:=c_ w1 (Xe k v);have B2:=B1.alloc B1.size (Xe k v);have q2:=(A2.block w.1.size o_).T q1;have z2:(w1.alloc (Xe k v)).1.size=w.1.size+2:=by simp[z1]
 generalize a8:w1.alloc (Xe k v)=w2 at*;have A3:=c_ w2 (.cells #[Xu 0,Xu 0] 104);have q3:=(A3.block w.1.size o_).T q2;have B3:=B2.alloc B2.size (.cells #[Xu 0,Xu 0] 104);have y3:=heap_alloc_new w2 (.cells #[Xu 0,Xu 0] 104);rw[z2] at y3;have z3:(w2.alloc (.cells #[Xu 0,Xu 0] 104)).1.size=w.1.size+3:=by simp[z2]
 subst a8 a4;have hY:=h.yl;have HG:=kq9 ai a2 ar (h.wide B3) q3 y3 z3 B3 hY;clear ai a2 ar h q1 q2 q3 y3 A2 A3 B1 B2 B3 z1 z2 z3 ap h1 hm hk hY hx;go_enter func301,ntmps301;go_wp2_with fail;refine(HG.a _ _ HG.d).M ?_;rintro e w4 ⟨rfl,h4,k4⟩;have q4:=(k4.block w.1.size (ae ⟨Nat.le_refl _,by have:=HG.g;omega⟩)).T HG.e;have y4:=(k4.block (w.1.size+2) (ae ⟨o_,by have:=HG.g;omega⟩)).T HG.f;obtain⟨c0,c1⟩:=Fp q4;have H4:=kq4 h4 k4 q4 y4;clear h4 k4 q4 y4;go_wp2_with fail;obtain⟨hp,a1,a5,-⟩:=HG.b _ _ H4.a;refine hp.M ?_;rintro e w5 ⟨rfl,h5,k5⟩;have q5:=(k5.block w.1.size (ae ⟨Nat.le_refl _,by have:=HG.g;omega⟩)).T H4.c;have y5:=(k5.block (w.1.size+2) (ae ⟨o_,by have:=HG.g;omega⟩)).T H4.d;obtain⟨d0,d1⟩:=Fp q5;have H5:=kq5 h5 (H4.b.T k5) a1 a5 y5;clear h5 k5 q5 y5 hp a1 a5 c0 c1;go_wp2_with fail;refine dR (HG.c _ _ H5.c H5.a) fun w6 hb6=>?_;have y6:=(hb6.block (w.1.size+2) (gl H5.e)).T H5.e;obtain⟨e0,e1⟩:=Fp y6;obtain⟨f0,f1⟩:=ef y6;have q7:((w6.setCell (y_ (w.1.size+2)) (Xu 0)).setCell (x_ (w.1.size+2) 1) (Xu 0)).1[w.1.size+2]?=_:=ew y6 (Xu 0) (Xu 0);have o7:∀k,k≠w.1.size+2->((w6.setCell (y_ (w.1.size+2)) (Xu 0)).setCell (x_ (w.1.size+2) 1) (Xu 0)).1[k]?=w6.1[k]?:=fun k hk=>fA hk _ _;have z7:((w6.setCell (y_ (w.1.size+2)) (Xu 0)).setCell (x_ (w.1.size+2) 1) (Xu 0)).1.size=w6.1.size:=s_
 have s7:((w6.setCell (y_ (w.1.size+2)) (Xu 0)).setCell (x_ (w.1.size+2) 1) (Xu 0)).os=w6.os/\((w6.setCell (y_ (w.1.size+2)) (Xu 0)).setCell (x_ (w.1.size+2) 1) (Xu 0)).tape=w6.tape/\((w6.setCell (y_ (w.1.size+2)) (Xu 0)).setCell (x_ (w.1.size+2) 1) (Xu 0)).output=w6.output:=⟨rfl,rfl,rfl⟩;have a9:∀k,Y k->k<w.1.size:=HG.i;have h6:=H5.a.a_ hb6;have k6:=H5.b.T (H5.a.w_ hb6);have H6:=kq9 h6 k6 H5.c H5.d y6 q7 o7 z7 s7;clear hb6 y6 d0 d1 h6 k6 o7 z7 s7 q7;go_wp2_with fail;generalize ((w6.setCell (y_ (w.1.size+2)) (Xu 0)).setCell (x_ (w.1.size+2) 1) (Xu 0))=w7 at*;have q7:=H6.f;obtain⟨I,au,an⟩:∃I:World->Prop,(∀w',I w'->w'.1[w.1.size+2]?=some (.cells #[Xu 0,Xu 0] 104))/\(∀w',w'.1[w.1.size+2]?=some (.cells #[Xu 0,Xu 0] 104)->I w'):=⟨fun w'=>w'.1[w.1.size+2]?=some (.cells #[Xu 0,Xu 0] 104),fun _ h=>h,fun _ a=>a⟩;have a6:=fun x:Fq I=>au _ x.ok;obtain⟨m0,m1⟩:=mt a6;obtain⟨g0,g1⟩:=Fp q7;obtain⟨h0,h1⟩:=ef q7;have HI:=If an;have a7:I w7.drew:=an _ q7;have HQ:=If q7;clear e0 e1 f0 f1 q7 au an a6;refine nF I [(true,0),(true,1),(true,2),(true,3),(false,4),(false,5),(false,6),(false,7)] k_ k_ a7 ?_
 iterate 4
  refine' mT ?_ ?_;rotate_left
  ·intro x;go_simp
   try rfl
  try simp only[pu]
 refine mD fun K hK=>?_;go_simp
 try go_simp
 refine hK.O _ _ (HI.O _ HQ.O) ?_;clear hK K
 try simp only[pu]
 refine mD fun K hK=>?_;go_simp;have q8:((w7.setCell (y_ (w.1.size+2)) (Xu 0)).setCell (x_ (w.1.size+2) 1) (Xu 0)).drew.1[w.1.size+2]?=_:=ew HQ.O (Xu 0) (Xu 0);have o8:∀k,k≠w.1.size+2->((w7.setCell (y_ (w.1.size+2)) (Xu 0)).setCell (x_ (w.1.size+2) 1) (Xu 0)).drew.1[k]?=w7.1[k]?:=fun k hk=>fA hk _ _;have z8:((w7.setCell (y_ (w.1.size+2)) (Xu 0)).setCell (x_ (w.1.size+2) 1) (Xu 0)).drew.1.size=w7.1.size:=by show ((w7.setCell (y_ (w.1.size+2)) (Xu 0)).setCell (x_ (w.1.size+2) 1) (Xu 0)).1.size=_;simp
 have s8:((w7.setCell (y_ (w.1.size+2)) (Xu 0)).setCell (x_ (w.1.size+2) 1) (Xu 0)).drew.os=w7.os/\((w7.setCell (y_ (w.1.size+2)) (Xu 0)).setCell (x_ (w.1.size+2) 1) (Xu 0)).drew.tape=w7.tape/\((w7.setCell (y_ (w.1.size+2)) (Xu 0)).setCell (x_ (w.1.size+2) 1) (Xu 0)).drew.output=w7.output:=⟨rfl,rfl,rfl⟩;generalize ((w7.setCell (y_ (w.1.size+2)) (Xu 0)).setCell (x_ (w.1.size+2) 1) (Xu 0)).drew=w8 at*
 try go_simp
 refine hK.O _ _ (HI.O _ q8) ?_;clear hK K
 try simp only[pu]
 refine mD fun K hK=>?_;go_simp
 try go_simp
 refine hK.O _ _ (HI.O _ q8) ?_;clear hK K
 try simp only[pu]
 refine mD fun K hK=>?_;go_simp
 try go_simp
 refine hK.O _ _ (HI.O _ q8) ?_;clear hK K
 try simp only[pu]
 refine mX ?_;obtain⟨e0,e1⟩:=Fp q8;have a0:Ig w8 ps S' Y/\Fo Y w w8:=by
  obtain⟨h6,k6,-,-,y6,-,o7,z7,s7⟩:=H6.O;have hY:=HG.i;have hz:=HG.g;have hw:∀k,k≠w.1.size+2->w8.1[k]?=w6.1[k]?:=fun k hk=>(o8 k hk).T (o7 k hk);refine⟨(h6.write (ae ⟨o_,o_⟩) y6 ⟨d_,d_⟩ s_ o_ fun k _ hk=>hw k hk).M fun k hk=>ab hk,?_⟩;have ad:=(Fo.v_ HG.h hY).T (k6.M fun k hk=>ab hk);exact⟨(s8.1.T s7.1).T ad.os,(s8.2.1.T s7.2.1).T ad.tape,(s8.2.2.T s7.2.2).T ad.output,by have:=ad.size;omega,fun k hk=>(hw k (by have:=hY k hk;omega)).T (ad.block k hk)⟩
 have HF:=If a0;clear a0 q8 o8 z8 s8 g0 g1 h0 h1 m0 m1;go_wp2_with fail;exact bodyPost_ret (v:=.tuple #[Xu x,.agg #[Xu 0,Xu 0],.bool false,Xi 0]) (by simp[results,f301,go_sem,e0,e1]) rfl ⟨rfl,HF.O.1,HF.O.2,H6.c,H6.d⟩
def tt(w:World)(px ps l_ f9:Nat):Prop:=w.1[px]?=some (.cells #[PV ps,Xi l_,Xi 0,.iface 162 (fE ps l_),Xu f9] 100)
theorem vQ(f:Nat)(v:Value)(w:World):(method (f+1) 162 v "loft/backend.insert").run prog w=.ok (301,v) w:=k_
theorem lB(A B:World->Prop):∃I:World->Prop,(∀w',I w'->A w'/\B w')/\(∀w',A w'->B w'->I w'):=⟨fun w'=>A w'/\B w',fun _ h=>h,fun _ a b=>⟨a,b⟩⟩
def eu(p:List UInt8×List UInt8):Value:=.agg #[SV p.1,SV p.2]
end
section
open Lf
namespace Tr
variable{S:St}{key:List UInt8}{o:Nat->Nat}{t:Tr}
def eB(l:List It):List Nat:=l.flatMap fun d=>[d.h,d.kh,d.vh]
def F_(l:List It):List (List UInt8×List UInt8):=l.map fun d=>(d.k,d.v)
structure fC (Ok:Tr->Prop) (S:St) (o:Nat->Nat) (t:Tr):Prop where
 fit:Fw S o
 at':At S t
 ok:Ok t
 nd:(eB t.its).Nodup
 F4:∀d∈t.its,gu S d
 F1:t.its.Pairwise eU
theorem iX(a b:List It):eB (a++b)=eB a++eB b:=by unfold eB;grind
theorem mx(d:It)(b:List It):eB (d::b)=d.h::d.kh::d.vh::eB b:=rfl
theorem gU{l:List It}{y:Nat}:y∈eB l↔∃d∈l,y=d.h\/y=d.kh\/y=d.vh:=by
 unfold eB;grind
theorem tB:∀{l:List It},(eB l).Nodup->(l.map (·.h)).Nodup/\∀d∈l,d.kh∉l.map (·.h)/\d.vh∉l.map (·.h)
 | [],_=>⟨dl,fun _ hd=>by cases hd⟩
 | d::l,h=>by
  rw[mx] at h;obtain⟨h1,h2⟩:=aI.1 h;obtain⟨h3,h4⟩:=aI.1 h2;obtain⟨h5,h6⟩:=aI.1 h4;obtain⟨g1,g2⟩:=tB h6;simp only[ah,not_or] at h1 h3;have ad:∀x∈l,x.h∈eB l/\x.kh∈eB l/\x.vh∈eB l:=fun x hx=>⟨gU.2 ⟨x,hx,ab rfl⟩,gU.2 ⟨x,hx,ae (ab rfl)⟩,gU.2 ⟨x,hx,ae (ae rfl)⟩⟩;have hm:∀y,y∉eB l->y∉l.map (·.h):=fun y hy hm=>by
   obtain⟨x,hx,rfl⟩:=az.1 hm;exact hy (ad x hx).1
  refine⟨aI.2 ⟨hm _ h1.2.2,g1⟩,fun x hx=>?_⟩;rw[bi];simp only[ah,not_or];rcases ah.1 hx with rfl | hx
  ·exact⟨⟨fun e=>h1.1 e.S,hm _ h3.2⟩,fun e=>h1.2.1 e.S,hm _ h5⟩
  ·exact⟨⟨fun e=>h1.2.2 (e▸(ad x hx).2.1),(g2 x hx).1⟩,fun e=>h1.2.2 (e▸(ad x hx).2.2),(g2 x hx).2⟩
theorem fC.hs{Ok:Tr->Prop}(h:fC Ok S o t):t.hs.Nodup/\∀d∈t.its,d.kh∉t.hs/\d.vh∉t.hs:=tB h.nd
theorem Dk{l m:List Nat}(h:l.Nodup)(hs:∀y∈l,y∈m):l.length<=m.length:=by
 induction l generalizing m with
 | nil=>exact cC _
 | cons x r ih=>
  obtain⟨h1,h2⟩:=aI.1 h;have hx:=hs x (av ..);have:=ih h2 (m:=m.erase x) fun y hy=>by
   grind
  rw[List.length_erase_of_mem hx] at this;have:0<m.length:=List.length_pos_of_mem hx;simp only[aj];omega
theorem vV {f:Nat->Nat}:∀{l:List Nat},(∀x∈l,∀y∈l,f x=f y->x=y)->l.Nodup->(l.map f).Nodup
 | [],_,_=>dl
 | x::l,h,hn=>by
  obtain⟨h1,h2⟩:=aI.1 hn;rw[bi];refine aI.2 ⟨fun hm=>?_,vV (fun a ha b hb=>h a (ak _ ha) b (ak _ hb)) h2⟩;obtain⟨y,hy,e⟩:=az.1 hm;have:=h y (ak _ hy) x (av ..) e;exact h1 (this▸hy)
theorem EB(n:Nat):(List.replicate n 8).sum=n*8:=by
 simp_all
theorem AI(hf:Fw S o){h:Nat}{ws:List Nat}(hl:i_ S h=some ws)(hw:6<=ws.length):∃a r,eO S.a o a r/\8<=r/\∃(k:Nat) (x:mj),S.t.p_[k]?=some x/\x.is=1/\h=gj x.gen k/\x.t_=a:=by
 obtain⟨k,x,hx,h1,h2,rfl⟩:=(gT hf.tab).1 hl;obtain⟨r,g1,g2,g3⟩:=hf.live k x hx h1;grind [Jy]
theorem D6(hf:Fw S o){l:List Nat}(hn:l.Nodup)(hl:∀h∈l,∃ws,i_ S h=some ws/\6<=ws.length):l.length<=8*S.a.B_.length:=by
 have key:∀h∈l,∃a r,eO S.a o a r/\8<=r/\∃(k:Nat) (x:mj),S.t.p_[k]?=some x/\x.is=1/\h=gj x.gen k/\x.t_=a:=fun h hm=>by
  obtain⟨ws,h1,h2⟩:=hl h hm;exact AI hf h1 h2
 let f:Nat->Nat:=fun h=>if hm:h∈l then(key h hm).choose / 8 else 0
 have ad:∀h (hm:h∈l),f h=(key h hm).choose / 8:=fun h hm=>by grind
 have ai:(l.map f).Nodup:=by
  refine vV ?_ hn;intro x hx y hy he;rw[ad x hx,ad y hy] at he;obtain⟨r,p1,q1,k1,s1,a1,b1,c1,d1⟩:=(key x hx).choose_spec;obtain⟨r',p2,q2,k2,s2,a2,b2,c2,d2⟩:=(key y hy).choose_spec;generalize (key x hx).choose=A at*;generalize (key y hy).choose=B at*
  rcases eO.apart hf.own p1 p2 with g | g | g
  ·have e:k1=k2:=hf.inj k1 k2 s1 s2 a1 a2 b1 b2 (by rw[d1,d2];exact g.1);subst e;rw[a1] at a2
   injection a2 with a2
   subst a2;rw[c1,c2]
  ·omega
  omega
 have an:∀y∈l.map f,y∈S.a.j_.flatMap fun p=>(List.range 8).map fun j=>8*p+j:=by
  intro y hy;obtain⟨h,hm,rfl⟩:=az.1 hy;rw[ad h hm];obtain⟨r,p1,q1,_⟩:=(key h hm).choose_spec;generalize (key h hm).choose=A at*;refine List.mem_flatMap.2 ⟨A / 64,((p1.ok hf.own (b:=0) o_).2.2),az.2 ⟨A / 8 % 8,bw.2 o_,o_⟩⟩
 have:=Dk ai an;rw[am,List.length_flatMap] at this;have e:(S.a.j_.map fun p=>((List.range 8).map fun j=>8*p+j).length)=S.a.j_.map fun _=>8:=by
  grind
 rw[e,List.map_const',EB,i8] at this;omega
theorem At.rec {S:St}:∀{t:Tr},At S t->∀h∈t.hs,∃n:Nd,i_ S h=some (eM n)
 | nil,_,h,hm=>by cases hm
 | node l d m r,⟨h1,h2,h3⟩,h,hm=>by
  rw[eY] at hm;rcases aq.1 hm with hm | hm
  ·exact h2.rec h hm
  ·rcases ah.1 hm with rfl | hm
   ·exact⟨_,h1⟩
   ·exact h3.rec h hm
theorem fC.A_{Ok:Tr->Prop}(h:fC Ok S o t):t.its.length<Lf.A_ S:=by
 have:=D6 h.fit h.hs.1 fun y hy=>by
  obtain⟨n,hn⟩:=h.at'.rec y hy;exact⟨_,hn,by simp[eM]⟩
 grind [Tr.hs,List.length_map,Lf.A_,St.words]
def belowB(key:List UInt8)(l:List It):Nat:=l.countP fun d=>decide (Fu d.k key<0)
theorem lJ(key:List UInt8)(a b:List It):belowB key (a++b)=belowB key a+belowB key b:=List.countP_append
theorem lI{l:List It}(h:∀d∈l,Fu d.k key<0):belowB key l=l.length:=List.countP_eq_length.2 fun d hd=>by simpa using h d hd
theorem lK{l:List It}(h:∀d∈l,¬Fu d.k key<0):belowB key l=0:=List.countP_eq_zero.2 fun d hd=>by simpa using h d hd
end Tr
end
section
open Lf Tr
structure Bn (K:Type) where
 h:Nat
 es:List It
 ks:List K
def Bt:Nat->Type
 | 0=>Empty
 | d+1=>Bn (Bt d)
namespace Bt
variable{d:Nat}{k:Nat}{key:List UInt8}
def ei:List It->List (List It)->List It
 | [],[]=>[]
 | [],k::_=>k
 | e::es,[]=>e::ei es []
 | e::es,k::ks=>k++e::ei es ks
def lo:List It->List (List It)->List It
 | e::es,k::ks=>k++e::lo es ks
 | _,_=>[]
def hd: {d:Nat} ->Bt d->Nat
 | 0,x=>nomatch x
 | _+1,x=>Bn.h x
def nk: {d:Nat} ->Bt d->Nat
 | 0,x=>nomatch x
 | _+1,x=>(Bn.es x).length
def its: {d:Nat} ->Bt d->List It
 | 0,x=>nomatch x
 | _+1,x=>ei (Bn.es x) ((Bn.ks x).map fun k=>its k)
def h_: {d:Nat} ->Bt d->List Nat
 | 0,x=>nomatch x
 | _+1,x=>Bn.h x::((Bn.ks x).map fun k=>h_ k).flatten
def Ok(t:Nat): {d:Nat} ->Bt d->Prop
 | 0,x=>nomatch x
 | d+1,x=>(Bn.es x).length<=2*t-1/\((Bn.ks x).length=if d=0 then 0 else(Bn.es x).length+1)/\∀k∈Bn.ks x,Ok t k/\t<=nk k+1
theorem ga(x:Bt (d+1)):its x=ei (Bn.es x) ((Bn.ks x).map its):=rfl
theorem jQ(x:Bt (d+1)):h_ x=Bn.h x::((Bn.ks x).map h_).flatten:=rfl
theorem jY:∀es:List It,ei es []=es
 | []=>rfl
 | e::es=>by rw[ei,jY es]
theorem G8(l:List (Bt 0)):l=[]:=by
 cases l with
 | nil=>rfl
 | cons a _=>exact nomatch (a:Empty)
theorem its_leaf(x:Bt 1):its x=Bn.es x:=by rw[ga,G8 (Bn.ks x)];exact jY _
theorem xU:∀(es:List It) (ks:List (List It)) (k:Nat),k<=es.length->ks.length=es.length+1->ei es ks=lo (es.take k) (ks.take k)++ei (es.drop k) (ks.drop k)
 | _,_,0,_,_=>by simp[lo]
 | [],_,k+1,h,_=>by simp at h
 | e::es,[],k+1,_,h=>by simp at h
 | e::es,a::ks,k+1,h1,h2=>by
  simp only[aj,Nat.add_le_add_iff_right,cR] at h1 h2;have:=xU es ks k h1 h2;simp only[ci,bZ,lo,ei,this,aV,aJ]
def gJ(es:List It)(ks:List (List It))(k:Nat):List It:=
 match es.drop k with
 | []=>[]
 | e::r=>e::ei r (ks.drop (k+1))
theorem nA{es:List It}{ks:List (List It)}(h1:k<=es.length)(h2:ks.length=es.length+1):ei es ks=lo (es.take k) (ks.take k)++(ks.getD k []++gJ es ks k):=by
 grind [xU,List.drop_eq_getElem_cons,List.getElem?_eq_getElem,gJ,ei]
theorem mP{es:List It}{ks:List (List It)}(h:k<es.length):gJ es ks k=es[k]::ei (es.drop (k+1)) (ks.drop (k+1)):=by
 unfold gJ;rw[bJ h]
theorem uL{es:List It}{ks:List (List It)}(h:es.length<=k):gJ es ks k=[]:=by
 unfold gJ;rw[dm h]
theorem NM:∀(es:List It) (ks:List (List It)),es.length=ks.length->(lo es ks).length=es.length+(ks.map List.length).sum
 | [],[],_=>rfl
 | [],_::_,h=>by simp at h
 | _::_,[],h=>by simp at h
 | e::es,k::ks,h=>by
  simp only[aj,cR] at h;have:=NM es ks h;simp only[lo,ag,aj,this,bi,List.sum_cons];omega
theorem LE:∀(es:List It) (ks:List (List It)) (e:It) (k:List It),es.length=ks.length->lo (es++[e]) (ks++[k])=lo es ks++(k++[e])
 | [],[],_,_,_=>rfl
 | [],_::_,_,_,h=>by simp at h
 | _::_,[],_,_,h=>by simp at h
 | a::es,b::ks,e,k,h=>by
  simp only[aj,cR] at h;have:=LE es ks e k h;simp only[aJ,lo,this,aV]
theorem JD:∀(es:List It) (ks:List (List It)),(ks=[]\/ks.length=es.length+1)->es.Sublist (ei es ks)
 | [],_,_=>List.nil_sublist _
 | e::es,[],_=>by rw[jY];grind
 | e::es,k::ks,h=>by
  have h:ks.length=es.length+1:=by
   rcases h with h | h
   ·cases h
   ·simpa using h
  exact((JD es ks (ae h)).cons_cons e).T (List.sublist_append_right _ _)
theorem Na{a b c:It}(h:eU a b)(g:eU b c):eU a c:=ig h g
theorem vu {key:List UInt8}:∀(es:List It) (ks:List (List It)),es.length=ks.length->(lo es ks).Pairwise eU->(∀e∈es,Fu e.k key<0)->∀d∈lo es ks,Fu d.k key<0
 | [],_,_,_,_,d,hd=>by cases hd
 | _::_,[],h,_,_,d,hd=>by simp at h
 | e::es,k::ks,h,hp,hb,d,hd=>by
  simp only[aj,cR] at h;rw[lo] at hp hd;obtain⟨p1,p2,p3⟩:=bE.1 hp;have he:=hb e (av ..);rcases aq.1 hd with hd | hd
  ·exact ig (p3 d hd e (av ..)) he
  ·rcases ah.1 hd with rfl | hd
   ·exact he
   ·exact vu es ks h (bC.1 p2).2 (fun e he=>hb e (ak _ he)) d hd
theorem lL {key:List UInt8}:∀{l:List It},l.Pairwise eU->(∀d∈l.take (belowB key l),Fu d.k key<0)/\(∀d∈l.drop (belowB key l),¬Fu d.k key<0)/\belowB key l<=l.length
 | [],_=>⟨by grind,by grind,Nat.le_refl _⟩
 | e::l,h=>by
  obtain⟨h1,h2⟩:=bC.1 h;obtain⟨g1,g2,g3⟩:=lL (key:=key) h2;by_cases he:Fu e.k key<0
  ·have hb:belowB key (e::l)=belowB key l+1:=by unfold belowB;rw[List.countP_cons_of_pos (by simpa using he)]
   grind
  ·have ad:∀d∈l,¬Fu d.k key<0:=fun d hd hlt=>he (ig (h1 d hd) hlt);have hb:belowB key (e::l)=0:=lK fun d hd=>by
    rcases ah.1 hd with rfl | hd
    ·exact he
    ·exact ad d hd
   grind
def G7(key:List UInt8)(l:List It):Option It:=l.find? fun d=>d.k==key
theorem oa{a b:List It}(h:∀d∈a,d.k≠key):G7 key (a++b)=G7 key b:=by
 grind [G7,List.find?_eq_none,hd]
theorem findB_none{a:List It}(h:∀d∈a,d.k≠key):G7 key a=none:=bS.2 fun d hd=>by simpa using h d hd
theorem AR{a b:List It}(h:∀d∈b,d.k≠key):G7 key (a++b)=G7 key a:=by
 grind [G7,List.find?_eq_none,hd,List.find?]
theorem ur{e:It}{l:List It}(h:e.k=key):G7 key (e::l)=some e:=by
 unfold G7;grind
theorem ne_of_lt{d:It}(h:Fu d.k key<0):d.k≠key:=fun e=>by rw[e,fX] at h;omega
theorem ne_of_gt{d:It}(h:0<Fu d.k key):d.k≠key:=fun e=>by rw[e,fX] at h;omega
structure ix (key:List UInt8) (es:List It) (ks:List (List It)):Prop where
 len:ks.length=es.length+1
 lo:∀d∈lo (es.take (belowB key es)) (ks.take (belowB key es)),Fu d.k key<0
 le:belowB key es<=es.length
 hi:∀d∈gJ es ks (belowB key es),¬Fu d.k key<0
 kid:(ks.getD (belowB key es) []).Pairwise eU
 hiS:(gJ es ks (belowB key es)).Pairwise eU
 kh:∀a∈ks.getD (belowB key es) [],∀b∈gJ es ks (belowB key es),eU a b
theorem l7{es:List It}{ks:List (List It)}(h:ks.length=es.length+1)(hs:(ei es ks).Pairwise eU):ix key es ks:=by
 have ad:es.Pairwise eU:=hs.sublist (JD es ks (ae h));obtain⟨b1,b2,b3⟩:=lL (key:=key) ad;have hw:=nA (ks:=ks) b3 h;rw[hw] at hs;obtain⟨p1,p2,p3⟩:=bE.1 hs;obtain⟨q1,q2,q3⟩:=bE.1 p2;refine⟨h,vu _ _ (by grind) p1 b1,b3,?_,q1,q2,q3⟩;intro d hd
 by_cases hk:belowB key es<es.length
 ·rw[mP hk] at hd q2;have he:=b2 es[belowB key es] (by rw[bJ hk];grind)
  rcases ah.1 hd with rfl | hd
  ·omega
  ·exact fun hlt=>he (ig ((bC.1 q2).1 d hd) hlt)
 ·rw[uL o_] at hd
  grind
theorem ix.parts{es:List It}{ks:List (List It)}(h:ix key es ks):ei es ks=Bt.lo (es.take (belowB key es)) (ks.take (belowB key es))++(ks.getD (belowB key es) []++gJ es ks (belowB key es)):=nA h.le h.len
theorem ix.lo_len{es:List It}{ks:List (List It)}(h:ix key es ks):(Bt.lo (es.take (belowB key es)) (ks.take (belowB key es))).length=belowB key es+((ks.take (belowB key es)).map List.length).sum:=by
 have h1:=h.le;have h2:=h.len;grind [NM,List.length_take]
theorem ix.a_{es:List It}{ks:List (List It)}(h:ix key es ks):belowB key (ei es ks)=belowB key es+((ks.take (belowB key es)).map List.length).sum+belowB key (ks.getD (belowB key es) []):=by
 rw[h.parts,lJ,lJ,lI h.lo,lK h.hi,h.lo_len];rfl
theorem ix.here{es:List It}{ks:List (List It)}(h:ix key es ks)(hk:belowB key es<es.length)(he:(es[belowB key es]).k=key):G7 key (ei es ks)=some es[belowB key es]/\belowB key (ks.getD (belowB key es) [])=(ks.getD (belowB key es) []).length:=by
 have ad:∀d∈ks.getD (belowB key es) [],Fu d.k key<0:=fun d hd=>by
  have:=h.kh d hd es[belowB key es] (by rw[mP hk];exact av ..);unfold eU at this
  grind
 refine⟨?_,lI ad⟩;rw[h.parts,oa fun d hd=>ne_of_lt (h.lo d hd),oa fun d hd=>ne_of_lt (ad d hd),mP hk,ur he]
theorem ix.down{es:List It}{ks:List (List It)}(h:ix key es ks)(hn:∀hk:belowB key es<es.length,(es[belowB key es]).k≠key):G7 key (ei es ks)=G7 key (ks.getD (belowB key es) []):=by
 rw[h.parts,oa fun d hd=>ne_of_lt (h.lo d hd),AR];intro d hd
 by_cases hk:belowB key es<es.length
 ·have h2:=h.hi;have h3:=h.hiS;rw[mP hk] at hd h2 h3;have e0:=h2 _ (av ..);have e1:0<Fu (es[belowB key es]).k key:=by
   grind [Int.lt_trichotomy,Fu,belowB,absurd,jL]
  rcases ah.1 hd with rfl | hd
  ·grind
  ·have:=(bC.1 h3).1 d hd;have h4:Fu key d.k<0:=ig (by rw[ie];omega) this
   grind
 ·rw[uL o_] at hd
  grind
theorem vl{es:List It}(hs:es.Pairwise eU)(hn:∀hk:belowB key es<es.length,(es[belowB key es]).k≠key):∀d∈es,d.k≠key:=by
 obtain⟨b1,b2,b3⟩:=lL (key:=key) hs;intro d hd;rw[<-aU (belowB key es) es] at hd
 rcases aq.1 hd with hd | hd
 ·exact ne_of_lt (b1 d hd)
 ·by_cases hk:belowB key es<es.length
  ·have ad:=hs.drop (i:=belowB key es);rw[bJ hk] at hd b2 ad;have e1:0<Fu (es[belowB key es]).k key:=by
    rcases dK (Fu (es[belowB key es]).k key) 0 with g | g | g
    ·exact absurd g (b2 _ (av ..))
    ·exact absurd (jL g) (hn hk)
    ·exact g
   rcases ah.1 hd with rfl | hd
   ·exact ne_of_gt e1
   ·have:=(bC.1 ad).1 d hd;have h4:Fu key d.k<0:=ig (by rw[ie];omega) this;exact fun e=>by rw[e,fX] at h4;omega
  grind
theorem Lz{es:List It}(hs:es.Pairwise eU)(hk:belowB key es<es.length)(he:(es[belowB key es]).k=key):G7 key es=some es[belowB key es]:=by
 obtain⟨b1,b2,b3⟩:=lL (key:=key) hs
 conv=>lhs;rw[<-aU (belowB key es) es]
 grind [oa,hd,ne_of_lt,List.drop_eq_getElem_cons,ur]
theorem Ok.A6{t d:Nat}{x:Bt (d+2)}(h:Ok t x):(Bn.ks x).length=(Bn.es x).length+1:=by
 have:=h.2.1;grind
theorem Ok.rows{t d:Nat}{x:Bt (d+2)}(h:Ok t x):((Bn.ks x).map its).length=(Bn.es x).length+1:=by
 rw[am];exact h.A6
theorem jN{ks:List (Bt d)}(h:k<ks.length):(ks.map its).getD k []=its ks[k]:=by
 grind
theorem pow_le(t:Nat)(ht:2<=t):∀{d:Nat} {x:Bt d},Ok t x->1<=nk x->2^d<=(its x).length+1
 | 0,x,_,_=>nomatch x
 | 1,x,_,h=>by
  rw[its_leaf];have:1<=(Bn.es x).length:=h;omega
 | d+2,x,h,h1=>by
  have hk:=Ok.A6 h;have h1:1<=(Bn.es x).length:=h1;obtain⟨e,es,he⟩:=dj (l:=Bn.es x) o_;have ad:2<=(Bn.ks x).length:=o_
  obtain⟨a,r,hr⟩:=dj (l:=Bn.ks x) o_;obtain⟨b,r2,ai⟩:=dj (l:=r) (by rw[hr] at ad;simp at ad;omega);subst ai;have ha:=h.2.2 a (by rw[hr];exact av ..);have hb:=h.2.2 b (by rw[hr];exact ak _ (av ..));have pa:=pow_le t ht ha.1 o_;have pb:=pow_le t ht hb.1 o_;have hi:its (d:=d+2) x=its a++e::ei es (its b::r2.map its):=by
   rw[ga,he,hr];rfl
  have hw:(its b).length<=(ei es (its b::r2.map its)).length:=by
   cases es with
   | nil=>simp[ei]
   | cons f es=>simp[ei]
  grind
end Bt
namespace Bt
variable{e:It}{k:Nat}
theorem NW:∀(A B:List It) (C D:List (List It)),A.length=C.length->ei (A++B) (C++D)=lo A C++ei B D
 | [],_,[],_,_=>rfl
 | [],_,_::_,_,h=>by simp at h
 | _::_,_,[],_,h=>by simp at h
 | a::A,B,c::C,D,h=>by
  simp only[aj,cR] at h;simp only[aJ,ei,lo,NW A B C D h,aV]
theorem xV(es:List It)(ks:List (List It))(k:Nat)(r:List It):ei (es.drop k) (r::ks.drop (k+1))=r++gJ es ks k:=by
 grind [gJ,ei]
theorem oW{α:Type}{l:List α}(h:k<l.length):l=l.take k++l[k]::l.drop (k+1):=by
 simp_all
theorem E6{es:List It}{ks:List (List It)}(h1:k<=es.length)(h2:ks.length=es.length+1)(r:List It):ei es (ks.set k r)=lo (es.take k) (ks.take k)++(r++gJ es ks k):=by
 have hk:k<ks.length:=o_
 have e1:ks.set k r=ks.take k++r::ks.drop (k+1):=by rw[de,if_pos hk]
 grind [List.take_append_drop,NW,List.length_take,xV]
theorem E4{es:List It}{ks:List (List It)}(h1:k<=es.length)(h2:ks.length=es.length+1)(m:It)(r1 r2:List It):
 ei (es.take k++m::es.drop k) (ks.take k++r1::r2::ks.drop (k+1))=lo (es.take k) (ks.take k)++(r1++m::(r2++gJ es ks k)):=by
 grind [NW,List.length_take,ei,xV]
theorem E5{es:List It}{ks:List (List It)}{i:Nat}(h1:i<es.length)(h2:ks.length=es.length+1):ei es ks=ei (es.take i) (ks.take (i+1))++es[i]::ei (es.drop (i+1)) (ks.drop (i+1)):=by
 have hk:i<ks.length:=o_
 have e3:ks.take (i+1)=ks.take i++[ks[i]]:=by rw[aw hk]
 have e4:=NW (es.take i) [] (ks.take i) [ks[i]] (by rw[aK,aK];omega)
 grind [oW,NW,List.length_take,ei]
theorem sZ:∀(es:List It) (ks:List (List It)),ks=[]\/ks.length=es.length+1->(ei es ks).length=es.length+(ks.map List.length).sum
 | [],[],_=>rfl
 | [],[k],_=>by simp[ei]
 | [],_::_::_,h=>by grind
 | e::es,[],_=>by rw[jY];simp
 | e::es,k::ks,h=>by
  have h:ks.length=es.length+1:=by simpa using h
  have:=sZ es ks (ae h);simp only[ei,ag,aj,this,bi,List.sum_cons];omega
def insB(e:It)(l:List It):List It:=l.take (belowB e.k l)++e::l.drop (belowB e.k l)
theorem BE{A K B:List It}(hA:∀d∈A,Fu d.k e.k<0)(hB:∀d∈B,¬Fu d.k e.k<0):insB e (A++(K++B))=A++(insB e K++B):=by
 have hb:belowB e.k (A++(K++B))=A.length+belowB e.k K:=by rw[lJ,lJ,lI hA,lK hB];rfl
 have hk:belowB e.k K<=K.length:=ct;unfold insB;rw[hb,List.take_append,List.drop_append,aQ o_,show A.drop (A.length+belowB e.k K)=[] from dm o_,Nat.add_sub_cancel_left,List.take_append,List.drop_append,
  Nat.sub_eq_zero_of_le hk,bW,c8,aW,aX]
 grind
theorem insB_length(e:It)(l:List It):(insB e l).length=l.length+1:=by
 have:belowB e.k l<=l.length:=ct;grind [insB,List.length_append,List.length_cons,List.length_take,List.length_drop]
theorem kg{e d:It}{l:List It}:d∈insB e l↔d=e\/d∈l:=by
 grind [insB,List.take_append_drop,belowB]
theorem uR{l:List It}(hs:l.Pairwise eU)(hn:∀d∈l,d.k≠e.k):(insB e l).Pairwise eU:=by
 obtain⟨b1,b2,b3⟩:=lL (key:=e.k) hs;have ad:∀d∈l.drop (belowB e.k l),eU e d:=fun d hd=>by
  have h1:=b2 d hd;have h2:=hn d (bB hd)
  grind [eU,ie,Int.lt_trichotomy,Fu,absurd,jL]
 refine bE.2 ⟨hs.take,bC.2 ⟨ad,hs.drop⟩,fun a ha b hb=>?_⟩
 rcases ah.1 hb with rfl | hb
 ·exact b1 a ha
 ·exact Na (b1 a ha) (ad b hb)
theorem CZ{d:Nat}(ks:List (Bt d))(k:Nat)(y:Bt d):(ks.set k y).map its=(ks.map its).set k (its y):=List.map_set ..
theorem ix.insert{es:List It}{ks:List (List It)}(h:ix e.k es ks):insB e (ei es ks)=Bt.lo (es.take (belowB e.k es)) (ks.take (belowB e.k es))++(insB e (ks.getD (belowB e.k es) [])++gJ es ks (belowB e.k es)):=by
 rw[h.parts,BE h.lo h.hi]
def gY(t:Nat){d:Nat}(x:Bt (d+1)):Prop:=(Bn.es x).length<=2*t/\((Bn.ks x).length=if d=0 then 0 else(Bn.es x).length+1)/\∀k∈Bn.ks x,Ok t k/\t<=nk k+1
def leafPut {d:Nat}(x:Bt (d+1))(e:It):Bt (d+1):=(⟨Bn.h x,(Bn.es x).take (belowB e.k (Bn.es x))++e::(Bn.es x).drop (belowB e.k (Bn.es x)),Bn.ks x⟩:Bn (Bt d))
def ju {d:Nat}(x:Bt (d+1))(k:Nat)(y:Bt d):Bt (d+1):=(⟨Bn.h x,Bn.es x,(Bn.ks x).set k y⟩:Bn (Bt d))
def ja {d:Nat}(x:Bt (d+1))(k:Nat)(y1:Bt d)(m:It)(y2:Bt d):Bt (d+1):=(⟨Bn.h x,(Bn.es x).take k++m::(Bn.es x).drop k,(Bn.ks x).take k++y1::y2::(Bn.ks x).drop (k+1)⟩:Bn (Bt d))
def G_(t:Nat){d:Nat}(x:Bt (d+1)):Bt (d+1):=(⟨Bn.h x,(Bn.es x).take t,(Bn.ks x).take (t+1)⟩:Bn (Bt d))
def G5(t:Nat){d:Nat}(x:Bt (d+1))(h:Nat):Bt (d+1):=(⟨h,(Bn.es x).drop (t+1),(Bn.ks x).drop (t+1)⟩:Bn (Bt d))
theorem Ch(x:Bt 1)(e:It):its (leafPut x e)=insB e (its x):=by
 rw[its_leaf,its_leaf];rfl
theorem lg{es:List It}(h:k<=es.length)(m:It):(es.take k++m::es.drop k).length=es.length+1:=by
 grind
theorem OI{t:Nat}(ht:1<=t){x:Bt 1}(h:Ok t x)(e:It):gY t (leafPut x e):=by
 refine⟨?_,h.2.1,h.2.2⟩;have:=h.1
 show ((Bn.es x).take (belowB e.k (Bn.es x))++e::(Bn.es x).drop (belowB e.k (Bn.es x))).length<=2*t
 grind
theorem BO{t d:Nat}{x:Bt (d+2)}(h:Ok t x)(k:Nat)(hk:k<=(Bn.es x).length)(y:Bt (d+1)):its (ju x k y)=lo ((Bn.es x).take k) (((Bn.ks x).map its).take k)++(its y++gJ (Bn.es x) ((Bn.ks x).map its) k):=by
 show ei (Bn.es x) (((Bn.ks x).set k y).map its)=_
 rw[CZ,E6 hk h.rows]
theorem BQ{t d:Nat}{x:Bt (d+2)}(h:Ok t x)(k:Nat)(hk:k<=(Bn.es x).length)(y1:Bt (d+1))(m:It)(y2:Bt (d+1)):its (ja x k y1 m y2)=lo ((Bn.es x).take k) (((Bn.ks x).map its).take k)++(its y1++m::(its y2++gJ (Bn.es x) ((Bn.ks x).map its) k)):=by
 rw[ga,<-E4 hk h.rows]
 show ei _ (((Bn.ks x).take k++y1::y2::(Bn.ks x).drop (k+1)).map its)=_
 rw[aN,bi,bi,du,List.map_drop]
 rfl
theorem BP{t d:Nat}(ht:1<=t){x:Bt (d+2)}(h:Ok t x)(k:Nat){y:Bt (d+1)}(hy:Ok t y)(hn:t<=nk y+1):gY t (ju x k y):=by
 refine⟨?_,?_,fun z hz=>?_⟩
 ·have:=h.1
  show (Bn.es x).length<=2*t;omega
 ·show ((Bn.ks x).set k y).length=_;rw[bA];exact h.2.1
 ·rcases df hz with hz | rfl
  ·exact h.2.2 z hz
  grind
theorem BS{t d:Nat}(ht:1<=t){x:Bt (d+2)}(h:Ok t x)(k:Nat)(hk:k<=(Bn.es x).length){y1 y2:Bt (d+1)}(m:It)(h1:Ok t y1)(n1:t<=nk y1+1)(h2:Ok t y2)(n2:t<=nk y2+1):gY t (ja x k y1 m y2):=by
 have ad:=Ok.A6 h;refine⟨?_,?_,fun z hz=>?_⟩
 ·have:=h.1
  show ((Bn.es x).take k++m::(Bn.es x).drop k).length<=2*t
  grind
 ·rw[if_neg o_]
  show ((Bn.ks x).take k++y1::y2::(Bn.ks x).drop (k+1)).length=((Bn.es x).take k++m::(Bn.es x).drop k).length+1
  grind
 ·rcases aq.1 (show z∈(Bn.ks x).take k++y1::y2::(Bn.ks x).drop (k+1) from hz) with hz | hz
  ·exact h.2.2 z (bD hz)
  ·rcases ah.1 hz with rfl | hz
   ·grind
   ·rcases ah.1 hz with rfl | hz
    ·grind
    ·exact h.2.2 z (bB hz)
theorem gY.ok{t d:Nat}{x:Bt (d+1)}(h:gY t x)(hl:(Bn.es x).length<2*t):Ok t x:=⟨o_,h.2.1,h.2.2⟩
theorem gY.rows{t d:Nat}{x:Bt (d+1)}(h:gY t x):((Bn.ks x).map its=[]/\d=0)\/(((Bn.ks x).map its).length=(Bn.es x).length+1/\d≠0):=by
 by_cases hd:d=0
 ·subst hd;exact ab ⟨by rw[G8 (Bn.ks x)];rfl,rfl⟩
 ·have:=h.2.1
  grind
theorem gY.split{t d:Nat}(ht:1<=t){x:Bt (d+1)}(h:gY t x)(hl:(Bn.es x).length=2*t)(g:Nat):its x=its (G_ t x)++(Bn.es x)[t]' o_::its (G5 t x g)/\Ok t (G_ t x)/\Ok t (G5 t x g)/\nk (G_ t x)=t/\nk (G5 t x g)+1=t:=by
 have hL:nk (G_ t x)=t:=by show ((Bn.es x).take t).length=t;grind
 have hR:nk (G5 t x g)+1=t:=by show ((Bn.es x).drop (t+1)).length+1=t;grind
 have hk:=h.2.1;refine⟨?_,⟨by have:((Bn.es x).take t).length=t:=hL;show ((Bn.es x).take t).length<=_;omega,?_,fun z hz=>h.2.2 z (bD hz)⟩,⟨by have:((Bn.es x).drop (t+1)).length+1=t:=hR;show ((Bn.es x).drop (t+1)).length<=_;omega,?_,fun z hz=>h.2.2 z (bB hz)⟩,hL,hR⟩
 ·rw[ga,ga,ga]
  show _=ei ((Bn.es x).take t) (((Bn.ks x).take (t+1)).map its)++_::ei ((Bn.es x).drop (t+1)) (((Bn.ks x).drop (t+1)).map its)
  rw[du,List.map_drop]
  rcases h.rows with⟨h0,_⟩ | ⟨h0,_⟩
  ·rw[h0,List.take_nil,List.drop_nil,jY,jY,jY];exact oW o_
  ·exact E5 o_ h0
 ·show ((Bn.ks x).take (t+1)).length=if d=0 then 0 else((Bn.es x).take t).length+1
  grind
 ·show ((Bn.ks x).drop (t+1)).length=if d=0 then 0 else((Bn.es x).drop (t+1)).length+1
  grind
theorem qZaab{P:Prop}(h:P:=by
 rcases h.rows with⟨h0,_⟩ | ⟨h0,_⟩
 ·exact ab h0
 omega):P:=h
theorem its_length{t d:Nat}{x:Bt (d+1)}(h:gY t x):(its x).length=(Bn.es x).length+((Bn.ks x).map fun k=>(its k).length).sum:=by
 rw[ga,sZ]
 ·rw[cQ]
  rfl
 ·exact qZaab
theorem Ok.okN{t d:Nat}{x:Bt (d+1)}(h:Ok t x):gY t x:=⟨by have:=h.1;omega,h.2.1,h.2.2⟩
end Bt
structure jg (S:St) (t h:Nat) (n:BN):Prop where
 ok:iU t n
 lt:h<2^64
 len:S.len h=(6*t,0)
 get:∀k,k<6*t->S.get h k=(wAt t n n.j_.length n.A6.length k,0)
 words:∀v∈v8 t n,v<2^64
theorem zC {S:St}{o:Nat->Nat}(hf:Fw S o){t h:Nat}{n:BN}(hl:i_ S h=some (v8 t n))(hn:iU t n):jg S t h n:=by
 have h1:=jw hf.tab hl;have h2:=fL hf hl;rw[jJ] at h1;refine⟨hn,h2.2.1,h1,fun k hk=>?_,h2.2.2.2⟩;rw[ru hf hl (by rw[jJ];exact hk)];grind [v8,List.getElem?_range]
structure iT (n:BN):Prop where
 j_:∀v∈n.j_,v<2^64
 C9:∀v∈n.C9,v<2^64
 A6:∀v∈n.A6,v<2^64
 size:n.size<2^64
theorem qK {l:List Nat}(h:∀v∈l,v<2^64)(k:Nat):l.getD k 0<2^64:=by
 grind [List.getElem?_eq_getElem,List.getElem_mem,List.getElem?_eq_none]
theorem kX {t:Nat}{n:BN}(h:iT n)(hk:n.j_.length<2^64):∀v∈v8 t n,v<2^64:=by
 intro v hv;obtain⟨j,_,rfl⟩:=az.1 hv;have h1:=qK h.j_ ((j-2) / 2);have h2:=qK h.C9 ((j-2) / 2);have h3:=qK h.A6 (j-4*t);have h4:=h.size;unfold wAt;grind
namespace Bt
variable{S:St}{d:Nat}{e:It}{o:Nat->Nat}{t:Nat}
def bn {d:Nat}(x:Bt (d+1)):BN:=⟨(Bn.es x).map (·.kh),(Bn.es x).map (·.vh),(Bn.ks x).map hd,(its x).length⟩
def At(S:St)(t:Nat): {d:Nat} ->Bt d->Prop
 | 0,x=>nomatch x
 | _+1,x=>i_ S (Bn.h x)=some (v8 t (bn x))/\∀k∈Bn.ks x,At S t k
theorem At.hd_ok(hf:Fw S o):∀{d:Nat} {x:Bt d},At S t x->hd x≠0/\hd x<2^64
 | 0,x,_=>nomatch x
 | d+1,x,h=>by
  have:=fL hf h.1;refine⟨fun e=>?_,this.2.1⟩;have e:Bn.h x=0:=e;have:=this.1;omega
theorem At.bnok(hf:Fw S o)(t1:2<=t)(t2:t<=16){x:Bt (d+1)}(h:At S t x)(ok:Ok t x):iU t (bn x):=by
 refine⟨t1,t2,by unfold bn;rw[am];exact ok.1,by unfold bn;grind,?_⟩;have hk:=ok.2.1;unfold bn;simp only[am]
 by_cases hd0:d=0
 ·grind
 ·rw[if_neg hd0] at hk;refine ae ⟨hk,?_⟩;rw[Bool.eq_false_iff];intro hc;obtain⟨k,ad,e⟩:=az.1 (db.1 hc);exact(At.hd_ok hf (h.2 k ad)).1 e
theorem At.read(hf:Fw S o)(t1:2<=t)(t2:t<=16){x:Bt (d+1)}(h:At S t x)(ok:Ok t x):jg S t (hd x) (bn x):=zC hf h.1 (h.bnok hf t1 t2 ok)
theorem At.frame {S S':St}{t:Nat}:∀{d:Nat} {x:Bt d},At S t x->(∀h∈h_ x,i_ S' h=i_ S h)->At S' t x
 | 0,x,_,_=>nomatch x
 | d+1,x,h,hf=>by
  refine⟨(hf _ (av ..)).T h.1,fun k hk=>(h.2 k hk).frame fun y hy=>hf y (ak _ ?_)⟩;exact cM.2 ⟨_,az.2 ⟨k,hk,rfl⟩,hy⟩
theorem mem_nodes_kid{x:Bt (d+1)}{k:Bt d}(hk:k∈Bn.ks x){y:Nat}(hy:y∈h_ k):y∈h_ x:=ak _ (cM.2 ⟨_,az.2 ⟨k,hk,rfl⟩,hy⟩)
theorem hd_mem:∀{d:Nat} (x:Bt d),hd x∈h_ x
 | 0,x=>nomatch x
 | _+1,_=>av ..
theorem At.rec {S:St}{t:Nat}:∀{d:Nat} {x:Bt d},At S t x->∀h∈h_ x,∃n,i_ S h=some (v8 t n)
 | 0,x,_,_,_=>nomatch x
 | d+1,x,h,y,hy=>by
  rcases ah.1 hy with rfl | hy
  ·exact⟨_,h.1⟩
  ·obtain⟨l,hl,hy⟩:=cM.1 hy;obtain⟨k,hk,rfl⟩:=az.1 hl;exact(h.2 k hk).rec y hy
theorem bnLt_of(hf:Fw S o){t d:Nat}{x:Bt (d+1)}(hb:∀e∈Bn.es x,e.kh<2^64/\e.vh<2^64)(hk:∀k∈Bn.ks x,At S t k)(hl:(its x).length<2^64):iT (bn x):=by
 refine⟨fun v hv=>?_,fun v hv=>?_,fun v hv=>?_,hl⟩
 ·obtain⟨e,he,rfl⟩:=az.1 hv
  grind
 ·obtain⟨e,he,rfl⟩:=az.1 hv
  grind
 ·obtain⟨k,ad,rfl⟩:=az.1 hv;exact(At.hd_ok hf (hk k ad)).2
theorem blobs_lt(hf:Fw S o)(h:gu S e):e.kh<2^64/\e.vh<2^64:=⟨(fL hf h.k).2.1,(fL hf h.v).2.1⟩
theorem lN{x:Bt (d+1)}(h:gY t x)(he:e∈Bn.es x):e∈its x:=by
 rw[ga];refine(JD _ _ ?_).subset he;exact qZaab
theorem vM:∀(es:List It) (ks:List (List It)),(ks=[]\/ks.length=es.length+1)->∀k∈ks,∀e∈k,e∈ei es ks
 | _,[],_,k,hk,_,_=>by cases hk
 | [],[a],_,k,hk,e,he=>by
  rcases ah.1 hk with rfl | hk
  ·exact he
  ·cases hk
 | [],_::_::_,h,_,_,_,_=>by simp at h
 | f::es,a::ks,h,k,hk,e,he=>by
  rw[ei];rcases ah.1 hk with rfl | hk
  ·exact aD _ he
  ·exact aA _ (ak _ (vM es ks (ae (by simpa using h)) k hk e he))
theorem kid_its{x:Bt (d+1)}(h:gY t x){k:Bt d}(hk:k∈Bn.ks x)(he:e∈its k):e∈its x:=by
 refine vM _ _ ?_ (its k) (az.2 ⟨k,hk,rfl⟩) e he;exact qZaab
def F0(t:Nat)(key:List UInt8): {d:Nat} ->Bt d->List Bool
 | 0,x=>nomatch x
 | _+1,x=>decide ((Bn.es x).length=2*t-1)::(match (Bn.ks x)[belowB key (Bn.es x)]? with | none=>[] | some k=>F0 t key k)
def trail:List Bool->Nat
 | []=>0
 | b::r=>if r.all id=true then(if b=true then r.length+1 else r.length) else trail r
def needB:Nat->Bool->List Bool->Nat
 | full,all,[]=>full+if all=true then 1 else 0
 | full,all,b::r=>if b=true then needB (full+1) all r else needB 0 false r
theorem trail_all:∀{r:List Bool},r.all id=true->trail r=r.length
 | [],_=>rfl
 | b::r,h=>by
  simp only[List.all_cons,aM,id] at h;unfold trail;rw[if_pos h.2,if_pos h.1];rfl
theorem rK:∀(p:List Bool) (full:Nat) (all:Bool),needB full all p=if p.all id=true then full+p.length+(if all=true then 1 else 0) else trail p
 | [],full,all=>by unfold needB;simp
 | b::r,full,all=>by
  unfold needB trail;cases b with
  | true=>
   rw[if_pos rfl,rK r];simp only[List.all_cons,id,Bool.true_and,aj];by_cases h:r.all id=true
   ·rw[if_pos h,if_pos h];omega
   ·rw[if_neg h,if_neg h,if_neg h]
  | false=>
   rw[if_neg s_,rK r];simp only[List.all_cons,id,Bool.false_and];by_cases h:r.all id=true
   ·rw[if_pos h,if_neg s_,if_pos h,if_neg s_];simp
   ·rw[if_neg h,if_neg s_,if_neg h]
theorem need_zero(p:List Bool):needB 0 true p=trail p+if p.all id=true then 1 else 0:=by
 rw[rK]
 by_cases h:p.all id=true
 ·rw[if_pos h,if_pos h,trail_all h]
  simp
 grind
end Bt
end
section
open Go.RowKit Tryz Go.BigFrame Go.Maps Go.WideMaps Lf Tr
variable{S:St}{Y:Nat->Prop}{d:Nat}{hh:Nat}{k:List UInt8}{key:List UInt8}{n:BN}{o:Nat->Nat}{ps:Nat}{t:Nat}{w:World}
def FH(ps t:Nat):Value:=.agg #[PV ps,Xi t]
theorem zK(h:Ig w ps S Y)(hi:Fv S)(t hh:Nat)(hl:hh<2^64)(hg:fz S hh=(k,0)):
 Cb 174 #[FH ps t,Xu hh] w (SV k):=by
 have ad:D_ w (w.alloc (Xc ps t)):=(aa _ w).alloc Ih _;have ai:=hg;have hg:=iz (h.a_ ad) hi hh hl (by rw[hg];show (0:Nat)≠8;decide);rw[ai] at hg;unfold FH;have HG:=kq2 hg ad;clear hg ad h hi ai;go_enter func174,ntmps174;go_wp2_with fail;refine dR HG.a fun w1 hb=>?_;have HB:=If (b_ HG.b hb);clear hb;go_wp2_with fail;go_ret;exact⟨rfl,HB.O⟩
theorem zP(h:Ig w ps S Y)(hi:Fv S)(t hh:Nat)(hl:hh<2^64)(hg:fz S hh=(k,0))(key:List UInt8){b:Nat}(hb:w.1[b]?=some (.cells #[PV ps,Xi t] 145 (0,0))):
 Cb 237 #[Xu hh,SV key,PV b] w (Xi (Fu k key)):=by
 have hk:=zK h hi t hh hl hg;unfold FH at hk;obtain⟨c0,c1⟩:=Fp hb;have HG:=If hk;have HC:=fun W=>If (sT k key W);clear hk h hi hg hb;go_enter func237,ntmps237;go_wp2_with fail;refine dR HG.O fun w1 hb=>?_;have HB:=If hb;clear hb;go_wp2_with fail;refine Jc (HC _).O ?_;go_wp2_with fail;go_ret;exact⟨rfl,HB.O⟩
def fo(key:List UInt8)(es:List It):Bool:=match es[belowB key es]? with | some e=>decide (e.k=key) | none=>false
theorem yY{es:List It}{k:Nat}(h1:∀(j:Nat) (h:j<es.length),j<k->Fu es[j].k key<0)(h2:∀(j:Nat) (h:j<es.length),k<=j->0<=Fu es[j].k key)(hk:k<=es.length):belowB key es=k:=by
 conv=>lhs;rw[<-aU k es]
 rw[lJ,lI,lK,aK]
 ·omega
 ·intro d hd;obtain⟨j,hj,rfl⟩:=bK.1 hd;rw[List.getElem_drop];have:=h2 (k+j) (by rw[bT] at hj;omega) o_;omega
 ·intro d hd;obtain⟨j,hj,rfl⟩:=bK.1 hd;rw[List.getElem_take];rw[aK] at hj;exact h1 _ _ o_
theorem G3{v:Value}{es:List It}(h:FD w v (es.map (·.kh)))(hl:es.length<=100000)(hs:es.Pairwise eU)(key:List UInt8){f b:Nat}(hen:∀(args:Array Value) (w:World),(callFunc f args).run prog w=.ok (.enter f args) w)
 (hcall:∀W,D_ w W->∀(j:Nat) (hj:j<es.length),Ct f #[Xu (es[j].kh:Nat),SV key,PV b] W fun e w'=>e=.returned (Xi (Fu es[j].k key))/\D_ W w'):
 Cb 236 #[v,SV key,.func (.func f) #[] #[PV b]] w (.tuple #[Xi (belowB key es:Nat),.bool (fo key es)]):=by
 obtain⟨A,c,rfl,hc⟩:=h;have hc:∀(i:Nat) (h:i<es.length),∃g o,A=some (x_ g o)/\w.cell? ⟨g,o+i,none⟩=some (Xu (es[i].kh:Nat)):=fun i h=>by
  obtain⟨g,o,e1,e2⟩:=hc i (by simpa using h);rw[bG] at e2;exact⟨g,o,e1,e2⟩
 rw[am];obtain⟨n,hn⟩:=Ii es.length;have a1:∀(i j:Nat) (hi:i<es.length) (hj:j<es.length),i<=j->Fu es[j].k key<0->Fu es[i].k key<0:=fun i j hi hj hij hlt=>by
  rcases cE i j with h | h
  ·exact ig (cJ.1 hs i j hi hj h) hlt
  ·obtain rfl:i=j:=o_
   exact hlt
 rw[hn] at hl⊢;have H:=kq4 hc hcall a1 hn;clear hc hcall a1 hs;go_enter func236,ntmps236;go_wp2_with fail;go_loopw [9,10] (fun s9 s10 wr=>∃lo hi:Nat,lo<=hi/\hi<=n/\s9=Xi lo/\s10=Xi hi/\Hid (D_ w wr/\(∀(j:Nat) (h:j<es.length),j<lo->Fu es[j].k key<0)/\(∀(j:Nat) (h:j<es.length),hi<=j->0<=Fu es[j].k key))) (fun s9 s10 _=>(intOf s10).toNat-(intOf s9).toNat)
 case atStart=>exact⟨0,n,o_,o_,rfl,rfl,aa _ _,fun _ _ h=>absurd h o_,fun j h1 h2=>absurd h1 o_⟩
 case round=>
  obtain⟨lo,hi,a5,a0,rfl,rfl,I⟩:=hrel;by_cases hlt:lo<hi
  ·obtain⟨m,hm⟩:=Ii ((lo+hi) / 2);have ar:m<es.length:=o_
   have a4:(lo:Int)<hi:=o_
   have q1:IntKind.i64.wrap ((lo:Int)+hi)=(lo:Int)+hi:=ax _ o_;obtain⟨g,o,rfl,c1⟩:=H.a m ar;have c2:=(I.O.1.cell (p:=⟨g,o+m,none⟩) (fK c1)).T c1;have an:=H.b wr I.O.1 m ar;have a6:((lo:Int)+hi) / 2=(m:Nat):=o_
   have a7:(m:Int)<n:=o_
   have HK:=kq2 an hm;obtain⟨e,he⟩:=Ii es[m];have HE:=If he;rw[he] at c2 HK;clear an he c1 hm;by_cases hcp:Fu e.k key<0
   ·go_wp2_with fail;refine dR HK.a fun w' hb=>?_;have ai:D_ w w'/\(∀(j:Nat) (h:j<es.length),j<m+1->Fu es[j].k key<0)/\(∀(j:Nat) (h:j<es.length),hi<=j->0<=Fu es[j].k key):=
     ⟨b_ I.O.1 hb,fun j h1 h2=>H.c j m h1 ar o_ (by rw[HE.O];exact hcp),I.O.2.2⟩
    have HI:=If ai;clear ai hb;go_wp2_with fail;go_roundw
    case rel=>exact⟨m+1,hi,by have:=HK.b;omega,a0,s_,rfl,HI⟩
    case measure=>have:=HK.b;simp[intOf];omega
   ·go_wp2_with fail;refine dR HK.a fun w' hb=>?_;have ai:D_ w w'/\(∀(j:Nat) (h:j<es.length),j<lo->Fu es[j].k key<0)/\(∀(j:Nat) (h:j<es.length),m<=j->0<=Fu es[j].k key):=
     ⟨b_ I.O.1 hb,I.O.2.1,fun j h1 h2=>Int.not_lt.1 fun hx=>by have:=H.c m j ar h1 h2 hx;rw[HE.O] at this;omega⟩
    have HI:=If ai;clear ai hb;go_wp2_with fail;go_roundw
    case rel=>exact⟨lo,m,by have:=HK.b;omega,o_,rfl,rfl,HI⟩
    case measure=>have:=HK.b;simp[intOf];omega
  ·obtain rfl:lo=hi:=o_
   have a4:¬(lo:Int)<lo:=o_
   have ad:=yY I.O.2.1 I.O.2.2 (by rw[H.d];exact a0);by_cases hln:lo<n
   ·have au:lo<es.length:=o_
    have a3:(lo:Int)<n:=o_
    obtain⟨g,o,rfl,c1⟩:=H.a lo au;have c2:=(I.O.1.cell (p:=⟨g,o+lo,none⟩) (fK c1)).T c1;have an:=H.b wr I.O.1 lo au;have ap:fo key es=decide (Fu es[lo].k key=0):=by
     unfold fo;rw[ad,af au];exact decide_eq_decide.2 ⟨fun e=>by rw[e,fX],jL⟩
    have HK:=kq3 an ad ap;obtain⟨e,he⟩:=Ii es[lo];rw[he] at c2 HK;clear an he c1 ad ap;generalize a2:Fu e.k key=q at*;clear a2;by_cases hq0:q=0
    ·subst hq0;go_wp2_with fail;refine HK.a.M ?_;rintro e' w' ⟨rfl,hb⟩;have HI:=If (b_ I.O.1 hb);clear hb;go_wp2_with fail;go_ret2;exact⟨by rw[HK.b,HK.c];rfl,HI.O⟩
    ·have a8:(q==0)=false:=by simp;exact hq0
     go_wp2_with fail;refine HK.a.M ?_;rintro e' w' ⟨rfl,hb⟩;have HI:=If (b_ I.O.1 hb);clear hb;go_wp2_with fail;go_ret2;exact⟨by rw[HK.b,HK.c,decide_eq_false hq0];rfl,HI.O⟩
   ·have a3:¬(lo:Int)<n:=o_
    have ap:fo key es=false:=by
     unfold fo;rw[ad,aY o_]
    have HK:=kq2 ad ap;clear ad ap;go_wp2_with fail;go_ret2;exact⟨by rw[HK.a,HK.b];rfl,I.O.1⟩
structure pv (S:St) (es:List It):Prop where
 lt:∀e∈es,e.kh<2^64
 get:∀e∈es,fz S e.kh=(e.k,0)
theorem nR(h:Ig w ps S Y)(hi:Fv S)(t:Nat){es:List It}{vk vv vc:Value}{sz:Nat}(hk:FD w vk (es.map (·.kh)))(hl:es.length<=100000)(hs:es.Pairwise eU)(he:pv S es)(key:List UInt8):
 Cb 211 #[FH ps t,eC vk vv vc sz,SV key] w (.tuple #[Xi (belowB key es:Nat),.bool (fo key es)]):=by
 have B0:=(c_ w (Xc ps t)).alloc s_ (.cells #[vk,vv,vc,Xu sz] 215);have z1:(w.alloc (Xc ps t)).1.size=w.1.size+1:=s_
 have q1:=heap_alloc_new w (Xc ps t);have q2:=heap_alloc_new (w.alloc (Xc ps t)) (.cells #[vk,vv,vc,Xu sz] 215);have q3:=(((aa (w.alloc (Xc ps t)).1.size (w.alloc (Xc ps t))).alloc Ih (.cells #[vk,vv,vc,Xu sz] 215)).block w.1.size s_).T q1;rw[z1] at q2;have ad:∀(args:Array Value) (w:World),(callFunc 237 args).run prog w=.ok (.enter 237 args) w:=fun args w=>by go_simp
 generalize hW:(w.alloc (Xc ps t)).alloc (.cells #[vk,vv,vc,Xu sz] 215)=W0 at*;have ai:=G3 (hk.a_ B0) hl hs key (f:=237) (b:=w.1.size) ad fun W hW j hj=>zP (h.a_ (b_ B0 hW)) hi t _ (he.lt _ (ao hj)) (he.get _ (ao hj)) key ((hW.block w.1.size (gl q3)).T q3);obtain⟨c0,c1,c2,c3⟩:=Fy q2;unfold FH eC;have HG:=kq3 ai B0 hW;clear ai B0 h hi hk he q1 q2 q3 ad hs;go_enter func211,ntmps211;have hW:=HG.c;go_wp2_with fail;refine dR HG.a fun w1 hb=>?_;have HB:=If (b_ HG.b hb);clear hb;go_wp2_with fail;go_ret2;exact⟨rfl,HB.O⟩
theorem kI(h:Ig w ps S Y)(hi:Fv S){t hh:Nat}(hb:jg S t hh n):
 Ct 126 #[FH ps t,Xu hh] w fun e w'=>∃vk vv vc,e=.returned (.tuple #[eC vk vv vc n.size,.bool true])/\fN w' w.1.size vk vv vc n.j_ n.C9 n.A6/\D_ w w':=by
 have B0:=(c_ w (Xc ps t)).alloc s_ (.cells #[n_,n_,n_,Xu 0] 215);have z1:(w.alloc (Xc ps t)).1.size=w.1.size+1:=s_
 have q1:=heap_alloc_new w (Xc ps t);have q2:=heap_alloc_new (w.alloc (Xc ps t)) (.cells #[n_,n_,n_,Xu 0] 215);have q3:=(((aa (w.alloc (Xc ps t)).1.size (w.alloc (Xc ps t))).alloc Ih (.cells #[n_,n_,n_,Xu 0] 215)).block w.1.size s_).T q1;rw[z1] at q2;generalize hW:(w.alloc (Xc ps t)).alloc (.cells #[n_,n_,n_,Xu 0] 215)=W0 at*;obtain⟨sz,ar⟩:=Ii n.size;have hg:=zE (h.a_ B0) hi hb.ok hh hb.lt hb.len hb.get hb.words;unfold eC at hg;rw[ar] at hg;obtain⟨c0,c1⟩:=Fp q3;have hz:w.1.size+2<=W0.1.size:=by rw[<-hW];simp
 unfold FH;have HG:=kq5 hg B0 q2 hW hz;clear hg B0 h hi hb q1 q2 q3 z1 hz;go_enter func126,ntmps126;go_wp2_with fail;refine HG.a.M ?_;rintro e w1 ⟨vk,vv,vc,rfl,rows,hb⟩;obtain⟨Ak,ck,rfl⟩:=rows.k.E_;obtain⟨Av,cv,rfl⟩:=rows.v.E_;obtain⟨Ac,cc,rfl⟩:=rows.c.E_;obtain⟨ks,ai⟩:∃l,n.j_=l:=⟨_,rfl⟩;obtain⟨vs,an⟩:∃l,n.C9=l:=⟨_,rfl⟩;obtain⟨cs,ad⟩:∃l,n.A6=l:=⟨_,rfl⟩;rw[ai,an,ad] at rows⊢;rw[ai,an,ad] at HG;generalize a2:ks.length=lk at rows⊢;generalize a3:vs.length=lv at rows⊢;generalize a1:cs.length=lc at rows⊢;have A1:=c_ w1 (.cells #[(.slice Ak lk ck),(.slice Av lv cv),(.slice Ac lc cc),Xu sz] 215);have p1:=heap_alloc_new w1 (.cells #[(.slice Ak lk ck),(.slice Av lv cv),(.slice Ac lc cc),Xu sz] 215);have r2:=(A1.block (w.1.size+1) (by have:=hb.size;have:=HG.e;omega)).T ((hb.block (w.1.size+1) (by have:=HG.e;omega)).T HG.c);have ap:w.1.size+1≠w1.1.size:=by have:=hb.size;have:=HG.e;omega
 have BA:=HG.b.T ((b_ hb A1).M HG.b.size);have au:=rows.lift (W':=w1.alloc (.cells #[(.slice Ak lk ck),(.slice Av lv cv),(.slice Ac lc cc),Xu sz] 215)) (D':=W0.1.size) Ih fun g _ hg=>A1.block g hg;have r1:=(hb.block (w.1.size+1) (by have:=HG.e;omega)).T HG.c;have HB:=kq6 au BA r2 p1 r1 ap;clear rows hb A1 p1 r2 BA au ap r1;obtain⟨W1,a0⟩:=Ii (w1.alloc (.cells #[(.slice Ak lk ck),(.slice Av lv cv),(.slice Ac lc cc),Xu sz] 215));rw[a0] at HB;have r2:=HB.c;have p1:=HB.d;obtain⟨x0,x1,x2,x3⟩:=Fy p1;obtain⟨y0,y1,y2,y3⟩:=Fy r2;obtain⟨f0,f1,f2,f3⟩:=fO r2;clear r2 p1;go_wp2_with fail;have e5:=oZ (u0:=(.slice Ak lk ck)) (u1:=(.slice Av lv cv)) (u2:=(.slice Ac lc cc)) (u3:=Xu sz) HB.c;have B5:=oY (u0:=(.slice Ak lk ck)) (u1:=(.slice Av lv cv)) (u2:=(.slice Ac lc cc)) (u3:=Xu sz) (b:=w.1.size+1) HB.b o_;have R5:=HB.a.lift (W':=((((W1.setCell (y_ (w.1.size+1)) ((.slice Ak lk ck))).setCell (x_ (w.1.size+1) 1) ((.slice Av lv cv))).setCell (x_ (w.1.size+1) 2) ((.slice Ac lc cc))).setCell (x_ (w.1.size+1) 3) (Xu sz))) (D':=w.1.size) (by have:=HG.e;omega) fun g hg _=>sy (by have:=HG.e;omega);generalize ((((W1.setCell (y_ (w.1.size+1)) ((.slice Ak lk ck))).setCell (x_ (w.1.size+1) 1) ((.slice Av lv cv))).setCell (x_ (w.1.size+1) 2) ((.slice Ac lc cc))).setCell (x_ (w.1.size+1) 3) (Xu sz))=W9 at*;obtain⟨e0,e1,e2,e3⟩:=Fy e5;exact bodyPost_ret (v:=.tuple #[.agg #[(.slice Ak lk ck),(.slice Av lv cv),(.slice Ac lc cc),Xu sz],.bool true]) (by simp[results,f126,go_sem,e0,e1,e2,e3]) rfl ⟨.slice Ak lk ck,.slice Av lv cv,.slice Ac lc cc,by rw[ar];rfl,by rw[ai,an,ad];exact R5,B5⟩
theorem nS(h:Ig w ps S Y)(hi:Fv S){t hh:Nat}(hb:jg S t hh n)(hz:n.size<2^62):
 Cb 175 #[FH ps t,Xu hh] w (Xi n.size):=by
 have B0:=c_ w (Xc ps t);have hg:=kI (h.a_ B0) hi hb;obtain⟨sz,ad⟩:=Ii n.size;unfold FH eC at hg;unfold FH;rw[ad] at hz hg⊢;have hw:IntKind.i64.wrap (sz:Int)=(sz:Int):=ax _ o_;have HG:=kq2 hg B0;clear hg B0 h hi hb;go_enter func175,ntmps175;go_wp2_with fail;refine HG.a.M ?_;rintro e w1 ⟨vk,vv,vc,rfl,rows,hb⟩;obtain⟨Ak,ck,rfl⟩:=rows.k.E_;obtain⟨Av,cv,rfl⟩:=rows.v.E_;obtain⟨Ac,cc,rfl⟩:=rows.c.E_;generalize n.j_.length=lk at*;generalize n.C9.length=lv at*;generalize n.A6.length=lc at*;clear rows;have HB:=If ((b_ HG.b hb).alloc (aH HG.b.size hb.size) (.cells #[.slice Ak lk ck,.slice Av lv cv,.slice Ac lc cc,Xu sz] 215));clear hb;go_wp2_with fail;go_ret;exact⟨rfl,HB.O⟩
theorem zF(h:Ig w ps S Y)(hi:Fv S)(t1:2<=t)(t2:t<=16)(hh:Nat)(hl:hh<2^64)(hlen:S.len hh=(0,7)):
 Cb 166 #[PV ps,Xi t,Xu hh] w (.tuple #[eC n_ n_ n_ 0,Xi 7]):=by
 have ad:=fun W (hW:D_ w W)=>fB (h.a_ hW) hi 0 o_;have ai:=fun W (hW:D_ w W)=>fB (h.a_ hW) hi hh hl;rw[fU] at ad;rw[hlen] at ai;have an:=fun W=>om t1 t2▸nP (t:Int) W;have six:=uz w ps hh;have HG:=kq3 ad ai an;clear ad ai an h hi hlen;unfold eC;generalize ap:((((w.alloc (Xg ps)).alloc (Xf hh)).alloc (.cells #[n_,n_,n_,Xu 0] 215)).alloc (.cells #[Xi 0] 27))=w4 at*;have e3:=six.b3;have e5:=six.b5;have e6:=six.b6;have e7:=six.b7;have x0:(w4).cell? (y_ w.1.size)=some (PV ps):=e_ e3
 have y0:(w4).cell? (y_ (w.1.size+1))=some (Xu hh):=e_ e5
 obtain⟨z0,z1,z2,z3⟩:=Fy e6;obtain⟨f0,f1,f2,f3⟩:=fO e6;have c0:(w4).cell? (y_ (w.1.size+1+1+1))=some (Xi 0):=e_ e7
 have g0:(w4).frozen? (y_ (w.1.size+1+1+1))=false:=AT e7;have S4:=If six;clear e3 e5 e6 e7 six;go_enter func166,ntmps166;go_wp2_with fail;refine Jc (HG.a _ S4.O.a_) ?_;go_wp2_with fail;refine Jc (HG.c _) ?_;go_wp2_with fail;refine Jc (HG.b _ S4.O.a_) ?_;go_wp2_with fail;have p6:=oZ (u0:=.slice none 0 0) (u1:=.slice none 0 0) (u2:=.slice none 0 0) (u3:=Xu 0) S4.O.b6;have B6:=oY (u0:=.slice none 0 0) (u1:=.slice none 0 0) (u2:=.slice none 0 0) (u3:=Xu 0) (b:=w.1.size+1+1) S4.O.a_ o_;have p7:=(sy (w:=w4) (b:=w.1.size+1+1) (k:=w.1.size+1+1+1) (u0:=.slice none 0 0) (u1:=.slice none 0 0) (u2:=.slice none 0 0) (u3:=Xu 0) o_).T S4.O.b7;generalize ((((w4.setCell (y_ (w.1.size+1+1)) n_).setCell (x_ (w.1.size+1+1) 1) n_).setCell (x_ (w.1.size+1+1) 2) n_).setCell (x_ (w.1.size+1+1) 3) (Xu 0))=W5 at*;have r7:=heap_setCell (i:=0) (v:=Xi 7) p7;have r6:=(FB (w:=W5) (b:=w.1.size+1+1+1) (i:=0) (v:=Xi 7) (k:=w.1.size+1+1) o_).T p6;have B7:=B6.setCell (p:=y_ (w.1.size+1+1+1)) (by show w.1.size<=w.1.size+1+1+1;omega) (Xi 7);generalize W5.setCell (y_ (w.1.size+1+1+1)) (Xi 7)=W6 at*;obtain⟨e0,e1,e2,e3⟩:=Fy r6;have d0:W6.cell? (y_ (w.1.size+1+1+1))=some (Xi 7):=e_ r7
 exact bodyPost_ret (v:=.tuple #[.agg #[n_,n_,n_,Xu 0],Xi 7]) (by simp[results,f166,go_sem,e0,e1,e2,e3,d0]) rfl ⟨rfl,B7⟩
theorem nQ(h:Ig w ps S Y)(hi:Fv S)(t1:2<=t)(t2:t<=16)(hh:Nat)(hl:hh<2^64)(hlen:S.len hh=(0,7)):
 Cb 126 #[FH ps t,Xu hh] w (.tuple #[eC n_ n_ n_ 0,.bool false]):=by
 have B0:=(c_ w (Xc ps t)).alloc s_ (.cells #[n_,n_,n_,Xu 0] 215);have z1:(w.alloc (Xc ps t)).1.size=w.1.size+1:=s_
 have q1:=heap_alloc_new w (Xc ps t);have q2:=heap_alloc_new (w.alloc (Xc ps t)) (.cells #[n_,n_,n_,Xu 0] 215);have q3:=(((aa (w.alloc (Xc ps t)).1.size (w.alloc (Xc ps t))).alloc Ih (.cells #[n_,n_,n_,Xu 0] 215)).block w.1.size s_).T q1;rw[z1] at q2;generalize hW:(w.alloc (Xc ps t)).alloc (.cells #[n_,n_,n_,Xu 0] 215)=W0 at*;have hg:=zF (h.a_ B0) hi t1 t2 hh hl hlen;obtain⟨x0,x1⟩:=Fp q3;have hz:w.1.size+2<=W0.1.size:=by rw[<-hW];simp
 unfold FH;unfold eC at hg⊢;have HG:=kq5 hg B0 q2 hW hz;clear hg B0 h hi q1 q2 q3 z1 hz hlen;go_enter func126,ntmps126;go_wp2_with fail;refine dR HG.a fun w1 hb=>?_;have A1:=c_ w1 (.cells #[n_,n_,n_,Xu 0] 215);have p1:=heap_alloc_new w1 (.cells #[n_,n_,n_,Xu 0] 215);have r2:=(A1.block (w.1.size+1) (by have:=hb.size;have:=HG.e;omega)).T ((hb.block (w.1.size+1) (by have:=HG.e;omega)).T HG.c);have BA:=HG.b.T ((b_ hb A1).M HG.b.size);have HB:=kq3 BA r2 p1;clear hb A1 p1 r2 BA;have r2:=HB.b;have p1:=HB.c;obtain⟨x0,x1,x2,x3⟩:=Fy p1;obtain⟨y0,y1,y2,y3⟩:=Fy r2;obtain⟨f0,f1,f2,f3⟩:=fO r2;clear r2 p1 hW;go_wp2_with fail;generalize w1.alloc (.cells #[n_,n_,n_,Xu 0] 215)=W1 at*;have e5:=oZ (u0:=.slice none 0 0) (u1:=.slice none 0 0) (u2:=.slice none 0 0) (u3:=Xu 0) HB.b;have B5:=oY (u0:=.slice none 0 0) (u1:=.slice none 0 0) (u2:=.slice none 0 0) (u3:=Xu 0) (b:=w.1.size+1) HB.a o_;generalize ((((W1.setCell (y_ (w.1.size+1)) n_).setCell (x_ (w.1.size+1) 1) n_).setCell (x_ (w.1.size+1) 2) n_).setCell (x_ (w.1.size+1) 3) (Xu 0))=W9 at*;obtain⟨e0,e1,e2,e3⟩:=Fy e5;exact bodyPost_ret (v:=.tuple #[.agg #[n_,n_,n_,Xu 0],.bool false]) (by simp[results,f126,go_sem,e0,e1,e2,e3]) rfl ⟨rfl,B5⟩
theorem kZ(h:Ig w ps S Y)(hi:Fv S)(t1:2<=t)(t2:t<=16):
 Ct 79 #[PV ps,Xi t] w fun e w'=>e=.returned (Xi 0)/\w=w':=by
 have ad:=fB h hi 0 o_;rw[fU] at ad;have ai:=fun W=>pW t t1 t2 W;have hq:((6*(t:Int))==0)=false:=m_
 have an:¬(t:Int)=0:=o_
 have HG:=kq2 ad ai;clear ad ai h hi;go_enter func79,ntmps79;go_wp2_with fail;refine Jc HG.a ?_;go_wp2_with fail;refine Jc (HG.b _) ?_;go_wp2_with fail;go_ret;exact⟨rfl,rfl⟩
structure Bt.Walk (S:St) (o:Nat->Nat) (t:Nat) {d:Nat} (x:Bt d):Prop where
 fit:Fw S o
 t1:2<=t
 t2:t<=16
 at':Bt.At S t x
 ok:Bt.Ok t x
 F1:(Bt.its x).Pairwise eU
 j_:pv S (Bt.its x)
 few:(Bt.its x).length<1000000
theorem Bt.Walk.kid{t d:Nat}{x:Bt (d+1)}(h:Walk S o t x){k:Bt d}(hk:k∈Bn.ks x):Walk S o t k:=by
 have ad:∀e∈its k,e∈its x:=fun e he=>kid_its h.ok.okN hk he;have ai:(its k).Sublist (its x):=by
  rw[ga];have hr:=h.ok.okN.rows;obtain⟨i,hi,rfl⟩:=bK.1 hk
  rcases hr with⟨h0,_⟩ | ⟨h0,_⟩
  ·have:((Bn.ks x).map its).length=0:=by rw[h0];rfl
   rw[am] at this;omega
  ·have an:i<=(Bn.es x).length:=by rw[am] at h0;omega
   rw[nA an h0,jN hi];exact(List.sublist_append_left _ _).T (List.sublist_append_right _ _)
 exact⟨h.fit,h.t1,h.t2,h.at'.2 k hk,(h.ok.2.2 k hk).1,h.F1.sublist ai,⟨fun e he=>h.j_.lt e (ad e he),fun e he=>h.j_.get e (ad e he)⟩,cO ai.length_le h.few⟩
theorem Bt.Walk.es{t d:Nat}{x:Bt (d+1)}(h:Walk S o t x):(Bn.es x).Pairwise eU/\pv S (Bn.es x)/\(Bn.es x).length<=31:=by
 have hs:(Bn.es x).Sublist (its x):=by
  rw[ga];refine JD _ _ ?_
  rcases h.ok.okN.rows with⟨h0,_⟩ | ⟨h0,_⟩
  ·exact ab h0
  ·exact ae h0
 exact⟨h.F1.sublist hs,⟨fun e he=>h.j_.lt e (hs.subset he),fun e he=>h.j_.get e (hs.subset he)⟩,by have:=h.ok.1;have:=h.t2;omega⟩
theorem Bt.Walk.read{t d:Nat}{x:Bt (d+1)}(h:Walk S o t x):jg S t (hd x) (bn x):=h.at'.read h.fit h.t1 h.t2 h.ok
theorem Bt.Walk.size{t d:Nat}{x:Bt (d+1)}(h:Walk S o t x):(bn x).size=(its x).length/\(bn x).size<2^62:=⟨rfl,by have:=h.few;show (its x).length<_;omega⟩
theorem FD.at{α:Type}{W:World}{A:Option Addr}{n c k:Nat}{l:List α}{f:α->Nat}{e:α}(h:FD W (.slice A n c) (l.map f))(he:l[k]?=some e):∃g o,A=some (x_ g o)/\W.cell? ⟨g,o+k,none⟩=some (Xu (f e:Nat)):=by
 obtain⟨A',c',e1,hc⟩:=h;obtain⟨hk,he⟩:=aC.1 he;obtain⟨g,o,e2,ad⟩:=hc k (by rw[am];exact hk);rw[bG,he] at ad;have e1:A=A':=by injection e1
 exact⟨g,o,e1.T e2,ad⟩
def i7:Option It->Value
 | some e=>Id e.kh e.vh
 | none=>Id 0 0
theorem mO{es:List It}(h:fo key es=true):∃hk:belowB key es<es.length,(es[belowB key es]).k=key:=by
 unfold fo at h
 split at h
 ·rename_i e he;obtain⟨hk,he⟩:=aC.1 he;exact⟨hk,by rw[he];exact of_decide_eq_true h⟩
 ·cases h
theorem mN{es:List It}(h:fo key es=false):∀hk:belowB key es<es.length,(es[belowB key es]).k≠key:=by
 intro hk e;unfold fo at h;rw[af hk] at h;simp only[decide_eq_false_iff_not] at h;exact h e
def fV {d:Nat}(x:Bt (d+1))(j:Nat):Nat:=(((Bn.ks x).take j).map fun k=>(Bt.its k).length).sum
theorem xt{x:Bt (d+1)}{j:Nat}(h:j<(Bn.ks x).length):fV x (j+1)=fV x j+(Bt.its (Bn.ks x)[j]).length:=by
 unfold fV;rw[aw h,aN,dG];simp
theorem xr{t d:Nat}{x:Bt (d+1)}(h:Bt.Walk S o t x)(j:Nat):(Bn.es x).length+fV x j<=(Bt.its x).length:=by
 rw[Bt.its_length h.ok.okN];refine Nat.add_le_add_left ?_ _;unfold fV
 conv=>rhs;rw[<-aU j (Bn.ks x),aN,dG]
 omega
theorem kH(l:List It):belowB key l<=l.length:=ct
theorem Bt.Walk.leaf {S:St}{o:Nat->Nat}{t:Nat}{x:Bt 1}(h:Walk S o t x)(key:List UInt8):belowB key (its x)=belowB key (Bn.es x)/\G7 key (its x)=if fo key (Bn.es x)=true then(Bn.es x)[belowB key (Bn.es x)]? else none:=by
 have hs:=h.es.1;rw[its_leaf];refine⟨rfl,?_⟩
 cases hh:fo key (Bn.es x) with
 | true=>
  obtain⟨hk,he⟩:=mO hh;rw[if_pos rfl,Lz hs hk he,af hk]
 | false=>rw[if_neg s_];exact findB_none (vl hs (mN hh))
theorem Bt.Walk.ord{t d:Nat}{x:Bt (d+2)}(h:Walk S o t x)(key:List UInt8):ix key (Bn.es x) ((Bn.ks x).map its):=l7 h.ok.rows (by rw[<-ga];exact h.F1)
theorem Bt.Walk.klen{t d:Nat}{x:Bt (d+2)}(h:Walk S o t x)(key:List UInt8):belowB key (Bn.es x)<(Bn.ks x).length:=by have:=Ok.A6 h.ok;have:=kH (key:=key) (Bn.es x);omega
theorem Bt.Walk.inner{t d:Nat}{x:Bt (d+2)}(h:Walk S o t x)(key:List UInt8)(hk:belowB key (Bn.es x)<(Bn.ks x).length):
 (fo key (Bn.es x)=true->belowB key (its x)=belowB key (Bn.es x)+fV x (belowB key (Bn.es x))+(its (Bn.ks x)[belowB key (Bn.es x)]).length/\G7 key (its x)=(Bn.es x)[belowB key (Bn.es x)]?)/\
 (fo key (Bn.es x)=false->belowB key (its x)=belowB key (Bn.es x)+fV x (belowB key (Bn.es x))+belowB key (its (Bn.ks x)[belowB key (Bn.es x)])/\G7 key (its x)=G7 key (its (Bn.ks x)[belowB key (Bn.es x)])):=by
 have ho:=h.ord key;have hb:=ho.a_;rw[<-ga,jN hk] at hb;have ai:((((Bn.ks x).map its).take (belowB key (Bn.es x))).map List.length).sum=fV x (belowB key (Bn.es x)):=by
  unfold fV;rw[<-du,cQ];rfl
 rw[ai] at hb;refine⟨fun hh=>?_,fun hh=>?_⟩
 ·obtain⟨ad,he⟩:=mO hh;obtain⟨h1,h2⟩:=ho.here ad he;rw[jN hk] at h2;rw[ga,h1,af ad,<-ga];exact⟨by rw[hb,h2],rfl⟩
 ·have:=ho.down (mN hh);rw[jN hk,<-ga] at this;exact⟨hb,this⟩
theorem Bt.Walk.inner'{t d:Nat}{x:Bt (d+2)}(h:Walk S o t x)(key:List UInt8){k:Nat}(hb:belowB key (Bn.es x)=k)(hk:k<(Bn.ks x).length):
 (fo key (Bn.es x)=true->belowB key (its x)=k+fV x k+(its (Bn.ks x)[k]).length/\G7 key (its x)=(Bn.es x)[k]?)/\
 (fo key (Bn.es x)=false->belowB key (its x)=k+fV x k+belowB key (its (Bn.ks x)[k])/\G7 key (its x)=G7 key (its (Bn.ks x)[k])):=by
 subst hb;exact h.inner key hk
theorem ub(W1:World)(b:Nat):∃I:World->Prop,(∀w',I w'->∀k,k<W1.1.size->k≠b->w'.1[k]?=W1.1[k]?)/\(∀w',(∀k,k<W1.1.size->k≠b->w'.1[k]?=W1.1[k]?)->I w'):=⟨fun w'=>∀k,k<W1.1.size->k≠b->w'.1[k]?=W1.1[k]?,fun _ h=>h,fun _ h=>h⟩
theorem j9{w w':World}{g o:Nat}(h:w'.1[g]?=w.1[g]?):w'.cell? (x_ g o)=w.cell? (x_ g o):=World.cell?_of_block h
theorem pY(h:Ig w ps S Y){t d:Nat}{x:Bt (d+1)}(hx:Bt.Walk S o t x)(hd:d<40)(key:List UInt8):
 Cb 210 #[FH ps t,Xu (Bt.hd x:Nat),SV key] w (.tuple #[i7 (Bt.G7 key (Bt.its x)),.bool (Bt.G7 key (Bt.its x)).isSome,Xi (belowB key (Bt.its x):Nat)]):=by
 have B0:=(c_ w (Xc ps t)).alloc s_ (.cells #[Xu 0,Xu 0] 104);have z1:(w.alloc (Xc ps t)).1.size=w.1.size+1:=s_
 have q1:=heap_alloc_new w (Xc ps t);have q2:=heap_alloc_new (w.alloc (Xc ps t)) (.cells #[Xu 0,Xu 0] 104);have q3:=(((aa (w.alloc (Xc ps t)).1.size (w.alloc (Xc ps t))).alloc Ih (.cells #[Xu 0,Xu 0] 104)).block w.1.size s_).T q1;rw[z1] at q2;have hz:w.1.size+2<=((w.alloc (Xc ps t)).alloc (.cells #[Xu 0,Xu 0] 104)).1.size:=s_
 generalize hW:(w.alloc (Xc ps t)).alloc (.cells #[Xu 0,Xu 0] 104)=W0 at*;have hi:=hx.fit.inv;have an:=fun W (hw:D_ W0 W) {n:BN} {hh:Nat} (hb:jg S t hh n)=>kI (h.a_ (b_ B0 hw)) hi hb;have cp:=fun W (hw:D_ W0 W) {n:BN} {hh:Nat} (hb:jg S t hh n) hz=>nS (h.a_ (b_ B0 hw)) hi hb hz;have cb:=fun W (hw:D_ W0 W) {es:List It} {vk vv vc:Value} {sz:Nat} hk hl hs he=>nR (h.a_ (b_ B0 hw)) hi t (es:=es) (vk:=vk) (vv:=vv) (vc:=vc) (sz:=sz) hk hl hs he key;have HG:=kq4 (kq4 B0 q2 q3 hz) @an @cp @cb;have HX:=If hx;obtain⟨R,hR⟩:=Ii (Bt.G7 key (Bt.its x));obtain⟨rb,cn⟩:=Ii (belowB key (Bt.its x));have e6:rb<=1000000:=by have:=hx.few;have:=kH (key:=key) (Bt.its x);omega
 obtain⟨n0,b'⟩:=Ii (Bt.hd x);have HR:=kq3 hR cn b';rw[hR,cn,b'];unfold FH at an cp cb⊢;clear an cp cb h hx hi B0 q1 q2 q3 z1 hz hR cn b';go_enter func210,ntmps210;go_wp2_with fail;clear hW
 go_loopw [1,8,9,10,11,12,13,14] (fun s1 s8 _ _ _ _ _ s14 wr=>∃(d' i b hh:Nat),s1=Xu hh/\s8=Xi b/\s14=Xi i/\i+d'<40/\b<=1000000/\Hid (D_ W0 wr/\∃y:Bt (d'+1),Bt.Walk S o t y/\Bt.hd y=hh/\b+belowB key (Bt.its y)=rb/\Bt.G7 key (Bt.its y)=R)) (fun _ _ _ _ _ _ _ s14 _=>40-(intOf s14).toNat)
 case atStart=>exact⟨d,0,0,n0,rfl,rfl,rfl,o_,o_,aa _ _,x,HX.O,HR.c,by rw[HR.b];omega,HR.a⟩
 case round=>
  obtain⟨d',i,b,hh,rfl,rfl,rfl,er,ep,I⟩:=hrel;obtain⟨hB,y,hy,b0,ds,d1⟩:=I.O;have hlt:(i:Int)<40:=o_
  have t3:=(hB.block w.1.size (by have:=HG.a.d;omega)).T HG.a.c;obtain⟨x0,x1⟩:=Fp t3;have an:=HG.b wr hB hy.read;unfold FH eC at an;rw[b0] at an;have HY:=kq5 hB hy b0 ds d1;clear hB hy b0 ds d1 t3;obtain⟨n,hn⟩:=Ii (Bt.bn y);rw[hn] at an;have c4:=If an;clear an;go_wp2_with fail;refine c4.O.M ?_;rintro e w1 ⟨vk,vv,vc,rfl,rows,hb⟩;obtain⟨Ak,ck,rfl⟩:=rows.k.E_;obtain⟨Av,cv,rfl⟩:=rows.v.E_;obtain⟨Ac,cc,rfl⟩:=rows.c.E_;have a6:n.j_.length=(Bn.es y).length:=by rw[<-hn];unfold Bt.bn;rw[am]
  have c3:n.C9.length=(Bn.es y).length:=by rw[<-hn];unfold Bt.bn;rw[am]
  have bt:n.A6.length=(Bn.ks y).length:=by rw[<-hn];unfold Bt.bn;rw[am]
  rw[a6] at rows;rw[c3] at rows;rw[bt] at rows;rw[a6,c3,bt];generalize n.size=sz at*;have hy:=HY.b;obtain⟨c5,c6,el⟩:=hy.es;generalize b4:(Bn.es y).length=lk at*;generalize a8:(Bn.ks y).length=lc at*;have A1:=c_ w1 (.cells #[.slice Ak lk ck,.slice Av lk cv,.slice Ac lc cc,Xu sz] 215);have p1:=heap_alloc_new w1 (.cells #[.slice Ak lk ck,.slice Av lk cv,.slice Ac lc cc,Xu sz] 215);have B1:=HY.a.T ((b_ hb A1).M HY.a.size);have au:=rows.a_ A1;have b9:w1.1.size<(w1.alloc (.cells #[.slice Ak lk ck,.slice Av lk cv,.slice Ac lc cc,Xu sz] 215)).1.size:=s_
  obtain⟨W1,dp⟩:=Ii (w1.alloc (.cells #[.slice Ak lk ck,.slice Av lk cv,.slice Ac lc cc,Xu sz] 215));rw[dp] at A1 p1 B1 au b9;have t3:=(B1.block w.1.size (by have:=HG.a.d;omega)).T HG.a.c;obtain⟨x0,x1⟩:=Fp t3;obtain⟨y0,y1,y2,y3⟩:=Fy p1;have d4:n.j_=(Bn.es y).map (·.kh):=by rw[<-hn];rfl
  have bf:=au.k.C_;rw[d4] at bf;have ca:=HG.d W1 B1 (vv:=.slice Av lk cv) (vc:=.slice Ac lc cc) (sz:=sz) bf o_ c5 c6;unfold FH eC at ca;have bo:=If ca;have a':=au.v.C_;have a9:=au.c.C_;rw[<-hn] at a' a9;have a':FD W1 (.slice Av lk cv) ((Bn.es y).map (·.vh)):=a';have a9:FD W1 (.slice Ac lc cc) ((Bn.ks y).map Bt.hd):=a9;have q6:=(B1.block (w.1.size+1) (by have:=HG.a.d;omega)).T HG.a.b;have d8:=HY.a.size;have ba:=HG.a.d;have c9:∀g o,Ak=some (x_ g o)->w.1.size+1≠g:=fun g o e=>by subst e;have:=au.k.ge g rfl;omega
  have c':∀g o,Av=some (x_ g o)->w.1.size+1≠g:=fun g o e=>by subst e;have:=au.v.ge g rfl;omega
  have c7:∀g o,Ac=some (x_ g o)->w.1.size+1≠g:=fun g o e=>by subst e;have:=au.c.ge g rfl;omega
  have d6:w.1.size+1≠w1.1.size:=by have:=hb.size;omega
  have H1:=kq6 B1 p1 (kq3 bf a' a9) t3 b9 q6;have HN:=kq5 c9 c' c7 d6 (aH ba d8);clear c9 c' c7 d6 d8 ba;clear ca rows au hb A1 p1 B1 t3 bf a' a9 d4 c4 a6 c3 bt hn c5 c6 b9 q6;obtain⟨k,hk⟩:=Ii (belowB key (Bn.es y));obtain⟨he,bx⟩:=Ii (fo key (Bn.es y));rw[hk,bx] at bo;have e4:k<=lk:=by rw[<-hk,<-b4];exact kH _
  have e8:IntKind.i64.wrap ((b:Int)+k)=(b:Int)+k:=ax _ o_;have HK:=kq4 hk bx b4 a8;clear hk bx b4 a8 hy;go_wp2_with fail;refine dR bo.O fun w2 hb2=>?_;have p2:=(hb2.block w1.1.size H1.e).T H1.b;have t2:=(hb2.block w.1.size (by have:=H1.a.size;have:=HG.a.d;omega)).T H1.d;clear x0 x1 y0 y1 y2 y3;obtain⟨x0,x1⟩:=Fp t2;obtain⟨y0,y1,y2,y3⟩:=Fy p2;have ap:=If hb2;clear hb2 p2 t2 bo dp
  cases d' with
  | zero=>
   have ea:lc=0:=by rw[<-HK.d,Bt.G8 (Bn.ks y)];rfl
   subst ea;obtain⟨ch,cj⟩:=HY.b.leaf key;rw[HK.a,HK.b] at cj;rw[HK.a] at ch;have dn:rb=b+k:=by have:=HY.d;rw[ch] at this;exact this.S
   have bs:=HY.e;rw[cj] at bs;have bb:=If bs;clear ch cj bs x0 x1 y0 y1 y2 y3;go_wp2_with fail
   go_loopw [8,13] (fun s8 s13 wq=>s8=Xi ((b:Int)+k)/\s13=Xi 0/\wq=w2) (fun _ _ _=>0)
   case atStart=>exact⟨rfl,rfl,rfl⟩
   case round=>
    obtain⟨rfl,rfl,rfl⟩:=hrel;have p2:=(ap.O.block w1.1.size H1.e).T H1.b;have t2:=(ap.O.block w.1.size (by have:=H1.a.size;have:=HG.a.d;omega)).T H1.d;have q2:=(ap.O.block (w.1.size+1) (by have:=H1.a.size;have:=HG.a.d;omega)).T H1.f;obtain⟨x0,x1⟩:=Fp t2;obtain⟨y0,y1,y2,y3⟩:=Fy p2;obtain⟨z0,z1⟩:=Fp q2;obtain⟨f0,f1⟩:=ef q2
    cases he with
    | true=>
     obtain⟨a4,bu⟩:=mO HK.b;have a6:=HK.c;obtain⟨e,ai⟩:∃e,(Bn.es y)[k]?=some e:=by rw[<-HK.a];exact⟨_,af a4⟩
     have ed:k<lk:=by rw[<-HK.a,<-a6];exact a4
     have eg:(k:Int)<lk:=o_
     rw[if_pos rfl,ai] at bb;obtain⟨gk,ok,rfl,a2⟩:=FD.at H1.c.a ai;obtain⟨gv,ov,rfl,a3⟩:=FD.at (f:=fun d:It=>d.vh) (l:=Bn.es y) H1.c.b ai;have dk:=(ap.O.cell (p:=⟨gk,ok+k,none⟩) (fK a2)).T a2;have dv:=(ap.O.cell (p:=⟨gv,ov+k,none⟩) (fK a3)).T a3;have HQ:=If q2;clear a2 a3 ai a4 bu a6 p2 t2 q2;go_wp2_with fail
     go_region
     go_wp2_with fail;have BW:D_ w wr:=HG.a.a.T ((b_ H1.a ap.O).M HG.a.a.size);have eW:=ew HQ.O (Xu (e.kh:Nat)) (Xu (e.vh:Nat));have BF:=eT BW (b:=w.1.size+1) o_ (Xu (e.kh:Nat)) (Xu (e.vh:Nat));generalize ((wr.setCell (y_ (w.1.size+1)) (Xu (e.kh:Nat))).setCell (x_ (w.1.size+1) 1) (Xu (e.vh:Nat)))=WF at*;have eW:WF.drew.1[w.1.size+1]?=_:=eW;obtain⟨e0,e1⟩:=Fp eW;exact bodyPost_ret (v:=.tuple #[.agg #[Xu (e.kh:Nat),Xu (e.vh:Nat)],.bool true,Xi ((b:Int)+k)]) (by simp[results,f210,go_sem,e0,e1]) rfl ⟨by rw[<-bb.O,dn];rfl,BF.drew⟩
    | false=>
     rw[if_neg s_] at bb;have HQ:=If q2;clear p2 t2 q2;go_wp2_with fail;have BW:D_ w wr:=HG.a.a.T ((b_ H1.a ap.O).M HG.a.a.size);have eW:=ew HQ.O (Xu 0) (Xu 0);have BF:=eT BW (b:=w.1.size+1) o_ (Xu 0) (Xu 0);generalize ((wr.setCell (y_ (w.1.size+1)) (Xu 0)).setCell (x_ (w.1.size+1) 1) (Xu 0))=WF at*;obtain⟨e0,e1⟩:=Fp eW;exact bodyPost_ret (v:=.tuple #[.agg #[Xu 0,Xu 0],.bool false,Xi ((b:Int)+k)]) (by simp[results,f210,go_sem,e0,e1]) rfl ⟨by rw[<-bb.O,dn];rfl,BF⟩
  | succ d'=>
   have hy:=HY.b;have b2:=hy.klen key;rw[HK.a] at b2;have bc:=hy.inner' key HK.a b2;rw[HK.b] at bc;have a8:=HK.d;have d5:=HK.c;have e5:(0:Int)<lc:=o_
   have e3:(k:Int)<lc:=o_
   have cq:=xr hy;have d0:=hy.few;have d7:∀W,D_ W1 W->∀j (h:j<(Bn.ks y).length),Cb 175 #[.agg #[PV ps,Xi t],Xu (Bt.hd (Bn.ks y)[j]:Nat)] W (Xi ((Bt.its (Bn.ks y)[j]).length:Nat)):=fun W hW j h=>by
    have ar:=hy.kid (ao h);have:=HG.c W (b_ H1.a hW) ar.read ar.size.2;unfold FH at this;exact this
   obtain⟨su,bk⟩:∃su:Nat->Nat,fV y=su:=⟨_,rfl⟩;have cw:=fun j h=>xt (x:=y) (j:=j) h;have ek:su 0=0:=by rw[<-bk];simp[fV]
   rw[bk] at bc cq;simp only[bk] at cw;have HZ:=kq9 hy bc cq d0 d7 cw b2 a8 d5;clear bc cq d0 d7 cw bk x0 x1 y0 y1 y2 y3 a8 d5;go_wp2_with fail
   go_loopw [8,13] (fun s8 s13 wr=>∃j:Nat,j<=k/\s8=Xi ((b:Int)+k+(su j:Nat))/\s13=Xi j/\Hid (D_ W1 wr)) (fun _ s13 _=>k-(intOf s13).toNat)
   case atStart=>exact⟨0,o_,by rw[ek];simp,rfl,ap⟩
   case round=>
    obtain⟨j,ev,rfl,rfl,ad⟩:=hrel;have p2:=(ad.O.block w1.1.size H1.e).T H1.b;have t2:=(ad.O.block w.1.size (by have:=H1.a.size;have:=HG.a.d;omega)).T H1.d;have q2:=(ad.O.block (w.1.size+1) (by have:=H1.a.size;have:=HG.a.d;omega)).T H1.f;obtain⟨x0,x1⟩:=Fp t2;obtain⟨y0,y1,y2,y3⟩:=Fy p2;obtain⟨z0,z1⟩:=Fp q2;obtain⟨f0,f1⟩:=ef q2;have b1:j<(Bn.ks y).length:=by have:=HZ.g;omega
    have ai:(Bn.ks y)[j]?=some (Bn.ks y)[j]:=af b1;obtain⟨gc,oc,rfl,a1⟩:=FD.at (f:=Bt.hd) (l:=Bn.ks y) H1.c.c ai;obtain⟨kj,ar⟩:=Ii ((Bn.ks y)[j]);obtain⟨nj,bd⟩:=Ii (Bt.hd kj);obtain⟨zj,bm⟩:=Ii (Bt.its kj).length;have bj:=fun W hW=>HZ.e W hW j b1;rw[ar,bd] at bj;rw[ar,bd] at a1;rw[bm] at bj;have cx:=HZ.f j b1;rw[ar,bm] at cx;have en:=HZ.c j;have eo:=HZ.c (j+1);have em:=HZ.d;have bv:=HN.c gc oc rfl;have dc:=(ad.O.cell (p:=⟨gc,oc+j,none⟩) (fK a1)).T a1;have ez:(j:Int)<lc:=o_
    have e7:IntKind.i64.wrap ((b:Int)+k+(su j:Nat)+(zj:Nat))=(b:Int)+k+(su j:Nat)+(zj:Nat):=ax _ o_;obtain⟨I,a7,bq⟩:=ub W1 (w.1.size+1);have d9:=fun x:Fq I=>(a7 _ x.ok w1.1.size H1.e (Ne.S HN.d)).T H1.b;have ba:=fun x:Fq I=>(a7 _ x.ok w.1.size (by have:=H1.a.size;have:=HG.a.d;omega) o_).T H1.d;obtain⟨m0,m1,m2,m3⟩:=iB d9;obtain⟨n0,n1⟩:=mt ba;have o0:∀x:Fq I,x.to.cell? ⟨gc,oc+j,none⟩=some (Xu nj):=fun x=>(j9 (a7 _ x.ok gc (fK a1) (Ne.S bv))).T a1;have dd:I wr.drew:=bq _ fun k hk _=>ad.O.block k hk;have HI:=If bq;have HS:=If bj;have HQ:=If q2;have HJ:=kq6 ar bd bm cx a1 bv;clear bq d9 ba ai bj a1 p2 t2 q2 ar bd bm cx bv
    by_cases hjlt:j<k
    ·have ec:(j:Int)<k:=o_
     go_wp2_with fail;refine fh I (.take 0 (.take 1 (.take 2 (.take 3 (.take 4 (.take 5 (.take 6 (.go 7 (.take 8 (.take 9 .nil)))))))))) k_ k_ dd ?_
     iterate 7
      refine pT_ ?_
      try simp only[pu]
     refine pD fun K hK=>?_;go_simp;refine dR (HS.O wr.drew ad.O.drew) fun w3 a5=>?_;have B3:=ad.O.drew.T (a5.M ad.O.size);have a0:=If B3;clear a5
     try go_simp
     refine hK.O _ _ (HI.O _ fun k hk _=>a0.O.block k hk) ?_;clear hK K
     try simp only[pu]
     clear B3
     iterate 2
      refine pT_ ?_
      try simp only[pu]
     refine eP ?_;go_wp2_with fail;go_roundw
     case rel=>exact⟨j+1,o_,by rw[HJ.d];congr 1;omega,s_,a0⟩
     case measure=>simp[intOf];omega
    ·obtain rfl:j=k:=o_
     have ec:¬(j:Int)<j:=o_
     cases he with
     | true=>
      obtain⟨f1,f2⟩:=HZ.b.1 rfl;obtain⟨a4,bu⟩:=mO HK.b;obtain⟨e,ai⟩:∃e,(Bn.es y)[j]?=some e:=by rw[<-HK.a];exact⟨_,af a4⟩
      have ed:j<lk:=by rw[<-HK.a,<-HK.c];exact a4
      have eg:(j:Int)<lk:=o_
      have e1:=HY.d;have e2:=HY.e;rw[f1,HJ.a,HJ.c] at e1;rw[f2,ai] at e2;have HE:=kq2 e1 e2;obtain⟨gk,ok,rfl,a2⟩:=FD.at (f:=fun d:It=>d.kh) (l:=Bn.es y) H1.c.a ai;obtain⟨gv,ov,rfl,a3⟩:=FD.at (f:=fun d:It=>d.vh) (l:=Bn.es y) H1.c.b ai;have d2:=HN.a gk ok rfl;have d3:=HN.b gv ov rfl;have o1:∀x:Fq I,x.to.cell? ⟨gk,ok+j,none⟩=some (Xu (e.kh:Nat)):=fun x=>(j9 (a7 _ x.ok gk (fK a2) (Ne.S d2))).T a2;have o2:∀x:Fq I,x.to.cell? ⟨gv,ov+j,none⟩=some (Xu (e.vh:Nat)):=fun x=>(j9 (a7 _ x.ok gv (fK a3) (Ne.S d3))).T a3;clear e1 e2 f1 f2 ai a4 bu a2 a3 d2 d3;go_wp2_with fail;refine fh I (.take 0 (.take 1 (.take 2 (.take 3 (.take 4 (.take 5 (.take 6 (.take 7 (.take 8 (.take 9 (.take 10 (.take 11 (.take 12 (.take 13 (.take 14 (.take 15 (.take 16 (.take 17 (.go 18 (.take 19 (.go 20 (.take 21 (.take 22 .nil))))))))))))))))))))))) k_ k_ dd ?_
      iterate 18
       refine pT_ ?_
       try simp only[pu]
      refine pD fun K hK=>?_;go_simp;refine(HS.O wr.drew ad.O.drew).M ?_;rintro e' w3 ⟨rfl,a5⟩;have B3:=ad.O.drew.T (a5.M ad.O.size);have q3:=(a5.block (w.1.size+1) (gl HQ.O)).T HQ.O;have a0:=kq2 B3 q3;obtain⟨c0,c1⟩:=Fp q3;obtain⟨g0,g1⟩:=ef q3;clear a5 q3
      try go_simp
      refine hK.O _ _ (HI.O _ fun k hk _=>a0.a.block k hk) ?_;clear hK K
      try simp only[pu]
      clear B3;refine pT_ ?_
      try simp only[pu]
      refine pD fun K hK=>?_;go_simp
      try go_simp
      refine hK.O _ _ (HI.O _ fun k hk hne=>(fA hne _ _).T (a0.a.block k hk)) ?_;clear hK K
      try simp only[pu]
      iterate 2
       refine pT_ ?_
       try simp only[pu]
      refine eP ?_;go_wp2_with fail;have BW:D_ w w3:=HG.a.a.T ((b_ H1.a a0.a).M HG.a.a.size);have eW:=ew a0.b (Xu (e.kh:Nat)) (Xu (e.vh:Nat));have BF:=eT BW (b:=w.1.size+1) o_ (Xu (e.kh:Nat)) (Xu (e.vh:Nat));generalize ((w3.setCell (y_ (w.1.size+1)) (Xu (e.kh:Nat))).setCell (x_ (w.1.size+1) 1) (Xu (e.vh:Nat)))=WF at*;obtain⟨e0,e1⟩:=Fp eW;have eb:((b+(j+su j+zj):Nat):Int)=(b:Int)+j+(su j:Nat)+(zj:Nat):=o_
      exact bodyPost_ret (v:=.tuple #[.agg #[Xu (e.kh:Nat),Xu (e.vh:Nat)],.bool true,Xi ((b:Int)+j+(su j:Nat)+(zj:Nat))]) (by simp[results,f210,go_sem,e0,e1]) rfl ⟨by rw[<-HE.b,<-HE.a,eb];rfl,BF⟩
     | false=>
      go_wp2_with fail;go_roundw
      case rel=>
       obtain⟨f1,f2⟩:=HZ.b.2 rfl;have e1:=HY.d;rw[f1,HJ.a] at e1;refine⟨d',i+1,b+j+su j,nj,rfl,by congr 1,s_,o_,o_,b_ H1.a ad.O,kj,?_,HJ.b,?_,?_⟩
       ·rw[<-HJ.a];exact HZ.a.kid (ao _)
       ·omega
       ·have:=HY.e;rw[f2,HJ.a] at this;exact this
      case measure=>simp[intOf];omega
theorem nT{t hh:Nat}{R:Option It}{z:Nat}(hs:Cb 210 #[FH ps t,Xu hh,SV key] w (.tuple #[i7 R,.bool R.isSome,Xi z]))(hw:∀W,W=w.alloc (.cells #[Xu 0,Xu 0] 104)->Cb 210 #[FH ps t,Xu hh,SV key] W (.tuple #[i7 R,.bool R.isSome,Xi z])):
 Cb 178 #[PV ps,Xi t,Xu hh,SV key] w (.tuple #[i7 R,.bool R.isSome]):=by
 have q1:=heap_alloc_new w (.cells #[Xu 0,Xu 0] 104);have B0:=c_ w (.cells #[Xu 0,Xu 0] 104);obtain⟨W0,hW⟩:=Ii (w.alloc (.cells #[Xu 0,Xu 0] 104));rw[hW] at q1 B0;have hs:=hw W0 hW.S;have ad:∃k v:Nat,i7 R=.agg #[Xu k,Xu v]:=by
  cases R with
  | none=>exact⟨0,0,rfl⟩
  | some e=>exact⟨e.kh,e.vh,rfl⟩
 obtain⟨k,v,hR⟩:=ad;rw[hR] at hs⊢;generalize R.isSome=b at*;unfold FH at hs;have HG:=kq3 hs B0 q1;clear hs hw B0 q1 hR;go_enter func178,ntmps178;go_wp2_with fail;refine dR HG.a fun w1 hb=>?_;have A1:=c_ w1 (Xe k v);have r1:=(hb.block w.1.size (gl HG.c)).T HG.c;have r2:=(A1.block w.1.size (gl r1)).T r1;have B1:=HG.b.T ((b_ hb A1).M HG.b.size);have p1:=heap_alloc_new w1 (Xe k v);obtain⟨W1,ai⟩:=Ii (w1.alloc (Xe k v));rw[ai] at r2 B1 p1;obtain⟨x0,x1⟩:=Fp p1;obtain⟨y0,y1⟩:=Fp r2;obtain⟨f0,f1⟩:=ef r2;have HB:=kq2 B1 r2;clear hb A1 r1 r2 B1 p1 hW;go_wp2_with fail;have eW:=ew HB.b (Xu (k:Nat)) (Xu (v:Nat));have BF:=eT HB.a (b:=w.1.size) Ih (Xu (k:Nat)) (Xu (v:Nat));generalize ((W1.setCell (y_ w.1.size) (Xu (k:Nat))).setCell (x_ w.1.size 1) (Xu (v:Nat)))=WF at*;obtain⟨e0,e1⟩:=Fp eW;exact bodyPost_ret (v:=.tuple #[.agg #[Xu (k:Nat),Xu (v:Nat)],.bool b]) (by simp[results,f178,go_sem,e0,e1]) rfl ⟨rfl,BF⟩
theorem qJ(t:Nat)(key:List UInt8)(y:Bt 1):Bt.F0 t key y=[decide ((Bn.es y).length=2*t-1)]:=by
 have:(Bn.ks y)[belowB key (Bn.es y)]?=none:=by rw[Bt.G8 (Bn.ks y)];rfl
 unfold Bt.F0;rw[this]
theorem mI(t:Nat)(key:List UInt8)(y:Bt (d+1)){k:Nat}(hk:belowB key (Bn.es y)=k)(h:k<(Bn.ks y).length):Bt.F0 t key y=decide ((Bn.es y).length=2*t-1)::Bt.F0 t key (Bn.ks y)[k]:=by
 subst hk;rw[Bt.F0,af h]
theorem qZaaa{P:Prop}(h:P:=by
 go_wp2_with fail;go_ret;have BW:D_ w W1:=b_ HG.a.a H1.a;exact⟨by rw[<-a5.O];rfl,BW⟩):P:=h
theorem zN(h:Ig w ps S Y){t d:Nat}{x:Bt (d+1)}(hx:Bt.Walk S o t x)(hd:d<40)(key:List UInt8):
 Cb 181 #[FH ps t,Xu (Bt.hd x:Nat),SV key] w (Xi (Bt.needB 0 true (Bt.F0 t key x):Nat)):=by
 have B0:=c_ w (Xc ps t);have q3:=heap_alloc_new w (Xc ps t);have hz:w.1.size+1<=(w.alloc (Xc ps t)).1.size:=s_
 generalize hW:w.alloc (Xc ps t)=W0 at*;have hi:=hx.fit.inv;have ap:=fun W (hw:D_ W0 W) {n:BN} {hh:Nat} (hb:jg S t hh n)=>kI (h.a_ (b_ B0 hw)) hi hb;have b0:=fun W (hw:D_ W0 W) {es:List It} {vk vv vc:Value} {sz:Nat} hk hl hs he=>nR (h.a_ (b_ B0 hw)) hi t (es:=es) (vk:=vk) (vv:=vv) (vc:=vc) (sz:=sz) hk hl hs he key;have HG:=kq3 (kq3 B0 q3 hz) @ap @b0;have HX:=If hx;have ca:=(Bt.At.hd_ok hx.fit hx.at').1;have t1:=hx.t1;have t2:=hx.t2;obtain⟨R,hR⟩:=Ii (Bt.needB 0 true (Bt.F0 t key x));obtain⟨n0,a6⟩:=Ii (Bt.hd x);have HR:=kq2 hR a6;rw[hR,a6];rw[a6] at ca;have cb:((n0:Int)==0)=false:=m_
 have ch:¬(n0:Int)=0:=o_
 unfold FH;clear ap b0 h hx hi B0 q3 hz hR a6;have m1:IntKind.i64.wrap (2*(t:Int))=2*(t:Int):=ax _ o_;have m2:IntKind.i64.wrap (2*(t:Int)-1)=2*(t:Int)-1:=ax _ o_;go_enter func181,ntmps181;go_wp2_with fail;clear hW cb ch
 go_loopw [1,7,8,9,10,11,12,15] (fun s1 s7 s8 _ _ _ _ s15 wr=>∃(d' i f hh:Nat) (a:Bool),s1=Xu hh/\s7=Xi f/\s8=.bool a/\s15=Xi i/\i+d'<40/\f<=i/\Hid (D_ W0 wr/\∃y:Bt (d'+1),Bt.Walk S o t y/\Bt.hd y=hh/\Bt.needB f a (Bt.F0 t key y)=R)) (fun _ _ _ _ _ _ _ s15 _=>40-(intOf s15).toNat)
 case atStart=>exact⟨d,0,0,n0,true,rfl,rfl,rfl,rfl,o_,o_,aa _ _,x,HX.O,HR.b,HR.a⟩
 case round=>
  obtain⟨d',i,f,hh,a,rfl,rfl,rfl,rfl,cp,cn,I⟩:=hrel;obtain⟨hB,y,hy,bs,bx⟩:=I.O;have hlt:(i:Int)<40:=o_
  have t3:=(hB.block w.1.size (by have:=HG.a.c;omega)).T HG.a.b;obtain⟨x0,x1⟩:=Fp t3;have ap:=HG.b wr hB hy.read;unfold FH eC at ap;rw[bs] at ap;have HY:=kq3 hB hy bx;clear hB hy bs bx t3;obtain⟨n,hn⟩:=Ii (Bt.bn y);rw[hn] at ap;have bj:=If ap;clear ap;go_wp2_with fail;refine bj.O.M ?_;rintro e w1 ⟨vk,vv,vc,rfl,rows,hb⟩;obtain⟨Ak,ck,rfl⟩:=rows.k.E_;obtain⟨Av,cv,rfl⟩:=rows.v.E_;obtain⟨Ac,cc,rfl⟩:=rows.c.E_;have bb:n.j_.length=(Bn.es y).length:=by rw[<-hn];unfold Bt.bn;rw[am]
  have bf:n.C9.length=(Bn.es y).length:=by rw[<-hn];unfold Bt.bn;rw[am]
  have ba:n.A6.length=(Bn.ks y).length:=by rw[<-hn];unfold Bt.bn;rw[am]
  rw[bb] at rows;rw[bf] at rows;rw[ba] at rows;rw[bb,bf,ba];generalize n.size=sz at*;have hy:=HY.b;obtain⟨bm,bo,cj⟩:=hy.es;have bv:=hy.ok.1;generalize bu:(Bn.es y).length=lk at*;generalize bt:(Bn.ks y).length=lc at*;have A1:=c_ w1 (.cells #[.slice Ak lk ck,.slice Av lk cv,.slice Ac lc cc,Xu sz] 215);have p1:=heap_alloc_new w1 (.cells #[.slice Ak lk ck,.slice Av lk cv,.slice Ac lc cc,Xu sz] 215);have B1:=HY.a.T ((b_ hb A1).M HY.a.size);have a8:=rows.a_ A1;have bd:w1.1.size<(w1.alloc (.cells #[.slice Ak lk ck,.slice Av lk cv,.slice Ac lc cc,Xu sz] 215)).1.size:=s_
  obtain⟨W1,b1⟩:=Ii (w1.alloc (.cells #[.slice Ak lk ck,.slice Av lk cv,.slice Ac lc cc,Xu sz] 215));rw[b1] at A1 p1 B1 a8 bd;have t3:=(B1.block w.1.size (by have:=HG.a.c;omega)).T HG.a.b;have a4:=a8.k.C_;have a3:=a8.c.C_;rw[<-hn] at a4 a3;have a4:FD W1 (.slice Ak lk ck) ((Bn.es y).map (·.kh)):=a4;have a3:FD W1 (.slice Ac lc cc) ((Bn.ks y).map Bt.hd):=a3;have a7:=HG.c W1 B1 (vv:=.slice Av lk cv) (vc:=.slice Ac lc cc) (sz:=sz) a4 o_ bm bo;unfold FH eC at a7;obtain⟨k,hk⟩:=Ii (belowB key (Bn.es y));obtain⟨he,bq⟩:=Ii (fo key (Bn.es y));rw[hk,bq] at a7;have bk:=If a7;have H1:=kq5 B1 p1 a3 t3 bd;have HK:=kq4 bu bt hk bv;obtain⟨x0,x1⟩:=Fp t3;obtain⟨y0,y1,y2,y3⟩:=Fy p1;clear rows a8 hb A1 p1 B1 t3 a4 a3 a7 bj bb bf ba hn bd bu bt hy bm bo hk bq bv
  by_cases hfull:lk=2*t-1
  ·have b2:¬((lk:Int)<2*(t:Int)-1):=o_
   have cq:IntKind.i64.wrap ((f:Int)+1)=(f:Int)+1:=ax _ o_;have cw:IntKind.i64.wrap ((f:Int)+1+1)=(f:Int)+1+1:=ax _ o_;have a0:decide ((Bn.es y).length=2*t-1)=true:=by rw[HK.a];exact decide_eq_true hfull
   have HD:=If a0;clear a0 hfull
   cases d' with
   | zero=>
    have a':lc=0:=by rw[<-HK.b,Bt.G8 (Bn.ks y)];rfl
    subst a';have ad:=HY.c;rw[qJ,HD.O] at ad;have ad:(f+1)+(if a=true then 1 else 0)=R:=ad;have a5:=If ad;clear ad
    cases a with
    | true=>
     exact qZaaa
    | false=>
     exact qZaaa
   | succ d'=>
    have an:=HY.b.klen key;rw[HK.c] at an;have a1:(Bn.ks y)[k]?=some (Bn.ks y)[k]:=af an;obtain⟨gc,oc,rfl,ai⟩:=FD.at (f:=Bt.hd) (l:=Bn.ks y) H1.c a1;have ad:=HY.c;rw[mI t key y HK.c an,HD.O] at ad;have ar:=HY.b.kid (ao an);have bc:=HK.b;have b4:(k:Int)<lc:=o_
    have b9:¬((lc:Int)=0):=o_
    have b':((lc:Int)==0)=false:=m_
    obtain⟨kj,a2⟩:=Ii ((Bn.ks y)[k]);obtain⟨nj,au⟩:=Ii (Bt.hd kj);rw[a2] at ai ad ar;rw[au] at ai;have ad:Bt.needB (f+1) a (Bt.F0 t key kj)=R:=ad;have HJ:=kq4 ad ar au ai;clear ad ar au ai a2 a1 bc;go_wp2_with fail;refine dR bk.O fun w2 hb2=>?_;have p2:=(hb2.block w1.1.size H1.e).T H1.b;clear x0 x1 y0 y1 y2 y3;obtain⟨y0,y1,y2,y3⟩:=Fy p2;have dc:=(hb2.cell (p:=⟨gc,oc+k,none⟩) (fK HJ.d)).T HJ.d;have a9:=If hb2;clear hb2 p2;go_wp2_with fail;go_roundw
    case rel=>exact⟨d',i+1,(f+1),nj,a,rfl,s_,rfl,s_,o_,o_,b_ H1.a a9.O,kj,HJ.b,HJ.c,HJ.a⟩
    case measure=>simp[intOf];omega
  ·have b2:(lk:Int)<2*(t:Int)-1:=by have:=HK.d;omega
   have a0:decide ((Bn.es y).length=2*t-1)=false:=by rw[HK.a];exact decide_eq_false hfull
   have HD:=If a0;clear a0 hfull
   cases d' with
   | zero=>
    have a':lc=0:=by rw[<-HK.b,Bt.G8 (Bn.ks y)];rfl
    subst a';have ad:=HY.c;rw[qJ,HD.O] at ad;have ad:0+(if false=true then 1 else 0)=R:=ad;have a5:=If ad;clear ad;exact qZaaa
   | succ d'=>
    have an:=HY.b.klen key;rw[HK.c] at an;have a1:(Bn.ks y)[k]?=some (Bn.ks y)[k]:=af an;obtain⟨gc,oc,rfl,ai⟩:=FD.at (f:=Bt.hd) (l:=Bn.ks y) H1.c a1;have ad:=HY.c;rw[mI t key y HK.c an,HD.O] at ad;have ar:=HY.b.kid (ao an);have bc:=HK.b;have b4:(k:Int)<lc:=o_
    have b9:¬((lc:Int)=0):=o_
    have b':((lc:Int)==0)=false:=m_
    obtain⟨kj,a2⟩:=Ii ((Bn.ks y)[k]);obtain⟨nj,au⟩:=Ii (Bt.hd kj);rw[a2] at ai ad ar;rw[au] at ai;have ad:Bt.needB 0 false (Bt.F0 t key kj)=R:=ad;have HJ:=kq4 ad ar au ai;clear ad ar au ai a2 a1 bc;go_wp2_with fail;refine dR bk.O fun w2 hb2=>?_;have p2:=(hb2.block w1.1.size H1.e).T H1.b;clear x0 x1 y0 y1 y2 y3;obtain⟨y0,y1,y2,y3⟩:=Fy p2;have dc:=(hb2.cell (p:=⟨gc,oc+k,none⟩) (fK HJ.d)).T HJ.d;have a9:=If hb2;clear hb2 p2;go_wp2_with fail;go_roundw
    case rel=>exact⟨d',i+1,0,nj,false,rfl,s_,rfl,s_,o_,o_,b_ H1.a a9.O,kj,HJ.b,HJ.c,HJ.a⟩
    case measure=>simp[intOf];omega
theorem J6(h:Ig w ps S Y)(hf:Fw S o){n:Nd}(hn:i_ S hh=some (eM n)):
 Cb 76 #[PV ps,Xu hh] w (.tuple #[eS n,Xi 0]):=by
 have:=iO h hf.inv hh (fL hf hn).2.1;rw[gw hf hn] at this;exact this
theorem JV(h:Ig w ps S Y)(hf:Fw S o){t:List UInt8}(ht:t.length<=1000)(hn:i_ S hh=some (FK t)):
 Cb 51 #[PV ps,Xu hh] w (.tuple #[SV t,Xi 0]):=by
 have e:=jt hf ht hn;have:=iz h hf.inv hh (fL hf hn).2.1 (by rw[e];exact(by decide:(0:Nat)≠8));rw[e] at this;exact this
theorem NF(h:Ig w ps S Y)(hf:Fw S o){n:Nd}(hn:i_ S hh=some (eM n)){k v:List UInt8}(lk:k.length<=1000)(lv:v.length<=1000)(hk:i_ S n.key=some (FK k))(hv:i_ S n.val=some (FK v)):
 Cb 192 #[PV ps,Xu hh] w (.tuple #[eu (k,v),Xi 0]):=by
 have hg:=fun W (hW:D_ w W)=>J6 (h.a_ hW) hf hn;have ai:=fun W (hW:D_ w W)=>JV (h.a_ hW) hf lk hk;have an:=fun W (hW:D_ w W)=>JV (h.a_ hW) hf lv hv;have ad:D_ w (w.alloc (.cells #[.string ⟨#[]⟩,.string ⟨#[]⟩] 40)):=(aa _ _).alloc Ih _;have hs:(w.alloc (.cells #[.string ⟨#[]⟩,.string ⟨#[]⟩] 40)).1[w.1.size]?=some (.cells #[.string ⟨#[]⟩,.string ⟨#[]⟩] 40):=World.alloc_heap_new _ _;have HG:=kq5 hg ai an ad hs;unfold eS at HG;clear hg ai an ad h hf hn lk lv hk hv hs;go_enter func192,ntmps192;go_wp2_with fail;refine dR (HG.a _ HG.d) fun w1 hb1=>?_;have A1:=b_ HG.d hb1;have N1:=c_ w1 (Xb n.key n.val n.left n.right n.mark n.size);have q1:(w1.alloc (Xb n.key n.val n.left n.right n.mark n.size)).1[w1.1.size]?=some (Xb n.key n.val n.left n.right n.mark n.size):=World.alloc_heap_new _ _;have A2:=b_ A1 N1;have z0:=(gl HG.e);have s1:=hb1.size;have p2:=(N1.block _ o_).T ((hb1.block _ z0).T HG.e);have H1:=kq3 A2 q1 p2;clear A1 N1 q1 A2 p2 hb1 z0 s1;go_wp2_with fail;refine dR (HG.b _ H1.a) fun w3 hb3=>?_;have A3:=b_ H1.a hb3;have q3:=(hb3.block _ (gl H1.b)).T H1.b;have p3:=(hb3.block _ (gl H1.c)).T H1.c;obtain⟨c0,c1,c2,c3,c4,c5⟩:=ia q3;have H3:=kq2 A3 p3;clear hb3 A3 q3 p3 H1;go_wp2_with fail;refine dR (HG.c _ H3.a) fun w4 hb4=>?_;have p4:=(hb4.block _ (gl H3.b)).T H3.b;have q5:=ew p4 (SV k) (SV v);have B5:=eT (b_ H3.a hb4) Ih (SV k) (SV v);obtain⟨d0,d1⟩:=Fp p4;obtain⟨f0,f1⟩:=ef p4;have HB:=kq2 q5 B5;clear hb4 p4 H3 c0 c1 c2 c3 c4 c5 q5 B5;go_wp2_with fail;obtain⟨q5,B5⟩:=HB.O;generalize ((w4.setCell (y_ w.1.size) (SV k)).setCell (x_ w.1.size 1) (SV v))=wF at*;obtain⟨e0,e1⟩:=Fp q5;exact bodyPost_ret (v:=.tuple #[.agg #[SV k,SV v],Xi 0]) (by simp[results,f192,go_sem,e0,e1]) rfl ⟨rfl,B5⟩
def pp(L R:Nat):Nat->Nat
 | 0=>1
 | 1=>1+L
 | _=>1+L+R
theorem Tr.side:∀{t:Tr},Tr.At S t->(t.f9=0/\t.its.length=0)\/∃n,i_ S t.f9=some (eM n)/\n.size=t.its.length
 | .nil,_=> .inl ⟨rfl,rfl⟩
 | .node _ _ _ _,h=> .inr ⟨_,h.1,rfl⟩
theorem M1(a b:Value)(w:World):(Instr.index 322 (.agg #[a,b]) (Xi 0)).run prog w=.ok a w:=k_
theorem M2(a b:Value)(w:World):(Instr.index 322 (.agg #[a,b]) (Xi 1)).run prog w=.ok b w:=k_
theorem ND(h:Ig w ps S Y)(hf:Fw S o){l:Tr}{d:It}{m:Nat}{r:Tr}(hl:Tr.At S l)(hr:Tr.At S r)(hc:l.its.length+r.its.length<1000):
 Cb 193 #[PV ps,eS (nd l d m r)] w (.bool true):=by
 have hz:(Tr.node l d m r).its.length=1+l.its.length+r.its.length:=by
  show (l.its++d::r.its).length=_
  rw[ag,aj];omega
 have sl:=Tr.side hl;have sr:=Tr.side hr;have hg:=fun W (hW:D_ w W) (hh:Nat) (n:Nd) (hn:i_ S hh=some (eM n))=>J6 (h.a_ hW) hf hn;have au:=fun(hh:Nat) (n:Nd) (hn:i_ S hh=some (eM n))=>(fL hf hn).1;unfold nd eS;obtain⟨z,a1⟩:=Ii (Tr.node l d m r).its.length;rw[a1] at hz⊢;clear a1;generalize l.its.length=L at*;generalize r.its.length=R at*;generalize l.f9=rl at*;generalize r.f9=rr at*;have ar:D_ w (w.alloc (Xb d.kh d.vh rl rr m (z:Nat))):=(aa _ _).alloc Ih _;have q0:(w.alloc (Xb d.kh d.vh rl rr m (z:Nat))).1[w.1.size]?=some (Xb d.kh d.vh rl rr m (z:Nat)):=World.alloc_heap_new _ _;unfold eS at hg;have HG:=kq6 hg au ar q0 sl sr;have a0:pp L R 2=z:=by rw[hz];rfl
 have HZ:=If a0;clear hg au ar q0 sl sr h hf hl hr hz a0;have a2:=M1 (Xu rl) (Xu rr);have a3:=M2 (Xu rl) (Xu rr);go_enter func193,ntmps193;go_wp2_with fail
 go_loopw [4,5,7,8,9,15] (fun _ s5 _ _ _ s15 wr=>∃j:Nat,j<=2/\s15=Xi j/\s5=Xu (pp L R j:Nat)/\Hid (D_ w wr/\wr.1[w.1.size]?=some (Xb d.kh d.vh rl rr m (z:Nat)))) (fun _ _ _ _ _ s15 _=>2-(intOf s15).toNat)
 case atStart=>exact⟨0,o_,rfl,rfl,HG.c,HG.d⟩
 case round=>
  obtain⟨j,hj,rfl,rfl,J0⟩:=hrel
  rcases(show j=0\/j=1\/j=2 by omega) with rfl | rfl | rfl
  ·rcases HG.e with⟨e0,e1⟩ | ⟨n,e0,e1⟩
   ·have ap:((rl:Int)==0)=true:=by rw[e0];rfl
    have hs:pp L R 1=pp L R 0:=by rw[e1];rfl
    have HE:=If hs;clear e0 e1 hs;generalize pp L R 0=s0 at*;obtain⟨s1,ad⟩:=Ii (pp L R 1);have ai:=If ad;clear ad;go_wp2_with fail;go_roundw
    case rel=>exact⟨1,o_,rfl,by rw[<-HE.O],J0.O⟩
    case measure=>simp[intOf]
   ·have ap:((rl:Int)==0)=false:=by have:=HG.b _ _ e0;simp;omega
    have an:=HG.a wr J0.O.1 rl n e0;have hw:IntKind.u64.wrap (((pp L R 0:Nat):Int)+n.size)=((pp L R 1:Nat):Int):=by
     rw[e1];simp only[pp];rw[bP _ o_];omega
    have HE:=kq3 e0 e1 an;clear e0 e1 an;generalize pp L R 0=s0 at*;obtain⟨s1,ad⟩:=Ii (pp L R 1);rw[ad] at hw;have ai:=If ad;clear ad;go_wp2_with fail;refine dR HE.c fun w1 hb1=>?_;have q1:=(hb1.block _ (gl J0.O.2)).T J0.O.2;have A1:=b_ J0.O.1 hb1;have N1:=c_ w1 (Xb n.key n.val n.left n.right n.mark n.size);have H1:=kq2 (b_ A1 N1) ((N1.block _ (gl q1)).T q1);clear hb1 q1 A1 N1;go_wp2_with fail;go_roundw
    case rel=>
     exact⟨1,o_,rfl,by rw[ai.O],H1.O⟩
    case measure=>simp[intOf]
  ·rcases HG.f with⟨e0,e1⟩ | ⟨n,e0,e1⟩
   ·have ap:((rr:Int)==0)=true:=by rw[e0];rfl
    have hs:pp L R 2=pp L R 1:=by rw[e1];rfl
    have HE:=If hs;clear e0 e1 hs;generalize pp L R 1=s0 at*;obtain⟨s1,ad⟩:=Ii (pp L R 2);have ai:=If ad;clear ad;go_wp2_with fail;go_roundw
    case rel=>exact⟨2,o_,rfl,by rw[<-HE.O],J0.O⟩
    case measure=>simp[intOf]
   ·have ap:((rr:Int)==0)=false:=by have:=HG.b _ _ e0;simp;omega
    have an:=HG.a wr J0.O.1 rr n e0;have hw:IntKind.u64.wrap (((pp L R 1:Nat):Int)+n.size)=((pp L R 2:Nat):Int):=by
     rw[e1];simp only[pp];rw[bP _ o_];omega
    have HE:=kq3 e0 e1 an;clear e0 e1 an;generalize pp L R 1=s0 at*;obtain⟨s1,ad⟩:=Ii (pp L R 2);rw[ad] at hw;have ai:=If ad;clear ad;go_wp2_with fail;refine dR HE.c fun w1 hb1=>?_;have q1:=(hb1.block _ (gl J0.O.2)).T J0.O.2;have A1:=b_ J0.O.1 hb1;have N1:=c_ w1 (Xb n.key n.val n.left n.right n.mark n.size);have H1:=kq2 (b_ A1 N1) ((N1.block _ (gl q1)).T q1);clear hb1 q1 A1 N1;go_wp2_with fail;go_roundw
    case rel=>exact⟨2,o_,rfl,by rw[ai.O],H1.O⟩
    case measure=>simp[intOf]
  ·have q:=J0.O.2;obtain⟨c0,c1,c2,c3,c4,c5⟩:=ia q;clear q;rw[HZ.O];go_wp2_with fail;go_ret;exact⟨rfl,J0.O.1⟩
end
section
open Go.RowKit Tryz Go.BigFrame Go.Maps Go.WideMaps Lf
theorem sV(px k v:Nat)(w:World):
 Cb 84 #[PV px,Id k v,.bool false] w (.string ⟨#[]⟩):=by
 simp only[Id];go_enter func84,ntmps84;go_wp2_with fail;go_ret;exact⟨rfl,(aa _ w).alloc Ih _⟩
def Lf.itemsM(S:St)(a b:List UInt8):Option ((Nat×Nat)×St):=
 if(fx S a).1.2≠0\/(fx (fx S a).2 b).1.2≠0 then none
 else some (((fx S a).1.1,(fx (fx S a).2 b).1.1),(fx (fx S a).2 b).2)
def nJ(S:St)(a b:List UInt8):Prop:=a.length<=1000/\b.length<=1000/\iw S (many a.length)/\iw (fx S a).2 (many b.length)
theorem wu {S:St}{a:List UInt8}(hm:iw S (many a.length))(hi:Fv S):Fv (fx S a).2:=by
 have h2:=hm.2;unfold fx
 split
 ·exact hi
 ·split
  ·rename_i e;rw[e] at h2;exact(rV _ _ _ 0 h2).1
  ·rename_i e;rw[e] at h2;exact h2
theorem wv {S:St}(hw:iW S.t)(a:List UInt8):(fx S a).1.1<2^64:=by
 have:=oA hw (many a.length);unfold fx
 split
 ·simp
 ·split
  ·rename_i e;rw[e] at this;exact this
  ·simp
theorem BI {S S':St}{a b:List UInt8}{p:Nat×Nat}(h:itemsM S a b=some (p,S')):(fx S a).1=(p.1,0)/\(fx (fx S a).2 b).1=(p.2,0)/\S'=(fx (fx S a).2 b).2:=by
 unfold itemsM at h
 split at h
 ·cases h
 ·rename_i hc;simp only[not_or,dw] at hc;have h:=Option.some.inj h
  injection h with e1 e2
  subst e1 e2;exact⟨Prod.ext rfl hc.1,Prod.ext rfl hc.2,rfl⟩
def Lf.treePutM(jn:Jn)(S:St)(f9:Nat)(a b:List UInt8):Option (Nat×St):=
 match itemsM S a b with
 | none=>none
 | some (p,S1)=>binInsM jn S1 f9 p.1 p.2
def pJ(S:St)(a b:List UInt8):Prop:=nJ S a b/\∀p S1,itemsM S a b=some (p,S1)->iw S1 6
