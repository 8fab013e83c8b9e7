/- B-trees: Insert of a key that is not there: the walk. -/
import Derived.Test.YtpljannolpapgaaGreatDoorRDc
import Derived.Sort.EveryDepth
import Derived.CellFam
set_option maxRecDepth 100000
set_option maxHeartbeats 6400000
namespace Go.Proofs.YtpljannolpapgaaGreatDoor
section
open Go.RowKit Tryz Go.BigFrame Go.Maps Go.WideMaps Lf Tr
open Go.Shelf
theorem Bt.trail_le:∀p:List Bool,Bt.trail p<=p.length
 | []=>Nat.le_refl _
 | b::r=>by
  unfold Bt.trail;have:=Bt.trail_le r;rw[aj];split
  ·split<;>omega
  ·omega
theorem uB(t:Nat)(key:List UInt8):∀{d:Nat} (x:Bt d),(Bt.F0 t key x).length<=d
 | 0,x=>nomatch x
 | d+1,x=>by
  unfold Bt.F0;rw[aj];cases h:(Bn.ks x)[belowB key (Bn.es x)]? with
  | none=>simp
  | some k=>have:=uB t key k;simp only;omega
def iD(t:Nat)(key:List UInt8){d:Nat}(x:Bt (d+1)):Nat:=Bt.needB 0 true (Bt.F0 t key x)
theorem oE(t:Nat)(key:List UInt8){d:Nat}(x:Bt (d+1)):iD t key x=Bt.trail (Bt.F0 t key x)+(if(Bt.F0 t key x).all id=true then 1 else 0)/\iD t key x<=d+2:=by
 have h:=Bt.need_zero (Bt.F0 t key x);have h1:=Bt.trail_le (Bt.F0 t key x);have h2:=uB t key x;refine⟨h,?_⟩;unfold iD;rw[h];split<;>omega
theorem ku(w:World)(o1 o2 o3:Obj):D_ w (w.drew.alloc o1)/\D_ w ((w.drew.alloc o1).alloc o2)/\D_ w (((w.drew.alloc o1).alloc o2).alloc o3)/\(((w.drew.alloc o1).alloc o2).alloc o3).1[w.1.size]?=some o1/\(((w.drew.alloc o1).alloc o2).alloc o3).1[w.1.size+1]?=some o2/\(((w.drew.alloc o1).alloc o2).alloc o3).1[w.1.size+2]?=some o3:=by
 have z1:(w.drew.alloc o1).1.size=w.1.size+1:=s_
 have z2:((w.drew.alloc o1).alloc o2).1.size=w.1.size+2:=s_
 have b1:=((aa w.1.size w).drew).alloc Ih o1;have c2:=(aa (w.drew.alloc o1).1.size (w.drew.alloc o1)).alloc Ih o2;have c3:=(aa ((w.drew.alloc o1).alloc o2).1.size ((w.drew.alloc o1).alloc o2)).alloc Ih o3;have q1:=heap_alloc_new w.drew o1;have q2:=heap_alloc_new (w.drew.alloc o1) o2;have q3:=heap_alloc_new ((w.drew.alloc o1).alloc o2) o3;have r1:=(c3.block w.1.size o_).T ((c2.block w.1.size o_).T q1);rw[z1] at q2;rw[z2] at q3;have r2:=(c3.block (w.1.size+1) o_).T q2;exact⟨b1,b1.T (c2.M (by rw[z1];omega)),(b1.T (c2.M (by rw[z1];omega))).T (c3.M (by rw[z2];omega)),r1,r2,q3⟩
theorem qByaa{P:Prop}(h:P:=by
 rintro en au ⟨rfl,cj,a2,ar,a8,a7⟩;have bq:=T4.2.2.1.size;have ad:I au:=bm _ _ T4.2.2.1 ar;have hold:=(bj.O _ ad).2;have kF:Fo Y w au:=(HK.a.T (Fo.v_ (a5.O.T (T4.2.2.1.M o_)) fun k hk=>by have:=HK.g k hk;have:=HK.a.size;omega)).T (ar.M fun k hk=>⟨ab (ab (ab hk)),by have:=HK.g k hk;omega⟩);obtain⟨x0,x1⟩:=Fp hold;obtain⟨f0,f1⟩:=ef hold;have ap:=kq3 hold a2 kF;clear ar a8 a7 hold a2 kF T4
 try go_simp
 refine hK.O _ _ ad ?_;clear hK K
 try simp only[pu]
 refine eG fun K hK=>?_;go_simp
 try go_simp
 refine hK.O _ _ ad ?_;clear hK K
 try simp only[pu]
 refine eG fun K hK=>?_;go_simp
 try go_simp
 refine hK.O _ _ (a1 _ ad) ?_;clear hK K
 try simp only[pu]
 refine eG fun K hK=>?_;go_simp
 try go_simp
 refine hK.O _ _ (a1 _ ad) ?_;clear hK K
 try simp only[pu]
 refine eG fun K hK=>?_;go_simp
 try go_simp
 refine hK.O _ _ (a1 _ ad) ?_;clear hK K
 try simp only[pu]
 refine dX ?_;go_wp2_with fail;obtain⟨WF,ai⟩:=Ii ((au.setCell (y_ (w.1.size+1)) (Xu 0)).setCell (x_ (w.1.size+1) 1) (Xu 0));rw[ai];have eF:WF.1[w.1.size+1]?=some (.cells #[Xu 0,Xu 0] 104 (0,0)):=by
  rw[<-ai];exact heap_setCell (i:=1) (v:=Xu 0) (heap_setCell (i:=0) (v:=Xu 0) ap.a)
 have a4:Ig WF ps (FC S2 rr 0 (v8 t (Bt.bn (Bt.F8 rr m y1 y2)))) Y:=by
  rw[<-ai];exact(ap.b.write (b:=w.1.size+1) (ab (ab (ae ⟨o_,o_⟩))) ap.a ⟨d_,d_⟩ s_ s_ fun k _ hk=>(FB hk).T (FB hk)).M fun k hk=>ab (ab (ab hk))
 have kF:Fo Y w WF:=by
  rw[<-ai];have a0:∀k,Y k->k≠w.1.size+1:=fun k hk=>by have:=HK.g k hk;omega
  exact(ap.c.T (Fo.mark a0)).T (Fo.mark a0)
 clear ai x0 x1 f0 f1;obtain⟨u0,u1⟩:=Fp eF;exact bodyPost_ret (v:=.tuple #[Xu (rr:Nat),.agg #[Xu 0,Xu 0],.bool false,Xi 0]) (by simp[results,f137,go_sem,u0,u1]) rfl ⟨d+1,Bt.F8 rr m y1 y2,_,o1,rfl,a4,kF,bf.O⟩):P:=h
theorem zI(hins:∀d,j4 d){w:World}{ps:Nat}{S:St}{o:Nat->Nat}{Y:Nat->Prop}(h:Ig w ps S Y){t d:Nat}{x:Bt (d+1)}(hx:Bt.Tree S o t x){e:It}(hn:Bt.New S x e)(hr:fc S (2*iD t e.k x) (iD t e.k x)):
 Ct 137 #[PV ps,Xi t,Xu (Bt.hd x:Nat),Id e.kh e.vh] w fun en w'=>∃(d':Nat) (y:Bt (d'+1)) (S':St) (o':Nat->Nat),en=.returned (.tuple #[Xu (Bt.hd y:Nat),Id 0 0,.bool false,Xi 0])/\Ig w' ps S' Y/\Fo Y w w'/\Bt.Tree S' o' t y/\Bt.its y=Bt.insB e (Bt.its x)/\(∀z∈Bt.h_ y,z∈Bt.h_ x\/i_ S z=none)/\(∀z,z∉Bt.h_ x->i_ S z≠none->i_ S' z=i_ S z)/\ej S S' (2*iD t e.k x) (iD t e.k x)/\∀z,i_ S' z≠none->z∈Bt.h_ y\/i_ S z≠none/\z∉Bt.h_ x:=by
 have B0:=(c_ w (Xe e.kh e.vh)).alloc s_ (.cells #[Xu 0,Xu 0] 104);have z1:(w.alloc (Xe e.kh e.vh)).1.size=w.1.size+1:=s_
 have q1:=heap_alloc_new w (Xe e.kh e.vh);have q2:=heap_alloc_new (w.alloc (Xe e.kh e.vh)) (.cells #[Xu 0,Xu 0] 104);have q1:=(((aa (w.alloc (Xe e.kh e.vh)).1.size (w.alloc (Xe e.kh e.vh))).alloc Ih (.cells #[Xu 0,Xu 0] 104)).block w.1.size s_).T q1;rw[z1] at q2;have hz:((w.alloc (Xe e.kh e.vh)).alloc (.cells #[Xu 0,Xu 0] 104)).1.size=w.1.size+2:=s_
 generalize hW:(w.alloc (Xe e.kh e.vh)).alloc (.cells #[Xu 0,Xu 0] 104)=W0 at*;have A1:=c_ W0 (Xc ps t);have q3:=heap_alloc_new W0 (Xc ps t);have b':(W0.alloc (Xc ps t)).1.size=w.1.size+3:=by simp[hz]
 have hw:=hx.walk;have hi:=hx.fit.inv;have has:=kZ (h.a_ B0) hi hx.t1 hx.t2;obtain⟨W1,e6⟩:=Ii (W0.alloc (Xc ps t));rw[e6] at A1 q3 b';have B1:=B0.T (A1.M o_);rw[hz] at q3;have d2:=jt hx.fit hn.F4.lk hn.F4.k;have d0:=iz (h.a_ B1) hi e.kh (Bt.blobs_lt hx.fit hn.F4).1 (by rw[d2];simp);rw[d2] at d0;have q1:=(A1.block _ o_).T q1;have q2:=(A1.block _ o_).T q2;obtain⟨x0,x1⟩:=Fp q1;have H0:=kq7 h hx hn hr hw hi b';have H1:=kq4 B1 q1 q2 q3;have el:=If has;have em:=If d0;have i5:Bt.hd x≠0:=(Bt.At.hd_ok hx.fit hx.at').1;have i6:((Bt.hd x:Nat):Int)≠0:=o_
 clear z1 q1 q2 q3 B0 B1 A1 hw hi has d2 d0 h hx hn hr;unfold Id;go_enter func137,ntmps137;go_wp2_with fail;refine el.O.M ?_;rintro en w1 ⟨rfl,rfl⟩;clear hW;go_wp2_with fail;refine em.O.M ?_;rintro en w2 ⟨rfl,bo⟩;clear x0 x1;have p1:=(bo.block _ (by have:=H0.g;omega)).T H1.b;have p2:=(bo.block _ (by have:=H0.g;omega)).T H1.c;have p3:=(bo.block _ (by have:=H0.g;omega)).T H1.d;have b2:=b_ H1.a bo;obtain⟨x0,x1⟩:=Fp p3;have d1:=kI (H0.a.a_ b2) H0.f H0.e.read;have jk:w.1.size+3<=w2.1.size:=by have:=bo.size;have:=H0.g;omega
 unfold FH eC at d1;have ep:=If d1;have H2:=kq4 b2 p1 p2 p3;clear bo p1 p2 p3 b2 d1 em el H1 e6;go_wp2_with fail;refine ep.O.M ?_;rintro en w3 ⟨vk,vv,vc,rfl,rows,dp⟩;obtain⟨Ak,mk,ck,rfl⟩:=rows.k.slice;obtain⟨Av,mv,cv,rfl⟩:=rows.v.slice;obtain⟨Ac,mc,cc,rfl⟩:=rows.c.slice;obtain⟨sz,c9⟩:=Ii (Bt.bn x).size;rw[c9];clear c9;have A3:=c_ w3 (.cells #[.slice Ak mk ck,.slice Av mv cv,.slice Ac mc cc,Xu sz] 215);obtain⟨W3,e7⟩:=Ii (w3.alloc (.cells #[.slice Ak mk ck,.slice Av mv cv,.slice Ac mc cc,Xu sz] 215));rw[e7] at A3;have c3:=b_ dp A3;have p1:=(c3.block _ o_).T H2.b;have p2:=(c3.block _ o_).T H2.c;have p3:=(c3.block _ o_).T H2.d;have B3:=b_ H2.a c3;have jn:w.1.size+3<=W3.1.size:=by have:=c3.size;omega
 have i4:=H0.b.low;have gb:=Bt.findB_none H0.c.key;have cq:=fun W (hw:D_ W3 W)=>pY (H0.a.a_ (b_ B3 hw)) H0.e o_ e.k;rw[gb] at cq;have cw:=nT (R:=none) (cq W3 (aa _ _)) fun W hW=>cq W (by rw[hW];exact(aa _ _).alloc Ih _);unfold i7 Id at cw
 dsimp only[Option.isSome] at cw
 have eo:=If cw;have H3:=kq4 B3 p1 p2 p3;clear A3 c3 p1 p2 p3 B3 gb cq cw x0 x1 dp H2 ep rows;go_wp2_with fail;refine eo.O.M ?_;rintro en w4 ⟨rfl,ds⟩;clear e7;go_wp2_with fail;have A4:=c_ w4 (.cells #[Xu 0,Xu 0] 104);obtain⟨W4,dn⟩:=Ii (w4.alloc (.cells #[Xu 0,Xu 0] 104));rw[dn] at A4;rw[dn];clear dn;have c4:=b_ ds A4;have p1:=(c4.block _ o_).T H3.b;have p2:=(c4.block _ o_).T H3.c;have p3:=(c4.block _ o_).T H3.d;have B4:=b_ H3.a c4;have d7:w.1.size+3<=W4.1.size:=by have:=c4.size;omega
 have eg:=H0.a.wide B4;have bk:=fun W (hw:D_ W4 W)=>zN (H0.a.a_ (b_ B4 hw)) H0.e o_ e.k;obtain⟨q,hq⟩:=Ii (iD t e.k x);have jc:q<=22:=by have:=(oE t e.k x).2;omega
 have d6:=H0.d;rw[hq] at d6;have bt:=fun W (hw:D_ W4 W)=>tU (eg.a_ hw) H0.b.fit H0.b.t1 H0.b.t2 q o_ d6;have gg:Bt.needB 0 true (Bt.F0 t e.k x)=q:=hq;rw[gg] at bk;unfold FH at bk bt;have bk:=If bk;have bt:=If bt;have H4:=kq5 B4 p1 p2 p3 eg;have HQ:=If hq;clear A4 c4 p1 p2 p3 B4 eg hq gg d6 ds H3 eo;obtain⟨I,a3,a6⟩:=ic fun w'=>w'.1[w.1.size+2]?=W4.1[w.1.size+2]?;have b':=fun x:Fq I=>(a3 _ x.ok).T H4.d;obtain⟨r0,r1⟩:=mt b';have ba:I W4.drew:=a6 _ rfl;have a9:=If a6;clear a3 a6 b';refine fh I (.take 0 (.take 1 (.take 2 (.take 3 (.go 4 (.go 5 (.take 6 (.take 7 (.take 8 (.go 9 (.go 10 .nil))))))))))) k_ k_ ba ?_
 iterate 4
  refine pT_ ?_
  try simp only[pu]
 refine pD fun K hK=>?_;go_simp;refine(bk.O _ (aa _ W4).drew).M ?_;rintro en w5 ⟨rfl,dv⟩;have e4:I w5:=a9.O _ (dv.block _ d7);have B5:=(aa W4.1.size W4).drew.T dv;have bs:=If B5;clear dv B5
 try go_simp
 refine hK.O _ _ e4 ?_;clear hK K
 try simp only[pu]
 refine pD fun K hK=>?_;go_simp;refine(bt.O _ bs.O).M ?_;rintro en w6 ⟨rfl,S1,o1,v6,L,hh,ed,he,f6,e5,hf,fw,fm,fn⟩;have cp:I w6:=a9.O _ ((ed.block _ (ae ⟨o_,o_⟩)).T (bs.O.block _ d7));have H6:=kq9 hh ed he f6 e5 hf fw fm fn;clear hh ed he f6 e5 hf fw fm fn
 try go_simp
 refine hK.O _ _ cp ?_;clear hK K
 try simp only[pu]
 iterate 3
  refine pT_ ?_
  try simp only[pu]
 refine pD fun K hK=>?_;go_simp
 try go_simp
 refine hK.O _ _ cp ?_;clear hK K
 try simp only[pu]
 refine pD fun K hK=>?_;go_simp
 try go_simp
 refine hK.O _ _ cp ?_;clear hK K
 try simp only[pu]
 refine eP ?_;have j1:=d7;have k6:∀k,w.1.size<=k->k<W4.1.size->w6.1[k]?=W4.1[k]?:=fun k h1 h2=>(H6.b.block k (ae ⟨h1,h2⟩)).T (bs.O.block k h2);have p1:=(k6 w.1.size o_ o_).T H4.b;have p2:=(k6 (w.1.size+1) o_ o_).T H4.c;have p3:=(k6 (w.1.size+2) o_ o_).T H4.d;obtain⟨x0,x1⟩:=Fp p1;obtain⟨y0,y1⟩:=Fp p3;have bv:Bt.Tree S1 o1 t x:=H0.b.frame H6.d fun y hy=>H6.h y fun hm=>H0.b.has y hy (H6.g y hm);have hlt:=Bt.blobs_lt H0.b.fit H0.c.F4;have cx:=hins d 0 H6.a bv.walk bv.h_ o_ H6.c H6.f (fun y hy q=>H0.b.has y (aD _ q) (H6.g y hy)) (ae (ae (ab rfl))) (ae (ab rfl)) (fun b hb=>ae (ae (ae hb))) (by have:=H6.e;omega) H0.c.key bv.lts hlt.1 hlt.2 (by have h1:=(oE t e.k x).1;have h2:=HQ.O;have h3:=H6.e;omega);unfold FH Id JB at cx;have e0:((0:Nat):Int)=0:=rfl;rw[e0] at cx;have er:=If cx;have ev:=kq3 bv p2 k6;clear e0 cx bv hlt p1 p2 p3 k6 r0 r1 bk bt a9 ba e4 cp;go_wp2_with fail;refine er.O.M ?_;rintro en w7 ⟨r,S2,v7,L7,U,rfl,h7⟩;have H7:=If h7;clear h7 er x0 x1 y0 y1;have b9:=H0.a.yl;have js:=bs.O.size;have jv:=H6.b.size;have kY:Fo Y w w7:=((Fo.v_ H4.a b9).T (Fo.v_ bs.O fun k hk=>by have:=b9 k hk;omega)).T ((H6.b.M fun k hk=>ab hk).T (H7.O.2.2.2.1.M fun k hk=>⟨ab (ab hk),by have:=b9 k hk;omega⟩));have p2:=(H7.O.2.2.2.1.block (w.1.size+1) ⟨ab (ae ⟨o_,o_⟩),o_⟩).T ev.b;have p3:=(H7.O.2.2.2.1.block (w.1.size+2) ⟨ab (ae ⟨o_,o_⟩),o_⟩).T ((ev.c _ o_ o_).T H4.d);have dk:∀y∈U,y∈L:=fun y hy=>by rw[H7.O.1];exact aA _ hy
 have fk:∀z,z∉Bt.h_ x->z∉L->i_ S2 z=i_ S z:=fun z h1 h2=>(H7.O.2.1.fr z h1 fun q=>h2 (dk z q)).T (H6.h z h2);have fv:ej S S2 (2*q) q:=(H6.i.T H7.O.2.1.grew).M o_ o_;have gc:=(gl p2);have h8:=(gl p3);have HK:=kq7 kY p2 p3 dk fk fv b9;clear kY p2 p3 dk fk fv b9
 rcases r with _ | ⟨m,g⟩
 ·dsimp only[ky,iQ]
  go_wp2_with fail;have A8:=c_ w7 (.cells #[.bool false,Xu 0,Xu 0,Xu 0] 274);obtain⟨W8,bb⟩:=Ii (w7.alloc (.cells #[.bool false,Xu 0,Xu 0,Xu 0] 274));rw[bb] at A8;rw[bb];have p2:=(A8.block _ gc).T HK.b;have ch:=H7.O.2.2.1.a_ A8;have k8:Fo Y w W8:=HK.a.T (Fo.v_ A8 fun k hk=>by have:=HK.g k hk;have:=HK.a.size;omega);obtain⟨x0,x1⟩:=Fp p2;obtain⟨f0,f1⟩:=ef p2;have H8:=kq3 p2 ch k8;clear bb A8 p2 ch k8
  go_region
  go_wp2_with fail;obtain⟨WF,ai⟩:=Ii (((W8.setCell (y_ (w.1.size+1)) (Xu 0)).setCell (x_ (w.1.size+1) 1) (Xu 0))).drew;rw[ai];have eF:WF.1[w.1.size+1]?=some (.cells #[Xu 0,Xu 0] 104 (0,0)):=by
   rw[<-ai];exact heap_setCell (i:=1) (v:=Xu 0) (heap_setCell (i:=0) (v:=Xu 0) H8.a)
  have a4:Ig WF ps S2 Y:=by
   rw[<-ai];exact((H8.b.write (b:=w.1.size+1) (ab (ae ⟨o_,o_⟩)) H8.a ⟨d_,d_⟩ s_ s_ fun k _ hk=>(FB hk).T (FB hk)).a_ (aa _ _).drew).M fun k hk=>ab (ab hk)
  have kF:Fo Y w WF:=by
   rw[<-ai];have a0:∀k,Y k->k≠w.1.size+1:=fun k hk=>by have:=HK.g k hk;omega
   exact((H8.c.T (Fo.mark a0)).T (Fo.mark a0)).T ⟨rfl,rfl,rfl,Nat.le_refl _,fun _ _=>rfl⟩
  clear ai x0 x1 f0 f1;obtain⟨u0,u1⟩:=Fp eF;obtain⟨y,bx,b0,b4,bc⟩:=H0.b.insert_none H0.c H6.g H6.h HK.d H7.O.2.1;have hj:∀z∈L,z∈U:=by
   have h1:=H6.e;have h2:=congrArg List.length H7.O.1;rw[ag] at h2;have h3:=H7.O.2.2.2.2.2.2.1;have h4:=H7.O.2.2.2.2.2.2.2;have c5:=(oE t e.k x).1;rw[if_neg (by rw[<-h4];simp),HQ.O] at c5;have h5:L7=[]:=bI.1 o_;rw[H7.O.1,h5];exact fun z hz=>hz
  have hl:∀z,i_ S2 z≠none->z∈Bt.h_ y\/i_ S z≠none/\z∉Bt.h_ x:=fun z hz=>by
   by_cases hm:z∈Bt.h_ y
   ·exact ab hm
   ·have h1:z∉Bt.h_ x:=fun q=>hm ((bc z).2 (.inl q));have h2:z∉L:=fun q=>hm ((bc z).2 (.inr (hj z q)));exact ae ⟨fun q=>hz ((HK.e z h1 h2).T q),h1⟩
  exact bodyPost_ret (v:=.tuple #[Xu (Bt.hd x:Nat),.agg #[Xu 0,Xu 0],.bool false,Xi 0]) (by simp[results,f137,go_sem,u0,u1]) rfl ⟨d,y,S2,o1,by rw[bx];rfl,a4,kF,b0,b4,fun z hz=>((bc z).1 hz).imp id fun hu=>H6.g z (HK.d z hu),fun z h1 h2=>HK.e z h1 fun hm=>h2 (H6.g z hm),by rw[HQ.O];exact HK.f,hl⟩
 ·dsimp only[ky,iQ]
  have h6:=H7.O.2.2.2.2.2.2.1;have e8:=H7.O.2.2.2.2.2.2.2;have c5:=(oE t e.k x).1;have e':(Bt.F0 t e.k x).all id=true:=e8.S;rw[if_pos e',HQ.O] at c5;have dd:L7.length=1:=by
   have h1:=H6.e;have h2:=congrArg List.length H7.O.1;rw[ag] at h2;omega
  obtain⟨rr,bu⟩:∃rr,L7=[]++[rr]:=by
   cases L7 with
   | nil=>simp at dd
   | cons a l=>
    cases l with
    | nil=>exact⟨a,rfl⟩
    | cons b l=>simp at dd
  have c6:rr∈L:=by rw[H7.O.1,bu];simp
  have gk:rr∉U:=fun hm=>by
   have f':=H6.f.nd;rw[H7.O.1,bu] at f';exact(aF.1 f').2.2 rr s_ rr hm rfl
  obtain⟨ws,gp,eb⟩:=H6.f.recs rr c6;obtain⟨y1,y2,bx,b0,b4,bc,g6,g7,i1,g8,g9,ec,gs,gv,g0,g4,g5,i0⟩:=H0.b.insert_root H0.c H6.g H6.h HK.d H7.O.2.1 c6 gk gp eb;obtain⟨n1,d3⟩:=Ii (Bt.its y1).length;obtain⟨n2,d4⟩:=Ii (Bt.its y2).length;have d8:=fun W Yx hst=>ri (ps:=ps) H7.O.2.1.fit H0.b.t1 H0.b.t2 b4 g6 o_ W Yx hst;have d9:=fun W Yx hst=>ri (ps:=ps) H7.O.2.1.fit H0.b.t1 H0.b.t2 bc g7 o_ W Yx hst;rw[bx,d3] at d8;rw[b0,d4] at d9;have i':n1+n2+1<1000000:=o_
  have c7:=H7.O.2.2.2.2.1;rw[bu] at c7;have hA:∀(W:World) (b1 b2 b3:Nat),D_ w7 W->w7.1.size<=b1->w7.1.size<=b2->w7.1.size<=b3->W.1[b1]?=some (.cells #[Xu m.kh] 61 (0,0))->W.1[b2]?=some (.cells #[Xu m.vh] 61 (0,0))->W.1[b3]?=some (.cells #[Xu (Bt.hd x:Nat),Xu g] 61 (0,0))->
   Ct 214 #[.agg #[.slice (some (y_ b1)) 1 1,.slice (some (y_ b2)) 1 1,.slice (some (y_ b3)) 2 2,Xu ((n1:Int)+n2+1)],PV (w5.1.size+1),PV w5.1.size] W fun en w'=>en=.returned (Xu rr)/\∃v',Ig w' ps (FC S2 rr 0 (v8 t (Bt.bn (Bt.F8 rr m y1 y2)))) (fun k=>((Y k\/(w.1.size<=k/\k<W4.1.size))\/iJ w5.1.size (w5.1.size+1) v6 k)\/(w7.1.size<=k/\k<W.1.size))/\Fo (fun k=>(((Y k\/(w.1.size<=k/\k<W4.1.size))\/iJ w5.1.size (w5.1.size+1) v6 k)\/(w7.1.size<=k/\k<W.1.size))/\k≠w5.1.size+1) W w'/\gz w' w5.1.size (w5.1.size+1) (w5.1.size+2) ps t v' []/\v'.ownBlock=v7.ownBlock:=by
   intro W b1 b2 b3 hB g1 g2 g3 e1 e2 e3;have g':w5.1.size+2<=w7.1.size:=by
    have h1:=(gl c7.box);omega
   have gn:∀(b k:Nat),W.1[b]?=some (.cells #[Xu k] 61 (0,0))->FD W (.slice (some (y_ b)) 1 1) [k]:=fun b k hb=>⟨_,1,rfl,fun i hi=>⟨b,0,rfl,by
    have hi:i=0:=by simp at hi;exact hi
    subst hi;rw[q_ hb]
    rfl⟩⟩
   have ib:FD W (.slice (some (y_ b3)) 2 2) [Bt.hd x,g]:=⟨_,2,rfl,fun i hi=>⟨b3,0,rfl,by
    have hi:i=0\/i=1:=by simp at hi;omega
    rcases hi with rfl | rfl
    ·rw[q_ e3]
     rfl
    ·rw[q_ e3]
     rfl⟩⟩
   have hv:S2.len rr=(6*t,0):=by rw[jw H7.O.2.1.fit.tab ec,eb]
   have ho:∀k∈Bn.ks (Bt.F8 rr m y1 y2),Bt.At S2 t k:=fun k hk=>by
    have hk:k∈ [y1,y2]:=hk
    rcases ah.1 hk with rfl | hk
    ·exact b4
    ·rw[aE.1 hk];exact bc
   have ht:(Bt.bn (Bt.F8 rr m y1 y2)).A6=[Bt.hd x,g]:=by
    show[Bt.hd y1,Bt.hd y2]=_
    rw[bx,b0]
   have c9:(((Bt.bn (Bt.F8 rr m y1 y2)).size:Nat):Int)=(n1:Int)+n2+1:=by
    show (((Bt.its y1++m::Bt.its y2).length:Nat):Int)=_
    rw[ag,aj,d3,d4];omega
   have d5:∀{b n c:Nat},w7.1.size<=b->∀g,(Value.slice (some (y_ b)) n c).ownBlock=some g->g≠w5.1.size+1:=fun hb g hg q=>by
    have hg:=Option.some.inj hg;simp only at hg;omega
   have ea:=pZ (n:=Bt.bn (Bt.F8 rr m y1 y2)) (vk:=.slice (some (y_ b1)) 1 1) (vv:=.slice (some (y_ b2)) 1 1) (vc:=.slice (some (y_ b3)) 2 2) (H7.O.2.2.1.wide hB) H7.O.2.1.fit.inv (c7.keeps fun k hk=>hB.block k ?_) (ab (ae (ae (ab rfl)))) (ab (ae (ab rfl))) (fun b hb=>ab (ae (ae (ae (by rw[<-H7.O.2.2.2.2.2.1];exact hb))))) s_ (Bt.bnok_of H7.O.2.1.fit H0.b.t1 H0.b.t2 ho g8) (gn b1 _ e1) (gn b2 _ e2) (by rw[ht];exact ib) (d5 g1) (d5 g2) (d5 g3) (fL H7.O.2.1.fit ec).2.1 hv (kX g9 (by show 1<_;omega))
   ·unfold eC at ea;rw[c9] at ea;exact ea
   ·have i2:=H7.O.2.2.1.yl;refine i2 k (ae ?_)
    rcases hk with hk | hk | hk
    ·exact ab hk
    ·exact ae (ab hk)
    ·exact ae (ae (by rw[<-H7.O.2.2.2.2.2.1];exact hk))
  have HA:=If hA;have c':=If d8;have dc:=If d9;have hc:∀z∈L7,z=rr:=fun z hz=>by rw[bu] at hz;simpa using hz
  have HT:=kq8 gs gv g0 g4 g5 c6 i0 hc;clear hc;clear h6 e8 c5 e' dd bu gk gp eb bx b0 b4 bc g6 g7 i1 g8 g9 ec gs gv g0 g4 g5 d3 d4 d8 d9 c7 hA c6;go_wp2_with fail;have A8:=c_ w7 (.cells #[.bool true,Xu (m.kh:Nat),Xu (m.vh:Nat),Xu g] 274);have p4:=heap_alloc_new w7 (.cells #[.bool true,Xu (m.kh:Nat),Xu (m.vh:Nat),Xu g] 274);obtain⟨W8,bb⟩:=Ii (w7.alloc (.cells #[.bool true,Xu (m.kh:Nat),Xu (m.vh:Nat),Xu g] 274));rw[bb] at A8 p4;rw[bb];clear bb;have p2:=(A8.block _ gc).T HK.b;have p3:=(A8.block _ h8).T HK.c;have h9:=(gl p2);have h':=(gl p3);have gf:=(gl p4);have ch:=H7.O.2.2.1.a_ A8;obtain⟨I,a3,a6⟩:=ic fun w'=>∀k,k<W8.1.size->w'.1[k]?=W8.1[k]?;have ca:=fun x:Fq I=>(a3 _ x.ok _ h').T p3;have cb:=fun x:Fq I=>(a3 _ x.ok _ gf).T p4;obtain⟨r0,r1⟩:=mt ca;obtain⟨s0,s1,s2,s3⟩:=iB cb;have ba:I W8.drew:=a6 _ fun _ _=>rfl;have a9:=If a6;have a':=kq5 A8 p2 p3 p4 ch;have ik:IntKind.i64.wrap ((n1:Int)+n2)=(n1:Int)+n2:=ax _ o_;have iu:IntKind.u64.wrap ((n1:Int)+n2)=(n1:Int)+n2:=bP _ o_;have iv:IntKind.u64.wrap ((n1:Int)+n2+1)=(n1:Int)+n2+1:=bP _ o_;unfold FH at c' dc;clear a3 a6 ca cb A8 p2 p3 p4 ch;refine fh I (.take 0 (.take 1 (.take 3 (.take 4 (.take 5 (.go 2 (.go 6 (.take 7 (.take 8 (.take 9 (.go 10 .nil))))))))))) k_ k_ ba ?_
  iterate 5
   refine pT_ ?_
   try simp only[pu]
  refine pD fun K hK=>?_;go_simp;refine(c'.O _ _ (a'.e.a_ (aa _ W8).drew)).M ?_;rintro en w9 ⟨rfl,fj⟩;have B9:=(aa W8.1.size W8).drew.T fj;have cn:=If B9;clear fj B9
  try go_simp
  refine hK.O _ _ (a9.O _ fun k hk=>cn.O.block k hk) ?_;clear hK K
  try simp only[pu]
  refine pD fun K hK=>?_;go_simp;refine(dc.O _ _ (a'.e.a_ cn.O)).M ?_;rintro en an ⟨rfl,fb⟩;have ek:=b_ cn.O fb;have bd:=If ek;clear fb ek
  try go_simp
  refine hK.O _ _ (a9.O _ fun k hk=>bd.O.block k hk) ?_;clear hK K
  try simp only[pu]
  iterate 3
   refine pT_ ?_
   try simp only[pu]
  refine pD fun K hK=>?_;go_simp
  try go_simp
  refine hK.O _ _ (a9.O _ fun k hk=>bd.O.block k hk) ?_;clear hK K
  try simp only[pu]
  refine eP ?_;go_wp2_with fail;clear r0 r1 s0 s1 s2 s3 ba a9 ik iu iv c' dc;have ih:=a'.a.size;have jj:=bd.O.size;have g':=a'.a;have a5:Hid (D_ w7 an):=If (a'.a.T (bd.O.M ih));have ez:Bt.Tree (FC S2 rr 0 (v8 t (Bt.bn (Bt.F8 rr m y1 y2)))) o1 t (Bt.F8 rr m y1 y2)/\Bt.its (Bt.F8 rr m y1 y2)=Bt.insB e (Bt.its x)/\(∀z∈Bt.h_ (Bt.F8 rr m y1 y2),z∈Bt.h_ x\/i_ S z=none)/\(∀z,z∉Bt.h_ x->i_ S z≠none->i_ (FC S2 rr 0 (v8 t (Bt.bn (Bt.F8 rr m y1 y2)))) z=i_ S z)/\ej S (FC S2 rr 0 (v8 t (Bt.bn (Bt.F8 rr m y1 y2)))) (2*iD t e.k x) (iD t e.k x)/\∀z,i_ (FC S2 rr 0 (v8 t (Bt.bn (Bt.F8 rr m y1 y2)))) z≠none->z∈Bt.h_ (Bt.F8 rr m y1 y2)\/i_ S z≠none/\z∉Bt.h_ x:=by
   obtain⟨t1,t2,t3,t4,t5,t6,t7,t8⟩:=HT.O;refine⟨t1,t2,fun z hz=>(t3 z hz).imp id fun hm=>H6.g z hm,fun z h1 h2=>(t4 z fun q=>h2 (H6.g z (q▸t6))).T (HK.e z h1 fun hm=>h2 (H6.g z hm)),?_,fun z hz=>?_⟩
   ·rw[HQ.O];exact(HK.f.T t5).M o_ o_
   ·by_cases hm:z∈Bt.h_ (Bt.F8 rr m y1 y2)
    ·exact ab hm
    ·have h0:z≠rr:=fun q=>hm (t7 z (.inr (.inr q)));have h1:z∉Bt.h_ x:=fun q=>hm (t7 z (.inl q));have h2:z∉L:=fun q=>by
      rw[H7.O.1] at q
      rcases aq.1 q with q | q
      ·exact h0 (t8 z q)
      ·exact hm (t7 z (.inr (.inl q)))
     exact ae ⟨fun q=>hz ((t4 z h0).T ((HK.e z h1 h2).T q)),h1⟩
  have bf:=If ez;obtain⟨I,a3,a6⟩:=ic fun w'=>w'.1[w7.1.size]?=some (.cells #[.bool true,Xu (m.kh:Nat),Xu (m.vh:Nat),Xu g] 274 (0,0))/\w'.1[w.1.size+1]?=some (.cells #[Xu 0,Xu 0] 104 (0,0));have ca:=fun x:Fq I=>(a3 _ x.ok).1;have cb:=fun x:Fq I=>(a3 _ x.ok).2;obtain⟨s0,s1,s2,s3⟩:=iB ca;obtain⟨r0,r1⟩:=mt cb;have hJ:∀W,D_ an W->I W:=fun W hB=>a6 _ ⟨(hB.block _ o_).T ((bd.O.block _ gf).T a'.d),(hB.block _ o_).T ((bd.O.block _ h9).T a'.b)⟩;have ba:I an.drew:=hJ _ (aa _ an).drew;have bm:∀W w',D_ an W->Fo (fun k=>(((Y k\/(w.1.size<=k/\k<W4.1.size))\/iJ w5.1.size (w5.1.size+1) v6 k)\/(w7.1.size<=k/\k<W.1.size))/\k≠w5.1.size+1) W w'->I w':=fun W w' hB hk=>by
   have bq:=hB.size;have j0:=H7.O.2.2.2.1.size;have i3:=(gl H7.O.2.2.2.2.1.box);have h1:=a3 _ (hJ W hB);exact a6 _ ⟨(hk.block _ ⟨ae ⟨Nat.le_refl _,o_⟩,o_⟩).T h1.1,(hk.block _ ⟨ab (ab (ae ⟨o_,o_⟩)),o_⟩).T h1.2⟩
  have a1:∀w',I w'->I ((w'.setCell (y_ (w.1.size+1)) (Xu 0)).setCell (x_ (w.1.size+1) 1) (Xu 0)):=fun w' hi=>a6 _ ⟨((FB o_).T (FB o_)).T (a3 _ hi).1,heap_setCell (i:=1) (v:=Xu 0) (heap_setCell (i:=0) (v:=Xu 0) (a3 _ hi).2)⟩;have HJ:=If hJ;have bj:=If a3;clear ca cb a3 a6 g' ez;refine Fi I (.take 0 (.take 1 (.take 2 (.take 3 (.take 5 (.take 6 (.take 7 (.take 9 (.take 10 (.take 11 (.take 13 (.take 16 (.three 4 8 12 (.two 8 12 (.go 12 (.take 14 (.go 15 (.go 17 (.go 18 (.go 19 (.go 20 .nil))))))) (.go 8 (.take 14 (.go 15 (.go 17 (.go 18 (.go 19 (.go 20 .nil)))))))) (.two 4 12 (.go 12 (.take 14 (.go 15 (.go 17 (.go 18 (.go 19 (.go 20 .nil))))))) (.go 4 (.take 14 (.go 15 (.go 17 (.go 18 (.go 19 (.go 20 .nil)))))))) (.two 4 8 (.go 8 (.take 14 (.go 15 (.go 17 (.go 18 (.go 19 (.go 20 .nil))))))) (.go 4 (.take 14 (.go 15 (.go 17 (.go 18 (.go 19 (.go 20 .nil))))))))))))))))))))) k_ k_ ba ?_
  iterate 12
   refine' lq ?_ ?_;rotate_left
   ·intro x;go_simp
    try rfl
   try simp only[pu]
  clear s0 s1 s2 s3 r0 r1;refine Dx ?_ ?_ ?_
  ·have T4:=ku an (Xf (m.kh:Nat)) (Xf (m.kh:Nat)) (Xf (m.kh:Nat));refine eG fun K hK=>?_;go_simp
   try go_simp
   refine hK.O _ _ (HJ.O _ T4.1) ?_;clear hK K
   try simp only[pu]
   clear T4;refine rP ?_ ?_
   ·have T4:=ku an (Xf (m.kh:Nat)) (Xf (m.vh:Nat)) (.cells #[Xu (Bt.hd x:Nat),Xu g] 61);refine eG fun K hK=>?_;go_simp
    try go_simp
    refine hK.O _ _ (HJ.O _ T4.2.1) ?_;clear hK K
    try simp only[pu]
    refine eG fun K hK=>?_;go_simp
    try go_simp
    refine hK.O _ _ (HJ.O _ T4.2.2.1) ?_;clear hK K
    try simp only[pu]
    refine' lq ?_ ?_;rotate_left
    ·intro x;go_simp
     try rfl
    try simp only[pu]
    refine eG fun K hK=>?_;go_simp;refine(HA.O _ an.1.size (an.1.size+1) (an.1.size+2) (a5.O.T (T4.2.2.1.M o_)) o_ o_ o_ T4.2.2.2.1 T4.2.2.2.2.1 T4.2.2.2.2.2).M ?_;exact qByaa
   ·have T4:=ku an (Xf (m.kh:Nat)) (.cells #[Xu (Bt.hd x:Nat),Xu g] 61) (Xf (m.vh:Nat));refine eG fun K hK=>?_;go_simp
    try go_simp
    refine hK.O _ _ (HJ.O _ T4.2.1) ?_;clear hK K
    try simp only[pu]
    refine eG fun K hK=>?_;go_simp
    try go_simp
    refine hK.O _ _ (HJ.O _ T4.2.2.1) ?_;clear hK K
    try simp only[pu]
    refine' lq ?_ ?_;rotate_left
    ·intro x;go_simp
     try rfl
    try simp only[pu]
    refine eG fun K hK=>?_;go_simp;refine(HA.O _ an.1.size (an.1.size+2) (an.1.size+1) (a5.O.T (T4.2.2.1.M o_)) o_ o_ o_ T4.2.2.2.1 T4.2.2.2.2.2 T4.2.2.2.2.1).M ?_;exact qByaa
  ·have T4:=ku an (Xf (m.vh:Nat)) (Xf (m.vh:Nat)) (Xf (m.vh:Nat));refine eG fun K hK=>?_;go_simp
   try go_simp
   refine hK.O _ _ (HJ.O _ T4.1) ?_;clear hK K
   try simp only[pu]
   clear T4;refine rP ?_ ?_
   ·have T4:=ku an (Xf (m.vh:Nat)) (Xf (m.kh:Nat)) (.cells #[Xu (Bt.hd x:Nat),Xu g] 61);refine eG fun K hK=>?_;go_simp
    try go_simp
    refine hK.O _ _ (HJ.O _ T4.2.1) ?_;clear hK K
    try simp only[pu]
    refine eG fun K hK=>?_;go_simp
    try go_simp
    refine hK.O _ _ (HJ.O _ T4.2.2.1) ?_;clear hK K
    try simp only[pu]
    refine' lq ?_ ?_;rotate_left
    ·intro x;go_simp
     try rfl
    try simp only[pu]
    refine eG fun K hK=>?_;go_simp;refine(HA.O _ (an.1.size+1) an.1.size (an.1.size+2) (a5.O.T (T4.2.2.1.M o_)) o_ o_ o_ T4.2.2.2.2.1 T4.2.2.2.1 T4.2.2.2.2.2).M ?_;exact qByaa
   ·have T4:=ku an (Xf (m.vh:Nat)) (.cells #[Xu (Bt.hd x:Nat),Xu g] 61) (Xf (m.kh:Nat));refine eG fun K hK=>?_;go_simp
    try go_simp
    refine hK.O _ _ (HJ.O _ T4.2.1) ?_;clear hK K
    try simp only[pu]
    refine eG fun K hK=>?_;go_simp
    try go_simp
    refine hK.O _ _ (HJ.O _ T4.2.2.1) ?_;clear hK K
    try simp only[pu]
    refine' lq ?_ ?_;rotate_left
    ·intro x;go_simp
     try rfl
    try simp only[pu]
    refine eG fun K hK=>?_;go_simp;refine(HA.O _ (an.1.size+2) an.1.size (an.1.size+1) (a5.O.T (T4.2.2.1.M o_)) o_ o_ o_ T4.2.2.2.2.2 T4.2.2.2.1 T4.2.2.2.2.1).M ?_;exact qByaa
  ·have T4:=ku an (.cells #[Xu (Bt.hd x:Nat),Xu g] 61) (.cells #[Xu (Bt.hd x:Nat),Xu g] 61) (.cells #[Xu (Bt.hd x:Nat),Xu g] 61);refine eG fun K hK=>?_;go_simp
   try go_simp
   refine hK.O _ _ (HJ.O _ T4.1) ?_;clear hK K
   try simp only[pu]
   clear T4;refine rP ?_ ?_
   ·have T4:=ku an (.cells #[Xu (Bt.hd x:Nat),Xu g] 61) (Xf (m.kh:Nat)) (Xf (m.vh:Nat));refine eG fun K hK=>?_;go_simp
    try go_simp
    refine hK.O _ _ (HJ.O _ T4.2.1) ?_;clear hK K
    try simp only[pu]
    refine eG fun K hK=>?_;go_simp
    try go_simp
    refine hK.O _ _ (HJ.O _ T4.2.2.1) ?_;clear hK K
    try simp only[pu]
    refine' lq ?_ ?_;rotate_left
    ·intro x;go_simp
     try rfl
    try simp only[pu]
    refine eG fun K hK=>?_;go_simp;refine(HA.O _ (an.1.size+1) (an.1.size+2) an.1.size (a5.O.T (T4.2.2.1.M o_)) o_ o_ o_ T4.2.2.2.2.1 T4.2.2.2.2.2 T4.2.2.2.1).M ?_;exact qByaa
   ·have T4:=ku an (.cells #[Xu (Bt.hd x:Nat),Xu g] 61) (Xf (m.vh:Nat)) (Xf (m.kh:Nat));refine eG fun K hK=>?_;go_simp
    try go_simp
    refine hK.O _ _ (HJ.O _ T4.2.1) ?_;clear hK K
    try simp only[pu]
    refine eG fun K hK=>?_;go_simp
    try go_simp
    refine hK.O _ _ (HJ.O _ T4.2.2.1) ?_;clear hK K
    try simp only[pu]
    refine' lq ?_ ?_;rotate_left
    ·intro x;go_simp
     try rfl
    try simp only[pu]
    refine eG fun K hK=>?_;go_simp;refine(HA.O _ (an.1.size+2) (an.1.size+1) an.1.size (a5.O.T (T4.2.2.1.M o_)) o_ o_ o_ T4.2.2.2.2.2 T4.2.2.2.2.1 T4.2.2.2.1).M ?_;exact qByaa
namespace Bt
structure Empty (S:St) (o:Nat->Nat) (t:Nat):Prop where
 fit:Fw S o
 t1:2<=t
 t2:t<=16
structure First (S:St) (e:It):Prop where
 F4:gu S e
 ne:e.kh≠e.vh
def leafOf(r:Nat)(e:It):Bt 1:=(⟨r,[e],[]⟩:Bn (Bt 0))
theorem first_tree {S:St}{o:Nat->Nat}{t:Nat}(h:Empty S o t){e:It}(n:First S e){r:Nat}{ws:List Nat}(hw:i_ S r=some ws)(hl:ws.length=6*t)(hk:r≠e.kh)(hv:r≠e.vh):
 Ok t (leafOf r e)/\iT (bn (leafOf r e))/\Tree (FC S r 0 (v8 t (bn (leafOf r e)))) o t (leafOf r e)/\(∀z,z≠r->i_ (FC S r 0 (v8 t (bn (leafOf r e)))) z=i_ S z)/\ej S (FC S r 0 (v8 t (bn (leafOf r e)))) 0 0:=by
 have t1:=h.t1;have ok:Ok t (leafOf r e):=⟨by show 1<=2*t-1;omega,rfl,fun k hk=>by have hk:k∈([]:List (Bt 0)):=hk;simp at hk⟩;have an:∀k∈Bn.ks (leafOf r e),At S t k:=fun k hk=>by have hk:k∈([]:List (Bt 0)):=hk;simp at hk
 have ad:its (leafOf r e)=[e]:=its_leaf _;have hb:=blobs_lt h.fit n.F4;have ai:iT (bn (leafOf r e)):=bnLt_of h.fit (fun a ha=>by
  have ha:a∈ [e]:=ha;rw[aE.1 ha];exact hb) an (by rw[ad];show 1<_;omega)
 obtain⟨p1,p2,p3,p4⟩:=put_node (x:=leafOf r e) h.fit an (fun k hk=>by have hk:k∈([]:List (Bt 0)):=hk;simp at hk) (ws:=ws) hw hl ai (by show 1<1000;omega);have p3:∀z,z≠r->i_ (FC S r 0 (v8 t (bn (leafOf r e)))) z=i_ S z:=p3;have ap:Bt.h_ (leafOf r e)=[r]:=by rw[jQ];rfl
 refine⟨ok,ai,⟨p1,h.t1,h.t2,p2,ok,by rw[ad];exact List.pairwise_singleton _ _,?_,by rw[ad];show 1<_;omega,by rw[ap];simp,?_,?_,Nat.le_refl 1⟩,p3,p4⟩
 ·rw[ad];intro a ha;rw[aE.1 ha];exact n.F4.frame (p3 _ (Ne.S hk)) (p3 _ (Ne.S hv))
 ·rw[ad]
  show[e.kh,e.vh].Nodup
  simp[n.ne]
 ·rw[ad,ap];intro z hz hm;rw[aE.1 hz] at hm;have hm:r∈ [e.kh,e.vh]:=hm
  simp at hm
  exact hm.elim hk hv
end Bt
theorem xP(w:World)(o1 o2:Obj):D_ w (w.drew.alloc o1)/\D_ w ((w.drew.alloc o1).alloc o2)/\((w.drew.alloc o1).alloc o2).1[w.1.size]?=some o1/\((w.drew.alloc o1).alloc o2).1[w.1.size+1]?=some o2:=by
 have z1:(w.drew.alloc o1).1.size=w.1.size+1:=s_
 have b1:=((aa w.1.size w).drew).alloc Ih o1;have c2:=(aa (w.drew.alloc o1).1.size (w.drew.alloc o1)).alloc Ih o2;have q1:=heap_alloc_new w.drew o1;have q2:=heap_alloc_new (w.drew.alloc o1) o2;have r1:=(c2.block w.1.size o_).T q1;rw[z1] at q2;exact⟨b1,b1.T (c2.M (by rw[z1];omega)),r1,q2⟩
theorem qByab{P:Prop}(h:P:=by
 rintro en a1 ⟨rfl,ed,a',a0,ch,cc⟩;have ad:I a1:=c7 _ _ T4.2.1 a0;have hold:=(cx.O _ ad).2;have kF:Fo Y w a1:=(HK.a.T (Fo.v_ T4.2.1 fun k hk=>by have:=HK.d k hk;omega)).T (a0.M fun k hk=>⟨ab (ab hk),by have:=HK.d k hk;omega⟩);obtain⟨x0,x1⟩:=Fp hold;obtain⟨f0,f1⟩:=ef hold;have ap:=kq3 hold a' kF;clear a0 ch cc hold a' kF T4
 try go_simp
 refine hK.O _ _ ad ?_;clear hK K
 try simp only[pu]
 refine pD fun K hK=>?_;go_simp
 try go_simp
 refine hK.O _ _ ad ?_;clear hK K
 try simp only[pu]
 refine pD fun K hK=>?_;go_simp
 try go_simp
 refine hK.O _ _ (a2 _ ad) ?_;clear hK K
 try simp only[pu]
 refine pD fun K hK=>?_;go_simp
 try go_simp
 refine hK.O _ _ (a2 _ ad) ?_;clear hK K
 try simp only[pu]
 refine pD fun K hK=>?_;go_simp
 try go_simp
 refine hK.O _ _ (a2 _ ad) ?_;clear hK K
 try simp only[pu]
 refine eP ?_;go_wp2_with fail;obtain⟨WF,ai⟩:=Ii ((a1.setCell (y_ (w.1.size+1)) (Xu 0)).setCell (x_ (w.1.size+1) 1) (Xu 0));rw[ai];have eF:WF.1[w.1.size+1]?=some (.cells #[Xu 0,Xu 0] 104 (0,0)):=by
  rw[<-ai];exact heap_setCell (i:=1) (v:=Xu 0) (heap_setCell (i:=0) (v:=Xu 0) ap.a)
 have ck:Ig WF ps (FC S1 rr 0 (v8 t (Bt.bn (Bt.leafOf rr e)))) Y:=by
  rw[<-ai];exact(ap.b.write (b:=w.1.size+1) (ab (ae ⟨o_,o_⟩)) ap.a ⟨d_,d_⟩ s_ s_ fun k _ hk=>(FB hk).T (FB hk)).M fun k hk=>ab (ab hk)
 have kF:Fo Y w WF:=by
  rw[<-ai];have a7:∀k,Y k->k≠w.1.size+1:=fun k hk=>by have:=HK.d k hk;omega
  exact(ap.c.T (Fo.mark a7)).T (Fo.mark a7)
 clear ai x0 x1 f0 f1;obtain⟨u0,u1⟩:=Fp eF;exact bodyPost_ret (v:=.tuple #[Xu (rr:Nat),.agg #[Xu 0,Xu 0],.bool false,Xi 0]) (by simp[results,f137,go_sem,u0,u1]) rfl ⟨Bt.leafOf rr e,_,o1,rfl,ck,kF,cv.O⟩):P:=h
theorem zH {w:World}{ps:Nat}{S:St}{o:Nat->Nat}{Y:Nat->Prop}(h:Ig w ps S Y){t:Nat}(hx:Bt.Empty S o t){e:It}(hn:Bt.First S e)(hr:fc S (2*1) 1):
 Ct 137 #[PV ps,Xi t,Xu 0,Id e.kh e.vh] w fun en w'=>∃(y:Bt 1) (S':St) (o':Nat->Nat),en=.returned (.tuple #[Xu (Bt.hd y:Nat),Id 0 0,.bool false,Xi 0])/\Ig w' ps S' Y/\Fo Y w w'/\Bt.Tree S' o' t y/\Bt.its y=[e]/\(∀z∈Bt.h_ y,i_ S z=none)/\(∀z,i_ S z≠none->i_ S' z=i_ S z)/\ej S S' 2 1/\∀z,i_ S' z≠none->z∈Bt.h_ y\/i_ S z≠none:=by
 have B0:=(c_ w (Xe e.kh e.vh)).alloc s_ (.cells #[Xu 0,Xu 0] 104);have z1:(w.alloc (Xe e.kh e.vh)).1.size=w.1.size+1:=s_
 have q1:=heap_alloc_new w (Xe e.kh e.vh);have q2:=heap_alloc_new (w.alloc (Xe e.kh e.vh)) (.cells #[Xu 0,Xu 0] 104);have q1:=(((aa (w.alloc (Xe e.kh e.vh)).1.size (w.alloc (Xe e.kh e.vh))).alloc Ih (.cells #[Xu 0,Xu 0] 104)).block w.1.size s_).T q1;rw[z1] at q2;have hz:((w.alloc (Xe e.kh e.vh)).alloc (.cells #[Xu 0,Xu 0] 104)).1.size=w.1.size+2:=s_
 generalize hW:(w.alloc (Xe e.kh e.vh)).alloc (.cells #[Xu 0,Xu 0] 104)=W0 at*;have A1:=c_ W0 (Xc ps t);have q3:=heap_alloc_new W0 (Xc ps t);have a9:(W0.alloc (Xc ps t)).1.size=w.1.size+3:=by simp[hz]
 have hi:=hx.fit.inv;have hw:=hi;have ds:S.len 0=(0,7):=fU S;have has:=kZ (h.a_ B0) hi hx.t1 hx.t2;obtain⟨W1,c'⟩:=Ii (W0.alloc (Xc ps t));rw[c'] at A1 q3 a9;have B1:=B0.T (A1.M o_);rw[hz] at q3;have b4:=jt hx.fit hn.F4.lk hn.F4.k;have bu:=iz (h.a_ B1) hi e.kh (Bt.blobs_lt hx.fit hn.F4).1 (by rw[b4];simp);rw[b4] at bu;have q1:=(A1.block _ o_).T q1;have q2:=(A1.block _ o_).T q2;obtain⟨x0,x1⟩:=Fp q1;have H0:=kq7 h hx hn hr hw hi a9;have H1:=kq4 B1 q1 q2 q3;have cn:=If has;have cp:=If bu;clear z1 q1 q2 q3 B0 B1 A1 hw hi has b4 bu h hx hn hr;unfold Id;go_enter func137,ntmps137;go_wp2_with fail;refine cn.O.M ?_;rintro en w1 ⟨rfl,rfl⟩;clear hW;go_wp2_with fail;refine cp.O.M ?_;rintro en w2 ⟨rfl,a3⟩;clear x0 x1;have p1:=(a3.block _ (by have:=H0.g;omega)).T H1.b;have p2:=(a3.block _ (by have:=H0.g;omega)).T H1.c;have p3:=(a3.block _ (by have:=H0.g;omega)).T H1.d;have b2:=b_ H1.a a3;obtain⟨x0,x1⟩:=Fp p3;have b0:=nQ (H0.a.a_ b2) H0.f H0.b.t1 H0.b.t2 0 o_ ds;have ek:w.1.size+3<=w2.1.size:=by have:=a3.size;have:=H0.g;omega
 unfold FH eC at b0;have cw:=If b0;have H2:=kq4 b2 p1 p2 p3;clear a3 p1 p2 p3 b2 b0 cp cn H1 c';go_wp2_with fail;refine cw.O.M ?_;rintro en w3 ⟨rfl,bq⟩;go_wp2_with fail;have A3:=c_ w3 (.cells #[n_,n_,n_,Xu 0] 215);obtain⟨W3,bm⟩:=Ii (w3.alloc (.cells #[n_,n_,n_,Xu 0] 215));rw[bm] at A3;rw[bm];clear bm;have c3:=b_ bq A3;have p1:=(c3.block _ o_).T H2.b;have p2:=(c3.block _ o_).T H2.c;have p3:=(c3.block _ o_).T H2.d;have B3:=b_ H2.a c3;have el:w.1.size+3<=W3.1.size:=by have:=c3.size;omega
 have bv:=fun W (hw:D_ W3 W)=>tT (H0.a.a_ (b_ B3 hw)) H0.f H0.b.t1 H0.b.t2 0 o_ ds e.k;have bc:=nT (R:=none) (bv W3 (aa _ _)) fun W hW=>bv W (by rw[hW];exact(aa _ _).alloc Ih _);unfold i7 Id at bc
 dsimp only[Option.isSome] at bc
 have cq:=If bc;have H3:=kq4 B3 p1 p2 p3;clear A3 c3 p1 p2 p3 B3 bv bc x0 x1 bq H2 cw;refine cq.O.M ?_;rintro en w4 ⟨rfl,bs⟩;go_wp2_with fail;have A4:=c_ w4 (.cells #[Xu 0,Xu 0] 104);obtain⟨W4,bo⟩:=Ii (w4.alloc (.cells #[Xu 0,Xu 0] 104));rw[bo] at A4;rw[bo];clear bo;have c4:=b_ bs A4;have p1:=(c4.block _ o_).T H3.b;have p2:=(c4.block _ o_).T H3.c;have p3:=(c4.block _ o_).T H3.d;have B4:=b_ H3.a c4;have d2:w.1.size+3<=W4.1.size:=by have:=c4.size;omega
 have cj:=H0.a.wide B4;have a6:=fun W (_:D_ W4 W)=>zO W ps t e.k;have a5:=fun W (hw:D_ W4 W)=>tU (cj.a_ hw) H0.b.fit H0.b.t1 H0.b.t2 1 o_ H0.d;unfold FH at a6 a5;have a6:=If a6;have a5:=If a5;have H4:=kq5 B4 p1 p2 p3 cj;clear A4 c4 p1 p2 p3 B4 cj bs H3 cq;obtain⟨I,an,ar⟩:=ic fun w'=>w'.1[w.1.size+2]?=W4.1[w.1.size+2]?;have a9:=fun x:Fq I=>(an _ x.ok).T H4.d;obtain⟨r0,r1⟩:=mt a9;have ba:I W4.drew:=ar _ rfl;have bj:=If ar;clear an ar a9;refine fh I (.take 0 (.take 1 (.take 2 (.take 3 (.go 4 (.go 5 (.take 6 (.take 7 (.take 8 (.go 9 (.go 10 .nil))))))))))) k_ k_ ba ?_
 iterate 4
  refine pT_ ?_
  try simp only[pu]
 refine pD fun K hK=>?_;go_simp;refine(a6.O _ (aa _ W4).drew).M ?_;rintro en w5 ⟨rfl,bt⟩;have c6:I w5:=bj.O _ (bt.block _ d2);have B5:=(aa W4.1.size W4).drew.T bt;have a4:=If B5;clear bt B5
 try go_simp
 refine hK.O _ _ c6 ?_;clear hK K
 try simp only[pu]
 refine pD fun K hK=>?_;go_simp;refine(a5.O _ a4.O).M ?_;rintro en w6 ⟨rfl,S1,o1,v6,L,d',cb,d8,f6,c9,d9,dv,au,dn⟩;have bb:I w6:=bj.O _ ((cb.block _ (ae ⟨o_,o_⟩)).T (a4.O.block _ d2));have H6:=kq9 d' cb d8 f6 c9 d9 dv au dn;clear d' cb d8 f6 c9 d9 dv au dn
 try go_simp
 refine hK.O _ _ bb ?_;clear hK K
 try simp only[pu]
 iterate 3
  refine pT_ ?_
  try simp only[pu]
 refine pD fun K hK=>?_;go_simp
 try go_simp
 refine hK.O _ _ bb ?_;clear hK K
 try simp only[pu]
 refine pD fun K hK=>?_;go_simp
 try go_simp
 refine hK.O _ _ bb ?_;clear hK K
 try simp only[pu]
 refine eP ?_;have k6:∀k,w.1.size<=k->k<W4.1.size->w6.1[k]?=W4.1[k]?:=fun k h1 h2=>(H6.b.block k (ae ⟨h1,h2⟩)).T (a4.O.block k h2);have p1:=(k6 w.1.size o_ o_).T H4.b;have p2:=(k6 (w.1.size+1) o_ o_).T H4.c;have bf:=H0.a.yl;have em:=a4.O.size;have eo:=H6.b.size;have kY:Fo Y w w6:=((Fo.v_ H4.a bf).T (Fo.v_ a4.O fun k hk=>by have:=bf k hk;omega)).T (H6.b.M fun k hk=>ab hk);have bk:=H6.e;obtain⟨rr,ec⟩:∃rr,L=[]++[rr]:=by
  cases L with
  | nil=>simp at bk
  | cons a l=>
   cases l with
   | nil=>exact⟨a,rfl⟩
   | cons b l=>simp at bk
 subst ec;obtain⟨ws,bd,ca⟩:=H6.f.recs rr s_;have a8:=H6.g rr s_;have b9:rr≠e.kh:=fun q=>by have:=H0.c.F4.k;rw[<-q,a8] at this;cases this
 have b':rr≠e.vh:=fun q=>by have:=H0.c.F4.v;rw[<-q,a8] at this;cases this
 have au:∀z,z≠rr->i_ S1 z=i_ S z:=fun z hz=>H6.h z (by simpa using hz);have dd:Bt.Empty S1 o1 t:=⟨H6.d,H0.b.t1,H0.b.t2⟩;have dk:Bt.First S1 e:=⟨H0.c.F4.frame (au _ (Ne.S b9)) (au _ (Ne.S b')),H0.c.ne⟩;obtain⟨ok,dc,d4,bx,dp⟩:=Bt.first_tree dd dk bd ca b9 b';have hA:∀(W:World) (b1 b2:Nat),D_ w6 W->w6.1.size<=b1->w6.1.size<=b2->W.1[b1]?=some (.cells #[Xu e.kh] 61 (0,0))->W.1[b2]?=some (.cells #[Xu e.vh] 61 (0,0))->
  Ct 214 #[.agg #[.slice (some (y_ b1)) 1 1,.slice (some (y_ b2)) 1 1,n_,Xu 1],PV (w5.1.size+1),PV w5.1.size] W fun en w'=>en=.returned (Xu rr)/\∃v',Ig w' ps (FC S1 rr 0 (v8 t (Bt.bn (Bt.leafOf rr e)))) (fun k=>(Y k\/(w.1.size<=k/\k<W4.1.size))\/iJ w5.1.size (w5.1.size+1) v6 k)/\Fo (fun k=>((Y k\/(w.1.size<=k/\k<W4.1.size))\/iJ w5.1.size (w5.1.size+1) v6 k)/\k≠w5.1.size+1) W w'/\gz w' w5.1.size (w5.1.size+1) (w5.1.size+2) ps t v' []/\v'.ownBlock=v6.ownBlock:=by
  intro W b1 b2 hB g1 g2 e1 e2;have ep:w5.1.size+2<=w6.1.size:=by
   have h1:=(gl H6.c.box);omega
  have d1:∀(b k:Nat),W.1[b]?=some (.cells #[Xu k] 61 (0,0))->FD W (.slice (some (y_ b)) 1 1) [k]:=fun b k hb=>⟨_,1,rfl,fun i hi=>⟨b,0,rfl,by
   have hi:i=0:=by simp at hi;exact hi
   subst hi;rw[q_ hb]
   rfl⟩⟩
  have eb:FD W n_ []:=⟨none,0,rfl,fun i hi=>absurd hi s_⟩;have ea:S1.len rr=(6*t,0):=by rw[jw H6.d.tab bd,ca]
  have d0:∀{b n c:Nat},w6.1.size<=b->∀g,(Value.slice (some (y_ b)) n c).ownBlock=some g->g≠w5.1.size+1:=fun hb g hg q=>by
   have hg:=Option.some.inj hg;simp only at hg;omega
  have d3:=pZ (n:=Bt.bn (Bt.leafOf rr e)) (vk:=.slice (some (y_ b1)) 1 1) (vv:=.slice (some (y_ b2)) 1 1) (vc:=.slice none 0 0) (H6.a.a_ hB) H6.d.inv (H6.c.keeps fun k hk=>hB.block k (H6.a.yl k (ae hk))) (ae (ae (ab rfl))) (ae (ab rfl)) (fun b hb=>ae (ae (ae hb))) s_ (Bt.bnok_of H6.d H0.b.t1 H0.b.t2 (fun k hk=>by have hk:k∈([]:List (Bt 0)):=hk;simp at hk) ok) (d1 b1 _ e1) (d1 b2 _ e2) eb (d0 g1) (d0 g2) (fun g hg=>nomatch hg) (fL H6.d bd).2.1 ea (kX (t:=t) dc (by show 1<_;omega));unfold eC at d3;exact d3
 have c5:Bt.Tree (FC S1 rr 0 (v8 t (Bt.bn (Bt.leafOf rr e)))) o1 t (Bt.leafOf rr e)/\Bt.its (Bt.leafOf rr e)=[e]/\(∀z∈Bt.h_ (Bt.leafOf rr e),i_ S z=none)/\(∀z,i_ S z≠none->i_ (FC S1 rr 0 (v8 t (Bt.bn (Bt.leafOf rr e)))) z=i_ S z)/\ej S (FC S1 rr 0 (v8 t (Bt.bn (Bt.leafOf rr e)))) 2 1/\∀z,i_ (FC S1 rr 0 (v8 t (Bt.bn (Bt.leafOf rr e)))) z≠none->z∈Bt.h_ (Bt.leafOf rr e)\/i_ S z≠none:=by
  refine⟨d4,Bt.its_leaf _,fun z hz=>?_,fun z hz=>?_,(H6.i.T dp).M o_ o_,fun z hz=>?_⟩
  ·have hz:z∈ [rr]:=hz;rw[aE.1 hz];exact a8
  ·have d7:z≠rr:=fun q=>hz (q▸a8);exact(bx z d7).T (au z d7)
  ·by_cases hm:z=rr
   ·exact ab (show z∈ [rr] from hm▸av ..)
   ·exact ae fun q=>hz ((bx z hm).T ((au z hm).T q))
 have HA:=If hA;have cv:=If c5;have eg:=(gl p2);have HK:=kq4 kY p2 p1 bf;obtain⟨x0,x1⟩:=Fp p1;clear bk bd ca a8 b9 b' au dd dk ok dc d4 bx dp hA c5 kY p1 p2 k6 bf r0 r1 a6 a5 bj ba c6 bb;go_wp2_with fail;obtain⟨I,an,ar⟩:=ic fun w'=>w'.1[w.1.size]?=some (.cells #[Xu e.kh,Xu e.vh] 104 (0,0))/\w'.1[w.1.size+1]?=some (.cells #[Xu 0,Xu 0] 104 (0,0));have d5:=fun x:Fq I=>(an _ x.ok).1;have d6:=fun x:Fq I=>(an _ x.ok).2;obtain⟨s0,s1⟩:=mt d5;obtain⟨r0,r1⟩:=mt d6;have hJ:∀W,D_ w6 W->I W:=fun W hB=>ar _ ⟨(hB.block _ o_).T HK.c,(hB.block _ o_).T HK.b⟩;have ba:I w6.drew:=hJ _ (aa _ w6).drew;have c7:∀W w',D_ w6 W->Fo (fun k=>((Y k\/(w.1.size<=k/\k<W4.1.size))\/iJ w5.1.size (w5.1.size+1) v6 k)/\k≠w5.1.size+1) W w'->I w':=fun W w' hB hk=>by
  have h1:=an _ (hJ W hB);exact ar _ ⟨(hk.block _ ⟨ab (ae ⟨o_,o_⟩),o_⟩).T h1.1,(hk.block _ ⟨ab (ae ⟨o_,o_⟩),o_⟩).T h1.2⟩
 have a2:∀w',I w'->I ((w'.setCell (y_ (w.1.size+1)) (Xu 0)).setCell (x_ (w.1.size+1) 1) (Xu 0)):=fun w' hi=>ar _ ⟨((FB o_).T (FB o_)).T (an _ hi).1,heap_setCell (i:=1) (v:=Xu 0) (heap_setCell (i:=0) (v:=Xu 0) (an _ hi).2)⟩;have HJ:=If hJ;have cx:=If an;clear d5 d6 an ar x0 x1;refine fh I (.take 0 (.take 1 (.take 2 (.take 4 (.take 5 (.take 9 (.two 3 6 (.go 6 (.take 7 (.go 8 (.go 10 (.go 11 (.go 12 (.go 13 .nil))))))) (.go 3 (.take 7 (.go 8 (.go 10 (.go 11 (.go 12 (.go 13 .nil)))))))))))))) k_ k_ ba ?_
 iterate 6
  refine pT_ ?_
  try simp only[pu]
 clear s0 s1 r0 r1;refine gL ?_ ?_
 ·have T4:=xP w6 (Xf (e.kh:Nat)) (Xf (e.vh:Nat));refine pD fun K hK=>?_;go_simp
  try go_simp
  refine hK.O _ _ (HJ.O _ T4.1) ?_;clear hK K
  try simp only[pu]
  refine pD fun K hK=>?_;go_simp
  try go_simp
  refine hK.O _ _ (HJ.O _ T4.2.1) ?_;clear hK K
  try simp only[pu]
  refine pT_ ?_
  try simp only[pu]
  refine pD fun K hK=>?_;go_simp;refine(HA.O _ w6.1.size (w6.1.size+1) T4.2.1 o_ o_ T4.2.2.1 T4.2.2.2).M ?_;exact qByab
 ·have T4:=xP w6 (Xf (e.vh:Nat)) (Xf (e.kh:Nat));refine pD fun K hK=>?_;go_simp
  try go_simp
  refine hK.O _ _ (HJ.O _ T4.1) ?_;clear hK K
  try simp only[pu]
  refine pD fun K hK=>?_;go_simp
  try go_simp
  refine hK.O _ _ (HJ.O _ T4.2.1) ?_;clear hK K
  try simp only[pu]
  refine pT_ ?_
  try simp only[pu]
  refine pD fun K hK=>?_;go_simp;refine(HA.O _ (w6.1.size+1) w6.1.size T4.2.1 o_ o_ T4.2.2.2 T4.2.2.1).M ?_;exact qByab
end
section
open Go.RowKit Tryz Go.BigFrame Go.Maps Go.WideMaps Lf Tr
def jx(ps t:Nat):Value:=.agg #[PV ps,Xi t]
theorem rH(f:Nat)(v:Value)(w:World):(method (f+1) 164 v "loft/backend.insert").run prog w=.ok (318,v) w:=k_
theorem qu(args:Array Value)(w:World):(callFunc 318 args).run prog w=.ok (.enter 318 args) w:=k_
theorem rA {w:World}{ps t hh p q:Nat}{S:St}{Y:Nat->Prop}(h:Ig w ps S Y)(was:Bool){R:Nat->Nat->Nat->St->Prop}(hs:∀W Z,Ig W ps S Z->Ct 137 #[PV ps,Xi t,Xu hh,Id p q] W fun e w'=>∃(x ik iv:Nat) (S':St),e=.returned (.tuple #[Xu x,Id ik iv,.bool was,Xi 0])/\Ig w' ps S' Z/\Fo Z W w'/\R x ik iv S'):
 Ct 318 #[jx ps t,Xu hh,Id p q] w fun e w'=>∃(x ik iv:Nat) (S':St),e=.returned (.tuple #[Xu x,Id ik iv,.bool was,Xi 0])/\Ig w' ps S' Y/\Fo Y w w'/\R x ik iv S':=by
 simp only[Id,jx] at hs⊢;have B1:=c_ w (.cells #[PV ps,Xi t] 164);have B2:=B1.alloc B1.size (Xe p q);have B3:=B2.alloc B2.size (.cells #[Xu 0,Xu 0] 104);have y3:=heap_alloc_new ((w.alloc (.cells #[PV ps,Xi t] 164)).alloc (Xe p q)) (.cells #[Xu 0,Xu 0] 104);have z2:((w.alloc (.cells #[PV ps,Xi t] 164)).alloc (Xe p q)).1.size=w.1.size+2:=s_
 have z3:(((w.alloc (.cells #[PV ps,Xi t] 164)).alloc (Xe p q)).alloc (.cells #[Xu 0,Xu 0] 104)).1.size=w.1.size+3:=s_
 rw[z2] at y3;have hY:=h.yl;have hw:=hs _ _ (h.wide B3);rw[z3] at hw;have HG:=kq4 hw (Fo.v_ B3 hY) y3 hY;clear hw h y3 B1 B2 B3 hY hs z2 z3;go_enter func318,ntmps318;go_wp2_with fail;refine HG.a.M ?_;rintro e w6 ⟨x,ik,iv,S',rfl,h6,k6,r6⟩;have y6:=(k6.block (w.1.size+2) (ae ⟨o_,o_⟩)).T HG.c;obtain⟨e0,e1⟩:=Fp y6;obtain⟨f0,f1⟩:=ef y6;have H6:=kq4 h6 (HG.b.T (k6.M fun k hk=>ab hk)) y6 r6;clear h6 k6 y6 r6;go_wp2_with fail;have q7:((w6.setCell (y_ (w.1.size+2)) (Xu ik)).setCell (x_ (w.1.size+2) 1) (Xu iv)).1[w.1.size+2]?=_:=ew H6.c (Xu ik) (Xu iv);have o7:∀k,k≠w.1.size+2->((w6.setCell (y_ (w.1.size+2)) (Xu ik)).setCell (x_ (w.1.size+2) 1) (Xu iv)).1[k]?=w6.1[k]?:=fun k hk=>fA hk _ _;have s7:Ig ((w6.setCell (y_ (w.1.size+2)) (Xu ik)).setCell (x_ (w.1.size+2) 1) (Xu iv)) ps S' Y:=(H6.a.write (b:=w.1.size+2) (ae ⟨o_,o_⟩) H6.c ⟨d_,d_⟩ s_ s_ fun k _ hk=>o7 k hk).M fun k hk=>ab hk;have k7:Fo Y w ((w6.setCell (y_ (w.1.size+2)) (Xu ik)).setCell (x_ (w.1.size+2) 1) (Xu iv)):=H6.b.T ⟨rfl,rfl,rfl,s_,fun k hk=>o7 k (by have:=HG.d k hk;omega)⟩;clear e0 e1 f0 f1 o7;generalize ((w6.setCell (y_ (w.1.size+2)) (Xu ik)).setCell (x_ (w.1.size+2) 1) (Xu iv))=W7 at*;obtain⟨e0,e1⟩:=Fp q7;exact bodyPost_ret (v:=.tuple #[Xu x,.agg #[Xu ik,Xu iv],.bool was,Xi 0]) (by simp[results,f318,go_sem,e0,e1]) rfl ⟨x,ik,iv,S',rfl,s7,k7,H6.d⟩
end
section
open Lf Tr
namespace Bt
variable{d:Nat}{e:It}{key:List UInt8}
def rep(e d:It):It:=if d.k=e.k then e else d
theorem wI(e d:It):(rep e d).k=d.k:=by
 unfold rep;grind
theorem mg{e d:It}(h:d.k≠e.k):rep e d=d:=if_neg h
def mapB(f:It->It): {d:Nat} ->Bt d->Bt d
 | 0,x=>nomatch x
 | d+1,x=>(⟨Bn.h x,(Bn.es x).map f,(Bn.ks x).map fun k=>mapB f k⟩:Bn (Bt d))
theorem CI(f:It->It)(x:Bt (d+1)):mapB f x=(⟨Bn.h x,(Bn.es x).map f,(Bn.ks x).map (mapB f)⟩:Bn (Bt d)):=rfl
theorem KV(f:It->It):∀(es:List It) (ks:List (List It)),ei (es.map f) (ks.map (List.map f))=(ei es ks).map f
 | [],[]=>rfl
 | [],_::_=>rfl
 | e::es,[]=>by
  have:=KV f es [];simp only[bi,List.map_nil] at this⊢;rw[ei,ei,bi,this]
 | e::es,k::ks=>by
  have:=KV f es ks;simp only[bi];rw[ei,ei,aN,bi,this]
theorem xW:∀(es:List It) (ks:List (List It)),(ks=[]\/ks.length=es.length+1)->(ei es ks).Perm (es++ks.flatten)
 | [],[],_=>List.Perm.refl _
 | [],[k],_=>by simp[ei]
 | [],_::_::_,h=>by simp at h
 | e::es,[],_=>by rw[jY];simp
 | e::es,k::ks,h=>by
  have ih:=xW es ks (ae (by simpa using h));rw[ei,dy];refine List.perm_middle.T (List.Perm.cons e ((ih.append_left k).T ?_));show (k++(es++ks.flatten)).Perm (es++(k++ks.flatten))
  rw[<-aV,<-aV];exact List.Perm.append_right _ List.perm_append_comm
theorem ln(f:It->It):∀{d:Nat} (x:Bt d),its (mapB f x)=(its x).map f
 | 0,x=>nomatch x
 | d+1,x=>by
  show ei ((Bn.es x).map f) (((Bn.ks x).map (mapB f)).map its)=(ei (Bn.es x) ((Bn.ks x).map its)).map f
  rw[<-KV,cQ,cQ];congr 1
  exact bg fun k _=>ln f k
theorem lW(f:It->It):∀{d:Nat} (x:Bt d),h_ (mapB f x)=h_ x
 | 0,x=>nomatch x
 | d+1,x=>by
  show Bn.h x::(((Bn.ks x).map (mapB f)).map h_).flatten=Bn.h x::((Bn.ks x).map h_).flatten
  rw[cQ];congr 2
  exact bg fun k _=>lW f k
theorem mapB_hd(f:It->It):∀{d:Nat} (x:Bt d),hd (mapB f x)=hd x
 | 0,x=>nomatch x
 | _+1,_=>rfl
theorem vE(f:It->It):∀{d:Nat} (x:Bt d),nk (mapB f x)=nk x
 | 0,x=>nomatch x
 | _+1,x=>by
  show ((Bn.es x).map f).length=(Bn.es x).length
  rw[am]
theorem vF(f:It->It){t:Nat}:∀{d:Nat} {x:Bt d},Ok t x->Ok t (mapB f x)
 | 0,x,_=>nomatch x
 | d+1,x,h=>by
  obtain⟨h1,h2,h3⟩:=h;refine⟨?_,?_,?_⟩
  ·show ((Bn.es x).map f).length<=_
   rw[am];exact h1
  ·show ((Bn.ks x).map (mapB f)).length=if d=0 then 0 else((Bn.es x).map f).length+1
   rw[am,am];exact h2
  ·intro k hk;have hk:k∈(Bn.ks x).map (mapB f):=hk;obtain⟨c,hc,rfl⟩:=az.1 hk;exact⟨vF f (h3 c hc).1,by rw[vE];exact(h3 c hc).2⟩
theorem rC {f:It->It}{t:Nat}:∀{d:Nat} {x:Bt d},Ok t x->(∀a∈its x,f a=a)->mapB f x=x
 | 0,x,_,_=>nomatch x
 | d+1,x,h,hf=>by
  have e1:(Bn.es x).map f=Bn.es x:=(bg fun a ha=>(hf a (lN h.okN ha):f a=id a)).T (dJ _);have e2:(Bn.ks x).map (mapB f)=Bn.ks x:=(bg fun k hk=>(rC (h.2.2 k hk).1 fun a ha=>hf a (kid_its h.okN hk ha):mapB f k=id k)).T (dJ _);rw[CI,e1,e2];rfl
theorem og{α:Type}{R:α->α->Prop}{L:List (List α)}(h:L.flatten.Pairwise R){i j:Nat}(hi:i<L.length)(hj:j<L.length)(hij:i<j):∀x∈L[i],∀y∈L[j],R x y:=by
 grind [List.pairwise_iff_getElem]
def nodeB(key:List UInt8): {d:Nat} ->Bt d->Option (Nat×BN×Nat)
 | 0,x=>nomatch x
 | _+1,x=>if fo key (Bn.es x)=true then some (Bn.h x,bn x,belowB key (Bn.es x)) else match (Bn.ks x)[belowB key (Bn.es x)]? with | some k=>nodeB key k | none=>none
theorem nodeB_here{x:Bt (d+1)}(h:fo key (Bn.es x)=true):nodeB key x=some (hd x,bn x,belowB key (Bn.es x)):=if_pos h
theorem nodeB_down{x:Bt (d+1)}(h:fo key (Bn.es x)=false){k:Bt d}(hk:(Bn.ks x)[belowB key (Bn.es x)]?=some k):nodeB key x=nodeB key k:=by
 show (if fo key (Bn.es x)=true then some (Bn.h x,bn x,belowB key (Bn.es x)) else match (Bn.ks x)[belowB key (Bn.es x)]? with | some k=>nodeB key k | none=>none)=_
 grind
theorem nodeB_none{x:Bt (d+1)}(h:fo key (Bn.es x)=false)(hk:(Bn.ks x)[belowB key (Bn.es x)]?=none):nodeB key x=none:=by
 show (if fo key (Bn.es x)=true then some (Bn.h x,bn x,belowB key (Bn.es x)) else match (Bn.ks x)[belowB key (Bn.es x)]? with | some k=>nodeB key k | none=>none)=_
 grind
def setN(n:BN)(k:Nat)(e:It):BN:= { n with j_:=n.j_.set k e.kh,C9:=n.C9.set k e.vh }
theorem Ca{a b:It}(h:eU a b):a.k≠b.k:=ne_of_lt h
theorem vd{t d:Nat}{x:Bt (d+1)}(ok:Ok t x)(hs:(its x).Pairwise eU):(Bn.es x++((Bn.ks x).map its).flatten).Pairwise fun a b=>a.k≠b.k:=by
 have h1:(its x).Pairwise fun a b=>a.k≠b.k:=hs.imp Ca;refine(List.Perm.pairwise_iff (fun h=>Ne.S h) (xW _ _ ?_)).1 (by rw[<-ga];exact h1)
 rcases ok.okN.rows with⟨h0,_⟩ | ⟨h0,_⟩
 ·exact ab h0
 omega
theorem D8{es:List It}(hs:es.Pairwise fun a b=>a.k≠b.k){k:Nat}(hk:k<es.length)(he:es[k].k=e.k):es.map (rep e)=es.set k e:=by
 refine dC s_ fun i h1 h2=>?_;rw[bG,List.getElem_set]
 by_cases q:k=i
 ·subst q;rw[if_pos rfl];exact if_pos he
 ·rw[if_neg q]
  grind [List.pairwise_iff_getElem,hs,mg,Nat.lt_or_ge]
theorem CY{t d:Nat}{l:List (Bt d)}(ok:∀k∈l,Ok t k)(h:∀a∈(l.map its).flatten,a.k≠e.k):l.map (mapB (rep e))=l:=
 (bg fun k hk=>(rC (ok k hk) fun a ha=>mg (h a (cM.2 ⟨its k,az.2 ⟨k,hk,rfl⟩,ha⟩)):mapB (rep e) k=id k)).T (dJ _)
structure RepAt (S:St) (o:Nat->Nat) (t:Nat) {d:Nat} (x:Bt d) (e e0:It) (g:Nat) (n:BN) (k:Nat):Prop where
 find:G7 e.k (its x)=some e0
 key:n.j_[k]?=some e0.kh
 val:n.C9[k]?=some e0.vh
 mem:g∈h_ x
 bnok:iU t (setN n k e)
 words:∀v∈v8 t (setN n k e),v<2^64
 len:i_ S g=some (v8 t n)
 fit:Fw (FC S g 0 (v8 t (setN n k e))) o
 at':At (FC S g 0 (v8 t (setN n k e))) t (mapB (rep e) x)
 fr:∀z,z≠g->i_ (FC S g 0 (v8 t (setN n k e))) z=i_ S z
 grew:ej S (FC S g 0 (v8 t (setN n k e))) 0 0
theorem D7{S:St}{o:Nat->Nat}{t d:Nat}{x:Bt (d+1)}(he:e.kh<2^64/\e.vh<2^64)(hx:Walk S o t x)(hn:(h_ x).Nodup)(hb:ItLt (its x))(h:fo e.k (Bn.es x)=true):
 ∃e0,RepAt S o t x e e0 (hd x) (bn x) (belowB e.k (Bn.es x)):=by
 obtain⟨hk,ai⟩:=mO h;obtain⟨k1,k2,k3⟩:=bE.1 (vd hx.ok hx.F1);have a1:=D8 k1 hk ai;have a0:(Bn.ks x).map (mapB (rep e))=Bn.ks x:=CY (fun k hk=>(hx.ok.2.2 k hk).1) fun a ha q=>k3 _ (ao hk) a ha (ai.T q.S);have a4:(its (mapB (rep e) x)).length=(its x).length:=by rw[ln,am]
 have ar:bn (mapB (rep e) x)=setN (bn x) (belowB e.k (Bn.es x)) e:=by
  have e1:Bn.es (mapB (rep e) x)=(Bn.es x).set (belowB e.k (Bn.es x)) e:=a1;have e2:Bn.ks (mapB (rep e) x)=Bn.ks x:=a0;unfold bn setN
  simp_all
 have a5:∀a∈Bn.es (mapB (rep e) x),a.kh<2^64/\a.vh<2^64:=fun a ha=>by
  have e1:Bn.es (mapB (rep e) x)=(Bn.es x).set (belowB e.k (Bn.es x)) e:=a1;rw[e1] at ha
  rcases df ha with q | rfl
  ·exact hb a (lN hx.ok.okN q)
  omega
 have au:∀k∈Bn.ks (mapB (rep e) x),At S t k:=fun k hk=>by
  have e2:Bn.ks (mapB (rep e) x)=Bn.ks x:=a0;rw[e2] at hk;exact hx.at'.2 k hk
 have ap:=bnLt_of (x:=mapB (rep e) x) hx.fit a5 au (by rw[a4];have:=hx.few;omega);have a6:∀k∈Bn.ks (mapB (rep e) x),hd (mapB (rep e) x)∉h_ k:=hd_kids (by rw[lW];omega);have a8:(Bn.es (mapB (rep e) x)).length<=31:=by
  show ((Bn.es x).map (rep e)).length<=31
  rw[am];exact hx.es.2.2
 have a7:(v8 t (bn x)).length=6*t:=jJ ..;have hp:=put_node (x:=mapB (rep e) x) hx.fit au a6 (ws:=v8 t (bn x)) hx.at'.1 a7 ap o_;have ad:=hx.at'.bnok hx.fit hx.t1 hx.t2 hx.ok;have a2:=kX (t:=t) ap (by unfold bn;grind);rw[ar,mapB_hd] at hp;rw[ar] at a2;obtain⟨p1,p2,p3,p4⟩:=hp;have a3:G7 e.k (its x)=some (Bn.es x)[belowB e.k (Bn.es x)]:=by
  have an:=hx.F1;rw[ga] at an⊢
  rcases hx.ok.okN.rows with⟨h0,_⟩ | ⟨h0,_⟩
  ·rw[h0,jY] at an⊢;exact Lz an hk ai
  ·exact((l7 h0 an).here hk ai).1
 exact⟨(Bn.es x)[belowB e.k (Bn.es x)],a3,by unfold bn;grind,by unfold bn;grind,hd_mem x,⟨ad.lo,ad.hi,by unfold setN;rw[bA];exact ad.many,by unfold setN;rw[bA,bA];exact ad.C9,by unfold setN;rw[bA];exact ad.A6⟩,a2,hx.at'.1,p1,p2,p3,p4⟩
theorem rep_at {S:St}{o:Nat->Nat}{t:Nat}{e:It}(he:e.kh<2^64/\e.vh<2^64){g:Nat}{n:BN}{k:Nat}:
 ∀{d:Nat} {x:Bt d},Walk S o t x->(h_ x).Nodup->ItLt (its x)->nodeB e.k x=some (g,n,k)->∃e0,RepAt S o t x e e0 g n k
 | 0,x,_,_,_,_=>nomatch x
 | d+1,x,hx,hn,hb,hnb=>by
  cases hh:fo e.k (Bn.es x) with
  | true=>
   rw[nodeB_here hh] at hnb;cases hnb
   exact D7 he hx hn hb hh
  | false=>
   cases hj:(Bn.ks x)[belowB e.k (Bn.es x)]? with
   | none=>
    rw[nodeB_none hh hj] at hnb;cases hnb
   | some c=>
    rw[nodeB_down hh hj] at hnb;obtain⟨a9,an⟩:=aC.1 hj;have ad:c∈Bn.ks x:=by grind
    have ap:((Bn.ks x).map h_).flatten.Nodup:=(aI.1 hn).2;have a8:(h_ c).Nodup:=(List.pairwise_flatten.1 ap).1 _ (az.2 ⟨c,ad,rfl⟩);obtain⟨e0,r⟩:=rep_at he (hx.kid ad) a8 (fun a ha=>hb a (kid_its hx.ok.okN ad ha)) hnb;have a6:g∈h_ x:=mem_nodes_kid ad r.mem;have a5:hd x≠g:=fun q=>hd_kids hn c ad (q▸r.mem);obtain⟨k1,k2,k3⟩:=bE.1 (vd hx.ok hx.F1);obtain⟨f1,f2⟩:e0∈its c/\e0.k=e.k:=by
     have:=r.find;grind [G7,List.mem_of_find?_eq_some]
    have a4:(Bn.es x).map (rep e)=Bn.es x:=(bg fun a ha=>(mg fun q=>k3 a ha e0 (cM.2 ⟨its c,az.2 ⟨c,ad,rfl⟩,f1⟩) (q.T f2.S):rep e a=id a)).T (dJ _);have ba:(its (mapB (rep e) x)).length=(its x).length:=by rw[ln,am]
    have a3:bn (mapB (rep e) x)=bn x:=by
     have e1:Bn.es (mapB (rep e) x)=Bn.es x:=a4;have e2:(Bn.ks (mapB (rep e) x)).map hd=(Bn.ks x).map hd:=by
      show ((Bn.ks x).map (mapB (rep e))).map hd=_
      rw[cQ];exact bg fun k _=>mapB_hd (rep e) k
     unfold bn;grind
    refine⟨e0,?_,r.key,r.val,a6,r.bnok,r.words,r.len,r.fit,⟨?_,fun k hk=>?_⟩,r.fr,r.grew⟩
    ·have a2:=hx.F1;rw[ga] at a2⊢;rcases hx.ok.okN.rows with⟨h0,_⟩ | ⟨h0,_⟩
     ·grind
     ·rw[(l7 h0 a2).down (mN hh)];have a':belowB e.k (Bn.es x)<((Bn.ks x).map its).length:=by grind
      have:((Bn.ks x).map its).getD (belowB e.k (Bn.es x)) []=its c:=by grind
      rw[this];exact r.find
    ·show i_ _ (Bn.h x)=some (v8 t (bn (mapB (rep e) x)))
     rw[a3];exact(r.fr _ a5).T hx.at'.1
    ·have hk:k∈(Bn.ks x).map (mapB (rep e)):=hk;obtain⟨c',ai,rfl⟩:=az.1 hk;obtain⟨i,hi,a7⟩:=bK.1 ai;by_cases q:i=belowB e.k (Bn.es x)
     ·subst q;have:c'=c:=a7.S.T an;rw[this];exact r.at'
     ·have ar:i<((Bn.ks x).map its).length:=by grind
      have a0:belowB e.k (Bn.es x)<((Bn.ks x).map its).length:=by grind
      have au:i<((Bn.ks x).map h_).length:=by grind
      have a1:belowB e.k (Bn.es x)<((Bn.ks x).map h_).length:=by grind
      have hz:∀a∈its c',a.k≠e.k:=fun a ha q1=>by
       rcases cE i (belowB e.k (Bn.es x)) with h3 | h3
       ·exact og k2 ar a0 h3 a (by grind) e0 (by grind) (q1.T f2.S)
       ·exact og k2 a0 ar o_ e0 (by grind) a (by grind) (f2.T q1.S)
      rw[rC (hx.ok.2.2 c' ai).1 fun a ha=>mg (hz a ha)];refine(hx.at'.2 c' ai).frame fun z hz1=>r.fr z fun q1=>?_;rcases cE i (belowB e.k (Bn.es x)) with h3 | h3
      ·exact og ap au a1 h3 z (by grind) g (by rw[bG,an];exact r.mem) q1
      ·exact og ap a1 au o_ g (by rw[bG,an];exact r.mem) z (by grind) q1.S
theorem nodeB_some {S:St}{o:Nat->Nat}{t:Nat}{key:List UInt8}:∀{d:Nat} {x:Bt d},Walk S o t x->(G7 key (its x)).isSome=true->∃r,nodeB key x=some r
 | 0,x,_,_=>nomatch x
 | d+1,x,hx,hf=>by
  cases hh:fo key (Bn.es x) with
  | true=>exact⟨_,nodeB_here hh⟩
  | false=>
   have ad:=hx.F1;rw[ga] at ad hf;rcases hx.ok.okN.rows with⟨h0,_⟩ | ⟨h0,_⟩
   ·rw[h0,jY] at ad hf;rw[findB_none (vl ad (mN hh))] at hf;grind
   ·rw[(l7 h0 ad).down (mN hh)] at hf;have an:=kH (key:=key) (Bn.es x);have ai:belowB key (Bn.es x)<(Bn.ks x).length:=by rw[am] at h0;omega
    rw[jN ai] at hf;obtain⟨r,hr⟩:=nodeB_some (hx.kid (ao ai)) hf;grind [nodeB_down,List.getElem?_eq_getElem,trans]
end Bt
end
section
open Go.RowKit Tryz Go.BigFrame Go.Maps Go.WideMaps Lf Tr
variable{S:St}{Y:Nat->Prop}{l:List Nat}{ps:Nat}{w:World}
theorem Im{D b c k:Nat}(h:FE w D (.slice (some (y_ b)) l.length c) l)(x:Nat)(hk:k<l.length):
 FE (w.setCell (x_ b k) (Xu x)) D (.slice (some (y_ b)) l.length c) (l.set k x):=by
 rcases h.2 with⟨h0,_⟩ | ⟨g',an,ad,hv,hg,hb,h1,h2,h3,h4⟩
 ·cases h0
 ·injection hv with hv1 hv2 hv3
  injection hv1 with hv1
  injection hv1 with hv1
  subst hv1 hv3;refine⟨by simp[hV],ae ⟨b,c,ad.setIfInBounds k (Xu x),by rw[bA],hg,heap_setCell hb,by rw[bA];exact h1,h2,by simpa using h3,?_⟩⟩;have hl:(hV l).length=l.length:=by simp[hV]
  have ai:ad.toList=hV l++ad.toList.drop (l.length*1):=by rw[<-h4,aU]
  rw[bA];simp only[cZ];rw[ai,List.set_append_left _ _ o_,List.take_left' (by simp[hV])]
  simp[hV,List.map_set]
theorem qByac{P:Prop}(h:P:=by
 rw[h3] at this
 injection this with this
 injection this with _ this
 exact absurd this d_):P:=h
theorem wL{D b c k:Nat}(h:Ig w ps S Y)(ho:FE w D (.slice (some (y_ b)) l.length c) l)(hD:fy<D)(hy:Y b)(x:Nat):Ig (w.setCell (x_ b k) (Xu x)) ps S Y:=by
 obtain⟨h1,h2,cs,fr,h3⟩:=FE.block ho rfl;obtain⟨pa,pm,ph,pt,v,h⟩:=h;refine⟨pa,pm,ph,pt,v,h.of_keep (by rw[size_setCell];exact Nat.le_refl _) fun k hk hc=>FB ?_⟩;rintro rfl
 rcases hc with hc | rfl | rfl | rfl
 ·exact hc hy
 ·have:=h.hd;exact qByac
 ·have:=h.heap.hp;exact qByac
 ·exact absurd (aB hD h1) (Nat.lt_irrefl _)
theorem oJ{w w':World}{D:Nat}{v:Value}(h:FE w D v l)(hb:D_ w w'):FE w' D v l:=FE.at h fun g hg=>hb.block g (FE.ge h g hg).2
theorem mY{D b c k v:Nat}(h:FE w D (.slice (some (y_ b)) l.length c) l)(hk:l[k]?=some v):w.cell? (x_ b k)=some (Xu v)/\w.frozen? (x_ b k)=false:=by
 obtain⟨ad,ai⟩:=aC.1 hk;have h1:=World.ownsRow.cells h (g:=b) rfl k (Xu v) (by simp[hV,ai,ad]);rw[Addr.add_lit] at h1;obtain⟨_,_,cs,fr,h3⟩:=FE.block h rfl
 rcases h.2 with⟨h0,_⟩ | ⟨g',an,ap,hv,hg,hb,_⟩
 ·cases h0
 ·injection hv with hv1 _ _
  injection hv1 with hv1
  injection hv1 with hv1
  subst hv1;exact⟨by simpa using h1,AT hb⟩
theorem zR{o:Nat->Nat}(h:Ig w ps S Y){t d:Nat}{x:Bt (d+1)}(hx:Bt.Walk S o t x)(hd:d<40){e e0:It}{g:Nat}{n0:BN}{k0:Nat}(hnd:Bt.nodeB e.k x=some (g,n0,k0))(hrep:Bt.RepAt S o t x e e0 g n0 k0):
 Ct 179 #[FH ps t,Xu (Bt.hd x:Nat),SV e.k,Id e.kh e.vh] w fun en w'=>en=.returned (Id e0.kh e0.vh)/\Ig w' ps (FC S g 0 (v8 t (Bt.setN n0 k0 e))) Y/\Fo Y w w':=by
 have B0:=((c_ w (Xc ps t)).alloc s_ (Xe e.kh e.vh)).alloc m_ (.cells #[Xu 0,Xu 0] 104);have z1:(w.alloc (Xc ps t)).1.size=w.1.size+1:=s_
 have z2:((w.alloc (Xc ps t)).alloc (Xe e.kh e.vh)).1.size=w.1.size+2:=s_
 have q1:=heap_alloc_new w (Xc ps t);have q2:=heap_alloc_new (w.alloc (Xc ps t)) (Xe e.kh e.vh);have q3:=heap_alloc_new ((w.alloc (Xc ps t)).alloc (Xe e.kh e.vh)) (.cells #[Xu 0,Xu 0] 104);rw[z1] at q2;rw[z2] at q3;have c2:=(aa (w.1.size+2) ((w.alloc (Xc ps t)).alloc (Xe e.kh e.vh))).alloc (by rw[z2];exact Nat.le_refl _) (.cells #[Xu 0,Xu 0] 104);have c1:=(aa (w.1.size+1) (w.alloc (Xc ps t))).alloc (by rw[z1];exact Nat.le_refl _) (Xe e.kh e.vh);have q1:=(c2.block w.1.size o_).T ((c1.block w.1.size o_).T q1);have q2:=(c2.block (w.1.size+1) o_).T q2;have hz:w.1.size+3<=(((w.alloc (Xc ps t)).alloc (Xe e.kh e.vh)).alloc (.cells #[Xu 0,Xu 0] 104)).1.size:=s_
 have ep:=J8 h;generalize hW:((w.alloc (Xc ps t)).alloc (Xe e.kh e.vh)).alloc (.cells #[Xu 0,Xu 0] 104)=W0 at*;clear c1 c2 z1 z2;have hi:=hx.fit.inv;have a0:=fun W (hw:D_ W0 W) {n:BN} {hh:Nat} (hb:jg S t hh n)=>kI (h.a_ (b_ B0 hw)) hi hb;have el:=fun W (hw:D_ W0 W) {es:List It} {vk vv vc:Value} {sz:Nat} hk hl hs he=>nR (h.a_ (b_ B0 hw)) hi t (es:=es) (vk:=vk) (vv:=vv) (vc:=vc) (sz:=sz) hk hl hs he e.k;have em:=fun W (hw:D_ W0 W)=>h.wide (b_ B0 hw);have d9:=fL hx.fit hrep.len;have cb:=jw hx.fit.tab hrep.len;rw[jJ] at cb;have a1:=fun(W:World) (Z:Nat->Prop) (hW:Ig W ps S Z) {vk vv vc:Value} (k1:FD W vk (Bt.setN n0 k0 e).j_) (k2:FD W vv (Bt.setN n0 k0 e).C9) (k3:FD W vc (Bt.setN n0 k0 e).A6)=>Jg hW hi hrep.bnok k1 k2 k3 g d9.2.1 cb hrep.words;have HG:=kq5 (kq7 B0 q1 q2 q3 hz ep h.yl) @a0 @el em @a1;have HX:=kq3 hx hnd hrep;obtain⟨h0,b4⟩:=Ii (Bt.hd x);have HR:=If b4;rw[b4];obtain⟨ek,b2⟩:=Ii e.k;have a5:=If b2;rw[b2];unfold FH Id;clear a0 el h hx hi B0 q1 q2 q3 hz b4 b2 hnd hrep a1 em d9 cb ep;go_enter func179,ntmps179;go_wp2_with fail;clear hW
 go_loopw [1,9,10,11,12,13,14] (fun s1 _ _ _ _ _ s14 wr=>∃(d' i hh:Nat),s1=Xu hh/\s14=Xi i/\i+d'<40/\Hid (D_ W0 wr/\∃y:Bt (d'+1),Bt.Walk S o t y/\Bt.hd y=hh/\Bt.nodeB e.k y=some (g,n0,k0))) (fun _ _ _ _ _ _ s14 _=>40-(intOf s14).toNat)
 case atStart=>exact⟨d,0,h0,rfl,rfl,o_,aa _ _,x,HX.a,HR.O,HX.b⟩
 case round=>
  obtain⟨d',i,hh,rfl,rfl,g7,I⟩:=hrel;obtain⟨hB,y,hy,b',eg⟩:=I.O;have hlt:(i:Int)<40:=o_
  have t3:=(hB.block w.1.size (by have:=HG.a.e;omega)).T HG.a.b;obtain⟨x0,x1⟩:=Fp t3;have a0:=HG.b wr hB hy.read;unfold FH eC at a0;rw[b'] at a0;have HY:=kq4 hB hy b' eg;clear hB hy b' eg t3;obtain⟨n,hn⟩:=Ii (Bt.bn y);rw[hn] at a0;have dd:=If a0;clear a0;go_wp2_with fail;refine dd.O.M ?_;rintro en w1 ⟨vk,vv,vc,rfl,rows,hb⟩;obtain⟨Ak,ck,rfl⟩:=rows.k.E_;obtain⟨Av,cv,rfl⟩:=rows.v.E_;obtain⟨Ac,cc,rfl⟩:=rows.c.E_;have ai:n.j_.length=(Bn.es y).length:=by rw[<-hn];unfold Bt.bn;rw[am]
  have an:n.C9.length=(Bn.es y).length:=by rw[<-hn];unfold Bt.bn;rw[am]
  have bf:n.A6.length=(Bn.ks y).length:=by rw[<-hn];unfold Bt.bn;rw[am]
  have hy:=HY.b;obtain⟨ds,d0,g6⟩:=hy.es;generalize ch:(Bn.es y).length=lk at*;generalize ec:(Bn.ks y).length=lc at*;rw[ai] at rows;rw[an] at rows;rw[bf] at rows;rw[ai,an,bf];generalize eo:n.size=sz at*;have A1:=c_ w1 (.cells #[.slice Ak lk ck,.slice Av lk cv,.slice Ac lc cc,Xu sz] 215);have p1:=heap_alloc_new w1 (.cells #[.slice Ak lk ck,.slice Av lk cv,.slice Ac lc cc,Xu sz] 215);have B1:=HY.a.T ((b_ hb A1).M HY.a.size);have bo:=rows.a_ A1;have cj:w1.1.size<(w1.alloc (.cells #[.slice Ak lk ck,.slice Av lk cv,.slice Ac lc cc,Xu sz] 215)).1.size:=s_
  have d7:=hb.size;have ed:(∀g,(Value.slice Ak lk ck).ownBlock=some g->g<w1.1.size)/\(∀g,(Value.slice Av lk cv).ownBlock=some g->g<w1.1.size)/\∀g,(Value.slice Ac lc cc).ownBlock=some g->g<w1.1.size:=⟨fun g q=>(rows.k.ge g q).2,fun g q=>(rows.v.ge g q).2,fun g q=>(rows.c.ge g q).2⟩;obtain⟨W1,d6⟩:=Ii (w1.alloc (.cells #[.slice Ak lk ck,.slice Av lk cv,.slice Ac lc cc,Xu sz] 215));rw[d6] at A1 p1 B1 bo cj;have t3:=(B1.block w.1.size (by have:=HG.a.e;omega)).T HG.a.b;obtain⟨x0,x1⟩:=Fp t3;obtain⟨y0,y1,y2,y3⟩:=Fy p1;have ea:n.j_=(Bn.es y).map (·.kh):=by rw[<-hn];rfl
  have cp:=bo.k.C_;rw[ea] at cp;have bj:=HG.c W1 B1 (vv:=.slice Av lk cv) (vc:=.slice Ac lc cc) (sz:=sz) cp o_ ds d0;unfold FH eC at bj;rw[a5.O] at bj;have bq:=If bj;have e1:=HY.a.size;have H1:=kq8 B1 p1 bo t3 cj d7 e1 ed;clear bj rows bo hb A1 p1 B1 t3 cp ea dd cj d7 e1 ds d0 ed;obtain⟨k,hk⟩:=Ii (belowB ek (Bn.es y));obtain⟨he,b9⟩:=Ii (fo ek (Bn.es y));rw[hk,b9] at bq;have g9:k<=lk:=by rw[<-hk,<-ch];exact kH _
  have HK:=kq9 hk b9 ch ec hn eo ai an bf;clear hk b9 ch ec hn eo ai an bf hy;go_wp2_with fail;refine bq.O.M ?_;rintro en w2 ⟨rfl,bd⟩;have p2:=(bd.block w1.1.size H1.e).T H1.b;have t2:=(bd.block w.1.size (by have:=H1.a.size;have:=HG.a.e;omega)).T H1.d;clear x0 x1 y0 y1 y2 y3;obtain⟨x0,x1⟩:=Fp t2;obtain⟨y0,y1,y2,y3⟩:=Fy p2;have a4:=If bd;clear bd p2 t2 bq d6
  cases he with
  | true=>
   have a6:=Bt.nodeB_here (key:=e.k) (x:=y) (by rw[a5.O];exact HK.b);rw[HY.d,HY.c,a5.O,HK.a,HK.e] at a6
   injection a6 with a6
   injection a6 with hg1 a6
   injection a6 with hn1 hk1
   subst hg1 hn1 hk1;have hrep:=HX.c;have ca:=hrep.key;have er:=hrep.val;obtain⟨g1,_⟩:=aC.1 ca;rw[HK.g] at g1;have g':(k0:Int)<lk:=o_
   have R2:=H1.c.a_ a4.O;have ai:=HK.g;have an:=HK.h;obtain⟨gk,g4,cq,_⟩:=FE.some R2.k (by rw[ai];omega);obtain⟨gv,g5,cw,_⟩:=FE.some R2.v (by rw[an];omega)
   injection cq with cq hv1b hv1c
   injection cw with cw hv2b hv2c
   clear hv1b hv1c hv2b hv2c;subst cq cw;have Rk:=R2.k;have Rv:=R2.v;rw[<-ai] at Rk;rw[<-an] at Rv;obtain⟨dk,fk⟩:=mY Rk ca;obtain⟨dv,fv⟩:=mY Rv er;have eb:gk≠gv:=fun q=>R2.kv gk rfl (by rw[q];rfl);have gs:=R2.k.ge gk rfl;have g3:=R2.v.ge gv rfl;have p2:=(a4.O.block w1.1.size H1.e).T H1.b;have t2:=(a4.O.block w.1.size (by have:=H1.a.size;have:=HG.a.e;omega)).T H1.d;have B2:=b_ H1.a a4.O;have a2:=(B2.block (w.1.size+1) (by have:=HG.a.e;omega)).T HG.a.c;have r2:=(B2.block (w.1.size+2) (by have:=HG.a.e;omega)).T HG.a.d;have ht:=B2.size;have hr:=H1.g;have hm:=H1.h.1 gk rfl;have ho:=H1.h.2.1 gv rfl;have hj:=H1.h.2.2;have hu:=H1.f;have hq:=HG.a.e;have fm:=kq11 R2 ai an p2 t2 a2 r2 B2 Rk Rv hrep;have d2:w1.1.size<w2.1.size:=(gl p2);obtain⟨I,ar,au⟩:=ub w2 w2.1.size;have e4:=fun x:Fq I=>(ar _ x.ok w1.1.size d2 o_).T p2;obtain⟨m0,m1,m2,m3⟩:=iB e4;have o1:∀x:Fq I,x.to.cell? (x_ gk k0)=some (Xu (e0.kh:Nat)):=fun x=>(j9 (ar _ x.ok gk gs.2 o_)).T dk;have o2:∀x:Fq I,x.to.cell? (x_ gv k0)=some (Xu (e0.vh:Nat)):=fun x=>(j9 (ar _ x.ok gv g3.2 o_)).T dv;have gn:I w2.drew:=au _ fun k hk _=>rfl;have HI:=If au;clear ar au e4 R2 Rk Rv ai an p2 t2 a2 r2 B2 ca er hrep dk fk dv fv x0 x1 y0 y1 y2 y3;go_wp2_with fail;refine fh I (.take 0 (.take 1 (.take 2 (.take 3 (.take 4 (.take 5 (.take 6 (.take 7 (.take 8 (.take 9 (.take 10 (.go 11 (.go 12 .nil))))))))))))) k_ k_ gn ?_
   iterate 11
    refine pT_ ?_
    try simp only[pu]
   refine pD fun K hK=>?_;go_simp
   try go_simp
   refine hK.O _ _ (HI.O _ fun k hk _=>(c_ w2 _).drew.block k hk) ?_;clear hK K
   try simp only[pu]
   refine pD fun K hK=>?_;go_simp;have B8:D_ w2 (w2.alloc (Xe (e0.kh:Nat) (e0.vh:Nat))).drew:=(c_ w2 _).drew;have q8:(w2.alloc (Xe (e0.kh:Nat) (e0.vh:Nat))).drew.1[w2.1.size]?=_:=heap_alloc_new w2 (Xe (e0.kh:Nat) (e0.vh:Nat));have fj:=If (gl q8);generalize (w2.alloc (Xe (e0.kh:Nat) (e0.vh:Nat))).drew=w8 at*
   try go_simp
   refine hK.O _ _ (HI.O _ fun k hk _=>B8.block k hk) ?_;clear hK K
   try simp only[pu]
   refine eP ?_;clear m0 m1 m2 m3 o1 o2;have ad:=fm.O;have dc:=b_ ad.2.2.2.2.2.2.2.1 B8;have R8:=ad.1.a_ B8;have bc:=oJ ad.2.2.2.2.2.2.2.2.1 B8;have b0:=oJ ad.2.2.2.2.2.2.2.2.2.1 B8;have p8:=(B8.block w1.1.size d2).T ad.2.2.2.1;have t8:=(B8.block w.1.size o_).T ad.2.2.2.2.1;have a8:=(B8.block (w.1.size+1) o_).T ad.2.2.2.2.2.1;have r8:=(B8.block (w.1.size+2) o_).T ad.2.2.2.2.2.2.1;have e':=HG.d w8 dc;have hv:=HG.a.f;obtain⟨dp,d1⟩:=mY bc ad.2.2.2.2.2.2.2.2.2.2.key;obtain⟨fn,gf⟩:=mY b0 ad.2.2.2.2.2.2.2.2.2.2.val;have g2:=B8.size;have yk:Y gk\/(w.1.size<=gk/\gk<w8.1.size):=ae ⟨o_,o_⟩;have yv:Y gv\/(w.1.size<=gv/\gv<w8.1.size):=ae ⟨o_,o_⟩;have c9:=wL (k:=k0) (e'.a_ (aa _ _).drew) (oJ bc (aa _ _).drew) o_ yk e.kh;have bv:=Im (oJ bc (aa _ _).drew) e.kh (k:=k0) (aC.1 ad.2.2.2.2.2.2.2.2.2.2.key).1;have o9:∀b,b≠gk->(w8.drew.setCell (x_ gk k0) (Xu (e.kh:Nat))).1[b]?=w8.1[b]?:=fun b hb=>FB hb;have a':FE (w8.drew.setCell (x_ gk k0) (Xu (e.kh:Nat))) wr.1.size (.slice (some (y_ gv)) n0.C9.length cv) n0.C9:=FE.at b0 fun g hg=>by
    have:g=gv:=by injection hg with hg;exact hg.S
    rw[this];exact o9 gv (Ne.S eb)
   have bt:FE (w8.drew.setCell (x_ gk k0) (Xu (e.kh:Nat))) wr.1.size (.slice Ac lc cc) n0.A6:=FE.at R8.c fun g hg=>o9 g fun q=>R8.kc gk rfl (by rw[<-q];exact hg);have p9:=(o9 w1.1.size o_).T p8;have t9:=(o9 w.1.size o_).T t8;have a9:=(o9 (w.1.size+1) o_).T a8;have r9:=(o9 (w.1.size+2) o_).T r8;have q9:=(o9 w2.1.size o_).T q8;have k9:Fo Y w8 (w8.drew.setCell (x_ gk k0) (Xu (e.kh:Nat))):=⟨rfl,rfl,rfl,s_,fun k hk=>o9 k (by have:=HG.a.g k hk;omega)⟩;have z9:(w8.drew.setCell (x_ gk k0) (Xu (e.kh:Nat))).1.size=w8.1.size:=s_
   obtain⟨fw,gg⟩:=mY a' ad.2.2.2.2.2.2.2.2.2.2.val;obtain⟨w9,ez⟩:=Ii (w8.drew.setCell (x_ gk k0) (Xu (e.kh:Nat)));rw[ez] at c9 bv a' bt p9 t9 a9 r9 q9 k9 z9 fw gg;clear o9;have c7:=wL (k:=k0) c9 a' o_ yv e.vh;have bx:=Im a' e.vh (k:=k0) (aC.1 ad.2.2.2.2.2.2.2.2.2.2.val).1;have ap:∀b,b≠gv->(w9.setCell (x_ gv k0) (Xu (e.vh:Nat))).1[b]?=w9.1[b]?:=fun b hb=>FB hb;have bu:FE (w9.setCell (x_ gv k0) (Xu (e.vh:Nat))) wr.1.size (.slice (some (y_ gk)) n0.j_.length ck) (n0.j_.set k0 e.kh):=FE.at bv fun g hg=>by
    have:g=gk:=by injection hg with hg;exact hg.S
    rw[this];exact ap gk eb
   have bs:FE (w9.setCell (x_ gv k0) (Xu (e.vh:Nat))) wr.1.size (.slice Ac lc cc) n0.A6:=FE.at bt fun g hg=>ap g fun q=>R8.vc gv rfl (by rw[<-q];exact hg);have a3:=(ap w1.1.size o_).T p9;have a7:=(ap w.1.size o_).T t9;have c6:=(ap (w.1.size+2) o_).T r9;have c5:=(ap w2.1.size o_).T q9;have b1:=(ap (w.1.size+1) o_).T a9;have cx:Fo Y w8 (w9.setCell (x_ gv k0) (Xu (e.vh:Nat))):=k9.T ⟨rfl,rfl,rfl,s_,fun k hk=>ap k (by have:=HG.a.g k hk;omega)⟩;have c':(w9.setCell (x_ gv k0) (Xu (e.vh:Nat))).1.size=w8.1.size:=by simp[z9]
   obtain⟨fb,ev⟩:=Ii (w9.setCell (x_ gv k0) (Xu (e.vh:Nat)));rw[ev] at c7 bx bu bs a3 a7 c6 c5 b1 cx c';clear ap;obtain⟨I,ar,au⟩:=lB (fun w'=>w'.1[w1.1.size]?=some (.cells #[.slice (some (y_ gk)) lk ck,.slice (some (y_ gv)) lk cv,.slice Ac lc cc,Xu sz] 215)) (fun w'=>w'.1[w.1.size+1]?=some (Xe (e.kh:Nat) (e.vh:Nat)));have e2:=fun x:Fq I=>(ar _ x.ok).1;have e3:=fun x:Fq I=>(ar _ x.ok).2;obtain⟨m0,m1,m2,m3⟩:=iB e2;obtain⟨z0,z1⟩:=mt e3;have d4:I w8.drew:=au _ p8 a8;have d5:I w9:=au _ p9 a9;have d3:I fb:=au _ a3 b1;have f':w8.drew.cell? (x_ gk k0)=some (Xu (e0.kh:Nat)):=dp;have gb:w8.drew.frozen? (x_ gk k0)=false:=d1;have HT:=kq8 c7 (kq3 bu bx bs) a3 a7 c6 c5 cx c';clear ar au e2 e3 e' c9 c7 bv a' bt bu bx bs p8 t8 a8 r8 q8 p9 t9 a9 r9 q9 k9 z9 a3 a7 c6 c5 b1 cx c' R8 bc b0 dp d1 fn gf yk yv;go_wp2_with fail;refine fh I (.take 0 (.take 1 (.take 2 (.take 3 (.take 4 (.take 5 (.take 6 (.take 7 (.take 8 (.take 9 (.take 10 (.go 11 (.take 12 (.go 13 .nil)))))))))))))) k_ k_ d4 ?_
   iterate 11
    refine pT_ ?_
    try simp only[pu]
   refine pD fun K hK=>?_;go_simp
   try go_simp
   refine hK.O _ _ d5 ?_;clear hK K
   try simp only[pu]
   refine pT_ ?_
   try simp only[pu]
   refine pD fun K hK=>?_;go_simp
   try go_simp
   refine hK.O _ _ d3 ?_;clear hK K
   try simp only[pu]
   refine eP ?_;clear m0 m1 m2 m3 z0 z1 f' gb ez ev d4 d5 d3;have c3:=FE.C_ HT.b.a;have c4:=FE.C_ HT.b.b;have e6:=FE.C_ HT.b.c;rw[ad.2.1] at c3;rw[ad.2.2.1] at c4;have a1:=HG.e fb _ HT.a (vk:=.slice (some (y_ gk)) lk ck) (vv:=.slice (some (y_ gv)) lk cv) (vc:=.slice Ac lc cc) c3 c4 e6;unfold eC at a1;rw[show (Bt.setN n0 k0 e).size=sz from HK.f] at a1;have dn:=If a1;have a3:=HT.c;have a7:=HT.d;obtain⟨x0,x1⟩:=Fp a7;obtain⟨y0,y1,y2,y3⟩:=Fy a3;clear a1 c3 c4 e6 a3 a7 ad;go_wp2_with fail;refine dn.O.M ?_;rintro en ba ⟨rfl,e8,bk⟩;have bm:=(bk.block (w.1.size+2) (ae ⟨o_,o_⟩)).T HT.e;have e7:=(bk.block w2.1.size (ae ⟨o_,by have:=g2;have:w2.1.size<w8.1.size:=fj.O;omega⟩)).T HT.f;have e5:=(Fo.v_ (b_ HG.a.a dc) HG.a.g).T (HT.g.T (bk.M fun k hk=>ab hk));clear x0 x1 y0 y1 y2 y3;obtain⟨x0,x1⟩:=Fp e7;obtain⟨y0,y1⟩:=Fp bm;obtain⟨f0,f1⟩:=ef bm;have bb:=kq3 e8 e5 bm;clear e8 bk bm e7 e5 dn;go_wp2_with fail;have qF:=ew bb.c (Xu (e0.kh:Nat)) (Xu (e0.vh:Nat));have oF:∀k,k≠w.1.size+2->((ba.setCell (y_ (w.1.size+2)) (Xu (e0.kh:Nat))).setCell (x_ (w.1.size+2) 1) (Xu (e0.vh:Nat))).1[k]?=ba.1[k]?:=fun k hk=>fA hk _ _;have sF:Ig ((ba.setCell (y_ (w.1.size+2)) (Xu (e0.kh:Nat))).setCell (x_ (w.1.size+2) 1) (Xu (e0.vh:Nat))) ps (FC S g 0 (v8 t (Bt.setN n0 k0 e))) Y:=(bb.a.write (b:=w.1.size+2) (ae ⟨o_,o_⟩) bb.c ⟨d_,d_⟩ s_ s_ fun k _ hk=>oF k hk).M fun k hk=>ab hk;have kF:Fo Y w ((ba.setCell (y_ (w.1.size+2)) (Xu (e0.kh:Nat))).setCell (x_ (w.1.size+2) 1) (Xu (e0.vh:Nat))):=bb.b.T ⟨rfl,rfl,rfl,s_,fun k hk=>oF k (by have:=HG.a.g k hk;omega)⟩;clear x0 x1 y0 y1 f0 f1 oF;generalize ((ba.setCell (y_ (w.1.size+2)) (Xu (e0.kh:Nat))).setCell (x_ (w.1.size+2) 1) (Xu (e0.vh:Nat)))=WF at*;obtain⟨x0,x1⟩:=Fp qF;exact bodyPost_ret (v:=.agg #[Xu (e0.kh:Nat),Xu (e0.vh:Nat)]) (by simp[results,f179,go_sem,x0,x1]) rfl ⟨rfl,sF,kF⟩
  | false=>
   have hnd:=HY.d;obtain⟨c,hc⟩:∃c,(Bn.ks y)[belowB e.k (Bn.es y)]?=some c:=by
    cases hc:(Bn.ks y)[belowB e.k (Bn.es y)]? with
    | some c=>exact⟨c,rfl⟩
    | none=>
     rw[Bt.nodeB_none (by rw[a5.O];exact HK.b) hc] at hnd
     cases hnd
   rw[Bt.nodeB_down (by rw[a5.O];exact HK.b) hc] at hnd;rw[a5.O,HK.a] at hc
   cases d' with
   | zero=>rw[Bt.G8 (Bn.ks y)] at hc;cases hc
   | succ d'=>
    obtain⟨gc,oc,rfl,gp⟩:=FD.at (f:=Bt.hd) (l:=Bn.ks y) (by have:=(H1.c.a_ a4.O).c.C_;rw[<-HK.e] at this;exact this) hc;obtain⟨g0,d8⟩:=aC.1 hc;rw[HK.d] at g0;have g8:(k:Int)<lc:=o_
    have hf:((lc:Nat):Int)≠0:=o_
    obtain⟨nc,cn⟩:=Ii (Bt.hd c);rw[cn] at gp;have HC:=kq4 hc hnd cn d8;clear hc hnd cn d8;go_wp2_with fail;go_roundw
    case rel=>exact⟨d',i+1,nc,rfl,s_,o_,b_ H1.a a4.O,c,HY.b.kid (dg HC.a),HC.c,HC.b⟩
    case measure=>simp[intOf];omega
end
section
open Go.RowKit Tryz Go.BigFrame Go.Maps Go.WideMaps Lf Tr
open Go.Shelf
theorem zJ {w:World}{ps:Nat}{S:St}{o:Nat->Nat}{Y:Nat->Prop}(h:Ig w ps S Y){t d:Nat}{x:Bt (d+1)}(hx:Bt.Tree S o t x){e e0:It}(hn:gu S e){g:Nat}{n0:BN}{k0:Nat}(hnb:Bt.nodeB e.k x=some (g,n0,k0))(hr:Bt.RepAt S o t x e e0 g n0 k0):
 Ct 137 #[PV ps,Xi t,Xu (Bt.hd x:Nat),Id e.kh e.vh] w fun en w'=>en=.returned (.tuple #[Xu (Bt.hd x:Nat),Id e0.kh e0.vh,.bool true,Xi 0])/\Ig w' ps (FC S g 0 (v8 t (Bt.setN n0 k0 e))) Y/\Fo Y w w':=by
 have B0:=(c_ w (Xe e.kh e.vh)).alloc s_ (.cells #[Xu 0,Xu 0] 104);have z1:(w.alloc (Xe e.kh e.vh)).1.size=w.1.size+1:=s_
 have q1:=heap_alloc_new w (Xe e.kh e.vh);have q2:=heap_alloc_new (w.alloc (Xe e.kh e.vh)) (.cells #[Xu 0,Xu 0] 104);have q1:=(((aa (w.alloc (Xe e.kh e.vh)).1.size (w.alloc (Xe e.kh e.vh))).alloc Ih (.cells #[Xu 0,Xu 0] 104)).block w.1.size s_).T q1;rw[z1] at q2;have hz:((w.alloc (Xe e.kh e.vh)).alloc (.cells #[Xu 0,Xu 0] 104)).1.size=w.1.size+2:=s_
 generalize hW:(w.alloc (Xe e.kh e.vh)).alloc (.cells #[Xu 0,Xu 0] 104)=W0 at*;have A1:=c_ W0 (Xc ps t);have q3:=heap_alloc_new W0 (Xc ps t);have bd:(W0.alloc (Xc ps t)).1.size=w.1.size+3:=by simp[hz]
 have hw:=hx.walk;have hi:=hx.fit.inv;have has:=kZ (h.a_ B0) hi hx.t1 hx.t2;obtain⟨W1,a9⟩:=Ii (W0.alloc (Xc ps t));rw[a9] at A1 q3 bd;have B1:=B0.T (A1.M o_);rw[hz] at q3;have a2:=jt hx.fit hn.lk hn.k;have a0:=iz (h.a_ B1) hi e.kh (Bt.blobs_lt hx.fit hn).1 (by rw[a2];simp);rw[a2] at a0;have q1:=(A1.block _ o_).T q1;have q2:=(A1.block _ o_).T q2;obtain⟨x0,x1⟩:=Fp q1;have H0:=kq7 h hx hn hr hw hi bd;have ap:=kq2 hnb h.yl;clear hnb;have H1:=kq4 B1 q1 q2 q3;have a5:=If has;have a6:=If a0;have bo:Bt.hd x≠0:=(Bt.At.hd_ok hx.fit hx.at').1;have bq:((Bt.hd x:Nat):Int)≠0:=o_
 clear z1 q1 q2 q3 B0 B1 A1 hw hi has a2 a0 h hx hn hr;unfold Id;go_enter func137,ntmps137;go_wp2_with fail;refine a5.O.M ?_;rintro en w1 ⟨rfl,rfl⟩;clear hW;go_wp2_with fail;refine a6.O.M ?_;rintro en w2 ⟨rfl,ad⟩;clear x0 x1;have p1:=(ad.block _ (by have:=H0.g;omega)).T H1.b;have p2:=(ad.block _ (by have:=H0.g;omega)).T H1.c;have p3:=(ad.block _ (by have:=H0.g;omega)).T H1.d;have b2:=b_ H1.a ad;obtain⟨x0,x1⟩:=Fp p3;have a1:=kI (H0.a.a_ b2) H0.f H0.e.read;have bs:w.1.size+3<=w2.1.size:=by have:=ad.size;have:=H0.g;omega
 unfold FH eC at a1;have a8:=If a1;have H2:=kq4 b2 p1 p2 p3;clear ad p1 p2 p3 b2 a1 a6 a5 H1 a9;go_wp2_with fail;refine a8.O.M ?_;rintro en w3 ⟨vk,vv,vc,rfl,rows,ar⟩;obtain⟨Ak,mk,ck,rfl⟩:=rows.k.slice;obtain⟨Av,mv,cv,rfl⟩:=rows.v.slice;obtain⟨Ac,mc,cc,rfl⟩:=rows.c.slice;obtain⟨sz,bc⟩:=Ii (Bt.bn x).size;rw[bc];clear bc;have A3:=c_ w3 (.cells #[.slice Ak mk ck,.slice Av mv cv,.slice Ac mc cc,Xu sz] 215);obtain⟨W3,a'⟩:=Ii (w3.alloc (.cells #[.slice Ak mk ck,.slice Av mv cv,.slice Ac mc cc,Xu sz] 215));rw[a'] at A3;have c3:=b_ ar A3;have p1:=(c3.block _ o_).T H2.b;have p2:=(c3.block _ o_).T H2.c;have p3:=(c3.block _ o_).T H2.d;have B3:=b_ H2.a c3;have bt:w.1.size+3<=W3.1.size:=by have:=c3.size;omega
 have bm:=H0.b.low;have bb:=H0.d.find;have ai:=fun W (hw:D_ W3 W)=>pY (H0.a.a_ (b_ B3 hw)) H0.e o_ e.k;rw[bb] at ai;have an:=nT (R:=some e0) (ai W3 (aa _ _)) fun W hW=>ai W (by rw[hW];exact(aa _ _).alloc Ih _);unfold i7 Id at an
 dsimp only[Option.isSome] at an
 have a7:=If an;have H3:=kq4 B3 p1 p2 p3;clear A3 c3 p1 p2 p3 B3 bb ai an x0 x1 ar H2 a8 rows;go_wp2_with fail;refine a7.O.M ?_;rintro en w4 ⟨rfl,au⟩;clear a';have A4:=c_ w4 (Xe e0.kh e0.vh);obtain⟨W4,ba⟩:=Ii (w4.alloc (Xe e0.kh e0.vh));rw[ba] at A4;have c4:=b_ au A4;have p1:=(c4.block _ o_).T H3.b;have p2:=(c4.block _ o_).T H3.c;have p3:=(c4.block _ o_).T H3.d;have B4:=b_ H3.a c4;have bu:w.1.size+3<=W4.1.size:=by have:=c4.size;omega
 have bf:=H0.a.wide B4;have a3:=zR bf H0.e o_ ap.a H0.d;unfold FH Id at a3;have bk:=If a3;obtain⟨x0,x1⟩:=Fp p3;obtain⟨y0,y1⟩:=Fp p1;have H4:=kq2 B4 p2;clear A4 c4 p1 p2 p3 B4 bf au H3 a7 a3;go_wp2_with fail;refine bk.O.M ?_;rintro en w5 ⟨rfl,bj,a4⟩;clear ba x0 x1 y0 y1;have q5:=(a4.block (w.1.size+1) (ae ⟨o_,o_⟩)).T H4.b;obtain⟨x0,x1⟩:=Fp q5;obtain⟨f0,f1⟩:=ef q5;have H5:=kq3 bj a4 q5;clear bj a4 q5;go_wp2_with fail;have qF:=ew H5.c (Xu e0.kh) (Xu e0.vh);have oF:∀k,k≠w.1.size+1->((w5.setCell (y_ (w.1.size+1)) (Xu e0.kh)).setCell (x_ (w.1.size+1) 1) (Xu e0.vh)).1[k]?=w5.1[k]?:=fun k hk=>fA hk _ _;have sF:Ig ((w5.setCell (y_ (w.1.size+1)) (Xu e0.kh)).setCell (x_ (w.1.size+1) 1) (Xu e0.vh)) ps (FC S g 0 (v8 t (Bt.setN n0 k0 e))) Y:=(H5.a.write (b:=w.1.size+1) (ae ⟨o_,o_⟩) H5.c ⟨d_,d_⟩ s_ s_ fun k _ hk=>oF k hk).M fun k hk=>ab hk;have kF:Fo Y w ((w5.setCell (y_ (w.1.size+1)) (Xu e0.kh)).setCell (x_ (w.1.size+1) 1) (Xu e0.vh)):=((Fo.v_ H4.a ap.b).T (H5.b.M fun k hk=>ab hk)).T ⟨rfl,rfl,rfl,s_,fun k hk=>oF k (by have:=ap.b k hk;omega)⟩;clear x0 x1 f0 f1 oF;generalize ((w5.setCell (y_ (w.1.size+1)) (Xu e0.kh)).setCell (x_ (w.1.size+1) 1) (Xu e0.vh))=WF at*;obtain⟨u0,u1⟩:=Fp qF;exact bodyPost_ret (v:=.tuple #[Xu (Bt.hd x:Nat),.agg #[Xu e0.kh,Xu e0.vh],.bool true,Xi 0]) (by simp[results,f137,go_sem,u0,u1]) rfl ⟨rfl,sF,kF⟩
end
section
open Go.RowKit Tryz Go.BigFrame Go.Maps Go.WideMaps Lf Tr
variable{w:World}
structure SP where
 D:Nat
 b:Nat
 off:Nat
 n:Nat
 c:Nat
 w:World
 l:List Nat
 z:off=0
 big:n<=100000
structure PS (p:SP) (w:World) (l:List Nat):Prop where
 a_:Below p.D p.w w
 perm:l.Perm p.l
 own:FE w p.D (.slice (some (y_ p.b)) l.length p.c) l
 len:l.length=p.n
def PX(p:SP)(w:World):Prop:=∃l,PS p w l
abbrev b8(p:SP):Value:=.slice (some (x_ p.b p.off)) p.n p.c
theorem PS.d{p:SP}{l:List Nat}(h:PS p w l):p.D<=p.b/\p.b<w.1.size:=FE.ge h.own p.b rfl
theorem PX.draws{p:SP}(h:PX p w)(q:Nat):PX p (w.drewN q):=by
 obtain⟨l,h⟩:=h;have h1:Below p.D p.w (w.drewN q):=⟨h.a_.os,h.a_.tape,h.a_.output,h.a_.size,h.a_.block⟩;exact⟨l,h1,h.perm,h.own.at fun _ _=>rfl,h.len⟩
theorem PX.grow{p:SP}{w w':World}(h:PX p w)(hb:D_ w w'):PX p w':=by
 obtain⟨l,h⟩:=h;exact⟨l,h.a_.T (hb.M (Nat.le_of_lt (cO h.d.1 h.d.2))),h.perm,oJ h.own hb,h.len⟩
theorem PX.open{p:SP}(h:PX p w):∃g:Nat->Nat,(∀t,t<p.n->w.cell? ⟨p.b,p.off+t,none⟩=some (Xu (g t:Nat)))/\(∀t,t<p.n->w.frozen? ⟨p.b,p.off+t,none⟩=false)/\
 ∀i j,i<p.n->j<p.n->∀q,PX p (((w.drewN q).setCell ⟨p.b,p.off+i,none⟩ (Xu (g j:Nat))).setCell ⟨p.b,p.off+j,none⟩ (Xu (g i:Nat))):=by
 obtain⟨l,h⟩:=h;have hl:=h.len;rw[p.z];have hc:∀t,t<p.n->w.cell? (x_ p.b t)=some (Xu (l.getD t 0:Nat))/\w.frozen? (x_ p.b t)=false:=fun t ht=>mY h.own (v:=l.getD t 0) (by rw[ay,af o_];rfl);refine⟨fun t=>l.getD t 0,fun t ht=>by rw[bz];exact(hc t ht).1,fun t ht=>by rw[bz];exact(hc t ht).2,fun i j hi hj q=>PX.draws (w:=(w.setCell _ _).setCell _ _) ?_ q⟩;have ad:i<l.length:=o_
 have ai:j<l.length:=o_
 have o1:=Im h.own (l.getD j 0) ad;rw[show l.length=(l.set i (l.getD j 0)).length from bA.S] at o1;have o2:=Im o1 (l.getD i 0) (k:=j) (by rw[bA];exact ai);refine⟨(l.set i (l.getD j 0)).set j (l.getD i 0),(h.a_.setCell h.d.1 _).setCell h.d.1 _,?_,?_,by rw[bA,bA];exact hl⟩
 ·refine List.Perm.T ?_ h.perm;have e1:l.getD j 0=l[j]:=by rw[ay,af ai];rfl
  have e2:l.getD i 0=l[i]:=by rw[ay,af ad];rfl
  rw[e1,e2];exact List.set_set_perm ad ai
 grind
theorem MG(x:Nat)(w:World):Ct 279 #[Xu x] w fun e w'=>e=.returned (.bool false)/\w'=w:=by
 go_enter func279,ntmps279;go_wp2_with fail;go_ret;simp_all
theorem MF(x y:Nat)(w:World):Ct 271 #[Xu x,Xu y] w fun e w'=>e=.returned (.bool (decide (x<y)))/\w'=w:=by
 go_enter func271,ntmps271;go_wp2_with fail;refine Jc (MG x _) ?_;go_wp2_with fail;go_ret;simp_all
theorem mW(x y:Nat)(w:World)(n:Nat):Ct 271 #[Xu x,Xu y] (w.drewN n) fun e w''=>e=.returned (.bool (decide (x<y)))/\∃m,w''=w.drewN m:=
 (MF x y _).M fun _ _ h=>⟨h.1,n,h.2⟩
theorem qByad{P:Prop}(h:P:=by
 go_roundw
 case rel=>exact⟨i+1,s_,o_,J.O.draws _⟩
 case measure=>simp[intOf];omega):P:=h
theorem ME{p:SP}(h:PX p w){a z:Nat}(hz:z<=p.n)(haz:a<=z):Ct 265 #[b8 p,Xi a,Xi z] w fun e w'=>e=.returned (.tuple #[])/\PX p w':=by
 have H:=If h;have big:=p.big;go_enter func265,ntmps265;go_wp2_with fail
 go_loopw [6,7] (fun s6 _ wr=>∃i:Nat,s6=Xi i/\i<=z+1/\Hid (PX p wr)) (fun s6 _ _=>z+1-(intOf s6).toNat)
 case atStart=>exact⟨a+1,s_,o_,H⟩
 case round=>
  obtain⟨i,rfl,hi,I⟩:=hrel
  by_cases hlt:(i:Int)<z
  ·go_wp2_with fail
   go_loopw [7] (fun s7 wq=>∃j:Nat,s7=Xi j/\j<=i/\Hid (PX p wq)) (fun s7 _=>(intOf s7).toNat)
   case atStart=>grind
   case round=>
    obtain⟨j,rfl,hj,J⟩:=hrel
    by_cases hja:a<j
    ·obtain⟨k,rfl⟩:∃k,j=k+1:=⟨j-1,o_⟩;obtain⟨g,cw,fw,hs⟩:=PX.open (J.O);have ai:=If (hs (k+1) k o_ o_);have ad:(a:Int)<k+1:=o_
     go_wp2_with fail
     go_quiet (exact mW _ _ _ _)
     go_wp2_with fail
     ·go_region
      go_wp2_with fail;go_roundw
      case rel=>exact⟨k,s_,o_,ai.O _⟩
      case measure=>simp[intOf]
     ·exact qByad
    ·have ad:decide (a<j)=false:=decide_eq_false hja;go_wp2_with fail
     go_quiet (exact mW _ _ _ _)
     go_wp2_with fail;exact qByad
  ·go_wp2_with fail
   go_end0
   exact⟨rfl,I.O⟩
end
section
open Go.RowKit Tryz Go.BigFrame Go.Maps Go.WideMaps Lf
variable{w:World}{z:Nat}
theorem CQ{pm px ps A_:Nat}(hM:Ic w pm px ps A_)(ht:Cb 19 #[PV px] w (Xi z)):
 Cb 39 #[PV pm] w (Xi z):=by
 have HG:=kq2 (ki hM) ht;unfold Ic at hM;obtain⟨c0,c1,c2⟩:=fq hM;clear hM ht;go_enter func39,ntmps39;go_wp2_with fail;refine Jc HG.a ?_;go_wp2_with fail;refine dR HG.b fun w2 hb=>?_;have HB:=If hb;clear hb;go_wp2_with fail;go_ret;exact⟨rfl,HB.O⟩
theorem CU{pm px ps A_:Nat}(hM:Ic w pm px ps A_)(k:List UInt8)(ht:Cb 16 #[PV px,SV k] w (Xi z)):
 Cb 99 #[PV pm,SV k] w (Xi z):=by
 have HG:=kq2 (ki hM) ht;unfold Ic at hM;obtain⟨c0,c1,c2⟩:=fq hM;clear hM ht;go_enter func99,ntmps99;go_wp2_with fail;refine Jc HG.a ?_;go_wp2_with fail;refine dR HG.b fun w2 hb=>?_;have HB:=If hb;clear hb;go_wp2_with fail;go_ret;exact⟨rfl,HB.O⟩
theorem CL{pm px ps A_:Nat}(hM:Ic w pm px ps A_)(a:List UInt8){n:Nat}(hn:n<2^62)(is:Bool)(v:List UInt8)(h1:Cb 16 #[PV px,SV a] w (Xi n))(h2:∀W,D_ w W->Cb 17 #[PV px,SV a] W (.tuple #[SV v,.bool is])):
 Cb 98 #[PV pm,SV a] w (Xi (if is=true then(n:Int) else(n:Int)-1)):=by
 have hw:IntKind.i64.wrap ((n:Int)-1)=(n:Int)-1:=ax _ o_;have HG:=kq3 h1 h2 hM;unfold Ic at hM;obtain⟨c0,c1,c2⟩:=fq hM;clear h1 h2 hM
 cases is
 all_goals
  go_enter func98,ntmps98;go_wp2_with fail;refine dR HG.a fun w1 hb1=>?_;have ad:=HG.c.a_ hb1;unfold Ic at ad;obtain⟨d0,d1,d2⟩:=fq ad;have H1:=If hb1;clear hb1 ad;go_wp2_with fail;refine dR (HG.b _ H1.O) fun w2 hb2=>?_;have H2:=If (b_ H1.O hb2);clear hb2;go_wp2_with fail;go_ret;exact⟨rfl,H2.O⟩
theorem CS{pm px ps A_:Nat}(hM:Ic w pm px ps A_)(a b t:List UInt8)(was:Bool)(ha:a.length<=A_)(hb:b.length<=A_){Q:World->Prop}(ht:Ct 43 #[PV px,.agg #[SV a,SV b]] w fun e w'=>e=.returned (.tuple #[SV t,.bool was,Xi 0])/\Q w'):
 Ct 24 #[PV pm,SV a,SV b] w fun e w'=>e=.returned (.tuple #[SV t,.bool was,Xi 0])/\Q w':=by
 have HG:=kq2 (vH hM a b ha hb) ht;unfold Ic at hM;obtain⟨c0,c1,c2⟩:=fq hM;clear hM ha hb ht;go_enter func24,ntmps24;go_wp2_with fail;refine Jc HG.a ?_;go_wp2_with fail;refine dR HG.b fun w2 hr=>?_;have HR:=If hr;clear hr;go_wp2_with fail;go_ret3;exact⟨rfl,HR.O⟩
def Ju(w:World)(pc pm ps hh is:Nat):Prop:=w.1[pc]?=some (.cells #[PV pm,PV ps,Xu hh,Xi is] 132)
theorem Ju.a_{w w':World}{pc pm ps hh is:Nat}(h:Ju w pc pm ps hh is)(hb:D_ w w'):Ju w' pc pm ps hh is:=(hb.block pc (gl h)).T h
theorem Ju.w_{w w':World}{pc pm ps hh is:Nat}{Y:Nat->Prop}(h:Ju w pc pm ps hh is)(hk:Fo Y w w')(hy:Y pc):Ju w' pc pm ps hh is:=(hk.block pc hy).T h
theorem Bb(pc pm ps hh is:Nat):∃I:World->Prop,(∀w',I w'->Ju w' pc pm ps hh is)/\(∀w',Ju w' pc pm ps hh is->I w'):=⟨fun w'=>Ju w' pc pm ps hh is,fun _ h=>h,fun _ a=>a⟩
theorem ee{pc pm ps hh is:Nat}(hC:Ju w pc pm ps hh is)(h0:hh≠0):
 Ct 77 #[PV pc] w fun e w'=>e=.returned (Xi 0)/\w=w':=by
 unfold Ju at hC;obtain⟨c0,c1,c2,c3⟩:=Fy hC;have hq:((hh:Int)=0)=False:=eq_false o_;clear hC;go_enter func77,ntmps77;go_wp2_with fail;go_ret;exact⟨rfl,rfl⟩