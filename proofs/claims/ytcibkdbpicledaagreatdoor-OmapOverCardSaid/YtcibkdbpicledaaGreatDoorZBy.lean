/- B-trees: Insert of a key that is not there: the walk. -/
import Derived.Test.YtcibkdbpicledaaGreatDoorZBr
set_option maxRecDepth 100000
set_option maxHeartbeats 6400000
namespace Go.Proofs.YtcibkdbpicledaaGreatDoor
section
open Go.RowKit Tryz Go.BigFrame Go.Maps Go.WideMaps Lf Tr
open Go.Shelf
theorem Bt.trail_le:∀p:List Bool,Bt.trail p<=p.length
 | []=>Nat.le_refl _
 | b::r=>by
  unfold Bt.trail;have:=Bt.trail_le r;rw[ak];split
  ·split<;>omega
  ·omega
theorem uB(t:Nat)(key:List UInt8):∀{d:Nat} (x:Bt d),(Bt.fullB t key x).length<=d
 | 0,x=>nomatch x
 | d+1,x=>by
  unfold Bt.fullB;rw[ak];cases h:(Bn.ks x)[Fr key (Bn.es x)]? with
  | none=>simp
  | some k=>have:=uB t key k;simp only;omega
def iD(t:Nat)(key:List UInt8){d:Nat}(x:Bt (d+1)):Nat:=Bt.needB 0 true (Bt.fullB t key x)
theorem oE(t:Nat)(key:List UInt8){d:Nat}(x:Bt (d+1)):iD t key x=Bt.trail (Bt.fullB t key x)+(if(Bt.fullB t key x).all id=true then 1 else 0)/\iD t key x<=d+2:=by
 have h:=Bt.need_zero (Bt.fullB t key x);have h1:=Bt.trail_le (Bt.fullB t key x);have h2:=uB t key x;refine⟨h,?_⟩;unfold iD;rw[h];split<;>omega
theorem ku(w:World)(o1 o2 o3:Obj):Below w.heap.size w (w.drew.alloc o1)/\Below w.heap.size w ((w.drew.alloc o1).alloc o2)/\Below w.heap.size w (((w.drew.alloc o1).alloc o2).alloc o3)/\(((w.drew.alloc o1).alloc o2).alloc o3).heap[w.heap.size]?=some o1/\(((w.drew.alloc o1).alloc o2).alloc o3).heap[w.heap.size+1]?=some o2/\(((w.drew.alloc o1).alloc o2).alloc o3).heap[w.heap.size+2]?=some o3:=by
 have z1:(w.drew.alloc o1).heap.size=w.heap.size+1:=by simp
 have z2:((w.drew.alloc o1).alloc o2).heap.size=w.heap.size+2:=by simp
 have b1:=((aa w.heap.size w).drew).alloc Ih o1;have c2:=(aa (w.drew.alloc o1).heap.size (w.drew.alloc o1)).alloc Ih o2;have c3:=(aa ((w.drew.alloc o1).alloc o2).heap.size ((w.drew.alloc o1).alloc o2)).alloc Ih o3;have q1:=heap_alloc_new w.drew o1;have q2:=heap_alloc_new (w.drew.alloc o1) o2;have q3:=heap_alloc_new ((w.drew.alloc o1).alloc o2) o3;have r1:=(c3.block w.heap.size (by omega)).trans ((c2.block w.heap.size (by omega)).trans q1);rw[z1] at q2;rw[z2] at q3;have r2:=(c3.block (w.heap.size+1) (by omega)).trans q2;exact⟨b1,b1.trans (c2.mono (by rw[z1];omega)),(b1.trans (c2.mono (by rw[z1];omega))).trans (c3.mono (by rw[z2];omega)),r1,r2,q3⟩
theorem qByaa{P:Prop}(h:P:=by
 rintro en ap ⟨rfl,cb,a0,ao,a6,a5⟩;have bk:=T4.2.2.1.size;have ad:I ap:=bf _ _ T4.2.2.1 ao;have hold:=(bc.out _ ad).2;have kF:Fo Y w ap:=(HK.a.trans (Fo.of_below (a3.out.trans (T4.2.2.1.mono (by omega))) fun k hk=>by have:=HK.g k hk;have:=HK.a.size;omega)).trans (ao.mono fun k hk=>⟨ab (ab (ab hk)),by have:=HK.g k hk;omega⟩);obtain⟨x0,x1⟩:=Fp hold;obtain⟨f0,f1⟩:=ef hold;have an:=kq3 hold a0 kF;clear ao a6 a5 hold a0 kF T4
 try go_simp
 refine hK.out _ _ ad ?_;clear hK K
 try simp only[pu]
 refine eG fun K hK=>?_;go_simp
 try go_simp
 refine hK.out _ _ ad ?_;clear hK K
 try simp only[pu]
 refine eG fun K hK=>?_;go_simp
 try go_simp
 refine hK.out _ _ (au _ ad) ?_;clear hK K
 try simp only[pu]
 refine eG fun K hK=>?_;go_simp
 try go_simp
 refine hK.out _ _ (au _ ad) ?_;clear hK K
 try simp only[pu]
 refine eG fun K hK=>?_;go_simp
 try go_simp
 refine hK.out _ _ (au _ ad) ?_;clear hK K
 try simp only[pu]
 refine ma ?_;go_wp2_with fail;obtain⟨WF,ai⟩:=Ii ((ap.setCell ⟨w.heap.size+1,0,none⟩ (.int .u64 0)).setCell ⟨w.heap.size+1,1,none⟩ (.int .u64 0));rw[ai];have eF:WF.heap[w.heap.size+1]?=some (.cells #[.int .u64 0,.int .u64 0] 137 (0,0)):=by
  rw[<-ai];exact heap_setCell (i:=1) (v:=.int .u64 0) (heap_setCell (i:=0) (v:=.int .u64 0) an.a)
 have a2:Ig WF ps (FC S2 rr 0 (bnWords t (Bt.bn (Bt.rootOf rr m y1 y2)))) Y:=by
  rw[<-ai];exact(an.b.write (b:=w.heap.size+1) (ab (ab (ae ⟨by omega,by omega⟩))) an.a ⟨by decide,by decide⟩ (by simp) (by simp) fun k _ hk=>(FB hk).trans (FB hk)).mono fun k hk=>ab (ab (ab hk))
 have kF:Fo Y w WF:=by
  rw[<-ai];have ar:∀k,Y k->k≠w.heap.size+1:=fun k hk=>by have:=HK.g k hk;omega
  exact(an.c.trans (Fo.mark ar)).trans (Fo.mark ar)
 clear ai x0 x1 f0 f1;obtain⟨u0,u1⟩:=Fp eF;exact bodyPost_ret (v:=.tuple #[.int .u64 (rr:Nat),.agg #[.int .u64 0,.int .u64 0],.bool false,.int .i64 0]) (by simp[results,f316,go_sem,u0,u1]) rfl ⟨d+1,Bt.rootOf rr m y1 y2,_,o1,rfl,a2,kF,bb.out⟩):P:=h
theorem zI(hins:∀d,j4 d){w:World}{ps:Nat}{S:St}{o:Nat->Nat}{Y:Nat->Prop}(h:Ig w ps S Y){t d:Nat}{x:Bt (d+1)}(hx:Bt.Tree S o t x){e:It}(hn:Bt.New S x e)(hr:fc S (2*iD t e.k x) (iD t e.k x)):
 Ct 316 #[PV ps,.int .i64 t,.int .u64 (Bt.hd x:Nat),Id e.kh e.vh] w fun en w'=>∃(d':Nat) (y:Bt (d'+1)) (S':St) (o':Nat->Nat),en=.returned (.tuple #[.int .u64 (Bt.hd y:Nat),Id 0 0,.bool false,.int .i64 0])/\Ig w' ps S' Y/\Fo Y w w'/\Bt.Tree S' o' t y/\Bt.its y=Bt.insB e (Bt.its x)/\(∀z∈Bt.nodes y,z∈Bt.nodes x\/reco S z=none)/\(∀z,z∉Bt.nodes x->reco S z≠none->reco S' z=reco S z)/\ej S S' (2*iD t e.k x) (iD t e.k x):=by
 have B0:=((aa w.heap.size w).alloc Ih (.cells #[.int .u64 e.kh,.int .u64 e.vh] 137)).alloc (by simp) (.cells #[.int .u64 0,.int .u64 0] 137);have z1:(w.alloc (.cells #[.int .u64 e.kh,.int .u64 e.vh] 137)).heap.size=w.heap.size+1:=by simp
 have q1:=heap_alloc_new w (.cells #[.int .u64 e.kh,.int .u64 e.vh] 137);have q2:=heap_alloc_new (w.alloc (.cells #[.int .u64 e.kh,.int .u64 e.vh] 137)) (.cells #[.int .u64 0,.int .u64 0] 137);have q1:=(((aa (w.alloc (.cells #[.int .u64 e.kh,.int .u64 e.vh] 137)).heap.size (w.alloc (.cells #[.int .u64 e.kh,.int .u64 e.vh] 137))).alloc Ih (.cells #[.int .u64 0,.int .u64 0] 137)).block w.heap.size (by simp)).trans q1;rw[z1] at q2;have hz:((w.alloc (.cells #[.int .u64 e.kh,.int .u64 e.vh] 137)).alloc (.cells #[.int .u64 0,.int .u64 0] 137)).heap.size=w.heap.size+2:=by simp
 generalize hW:(w.alloc (.cells #[.int .u64 e.kh,.int .u64 e.vh] 137)).alloc (.cells #[.int .u64 0,.int .u64 0] 137)=W0 at*;have A1:=(aa W0.heap.size W0).alloc Ih (.cells #[PV ps,.int .i64 t] 254);have q3:=heap_alloc_new W0 (.cells #[PV ps,.int .i64 t] 254);have b8:(W0.alloc (.cells #[PV ps,.int .i64 t] 254)).heap.size=w.heap.size+3:=by simp[hz]
 have hw:=hx.walk;have hi:=hx.fit.inv;have has:=kZ (h.below B0) hi hx.t1 hx.t2;obtain⟨W1,ez⟩:=Ii (W0.alloc (.cells #[PV ps,.int .i64 t] 254));rw[ez] at A1 q3 b8;have B1:=B0.trans (A1.mono (by omega));rw[hz] at q3;have ds:=jt hx.fit hn.blobs.lk hn.blobs.k;have dk:=iz (h.below B1) hi e.kh (Bt.blobs_lt hx.fit hn.blobs).1 (by rw[ds];simp);rw[ds] at dk;have q1:=(A1.block _ (by omega)).trans q1;have q2:=(A1.block _ (by omega)).trans q2;obtain⟨x0,x1⟩:=Fp q1;have H0:=kq7 h hx hn hr hw hi b8;have H1:=kq4 B1 q1 q2 q3;have ed:=If has;have ee:=If dk;have ih:Bt.hd x≠0:=(Bt.At.hd_ok hx.fit hx.at').1;have ii:((Bt.hd x:Nat):Int)≠0:=by omega
 clear z1 q1 q2 q3 B0 B1 A1 hw hi has ds dk h hx hn hr;unfold Id;go_enter func316,ntmps316;go_wp2_with fail;refine ed.out.mono ?_;rintro en w1 ⟨rfl,rfl⟩;clear hW;go_wp2_with fail;refine ee.out.mono ?_;rintro en w2 ⟨rfl,bj⟩;clear x0 x1;have p1:=(bj.block _ (by have:=H0.g;omega)).trans H1.b;have p2:=(bj.block _ (by have:=H0.g;omega)).trans H1.c;have p3:=(bj.block _ (by have:=H0.g;omega)).trans H1.d;have b2:=H1.a.trans (bj.mono H1.a.size);obtain⟨x0,x1⟩:=Fp p3;have dn:=kI (H0.a.below b2) H0.f H0.e.read;have iv:w.heap.size+3<=w2.heap.size:=by have:=bj.size;have:=H0.g;omega
 unfold FH eC at dn;have ek:=If dn;have H2:=kq4 b2 p1 p2 p3;clear bj p1 p2 p3 b2 dn ee ed H1 ez;go_wp2_with fail;refine ek.out.mono ?_;rintro en w3 ⟨vk,vv,vc,rfl,rows,c7⟩;obtain⟨Ak,mk,ck,rfl⟩:=rows.k.slice;obtain⟨Av,mv,cv,rfl⟩:=rows.v.slice;obtain⟨Ac,mc,cc,rfl⟩:=rows.c.slice;obtain⟨sz,cs⟩:=Ii (Bt.bn x).size;rw[cs];clear cs;have A3:=(aa w3.heap.size w3).alloc Ih (.cells #[.slice Ak mk ck,.slice Av mv cv,.slice Ac mc cc,.int .u64 sz] 286);obtain⟨W3,e4⟩:=Ii (w3.alloc (.cells #[.slice Ak mk ck,.slice Av mv cv,.slice Ac mc cc,.int .u64 sz] 286));rw[e4] at A3;have c3:=c7.trans (A3.mono c7.size);have p1:=(c3.block _ (by omega)).trans H2.b;have p2:=(c3.block _ (by omega)).trans H2.c;have p3:=(c3.block _ (by omega)).trans H2.d;have B3:=H2.a.trans (c3.mono H2.a.size);have i0:w.heap.size+3<=W3.heap.size:=by have:=c3.size;omega
 have ib:=H0.b.low;have f':=Bt.findB_none H0.c.key;have cj:=fun W (hw:Below W3.heap.size W3 W)=>pY (H0.a.below (B3.trans (hw.mono B3.size))) H0.e (by omega) e.k;rw[f'] at cj;have cl:=nT (R:=none) (cj W3 (aa _ _)) fun W hW=>cj W (by rw[hW];exact(aa _ _).alloc Ih _);unfold i7 Id at cl
 dsimp only[Option.isSome] at cl
 have eg:=If cl;have H3:=kq4 B3 p1 p2 p3;clear A3 c3 p1 p2 p3 B3 f' cj cl x0 x1 c7 H2 ek rows;go_wp2_with fail;refine eg.out.mono ?_;rintro en w4 ⟨rfl,c'⟩;clear e4;go_wp2_with fail;have A4:=(aa w4.heap.size w4).alloc Ih (.cells #[.int .u64 0,.int .u64 0] 137);obtain⟨W4,c6⟩:=Ii (w4.alloc (.cells #[.int .u64 0,.int .u64 0] 137));rw[c6] at A4;rw[c6];clear c6;have c4:=c'.trans (A4.mono c'.size);have p1:=(c4.block _ (by omega)).trans H3.b;have p2:=(c4.block _ (by omega)).trans H3.c;have p3:=(c4.block _ (by omega)).trans H3.d;have B4:=H3.a.trans (c4.mono H3.a.size);have d4:w.heap.size+3<=W4.heap.size:=by have:=c4.size;omega
 have eb:=H0.a.wide B4;have bd:=fun W (hw:Below W4.heap.size W4 W)=>zN (H0.a.below (B4.trans (hw.mono B4.size))) H0.e (by omega) e.k;obtain⟨q,hq⟩:=Ii (iD t e.k x);have it:q<=22:=by have:=(oE t e.k x).2;omega
 have d3:=H0.d;rw[hq] at d3;have bo:=fun W (hw:Below W4.heap.size W4 W)=>tU (eb.below hw) H0.b.fit H0.b.t1 H0.b.t2 q (by omega) d3;have gf:Bt.needB 0 true (Bt.fullB t e.k x)=q:=hq;rw[gf] at bd;unfold FH at bd bo;have bd:=If bd;have bo:=If bo;have H4:=kq5 B4 p1 p2 p3 eb;have HQ:=If hq;clear A4 c4 p1 p2 p3 B4 eb hq gf d3 c' H3 eg;obtain⟨I,a1,a4⟩:=ic fun w'=>w'.heap[w.heap.size+2]?=W4.heap[w.heap.size+2]?;have b8:=fun x:Fq I=>(a1 _ x.ok).trans H4.d;obtain⟨r0,r1⟩:=fw b8;have a9:I W4.drew:=a4 _ rfl;have a7:=If a4;clear a1 a4 b8;refine fh I (.take 0 (.take 1 (.take 2 (.take 3 (.go 4 (.go 5 (.take 6 (.take 7 (.take 8 (.go 9 (.go 10 .nil))))))))))) (by kernel_rfl) (by kernel_rfl) a9 ?_
 iterate 4
  refine' pT ?_ ?_;rotate_left
  ·intro x;go_simp
   try rfl
  try simp only[pu]
 refine pD fun K hK=>?_;go_simp;refine(bd.out _ (aa _ W4).drew).mono ?_;rintro en w5 ⟨rfl,dc⟩;have ev:I w5:=a7.out _ (dc.block _ d4);have B5:=(aa W4.heap.size W4).drew.trans dc;have bm:=If B5;clear dc B5
 try go_simp
 refine hK.out _ _ ev ?_;clear hK K
 try simp only[pu]
 refine pD fun K hK=>?_;go_simp;refine(bo.out _ bm.out).mono ?_;rintro en w6 ⟨rfl,S1,o1,v6,L,hc,ea,g',f6,ex,ha,fn,fb,fk⟩;have ch:I w6:=a7.out _ ((ea.block _ (ae ⟨by omega,by omega⟩)).trans (bm.out.block _ d4));have H6:=kq9 hc ea g' f6 ex ha fn fb fk;clear hc ea g' f6 ex ha fn fb fk
 try go_simp
 refine hK.out _ _ ch ?_;clear hK K
 try simp only[pu]
 iterate 3
  refine' pT ?_ ?_;rotate_left
  ·intro x;go_simp
   try rfl
  try simp only[pu]
 refine pD fun K hK=>?_;go_simp
 try go_simp
 refine hK.out _ _ ch ?_;clear hK K
 try simp only[pu]
 refine pD fun K hK=>?_;go_simp
 try go_simp
 refine hK.out _ _ ch ?_;clear hK K
 try simp only[pu]
 refine eP ?_;have i4:=d4;have k6:∀k,w.heap.size<=k->k<W4.heap.size->w6.heap[k]?=W4.heap[k]?:=fun k h1 h2=>(H6.b.block k (ae ⟨h1,h2⟩)).trans (bm.out.block k h2);have p1:=(k6 w.heap.size (by omega) (by omega)).trans H4.b;have p2:=(k6 (w.heap.size+1) (by omega) (by omega)).trans H4.c;have p3:=(k6 (w.heap.size+2) (by omega) (by omega)).trans H4.d;obtain⟨x0,x1⟩:=Fp p1;obtain⟨y0,y1⟩:=Fp p3;have bs:Bt.Tree S1 o1 t x:=H0.b.frame H6.d fun y hy=>H6.h y fun hm=>H0.b.has y hy (H6.g y hm);have dv:=Bt.blobs_lt H0.b.fit H0.c.blobs;have cm:=hins d 0 H6.a bs.walk bs.nodes (by omega) H6.c H6.f (fun y hy q=>H0.b.has y (az _ q) (H6.g y hy)) (ae (ae (ab rfl))) (ae (ab rfl)) (fun b hb=>ae (ae (ae hb))) (by have:=H6.e;omega) H0.c.key bs.lts dv.1 dv.2 (by have h1:=(oE t e.k x).1;have h2:=HQ.out;have h3:=H6.e;omega);unfold FH Id nu at cm;have e0:((0:Nat):Int)=0:=rfl;rw[e0] at cm;have em:=If cm;have eo:=kq3 bs p2 k6;clear e0 cm bs dv p1 p2 p3 k6 r0 r1 bd bo a7 a9 ev ch;go_wp2_with fail;refine em.out.mono ?_;rintro en w7 ⟨r,S2,v7,L7,U,rfl,h7⟩;have H7:=If h7;clear h7 em x0 x1 y0 y1;have b4:=H0.a.yl;have i1:=bm.out.size;have i2:=H6.b.size;have kY:Fo Y w w7:=((Fo.of_below H4.a b4).trans (Fo.of_below bm.out fun k hk=>by have:=b4 k hk;omega)).trans ((H6.b.mono fun k hk=>ab hk).trans (H7.out.2.2.2.1.mono fun k hk=>⟨ab (ab hk),by have:=b4 k hk;omega⟩));have p2:=(H7.out.2.2.2.1.block (w.heap.size+1) ⟨ab (ae ⟨by omega,by omega⟩),by omega⟩).trans eo.b;have p3:=(H7.out.2.2.2.1.block (w.heap.size+2) ⟨ab (ae ⟨by omega,by omega⟩),by omega⟩).trans ((eo.c _ (by omega) (by omega)).trans H4.d);have c5:∀y∈U,y∈L:=fun y hy=>by rw[H7.out.1];exact ax _ hy
 have e':∀z,z∉Bt.nodes x->z∉L->reco S2 z=reco S z:=fun z h1 h2=>(H7.out.2.1.fr z h1 fun q=>h2 (c5 z q)).trans (H6.h z h2);have fm:ej S S2 (2*q) q:=(H6.i.trans H7.out.2.1.grew).mono (by omega) (by omega);have ga:=(gl p2);have hl:=(gl p3);have HK:=kq7 kY p2 p3 c5 e' fm b4;clear kY p2 p3 c5 e' fm b4
 rcases r with _ | ⟨m,g⟩
 ·dsimp only[ky,iQ]
  go_wp2_with fail;have A8:=(aa w7.heap.size w7).alloc Ih (.cells #[.bool false,.int .u64 0,.int .u64 0,.int .u64 0] 406);obtain⟨W8,a'⟩:=Ii (w7.alloc (.cells #[.bool false,.int .u64 0,.int .u64 0,.int .u64 0] 406));rw[a'] at A8;rw[a'];have p2:=(A8.block _ ga).trans HK.b;have ca:=H7.out.2.2.1.below A8;have k8:Fo Y w W8:=HK.a.trans (Fo.of_below A8 fun k hk=>by have:=HK.g k hk;have:=HK.a.size;omega);obtain⟨x0,x1⟩:=Fp p2;obtain⟨f0,f1⟩:=ef p2;have H8:=kq3 p2 ca k8;clear a' A8 p2 ca k8
  go_region
  go_wp2_with fail;obtain⟨WF,ai⟩:=Ii (((W8.setCell ⟨w.heap.size+1,0,none⟩ (.int .u64 0)).setCell ⟨w.heap.size+1,1,none⟩ (.int .u64 0))).drew;rw[ai];have eF:WF.heap[w.heap.size+1]?=some (.cells #[.int .u64 0,.int .u64 0] 137 (0,0)):=by
   rw[<-ai];exact heap_setCell (i:=1) (v:=.int .u64 0) (heap_setCell (i:=0) (v:=.int .u64 0) H8.a)
  have a2:Ig WF ps S2 Y:=by
   rw[<-ai];exact((H8.b.write (b:=w.heap.size+1) (ab (ae ⟨by omega,by omega⟩)) H8.a ⟨by decide,by decide⟩ (by simp) (by simp) fun k _ hk=>(FB hk).trans (FB hk)).below (aa _ _).drew).mono fun k hk=>ab (ab hk)
  have kF:Fo Y w WF:=by
   rw[<-ai];have ar:∀k,Y k->k≠w.heap.size+1:=fun k hk=>by have:=HK.g k hk;omega
   exact((H8.c.trans (Fo.mark ar)).trans (Fo.mark ar)).trans ⟨rfl,rfl,rfl,Nat.le_refl _,fun _ _=>rfl⟩
  clear ai x0 x1 f0 f1;obtain⟨u0,u1⟩:=Fp eF;obtain⟨y,bt,bu,bv,b0⟩:=H0.b.insert_none H0.c H6.g H6.h HK.d H7.out.2.1;exact bodyPost_ret (v:=.tuple #[.int .u64 (Bt.hd x:Nat),.agg #[.int .u64 0,.int .u64 0],.bool false,.int .i64 0]) (by simp[results,f316,go_sem,u0,u1]) rfl ⟨d,y,S2,o1,by rw[bt];rfl,a2,kF,bu,bv,fun z hz=>(b0 z hz).imp id fun hu=>H6.g z (HK.d z hu),fun z h1 h2=>HK.e z h1 fun hm=>h2 (H6.g z hm),by rw[HQ.out];exact HK.f⟩
 ·dsimp only[ky,iQ]
  have hj:=H7.out.2.2.2.2.2.2.1;have e5:=H7.out.2.2.2.2.2.2.2;have gc:=(oE t e.k x).1;have e6:(Bt.fullB t e.k x).all id=true:=e5.symm;rw[if_pos e6,HQ.out] at gc;have cx:L7.length=1:=by
   have h1:=H6.e;have h2:=congrArg List.length H7.out.1;rw[aE] at h2;omega
  obtain⟨rr,cp⟩:∃rr,L7=[]++[rr]:=by
   cases L7 with
   | nil=>simp at cx
   | cons a l=>
    cases l with
    | nil=>exact⟨a,rfl⟩
    | cons b l=>simp at cx
  have cn:rr∈L:=by rw[H7.out.1,cp];simp
  have gg:rr∉U:=fun hm=>by
   have fv:=H6.f.nd;rw[H7.out.1,cp] at fv;exact(aw.1 fv).2.2 rr (by simp) rr hm rfl
  obtain⟨ws,gn,d8⟩:=H6.f.recs rr cn;obtain⟨y1,y2,bt,bu,bv,b0,g5,g6,h8,g7,g8,d9,gp,gs,gv,g0,g4⟩:=H0.b.insert_root H0.c H6.g H6.h HK.d H7.out.2.1 cn gg gn d8;obtain⟨n1,d0⟩:=Ii (Bt.its y1).length;obtain⟨n2,d1⟩:=Ii (Bt.its y2).length;have d5:=fun W Yx hst=>ri (ps:=ps) H7.out.2.1.fit H0.b.t1 H0.b.t2 bv g5 (by omega) W Yx hst;have d6:=fun W Yx hst=>ri (ps:=ps) H7.out.2.1.fit H0.b.t1 H0.b.t2 b0 g6 (by omega) W Yx hst;rw[bt,d0] at d5;rw[bu,d1] at d6;have ik:n1+n2+1<1000000:=by omega
  have cr:=H7.out.2.2.2.2.1;rw[cp] at cr;have hA:∀(W:World) (b1 b2 b3:Nat),Below w7.heap.size w7 W->w7.heap.size<=b1->w7.heap.size<=b2->w7.heap.size<=b3->W.heap[b1]?=some (.cells #[.int .u64 m.kh] 83 (0,0))->W.heap[b2]?=some (.cells #[.int .u64 m.vh] 83 (0,0))->W.heap[b3]?=some (.cells #[.int .u64 (Bt.hd x:Nat),.int .u64 g] 83 (0,0))->
   Ct 331 #[.agg #[.slice (some ⟨b1,0,none⟩) 1 1,.slice (some ⟨b2,0,none⟩) 1 1,.slice (some ⟨b3,0,none⟩) 2 2,.int .u64 ((n1:Int)+n2+1)],PV (w5.heap.size+1),PV w5.heap.size] W fun en w'=>en=.returned (.int .u64 rr)/\∃v',Ig w' ps (FC S2 rr 0 (bnWords t (Bt.bn (Bt.rootOf rr m y1 y2)))) (fun k=>((Y k\/(w.heap.size<=k/\k<W4.heap.size))\/iJ w5.heap.size (w5.heap.size+1) v6 k)\/(w7.heap.size<=k/\k<W.heap.size))/\Fo (fun k=>(((Y k\/(w.heap.size<=k/\k<W4.heap.size))\/iJ w5.heap.size (w5.heap.size+1) v6 k)\/(w7.heap.size<=k/\k<W.heap.size))/\k≠w5.heap.size+1) W w'/\gz w' w5.heap.size (w5.heap.size+1) (w5.heap.size+2) ps t v' []/\v'.ownBlock=v7.ownBlock:=by
   intro W b1 b2 b3 hB g1 g2 g3 e1 e2 e3;have g9:w5.heap.size+2<=w7.heap.size:=by
    have h1:=(gl cr.box);omega
   have gk:∀(b k:Nat),W.heap[b]?=some (.cells #[.int .u64 k] 83 (0,0))->FD W (.slice (some ⟨b,0,none⟩) 1 1) [k]:=fun b k hb=>⟨_,1,rfl,fun i hi=>⟨b,0,rfl,by
    have hi:i=0:=by simp at hi;exact hi
    subst hi;rw[Fs hb]
    rfl⟩⟩
   have hv:FD W (.slice (some ⟨b3,0,none⟩) 2 2) [Bt.hd x,g]:=⟨_,2,rfl,fun i hi=>⟨b3,0,rfl,by
    have hi:i=0\/i=1:=by simp at hi;omega
    rcases hi with rfl | rfl
    ·rw[Fs e3]
     rfl
    ·rw[Fs e3]
     rfl⟩⟩
   have hh:S2.len rr=(6*t,0):=by rw[jw H7.out.2.1.fit.tab d9,d8]
   have he:∀k∈Bn.ks (Bt.rootOf rr m y1 y2),Bt.At S2 t k:=fun k hk=>by
    have hk:k∈ [y1,y2]:=hk
    rcases ag.1 hk with rfl | hk
    ·exact bv
    ·rw[aT.1 hk];exact b0
   have hf:(Bt.bn (Bt.rootOf rr m y1 y2)).kids=[Bt.hd x,g]:=by
    show[Bt.hd y1,Bt.hd y2]=_
    rw[bt,bu]
   have cs:(((Bt.bn (Bt.rootOf rr m y1 y2)).size:Nat):Int)=(n1:Int)+n2+1:=by
    show (((Bt.its y1++m::Bt.its y2).length:Nat):Int)=_
    rw[aE,ak,d0,d1];omega
   have d2:∀{b n c:Nat},w7.heap.size<=b->∀g,(Value.slice (some ⟨b,0,none⟩) n c).ownBlock=some g->g≠w5.heap.size+1:=fun hb g hg q=>by
    have hg:=Option.some.inj hg;simp only at hg;omega
   have d7:=pZ (n:=Bt.bn (Bt.rootOf rr m y1 y2)) (vk:=.slice (some ⟨b1,0,none⟩) 1 1) (vv:=.slice (some ⟨b2,0,none⟩) 1 1) (vc:=.slice (some ⟨b3,0,none⟩) 2 2) (H7.out.2.2.1.wide hB) H7.out.2.1.fit.inv (cr.keeps fun k hk=>hB.block k ?_) (ab (ae (ae (ab rfl)))) (ab (ae (ab rfl))) (fun b hb=>ab (ae (ae (ae (by rw[<-H7.out.2.2.2.2.2.1];exact hb))))) (by simp) (Bt.bnok_of H7.out.2.1.fit H0.b.t1 H0.b.t2 he g7) (gk b1 _ e1) (gk b2 _ e2) (by rw[hf];exact hv) (d2 g1) (d2 g2) (d2 g3) (fL H7.out.2.1.fit d9).2.1 hh (kX g8 (by show 1<_;omega))
   ·unfold eC at d7;rw[cs] at d7;exact d7
   ·have h9:=H7.out.2.2.1.yl;refine h9 k (ae ?_)
    rcases hk with hk | hk | hk
    ·exact ab hk
    ·exact ae (ab hk)
    ·exact ae (ae (by rw[<-H7.out.2.2.2.2.2.1];exact hk))
  have HA:=If hA;have cu:=If d5;have cw:=If d6;have HT:=kq6 gp gs gv g0 g4 cn;clear hj e5 gc e6 cx cp gg gn d8 bt bu bv b0 g5 g6 h8 g7 g8 d9 gp gs gv g0 g4 d0 d1 d5 d6 cr hA cn;go_wp2_with fail;have A8:=(aa w7.heap.size w7).alloc Ih (.cells #[.bool true,.int .u64 (m.kh:Nat),.int .u64 (m.vh:Nat),.int .u64 g] 406);have p4:=heap_alloc_new w7 (.cells #[.bool true,.int .u64 (m.kh:Nat),.int .u64 (m.vh:Nat),.int .u64 g] 406);obtain⟨W8,a'⟩:=Ii (w7.alloc (.cells #[.bool true,.int .u64 (m.kh:Nat),.int .u64 (m.vh:Nat),.int .u64 g] 406));rw[a'] at A8 p4;rw[a'];clear a';have p2:=(A8.block _ ga).trans HK.b;have p3:=(A8.block _ hl).trans HK.c;have ho:=(gl p2);have ht:=(gl p3);have gb:=(gl p4);have ca:=H7.out.2.2.1.below A8;obtain⟨I,a1,a4⟩:=ic fun w'=>∀k,k<W8.heap.size->w'.heap[k]?=W8.heap[k]?;have b9:=fun x:Fq I=>(a1 _ x.ok _ ht).trans p3;have b':=fun x:Fq I=>(a1 _ x.ok _ gb).trans p4;obtain⟨r0,r1⟩:=fw b9;obtain⟨s0,s1,s2,s3⟩:=iB b';have a9:I W8.drew:=a4 _ fun _ _=>rfl;have a7:=If a4;have a8:=kq5 A8 p2 p3 p4 ca;have h4:IntKind.i64.wrap ((n1:Int)+n2)=(n1:Int)+n2:=aD _ (by omega);have h5:IntKind.u64.wrap ((n1:Int)+n2)=(n1:Int)+n2:=cQ _ (by omega);have h6:IntKind.u64.wrap ((n1:Int)+n2+1)=(n1:Int)+n2+1:=cQ _ (by omega);unfold FH at cu cw;clear a1 a4 b9 b' A8 p2 p3 p4 ca;refine fh I (.take 0 (.take 1 (.take 3 (.take 4 (.take 5 (.go 2 (.go 6 (.take 7 (.take 8 (.take 9 (.go 10 .nil))))))))))) (by kernel_rfl) (by kernel_rfl) a9 ?_
  iterate 5
   refine' pT ?_ ?_;rotate_left
   ·intro x;go_simp
    try rfl
   try simp only[pu]
  refine pD fun K hK=>?_;go_simp;refine(cu.out _ _ (a8.e.below (aa _ W8).drew)).mono ?_;rintro en w9 ⟨rfl,e8⟩;have B9:=(aa W8.heap.size W8).drew.trans e8;have cd:=If B9;clear e8 B9
  try go_simp
  refine hK.out _ _ (a7.out _ fun k hk=>cd.out.block k hk) ?_;clear hK K
  try simp only[pu]
  refine pD fun K hK=>?_;go_simp;refine(cw.out _ _ (a8.e.below cd.out)).mono ?_;rintro en al ⟨rfl,e7⟩;have ec:=cd.out.trans (e7.mono cd.out.size);have ba:=If ec;clear e7 ec
  try go_simp
  refine hK.out _ _ (a7.out _ fun k hk=>ba.out.block k hk) ?_;clear hK K
  try simp only[pu]
  iterate 3
   refine' pT ?_ ?_;rotate_left
   ·intro x;go_simp
    try rfl
   try simp only[pu]
  refine pD fun K hK=>?_;go_simp
  try go_simp
  refine hK.out _ _ (a7.out _ fun k hk=>ba.out.block k hk) ?_;clear hK K
  try simp only[pu]
  refine eP ?_;go_wp2_with fail;clear r0 r1 s0 s1 s2 s3 a9 a7 h4 h5 h6 cu cw;have h0:=a8.a.size;have iu:=ba.out.size;have g9:=a8.a;have a3:Hid (Below w7.heap.size w7 al):=If (a8.a.trans (ba.out.mono h0));have er:Bt.Tree (FC S2 rr 0 (bnWords t (Bt.bn (Bt.rootOf rr m y1 y2)))) o1 t (Bt.rootOf rr m y1 y2)/\Bt.its (Bt.rootOf rr m y1 y2)=Bt.insB e (Bt.its x)/\(∀z∈Bt.nodes (Bt.rootOf rr m y1 y2),z∈Bt.nodes x\/reco S z=none)/\(∀z,z∉Bt.nodes x->reco S z≠none->reco (FC S2 rr 0 (bnWords t (Bt.bn (Bt.rootOf rr m y1 y2)))) z=reco S z)/\ej S (FC S2 rr 0 (bnWords t (Bt.bn (Bt.rootOf rr m y1 y2)))) (2*iD t e.k x) (iD t e.k x):=by
   obtain⟨t1,t2,t3,t4,t5,t6⟩:=HT.out;refine⟨t1,t2,fun z hz=>(t3 z hz).imp id fun hm=>H6.g z hm,fun z h1 h2=>(t4 z fun q=>h2 (H6.g z (q▸t6))).trans (HK.e z h1 fun hm=>h2 (H6.g z hm)),?_⟩;rw[HQ.out];exact(HK.f.trans t5).mono (by omega) (by omega)
  have bb:=If er;obtain⟨I,a1,a4⟩:=ic fun w'=>w'.heap[w7.heap.size]?=some (.cells #[.bool true,.int .u64 (m.kh:Nat),.int .u64 (m.vh:Nat),.int .u64 g] 406 (0,0))/\w'.heap[w.heap.size+1]?=some (.cells #[.int .u64 0,.int .u64 0] 137 (0,0));have b9:=fun x:Fq I=>(a1 _ x.ok).1;have b':=fun x:Fq I=>(a1 _ x.ok).2;obtain⟨s0,s1,s2,s3⟩:=iB b9;obtain⟨r0,r1⟩:=fw b';have hJ:∀W,Below al.heap.size al W->I W:=fun W hB=>a4 _ ⟨(hB.block _ (by omega)).trans ((ba.out.block _ gb).trans a8.d),(hB.block _ (by omega)).trans ((ba.out.block _ ho).trans a8.b)⟩;have a9:I al.drew:=hJ _ (aa _ al).drew;have bf:∀W w',Below al.heap.size al W->Fo (fun k=>(((Y k\/(w.heap.size<=k/\k<W4.heap.size))\/iJ w5.heap.size (w5.heap.size+1) v6 k)\/(w7.heap.size<=k/\k<W.heap.size))/\k≠w5.heap.size+1) W w'->I w':=fun W w' hB hk=>by
   have bk:=hB.size;have i3:=H7.out.2.2.2.1.size;have h':=(gl H7.out.2.2.2.2.1.box);have h1:=a1 _ (hJ W hB);exact a4 _ ⟨(hk.block _ ⟨ae ⟨Nat.le_refl _,by omega⟩,by omega⟩).trans h1.1,(hk.block _ ⟨ab (ab (ae ⟨by omega,by omega⟩)),by omega⟩).trans h1.2⟩
  have au:∀w',I w'->I ((w'.setCell ⟨w.heap.size+1,0,none⟩ (.int .u64 0)).setCell ⟨w.heap.size+1,1,none⟩ (.int .u64 0)):=fun w' hi=>a4 _ ⟨((FB (by omega)).trans (FB (by omega))).trans (a1 _ hi).1,heap_setCell (i:=1) (v:=.int .u64 0) (heap_setCell (i:=0) (v:=.int .u64 0) (a1 _ hi).2)⟩;have HJ:=If hJ;have bc:=If a1;clear b9 b' a1 a4 g9 er;refine Fi I (.take 0 (.take 1 (.take 2 (.take 3 (.take 5 (.take 6 (.take 7 (.take 9 (.take 10 (.take 11 (.take 13 (.take 16 (.three 4 8 12 (.two 8 12 (.go 12 (.take 14 (.go 15 (.go 17 (.go 18 (.go 19 (.go 20 .nil))))))) (.go 8 (.take 14 (.go 15 (.go 17 (.go 18 (.go 19 (.go 20 .nil)))))))) (.two 4 12 (.go 12 (.take 14 (.go 15 (.go 17 (.go 18 (.go 19 (.go 20 .nil))))))) (.go 4 (.take 14 (.go 15 (.go 17 (.go 18 (.go 19 (.go 20 .nil)))))))) (.two 4 8 (.go 8 (.take 14 (.go 15 (.go 17 (.go 18 (.go 19 (.go 20 .nil))))))) (.go 4 (.take 14 (.go 15 (.go 17 (.go 18 (.go 19 (.go 20 .nil))))))))))))))))))))) (by kernel_rfl) (by kernel_rfl) a9 ?_
  iterate 12
   refine' lq ?_ ?_;rotate_left
   ·intro x;go_simp
    try rfl
   try simp only[pu]
  clear s0 s1 s2 s3 r0 r1;refine Dx ?_ ?_ ?_
  ·have T4:=ku al (.cells #[.int .u64 (m.kh:Nat)] 83) (.cells #[.int .u64 (m.kh:Nat)] 83) (.cells #[.int .u64 (m.kh:Nat)] 83);refine eG fun K hK=>?_;go_simp
   try go_simp
   refine hK.out _ _ (HJ.out _ T4.1) ?_;clear hK K
   try simp only[pu]
   clear T4;refine rP ?_ ?_
   ·have T4:=ku al (.cells #[.int .u64 (m.kh:Nat)] 83) (.cells #[.int .u64 (m.vh:Nat)] 83) (.cells #[.int .u64 (Bt.hd x:Nat),.int .u64 g] 83);refine eG fun K hK=>?_;go_simp
    try go_simp
    refine hK.out _ _ (HJ.out _ T4.2.1) ?_;clear hK K
    try simp only[pu]
    refine eG fun K hK=>?_;go_simp
    try go_simp
    refine hK.out _ _ (HJ.out _ T4.2.2.1) ?_;clear hK K
    try simp only[pu]
    refine' lq ?_ ?_;rotate_left
    ·intro x;go_simp
     try rfl
    try simp only[pu]
    refine eG fun K hK=>?_;go_simp;refine(HA.out _ al.heap.size (al.heap.size+1) (al.heap.size+2) (a3.out.trans (T4.2.2.1.mono (by omega))) (by omega) (by omega) (by omega) T4.2.2.2.1 T4.2.2.2.2.1 T4.2.2.2.2.2).mono ?_;exact qByaa
   ·have T4:=ku al (.cells #[.int .u64 (m.kh:Nat)] 83) (.cells #[.int .u64 (Bt.hd x:Nat),.int .u64 g] 83) (.cells #[.int .u64 (m.vh:Nat)] 83);refine eG fun K hK=>?_;go_simp
    try go_simp
    refine hK.out _ _ (HJ.out _ T4.2.1) ?_;clear hK K
    try simp only[pu]
    refine eG fun K hK=>?_;go_simp
    try go_simp
    refine hK.out _ _ (HJ.out _ T4.2.2.1) ?_;clear hK K
    try simp only[pu]
    refine' lq ?_ ?_;rotate_left
    ·intro x;go_simp
     try rfl
    try simp only[pu]
    refine eG fun K hK=>?_;go_simp;refine(HA.out _ al.heap.size (al.heap.size+2) (al.heap.size+1) (a3.out.trans (T4.2.2.1.mono (by omega))) (by omega) (by omega) (by omega) T4.2.2.2.1 T4.2.2.2.2.2 T4.2.2.2.2.1).mono ?_;exact qByaa
  ·have T4:=ku al (.cells #[.int .u64 (m.vh:Nat)] 83) (.cells #[.int .u64 (m.vh:Nat)] 83) (.cells #[.int .u64 (m.vh:Nat)] 83);refine eG fun K hK=>?_;go_simp
   try go_simp
   refine hK.out _ _ (HJ.out _ T4.1) ?_;clear hK K
   try simp only[pu]
   clear T4;refine rP ?_ ?_
   ·have T4:=ku al (.cells #[.int .u64 (m.vh:Nat)] 83) (.cells #[.int .u64 (m.kh:Nat)] 83) (.cells #[.int .u64 (Bt.hd x:Nat),.int .u64 g] 83);refine eG fun K hK=>?_;go_simp
    try go_simp
    refine hK.out _ _ (HJ.out _ T4.2.1) ?_;clear hK K
    try simp only[pu]
    refine eG fun K hK=>?_;go_simp
    try go_simp
    refine hK.out _ _ (HJ.out _ T4.2.2.1) ?_;clear hK K
    try simp only[pu]
    refine' lq ?_ ?_;rotate_left
    ·intro x;go_simp
     try rfl
    try simp only[pu]
    refine eG fun K hK=>?_;go_simp;refine(HA.out _ (al.heap.size+1) al.heap.size (al.heap.size+2) (a3.out.trans (T4.2.2.1.mono (by omega))) (by omega) (by omega) (by omega) T4.2.2.2.2.1 T4.2.2.2.1 T4.2.2.2.2.2).mono ?_;exact qByaa
   ·have T4:=ku al (.cells #[.int .u64 (m.vh:Nat)] 83) (.cells #[.int .u64 (Bt.hd x:Nat),.int .u64 g] 83) (.cells #[.int .u64 (m.kh:Nat)] 83);refine eG fun K hK=>?_;go_simp
    try go_simp
    refine hK.out _ _ (HJ.out _ T4.2.1) ?_;clear hK K
    try simp only[pu]
    refine eG fun K hK=>?_;go_simp
    try go_simp
    refine hK.out _ _ (HJ.out _ T4.2.2.1) ?_;clear hK K
    try simp only[pu]
    refine' lq ?_ ?_;rotate_left
    ·intro x;go_simp
     try rfl
    try simp only[pu]
    refine eG fun K hK=>?_;go_simp;refine(HA.out _ (al.heap.size+2) al.heap.size (al.heap.size+1) (a3.out.trans (T4.2.2.1.mono (by omega))) (by omega) (by omega) (by omega) T4.2.2.2.2.2 T4.2.2.2.1 T4.2.2.2.2.1).mono ?_;exact qByaa
  ·have T4:=ku al (.cells #[.int .u64 (Bt.hd x:Nat),.int .u64 g] 83) (.cells #[.int .u64 (Bt.hd x:Nat),.int .u64 g] 83) (.cells #[.int .u64 (Bt.hd x:Nat),.int .u64 g] 83);refine eG fun K hK=>?_;go_simp
   try go_simp
   refine hK.out _ _ (HJ.out _ T4.1) ?_;clear hK K
   try simp only[pu]
   clear T4;refine rP ?_ ?_
   ·have T4:=ku al (.cells #[.int .u64 (Bt.hd x:Nat),.int .u64 g] 83) (.cells #[.int .u64 (m.kh:Nat)] 83) (.cells #[.int .u64 (m.vh:Nat)] 83);refine eG fun K hK=>?_;go_simp
    try go_simp
    refine hK.out _ _ (HJ.out _ T4.2.1) ?_;clear hK K
    try simp only[pu]
    refine eG fun K hK=>?_;go_simp
    try go_simp
    refine hK.out _ _ (HJ.out _ T4.2.2.1) ?_;clear hK K
    try simp only[pu]
    refine' lq ?_ ?_;rotate_left
    ·intro x;go_simp
     try rfl
    try simp only[pu]
    refine eG fun K hK=>?_;go_simp;refine(HA.out _ (al.heap.size+1) (al.heap.size+2) al.heap.size (a3.out.trans (T4.2.2.1.mono (by omega))) (by omega) (by omega) (by omega) T4.2.2.2.2.1 T4.2.2.2.2.2 T4.2.2.2.1).mono ?_;exact qByaa
   ·have T4:=ku al (.cells #[.int .u64 (Bt.hd x:Nat),.int .u64 g] 83) (.cells #[.int .u64 (m.vh:Nat)] 83) (.cells #[.int .u64 (m.kh:Nat)] 83);refine eG fun K hK=>?_;go_simp
    try go_simp
    refine hK.out _ _ (HJ.out _ T4.2.1) ?_;clear hK K
    try simp only[pu]
    refine eG fun K hK=>?_;go_simp
    try go_simp
    refine hK.out _ _ (HJ.out _ T4.2.2.1) ?_;clear hK K
    try simp only[pu]
    refine' lq ?_ ?_;rotate_left
    ·intro x;go_simp
     try rfl
    try simp only[pu]
    refine eG fun K hK=>?_;go_simp;refine(HA.out _ (al.heap.size+2) (al.heap.size+1) al.heap.size (a3.out.trans (T4.2.2.1.mono (by omega))) (by omega) (by omega) (by omega) T4.2.2.2.2.2 T4.2.2.2.2.1 T4.2.2.2.1).mono ?_;exact qByaa
end
section
open Lf Tr
namespace Bt
variable{d:Nat}{e:It}{key:List UInt8}
def eD(e d:It):It:=if d.k=e.k then e else d
theorem wI(e d:It):(eD e d).k=d.k:=by
 unfold eD
 split
 ·rename_i h;exact h.symm
 ·rfl
theorem mg{e d:It}(h:d.k≠e.k):eD e d=d:=if_neg h
def eA(f:It->It): {d:Nat} ->Bt d->Bt d
 | 0,x=>nomatch x
 | d+1,x=>(⟨Bn.h x,(Bn.es x).map f,(Bn.ks x).map fun k=>eA f k⟩:Bn (Bt d))
theorem CI(f:It->It)(x:Bt (d+1)):eA f x=(⟨Bn.h x,(Bn.es x).map f,(Bn.ks x).map (eA f)⟩:Bn (Bt d)):=rfl
theorem ta(f:It->It):∀(es:List It) (ks:List (List It)),ei (es.map f) (ks.map (List.map f))=(ei es ks).map f
 | [],[]=>rfl
 | [],_::_=>rfl
 | e::es,[]=>by
  have:=ta f es [];simp only[aM,List.map_nil] at this⊢;rw[ei,ei,aM,this]
 | e::es,k::ks=>by
  have:=ta f es ks;simp only[aM];rw[ei,ei,aL,aM,this]
theorem xW:∀(es:List It) (ks:List (List It)),(ks=[]\/ks.length=es.length+1)->(ei es ks).Perm (es++ks.flatten)
 | [],[],_=>List.Perm.refl _
 | [],[k],_=>by simp[ei]
 | [],_::_::_,h=>by simp at h
 | e::es,[],_=>by rw[jY];simp
 | e::es,k::ks,h=>by
  have ih:=xW es ks (ae (by simpa using h));rw[ei,dA];refine List.perm_middle.trans (List.Perm.cons e ((ih.append_left k).trans ?_));show (k++(es++ks.flatten)).Perm (es++(k++ks.flatten))
  rw[<-bW,<-bW];exact List.Perm.append_right _ List.perm_append_comm
theorem ln(f:It->It):∀{d:Nat} (x:Bt d),its (eA f x)=(its x).map f
 | 0,x=>nomatch x
 | d+1,x=>by
  show ei ((Bn.es x).map f) (((Bn.ks x).map (eA f)).map its)=(ei (Bn.es x) ((Bn.ks x).map its)).map f
  rw[<-ta,cN,cN];congr 1
  exact aR fun k _=>ln f k
theorem lW(f:It->It):∀{d:Nat} (x:Bt d),nodes (eA f x)=nodes x
 | 0,x=>nomatch x
 | d+1,x=>by
  show Bn.h x::(((Bn.ks x).map (eA f)).map nodes).flatten=Bn.h x::((Bn.ks x).map nodes).flatten
  rw[cN];congr 2
  exact aR fun k _=>lW f k
theorem mapB_hd(f:It->It):∀{d:Nat} (x:Bt d),hd (eA f x)=hd x
 | 0,x=>nomatch x
 | _+1,_=>rfl
theorem vE(f:It->It):∀{d:Nat} (x:Bt d),nk (eA f x)=nk x
 | 0,x=>nomatch x
 | _+1,x=>by
  show ((Bn.es x).map f).length=(Bn.es x).length
  rw[aq]
theorem vF(f:It->It){t:Nat}:∀{d:Nat} {x:Bt d},Ok t x->Ok t (eA f x)
 | 0,x,_=>nomatch x
 | d+1,x,h=>by
  obtain⟨h1,h2,h3⟩:=h;refine⟨?_,?_,?_⟩
  ·show ((Bn.es x).map f).length<=_
   rw[aq];exact h1
  ·show ((Bn.ks x).map (eA f)).length=if d=0 then 0 else((Bn.es x).map f).length+1
   rw[aq,aq];exact h2
  ·intro k hk;have hk:k∈(Bn.ks x).map (eA f):=hk;obtain⟨c,hc,rfl⟩:=aC.1 hk;exact⟨vF f (h3 c hc).1,by rw[vE];exact(h3 c hc).2⟩
theorem rC {f:It->It}{t:Nat}:∀{d:Nat} {x:Bt d},Ok t x->(∀a∈its x,f a=a)->eA f x=x
 | 0,x,_,_=>nomatch x
 | d+1,x,h,hf=>by
  have e1:(Bn.es x).map f=Bn.es x:=(aR fun a ha=>(hf a (lN h.okN ha):f a=id a)).trans (dO _);have e2:(Bn.ks x).map (eA f)=Bn.ks x:=(aR fun k hk=>(rC (h.2.2 k hk).1 fun a ha=>hf a (kid_its h.okN hk ha):eA f k=id k)).trans (dO _);rw[CI,e1,e2];rfl
theorem og{α:Type}{R:α->α->Prop}{L:List (List α)}(h:L.flatten.Pairwise R){i j:Nat}(hi:i<L.length)(hj:j<L.length)(hij:i<j):∀x∈L[i],∀y∈L[j],R x y:=by
 have:=(List.pairwise_flatten.1 h).2;rw[cL] at this;exact this i j hi hj hij
def nodeB(key:List UInt8): {d:Nat} ->Bt d->Option (Nat×BN×Nat)
 | 0,x=>nomatch x
 | _+1,x=>if fo key (Bn.es x)=true then some (Bn.h x,bn x,Fr key (Bn.es x)) else match (Bn.ks x)[Fr key (Bn.es x)]? with | some k=>nodeB key k | none=>none
theorem nodeB_here{x:Bt (d+1)}(h:fo key (Bn.es x)=true):nodeB key x=some (hd x,bn x,Fr key (Bn.es x)):=if_pos h
theorem nodeB_down{x:Bt (d+1)}(h:fo key (Bn.es x)=false){k:Bt d}(hk:(Bn.ks x)[Fr key (Bn.es x)]?=some k):nodeB key x=nodeB key k:=by
 show (if fo key (Bn.es x)=true then some (Bn.h x,bn x,Fr key (Bn.es x)) else match (Bn.ks x)[Fr key (Bn.es x)]? with | some k=>nodeB key k | none=>none)=_
 rw[if_neg (by rw[h];decide),hk]
theorem nodeB_none{x:Bt (d+1)}(h:fo key (Bn.es x)=false)(hk:(Bn.ks x)[Fr key (Bn.es x)]?=none):nodeB key x=none:=by
 show (if fo key (Bn.es x)=true then some (Bn.h x,bn x,Fr key (Bn.es x)) else match (Bn.ks x)[Fr key (Bn.es x)]? with | some k=>nodeB key k | none=>none)=_
 rw[if_neg (by rw[h];decide),hk]
def setN(n:BN)(k:Nat)(e:It):BN:= { n with keys:=n.keys.set k e.kh,vals:=n.vals.set k e.vh }
theorem Ca{a b:It}(h:eU a b):a.k≠b.k:=ne_of_lt h
theorem vd{t d:Nat}{x:Bt (d+1)}(ok:Ok t x)(hs:(its x).Pairwise eU):(Bn.es x++((Bn.ks x).map its).flatten).Pairwise fun a b=>a.k≠b.k:=by
 have h1:(its x).Pairwise fun a b=>a.k≠b.k:=hs.imp Ca;refine(List.Perm.pairwise_iff (fun h=>Ne.symm h) (xW _ _ ?_)).1 (by rw[<-el];exact h1)
 rcases ok.okN.rows with⟨h0,_⟩ | ⟨h0,_⟩
 ·exact ab h0
 ·exact ae h0
theorem D8{es:List It}(hs:es.Pairwise fun a b=>a.k≠b.k){k:Nat}(hk:k<es.length)(he:es[k].k=e.k):es.map (eD e)=es.set k e:=by
 refine dD (by simp) fun i h1 h2=>?_;rw[aq] at h1;rw[bq,List.getElem_set]
 by_cases q:k=i
 ·subst q;rw[if_pos rfl];exact if_pos he
 ·rw[if_neg q];rw[cL] at hs;refine mg fun q1=>?_
  rcases cg i k with h3 | h3
  ·exact hs i k h1 hk h3 (q1.trans he.symm)
  ·exact hs k i hk h1 (by omega) (he.trans q1.symm)
theorem CY{t d:Nat}{l:List (Bt d)}(ok:∀k∈l,Ok t k)(h:∀a∈(l.map its).flatten,a.k≠e.k):l.map (eA (eD e))=l:=
 (aR fun k hk=>(rC (ok k hk) fun a ha=>mg (h a (cM.2 ⟨its k,aC.2 ⟨k,hk,rfl⟩,ha⟩)):eA (eD e) k=id k)).trans (dO _)
structure RepAt (S:St) (o:Nat->Nat) (t:Nat) {d:Nat} (x:Bt d) (e e0:It) (g:Nat) (n:BN) (k:Nat):Prop where
 find:findB e.k (its x)=some e0
 key:n.keys[k]?=some e0.kh
 val:n.vals[k]?=some e0.vh
 mem:g∈nodes x
 bnok:iU t (setN n k e)
 words:∀v∈bnWords t (setN n k e),v<2^64
 len:reco S g=some (bnWords t n)
 fit:Fw (FC S g 0 (bnWords t (setN n k e))) o
 at':At (FC S g 0 (bnWords t (setN n k e))) t (eA (eD e) x)
 fr:∀z,z≠g->reco (FC S g 0 (bnWords t (setN n k e))) z=reco S z
 grew:ej S (FC S g 0 (bnWords t (setN n k e))) 0 0
theorem D7{S:St}{o:Nat->Nat}{t d:Nat}{x:Bt (d+1)}(he:e.kh<2^64/\e.vh<2^64)(hx:Walk S o t x)(hn:(nodes x).Nodup)(hb:ItLt (its x))(h:fo e.k (Bn.es x)=true):
 ∃e0,RepAt S o t x e e0 (hd x) (bn x) (Fr e.k (Bn.es x)):=by
 obtain⟨hk,ai⟩:=mO h;have ka:=vd hx.ok hx.sorted;obtain⟨k1,k2,k3⟩:=bC.1 ka;have a0:=D8 k1 hk ai;have ar:(Bn.ks x).map (eA (eD e))=Bn.ks x:=CY (fun k hk=>(hx.ok.2.2 k hk).1) fun a ha q=>k3 _ (aG hk) a ha (ai.trans q.symm);have au:(its (eA (eD e) x)).length=(its x).length:=by rw[ln,aq]
 have ao:bn (eA (eD e) x)=setN (bn x) (Fr e.k (Bn.es x)) e:=by
  have e1:Bn.es (eA (eD e) x)=(Bn.es x).set (Fr e.k (Bn.es x)) e:=a0;have e2:Bn.ks (eA (eD e) x)=Bn.ks x:=ar;unfold bn setN;rw[e1,e2,au,dS,dS]
 have a3:∀a∈Bn.es (eA (eD e) x),a.kh<2^64/\a.vh<2^64:=fun a ha=>by
  have e1:Bn.es (eA (eD e) x)=(Bn.es x).set (Fr e.k (Bn.es x)) e:=a0;rw[e1] at ha
  rcases cJ ha with q | rfl
  ·exact hb a (lN hx.ok.okN q)
  ·exact he
 have ap:∀k∈Bn.ks (eA (eD e) x),At S t k:=fun k hk=>by
  have e2:Bn.ks (eA (eD e) x)=Bn.ks x:=ar;rw[e2] at hk;exact hx.at'.2 k hk
 have an:=bnLt_of (x:=eA (eD e) x) hx.fit a3 ap (by rw[au];have:=hx.few;omega);have a4:∀k∈Bn.ks (eA (eD e) x),hd (eA (eD e) x)∉nodes k:=hd_kids (by rw[lW];exact hn);have a6:(Bn.es (eA (eD e) x)).length<=31:=by
  show ((Bn.es x).map (eD e)).length<=31
  rw[aq];exact hx.es.2.2
 have a5:(bnWords t (bn x)).length=6*t:=jJ ..;have hp:=put_node (x:=eA (eD e) x) hx.fit ap a4 (ws:=bnWords t (bn x)) hx.at'.1 a5 an (by omega);have ad:=hx.at'.bnok hx.fit hx.t1 hx.t2 hx.ok;have a1:=kX (t:=t) an (by unfold bn;rw[aq];omega);rw[ao,mapB_hd] at hp;rw[ao] at a1;obtain⟨p1,p2,p3,p4⟩:=hp;have a2:findB e.k (its x)=some (Bn.es x)[Fr e.k (Bn.es x)]:=by
  have al:=hx.sorted;rw[el] at al⊢
  rcases hx.ok.okN.rows with⟨h0,_⟩ | ⟨h0,_⟩
  ·rw[h0,jY] at al⊢;exact vm al hk ai
  ·exact((l7 h0 al).here hk ai).1
 exact⟨(Bn.es x)[Fr e.k (Bn.es x)],a2,by unfold bn;simp[List.getElem?_eq_getElem hk],by unfold bn;simp[List.getElem?_eq_getElem hk],hd_mem x,⟨ad.lo,ad.hi,by unfold setN;rw[bG];exact ad.many,by unfold setN;rw[bG,bG];exact ad.vals,by unfold setN;rw[bG];exact ad.kids⟩,a1,hx.at'.1,p1,p2,p3,p4⟩
theorem rep_at {S:St}{o:Nat->Nat}{t:Nat}{e:It}(he:e.kh<2^64/\e.vh<2^64){g:Nat}{n:BN}{k:Nat}:
 ∀{d:Nat} {x:Bt d},Walk S o t x->(nodes x).Nodup->ItLt (its x)->nodeB e.k x=some (g,n,k)->∃e0,RepAt S o t x e e0 g n k
 | 0,x,_,_,_,_=>nomatch x
 | d+1,x,hx,hn,hb,hnb=>by
  cases hh:fo e.k (Bn.es x) with
  | true=>
   rw[nodeB_here hh] at hnb;cases hnb
   exact D7 he hx hn hb hh
  | false=>
   cases hj:(Bn.ks x)[Fr e.k (Bn.es x)]? with
   | none=>
    rw[nodeB_none hh hj] at hnb;cases hnb
   | some c=>
    rw[nodeB_down hh hj] at hnb;obtain⟨an,ad⟩:=aA.1 hj;have ai:c∈Bn.ks x:=by rw[<-ad];exact aG _
    have ap:((Bn.ks x).map nodes).flatten.Nodup:=(aF.1 hn).2;have a8:(nodes c).Nodup:=(List.pairwise_flatten.1 ap).1 _ (aC.2 ⟨c,ai,rfl⟩);obtain⟨e0,r⟩:=rep_at he (hx.kid ai) a8 (fun a ha=>hb a (kid_its hx.ok.okN ai ha)) hnb;have a6:g∈nodes x:=mem_nodes_kid ai r.mem;have a5:hd x≠g:=fun q=>hd_kids hn c ai (q▸r.mem);have ka:=vd hx.ok hx.sorted;obtain⟨k1,k2,k3⟩:=bC.1 ka;obtain⟨f1,f2⟩:e0∈its c/\e0.k=e.k:=by
     have:=r.find;unfold findB at this;exact⟨bP this,by simpa using cG this⟩
    have a4:(Bn.es x).map (eD e)=Bn.es x:=(aR fun a ha=>(mg fun q=>k3 a ha e0 (cM.2 ⟨its c,aC.2 ⟨c,ai,rfl⟩,f1⟩) (q.trans f2.symm):eD e a=id a)).trans (dO _);have a7:(its (eA (eD e) x)).length=(its x).length:=by rw[ln,aq]
    have a3:bn (eA (eD e) x)=bn x:=by
     have e1:Bn.es (eA (eD e) x)=Bn.es x:=a4;have e2:(Bn.ks (eA (eD e) x)).map hd=(Bn.ks x).map hd:=by
      show ((Bn.ks x).map (eA (eD e))).map hd=_
      rw[cN];exact aR fun k _=>mapB_hd (eD e) k
     unfold bn;rw[e1,e2,a7]
    refine⟨e0,?_,r.key,r.val,a6,r.bnok,r.words,r.len,r.fit,⟨?_,fun k hk=>?_⟩,r.fr,r.grew⟩
    ·have a2:=hx.sorted;rw[el] at a2⊢;rcases hx.ok.okN.rows with⟨h0,_⟩ | ⟨h0,_⟩
     ·rw[List.map_eq_nil_iff] at h0;rw[h0] at hj;cases hj
     ·rw[(l7 h0 a2).down (mN hh)];have a9:Fr e.k (Bn.es x)<((Bn.ks x).map its).length:=by rw[aq];exact an
      have:((Bn.ks x).map its).getD (Fr e.k (Bn.es x)) []=its c:=by rw[jN an,ad]
      rw[this];exact r.find
    ·show reco _ (Bn.h x)=some (bnWords t (bn (eA (eD e) x)))
     rw[a3];exact(r.fr _ a5).trans hx.at'.1
    ·have hk:k∈(Bn.ks x).map (eA (eD e)):=hk;obtain⟨c',ao,rfl⟩:=aC.1 hk;obtain⟨i,hi,al⟩:=co.1 ao;by_cases q:i=Fr e.k (Bn.es x)
     ·subst q;have:c'=c:=al.symm.trans ad;rw[this];exact r.at'
     ·have ar:i<((Bn.ks x).map its).length:=by rw[aq];exact hi
      have a0:Fr e.k (Bn.es x)<((Bn.ks x).map its).length:=by rw[aq];exact an
      have au:i<((Bn.ks x).map nodes).length:=by rw[aq];exact hi
      have a1:Fr e.k (Bn.es x)<((Bn.ks x).map nodes).length:=by rw[aq];exact an
      have hz:∀a∈its c',a.k≠e.k:=fun a ha q1=>by
       rcases cg i (Fr e.k (Bn.es x)) with h3 | h3
       ·exact og k2 ar a0 h3 a (by rw[bq,al];exact ha) e0 (by rw[bq,ad];exact f1) (q1.trans f2.symm)
       ·exact og k2 a0 ar (by omega) e0 (by rw[bq,ad];exact f1) a (by rw[bq,al];exact ha) (f2.trans q1.symm)
      rw[rC (hx.ok.2.2 c' ao).1 fun a ha=>mg (hz a ha)];refine(hx.at'.2 c' ao).frame fun z hz1=>r.fr z fun q1=>?_;rcases cg i (Fr e.k (Bn.es x)) with h3 | h3
      ·exact og ap au a1 h3 z (by rw[bq,al];exact hz1) g (by rw[bq,ad];exact r.mem) q1
      ·exact og ap a1 au (by omega) g (by rw[bq,ad];exact r.mem) z (by rw[bq,al];exact hz1) q1.symm
theorem nodeB_some {S:St}{o:Nat->Nat}{t:Nat}{key:List UInt8}:∀{d:Nat} {x:Bt d},Walk S o t x->(findB key (its x)).isSome=true->∃r,nodeB key x=some r
 | 0,x,_,_=>nomatch x
 | d+1,x,hx,hf=>by
  cases hh:fo key (Bn.es x) with
  | true=>exact⟨_,nodeB_here hh⟩
  | false=>
   have ad:=hx.sorted;rw[el] at ad hf;rcases hx.ok.okN.rows with⟨h0,_⟩ | ⟨h0,_⟩
   ·rw[h0,jY] at ad hf;rw[findB_none (vl ad (mN hh))] at hf;cases hf
   ·rw[(l7 h0 ad).down (mN hh)] at hf;have al:=kH (key:=key) (Bn.es x);have ai:Fr key (Bn.es x)<(Bn.ks x).length:=by rw[aq] at h0;omega
    rw[jN ai] at hf;obtain⟨r,hr⟩:=nodeB_some (hx.kid (aG ai)) hf;exact⟨r,(nodeB_down hh (af ai)).trans hr⟩
end Bt
