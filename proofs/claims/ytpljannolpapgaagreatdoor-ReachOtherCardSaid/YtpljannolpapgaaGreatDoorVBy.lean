/- B-trees: Insert of a key that is not there: the walk. -/
import Derived.Test.YtpljannolpapgaaGreatDoorVBj
import Derived.Test.YtpljannolpapgaaGreatDoorVBk
set_option maxRecDepth 100000
set_option maxHeartbeats 6400000
namespace Go.Proofs.YtpljannolpapgaaGreatDoor
section
open Go.RowKit Tryz Go.BigFrame Go.Maps Go.WideMaps Lf Tr
open Go.Shelf
theorem Bt.trail_le:∀p:List Bool,Bt.trail p<=p.length
 | []=>Nat.le_refl _
 | b::r=>by
  unfold Bt.trail;have:=Bt.trail_le r;rw[ag];split
  ·split<;>omega
  ·omega
theorem uB(t:Nat)(key:List UInt8):∀{d:Nat} (x:Bt d),(Bt.fullB t key x).length<=d
 | 0,x=>nomatch x
 | d+1,x=>by
  unfold Bt.fullB;rw[ag];cases h:(Bn.ks x)[Fr key (Bn.es x)]? with
  | none=>simp
  | some k=>have:=uB t key k;simp only;omega
def iD(t:Nat)(key:List UInt8){d:Nat}(x:Bt (d+1)):Nat:=Bt.needB 0 true (Bt.fullB t key x)
theorem oE(t:Nat)(key:List UInt8){d:Nat}(x:Bt (d+1)):iD t key x=Bt.trail (Bt.fullB t key x)+(if(Bt.fullB t key x).all id=true then 1 else 0)/\iD t key x<=d+2:=by
 have h:=Bt.need_zero (Bt.fullB t key x);have h1:=Bt.trail_le (Bt.fullB t key x);have h2:=uB t key x;refine⟨h,?_⟩;unfold iD;rw[h];split<;>omega
theorem ku(w:World)(o1 o2 o3:Obj):Below w.heap.size w (w.drew.alloc o1)/\Below w.heap.size w ((w.drew.alloc o1).alloc o2)/\Below w.heap.size w (((w.drew.alloc o1).alloc o2).alloc o3)/\(((w.drew.alloc o1).alloc o2).alloc o3).heap[w.heap.size]?=some o1/\(((w.drew.alloc o1).alloc o2).alloc o3).heap[w.heap.size+1]?=some o2/\(((w.drew.alloc o1).alloc o2).alloc o3).heap[w.heap.size+2]?=some o3:=by
 have z1:(w.drew.alloc o1).heap.size=w.heap.size+1:=by simp
 have z2:((w.drew.alloc o1).alloc o2).heap.size=w.heap.size+2:=by simp
 have b1:=((aa w.heap.size w).drew).alloc Ih o1;have c2:=(aa (w.drew.alloc o1).heap.size (w.drew.alloc o1)).alloc Ih o2;have c3:=(aa ((w.drew.alloc o1).alloc o2).heap.size ((w.drew.alloc o1).alloc o2)).alloc Ih o3;have q1:=heap_alloc_new w.drew o1;have q2:=heap_alloc_new (w.drew.alloc o1) o2;have q3:=heap_alloc_new ((w.drew.alloc o1).alloc o2) o3;have r1:=(c3.block w.heap.size (by omega)).trans ((c2.block w.heap.size (by omega)).trans q1);rw[z1] at q2;rw[z2] at q3;have r2:=(c3.block (w.heap.size+1) (by omega)).trans q2;exact⟨b1,b1.trans (c2.mono (by rw[z1];omega)),(b1.trans (c2.mono (by rw[z1];omega))).trans (c3.mono (by rw[z2];omega)),r1,r2,q3⟩
theorem qByaa{P:Prop}(h:P:=by
 rintro en au ⟨rfl,ch,a2,ar,a8,a7⟩;have bo:=T4.2.2.1.size;have ad:I au:=bk _ _ T4.2.2.1 ar;have hold:=(bf.out _ ad).2;have kF:Fo Y w au:=(HK.a.trans (Fo.of_below (a5.out.trans (T4.2.2.1.mono (by omega))) fun k hk=>by have:=HK.g k hk;have:=HK.a.size;omega)).trans (ar.mono fun k hk=>⟨ab (ab (ab hk)),by have:=HK.g k hk;omega⟩);obtain⟨x0,x1⟩:=Fp hold;obtain⟨f0,f1⟩:=ef hold;have ap:=kq3 hold a2 kF;clear ar a8 a7 hold a2 kF T4
 try go_simp
 refine hK.out _ _ ad ?_;clear hK K
 try simp only[pu]
 refine eG fun K hK=>?_;go_simp
 try go_simp
 refine hK.out _ _ ad ?_;clear hK K
 try simp only[pu]
 refine eG fun K hK=>?_;go_simp
 try go_simp
 refine hK.out _ _ (a1 _ ad) ?_;clear hK K
 try simp only[pu]
 refine eG fun K hK=>?_;go_simp
 try go_simp
 refine hK.out _ _ (a1 _ ad) ?_;clear hK K
 try simp only[pu]
 refine eG fun K hK=>?_;go_simp
 try go_simp
 refine hK.out _ _ (a1 _ ad) ?_;clear hK K
 try simp only[pu]
 refine dX ?_;go_wp2_with fail;obtain⟨WF,ai⟩:=Ii ((au.setCell ⟨w.heap.size+1,0,none⟩ (Xu 0)).setCell ⟨w.heap.size+1,1,none⟩ (Xu 0));rw[ai];have eF:WF.heap[w.heap.size+1]?=some (.cells #[Xu 0,Xu 0] 104 (0,0)):=by
  rw[<-ai];exact heap_setCell (i:=1) (v:=Xu 0) (heap_setCell (i:=0) (v:=Xu 0) ap.a)
 have a4:Ig WF ps (FC S2 rr 0 (bnWords t (Bt.bn (Bt.rootOf rr m y1 y2)))) Y:=by
  rw[<-ai];exact(ap.b.write (b:=w.heap.size+1) (ab (ab (ae ⟨by omega,by omega⟩))) ap.a ⟨by decide,by decide⟩ (by simp) (by simp) fun k _ hk=>(FB hk).trans (FB hk)).mono fun k hk=>ab (ab (ab hk))
 have kF:Fo Y w WF:=by
  rw[<-ai];have a0:∀k,Y k->k≠w.heap.size+1:=fun k hk=>by have:=HK.g k hk;omega
  exact(ap.c.trans (Fo.mark a0)).trans (Fo.mark a0)
 clear ai x0 x1 f0 f1;obtain⟨u0,u1⟩:=Fp eF;exact bodyPost_ret (v:=.tuple #[Xu (rr:Nat),.agg #[Xu 0,Xu 0],.bool false,Xi 0]) (by simp[results,f137,go_sem,u0,u1]) rfl ⟨d+1,Bt.rootOf rr m y1 y2,_,o1,rfl,a4,kF,bd.out⟩):P:=h
theorem zI(hins:∀d,j4 d){w:World}{ps:Nat}{S:St}{o:Nat->Nat}{Y:Nat->Prop}(h:Ig w ps S Y){t d:Nat}{x:Bt (d+1)}(hx:Bt.Tree S o t x){e:It}(hn:Bt.New S x e)(hr:fc S (2*iD t e.k x) (iD t e.k x)):
 Ct 137 #[PV ps,Xi t,Xu (Bt.hd x:Nat),Id e.kh e.vh] w fun en w'=>∃(d':Nat) (y:Bt (d'+1)) (S':St) (o':Nat->Nat),en=.returned (.tuple #[Xu (Bt.hd y:Nat),Id 0 0,.bool false,Xi 0])/\Ig w' ps S' Y/\Fo Y w w'/\Bt.Tree S' o' t y/\Bt.its y=Bt.insB e (Bt.its x)/\(∀z∈Bt.nodes y,z∈Bt.nodes x\/reco S z=none)/\(∀z,z∉Bt.nodes x->reco S z≠none->reco S' z=reco S z)/\ej S S' (2*iD t e.k x) (iD t e.k x):=by
 have B0:=((aa w.heap.size w).alloc Ih (Xe e.kh e.vh)).alloc (by simp) (.cells #[Xu 0,Xu 0] 104);have z1:(w.alloc (Xe e.kh e.vh)).heap.size=w.heap.size+1:=by simp
 have q1:=heap_alloc_new w (Xe e.kh e.vh);have q2:=heap_alloc_new (w.alloc (Xe e.kh e.vh)) (.cells #[Xu 0,Xu 0] 104);have q1:=(((aa (w.alloc (Xe e.kh e.vh)).heap.size (w.alloc (Xe e.kh e.vh))).alloc Ih (.cells #[Xu 0,Xu 0] 104)).block w.heap.size (by simp)).trans q1;rw[z1] at q2;have hz:((w.alloc (Xe e.kh e.vh)).alloc (.cells #[Xu 0,Xu 0] 104)).heap.size=w.heap.size+2:=by simp
 generalize hW:(w.alloc (Xe e.kh e.vh)).alloc (.cells #[Xu 0,Xu 0] 104)=W0 at*;have A1:=(aa W0.heap.size W0).alloc Ih (Xd ps t);have q3:=heap_alloc_new W0 (Xd ps t);have b9:(W0.alloc (Xd ps t)).heap.size=w.heap.size+3:=by simp[hz]
 have hw:=hx.walk;have hi:=hx.fit.inv;have has:=kZ (h.below B0) hi hx.t1 hx.t2;obtain⟨W1,ev⟩:=Ii (W0.alloc (Xd ps t));rw[ev] at A1 q3 b9;have B1:=B0.trans (A1.mono (by omega));rw[hz] at q3;have dv:=jt hx.fit hn.blobs.lk hn.blobs.k;have dp:=iz (h.below B1) hi e.kh (Bt.blobs_lt hx.fit hn.blobs).1 (by rw[dv];simp);rw[dv] at dp;have q1:=(A1.block _ (by omega)).trans q1;have q2:=(A1.block _ (by omega)).trans q2;obtain⟨x0,x1⟩:=Fp q1;have H0:=kq7 h hx hn hr hw hi b9;have H1:=kq4 B1 q1 q2 q3;have ed:=If has;have ee:=If dp;have h9:Bt.hd x≠0:=(Bt.At.hd_ok hx.fit hx.at').1;have h':((Bt.hd x:Nat):Int)≠0:=by omega
 clear z1 q1 q2 q3 B0 B1 A1 hw hi has dv dp h hx hn hr;unfold Id;go_enter func137,ntmps137;go_wp2_with fail;refine ed.out.mono ?_;rintro en w1 ⟨rfl,rfl⟩;clear hW;go_wp2_with fail;refine ee.out.mono ?_;rintro en w2 ⟨rfl,bm⟩;clear x0 x1;have p1:=(bm.block _ (by have:=H0.g;omega)).trans H1.b;have p2:=(bm.block _ (by have:=H0.g;omega)).trans H1.c;have p3:=(bm.block _ (by have:=H0.g;omega)).trans H1.d;have b2:=H1.a.trans (bm.mono H1.a.size);obtain⟨x0,x1⟩:=Fp p3;have ds:=kI (H0.a.below b2) H0.f H0.e.read;have ik:w.heap.size+3<=w2.heap.size:=by have:=bm.size;have:=H0.g;omega
 unfold FH eC at ds;have ek:=If ds;have H2:=kq4 b2 p1 p2 p3;clear bm p1 p2 p3 b2 ds ee ed H1 ev;go_wp2_with fail;refine ek.out.mono ?_;rintro en w3 ⟨vk,vv,vc,rfl,rows,dd⟩;obtain⟨Ak,mk,ck,rfl⟩:=rows.k.slice;obtain⟨Av,mv,cv,rfl⟩:=rows.v.slice;obtain⟨Ac,mc,cc,rfl⟩:=rows.c.slice;obtain⟨sz,c6⟩:=Ii (Bt.bn x).size;rw[c6];clear c6;have A3:=(aa w3.heap.size w3).alloc Ih (.cells #[.slice Ak mk ck,.slice Av mv cv,.slice Ac mc cc,Xu sz] 215);obtain⟨W3,ez⟩:=Ii (w3.alloc (.cells #[.slice Ak mk ck,.slice Av mv cv,.slice Ac mc cc,Xu sz] 215));rw[ez] at A3;have c3:=dd.trans (A3.mono dd.size);have p1:=(c3.block _ (by omega)).trans H2.b;have p2:=(c3.block _ (by omega)).trans H2.c;have p3:=(c3.block _ (by omega)).trans H2.d;have B3:=H2.a.trans (c3.mono H2.a.size);have it:w.heap.size+3<=W3.heap.size:=by have:=c3.size;omega
 have h8:=H0.b.low;have fm:=Bt.findB_none H0.c.key;have cp:=fun W (hw:Below W3.heap.size W3 W)=>pY (H0.a.below (B3.trans (hw.mono B3.size))) H0.e (by omega) e.k;rw[fm] at cp;have cq:=nT (R:=none) (cp W3 (aa _ _)) fun W hW=>cp W (by rw[hW];exact(aa _ _).alloc Ih _);unfold i7 Id at cq
 dsimp only[Option.isSome] at cq
 have eg:=If cq;have H3:=kq4 B3 p1 p2 p3;clear A3 c3 p1 p2 p3 B3 fm cp cq x0 x1 dd H2 ek rows;go_wp2_with fail;refine eg.out.mono ?_;rintro en w4 ⟨rfl,dk⟩;clear ez;go_wp2_with fail;have A4:=(aa w4.heap.size w4).alloc Ih (.cells #[Xu 0,Xu 0] 104);obtain⟨W4,dc⟩:=Ii (w4.alloc (.cells #[Xu 0,Xu 0] 104));rw[dc] at A4;rw[dc];clear dc;have c4:=dk.trans (A4.mono dk.size);have p1:=(c4.block _ (by omega)).trans H3.b;have p2:=(c4.block _ (by omega)).trans H3.c;have p3:=(c4.block _ (by omega)).trans H3.d;have B4:=H3.a.trans (c4.mono H3.a.size);have d4:w.heap.size+3<=W4.heap.size:=by have:=c4.size;omega
 have eb:=H0.a.wide B4;have bj:=fun W (hw:Below W4.heap.size W4 W)=>zN (H0.a.below (B4.trans (hw.mono B4.size))) H0.e (by omega) e.k;obtain⟨q,hq⟩:=Ii (iD t e.k x);have ih:q<=22:=by have:=(oE t e.k x).2;omega
 have d3:=H0.d;rw[hq] at d3;have bs:=fun W (hw:Below W4.heap.size W4 W)=>tU (eb.below hw) H0.b.fit H0.b.t1 H0.b.t2 q (by omega) d3;have f':Bt.needB 0 true (Bt.fullB t e.k x)=q:=hq;rw[f'] at bj;unfold FH at bj bs;have bj:=If bj;have bs:=If bs;have H4:=kq5 B4 p1 p2 p3 eb;have HQ:=If hq;clear A4 c4 p1 p2 p3 B4 eb hq f' d3 dk H3 eg;obtain⟨I,a3,a6⟩:=ic fun w'=>w'.heap[w.heap.size+2]?=W4.heap[w.heap.size+2]?;have b9:=fun x:Fq I=>(a3 _ x.ok).trans H4.d;obtain⟨r0,r1⟩:=fw b9;have ba:I W4.drew:=a6 _ rfl;have a9:=If a6;clear a3 a6 b9;refine fh I (.take 0 (.take 1 (.take 2 (.take 3 (.go 4 (.go 5 (.take 6 (.take 7 (.take 8 (.go 9 (.go 10 .nil))))))))))) (by kernel_rfl) (by kernel_rfl) ba ?_
 iterate 4
  refine' pT ?_ ?_;rotate_left
  ·intro x;go_simp
   try rfl
  try simp only[pu]
 refine pD fun K hK=>?_;go_simp;refine(bj.out _ (aa _ W4).drew).mono ?_;rintro en w5 ⟨rfl,dn⟩;have ep:I w5:=a9.out _ (dn.block _ d4);have B5:=(aa W4.heap.size W4).drew.trans dn;have bq:=If B5;clear dn B5
 try go_simp
 refine hK.out _ _ ep ?_;clear hK K
 try simp only[pu]
 refine pD fun K hK=>?_;go_simp;refine(bs.out _ bq.out).mono ?_;rintro en w6 ⟨rfl,S1,o1,v6,L,g9,ea,g7,f6,er,g8,fj,e9,e'⟩;have cn:I w6:=a9.out _ ((ea.block _ (ae ⟨by omega,by omega⟩)).trans (bq.out.block _ d4));have H6:=kq9 g9 ea g7 f6 er g8 fj e9 e';clear g9 ea g7 f6 er g8 fj e9 e'
 try go_simp
 refine hK.out _ _ cn ?_;clear hK K
 try simp only[pu]
 iterate 3
  refine' pT ?_ ?_;rotate_left
  ·intro x;go_simp
   try rfl
  try simp only[pu]
 refine pD fun K hK=>?_;go_simp
 try go_simp
 refine hK.out _ _ cn ?_;clear hK K
 try simp only[pu]
 refine pD fun K hK=>?_;go_simp
 try go_simp
 refine hK.out _ _ cn ?_;clear hK K
 try simp only[pu]
 refine eP ?_;have i1:=d4;have k6:∀k,w.heap.size<=k->k<W4.heap.size->w6.heap[k]?=W4.heap[k]?:=fun k h1 h2=>(H6.b.block k (ae ⟨h1,h2⟩)).trans (bq.out.block k h2);have p1:=(k6 w.heap.size (by omega) (by omega)).trans H4.b;have p2:=(k6 (w.heap.size+1) (by omega) (by omega)).trans H4.c;have p3:=(k6 (w.heap.size+2) (by omega) (by omega)).trans H4.d;obtain⟨x0,x1⟩:=Fp p1;obtain⟨y0,y1⟩:=Fp p3;have bt:Bt.Tree S1 o1 t x:=H0.b.frame H6.d fun y hy=>H6.h y fun hm=>H0.b.has y hy (H6.g y hm);have hlt:=Bt.blobs_lt H0.b.fit H0.c.blobs;have cu:=hins d 0 H6.a bt.walk bt.nodes (by omega) H6.c H6.f (fun y hy q=>H0.b.has y (aE _ q) (H6.g y hy)) (ae (ae (ab rfl))) (ae (ab rfl)) (fun b hb=>ae (ae (ae hb))) (by have:=H6.e;omega) H0.c.key bt.lts hlt.1 hlt.2 (by have h1:=(oE t e.k x).1;have h2:=HQ.out;have h3:=H6.e;omega);unfold FH Id JB at cu;have e0:((0:Nat):Int)=0:=rfl;rw[e0] at cu;have el:=If cu;have em:=kq3 bt p2 k6;clear e0 cu bt hlt p1 p2 p3 k6 r0 r1 bj bs a9 ba ep cn;go_wp2_with fail;refine el.out.mono ?_;rintro en w7 ⟨r,S2,v7,L7,U,rfl,h7⟩;have H7:=If h7;clear h7 el x0 x1 y0 y1;have b4:=H0.a.yl;have iu:=bq.out.size;have iv:=H6.b.size;have kY:Fo Y w w7:=((Fo.of_below H4.a b4).trans (Fo.of_below bq.out fun k hk=>by have:=b4 k hk;omega)).trans ((H6.b.mono fun k hk=>ab hk).trans (H7.out.2.2.2.1.mono fun k hk=>⟨ab (ab hk),by have:=b4 k hk;omega⟩));have p2:=(H7.out.2.2.2.1.block (w.heap.size+1) ⟨ab (ae ⟨by omega,by omega⟩),by omega⟩).trans em.b;have p3:=(H7.out.2.2.2.1.block (w.heap.size+2) ⟨ab (ae ⟨by omega,by omega⟩),by omega⟩).trans ((em.c _ (by omega) (by omega)).trans H4.d);have c':∀y∈U,y∈L:=fun y hy=>by rw[H7.out.1];exact aG _ hy
 have e8:∀z,z∉Bt.nodes x->z∉L->reco S2 z=reco S z:=fun z h1 h2=>(H7.out.2.1.fr z h1 fun q=>h2 (c' z q)).trans (H6.h z h2);have fb:ej S S2 (2*q) q:=(H6.i.trans H7.out.2.1.grew).mono (by omega) (by omega);have fn:=(gl p2);have hf:=(gl p3);have HK:=kq7 kY p2 p3 c' e8 fb b4;clear kY p2 p3 c' e8 fb b4
 rcases r with _ | ⟨m,g⟩
 ·dsimp only[ky,iQ]
  go_wp2_with fail;have A8:=(aa w7.heap.size w7).alloc Ih (.cells #[.bool false,Xu 0,Xu 0,Xu 0] 274);obtain⟨W8,bb⟩:=Ii (w7.alloc (.cells #[.bool false,Xu 0,Xu 0,Xu 0] 274));rw[bb] at A8;rw[bb];have p2:=(A8.block _ fn).trans HK.b;have cb:=H7.out.2.2.1.below A8;have k8:Fo Y w W8:=HK.a.trans (Fo.of_below A8 fun k hk=>by have:=HK.g k hk;have:=HK.a.size;omega);obtain⟨x0,x1⟩:=Fp p2;obtain⟨f0,f1⟩:=ef p2;have H8:=kq3 p2 cb k8;clear bb A8 p2 cb k8
  go_region
  go_wp2_with fail;obtain⟨WF,ai⟩:=Ii (((W8.setCell ⟨w.heap.size+1,0,none⟩ (Xu 0)).setCell ⟨w.heap.size+1,1,none⟩ (Xu 0))).drew;rw[ai];have eF:WF.heap[w.heap.size+1]?=some (.cells #[Xu 0,Xu 0] 104 (0,0)):=by
   rw[<-ai];exact heap_setCell (i:=1) (v:=Xu 0) (heap_setCell (i:=0) (v:=Xu 0) H8.a)
  have a4:Ig WF ps S2 Y:=by
   rw[<-ai];exact((H8.b.write (b:=w.heap.size+1) (ab (ae ⟨by omega,by omega⟩)) H8.a ⟨by decide,by decide⟩ (by simp) (by simp) fun k _ hk=>(FB hk).trans (FB hk)).below (aa _ _).drew).mono fun k hk=>ab (ab hk)
  have kF:Fo Y w WF:=by
   rw[<-ai];have a0:∀k,Y k->k≠w.heap.size+1:=fun k hk=>by have:=HK.g k hk;omega
   exact((H8.c.trans (Fo.mark a0)).trans (Fo.mark a0)).trans ⟨rfl,rfl,rfl,Nat.le_refl _,fun _ _=>rfl⟩
  clear ai x0 x1 f0 f1;obtain⟨u0,u1⟩:=Fp eF;obtain⟨y,bu,bv,bx,b0⟩:=H0.b.insert_none H0.c H6.g H6.h HK.d H7.out.2.1;exact bodyPost_ret (v:=.tuple #[Xu (Bt.hd x:Nat),.agg #[Xu 0,Xu 0],.bool false,Xi 0]) (by simp[results,f137,go_sem,u0,u1]) rfl ⟨d,y,S2,o1,by rw[bu];rfl,a4,kF,bv,bx,fun z hz=>(b0 z hz).imp id fun hu=>H6.g z (HK.d z hu),fun z h1 h2=>HK.e z h1 fun hm=>h2 (H6.g z hm),by rw[HQ.out];exact HK.f⟩
 ·dsimp only[ky,iQ]
  have he:=H7.out.2.2.2.2.2.2.1;have e4:=H7.out.2.2.2.2.2.2.2;have fv:=(oE t e.k x).1;have e5:(Bt.fullB t e.k x).all id=true:=e4.symm;rw[if_pos e5,HQ.out] at fv;have c9:L7.length=1:=by
   have h1:=H6.e;have h2:=congrArg List.length H7.out.1;rw[ah] at h2;omega
  obtain⟨rr,cx⟩:∃rr,L7=[]++[rr]:=by
   cases L7 with
   | nil=>simp at c9
   | cons a l=>
    cases l with
    | nil=>exact⟨a,rfl⟩
    | cons b l=>simp at c9
  have cw:rr∈L:=by rw[H7.out.1,cx];simp
  have gb:rr∉U:=fun hm=>by
   have fk:=H6.f.nd;rw[H7.out.1,cx] at fk;exact(aC.1 fk).2.2 rr (by simp) rr hm rfl
  obtain⟨ws,gf,d8⟩:=H6.f.recs rr cw;obtain⟨y1,y2,bu,bv,bx,b0,gv,g0,h4,g4,g5,d9,gg,gk,gn,gp,gs⟩:=H0.b.insert_root H0.c H6.g H6.h HK.d H7.out.2.1 cw gb gf d8;obtain⟨n1,d0⟩:=Ii (Bt.its y1).length;obtain⟨n2,d1⟩:=Ii (Bt.its y2).length;have d5:=fun W Yx hst=>ri (ps:=ps) H7.out.2.1.fit H0.b.t1 H0.b.t2 bx gv (by omega) W Yx hst;have d6:=fun W Yx hst=>ri (ps:=ps) H7.out.2.1.fit H0.b.t1 H0.b.t2 b0 g0 (by omega) W Yx hst;rw[bu,d0] at d5;rw[bv,d1] at d6;have ib:n1+n2+1<1000000:=by omega
  have c5:=H7.out.2.2.2.2.1;rw[cx] at c5;have hA:∀(W:World) (b1 b2 b3:Nat),Below w7.heap.size w7 W->w7.heap.size<=b1->w7.heap.size<=b2->w7.heap.size<=b3->W.heap[b1]?=some (.cells #[Xu m.kh] 61 (0,0))->W.heap[b2]?=some (.cells #[Xu m.vh] 61 (0,0))->W.heap[b3]?=some (.cells #[Xu (Bt.hd x:Nat),Xu g] 61 (0,0))->
   Ct 214 #[.agg #[.slice (some ⟨b1,0,none⟩) 1 1,.slice (some ⟨b2,0,none⟩) 1 1,.slice (some ⟨b3,0,none⟩) 2 2,Xu ((n1:Int)+n2+1)],PV (w5.heap.size+1),PV w5.heap.size] W fun en w'=>en=.returned (Xu rr)/\∃v',Ig w' ps (FC S2 rr 0 (bnWords t (Bt.bn (Bt.rootOf rr m y1 y2)))) (fun k=>((Y k\/(w.heap.size<=k/\k<W4.heap.size))\/iJ w5.heap.size (w5.heap.size+1) v6 k)\/(w7.heap.size<=k/\k<W.heap.size))/\Fo (fun k=>(((Y k\/(w.heap.size<=k/\k<W4.heap.size))\/iJ w5.heap.size (w5.heap.size+1) v6 k)\/(w7.heap.size<=k/\k<W.heap.size))/\k≠w5.heap.size+1) W w'/\gz w' w5.heap.size (w5.heap.size+1) (w5.heap.size+2) ps t v' []/\v'.ownBlock=v7.ownBlock:=by
   intro W b1 b2 b3 hB g1 g2 g3 e1 e2 e3;have g6:w5.heap.size+2<=w7.heap.size:=by
    have h1:=(gl c5.box);omega
   have gc:∀(b k:Nat),W.heap[b]?=some (.cells #[Xu k] 61 (0,0))->FD W (.slice (some ⟨b,0,none⟩) 1 1) [k]:=fun b k hb=>⟨_,1,rfl,fun i hi=>⟨b,0,rfl,by
    have hi:i=0:=by simp at hi;exact hi
    subst hi;rw[cell_of_block hb]
    rfl⟩⟩
   have hl:FD W (.slice (some ⟨b3,0,none⟩) 2 2) [Bt.hd x,g]:=⟨_,2,rfl,fun i hi=>⟨b3,0,rfl,by
    have hi:i=0\/i=1:=by simp at hi;omega
    rcases hi with rfl | rfl
    ·rw[cell_of_block e3]
     rfl
    ·rw[cell_of_block e3]
     rfl⟩⟩
   have hc:S2.len rr=(6*t,0):=by rw[jw H7.out.2.1.fit.tab d9,d8]
   have g':∀k∈Bn.ks (Bt.rootOf rr m y1 y2),Bt.At S2 t k:=fun k hk=>by
    have hk:k∈ [y1,y2]:=hk
    rcases aj.1 hk with rfl | hk
    ·exact bx
    ·rw[aA.1 hk];exact b0
   have ha:(Bt.bn (Bt.rootOf rr m y1 y2)).kids=[Bt.hd x,g]:=by
    show[Bt.hd y1,Bt.hd y2]=_
    rw[bu,bv]
   have c6:(((Bt.bn (Bt.rootOf rr m y1 y2)).size:Nat):Int)=(n1:Int)+n2+1:=by
    show (((Bt.its y1++m::Bt.its y2).length:Nat):Int)=_
    rw[ah,ag,d0,d1];omega
   have d2:∀{b n c:Nat},w7.heap.size<=b->∀g,(Value.slice (some ⟨b,0,none⟩) n c).ownBlock=some g->g≠w5.heap.size+1:=fun hb g hg q=>by
    have hg:=Option.some.inj hg;simp only at hg;omega
   have d7:=pZ (n:=Bt.bn (Bt.rootOf rr m y1 y2)) (vk:=.slice (some ⟨b1,0,none⟩) 1 1) (vv:=.slice (some ⟨b2,0,none⟩) 1 1) (vc:=.slice (some ⟨b3,0,none⟩) 2 2) (H7.out.2.2.1.wide hB) H7.out.2.1.fit.inv (c5.keeps fun k hk=>hB.block k ?_) (ab (ae (ae (ab rfl)))) (ab (ae (ab rfl))) (fun b hb=>ab (ae (ae (ae (by rw[<-H7.out.2.2.2.2.2.1];exact hb))))) (by simp) (Bt.bnok_of H7.out.2.1.fit H0.b.t1 H0.b.t2 g' g4) (gc b1 _ e1) (gc b2 _ e2) (by rw[ha];exact hl) (d2 g1) (d2 g2) (d2 g3) (fL H7.out.2.1.fit d9).2.1 hc (kX g5 (by show 1<_;omega))
   ·unfold eC at d7;rw[c6] at d7;exact d7
   ·have h5:=H7.out.2.2.1.yl;refine h5 k (ae ?_)
    rcases hk with hk | hk | hk
    ·exact ab hk
    ·exact ae (ab hk)
    ·exact ae (ae (by rw[<-H7.out.2.2.2.2.2.1];exact hk))
  have HA:=If hA;have c7:=If d5;have c8:=If d6;have HT:=kq6 gg gk gn gp gs cw;clear he e4 fv e5 c9 cx gb gf d8 bu bv bx b0 gv g0 h4 g4 g5 d9 gg gk gn gp gs d0 d1 d5 d6 c5 hA cw;go_wp2_with fail;have A8:=(aa w7.heap.size w7).alloc Ih (.cells #[.bool true,Xu (m.kh:Nat),Xu (m.vh:Nat),Xu g] 274);have p4:=heap_alloc_new w7 (.cells #[.bool true,Xu (m.kh:Nat),Xu (m.vh:Nat),Xu g] 274);obtain⟨W8,bb⟩:=Ii (w7.alloc (.cells #[.bool true,Xu (m.kh:Nat),Xu (m.vh:Nat),Xu g] 274));rw[bb] at A8 p4;rw[bb];clear bb;have p2:=(A8.block _ fn).trans HK.b;have p3:=(A8.block _ hf).trans HK.c;have hh:=(gl p2);have hj:=(gl p3);have ft:=(gl p4);have cb:=H7.out.2.2.1.below A8;obtain⟨I,a3,a6⟩:=ic fun w'=>∀k,k<W8.heap.size->w'.heap[k]?=W8.heap[k]?;have b':=fun x:Fq I=>(a3 _ x.ok _ hj).trans p3;have ca:=fun x:Fq I=>(a3 _ x.ok _ ft).trans p4;obtain⟨r0,r1⟩:=fw b';obtain⟨s0,s1,s2,s3⟩:=iB ca;have ba:I W8.drew:=a6 _ fun _ _=>rfl;have a9:=If a6;have a':=kq5 A8 p2 p3 p4 cb;have ht:IntKind.i64.wrap ((n1:Int)+n2)=(n1:Int)+n2:=az _ (by omega);have hv:IntKind.u64.wrap ((n1:Int)+n2)=(n1:Int)+n2:=bO _ (by omega);have h0:IntKind.u64.wrap ((n1:Int)+n2+1)=(n1:Int)+n2+1:=bO _ (by omega);unfold FH at c7 c8;clear a3 a6 b' ca A8 p2 p3 p4 cb;refine fh I (.take 0 (.take 1 (.take 3 (.take 4 (.take 5 (.go 2 (.go 6 (.take 7 (.take 8 (.take 9 (.go 10 .nil))))))))))) (by kernel_rfl) (by kernel_rfl) ba ?_
  iterate 5
   refine' pT ?_ ?_;rotate_left
   ·intro x;go_simp
    try rfl
   try simp only[pu]
  refine pD fun K hK=>?_;go_simp;refine(c7.out _ _ (a'.e.below (aa _ W8).drew)).mono ?_;rintro en w9 ⟨rfl,e7⟩;have B9:=(aa W8.heap.size W8).drew.trans e7;have cj:=If B9;clear e7 B9
  try go_simp
  refine hK.out _ _ (a9.out _ fun k hk=>cj.out.block k hk) ?_;clear hK K
  try simp only[pu]
  refine pD fun K hK=>?_;go_simp;refine(c8.out _ _ (a'.e.below cj.out)).mono ?_;rintro en an ⟨rfl,e6⟩;have ec:=cj.out.trans (e6.mono cj.out.size);have bc:=If ec;clear e6 ec
  try go_simp
  refine hK.out _ _ (a9.out _ fun k hk=>bc.out.block k hk) ?_;clear hK K
  try simp only[pu]
  iterate 3
   refine' pT ?_ ?_;rotate_left
   ·intro x;go_simp
    try rfl
   try simp only[pu]
  refine pD fun K hK=>?_;go_simp
  try go_simp
  refine hK.out _ _ (a9.out _ fun k hk=>bc.out.block k hk) ?_;clear hK K
  try simp only[pu]
  refine eP ?_;go_wp2_with fail;clear r0 r1 s0 s1 s2 s3 ba a9 ht hv h0 c7 c8;have ho:=a'.a.size;have ii:=bc.out.size;have g6:=a'.a;have a5:Hid (Below w7.heap.size w7 an):=If (a'.a.trans (bc.out.mono ho));have eo:Bt.Tree (FC S2 rr 0 (bnWords t (Bt.bn (Bt.rootOf rr m y1 y2)))) o1 t (Bt.rootOf rr m y1 y2)/\Bt.its (Bt.rootOf rr m y1 y2)=Bt.insB e (Bt.its x)/\(∀z∈Bt.nodes (Bt.rootOf rr m y1 y2),z∈Bt.nodes x\/reco S z=none)/\(∀z,z∉Bt.nodes x->reco S z≠none->reco (FC S2 rr 0 (bnWords t (Bt.bn (Bt.rootOf rr m y1 y2)))) z=reco S z)/\ej S (FC S2 rr 0 (bnWords t (Bt.bn (Bt.rootOf rr m y1 y2)))) (2*iD t e.k x) (iD t e.k x):=by
   obtain⟨t1,t2,t3,t4,t5,t6⟩:=HT.out;refine⟨t1,t2,fun z hz=>(t3 z hz).imp id fun hm=>H6.g z hm,fun z h1 h2=>(t4 z fun q=>h2 (H6.g z (q▸t6))).trans (HK.e z h1 fun hm=>h2 (H6.g z hm)),?_⟩;rw[HQ.out];exact(HK.f.trans t5).mono (by omega) (by omega)
  have bd:=If eo;obtain⟨I,a3,a6⟩:=ic fun w'=>w'.heap[w7.heap.size]?=some (.cells #[.bool true,Xu (m.kh:Nat),Xu (m.vh:Nat),Xu g] 274 (0,0))/\w'.heap[w.heap.size+1]?=some (.cells #[Xu 0,Xu 0] 104 (0,0));have b':=fun x:Fq I=>(a3 _ x.ok).1;have ca:=fun x:Fq I=>(a3 _ x.ok).2;obtain⟨s0,s1,s2,s3⟩:=iB b';obtain⟨r0,r1⟩:=fw ca;have hJ:∀W,Below an.heap.size an W->I W:=fun W hB=>a6 _ ⟨(hB.block _ (by omega)).trans ((bc.out.block _ ft).trans a'.d),(hB.block _ (by omega)).trans ((bc.out.block _ hh).trans a'.b)⟩;have ba:I an.drew:=hJ _ (aa _ an).drew;have bk:∀W w',Below an.heap.size an W->Fo (fun k=>(((Y k\/(w.heap.size<=k/\k<W4.heap.size))\/iJ w5.heap.size (w5.heap.size+1) v6 k)\/(w7.heap.size<=k/\k<W.heap.size))/\k≠w5.heap.size+1) W w'->I w':=fun W w' hB hk=>by
   have bo:=hB.size;have i0:=H7.out.2.2.2.1.size;have h6:=(gl H7.out.2.2.2.2.1.box);have h1:=a3 _ (hJ W hB);exact a6 _ ⟨(hk.block _ ⟨ae ⟨Nat.le_refl _,by omega⟩,by omega⟩).trans h1.1,(hk.block _ ⟨ab (ab (ae ⟨by omega,by omega⟩)),by omega⟩).trans h1.2⟩
  have a1:∀w',I w'->I ((w'.setCell ⟨w.heap.size+1,0,none⟩ (Xu 0)).setCell ⟨w.heap.size+1,1,none⟩ (Xu 0)):=fun w' hi=>a6 _ ⟨((FB (by omega)).trans (FB (by omega))).trans (a3 _ hi).1,heap_setCell (i:=1) (v:=Xu 0) (heap_setCell (i:=0) (v:=Xu 0) (a3 _ hi).2)⟩;have HJ:=If hJ;have bf:=If a3;clear b' ca a3 a6 g6 eo;refine Fi I (.take 0 (.take 1 (.take 2 (.take 3 (.take 5 (.take 6 (.take 7 (.take 9 (.take 10 (.take 11 (.take 13 (.take 16 (.three 4 8 12 (.two 8 12 (.go 12 (.take 14 (.go 15 (.go 17 (.go 18 (.go 19 (.go 20 .nil))))))) (.go 8 (.take 14 (.go 15 (.go 17 (.go 18 (.go 19 (.go 20 .nil)))))))) (.two 4 12 (.go 12 (.take 14 (.go 15 (.go 17 (.go 18 (.go 19 (.go 20 .nil))))))) (.go 4 (.take 14 (.go 15 (.go 17 (.go 18 (.go 19 (.go 20 .nil)))))))) (.two 4 8 (.go 8 (.take 14 (.go 15 (.go 17 (.go 18 (.go 19 (.go 20 .nil))))))) (.go 4 (.take 14 (.go 15 (.go 17 (.go 18 (.go 19 (.go 20 .nil))))))))))))))))))))) (by kernel_rfl) (by kernel_rfl) ba ?_
  iterate 12
   refine' lq ?_ ?_;rotate_left
   ·intro x;go_simp
    try rfl
   try simp only[pu]
  clear s0 s1 s2 s3 r0 r1;refine Dx ?_ ?_ ?_
  ·have T4:=ku an (Xf (m.kh:Nat)) (Xf (m.kh:Nat)) (Xf (m.kh:Nat));refine eG fun K hK=>?_;go_simp
   try go_simp
   refine hK.out _ _ (HJ.out _ T4.1) ?_;clear hK K
   try simp only[pu]
   clear T4;refine rP ?_ ?_
   ·have T4:=ku an (Xf (m.kh:Nat)) (Xf (m.vh:Nat)) (.cells #[Xu (Bt.hd x:Nat),Xu g] 61);refine eG fun K hK=>?_;go_simp
    try go_simp
    refine hK.out _ _ (HJ.out _ T4.2.1) ?_;clear hK K
    try simp only[pu]
    refine eG fun K hK=>?_;go_simp
    try go_simp
    refine hK.out _ _ (HJ.out _ T4.2.2.1) ?_;clear hK K
    try simp only[pu]
    refine' lq ?_ ?_;rotate_left
    ·intro x;go_simp
     try rfl
    try simp only[pu]
    refine eG fun K hK=>?_;go_simp;refine(HA.out _ an.heap.size (an.heap.size+1) (an.heap.size+2) (a5.out.trans (T4.2.2.1.mono (by omega))) (by omega) (by omega) (by omega) T4.2.2.2.1 T4.2.2.2.2.1 T4.2.2.2.2.2).mono ?_;exact qByaa
   ·have T4:=ku an (Xf (m.kh:Nat)) (.cells #[Xu (Bt.hd x:Nat),Xu g] 61) (Xf (m.vh:Nat));refine eG fun K hK=>?_;go_simp
    try go_simp
    refine hK.out _ _ (HJ.out _ T4.2.1) ?_;clear hK K
    try simp only[pu]
    refine eG fun K hK=>?_;go_simp
    try go_simp
    refine hK.out _ _ (HJ.out _ T4.2.2.1) ?_;clear hK K
    try simp only[pu]
    refine' lq ?_ ?_;rotate_left
    ·intro x;go_simp
     try rfl
    try simp only[pu]
    refine eG fun K hK=>?_;go_simp;refine(HA.out _ an.heap.size (an.heap.size+2) (an.heap.size+1) (a5.out.trans (T4.2.2.1.mono (by omega))) (by omega) (by omega) (by omega) T4.2.2.2.1 T4.2.2.2.2.2 T4.2.2.2.2.1).mono ?_;exact qByaa
  ·have T4:=ku an (Xf (m.vh:Nat)) (Xf (m.vh:Nat)) (Xf (m.vh:Nat));refine eG fun K hK=>?_;go_simp
   try go_simp
   refine hK.out _ _ (HJ.out _ T4.1) ?_;clear hK K
   try simp only[pu]
   clear T4;refine rP ?_ ?_
   ·have T4:=ku an (Xf (m.vh:Nat)) (Xf (m.kh:Nat)) (.cells #[Xu (Bt.hd x:Nat),Xu g] 61);refine eG fun K hK=>?_;go_simp
    try go_simp
    refine hK.out _ _ (HJ.out _ T4.2.1) ?_;clear hK K
    try simp only[pu]
    refine eG fun K hK=>?_;go_simp
    try go_simp
    refine hK.out _ _ (HJ.out _ T4.2.2.1) ?_;clear hK K
    try simp only[pu]
    refine' lq ?_ ?_;rotate_left
    ·intro x;go_simp
     try rfl
    try simp only[pu]
    refine eG fun K hK=>?_;go_simp;refine(HA.out _ (an.heap.size+1) an.heap.size (an.heap.size+2) (a5.out.trans (T4.2.2.1.mono (by omega))) (by omega) (by omega) (by omega) T4.2.2.2.2.1 T4.2.2.2.1 T4.2.2.2.2.2).mono ?_;exact qByaa
   ·have T4:=ku an (Xf (m.vh:Nat)) (.cells #[Xu (Bt.hd x:Nat),Xu g] 61) (Xf (m.kh:Nat));refine eG fun K hK=>?_;go_simp
    try go_simp
    refine hK.out _ _ (HJ.out _ T4.2.1) ?_;clear hK K
    try simp only[pu]
    refine eG fun K hK=>?_;go_simp
    try go_simp
    refine hK.out _ _ (HJ.out _ T4.2.2.1) ?_;clear hK K
    try simp only[pu]
    refine' lq ?_ ?_;rotate_left
    ·intro x;go_simp
     try rfl
    try simp only[pu]
    refine eG fun K hK=>?_;go_simp;refine(HA.out _ (an.heap.size+2) an.heap.size (an.heap.size+1) (a5.out.trans (T4.2.2.1.mono (by omega))) (by omega) (by omega) (by omega) T4.2.2.2.2.2 T4.2.2.2.1 T4.2.2.2.2.1).mono ?_;exact qByaa
  ·have T4:=ku an (.cells #[Xu (Bt.hd x:Nat),Xu g] 61) (.cells #[Xu (Bt.hd x:Nat),Xu g] 61) (.cells #[Xu (Bt.hd x:Nat),Xu g] 61);refine eG fun K hK=>?_;go_simp
   try go_simp
   refine hK.out _ _ (HJ.out _ T4.1) ?_;clear hK K
   try simp only[pu]
   clear T4;refine rP ?_ ?_
   ·have T4:=ku an (.cells #[Xu (Bt.hd x:Nat),Xu g] 61) (Xf (m.kh:Nat)) (Xf (m.vh:Nat));refine eG fun K hK=>?_;go_simp
    try go_simp
    refine hK.out _ _ (HJ.out _ T4.2.1) ?_;clear hK K
    try simp only[pu]
    refine eG fun K hK=>?_;go_simp
    try go_simp
    refine hK.out _ _ (HJ.out _ T4.2.2.1) ?_;clear hK K
    try simp only[pu]
    refine' lq ?_ ?_;rotate_left
    ·intro x;go_simp
     try rfl
    try simp only[pu]
    refine eG fun K hK=>?_;go_simp;refine(HA.out _ (an.heap.size+1) (an.heap.size+2) an.heap.size (a5.out.trans (T4.2.2.1.mono (by omega))) (by omega) (by omega) (by omega) T4.2.2.2.2.1 T4.2.2.2.2.2 T4.2.2.2.1).mono ?_;exact qByaa
   ·have T4:=ku an (.cells #[Xu (Bt.hd x:Nat),Xu g] 61) (Xf (m.vh:Nat)) (Xf (m.kh:Nat));refine eG fun K hK=>?_;go_simp
    try go_simp
    refine hK.out _ _ (HJ.out _ T4.2.1) ?_;clear hK K
    try simp only[pu]
    refine eG fun K hK=>?_;go_simp
    try go_simp
    refine hK.out _ _ (HJ.out _ T4.2.2.1) ?_;clear hK K
    try simp only[pu]
    refine' lq ?_ ?_;rotate_left
    ·intro x;go_simp
     try rfl
    try simp only[pu]
    refine eG fun K hK=>?_;go_simp;refine(HA.out _ (an.heap.size+2) (an.heap.size+1) an.heap.size (a5.out.trans (T4.2.2.1.mono (by omega))) (by omega) (by omega) (by omega) T4.2.2.2.2.2 T4.2.2.2.2.1 T4.2.2.2.1).mono ?_;exact qByaa
namespace Bt
structure Empty (S:St) (o:Nat->Nat) (t:Nat):Prop where
 fit:Fw S o
 t1:2<=t
 t2:t<=16
structure First (S:St) (e:It):Prop where
 blobs:gu S e
 ne:e.kh≠e.vh
def leafOf(r:Nat)(e:It):Bt 1:=(⟨r,[e],[]⟩:Bn (Bt 0))
theorem first_tree {S:St}{o:Nat->Nat}{t:Nat}(h:Empty S o t){e:It}(n:First S e){r:Nat}{ws:List Nat}(hw:reco S r=some ws)(hl:ws.length=6*t)(hk:r≠e.kh)(hv:r≠e.vh):
 Ok t (leafOf r e)/\iT (bn (leafOf r e))/\Tree (FC S r 0 (bnWords t (bn (leafOf r e)))) o t (leafOf r e)/\(∀z,z≠r->reco (FC S r 0 (bnWords t (bn (leafOf r e)))) z=reco S z)/\ej S (FC S r 0 (bnWords t (bn (leafOf r e)))) 0 0:=by
 have t1:=h.t1;have ok:Ok t (leafOf r e):=⟨by show 1<=2*t-1;omega,rfl,fun k hk=>by have hk:k∈([]:List (Bt 0)):=hk;simp at hk⟩;have an:∀k∈Bn.ks (leafOf r e),At S t k:=fun k hk=>by have hk:k∈([]:List (Bt 0)):=hk;simp at hk
 have ad:its (leafOf r e)=[e]:=its_leaf _;have hb:=blobs_lt h.fit n.blobs;have ai:iT (bn (leafOf r e)):=bnLt_of h.fit (fun a ha=>by
  have ha:a∈ [e]:=ha;rw[aA.1 ha];exact hb) an (by rw[ad];show 1<_;omega)
 obtain⟨p1,p2,p3,p4⟩:=put_node (x:=leafOf r e) h.fit an (fun k hk=>by have hk:k∈([]:List (Bt 0)):=hk;simp at hk) (ws:=ws) hw hl ai (by show 1<1000;omega);have p3:∀z,z≠r->reco (FC S r 0 (bnWords t (bn (leafOf r e)))) z=reco S z:=p3;have ap:Bt.nodes (leafOf r e)=[r]:=by rw[jQ];rfl
 refine⟨ok,ai,⟨p1,h.t1,h.t2,p2,ok,by rw[ad];exact List.pairwise_singleton _ _,?_,by rw[ad];show 1<_;omega,by rw[ap];simp,?_,?_,Nat.le_refl 1⟩,p3,p4⟩
 ·rw[ad];intro a ha;rw[aA.1 ha];exact n.blobs.frame (p3 _ (Ne.symm hk)) (p3 _ (Ne.symm hv))
 ·rw[ad]
  show[e.kh,e.vh].Nodup
  simp[n.ne]
 ·rw[ad,ap];intro z hz hm;rw[aA.1 hz] at hm;have hm:r∈ [e.kh,e.vh]:=hm
  simp at hm
  exact hm.elim hk hv
end Bt
theorem xP(w:World)(o1 o2:Obj):Below w.heap.size w (w.drew.alloc o1)/\Below w.heap.size w ((w.drew.alloc o1).alloc o2)/\((w.drew.alloc o1).alloc o2).heap[w.heap.size]?=some o1/\((w.drew.alloc o1).alloc o2).heap[w.heap.size+1]?=some o2:=by
 have z1:(w.drew.alloc o1).heap.size=w.heap.size+1:=by simp
 have b1:=((aa w.heap.size w).drew).alloc Ih o1;have c2:=(aa (w.drew.alloc o1).heap.size (w.drew.alloc o1)).alloc Ih o2;have q1:=heap_alloc_new w.drew o1;have q2:=heap_alloc_new (w.drew.alloc o1) o2;have r1:=(c2.block w.heap.size (by omega)).trans q1;rw[z1] at q2;exact⟨b1,b1.trans (c2.mono (by rw[z1];omega)),r1,q2⟩
theorem qByab{P:Prop}(h:P:=by
 rintro en a1 ⟨rfl,eb,a',a0,cc,cb⟩;have ad:I a1:=c5 _ _ T4.2.1 a0;have hold:=(cv.out _ ad).2;have kF:Fo Y w a1:=(HK.a.trans (Fo.of_below T4.2.1 fun k hk=>by have:=HK.d k hk;omega)).trans (a0.mono fun k hk=>⟨ab (ab hk),by have:=HK.d k hk;omega⟩);obtain⟨x0,x1⟩:=Fp hold;obtain⟨f0,f1⟩:=ef hold;have ap:=kq3 hold a' kF;clear a0 cc cb hold a' kF T4
 try go_simp
 refine hK.out _ _ ad ?_;clear hK K
 try simp only[pu]
 refine pD fun K hK=>?_;go_simp
 try go_simp
 refine hK.out _ _ ad ?_;clear hK K
 try simp only[pu]
 refine pD fun K hK=>?_;go_simp
 try go_simp
 refine hK.out _ _ (a2 _ ad) ?_;clear hK K
 try simp only[pu]
 refine pD fun K hK=>?_;go_simp
 try go_simp
 refine hK.out _ _ (a2 _ ad) ?_;clear hK K
 try simp only[pu]
 refine pD fun K hK=>?_;go_simp
 try go_simp
 refine hK.out _ _ (a2 _ ad) ?_;clear hK K
 try simp only[pu]
 refine eP ?_;go_wp2_with fail;obtain⟨WF,ai⟩:=Ii ((a1.setCell ⟨w.heap.size+1,0,none⟩ (Xu 0)).setCell ⟨w.heap.size+1,1,none⟩ (Xu 0));rw[ai];have eF:WF.heap[w.heap.size+1]?=some (.cells #[Xu 0,Xu 0] 104 (0,0)):=by
  rw[<-ai];exact heap_setCell (i:=1) (v:=Xu 0) (heap_setCell (i:=0) (v:=Xu 0) ap.a)
 have cj:Ig WF ps (FC S1 rr 0 (bnWords t (Bt.bn (Bt.leafOf rr e)))) Y:=by
  rw[<-ai];exact(ap.b.write (b:=w.heap.size+1) (ab (ae ⟨by omega,by omega⟩)) ap.a ⟨by decide,by decide⟩ (by simp) (by simp) fun k _ hk=>(FB hk).trans (FB hk)).mono fun k hk=>ab (ab hk)
 have kF:Fo Y w WF:=by
  rw[<-ai];have a7:∀k,Y k->k≠w.heap.size+1:=fun k hk=>by have:=HK.d k hk;omega
  exact(ap.c.trans (Fo.mark a7)).trans (Fo.mark a7)
 clear ai x0 x1 f0 f1;obtain⟨u0,u1⟩:=Fp eF;exact bodyPost_ret (v:=.tuple #[Xu (rr:Nat),.agg #[Xu 0,Xu 0],.bool false,Xi 0]) (by simp[results,f137,go_sem,u0,u1]) rfl ⟨Bt.leafOf rr e,_,o1,rfl,cj,kF,cq.out⟩):P:=h
theorem zH {w:World}{ps:Nat}{S:St}{o:Nat->Nat}{Y:Nat->Prop}(h:Ig w ps S Y){t:Nat}(hx:Bt.Empty S o t){e:It}(hn:Bt.First S e)(hr:fc S (2*1) 1):
 Ct 137 #[PV ps,Xi t,Xu 0,Id e.kh e.vh] w fun en w'=>∃(y:Bt 1) (S':St) (o':Nat->Nat),en=.returned (.tuple #[Xu (Bt.hd y:Nat),Id 0 0,.bool false,Xi 0])/\Ig w' ps S' Y/\Fo Y w w'/\Bt.Tree S' o' t y/\Bt.its y=[e]/\(∀z∈Bt.nodes y,reco S z=none)/\(∀z,reco S z≠none->reco S' z=reco S z)/\ej S S' 2 1:=by
 have B0:=((aa w.heap.size w).alloc Ih (Xe e.kh e.vh)).alloc (by simp) (.cells #[Xu 0,Xu 0] 104);have z1:(w.alloc (Xe e.kh e.vh)).heap.size=w.heap.size+1:=by simp
 have q1:=heap_alloc_new w (Xe e.kh e.vh);have q2:=heap_alloc_new (w.alloc (Xe e.kh e.vh)) (.cells #[Xu 0,Xu 0] 104);have q1:=(((aa (w.alloc (Xe e.kh e.vh)).heap.size (w.alloc (Xe e.kh e.vh))).alloc Ih (.cells #[Xu 0,Xu 0] 104)).block w.heap.size (by simp)).trans q1;rw[z1] at q2;have hz:((w.alloc (Xe e.kh e.vh)).alloc (.cells #[Xu 0,Xu 0] 104)).heap.size=w.heap.size+2:=by simp
 generalize hW:(w.alloc (Xe e.kh e.vh)).alloc (.cells #[Xu 0,Xu 0] 104)=W0 at*;have A1:=(aa W0.heap.size W0).alloc Ih (Xd ps t);have q3:=heap_alloc_new W0 (Xd ps t);have a9:(W0.alloc (Xd ps t)).heap.size=w.heap.size+3:=by simp[hz]
 have hi:=hx.fit.inv;have hw:=hi;have dn:S.len 0=(0,7):=fU S;have has:=kZ (h.below B0) hi hx.t1 hx.t2;obtain⟨W1,c7⟩:=Ii (W0.alloc (Xd ps t));rw[c7] at A1 q3 a9;have B1:=B0.trans (A1.mono (by omega));rw[hz] at q3;have b0:=jt hx.fit hn.blobs.lk hn.blobs.k;have bu:=iz (h.below B1) hi e.kh (Bt.blobs_lt hx.fit hn.blobs).1 (by rw[b0];simp);rw[b0] at bu;have q1:=(A1.block _ (by omega)).trans q1;have q2:=(A1.block _ (by omega)).trans q2;obtain⟨x0,x1⟩:=Fp q1;have H0:=kq7 h hx hn hr hw hi a9;have H1:=kq4 B1 q1 q2 q3;have ck:=If has;have cn:=If bu;clear z1 q1 q2 q3 B0 B1 A1 hw hi has b0 bu h hx hn hr;unfold Id;go_enter func137,ntmps137;go_wp2_with fail;refine ck.out.mono ?_;rintro en w1 ⟨rfl,rfl⟩;clear hW;go_wp2_with fail;refine cn.out.mono ?_;rintro en w2 ⟨rfl,a3⟩;clear x0 x1;have p1:=(a3.block _ (by have:=H0.g;omega)).trans H1.b;have p2:=(a3.block _ (by have:=H0.g;omega)).trans H1.c;have p3:=(a3.block _ (by have:=H0.g;omega)).trans H1.d;have b2:=H1.a.trans (a3.mono H1.a.size);obtain⟨x0,x1⟩:=Fp p3;have bx:=nQ (H0.a.below b2) H0.f H0.b.t1 H0.b.t2 0 (by omega) dn;have ed:w.heap.size+3<=w2.heap.size:=by have:=a3.size;have:=H0.g;omega
 unfold FH eC at bx;have cu:=If bx;have H2:=kq4 b2 p1 p2 p3;clear a3 p1 p2 p3 b2 bx cn ck H1 c7;go_wp2_with fail;refine cu.out.mono ?_;rintro en w3 ⟨rfl,bq⟩;go_wp2_with fail;have A3:=(aa w3.heap.size w3).alloc Ih (.cells #[.slice none 0 0,.slice none 0 0,.slice none 0 0,Xu 0] 215);obtain⟨W3,bm⟩:=Ii (w3.alloc (.cells #[.slice none 0 0,.slice none 0 0,.slice none 0 0,Xu 0] 215));rw[bm] at A3;rw[bm];clear bm;have c3:=bq.trans (A3.mono bq.size);have p1:=(c3.block _ (by omega)).trans H2.b;have p2:=(c3.block _ (by omega)).trans H2.c;have p3:=(c3.block _ (by omega)).trans H2.d;have B3:=H2.a.trans (c3.mono H2.a.size);have ee:w.heap.size+3<=W3.heap.size:=by have:=c3.size;omega
 have bv:=fun W (hw:Below W3.heap.size W3 W)=>tT (H0.a.below (B3.trans (hw.mono B3.size))) H0.f H0.b.t1 H0.b.t2 0 (by omega) dn e.k;have bc:=nT (R:=none) (bv W3 (aa _ _)) fun W hW=>bv W (by rw[hW];exact(aa _ _).alloc Ih _);unfold i7 Id at bc
 dsimp only[Option.isSome] at bc
 have cp:=If bc;have H3:=kq4 B3 p1 p2 p3;clear A3 c3 p1 p2 p3 B3 bv bc x0 x1 bq H2 cu;refine cp.out.mono ?_;rintro en w4 ⟨rfl,bs⟩;go_wp2_with fail;have A4:=(aa w4.heap.size w4).alloc Ih (.cells #[Xu 0,Xu 0] 104);obtain⟨W4,bo⟩:=Ii (w4.alloc (.cells #[Xu 0,Xu 0] 104));rw[bo] at A4;rw[bo];clear bo;have c4:=bs.trans (A4.mono bs.size);have p1:=(c4.block _ (by omega)).trans H3.b;have p2:=(c4.block _ (by omega)).trans H3.c;have p3:=(c4.block _ (by omega)).trans H3.d;have B4:=H3.a.trans (c4.mono H3.a.size);have d0:w.heap.size+3<=W4.heap.size:=by have:=c4.size;omega
 have ch:=H0.a.wide B4;have a6:=fun W (_:Below W4.heap.size W4 W)=>zO W ps t e.k;have a5:=fun W (hw:Below W4.heap.size W4 W)=>tU (ch.below hw) H0.b.fit H0.b.t1 H0.b.t2 1 (by omega) H0.d;unfold FH at a6 a5;have a6:=If a6;have a5:=If a5;have H4:=kq5 B4 p1 p2 p3 ch;clear A4 c4 p1 p2 p3 B4 ch bs H3 cp;obtain⟨I,an,ar⟩:=ic fun w'=>w'.heap[w.heap.size+2]?=W4.heap[w.heap.size+2]?;have a9:=fun x:Fq I=>(an _ x.ok).trans H4.d;obtain⟨r0,r1⟩:=fw a9;have ba:I W4.drew:=ar _ rfl;have bj:=If ar;clear an ar a9;refine fh I (.take 0 (.take 1 (.take 2 (.take 3 (.go 4 (.go 5 (.take 6 (.take 7 (.take 8 (.go 9 (.go 10 .nil))))))))))) (by kernel_rfl) (by kernel_rfl) ba ?_
 iterate 4
  refine' pT ?_ ?_;rotate_left
  ·intro x;go_simp
   try rfl
  try simp only[pu]
 refine pD fun K hK=>?_;go_simp;refine(a6.out _ (aa _ W4).drew).mono ?_;rintro en w5 ⟨rfl,bt⟩;have cx:I w5:=bj.out _ (bt.block _ d0);have B5:=(aa W4.heap.size W4).drew.trans bt;have a4:=If B5;clear bt B5
 try go_simp
 refine hK.out _ _ cx ?_;clear hK K
 try simp only[pu]
 refine pD fun K hK=>?_;go_simp;refine(a5.out _ a4.out).mono ?_;rintro en w6 ⟨rfl,S1,o1,v6,L,d8,ca,d6,f6,c6,d7,dp,au,dd⟩;have bb:I w6:=bj.out _ ((ca.block _ (ae ⟨by omega,by omega⟩)).trans (a4.out.block _ d0));have H6:=kq9 d8 ca d6 f6 c6 d7 dp au dd;clear d8 ca d6 f6 c6 d7 dp au dd
 try go_simp
 refine hK.out _ _ bb ?_;clear hK K
 try simp only[pu]
 iterate 3
  refine' pT ?_ ?_;rotate_left
  ·intro x;go_simp
   try rfl
  try simp only[pu]
 refine pD fun K hK=>?_;go_simp
 try go_simp
 refine hK.out _ _ bb ?_;clear hK K
 try simp only[pu]
 refine pD fun K hK=>?_;go_simp
 try go_simp
 refine hK.out _ _ bb ?_;clear hK K
 try simp only[pu]
 refine eP ?_;have k6:∀k,w.heap.size<=k->k<W4.heap.size->w6.heap[k]?=W4.heap[k]?:=fun k h1 h2=>(H6.b.block k (ae ⟨h1,h2⟩)).trans (a4.out.block k h2);have p1:=(k6 w.heap.size (by omega) (by omega)).trans H4.b;have p2:=(k6 (w.heap.size+1) (by omega) (by omega)).trans H4.c;have bf:=H0.a.yl;have eg:=a4.out.size;have ek:=H6.b.size;have kY:Fo Y w w6:=((Fo.of_below H4.a bf).trans (Fo.of_below a4.out fun k hk=>by have:=bf k hk;omega)).trans (H6.b.mono fun k hk=>ab hk);have bk:=H6.e;obtain⟨rr,ea⟩:∃rr,L=[]++[rr]:=by
  cases L with
  | nil=>simp at bk
  | cons a l=>
   cases l with
   | nil=>exact⟨a,rfl⟩
   | cons b l=>simp at bk
 subst ea;obtain⟨ws,bd,b'⟩:=H6.f.recs rr (by simp);have a8:=H6.g rr (by simp);have b4:rr≠e.kh:=fun q=>by have:=H0.c.blobs.k;rw[<-q,a8] at this;cases this
 have b9:rr≠e.vh:=fun q=>by have:=H0.c.blobs.v;rw[<-q,a8] at this;cases this
 have au:∀z,z≠rr->reco S1 z=reco S z:=fun z hz=>H6.h z (by simpa using hz);have c9:Bt.Empty S1 o1 t:=⟨H6.d,H0.b.t1,H0.b.t2⟩;have dc:Bt.First S1 e:=⟨H0.c.blobs.frame (au _ (Ne.symm b4)) (au _ (Ne.symm b9)),H0.c.ne⟩;obtain⟨ok,c8,d2,c',dk⟩:=Bt.first_tree c9 dc bd b' b4 b9;have hA:∀(W:World) (b1 b2:Nat),Below w6.heap.size w6 W->w6.heap.size<=b1->w6.heap.size<=b2->W.heap[b1]?=some (.cells #[Xu e.kh] 61 (0,0))->W.heap[b2]?=some (.cells #[Xu e.vh] 61 (0,0))->
  Ct 214 #[.agg #[.slice (some ⟨b1,0,none⟩) 1 1,.slice (some ⟨b2,0,none⟩) 1 1,.slice none 0 0,Xu 1],PV (w5.heap.size+1),PV w5.heap.size] W fun en w'=>en=.returned (Xu rr)/\∃v',Ig w' ps (FC S1 rr 0 (bnWords t (Bt.bn (Bt.leafOf rr e)))) (fun k=>(Y k\/(w.heap.size<=k/\k<W4.heap.size))\/iJ w5.heap.size (w5.heap.size+1) v6 k)/\Fo (fun k=>((Y k\/(w.heap.size<=k/\k<W4.heap.size))\/iJ w5.heap.size (w5.heap.size+1) v6 k)/\k≠w5.heap.size+1) W w'/\gz w' w5.heap.size (w5.heap.size+1) (w5.heap.size+2) ps t v' []/\v'.ownBlock=v6.ownBlock:=by
  intro W b1 b2 hB g1 g2 e1 e2;have el:w5.heap.size+2<=w6.heap.size:=by
   have h1:=(gl H6.c.box);omega
  have dv:∀(b k:Nat),W.heap[b]?=some (.cells #[Xu k] 61 (0,0))->FD W (.slice (some ⟨b,0,none⟩) 1 1) [k]:=fun b k hb=>⟨_,1,rfl,fun i hi=>⟨b,0,rfl,by
   have hi:i=0:=by simp at hi;exact hi
   subst hi;rw[cell_of_block hb]
   rfl⟩⟩
  have d':FD W (.slice none 0 0) []:=⟨none,0,rfl,fun i hi=>absurd hi (by simp)⟩;have d9:S1.len rr=(6*t,0):=by rw[jw H6.d.tab bd,b']
  have ds:∀{b n c:Nat},w6.heap.size<=b->∀g,(Value.slice (some ⟨b,0,none⟩) n c).ownBlock=some g->g≠w5.heap.size+1:=fun hb g hg q=>by
   have hg:=Option.some.inj hg;simp only at hg;omega
  have d1:=pZ (n:=Bt.bn (Bt.leafOf rr e)) (vk:=.slice (some ⟨b1,0,none⟩) 1 1) (vv:=.slice (some ⟨b2,0,none⟩) 1 1) (vc:=.slice none 0 0) (H6.a.below hB) H6.d.inv (H6.c.keeps fun k hk=>hB.block k (H6.a.yl k (ae hk))) (ae (ae (ab rfl))) (ae (ab rfl)) (fun b hb=>ae (ae (ae hb))) (by simp) (Bt.bnok_of H6.d H0.b.t1 H0.b.t2 (fun k hk=>by have hk:k∈([]:List (Bt 0)):=hk;simp at hk) ok) (dv b1 _ e1) (dv b2 _ e2) d' (ds g1) (ds g2) (fun g hg=>nomatch hg) (fL H6.d bd).2.1 d9 (kX (t:=t) c8 (by show 1<_;omega));unfold eC at d1;exact d1
 have cw:Bt.Tree (FC S1 rr 0 (bnWords t (Bt.bn (Bt.leafOf rr e)))) o1 t (Bt.leafOf rr e)/\Bt.its (Bt.leafOf rr e)=[e]/\(∀z∈Bt.nodes (Bt.leafOf rr e),reco S z=none)/\(∀z,reco S z≠none->reco (FC S1 rr 0 (bnWords t (Bt.bn (Bt.leafOf rr e)))) z=reco S z)/\ej S (FC S1 rr 0 (bnWords t (Bt.bn (Bt.leafOf rr e)))) 2 1:=by
  refine⟨d2,Bt.its_leaf _,fun z hz=>?_,fun z hz=>?_,(H6.i.trans dk).mono (by omega) (by omega)⟩
  ·have hz:z∈ [rr]:=hz;rw[aA.1 hz];exact a8
  ·have d5:z≠rr:=fun q=>hz (q▸a8);exact(c' z d5).trans (au z d5)
 have HA:=If hA;have cq:=If cw;have ec:=(gl p2);have HK:=kq4 kY p2 p1 bf;obtain⟨x0,x1⟩:=Fp p1;clear bk bd b' a8 b4 b9 au c9 dc ok c8 d2 c' dk hA cw kY p1 p2 k6 bf r0 r1 a6 a5 bj ba cx bb;go_wp2_with fail;obtain⟨I,an,ar⟩:=ic fun w'=>w'.heap[w.heap.size]?=some (.cells #[Xu e.kh,Xu e.vh] 104 (0,0))/\w'.heap[w.heap.size+1]?=some (.cells #[Xu 0,Xu 0] 104 (0,0));have d3:=fun x:Fq I=>(an _ x.ok).1;have d4:=fun x:Fq I=>(an _ x.ok).2;obtain⟨s0,s1⟩:=fw d3;obtain⟨r0,r1⟩:=fw d4;have hJ:∀W,Below w6.heap.size w6 W->I W:=fun W hB=>ar _ ⟨(hB.block _ (by omega)).trans HK.c,(hB.block _ (by omega)).trans HK.b⟩;have ba:I w6.drew:=hJ _ (aa _ w6).drew;have c5:∀W w',Below w6.heap.size w6 W->Fo (fun k=>((Y k\/(w.heap.size<=k/\k<W4.heap.size))\/iJ w5.heap.size (w5.heap.size+1) v6 k)/\k≠w5.heap.size+1) W w'->I w':=fun W w' hB hk=>by
  have h1:=an _ (hJ W hB);exact ar _ ⟨(hk.block _ ⟨ab (ae ⟨by omega,by omega⟩),by omega⟩).trans h1.1,(hk.block _ ⟨ab (ae ⟨by omega,by omega⟩),by omega⟩).trans h1.2⟩
 have a2:∀w',I w'->I ((w'.setCell ⟨w.heap.size+1,0,none⟩ (Xu 0)).setCell ⟨w.heap.size+1,1,none⟩ (Xu 0)):=fun w' hi=>ar _ ⟨((FB (by omega)).trans (FB (by omega))).trans (an _ hi).1,heap_setCell (i:=1) (v:=Xu 0) (heap_setCell (i:=0) (v:=Xu 0) (an _ hi).2)⟩;have HJ:=If hJ;have cv:=If an;clear d3 d4 an ar x0 x1;refine fh I (.take 0 (.take 1 (.take 2 (.take 4 (.take 5 (.take 9 (.two 3 6 (.go 6 (.take 7 (.go 8 (.go 10 (.go 11 (.go 12 (.go 13 .nil))))))) (.go 3 (.take 7 (.go 8 (.go 10 (.go 11 (.go 12 (.go 13 .nil)))))))))))))) (by kernel_rfl) (by kernel_rfl) ba ?_
 iterate 6
  refine' pT ?_ ?_;rotate_left
  ·intro x;go_simp
   try rfl
  try simp only[pu]
 clear s0 s1 r0 r1;refine gL ?_ ?_
 ·have T4:=xP w6 (Xf (e.kh:Nat)) (Xf (e.vh:Nat));refine pD fun K hK=>?_;go_simp
  try go_simp
  refine hK.out _ _ (HJ.out _ T4.1) ?_;clear hK K
  try simp only[pu]
  refine pD fun K hK=>?_;go_simp
  try go_simp
  refine hK.out _ _ (HJ.out _ T4.2.1) ?_;clear hK K
  try simp only[pu]
  refine' pT ?_ ?_;rotate_left
  ·intro x;go_simp
   try rfl
  try simp only[pu]
  refine pD fun K hK=>?_;go_simp;refine(HA.out _ w6.heap.size (w6.heap.size+1) T4.2.1 (by omega) (by omega) T4.2.2.1 T4.2.2.2).mono ?_;exact qByab
 ·have T4:=xP w6 (Xf (e.vh:Nat)) (Xf (e.kh:Nat));refine pD fun K hK=>?_;go_simp
  try go_simp
  refine hK.out _ _ (HJ.out _ T4.1) ?_;clear hK K
  try simp only[pu]
  refine pD fun K hK=>?_;go_simp
  try go_simp
  refine hK.out _ _ (HJ.out _ T4.2.1) ?_;clear hK K
  try simp only[pu]
  refine' pT ?_ ?_;rotate_left
  ·intro x;go_simp
   try rfl
  try simp only[pu]
  refine pD fun K hK=>?_;go_simp;refine(HA.out _ (w6.heap.size+1) w6.heap.size T4.2.1 (by omega) (by omega) T4.2.2.2 T4.2.2.1).mono ?_;exact qByab
end
section
open Go.RowKit Tryz Go.BigFrame Go.Maps Go.WideMaps Lf Tr
variable{w:World}
def jx(ps t:Nat):Value:=.agg #[PV ps,Xi t]
theorem C8(f:Nat)(v:Value)(w:World):(method (f+1) 164 v "loft/backend.size").run prog w=.ok (321,v) w:=by kernel_rfl
theorem AN(args:Array Value)(w:World):(callFunc 321 args).run prog w=.ok (.enter 321 args) w:=by kernel_rfl
theorem C7(f:Nat)(v:Value)(w:World):(method (f+1) 164 v "loft/backend.rank").run prog w=.ok (319,v) w:=by kernel_rfl
theorem AM(args:Array Value)(w:World):(callFunc 319 args).run prog w=.ok (.enter 319 args) w:=by kernel_rfl
theorem vN(f:Nat)(v:Value)(w:World):(method (f+1) 164 v "loft/backend.at").run prog w=.ok (316,v) w:=by kernel_rfl
theorem ul(args:Array Value)(w:World):(callFunc 316 args).run prog w=.ok (.enter 316 args) w:=by kernel_rfl
theorem vO(f:Nat)(v:Value)(w:World):(method (f+1) 164 v "loft/backend.find").run prog w=.ok (317,v) w:=by kernel_rfl
theorem um(args:Array Value)(w:World):(callFunc 317 args).run prog w=.ok (.enter 317 args) w:=by kernel_rfl
theorem rH(f:Nat)(v:Value)(w:World):(method (f+1) 164 v "loft/backend.insert").run prog w=.ok (318,v) w:=by kernel_rfl
theorem qu(args:Array Value)(w:World):(callFunc 318 args).run prog w=.ok (.enter 318 args) w:=by kernel_rfl
theorem CB{ps t hh z:Nat}(hs:∀W,Below w.heap.size w W->Cb 324 #[PV ps,Xi t,Xu hh] W (Xi z)):
 Cb 321 #[jx ps t,Xu hh] w (Xi z):=by
 have B0:=(aa w.heap.size w).alloc Ih (.cells #[PV ps,Xi t] 164);have hs:=hs _ B0;have HG:=kq2 hs B0;clear hs B0;simp only[jx];go_enter func321,ntmps321;go_wp2_with fail;refine b8 HG.a fun w1 hb1=>?_;have H1:=If (HG.b.trans (hb1.mono HG.b.size));clear hb1;go_wp2_with fail;go_ret;exact⟨rfl,H1.out⟩
theorem Cz{ps t hh z:Nat}(k:List UInt8)(hs:∀W,Below w.heap.size w W->Cb 323 #[PV ps,Xi t,Xu hh,SV k] W (Xi z)):
 Cb 319 #[jx ps t,Xu hh,SV k] w (Xi z):=by
 have B0:=(aa w.heap.size w).alloc Ih (.cells #[PV ps,Xi t] 164);have hs:=hs _ B0;have HG:=kq2 hs B0;clear hs B0;simp only[jx];go_enter func319,ntmps319;go_wp2_with fail;refine b8 HG.a fun w1 hb1=>?_;have H1:=If (HG.b.trans (hb1.mono HG.b.size));clear hb1;go_wp2_with fail;go_ret;exact⟨rfl,H1.out⟩
theorem vD{ps t hh:Nat}(k:List UInt8)(k0 k1:Nat)(z:Bool)(hs:∀W,Below w.heap.size w W->Cb 178 #[PV ps,Xi t,Xu hh,SV k] W (.tuple #[Id k0 k1,.bool z])):
 Cb 317 #[jx ps t,Xu hh,SV k] w (.tuple #[Id k0 k1,.bool z]):=by
 have B1:=(aa w.heap.size w).alloc Ih (.cells #[PV ps,Xi t] 164);have B0:=B1.alloc B1.size (.cells #[Xu 0,Xu 0] 104);have z1:=heap_alloc_new (w.alloc (.cells #[PV ps,Xi t] 164)) (.cells #[Xu 0,Xu 0] 104);simp only[World.size_alloc] at z1;have ha:=hs _ B0;simp only[Id,jx] at ha⊢;have HG:=kq3 ha B0 z1;clear ha B0 B1 hs z1;go_enter func317,ntmps317;go_wp2_with fail;refine b8 HG.a fun w2 hb2=>?_;have z2:=(hb2.block (w.heap.size+1) (by simp)).trans HG.c;obtain⟨d0,d1⟩:=Fp z2;obtain⟨f0,f1⟩:=ef z2;have HW:=kq2 (HG.b.trans (hb2.mono HG.b.size)) z2;clear hb2 z2;go_wp2_with fail;have q3:=ew HW.b (Xu k0) (Xu k1);have B3:=eT HW.a (ct w.heap.size) (Xu k0) (Xu k1);generalize ((w2.setCell ⟨(w.heap.size+1),0,none⟩ (Xu k0)).setCell ⟨(w.heap.size+1),1,none⟩ (Xu k1))=W3 at*;obtain⟨e0,e1⟩:=Fp q3;exact bodyPost_ret (v:=.tuple #[.agg #[Xu k0,Xu k1],.bool z]) (by simp[results,f317,go_sem,e0,e1]) rfl ⟨rfl,B3⟩
theorem KD{ps t hh:Nat}(k:Int)(k0 k1:Nat)(z:Nat)(hs:∀W,Below w.heap.size w W->Cb 322 #[PV ps,Xi t,Xu hh,Xi k] W (.tuple #[Id k0 k1,Xi z])):
 Cb 316 #[jx ps t,Xu hh,Xi k] w (.tuple #[Id k0 k1,Xi z]):=by
 have B1:=(aa w.heap.size w).alloc Ih (.cells #[PV ps,Xi t] 164);have B0:=B1.alloc B1.size (.cells #[Xu 0,Xu 0] 104);have z1:=heap_alloc_new (w.alloc (.cells #[PV ps,Xi t] 164)) (.cells #[Xu 0,Xu 0] 104);simp only[World.size_alloc] at z1;have ha:=hs _ B0;simp only[Id,jx] at ha⊢;have HG:=kq3 ha B0 z1;clear ha B0 B1 hs z1;go_enter func316,ntmps316;go_wp2_with fail;refine b8 HG.a fun w2 hb2=>?_;have z2:=(hb2.block (w.heap.size+1) (by simp)).trans HG.c;obtain⟨d0,d1⟩:=Fp z2;obtain⟨f0,f1⟩:=ef z2;have HW:=kq2 (HG.b.trans (hb2.mono HG.b.size)) z2;clear hb2 z2;go_wp2_with fail;have q3:=ew HW.b (Xu k0) (Xu k1);have B3:=eT HW.a (ct w.heap.size) (Xu k0) (Xu k1);generalize ((w2.setCell ⟨(w.heap.size+1),0,none⟩ (Xu k0)).setCell ⟨(w.heap.size+1),1,none⟩ (Xu k1))=W3 at*;obtain⟨e0,e1⟩:=Fp q3;exact bodyPost_ret (v:=.tuple #[.agg #[Xu k0,Xu k1],Xi z]) (by simp[results,f316,go_sem,e0,e1]) rfl ⟨rfl,B3⟩
theorem rA{ps t hh p q:Nat}{S:St}{Y:Nat->Prop}(h:Ig w ps S Y)(was:Bool){R:Nat->Nat->Nat->St->Prop}(hs:∀W Z,Ig W ps S Z->Ct 137 #[PV ps,Xi t,Xu hh,Id p q] W fun e w'=>∃(x ik iv:Nat) (S':St),e=.returned (.tuple #[Xu x,Id ik iv,.bool was,Xi 0])/\Ig w' ps S' Z/\Fo Z W w'/\R x ik iv S'):
 Ct 318 #[jx ps t,Xu hh,Id p q] w fun e w'=>∃(x ik iv:Nat) (S':St),e=.returned (.tuple #[Xu x,Id ik iv,.bool was,Xi 0])/\Ig w' ps S' Y/\Fo Y w w'/\R x ik iv S':=by
 simp only[Id,jx] at hs⊢;have B1:=(aa w.heap.size w).alloc Ih (.cells #[PV ps,Xi t] 164);have B2:=B1.alloc B1.size (Xe p q);have B3:=B2.alloc B2.size (.cells #[Xu 0,Xu 0] 104);have y3:=heap_alloc_new ((w.alloc (.cells #[PV ps,Xi t] 164)).alloc (Xe p q)) (.cells #[Xu 0,Xu 0] 104);have z2:((w.alloc (.cells #[PV ps,Xi t] 164)).alloc (Xe p q)).heap.size=w.heap.size+2:=by simp
 have z3:(((w.alloc (.cells #[PV ps,Xi t] 164)).alloc (Xe p q)).alloc (.cells #[Xu 0,Xu 0] 104)).heap.size=w.heap.size+3:=by simp
 rw[z2] at y3;have hY:=h.yl;have hw:=hs _ _ (h.wide B3);rw[z3] at hw;have HG:=kq4 hw (Fo.of_below B3 hY) y3 hY;clear hw h y3 B1 B2 B3 hY hs z2 z3;go_enter func318,ntmps318;go_wp2_with fail;refine HG.a.mono ?_;rintro e w6 ⟨x,ik,iv,S',rfl,h6,k6,r6⟩;have y6:=(k6.block (w.heap.size+2) (ae ⟨by omega,by omega⟩)).trans HG.c;obtain⟨e0,e1⟩:=Fp y6;obtain⟨f0,f1⟩:=ef y6;have H6:=kq4 h6 (HG.b.trans (k6.mono fun k hk=>ab hk)) y6 r6;clear h6 k6 y6 r6;go_wp2_with fail;have q7:((w6.setCell ⟨(w.heap.size+2),0,none⟩ (Xu ik)).setCell ⟨(w.heap.size+2),1,none⟩ (Xu iv)).heap[w.heap.size+2]?=_:=ew H6.c (Xu ik) (Xu iv);have o7:∀k,k≠w.heap.size+2->((w6.setCell ⟨(w.heap.size+2),0,none⟩ (Xu ik)).setCell ⟨(w.heap.size+2),1,none⟩ (Xu iv)).heap[k]?=w6.heap[k]?:=fun k hk=>fA hk _ _;have s7:Ig ((w6.setCell ⟨(w.heap.size+2),0,none⟩ (Xu ik)).setCell ⟨(w.heap.size+2),1,none⟩ (Xu iv)) ps S' Y:=(H6.a.write (b:=w.heap.size+2) (ae ⟨by omega,by omega⟩) H6.c ⟨by decide,by decide⟩ (by simp) (by simp) fun k _ hk=>o7 k hk).mono fun k hk=>ab hk;have k7:Fo Y w ((w6.setCell ⟨(w.heap.size+2),0,none⟩ (Xu ik)).setCell ⟨(w.heap.size+2),1,none⟩ (Xu iv)):=H6.b.trans ⟨rfl,rfl,rfl,by simp,fun k hk=>o7 k (by have:=HG.d k hk;omega)⟩;clear e0 e1 f0 f1 o7;generalize ((w6.setCell ⟨(w.heap.size+2),0,none⟩ (Xu ik)).setCell ⟨(w.heap.size+2),1,none⟩ (Xu iv))=W7 at*;obtain⟨e0,e1⟩:=Fp q7;exact bodyPost_ret (v:=.tuple #[Xu x,.agg #[Xu ik,Xu iv],.bool was,Xi 0]) (by simp[results,f318,go_sem,e0,e1]) rfl ⟨x,ik,iv,S',rfl,s7,k7,H6.d⟩
end
section
open Lf Tr
namespace Bt
variable{d:Nat}{e:It}{key:List UInt8}
def eD(e d:It):It:=if d.k=e.k then e else d
theorem wI(e d:It):(eD e d).k=d.k:=by
 unfold eD;grind
theorem mg{e d:It}(h:d.k≠e.k):eD e d=d:=if_neg h
def eA(f:It->It): {d:Nat} ->Bt d->Bt d
 | 0,x=>nomatch x
 | d+1,x=>(⟨Bn.h x,(Bn.es x).map f,(Bn.ks x).map fun k=>eA f k⟩:Bn (Bt d))
theorem CI(f:It->It)(x:Bt (d+1)):eA f x=(⟨Bn.h x,(Bn.es x).map f,(Bn.ks x).map (eA f)⟩:Bn (Bt d)):=rfl
theorem Ka(f:It->It):∀(es:List It) (ks:List (List It)),ei (es.map f) (ks.map (List.map f))=(ei es ks).map f
 | [],[]=>rfl
 | [],_::_=>rfl
 | e::es,[]=>by
  have:=Ka f es [];simp only[bg,List.map_nil] at this⊢;rw[ei,ei,bg,this]
 | e::es,k::ks=>by
  have:=Ka f es ks;simp only[bg];rw[ei,ei,aP,bg,this]
theorem xW:∀(es:List It) (ks:List (List It)),(ks=[]\/ks.length=es.length+1)->(ei es ks).Perm (es++ks.flatten)
 | [],[],_=>List.Perm.refl _
 | [],[k],_=>by simp[ei]
 | [],_::_::_,h=>by simp at h
 | e::es,[],_=>by rw[jY];simp
 | e::es,k::ks,h=>by
  have ih:=xW es ks (ae (by simpa using h));rw[ei,dy];refine List.perm_middle.trans (List.Perm.cons e ((ih.append_left k).trans ?_));show (k++(es++ks.flatten)).Perm (es++(k++ks.flatten))
  rw[<-bC,<-bC];exact List.Perm.append_right _ List.perm_append_comm
theorem ln(f:It->It):∀{d:Nat} (x:Bt d),its (eA f x)=(its x).map f
 | 0,x=>nomatch x
 | d+1,x=>by
  show ei ((Bn.es x).map f) (((Bn.ks x).map (eA f)).map its)=(ei (Bn.es x) ((Bn.ks x).map its)).map f
  rw[<-Ka,cD,cD];congr 1
  exact aW fun k _=>ln f k
theorem lW(f:It->It):∀{d:Nat} (x:Bt d),nodes (eA f x)=nodes x
 | 0,x=>nomatch x
 | d+1,x=>by
  show Bn.h x::(((Bn.ks x).map (eA f)).map nodes).flatten=Bn.h x::((Bn.ks x).map nodes).flatten
  rw[cD];congr 2
  exact aW fun k _=>lW f k
theorem mapB_hd(f:It->It):∀{d:Nat} (x:Bt d),hd (eA f x)=hd x
 | 0,x=>nomatch x
 | _+1,_=>rfl
theorem vE(f:It->It):∀{d:Nat} (x:Bt d),nk (eA f x)=nk x
 | 0,x=>nomatch x
 | _+1,x=>by
  show ((Bn.es x).map f).length=(Bn.es x).length
  rw[ao]
theorem vF(f:It->It){t:Nat}:∀{d:Nat} {x:Bt d},Ok t x->Ok t (eA f x)
 | 0,x,_=>nomatch x
 | d+1,x,h=>by
  obtain⟨h1,h2,h3⟩:=h;refine⟨?_,?_,?_⟩
  ·show ((Bn.es x).map f).length<=_
   rw[ao];exact h1
  ·show ((Bn.ks x).map (eA f)).length=if d=0 then 0 else((Bn.es x).map f).length+1
   rw[ao,ao];exact h2
  ·intro k hk;have hk:k∈(Bn.ks x).map (eA f):=hk;obtain⟨c,hc,rfl⟩:=ay.1 hk;exact⟨vF f (h3 c hc).1,by rw[vE];exact(h3 c hc).2⟩
theorem rC {f:It->It}{t:Nat}:∀{d:Nat} {x:Bt d},Ok t x->(∀a∈its x,f a=a)->eA f x=x
 | 0,x,_,_=>nomatch x
 | d+1,x,h,hf=>by
  have e1:(Bn.es x).map f=Bn.es x:=(aW fun a ha=>(hf a (lN h.okN ha):f a=id a)).trans (dH _);have e2:(Bn.ks x).map (eA f)=Bn.ks x:=(aW fun k hk=>(rC (h.2.2 k hk).1 fun a ha=>hf a (kid_its h.okN hk ha):eA f k=id k)).trans (dH _);rw[CI,e1,e2];rfl
theorem og{α:Type}{R:α->α->Prop}{L:List (List α)}(h:L.flatten.Pairwise R){i j:Nat}(hi:i<L.length)(hj:j<L.length)(hij:i<j):∀x∈L[i],∀y∈L[j],R x y:=by
 grind [List.pairwise_iff_getElem]
def nodeB(key:List UInt8): {d:Nat} ->Bt d->Option (Nat×BN×Nat)
 | 0,x=>nomatch x
 | _+1,x=>if fo key (Bn.es x)=true then some (Bn.h x,bn x,Fr key (Bn.es x)) else match (Bn.ks x)[Fr key (Bn.es x)]? with | some k=>nodeB key k | none=>none
theorem nodeB_here{x:Bt (d+1)}(h:fo key (Bn.es x)=true):nodeB key x=some (hd x,bn x,Fr key (Bn.es x)):=if_pos h
theorem nodeB_down{x:Bt (d+1)}(h:fo key (Bn.es x)=false){k:Bt d}(hk:(Bn.ks x)[Fr key (Bn.es x)]?=some k):nodeB key x=nodeB key k:=by
 show (if fo key (Bn.es x)=true then some (Bn.h x,bn x,Fr key (Bn.es x)) else match (Bn.ks x)[Fr key (Bn.es x)]? with | some k=>nodeB key k | none=>none)=_
 grind
theorem nodeB_none{x:Bt (d+1)}(h:fo key (Bn.es x)=false)(hk:(Bn.ks x)[Fr key (Bn.es x)]?=none):nodeB key x=none:=by
 show (if fo key (Bn.es x)=true then some (Bn.h x,bn x,Fr key (Bn.es x)) else match (Bn.ks x)[Fr key (Bn.es x)]? with | some k=>nodeB key k | none=>none)=_
 grind
def setN(n:BN)(k:Nat)(e:It):BN:= { n with keys:=n.keys.set k e.kh,vals:=n.vals.set k e.vh }
theorem Ca{a b:It}(h:eU a b):a.k≠b.k:=ne_of_lt h
theorem vd{t d:Nat}{x:Bt (d+1)}(ok:Ok t x)(hs:(its x).Pairwise eU):(Bn.es x++((Bn.ks x).map its).flatten).Pairwise fun a b=>a.k≠b.k:=by
 have h1:(its x).Pairwise fun a b=>a.k≠b.k:=hs.imp Ca;refine(List.Perm.pairwise_iff (fun h=>Ne.symm h) (xW _ _ ?_)).1 (by rw[<-dQ];exact h1)
 rcases ok.okN.rows with⟨h0,_⟩ | ⟨h0,_⟩
 ·exact ab h0
 omega
theorem D8{es:List It}(hs:es.Pairwise fun a b=>a.k≠b.k){k:Nat}(hk:k<es.length)(he:es[k].k=e.k):es.map (eD e)=es.set k e:=by
 refine dB (by simp) fun i h1 h2=>?_;rw[bI,List.getElem_set]
 by_cases q:k=i
 ·subst q;rw[if_pos rfl];exact if_pos he
 ·rw[if_neg q]
  grind [List.pairwise_iff_getElem,hs,mg,Nat.lt_or_ge]
theorem CY{t d:Nat}{l:List (Bt d)}(ok:∀k∈l,Ok t k)(h:∀a∈(l.map its).flatten,a.k≠e.k):l.map (eA (eD e))=l:=
 (aW fun k hk=>(rC (ok k hk) fun a ha=>mg (h a (cC.2 ⟨its k,ay.2 ⟨k,hk,rfl⟩,ha⟩)):eA (eD e) k=id k)).trans (dH _)
structure RepAt (S:St) (o:Nat->Nat) (t:Nat) {d:Nat} (x:Bt d) (e e0:It) (g:Nat) (n:BN) (k:Nat):Prop where
 find:findB e.k (its x)=some e0
 key:n.keys[k]?=some e0.kh
 val:n.vals[k]?=some e0.vh
 mem:g∈nodes x
 bnok:iU t (setN n k e)
 words:∀v∈bnWords t (setN n k e),v<2^64
 len:reco S g=some (bnWords t n)
 fit:Fw (FC S g 0 (bnWords t (setN n k e))) o
 at':At (FC S g 0 (bnWords t (setN n k e))) t (eA (eD e) x)
 fr:∀z,z≠g->reco (FC S g 0 (bnWords t (setN n k e))) z=reco S z
 grew:ej S (FC S g 0 (bnWords t (setN n k e))) 0 0
theorem D7{S:St}{o:Nat->Nat}{t d:Nat}{x:Bt (d+1)}(he:e.kh<2^64/\e.vh<2^64)(hx:Walk S o t x)(hn:(nodes x).Nodup)(hb:ItLt (its x))(h:fo e.k (Bn.es x)=true):
 ∃e0,RepAt S o t x e e0 (hd x) (bn x) (Fr e.k (Bn.es x)):=by
 obtain⟨hk,ai⟩:=mO h;obtain⟨k1,k2,k3⟩:=bz.1 (vd hx.ok hx.sorted);have a1:=D8 k1 hk ai;have a0:(Bn.ks x).map (eA (eD e))=Bn.ks x:=CY (fun k hk=>(hx.ok.2.2 k hk).1) fun a ha q=>k3 _ (aw hk) a ha (ai.trans q.symm);have a4:(its (eA (eD e) x)).length=(its x).length:=by rw[ln,ao]
 have ar:bn (eA (eD e) x)=setN (bn x) (Fr e.k (Bn.es x)) e:=by
  have e1:Bn.es (eA (eD e) x)=(Bn.es x).set (Fr e.k (Bn.es x)) e:=a1;have e2:Bn.ks (eA (eD e) x)=Bn.ks x:=a0;unfold bn setN
  simp_all
 have a5:∀a∈Bn.es (eA (eD e) x),a.kh<2^64/\a.vh<2^64:=fun a ha=>by
  have e1:Bn.es (eA (eD e) x)=(Bn.es x).set (Fr e.k (Bn.es x)) e:=a1;rw[e1] at ha
  rcases cy ha with q | rfl
  ·exact hb a (lN hx.ok.okN q)
  omega
 have au:∀k∈Bn.ks (eA (eD e) x),At S t k:=fun k hk=>by
  have e2:Bn.ks (eA (eD e) x)=Bn.ks x:=a0;rw[e2] at hk;exact hx.at'.2 k hk
 have ap:=bnLt_of (x:=eA (eD e) x) hx.fit a5 au (by rw[a4];have:=hx.few;omega);have a6:∀k∈Bn.ks (eA (eD e) x),hd (eA (eD e) x)∉nodes k:=hd_kids (by rw[lW];omega);have a8:(Bn.es (eA (eD e) x)).length<=31:=by
  show ((Bn.es x).map (eD e)).length<=31
  rw[ao];exact hx.es.2.2
 have a7:(bnWords t (bn x)).length=6*t:=jJ ..;have hp:=put_node (x:=eA (eD e) x) hx.fit au a6 (ws:=bnWords t (bn x)) hx.at'.1 a7 ap (by omega);have ad:=hx.at'.bnok hx.fit hx.t1 hx.t2 hx.ok;have a2:=kX (t:=t) ap (by unfold bn;grind);rw[ar,mapB_hd] at hp;rw[ar] at a2;obtain⟨p1,p2,p3,p4⟩:=hp;have a3:findB e.k (its x)=some (Bn.es x)[Fr e.k (Bn.es x)]:=by
  have an:=hx.sorted;rw[dQ] at an⊢
  rcases hx.ok.okN.rows with⟨h0,_⟩ | ⟨h0,_⟩
  ·rw[h0,jY] at an⊢;exact Kv an hk ai
  ·exact((l7 h0 an).here hk ai).1
 exact⟨(Bn.es x)[Fr e.k (Bn.es x)],a3,by unfold bn;grind,by unfold bn;grind,hd_mem x,⟨ad.lo,ad.hi,by unfold setN;rw[bA];exact ad.many,by unfold setN;rw[bA,bA];exact ad.vals,by unfold setN;rw[bA];exact ad.kids⟩,a2,hx.at'.1,p1,p2,p3,p4⟩
theorem rep_at {S:St}{o:Nat->Nat}{t:Nat}{e:It}(he:e.kh<2^64/\e.vh<2^64){g:Nat}{n:BN}{k:Nat}:
 ∀{d:Nat} {x:Bt d},Walk S o t x->(nodes x).Nodup->ItLt (its x)->nodeB e.k x=some (g,n,k)->∃e0,RepAt S o t x e e0 g n k
 | 0,x,_,_,_,_=>nomatch x
 | d+1,x,hx,hn,hb,hnb=>by
  cases hh:fo e.k (Bn.es x) with
  | true=>
   rw[nodeB_here hh] at hnb;cases hnb
   exact D7 he hx hn hb hh
  | false=>
   cases hj:(Bn.ks x)[Fr e.k (Bn.es x)]? with
   | none=>
    rw[nodeB_none hh hj] at hnb;cases hnb
   | some c=>
    rw[nodeB_down hh hj] at hnb;obtain⟨a9,an⟩:=aq.1 hj;have ad:c∈Bn.ks x:=by grind
    have ap:((Bn.ks x).map nodes).flatten.Nodup:=(aF.1 hn).2;have a8:(nodes c).Nodup:=(List.pairwise_flatten.1 ap).1 _ (ay.2 ⟨c,ad,rfl⟩);obtain⟨e0,r⟩:=rep_at he (hx.kid ad) a8 (fun a ha=>hb a (kid_its hx.ok.okN ad ha)) hnb;have a6:g∈nodes x:=mem_nodes_kid ad r.mem;have a5:hd x≠g:=fun q=>hd_kids hn c ad (q▸r.mem);obtain⟨k1,k2,k3⟩:=bz.1 (vd hx.ok hx.sorted);obtain⟨f1,f2⟩:e0∈its c/\e0.k=e.k:=by
     have:=r.find;grind [findB,List.mem_of_find?_eq_some]
    have a4:(Bn.es x).map (eD e)=Bn.es x:=(aW fun a ha=>(mg fun q=>k3 a ha e0 (cC.2 ⟨its c,ay.2 ⟨c,ad,rfl⟩,f1⟩) (q.trans f2.symm):eD e a=id a)).trans (dH _);have ba:(its (eA (eD e) x)).length=(its x).length:=by rw[ln,ao]
    have a3:bn (eA (eD e) x)=bn x:=by
     have e1:Bn.es (eA (eD e) x)=Bn.es x:=a4;have e2:(Bn.ks (eA (eD e) x)).map hd=(Bn.ks x).map hd:=by
      show ((Bn.ks x).map (eA (eD e))).map hd=_
      rw[cD];exact aW fun k _=>mapB_hd (eD e) k
     unfold bn;grind
    refine⟨e0,?_,r.key,r.val,a6,r.bnok,r.words,r.len,r.fit,⟨?_,fun k hk=>?_⟩,r.fr,r.grew⟩
    ·have a2:=hx.sorted;rw[dQ] at a2⊢;rcases hx.ok.okN.rows with⟨h0,_⟩ | ⟨h0,_⟩
     ·grind
     ·rw[(l7 h0 a2).down (mN hh)];have a':Fr e.k (Bn.es x)<((Bn.ks x).map its).length:=by grind
      have:((Bn.ks x).map its).getD (Fr e.k (Bn.es x)) []=its c:=by grind
      rw[this];exact r.find
    ·show reco _ (Bn.h x)=some (bnWords t (bn (eA (eD e) x)))
     rw[a3];exact(r.fr _ a5).trans hx.at'.1
    ·have hk:k∈(Bn.ks x).map (eA (eD e)):=hk;obtain⟨c',ai,rfl⟩:=ay.1 hk;obtain⟨i,hi,a7⟩:=bK.1 ai;by_cases q:i=Fr e.k (Bn.es x)
     ·subst q;have:c'=c:=a7.symm.trans an;rw[this];exact r.at'
     ·have ar:i<((Bn.ks x).map its).length:=by grind
      have a0:Fr e.k (Bn.es x)<((Bn.ks x).map its).length:=by grind
      have au:i<((Bn.ks x).map nodes).length:=by grind
      have a1:Fr e.k (Bn.es x)<((Bn.ks x).map nodes).length:=by grind
      have hz:∀a∈its c',a.k≠e.k:=fun a ha q1=>by
       rcases co i (Fr e.k (Bn.es x)) with h3 | h3
       ·exact og k2 ar a0 h3 a (by grind) e0 (by grind) (q1.trans f2.symm)
       ·exact og k2 a0 ar (by omega) e0 (by grind) a (by grind) (f2.trans q1.symm)
      rw[rC (hx.ok.2.2 c' ai).1 fun a ha=>mg (hz a ha)];refine(hx.at'.2 c' ai).frame fun z hz1=>r.fr z fun q1=>?_;rcases co i (Fr e.k (Bn.es x)) with h3 | h3
      ·exact og ap au a1 h3 z (by grind) g (by rw[bI,an];exact r.mem) q1
      ·exact og ap a1 au (by omega) g (by rw[bI,an];exact r.mem) z (by grind) q1.symm
theorem nodeB_some {S:St}{o:Nat->Nat}{t:Nat}{key:List UInt8}:∀{d:Nat} {x:Bt d},Walk S o t x->(findB key (its x)).isSome=true->∃r,nodeB key x=some r
 | 0,x,_,_=>nomatch x
 | d+1,x,hx,hf=>by
  cases hh:fo key (Bn.es x) with
  | true=>exact⟨_,nodeB_here hh⟩
  | false=>
   have ad:=hx.sorted;rw[dQ] at ad hf;rcases hx.ok.okN.rows with⟨h0,_⟩ | ⟨h0,_⟩
   ·rw[h0,jY] at ad hf;rw[findB_none (vl ad (mN hh))] at hf;grind
   ·rw[(l7 h0 ad).down (mN hh)] at hf;have an:=kH (key:=key) (Bn.es x);have ai:Fr key (Bn.es x)<(Bn.ks x).length:=by rw[ao] at h0;omega
    rw[jN ai] at hf;obtain⟨r,hr⟩:=nodeB_some (hx.kid (aw ai)) hf;grind [nodeB_down,List.getElem?_eq_getElem,trans]
end Bt
end
section
open Go.RowKit Tryz Go.BigFrame Go.Maps Go.WideMaps Lf Tr
variable{S:St}{Y:Nat->Prop}{l:List Nat}{ps:Nat}{w:World}
theorem Im{D b c k:Nat}(h:FE w D (.slice (some ⟨b,0,none⟩) l.length c) l)(x:Nat)(hk:k<l.length):
 FE (w.setCell ⟨b,k,none⟩ (Xu x)) D (.slice (some ⟨b,0,none⟩) l.length c) (l.set k x):=by
 rcases h.2 with⟨h0,_⟩ | ⟨g',an,ad,hv,hg,hb,h1,h2,h3,h4⟩
 ·cases h0
 ·injection hv with hv1 hv2 hv3
  injection hv1 with hv1
  injection hv1 with hv1
  subst hv1 hv3;refine⟨by simp[hV],ae ⟨b,c,ad.setIfInBounds k (Xu x),by rw[bA],hg,heap_setCell hb,by rw[bA];exact h1,h2,by simpa using h3,?_⟩⟩;have hl:(hV l).length=l.length:=by simp[hV]
  have ai:ad.toList=hV l++ad.toList.drop (l.length*1):=by rw[<-h4,aX]
  rw[bA];simp only[cR];rw[ai,List.set_append_left _ _ (by omega),List.take_left' (by simp[hV])]
  simp[hV,List.map_set]
theorem qByac{P:Prop}(h:P:=by
 rw[h3] at this
 injection this with this
 injection this with _ this
 exact absurd this (by decide)):P:=h
theorem wL{D b c k:Nat}(h:Ig w ps S Y)(ho:FE w D (.slice (some ⟨b,0,none⟩) l.length c) l)(hD:fy<D)(hy:Y b)(x:Nat):Ig (w.setCell ⟨b,k,none⟩ (Xu x)) ps S Y:=by
 obtain⟨h1,h2,cs,fr,h3⟩:=FE.block ho rfl;obtain⟨pa,pm,ph,pt,v,h⟩:=h;refine⟨pa,pm,ph,pt,v,h.of_keep (by rw[size_setCell];exact Nat.le_refl _) fun k hk hc=>FB ?_⟩;rintro rfl
 rcases hc with hc | rfl | rfl | rfl
 ·exact hc hy
 ·have:=h.hd;exact qByac
 ·have:=h.heap.hp;exact qByac
 ·exact absurd (aJ hD h1) (Nat.lt_irrefl _)
theorem oJ{w w':World}{D:Nat}{v:Value}(h:FE w D v l)(hb:Below w.heap.size w w'):FE w' D v l:=FE.at h fun g hg=>hb.block g (FE.ge h g hg).2
theorem mY{D b c k v:Nat}(h:FE w D (.slice (some ⟨b,0,none⟩) l.length c) l)(hk:l[k]?=some v):w.cell? ⟨b,k,none⟩=some (Xu v)/\w.frozen? ⟨b,k,none⟩=false:=by
 obtain⟨ad,ai⟩:=aq.1 hk;have h1:=World.ownsRow.cells h (g:=b) rfl k (Xu v) (by simp[hV,ai,ad]);rw[Addr.add_lit] at h1;obtain⟨_,_,cs,fr,h3⟩:=FE.block h rfl
 rcases h.2 with⟨h0,_⟩ | ⟨g',an,ap,hv,hg,hb,_⟩
 ·cases h0
 ·injection hv with hv1 _ _
  injection hv1 with hv1
  injection hv1 with hv1
  subst hv1;exact⟨by simpa using h1,AT hb⟩
theorem zR{o:Nat->Nat}(h:Ig w ps S Y){t d:Nat}{x:Bt (d+1)}(hx:Bt.Walk S o t x)(hd:d<40){e e0:It}{g:Nat}{n0:BN}{k0:Nat}(hnd:Bt.nodeB e.k x=some (g,n0,k0))(hrep:Bt.RepAt S o t x e e0 g n0 k0):
 Ct 179 #[FH ps t,Xu (Bt.hd x:Nat),SV e.k,Id e.kh e.vh] w fun en w'=>en=.returned (Id e0.kh e0.vh)/\Ig w' ps (FC S g 0 (bnWords t (Bt.setN n0 k0 e))) Y/\Fo Y w w':=by
 have B0:=(((aa w.heap.size w).alloc Ih (Xd ps t)).alloc (by simp) (Xe e.kh e.vh)).alloc (by simp;omega) (.cells #[Xu 0,Xu 0] 104);have z1:(w.alloc (Xd ps t)).heap.size=w.heap.size+1:=by simp
 have z2:((w.alloc (Xd ps t)).alloc (Xe e.kh e.vh)).heap.size=w.heap.size+2:=by simp
 have q1:=heap_alloc_new w (Xd ps t);have q2:=heap_alloc_new (w.alloc (Xd ps t)) (Xe e.kh e.vh);have q3:=heap_alloc_new ((w.alloc (Xd ps t)).alloc (Xe e.kh e.vh)) (.cells #[Xu 0,Xu 0] 104);rw[z1] at q2;rw[z2] at q3;have c2:=(aa (w.heap.size+2) ((w.alloc (Xd ps t)).alloc (Xe e.kh e.vh))).alloc (by rw[z2];exact Nat.le_refl _) (.cells #[Xu 0,Xu 0] 104);have c1:=(aa (w.heap.size+1) (w.alloc (Xd ps t))).alloc (by rw[z1];exact Nat.le_refl _) (Xe e.kh e.vh);have q1:=(c2.block w.heap.size (by omega)).trans ((c1.block w.heap.size (by omega)).trans q1);have q2:=(c2.block (w.heap.size+1) (by omega)).trans q2;have hz:w.heap.size+3<=(((w.alloc (Xd ps t)).alloc (Xe e.kh e.vh)).alloc (.cells #[Xu 0,Xu 0] 104)).heap.size:=by simp
 have el:=xA h;generalize hW:((w.alloc (Xd ps t)).alloc (Xe e.kh e.vh)).alloc (.cells #[Xu 0,Xu 0] 104)=W0 at*;clear c1 c2 z1 z2;have hi:=hx.fit.inv;have a0:=fun W (hw:Below W0.heap.size W0 W) {n:BN} {hh:Nat} (hb:jg S t hh n)=>kI (h.below (B0.trans (hw.mono B0.size))) hi hb;have ed:=fun W (hw:Below W0.heap.size W0 W) {es:List It} {vk vv vc:Value} {sz:Nat} hk hl hs he=>nR (h.below (B0.trans (hw.mono B0.size))) hi t (es:=es) (vk:=vk) (vv:=vv) (vc:=vc) (sz:=sz) hk hl hs he e.k;have ee:=fun W (hw:Below W0.heap.size W0 W)=>h.wide (B0.trans (hw.mono B0.size));have d7:=fL hx.fit hrep.len;have cb:=jw hx.fit.tab hrep.len;rw[jJ] at cb;have a1:=fun(W:World) (Z:Nat->Prop) (hW:Ig W ps S Z) {vk vv vc:Value} (k1:FD W vk (Bt.setN n0 k0 e).keys) (k2:FD W vv (Bt.setN n0 k0 e).vals) (k3:FD W vc (Bt.setN n0 k0 e).kids)=>Jg hW hi hrep.bnok k1 k2 k3 g d7.2.1 cb hrep.words;have HG:=kq5 (kq7 B0 q1 q2 q3 hz el h.yl) @a0 @ed ee @a1;have HX:=kq3 hx hnd hrep;obtain⟨h0,b4⟩:=Ii (Bt.hd x);have HR:=If b4;rw[b4];obtain⟨ek,b2⟩:=Ii e.k;have a5:=If b2;rw[b2];unfold FH Id;clear a0 ed h hx hi B0 q1 q2 q3 hz b4 b2 hnd hrep a1 ee d7 cb el;go_enter func179,ntmps179;go_wp2_with fail;clear hW
 go_loopw [1,9,10,11,12,13,14] (fun s1 _ _ _ _ _ s14 wr=>∃(d' i hh:Nat),s1=Xu hh/\s14=Xi i/\i+d'<40/\Hid (Below W0.heap.size W0 wr/\∃y:Bt (d'+1),Bt.Walk S o t y/\Bt.hd y=hh/\Bt.nodeB e.k y=some (g,n0,k0))) (fun _ _ _ _ _ _ s14 _=>40-(intOf s14).toNat)
 case atStart=>exact⟨d,0,h0,rfl,rfl,by omega,aa _ _,x,HX.a,HR.out,HX.b⟩
 case round=>
  obtain⟨d',i,hh,rfl,rfl,g3,I⟩:=hrel;obtain⟨hB,y,hy,b',ec⟩:=I.out;have hlt:(i:Int)<40:=by omega
  have t3:=(hB.block w.heap.size (by have:=HG.a.e;omega)).trans HG.a.b;obtain⟨x0,x1⟩:=Fp t3;have a0:=HG.b wr hB hy.read;unfold FH eC at a0;rw[b'] at a0;have HY:=kq4 hB hy b' ec;clear hB hy b' ec t3;obtain⟨n,hn⟩:=Ii (Bt.bn y);rw[hn] at a0;have c':=If a0;clear a0;go_wp2_with fail;refine c'.out.mono ?_;rintro en w1 ⟨vk,vv,vc,rfl,rows,hb⟩;obtain⟨Ak,ck,rfl⟩:=rows.k.slice2;obtain⟨Av,cv,rfl⟩:=rows.v.slice2;obtain⟨Ac,cc,rfl⟩:=rows.c.slice2;have ai:n.keys.length=(Bn.es y).length:=by rw[<-hn];unfold Bt.bn;rw[ao]
  have an:n.vals.length=(Bn.es y).length:=by rw[<-hn];unfold Bt.bn;rw[ao]
  have bf:n.kids.length=(Bn.ks y).length:=by rw[<-hn];unfold Bt.bn;rw[ao]
  have hy:=HY.b;obtain⟨dn,dp,g2⟩:=hy.es;generalize ch:(Bn.es y).length=lk at*;generalize ea:(Bn.ks y).length=lc at*;rw[ai] at rows;rw[an] at rows;rw[bf] at rows;rw[ai,an,bf];generalize eg:n.size=sz at*;have A1:=(aa w1.heap.size w1).alloc Ih (.cells #[.slice Ak lk ck,.slice Av lk cv,.slice Ac lc cc,Xu sz] 215);have p1:=heap_alloc_new w1 (.cells #[.slice Ak lk ck,.slice Av lk cv,.slice Ac lc cc,Xu sz] 215);have B1:=HY.a.trans ((hb.trans (A1.mono hb.size)).mono HY.a.size);have bo:=rows.below A1;have cj:w1.heap.size<(w1.alloc (.cells #[.slice Ak lk ck,.slice Av lk cv,.slice Ac lc cc,Xu sz] 215)).heap.size:=by simp
  have d5:=hb.size;have eb:(∀g,(Value.slice Ak lk ck).ownBlock=some g->g<w1.heap.size)/\(∀g,(Value.slice Av lk cv).ownBlock=some g->g<w1.heap.size)/\∀g,(Value.slice Ac lc cc).ownBlock=some g->g<w1.heap.size:=⟨fun g q=>(rows.k.ge g q).2,fun g q=>(rows.v.ge g q).2,fun g q=>(rows.c.ge g q).2⟩;obtain⟨W1,d4⟩:=Ii (w1.alloc (.cells #[.slice Ak lk ck,.slice Av lk cv,.slice Ac lc cc,Xu sz] 215));rw[d4] at A1 p1 B1 bo cj;have t3:=(B1.block w.heap.size (by have:=HG.a.e;omega)).trans HG.a.b;obtain⟨x0,x1⟩:=Fp t3;obtain⟨y0,y1,y2,y3⟩:=Fy p1;have d8:n.keys=(Bn.es y).map (·.kh):=by rw[<-hn];rfl
  have cp:=bo.k.hrow;rw[d8] at cp;have bj:=HG.c W1 B1 (vv:=.slice Av lk cv) (vc:=.slice Ac lc cc) (sz:=sz) cp (by omega) dn dp;unfold FH eC at bj;rw[a5.out] at bj;have bq:=If bj;have er:=HY.a.size;have H1:=kq8 B1 p1 bo t3 cj d5 er eb;clear bj rows bo hb A1 p1 B1 t3 cp d8 c' cj d5 er dn dp eb;obtain⟨k,hk⟩:=Ii (Fr ek (Bn.es y));obtain⟨he,b9⟩:=Ii (fo ek (Bn.es y));rw[hk,b9] at bq;have g5:k<=lk:=by rw[<-hk,<-ch];exact kH _
  have HK:=kq9 hk b9 ch ea hn eg ai an bf;clear hk b9 ch ea hn eg ai an bf hy;go_wp2_with fail;refine bq.out.mono ?_;rintro en w2 ⟨rfl,bd⟩;have p2:=(bd.block w1.heap.size H1.e).trans H1.b;have t2:=(bd.block w.heap.size (by have:=H1.a.size;have:=HG.a.e;omega)).trans H1.d;clear x0 x1 y0 y1 y2 y3;obtain⟨x0,x1⟩:=Fp t2;obtain⟨y0,y1,y2,y3⟩:=Fy p2;have a4:=If bd;clear bd p2 t2 bq d4
  cases he with
  | true=>
   have a6:=Bt.nodeB_here (key:=e.k) (x:=y) (by rw[a5.out];exact HK.b);rw[HY.d,HY.c,a5.out,HK.a,HK.e] at a6
   injection a6 with a6
   injection a6 with hg1 a6
   injection a6 with hn1 hk1
   subst hg1 hn1 hk1;have hrep:=HX.c;have ca:=hrep.key;have em:=hrep.val;obtain⟨gn,_⟩:=aq.1 ca;rw[HK.g] at gn;have g6:(k0:Int)<lk:=by omega
   have R2:=H1.c.below a4.out;have ai:=HK.g;have an:=HK.h;obtain⟨gk,g0,cq,_⟩:=FE.some R2.k (by rw[ai];omega);obtain⟨gv,g1,cu,_⟩:=FE.some R2.v (by rw[an];omega)
   injection cq with cq hv1b hv1c
   injection cu with cu hv2b hv2c
   clear hv1b hv1c hv2b hv2c;subst cq cu;have Rk:=R2.k;have Rv:=R2.v;rw[<-ai] at Rk;rw[<-an] at Rv;obtain⟨dk,fk⟩:=mY Rk ca;obtain⟨dv,fv⟩:=mY Rv em;have d9:gk≠gv:=fun q=>R2.kv gk rfl (by rw[q];rfl);have gf:=R2.k.ge gk rfl;have gs:=R2.v.ge gv rfl;have p2:=(a4.out.block w1.heap.size H1.e).trans H1.b;have t2:=(a4.out.block w.heap.size (by have:=H1.a.size;have:=HG.a.e;omega)).trans H1.d;have B2:=H1.a.trans (a4.out.mono H1.a.size);have a2:=(B2.block (w.heap.size+1) (by have:=HG.a.e;omega)).trans HG.a.c;have r2:=(B2.block (w.heap.size+2) (by have:=HG.a.e;omega)).trans HG.a.d;have hj:=B2.size;have hf:=H1.g;have g9:=H1.h.1 gk rfl;have g':=H1.h.2.1 gv rfl;have g8:=H1.h.2.2;have hm:=H1.f;have ha:=HG.a.e;have e9:=kq11 R2 ai an p2 t2 a2 r2 B2 Rk Rv hrep;have d0:w1.heap.size<w2.heap.size:=(gl p2);obtain⟨I,ar,au⟩:=ub w2 w2.heap.size;have e1:=fun x:Fq I=>(ar _ x.ok w1.heap.size d0 (by omega)).trans p2;obtain⟨m0,m1,m2,m3⟩:=iB e1;have o1:∀x:Fq I,x.to.cell? ⟨gk,k0,none⟩=some (Xu (e0.kh:Nat)):=fun x=>(j9 (ar _ x.ok gk gf.2 (by omega))).trans dk;have o2:∀x:Fq I,x.to.cell? ⟨gv,k0,none⟩=some (Xu (e0.vh:Nat)):=fun x=>(j9 (ar _ x.ok gv gs.2 (by omega))).trans dv;have f':I w2.drew:=au _ fun k hk _=>rfl;have HI:=If au;clear ar au e1 R2 Rk Rv ai an p2 t2 a2 r2 B2 ca em hrep dk fk dv fv x0 x1 y0 y1 y2 y3;go_wp2_with fail;refine fh I (.take 0 (.take 1 (.take 2 (.take 3 (.take 4 (.take 5 (.take 6 (.take 7 (.take 8 (.take 9 (.take 10 (.go 11 (.go 12 .nil))))))))))))) (by kernel_rfl) (by kernel_rfl) f' ?_
   iterate 11
    refine' pT ?_ ?_;rotate_left
    ·intro x;go_simp
     try rfl
    try simp only[pu]
   refine pD fun K hK=>?_;go_simp
   try go_simp
   refine hK.out _ _ (HI.out _ fun k hk _=>((aa w2.heap.size w2).alloc Ih _).drew.block k hk) ?_;clear hK K
   try simp only[pu]
   refine pD fun K hK=>?_;go_simp;have B8:Below w2.heap.size w2 (w2.alloc (Xe (e0.kh:Nat) (e0.vh:Nat))).drew:=((aa w2.heap.size w2).alloc Ih _).drew;have q8:(w2.alloc (Xe (e0.kh:Nat) (e0.vh:Nat))).drew.heap[w2.heap.size]?=_:=heap_alloc_new w2 (Xe (e0.kh:Nat) (e0.vh:Nat));have e8:=If (gl q8);generalize (w2.alloc (Xe (e0.kh:Nat) (e0.vh:Nat))).drew=w8 at*
   try go_simp
   refine hK.out _ _ (HI.out _ fun k hk _=>B8.block k hk) ?_;clear hK K
   try simp only[pu]
   refine eP ?_;clear m0 m1 m2 m3 o1 o2;have ad:=e9.out;have c9:=ad.2.2.2.2.2.2.2.1.trans (B8.mono ad.2.2.2.2.2.2.2.1.size);have R8:=ad.1.below B8;have bc:=oJ ad.2.2.2.2.2.2.2.2.1 B8;have b0:=oJ ad.2.2.2.2.2.2.2.2.2.1 B8;have p8:=(B8.block w1.heap.size d0).trans ad.2.2.2.1;have t8:=(B8.block w.heap.size (by omega)).trans ad.2.2.2.2.1;have a8:=(B8.block (w.heap.size+1) (by omega)).trans ad.2.2.2.2.2.1;have r8:=(B8.block (w.heap.size+2) (by omega)).trans ad.2.2.2.2.2.2.1;have e6:=HG.d w8 c9;have ho:=HG.a.f;obtain⟨dd,ds⟩:=mY bc ad.2.2.2.2.2.2.2.2.2.2.key;obtain⟨e',fn⟩:=mY b0 ad.2.2.2.2.2.2.2.2.2.2.val;have gp:=B8.size;have yk:Y gk\/(w.heap.size<=gk/\gk<w8.heap.size):=ae ⟨by omega,by omega⟩;have yv:Y gv\/(w.heap.size<=gv/\gv<w8.heap.size):=ae ⟨by omega,by omega⟩;have c7:=wL (k:=k0) (e6.below (aa _ _).drew) (oJ bc (aa _ _).drew) (by omega) yk e.kh;have bv:=Im (oJ bc (aa _ _).drew) e.kh (k:=k0) (aq.1 ad.2.2.2.2.2.2.2.2.2.2.key).1;have o9:∀b,b≠gk->(w8.drew.setCell ⟨gk,k0,none⟩ (Xu (e.kh:Nat))).heap[b]?=w8.heap[b]?:=fun b hb=>FB hb;have a':FE (w8.drew.setCell ⟨gk,k0,none⟩ (Xu (e.kh:Nat))) wr.heap.size (.slice (some ⟨gv,0,none⟩) n0.vals.length cv) n0.vals:=FE.at b0 fun g hg=>by
    have:g=gv:=by injection hg with hg;exact hg.symm
    rw[this];exact o9 gv (Ne.symm d9)
   have bt:FE (w8.drew.setCell ⟨gk,k0,none⟩ (Xu (e.kh:Nat))) wr.heap.size (.slice Ac lc cc) n0.kids:=FE.at R8.c fun g hg=>o9 g fun q=>R8.kc gk rfl (by rw[<-q];exact hg);have p9:=(o9 w1.heap.size (by omega)).trans p8;have t9:=(o9 w.heap.size (by omega)).trans t8;have a9:=(o9 (w.heap.size+1) (by omega)).trans a8;have r9:=(o9 (w.heap.size+2) (by omega)).trans r8;have q9:=(o9 w2.heap.size (by omega)).trans q8;have k9:Fo Y w8 (w8.drew.setCell ⟨gk,k0,none⟩ (Xu (e.kh:Nat))):=⟨rfl,rfl,rfl,by simp,fun k hk=>o9 k (by have:=HG.a.g k hk;omega)⟩;have z9:(w8.drew.setCell ⟨gk,k0,none⟩ (Xu (e.kh:Nat))).heap.size=w8.heap.size:=by simp
   obtain⟨fb,ft⟩:=mY a' ad.2.2.2.2.2.2.2.2.2.2.val;obtain⟨w9,ep⟩:=Ii (w8.drew.setCell ⟨gk,k0,none⟩ (Xu (e.kh:Nat)));rw[ep] at c7 bv a' bt p9 t9 a9 r9 q9 k9 z9 fb ft;clear o9;have c6:=wL (k:=k0) c7 a' (by omega) yv e.vh;have bx:=Im a' e.vh (k:=k0) (aq.1 ad.2.2.2.2.2.2.2.2.2.2.val).1;have ap:∀b,b≠gv->(w9.setCell ⟨gv,k0,none⟩ (Xu (e.vh:Nat))).heap[b]?=w9.heap[b]?:=fun b hb=>FB hb;have bu:FE (w9.setCell ⟨gv,k0,none⟩ (Xu (e.vh:Nat))) wr.heap.size (.slice (some ⟨gk,0,none⟩) n0.keys.length ck) (n0.keys.set k0 e.kh):=FE.at bv fun g hg=>by
    have:g=gk:=by injection hg with hg;exact hg.symm
    rw[this];exact ap gk d9
   have bs:FE (w9.setCell ⟨gv,k0,none⟩ (Xu (e.vh:Nat))) wr.heap.size (.slice Ac lc cc) n0.kids:=FE.at bt fun g hg=>ap g fun q=>R8.vc gv rfl (by rw[<-q];exact hg);have a3:=(ap w1.heap.size (by omega)).trans p9;have a7:=(ap w.heap.size (by omega)).trans t9;have c5:=(ap (w.heap.size+2) (by omega)).trans r9;have c4:=(ap w2.heap.size (by omega)).trans q9;have b1:=(ap (w.heap.size+1) (by omega)).trans a9;have cw:Fo Y w8 (w9.setCell ⟨gv,k0,none⟩ (Xu (e.vh:Nat))):=k9.trans ⟨rfl,rfl,rfl,by simp,fun k hk=>ap k (by have:=HG.a.g k hk;omega)⟩;have c8:(w9.setCell ⟨gv,k0,none⟩ (Xu (e.vh:Nat))).heap.size=w8.heap.size:=by simp[z9]
   obtain⟨e7,eo⟩:=Ii (w9.setCell ⟨gv,k0,none⟩ (Xu (e.vh:Nat)));rw[eo] at c6 bx bu bs a3 a7 c5 c4 b1 cw c8;clear ap;obtain⟨I,ar,au⟩:=lB (fun w'=>w'.heap[w1.heap.size]?=some (.cells #[.slice (some ⟨gk,0,none⟩) lk ck,.slice (some ⟨gv,0,none⟩) lk cv,.slice Ac lc cc,Xu sz] 215)) (fun w'=>w'.heap[w.heap.size+1]?=some (Xe (e.kh:Nat) (e.vh:Nat)));have ev:=fun x:Fq I=>(ar _ x.ok).1;have ez:=fun x:Fq I=>(ar _ x.ok).2;obtain⟨m0,m1,m2,m3⟩:=iB ev;obtain⟨z0,z1⟩:=fw ez;have d2:I w8.drew:=au _ p8 a8;have d3:I w9:=au _ p9 a9;have d1:I e7:=au _ a3 b1;have fj:w8.drew.cell? ⟨gk,k0,none⟩=some (Xu (e0.kh:Nat)):=dd;have fm:w8.drew.frozen? ⟨gk,k0,none⟩=false:=ds;have HT:=kq8 c6 (kq3 bu bx bs) a3 a7 c5 c4 cw c8;clear ar au ev ez e6 c7 c6 bv a' bt bu bx bs p8 t8 a8 r8 q8 p9 t9 a9 r9 q9 k9 z9 a3 a7 c5 c4 b1 cw c8 R8 bc b0 dd ds e' fn yk yv;go_wp2_with fail;refine fh I (.take 0 (.take 1 (.take 2 (.take 3 (.take 4 (.take 5 (.take 6 (.take 7 (.take 8 (.take 9 (.take 10 (.go 11 (.take 12 (.go 13 .nil)))))))))))))) (by kernel_rfl) (by kernel_rfl) d2 ?_
   iterate 11
    refine' pT ?_ ?_;rotate_left
    ·intro x;go_simp
     try rfl
    try simp only[pu]
   refine pD fun K hK=>?_;go_simp
   try go_simp
   refine hK.out _ _ d3 ?_;clear hK K
   try simp only[pu]
   refine' pT ?_ ?_;rotate_left
   ·intro x;go_simp
    try rfl
   try simp only[pu]
   refine pD fun K hK=>?_;go_simp
   try go_simp
   refine hK.out _ _ d1 ?_;clear hK K
   try simp only[pu]
   refine eP ?_;clear m0 m1 m2 m3 z0 z1 fj fm ep eo d2 d3 d1;have cx:=FE.hrow HT.b.a;have c3:=FE.hrow HT.b.b;have e3:=FE.hrow HT.b.c;rw[ad.2.1] at cx;rw[ad.2.2.1] at c3;have a1:=HG.e e7 _ HT.a (vk:=.slice (some ⟨gk,0,none⟩) lk ck) (vv:=.slice (some ⟨gv,0,none⟩) lk cv) (vc:=.slice Ac lc cc) cx c3 e3;unfold eC at a1;rw[show (Bt.setN n0 k0 e).size=sz from HK.f] at a1;have dc:=If a1;have a3:=HT.c;have a7:=HT.d;obtain⟨x0,x1⟩:=Fp a7;obtain⟨y0,y1,y2,y3⟩:=Fy a3;clear a1 cx c3 e3 a3 a7 ad;go_wp2_with fail;refine dc.out.mono ?_;rintro en ba ⟨rfl,e5,bk⟩;have bm:=(bk.block (w.heap.size+2) (ae ⟨by omega,by omega⟩)).trans HT.e;have e4:=(bk.block w2.heap.size (ae ⟨by omega,by have:=gp;have:w2.heap.size<w8.heap.size:=e8.out;omega⟩)).trans HT.f;have e2:=(Fo.of_below (HG.a.a.trans (c9.mono HG.a.a.size)) HG.a.g).trans (HT.g.trans (bk.mono fun k hk=>ab hk));clear x0 x1 y0 y1 y2 y3;obtain⟨x0,x1⟩:=Fp e4;obtain⟨y0,y1⟩:=Fp bm;obtain⟨f0,f1⟩:=ef bm;have bb:=kq3 e5 e2 bm;clear e5 bk bm e4 e2 dc;go_wp2_with fail;have qF:=ew bb.c (Xu (e0.kh:Nat)) (Xu (e0.vh:Nat));have oF:∀k,k≠w.heap.size+2->((ba.setCell ⟨w.heap.size+2,0,none⟩ (Xu (e0.kh:Nat))).setCell ⟨w.heap.size+2,1,none⟩ (Xu (e0.vh:Nat))).heap[k]?=ba.heap[k]?:=fun k hk=>fA hk _ _;have sF:Ig ((ba.setCell ⟨w.heap.size+2,0,none⟩ (Xu (e0.kh:Nat))).setCell ⟨w.heap.size+2,1,none⟩ (Xu (e0.vh:Nat))) ps (FC S g 0 (bnWords t (Bt.setN n0 k0 e))) Y:=(bb.a.write (b:=w.heap.size+2) (ae ⟨by omega,by omega⟩) bb.c ⟨by decide,by decide⟩ (by simp) (by simp) fun k _ hk=>oF k hk).mono fun k hk=>ab hk;have kF:Fo Y w ((ba.setCell ⟨w.heap.size+2,0,none⟩ (Xu (e0.kh:Nat))).setCell ⟨w.heap.size+2,1,none⟩ (Xu (e0.vh:Nat))):=bb.b.trans ⟨rfl,rfl,rfl,by simp,fun k hk=>oF k (by have:=HG.a.g k hk;omega)⟩;clear x0 x1 y0 y1 f0 f1 oF;generalize ((ba.setCell ⟨w.heap.size+2,0,none⟩ (Xu (e0.kh:Nat))).setCell ⟨w.heap.size+2,1,none⟩ (Xu (e0.vh:Nat)))=WF at*;obtain⟨x0,x1⟩:=Fp qF;exact bodyPost_ret (v:=.agg #[Xu (e0.kh:Nat),Xu (e0.vh:Nat)]) (by simp[results,f179,go_sem,x0,x1]) rfl ⟨rfl,sF,kF⟩
  | false=>
   have hnd:=HY.d;obtain⟨c,hc⟩:∃c,(Bn.ks y)[Fr e.k (Bn.es y)]?=some c:=by
    cases hc:(Bn.ks y)[Fr e.k (Bn.es y)]? with
    | some c=>exact⟨c,rfl⟩
    | none=>
     rw[Bt.nodeB_none (by rw[a5.out];exact HK.b) hc] at hnd
     cases hnd
   rw[Bt.nodeB_down (by rw[a5.out];exact HK.b) hc] at hnd;rw[a5.out,HK.a] at hc
   cases d' with
   | zero=>rw[Bt.nil_of_zero (Bn.ks y)] at hc;cases hc
   | succ d'=>
    obtain⟨gc,oc,rfl,gb⟩:=FD.at (f:=Bt.hd) (l:=Bn.ks y) (by have:=(H1.c.below a4.out).c.hrow;rw[<-HK.e] at this;exact this) hc;obtain⟨gg,d6⟩:=aq.1 hc;rw[HK.d] at gg;have g4:(k:Int)<lc:=by omega
    have g7:((lc:Nat):Int)≠0:=by omega
    obtain⟨nc,cn⟩:=Ii (Bt.hd c);rw[cn] at gb;have HC:=kq4 hc hnd cn d6;clear hc hnd cn d6;go_wp2_with fail;go_roundw
    case rel=>exact⟨d',i+1,nc,rfl,by simp,by omega,H1.a.trans (a4.out.mono H1.a.size),c,HY.b.kid (cI HC.a),HC.c,HC.b⟩
    case measure=>simp[intOf];omega
end
section
open Go.RowKit Tryz Go.BigFrame Go.Maps Go.WideMaps Lf Tr
open Go.Shelf
theorem zJ {w:World}{ps:Nat}{S:St}{o:Nat->Nat}{Y:Nat->Prop}(h:Ig w ps S Y){t d:Nat}{x:Bt (d+1)}(hx:Bt.Tree S o t x){e e0:It}(hn:gu S e){g:Nat}{n0:BN}{k0:Nat}(hnb:Bt.nodeB e.k x=some (g,n0,k0))(hr:Bt.RepAt S o t x e e0 g n0 k0):
 Ct 137 #[PV ps,Xi t,Xu (Bt.hd x:Nat),Id e.kh e.vh] w fun en w'=>en=.returned (.tuple #[Xu (Bt.hd x:Nat),Id e0.kh e0.vh,.bool true,Xi 0])/\Ig w' ps (FC S g 0 (bnWords t (Bt.setN n0 k0 e))) Y/\Fo Y w w':=by
 have B0:=((aa w.heap.size w).alloc Ih (Xe e.kh e.vh)).alloc (by simp) (.cells #[Xu 0,Xu 0] 104);have z1:(w.alloc (Xe e.kh e.vh)).heap.size=w.heap.size+1:=by simp
 have q1:=heap_alloc_new w (Xe e.kh e.vh);have q2:=heap_alloc_new (w.alloc (Xe e.kh e.vh)) (.cells #[Xu 0,Xu 0] 104);have q1:=(((aa (w.alloc (Xe e.kh e.vh)).heap.size (w.alloc (Xe e.kh e.vh))).alloc Ih (.cells #[Xu 0,Xu 0] 104)).block w.heap.size (by simp)).trans q1;rw[z1] at q2;have hz:((w.alloc (Xe e.kh e.vh)).alloc (.cells #[Xu 0,Xu 0] 104)).heap.size=w.heap.size+2:=by simp
 generalize hW:(w.alloc (Xe e.kh e.vh)).alloc (.cells #[Xu 0,Xu 0] 104)=W0 at*;have A1:=(aa W0.heap.size W0).alloc Ih (Xd ps t);have q3:=heap_alloc_new W0 (Xd ps t);have bd:(W0.alloc (Xd ps t)).heap.size=w.heap.size+3:=by simp[hz]
 have hw:=hx.walk;have hi:=hx.fit.inv;have has:=kZ (h.below B0) hi hx.t1 hx.t2;obtain⟨W1,a9⟩:=Ii (W0.alloc (Xd ps t));rw[a9] at A1 q3 bd;have B1:=B0.trans (A1.mono (by omega));rw[hz] at q3;have a2:=jt hx.fit hn.lk hn.k;have a0:=iz (h.below B1) hi e.kh (Bt.blobs_lt hx.fit hn).1 (by rw[a2];simp);rw[a2] at a0;have q1:=(A1.block _ (by omega)).trans q1;have q2:=(A1.block _ (by omega)).trans q2;obtain⟨x0,x1⟩:=Fp q1;have H0:=kq7 h hx hn hr hw hi bd;have ap:=kq2 hnb h.yl;clear hnb;have H1:=kq4 B1 q1 q2 q3;have a5:=If has;have a6:=If a0;have bo:Bt.hd x≠0:=(Bt.At.hd_ok hx.fit hx.at').1;have bq:((Bt.hd x:Nat):Int)≠0:=by omega
 clear z1 q1 q2 q3 B0 B1 A1 hw hi has a2 a0 h hx hn hr;unfold Id;go_enter func137,ntmps137;go_wp2_with fail;refine a5.out.mono ?_;rintro en w1 ⟨rfl,rfl⟩;clear hW;go_wp2_with fail;refine a6.out.mono ?_;rintro en w2 ⟨rfl,ad⟩;clear x0 x1;have p1:=(ad.block _ (by have:=H0.g;omega)).trans H1.b;have p2:=(ad.block _ (by have:=H0.g;omega)).trans H1.c;have p3:=(ad.block _ (by have:=H0.g;omega)).trans H1.d;have b2:=H1.a.trans (ad.mono H1.a.size);obtain⟨x0,x1⟩:=Fp p3;have a1:=kI (H0.a.below b2) H0.f H0.e.read;have bs:w.heap.size+3<=w2.heap.size:=by have:=ad.size;have:=H0.g;omega
 unfold FH eC at a1;have a8:=If a1;have H2:=kq4 b2 p1 p2 p3;clear ad p1 p2 p3 b2 a1 a6 a5 H1 a9;go_wp2_with fail;refine a8.out.mono ?_;rintro en w3 ⟨vk,vv,vc,rfl,rows,ar⟩;obtain⟨Ak,mk,ck,rfl⟩:=rows.k.slice;obtain⟨Av,mv,cv,rfl⟩:=rows.v.slice;obtain⟨Ac,mc,cc,rfl⟩:=rows.c.slice;obtain⟨sz,bc⟩:=Ii (Bt.bn x).size;rw[bc];clear bc;have A3:=(aa w3.heap.size w3).alloc Ih (.cells #[.slice Ak mk ck,.slice Av mv cv,.slice Ac mc cc,Xu sz] 215);obtain⟨W3,a'⟩:=Ii (w3.alloc (.cells #[.slice Ak mk ck,.slice Av mv cv,.slice Ac mc cc,Xu sz] 215));rw[a'] at A3;have c3:=ar.trans (A3.mono ar.size);have p1:=(c3.block _ (by omega)).trans H2.b;have p2:=(c3.block _ (by omega)).trans H2.c;have p3:=(c3.block _ (by omega)).trans H2.d;have B3:=H2.a.trans (c3.mono H2.a.size);have bt:w.heap.size+3<=W3.heap.size:=by have:=c3.size;omega
 have bm:=H0.b.low;have bb:=H0.d.find;have ai:=fun W (hw:Below W3.heap.size W3 W)=>pY (H0.a.below (B3.trans (hw.mono B3.size))) H0.e (by omega) e.k;rw[bb] at ai;have an:=nT (R:=some e0) (ai W3 (aa _ _)) fun W hW=>ai W (by rw[hW];exact(aa _ _).alloc Ih _);unfold i7 Id at an
 dsimp only[Option.isSome] at an
 have a7:=If an;have H3:=kq4 B3 p1 p2 p3;clear A3 c3 p1 p2 p3 B3 bb ai an x0 x1 ar H2 a8 rows;go_wp2_with fail;refine a7.out.mono ?_;rintro en w4 ⟨rfl,au⟩;clear a';have A4:=(aa w4.heap.size w4).alloc Ih (Xe e0.kh e0.vh);obtain⟨W4,ba⟩:=Ii (w4.alloc (Xe e0.kh e0.vh));rw[ba] at A4;have c4:=au.trans (A4.mono au.size);have p1:=(c4.block _ (by omega)).trans H3.b;have p2:=(c4.block _ (by omega)).trans H3.c;have p3:=(c4.block _ (by omega)).trans H3.d;have B4:=H3.a.trans (c4.mono H3.a.size);have bu:w.heap.size+3<=W4.heap.size:=by have:=c4.size;omega
 have bf:=H0.a.wide B4;have a3:=zR bf H0.e (by omega) ap.a H0.d;unfold FH Id at a3;have bk:=If a3;obtain⟨x0,x1⟩:=Fp p3;obtain⟨y0,y1⟩:=Fp p1;have H4:=kq2 B4 p2;clear A4 c4 p1 p2 p3 B4 bf au H3 a7 a3;go_wp2_with fail;refine bk.out.mono ?_;rintro en w5 ⟨rfl,bj,a4⟩;clear ba x0 x1 y0 y1;have q5:=(a4.block (w.heap.size+1) (ae ⟨by omega,by omega⟩)).trans H4.b;obtain⟨x0,x1⟩:=Fp q5;obtain⟨f0,f1⟩:=ef q5;have H5:=kq3 bj a4 q5;clear bj a4 q5;go_wp2_with fail;have qF:=ew H5.c (Xu e0.kh) (Xu e0.vh);have oF:∀k,k≠w.heap.size+1->((w5.setCell ⟨w.heap.size+1,0,none⟩ (Xu e0.kh)).setCell ⟨w.heap.size+1,1,none⟩ (Xu e0.vh)).heap[k]?=w5.heap[k]?:=fun k hk=>fA hk _ _;have sF:Ig ((w5.setCell ⟨w.heap.size+1,0,none⟩ (Xu e0.kh)).setCell ⟨w.heap.size+1,1,none⟩ (Xu e0.vh)) ps (FC S g 0 (bnWords t (Bt.setN n0 k0 e))) Y:=(H5.a.write (b:=w.heap.size+1) (ae ⟨by omega,by omega⟩) H5.c ⟨by decide,by decide⟩ (by simp) (by simp) fun k _ hk=>oF k hk).mono fun k hk=>ab hk;have kF:Fo Y w ((w5.setCell ⟨w.heap.size+1,0,none⟩ (Xu e0.kh)).setCell ⟨w.heap.size+1,1,none⟩ (Xu e0.vh)):=((Fo.of_below H4.a ap.b).trans (H5.b.mono fun k hk=>ab hk)).trans ⟨rfl,rfl,rfl,by simp,fun k hk=>oF k (by have:=ap.b k hk;omega)⟩;clear x0 x1 f0 f1 oF;generalize ((w5.setCell ⟨w.heap.size+1,0,none⟩ (Xu e0.kh)).setCell ⟨w.heap.size+1,1,none⟩ (Xu e0.vh))=WF at*;obtain⟨u0,u1⟩:=Fp qF;exact bodyPost_ret (v:=.tuple #[Xu (Bt.hd x:Nat),.agg #[Xu e0.kh,Xu e0.vh],.bool true,Xi 0]) (by simp[results,f137,go_sem,u0,u1]) rfl ⟨rfl,sF,kF⟩