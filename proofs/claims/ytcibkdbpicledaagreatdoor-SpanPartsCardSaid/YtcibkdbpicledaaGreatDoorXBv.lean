/- B-trees: insert: the walk of one node. -/
import Derived.Test.YtcibkdbpicledaaGreatDoorXBr
set_option maxRecDepth 100000
set_option maxHeartbeats 40000000
namespace Go.Proofs.YtcibkdbpicledaaGreatDoor
open Go.RowKit Tryz Go.BigFrame Go.Maps Go.WideMaps Lf Tr
open Go.Shelf
theorem uU(d:Nat)(rec0:∀d0,d=d0+1->j4 d0):j4 d:=by
 intro w ps S o Z bt bl D t v L x e i h hx g3 hid sp spare fk zb zt zv hL g4 gf hkh hvh b';have B0:=((aa w.heap.size w).alloc Ih (.cells #[PV ps,.int .i64 t] 254)).alloc (by simp) (.cells #[.int .u64 e.kh,.int .u64 e.vh] 137) |>.alloc (by simp;omega) (.cells #[.bool false,.int .u64 0,.int .u64 0,.int .u64 0] 406)
 have q0:=((aa w.heap.size w).alloc Ih (.cells #[PV ps,.int .i64 t] 254));have z1:(w.alloc (.cells #[PV ps,.int .i64 t] 254)).heap.size=w.heap.size+1:=by simp
 have z2:((w.alloc (.cells #[PV ps,.int .i64 t] 254)).alloc (.cells #[.int .u64 e.kh,.int .u64 e.vh] 137)).heap.size=w.heap.size+1+1:=by simp
 have q1:=heap_alloc_new w (.cells #[PV ps,.int .i64 t] 254);have q2:=heap_alloc_new (w.alloc (.cells #[PV ps,.int .i64 t] 254)) (.cells #[.int .u64 e.kh,.int .u64 e.vh] 137);have q3:=heap_alloc_new ((w.alloc (.cells #[PV ps,.int .i64 t] 254)).alloc (.cells #[.int .u64 e.kh,.int .u64 e.vh] 137)) (.cells #[.bool false,.int .u64 0,.int .u64 0,.int .u64 0] 406);have b2:=(aa (w.alloc (.cells #[PV ps,.int .i64 t] 254)).heap.size (w.alloc (.cells #[PV ps,.int .i64 t] 254))).alloc Ih (.cells #[.int .u64 e.kh,.int .u64 e.vh] 137);have b3:=(aa ((w.alloc (.cells #[PV ps,.int .i64 t] 254)).alloc (.cells #[.int .u64 e.kh,.int .u64 e.vh] 137)).heap.size ((w.alloc (.cells #[PV ps,.int .i64 t] 254)).alloc (.cells #[.int .u64 e.kh,.int .u64 e.vh] 137))).alloc Ih (.cells #[.bool false,.int .u64 0,.int .u64 0,.int .u64 0] 406);have q1:=(b3.block w.heap.size (by rw[z2];omega)).trans ((b2.block w.heap.size (by rw[z1];omega)).trans q1);rw[z1] at q2;have q2:=(b3.block (w.heap.size+1) (by rw[z2];omega)).trans q2;rw[z2] at q3;clear b2 b3 q0;have hi:=hx.fit.inv;generalize hW:((w.alloc (.cells #[PV ps,.int .i64 t] 254)).alloc (.cells #[.int .u64 e.kh,.int .u64 e.vh] 137)).alloc (.cells #[.bool false,.int .u64 0,.int .u64 0,.int .u64 0] 406)=W0 at*;have hz:w.heap.size+3<=W0.heap.size:=by rw[<-hW];simp
 obtain⟨x0,x1⟩:=Fp q1;have gb:=kI (h.below B0) hi hx.read;unfold FH eC at gb;have HG:=kq2 (kq5 B0 q1 q2 q3 hz) gb;have HI:=If (And.intro h (And.intro hx (And.intro g3 (And.intro sp (And.intro spare (And.intro fk (And.intro zb (And.intro zt (And.intro zv (And.intro hL (And.intro g4 (And.intro gf b'))))))))))));clear z1 z2 q1 q2 q3 hz B0 gb h hx g3 sp spare fk zb zt zv hL g4 gf b' hi;unfold FH Id nu;go_enter func324,ntmps324;go_wp2_with fail;refine HG.b.mono ?_;rintro en w1 ⟨vk,vv,vc,rfl,rows,hb⟩;obtain⟨Ak,ck,rfl⟩:=rows.k.slice2;obtain⟨Av,cv,rfl⟩:=rows.v.slice2;obtain⟨Ac,cc,rfl⟩:=rows.c.slice2;have hx:=HI.out.2.1;have ao:(Bt.bn x).keys.length=(Bn.es x).length:=by unfold Bt.bn;rw[av]
 have hl:(Bt.bn x).vals.length=(Bn.es x).length:=by unfold Bt.bn;rw[av]
 have cn:(Bt.bn x).kids.length=(Bn.ks x).length:=by unfold Bt.bn;rw[av]
 rw[ao,hl,cn] at rows;rw[ao,hl,cn];obtain⟨i1,i2,rr⟩:=hx.es;have bf:=hx.size;generalize l0:(Bt.bn x).size=sz at*;generalize k5:(Bn.es x).length=lk at*;generalize er:(Bn.ks x).length=lc at*;have A1:=(aa w1.heap.size w1).alloc Ih (.cells #[.slice Ak lk ck,.slice Av lk cv,.slice Ac lc cc,.int .u64 sz] 286);have p1:=heap_alloc_new w1 (.cells #[.slice Ak lk ck,.slice Av lk cv,.slice Ac lc cc,.int .u64 sz] 286);have ea:=rows.below A1;have c6:=hb.size;have cp:w1.heap.size<(w1.alloc (.cells #[.slice Ak lk ck,.slice Av lk cv,.slice Ac lc cc,.int .u64 sz] 286)).heap.size:=by simp
 obtain⟨W1,jn⟩:=Ii (w1.alloc (.cells #[.slice Ak lk ck,.slice Av lk cv,.slice Ac lc cc,.int .u64 sz] 286));rw[jn] at A1 p1 ea cp;have B1:=hb.trans (A1.mono hb.size);have t1:=(B1.block w.heap.size (by have:=HG.a.e;omega)).trans HG.a.b;have t2:=(B1.block (w.heap.size+1) (by have:=HG.a.e;omega)).trans HG.a.c;clear x0 x1;obtain⟨x0,x1⟩:=Fp t1;obtain⟨y0,y1,y2,y3⟩:=Fy p1;have cr:=ea.k.hrow;have g6:=nR (HI.out.1.below (HG.a.a.trans (B1.mono HG.a.a.size))) hx.fit.inv t (es:=Bn.es x) (vk:=.slice Ak lk ck) (vv:=.slice Av lk cv) (vc:=.slice Ac lc cc) (sz:=sz) cr (by omega) i1 i2 e.k;unfold FH eC at g6;have iu:=If g6;have H1:=kq11 B1 p1 ea t1 t2 cp k5 l0 bf er c6;clear g6 rows ea hb A1 p1 B1 t1 t2 cr ao hl cn i1 i2 cp bf hx hW c6;have r6:((i:Int)==40)=false:=by simp;omega
 have r7:¬(i:Int)=40:=by omega
 go_wp2_with fail;refine iu.out.mono ?_;rintro en w2 ⟨rfl,bm⟩;have p2:=(bm.block w1.heap.size H1.f).trans H1.b;have t2:=(bm.block w.heap.size (by have:=H1.a.size;have:=HG.a.e;omega)).trans H1.d;have u2:=(bm.block (w.heap.size+1) (by have:=H1.a.size;have:=HG.a.e;omega)).trans H1.e;have e6:=H1.c.below bm;clear x0 x1 y0 y1 y2 y3;obtain⟨x0,x1⟩:=Fp t2;obtain⟨y0,y1,y2,y3⟩:=Fy p2;obtain⟨z0,z1⟩:=Fp u2;have ch:=kq5 bm p2 t2 u2 e6;clear bm p2 t2 u2 e6 iu jn;obtain⟨k,hk⟩:∃k,Fr e.k (Bn.es x)=k:=⟨_,rfl⟩;obtain⟨he,k2⟩:=Ii (fo e.k (Bn.es x));rw[hk,k2];have a9:k<=lk:=by rw[<-hk,<-H1.g];exact kH _
 have HK:=If hk;clear hk k2;have jv:eH w ps Z bt bl D t v w1.heap.size w2 S (fun k=>Z k\/(w.heap.size<=k/\k<w2.heap.size)) v L (.slice Ak lk ck) (.slice Av lk cv) (.slice Ac lc cc) sz (Bt.bn x).keys (Bt.bn x).vals (Bt.bn x).kids:=by
  obtain⟨⟨B0,q1,q2,q3,hz⟩,_⟩:=HG.out;obtain⟨B1,p1,ea,t1,ts,cp,k5,l0,bf,er,c6⟩:=H1.out;obtain⟨bm,p2,t2,u2,e6⟩:=ch.out;obtain⟨h,hx,g3,sp,spare,fk,zb,zt,zv,hL,g4,gf,b'⟩:=HI.out;have s1:=B1.size;have s2:=bm.size;have e':Below w.heap.size w w2:=B0.trans ((B1.trans (bm.mono s1)).mono (by omega));have zl:=h.yl;have b4:fN w2 (w.heap.size+3) (.slice Ak lk ck) (.slice Av lk cv) (.slice Ac lc cc) (Bt.bn x).keys (Bt.bn x).vals (Bt.bn x).kids:=e6.lift (by omega) fun g _ _=>rfl;refine⟨h.wide e',fun k hk=>ab hk,zl,⟨zb,zt,zv⟩,(Fo.of_below e' fun k hk=>zl k hk.1),sp.keeps fun k hk=>e'.block k (zl k ?_),rfl,p2,b4,⟨ae ⟨by omega,by omega⟩,ae ⟨by omega,by omega⟩,ae ⟨by omega,by omega⟩⟩,fun g hg=>ae ?_,t2,(bm.block _ (by omega)).trans ((B1.block _ (by omega)).trans q3),by omega⟩
  ·rcases hk with rfl | rfl | hk
   ·exact zt
   ·exact zb
   ·exact zv _ hk
  ·rcases hg with hg | hg | hg
   ·have:=b4.k.block hg;exact⟨by omega,this.2.1⟩
   ·have:=b4.v.block hg;exact⟨by omega,this.2.1⟩
   ·have:=b4.c.block hg;exact⟨by omega,this.2.1⟩
 have HB:=If jv;clear jv
 go_upto_if 45 with fail
 go_cut [] from 18 (fun wc=>∃S' Y v' L' U x' vk vv vc,gQ w ps S o Z bt bl D t v L x e w1.heap.size wc S' Y v' L' U x' vk vv vc)
 case first=>
  as_aux_lemma=>
   by_cases hd0:d=0
   ·subst hd0;obtain rfl:lc=0:=by rw[<-H1.j,Bt.nil_of_zero (Bn.ks x)];rfl
    go_wp2_with fail;obtain⟨I,ai,al⟩:=ic fun w'=>w'.heap[w1.heap.size]?=w2.heap[w1.heap.size]?/\w'.heap[w.heap.size+1]?=w2.heap[w.heap.size+1]?;have ap:=fun x:Fq I=>(ai _ x.ok).1.trans ch.b;have ar:=fun x:Fq I=>(ai _ x.ok).2.trans ch.d;obtain⟨m0,m1,m2,m3⟩:=iB ap;obtain⟨n0,n1⟩:=fw ar;have bd:I w2.drew:=al _ ⟨rfl,rfl⟩;have d8:∀(w':World) (u1 u2:Value) (m1 m2:List Nat),fD w2 w' (w.heap.size+3) ps S (fun k=>Z k\/(w.heap.size<=k/\k<w2.heap.size)) (.slice Ak lk ck) (.slice Av lk cv) u1 u2 m1 m2->I w':=fun w' u1 u2 m1 m2 T=>al _ ⟨T.keep.block _ ⟨HB.out.lt,HB.out.ne.1,HB.out.ne.2.1⟩,T.keep.block _ ⟨by have:=HB.out.lt;have:=HB.out.at3;omega,fun q=>by have:=(HB.out.rows.k.block q).1;omega,fun q=>by have:=(HB.out.rows.v.block q).1;omega⟩⟩;have an:=If d8;clear d8;have d4:=If HB.out.two.drew;have HT:Hid (fy<w.heap.size+3):=If (by have:=ns HI.out.1;omega);have HN:Hid ((Bt.bn x).keys.length=lk/\(Bt.bn x).vals.length=lk):=If ⟨by rw[<-H1.g];unfold Bt.bn;rw[av],by rw[<-H1.g];unfold Bt.bn;rw[av]⟩;have pc:lk<=31:=by rw[<-H1.g];exact HI.out.2.1.es.2.2
    clear ai al ap ar;refine nG I (fun i=>[15,16,17].contains i) (.take 0 (.take 1 (.take 2 (.take 3 (.take 4 (.take 7 (.take 8 (.take 9 (.take 10 (.take 11 (.two 5 12 (.two 6 12 (.take 14 (.go 12 (.go 13 (.go 15 (.go 16 (.go 17 .nil)))))) (.go 6 (.take 14 (.go 13 (.go 15 (.go 16 (.go 17 .nil))))))) (.go 5 (.go 6 (.take 14 (.go 13 (.go 15 (.go 16 (.go 17 .nil)))))))))))))))))) (by kernel_rfl) (by kernel_rfl) bd ?_
    iterate 10
     refine' qT ?_ ?_;rotate_left
     ·intro x;go_simp
      try rfl
     try simp only[pu]
    have ed:∀c,(w2.drew.alloc c).heap.size=w2.heap.size+1:=fun c=>by simp
    refine m9 ?_ ?_
    ·skip
     refine qD fun K hK=>?_;go_simp;obtain⟨T1,x1,ca,d',s1,b1⟩:=d4.out.one (e.kh)
     try go_simp
     refine hK.out _ _ (an.out _ _ _ _ _ T1) ?_;clear hK K
     try simp only[pu]
     refine m9 ?_ ?_
     ·skip
      refine qD fun K hK=>?_;go_simp;refine(T1.ins HT.out (by have:=T1.keep.size;have:=HB.out.lt;have:=HB.out.at3;omega) (by rw[HN.out.1];omega) (by rw[HN.out.1];exact a9) x1 ca).mono ?_;rintro en w4 ⟨u1,rfl,T2,o2⟩;obtain⟨A2,m2,c2,rfl⟩:=T2.own1.slice
      try go_simp
      refine hK.out _ _ (an.out _ _ _ _ _ T2) ?_;clear hK K
      try simp only[pu]
      refine' qT ?_ ?_;rotate_left
      ·intro x;go_simp
       try rfl
      try simp only[pu]
      refine qD fun K hK=>?_;go_simp;obtain⟨T3,x3,q9,hv,s3,b3⟩:=T2.one (e.vh)
      try go_simp
      refine hK.out _ _ (an.out _ _ _ _ _ T3) ?_;clear hK K
      try simp only[pu]
      refine qD fun K hK=>?_;go_simp;refine(T3.swap.ins HT.out (by have:=T3.keep.size;have:=HB.out.lt;have:=HB.out.at3;omega) (by rw[HN.out.2];omega) (by rw[HN.out.2];exact a9) x3 hv).mono ?_;rintro en w6 ⟨u2,rfl,T4,o4⟩;obtain⟨A4,m4,c4,rfl⟩:=T4.own1.slice;have T5:=T4.swap
      try go_simp
      refine hK.out _ _ (an.out _ _ _ _ _ T5) ?_;clear hK K
      try simp only[pu]
      obtain⟨g0,g1,g2⟩:=HB.out.grow T5;have f0:w6.frozen? ⟨w1.heap.size,0,none⟩=false:=AT g0;have d0:w6.cell? ⟨w1.heap.size,0,none⟩=some (.slice Ak lk ck):=by rw[Fs g0];rfl
      have f1:(w6.setCell ⟨w1.heap.size,0,none⟩ (.slice A2 m2 c2)).frozen? ⟨w1.heap.size,1,none⟩=false:=AT g1;have d1:(w6.setCell ⟨w1.heap.size,0,none⟩ (.slice A2 m2 c2)).cell? ⟨w1.heap.size,1,none⟩=some (.slice Av lk cv):=by rw[Fs g1];rfl
      have au:=If g2;clear g0 g1 g2;refine qL fun K hK=>?_;go_simp
      try go_simp
      refine hK.out _ _ trivial ?_;clear hK K
      try simp only[pu]
      refine qL fun K hK=>?_;go_simp
      try go_simp
      refine hK.out _ _ trivial ?_;clear hK K
      try simp only[pu]
      refine qL fun K hK=>?_;go_simp
      try go_simp
      refine hK.out _ _ trivial ?_;clear hK K
      try simp only[pu]
      refine jd ?_;go_wp2_with fail
      go_meet
      case rel=>exact⟨S,_,v,L,[],Bt.leafPut x e,_,_,_,rJ HI.out.2.1 HI.out.2.2.1 HI.out.2.2.2.2.2.2.2.2.2.2.2.1 hkh hvh HK.out H1.i.1 au.out⟩
     ·skip
      refine qD fun K hK=>?_;go_simp;obtain⟨T2,x2,bj,cb,s2,b2⟩:=T1.one (e.vh);rw[ed] at x2 bj cb s2;have c3:=(b2.block _ s1).trans x1
      try go_simp
      refine hK.out _ _ (an.out _ _ _ _ _ T2) ?_;clear hK K
      try simp only[pu]
      refine qD fun K hK=>?_;go_simp;refine(T2.ins HT.out (by have:=T2.keep.size;have:=HB.out.lt;have:=HB.out.at3;omega) (by rw[HN.out.1];omega) (by rw[HN.out.1];exact a9) c3 ca).mono ?_;rintro en w5 ⟨u1,rfl,T3,o3⟩;have h':=(o3 _ s2 bj).trans x2;obtain⟨A2,m2,c2,rfl⟩:=T3.own1.slice
      try go_simp
      refine hK.out _ _ (an.out _ _ _ _ _ T3) ?_;clear hK K
      try simp only[pu]
      refine' qT ?_ ?_;rotate_left
      ·intro x;go_simp
       try rfl
      try simp only[pu]
      refine qD fun K hK=>?_;go_simp;refine(T3.swap.ins HT.out (by have:=T3.keep.size;have:=HB.out.lt;have:=HB.out.at3;omega) (by rw[HN.out.2];omega) (by rw[HN.out.2];exact a9) h' cb).mono ?_;rintro en w6 ⟨u2,rfl,T4,o4⟩;obtain⟨A4,m4,c4,rfl⟩:=T4.own1.slice;have T5:=T4.swap
      try go_simp
      refine hK.out _ _ (an.out _ _ _ _ _ T5) ?_;clear hK K
      try simp only[pu]
      obtain⟨g0,g1,g2⟩:=HB.out.grow T5;have f0:w6.frozen? ⟨w1.heap.size,0,none⟩=false:=AT g0;have d0:w6.cell? ⟨w1.heap.size,0,none⟩=some (.slice Ak lk ck):=by rw[Fs g0];rfl
      have f1:(w6.setCell ⟨w1.heap.size,0,none⟩ (.slice A2 m2 c2)).frozen? ⟨w1.heap.size,1,none⟩=false:=AT g1;have d1:(w6.setCell ⟨w1.heap.size,0,none⟩ (.slice A2 m2 c2)).cell? ⟨w1.heap.size,1,none⟩=some (.slice Av lk cv):=by rw[Fs g1];rfl
      have au:=If g2;clear g0 g1 g2;refine qL fun K hK=>?_;go_simp
      try go_simp
      refine hK.out _ _ trivial ?_;clear hK K
      try simp only[pu]
      refine qL fun K hK=>?_;go_simp
      try go_simp
      refine hK.out _ _ trivial ?_;clear hK K
      try simp only[pu]
      refine qL fun K hK=>?_;go_simp
      try go_simp
      refine hK.out _ _ trivial ?_;clear hK K
      try simp only[pu]
      refine jd ?_;go_wp2_with fail
      go_meet
      case rel=>exact⟨S,_,v,L,[],Bt.leafPut x e,_,_,_,rJ HI.out.2.1 HI.out.2.2.1 HI.out.2.2.2.2.2.2.2.2.2.2.2.1 hkh hvh HK.out H1.i.1 au.out⟩
    ·skip
     refine qD fun K hK=>?_;go_simp;obtain⟨T1,x1,ca,d',s1,b1⟩:=d4.out.one (e.vh)
     try go_simp
     refine hK.out _ _ (an.out _ _ _ _ _ T1) ?_;clear hK K
     try simp only[pu]
     refine qD fun K hK=>?_;go_simp;obtain⟨T2,x2,bj,cb,s2,b2⟩:=T1.one (e.kh);rw[ed] at x2 bj cb;have c3:=(b2.block _ s1).trans x1
     try go_simp
     refine hK.out _ _ (an.out _ _ _ _ _ T2) ?_;clear hK K
     try simp only[pu]
     refine qD fun K hK=>?_;go_simp;refine(T2.ins HT.out (by have:=T2.keep.size;have:=HB.out.lt;have:=HB.out.at3;omega) (by rw[HN.out.1];omega) (by rw[HN.out.1];exact a9) x2 bj).mono ?_;rintro en w5 ⟨u1,rfl,T3,o3⟩;have h9:=(o3 _ (Nat.lt_trans s1 s2) ca).trans c3;obtain⟨A2,m2,c2,rfl⟩:=T3.own1.slice
     try go_simp
     refine hK.out _ _ (an.out _ _ _ _ _ T3) ?_;clear hK K
     try simp only[pu]
     refine' qT ?_ ?_;rotate_left
     ·intro x;go_simp
      try rfl
     try simp only[pu]
     refine qD fun K hK=>?_;go_simp;refine(T3.swap.ins HT.out (by have:=T3.keep.size;have:=HB.out.lt;have:=HB.out.at3;omega) (by rw[HN.out.2];omega) (by rw[HN.out.2];exact a9) h9 d').mono ?_;rintro en w6 ⟨u2,rfl,T4,o4⟩;obtain⟨A4,m4,c4,rfl⟩:=T4.own1.slice;have T5:=T4.swap
     try go_simp
     refine hK.out _ _ (an.out _ _ _ _ _ T5) ?_;clear hK K
     try simp only[pu]
     obtain⟨g0,g1,g2⟩:=HB.out.grow T5;have f0:w6.frozen? ⟨w1.heap.size,0,none⟩=false:=AT g0;have d0:w6.cell? ⟨w1.heap.size,0,none⟩=some (.slice Ak lk ck):=by rw[Fs g0];rfl
     have f1:(w6.setCell ⟨w1.heap.size,0,none⟩ (.slice A2 m2 c2)).frozen? ⟨w1.heap.size,1,none⟩=false:=AT g1;have d1:(w6.setCell ⟨w1.heap.size,0,none⟩ (.slice A2 m2 c2)).cell? ⟨w1.heap.size,1,none⟩=some (.slice Av lk cv):=by rw[Fs g1];rfl
     have au:=If g2;clear g0 g1 g2;refine qL fun K hK=>?_;go_simp
     try go_simp
     refine hK.out _ _ trivial ?_;clear hK K
     try simp only[pu]
     refine qL fun K hK=>?_;go_simp
     try go_simp
     refine hK.out _ _ trivial ?_;clear hK K
     try simp only[pu]
     refine qL fun K hK=>?_;go_simp
     try go_simp
     refine hK.out _ _ trivial ?_;clear hK K
     try simp only[pu]
     refine jd ?_;go_wp2_with fail
     go_meet
     case rel=>exact⟨S,_,v,L,[],Bt.leafPut x e,_,_,_,rJ HI.out.2.1 HI.out.2.2.1 HI.out.2.2.2.2.2.2.2.2.2.2.2.1 hkh hvh HK.out H1.i.1 au.out⟩
   ·obtain⟨d,rfl⟩:∃d0,d=d0+1:=⟨d-1,by omega⟩;have pm:j4 d:=rec0 d rfl;have er:lc=lk+1:=by rw[<-H1.j,<-H1.g];exact HI.out.2.1.ok.kids
    have r':((lc:Int)==0)=false:=by simp;omega
    have sa:¬(lc:Int)=0:=by omega
    have ao:=HI.out.2.1.kid_lt HK.out;have d7:=fun(Y1:Nat->Prop) (W:World) Hd=>BG (Y1:=Y1) (wc:=W) (ps:=ps) (Z:=Z) (bt:=bt) (bl:=bl) (D:=D) (v:=v) (bN:=w1.heap.size) (w:=w) (vk:=.slice Ak lk ck) (vv:=.slice Av lk cv) (vc:=.slice Ac lc cc) (sz:=sz) (ks:=(Bt.bn x).keys) (vs:=(Bt.bn x).vals) (cs:=(Bt.bn x).kids) pm HI.out.2.1 HI.out.2.2.1 hid HI.out.2.2.2.2.1 HI.out.2.2.2.2.2.1 HI.out.2.2.2.2.2.2.2.2.2.1 HI.out.2.2.2.2.2.2.2.2.2.2.1 HI.out.2.2.2.2.2.2.2.2.2.2.2.1 hkh hvh HI.out.2.2.2.2.2.2.2.2.2.2.2.2 HK.out ao Hd;obtain⟨y,hy⟩:=Ii ((Bn.ks x)[k]);rw[hy] at d7;have em:=FD.at (f:=Bt.hd) (l:=Bn.ks x) (k:=k) HB.out.rows.c.hrow (af ao);rw[hy] at em;obtain⟨gc,oc,rfl,c'⟩:=em;have kj:=HB.out.rows.c.block (g:=gc) rfl;have kk:w.heap.size<=gc/\gc<w2.heap.size:=⟨by omega,kj.2.1⟩;clear kj;obtain⟨hh,bo⟩:=Ii (Bt.hd y);rw[bo] at d7 c';have r9:(k:Int)<lc:=by have:=H1.j;omega
    unfold FH Id nu at d7;have HC:=If d7;have HY:=kq2 hy bo;clear d7 hy bo er
    go_upto_region 7 with fail
    go_cut [17] from 18 (fun s17 wc=>∃b,s17=.pointer (some ⟨b,0,none⟩)/\Hid (∃r S4 Y4 v4 L4 U,jp w ps S o Z bt bl D t v L y e w1.heap.size (.slice Ak lk ck) (.slice Av lk cv) (.slice (some ⟨gc,oc,none⟩) lc cc) sz (Bt.bn x).keys (Bt.bn x).vals (Bt.bn x).kids b wc r S4 Y4 v4 L4 U))
    case first=>
     as_aux_lemma=>
      obtain⟨I,ai,al⟩:=ic fun w'=>∀k,w.heap.size<=k->k<w2.heap.size->w'.heap[k]?=w2.heap[k]?;have k6:=HB.out.lt;have h3:=HB.out.at3;have m5:=fun x:Fq I=>(ai _ x.ok w.heap.size (by omega) (by omega)).trans ch.c;have ap:=fun x:Fq I=>(ai _ x.ok w1.heap.size (by omega) (by omega)).trans ch.b;have ar:=fun x:Fq I=>(ai _ x.ok (w.heap.size+1) (by omega) (by omega)).trans ch.d;obtain⟨p0,p1⟩:=fw m5;obtain⟨m0,m1,m2,m3⟩:=iB ap;obtain⟨n0,n1⟩:=fw ar;have o0:∀x:Fq I,x.to.cell? ⟨gc,oc+k,none⟩=some (.int .u64 hh):=fun x=>(j9 (ai _ x.ok gc kk.1 kk.2)).trans c';have bd:I w2.drew:=al _ fun _ _ _=>rfl;have ba:=If al;have td:IntKind.i64.wrap ((i:Int)+1)=(i:Int)+1:=az _ (by omega);have rv:bl<w.heap.size:=HB.out.zl bl HB.out.zs.1;clear ai al m5 ap ar k6 h3;refine nG I (fun i=>[13].contains i) (.take 0 (.take 1 (.take 2 (.take 3 (.take 4 (.take 5 (.take 6 (.take 7 (.take 8 (.take 9 (.take 10 (.two 11 12 (.go 12 (.go 13 .nil)) (.go 11 (.go 13 .nil)))))))))))))) (by kernel_rfl) (by kernel_rfl) bd ?_
      iterate 11
       refine' qT ?_ ?_;rotate_left
       ·intro x;go_simp
        try rfl
       try simp only[pu]
      refine m9 ?_ ?_
      ·skip
       refine qD fun K hK=>?_;go_simp;refine(HC.out _ _ (HB.out.below (aa _ w2).drew)).mono ?_;rintro en w4 ⟨r,S4,v4,L4,U,rfl,h4⟩;have H4:=If h4;clear h4;have hf:=H4.out.2.2.2.2.2.size;have d6:∀k,w.heap.size<=k->k<w2.heap.size->w4.heap[k]?=w2.heap[k]?:=fun k h1 h2=>H4.out.2.2.2.2.2.block k ⟨ab (ae ⟨h1,h2⟩),by omega⟩;have cj:=If d6;clear d6
       rcases r with _ | ⟨m,g⟩
       ·dsimp only[ky,iQ]
        try go_simp
        refine hK.out _ _ (ba.out _ cj.out) ?_;clear hK K
        try simp only[pu]
        refine qD fun K hK=>?_;go_simp
        try go_simp
        refine hK.out _ _ (ba.out _ fun k h1 h2=>((aa _ w4).alloc Ih _ |>.block k (aW h2 hf)).trans (cj.out k h1 h2)) ?_;clear hK K
        try simp only[pu]
        refine qL fun K hK=>?_;go_simp
        try go_simp
        refine hK.out _ _ trivial ?_;clear hK K
        try simp only[pu]
        refine jd ?_;go_wp2_with fail
        go_meet
        case rel=>exact⟨_,rfl,If ⟨_,_,_,_,_,_,jp.new H4.out⟩⟩
       ·dsimp only[ky,iQ]
        try go_simp
        refine hK.out _ _ (ba.out _ cj.out) ?_;clear hK K
        try simp only[pu]
        refine qD fun K hK=>?_;go_simp
        try go_simp
        refine hK.out _ _ (ba.out _ fun k h1 h2=>((aa _ w4).alloc Ih _ |>.block k (aW h2 hf)).trans (cj.out k h1 h2)) ?_;clear hK K
        try simp only[pu]
        refine qL fun K hK=>?_;go_simp
        try go_simp
        refine hK.out _ _ trivial ?_;clear hK K
        try simp only[pu]
        refine jd ?_;go_wp2_with fail
        go_meet
        case rel=>exact⟨_,rfl,If ⟨_,_,_,_,_,_,jp.new H4.out⟩⟩
      ·skip
       refine qD fun K hK=>?_;go_simp;have b3:=((aa w2.heap.size w2).drew).alloc Ih (.cells #[.bool false,.int .u64 0,.int .u64 0,.int .u64 0] 406)
       try go_simp
       refine hK.out _ _ (ba.out _ fun k h1 h2=>b3.block k h2) ?_;clear hK K
       try simp only[pu]
       refine qD fun K hK=>?_;go_simp;refine(HC.out _ _ (HB.out.below b3)).mono ?_;rintro en w4 ⟨r,S4,v4,L4,U,rfl,h4⟩;have H4:=If h4;clear h4;have hf:=H4.out.2.2.2.2.2.size;have d6:∀k,w.heap.size<=k->k<w2.heap.size->w4.heap[k]?=w2.heap[k]?:=fun k h1 h2=>(H4.out.2.2.2.2.2.block k ⟨ab (ae ⟨h1,h2⟩),by omega⟩).trans (b3.block k h2);have e4:w4.heap[w2.heap.size]?=some (.cells #[.bool false,.int .u64 0,.int .u64 0,.int .u64 0] 406 (0,0)):=(H4.out.2.2.2.2.2.block w2.heap.size ⟨ae ⟨Nat.le_refl _,by simp⟩,by have:=HB.out.lt;have:=HB.out.at3;omega⟩).trans (heap_alloc_new w2.drew _);have cj:=If d6;clear d6;obtain⟨x0,x1,x2,x3⟩:=Fy e4;obtain⟨f0,f1,f2,f3⟩:=fO e4;have ib:=If e4;clear e4
       rcases r with _ | ⟨m,g⟩
       ·dsimp only[ky,iQ]
        try go_simp
        refine hK.out _ _ (ba.out _ cj.out) ?_;clear hK K
        try simp only[pu]
        refine qL fun K hK=>?_;go_simp
        try go_simp
        refine hK.out _ _ trivial ?_;clear hK K
        try simp only[pu]
        refine jd ?_;go_wp2_with fail
        go_meet
        case rel=>exact⟨_,rfl,If ⟨_,_,_,_,_,_,jp.set H4.out (ae ⟨Nat.le_refl _,by simp⟩) (by have:=HB.out.lt;have:=HB.out.at3;omega) ib.out rfl⟩⟩
       ·dsimp only[ky,iQ]
        try go_simp
        refine hK.out _ _ (ba.out _ cj.out) ?_;clear hK K
        try simp only[pu]
        refine qL fun K hK=>?_;go_simp
        try go_simp
        refine hK.out _ _ trivial ?_;clear hK K
        try simp only[pu]
        refine jd ?_;go_wp2_with fail
        go_meet
        case rel=>exact⟨_,rfl,If ⟨_,_,_,_,_,_,jp.set H4.out (ae ⟨Nat.le_refl _,by simp⟩) (by have:=HB.out.lt;have:=HB.out.at3;omega) ib.out rfl⟩⟩
    case rest=>
     obtain⟨b,rfl,HU⟩:=hcut;obtain⟨r,S4,Y4,v4,L4,U,U1⟩:=HU.out;clear HU ch HC x0 x1 y0 y1 y2 y3 z0 z1 c'
     rcases r with _ | ⟨m,g⟩
     ·have up:=U1.up;unfold iQ at up
      dsimp only at up
      obtain⟨x0,x1,x2,x3⟩:=Fy up;have ad:=If U1;clear up U1;go_wp2_with fail
      go_meet
      case rel=>
       obtain⟨hy,bo⟩:=HY.out;have U1:=ad.out;subst hy;obtain⟨x',M⟩:=Db HI.out.2.1 HI.out.2.2.1 HI.out.2.2.2.2.2.2.2.2.2.2.2.1 hkh hvh HI.out.2.2.2.2.2.1 HK.out ao H1.i.1 U1.sum U1.put U1.num U1.all U1.held;exact⟨_,_,_,_,_,x',_,_,_,M⟩
     ·have up:=U1.up;unfold iQ at up
      dsimp only at up
      obtain⟨x0,x1,x2,x3⟩:=Fy up;have iv:=If up;have ad:=If U1;clear up U1
      go_upto_region 9 with fail
      go_cut [] from 18 (fun wd=>Hid (wd.heap[b]?=some (.cells #[.bool true,.int .u64 m.kh,.int .u64 m.vh,.int .u64 g] 406 (0,0))/\∃Y5 A2 m2 c2 A4 m4 c4,eH w ps Z bt bl D t v w1.heap.size wd S4 Y5 v4 L4 (.slice A2 m2 c2) (.slice A4 m4 c4) (.slice (some ⟨gc,oc,none⟩) lc cc) sz ((Bt.bn x).keys.take k++m.kh::(Bt.bn x).keys.drop k) ((Bt.bn x).vals.take k++m.vh::(Bt.bn x).vals.drop k) (Bt.bn x).kids))
      case first=>
       as_aux_lemma=>
        obtain⟨I,ai,al⟩:=ic fun w'=>w'.heap[w1.heap.size]?=wc.heap[w1.heap.size]?/\w'.heap[b]?=wc.heap[b]?;have ap:=fun x:Fq I=>(ai _ x.ok).1.trans ad.out.held.box;have ar:=fun x:Fq I=>(ai _ x.ok).2.trans iv.out;obtain⟨m0,m1,m2,m3⟩:=iB ap;obtain⟨n0,n1,n2,n3⟩:=iB ar;have bd:I wc.drew:=al _ ⟨rfl,rfl⟩;have d8:∀(w':World) (u1 u2:Value) (l1 l2:List Nat),fD wc w' (w.heap.size+3) ps S4 Y4 (.slice Ak lk ck) (.slice Av lk cv) u1 u2 l1 l2->I w':=fun w' u1 u2 l1 l2 T=>al _ ⟨T.keep.block _ ⟨ad.out.held.lt,ad.out.held.ne.1,ad.out.held.ne.2.1⟩,T.keep.block _ ⟨ad.out.ne.1,ad.out.ne.2.1,ad.out.ne.2.2.1⟩⟩;have an:=If d8;have e8:Hid (∀(w':World) (u1 u2:Value) (l1 l2:List Nat),fD wc w' (w.heap.size+3) ps S4 Y4 (.slice Ak lk ck) (.slice Av lk cv) u1 u2 l1 l2->∀z1 z2,((w'.setCell ⟨w1.heap.size,0,none⟩ z1).setCell ⟨w1.heap.size,1,none⟩ z2).heap[b]?=some (.cells #[.bool true,.int .u64 m.kh,.int .u64 m.vh,.int .u64 g] 406 (0,0))):=If fun w' u1 u2 l1 l2 T z1 z2=>((FB ad.out.ne.2.2.2.2).trans (FB ad.out.ne.2.2.2.2)).trans ((T.keep.block _ ⟨ad.out.ne.1,ad.out.ne.2.1,ad.out.ne.2.2.1⟩).trans iv.out);have d4:=If ad.out.held.two.drew;have HT:Hid (fy<w.heap.size+3):=If (by have:=ns HI.out.1;omega);have HN:Hid ((Bt.bn x).keys.length=lk/\(Bt.bn x).vals.length=lk):=If ⟨by rw[<-H1.g];unfold Bt.bn;rw[av],by rw[<-H1.g];unfold Bt.bn;rw[av]⟩;have pc:lk<=31:=by rw[<-H1.g];exact HI.out.2.1.es.2.2
        clear ai al ap ar d8;refine nG I (fun i=>[17,18,19].contains i) (.take 0 (.take 1 (.take 2 (.take 3 (.take 4 (.take 5 (.take 8 (.take 9 (.take 10 (.take 11 (.take 12 (.take 13 (.two 6 14 (.two 7 14 (.take 16 (.go 14 (.go 15 (.go 17 (.go 18 (.go 19 .nil)))))) (.go 7 (.take 16 (.go 15 (.go 17 (.go 18 (.go 19 .nil))))))) (.go 6 (.go 7 (.take 16 (.go 15 (.go 17 (.go 18 (.go 19 .nil)))))))))))))))))))) (by kernel_rfl) (by kernel_rfl) bd ?_
        iterate 12
         refine' qT ?_ ?_;rotate_left
         ·intro x;go_simp
          try rfl
         try simp only[pu]
        have ed:∀c,(wc.drew.alloc c).heap.size=wc.heap.size+1:=fun c=>by simp
        refine m9 ?_ ?_
        ·skip
         refine qD fun K hK=>?_;go_simp;obtain⟨T1,x1,ca,d',s1,b1⟩:=d4.out.one (m.kh)
         try go_simp
         refine hK.out _ _ (an.out _ _ _ _ _ T1) ?_;clear hK K
         try simp only[pu]
         refine m9 ?_ ?_
         ·skip
          refine qD fun K hK=>?_;go_simp;refine(T1.ins HT.out (by have:=T1.keep.size;have:=ad.out.held.lt;have:=ad.out.held.at3;omega) (by rw[HN.out.1];omega) (by rw[HN.out.1];exact a9) x1 ca).mono ?_;rintro en w4 ⟨u1,rfl,T2,o2⟩;obtain⟨A2,m2,c2,rfl⟩:=T2.own1.slice
          try go_simp
          refine hK.out _ _ (an.out _ _ _ _ _ T2) ?_;clear hK K
          try simp only[pu]
          refine' qT ?_ ?_;rotate_left
          ·intro x;go_simp
           try rfl
          try simp only[pu]
          refine qD fun K hK=>?_;go_simp;obtain⟨T3,x3,q9,hv,s3,b3⟩:=T2.one (m.vh)
          try go_simp
          refine hK.out _ _ (an.out _ _ _ _ _ T3) ?_;clear hK K
          try simp only[pu]
          refine qD fun K hK=>?_;go_simp;refine(T3.swap.ins HT.out (by have:=T3.keep.size;have:=ad.out.held.lt;have:=ad.out.held.at3;omega) (by rw[HN.out.2];omega) (by rw[HN.out.2];exact a9) x3 hv).mono ?_;rintro en w6 ⟨u2,rfl,T4,o4⟩;obtain⟨A4,m4,c4,rfl⟩:=T4.own1.slice;have T5:=T4.swap
          try go_simp
          refine hK.out _ _ (an.out _ _ _ _ _ T5) ?_;clear hK K
          try simp only[pu]
          obtain⟨g0,g1,g2⟩:=ad.out.held.grow T5;have f0:w6.frozen? ⟨w1.heap.size,0,none⟩=false:=AT g0;have d0:w6.cell? ⟨w1.heap.size,0,none⟩=some (.slice Ak lk ck):=by rw[Fs g0];rfl
          have f1:(w6.setCell ⟨w1.heap.size,0,none⟩ (.slice A2 m2 c2)).frozen? ⟨w1.heap.size,1,none⟩=false:=AT g1;have d1:(w6.setCell ⟨w1.heap.size,0,none⟩ (.slice A2 m2 c2)).cell? ⟨w1.heap.size,1,none⟩=some (.slice Av lk cv):=by rw[Fs g1];rfl
          have au:=If g2;have d5:=If (e8.out _ _ _ _ _ T5 (.slice A2 m2 c2) (.slice A4 m4 c4));clear g0 g1 g2;refine qL fun K hK=>?_;go_simp
          try go_simp
          refine hK.out _ _ trivial ?_;clear hK K
          try simp only[pu]
          refine qL fun K hK=>?_;go_simp
          try go_simp
          refine hK.out _ _ trivial ?_;clear hK K
          try simp only[pu]
          refine qL fun K hK=>?_;go_simp
          try go_simp
          refine hK.out _ _ trivial ?_;clear hK K
          try simp only[pu]
          refine jd ?_;go_wp2_with fail
          go_meet
          case rel=>exact If ⟨d5.out,_,A2,m2,c2,A4,m4,c4,au.out⟩
         ·skip
          refine qD fun K hK=>?_;go_simp;obtain⟨T2,x2,bj,cb,s2,b2⟩:=T1.one (m.vh);rw[ed] at x2 bj cb s2;have c3:=(b2.block _ s1).trans x1
          try go_simp
          refine hK.out _ _ (an.out _ _ _ _ _ T2) ?_;clear hK K
          try simp only[pu]
          refine qD fun K hK=>?_;go_simp;refine(T2.ins HT.out (by have:=T2.keep.size;have:=ad.out.held.lt;have:=ad.out.held.at3;omega) (by rw[HN.out.1];omega) (by rw[HN.out.1];exact a9) c3 ca).mono ?_;rintro en w5 ⟨u1,rfl,T3,o3⟩;have h':=(o3 _ s2 bj).trans x2;obtain⟨A2,m2,c2,rfl⟩:=T3.own1.slice
          try go_simp
          refine hK.out _ _ (an.out _ _ _ _ _ T3) ?_;clear hK K
          try simp only[pu]
          refine' qT ?_ ?_;rotate_left
          ·intro x;go_simp
           try rfl
          try simp only[pu]
          refine qD fun K hK=>?_;go_simp;refine(T3.swap.ins HT.out (by have:=T3.keep.size;have:=ad.out.held.lt;have:=ad.out.held.at3;omega) (by rw[HN.out.2];omega) (by rw[HN.out.2];exact a9) h' cb).mono ?_;rintro en w6 ⟨u2,rfl,T4,o4⟩;obtain⟨A4,m4,c4,rfl⟩:=T4.own1.slice;have T5:=T4.swap
          try go_simp
          refine hK.out _ _ (an.out _ _ _ _ _ T5) ?_;clear hK K
          try simp only[pu]
          obtain⟨g0,g1,g2⟩:=ad.out.held.grow T5;have f0:w6.frozen? ⟨w1.heap.size,0,none⟩=false:=AT g0;have d0:w6.cell? ⟨w1.heap.size,0,none⟩=some (.slice Ak lk ck):=by rw[Fs g0];rfl
          have f1:(w6.setCell ⟨w1.heap.size,0,none⟩ (.slice A2 m2 c2)).frozen? ⟨w1.heap.size,1,none⟩=false:=AT g1;have d1:(w6.setCell ⟨w1.heap.size,0,none⟩ (.slice A2 m2 c2)).cell? ⟨w1.heap.size,1,none⟩=some (.slice Av lk cv):=by rw[Fs g1];rfl
          have au:=If g2;have d5:=If (e8.out _ _ _ _ _ T5 (.slice A2 m2 c2) (.slice A4 m4 c4));clear g0 g1 g2;refine qL fun K hK=>?_;go_simp
          try go_simp
          refine hK.out _ _ trivial ?_;clear hK K
          try simp only[pu]
          refine qL fun K hK=>?_;go_simp
          try go_simp
          refine hK.out _ _ trivial ?_;clear hK K
          try simp only[pu]
          refine qL fun K hK=>?_;go_simp
          try go_simp
          refine hK.out _ _ trivial ?_;clear hK K
          try simp only[pu]
          refine jd ?_;go_wp2_with fail
          go_meet
          case rel=>exact If ⟨d5.out,_,A2,m2,c2,A4,m4,c4,au.out⟩
        ·skip
         refine qD fun K hK=>?_;go_simp;obtain⟨T1,x1,ca,d',s1,b1⟩:=d4.out.one (m.vh)
         try go_simp
         refine hK.out _ _ (an.out _ _ _ _ _ T1) ?_;clear hK K
         try simp only[pu]
         refine qD fun K hK=>?_;go_simp;obtain⟨T2,x2,bj,cb,s2,b2⟩:=T1.one (m.kh);rw[ed] at x2 bj cb;have c3:=(b2.block _ s1).trans x1
         try go_simp
         refine hK.out _ _ (an.out _ _ _ _ _ T2) ?_;clear hK K
         try simp only[pu]
         refine qD fun K hK=>?_;go_simp;refine(T2.ins HT.out (by have:=T2.keep.size;have:=ad.out.held.lt;have:=ad.out.held.at3;omega) (by rw[HN.out.1];omega) (by rw[HN.out.1];exact a9) x2 bj).mono ?_;rintro en w5 ⟨u1,rfl,T3,o3⟩;have h9:=(o3 _ (Nat.lt_trans s1 s2) ca).trans c3;obtain⟨A2,m2,c2,rfl⟩:=T3.own1.slice
         try go_simp
         refine hK.out _ _ (an.out _ _ _ _ _ T3) ?_;clear hK K
         try simp only[pu]
         refine' qT ?_ ?_;rotate_left
         ·intro x;go_simp
          try rfl
         try simp only[pu]
         refine qD fun K hK=>?_;go_simp;refine(T3.swap.ins HT.out (by have:=T3.keep.size;have:=ad.out.held.lt;have:=ad.out.held.at3;omega) (by rw[HN.out.2];omega) (by rw[HN.out.2];exact a9) h9 d').mono ?_;rintro en w6 ⟨u2,rfl,T4,o4⟩;obtain⟨A4,m4,c4,rfl⟩:=T4.own1.slice;have T5:=T4.swap
         try go_simp
         refine hK.out _ _ (an.out _ _ _ _ _ T5) ?_;clear hK K
         try simp only[pu]
         obtain⟨g0,g1,g2⟩:=ad.out.held.grow T5;have f0:w6.frozen? ⟨w1.heap.size,0,none⟩=false:=AT g0;have d0:w6.cell? ⟨w1.heap.size,0,none⟩=some (.slice Ak lk ck):=by rw[Fs g0];rfl
         have f1:(w6.setCell ⟨w1.heap.size,0,none⟩ (.slice A2 m2 c2)).frozen? ⟨w1.heap.size,1,none⟩=false:=AT g1;have d1:(w6.setCell ⟨w1.heap.size,0,none⟩ (.slice A2 m2 c2)).cell? ⟨w1.heap.size,1,none⟩=some (.slice Av lk cv):=by rw[Fs g1];rfl
         have au:=If g2;have d5:=If (e8.out _ _ _ _ _ T5 (.slice A2 m2 c2) (.slice A4 m4 c4));clear g0 g1 g2;refine qL fun K hK=>?_;go_simp
         try go_simp
         refine hK.out _ _ trivial ?_;clear hK K
         try simp only[pu]
         refine qL fun K hK=>?_;go_simp
         try go_simp
         refine hK.out _ _ trivial ?_;clear hK K
         try simp only[pu]
         refine qL fun K hK=>?_;go_simp
         try go_simp
         refine hK.out _ _ trivial ?_;clear hK K
         try simp only[pu]
         refine jd ?_;go_wp2_with fail
         go_meet
         case rel=>exact If ⟨d5.out,_,A2,m2,c2,A4,m4,c4,au.out⟩
      case rest=>
       obtain⟨up,Y5,A2,m2,c2,A4,m4,c4,H5⟩:=hcut.out;clear hcut x0 x1 x2 x3;have i3:=H5.box;obtain⟨x0,x1,x2,x3⟩:=Fy up;obtain⟨y0,y1,y2,y3⟩:=Fy i3;have b6:=(aa _ wc).alloc Ih (.cells #[.int .u64 g] 83);have H6:=H5.below b6;have x6:=heap_alloc_new wc (.cells #[.int .u64 g] 83);have n6:(Value.slice (some ⟨gc,oc,none⟩) lc cc).ownBlock≠some wc.heap.size:=fun q=>by have:=(H5.rows.c.block q).2.1;omega
       have o':(Bt.bn x).kids.length=lc:=by rw[<-H1.j];unfold Bt.bn;rw[av]
       have pb:lc<=32:=by
        have h1:=HI.out.2.1.es.2.2;have h2:=HI.out.2.1.ok.kids;have h3:=H1.j;omega
       have cn:=uT H6.st H6.rows.c (fun g hg=>H6.yk g (ae (ae hg))) (by have:=ns HI.out.1;omega) (by omega) (i:=k+1) (by omega) x6 n6 (by have:=H6.lt;have:=H6.at3;omega);have e1:((k+1:Nat):Int)=(k:Int)+1:=by omega
       rw[e1] at cn;have tk:IntKind.i64.wrap ((k:Int)+1)=(k:Int)+1:=az _ (by omega);have n':=If cn;have n4:=If H6;have ra:=If up;clear cn H6 H5 i3 up x6 n6 o' pb e1 b6;go_wp2_with fail;refine n'.out.mono ?_;rintro en w7 ⟨u3,rfl,I7⟩;obtain⟨A7,m7,c7,rfl⟩:=I7.own.slice;obtain⟨g0,g2⟩:=n4.out.grow3 I7;have f2:w7.frozen? ⟨w1.heap.size,2,none⟩=false:=AT g0;have d2:w7.cell? ⟨w1.heap.size,2,none⟩=some (.slice (some ⟨gc,oc,none⟩) lc cc):=by rw[Fs g0];rfl
       have au:=If g2;clear g0 g2 I7 x0 x1 x2 x3 y0 y1 y2 y3;go_wp2_with fail
       go_meet
       case rel=>
        obtain⟨hy,bo⟩:=HY.out;have U1:=ad.out;subst hy;obtain⟨x',M⟩:=Dc HI.out.2.1 HI.out.2.2.1 HI.out.2.2.2.2.2.2.2.2.2.2.2.1 hkh hvh HI.out.2.2.2.2.2.1 HK.out ao H1.i.1 U1.sum U1.put U1.num U1.all au.out;exact⟨_,_,_,_,_,x',_,_,_,M⟩
 case rest=>
  obtain⟨S',Y,v',L',U,x',vk,vv,vc,M⟩:=hcut;have hp:=M.putting;have cr:=M.held.rows;obtain⟨K1,k1,i'⟩:=cr.k.slice2;obtain⟨V1,l1,jk⟩:=cr.v.slice2;obtain⟨C1,j1,i4⟩:=cr.c.slice2;rw[hp.2.2.2.2.1] at i';rw[hp.2.2.2.2.2.1] at jk;rw[hp.2.2.2.2.2.2] at i4;subst i' jk i4;obtain⟨sz,b8⟩:=Ii (Bt.its x).length;obtain⟨n,hn⟩:=Ii (Bn.es x').length;obtain⟨c,hc⟩:=Ii (Bn.ks x').length;have Hd:=M.held;rw[b8,hn,hc] at Hd;have hb:=Hd.box;have b':=Hd.tree;have s9:sz<1000000:=by rw[<-b8];exact HI.out.2.1.few
  have sd:n<=2*t:=by rw[<-hn];exact M.mid.okN.1
  have cw:=HI.out.2.1.t2;have b9:=HI.out.2.1.t1;clear x0 x1 y0 y1 y2 y3 z0 z1;obtain⟨x0,x1⟩:=Fp b';obtain⟨y0,y1,y2,y3⟩:=Fy hb;obtain⟨f0,f1,f2,f3⟩:=fO hb;have md:IntKind.u64.wrap ((sz:Int)+1)=(sz:Int)+1:=cI _ (by omega);have HM:=kq4 M b8 hn hc;have HD:=If Hd;clear M Hd hp cr b8 hn hc hb b'
  go_upto_region 11 with fail
  go_cut [] from 18 (fun wd=>Hid (eH w ps Z bt bl D t v w1.heap.size wd S' Y v' L' (.slice K1 n k1) (.slice V1 n l1) (.slice C1 c j1) (sz+1) (Bt.bn x').keys (Bt.bn x').vals (Bt.bn x').kids))
  case first=>
   as_aux_lemma=>
    go_wp2_with fail
    go_meet
    case rel=>
     have h:=HD.out.size (sz+1);have e1:((sz+1:Nat):Int)=(sz:Int)+1:=by omega
     rw[e1] at h;exact If h
  case rest=>
   have hb:=hcut.out.box;have b':=hcut.out.tree;have po:=hcut.out.res;clear HD x0 x1 y0 y1 y2 y3 f0 f1 f2 f3 md;have e1:((sz+1:Nat):Int)=(sz:Int)+1:=by omega
   rw[e1] at hb;obtain⟨x0,x1⟩:=Fp b';obtain⟨y0,y1,y2,y3⟩:=Fy hb;have tc:IntKind.i64.wrap (2*(t:Int))=2*(t:Int):=az _ (by omega);clear hb b' po
   by_cases k6:n<2*t
   ·have pf:(n:Int)<2*t:=by omega
    have bs:Ct 329 #[PV ps,.int .i64 t,.int .u64 (Bt.hd x:Nat),eC (.slice K1 n k1) (.slice V1 n l1) (.slice C1 c j1) (Bt.bn x').size] wc fun e w'=>e=.returned (.int .i64 0)/\Ig w' ps (FC S' (Bn.h x) 0 (bnWords t (Bt.bn x'))) Y/\Fo Y wc w':=by
     obtain⟨M,b8,hn,hc⟩:=HM.out;obtain⟨p1,p2,p3,p4,p5,p6,p7⟩:=M.putting;exact mz hcut.out.st p1 (Bt.bnok_of M.mid.fit b9 cw M.mid.kids (M.mid.okN.ok (by omega))) hcut.out.rows.k.hrow hcut.out.rows.v.hrow hcut.out.rows.c.hrow (Bn.h x) p3 p2 (kX M.mid.lt (by omega))
    have c6:(Bt.bn x').size=sz+1:=by
     obtain⟨M,b8,hn,hc⟩:=HM.out;exact M.putting.2.2.2.1.trans (by rw[b8])
    rw[c6] at bs;unfold eC at bs;rw[e1] at bs;have HP:=If bs;clear bs c6 e1;go_wp2_with fail;refine HP.out.mono ?_;rintro en w3 ⟨rfl,eb,dv⟩;have H3:=hcut.out.kid eb (dv.mono fun k hk=>hk.1) (hcut.out.sp.keeps fun k hk=>dv.block k (hcut.out.zy k (hcut.out.spz k hk))) rfl;have b4:=H3.res;clear x0 x1 y0 y1 y2 y3;obtain⟨x0,x1,x2,x3⟩:=Fy b4;obtain⟨f0,f1,f2,f3⟩:=fO b4;have H3:=kq2 H3 b4;clear b4 eb dv;go_wp2_with fail;obtain⟨WF,cm⟩:=Ii ((((w3.setCell ⟨w.heap.size+1+1,0,none⟩ (.bool false)).setCell ⟨w.heap.size+1+1,1,none⟩ (.int .u64 0)).setCell ⟨w.heap.size+1+1,2,none⟩ (.int .u64 0)).setCell ⟨w.heap.size+1+1,3,none⟩ (.int .u64 0));rw[cm];have HF:=H3.a.fin H3.b (.bool false) (.int .u64 0) (.int .u64 0) (.int .u64 0) WF cm.symm;clear cm x0 x1 x2 x3 f0 f1 f2 f3;have e4:=HF.2.2.2;obtain⟨q0,q1,q2,q3⟩:=Fy e4;obtain⟨M,b8,hn,hc⟩:=HM.out;have a':¬(Bn.es x').length=2*t:=by omega
    have k':=M.num;have js:=M.all;rw[if_neg a'] at k';rw[decide_eq_false a'] at js;exact bodyPost_ret (v:=.agg #[.bool false,.int .u64 0,.int .u64 0,.int .u64 0]) (by simp[results,f324,go_sem,q0,q1,q2,q3]) rfl ⟨none,_,v',L',U,rfl,M.sum,M.mid.put cw (by omega),HF.1,HF.2.1,HF.2.2.1,M.held.own,k',js⟩
   ·have pf:¬(n:Int)<2*t:=by omega
    have a':n=2*t:=by omega
    have ao:(Bt.bn x').keys.length=n/\(Bt.bn x').vals.length=n/\(Bt.bn x').kids.length=c:=by
     obtain⟨M,b8,hn,hc⟩:=HM.out;obtain⟨p1,p2,p3,p4,p5,p6,p7⟩:=M.putting;exact⟨by omega,by omega,by omega⟩
    have px:∃b cc,(Value.slice K1 n k1)=.slice (some ⟨b,0,none⟩) n cc/\n<=cc:=by
     have:=hcut.out.rows.k.some (by omega);rwa[ao.1] at this
    have p8:∃b cc,(Value.slice V1 n l1)=.slice (some ⟨b,0,none⟩) n cc/\n<=cc:=by
     have:=hcut.out.rows.v.some (by omega);rwa[ao.2.1] at this
    obtain⟨bk,rk,ek,dc⟩:=px;obtain⟨bv,rl,ev,dk⟩:=p8
    injection ek with ek1 _ ek2
    injection ev with ev1 _ ev2
    subst ek1 ek2 ev1 ev2;have s':t+1<=n:=by omega
    have bb:=kq2 a' ao;clear a' ao e1;have a1:(t:Int)<=k1:=by omega
    have a2:(t:Int)<=l1:=by omega
    have a3:(t:Int)+1<=n:=by omega
    have a4:0<=(t:Int)+1:=by omega
    have a6:¬k1=t+1:=by omega
    have a7:¬l1=t+1:=by omega
    have a5:((t:Int)+1).toNat=t+1:=by omega
    have tl:IntKind.i64.wrap ((t:Int)+1)=(t:Int)+1:=az _ (by omega);have r4:(t:Int)+1<=k1:=by omega
    have rx:(t:Int)+1<=l1:=by omega
    obtain⟨wp,rfl⟩:∃z,z=wc:=⟨wc,rfl⟩;have HC:=hcut;clear hcut
    go_upto_region 15 with fail
    go_cut [18,19] from 20 (fun s18 s19 wd=>∃bL bR,s18=.pointer (some ⟨bL,0,none⟩)/\s19=.pointer (some ⟨bR,0,none⟩)/\Hid (eV wp wd ps S' Y bL bR #[.slice (some ⟨bk,0,none⟩) t k1,.slice (some ⟨bv,0,none⟩) t l1,.slice none 0 0,.int .u64 0] #[.slice (some ⟨bk,t+1,none⟩) (n-(t+1)) (k1-(t+1)),.slice (some ⟨bv,t+1,none⟩) (n-(t+1)) (l1-(t+1)),.slice none 0 0,.int .u64 0]))
    case first=>
     as_aux_lemma=>
      obtain⟨I,ai,al⟩:=ic fun w'=>w'.heap[w1.heap.size]?=wp.heap[w1.heap.size]?/\w'.heap[w.heap.size]?=wp.heap[w.heap.size]?;have hb:=HC.out.box;have e1:((sz+1:Nat):Int)=(sz:Int)+1:=by omega
      rw[e1] at hb;have ap:=fun x:Fq I=>(ai _ x.ok).1.trans hb;have ar:=fun x:Fq I=>(ai _ x.ok).2.trans HC.out.tree;obtain⟨m0,m1,m2,m3⟩:=iB ap;obtain⟨p0,p1⟩:=fw ar;have bd:I wp.drew:=al _ ⟨rfl,rfl⟩;have b1:=fun q=>((aa wp.heap.size wp).drew).alloc Ih (.cells q 286);have b2:=fun q q2=>(b1 q).alloc (by simp) (.cells q2 286);have i5:∀q,I (wp.drew.alloc (.cells q 286)):=fun q=>al _ ⟨(b1 q).block _ HC.out.lt,(b1 q).block _ (by have:=HC.out.lt;have:=HC.out.at3;omega)⟩;have i6:∀q q2,I ((wp.drew.alloc (.cells q 286)).alloc (.cells q2 286)):=fun q q2=>al _ ⟨(b2 q q2).block _ HC.out.lt,(b2 q q2).block _ (by have:=HC.out.lt;have:=HC.out.at3;omega)⟩;have ih:=If i5;have c5:=If i6;clear ai al ap ar hb e1 b1 b2 i5 i6;refine fh I (.take 0 (.take 1 (.take 2 (.take 3 (.take 4 (.take 5 (.take 6 (.take 7 (.take 8 (.take 9 (.take 10 (.take 11 (.take 12 (.take 13 (.take 14 (.take 15 (.take 16 (.take 17 (.take 18 (.take 19 (.take 20 (.take 21 (.take 22 (.take 23 (.two 24 25 (.go 25 (.go 26 (.go 27 .nil))) (.go 24 (.go 26 (.go 27 .nil)))))))))))))))))))))))))))) (by kernel_rfl) (by kernel_rfl) bd ?_
      iterate 24
       refine' pT ?_ ?_;rotate_left
       ·intro x;go_simp
        try rfl
       try simp only[pu]
      refine gL ?_ ?_
      ·skip
       refine pD fun K hK=>?_;go_simp
       try go_simp
       refine hK.out _ _ (ih.out _) ?_;clear hK K
       try simp only[pu]
       refine pD fun K hK=>?_;go_simp
       try go_simp
       refine hK.out _ _ (c5.out _ _) ?_;clear hK K
       try simp only[pu]
       refine pD fun K hK=>?_;go_simp
       try go_simp
       refine hK.out _ _ (c5.out _ _) ?_;clear hK K
       try simp only[pu]
       refine pD fun K hK=>?_;go_simp
       try go_simp
       refine hK.out _ _ (c5.out _ _) ?_;clear hK K
       try simp only[pu]
       refine eP ?_;go_wp2_with fail
       go_meet
       case rel=>exact⟨_,_,rfl,rfl,If (eV.start HC.out.st _ _)⟩
      ·skip
       refine pD fun K hK=>?_;go_simp
       try go_simp
       refine hK.out _ _ (ih.out _) ?_;clear hK K
       try simp only[pu]
       refine pD fun K hK=>?_;go_simp
       try go_simp
       refine hK.out _ _ (c5.out _ _) ?_;clear hK K
       try simp only[pu]
       refine pD fun K hK=>?_;go_simp
       try go_simp
       refine hK.out _ _ (c5.out _ _) ?_;clear hK K
       try simp only[pu]
       refine pD fun K hK=>?_;go_simp
       try go_simp
       refine hK.out _ _ (c5.out _ _) ?_;clear hK K
       try simp only[pu]
       refine eP ?_;go_wp2_with fail
       go_meet
       case rel=>exact⟨_,_,rfl,rfl,If (eV.start HC.out.st _ _).turn⟩
    case rest=>
     obtain⟨bL,bR,rfl,rfl,HS⟩:=hcut;obtain⟨nr,k9⟩:∃nr,nr=n-(t+1):=⟨_,rfl⟩;rw[<-k9] at HS;have s8:nr+1=t:=by have:=bb.a;omega
     clear k9 x0 x1 y0 y1 y2 y3 a1 a2 a3 a4 a5 a6 a7;have hL:=HS.out.bl;have hR:=HS.out.br;have e1:((sz+1:Nat):Int)=(sz:Int)+1:=by omega
     have hN:=(HS.out.kp.block _ HC.out.yb.1).trans HC.out.box;rw[e1] at hN;have hT:=(HS.out.kp.block _ HC.out.yb.2.1).trans HC.out.tree;obtain⟨x0,x1⟩:=Fp hT;obtain⟨y0,y1,y2,y3⟩:=Fy hN;obtain⟨a0,a1,a2,a3⟩:=Fy hL;obtain⟨f0,f1,f2,f3⟩:=fO hL;obtain⟨b0,b1,b2,b3⟩:=Fy hR;obtain⟨h0,h1,h2,h3⟩:=fO hR;clear hL hR hN hT e1
     go_upto_if 149 with fail
     go_cut [] from 20 (fun wd=>∃A1 m1 c1 A2 m2 c2,Hid (eV wp wd ps S' Y bL bR #[.slice (some ⟨bk,0,none⟩) t k1,.slice (some ⟨bv,0,none⟩) t l1,.slice A1 m1 c1,.int .u64 0] #[.slice (some ⟨bk,t+1,none⟩) nr (k1-(t+1)),.slice (some ⟨bv,t+1,none⟩) nr (l1-(t+1)),.slice A2 m2 c2,.int .u64 0]/\FD wp (.slice A1 m1 c1) ((Bt.bn x').kids.take (t+1))/\FD wp (.slice A2 m2 c2) ((Bt.bn x').kids.drop (t+1))/\(∀g,(Value.slice A1 m1 c1).ownBlock=some g->Y g)/\∀g,(Value.slice A2 m2 c2).ownBlock=some g->Y g/\g≠bl))
     case first=>
      as_aux_lemma=>
       by_cases hd0:d=0
       ·subst hd0;have k4:Bn.ks x'=[]:=Bt.nil_of_zero _;obtain rfl:c=0:=by rw[<-HM.d,k4];rfl
        go_wp2_with fail
        go_meet
        case rel=>
         have k3:(Bt.bn x').kids=[]:=by unfold Bt.bn;rw[k4];rfl
         refine⟨none,0,0,none,0,0,If ⟨HS.out,?_,?_,(fun g hg=>nomatch hg),fun g hg=>nomatch hg⟩⟩
         ·rw[k3];exact⟨none,0,rfl,fun k hk=>absurd hk (by simp)⟩
         ·rw[k3];exact⟨none,0,rfl,fun k hk=>absurd hk (by simp)⟩
       ·have ka:c=n+1:=by
         have h1:=HM.a.mid.okN.2.1;rw[if_neg hd0] at h1;have h2:=HM.out.2.2;omega
        have pt:∃b cc,(Value.slice C1 c j1)=.slice (some ⟨b,0,none⟩) c cc/\c<=cc:=by
         have:=HC.out.rows.c.some (by have:=bb.b.2.2;omega);rwa[bb.b.2.2] at this
        obtain⟨bc,rc,ec,c'⟩:=pt
        injection ec with ec1 _ ec2
        subst ec1 ec2;have a':=bb.a;have r5:(0:Int)<c:=by omega
        have q1:(t:Int)+1<=j1:=by omega
        have q2:(t:Int)+1<=c:=by omega
        have q3:0<=(t:Int)+1:=by omega
        have q4:¬j1=t+1:=by omega
        have q5:((t:Int)+1).toNat=t+1:=by omega
        have so:¬bL=bR:=HS.out.ge.2.2;have ss:¬bR=bL:=fun q=>HS.out.ge.2.2 q.symm;have pa:=HC.out.lt;have ga:=HS.out.ge;have fn:=HC.out.at3;have sw:¬bL=w1.heap.size:=by omega
        have sx:¬w1.heap.size=bL:=by omega
        have s0:¬bR=w1.heap.size:=by omega
        have s4:¬w1.heap.size=bR:=by omega
        have s5:¬bL=w.heap.size:=by omega
        have s6:¬w.heap.size=bL:=by omega
        have s7:¬bR=w.heap.size:=by omega
        have sl:¬w.heap.size=bR:=by omega
        clear ka a' pa ga fn
        go_upto_region 17 with fail
        go_region
        go_wp2_with fail
        go_meet
        case rel=>
         have hrow:=HC.out.rows.c.hrow;have ao:=bb.b.2.2;have a':=bb.a;have ka:c=n+1:=by
          have h1:=HM.a.mid.okN.2.1;rw[if_neg hd0] at h1;have h2:=HM.out.2.2;omega
         have ml:∀g,(Value.slice (some ⟨bc,0,none⟩) c j1).ownBlock=some g->Y g:=fun g hg=>HC.out.yk g (ae (ae hg));have rt:=(HC.out.rows.c.block (g:=bc) rfl).1;have j0:=HC.out.zl bl HC.out.zs.1;have q8:∀g,(Value.slice (some ⟨bc,0,none⟩) c j1).ownBlock=some g->Y g/\g≠bl:=fun g hg=>⟨ml g hg,by
          have hg:bc=g:=Option.some.inj hg;omega⟩
         exact⟨_,_,_,_,_,_,If ⟨((HS.out.setL2 _).setR2 _).below (aa _ _).drew,FD.take hrow (by omega),FD.drop hrow (by omega),ml,q8⟩⟩
     case rest=>
      obtain⟨A1,m1,c1,A2,m2,c2,bu⟩:=hcut;obtain⟨L2,gg,rfl,lb⟩:=HM.a.spare HI.out.2.2.2.2.2.2.2.2.2.2.2.2 HI.out.2.2.2.2.1 HI.out.2.2.2.2.2.1 (by have:=bb.a;have:=HM.c;omega);have ee:=If lb;obtain⟨KS,cl⟩:=Ii ((Bn.ks x').drop (t+1));have eo:(Bt.bn x').kids.drop (t+1)=KS.map Bt.hd:=by rw[<-cl];unfold Bt.bn;rw[cq]
      have gp:m2=KS.length:=by
       obtain⟨_,_,e,_⟩:=bu.out.2.2.1
       injection e with _ e _
       rw[e,eo,av]
      have sc:m2<=33:=by
       have h1:=HM.a.mid.okN.2.1;have h2:KS.length<=(Bn.ks x').length:=by rw[<-cl,aV];omega
       have h3:=HM.c
       split at h1<;>omega
      obtain⟨su,ds⟩:∃su:Nat->Nat,∀j,su j=((KS.take j).map fun k=>(Bt.its k).length).sum:=⟨_,fun _=>rfl⟩;have lr:su 0=0:=by rw[ds];rfl
      have g':∀j (hj:j<KS.length),su (j+1)=su j+(Bt.its KS[j]).length:=fun j hj=>by rw[ds,ds,ED _ _ hj]
      have ha:∀j,su j<=1000000:=fun j=>by
       have h1:=EC (fun k=>(Bt.its k).length) (Bn.ks x') (t+1) j;have h2:=Bt.its_len HM.a.mid.okN;have h3:=HM.a.putting.2.2.2.1;have h4:=HM.b;rw[ds,<-cl];omega
      have k0:sz+1=(Bt.its (Bt.leftOf t x')).length+1+(nr+su m2)/\(Bt.its (Bt.rightOf t x' gg)).length=nr+su m2:=by
       have a':=bb.a;have h1:=HM.a.halves b9 (by have:=HM.c;omega) gg;have h3:=HM.a.putting.2.2.2.1;have h4:=HM.b;have h5:=HM.c;have h6:su m2=(((Bn.ks x').drop (t+1)).map fun k=>(Bt.its k).length).sum:=by rw[ds,gp,dl,cl]
       have h7:=h1.2.2.1;have h8:=h1.2.2.2.2.2;rw[<-h6] at h8;omega
      have lz:∀k∈KS,k∈Bn.ks x':=fun k hk=>by
       rw[<-cl] at hk;exact bz hk
      have bf:∀(W:World) (Yx:Nat->Prop),Ig W ps S' Yx->∀j (hj:j<KS.length),Cb 163 #[FH ps t,.int .u64 (Bt.hd KS[j]:Nat)] W (.int .i64 (Bt.its KS[j]).length):=fun W Yx hst j hj=>by
       have k8:KS[j]∈Bn.ks x':=lz _ (aI hj);have h1:=g' j hj;have h2:=ha (j+1);exact ri HM.a.mid.fit b9 cw (HM.a.mid.kids _ k8) (HM.a.mid.okN.2.2 _ k8).1 (by omega) W Yx hst
      have la:FD wp (.slice A2 m2 c2) (KS.map Bt.hd):=by rw[<-eo];exact bu.out.2.2.1
      have ik:=kq3 cl eo g';have e7:=If ha;have o5:=If bf;have oe:=If k0;have eg:=kq2 la (show ∀g,(Value.slice A2 m2 c2).ownBlock=some g->Y g from fun g hg=>(bu.out.2.2.2.2 g hg).1);have n5:Hid (∀g,(Value.slice A2 m2 c2).ownBlock=some g->g≠bl):=If fun g hg=>(bu.out.2.2.2.2 g hg).2;have ii:=kq2 bu.out.2.1 bu.out.2.2.2.1;have ou:=If lr;have oi:=If gp;clear cl eo ds g' ha k0 bf la lb lr gp lz;clear x0 x1 y0 y1 y2 y3 a0 a1 a2 a3 b0 b1 b2 b3 f0 f1 f2 f3 h0 h1 h2 h3;have hR:=bu.out.1.br;obtain⟨b0,b1,b2,b3⟩:=Fy hR;obtain⟨h0,h1,h2,h3⟩:=fO hR;clear hR;have ph:IntKind.u64.wrap (nr:Int)=nr:=cI _ (by omega)
      go_upto_region 18 with fail
      go_cut [] from 20 (fun wd=>Hid (eV wp wd ps S' Y bL bR #[.slice (some ⟨bk,0,none⟩) t k1,.slice (some ⟨bv,0,none⟩) t l1,.slice A1 m1 c1,.int .u64 0] #[.slice (some ⟨bk,t+1,none⟩) nr (k1-(t+1)),.slice (some ⟨bv,t+1,none⟩) nr (l1-(t+1)),.slice A2 m2 c2,.int .u64 nr]))
      case first=>
       as_aux_lemma=>
        go_wp2_with fail
        go_meet
        case rel=>exact If (bu.out.1.setR3 (.int .u64 nr))
      case rest=>
       have hR:=hcut.out.br;clear b0 b1 b2 b3 h0 h1 h2 h3 ph bu;obtain⟨b0,b1,b2,b3⟩:=Fy hR;clear hR;go_wp2_with fail
       go_loopw [21,172] (fun _ s172 wr=>∃j:Nat,j<=m2/\s172=.int .i64 j/\Hid (eV wp wr ps S' Y bL bR #[.slice (some ⟨bk,0,none⟩) t k1,.slice (some ⟨bv,0,none⟩) t l1,.slice A1 m1 c1,.int .u64 0] #[.slice (some ⟨bk,t+1,none⟩) nr (k1-(t+1)),.slice (some ⟨bv,t+1,none⟩) nr (l1-(t+1)),.slice A2 m2 c2,.int .u64 ((nr:Int)+(su j:Nat))])) (fun _ s172 _=>m2-(intOf s172).toNat)
       case atStart=>exact⟨0,by omega,rfl,by rw[ou.out];simpa using hcut⟩
       case round=>
        as_aux_lemma=>
         clear b0 b1 b2 b3 hcut;obtain⟨j,hj,rfl,HR⟩:=hrel
         by_cases hjlt:j<m2
         ·have r8:(j:Int)<m2:=by omega
          have gn:j<KS.length:=by have:=oi.out;omega
          have hR:=HR.out.br;have hT:=(HR.out.kp.block _ HC.out.yb.2.1).trans HC.out.tree;have em:=FD.at (f:=Bt.hd) (l:=KS) (HR.out.row eg.a eg.b) (af gn);obtain⟨g2,o2,rfl,c'⟩:=em;obtain⟨hh,bo⟩:=Ii (Bt.hd KS[j]);obtain⟨zj,e5⟩:=Ii (Bt.its KS[j]).length;have bf:=fun W Yx hst=>o5.out W Yx hst j gn;rw[bo,e5] at bf;rw[bo] at c';have g9:=ik.c j gn;rw[e5] at g9;have e0:=e7.out j;have e3:=e7.out (j+1);have tr:zj<=1000000:=by omega
          obtain⟨I,ai,al⟩:=ic fun w'=>w'.heap[bR]?=wr.heap[bR]?/\w'.heap[w.heap.size]?=wr.heap[w.heap.size]?;have ap:=fun x:Fq I=>(ai _ x.ok).1.trans hR;have ar:=fun x:Fq I=>(ai _ x.ok).2.trans hT;obtain⟨r0,r1,r2,r3⟩:=iB ap;obtain⟨p0,p1⟩:=fw ar;have bd:I wr.drew:=al _ ⟨rfl,rfl⟩;have ti:IntKind.u64.wrap ((nr:Int)+(su j:Nat)+(zj:Nat))=(nr:Int)+(su j:Nat)+(zj:Nat):=cI _ (by omega);have md:IntKind.u64.wrap (zj:Int)=zj:=cI _ (by omega);unfold FH at bf;have ba:=If al;have oo:=If bf;have op:=kq3 g9 bo e5;clear ai al ap ar hR hT bf g9 bo e5 e0 e3;go_wp2_with fail;refine nG I (fun i=>[8].contains i) (.take 0 (.take 1 (.take 2 (.take 3 (.go 4 (.take 5 (.take 6 (.take 7 (.go 8 .nil))))))))) (by kernel_rfl) (by kernel_rfl) bd ?_
          iterate 4
           refine' qT ?_ ?_;rotate_left
           ·intro x;go_simp
            try rfl
           try simp only[pu]
          refine qD fun K hK=>?_;go_simp;refine(oo.out _ _ (HR.out.below (aa _ wr).drew).st).mono ?_;rintro en w5 ⟨rfl,fv⟩;have C5:=(HR.out.below (aa _ wr).drew).below fv;have fb:I w5:=ba.out _ ⟨fv.block _ HR.out.lt.2,fv.block _ (aW (by have:=HC.out.lt;have:=HC.out.at3;omega) HR.out.kp.size)⟩;have fm:=C5.br;obtain⟨b0,b1,b2,b3⟩:=Fy fm;obtain⟨h0,h1,h2,h3⟩:=fO fm;have n7:=If (C5.setR3 (.int .u64 ((nr:Int)+(su j:Nat)+(zj:Nat))));clear C5 fm
          try go_simp
          refine hK.out _ _ fb ?_;clear hK K
          try simp only[pu]
          iterate 3
           refine' qT ?_ ?_;rotate_left
           ·intro x;go_simp
            try rfl
           try simp only[pu]
          refine qL fun K hK=>?_;go_simp
          try go_simp
          refine hK.out _ _ trivial ?_;clear hK K
          try simp only[pu]
          refine jd ?_;go_wp2_with fail;go_roundw
          case rel=>
           refine⟨j+1,by omega,by simp,?_⟩;have e1:((nr:Int)+(su (j+1):Nat))=(nr:Int)+(su j:Nat)+(zj:Nat):=by have:=op.a;omega
           rw[e1];exact n7
          case measure=>simp[intOf];omega
         ·have o9:j=m2:=by omega
          subst o9;have sb:¬(j:Int)<j:=by omega
          obtain⟨f',kd⟩:=oe.out;obtain⟨zl,ht⟩:=Ii (Bt.its (Bt.leftOf t x')).length;rw[ht] at f';have p9:=e7.out j;have qq:IntKind.u64.wrap ((sz:Int)+1-((nr:Int)+(su j:Nat)))=(zl:Int)+1:=by rw[cI _ (by omega)];omega
          have qz:IntKind.u64.wrap ((zl:Int)+1-1)=zl:=by rw[cI _ (by omega)];omega
          have q6:IntKind.u64.wrap (zl:Int)=zl:=cI _ (by omega);have e1:((sz+1:Nat):Int)=(sz:Int)+1:=by omega
          have e2:((nr+su j:Nat):Int)=(nr:Int)+(su j:Nat):=by omega
          have hN:=(HR.out.kp.block _ HC.out.yb.1).trans HC.out.box;rw[e1] at hN;have hL:=HR.out.bl;have hR:=HR.out.br;obtain⟨y0,y1,y2,y3⟩:=Fy hN;obtain⟨a0,a1,a2,a3⟩:=Fy hL;obtain⟨f0,f1,f2,f3⟩:=fO hL;obtain⟨b0,b1,b2,b3⟩:=Fy hR;have HZ:=kq5 f' kd ht e1 e2;clear f' kd ht e1 e2 hN hL hR p9
          go_upto_region 24 with fail
          go_cut [] from 22 (fun wd=>Hid (eV wp wd ps S' Y bL bR #[.slice (some ⟨bk,0,none⟩) t k1,.slice (some ⟨bv,0,none⟩) t l1,.slice A1 m1 c1,.int .u64 zl] #[.slice (some ⟨bk,t+1,none⟩) nr (k1-(t+1)),.slice (some ⟨bv,t+1,none⟩) nr (l1-(t+1)),.slice A2 j c2,.int .u64 ((nr:Int)+(su j:Nat))]))
          case first=>
           as_aux_lemma=>
            go_wp2_with fail
            go_meet
            case rel=>exact If (HR.out.setL3 (.int .u64 zl))
          case rest=>
           clear y0 y1 y2 y3 a0 a1 a2 a3 f0 f1 f2 f3 b0 b1 b2 b3 qq qz q6 HR;have hL:=hcut.out.bl;have hT:=(hcut.out.kp.block _ HC.out.yb.2.1).trans HC.out.tree;obtain⟨x0,x1⟩:=Fp hT;obtain⟨a0,a1,a2,a3⟩:=Fy hL;have ex:(Bn.es x').length=2*t:=by have:=HM.c;have:=bb.a;omega
           have hq:∀g,(Value.slice (some ⟨bk,0,none⟩) n k1).ownBlock=some g->Y g:=fun g hg=>HC.out.yk g (ab hg);have hr:∀g,(Value.slice (some ⟨bv,0,none⟩) n l1).ownBlock=some g->Y g:=fun g hg=>HC.out.yk g (ae (ab hg));have ao:=bb.b;have a':=bb.a;obtain⟨hu,m8,m'⟩:=Bt.leftOf_bn t x';obtain⟨hw,nb,nc,q'⟩:=Bt.rightOf_bn t x' gg;obtain⟨l8,l',ql,mb,mc,qm⟩:=HM.a.halves b9 ex gg;obtain⟨cp,k7⟩:=HM.a.lts b9 ex gg;obtain⟨p1,p2,p3,p4,p5,p6,p7⟩:=HM.a.putting;have g5:nr=n-(t+1):=by omega
           have nm:FD wp (.slice (some ⟨bk,0,none⟩) t k1) (Bt.bn (Bt.leftOf t x')).keys:=by rw[hu];exact FD.take HC.out.rows.k.hrow (by omega)
           have nq:FD wp (.slice (some ⟨bv,0,none⟩) t l1) (Bt.bn (Bt.leftOf t x')).vals:=by rw[m8];exact FD.take HC.out.rows.v.hrow (by omega)
           have nj:FD wp (.slice A1 m1 c1) (Bt.bn (Bt.leftOf t x')).kids:=by rw[m'];exact ii.a
           have np:FD wp (.slice (some ⟨bk,t+1,none⟩) nr (k1-(t+1))) (Bt.bn (Bt.rightOf t x' gg)).keys:=by rw[hw,g5];exact FD.drop HC.out.rows.k.hrow (by omega)
           have nv:FD wp (.slice (some ⟨bv,t+1,none⟩) nr (l1-(t+1))) (Bt.bn (Bt.rightOf t x' gg)).vals:=by rw[nb,g5];exact FD.drop HC.out.rows.v.hrow (by omega)
           have nl:FD wp (.slice A2 j c2) (Bt.bn (Bt.rightOf t x' gg)).kids:=by rw[nc,ik.b];exact eg.a
           have bs:=mz hcut.out.st p1 (Bt.bnok_of HM.a.mid.fit b9 cw mb l8) (hcut.out.row nm hq) (hcut.out.row nq hr) (hcut.out.row nj ii.b) (Bn.h x) p3 p2 (kX cp (by rw[hu,am];omega));have l3:(Bt.bn (Bt.leftOf t x')).size=zl:=HZ.c;rw[l3] at bs;unfold eC at bs;have HP:=If bs;have i0:Hid ((∀g,(.slice (some ⟨bk,t+1,none⟩) nr (k1-(t+1)):Value).ownBlock=some g->Y g)/\∀g,(.slice (some ⟨bv,t+1,none⟩) nr (l1-(t+1)):Value).ownBlock=some g->Y g):=If ⟨fun g hg=>HC.out.yk g (ab hg),fun g hg=>HC.out.yk g (ae (ab hg))⟩;have cd:=kq6 np nv nl hq hr ex;have it:=kq4 (Bt.bnok_of HM.a.mid.fit b9 cw mc l') (kX (t:=t) k7 (by rw[hw,aV];omega)) ao a';clear bs l3 nm nq nj np nv nl hq hr ao a' hu m8 m' hw nb nc q' l8 l' ql mb mc qm cp k7 p1 p2 p3 p4 p5 p6 p7 g5 hL hT ex;go_wp2_with fail;refine HP.out.mono ?_;rintro en w3 ⟨rfl,eb,dv⟩;have C3:=hcut.out.put eb dv;clear x0 x1 a0 a1 a2 a3 HP eb dv hcut;have a8:=If C3;clear C3;go_wp2_with fail;obtain⟨wg,e0,e3,g7⟩:=ee.out.2.2.2;have kz:=ee.out.2.2.1;have dn:=HM.a.left_put b9 cw cd.f kz e3;have kn:=(fL dn.1 dn.2).2.1;have kx:(FC S' (Bn.h x) 0 (bnWords t (Bt.bn (Bt.leftOf t x')))).len gg=(6*t,0):=by rw[jw dn.1.tab dn.2,g7]
           have j0:bl<w.heap.size:=HC.out.zl bl HC.out.zs.1;have o7:=HC.out.rows.k.block (g:=bk) rfl;have o8:=HC.out.rows.v.block (g:=bv) rfl;have jc:L2.length<=1000:=by
            have h1:=HI.out.2.2.2.2.2.2.2.2.2.1;have h2:=HM.a.sum;rw[h2] at h1;simp only[aE] at h1;omega
           have g8:=HC.out.spz;have ll:gz w3.drew bt bl D ps t v' (L2++[gg]):=HC.out.sp.keeps fun k hk=>a8.out.kp.block k (HC.out.zy k (g8 k hk));have j2:∀b,(Value.slice (some ⟨bk,t+1,none⟩) nr (k1-(t+1))).ownBlock=some b->b≠bl:=fun b hb q=>by
            have hb:bk=b:=Option.some.inj hb;omega
           have j3:∀b,(Value.slice (some ⟨bv,t+1,none⟩) nr (l1-(t+1))).ownBlock=some b->b≠bl:=fun b hb q=>by
            have hb:bv=b:=Option.some.inj hb;omega
           have j':∀b,(Value.slice A2 j c2).ownBlock=some b->b≠bl:=n5.out;have d9:=pZ (n:=Bt.bn (Bt.rightOf t x' gg)) (vk:=.slice (some ⟨bk,t+1,none⟩) nr (k1-(t+1))) (vv:=.slice (some ⟨bv,t+1,none⟩) nr (l1-(t+1))) (vc:=.slice A2 j c2) (a8.out.st.below (aa _ w3).drew) dn.1.inv ll (ab (HC.out.zy _ HC.out.zs.1)) (ab (HC.out.zy _ HC.out.zs.2.1)) (fun b hb=>ab (HC.out.zy _ (g8 b (ae (ae hb))))) jc it.a (a8.out.row cd.a i0.out.1) (a8.out.row cd.b i0.out.2) (a8.out.row cd.c eg.b) j2 j3 j' kn kx it.b;have l4:(Bt.bn (Bt.rightOf t x' gg)).size=nr+su j:=HZ.b;rw[l4] at d9;unfold eC at d9;rw[HZ.e] at d9;have l5:t<(Bn.es x').length:=by have:=cd.f;omega
           obtain⟨m,hm⟩:=Ii ((Bn.es x')[t]);have gs:(Bn.es x')[t]?=some m:=by rw[af l5,hm]
           have dc:=FD.at (f:=(·.kh)) (l:=Bn.es x') (a8.out.row HC.out.rows.k.hrow cd.d) gs;have dk:=FD.at (f:=(·.vh)) (l:=Bn.es x') (a8.out.row HC.out.rows.v.hrow cd.e) gs;obtain⟨gk,ok,ek,dc⟩:=dc;obtain⟨gv,ov,ev,dk⟩:=dk
           injection ek with ek
           injection ek with ek1 ek2 _
           subst ek1 ek2
           injection ev with ev
           injection ev with ev1 ev2 _
           subst ev1 ev2;rw[bK] at dc dk;have hN:=(a8.out.kp.block _ HC.out.yb.1).trans HC.out.box;rw[HZ.d] at hN;have hT:=(a8.out.kp.block _ HC.out.yb.2.1).trans HC.out.tree;have hR:=a8.out.br;have ho:=HC.out.yb;have fn:=HC.out.at3;have ga:=a8.out.ge;have q7:=HC.out.keep.size;have mr:=HC.out.yk bk (ab rfl);have mv:=HC.out.yk bv (ae (ab rfl));obtain⟨I,ai,al⟩:=ic fun w'=>∀k,(Y k\/k=bL\/k=bR)->k≠bl->w'.heap[k]?=w3.heap[k]?;have ap:=fun x:Fq I=>(ai _ x.ok w1.heap.size (ab ho.1) (by omega)).trans hN;have ar:=fun x:Fq I=>(ai _ x.ok w.heap.size (ab ho.2.1) (by omega)).trans hT;have m6:=fun x:Fq I=>(ai _ x.ok bR (ae (ae rfl)) (by omega)).trans hR;obtain⟨r0,r1,r2,r3⟩:=iB ap;obtain⟨p0,p1⟩:=fw ar;obtain⟨q0,q1,q2,q3⟩:=iB m6;have o1:∀x:Fq I,x.to.cell? ⟨bk,t,none⟩=some (.int .u64 (m.kh:Nat)):=fun x=>(j9 (ai _ x.ok bk (ab mr) (by omega))).trans dc;have o2:∀x:Fq I,x.to.cell? ⟨bv,t,none⟩=some (.int .u64 (m.vh:Nat)):=fun x=>(j9 (ai _ x.ok bv (ab mv) (by omega))).trans dk;have bd:I w3.drew:=al _ fun _ _ _=>rfl;have tb:(t:Int)<n:=by have:=HM.c;omega
           have o6:=If d9;have ba:=If al;have ob:=If (HM.a.done b9 cw cd.f ee.out.1 ee.out.2.1 e0 g7 l5);have oj:=If hm;have rb:Hid (w.heap.size+2≠bl):=If (by omega);clear ai al ap ar m6 d9 kn kx j0 o7 o8 jc g8 ll j2 j3 j' l4 gs dc dk hN hT hR ho fn ga q7 mr mv hm e0 e3 g7 kz dn;refine nG I (fun i=>[17].contains i) (.take 0 (.take 1 (.take 2 (.take 3 (.take 4 (.take 5 (.take 6 (.take 7 (.take 8 (.take 9 (.take 10 (.take 11 (.take 12 (.take 13 (.take 14 (.go 15 (.take 16 (.go 17 .nil)))))))))))))))))) (by kernel_rfl) (by kernel_rfl) bd ?_
           iterate 15
            refine' qT ?_ ?_;rotate_left
            ·intro x;go_simp
             try rfl
            try simp only[pu]
           refine qD fun K hK=>?_;go_simp;refine o6.out.mono ?_;rintro en w5 ⟨rfl,v5,nx,cx,nw,na⟩;have H5:=HC.out.kid (nx.mono fun k hk=>ab hk) ((a8.out.kp.mono fun k hk=>hk.1).trans ⟨cx.os,cx.tape,cx.output,cx.size,fun k hk=>cx.block k ⟨ab hk.1,hk.2⟩⟩) nw na;have ez:=H5.res;have fb:I w5:=ba.out _ fun k hk hn=>cx.block k ⟨hk,hn⟩;obtain⟨b0,b1,b2,b3⟩:=Fy ez;obtain⟨h0,h1,h2,h3⟩:=fO ez;have id:=kq2 H5 ez;clear nx cx nw H5 ez
           try go_simp
           refine hK.out _ _ fb ?_;clear hK K
           try simp only[pu]
           refine' qT ?_ ?_;rotate_left
           ·intro x;go_simp
            try rfl
           try simp only[pu]
           refine qL fun K hK=>?_;go_simp
           try go_simp
           refine hK.out _ _ trivial ?_;clear hK K
           try simp only[pu]
           refine jd ?_;go_wp2_with fail;obtain⟨WF,cm⟩:=Ii ((((w5.setCell ⟨w.heap.size+1+1,0,none⟩ (.bool true)).setCell ⟨w.heap.size+1+1,1,none⟩ (.int .u64 (m.kh:Nat))).setCell ⟨w.heap.size+1+1,2,none⟩ (.int .u64 (m.vh:Nat))).setCell ⟨w.heap.size+1+1,3,none⟩ (.int .u64 (gg:Nat)));rw[cm];have HF:=id.a.fin id.b (.bool true) (.int .u64 (m.kh:Nat)) (.int .u64 (m.vh:Nat)) (.int .u64 (gg:Nat)) WF cm.symm;clear cm b0 b1 b2 b3 h0 h1 h2 h3;have e4:=HF.2.2.2;obtain⟨a0,a1,a2,a3⟩:=Fy e4;obtain⟨d1,d2,d3⟩:=ob.out;rw[oj.out] at d1;have p':L=L2++(gg::U):=by have:=HM.a.sum;rw[this];simp
           have pk:=na.trans HM.a.held.own;have qb:Ending.returned (.agg #[.bool true,.int .u64 (m.kh:Nat),.int .u64 (m.vh:Nat),.int .u64 (gg:Nat)])=Ending.returned (ky (some (m,gg))):=rfl;exact bodyPost_ret (v:=.agg #[.bool true,.int .u64 (m.kh:Nat),.int .u64 (m.vh:Nat),.int .u64 (gg:Nat)]) (by simp[results,f324,go_sem,a0,a1,a2,a3]) rfl ⟨some (m,gg),qb,_,v5,L2,gg::U,p',d1,HF.1,HF.2.1,HF.2.2.1,pk,d2,d3⟩