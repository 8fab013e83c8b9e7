/- B-trees: insert: the walk of one node. -/
import Derived.Test.YtcibkdbpicledaaGreatDoorZBr
set_option maxRecDepth 100000
set_option maxHeartbeats 40000000
namespace Go.Proofs.YtcibkdbpicledaaGreatDoor
open Go.RowKit Tryz Go.BigFrame Go.Maps Go.WideMaps Lf Tr
open Go.Shelf
theorem uU(d:Nat)(rec0:∀d0,d=d0+1->j4 d0):j4 d:=by
 intro w ps S o Z bt bl D t v L x e i h hx gs hid sp spare fb zb zt zv hL g3 gb hkh hvh b';have B0:=((aa w.heap.size w).alloc Ih (.cells #[PV ps,.int .i64 t] 254)).alloc (by simp) (.cells #[.int .u64 e.kh,.int .u64 e.vh] 137) |>.alloc (by simp;omega) (.cells #[.bool false,.int .u64 0,.int .u64 0,.int .u64 0] 406)
 have q0:=((aa w.heap.size w).alloc Ih (.cells #[PV ps,.int .i64 t] 254));have z1:(w.alloc (.cells #[PV ps,.int .i64 t] 254)).heap.size=w.heap.size+1:=by simp
 have z2:((w.alloc (.cells #[PV ps,.int .i64 t] 254)).alloc (.cells #[.int .u64 e.kh,.int .u64 e.vh] 137)).heap.size=w.heap.size+1+1:=by simp
 have q1:=heap_alloc_new w (.cells #[PV ps,.int .i64 t] 254);have q2:=heap_alloc_new (w.alloc (.cells #[PV ps,.int .i64 t] 254)) (.cells #[.int .u64 e.kh,.int .u64 e.vh] 137);have q3:=heap_alloc_new ((w.alloc (.cells #[PV ps,.int .i64 t] 254)).alloc (.cells #[.int .u64 e.kh,.int .u64 e.vh] 137)) (.cells #[.bool false,.int .u64 0,.int .u64 0,.int .u64 0] 406);have b2:=(aa (w.alloc (.cells #[PV ps,.int .i64 t] 254)).heap.size (w.alloc (.cells #[PV ps,.int .i64 t] 254))).alloc Ih (.cells #[.int .u64 e.kh,.int .u64 e.vh] 137);have b3:=(aa ((w.alloc (.cells #[PV ps,.int .i64 t] 254)).alloc (.cells #[.int .u64 e.kh,.int .u64 e.vh] 137)).heap.size ((w.alloc (.cells #[PV ps,.int .i64 t] 254)).alloc (.cells #[.int .u64 e.kh,.int .u64 e.vh] 137))).alloc Ih (.cells #[.bool false,.int .u64 0,.int .u64 0,.int .u64 0] 406);have q1:=(b3.block w.heap.size (by rw[z2];omega)).trans ((b2.block w.heap.size (by rw[z1];omega)).trans q1);rw[z1] at q2;have q2:=(b3.block (w.heap.size+1) (by rw[z2];omega)).trans q2;rw[z2] at q3;clear b2 b3 q0;have hi:=hx.fit.inv;generalize hW:((w.alloc (.cells #[PV ps,.int .i64 t] 254)).alloc (.cells #[.int .u64 e.kh,.int .u64 e.vh] 137)).alloc (.cells #[.bool false,.int .u64 0,.int .u64 0,.int .u64 0] 406)=W0 at*;have hz:w.heap.size+3<=W0.heap.size:=by rw[<-hW];simp
 obtain⟨x0,x1⟩:=Fp q1;have ga:=kI (h.below B0) hi hx.read;unfold FH eC at ga;have HG:=kq2 (kq5 B0 q1 q2 q3 hz) ga;have HI:=If (And.intro h (And.intro hx (And.intro gs (And.intro sp (And.intro spare (And.intro fb (And.intro zb (And.intro zt (And.intro zv (And.intro hL (And.intro g3 (And.intro gb b'))))))))))));clear z1 z2 q1 q2 q3 hz B0 ga h hx gs sp spare fb zb zt zv hL g3 gb b' hi;unfold FH Id nu;go_enter func324,ntmps324;go_wp2_with fail;refine HG.b.mono ?_;rintro en w1 ⟨vk,vv,vc,rfl,rows,hb⟩;obtain⟨Ak,ck,rfl⟩:=rows.k.slice2;obtain⟨Av,cv,rfl⟩:=rows.v.slice2;obtain⟨Ac,cc,rfl⟩:=rows.c.slice2;have hx:=HI.out.2.1;have ao:(Bt.bn x).keys.length=(Bn.es x).length:=by unfold Bt.bn;rw[aq]
 have hf:(Bt.bn x).vals.length=(Bn.es x).length:=by unfold Bt.bn;rw[aq]
 have cn:(Bt.bn x).kids.length=(Bn.ks x).length:=by unfold Bt.bn;rw[aq]
 rw[ao,hf,cn] at rows;rw[ao,hf,cn];obtain⟨i0,i1,rr⟩:=hx.es;have bf:=hx.size;generalize lz:(Bt.bn x).size=sz at*;generalize k4:(Bn.es x).length=lk at*;generalize eo:(Bn.ks x).length=lc at*;have A1:=(aa w1.heap.size w1).alloc Ih (.cells #[.slice Ak lk ck,.slice Av lk cv,.slice Ac lc cc,.int .u64 sz] 286);have p1:=heap_alloc_new w1 (.cells #[.slice Ak lk ck,.slice Av lk cv,.slice Ac lc cc,.int .u64 sz] 286);have d':=rows.below A1;have c5:=hb.size;have cp:w1.heap.size<(w1.alloc (.cells #[.slice Ak lk ck,.slice Av lk cv,.slice Ac lc cc,.int .u64 sz] 286)).heap.size:=by simp
 obtain⟨W1,jk⟩:=Ii (w1.alloc (.cells #[.slice Ak lk ck,.slice Av lk cv,.slice Ac lc cc,.int .u64 sz] 286));rw[jk] at A1 p1 d' cp;have B1:=hb.trans (A1.mono hb.size);have t1:=(B1.block w.heap.size (by have:=HG.a.e;omega)).trans HG.a.b;have t2:=(B1.block (w.heap.size+1) (by have:=HG.a.e;omega)).trans HG.a.c;clear x0 x1;obtain⟨x0,x1⟩:=Fp t1;obtain⟨y0,y1,y2,y3⟩:=Fy p1;have cr:=d'.k.hrow;have g5:=nR (HI.out.1.below (HG.a.a.trans (B1.mono HG.a.a.size))) hx.fit.inv t (es:=Bn.es x) (vk:=.slice Ak lk ck) (vv:=.slice Av lk cv) (vc:=.slice Ac lc cc) (sz:=sz) cr (by omega) i0 i1 e.k;unfold FH eC at g5;have it:=If g5;have H1:=kq11 B1 p1 d' t1 t2 cp k4 lz bf eo c5;clear g5 rows d' hb A1 p1 B1 t1 t2 cr ao hf cn i0 i1 cp bf hx hW c5;have r6:((i:Int)==40)=false:=by simp;omega
 have r7:¬(i:Int)=40:=by omega
 go_wp2_with fail;refine it.out.mono ?_;rintro en w2 ⟨rfl,bm⟩;have p2:=(bm.block w1.heap.size H1.f).trans H1.b;have t2:=(bm.block w.heap.size (by have:=H1.a.size;have:=HG.a.e;omega)).trans H1.d;have u2:=(bm.block (w.heap.size+1) (by have:=H1.a.size;have:=HG.a.e;omega)).trans H1.e;have e5:=H1.c.below bm;clear x0 x1 y0 y1 y2 y3;obtain⟨x0,x1⟩:=Fp t2;obtain⟨y0,y1,y2,y3⟩:=Fy p2;obtain⟨z0,z1⟩:=Fp u2;have ch:=kq5 bm p2 t2 u2 e5;clear bm p2 t2 u2 e5 it jk;obtain⟨k,hk⟩:∃k,Fr e.k (Bn.es x)=k:=⟨_,rfl⟩;obtain⟨he,k0⟩:=Ii (fo e.k (Bn.es x));rw[hk,k0];have a9:k<=lk:=by rw[<-hk,<-H1.g];exact kH _
 have HK:=If hk;clear hk k0;have js:eH w ps Z bt bl D t v w1.heap.size w2 S (fun k=>Z k\/(w.heap.size<=k/\k<w2.heap.size)) v L (.slice Ak lk ck) (.slice Av lk cv) (.slice Ac lc cc) sz (Bt.bn x).keys (Bt.bn x).vals (Bt.bn x).kids:=by
  obtain⟨⟨B0,q1,q2,q3,hz⟩,_⟩:=HG.out;obtain⟨B1,p1,d',t1,ts,cp,k4,lz,bf,eo,c5⟩:=H1.out;obtain⟨bm,p2,t2,u2,e5⟩:=ch.out;obtain⟨h,hx,gs,sp,spare,fb,zb,zt,zv,hL,g3,gb,b'⟩:=HI.out;have s1:=B1.size;have s2:=bm.size;have e8:Below w.heap.size w w2:=B0.trans ((B1.trans (bm.mono s1)).mono (by omega));have zl:=h.yl;have b4:fN w2 (w.heap.size+3) (.slice Ak lk ck) (.slice Av lk cv) (.slice Ac lc cc) (Bt.bn x).keys (Bt.bn x).vals (Bt.bn x).kids:=e5.lift (by omega) fun g _ _=>rfl;refine⟨h.wide e8,fun k hk=>ab hk,zl,⟨zb,zt,zv⟩,(Fo.of_below e8 fun k hk=>zl k hk.1),sp.keeps fun k hk=>e8.block k (zl k ?_),rfl,p2,b4,⟨ae ⟨by omega,by omega⟩,ae ⟨by omega,by omega⟩,ae ⟨by omega,by omega⟩⟩,fun g hg=>ae ?_,t2,(bm.block _ (by omega)).trans ((B1.block _ (by omega)).trans q3),by omega⟩
  ·rcases hk with rfl | rfl | hk
   ·exact zt
   ·exact zb
   ·exact zv _ hk
  ·rcases hg with hg | hg | hg
   ·have:=b4.k.block hg;exact⟨by omega,this.2.1⟩
   ·have:=b4.v.block hg;exact⟨by omega,this.2.1⟩
   ·have:=b4.c.block hg;exact⟨by omega,this.2.1⟩
 have HB:=If js;clear js
 go_upto_if 45 with fail
 go_cut [] from 18 (fun wc=>∃S' Y v' L' U x' vk vv vc,gQ w ps S o Z bt bl D t v L x e w1.heap.size wc S' Y v' L' U x' vk vv vc)
 case first=>
  as_aux_lemma=>
   by_cases hd0:d=0
   ·subst hd0;obtain rfl:lc=0:=by rw[<-H1.j,Bt.nil_of_zero (Bn.ks x)];rfl
    go_wp2_with fail;obtain⟨I,ai,al⟩:=ic fun w'=>w'.heap[w1.heap.size]?=w2.heap[w1.heap.size]?/\w'.heap[w.heap.size+1]?=w2.heap[w.heap.size+1]?;have ap:=fun x:Fq I=>(ai _ x.ok).1.trans ch.b;have ar:=fun x:Fq I=>(ai _ x.ok).2.trans ch.d;obtain⟨m0,m1,m2,m3⟩:=iB ap;obtain⟨n0,n1⟩:=fw ar;have bd:I w2.drew:=al _ ⟨rfl,rfl⟩;have d7:∀(w':World) (u1 u2:Value) (m1 m2:List Nat),fD w2 w' (w.heap.size+3) ps S (fun k=>Z k\/(w.heap.size<=k/\k<w2.heap.size)) (.slice Ak lk ck) (.slice Av lk cv) u1 u2 m1 m2->I w':=fun w' u1 u2 m1 m2 T=>al _ ⟨T.keep.block _ ⟨HB.out.lt,HB.out.ne.1,HB.out.ne.2.1⟩,T.keep.block _ ⟨by have:=HB.out.lt;have:=HB.out.at3;omega,fun q=>by have:=(HB.out.rows.k.block q).1;omega,fun q=>by have:=(HB.out.rows.v.block q).1;omega⟩⟩;have an:=If d7;clear d7;have dv:=If HB.out.two.drew;have HT:Hid (fy<w.heap.size+3):=If (by have:=ns HI.out.1;omega);have HN:Hid ((Bt.bn x).keys.length=lk/\(Bt.bn x).vals.length=lk):=If ⟨by rw[<-H1.g];unfold Bt.bn;rw[aq],by rw[<-H1.g];unfold Bt.bn;rw[aq]⟩;have pb:lk<=31:=by rw[<-H1.g];exact HI.out.2.1.es.2.2
    clear ai al ap ar;refine nG I (fun i=>[15,16,17].contains i) (.take 0 (.take 1 (.take 2 (.take 3 (.take 4 (.take 7 (.take 8 (.take 9 (.take 10 (.take 11 (.two 5 12 (.two 6 12 (.take 14 (.go 12 (.go 13 (.go 15 (.go 16 (.go 17 .nil)))))) (.go 6 (.take 14 (.go 13 (.go 15 (.go 16 (.go 17 .nil))))))) (.go 5 (.go 6 (.take 14 (.go 13 (.go 15 (.go 16 (.go 17 .nil)))))))))))))))))) (by kernel_rfl) (by kernel_rfl) bd ?_
    iterate 10
     refine' qT ?_ ?_;rotate_left
     ·intro x;go_simp
      try rfl
     try simp only[pu]
    have eb:∀c,(w2.drew.alloc c).heap.size=w2.heap.size+1:=fun c=>by simp
    refine m9 ?_ ?_
    ·skip
     refine qD fun K hK=>?_;go_simp;obtain⟨T1,x1,ca,d9,s1,b1⟩:=dv.out.one (e.kh)
     try go_simp
     refine hK.out _ _ (an.out _ _ _ _ _ T1) ?_;clear hK K
     try simp only[pu]
     refine m9 ?_ ?_
     ·skip
      refine qD fun K hK=>?_;go_simp;refine(T1.ins HT.out (by have:=T1.keep.size;have:=HB.out.lt;have:=HB.out.at3;omega) (by rw[HN.out.1];omega) (by rw[HN.out.1];exact a9) x1 ca).mono ?_;rintro en w4 ⟨u1,rfl,T2,o2⟩;obtain⟨A2,m2,c2,rfl⟩:=T2.own1.slice
      try go_simp
      refine hK.out _ _ (an.out _ _ _ _ _ T2) ?_;clear hK K
      try simp only[pu]
      refine' qT ?_ ?_;rotate_left
      ·intro x;go_simp
       try rfl
      try simp only[pu]
      refine qD fun K hK=>?_;go_simp;obtain⟨T3,x3,q9,hu,s3,b3⟩:=T2.one (e.vh)
      try go_simp
      refine hK.out _ _ (an.out _ _ _ _ _ T3) ?_;clear hK K
      try simp only[pu]
      refine qD fun K hK=>?_;go_simp;refine(T3.swap.ins HT.out (by have:=T3.keep.size;have:=HB.out.lt;have:=HB.out.at3;omega) (by rw[HN.out.2];omega) (by rw[HN.out.2];exact a9) x3 hu).mono ?_;rintro en w6 ⟨u2,rfl,T4,o4⟩;obtain⟨A4,m4,c4,rfl⟩:=T4.own1.slice;have T5:=T4.swap
      try go_simp
      refine hK.out _ _ (an.out _ _ _ _ _ T5) ?_;clear hK K
      try simp only[pu]
      obtain⟨g0,g1,g2⟩:=HB.out.grow T5;have f0:w6.frozen? ⟨w1.heap.size,0,none⟩=false:=AT g0;have d0:w6.cell? ⟨w1.heap.size,0,none⟩=some (.slice Ak lk ck):=by rw[Fs g0];rfl
      have f1:(w6.setCell ⟨w1.heap.size,0,none⟩ (.slice A2 m2 c2)).frozen? ⟨w1.heap.size,1,none⟩=false:=AT g1;have d1:(w6.setCell ⟨w1.heap.size,0,none⟩ (.slice A2 m2 c2)).cell? ⟨w1.heap.size,1,none⟩=some (.slice Av lk cv):=by rw[Fs g1];rfl
      have au:=If g2;clear g0 g1 g2;refine qL fun K hK=>?_;go_simp
      try go_simp
      refine hK.out _ _ trivial ?_;clear hK K
      try simp only[pu]
      refine qL fun K hK=>?_;go_simp
      try go_simp
      refine hK.out _ _ trivial ?_;clear hK K
      try simp only[pu]
      refine qL fun K hK=>?_;go_simp
      try go_simp
      refine hK.out _ _ trivial ?_;clear hK K
      try simp only[pu]
      refine jd ?_;go_wp2_with fail
      go_meet
      case rel=>exact⟨S,_,v,L,[],Bt.leafPut x e,_,_,_,rJ HI.out.2.1 HI.out.2.2.1 HI.out.2.2.2.2.2.2.2.2.2.2.2.1 hkh hvh HK.out H1.i.1 au.out⟩
     ·skip
      refine qD fun K hK=>?_;go_simp;obtain⟨T2,x2,bj,cb,s2,b2⟩:=T1.one (e.vh);rw[eb] at x2 bj cb s2;have cx:=(b2.block _ s1).trans x1
      try go_simp
      refine hK.out _ _ (an.out _ _ _ _ _ T2) ?_;clear hK K
      try simp only[pu]
      refine qD fun K hK=>?_;go_simp;refine(T2.ins HT.out (by have:=T2.keep.size;have:=HB.out.lt;have:=HB.out.at3;omega) (by rw[HN.out.1];omega) (by rw[HN.out.1];exact a9) cx ca).mono ?_;rintro en w5 ⟨u1,rfl,T3,o3⟩;have h9:=(o3 _ s2 bj).trans x2;obtain⟨A2,m2,c2,rfl⟩:=T3.own1.slice
      try go_simp
      refine hK.out _ _ (an.out _ _ _ _ _ T3) ?_;clear hK K
      try simp only[pu]
      refine' qT ?_ ?_;rotate_left
      ·intro x;go_simp
       try rfl
      try simp only[pu]
      refine qD fun K hK=>?_;go_simp;refine(T3.swap.ins HT.out (by have:=T3.keep.size;have:=HB.out.lt;have:=HB.out.at3;omega) (by rw[HN.out.2];omega) (by rw[HN.out.2];exact a9) h9 cb).mono ?_;rintro en w6 ⟨u2,rfl,T4,o4⟩;obtain⟨A4,m4,c4,rfl⟩:=T4.own1.slice;have T5:=T4.swap
      try go_simp
      refine hK.out _ _ (an.out _ _ _ _ _ T5) ?_;clear hK K
      try simp only[pu]
      obtain⟨g0,g1,g2⟩:=HB.out.grow T5;have f0:w6.frozen? ⟨w1.heap.size,0,none⟩=false:=AT g0;have d0:w6.cell? ⟨w1.heap.size,0,none⟩=some (.slice Ak lk ck):=by rw[Fs g0];rfl
      have f1:(w6.setCell ⟨w1.heap.size,0,none⟩ (.slice A2 m2 c2)).frozen? ⟨w1.heap.size,1,none⟩=false:=AT g1;have d1:(w6.setCell ⟨w1.heap.size,0,none⟩ (.slice A2 m2 c2)).cell? ⟨w1.heap.size,1,none⟩=some (.slice Av lk cv):=by rw[Fs g1];rfl
      have au:=If g2;clear g0 g1 g2;refine qL fun K hK=>?_;go_simp
      try go_simp
      refine hK.out _ _ trivial ?_;clear hK K
      try simp only[pu]
      refine qL fun K hK=>?_;go_simp
      try go_simp
      refine hK.out _ _ trivial ?_;clear hK K
      try simp only[pu]
      refine qL fun K hK=>?_;go_simp
      try go_simp
      refine hK.out _ _ trivial ?_;clear hK K
      try simp only[pu]
      refine jd ?_;go_wp2_with fail
      go_meet
      case rel=>exact⟨S,_,v,L,[],Bt.leafPut x e,_,_,_,rJ HI.out.2.1 HI.out.2.2.1 HI.out.2.2.2.2.2.2.2.2.2.2.2.1 hkh hvh HK.out H1.i.1 au.out⟩
    ·skip
     refine qD fun K hK=>?_;go_simp;obtain⟨T1,x1,ca,d9,s1,b1⟩:=dv.out.one (e.vh)
     try go_simp
     refine hK.out _ _ (an.out _ _ _ _ _ T1) ?_;clear hK K
     try simp only[pu]
     refine qD fun K hK=>?_;go_simp;obtain⟨T2,x2,bj,cb,s2,b2⟩:=T1.one (e.kh);rw[eb] at x2 bj cb;have cx:=(b2.block _ s1).trans x1
     try go_simp
     refine hK.out _ _ (an.out _ _ _ _ _ T2) ?_;clear hK K
     try simp only[pu]
     refine qD fun K hK=>?_;go_simp;refine(T2.ins HT.out (by have:=T2.keep.size;have:=HB.out.lt;have:=HB.out.at3;omega) (by rw[HN.out.1];omega) (by rw[HN.out.1];exact a9) x2 bj).mono ?_;rintro en w5 ⟨u1,rfl,T3,o3⟩;have hw:=(o3 _ (Nat.lt_trans s1 s2) ca).trans cx;obtain⟨A2,m2,c2,rfl⟩:=T3.own1.slice
     try go_simp
     refine hK.out _ _ (an.out _ _ _ _ _ T3) ?_;clear hK K
     try simp only[pu]
     refine' qT ?_ ?_;rotate_left
     ·intro x;go_simp
      try rfl
     try simp only[pu]
     refine qD fun K hK=>?_;go_simp;refine(T3.swap.ins HT.out (by have:=T3.keep.size;have:=HB.out.lt;have:=HB.out.at3;omega) (by rw[HN.out.2];omega) (by rw[HN.out.2];exact a9) hw d9).mono ?_;rintro en w6 ⟨u2,rfl,T4,o4⟩;obtain⟨A4,m4,c4,rfl⟩:=T4.own1.slice;have T5:=T4.swap
     try go_simp
     refine hK.out _ _ (an.out _ _ _ _ _ T5) ?_;clear hK K
     try simp only[pu]
     obtain⟨g0,g1,g2⟩:=HB.out.grow T5;have f0:w6.frozen? ⟨w1.heap.size,0,none⟩=false:=AT g0;have d0:w6.cell? ⟨w1.heap.size,0,none⟩=some (.slice Ak lk ck):=by rw[Fs g0];rfl
     have f1:(w6.setCell ⟨w1.heap.size,0,none⟩ (.slice A2 m2 c2)).frozen? ⟨w1.heap.size,1,none⟩=false:=AT g1;have d1:(w6.setCell ⟨w1.heap.size,0,none⟩ (.slice A2 m2 c2)).cell? ⟨w1.heap.size,1,none⟩=some (.slice Av lk cv):=by rw[Fs g1];rfl
     have au:=If g2;clear g0 g1 g2;refine qL fun K hK=>?_;go_simp
     try go_simp
     refine hK.out _ _ trivial ?_;clear hK K
     try simp only[pu]
     refine qL fun K hK=>?_;go_simp
     try go_simp
     refine hK.out _ _ trivial ?_;clear hK K
     try simp only[pu]
     refine qL fun K hK=>?_;go_simp
     try go_simp
     refine hK.out _ _ trivial ?_;clear hK K
     try simp only[pu]
     refine jd ?_;go_wp2_with fail
     go_meet
     case rel=>exact⟨S,_,v,L,[],Bt.leafPut x e,_,_,_,rJ HI.out.2.1 HI.out.2.2.1 HI.out.2.2.2.2.2.2.2.2.2.2.2.1 hkh hvh HK.out H1.i.1 au.out⟩
   ·obtain⟨d,rfl⟩:∃d0,d=d0+1:=⟨d-1,by omega⟩;have pk:j4 d:=rec0 d rfl;have eo:lc=lk+1:=by rw[<-H1.j,<-H1.g];exact HI.out.2.1.ok.kids
    have r':((lc:Int)==0)=false:=by simp;omega
    have sa:¬(lc:Int)=0:=by omega
    have ao:=HI.out.2.1.kid_lt HK.out;have d6:=fun(Y1:Nat->Prop) (W:World) Hd=>BG (Y1:=Y1) (wc:=W) (ps:=ps) (Z:=Z) (bt:=bt) (bl:=bl) (D:=D) (v:=v) (bN:=w1.heap.size) (w:=w) (vk:=.slice Ak lk ck) (vv:=.slice Av lk cv) (vc:=.slice Ac lc cc) (sz:=sz) (ks:=(Bt.bn x).keys) (vs:=(Bt.bn x).vals) (cs:=(Bt.bn x).kids) pk HI.out.2.1 HI.out.2.2.1 hid HI.out.2.2.2.2.1 HI.out.2.2.2.2.2.1 HI.out.2.2.2.2.2.2.2.2.2.1 HI.out.2.2.2.2.2.2.2.2.2.2.1 HI.out.2.2.2.2.2.2.2.2.2.2.2.1 hkh hvh HI.out.2.2.2.2.2.2.2.2.2.2.2.2 HK.out ao Hd;obtain⟨y,hy⟩:=Ii ((Bn.ks x)[k]);rw[hy] at d6;have eg:=FD.at (f:=Bt.hd) (l:=Bn.ks x) (k:=k) HB.out.rows.c.hrow (af ao);rw[hy] at eg;obtain⟨gc,oc,rfl,c6⟩:=eg;have kd:=HB.out.rows.c.block (g:=gc) rfl;have kj:w.heap.size<=gc/\gc<w2.heap.size:=⟨by omega,kd.2.1⟩;clear kd;obtain⟨hh,bo⟩:=Ii (Bt.hd y);rw[bo] at d6 c6;have r9:(k:Int)<lc:=by have:=H1.j;omega
    unfold FH Id nu at d6;have HC:=If d6;have HY:=kq2 hy bo;clear d6 hy bo eo
    go_upto_region 7 with fail
    go_cut [17] from 18 (fun s17 wc=>∃b,s17=.pointer (some ⟨b,0,none⟩)/\Hid (∃r S4 Y4 v4 L4 U,jp w ps S o Z bt bl D t v L y e w1.heap.size (.slice Ak lk ck) (.slice Av lk cv) (.slice (some ⟨gc,oc,none⟩) lc cc) sz (Bt.bn x).keys (Bt.bn x).vals (Bt.bn x).kids b wc r S4 Y4 v4 L4 U))
    case first=>
     as_aux_lemma=>
      obtain⟨I,ai,al⟩:=ic fun w'=>∀k,w.heap.size<=k->k<w2.heap.size->w'.heap[k]?=w2.heap[k]?;have k5:=HB.out.lt;have h3:=HB.out.at3;have mv:=fun x:Fq I=>(ai _ x.ok w.heap.size (by omega) (by omega)).trans ch.c;have ap:=fun x:Fq I=>(ai _ x.ok w1.heap.size (by omega) (by omega)).trans ch.b;have ar:=fun x:Fq I=>(ai _ x.ok (w.heap.size+1) (by omega) (by omega)).trans ch.d;obtain⟨p0,p1⟩:=fw mv;obtain⟨m0,m1,m2,m3⟩:=iB ap;obtain⟨n0,n1⟩:=fw ar;have o0:∀x:Fq I,x.to.cell? ⟨gc,oc+k,none⟩=some (.int .u64 hh):=fun x=>(j9 (ai _ x.ok gc kj.1 kj.2)).trans c6;have bd:I w2.drew:=al _ fun _ _ _=>rfl;have ba:=If al;have td:IntKind.i64.wrap ((i:Int)+1)=(i:Int)+1:=aD _ (by omega);have rv:bl<w.heap.size:=HB.out.zl bl HB.out.zs.1;clear ai al mv ap ar k5 h3;refine nG I (fun i=>[13].contains i) (.take 0 (.take 1 (.take 2 (.take 3 (.take 4 (.take 5 (.take 6 (.take 7 (.take 8 (.take 9 (.take 10 (.two 11 12 (.go 12 (.go 13 .nil)) (.go 11 (.go 13 .nil)))))))))))))) (by kernel_rfl) (by kernel_rfl) bd ?_
      iterate 11
       refine' qT ?_ ?_;rotate_left
       ·intro x;go_simp
        try rfl
       try simp only[pu]
      refine m9 ?_ ?_
      ·skip
       refine qD fun K hK=>?_;go_simp;refine(HC.out _ _ (HB.out.below (aa _ w2).drew)).mono ?_;rintro en w4 ⟨r,S4,v4,L4,U,rfl,h4⟩;have H4:=If h4;clear h4;have ha:=H4.out.2.2.2.2.2.size;have d5:∀k,w.heap.size<=k->k<w2.heap.size->w4.heap[k]?=w2.heap[k]?:=fun k h1 h2=>H4.out.2.2.2.2.2.block k ⟨ab (ae ⟨h1,h2⟩),by omega⟩;have cj:=If d5;clear d5
       rcases r with _ | ⟨m,g⟩
       ·dsimp only[ky,iQ]
        try go_simp
        refine hK.out _ _ (ba.out _ cj.out) ?_;clear hK K
        try simp only[pu]
        refine qD fun K hK=>?_;go_simp
        try go_simp
        refine hK.out _ _ (ba.out _ fun k h1 h2=>((aa _ w4).alloc Ih _ |>.block k (bD h2 ha)).trans (cj.out k h1 h2)) ?_;clear hK K
        try simp only[pu]
        refine qL fun K hK=>?_;go_simp
        try go_simp
        refine hK.out _ _ trivial ?_;clear hK K
        try simp only[pu]
        refine jd ?_;go_wp2_with fail
        go_meet
        case rel=>exact⟨_,rfl,If ⟨_,_,_,_,_,_,jp.new H4.out⟩⟩
       ·dsimp only[ky,iQ]
        try go_simp
        refine hK.out _ _ (ba.out _ cj.out) ?_;clear hK K
        try simp only[pu]
        refine qD fun K hK=>?_;go_simp
        try go_simp
        refine hK.out _ _ (ba.out _ fun k h1 h2=>((aa _ w4).alloc Ih _ |>.block k (bD h2 ha)).trans (cj.out k h1 h2)) ?_;clear hK K
        try simp only[pu]
        refine qL fun K hK=>?_;go_simp
        try go_simp
        refine hK.out _ _ trivial ?_;clear hK K
        try simp only[pu]
        refine jd ?_;go_wp2_with fail
        go_meet
        case rel=>exact⟨_,rfl,If ⟨_,_,_,_,_,_,jp.new H4.out⟩⟩
      ·skip
       refine qD fun K hK=>?_;go_simp;have b3:=((aa w2.heap.size w2).drew).alloc Ih (.cells #[.bool false,.int .u64 0,.int .u64 0,.int .u64 0] 406)
       try go_simp
       refine hK.out _ _ (ba.out _ fun k h1 h2=>b3.block k h2) ?_;clear hK K
       try simp only[pu]
       refine qD fun K hK=>?_;go_simp;refine(HC.out _ _ (HB.out.below b3)).mono ?_;rintro en w4 ⟨r,S4,v4,L4,U,rfl,h4⟩;have H4:=If h4;clear h4;have ha:=H4.out.2.2.2.2.2.size;have d5:∀k,w.heap.size<=k->k<w2.heap.size->w4.heap[k]?=w2.heap[k]?:=fun k h1 h2=>(H4.out.2.2.2.2.2.block k ⟨ab (ae ⟨h1,h2⟩),by omega⟩).trans (b3.block k h2);have e4:w4.heap[w2.heap.size]?=some (.cells #[.bool false,.int .u64 0,.int .u64 0,.int .u64 0] 406 (0,0)):=(H4.out.2.2.2.2.2.block w2.heap.size ⟨ae ⟨Nat.le_refl _,by simp⟩,by have:=HB.out.lt;have:=HB.out.at3;omega⟩).trans (heap_alloc_new w2.drew _);have cj:=If d5;clear d5;obtain⟨x0,x1,x2,x3⟩:=Fy e4;obtain⟨f0,f1,f2,f3⟩:=fO e4;have h':=If e4;clear e4
       rcases r with _ | ⟨m,g⟩
       ·dsimp only[ky,iQ]
        try go_simp
        refine hK.out _ _ (ba.out _ cj.out) ?_;clear hK K
        try simp only[pu]
        refine qL fun K hK=>?_;go_simp
        try go_simp
        refine hK.out _ _ trivial ?_;clear hK K
        try simp only[pu]
        refine jd ?_;go_wp2_with fail
        go_meet
        case rel=>exact⟨_,rfl,If ⟨_,_,_,_,_,_,jp.set H4.out (ae ⟨Nat.le_refl _,by simp⟩) (by have:=HB.out.lt;have:=HB.out.at3;omega) h'.out rfl⟩⟩
       ·dsimp only[ky,iQ]
        try go_simp
        refine hK.out _ _ (ba.out _ cj.out) ?_;clear hK K
        try simp only[pu]
        refine qL fun K hK=>?_;go_simp
        try go_simp
        refine hK.out _ _ trivial ?_;clear hK K
        try simp only[pu]
        refine jd ?_;go_wp2_with fail
        go_meet
        case rel=>exact⟨_,rfl,If ⟨_,_,_,_,_,_,jp.set H4.out (ae ⟨Nat.le_refl _,by simp⟩) (by have:=HB.out.lt;have:=HB.out.at3;omega) h'.out rfl⟩⟩
    case rest=>
     obtain⟨b,rfl,HU⟩:=hcut;obtain⟨r,S4,Y4,v4,L4,U,U1⟩:=HU.out;clear HU ch HC x0 x1 y0 y1 y2 y3 z0 z1 c6
     rcases r with _ | ⟨m,g⟩
     ·have up:=U1.up;unfold iQ at up
      dsimp only at up
      obtain⟨x0,x1,x2,x3⟩:=Fy up;have ad:=If U1;clear up U1;go_wp2_with fail
      go_meet
      case rel=>
       obtain⟨hy,bo⟩:=HY.out;have U1:=ad.out;subst hy;obtain⟨x',M⟩:=Db HI.out.2.1 HI.out.2.2.1 HI.out.2.2.2.2.2.2.2.2.2.2.2.1 hkh hvh HI.out.2.2.2.2.2.1 HK.out ao H1.i.1 U1.sum U1.put U1.num U1.all U1.held;exact⟨_,_,_,_,_,x',_,_,_,M⟩
     ·have up:=U1.up;unfold iQ at up
      dsimp only at up
      obtain⟨x0,x1,x2,x3⟩:=Fy up;have iu:=If up;have ad:=If U1;clear up U1
      go_upto_region 9 with fail
      go_cut [] from 18 (fun wd=>Hid (wd.heap[b]?=some (.cells #[.bool true,.int .u64 m.kh,.int .u64 m.vh,.int .u64 g] 406 (0,0))/\∃Y5 A2 m2 c2 A4 m4 c4,eH w ps Z bt bl D t v w1.heap.size wd S4 Y5 v4 L4 (.slice A2 m2 c2) (.slice A4 m4 c4) (.slice (some ⟨gc,oc,none⟩) lc cc) sz ((Bt.bn x).keys.take k++m.kh::(Bt.bn x).keys.drop k) ((Bt.bn x).vals.take k++m.vh::(Bt.bn x).vals.drop k) (Bt.bn x).kids))
      case first=>
       as_aux_lemma=>
        obtain⟨I,ai,al⟩:=ic fun w'=>w'.heap[w1.heap.size]?=wc.heap[w1.heap.size]?/\w'.heap[b]?=wc.heap[b]?;have ap:=fun x:Fq I=>(ai _ x.ok).1.trans ad.out.held.box;have ar:=fun x:Fq I=>(ai _ x.ok).2.trans iu.out;obtain⟨m0,m1,m2,m3⟩:=iB ap;obtain⟨n0,n1,n2,n3⟩:=iB ar;have bd:I wc.drew:=al _ ⟨rfl,rfl⟩;have d7:∀(w':World) (u1 u2:Value) (l1 l2:List Nat),fD wc w' (w.heap.size+3) ps S4 Y4 (.slice Ak lk ck) (.slice Av lk cv) u1 u2 l1 l2->I w':=fun w' u1 u2 l1 l2 T=>al _ ⟨T.keep.block _ ⟨ad.out.held.lt,ad.out.held.ne.1,ad.out.held.ne.2.1⟩,T.keep.block _ ⟨ad.out.ne.1,ad.out.ne.2.1,ad.out.ne.2.2.1⟩⟩;have an:=If d7;have e7:Hid (∀(w':World) (u1 u2:Value) (l1 l2:List Nat),fD wc w' (w.heap.size+3) ps S4 Y4 (.slice Ak lk ck) (.slice Av lk cv) u1 u2 l1 l2->∀z1 z2,((w'.setCell ⟨w1.heap.size,0,none⟩ z1).setCell ⟨w1.heap.size,1,none⟩ z2).heap[b]?=some (.cells #[.bool true,.int .u64 m.kh,.int .u64 m.vh,.int .u64 g] 406 (0,0))):=If fun w' u1 u2 l1 l2 T z1 z2=>((FB ad.out.ne.2.2.2.2).trans (FB ad.out.ne.2.2.2.2)).trans ((T.keep.block _ ⟨ad.out.ne.1,ad.out.ne.2.1,ad.out.ne.2.2.1⟩).trans iu.out);have dv:=If ad.out.held.two.drew;have HT:Hid (fy<w.heap.size+3):=If (by have:=ns HI.out.1;omega);have HN:Hid ((Bt.bn x).keys.length=lk/\(Bt.bn x).vals.length=lk):=If ⟨by rw[<-H1.g];unfold Bt.bn;rw[aq],by rw[<-H1.g];unfold Bt.bn;rw[aq]⟩;have pb:lk<=31:=by rw[<-H1.g];exact HI.out.2.1.es.2.2
        clear ai al ap ar d7;refine nG I (fun i=>[17,18,19].contains i) (.take 0 (.take 1 (.take 2 (.take 3 (.take 4 (.take 5 (.take 8 (.take 9 (.take 10 (.take 11 (.take 12 (.take 13 (.two 6 14 (.two 7 14 (.take 16 (.go 14 (.go 15 (.go 17 (.go 18 (.go 19 .nil)))))) (.go 7 (.take 16 (.go 15 (.go 17 (.go 18 (.go 19 .nil))))))) (.go 6 (.go 7 (.take 16 (.go 15 (.go 17 (.go 18 (.go 19 .nil)))))))))))))))))))) (by kernel_rfl) (by kernel_rfl) bd ?_
        iterate 12
         refine' qT ?_ ?_;rotate_left
         ·intro x;go_simp
          try rfl
         try simp only[pu]
        have eb:∀c,(wc.drew.alloc c).heap.size=wc.heap.size+1:=fun c=>by simp
        refine m9 ?_ ?_
        ·skip
         refine qD fun K hK=>?_;go_simp;obtain⟨T1,x1,ca,d9,s1,b1⟩:=dv.out.one (m.kh)
         try go_simp
         refine hK.out _ _ (an.out _ _ _ _ _ T1) ?_;clear hK K
         try simp only[pu]
         refine m9 ?_ ?_
         ·skip
          refine qD fun K hK=>?_;go_simp;refine(T1.ins HT.out (by have:=T1.keep.size;have:=ad.out.held.lt;have:=ad.out.held.at3;omega) (by rw[HN.out.1];omega) (by rw[HN.out.1];exact a9) x1 ca).mono ?_;rintro en w4 ⟨u1,rfl,T2,o2⟩;obtain⟨A2,m2,c2,rfl⟩:=T2.own1.slice
          try go_simp
          refine hK.out _ _ (an.out _ _ _ _ _ T2) ?_;clear hK K
          try simp only[pu]
          refine' qT ?_ ?_;rotate_left
          ·intro x;go_simp
           try rfl
          try simp only[pu]
          refine qD fun K hK=>?_;go_simp;obtain⟨T3,x3,q9,hu,s3,b3⟩:=T2.one (m.vh)
          try go_simp
          refine hK.out _ _ (an.out _ _ _ _ _ T3) ?_;clear hK K
          try simp only[pu]
          refine qD fun K hK=>?_;go_simp;refine(T3.swap.ins HT.out (by have:=T3.keep.size;have:=ad.out.held.lt;have:=ad.out.held.at3;omega) (by rw[HN.out.2];omega) (by rw[HN.out.2];exact a9) x3 hu).mono ?_;rintro en w6 ⟨u2,rfl,T4,o4⟩;obtain⟨A4,m4,c4,rfl⟩:=T4.own1.slice;have T5:=T4.swap
          try go_simp
          refine hK.out _ _ (an.out _ _ _ _ _ T5) ?_;clear hK K
          try simp only[pu]
          obtain⟨g0,g1,g2⟩:=ad.out.held.grow T5;have f0:w6.frozen? ⟨w1.heap.size,0,none⟩=false:=AT g0;have d0:w6.cell? ⟨w1.heap.size,0,none⟩=some (.slice Ak lk ck):=by rw[Fs g0];rfl
          have f1:(w6.setCell ⟨w1.heap.size,0,none⟩ (.slice A2 m2 c2)).frozen? ⟨w1.heap.size,1,none⟩=false:=AT g1;have d1:(w6.setCell ⟨w1.heap.size,0,none⟩ (.slice A2 m2 c2)).cell? ⟨w1.heap.size,1,none⟩=some (.slice Av lk cv):=by rw[Fs g1];rfl
          have au:=If g2;have d4:=If (e7.out _ _ _ _ _ T5 (.slice A2 m2 c2) (.slice A4 m4 c4));clear g0 g1 g2;refine qL fun K hK=>?_;go_simp
          try go_simp
          refine hK.out _ _ trivial ?_;clear hK K
          try simp only[pu]
          refine qL fun K hK=>?_;go_simp
          try go_simp
          refine hK.out _ _ trivial ?_;clear hK K
          try simp only[pu]
          refine qL fun K hK=>?_;go_simp
          try go_simp
          refine hK.out _ _ trivial ?_;clear hK K
          try simp only[pu]
          refine jd ?_;go_wp2_with fail
          go_meet
          case rel=>exact If ⟨d4.out,_,A2,m2,c2,A4,m4,c4,au.out⟩
         ·skip
          refine qD fun K hK=>?_;go_simp;obtain⟨T2,x2,bj,cb,s2,b2⟩:=T1.one (m.vh);rw[eb] at x2 bj cb s2;have cx:=(b2.block _ s1).trans x1
          try go_simp
          refine hK.out _ _ (an.out _ _ _ _ _ T2) ?_;clear hK K
          try simp only[pu]
          refine qD fun K hK=>?_;go_simp;refine(T2.ins HT.out (by have:=T2.keep.size;have:=ad.out.held.lt;have:=ad.out.held.at3;omega) (by rw[HN.out.1];omega) (by rw[HN.out.1];exact a9) cx ca).mono ?_;rintro en w5 ⟨u1,rfl,T3,o3⟩;have h9:=(o3 _ s2 bj).trans x2;obtain⟨A2,m2,c2,rfl⟩:=T3.own1.slice
          try go_simp
          refine hK.out _ _ (an.out _ _ _ _ _ T3) ?_;clear hK K
          try simp only[pu]
          refine' qT ?_ ?_;rotate_left
          ·intro x;go_simp
           try rfl
          try simp only[pu]
          refine qD fun K hK=>?_;go_simp;refine(T3.swap.ins HT.out (by have:=T3.keep.size;have:=ad.out.held.lt;have:=ad.out.held.at3;omega) (by rw[HN.out.2];omega) (by rw[HN.out.2];exact a9) h9 cb).mono ?_;rintro en w6 ⟨u2,rfl,T4,o4⟩;obtain⟨A4,m4,c4,rfl⟩:=T4.own1.slice;have T5:=T4.swap
          try go_simp
          refine hK.out _ _ (an.out _ _ _ _ _ T5) ?_;clear hK K
          try simp only[pu]
          obtain⟨g0,g1,g2⟩:=ad.out.held.grow T5;have f0:w6.frozen? ⟨w1.heap.size,0,none⟩=false:=AT g0;have d0:w6.cell? ⟨w1.heap.size,0,none⟩=some (.slice Ak lk ck):=by rw[Fs g0];rfl
          have f1:(w6.setCell ⟨w1.heap.size,0,none⟩ (.slice A2 m2 c2)).frozen? ⟨w1.heap.size,1,none⟩=false:=AT g1;have d1:(w6.setCell ⟨w1.heap.size,0,none⟩ (.slice A2 m2 c2)).cell? ⟨w1.heap.size,1,none⟩=some (.slice Av lk cv):=by rw[Fs g1];rfl
          have au:=If g2;have d4:=If (e7.out _ _ _ _ _ T5 (.slice A2 m2 c2) (.slice A4 m4 c4));clear g0 g1 g2;refine qL fun K hK=>?_;go_simp
          try go_simp
          refine hK.out _ _ trivial ?_;clear hK K
          try simp only[pu]
          refine qL fun K hK=>?_;go_simp
          try go_simp
          refine hK.out _ _ trivial ?_;clear hK K
          try simp only[pu]
          refine qL fun K hK=>?_;go_simp
          try go_simp
          refine hK.out _ _ trivial ?_;clear hK K
          try simp only[pu]
          refine jd ?_;go_wp2_with fail
          go_meet
          case rel=>exact If ⟨d4.out,_,A2,m2,c2,A4,m4,c4,au.out⟩
        ·skip
         refine qD fun K hK=>?_;go_simp;obtain⟨T1,x1,ca,d9,s1,b1⟩:=dv.out.one (m.vh)
         try go_simp
         refine hK.out _ _ (an.out _ _ _ _ _ T1) ?_;clear hK K
         try simp only[pu]
         refine qD fun K hK=>?_;go_simp;obtain⟨T2,x2,bj,cb,s2,b2⟩:=T1.one (m.kh);rw[eb] at x2 bj cb;have cx:=(b2.block _ s1).trans x1
         try go_simp
         refine hK.out _ _ (an.out _ _ _ _ _ T2) ?_;clear hK K
         try simp only[pu]
         refine qD fun K hK=>?_;go_simp;refine(T2.ins HT.out (by have:=T2.keep.size;have:=ad.out.held.lt;have:=ad.out.held.at3;omega) (by rw[HN.out.1];omega) (by rw[HN.out.1];exact a9) x2 bj).mono ?_;rintro en w5 ⟨u1,rfl,T3,o3⟩;have hw:=(o3 _ (Nat.lt_trans s1 s2) ca).trans cx;obtain⟨A2,m2,c2,rfl⟩:=T3.own1.slice
         try go_simp
         refine hK.out _ _ (an.out _ _ _ _ _ T3) ?_;clear hK K
         try simp only[pu]
         refine' qT ?_ ?_;rotate_left
         ·intro x;go_simp
          try rfl
         try simp only[pu]
         refine qD fun K hK=>?_;go_simp;refine(T3.swap.ins HT.out (by have:=T3.keep.size;have:=ad.out.held.lt;have:=ad.out.held.at3;omega) (by rw[HN.out.2];omega) (by rw[HN.out.2];exact a9) hw d9).mono ?_;rintro en w6 ⟨u2,rfl,T4,o4⟩;obtain⟨A4,m4,c4,rfl⟩:=T4.own1.slice;have T5:=T4.swap
         try go_simp
         refine hK.out _ _ (an.out _ _ _ _ _ T5) ?_;clear hK K
         try simp only[pu]
         obtain⟨g0,g1,g2⟩:=ad.out.held.grow T5;have f0:w6.frozen? ⟨w1.heap.size,0,none⟩=false:=AT g0;have d0:w6.cell? ⟨w1.heap.size,0,none⟩=some (.slice Ak lk ck):=by rw[Fs g0];rfl
         have f1:(w6.setCell ⟨w1.heap.size,0,none⟩ (.slice A2 m2 c2)).frozen? ⟨w1.heap.size,1,none⟩=false:=AT g1;have d1:(w6.setCell ⟨w1.heap.size,0,none⟩ (.slice A2 m2 c2)).cell? ⟨w1.heap.size,1,none⟩=some (.slice Av lk cv):=by rw[Fs g1];rfl
         have au:=If g2;have d4:=If (e7.out _ _ _ _ _ T5 (.slice A2 m2 c2) (.slice A4 m4 c4));clear g0 g1 g2;refine qL fun K hK=>?_;go_simp
         try go_simp
         refine hK.out _ _ trivial ?_;clear hK K
         try simp only[pu]
         refine qL fun K hK=>?_;go_simp
         try go_simp
         refine hK.out _ _ trivial ?_;clear hK K
         try simp only[pu]
         refine qL fun K hK=>?_;go_simp
         try go_simp
         refine hK.out _ _ trivial ?_;clear hK K
         try simp only[pu]
         refine jd ?_;go_wp2_with fail
         go_meet
         case rel=>exact If ⟨d4.out,_,A2,m2,c2,A4,m4,c4,au.out⟩
      case rest=>
       obtain⟨up,Y5,A2,m2,c2,A4,m4,c4,H5⟩:=hcut.out;clear hcut x0 x1 x2 x3;have i2:=H5.box;obtain⟨x0,x1,x2,x3⟩:=Fy up;obtain⟨y0,y1,y2,y3⟩:=Fy i2;have b6:=(aa _ wc).alloc Ih (.cells #[.int .u64 g] 83);have H6:=H5.below b6;have x6:=heap_alloc_new wc (.cells #[.int .u64 g] 83);have n6:(Value.slice (some ⟨gc,oc,none⟩) lc cc).ownBlock≠some wc.heap.size:=fun q=>by have:=(H5.rows.c.block q).2.1;omega
       have o9:(Bt.bn x).kids.length=lc:=by rw[<-H1.j];unfold Bt.bn;rw[aq]
       have pa:lc<=32:=by
        have h1:=HI.out.2.1.es.2.2;have h2:=HI.out.2.1.ok.kids;have h3:=H1.j;omega
       have cn:=uT H6.st H6.rows.c (fun g hg=>H6.yk g (ae (ae hg))) (by have:=ns HI.out.1;omega) (by omega) (i:=k+1) (by omega) x6 n6 (by have:=H6.lt;have:=H6.at3;omega);have e1:((k+1:Nat):Int)=(k:Int)+1:=by omega
       rw[e1] at cn;have tk:IntKind.i64.wrap ((k:Int)+1)=(k:Int)+1:=aD _ (by omega);have n7:=If cn;have nx:=If H6;have ra:=If up;clear cn H6 H5 i2 up x6 n6 o9 pa e1 b6;go_wp2_with fail;refine n7.out.mono ?_;rintro en w7 ⟨u3,rfl,I7⟩;obtain⟨A7,m7,c7,rfl⟩:=I7.own.slice;obtain⟨g0,g2⟩:=nx.out.grow3 I7;have f2:w7.frozen? ⟨w1.heap.size,2,none⟩=false:=AT g0;have d2:w7.cell? ⟨w1.heap.size,2,none⟩=some (.slice (some ⟨gc,oc,none⟩) lc cc):=by rw[Fs g0];rfl
       have au:=If g2;clear g0 g2 I7 x0 x1 x2 x3 y0 y1 y2 y3;go_wp2_with fail
       go_meet
       case rel=>
        obtain⟨hy,bo⟩:=HY.out;have U1:=ad.out;subst hy;obtain⟨x',M⟩:=Dc HI.out.2.1 HI.out.2.2.1 HI.out.2.2.2.2.2.2.2.2.2.2.2.1 hkh hvh HI.out.2.2.2.2.2.1 HK.out ao H1.i.1 U1.sum U1.put U1.num U1.all au.out;exact⟨_,_,_,_,_,x',_,_,_,M⟩
 case rest=>
  obtain⟨S',Y,v',L',U,x',vk,vv,vc,M⟩:=hcut;have hp:=M.putting;have cr:=M.held.rows;obtain⟨K1,k1,i6⟩:=cr.k.slice2;obtain⟨V1,l1,jc⟩:=cr.v.slice2;obtain⟨C1,j1,i3⟩:=cr.c.slice2;rw[hp.2.2.2.2.1] at i6;rw[hp.2.2.2.2.2.1] at jc;rw[hp.2.2.2.2.2.2] at i3;subst i6 jc i3;obtain⟨sz,b8⟩:=Ii (Bt.its x).length;obtain⟨n,hn⟩:=Ii (Bn.es x').length;obtain⟨c,hc⟩:=Ii (Bn.ks x').length;have Hd:=M.held;rw[b8,hn,hc] at Hd;have hb:=Hd.box;have b':=Hd.tree;have s9:sz<1000000:=by rw[<-b8];exact HI.out.2.1.few
  have sd:n<=2*t:=by rw[<-hn];exact M.mid.okN.1
  have cu:=HI.out.2.1.t2;have b9:=HI.out.2.1.t1;clear x0 x1 y0 y1 y2 y3 z0 z1;obtain⟨x0,x1⟩:=Fp b';obtain⟨y0,y1,y2,y3⟩:=Fy hb;obtain⟨f0,f1,f2,f3⟩:=fO hb;have mc:IntKind.u64.wrap ((sz:Int)+1)=(sz:Int)+1:=cQ _ (by omega);have HM:=kq4 M b8 hn hc;have HD:=If Hd;clear M Hd hp cr b8 hn hc hb b'
  go_upto_region 11 with fail
  go_cut [] from 18 (fun wd=>Hid (eH w ps Z bt bl D t v w1.heap.size wd S' Y v' L' (.slice K1 n k1) (.slice V1 n l1) (.slice C1 c j1) (sz+1) (Bt.bn x').keys (Bt.bn x').vals (Bt.bn x').kids))
  case first=>
   as_aux_lemma=>
    go_wp2_with fail
    go_meet
    case rel=>
     have h:=HD.out.size (sz+1);have e1:((sz+1:Nat):Int)=(sz:Int)+1:=by omega
     rw[e1] at h;exact If h
  case rest=>
   have hb:=hcut.out.box;have b':=hcut.out.tree;have pm:=hcut.out.res;clear HD x0 x1 y0 y1 y2 y3 f0 f1 f2 f3 mc;have e1:((sz+1:Nat):Int)=(sz:Int)+1:=by omega
   rw[e1] at hb;obtain⟨x0,x1⟩:=Fp b';obtain⟨y0,y1,y2,y3⟩:=Fy hb;have tc:IntKind.i64.wrap (2*(t:Int))=2*(t:Int):=aD _ (by omega);clear hb b' pm
   by_cases k5:n<2*t
   ·have pc:(n:Int)<2*t:=by omega
    have bs:Ct 329 #[PV ps,.int .i64 t,.int .u64 (Bt.hd x:Nat),eC (.slice K1 n k1) (.slice V1 n l1) (.slice C1 c j1) (Bt.bn x').size] wc fun e w'=>e=.returned (.int .i64 0)/\Ig w' ps (FC S' (Bn.h x) 0 (bnWords t (Bt.bn x'))) Y/\Fo Y wc w':=by
     obtain⟨M,b8,hn,hc⟩:=HM.out;obtain⟨p1,p2,p3,p4,p5,p6,p7⟩:=M.putting;exact mz hcut.out.st p1 (Bt.bnok_of M.mid.fit b9 cu M.mid.kids (M.mid.okN.ok (by omega))) hcut.out.rows.k.hrow hcut.out.rows.v.hrow hcut.out.rows.c.hrow (Bn.h x) p3 p2 (kX M.mid.lt (by omega))
    have c5:(Bt.bn x').size=sz+1:=by
     obtain⟨M,b8,hn,hc⟩:=HM.out;exact M.putting.2.2.2.1.trans (by rw[b8])
    rw[c5] at bs;unfold eC at bs;rw[e1] at bs;have HP:=If bs;clear bs c5 e1;go_wp2_with fail;refine HP.out.mono ?_;rintro en w3 ⟨rfl,ea,ds⟩;have H3:=hcut.out.kid ea (ds.mono fun k hk=>hk.1) (hcut.out.sp.keeps fun k hk=>ds.block k (hcut.out.zy k (hcut.out.spz k hk))) rfl;have b4:=H3.res;clear x0 x1 y0 y1 y2 y3;obtain⟨x0,x1,x2,x3⟩:=Fy b4;obtain⟨f0,f1,f2,f3⟩:=fO b4;have H3:=kq2 H3 b4;clear b4 ea ds;go_wp2_with fail;obtain⟨WF,cm⟩:=Ii ((((w3.setCell ⟨w.heap.size+1+1,0,none⟩ (.bool false)).setCell ⟨w.heap.size+1+1,1,none⟩ (.int .u64 0)).setCell ⟨w.heap.size+1+1,2,none⟩ (.int .u64 0)).setCell ⟨w.heap.size+1+1,3,none⟩ (.int .u64 0));rw[cm];have HF:=H3.a.fin H3.b (.bool false) (.int .u64 0) (.int .u64 0) (.int .u64 0) WF cm.symm;clear cm x0 x1 x2 x3 f0 f1 f2 f3;have e4:=HF.2.2.2;obtain⟨q0,q1,q2,q3⟩:=Fy e4;obtain⟨M,b8,hn,hc⟩:=HM.out;have a':¬(Bn.es x').length=2*t:=by omega
    have k9:=M.num;have jn:=M.all;rw[if_neg a'] at k9;rw[decide_eq_false a'] at jn;exact bodyPost_ret (v:=.agg #[.bool false,.int .u64 0,.int .u64 0,.int .u64 0]) (by simp[results,f324,go_sem,q0,q1,q2,q3]) rfl ⟨none,_,v',L',U,rfl,M.sum,M.mid.put cu (by omega),HF.1,HF.2.1,HF.2.2.1,M.held.own,k9,jn⟩
   ·have pc:¬(n:Int)<2*t:=by omega
    have a':n=2*t:=by omega
    have ao:(Bt.bn x').keys.length=n/\(Bt.bn x').vals.length=n/\(Bt.bn x').kids.length=c:=by
     obtain⟨M,b8,hn,hc⟩:=HM.out;obtain⟨p1,p2,p3,p4,p5,p6,p7⟩:=M.putting;exact⟨by omega,by omega,by omega⟩
    have pt:∃b cc,(Value.slice K1 n k1)=.slice (some ⟨b,0,none⟩) n cc/\n<=cc:=by
     have:=hcut.out.rows.k.some (by omega);rwa[ao.1] at this
    have px:∃b cc,(Value.slice V1 n l1)=.slice (some ⟨b,0,none⟩) n cc/\n<=cc:=by
     have:=hcut.out.rows.v.some (by omega);rwa[ao.2.1] at this
    obtain⟨bk,rk,ek,c'⟩:=pt;obtain⟨bv,rl,ev,dc⟩:=px
    injection ek with ek1 _ ek2
    injection ev with ev1 _ ev2
    subst ek1 ek2 ev1 ev2;have s':t+1<=n:=by omega
    have bb:=kq2 a' ao;clear a' ao e1;have a1:(t:Int)<=k1:=by omega
    have a2:(t:Int)<=l1:=by omega
    have a3:(t:Int)+1<=n:=by omega
    have a4:0<=(t:Int)+1:=by omega
    have a6:¬k1=t+1:=by omega
    have a7:¬l1=t+1:=by omega
    have a5:((t:Int)+1).toNat=t+1:=by omega
    have tl:IntKind.i64.wrap ((t:Int)+1)=(t:Int)+1:=aD _ (by omega);have r4:(t:Int)+1<=k1:=by omega
    have rx:(t:Int)+1<=l1:=by omega
    obtain⟨wp,rfl⟩:∃z,z=wc:=⟨wc,rfl⟩;have HC:=hcut;clear hcut
    go_upto_region 15 with fail
    go_cut [18,19] from 20 (fun s18 s19 wd=>∃bL bR,s18=.pointer (some ⟨bL,0,none⟩)/\s19=.pointer (some ⟨bR,0,none⟩)/\Hid (eV wp wd ps S' Y bL bR #[.slice (some ⟨bk,0,none⟩) t k1,.slice (some ⟨bv,0,none⟩) t l1,.slice none 0 0,.int .u64 0] #[.slice (some ⟨bk,t+1,none⟩) (n-(t+1)) (k1-(t+1)),.slice (some ⟨bv,t+1,none⟩) (n-(t+1)) (l1-(t+1)),.slice none 0 0,.int .u64 0]))
    case first=>
     as_aux_lemma=>
      obtain⟨I,ai,al⟩:=ic fun w'=>w'.heap[w1.heap.size]?=wp.heap[w1.heap.size]?/\w'.heap[w.heap.size]?=wp.heap[w.heap.size]?;have hb:=HC.out.box;have e1:((sz+1:Nat):Int)=(sz:Int)+1:=by omega
      rw[e1] at hb;have ap:=fun x:Fq I=>(ai _ x.ok).1.trans hb;have ar:=fun x:Fq I=>(ai _ x.ok).2.trans HC.out.tree;obtain⟨m0,m1,m2,m3⟩:=iB ap;obtain⟨p0,p1⟩:=fw ar;have bd:I wp.drew:=al _ ⟨rfl,rfl⟩;have b1:=fun q=>((aa wp.heap.size wp).drew).alloc Ih (.cells q 286);have b2:=fun q q2=>(b1 q).alloc (by simp) (.cells q2 286);have i4:∀q,I (wp.drew.alloc (.cells q 286)):=fun q=>al _ ⟨(b1 q).block _ HC.out.lt,(b1 q).block _ (by have:=HC.out.lt;have:=HC.out.at3;omega)⟩;have i5:∀q q2,I ((wp.drew.alloc (.cells q 286)).alloc (.cells q2 286)):=fun q q2=>al _ ⟨(b2 q q2).block _ HC.out.lt,(b2 q q2).block _ (by have:=HC.out.lt;have:=HC.out.at3;omega)⟩;have id:=If i4;have c3:=If i5;clear ai al ap ar hb e1 b1 b2 i4 i5;refine fh I (.take 0 (.take 1 (.take 2 (.take 3 (.take 4 (.take 5 (.take 6 (.take 7 (.take 8 (.take 9 (.take 10 (.take 11 (.take 12 (.take 13 (.take 14 (.take 15 (.take 16 (.take 17 (.take 18 (.take 19 (.take 20 (.take 21 (.take 22 (.take 23 (.two 24 25 (.go 25 (.go 26 (.go 27 .nil))) (.go 24 (.go 26 (.go 27 .nil)))))))))))))))))))))))))))) (by kernel_rfl) (by kernel_rfl) bd ?_
      iterate 24
       refine' pT ?_ ?_;rotate_left
       ·intro x;go_simp
        try rfl
       try simp only[pu]
      refine gL ?_ ?_
      ·skip
       refine pD fun K hK=>?_;go_simp
       try go_simp
       refine hK.out _ _ (id.out _) ?_;clear hK K
       try simp only[pu]
       refine pD fun K hK=>?_;go_simp
       try go_simp
       refine hK.out _ _ (c3.out _ _) ?_;clear hK K
       try simp only[pu]
       refine pD fun K hK=>?_;go_simp
       try go_simp
       refine hK.out _ _ (c3.out _ _) ?_;clear hK K
       try simp only[pu]
       refine pD fun K hK=>?_;go_simp
       try go_simp
       refine hK.out _ _ (c3.out _ _) ?_;clear hK K
       try simp only[pu]
       refine eP ?_;go_wp2_with fail
       go_meet
       case rel=>exact⟨_,_,rfl,rfl,If (eV.start HC.out.st _ _)⟩
      ·skip
       refine pD fun K hK=>?_;go_simp
       try go_simp
       refine hK.out _ _ (id.out _) ?_;clear hK K
       try simp only[pu]
       refine pD fun K hK=>?_;go_simp
       try go_simp
       refine hK.out _ _ (c3.out _ _) ?_;clear hK K
       try simp only[pu]
       refine pD fun K hK=>?_;go_simp
       try go_simp
       refine hK.out _ _ (c3.out _ _) ?_;clear hK K
       try simp only[pu]
       refine pD fun K hK=>?_;go_simp
       try go_simp
       refine hK.out _ _ (c3.out _ _) ?_;clear hK K
       try simp only[pu]
       refine eP ?_;go_wp2_with fail
       go_meet
       case rel=>exact⟨_,_,rfl,rfl,If (eV.start HC.out.st _ _).turn⟩
    case rest=>
     obtain⟨bL,bR,rfl,rfl,HS⟩:=hcut;obtain⟨nr,k8⟩:∃nr,nr=n-(t+1):=⟨_,rfl⟩;rw[<-k8] at HS;have s8:nr+1=t:=by have:=bb.a;omega
     clear k8 x0 x1 y0 y1 y2 y3 a1 a2 a3 a4 a5 a6 a7;have hL:=HS.out.bl;have hR:=HS.out.br;have e1:((sz+1:Nat):Int)=(sz:Int)+1:=by omega
     have hN:=(HS.out.kp.block _ HC.out.yb.1).trans HC.out.box;rw[e1] at hN;have hT:=(HS.out.kp.block _ HC.out.yb.2.1).trans HC.out.tree;obtain⟨x0,x1⟩:=Fp hT;obtain⟨y0,y1,y2,y3⟩:=Fy hN;obtain⟨a0,a1,a2,a3⟩:=Fy hL;obtain⟨f0,f1,f2,f3⟩:=fO hL;obtain⟨b0,b1,b2,b3⟩:=Fy hR;obtain⟨h0,h1,h2,h3⟩:=fO hR;clear hL hR hN hT e1
     go_upto_if 149 with fail
     go_cut [] from 20 (fun wd=>∃A1 m1 c1 A2 m2 c2,Hid (eV wp wd ps S' Y bL bR #[.slice (some ⟨bk,0,none⟩) t k1,.slice (some ⟨bv,0,none⟩) t l1,.slice A1 m1 c1,.int .u64 0] #[.slice (some ⟨bk,t+1,none⟩) nr (k1-(t+1)),.slice (some ⟨bv,t+1,none⟩) nr (l1-(t+1)),.slice A2 m2 c2,.int .u64 0]/\FD wp (.slice A1 m1 c1) ((Bt.bn x').kids.take (t+1))/\FD wp (.slice A2 m2 c2) ((Bt.bn x').kids.drop (t+1))/\(∀g,(Value.slice A1 m1 c1).ownBlock=some g->Y g)/\∀g,(Value.slice A2 m2 c2).ownBlock=some g->Y g/\g≠bl))
     case first=>
      as_aux_lemma=>
       by_cases hd0:d=0
       ·subst hd0;have k3:Bn.ks x'=[]:=Bt.nil_of_zero _;obtain rfl:c=0:=by rw[<-HM.d,k3];rfl
        go_wp2_with fail
        go_meet
        case rel=>
         have k2:(Bt.bn x').kids=[]:=by unfold Bt.bn;rw[k3];rfl
         refine⟨none,0,0,none,0,0,If ⟨HS.out,?_,?_,(fun g hg=>nomatch hg),fun g hg=>nomatch hg⟩⟩
         ·rw[k2];exact⟨none,0,rfl,fun k hk=>absurd hk (by simp)⟩
         ·rw[k2];exact⟨none,0,rfl,fun k hk=>absurd hk (by simp)⟩
       ·have j':c=n+1:=by
         have h1:=HM.a.mid.okN.2.1;rw[if_neg hd0] at h1;have h2:=HM.out.2.2;omega
        have po:∃b cc,(Value.slice C1 c j1)=.slice (some ⟨b,0,none⟩) c cc/\c<=cc:=by
         have:=HC.out.rows.c.some (by have:=bb.b.2.2;omega);rwa[bb.b.2.2] at this
        obtain⟨bc,rc,ec,c6⟩:=po
        injection ec with ec1 _ ec2
        subst ec1 ec2;have a':=bb.a;have r5:(0:Int)<c:=by omega
        have q1:(t:Int)+1<=j1:=by omega
        have q2:(t:Int)+1<=c:=by omega
        have q3:0<=(t:Int)+1:=by omega
        have q4:¬j1=t+1:=by omega
        have q5:((t:Int)+1).toNat=t+1:=by omega
        have so:¬bL=bR:=HS.out.ge.2.2;have ss:¬bR=bL:=fun q=>HS.out.ge.2.2 q.symm;have o':=HC.out.lt;have f':=HS.out.ge;have fm:=HC.out.at3;have sw:¬bL=w1.heap.size:=by omega
        have sx:¬w1.heap.size=bL:=by omega
        have s0:¬bR=w1.heap.size:=by omega
        have s4:¬w1.heap.size=bR:=by omega
        have s5:¬bL=w.heap.size:=by omega
        have s6:¬w.heap.size=bL:=by omega
        have s7:¬bR=w.heap.size:=by omega
        have sl:¬w.heap.size=bR:=by omega
        clear j' a' o' f' fm
        go_upto_region 17 with fail
        go_region
        go_wp2_with fail
        go_meet
        case rel=>
         have hrow:=HC.out.rows.c.hrow;have ao:=bb.b.2.2;have a':=bb.a;have j':c=n+1:=by
          have h1:=HM.a.mid.okN.2.1;rw[if_neg hd0] at h1;have h2:=HM.out.2.2;omega
         have md:∀g,(Value.slice (some ⟨bc,0,none⟩) c j1).ownBlock=some g->Y g:=fun g hg=>HC.out.yk g (ae (ae hg));have rt:=(HC.out.rows.c.block (g:=bc) rfl).1;have jv:=HC.out.zl bl HC.out.zs.1;have q8:∀g,(Value.slice (some ⟨bc,0,none⟩) c j1).ownBlock=some g->Y g/\g≠bl:=fun g hg=>⟨md g hg,by
          have hg:bc=g:=Option.some.inj hg;omega⟩
         exact⟨_,_,_,_,_,_,If ⟨((HS.out.setL2 _).setR2 _).below (aa _ _).drew,FD.take hrow (by omega),FD.drop hrow (by omega),md,q8⟩⟩
     case rest=>
      obtain⟨A1,m1,c1,A2,m2,c2,bu⟩:=hcut;obtain⟨L2,gg,rfl,la⟩:=HM.a.spare HI.out.2.2.2.2.2.2.2.2.2.2.2.2 HI.out.2.2.2.2.1 HI.out.2.2.2.2.2.1 (by have:=bb.a;have:=HM.c;omega);have ed:=If la;obtain⟨KS,cl⟩:=Ii ((Bn.ks x').drop (t+1));have em:(Bt.bn x').kids.drop (t+1)=KS.map Bt.hd:=by rw[<-cl];unfold Bt.bn;rw[cB]
      have gn:m2=KS.length:=by
       obtain⟨_,_,e,_⟩:=bu.out.2.2.1
       injection e with _ e _
       rw[e,em,aq]
      have sc:m2<=33:=by
       have h1:=HM.a.mid.okN.2.1;have h2:KS.length<=(Bn.ks x').length:=by rw[<-cl,aN];omega
       have h3:=HM.c
       split at h1<;>omega
      obtain⟨su,dn⟩:∃su:Nat->Nat,∀j,su j=((KS.take j).map fun k=>(Bt.its k).length).sum:=⟨_,fun _=>rfl⟩;have ll:su 0=0:=by rw[dn];rfl
      have g9:∀j (hj:j<KS.length),su (j+1)=su j+(Bt.its KS[j]).length:=fun j hj=>by rw[dn,dn,ED _ _ hj]
      have g':∀j,su j<=1000000:=fun j=>by
       have h1:=EC (fun k=>(Bt.its k).length) (Bn.ks x') (t+1) j;have h2:=Bt.its_len HM.a.mid.okN;have h3:=HM.a.putting.2.2.2.1;have h4:=HM.b;rw[dn,<-cl];omega
      have kz:sz+1=(Bt.its (Bt.leftOf t x')).length+1+(nr+su m2)/\(Bt.its (Bt.rightOf t x' gg)).length=nr+su m2:=by
       have a':=bb.a;have h1:=HM.a.halves b9 (by have:=HM.c;omega) gg;have h3:=HM.a.putting.2.2.2.1;have h4:=HM.b;have h5:=HM.c;have h6:su m2=(((Bn.ks x').drop (t+1)).map fun k=>(Bt.its k).length).sum:=by rw[dn,gn,List.take_length,cl]
       have h7:=h1.2.2.1;have h8:=h1.2.2.2.2.2;rw[<-h6] at h8;omega
      have lr:∀k∈KS,k∈Bn.ks x':=fun k hk=>by
       rw[<-cl] at hk;exact bB hk
      have bf:∀(W:World) (Yx:Nat->Prop),Ig W ps S' Yx->∀j (hj:j<KS.length),Cb 163 #[FH ps t,.int .u64 (Bt.hd KS[j]:Nat)] W (.int .i64 (Bt.its KS[j]).length):=fun W Yx hst j hj=>by
       have k7:KS[j]∈Bn.ks x':=lr _ (aG hj);have h1:=g9 j hj;have h2:=g' (j+1);exact ri HM.a.mid.fit b9 cu (HM.a.mid.kids _ k7) (HM.a.mid.okN.2.2 _ k7).1 (by omega) W Yx hst
      have k':FD wp (.slice A2 m2 c2) (KS.map Bt.hd):=by rw[<-em];exact bu.out.2.2.1
      have ii:=kq3 cl em g9;have e6:=If g';have ou:=If bf;have ob:=If kz;have ee:=kq2 k' (show ∀g,(Value.slice A2 m2 c2).ownBlock=some g->Y g from fun g hg=>(bu.out.2.2.2.2 g hg).1);have n4:Hid (∀g,(Value.slice A2 m2 c2).ownBlock=some g->g≠bl):=If fun g hg=>(bu.out.2.2.2.2 g hg).2;have ih:=kq2 bu.out.2.1 bu.out.2.2.2.1;have op:=If ll;have oe:=If gn;clear cl em dn g9 g' kz bf k' la ll gn lr;clear x0 x1 y0 y1 y2 y3 a0 a1 a2 a3 b0 b1 b2 b3 f0 f1 f2 f3 h0 h1 h2 h3;have hR:=bu.out.1.br;obtain⟨b0,b1,b2,b3⟩:=Fy hR;obtain⟨h0,h1,h2,h3⟩:=fO hR;clear hR;have pf:IntKind.u64.wrap (nr:Int)=nr:=cQ _ (by omega)
      go_upto_region 18 with fail
      go_cut [] from 20 (fun wd=>Hid (eV wp wd ps S' Y bL bR #[.slice (some ⟨bk,0,none⟩) t k1,.slice (some ⟨bv,0,none⟩) t l1,.slice A1 m1 c1,.int .u64 0] #[.slice (some ⟨bk,t+1,none⟩) nr (k1-(t+1)),.slice (some ⟨bv,t+1,none⟩) nr (l1-(t+1)),.slice A2 m2 c2,.int .u64 nr]))
      case first=>
       as_aux_lemma=>
        go_wp2_with fail
        go_meet
        case rel=>exact If (bu.out.1.setR3 (.int .u64 nr))
      case rest=>
       have hR:=hcut.out.br;clear b0 b1 b2 b3 h0 h1 h2 h3 pf bu;obtain⟨b0,b1,b2,b3⟩:=Fy hR;clear hR;go_wp2_with fail
       go_loopw [21,172] (fun _ s172 wr=>∃j:Nat,j<=m2/\s172=.int .i64 j/\Hid (eV wp wr ps S' Y bL bR #[.slice (some ⟨bk,0,none⟩) t k1,.slice (some ⟨bv,0,none⟩) t l1,.slice A1 m1 c1,.int .u64 0] #[.slice (some ⟨bk,t+1,none⟩) nr (k1-(t+1)),.slice (some ⟨bv,t+1,none⟩) nr (l1-(t+1)),.slice A2 m2 c2,.int .u64 ((nr:Int)+(su j:Nat))])) (fun _ s172 _=>m2-(intOf s172).toNat)
       case atStart=>exact⟨0,by omega,rfl,by rw[op.out];simpa using hcut⟩
       case round=>
        as_aux_lemma=>
         clear b0 b1 b2 b3 hcut;obtain⟨j,hj,rfl,HR⟩:=hrel
         by_cases hjlt:j<m2
         ·have r8:(j:Int)<m2:=by omega
          have gf:j<KS.length:=by have:=oe.out;omega
          have hR:=HR.out.br;have hT:=(HR.out.kp.block _ HC.out.yb.2.1).trans HC.out.tree;have eg:=FD.at (f:=Bt.hd) (l:=KS) (HR.out.row ee.a ee.b) (af gf);obtain⟨g2,o2,rfl,c6⟩:=eg;obtain⟨hh,bo⟩:=Ii (Bt.hd KS[j]);obtain⟨zj,e3⟩:=Ii (Bt.its KS[j]).length;have bf:=fun W Yx hst=>ou.out W Yx hst j gf;rw[bo,e3] at bf;rw[bo] at c6;have g8:=ii.c j gf;rw[e3] at g8;have ez:=e6.out j;have e0:=e6.out (j+1);have tr:zj<=1000000:=by omega
          obtain⟨I,ai,al⟩:=ic fun w'=>w'.heap[bR]?=wr.heap[bR]?/\w'.heap[w.heap.size]?=wr.heap[w.heap.size]?;have ap:=fun x:Fq I=>(ai _ x.ok).1.trans hR;have ar:=fun x:Fq I=>(ai _ x.ok).2.trans hT;obtain⟨r0,r1,r2,r3⟩:=iB ap;obtain⟨p0,p1⟩:=fw ar;have bd:I wr.drew:=al _ ⟨rfl,rfl⟩;have ti:IntKind.u64.wrap ((nr:Int)+(su j:Nat)+(zj:Nat))=(nr:Int)+(su j:Nat)+(zj:Nat):=cQ _ (by omega);have mc:IntKind.u64.wrap (zj:Int)=zj:=cQ _ (by omega);unfold FH at bf;have ba:=If al;have oj:=If bf;have oo:=kq3 g8 bo e3;clear ai al ap ar hR hT bf g8 bo e3 ez e0;go_wp2_with fail;refine nG I (fun i=>[8].contains i) (.take 0 (.take 1 (.take 2 (.take 3 (.go 4 (.take 5 (.take 6 (.take 7 (.go 8 .nil))))))))) (by kernel_rfl) (by kernel_rfl) bd ?_
          iterate 4
           refine' qT ?_ ?_;rotate_left
           ·intro x;go_simp
            try rfl
           try simp only[pu]
          refine qD fun K hK=>?_;go_simp;refine(oj.out _ _ (HR.out.below (aa _ wr).drew).st).mono ?_;rintro en w5 ⟨rfl,fn⟩;have C5:=(HR.out.below (aa _ wr).drew).below fn;have e':I w5:=ba.out _ ⟨fn.block _ HR.out.lt.2,fn.block _ (bD (by have:=HC.out.lt;have:=HC.out.at3;omega) HR.out.kp.size)⟩;have fk:=C5.br;obtain⟨b0,b1,b2,b3⟩:=Fy fk;obtain⟨h0,h1,h2,h3⟩:=fO fk;have n5:=If (C5.setR3 (.int .u64 ((nr:Int)+(su j:Nat)+(zj:Nat))));clear C5 fk
          try go_simp
          refine hK.out _ _ e' ?_;clear hK K
          try simp only[pu]
          iterate 3
           refine' qT ?_ ?_;rotate_left
           ·intro x;go_simp
            try rfl
           try simp only[pu]
          refine qL fun K hK=>?_;go_simp
          try go_simp
          refine hK.out _ _ trivial ?_;clear hK K
          try simp only[pu]
          refine jd ?_;go_wp2_with fail;go_roundw
          case rel=>
           refine⟨j+1,by omega,by simp,?_⟩;have e1:((nr:Int)+(su (j+1):Nat))=(nr:Int)+(su j:Nat)+(zj:Nat):=by have:=oo.a;omega
           rw[e1];exact n5
          case measure=>simp[intOf];omega
         ·have o8:j=m2:=by omega
          subst o8;have sb:¬(j:Int)<j:=by omega
          obtain⟨fv,ka⟩:=ob.out;obtain⟨zl,hr⟩:=Ii (Bt.its (Bt.leftOf t x')).length;rw[hr] at fv;have p8:=e6.out j;have qq:IntKind.u64.wrap ((sz:Int)+1-((nr:Int)+(su j:Nat)))=(zl:Int)+1:=by rw[cQ _ (by omega)];omega
          have qz:IntKind.u64.wrap ((zl:Int)+1-1)=zl:=by rw[cQ _ (by omega)];omega
          have q6:IntKind.u64.wrap (zl:Int)=zl:=cQ _ (by omega);have e1:((sz+1:Nat):Int)=(sz:Int)+1:=by omega
          have e2:((nr+su j:Nat):Int)=(nr:Int)+(su j:Nat):=by omega
          have hN:=(HR.out.kp.block _ HC.out.yb.1).trans HC.out.box;rw[e1] at hN;have hL:=HR.out.bl;have hR:=HR.out.br;obtain⟨y0,y1,y2,y3⟩:=Fy hN;obtain⟨a0,a1,a2,a3⟩:=Fy hL;obtain⟨f0,f1,f2,f3⟩:=fO hL;obtain⟨b0,b1,b2,b3⟩:=Fy hR;have HZ:=kq5 fv ka hr e1 e2;clear fv ka hr e1 e2 hN hL hR p8
          go_upto_region 24 with fail
          go_cut [] from 22 (fun wd=>Hid (eV wp wd ps S' Y bL bR #[.slice (some ⟨bk,0,none⟩) t k1,.slice (some ⟨bv,0,none⟩) t l1,.slice A1 m1 c1,.int .u64 zl] #[.slice (some ⟨bk,t+1,none⟩) nr (k1-(t+1)),.slice (some ⟨bv,t+1,none⟩) nr (l1-(t+1)),.slice A2 j c2,.int .u64 ((nr:Int)+(su j:Nat))]))
          case first=>
           as_aux_lemma=>
            go_wp2_with fail
            go_meet
            case rel=>exact If (HR.out.setL3 (.int .u64 zl))
          case rest=>
           clear y0 y1 y2 y3 a0 a1 a2 a3 f0 f1 f2 f3 b0 b1 b2 b3 qq qz q6 HR;have hL:=hcut.out.bl;have hT:=(hcut.out.kp.block _ HC.out.yb.2.1).trans HC.out.tree;obtain⟨x0,x1⟩:=Fp hT;obtain⟨a0,a1,a2,a3⟩:=Fy hL;have er:(Bn.es x').length=2*t:=by have:=HM.c;have:=bb.a;omega
           have ho:∀g,(Value.slice (some ⟨bk,0,none⟩) n k1).ownBlock=some g->Y g:=fun g hg=>HC.out.yk g (ab hg);have hq:∀g,(Value.slice (some ⟨bv,0,none⟩) n l1).ownBlock=some g->Y g:=fun g hg=>HC.out.yk g (ae (ab hg));have ao:=bb.b;have a':=bb.a;obtain⟨ht,m6,m8⟩:=Bt.leftOf_bn t x';obtain⟨hv,na,nb,q'⟩:=Bt.rightOf_bn t x' gg;obtain⟨l5,l8,qb,l',mb,ql⟩:=HM.a.halves b9 er gg;obtain⟨cp,k6⟩:=HM.a.lts b9 er gg;obtain⟨p1,p2,p3,p4,p5,p6,p7⟩:=HM.a.putting;have g4:nr=n-(t+1):=by omega
           have nl:FD wp (.slice (some ⟨bk,0,none⟩) t k1) (Bt.bn (Bt.leftOf t x')).keys:=by rw[ht];exact FD.take HC.out.rows.k.hrow (by omega)
           have np:FD wp (.slice (some ⟨bv,0,none⟩) t l1) (Bt.bn (Bt.leftOf t x')).vals:=by rw[m6];exact FD.take HC.out.rows.v.hrow (by omega)
           have nc:FD wp (.slice A1 m1 c1) (Bt.bn (Bt.leftOf t x')).kids:=by rw[m8];exact ih.a
           have nm:FD wp (.slice (some ⟨bk,t+1,none⟩) nr (k1-(t+1))) (Bt.bn (Bt.rightOf t x' gg)).keys:=by rw[hv,g4];exact FD.drop HC.out.rows.k.hrow (by omega)
           have nq:FD wp (.slice (some ⟨bv,t+1,none⟩) nr (l1-(t+1))) (Bt.bn (Bt.rightOf t x' gg)).vals:=by rw[na,g4];exact FD.drop HC.out.rows.v.hrow (by omega)
           have nj:FD wp (.slice A2 j c2) (Bt.bn (Bt.rightOf t x' gg)).kids:=by rw[nb,ii.b];exact ee.a
           have bs:=mz hcut.out.st p1 (Bt.bnok_of HM.a.mid.fit b9 cu l' l5) (hcut.out.row nl ho) (hcut.out.row np hq) (hcut.out.row nc ih.b) (Bn.h x) p3 p2 (kX cp (by rw[ht,ay];omega));have l0:(Bt.bn (Bt.leftOf t x')).size=zl:=HZ.c;rw[l0] at bs;unfold eC at bs;have HP:=If bs;have iv:Hid ((∀g,(.slice (some ⟨bk,t+1,none⟩) nr (k1-(t+1)):Value).ownBlock=some g->Y g)/\∀g,(.slice (some ⟨bv,t+1,none⟩) nr (l1-(t+1)):Value).ownBlock=some g->Y g):=If ⟨fun g hg=>HC.out.yk g (ab hg),fun g hg=>HC.out.yk g (ae (ab hg))⟩;have cd:=kq6 nm nq nj ho hq er;have ik:=kq4 (Bt.bnok_of HM.a.mid.fit b9 cu mb l8) (kX (t:=t) k6 (by rw[hv,aN];omega)) ao a';clear bs l0 nl np nc nm nq nj ho hq ao a' ht m6 m8 hv na nb q' l5 l8 qb l' mb ql cp k6 p1 p2 p3 p4 p5 p6 p7 g4 hL hT er;go_wp2_with fail;refine HP.out.mono ?_;rintro en w3 ⟨rfl,ea,ds⟩;have C3:=hcut.out.put ea ds;clear x0 x1 a0 a1 a2 a3 HP ea ds hcut;have a8:=If C3;clear C3;go_wp2_with fail;obtain⟨wg,ez,e0,g6⟩:=ed.out.2.2.2;have kx:=ed.out.2.2.1;have dk:=HM.a.left_put b9 cu cd.f kx e0;have kk:=(fL dk.1 dk.2).2.1;have kn:(FC S' (Bn.h x) 0 (bnWords t (Bt.bn (Bt.leftOf t x')))).len gg=(6*t,0):=by rw[jw dk.1.tab dk.2,g6]
           have jv:bl<w.heap.size:=HC.out.zl bl HC.out.zs.1;have o6:=HC.out.rows.k.block (g:=bk) rfl;have o7:=HC.out.rows.v.block (g:=bv) rfl;have i':L2.length<=1000:=by
            have h1:=HI.out.2.2.2.2.2.2.2.2.2.1;have h2:=HM.a.sum;rw[h2] at h1;simp only[aE] at h1;omega
           have g7:=HC.out.spz;have lb:gz w3.drew bt bl D ps t v' (L2++[gg]):=HC.out.sp.keeps fun k hk=>a8.out.kp.block k (HC.out.zy k (g7 k hk));have j0:∀b,(Value.slice (some ⟨bk,t+1,none⟩) nr (k1-(t+1))).ownBlock=some b->b≠bl:=fun b hb q=>by
            have hb:bk=b:=Option.some.inj hb;omega
           have j2:∀b,(Value.slice (some ⟨bv,t+1,none⟩) nr (l1-(t+1))).ownBlock=some b->b≠bl:=fun b hb q=>by
            have hb:bv=b:=Option.some.inj hb;omega
           have j3:∀b,(Value.slice A2 j c2).ownBlock=some b->b≠bl:=n4.out;have d8:=pZ (n:=Bt.bn (Bt.rightOf t x' gg)) (vk:=.slice (some ⟨bk,t+1,none⟩) nr (k1-(t+1))) (vv:=.slice (some ⟨bv,t+1,none⟩) nr (l1-(t+1))) (vc:=.slice A2 j c2) (a8.out.st.below (aa _ w3).drew) dk.1.inv lb (ab (HC.out.zy _ HC.out.zs.1)) (ab (HC.out.zy _ HC.out.zs.2.1)) (fun b hb=>ab (HC.out.zy _ (g7 b (ae (ae hb))))) i' ik.a (a8.out.row cd.a iv.out.1) (a8.out.row cd.b iv.out.2) (a8.out.row cd.c ee.b) j0 j2 j3 kk kn ik.b;have l3:(Bt.bn (Bt.rightOf t x' gg)).size=nr+su j:=HZ.b;rw[l3] at d8;unfold eC at d8;rw[HZ.e] at d8;have l4:t<(Bn.es x').length:=by have:=cd.f;omega
           obtain⟨m,hm⟩:=Ii ((Bn.es x')[t]);have gp:(Bn.es x')[t]?=some m:=by rw[af l4,hm]
           have c':=FD.at (f:=(·.kh)) (l:=Bn.es x') (a8.out.row HC.out.rows.k.hrow cd.d) gp;have dc:=FD.at (f:=(·.vh)) (l:=Bn.es x') (a8.out.row HC.out.rows.v.hrow cd.e) gp;obtain⟨gk,ok,ek,c'⟩:=c';obtain⟨gv,ov,ev,dc⟩:=dc
           injection ek with ek
           injection ek with ek1 ek2 _
           subst ek1 ek2
           injection ev with ev
           injection ev with ev1 ev2 _
           subst ev1 ev2;rw[bT] at c' dc;have hN:=(a8.out.kp.block _ HC.out.yb.1).trans HC.out.box;rw[HZ.d] at hN;have hT:=(a8.out.kp.block _ HC.out.yb.2.1).trans HC.out.tree;have hR:=a8.out.br;have hl:=HC.out.yb;have fm:=HC.out.at3;have f':=a8.out.ge;have q7:=HC.out.keep.size;have ml:=HC.out.yk bk (ab rfl);have mr:=HC.out.yk bv (ae (ab rfl));obtain⟨I,ai,al⟩:=ic fun w'=>∀k,(Y k\/k=bL\/k=bR)->k≠bl->w'.heap[k]?=w3.heap[k]?;have ap:=fun x:Fq I=>(ai _ x.ok w1.heap.size (ab hl.1) (by omega)).trans hN;have ar:=fun x:Fq I=>(ai _ x.ok w.heap.size (ab hl.2.1) (by omega)).trans hT;have m5:=fun x:Fq I=>(ai _ x.ok bR (ae (ae rfl)) (by omega)).trans hR;obtain⟨r0,r1,r2,r3⟩:=iB ap;obtain⟨p0,p1⟩:=fw ar;obtain⟨q0,q1,q2,q3⟩:=iB m5;have o1:∀x:Fq I,x.to.cell? ⟨bk,t,none⟩=some (.int .u64 (m.kh:Nat)):=fun x=>(j9 (ai _ x.ok bk (ab ml) (by omega))).trans c';have o2:∀x:Fq I,x.to.cell? ⟨bv,t,none⟩=some (.int .u64 (m.vh:Nat)):=fun x=>(j9 (ai _ x.ok bv (ab mr) (by omega))).trans dc;have bd:I w3.drew:=al _ fun _ _ _=>rfl;have tb:(t:Int)<n:=by have:=HM.c;omega
           have o5:=If d8;have ba:=If al;have n':=If (HM.a.done b9 cu cd.f ed.out.1 ed.out.2.1 ez g6 l4);have oi:=If hm;have rb:Hid (w.heap.size+2≠bl):=If (by omega);clear ai al ap ar m5 d8 kk kn jv o6 o7 i' g7 lb j0 j2 j3 l3 gp c' dc hN hT hR hl fm f' q7 ml mr hm ez e0 g6 kx dk;refine nG I (fun i=>[17].contains i) (.take 0 (.take 1 (.take 2 (.take 3 (.take 4 (.take 5 (.take 6 (.take 7 (.take 8 (.take 9 (.take 10 (.take 11 (.take 12 (.take 13 (.take 14 (.go 15 (.take 16 (.go 17 .nil)))))))))))))))))) (by kernel_rfl) (by kernel_rfl) bd ?_
           iterate 15
            refine' qT ?_ ?_;rotate_left
            ·intro x;go_simp
             try rfl
            try simp only[pu]
           refine qD fun K hK=>?_;go_simp;refine o5.out.mono ?_;rintro en w5 ⟨rfl,v5,nw,cw,nv,m'⟩;have H5:=HC.out.kid (nw.mono fun k hk=>ab hk) ((a8.out.kp.mono fun k hk=>hk.1).trans ⟨cw.os,cw.tape,cw.output,cw.size,fun k hk=>cw.block k ⟨ab hk.1,hk.2⟩⟩) nv m';have ex:=H5.res;have e':I w5:=ba.out _ fun k hk hn=>cw.block k ⟨hk,hn⟩;obtain⟨b0,b1,b2,b3⟩:=Fy ex;obtain⟨h0,h1,h2,h3⟩:=fO ex;have ib:=kq2 H5 ex;clear nw cw nv H5 ex
           try go_simp
           refine hK.out _ _ e' ?_;clear hK K
           try simp only[pu]
           refine' qT ?_ ?_;rotate_left
           ·intro x;go_simp
            try rfl
           try simp only[pu]
           refine qL fun K hK=>?_;go_simp
           try go_simp
           refine hK.out _ _ trivial ?_;clear hK K
           try simp only[pu]
           refine jd ?_;go_wp2_with fail;obtain⟨WF,cm⟩:=Ii ((((w5.setCell ⟨w.heap.size+1+1,0,none⟩ (.bool true)).setCell ⟨w.heap.size+1+1,1,none⟩ (.int .u64 (m.kh:Nat))).setCell ⟨w.heap.size+1+1,2,none⟩ (.int .u64 (m.vh:Nat))).setCell ⟨w.heap.size+1+1,3,none⟩ (.int .u64 (gg:Nat)));rw[cm];have HF:=ib.a.fin ib.b (.bool true) (.int .u64 (m.kh:Nat)) (.int .u64 (m.vh:Nat)) (.int .u64 (gg:Nat)) WF cm.symm;clear cm b0 b1 b2 b3 h0 h1 h2 h3;have e4:=HF.2.2.2;obtain⟨a0,a1,a2,a3⟩:=Fy e4;obtain⟨d1,d2,d3⟩:=n'.out;rw[oi.out] at d1;have p9:L=L2++(gg::U):=by have:=HM.a.sum;rw[this];simp
           have ph:=m'.trans HM.a.held.own;have p':Ending.returned (.agg #[.bool true,.int .u64 (m.kh:Nat),.int .u64 (m.vh:Nat),.int .u64 (gg:Nat)])=Ending.returned (ky (some (m,gg))):=rfl;exact bodyPost_ret (v:=.agg #[.bool true,.int .u64 (m.kh:Nat),.int .u64 (m.vh:Nat),.int .u64 (gg:Nat)]) (by simp[results,f324,go_sem,a0,a1,a2,a3]) rfl ⟨some (m,gg),p',_,v5,L2,gg::U,p9,d1,HF.1,HF.2.1,HF.2.2.1,ph,d2,d3⟩