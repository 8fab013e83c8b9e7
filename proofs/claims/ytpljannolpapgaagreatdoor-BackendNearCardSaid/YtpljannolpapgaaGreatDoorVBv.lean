/- B-trees: insert: the walk of one node. -/
import Derived.Test.YtpljannolpapgaaGreatDoorVBu
set_option maxRecDepth 100000
set_option maxHeartbeats 40000000
namespace Go.Proofs.YtpljannolpapgaaGreatDoor
open Go.RowKit Tryz Go.BigFrame Go.Maps Go.WideMaps Lf Tr
open Go.Shelf
theorem uU(d:Nat)(rec0:∀d0,d=d0+1->j4 d0):j4 d:=by
 intro w ps S o Z bt bl D t v L x e i h hx g3 hid sp spare fm zb zt zv hL g4 gf hkh hvh cd;have B0:=((ab w.heap.size w).alloc Ih (Xc ps t)).alloc (by simp) (Xe e.kh e.vh) |>.alloc (by simp;omega) (.cells #[.bool false,Xu 0,Xu 0,Xu 0] 274)
 have q0:=((ab w.heap.size w).alloc Ih (Xc ps t));have z1:(w.alloc (Xc ps t)).heap.size=w.heap.size+1:=by simp
 have z2:((w.alloc (Xc ps t)).alloc (Xe e.kh e.vh)).heap.size=w.heap.size+1+1:=by simp
 have q1:=heap_alloc_new w (Xc ps t);have q2:=heap_alloc_new (w.alloc (Xc ps t)) (Xe e.kh e.vh);have q3:=heap_alloc_new ((w.alloc (Xc ps t)).alloc (Xe e.kh e.vh)) (.cells #[.bool false,Xu 0,Xu 0,Xu 0] 274);have b2:=(ab (w.alloc (Xc ps t)).heap.size (w.alloc (Xc ps t))).alloc Ih (Xe e.kh e.vh);have b3:=(ab ((w.alloc (Xc ps t)).alloc (Xe e.kh e.vh)).heap.size ((w.alloc (Xc ps t)).alloc (Xe e.kh e.vh))).alloc Ih (.cells #[.bool false,Xu 0,Xu 0,Xu 0] 274);have q1:=(b3.block w.heap.size (by rw[z2];omega)).trans ((b2.block w.heap.size (by rw[z1];omega)).trans q1);rw[z1] at q2;have q2:=(b3.block (w.heap.size+1) (by rw[z2];omega)).trans q2;rw[z2] at q3;clear b2 b3 q0;have hi:=hx.fit.inv;generalize hW:((w.alloc (Xc ps t)).alloc (Xe e.kh e.vh)).alloc (.cells #[.bool false,Xu 0,Xu 0,Xu 0] 274)=W0 at*;have hz:w.heap.size+3<=W0.heap.size:=by rw[<-hW];simp
 obtain⟨x0,x1⟩:=Fp q1;have gd:=kI (h.below B0) hi hx.read;unfold FH eC at gd;have HG:=kq2 (kq5 B0 q1 q2 q3 hz) gd;have HI:=kq13 h hx g3 sp spare fm zb zt zv hL g4 gf cd;clear z1 z2 q1 q2 q3 hz B0 gd h hx g3 sp spare fm zb zt zv hL g4 gf cd hi;unfold FH Id JB;go_enter func182,ntmps182;go_wp2_with fail;refine HG.b.mono ?_;rintro en w1 ⟨vk,vv,vc,rfl,rows,hb⟩;obtain⟨Ak,ck,rfl⟩:=rows.k.slice2;obtain⟨Av,cv,rfl⟩:=rows.v.slice2;obtain⟨Ac,cc,rfl⟩:=rows.c.slice2;have hx:=HI.b;have ar:(Bt.bn x).keys.length=(Bn.es x).length:=by unfold Bt.bn;rw[ao]
 have hl:(Bt.bn x).vals.length=(Bn.es x).length:=by unfold Bt.bn;rw[ao]
 have cw:(Bt.bn x).kids.length=(Bn.ks x).length:=by unfold Bt.bn;rw[ao]
 rw[ar,hl,cw] at rows;rw[ar,hl,cw];obtain⟨i1,i2,ra⟩:=hx.es;have bm:=hx.size;generalize ll:(Bt.bn x).size=sz at*;generalize k2:(Bn.es x).length=lk at*;generalize ep:(Bn.ks x).length=lc at*;have A1:=(ab w1.heap.size w1).alloc Ih (.cells #[.slice Ak lk ck,.slice Av lk cv,.slice Ac lc cc,Xu sz] 215);have p1:=heap_alloc_new w1 (.cells #[.slice Ak lk ck,.slice Av lk cv,.slice Ac lc cc,Xu sz] 215);have eb:=rows.below A1;have dc:=hb.size;have cx:w1.heap.size<(w1.alloc (.cells #[.slice Ak lk ck,.slice Av lk cv,.slice Ac lc cc,Xu sz] 215)).heap.size:=by simp
 obtain⟨W1,jk⟩:=Ii (w1.alloc (.cells #[.slice Ak lk ck,.slice Av lk cv,.slice Ac lc cc,Xu sz] 215));rw[jk] at A1 p1 eb cx;have B1:=hb.trans (A1.mono hb.size);have t1:=(B1.block w.heap.size (by have:=HG.a.e;omega)).trans HG.a.b;have t2:=(B1.block (w.heap.size+1) (by have:=HG.a.e;omega)).trans HG.a.c;clear x0 x1;obtain⟨x0,x1⟩:=Fp t1;obtain⟨y0,y1,y2,y3⟩:=Fy p1;have c3:=eb.k.hrow;have g6:=nR (HI.a.below (HG.a.a.trans (B1.mono HG.a.a.size))) hx.fit.inv t (es:=Bn.es x) (vk:=.slice Ak lk ck) (vv:=.slice Av lk cv) (vc:=.slice Ac lc cc) (sz:=sz) c3 (by omega) i1 i2 e.k;unfold FH eC at g6;have iu:=If g6;have H1:=kq11 B1 p1 eb t1 t2 cx k2 ll bm ep dc;clear g6 rows eb hb A1 p1 B1 t1 t2 c3 ar hl cw i1 i2 cx bm hx hW dc;have rr:((i:Int)==40)=false:=by simp;omega
 have rt:¬(i:Int)=40:=by omega
 go_wp2_with fail;refine iu.out.mono ?_;rintro en w2 ⟨rfl,bs⟩;have p2:=(bs.block w1.heap.size H1.f).trans H1.b;have t2:=(bs.block w.heap.size (by have:=H1.a.size;have:=HG.a.e;omega)).trans H1.d;have u2:=(bs.block (w.heap.size+1) (by have:=H1.a.size;have:=HG.a.e;omega)).trans H1.e;have e6:=H1.c.below bs;clear x0 x1 y0 y1 y2 y3;obtain⟨x0,x1⟩:=Fp t2;obtain⟨y0,y1,y2,y3⟩:=Fy p2;obtain⟨z0,z1⟩:=Fp u2;have cm:=kq5 bs p2 t2 u2 e6;clear bs p2 t2 u2 e6 iu jk;obtain⟨k,hk⟩:∃k,Fr e.k (Bn.es x)=k:=⟨_,rfl⟩;obtain⟨he,kx⟩:=Ii (fo e.k (Bn.es x));rw[hk,kx];have ba:k<=lk:=by rw[<-hk,<-H1.g];exact kH _
 have HK:=If hk;clear hk kx;have js:eH w ps Z bt bl D t v w1.heap.size w2 S (fun k=>Z k\/(w.heap.size<=k/\k<w2.heap.size)) v L (.slice Ak lk ck) (.slice Av lk cv) (.slice Ac lc cc) sz (Bt.bn x).keys (Bt.bn x).vals (Bt.bn x).kids:=by
  obtain⟨⟨B0,q1,q2,q3,hz⟩,_⟩:=HG.out;obtain⟨B1,p1,eb,t1,tc,cx,k2,ll,bm,ep,dc⟩:=H1.out;obtain⟨bs,p2,t2,u2,e6⟩:=cm.out;obtain⟨h,hx,g3,sp,spare,fm,zb,zt,zv,hL,g4,gf,cd⟩:=HI.out;have s1:=B1.size;have s2:=bs.size;have e':Below w.heap.size w w2:=B0.trans ((B1.trans (bs.mono s1)).mono (by omega));have zl:=h.yl;have b':fN w2 (w.heap.size+3) (.slice Ak lk ck) (.slice Av lk cv) (.slice Ac lc cc) (Bt.bn x).keys (Bt.bn x).vals (Bt.bn x).kids:=e6.lift (by omega) fun g _ _=>rfl;refine⟨h.wide e',fun k hk=>aa hk,zl,⟨zb,zt,zv⟩,(Fo.of_below e' fun k hk=>zl k hk.1),sp.keeps fun k hk=>e'.block k (zl k ?_),rfl,p2,b',⟨ae ⟨by omega,by omega⟩,ae ⟨by omega,by omega⟩,ae ⟨by omega,by omega⟩⟩,fun g hg=>ae ?_,t2,(bs.block _ (by omega)).trans ((B1.block _ (by omega)).trans q3),by omega⟩
  ·rcases hk with rfl | rfl | hk
   ·exact zt
   ·exact zb
   ·exact zv _ hk
  ·rcases hg with hg | hg | hg
   ·have:=b'.k.block hg;exact⟨by omega,this.2.1⟩
   ·have:=b'.v.block hg;exact⟨by omega,this.2.1⟩
   ·have:=b'.c.block hg;exact⟨by omega,this.2.1⟩
 have HB:=If js;clear js
 go_upto_if 45 with fail
 go_cut [] from 18 (fun wc=>∃S' Y v' L' U x' vk vv vc,gQ w ps S o Z bt bl D t v L x e w1.heap.size wc S' Y v' L' U x' vk vv vc)
 case first=>
  as_aux_lemma=>
   by_cases hd0:d=0
   ·subst hd0;obtain rfl:lc=0:=by rw[<-H1.j,Bt.nil_of_zero (Bn.ks x)];rfl
    go_wp2_with fail;obtain⟨I,ai,al⟩:=ic fun w'=>w'.heap[w1.heap.size]?=w2.heap[w1.heap.size]?/\w'.heap[w.heap.size+1]?=w2.heap[w.heap.size+1]?;have au:=fun x:Fq I=>(ai _ x.ok).1.trans cm.b;have a8:=fun x:Fq I=>(ai _ x.ok).2.trans cm.d;obtain⟨m0,m1,m2,m3⟩:=iB au;obtain⟨n0,n1⟩:=fw a8;have bj:I w2.drew:=al _ ⟨rfl,rfl⟩;have d9:∀(w':World) (u1 u2:Value) (m1 m2:List Nat),fD w2 w' (w.heap.size+3) ps S (fun k=>Z k\/(w.heap.size<=k/\k<w2.heap.size)) (.slice Ak lk ck) (.slice Av lk cv) u1 u2 m1 m2->I w':=fun w' u1 u2 m1 m2 T=>al _ ⟨T.keep.block _ ⟨HB.out.lt,HB.out.ne.1,HB.out.ne.2.1⟩,T.keep.block _ ⟨by have:=HB.out.lt;have:=HB.out.at3;omega,fun q=>by have:=(HB.out.rows.k.block q).1;omega,fun q=>by have:=(HB.out.rows.v.block q).1;omega⟩⟩;have an:=If d9;clear d9;have d5:=If HB.out.two.drew;have HT:Hid (fy<w.heap.size+3):=If (by have:=ns HI.a;omega);have HN:Hid ((Bt.bn x).keys.length=lk/\(Bt.bn x).vals.length=lk):=If ⟨by rw[<-H1.g];unfold Bt.bn;rw[ao],by rw[<-H1.g];unfold Bt.bn;rw[ao]⟩;have o':lk<=31:=by rw[<-H1.g];exact HI.b.es.2.2
    clear ai al au a8;refine nG I (fun i=>[15,16,17].contains i) (.take 0 (.take 1 (.take 2 (.take 3 (.take 4 (.take 7 (.take 8 (.take 9 (.take 10 (.take 11 (.two 5 12 (.two 6 12 (.take 14 (.go 12 (.go 13 (.go 15 (.go 16 (.go 17 .nil)))))) (.go 6 (.take 14 (.go 13 (.go 15 (.go 16 (.go 17 .nil))))))) (.go 5 (.go 6 (.take 14 (.go 13 (.go 15 (.go 16 (.go 17 .nil)))))))))))))))))) (by kernel_rfl) (by kernel_rfl) bj ?_
    iterate 10
     refine' qT ?_ ?_;rotate_left
     ·intro x;go_simp
      try rfl
     try simp only[pu]
    have ee:∀c,(w2.drew.alloc c).heap.size=w2.heap.size+1:=fun c=>by simp
    refine Jh ?_ ?_
    ·skip
     refine qD fun K hK=>?_;go_simp;obtain⟨T1,x1,ch,ea,s1,b1⟩:=d5.out.one (e.kh)
     try go_simp
     refine hK.out _ _ (an.out _ _ _ _ _ T1) ?_;clear hK K
     try simp only[pu]
     refine Jh ?_ ?_
     ·skip
      refine qD fun K hK=>?_;go_simp;refine(T1.ins HT.out (by have:=T1.keep.size;have:=HB.out.lt;have:=HB.out.at3;omega) (by rw[HN.out.1];omega) (by rw[HN.out.1];exact ba) x1 ch).mono ?_;rintro en w4 ⟨u1,rfl,T2,o2⟩;obtain⟨A2,m2,c2,rfl⟩:=T2.own1.slice
      try go_simp
      refine hK.out _ _ (an.out _ _ _ _ _ T2) ?_;clear hK K
      try simp only[pu]
      refine' qT ?_ ?_;rotate_left
      ·intro x;go_simp
       try rfl
      try simp only[pu]
      refine qD fun K hK=>?_;go_simp;obtain⟨T3,x3,qv,hv,s3,b3⟩:=T2.one (e.vh)
      try go_simp
      refine hK.out _ _ (an.out _ _ _ _ _ T3) ?_;clear hK K
      try simp only[pu]
      refine qD fun K hK=>?_;go_simp;refine(T3.swap.ins HT.out (by have:=T3.keep.size;have:=HB.out.lt;have:=HB.out.at3;omega) (by rw[HN.out.2];omega) (by rw[HN.out.2];exact ba) x3 hv).mono ?_;rintro en w6 ⟨u2,rfl,T4,o4⟩;obtain⟨A4,m4,c4,rfl⟩:=T4.own1.slice;have T5:=T4.swap
      try go_simp
      refine hK.out _ _ (an.out _ _ _ _ _ T5) ?_;clear hK K
      try simp only[pu]
      obtain⟨g0,g1,g2⟩:=HB.out.grow T5;have f0:w6.frozen? ⟨w1.heap.size,0,none⟩=false:=AT g0;have d0:w6.cell? ⟨w1.heap.size,0,none⟩=some (.slice Ak lk ck):=by rw[cell_of_block g0];rfl
      have f1:(w6.setCell ⟨w1.heap.size,0,none⟩ (.slice A2 m2 c2)).frozen? ⟨w1.heap.size,1,none⟩=false:=AT g1;have d1:(w6.setCell ⟨w1.heap.size,0,none⟩ (.slice A2 m2 c2)).cell? ⟨w1.heap.size,1,none⟩=some (.slice Av lk cv):=by rw[cell_of_block g1];rfl
      have a9:=If g2;clear g0 g1 g2;refine qL fun K hK=>?_;go_simp
      try go_simp
      refine hK.out _ _ trivial ?_;clear hK K
      try simp only[pu]
      refine qL fun K hK=>?_;go_simp
      try go_simp
      refine hK.out _ _ trivial ?_;clear hK K
      try simp only[pu]
      refine qL fun K hK=>?_;go_simp
      try go_simp
      refine hK.out _ _ trivial ?_;clear hK K
      try simp only[pu]
      refine jd ?_;go_wp2_with fail
      go_meet
      case rel=>exact⟨S,_,v,L,[],Bt.leafPut x e,_,_,_,rJ HI.b HI.c HI.l hkh hvh HK.out H1.i.1 a9.out⟩
     ·skip
      refine qD fun K hK=>?_;go_simp;obtain⟨T2,x2,bo,cj,s2,b2⟩:=T1.one (e.vh);rw[ee] at x2 bo cj s2;have c8:=(b2.block _ s1).trans x1
      try go_simp
      refine hK.out _ _ (an.out _ _ _ _ _ T2) ?_;clear hK K
      try simp only[pu]
      refine qD fun K hK=>?_;go_simp;refine(T2.ins HT.out (by have:=T2.keep.size;have:=HB.out.lt;have:=HB.out.at3;omega) (by rw[HN.out.1];omega) (by rw[HN.out.1];exact ba) c8 ch).mono ?_;rintro en w5 ⟨u1,rfl,T3,o3⟩;have h':=(o3 _ s2 bo).trans x2;obtain⟨A2,m2,c2,rfl⟩:=T3.own1.slice
      try go_simp
      refine hK.out _ _ (an.out _ _ _ _ _ T3) ?_;clear hK K
      try simp only[pu]
      refine' qT ?_ ?_;rotate_left
      ·intro x;go_simp
       try rfl
      try simp only[pu]
      refine qD fun K hK=>?_;go_simp;refine(T3.swap.ins HT.out (by have:=T3.keep.size;have:=HB.out.lt;have:=HB.out.at3;omega) (by rw[HN.out.2];omega) (by rw[HN.out.2];exact ba) h' cj).mono ?_;rintro en w6 ⟨u2,rfl,T4,o4⟩;obtain⟨A4,m4,c4,rfl⟩:=T4.own1.slice;have T5:=T4.swap
      try go_simp
      refine hK.out _ _ (an.out _ _ _ _ _ T5) ?_;clear hK K
      try simp only[pu]
      obtain⟨g0,g1,g2⟩:=HB.out.grow T5;have f0:w6.frozen? ⟨w1.heap.size,0,none⟩=false:=AT g0;have d0:w6.cell? ⟨w1.heap.size,0,none⟩=some (.slice Ak lk ck):=by rw[cell_of_block g0];rfl
      have f1:(w6.setCell ⟨w1.heap.size,0,none⟩ (.slice A2 m2 c2)).frozen? ⟨w1.heap.size,1,none⟩=false:=AT g1;have d1:(w6.setCell ⟨w1.heap.size,0,none⟩ (.slice A2 m2 c2)).cell? ⟨w1.heap.size,1,none⟩=some (.slice Av lk cv):=by rw[cell_of_block g1];rfl
      have a9:=If g2;clear g0 g1 g2;refine qL fun K hK=>?_;go_simp
      try go_simp
      refine hK.out _ _ trivial ?_;clear hK K
      try simp only[pu]
      refine qL fun K hK=>?_;go_simp
      try go_simp
      refine hK.out _ _ trivial ?_;clear hK K
      try simp only[pu]
      refine qL fun K hK=>?_;go_simp
      try go_simp
      refine hK.out _ _ trivial ?_;clear hK K
      try simp only[pu]
      refine jd ?_;go_wp2_with fail
      go_meet
      case rel=>exact⟨S,_,v,L,[],Bt.leafPut x e,_,_,_,rJ HI.b HI.c HI.l hkh hvh HK.out H1.i.1 a9.out⟩
    ·skip
     refine qD fun K hK=>?_;go_simp;obtain⟨T1,x1,ch,ea,s1,b1⟩:=d5.out.one (e.vh)
     try go_simp
     refine hK.out _ _ (an.out _ _ _ _ _ T1) ?_;clear hK K
     try simp only[pu]
     refine qD fun K hK=>?_;go_simp;obtain⟨T2,x2,bo,cj,s2,b2⟩:=T1.one (e.kh);rw[ee] at x2 bo cj;have c8:=(b2.block _ s1).trans x1
     try go_simp
     refine hK.out _ _ (an.out _ _ _ _ _ T2) ?_;clear hK K
     try simp only[pu]
     refine qD fun K hK=>?_;go_simp;refine(T2.ins HT.out (by have:=T2.keep.size;have:=HB.out.lt;have:=HB.out.at3;omega) (by rw[HN.out.1];omega) (by rw[HN.out.1];exact ba) x2 bo).mono ?_;rintro en w5 ⟨u1,rfl,T3,o3⟩;have h9:=(o3 _ (Nat.lt_trans s1 s2) ch).trans c8;obtain⟨A2,m2,c2,rfl⟩:=T3.own1.slice
     try go_simp
     refine hK.out _ _ (an.out _ _ _ _ _ T3) ?_;clear hK K
     try simp only[pu]
     refine' qT ?_ ?_;rotate_left
     ·intro x;go_simp
      try rfl
     try simp only[pu]
     refine qD fun K hK=>?_;go_simp;refine(T3.swap.ins HT.out (by have:=T3.keep.size;have:=HB.out.lt;have:=HB.out.at3;omega) (by rw[HN.out.2];omega) (by rw[HN.out.2];exact ba) h9 ea).mono ?_;rintro en w6 ⟨u2,rfl,T4,o4⟩;obtain⟨A4,m4,c4,rfl⟩:=T4.own1.slice;have T5:=T4.swap
     try go_simp
     refine hK.out _ _ (an.out _ _ _ _ _ T5) ?_;clear hK K
     try simp only[pu]
     obtain⟨g0,g1,g2⟩:=HB.out.grow T5;have f0:w6.frozen? ⟨w1.heap.size,0,none⟩=false:=AT g0;have d0:w6.cell? ⟨w1.heap.size,0,none⟩=some (.slice Ak lk ck):=by rw[cell_of_block g0];rfl
     have f1:(w6.setCell ⟨w1.heap.size,0,none⟩ (.slice A2 m2 c2)).frozen? ⟨w1.heap.size,1,none⟩=false:=AT g1;have d1:(w6.setCell ⟨w1.heap.size,0,none⟩ (.slice A2 m2 c2)).cell? ⟨w1.heap.size,1,none⟩=some (.slice Av lk cv):=by rw[cell_of_block g1];rfl
     have a9:=If g2;clear g0 g1 g2;refine qL fun K hK=>?_;go_simp
     try go_simp
     refine hK.out _ _ trivial ?_;clear hK K
     try simp only[pu]
     refine qL fun K hK=>?_;go_simp
     try go_simp
     refine hK.out _ _ trivial ?_;clear hK K
     try simp only[pu]
     refine qL fun K hK=>?_;go_simp
     try go_simp
     refine hK.out _ _ trivial ?_;clear hK K
     try simp only[pu]
     refine jd ?_;go_wp2_with fail
     go_meet
     case rel=>exact⟨S,_,v,L,[],Bt.leafPut x e,_,_,_,rJ HI.b HI.c HI.l hkh hvh HK.out H1.i.1 a9.out⟩
   ·obtain⟨d,rfl⟩:∃d0,d=d0+1:=⟨d-1,by omega⟩;have ph:j4 d:=rec0 d rfl;have ep:lc=lk+1:=by rw[<-H1.j,<-H1.g];exact HI.b.ok.kids
    have r4:((lc:Int)==0)=false:=by simp;omega
    have r5:¬(lc:Int)=0:=by omega
    have ar:=HI.b.kid_lt HK.out;have d8:=fun(Y1:Nat->Prop) (W:World) Hd=>BG (Y1:=Y1) (wc:=W) (ps:=ps) (Z:=Z) (bt:=bt) (bl:=bl) (D:=D) (v:=v) (bN:=w1.heap.size) (w:=w) (vk:=.slice Ak lk ck) (vv:=.slice Av lk cv) (vc:=.slice Ac lc cc) (sz:=sz) (ks:=(Bt.bn x).keys) (vs:=(Bt.bn x).vals) (cs:=(Bt.bn x).kids) ph HI.b HI.c hid HI.e HI.f HI.j HI.k HI.l hkh hvh HI.m HK.out ar Hd;obtain⟨y,hy⟩:=Ii ((Bn.ks x)[k]);rw[hy] at d8;have em:=FD.at (f:=Bt.hd) (l:=Bn.ks x) (k:=k) HB.out.rows.c.hrow (af ar);rw[hy] at em;obtain⟨gc,oc,rfl,dk⟩:=em;have kd:=HB.out.rows.c.block (g:=gc) rfl;have kj:w.heap.size<=gc/\gc<w2.heap.size:=⟨by omega,kd.2.1⟩;clear kd;obtain⟨hh,bu⟩:=Ii (Bt.hd y);rw[bu] at d8 dk;have rx:(k:Int)<lc:=by have:=H1.j;omega
    unfold FH Id JB at d8;have HC:=If d8;have HY:=kq2 hy bu;clear d8 hy bu ep
    go_upto_region 7 with fail
    go_cut [17] from 18 (fun s17 wc=>∃b,s17=.pointer (some ⟨b,0,none⟩)/\Hid (∃r S4 Y4 v4 L4 U,jp w ps S o Z bt bl D t v L y e w1.heap.size (.slice Ak lk ck) (.slice Av lk cv) (.slice (some ⟨gc,oc,none⟩) lc cc) sz (Bt.bn x).keys (Bt.bn x).vals (Bt.bn x).kids b wc r S4 Y4 v4 L4 U))
    case first=>
     as_aux_lemma=>
      obtain⟨I,ai,al⟩:=ic fun w'=>∀k,w.heap.size<=k->k<w2.heap.size->w'.heap[k]?=w2.heap[k]?;have k3:=HB.out.lt;have h3:=HB.out.at3;have ml:=fun x:Fq I=>(ai _ x.ok w.heap.size (by omega) (by omega)).trans cm.c;have au:=fun x:Fq I=>(ai _ x.ok w1.heap.size (by omega) (by omega)).trans cm.b;have a8:=fun x:Fq I=>(ai _ x.ok (w.heap.size+1) (by omega) (by omega)).trans cm.d;obtain⟨p0,p1⟩:=fw ml;obtain⟨m0,m1,m2,m3⟩:=iB au;obtain⟨n0,n1⟩:=fw a8;have o0:∀x:Fq I,x.to.cell? ⟨gc,oc+k,none⟩=some (Xu hh):=fun x=>(j9 (ai _ x.ok gc kj.1 kj.2)).trans dk;have bj:I w2.drew:=al _ fun _ _ _=>rfl;have bd:=If al;have s7:IntKind.i64.wrap ((i:Int)+1)=(i:Int)+1:=aB _ (by omega);have rc:bl<w.heap.size:=HB.out.zl bl HB.out.zs.1;clear ai al ml au a8 k3 h3;refine nG I (fun i=>[13].contains i) (.take 0 (.take 1 (.take 2 (.take 3 (.take 4 (.take 5 (.take 6 (.take 7 (.take 8 (.take 9 (.take 10 (.two 11 12 (.go 12 (.go 13 .nil)) (.go 11 (.go 13 .nil)))))))))))))) (by kernel_rfl) (by kernel_rfl) bj ?_
      iterate 11
       refine' qT ?_ ?_;rotate_left
       ·intro x;go_simp
        try rfl
       try simp only[pu]
      refine Jh ?_ ?_
      ·skip
       refine qD fun K hK=>?_;go_simp;refine(HC.out _ _ (HB.out.below (ab _ w2).drew)).mono ?_;rintro en w4 ⟨r,S4,v4,L4,U,rfl,h4⟩;have H4:=If h4;clear h4;have hf:=H4.out.2.2.2.2.2.size;have d7:∀k,w.heap.size<=k->k<w2.heap.size->w4.heap[k]?=w2.heap[k]?:=fun k h1 h2=>H4.out.2.2.2.2.2.block k ⟨aa (ae ⟨h1,h2⟩),by omega⟩;have cn:=If d7;clear d7
       rcases r with _ | ⟨m,g⟩
       ·dsimp only[ky,iQ]
        try go_simp
        refine hK.out _ _ (bd.out _ cn.out) ?_;clear hK K
        try simp only[pu]
        refine qD fun K hK=>?_;go_simp
        try go_simp
        refine hK.out _ _ (bd.out _ fun k h1 h2=>((ab _ w4).alloc Ih _ |>.block k (aX h2 hf)).trans (cn.out k h1 h2)) ?_;clear hK K
        try simp only[pu]
        refine qL fun K hK=>?_;go_simp
        try go_simp
        refine hK.out _ _ trivial ?_;clear hK K
        try simp only[pu]
        refine jd ?_;go_wp2_with fail
        go_meet
        case rel=>exact⟨_,rfl,If ⟨_,_,_,_,_,_,jp.new H4.out⟩⟩
       ·dsimp only[ky,iQ]
        try go_simp
        refine hK.out _ _ (bd.out _ cn.out) ?_;clear hK K
        try simp only[pu]
        refine qD fun K hK=>?_;go_simp
        try go_simp
        refine hK.out _ _ (bd.out _ fun k h1 h2=>((ab _ w4).alloc Ih _ |>.block k (aX h2 hf)).trans (cn.out k h1 h2)) ?_;clear hK K
        try simp only[pu]
        refine qL fun K hK=>?_;go_simp
        try go_simp
        refine hK.out _ _ trivial ?_;clear hK K
        try simp only[pu]
        refine jd ?_;go_wp2_with fail
        go_meet
        case rel=>exact⟨_,rfl,If ⟨_,_,_,_,_,_,jp.new H4.out⟩⟩
      ·skip
       refine qD fun K hK=>?_;go_simp;have b3:=((ab w2.heap.size w2).drew).alloc Ih (.cells #[.bool false,Xu 0,Xu 0,Xu 0] 274)
       try go_simp
       refine hK.out _ _ (bd.out _ fun k h1 h2=>b3.block k h2) ?_;clear hK K
       try simp only[pu]
       refine qD fun K hK=>?_;go_simp;refine(HC.out _ _ (HB.out.below b3)).mono ?_;rintro en w4 ⟨r,S4,v4,L4,U,rfl,h4⟩;have H4:=If h4;clear h4;have hf:=H4.out.2.2.2.2.2.size;have d7:∀k,w.heap.size<=k->k<w2.heap.size->w4.heap[k]?=w2.heap[k]?:=fun k h1 h2=>(H4.out.2.2.2.2.2.block k ⟨aa (ae ⟨h1,h2⟩),by omega⟩).trans (b3.block k h2);have e4:w4.heap[w2.heap.size]?=some (.cells #[.bool false,Xu 0,Xu 0,Xu 0] 274 (0,0)):=(H4.out.2.2.2.2.2.block w2.heap.size ⟨ae ⟨Nat.le_refl _,by simp⟩,by have:=HB.out.lt;have:=HB.out.at3;omega⟩).trans (heap_alloc_new w2.drew _);have cn:=If d7;clear d7;obtain⟨x0,x1,x2,x3⟩:=Fy e4;obtain⟨f0,f1,f2,f3⟩:=fO e4;have ib:=If e4;clear e4
       rcases r with _ | ⟨m,g⟩
       ·dsimp only[ky,iQ]
        try go_simp
        refine hK.out _ _ (bd.out _ cn.out) ?_;clear hK K
        try simp only[pu]
        refine qL fun K hK=>?_;go_simp
        try go_simp
        refine hK.out _ _ trivial ?_;clear hK K
        try simp only[pu]
        refine jd ?_;go_wp2_with fail
        go_meet
        case rel=>exact⟨_,rfl,If ⟨_,_,_,_,_,_,jp.set H4.out (ae ⟨Nat.le_refl _,by simp⟩) (by have:=HB.out.lt;have:=HB.out.at3;omega) ib.out rfl⟩⟩
       ·dsimp only[ky,iQ]
        try go_simp
        refine hK.out _ _ (bd.out _ cn.out) ?_;clear hK K
        try simp only[pu]
        refine qL fun K hK=>?_;go_simp
        try go_simp
        refine hK.out _ _ trivial ?_;clear hK K
        try simp only[pu]
        refine jd ?_;go_wp2_with fail
        go_meet
        case rel=>exact⟨_,rfl,If ⟨_,_,_,_,_,_,jp.set H4.out (ae ⟨Nat.le_refl _,by simp⟩) (by have:=HB.out.lt;have:=HB.out.at3;omega) ib.out rfl⟩⟩
    case rest=>
     obtain⟨b,rfl,HU⟩:=hcut;obtain⟨r,S4,Y4,v4,L4,U,U1⟩:=HU.out;clear HU cm HC x0 x1 y0 y1 y2 y3 z0 z1 dk
     rcases r with _ | ⟨m,g⟩
     ·have up:=U1.up;unfold iQ at up
      dsimp only at up
      obtain⟨x0,x1,x2,x3⟩:=Fy up;have ad:=If U1;clear up U1;go_wp2_with fail
      go_meet
      case rel=>
       obtain⟨hy,bu⟩:=HY.out;have U1:=ad.out;subst hy;obtain⟨x',M⟩:=Db HI.b HI.c HI.l hkh hvh HI.f HK.out ar H1.i.1 U1.sum U1.put U1.num U1.all U1.held;exact⟨_,_,_,_,_,x',_,_,_,M⟩
     ·have up:=U1.up;unfold iQ at up
      dsimp only at up
      obtain⟨x0,x1,x2,x3⟩:=Fy up;have iv:=If up;have ad:=If U1;clear up U1
      go_upto_region 9 with fail
      go_cut [] from 18 (fun wd=>Hid (wd.heap[b]?=some (.cells #[.bool true,Xu m.kh,Xu m.vh,Xu g] 274 (0,0))/\∃Y5 A2 m2 c2 A4 m4 c4,eH w ps Z bt bl D t v w1.heap.size wd S4 Y5 v4 L4 (.slice A2 m2 c2) (.slice A4 m4 c4) (.slice (some ⟨gc,oc,none⟩) lc cc) sz ((Bt.bn x).keys.take k++m.kh::(Bt.bn x).keys.drop k) ((Bt.bn x).vals.take k++m.vh::(Bt.bn x).vals.drop k) (Bt.bn x).kids))
      case first=>
       as_aux_lemma=>
        obtain⟨I,ai,al⟩:=ic fun w'=>w'.heap[w1.heap.size]?=wc.heap[w1.heap.size]?/\w'.heap[b]?=wc.heap[b]?;have au:=fun x:Fq I=>(ai _ x.ok).1.trans ad.out.held.box;have a8:=fun x:Fq I=>(ai _ x.ok).2.trans iv.out;obtain⟨m0,m1,m2,m3⟩:=iB au;obtain⟨n0,n1,n2,n3⟩:=iB a8;have bj:I wc.drew:=al _ ⟨rfl,rfl⟩;have d9:∀(w':World) (u1 u2:Value) (l1 l2:List Nat),fD wc w' (w.heap.size+3) ps S4 Y4 (.slice Ak lk ck) (.slice Av lk cv) u1 u2 l1 l2->I w':=fun w' u1 u2 l1 l2 T=>al _ ⟨T.keep.block _ ⟨ad.out.held.lt,ad.out.held.ne.1,ad.out.held.ne.2.1⟩,T.keep.block _ ⟨ad.out.ne.1,ad.out.ne.2.1,ad.out.ne.2.2.1⟩⟩;have an:=If d9;have e8:Hid (∀(w':World) (u1 u2:Value) (l1 l2:List Nat),fD wc w' (w.heap.size+3) ps S4 Y4 (.slice Ak lk ck) (.slice Av lk cv) u1 u2 l1 l2->∀z1 z2,((w'.setCell ⟨w1.heap.size,0,none⟩ z1).setCell ⟨w1.heap.size,1,none⟩ z2).heap[b]?=some (.cells #[.bool true,Xu m.kh,Xu m.vh,Xu g] 274 (0,0))):=If fun w' u1 u2 l1 l2 T z1 z2=>((FB ad.out.ne.2.2.2.2).trans (FB ad.out.ne.2.2.2.2)).trans ((T.keep.block _ ⟨ad.out.ne.1,ad.out.ne.2.1,ad.out.ne.2.2.1⟩).trans iv.out);have d5:=If ad.out.held.two.drew;have HT:Hid (fy<w.heap.size+3):=If (by have:=ns HI.a;omega);have HN:Hid ((Bt.bn x).keys.length=lk/\(Bt.bn x).vals.length=lk):=If ⟨by rw[<-H1.g];unfold Bt.bn;rw[ao],by rw[<-H1.g];unfold Bt.bn;rw[ao]⟩;have o':lk<=31:=by rw[<-H1.g];exact HI.b.es.2.2
        clear ai al au a8 d9;refine nG I (fun i=>[17,18,19].contains i) (.take 0 (.take 1 (.take 2 (.take 3 (.take 4 (.take 5 (.take 8 (.take 9 (.take 10 (.take 11 (.take 12 (.take 13 (.two 6 14 (.two 7 14 (.take 16 (.go 14 (.go 15 (.go 17 (.go 18 (.go 19 .nil)))))) (.go 7 (.take 16 (.go 15 (.go 17 (.go 18 (.go 19 .nil))))))) (.go 6 (.go 7 (.take 16 (.go 15 (.go 17 (.go 18 (.go 19 .nil)))))))))))))))))))) (by kernel_rfl) (by kernel_rfl) bj ?_
        iterate 12
         refine' qT ?_ ?_;rotate_left
         ·intro x;go_simp
          try rfl
         try simp only[pu]
        have ee:∀c,(wc.drew.alloc c).heap.size=wc.heap.size+1:=fun c=>by simp
        refine Jh ?_ ?_
        ·skip
         refine qD fun K hK=>?_;go_simp;obtain⟨T1,x1,ch,ea,s1,b1⟩:=d5.out.one (m.kh)
         try go_simp
         refine hK.out _ _ (an.out _ _ _ _ _ T1) ?_;clear hK K
         try simp only[pu]
         refine Jh ?_ ?_
         ·skip
          refine qD fun K hK=>?_;go_simp;refine(T1.ins HT.out (by have:=T1.keep.size;have:=ad.out.held.lt;have:=ad.out.held.at3;omega) (by rw[HN.out.1];omega) (by rw[HN.out.1];exact ba) x1 ch).mono ?_;rintro en w4 ⟨u1,rfl,T2,o2⟩;obtain⟨A2,m2,c2,rfl⟩:=T2.own1.slice
          try go_simp
          refine hK.out _ _ (an.out _ _ _ _ _ T2) ?_;clear hK K
          try simp only[pu]
          refine' qT ?_ ?_;rotate_left
          ·intro x;go_simp
           try rfl
          try simp only[pu]
          refine qD fun K hK=>?_;go_simp;obtain⟨T3,x3,qv,hv,s3,b3⟩:=T2.one (m.vh)
          try go_simp
          refine hK.out _ _ (an.out _ _ _ _ _ T3) ?_;clear hK K
          try simp only[pu]
          refine qD fun K hK=>?_;go_simp;refine(T3.swap.ins HT.out (by have:=T3.keep.size;have:=ad.out.held.lt;have:=ad.out.held.at3;omega) (by rw[HN.out.2];omega) (by rw[HN.out.2];exact ba) x3 hv).mono ?_;rintro en w6 ⟨u2,rfl,T4,o4⟩;obtain⟨A4,m4,c4,rfl⟩:=T4.own1.slice;have T5:=T4.swap
          try go_simp
          refine hK.out _ _ (an.out _ _ _ _ _ T5) ?_;clear hK K
          try simp only[pu]
          obtain⟨g0,g1,g2⟩:=ad.out.held.grow T5;have f0:w6.frozen? ⟨w1.heap.size,0,none⟩=false:=AT g0;have d0:w6.cell? ⟨w1.heap.size,0,none⟩=some (.slice Ak lk ck):=by rw[cell_of_block g0];rfl
          have f1:(w6.setCell ⟨w1.heap.size,0,none⟩ (.slice A2 m2 c2)).frozen? ⟨w1.heap.size,1,none⟩=false:=AT g1;have d1:(w6.setCell ⟨w1.heap.size,0,none⟩ (.slice A2 m2 c2)).cell? ⟨w1.heap.size,1,none⟩=some (.slice Av lk cv):=by rw[cell_of_block g1];rfl
          have a9:=If g2;have d6:=If (e8.out _ _ _ _ _ T5 (.slice A2 m2 c2) (.slice A4 m4 c4));clear g0 g1 g2;refine qL fun K hK=>?_;go_simp
          try go_simp
          refine hK.out _ _ trivial ?_;clear hK K
          try simp only[pu]
          refine qL fun K hK=>?_;go_simp
          try go_simp
          refine hK.out _ _ trivial ?_;clear hK K
          try simp only[pu]
          refine qL fun K hK=>?_;go_simp
          try go_simp
          refine hK.out _ _ trivial ?_;clear hK K
          try simp only[pu]
          refine jd ?_;go_wp2_with fail
          go_meet
          case rel=>exact If ⟨d6.out,_,A2,m2,c2,A4,m4,c4,a9.out⟩
         ·skip
          refine qD fun K hK=>?_;go_simp;obtain⟨T2,x2,bo,cj,s2,b2⟩:=T1.one (m.vh);rw[ee] at x2 bo cj s2;have c8:=(b2.block _ s1).trans x1
          try go_simp
          refine hK.out _ _ (an.out _ _ _ _ _ T2) ?_;clear hK K
          try simp only[pu]
          refine qD fun K hK=>?_;go_simp;refine(T2.ins HT.out (by have:=T2.keep.size;have:=ad.out.held.lt;have:=ad.out.held.at3;omega) (by rw[HN.out.1];omega) (by rw[HN.out.1];exact ba) c8 ch).mono ?_;rintro en w5 ⟨u1,rfl,T3,o3⟩;have h':=(o3 _ s2 bo).trans x2;obtain⟨A2,m2,c2,rfl⟩:=T3.own1.slice
          try go_simp
          refine hK.out _ _ (an.out _ _ _ _ _ T3) ?_;clear hK K
          try simp only[pu]
          refine' qT ?_ ?_;rotate_left
          ·intro x;go_simp
           try rfl
          try simp only[pu]
          refine qD fun K hK=>?_;go_simp;refine(T3.swap.ins HT.out (by have:=T3.keep.size;have:=ad.out.held.lt;have:=ad.out.held.at3;omega) (by rw[HN.out.2];omega) (by rw[HN.out.2];exact ba) h' cj).mono ?_;rintro en w6 ⟨u2,rfl,T4,o4⟩;obtain⟨A4,m4,c4,rfl⟩:=T4.own1.slice;have T5:=T4.swap
          try go_simp
          refine hK.out _ _ (an.out _ _ _ _ _ T5) ?_;clear hK K
          try simp only[pu]
          obtain⟨g0,g1,g2⟩:=ad.out.held.grow T5;have f0:w6.frozen? ⟨w1.heap.size,0,none⟩=false:=AT g0;have d0:w6.cell? ⟨w1.heap.size,0,none⟩=some (.slice Ak lk ck):=by rw[cell_of_block g0];rfl
          have f1:(w6.setCell ⟨w1.heap.size,0,none⟩ (.slice A2 m2 c2)).frozen? ⟨w1.heap.size,1,none⟩=false:=AT g1;have d1:(w6.setCell ⟨w1.heap.size,0,none⟩ (.slice A2 m2 c2)).cell? ⟨w1.heap.size,1,none⟩=some (.slice Av lk cv):=by rw[cell_of_block g1];rfl
          have a9:=If g2;have d6:=If (e8.out _ _ _ _ _ T5 (.slice A2 m2 c2) (.slice A4 m4 c4));clear g0 g1 g2;refine qL fun K hK=>?_;go_simp
          try go_simp
          refine hK.out _ _ trivial ?_;clear hK K
          try simp only[pu]
          refine qL fun K hK=>?_;go_simp
          try go_simp
          refine hK.out _ _ trivial ?_;clear hK K
          try simp only[pu]
          refine qL fun K hK=>?_;go_simp
          try go_simp
          refine hK.out _ _ trivial ?_;clear hK K
          try simp only[pu]
          refine jd ?_;go_wp2_with fail
          go_meet
          case rel=>exact If ⟨d6.out,_,A2,m2,c2,A4,m4,c4,a9.out⟩
        ·skip
         refine qD fun K hK=>?_;go_simp;obtain⟨T1,x1,ch,ea,s1,b1⟩:=d5.out.one (m.vh)
         try go_simp
         refine hK.out _ _ (an.out _ _ _ _ _ T1) ?_;clear hK K
         try simp only[pu]
         refine qD fun K hK=>?_;go_simp;obtain⟨T2,x2,bo,cj,s2,b2⟩:=T1.one (m.kh);rw[ee] at x2 bo cj;have c8:=(b2.block _ s1).trans x1
         try go_simp
         refine hK.out _ _ (an.out _ _ _ _ _ T2) ?_;clear hK K
         try simp only[pu]
         refine qD fun K hK=>?_;go_simp;refine(T2.ins HT.out (by have:=T2.keep.size;have:=ad.out.held.lt;have:=ad.out.held.at3;omega) (by rw[HN.out.1];omega) (by rw[HN.out.1];exact ba) x2 bo).mono ?_;rintro en w5 ⟨u1,rfl,T3,o3⟩;have h9:=(o3 _ (Nat.lt_trans s1 s2) ch).trans c8;obtain⟨A2,m2,c2,rfl⟩:=T3.own1.slice
         try go_simp
         refine hK.out _ _ (an.out _ _ _ _ _ T3) ?_;clear hK K
         try simp only[pu]
         refine' qT ?_ ?_;rotate_left
         ·intro x;go_simp
          try rfl
         try simp only[pu]
         refine qD fun K hK=>?_;go_simp;refine(T3.swap.ins HT.out (by have:=T3.keep.size;have:=ad.out.held.lt;have:=ad.out.held.at3;omega) (by rw[HN.out.2];omega) (by rw[HN.out.2];exact ba) h9 ea).mono ?_;rintro en w6 ⟨u2,rfl,T4,o4⟩;obtain⟨A4,m4,c4,rfl⟩:=T4.own1.slice;have T5:=T4.swap
         try go_simp
         refine hK.out _ _ (an.out _ _ _ _ _ T5) ?_;clear hK K
         try simp only[pu]
         obtain⟨g0,g1,g2⟩:=ad.out.held.grow T5;have f0:w6.frozen? ⟨w1.heap.size,0,none⟩=false:=AT g0;have d0:w6.cell? ⟨w1.heap.size,0,none⟩=some (.slice Ak lk ck):=by rw[cell_of_block g0];rfl
         have f1:(w6.setCell ⟨w1.heap.size,0,none⟩ (.slice A2 m2 c2)).frozen? ⟨w1.heap.size,1,none⟩=false:=AT g1;have d1:(w6.setCell ⟨w1.heap.size,0,none⟩ (.slice A2 m2 c2)).cell? ⟨w1.heap.size,1,none⟩=some (.slice Av lk cv):=by rw[cell_of_block g1];rfl
         have a9:=If g2;have d6:=If (e8.out _ _ _ _ _ T5 (.slice A2 m2 c2) (.slice A4 m4 c4));clear g0 g1 g2;refine qL fun K hK=>?_;go_simp
         try go_simp
         refine hK.out _ _ trivial ?_;clear hK K
         try simp only[pu]
         refine qL fun K hK=>?_;go_simp
         try go_simp
         refine hK.out _ _ trivial ?_;clear hK K
         try simp only[pu]
         refine qL fun K hK=>?_;go_simp
         try go_simp
         refine hK.out _ _ trivial ?_;clear hK K
         try simp only[pu]
         refine jd ?_;go_wp2_with fail
         go_meet
         case rel=>exact If ⟨d6.out,_,A2,m2,c2,A4,m4,c4,a9.out⟩
      case rest=>
       obtain⟨up,Y5,A2,m2,c2,A4,m4,c4,H5⟩:=hcut.out;clear hcut x0 x1 x2 x3;have i3:=H5.box;obtain⟨x0,x1,x2,x3⟩:=Fy up;obtain⟨y0,y1,y2,y3⟩:=Fy i3;have b6:=(ab _ wc).alloc Ih (Xf g);have H6:=H5.below b6;have x6:=heap_alloc_new wc (Xf g);have n6:(Value.slice (some ⟨gc,oc,none⟩) lc cc).ownBlock≠some wc.heap.size:=fun q=>by have:=(H5.rows.c.block q).2.1;omega
       have o7:(Bt.bn x).kids.length=lc:=by rw[<-H1.j];unfold Bt.bn;rw[ao]
       have o9:lc<=32:=by
        have h1:=HI.b.es.2.2;have h2:=HI.b.ok.kids;have h3:=H1.j;omega
       have cw:=uT H6.st H6.rows.c (fun g hg=>H6.yk g (ae (ae hg))) (by have:=ns HI.a;omega) (by omega) (i:=k+1) (by omega) x6 n6 (by have:=H6.lt;have:=H6.at3;omega);have e1:((k+1:Nat):Int)=(k:Int)+1:=by omega
       rw[e1] at cw;have s9:IntKind.i64.wrap ((k:Int)+1)=(k:Int)+1:=aB _ (by omega);have n4:=If cw;have nv:=If H6;have q6:=If up;clear cw H6 H5 i3 up x6 n6 o7 o9 e1 b6;go_wp2_with fail;refine n4.out.mono ?_;rintro en w7 ⟨u3,rfl,I7⟩;obtain⟨A7,m7,c7,rfl⟩:=I7.own.slice;obtain⟨g0,g2⟩:=nv.out.grow3 I7;have f2:w7.frozen? ⟨w1.heap.size,2,none⟩=false:=AT g0;have d2:w7.cell? ⟨w1.heap.size,2,none⟩=some (.slice (some ⟨gc,oc,none⟩) lc cc):=by rw[cell_of_block g0];rfl
       have a9:=If g2;clear g0 g2 I7 x0 x1 x2 x3 y0 y1 y2 y3;go_wp2_with fail
       go_meet
       case rel=>
        obtain⟨hy,bu⟩:=HY.out;have U1:=ad.out;subst hy;obtain⟨x',M⟩:=Dc HI.b HI.c HI.l hkh hvh HI.f HK.out ar H1.i.1 U1.sum U1.put U1.num U1.all a9.out;exact⟨_,_,_,_,_,x',_,_,_,M⟩
 case rest=>
  obtain⟨S',Y,v',L',U,x',vk,vv,vc,M⟩:=hcut;have hp:=M.putting;have c3:=M.held.rows;obtain⟨K1,k1,i'⟩:=c3.k.slice2;obtain⟨V1,l1,jj⟩:=c3.v.slice2;obtain⟨C1,j1,i4⟩:=c3.c.slice2;rw[hp.2.2.2.2.1] at i';rw[hp.2.2.2.2.2.1] at jj;rw[hp.2.2.2.2.2.2] at i4;subst i' jj i4;obtain⟨sz,ca⟩:=Ii (Bt.its x).length;obtain⟨n,hn⟩:=Ii (Bn.es x').length;obtain⟨c,hc⟩:=Ii (Bn.ks x').length;have Hd:=M.held;rw[ca,hn,hc] at Hd;have hb:=Hd.box;have cd:=Hd.tree;have s0:sz<1000000:=by rw[<-ca];exact HI.b.few
  have r8:n<=2*t:=by rw[<-hn];exact M.mid.okN.1
  have c5:=HI.b.t2;have cb:=HI.b.t1;clear x0 x1 y0 y1 y2 y3 z0 z1;obtain⟨x0,x1⟩:=Fp cd;obtain⟨y0,y1,y2,y3⟩:=Fy hb;obtain⟨f0,f1,f2,f3⟩:=fO hb;have l':IntKind.u64.wrap ((sz:Int)+1)=(sz:Int)+1:=cJ _ (by omega);have HM:=kq4 M ca hn hc;have HD:=If Hd;clear M Hd hp c3 ca hn hc hb cd
  go_upto_region 11 with fail
  go_cut [] from 18 (fun wd=>Hid (eH w ps Z bt bl D t v w1.heap.size wd S' Y v' L' (.slice K1 n k1) (.slice V1 n l1) (.slice C1 c j1) (sz+1) (Bt.bn x').keys (Bt.bn x').vals (Bt.bn x').kids))
  case first=>
   as_aux_lemma=>
    go_wp2_with fail
    go_meet
    case rel=>
     have h:=HD.out.size (sz+1);have e1:((sz+1:Nat):Int)=(sz:Int)+1:=by omega
     rw[e1] at h;exact If h
  case rest=>
   have hb:=hcut.out.box;have cd:=hcut.out.tree;have pk:=hcut.out.res;clear HD x0 x1 y0 y1 y2 y3 f0 f1 f2 f3 l';have e1:((sz+1:Nat):Int)=(sz:Int)+1:=by omega
   rw[e1] at hb;obtain⟨x0,x1⟩:=Fp cd;obtain⟨y0,y1,y2,y3⟩:=Fy hb;have s6:IntKind.i64.wrap (2*(t:Int))=2*(t:Int):=aB _ (by omega);clear hb cd pk
   by_cases k3:n<2*t
   ·have pa:(n:Int)<2*t:=by omega
    have b4:Ct 212 #[PV ps,Xi t,Xu (Bt.hd x:Nat),eC (.slice K1 n k1) (.slice V1 n l1) (.slice C1 c j1) (Bt.bn x').size] wc fun e w'=>e=.returned (Xi 0)/\Ig w' ps (FC S' (Bn.h x) 0 (bnWords t (Bt.bn x'))) Y/\Fo Y wc w':=by
     obtain⟨M,ca,hn,hc⟩:=HM.out;obtain⟨p1,p2,p3,p4,p5,p6,p7⟩:=M.putting;exact Jg hcut.out.st p1 (Bt.bnok_of M.mid.fit cb c5 M.mid.kids (M.mid.okN.ok (by omega))) hcut.out.rows.k.hrow hcut.out.rows.v.hrow hcut.out.rows.c.hrow (Bn.h x) p3 p2 (kX M.mid.lt (by omega))
    have dc:(Bt.bn x').size=sz+1:=by
     obtain⟨M,ca,hn,hc⟩:=HM.out;exact M.putting.2.2.2.1.trans (by rw[ca])
    rw[dc] at b4;unfold eC at b4;rw[e1] at b4;have HP:=If b4;clear b4 dc e1;go_wp2_with fail;refine HP.out.mono ?_;rintro en w3 ⟨rfl,ed,d4⟩;have H3:=hcut.out.kid ed (d4.mono fun k hk=>hk.1) (hcut.out.sp.keeps fun k hk=>d4.block k (hcut.out.zy k (hcut.out.spz k hk))) rfl;have b':=H3.res;clear x0 x1 y0 y1 y2 y3;obtain⟨x0,x1,x2,x3⟩:=Fy b';obtain⟨f0,f1,f2,f3⟩:=fO b';have H3:=kq2 H3 b';clear b' ed d4;go_wp2_with fail;obtain⟨WF,cr⟩:=Ii ((((w3.setCell ⟨w.heap.size+1+1,0,none⟩ (.bool false)).setCell ⟨w.heap.size+1+1,1,none⟩ (Xu 0)).setCell ⟨w.heap.size+1+1,2,none⟩ (Xu 0)).setCell ⟨w.heap.size+1+1,3,none⟩ (Xu 0));rw[cr];have HF:=H3.a.fin H3.b (.bool false) (Xu 0) (Xu 0) (Xu 0) WF cr.symm;clear cr x0 x1 x2 x3 f0 f1 f2 f3;have e4:=HF.2.2.2;obtain⟨q0,q1,q2,q3⟩:=Fy e4;obtain⟨M,ca,hn,hc⟩:=HM.out;have bb:¬(Bn.es x').length=2*t:=by omega
    have k7:=M.num;have jn:=M.all;rw[if_neg bb] at k7;rw[decide_eq_false bb] at jn;exact bodyPost_ret (v:=.agg #[.bool false,Xu 0,Xu 0,Xu 0]) (by simp[results,f182,go_sem,q0,q1,q2,q3]) rfl ⟨none,_,v',L',U,rfl,M.sum,M.mid.put c5 (by omega),HF.1,HF.2.1,HF.2.2.1,M.held.own,k7,jn⟩
   ·have pa:¬(n:Int)<2*t:=by omega
    have bb:n=2*t:=by omega
    have ar:(Bt.bn x').keys.length=n/\(Bt.bn x').vals.length=n/\(Bt.bn x').kids.length=c:=by
     obtain⟨M,ca,hn,hc⟩:=HM.out;obtain⟨p1,p2,p3,p4,p5,p6,p7⟩:=M.putting;exact⟨by omega,by omega,by omega⟩
    have pn:∃b cc,(Value.slice K1 n k1)=.slice (some ⟨b,0,none⟩) n cc/\n<=cc:=by
     have:=hcut.out.rows.k.some (by omega);rwa[ar.1] at this
    have po:∃b cc,(Value.slice V1 n l1)=.slice (some ⟨b,0,none⟩) n cc/\n<=cc:=by
     have:=hcut.out.rows.v.some (by omega);rwa[ar.2.1] at this
    obtain⟨bk,q9,ek,dn⟩:=pn;obtain⟨bv,q',ev,dp⟩:=po
    injection ek with ek1 _ ek2
    injection ev with ev1 _ ev2
    subst ek1 ek2 ev1 ev2;have s4:t+1<=n:=by omega
    have bf:=kq2 bb ar;clear bb ar e1;have a1:(t:Int)<=k1:=by omega
    have a2:(t:Int)<=l1:=by omega
    have a3:(t:Int)+1<=n:=by omega
    have a4:0<=(t:Int)+1:=by omega
    have a6:¬k1=t+1:=by omega
    have a7:¬l1=t+1:=by omega
    have a5:((t:Int)+1).toNat=t+1:=by omega
    have s':IntKind.i64.wrap ((t:Int)+1)=(t:Int)+1:=aB _ (by omega);have rk:(t:Int)+1<=k1:=by omega
    have rh:(t:Int)+1<=l1:=by omega
    obtain⟨wp,rfl⟩:∃z,z=wc:=⟨wc,rfl⟩;have HC:=hcut;clear hcut
    go_upto_region 15 with fail
    go_cut [18,19] from 20 (fun s18 s19 wd=>∃bL bR,s18=.pointer (some ⟨bL,0,none⟩)/\s19=.pointer (some ⟨bR,0,none⟩)/\Hid (eV wp wd ps S' Y bL bR #[.slice (some ⟨bk,0,none⟩) t k1,.slice (some ⟨bv,0,none⟩) t l1,.slice none 0 0,Xu 0] #[.slice (some ⟨bk,t+1,none⟩) (n-(t+1)) (k1-(t+1)),.slice (some ⟨bv,t+1,none⟩) (n-(t+1)) (l1-(t+1)),.slice none 0 0,Xu 0]))
    case first=>
     as_aux_lemma=>
      obtain⟨I,ai,al⟩:=ic fun w'=>w'.heap[w1.heap.size]?=wp.heap[w1.heap.size]?/\w'.heap[w.heap.size]?=wp.heap[w.heap.size]?;have hb:=HC.out.box;have e1:((sz+1:Nat):Int)=(sz:Int)+1:=by omega
      rw[e1] at hb;have au:=fun x:Fq I=>(ai _ x.ok).1.trans hb;have a8:=fun x:Fq I=>(ai _ x.ok).2.trans HC.out.tree;obtain⟨m0,m1,m2,m3⟩:=iB au;obtain⟨p0,p1⟩:=fw a8;have bj:I wp.drew:=al _ ⟨rfl,rfl⟩;have b1:=fun q=>((ab wp.heap.size wp).drew).alloc Ih (.cells q 215);have b2:=fun q q2=>(b1 q).alloc (by simp) (.cells q2 215);have i5:∀q,I (wp.drew.alloc (.cells q 215)):=fun q=>al _ ⟨(b1 q).block _ HC.out.lt,(b1 q).block _ (by have:=HC.out.lt;have:=HC.out.at3;omega)⟩;have i6:∀q q2,I ((wp.drew.alloc (.cells q 215)).alloc (.cells q2 215)):=fun q q2=>al _ ⟨(b2 q q2).block _ HC.out.lt,(b2 q q2).block _ (by have:=HC.out.lt;have:=HC.out.at3;omega)⟩;have ih:=If i5;have c':=If i6;clear ai al au a8 hb e1 b1 b2 i5 i6;refine fh I (.take 0 (.take 1 (.take 2 (.take 3 (.take 4 (.take 5 (.take 6 (.take 7 (.take 8 (.take 9 (.take 10 (.take 11 (.take 12 (.take 13 (.take 14 (.take 15 (.take 16 (.take 17 (.take 18 (.take 19 (.take 20 (.take 21 (.take 22 (.take 23 (.two 24 25 (.go 25 (.go 26 (.go 27 .nil))) (.go 24 (.go 26 (.go 27 .nil)))))))))))))))))))))))))))) (by kernel_rfl) (by kernel_rfl) bj ?_
      iterate 24
       refine' pT ?_ ?_;rotate_left
       ·intro x;go_simp
        try rfl
       try simp only[pu]
      refine gL ?_ ?_
      ·skip
       refine pD fun K hK=>?_;go_simp
       try go_simp
       refine hK.out _ _ (ih.out _) ?_;clear hK K
       try simp only[pu]
       refine pD fun K hK=>?_;go_simp
       try go_simp
       refine hK.out _ _ (c'.out _ _) ?_;clear hK K
       try simp only[pu]
       refine pD fun K hK=>?_;go_simp
       try go_simp
       refine hK.out _ _ (c'.out _ _) ?_;clear hK K
       try simp only[pu]
       refine pD fun K hK=>?_;go_simp
       try go_simp
       refine hK.out _ _ (c'.out _ _) ?_;clear hK K
       try simp only[pu]
       refine eP ?_;go_wp2_with fail
       go_meet
       case rel=>exact⟨_,_,rfl,rfl,If (eV.start HC.out.st _ _)⟩
      ·skip
       refine pD fun K hK=>?_;go_simp
       try go_simp
       refine hK.out _ _ (ih.out _) ?_;clear hK K
       try simp only[pu]
       refine pD fun K hK=>?_;go_simp
       try go_simp
       refine hK.out _ _ (c'.out _ _) ?_;clear hK K
       try simp only[pu]
       refine pD fun K hK=>?_;go_simp
       try go_simp
       refine hK.out _ _ (c'.out _ _) ?_;clear hK K
       try simp only[pu]
       refine pD fun K hK=>?_;go_simp
       try go_simp
       refine hK.out _ _ (c'.out _ _) ?_;clear hK K
       try simp only[pu]
       refine eP ?_;go_wp2_with fail
       go_meet
       case rel=>exact⟨_,_,rfl,rfl,If (eV.start HC.out.st _ _).turn⟩
    case rest=>
     obtain⟨bL,bR,rfl,rfl,HS⟩:=hcut;obtain⟨nr,k6⟩:∃nr,nr=n-(t+1):=⟨_,rfl⟩;rw[<-k6] at HS;have sx:nr+1=t:=by have:=bf.a;omega
     clear k6 x0 x1 y0 y1 y2 y3 a1 a2 a3 a4 a5 a6 a7;have hL:=HS.out.bl;have hR:=HS.out.br;have e1:((sz+1:Nat):Int)=(sz:Int)+1:=by omega
     have hN:=(HS.out.kp.block _ HC.out.yb.1).trans HC.out.box;rw[e1] at hN;have hT:=(HS.out.kp.block _ HC.out.yb.2.1).trans HC.out.tree;obtain⟨x0,x1⟩:=Fp hT;obtain⟨y0,y1,y2,y3⟩:=Fy hN;obtain⟨a0,a1,a2,a3⟩:=Fy hL;obtain⟨f0,f1,f2,f3⟩:=fO hL;obtain⟨b0,b1,b2,b3⟩:=Fy hR;obtain⟨h0,h1,h2,h3⟩:=fO hR;clear hL hR hN hT e1
     go_upto_if 149 with fail
     go_cut [] from 20 (fun wd=>∃A1 m1 c1 A2 m2 c2,Hid (eV wp wd ps S' Y bL bR #[.slice (some ⟨bk,0,none⟩) t k1,.slice (some ⟨bv,0,none⟩) t l1,.slice A1 m1 c1,Xu 0] #[.slice (some ⟨bk,t+1,none⟩) nr (k1-(t+1)),.slice (some ⟨bv,t+1,none⟩) nr (l1-(t+1)),.slice A2 m2 c2,Xu 0]/\FD wp (.slice A1 m1 c1) ((Bt.bn x').kids.take (t+1))/\FD wp (.slice A2 m2 c2) ((Bt.bn x').kids.drop (t+1))/\(∀g,(Value.slice A1 m1 c1).ownBlock=some g->Y g)/\∀g,(Value.slice A2 m2 c2).ownBlock=some g->Y g/\g≠bl))
     case first=>
      as_aux_lemma=>
       by_cases hd0:d=0
       ·subst hd0;have k0:Bn.ks x'=[]:=Bt.nil_of_zero _;obtain rfl:c=0:=by rw[<-HM.d,k0];rfl
        go_wp2_with fail
        go_meet
        case rel=>
         have kz:(Bt.bn x').kids=[]:=by unfold Bt.bn;rw[k0];rfl
         refine⟨none,0,0,none,0,0,If ⟨HS.out,?_,?_,(fun g hg=>nomatch hg),fun g hg=>nomatch hg⟩⟩
         ·rw[kz];exact⟨none,0,rfl,fun k hk=>absurd hk (by simp)⟩
         ·rw[kz];exact⟨none,0,rfl,fun k hk=>absurd hk (by simp)⟩
       ·have j':c=n+1:=by
         have h1:=HM.a.mid.okN.2.1;rw[if_neg hd0] at h1;have h2:=HM.out.2.2;omega
        have pm:∃b cc,(Value.slice C1 c j1)=.slice (some ⟨b,0,none⟩) c cc/\c<=cc:=by
         have:=HC.out.rows.c.some (by have:=bf.b.2.2;omega);rwa[bf.b.2.2] at this
        obtain⟨bc,q8,ec,dk⟩:=pm
        injection ec with ec1 _ ec2
        subst ec1 ec2;have bb:=bf.a;have rl:(0:Int)<c:=by omega
        have q1:(t:Int)+1<=j1:=by omega
        have q2:(t:Int)+1<=c:=by omega
        have q3:0<=(t:Int)+1:=by omega
        have q4:¬j1=t+1:=by omega
        have q5:((t:Int)+1).toNat=t+1:=by omega
        have r':¬bL=bR:=HS.out.ge.2.2;have sa:¬bR=bL:=fun q=>HS.out.ge.2.2 q.symm;have o8:=HC.out.lt;have gb:=HS.out.ge;have fv:=HC.out.at3;have sb:¬bL=w1.heap.size:=by omega
        have sc:¬w1.heap.size=bL:=by omega
        have sd:¬bR=w1.heap.size:=by omega
        have sl:¬w1.heap.size=bR:=by omega
        have so:¬bL=w.heap.size:=by omega
        have ss:¬w.heap.size=bL:=by omega
        have sw:¬bR=w.heap.size:=by omega
        have r9:¬w.heap.size=bR:=by omega
        clear j' bb o8 gb fv
        go_upto_region 17 with fail
        go_region
        go_wp2_with fail
        go_meet
        case rel=>
         have hrow:=HC.out.rows.c.hrow;have ar:=bf.b.2.2;have bb:=bf.a;have j':c=n+1:=by
          have h1:=HM.a.mid.okN.2.1;rw[if_neg hd0] at h1;have h2:=HM.out.2.2;omega
         have mb:∀g,(Value.slice (some ⟨bc,0,none⟩) c j1).ownBlock=some g->Y g:=fun g hg=>HC.out.yk g (ae (ae hg));have rb:=(HC.out.rows.c.block (g:=bc) rfl).1;have jv:=HC.out.zl bl HC.out.zs.1;have qq:∀g,(Value.slice (some ⟨bc,0,none⟩) c j1).ownBlock=some g->Y g/\g≠bl:=fun g hg=>⟨mb g hg,by
          have hg:bc=g:=Option.some.inj hg;omega⟩
         exact⟨_,_,_,_,_,_,If ⟨((HS.out.setL2 _).setR2 _).below (ab _ _).drew,FD.take hrow (by omega),FD.drop hrow (by omega),mb,qq⟩⟩
     case rest=>
      obtain⟨A1,m1,c1,A2,m2,c2,b9⟩:=hcut;obtain⟨L2,gg,rfl,k9⟩:=HM.a.spare HI.m HI.e HI.f (by have:=bf.a;have:=HM.c;omega);have eg:=If k9;obtain⟨KS,cp⟩:=Ii ((Bn.ks x').drop (t+1));have eo:(Bt.bn x').kids.drop (t+1)=KS.map Bt.hd:=by rw[<-cp];unfold Bt.bn;rw[co]
      have gp:m2=KS.length:=by
       obtain⟨_,_,e,_⟩:=b9.out.2.2.1
       injection e with _ e _
       rw[e,eo,ao]
      have r7:m2<=33:=by
       have h1:=HM.a.mid.okN.2.1;have h2:KS.length<=(Bn.ks x').length:=by rw[<-cp,aN];omega
       have h3:=HM.c
       split at h1<;>omega
      obtain⟨su,dv⟩:∃su:Nat->Nat,∀j,su j=((KS.take j).map fun k=>(Bt.its k).length).sum:=⟨_,fun _=>rfl⟩;have la:su 0=0:=by rw[dv];rfl
      have g':∀j (hj:j<KS.length),su (j+1)=su j+(Bt.its KS[j]).length:=fun j hj=>by rw[dv,dv,ED _ _ hj]
      have ha:∀j,su j<=1000000:=fun j=>by
       have h1:=EC (fun k=>(Bt.its k).length) (Bn.ks x') (t+1) j;have h2:=Bt.its_len HM.a.mid.okN;have h3:=HM.a.putting.2.2.2.1;have h4:=HM.b;rw[dv,<-cp];omega
      have kw:sz+1=(Bt.its (Bt.leftOf t x')).length+1+(nr+su m2)/\(Bt.its (Bt.rightOf t x' gg)).length=nr+su m2:=by
       have bb:=bf.a;have h1:=HM.a.halves cb (by have:=HM.c;omega) gg;have h3:=HM.a.putting.2.2.2.1;have h4:=HM.b;have h5:=HM.c;have h6:su m2=(((Bn.ks x').drop (t+1)).map fun k=>(Bt.its k).length).sum:=by rw[dv,gp,List.take_length,cp]
       have h7:=h1.2.2.1;have h8:=h1.2.2.2.2.2;rw[<-h6] at h8;omega
      have lb:∀k∈KS,k∈Bn.ks x':=fun k hk=>by
       rw[<-cp] at hk;exact bq hk
      have bm:∀(W:World) (Yx:Nat->Prop),Ig W ps S' Yx->∀j (hj:j<KS.length),Cb 175 #[FH ps t,Xu (Bt.hd KS[j]:Nat)] W (Xi (Bt.its KS[j]).length):=fun W Yx hst j hj=>by
       have k5:KS[j]∈Bn.ks x':=lb _ (aF hj);have h1:=g' j hj;have h2:=ha (j+1);exact ri HM.a.mid.fit cb c5 (HM.a.mid.kids _ k5) (HM.a.mid.okN.2.2 _ k5).1 (by omega) W Yx hst
      have k8:FD wp (.slice A2 m2 c2) (KS.map Bt.hd):=by rw[<-eo];exact b9.out.2.2.1
      have ik:=kq3 cp eo g';have e7:=If ha;have op:=If bm;have n7:=If kw;have eh:=kq2 k8 (show ∀g,(Value.slice A2 m2 c2).ownBlock=some g->Y g from fun g hg=>(b9.out.2.2.2.2 g hg).1);have nw:Hid (∀g,(Value.slice A2 m2 c2).ownBlock=some g->g≠bl):=If fun g hg=>(b9.out.2.2.2.2 g hg).2;have ii:=kq2 b9.out.2.1 b9.out.2.2.2.1;have oj:=If la;have n':=If gp;clear cp eo dv g' ha kw bm k8 k9 la gp lb;clear x0 x1 y0 y1 y2 y3 a0 a1 a2 a3 b0 b1 b2 b3 f0 f1 f2 f3 h0 h1 h2 h3;have hR:=b9.out.1.br;obtain⟨b0,b1,b2,b3⟩:=Fy hR;obtain⟨h0,h1,h2,h3⟩:=fO hR;clear hR;have pb:IntKind.u64.wrap (nr:Int)=nr:=cJ _ (by omega)
      go_upto_region 18 with fail
      go_cut [] from 20 (fun wd=>Hid (eV wp wd ps S' Y bL bR #[.slice (some ⟨bk,0,none⟩) t k1,.slice (some ⟨bv,0,none⟩) t l1,.slice A1 m1 c1,Xu 0] #[.slice (some ⟨bk,t+1,none⟩) nr (k1-(t+1)),.slice (some ⟨bv,t+1,none⟩) nr (l1-(t+1)),.slice A2 m2 c2,Xu nr]))
      case first=>
       as_aux_lemma=>
        go_wp2_with fail
        go_meet
        case rel=>exact If (b9.out.1.setR3 (Xu nr))
      case rest=>
       have hR:=hcut.out.br;clear b0 b1 b2 b3 h0 h1 h2 h3 pb b9;obtain⟨b0,b1,b2,b3⟩:=Fy hR;clear hR;go_wp2_with fail
       go_loopw [21,172] (fun _ s172 wr=>∃j:Nat,j<=m2/\s172=Xi j/\Hid (eV wp wr ps S' Y bL bR #[.slice (some ⟨bk,0,none⟩) t k1,.slice (some ⟨bv,0,none⟩) t l1,.slice A1 m1 c1,Xu 0] #[.slice (some ⟨bk,t+1,none⟩) nr (k1-(t+1)),.slice (some ⟨bv,t+1,none⟩) nr (l1-(t+1)),.slice A2 m2 c2,Xu ((nr:Int)+(su j:Nat))])) (fun _ s172 _=>m2-(intOf s172).toNat)
       case atStart=>exact⟨0,by omega,rfl,by rw[oj.out];simpa using hcut⟩
       case round=>
        as_aux_lemma=>
         clear b0 b1 b2 b3 hcut;obtain⟨j,hj,rfl,HR⟩:=hrel
         by_cases hjlt:j<m2
         ·have rv:(j:Int)<m2:=by omega
          have gn:j<KS.length:=by have:=n'.out;omega
          have hR:=HR.out.br;have hT:=(HR.out.kp.block _ HC.out.yb.2.1).trans HC.out.tree;have em:=FD.at (f:=Bt.hd) (l:=KS) (HR.out.row eh.a eh.b) (af gn);obtain⟨g2,o2,rfl,dk⟩:=em;obtain⟨hh,bu⟩:=Ii (Bt.hd KS[j]);obtain⟨zj,e5⟩:=Ii (Bt.its KS[j]).length;have bm:=fun W Yx hst=>op.out W Yx hst j gn;rw[bu,e5] at bm;rw[bu] at dk;have g9:=ik.c j gn;rw[e5] at g9;have e0:=e7.out j;have e3:=e7.out (j+1);have tb:zj<=1000000:=by omega
          obtain⟨I,ai,al⟩:=ic fun w'=>w'.heap[bR]?=wr.heap[bR]?/\w'.heap[w.heap.size]?=wr.heap[w.heap.size]?;have au:=fun x:Fq I=>(ai _ x.ok).1.trans hR;have a8:=fun x:Fq I=>(ai _ x.ok).2.trans hT;obtain⟨r0,r1,r2,r3⟩:=iB au;obtain⟨p0,p1⟩:=fw a8;have bj:I wr.drew:=al _ ⟨rfl,rfl⟩;have s8:IntKind.u64.wrap ((nr:Int)+(su j:Nat)+(zj:Nat))=(nr:Int)+(su j:Nat)+(zj:Nat):=cJ _ (by omega);have l':IntKind.u64.wrap (zj:Int)=zj:=cJ _ (by omega);unfold FH at bm;have bd:=If al;have oe:=If bm;have oi:=kq3 g9 bu e5;clear ai al au a8 hR hT bm g9 bu e5 e0 e3;go_wp2_with fail;refine nG I (fun i=>[8].contains i) (.take 0 (.take 1 (.take 2 (.take 3 (.go 4 (.take 5 (.take 6 (.take 7 (.go 8 .nil))))))))) (by kernel_rfl) (by kernel_rfl) bj ?_
          iterate 4
           refine' qT ?_ ?_;rotate_left
           ·intro x;go_simp
            try rfl
           try simp only[pu]
          refine qD fun K hK=>?_;go_simp;refine(oe.out _ _ (HR.out.below (ab _ wr).drew).st).mono ?_;rintro en w5 ⟨rfl,f'⟩;have C5:=(HR.out.below (ab _ wr).drew).below f';have fk:I w5:=bd.out _ ⟨f'.block _ HR.out.lt.2,f'.block _ (aX (by have:=HC.out.lt;have:=HC.out.at3;omega) HR.out.kp.size)⟩;have fn:=C5.br;obtain⟨b0,b1,b2,b3⟩:=Fy fn;obtain⟨h0,h1,h2,h3⟩:=fO fn;have nx:=If (C5.setR3 (Xu ((nr:Int)+(su j:Nat)+(zj:Nat))));clear C5 fn
          try go_simp
          refine hK.out _ _ fk ?_;clear hK K
          try simp only[pu]
          iterate 3
           refine' qT ?_ ?_;rotate_left
           ·intro x;go_simp
            try rfl
           try simp only[pu]
          refine qL fun K hK=>?_;go_simp
          try go_simp
          refine hK.out _ _ trivial ?_;clear hK K
          try simp only[pu]
          refine jd ?_;go_wp2_with fail;go_roundw
          case rel=>
           refine⟨j+1,by omega,by simp,?_⟩;have e1:((nr:Int)+(su (j+1):Nat))=(nr:Int)+(su j:Nat)+(zj:Nat):=by have:=oi.a;omega
           rw[e1];exact nx
          case measure=>simp[intOf];omega
         ·have o6:j=m2:=by omega
          subst o6;have r6:¬(j:Int)<j:=by omega
          obtain⟨ga,ka⟩:=n7.out;obtain⟨zl,ht⟩:=Ii (Bt.its (Bt.leftOf t x')).length;rw[ht] at ga;have pt:=e7.out j;have p':IntKind.u64.wrap ((sz:Int)+1-((nr:Int)+(su j:Nat)))=(zl:Int)+1:=by rw[cJ _ (by omega)];omega
          have qb:IntKind.u64.wrap ((zl:Int)+1-1)=zl:=by rw[cJ _ (by omega)];omega
          have qk:IntKind.u64.wrap (zl:Int)=zl:=cJ _ (by omega);have e1:((sz+1:Nat):Int)=(sz:Int)+1:=by omega
          have e2:((nr+su j:Nat):Int)=(nr:Int)+(su j:Nat):=by omega
          have hN:=(HR.out.kp.block _ HC.out.yb.1).trans HC.out.box;rw[e1] at hN;have hL:=HR.out.bl;have hR:=HR.out.br;obtain⟨y0,y1,y2,y3⟩:=Fy hN;obtain⟨a0,a1,a2,a3⟩:=Fy hL;obtain⟨f0,f1,f2,f3⟩:=fO hL;obtain⟨b0,b1,b2,b3⟩:=Fy hR;have HZ:=kq5 ga ka ht e1 e2;clear ga ka ht e1 e2 hN hL hR pt
          go_upto_region 24 with fail
          go_cut [] from 22 (fun wd=>Hid (eV wp wd ps S' Y bL bR #[.slice (some ⟨bk,0,none⟩) t k1,.slice (some ⟨bv,0,none⟩) t l1,.slice A1 m1 c1,Xu zl] #[.slice (some ⟨bk,t+1,none⟩) nr (k1-(t+1)),.slice (some ⟨bv,t+1,none⟩) nr (l1-(t+1)),.slice A2 j c2,Xu ((nr:Int)+(su j:Nat))]))
          case first=>
           as_aux_lemma=>
            go_wp2_with fail
            go_meet
            case rel=>exact If (HR.out.setL3 (Xu zl))
          case rest=>
           clear y0 y1 y2 y3 a0 a1 a2 a3 f0 f1 f2 f3 b0 b1 b2 b3 p' qb qk HR;have hL:=hcut.out.bl;have hT:=(hcut.out.kp.block _ HC.out.yb.2.1).trans HC.out.tree;obtain⟨x0,x1⟩:=Fp hT;obtain⟨a0,a1,a2,a3⟩:=Fy hL;have er:(Bn.es x').length=2*t:=by have:=HM.c;have:=bf.a;omega
           have hq:∀g,(Value.slice (some ⟨bk,0,none⟩) n k1).ownBlock=some g->Y g:=fun g hg=>HC.out.yk g (aa hg);have hr:∀g,(Value.slice (some ⟨bv,0,none⟩) n l1).ownBlock=some g->Y g:=fun g hg=>HC.out.yk g (ae (aa hg));have ar:=bf.b;have bb:=bf.a;obtain⟨hu,mv,m5⟩:=Bt.leftOf_bn t x';obtain⟨hw,m8,m',qz⟩:=Bt.rightOf_bn t x' gg;obtain⟨l3,l4,p8,l5,l8,p9⟩:=HM.a.halves cb er gg;obtain⟨cx,k4⟩:=HM.a.lts cb er gg;obtain⟨p1,p2,p3,p4,p5,p6,p7⟩:=HM.a.putting;have g5:nr=n-(t+1):=by omega
           have nc:FD wp (.slice (some ⟨bk,0,none⟩) t k1) (Bt.bn (Bt.leftOf t x')).keys:=by rw[hu];exact FD.take HC.out.rows.k.hrow (by omega)
           have nl:FD wp (.slice (some ⟨bv,0,none⟩) t l1) (Bt.bn (Bt.leftOf t x')).vals:=by rw[mv];exact FD.take HC.out.rows.v.hrow (by omega)
           have na:FD wp (.slice A1 m1 c1) (Bt.bn (Bt.leftOf t x')).kids:=by rw[m5];exact ii.a
           have nj:FD wp (.slice (some ⟨bk,t+1,none⟩) nr (k1-(t+1))) (Bt.bn (Bt.rightOf t x' gg)).keys:=by rw[hw,g5];exact FD.drop HC.out.rows.k.hrow (by omega)
           have nm:FD wp (.slice (some ⟨bv,t+1,none⟩) nr (l1-(t+1))) (Bt.bn (Bt.rightOf t x' gg)).vals:=by rw[m8,g5];exact FD.drop HC.out.rows.v.hrow (by omega)
           have nb:FD wp (.slice A2 j c2) (Bt.bn (Bt.rightOf t x' gg)).kids:=by rw[m',ik.b];exact eh.a
           have b4:=Jg hcut.out.st p1 (Bt.bnok_of HM.a.mid.fit cb c5 l5 l3) (hcut.out.row nc hq) (hcut.out.row nl hr) (hcut.out.row na ii.b) (Bn.h x) p3 p2 (kX cx (by rw[hu,ay];omega));have lr:(Bt.bn (Bt.leftOf t x')).size=zl:=HZ.c;rw[lr] at b4;unfold eC at b4;have HP:=If b4;have i0:Hid ((∀g,(.slice (some ⟨bk,t+1,none⟩) nr (k1-(t+1)):Value).ownBlock=some g->Y g)/\∀g,(.slice (some ⟨bv,t+1,none⟩) nr (l1-(t+1)):Value).ownBlock=some g->Y g):=If ⟨fun g hg=>HC.out.yk g (aa hg),fun g hg=>HC.out.yk g (ae (aa hg))⟩;have cl:=kq6 nj nm nb hq hr er;have it:=kq4 (Bt.bnok_of HM.a.mid.fit cb c5 l8 l4) (kX (t:=t) k4 (by rw[hw,aN];omega)) ar bb;clear b4 lr nc nl na nj nm nb hq hr ar bb hu mv m5 hw m8 m' qz l3 l4 p8 l5 l8 p9 cx k4 p1 p2 p3 p4 p5 p6 p7 g5 hL hT er;go_wp2_with fail;refine HP.out.mono ?_;rintro en w3 ⟨rfl,ed,d4⟩;have C3:=hcut.out.put ed d4;clear x0 x1 a0 a1 a2 a3 HP ed d4 hcut;have a':=If C3;clear C3;go_wp2_with fail;obtain⟨wg,e0,e3,g7⟩:=eg.out.2.2.2;have kn:=eg.out.2.2.1;have ds:=HM.a.left_put cb c5 cl.f kn e3;have kk:=(fL ds.1 ds.2).2.1;have km:(FC S' (Bn.h x) 0 (bnWords t (Bt.bn (Bt.leftOf t x')))).len gg=(6*t,0):=by rw[jw ds.1.tab ds.2,g7]
           have jv:bl<w.heap.size:=HC.out.zl bl HC.out.zs.1;have ou:=HC.out.rows.k.block (g:=bk) rfl;have o5:=HC.out.rows.v.block (g:=bv) rfl;have jc:L2.length<=1000:=by
            have h1:=HI.j;have h2:=HM.a.sum;rw[h2] at h1;simp only[aD] at h1;omega
           have g8:=HC.out.spz;have k':gz w3.drew bt bl D ps t v' (L2++[gg]):=HC.out.sp.keeps fun k hk=>a'.out.kp.block k (HC.out.zy k (g8 k hk));have j0:∀b,(Value.slice (some ⟨bk,t+1,none⟩) nr (k1-(t+1))).ownBlock=some b->b≠bl:=fun b hb q=>by
            have hb:bk=b:=Option.some.inj hb;omega
           have j2:∀b,(Value.slice (some ⟨bv,t+1,none⟩) nr (l1-(t+1))).ownBlock=some b->b≠bl:=fun b hb q=>by
            have hb:bv=b:=Option.some.inj hb;omega
           have j3:∀b,(Value.slice A2 j c2).ownBlock=some b->b≠bl:=nw.out;have d':=pZ (n:=Bt.bn (Bt.rightOf t x' gg)) (vk:=.slice (some ⟨bk,t+1,none⟩) nr (k1-(t+1))) (vv:=.slice (some ⟨bv,t+1,none⟩) nr (l1-(t+1))) (vc:=.slice A2 j c2) (a'.out.st.below (ab _ w3).drew) ds.1.inv k' (aa (HC.out.zy _ HC.out.zs.1)) (aa (HC.out.zy _ HC.out.zs.2.1)) (fun b hb=>aa (HC.out.zy _ (g8 b (ae (ae hb))))) jc it.a (a'.out.row cl.a i0.out.1) (a'.out.row cl.b i0.out.2) (a'.out.row cl.c eh.b) j0 j2 j3 kk km it.b;have lz:(Bt.bn (Bt.rightOf t x' gg)).size=nr+su j:=HZ.b;rw[lz] at d';unfold eC at d';rw[HZ.e] at d';have l0:t<(Bn.es x').length:=by have:=cl.f;omega
           obtain⟨m,hm⟩:=Ii ((Bn.es x')[t]);have gs:(Bn.es x')[t]?=some m:=by rw[af l0,hm]
           have dn:=FD.at (f:=(·.kh)) (l:=Bn.es x') (a'.out.row HC.out.rows.k.hrow cl.d) gs;have dp:=FD.at (f:=(·.vh)) (l:=Bn.es x') (a'.out.row HC.out.rows.v.hrow cl.e) gs;obtain⟨gk,ok,ek,dn⟩:=dn;obtain⟨gv,ov,ev,dp⟩:=dp
           injection ek with ek
           injection ek with ek1 ek2 _
           subst ek1 ek2
           injection ev with ev
           injection ev with ev1 ev2 _
           subst ev1 ev2;rw[bO] at dn dp;have hN:=(a'.out.kp.block _ HC.out.yb.1).trans HC.out.box;rw[HZ.d] at hN;have hT:=(a'.out.kp.block _ HC.out.yb.2.1).trans HC.out.tree;have hR:=a'.out.br;have ho:=HC.out.yb;have fv:=HC.out.at3;have gb:=a'.out.ge;have ql:=HC.out.keep.size;have mc:=HC.out.yk bk (aa rfl);have md:=HC.out.yk bv (ae (aa rfl));obtain⟨I,ai,al⟩:=ic fun w'=>∀k,(Y k\/k=bL\/k=bR)->k≠bl->w'.heap[k]?=w3.heap[k]?;have au:=fun x:Fq I=>(ai _ x.ok w1.heap.size (aa ho.1) (by omega)).trans hN;have a8:=fun x:Fq I=>(ai _ x.ok w.heap.size (aa ho.2.1) (by omega)).trans hT;have mr:=fun x:Fq I=>(ai _ x.ok bR (ae (ae rfl)) (by omega)).trans hR;obtain⟨r0,r1,r2,r3⟩:=iB au;obtain⟨p0,p1⟩:=fw a8;obtain⟨q0,q1,q2,q3⟩:=iB mr;have o1:∀x:Fq I,x.to.cell? ⟨bk,t,none⟩=some (Xu (m.kh:Nat)):=fun x=>(j9 (ai _ x.ok bk (aa mc) (by omega))).trans dn;have o2:∀x:Fq I,x.to.cell? ⟨bv,t,none⟩=some (Xu (m.vh:Nat)):=fun x=>(j9 (ai _ x.ok bv (aa md) (by omega))).trans dp;have bj:I w3.drew:=al _ fun _ _ _=>rfl;have s5:(t:Int)<n:=by have:=HM.c;omega
           have ot:=If d';have bd:=If al;have n5:=If (HM.a.done cb c5 cl.f eg.out.1 eg.out.2.1 e0 g7 l0);have ob:=If hm;have q7:Hid (w.heap.size+2≠bl):=If (by omega);clear ai al au a8 mr d' kk km jv ou o5 jc g8 k' j0 j2 j3 lz gs dn dp hN hT hR ho fv gb ql mc md hm e0 e3 g7 kn ds;refine nG I (fun i=>[17].contains i) (.take 0 (.take 1 (.take 2 (.take 3 (.take 4 (.take 5 (.take 6 (.take 7 (.take 8 (.take 9 (.take 10 (.take 11 (.take 12 (.take 13 (.take 14 (.go 15 (.take 16 (.go 17 .nil)))))))))))))))))) (by kernel_rfl) (by kernel_rfl) bj ?_
           iterate 15
            refine' qT ?_ ?_;rotate_left
            ·intro x;go_simp
             try rfl
            try simp only[pu]
           refine qD fun K hK=>?_;go_simp;refine ot.out.mono ?_;rintro en w5 ⟨rfl,v5,nq,c6,np,m6⟩;have H5:=HC.out.kid (nq.mono fun k hk=>aa hk) ((a'.out.kp.mono fun k hk=>hk.1).trans ⟨c6.os,c6.tape,c6.output,c6.size,fun k hk=>c6.block k ⟨aa hk.1,hk.2⟩⟩) np m6;have ez:=H5.res;have fk:I w5:=bd.out _ fun k hk hn=>c6.block k ⟨hk,hn⟩;obtain⟨b0,b1,b2,b3⟩:=Fy ez;obtain⟨h0,h1,h2,h3⟩:=fO ez;have id:=kq2 H5 ez;clear nq c6 np H5 ez
           try go_simp
           refine hK.out _ _ fk ?_;clear hK K
           try simp only[pu]
           refine' qT ?_ ?_;rotate_left
           ·intro x;go_simp
            try rfl
           try simp only[pu]
           refine qL fun K hK=>?_;go_simp
           try go_simp
           refine hK.out _ _ trivial ?_;clear hK K
           try simp only[pu]
           refine jd ?_;go_wp2_with fail;obtain⟨WF,cr⟩:=Ii ((((w5.setCell ⟨w.heap.size+1+1,0,none⟩ (.bool true)).setCell ⟨w.heap.size+1+1,1,none⟩ (Xu (m.kh:Nat))).setCell ⟨w.heap.size+1+1,2,none⟩ (Xu (m.vh:Nat))).setCell ⟨w.heap.size+1+1,3,none⟩ (Xu (gg:Nat)));rw[cr];have HF:=id.a.fin id.b (.bool true) (Xu (m.kh:Nat)) (Xu (m.vh:Nat)) (Xu (gg:Nat)) WF cr.symm;clear cr b0 b1 b2 b3 h0 h1 h2 h3;have e4:=HF.2.2.2;obtain⟨a0,a1,a2,a3⟩:=Fy e4;obtain⟨d1,d2,d3⟩:=n5.out;rw[ob.out] at d1;have pv:L=L2++(gg::U):=by have:=HM.a.sum;rw[this];simp
           have pf:=m6.trans HM.a.held.own;have px:Ending.returned (.agg #[.bool true,Xu (m.kh:Nat),Xu (m.vh:Nat),Xu (gg:Nat)])=Ending.returned (ky (some (m,gg))):=rfl;exact bodyPost_ret (v:=.agg #[.bool true,Xu (m.kh:Nat),Xu (m.vh:Nat),Xu (gg:Nat)]) (by simp[results,f182,go_sem,a0,a1,a2,a3]) rfl ⟨some (m,gg),px,_,v5,L2,gg::U,pv,d1,HF.1,HF.2.1,HF.2.2.1,pf,d2,d3⟩