/- B-trees: insert: the walk of one node. -/
import Derived.Test.YtpljannolpapgaaGreatDoorVBj
set_option maxRecDepth 100000
set_option maxHeartbeats 40000000
namespace Go.Proofs.YtpljannolpapgaaGreatDoor
open Go.RowKit Tryz Go.BigFrame Go.Maps Go.WideMaps Lf Tr
open Go.Shelf
theorem uU(d:Nat)(rec0:∀d0,d=d0+1->j4 d0):j4 d:=by
 intro w ps S o Z bt bl D t v L x e i h hx gf hid sp spare e9 zb zt zv hL gn ft hkh hvh ca;have B0:=((aa w.heap.size w).alloc Ih (Xd ps t)).alloc (by simp) (Xe e.kh e.vh) |>.alloc (by simp;omega) (.cells #[.bool false,Xu 0,Xu 0,Xu 0] 274)
 have q0:=((aa w.heap.size w).alloc Ih (Xd ps t));have z1:(w.alloc (Xd ps t)).heap.size=w.heap.size+1:=by simp
 have z2:((w.alloc (Xd ps t)).alloc (Xe e.kh e.vh)).heap.size=w.heap.size+1+1:=by simp
 have q1:=heap_alloc_new w (Xd ps t);have q2:=heap_alloc_new (w.alloc (Xd ps t)) (Xe e.kh e.vh);have q3:=heap_alloc_new ((w.alloc (Xd ps t)).alloc (Xe e.kh e.vh)) (.cells #[.bool false,Xu 0,Xu 0,Xu 0] 274);have b2:=(aa (w.alloc (Xd ps t)).heap.size (w.alloc (Xd ps t))).alloc Ih (Xe e.kh e.vh);have b3:=(aa ((w.alloc (Xd ps t)).alloc (Xe e.kh e.vh)).heap.size ((w.alloc (Xd ps t)).alloc (Xe e.kh e.vh))).alloc Ih (.cells #[.bool false,Xu 0,Xu 0,Xu 0] 274);have q1:=(b3.block w.heap.size (by rw[z2];omega)).trans ((b2.block w.heap.size (by rw[z1];omega)).trans q1);rw[z1] at q2;have q2:=(b3.block (w.heap.size+1) (by rw[z2];omega)).trans q2;rw[z2] at q3;clear b2 b3 q0;have hi:=hx.fit.inv;generalize hW:((w.alloc (Xd ps t)).alloc (Xe e.kh e.vh)).alloc (.cells #[.bool false,Xu 0,Xu 0,Xu 0] 274)=W0 at*;have hz:w.heap.size+3<=W0.heap.size:=by rw[<-hW];simp
 obtain⟨x0,x1⟩:=Fp q1;have fn:=kI (h.below B0) hi hx.read;unfold FH eC at fn;have HG:=kq2 (kq5 B0 q1 q2 q3 hz) fn;have HI:=kq13 h hx gf sp spare e9 zb zt zv hL gn ft ca;clear z1 z2 q1 q2 q3 hz B0 fn h hx gf sp spare e9 zb zt zv hL gn ft ca hi;unfold FH Id JB;go_enter func182,ntmps182;go_wp2_with fail;refine HG.b.mono ?_;rintro en w1 ⟨vk,vv,vc,rfl,rows,hb⟩;obtain⟨Ak,ck,rfl⟩:=rows.k.slice2;obtain⟨Av,cv,rfl⟩:=rows.v.slice2;obtain⟨Ac,cc,rfl⟩:=rows.c.slice2;have hx:=HI.b;have ar:(Bt.bn x).keys.length=(Bn.es x).length:=by unfold Bt.bn;rw[ao]
 have g9:(Bt.bn x).vals.length=(Bn.es x).length:=by unfold Bt.bn;rw[ao]
 have cw:(Bt.bn x).kids.length=(Bn.ks x).length:=by unfold Bt.bn;rw[ao]
 rw[ar,g9,cw] at rows;rw[ar,g9,cw];obtain⟨it,iu,qe⟩:=hx.es;have bm:=hx.size;generalize k9:(Bt.bn x).size=sz at*;generalize kq:(Bn.es x).length=lk at*;generalize em:(Bn.ks x).length=lc at*;have A1:=(aa w1.heap.size w1).alloc Ih (.cells #[.slice Ak lk ck,.slice Av lk cv,.slice Ac lc cc,Xu sz] 215);have p1:=heap_alloc_new w1 (.cells #[.slice Ak lk ck,.slice Av lk cv,.slice Ac lc cc,Xu sz] 215);have d':=rows.below A1;have c':=hb.size;have cx:w1.heap.size<(w1.alloc (.cells #[.slice Ak lk ck,.slice Av lk cv,.slice Ac lc cc,Xu sz] 215)).heap.size:=by simp
 obtain⟨W1,i6⟩:=Ii (w1.alloc (.cells #[.slice Ak lk ck,.slice Av lk cv,.slice Ac lc cc,Xu sz] 215));rw[i6] at A1 p1 d' cx;have B1:=hb.trans (A1.mono hb.size);have t1:=(B1.block w.heap.size (by have:=HG.a.e;omega)).trans HG.a.b;have t2:=(B1.block (w.heap.size+1) (by have:=HG.a.e;omega)).trans HG.a.c;clear x0 x1;obtain⟨x0,x1⟩:=Fp t1;obtain⟨y0,y1,y2,y3⟩:=Fy p1;have c3:=d'.k.hrow;have gs:=nR (HI.a.below (HG.a.a.trans (B1.mono HG.a.a.size))) hx.fit.inv t (es:=Bn.es x) (vk:=.slice Ak lk ck) (vv:=.slice Av lk cv) (vc:=.slice Ac lc cc) (sz:=sz) c3 (by omega) it iu e.k;unfold FH eC at gs;have ih:=If gs;have H1:=kq11 B1 p1 d' t1 t2 cx kq k9 bm em c';clear gs rows d' hb A1 p1 B1 t1 t2 c3 ar g9 cw it iu cx bm hx hW c';have qz:((i:Int)==40)=false:=by simp;omega
 have q6:¬(i:Int)=40:=by omega
 go_wp2_with fail;refine ih.out.mono ?_;rintro en w2 ⟨rfl,bq⟩;have p2:=(bq.block w1.heap.size H1.f).trans H1.b;have t2:=(bq.block w.heap.size (by have:=H1.a.size;have:=HG.a.e;omega)).trans H1.d;have u2:=(bq.block (w.heap.size+1) (by have:=H1.a.size;have:=HG.a.e;omega)).trans H1.e;have e3:=H1.c.below bq;clear x0 x1 y0 y1 y2 y3;obtain⟨x0,x1⟩:=Fp t2;obtain⟨y0,y1,y2,y3⟩:=Fy p2;obtain⟨z0,z1⟩:=Fp u2;have cn:=kq5 bq p2 t2 u2 e3;clear bq p2 t2 u2 e3 ih i6;obtain⟨k,hk⟩:∃k,Fr e.k (Bn.es x)=k:=⟨_,rfl⟩;obtain⟨he,kk⟩:=Ii (fo e.k (Bn.es x));rw[hk,kk];have ba:k<=lk:=by rw[<-hk,<-H1.g];exact kH _
 have HK:=If hk;clear hk kk;have jc:eH w ps Z bt bl D t v w1.heap.size w2 S (fun k=>Z k\/(w.heap.size<=k/\k<w2.heap.size)) v L (.slice Ak lk ck) (.slice Av lk cv) (.slice Ac lc cc) sz (Bt.bn x).keys (Bt.bn x).vals (Bt.bn x).kids:=by
  obtain⟨⟨B0,q1,q2,q3,hz⟩,_⟩:=HG.out;obtain⟨B1,p1,d',t1,ss,cx,kq,k9,bm,em,c'⟩:=H1.out;obtain⟨bq,p2,t2,u2,e3⟩:=cn.out;obtain⟨h,hx,gf,sp,spare,e9,zb,zt,zv,hL,gn,ft,ca⟩:=HI.out;have s1:=B1.size;have s2:=bq.size;have e7:Below w.heap.size w w2:=B0.trans ((B1.trans (bq.mono s1)).mono (by omega));have zl:=h.yl;have b4:fN w2 (w.heap.size+3) (.slice Ak lk ck) (.slice Av lk cv) (.slice Ac lc cc) (Bt.bn x).keys (Bt.bn x).vals (Bt.bn x).kids:=e3.lift (by omega) fun g _ _=>rfl;refine⟨h.wide e7,fun k hk=>ab hk,zl,⟨zb,zt,zv⟩,(Fo.of_below e7 fun k hk=>zl k hk.1),sp.keeps fun k hk=>e7.block k (zl k ?_),rfl,p2,b4,⟨ae ⟨by omega,by omega⟩,ae ⟨by omega,by omega⟩,ae ⟨by omega,by omega⟩⟩,fun g hg=>ae ?_,t2,(bq.block _ (by omega)).trans ((B1.block _ (by omega)).trans q3),by omega⟩
  ·rcases hk with rfl | rfl | hk
   ·exact zt
   ·exact zb
   ·exact zv _ hk
  ·rcases hg with hg | hg | hg
   ·have:=b4.k.block hg;exact⟨by omega,this.2.1⟩
   ·have:=b4.v.block hg;exact⟨by omega,this.2.1⟩
   ·have:=b4.c.block hg;exact⟨by omega,this.2.1⟩
 have HB:=If jc;clear jc
 go_upto_if 45 with fail
 go_cut [] from 18 (fun wc=>∃S' Y v' L' U x' vk vv vc,gQ w ps S o Z bt bl D t v L x e w1.heap.size wc S' Y v' L' U x' vk vv vc)
 case first=>
  as_aux_lemma=>
   by_cases hd0:d=0
   ·subst hd0;obtain rfl:lc=0:=by rw[<-H1.j,Bt.nil_of_zero (Bn.ks x)];rfl
    go_wp2_with fail;obtain⟨I,ai,an⟩:=ic fun w'=>w'.heap[w1.heap.size]?=w2.heap[w1.heap.size]?/\w'.heap[w.heap.size+1]?=w2.heap[w.heap.size+1]?;have au:=fun x:Fq I=>(ai _ x.ok).1.trans cn.b;have a8:=fun x:Fq I=>(ai _ x.ok).2.trans cn.d;obtain⟨m0,m1,m2,m3⟩:=iB au;obtain⟨n0,n1⟩:=fw a8;have bj:I w2.drew:=an _ ⟨rfl,rfl⟩;have d7:∀(w':World) (u1 u2:Value) (m1 m2:List Nat),fD w2 w' (w.heap.size+3) ps S (fun k=>Z k\/(w.heap.size<=k/\k<w2.heap.size)) (.slice Ak lk ck) (.slice Av lk cv) u1 u2 m1 m2->I w':=fun w' u1 u2 m1 m2 T=>an _ ⟨T.keep.block _ ⟨HB.out.lt,HB.out.ne.1,HB.out.ne.2.1⟩,T.keep.block _ ⟨by have:=HB.out.lt;have:=HB.out.at3;omega,fun q=>by have:=(HB.out.rows.k.block q).1;omega,fun q=>by have:=(HB.out.rows.v.block q).1;omega⟩⟩;have ap:=If d7;clear d7;have dv:=If HB.out.two.drew;have HT:Hid (fy<w.heap.size+3):=If (by have:=xA HI.a;omega);have HN:Hid ((Bt.bn x).keys.length=lk/\(Bt.bn x).vals.length=lk):=If ⟨by rw[<-H1.g];unfold Bt.bn;rw[ao],by rw[<-H1.g];unfold Bt.bn;rw[ao]⟩;have oj:lk<=31:=by rw[<-H1.g];exact HI.b.es.2.2
    clear ai an au a8;refine nG I (fun i=>[15,16,17].contains i) (.take 0 (.take 1 (.take 2 (.take 3 (.take 4 (.take 7 (.take 8 (.take 9 (.take 10 (.take 11 (.two 5 12 (.two 6 12 (.take 14 (.go 12 (.go 13 (.go 15 (.go 16 (.go 17 .nil)))))) (.go 6 (.take 14 (.go 13 (.go 15 (.go 16 (.go 17 .nil))))))) (.go 5 (.go 6 (.take 14 (.go 13 (.go 15 (.go 16 (.go 17 .nil)))))))))))))))))) (by kernel_rfl) (by kernel_rfl) bj ?_
    iterate 10
     refine' qT ?_ ?_;rotate_left
     ·intro x;go_simp
      try rfl
     try simp only[pu]
    have eb:∀c,(w2.drew.alloc c).heap.size=w2.heap.size+1:=fun c=>by simp
    refine Jh ?_ ?_
    ·skip
     refine qD fun K hK=>?_;go_simp;obtain⟨T1,x1,cb,d9,s1,b1⟩:=dv.out.one (e.kh)
     try go_simp
     refine hK.out _ _ (ap.out _ _ _ _ _ T1) ?_;clear hK K
     try simp only[pu]
     refine Jh ?_ ?_
     ·skip
      refine qD fun K hK=>?_;go_simp;refine(T1.ins HT.out (by have:=T1.keep.size;have:=HB.out.lt;have:=HB.out.at3;omega) (by rw[HN.out.1];omega) (by rw[HN.out.1];exact ba) x1 cb).mono ?_;rintro en w4 ⟨u1,rfl,T2,o2⟩;obtain⟨A2,m2,c2,rfl⟩:=T2.own1.slice
      try go_simp
      refine hK.out _ _ (ap.out _ _ _ _ _ T2) ?_;clear hK K
      try simp only[pu]
      refine' qT ?_ ?_;rotate_left
      ·intro x;go_simp
       try rfl
      try simp only[pu]
      refine qD fun K hK=>?_;go_simp;obtain⟨T3,x3,po,hq,s3,b3⟩:=T2.one (e.vh)
      try go_simp
      refine hK.out _ _ (ap.out _ _ _ _ _ T3) ?_;clear hK K
      try simp only[pu]
      refine qD fun K hK=>?_;go_simp;refine(T3.swap.ins HT.out (by have:=T3.keep.size;have:=HB.out.lt;have:=HB.out.at3;omega) (by rw[HN.out.2];omega) (by rw[HN.out.2];exact ba) x3 hq).mono ?_;rintro en w6 ⟨u2,rfl,T4,o4⟩;obtain⟨A4,m4,c4,rfl⟩:=T4.own1.slice;have T5:=T4.swap
      try go_simp
      refine hK.out _ _ (ap.out _ _ _ _ _ T5) ?_;clear hK K
      try simp only[pu]
      obtain⟨g0,g1,g2⟩:=HB.out.grow T5;have f0:w6.frozen? ⟨w1.heap.size,0,none⟩=false:=AT g0;have d0:w6.cell? ⟨w1.heap.size,0,none⟩=some (.slice Ak lk ck):=by rw[cell_of_block g0];rfl
      have f1:(w6.setCell ⟨w1.heap.size,0,none⟩ (.slice A2 m2 c2)).frozen? ⟨w1.heap.size,1,none⟩=false:=AT g1;have d1:(w6.setCell ⟨w1.heap.size,0,none⟩ (.slice A2 m2 c2)).cell? ⟨w1.heap.size,1,none⟩=some (.slice Av lk cv):=by rw[cell_of_block g1];rfl
      have a9:=If g2;clear g0 g1 g2;refine qL fun K hK=>?_;go_simp
      try go_simp
      refine hK.out _ _ trivial ?_;clear hK K
      try simp only[pu]
      refine qL fun K hK=>?_;go_simp
      try go_simp
      refine hK.out _ _ trivial ?_;clear hK K
      try simp only[pu]
      refine qL fun K hK=>?_;go_simp
      try go_simp
      refine hK.out _ _ trivial ?_;clear hK K
      try simp only[pu]
      refine jd ?_;go_wp2_with fail
      go_meet
      case rel=>exact⟨S,_,v,L,[],Bt.leafPut x e,_,_,_,rJ HI.b HI.c HI.l hkh hvh HK.out H1.i.1 a9.out⟩
     ·skip
      refine qD fun K hK=>?_;go_simp;obtain⟨T2,x2,bo,ch,s2,b2⟩:=T1.one (e.vh);rw[eb] at x2 bo ch s2;have c8:=(b2.block _ s1).trans x1
      try go_simp
      refine hK.out _ _ (ap.out _ _ _ _ _ T2) ?_;clear hK K
      try simp only[pu]
      refine qD fun K hK=>?_;go_simp;refine(T2.ins HT.out (by have:=T2.keep.size;have:=HB.out.lt;have:=HB.out.at3;omega) (by rw[HN.out.1];omega) (by rw[HN.out.1];exact ba) c8 cb).mono ?_;rintro en w5 ⟨u1,rfl,T3,o3⟩;have hu:=(o3 _ s2 bo).trans x2;obtain⟨A2,m2,c2,rfl⟩:=T3.own1.slice
      try go_simp
      refine hK.out _ _ (ap.out _ _ _ _ _ T3) ?_;clear hK K
      try simp only[pu]
      refine' qT ?_ ?_;rotate_left
      ·intro x;go_simp
       try rfl
      try simp only[pu]
      refine qD fun K hK=>?_;go_simp;refine(T3.swap.ins HT.out (by have:=T3.keep.size;have:=HB.out.lt;have:=HB.out.at3;omega) (by rw[HN.out.2];omega) (by rw[HN.out.2];exact ba) hu ch).mono ?_;rintro en w6 ⟨u2,rfl,T4,o4⟩;obtain⟨A4,m4,c4,rfl⟩:=T4.own1.slice;have T5:=T4.swap
      try go_simp
      refine hK.out _ _ (ap.out _ _ _ _ _ T5) ?_;clear hK K
      try simp only[pu]
      obtain⟨g0,g1,g2⟩:=HB.out.grow T5;have f0:w6.frozen? ⟨w1.heap.size,0,none⟩=false:=AT g0;have d0:w6.cell? ⟨w1.heap.size,0,none⟩=some (.slice Ak lk ck):=by rw[cell_of_block g0];rfl
      have f1:(w6.setCell ⟨w1.heap.size,0,none⟩ (.slice A2 m2 c2)).frozen? ⟨w1.heap.size,1,none⟩=false:=AT g1;have d1:(w6.setCell ⟨w1.heap.size,0,none⟩ (.slice A2 m2 c2)).cell? ⟨w1.heap.size,1,none⟩=some (.slice Av lk cv):=by rw[cell_of_block g1];rfl
      have a9:=If g2;clear g0 g1 g2;refine qL fun K hK=>?_;go_simp
      try go_simp
      refine hK.out _ _ trivial ?_;clear hK K
      try simp only[pu]
      refine qL fun K hK=>?_;go_simp
      try go_simp
      refine hK.out _ _ trivial ?_;clear hK K
      try simp only[pu]
      refine qL fun K hK=>?_;go_simp
      try go_simp
      refine hK.out _ _ trivial ?_;clear hK K
      try simp only[pu]
      refine jd ?_;go_wp2_with fail
      go_meet
      case rel=>exact⟨S,_,v,L,[],Bt.leafPut x e,_,_,_,rJ HI.b HI.c HI.l hkh hvh HK.out H1.i.1 a9.out⟩
    ·skip
     refine qD fun K hK=>?_;go_simp;obtain⟨T1,x1,cb,d9,s1,b1⟩:=dv.out.one (e.vh)
     try go_simp
     refine hK.out _ _ (ap.out _ _ _ _ _ T1) ?_;clear hK K
     try simp only[pu]
     refine qD fun K hK=>?_;go_simp;obtain⟨T2,x2,bo,ch,s2,b2⟩:=T1.one (e.kh);rw[eb] at x2 bo ch;have c8:=(b2.block _ s1).trans x1
     try go_simp
     refine hK.out _ _ (ap.out _ _ _ _ _ T2) ?_;clear hK K
     try simp only[pu]
     refine qD fun K hK=>?_;go_simp;refine(T2.ins HT.out (by have:=T2.keep.size;have:=HB.out.lt;have:=HB.out.at3;omega) (by rw[HN.out.1];omega) (by rw[HN.out.1];exact ba) x2 bo).mono ?_;rintro en w5 ⟨u1,rfl,T3,o3⟩;have ht:=(o3 _ (Nat.lt_trans s1 s2) cb).trans c8;obtain⟨A2,m2,c2,rfl⟩:=T3.own1.slice
     try go_simp
     refine hK.out _ _ (ap.out _ _ _ _ _ T3) ?_;clear hK K
     try simp only[pu]
     refine' qT ?_ ?_;rotate_left
     ·intro x;go_simp
      try rfl
     try simp only[pu]
     refine qD fun K hK=>?_;go_simp;refine(T3.swap.ins HT.out (by have:=T3.keep.size;have:=HB.out.lt;have:=HB.out.at3;omega) (by rw[HN.out.2];omega) (by rw[HN.out.2];exact ba) ht d9).mono ?_;rintro en w6 ⟨u2,rfl,T4,o4⟩;obtain⟨A4,m4,c4,rfl⟩:=T4.own1.slice;have T5:=T4.swap
     try go_simp
     refine hK.out _ _ (ap.out _ _ _ _ _ T5) ?_;clear hK K
     try simp only[pu]
     obtain⟨g0,g1,g2⟩:=HB.out.grow T5;have f0:w6.frozen? ⟨w1.heap.size,0,none⟩=false:=AT g0;have d0:w6.cell? ⟨w1.heap.size,0,none⟩=some (.slice Ak lk ck):=by rw[cell_of_block g0];rfl
     have f1:(w6.setCell ⟨w1.heap.size,0,none⟩ (.slice A2 m2 c2)).frozen? ⟨w1.heap.size,1,none⟩=false:=AT g1;have d1:(w6.setCell ⟨w1.heap.size,0,none⟩ (.slice A2 m2 c2)).cell? ⟨w1.heap.size,1,none⟩=some (.slice Av lk cv):=by rw[cell_of_block g1];rfl
     have a9:=If g2;clear g0 g1 g2;refine qL fun K hK=>?_;go_simp
     try go_simp
     refine hK.out _ _ trivial ?_;clear hK K
     try simp only[pu]
     refine qL fun K hK=>?_;go_simp
     try go_simp
     refine hK.out _ _ trivial ?_;clear hK K
     try simp only[pu]
     refine qL fun K hK=>?_;go_simp
     try go_simp
     refine hK.out _ _ trivial ?_;clear hK K
     try simp only[pu]
     refine jd ?_;go_wp2_with fail
     go_meet
     case rel=>exact⟨S,_,v,L,[],Bt.leafPut x e,_,_,_,rJ HI.b HI.c HI.l hkh hvh HK.out H1.i.1 a9.out⟩
   ·obtain⟨d,rfl⟩:∃d0,d=d0+1:=⟨d-1,by omega⟩;have o6:j4 d:=rec0 d rfl;have em:lc=lk+1:=by rw[<-H1.j,<-H1.g];exact HI.b.ok.kids
    have q9:((lc:Int)==0)=false:=by simp;omega
    have q':¬(lc:Int)=0:=by omega
    have ar:=HI.b.kid_lt HK.out;have d6:=fun(Y1:Nat->Prop) (W:World) Hd=>BG (Y1:=Y1) (wc:=W) (ps:=ps) (Z:=Z) (bt:=bt) (bl:=bl) (D:=D) (v:=v) (bN:=w1.heap.size) (w:=w) (vk:=.slice Ak lk ck) (vv:=.slice Av lk cv) (vc:=.slice Ac lc cc) (sz:=sz) (ks:=(Bt.bn x).keys) (vs:=(Bt.bn x).vals) (cs:=(Bt.bn x).kids) o6 HI.b HI.c hid HI.e HI.f HI.j HI.k HI.l hkh hvh HI.m HK.out ar Hd;obtain⟨y,hy⟩:=Ii ((Bn.ks x)[k]);rw[hy] at d6;have eg:=FD.at (f:=Bt.hd) (l:=Bn.ks x) (k:=k) HB.out.rows.c.hrow (af ar);rw[hy] at eg;obtain⟨gc,oc,rfl,dc⟩:=eg;have j2:=HB.out.rows.c.block (g:=gc) rfl;have j3:w.heap.size<=gc/\gc<w2.heap.size:=⟨by omega,j2.2.1⟩;clear j2;obtain⟨hh,bs⟩:=Ii (Bt.hd y);rw[bs] at d6 dc;have q8:(k:Int)<lc:=by have:=H1.j;omega
    unfold FH Id JB at d6;have HC:=If d6;have HY:=kq2 hy bs;clear d6 hy bs em
    go_upto_region 7 with fail
    go_cut [17] from 18 (fun s17 wc=>∃b,s17=.pointer (some ⟨b,0,none⟩)/\Hid (∃r S4 Y4 v4 L4 U,jp w ps S o Z bt bl D t v L y e w1.heap.size (.slice Ak lk ck) (.slice Av lk cv) (.slice (some ⟨gc,oc,none⟩) lc cc) sz (Bt.bn x).keys (Bt.bn x).vals (Bt.bn x).kids b wc r S4 Y4 v4 L4 U))
    case first=>
     as_aux_lemma=>
      obtain⟨I,ai,an⟩:=ic fun w'=>∀k,w.heap.size<=k->k<w2.heap.size->w'.heap[k]?=w2.heap[k]?;have hlt:=HB.out.lt;have h3:=HB.out.at3;have l':=fun x:Fq I=>(ai _ x.ok w.heap.size (by omega) (by omega)).trans cn.c;have au:=fun x:Fq I=>(ai _ x.ok w1.heap.size (by omega) (by omega)).trans cn.b;have a8:=fun x:Fq I=>(ai _ x.ok (w.heap.size+1) (by omega) (by omega)).trans cn.d;obtain⟨p0,p1⟩:=fw l';obtain⟨m0,m1,m2,m3⟩:=iB au;obtain⟨n0,n1⟩:=fw a8;have o0:∀x:Fq I,x.to.cell? ⟨gc,oc+k,none⟩=some (Xu hh):=fun x=>(j9 (ai _ x.ok gc j3.1 j3.2)).trans dc;have bj:I w2.drew:=an _ fun _ _ _=>rfl;have bd:=If an;have sb:IntKind.i64.wrap ((i:Int)+1)=(i:Int)+1:=az _ (by omega);have qj:bl<w.heap.size:=HB.out.zl bl HB.out.zs.1;clear ai an l' au a8 hlt h3;refine nG I (fun i=>[13].contains i) (.take 0 (.take 1 (.take 2 (.take 3 (.take 4 (.take 5 (.take 6 (.take 7 (.take 8 (.take 9 (.take 10 (.two 11 12 (.go 12 (.go 13 .nil)) (.go 11 (.go 13 .nil)))))))))))))) (by kernel_rfl) (by kernel_rfl) bj ?_
      iterate 11
       refine' qT ?_ ?_;rotate_left
       ·intro x;go_simp
        try rfl
       try simp only[pu]
      refine Jh ?_ ?_
      ·skip
       refine qD fun K hK=>?_;go_simp;refine(HC.out _ _ (HB.out.below (aa _ w2).drew)).mono ?_;rintro en w4 ⟨r,S4,v4,L4,U,rfl,h4⟩;have H4:=If h4;clear h4;have g8:=H4.out.2.2.2.2.2.size;have d5:∀k,w.heap.size<=k->k<w2.heap.size->w4.heap[k]?=w2.heap[k]?:=fun k h1 h2=>H4.out.2.2.2.2.2.block k ⟨ab (ae ⟨h1,h2⟩),by omega⟩;have cp:=If d5;clear d5
       rcases r with _ | ⟨m,g⟩
       ·dsimp only[ky,iQ]
        try go_simp
        refine hK.out _ _ (bd.out _ cp.out) ?_;clear hK K
        try simp only[pu]
        refine qD fun K hK=>?_;go_simp
        try go_simp
        refine hK.out _ _ (bd.out _ fun k h1 h2=>((aa _ w4).alloc Ih _ |>.block k (aJ h2 g8)).trans (cp.out k h1 h2)) ?_;clear hK K
        try simp only[pu]
        refine qL fun K hK=>?_;go_simp
        try go_simp
        refine hK.out _ _ trivial ?_;clear hK K
        try simp only[pu]
        refine jd ?_;go_wp2_with fail
        go_meet
        case rel=>exact⟨_,rfl,If ⟨_,_,_,_,_,_,jp.new H4.out⟩⟩
       ·dsimp only[ky,iQ]
        try go_simp
        refine hK.out _ _ (bd.out _ cp.out) ?_;clear hK K
        try simp only[pu]
        refine qD fun K hK=>?_;go_simp
        try go_simp
        refine hK.out _ _ (bd.out _ fun k h1 h2=>((aa _ w4).alloc Ih _ |>.block k (aJ h2 g8)).trans (cp.out k h1 h2)) ?_;clear hK K
        try simp only[pu]
        refine qL fun K hK=>?_;go_simp
        try go_simp
        refine hK.out _ _ trivial ?_;clear hK K
        try simp only[pu]
        refine jd ?_;go_wp2_with fail
        go_meet
        case rel=>exact⟨_,rfl,If ⟨_,_,_,_,_,_,jp.new H4.out⟩⟩
      ·skip
       refine qD fun K hK=>?_;go_simp;have b3:=((aa w2.heap.size w2).drew).alloc Ih (.cells #[.bool false,Xu 0,Xu 0,Xu 0] 274)
       try go_simp
       refine hK.out _ _ (bd.out _ fun k h1 h2=>b3.block k h2) ?_;clear hK K
       try simp only[pu]
       refine qD fun K hK=>?_;go_simp;refine(HC.out _ _ (HB.out.below b3)).mono ?_;rintro en w4 ⟨r,S4,v4,L4,U,rfl,h4⟩;have H4:=If h4;clear h4;have g8:=H4.out.2.2.2.2.2.size;have d5:∀k,w.heap.size<=k->k<w2.heap.size->w4.heap[k]?=w2.heap[k]?:=fun k h1 h2=>(H4.out.2.2.2.2.2.block k ⟨ab (ae ⟨h1,h2⟩),by omega⟩).trans (b3.block k h2);have e4:w4.heap[w2.heap.size]?=some (.cells #[.bool false,Xu 0,Xu 0,Xu 0] 274 (0,0)):=(H4.out.2.2.2.2.2.block w2.heap.size ⟨ae ⟨Nat.le_refl _,by simp⟩,by have:=HB.out.lt;have:=HB.out.at3;omega⟩).trans (heap_alloc_new w2.drew _);have cp:=If d5;clear d5;obtain⟨x0,x1,x2,x3⟩:=Fy e4;obtain⟨f0,f1,f2,f3⟩:=fO e4;have hv:=If e4;clear e4
       rcases r with _ | ⟨m,g⟩
       ·dsimp only[ky,iQ]
        try go_simp
        refine hK.out _ _ (bd.out _ cp.out) ?_;clear hK K
        try simp only[pu]
        refine qL fun K hK=>?_;go_simp
        try go_simp
        refine hK.out _ _ trivial ?_;clear hK K
        try simp only[pu]
        refine jd ?_;go_wp2_with fail
        go_meet
        case rel=>exact⟨_,rfl,If ⟨_,_,_,_,_,_,jp.set H4.out (ae ⟨Nat.le_refl _,by simp⟩) (by have:=HB.out.lt;have:=HB.out.at3;omega) hv.out rfl⟩⟩
       ·dsimp only[ky,iQ]
        try go_simp
        refine hK.out _ _ (bd.out _ cp.out) ?_;clear hK K
        try simp only[pu]
        refine qL fun K hK=>?_;go_simp
        try go_simp
        refine hK.out _ _ trivial ?_;clear hK K
        try simp only[pu]
        refine jd ?_;go_wp2_with fail
        go_meet
        case rel=>exact⟨_,rfl,If ⟨_,_,_,_,_,_,jp.set H4.out (ae ⟨Nat.le_refl _,by simp⟩) (by have:=HB.out.lt;have:=HB.out.at3;omega) hv.out rfl⟩⟩
    case rest=>
     obtain⟨b,rfl,HU⟩:=hcut;obtain⟨r,S4,Y4,v4,L4,U,U1⟩:=HU.out;clear HU cn HC x0 x1 y0 y1 y2 y3 z0 z1 dc
     rcases r with _ | ⟨m,g⟩
     ·have up:=U1.up;unfold iQ at up
      dsimp only at up
      obtain⟨x0,x1,x2,x3⟩:=Fy up;have ad:=If U1;clear up U1;go_wp2_with fail
      go_meet
      case rel=>
       obtain⟨hy,bs⟩:=HY.out;have U1:=ad.out;subst hy;obtain⟨x',M⟩:=Db HI.b HI.c HI.l hkh hvh HI.f HK.out ar H1.i.1 U1.sum U1.put U1.num U1.all U1.held;exact⟨_,_,_,_,_,x',_,_,_,M⟩
     ·have up:=U1.up;unfold iQ at up
      dsimp only at up
      obtain⟨x0,x1,x2,x3⟩:=Fy up;have ii:=If up;have ad:=If U1;clear up U1
      go_upto_region 9 with fail
      go_cut [] from 18 (fun wd=>Hid (wd.heap[b]?=some (.cells #[.bool true,Xu m.kh,Xu m.vh,Xu g] 274 (0,0))/\∃Y5 A2 m2 c2 A4 m4 c4,eH w ps Z bt bl D t v w1.heap.size wd S4 Y5 v4 L4 (.slice A2 m2 c2) (.slice A4 m4 c4) (.slice (some ⟨gc,oc,none⟩) lc cc) sz ((Bt.bn x).keys.take k++m.kh::(Bt.bn x).keys.drop k) ((Bt.bn x).vals.take k++m.vh::(Bt.bn x).vals.drop k) (Bt.bn x).kids))
      case first=>
       as_aux_lemma=>
        obtain⟨I,ai,an⟩:=ic fun w'=>w'.heap[w1.heap.size]?=wc.heap[w1.heap.size]?/\w'.heap[b]?=wc.heap[b]?;have au:=fun x:Fq I=>(ai _ x.ok).1.trans ad.out.held.box;have a8:=fun x:Fq I=>(ai _ x.ok).2.trans ii.out;obtain⟨m0,m1,m2,m3⟩:=iB au;obtain⟨n0,n1,n2,n3⟩:=iB a8;have bj:I wc.drew:=an _ ⟨rfl,rfl⟩;have d7:∀(w':World) (u1 u2:Value) (l1 l2:List Nat),fD wc w' (w.heap.size+3) ps S4 Y4 (.slice Ak lk ck) (.slice Av lk cv) u1 u2 l1 l2->I w':=fun w' u1 u2 l1 l2 T=>an _ ⟨T.keep.block _ ⟨ad.out.held.lt,ad.out.held.ne.1,ad.out.held.ne.2.1⟩,T.keep.block _ ⟨ad.out.ne.1,ad.out.ne.2.1,ad.out.ne.2.2.1⟩⟩;have ap:=If d7;have e6:Hid (∀(w':World) (u1 u2:Value) (l1 l2:List Nat),fD wc w' (w.heap.size+3) ps S4 Y4 (.slice Ak lk ck) (.slice Av lk cv) u1 u2 l1 l2->∀z1 z2,((w'.setCell ⟨w1.heap.size,0,none⟩ z1).setCell ⟨w1.heap.size,1,none⟩ z2).heap[b]?=some (.cells #[.bool true,Xu m.kh,Xu m.vh,Xu g] 274 (0,0))):=If fun w' u1 u2 l1 l2 T z1 z2=>((FB ad.out.ne.2.2.2.2).trans (FB ad.out.ne.2.2.2.2)).trans ((T.keep.block _ ⟨ad.out.ne.1,ad.out.ne.2.1,ad.out.ne.2.2.1⟩).trans ii.out);have dv:=If ad.out.held.two.drew;have HT:Hid (fy<w.heap.size+3):=If (by have:=xA HI.a;omega);have HN:Hid ((Bt.bn x).keys.length=lk/\(Bt.bn x).vals.length=lk):=If ⟨by rw[<-H1.g];unfold Bt.bn;rw[ao],by rw[<-H1.g];unfold Bt.bn;rw[ao]⟩;have oj:lk<=31:=by rw[<-H1.g];exact HI.b.es.2.2
        clear ai an au a8 d7;refine nG I (fun i=>[17,18,19].contains i) (.take 0 (.take 1 (.take 2 (.take 3 (.take 4 (.take 5 (.take 8 (.take 9 (.take 10 (.take 11 (.take 12 (.take 13 (.two 6 14 (.two 7 14 (.take 16 (.go 14 (.go 15 (.go 17 (.go 18 (.go 19 .nil)))))) (.go 7 (.take 16 (.go 15 (.go 17 (.go 18 (.go 19 .nil))))))) (.go 6 (.go 7 (.take 16 (.go 15 (.go 17 (.go 18 (.go 19 .nil)))))))))))))))))))) (by kernel_rfl) (by kernel_rfl) bj ?_
        iterate 12
         refine' qT ?_ ?_;rotate_left
         ·intro x;go_simp
          try rfl
         try simp only[pu]
        have eb:∀c,(wc.drew.alloc c).heap.size=wc.heap.size+1:=fun c=>by simp
        refine Jh ?_ ?_
        ·skip
         refine qD fun K hK=>?_;go_simp;obtain⟨T1,x1,cb,d9,s1,b1⟩:=dv.out.one (m.kh)
         try go_simp
         refine hK.out _ _ (ap.out _ _ _ _ _ T1) ?_;clear hK K
         try simp only[pu]
         refine Jh ?_ ?_
         ·skip
          refine qD fun K hK=>?_;go_simp;refine(T1.ins HT.out (by have:=T1.keep.size;have:=ad.out.held.lt;have:=ad.out.held.at3;omega) (by rw[HN.out.1];omega) (by rw[HN.out.1];exact ba) x1 cb).mono ?_;rintro en w4 ⟨u1,rfl,T2,o2⟩;obtain⟨A2,m2,c2,rfl⟩:=T2.own1.slice
          try go_simp
          refine hK.out _ _ (ap.out _ _ _ _ _ T2) ?_;clear hK K
          try simp only[pu]
          refine' qT ?_ ?_;rotate_left
          ·intro x;go_simp
           try rfl
          try simp only[pu]
          refine qD fun K hK=>?_;go_simp;obtain⟨T3,x3,po,hq,s3,b3⟩:=T2.one (m.vh)
          try go_simp
          refine hK.out _ _ (ap.out _ _ _ _ _ T3) ?_;clear hK K
          try simp only[pu]
          refine qD fun K hK=>?_;go_simp;refine(T3.swap.ins HT.out (by have:=T3.keep.size;have:=ad.out.held.lt;have:=ad.out.held.at3;omega) (by rw[HN.out.2];omega) (by rw[HN.out.2];exact ba) x3 hq).mono ?_;rintro en w6 ⟨u2,rfl,T4,o4⟩;obtain⟨A4,m4,c4,rfl⟩:=T4.own1.slice;have T5:=T4.swap
          try go_simp
          refine hK.out _ _ (ap.out _ _ _ _ _ T5) ?_;clear hK K
          try simp only[pu]
          obtain⟨g0,g1,g2⟩:=ad.out.held.grow T5;have f0:w6.frozen? ⟨w1.heap.size,0,none⟩=false:=AT g0;have d0:w6.cell? ⟨w1.heap.size,0,none⟩=some (.slice Ak lk ck):=by rw[cell_of_block g0];rfl
          have f1:(w6.setCell ⟨w1.heap.size,0,none⟩ (.slice A2 m2 c2)).frozen? ⟨w1.heap.size,1,none⟩=false:=AT g1;have d1:(w6.setCell ⟨w1.heap.size,0,none⟩ (.slice A2 m2 c2)).cell? ⟨w1.heap.size,1,none⟩=some (.slice Av lk cv):=by rw[cell_of_block g1];rfl
          have a9:=If g2;have d4:=If (e6.out _ _ _ _ _ T5 (.slice A2 m2 c2) (.slice A4 m4 c4));clear g0 g1 g2;refine qL fun K hK=>?_;go_simp
          try go_simp
          refine hK.out _ _ trivial ?_;clear hK K
          try simp only[pu]
          refine qL fun K hK=>?_;go_simp
          try go_simp
          refine hK.out _ _ trivial ?_;clear hK K
          try simp only[pu]
          refine qL fun K hK=>?_;go_simp
          try go_simp
          refine hK.out _ _ trivial ?_;clear hK K
          try simp only[pu]
          refine jd ?_;go_wp2_with fail
          go_meet
          case rel=>exact If ⟨d4.out,_,A2,m2,c2,A4,m4,c4,a9.out⟩
         ·skip
          refine qD fun K hK=>?_;go_simp;obtain⟨T2,x2,bo,ch,s2,b2⟩:=T1.one (m.vh);rw[eb] at x2 bo ch s2;have c8:=(b2.block _ s1).trans x1
          try go_simp
          refine hK.out _ _ (ap.out _ _ _ _ _ T2) ?_;clear hK K
          try simp only[pu]
          refine qD fun K hK=>?_;go_simp;refine(T2.ins HT.out (by have:=T2.keep.size;have:=ad.out.held.lt;have:=ad.out.held.at3;omega) (by rw[HN.out.1];omega) (by rw[HN.out.1];exact ba) c8 cb).mono ?_;rintro en w5 ⟨u1,rfl,T3,o3⟩;have hu:=(o3 _ s2 bo).trans x2;obtain⟨A2,m2,c2,rfl⟩:=T3.own1.slice
          try go_simp
          refine hK.out _ _ (ap.out _ _ _ _ _ T3) ?_;clear hK K
          try simp only[pu]
          refine' qT ?_ ?_;rotate_left
          ·intro x;go_simp
           try rfl
          try simp only[pu]
          refine qD fun K hK=>?_;go_simp;refine(T3.swap.ins HT.out (by have:=T3.keep.size;have:=ad.out.held.lt;have:=ad.out.held.at3;omega) (by rw[HN.out.2];omega) (by rw[HN.out.2];exact ba) hu ch).mono ?_;rintro en w6 ⟨u2,rfl,T4,o4⟩;obtain⟨A4,m4,c4,rfl⟩:=T4.own1.slice;have T5:=T4.swap
          try go_simp
          refine hK.out _ _ (ap.out _ _ _ _ _ T5) ?_;clear hK K
          try simp only[pu]
          obtain⟨g0,g1,g2⟩:=ad.out.held.grow T5;have f0:w6.frozen? ⟨w1.heap.size,0,none⟩=false:=AT g0;have d0:w6.cell? ⟨w1.heap.size,0,none⟩=some (.slice Ak lk ck):=by rw[cell_of_block g0];rfl
          have f1:(w6.setCell ⟨w1.heap.size,0,none⟩ (.slice A2 m2 c2)).frozen? ⟨w1.heap.size,1,none⟩=false:=AT g1;have d1:(w6.setCell ⟨w1.heap.size,0,none⟩ (.slice A2 m2 c2)).cell? ⟨w1.heap.size,1,none⟩=some (.slice Av lk cv):=by rw[cell_of_block g1];rfl
          have a9:=If g2;have d4:=If (e6.out _ _ _ _ _ T5 (.slice A2 m2 c2) (.slice A4 m4 c4));clear g0 g1 g2;refine qL fun K hK=>?_;go_simp
          try go_simp
          refine hK.out _ _ trivial ?_;clear hK K
          try simp only[pu]
          refine qL fun K hK=>?_;go_simp
          try go_simp
          refine hK.out _ _ trivial ?_;clear hK K
          try simp only[pu]
          refine qL fun K hK=>?_;go_simp
          try go_simp
          refine hK.out _ _ trivial ?_;clear hK K
          try simp only[pu]
          refine jd ?_;go_wp2_with fail
          go_meet
          case rel=>exact If ⟨d4.out,_,A2,m2,c2,A4,m4,c4,a9.out⟩
        ·skip
         refine qD fun K hK=>?_;go_simp;obtain⟨T1,x1,cb,d9,s1,b1⟩:=dv.out.one (m.vh)
         try go_simp
         refine hK.out _ _ (ap.out _ _ _ _ _ T1) ?_;clear hK K
         try simp only[pu]
         refine qD fun K hK=>?_;go_simp;obtain⟨T2,x2,bo,ch,s2,b2⟩:=T1.one (m.kh);rw[eb] at x2 bo ch;have c8:=(b2.block _ s1).trans x1
         try go_simp
         refine hK.out _ _ (ap.out _ _ _ _ _ T2) ?_;clear hK K
         try simp only[pu]
         refine qD fun K hK=>?_;go_simp;refine(T2.ins HT.out (by have:=T2.keep.size;have:=ad.out.held.lt;have:=ad.out.held.at3;omega) (by rw[HN.out.1];omega) (by rw[HN.out.1];exact ba) x2 bo).mono ?_;rintro en w5 ⟨u1,rfl,T3,o3⟩;have ht:=(o3 _ (Nat.lt_trans s1 s2) cb).trans c8;obtain⟨A2,m2,c2,rfl⟩:=T3.own1.slice
         try go_simp
         refine hK.out _ _ (ap.out _ _ _ _ _ T3) ?_;clear hK K
         try simp only[pu]
         refine' qT ?_ ?_;rotate_left
         ·intro x;go_simp
          try rfl
         try simp only[pu]
         refine qD fun K hK=>?_;go_simp;refine(T3.swap.ins HT.out (by have:=T3.keep.size;have:=ad.out.held.lt;have:=ad.out.held.at3;omega) (by rw[HN.out.2];omega) (by rw[HN.out.2];exact ba) ht d9).mono ?_;rintro en w6 ⟨u2,rfl,T4,o4⟩;obtain⟨A4,m4,c4,rfl⟩:=T4.own1.slice;have T5:=T4.swap
         try go_simp
         refine hK.out _ _ (ap.out _ _ _ _ _ T5) ?_;clear hK K
         try simp only[pu]
         obtain⟨g0,g1,g2⟩:=ad.out.held.grow T5;have f0:w6.frozen? ⟨w1.heap.size,0,none⟩=false:=AT g0;have d0:w6.cell? ⟨w1.heap.size,0,none⟩=some (.slice Ak lk ck):=by rw[cell_of_block g0];rfl
         have f1:(w6.setCell ⟨w1.heap.size,0,none⟩ (.slice A2 m2 c2)).frozen? ⟨w1.heap.size,1,none⟩=false:=AT g1;have d1:(w6.setCell ⟨w1.heap.size,0,none⟩ (.slice A2 m2 c2)).cell? ⟨w1.heap.size,1,none⟩=some (.slice Av lk cv):=by rw[cell_of_block g1];rfl
         have a9:=If g2;have d4:=If (e6.out _ _ _ _ _ T5 (.slice A2 m2 c2) (.slice A4 m4 c4));clear g0 g1 g2;refine qL fun K hK=>?_;go_simp
         try go_simp
         refine hK.out _ _ trivial ?_;clear hK K
         try simp only[pu]
         refine qL fun K hK=>?_;go_simp
         try go_simp
         refine hK.out _ _ trivial ?_;clear hK K
         try simp only[pu]
         refine qL fun K hK=>?_;go_simp
         try go_simp
         refine hK.out _ _ trivial ?_;clear hK K
         try simp only[pu]
         refine jd ?_;go_wp2_with fail
         go_meet
         case rel=>exact If ⟨d4.out,_,A2,m2,c2,A4,m4,c4,a9.out⟩
      case rest=>
       obtain⟨up,Y5,A2,m2,c2,A4,m4,c4,H5⟩:=hcut.out;clear hcut x0 x1 x2 x3;have iv:=H5.box;obtain⟨x0,x1,x2,x3⟩:=Fy up;obtain⟨y0,y1,y2,y3⟩:=Fy iv;have b6:=(aa _ wc).alloc Ih (Xf g);have H6:=H5.below b6;have x6:=heap_alloc_new wc (Xf g);have n6:(Value.slice (some ⟨gc,oc,none⟩) lc cc).ownBlock≠some wc.heap.size:=fun q=>by have:=(H5.rows.c.block q).2.1;omega
       have ob:(Bt.bn x).kids.length=lc:=by rw[<-H1.j];unfold Bt.bn;rw[ao]
       have oi:lc<=32:=by
        have h1:=HI.b.es.2.2;have h2:=HI.b.ok.kids;have h3:=H1.j;omega
       have cw:=uT H6.st H6.rows.c (fun g hg=>H6.yk g (ae (ae hg))) (by have:=xA HI.a;omega) (by omega) (i:=k+1) (by omega) x6 n6 (by have:=H6.lt;have:=H6.at3;omega);have e1:((k+1:Nat):Int)=(k:Int)+1:=by omega
       rw[e1] at cw;have sd:IntKind.i64.wrap ((k:Int)+1)=(k:Int)+1:=az _ (by omega);have nl:=If cw;have nc:=If H6;have px:=If up;clear cw H6 H5 iv up x6 n6 ob oi e1 b6;go_wp2_with fail;refine nl.out.mono ?_;rintro en w7 ⟨u3,rfl,I7⟩;obtain⟨A7,m7,c7,rfl⟩:=I7.own.slice;obtain⟨g0,g2⟩:=nc.out.grow3 I7;have f2:w7.frozen? ⟨w1.heap.size,2,none⟩=false:=AT g0;have d2:w7.cell? ⟨w1.heap.size,2,none⟩=some (.slice (some ⟨gc,oc,none⟩) lc cc):=by rw[cell_of_block g0];rfl
       have a9:=If g2;clear g0 g2 I7 x0 x1 x2 x3 y0 y1 y2 y3;go_wp2_with fail
       go_meet
       case rel=>
        obtain⟨hy,bs⟩:=HY.out;have U1:=ad.out;subst hy;obtain⟨x',M⟩:=Dc HI.b HI.c HI.l hkh hvh HI.f HK.out ar H1.i.1 U1.sum U1.put U1.num U1.all a9.out;exact⟨_,_,_,_,_,x',_,_,_,M⟩
 case rest=>
  obtain⟨S',Y,v',L',U,x',vk,vv,vc,M⟩:=hcut;have hp:=M.putting;have c3:=M.held.rows;obtain⟨K1,k1,i3⟩:=c3.k.slice2;obtain⟨V1,l1,i5⟩:=c3.v.slice2;obtain⟨C1,j1,i0⟩:=c3.c.slice2;rw[hp.2.2.2.2.1] at i3;rw[hp.2.2.2.2.2.1] at i5;rw[hp.2.2.2.2.2.2] at i0;subst i3 i5 i0;obtain⟨sz,b9⟩:=Ii (Bt.its x).length;obtain⟨n,hn⟩:=Ii (Bn.es x').length;obtain⟨c,hc⟩:=Ii (Bn.ks x').length;have Hd:=M.held;rw[b9,hn,hc] at Hd;have hb:=Hd.box;have ca:=Hd.tree;have r8:sz<1000000:=by rw[<-b9];exact HI.b.few
  have rc:n<=2*t:=by rw[<-hn];exact M.mid.okN.1
  have c5:=HI.b.t2;have b':=HI.b.t1;clear x0 x1 y0 y1 y2 y3 z0 z1;obtain⟨x0,x1⟩:=Fp ca;obtain⟨y0,y1,y2,y3⟩:=Fy hb;obtain⟨f0,f1,f2,f3⟩:=fO hb;have l3:IntKind.u64.wrap ((sz:Int)+1)=(sz:Int)+1:=bO _ (by omega);have HM:=kq4 M b9 hn hc;have HD:=If Hd;clear M Hd hp c3 b9 hn hc hb ca
  go_upto_region 11 with fail
  go_cut [] from 18 (fun wd=>Hid (eH w ps Z bt bl D t v w1.heap.size wd S' Y v' L' (.slice K1 n k1) (.slice V1 n l1) (.slice C1 c j1) (sz+1) (Bt.bn x').keys (Bt.bn x').vals (Bt.bn x').kids))
  case first=>
   as_aux_lemma=>
    go_wp2_with fail
    go_meet
    case rel=>
     have h:=HD.out.size (sz+1);have e1:((sz+1:Nat):Int)=(sz:Int)+1:=by omega
     rw[e1] at h;exact If h
  case rest=>
   have hb:=hcut.out.box;have ca:=hcut.out.tree;have o7:=hcut.out.res;clear HD x0 x1 y0 y1 y2 y3 f0 f1 f2 f3 l3;have e1:((sz+1:Nat):Int)=(sz:Int)+1:=by omega
   rw[e1] at hb;obtain⟨x0,x1⟩:=Fp ca;obtain⟨y0,y1,y2,y3⟩:=Fy hb;have sa:IntKind.i64.wrap (2*(t:Int))=2*(t:Int):=az _ (by omega);clear hb ca o7
   by_cases hlt:n<2*t
   ·have op:(n:Int)<2*t:=by omega
    have bu:Ct 212 #[PV ps,Xi t,Xu (Bt.hd x:Nat),eC (.slice K1 n k1) (.slice V1 n l1) (.slice C1 c j1) (Bt.bn x').size] wc fun e w'=>e=.returned (Xi 0)/\Ig w' ps (FC S' (Bn.h x) 0 (bnWords t (Bt.bn x'))) Y/\Fo Y wc w':=by
     obtain⟨M,b9,hn,hc⟩:=HM.out;obtain⟨p1,p2,p3,p4,p5,p6,p7⟩:=M.putting;exact Jg hcut.out.st p1 (Bt.bnok_of M.mid.fit b' c5 M.mid.kids (M.mid.okN.ok (by omega))) hcut.out.rows.k.hrow hcut.out.rows.v.hrow hcut.out.rows.c.hrow (Bn.h x) p3 p2 (kX M.mid.lt (by omega))
    have c':(Bt.bn x').size=sz+1:=by
     obtain⟨M,b9,hn,hc⟩:=HM.out;exact M.putting.2.2.2.1.trans (by rw[b9])
    rw[c'] at bu;unfold eC at bu;rw[e1] at bu;have HP:=If bu;clear bu c' e1;go_wp2_with fail;refine HP.out.mono ?_;rintro en w3 ⟨rfl,ea,ds⟩;have H3:=hcut.out.kid ea (ds.mono fun k hk=>hk.1) (hcut.out.sp.keeps fun k hk=>ds.block k (hcut.out.zy k (hcut.out.spz k hk))) rfl;have b4:=H3.res;clear x0 x1 y0 y1 y2 y3;obtain⟨x0,x1,x2,x3⟩:=Fy b4;obtain⟨f0,f1,f2,f3⟩:=fO b4;have H3:=kq2 H3 b4;clear b4 ea ds;go_wp2_with fail;obtain⟨WF,cu⟩:=Ii ((((w3.setCell ⟨w.heap.size+1+1,0,none⟩ (.bool false)).setCell ⟨w.heap.size+1+1,1,none⟩ (Xu 0)).setCell ⟨w.heap.size+1+1,2,none⟩ (Xu 0)).setCell ⟨w.heap.size+1+1,3,none⟩ (Xu 0));rw[cu];have HF:=H3.a.fin H3.b (.bool false) (Xu 0) (Xu 0) (Xu 0) WF cu.symm;clear cu x0 x1 x2 x3 f0 f1 f2 f3;have e4:=HF.2.2.2;obtain⟨q0,q1,q2,q3⟩:=Fy e4;obtain⟨M,b9,hn,hc⟩:=HM.out;have bb:¬(Bn.es x').length=2*t:=by omega
    have k3:=M.num;have i':=M.all;rw[if_neg bb] at k3;rw[decide_eq_false bb] at i';exact bodyPost_ret (v:=.agg #[.bool false,Xu 0,Xu 0,Xu 0]) (by simp[results,f182,go_sem,q0,q1,q2,q3]) rfl ⟨none,_,v',L',U,rfl,M.sum,M.mid.put c5 (by omega),HF.1,HF.2.1,HF.2.2.1,M.held.own,k3,i'⟩
   ·have op:¬(n:Int)<2*t:=by omega
    have bb:n=2*t:=by omega
    have ar:(Bt.bn x').keys.length=n/\(Bt.bn x').vals.length=n/\(Bt.bn x').kids.length=c:=by
     obtain⟨M,b9,hn,hc⟩:=HM.out;obtain⟨p1,p2,p3,p4,p5,p6,p7⟩:=M.putting;exact⟨by omega,by omega,by omega⟩
    have o9:∃b cc,(Value.slice K1 n k1)=.slice (some ⟨b,0,none⟩) n cc/\n<=cc:=by
     have:=hcut.out.rows.k.some (by omega);rwa[ar.1] at this
    have o':∃b cc,(Value.slice V1 n l1)=.slice (some ⟨b,0,none⟩) n cc/\n<=cc:=by
     have:=hcut.out.rows.v.some (by omega);rwa[ar.2.1] at this
    obtain⟨bk,p',ek,dd⟩:=o9;obtain⟨bv,qb,ev,dk⟩:=o'
    injection ek with ek1 _ ek2
    injection ev with ev1 _ ev2
    subst ek1 ek2 ev1 ev2;have r9:t+1<=n:=by omega
    have bf:=kq2 bb ar;clear bb ar e1;have a1:(t:Int)<=k1:=by omega
    have a2:(t:Int)<=l1:=by omega
    have a3:(t:Int)+1<=n:=by omega
    have a4:0<=(t:Int)+1:=by omega
    have a6:¬k1=t+1:=by omega
    have a7:¬l1=t+1:=by omega
    have a5:((t:Int)+1).toNat=t+1:=by omega
    have sl:IntKind.i64.wrap ((t:Int)+1)=(t:Int)+1:=az _ (by omega);have qm:(t:Int)+1<=k1:=by omega
    have ql:(t:Int)+1<=l1:=by omega
    obtain⟨wp,rfl⟩:∃z,z=wc:=⟨wc,rfl⟩;have HC:=hcut;clear hcut
    go_upto_region 15 with fail
    go_cut [18,19] from 20 (fun s18 s19 wd=>∃bL bR,s18=.pointer (some ⟨bL,0,none⟩)/\s19=.pointer (some ⟨bR,0,none⟩)/\Hid (eV wp wd ps S' Y bL bR #[.slice (some ⟨bk,0,none⟩) t k1,.slice (some ⟨bv,0,none⟩) t l1,.slice none 0 0,Xu 0] #[.slice (some ⟨bk,t+1,none⟩) (n-(t+1)) (k1-(t+1)),.slice (some ⟨bv,t+1,none⟩) (n-(t+1)) (l1-(t+1)),.slice none 0 0,Xu 0]))
    case first=>
     as_aux_lemma=>
      obtain⟨I,ai,an⟩:=ic fun w'=>w'.heap[w1.heap.size]?=wp.heap[w1.heap.size]?/\w'.heap[w.heap.size]?=wp.heap[w.heap.size]?;have hb:=HC.out.box;have e1:((sz+1:Nat):Int)=(sz:Int)+1:=by omega
      rw[e1] at hb;have au:=fun x:Fq I=>(ai _ x.ok).1.trans hb;have a8:=fun x:Fq I=>(ai _ x.ok).2.trans HC.out.tree;obtain⟨m0,m1,m2,m3⟩:=iB au;obtain⟨p0,p1⟩:=fw a8;have bj:I wp.drew:=an _ ⟨rfl,rfl⟩;have b1:=fun q=>((aa wp.heap.size wp).drew).alloc Ih (.cells q 215);have b2:=fun q q2=>(b1 q).alloc (by simp) (.cells q2 215);have i1:∀q,I (wp.drew.alloc (.cells q 215)):=fun q=>an _ ⟨(b1 q).block _ HC.out.lt,(b1 q).block _ (by have:=HC.out.lt;have:=HC.out.at3;omega)⟩;have i2:∀q q2,I ((wp.drew.alloc (.cells q 215)).alloc (.cells q2 215)):=fun q q2=>an _ ⟨(b2 q q2).block _ HC.out.lt,(b2 q q2).block _ (by have:=HC.out.lt;have:=HC.out.at3;omega)⟩;have h9:=If i1;have c9:=If i2;clear ai an au a8 hb e1 b1 b2 i1 i2;refine fh I (.take 0 (.take 1 (.take 2 (.take 3 (.take 4 (.take 5 (.take 6 (.take 7 (.take 8 (.take 9 (.take 10 (.take 11 (.take 12 (.take 13 (.take 14 (.take 15 (.take 16 (.take 17 (.take 18 (.take 19 (.take 20 (.take 21 (.take 22 (.take 23 (.two 24 25 (.go 25 (.go 26 (.go 27 .nil))) (.go 24 (.go 26 (.go 27 .nil)))))))))))))))))))))))))))) (by kernel_rfl) (by kernel_rfl) bj ?_
      iterate 24
       refine' pT ?_ ?_;rotate_left
       ·intro x;go_simp
        try rfl
       try simp only[pu]
      refine gL ?_ ?_
      ·skip
       refine pD fun K hK=>?_;go_simp
       try go_simp
       refine hK.out _ _ (h9.out _) ?_;clear hK K
       try simp only[pu]
       refine pD fun K hK=>?_;go_simp
       try go_simp
       refine hK.out _ _ (c9.out _ _) ?_;clear hK K
       try simp only[pu]
       refine pD fun K hK=>?_;go_simp
       try go_simp
       refine hK.out _ _ (c9.out _ _) ?_;clear hK K
       try simp only[pu]
       refine pD fun K hK=>?_;go_simp
       try go_simp
       refine hK.out _ _ (c9.out _ _) ?_;clear hK K
       try simp only[pu]
       refine eP ?_;go_wp2_with fail
       go_meet
       case rel=>exact⟨_,_,rfl,rfl,If (eV.start HC.out.st _ _)⟩
      ·skip
       refine pD fun K hK=>?_;go_simp
       try go_simp
       refine hK.out _ _ (h9.out _) ?_;clear hK K
       try simp only[pu]
       refine pD fun K hK=>?_;go_simp
       try go_simp
       refine hK.out _ _ (c9.out _ _) ?_;clear hK K
       try simp only[pu]
       refine pD fun K hK=>?_;go_simp
       try go_simp
       refine hK.out _ _ (c9.out _ _) ?_;clear hK K
       try simp only[pu]
       refine pD fun K hK=>?_;go_simp
       try go_simp
       refine hK.out _ _ (c9.out _ _) ?_;clear hK K
       try simp only[pu]
       refine eP ?_;go_wp2_with fail
       go_meet
       case rel=>exact⟨_,_,rfl,rfl,If (eV.start HC.out.st _ _).turn⟩
    case rest=>
     obtain⟨bL,bR,rfl,rfl,HS⟩:=hcut;obtain⟨nr,k2⟩:∃nr,nr=n-(t+1):=⟨_,rfl⟩;rw[<-k2] at HS;have r7:nr+1=t:=by have:=bf.a;omega
     clear k2 x0 x1 y0 y1 y2 y3 a1 a2 a3 a4 a5 a6 a7;have hL:=HS.out.bl;have hR:=HS.out.br;have e1:((sz+1:Nat):Int)=(sz:Int)+1:=by omega
     have hN:=(HS.out.kp.block _ HC.out.yb.1).trans HC.out.box;rw[e1] at hN;have hT:=(HS.out.kp.block _ HC.out.yb.2.1).trans HC.out.tree;obtain⟨x0,x1⟩:=Fp hT;obtain⟨y0,y1,y2,y3⟩:=Fy hN;obtain⟨a0,a1,a2,a3⟩:=Fy hL;obtain⟨f0,f1,f2,f3⟩:=fO hL;obtain⟨b0,b1,b2,b3⟩:=Fy hR;obtain⟨h0,h1,h2,h3⟩:=fO hR;clear hL hR hN hT e1
     go_upto_if 149 with fail
     go_cut [] from 20 (fun wd=>∃A1 m1 c1 A2 m2 c2,Hid (eV wp wd ps S' Y bL bR #[.slice (some ⟨bk,0,none⟩) t k1,.slice (some ⟨bv,0,none⟩) t l1,.slice A1 m1 c1,Xu 0] #[.slice (some ⟨bk,t+1,none⟩) nr (k1-(t+1)),.slice (some ⟨bv,t+1,none⟩) nr (l1-(t+1)),.slice A2 m2 c2,Xu 0]/\FD wp (.slice A1 m1 c1) ((Bt.bn x').kids.take (t+1))/\FD wp (.slice A2 m2 c2) ((Bt.bn x').kids.drop (t+1))/\(∀g,(Value.slice A1 m1 c1).ownBlock=some g->Y g)/\∀g,(Value.slice A2 m2 c2).ownBlock=some g->Y g/\g≠bl))
     case first=>
      as_aux_lemma=>
       by_cases hd0:d=0
       ·subst hd0;have kn:Bn.ks x'=[]:=Bt.nil_of_zero _;obtain rfl:c=0:=by rw[<-HM.d,kn];rfl
        go_wp2_with fail
        go_meet
        case rel=>
         have km:(Bt.bn x').kids=[]:=by unfold Bt.bn;rw[kn];rfl
         refine⟨none,0,0,none,0,0,If ⟨HS.out,?_,?_,(fun g hg=>nomatch hg),fun g hg=>nomatch hg⟩⟩
         ·rw[km];exact⟨none,0,rfl,fun k hk=>absurd hk (by simp)⟩
         ·rw[km];exact⟨none,0,rfl,fun k hk=>absurd hk (by simp)⟩
       ·have jv:c=n+1:=by
         have h1:=HM.a.mid.okN.2.1;rw[if_neg hd0] at h1;have h2:=HM.out.2.2;omega
        have o8:∃b cc,(Value.slice C1 c j1)=.slice (some ⟨b,0,none⟩) c cc/\c<=cc:=by
         have:=HC.out.rows.c.some (by have:=bf.b.2.2;omega);rwa[bf.b.2.2] at this
        obtain⟨bc,p9,ec,dc⟩:=o8
        injection ec with ec1 _ ec2
        subst ec1 ec2;have bb:=bf.a;have qq:(0:Int)<c:=by omega
        have q1:(t:Int)+1<=j1:=by omega
        have q2:(t:Int)+1<=c:=by omega
        have q3:0<=(t:Int)+1:=by omega
        have q4:¬j1=t+1:=by omega
        have q5:((t:Int)+1).toNat=t+1:=by omega
        have rl:¬bL=bR:=HS.out.ge.2.2;have rm:¬bR=bL:=fun q=>HS.out.ge.2.2 q.symm;have oe:=HC.out.lt;have fm:=HS.out.ge;have fb:=HC.out.at3;have rr:¬bL=w1.heap.size:=by omega
        have rt:¬w1.heap.size=bL:=by omega
        have rv:¬bR=w1.heap.size:=by omega
        have rx:¬w1.heap.size=bR:=by omega
        have r4:¬bL=w.heap.size:=by omega
        have r5:¬w.heap.size=bL:=by omega
        have r6:¬bR=w.heap.size:=by omega
        have rk:¬w.heap.size=bR:=by omega
        clear jv bb oe fm fb
        go_upto_region 17 with fail
        go_region
        go_wp2_with fail
        go_meet
        case rel=>
         have hrow:=HC.out.rows.c.hrow;have ar:=bf.b.2.2;have bb:=bf.a;have jv:c=n+1:=by
          have h1:=HM.a.mid.okN.2.1;rw[if_neg hd0] at h1;have h2:=HM.out.2.2;omega
         have l4:∀g,(Value.slice (some ⟨bc,0,none⟩) c j1).ownBlock=some g->Y g:=fun g hg=>HC.out.yk g (ae (ae hg));have qi:=(HC.out.rows.c.block (g:=bc) rfl).1;have jj:=HC.out.zl bl HC.out.zs.1;have pn:∀g,(Value.slice (some ⟨bc,0,none⟩) c j1).ownBlock=some g->Y g/\g≠bl:=fun g hg=>⟨l4 g hg,by
          have hg:bc=g:=Option.some.inj hg;omega⟩
         exact⟨_,_,_,_,_,_,If ⟨((HS.out.setL2 _).setR2 _).below (aa _ _).drew,FD.take hrow (by omega),FD.drop hrow (by omega),l4,pn⟩⟩
     case rest=>
      obtain⟨A1,m1,c1,A2,m2,c2,bx⟩:=hcut;obtain⟨L2,gg,rfl,k5⟩:=HM.a.spare HI.m HI.e HI.f (by have:=bf.a;have:=HM.c;omega);have ed:=If k5;obtain⟨KS,cq⟩:=Ii ((Bn.ks x').drop (t+1));have el:(Bt.bn x').kids.drop (t+1)=KS.map Bt.hd:=by rw[<-cq];unfold Bt.bn;rw[List.map_drop]
      have f':m2=KS.length:=by
       obtain⟨_,_,e,_⟩:=bx.out.2.2.1
       injection e with _ e _
       rw[e,el,ao]
      have rb:m2<=33:=by
       have h1:=HM.a.mid.okN.2.1;have h2:KS.length<=(Bn.ks x').length:=by rw[<-cq,bS];omega
       have h3:=HM.c
       split at h1<;>omega
      obtain⟨su,dp⟩:∃su:Nat->Nat,∀j,su j=((KS.take j).map fun k=>(Bt.its k).length).sum:=⟨_,fun _=>rfl⟩;have k7:su 0=0:=by rw[dp];rfl
      have g6:∀j (hj:j<KS.length),su (j+1)=su j+(Bt.its KS[j]).length:=fun j hj=>by rw[dp,dp,ED _ _ hj]
      have g7:∀j,su j<=1000000:=fun j=>by
       have h1:=EC (fun k=>(Bt.its k).length) (Bn.ks x') (t+1) j;have h2:=Bt.its_len HM.a.mid.okN;have h3:=HM.a.putting.2.2.2.1;have h4:=HM.b;rw[dp,<-cq];omega
      have kj:sz+1=(Bt.its (Bt.leftOf t x')).length+1+(nr+su m2)/\(Bt.its (Bt.rightOf t x' gg)).length=nr+su m2:=by
       have bb:=bf.a;have h1:=HM.a.halves b' (by have:=HM.c;omega) gg;have h3:=HM.a.putting.2.2.2.1;have h4:=HM.b;have h5:=HM.c;have h6:su m2=(((Bn.ks x').drop (t+1)).map fun k=>(Bt.its k).length).sum:=by rw[dp,f',List.take_length,cq]
       have h7:=h1.2.2.1;have h8:=h1.2.2.2.2.2;rw[<-h6] at h8;omega
      have k8:∀k∈KS,k∈Bn.ks x':=fun k hk=>by
       rw[<-cq] at hk;exact bw hk
      have bm:∀(W:World) (Yx:Nat->Prop),Ig W ps S' Yx->∀j (hj:j<KS.length),Cb 175 #[FH ps t,Xu (Bt.hd KS[j]:Nat)] W (Xi (Bt.its KS[j]).length):=fun W Yx hst j hj=>by
       have k0:KS[j]∈Bn.ks x':=k8 _ (aw hj);have h1:=g6 j hj;have h2:=g7 (j+1);exact ri HM.a.mid.fit b' c5 (HM.a.mid.kids _ k0) (HM.a.mid.okN.2.2 _ k0).1 (by omega) W Yx hst
      have k4:FD wp (.slice A2 m2 c2) (KS.map Bt.hd):=by rw[<-el];exact bx.out.2.2.1
      have ib:=kq3 cq el g6;have e5:=If g7;have n4:=If bm;have nn:=If kj;have ee:=kq2 k4 (show ∀g,(Value.slice A2 m2 c2).ownBlock=some g->Y g from fun g hg=>(bx.out.2.2.2.2 g hg).1);have nf:Hid (∀g,(Value.slice A2 m2 c2).ownBlock=some g->g≠bl):=If fun g hg=>(bx.out.2.2.2.2 g hg).2;have h':=kq2 bx.out.2.1 bx.out.2.2.2.1;have nw:=If k7;have np:=If f';clear cq el dp g6 g7 kj bm k4 k5 k7 f' k8;clear x0 x1 y0 y1 y2 y3 a0 a1 a2 a3 b0 b1 b2 b3 f0 f1 f2 f3 h0 h1 h2 h3;have hR:=bx.out.1.br;obtain⟨b0,b1,b2,b3⟩:=Fy hR;obtain⟨h0,h1,h2,h3⟩:=fO hR;clear hR;have ou:IntKind.u64.wrap (nr:Int)=nr:=bO _ (by omega)
      go_upto_region 18 with fail
      go_cut [] from 20 (fun wd=>Hid (eV wp wd ps S' Y bL bR #[.slice (some ⟨bk,0,none⟩) t k1,.slice (some ⟨bv,0,none⟩) t l1,.slice A1 m1 c1,Xu 0] #[.slice (some ⟨bk,t+1,none⟩) nr (k1-(t+1)),.slice (some ⟨bv,t+1,none⟩) nr (l1-(t+1)),.slice A2 m2 c2,Xu nr]))
      case first=>
       as_aux_lemma=>
        go_wp2_with fail
        go_meet
        case rel=>exact If (bx.out.1.setR3 (Xu nr))
      case rest=>
       have hR:=hcut.out.br;clear b0 b1 b2 b3 h0 h1 h2 h3 ou bx;obtain⟨b0,b1,b2,b3⟩:=Fy hR;clear hR;go_wp2_with fail
       go_loopw [21,172] (fun _ s172 wr=>∃j:Nat,j<=m2/\s172=Xi j/\Hid (eV wp wr ps S' Y bL bR #[.slice (some ⟨bk,0,none⟩) t k1,.slice (some ⟨bv,0,none⟩) t l1,.slice A1 m1 c1,Xu 0] #[.slice (some ⟨bk,t+1,none⟩) nr (k1-(t+1)),.slice (some ⟨bv,t+1,none⟩) nr (l1-(t+1)),.slice A2 m2 c2,Xu ((nr:Int)+(su j:Nat))])) (fun _ s172 _=>m2-(intOf s172).toNat)
       case atStart=>exact⟨0,by omega,rfl,by rw[nw.out];simpa using hcut⟩
       case round=>
        as_aux_lemma=>
         clear b0 b1 b2 b3 hcut;obtain⟨j,hj,rfl,HR⟩:=hrel
         by_cases hjlt:j<m2
         ·have q7:(j:Int)<m2:=by omega
          have fv:j<KS.length:=by have:=np.out;omega
          have hR:=HR.out.br;have hT:=(HR.out.kp.block _ HC.out.yb.2.1).trans HC.out.tree;have eg:=FD.at (f:=Bt.hd) (l:=KS) (HR.out.row ee.a ee.b) (af fv);obtain⟨g2,o2,rfl,dc⟩:=eg;obtain⟨hh,bs⟩:=Ii (Bt.hd KS[j]);obtain⟨zj,e0⟩:=Ii (Bt.its KS[j]).length;have bm:=fun W Yx hst=>n4.out W Yx hst j fv;rw[bs,e0] at bm;rw[bs] at dc;have g5:=ib.c j fv;rw[e0] at g5;have er:=e5.out j;have ez:=e5.out (j+1);have so:zj<=1000000:=by omega
          obtain⟨I,ai,an⟩:=ic fun w'=>w'.heap[bR]?=wr.heap[bR]?/\w'.heap[w.heap.size]?=wr.heap[w.heap.size]?;have au:=fun x:Fq I=>(ai _ x.ok).1.trans hR;have a8:=fun x:Fq I=>(ai _ x.ok).2.trans hT;obtain⟨r0,r1,r2,r3⟩:=iB au;obtain⟨p0,p1⟩:=fw a8;have bj:I wr.drew:=an _ ⟨rfl,rfl⟩;have sc:IntKind.u64.wrap ((nr:Int)+(su j:Nat)+(zj:Nat))=(nr:Int)+(su j:Nat)+(zj:Nat):=bO _ (by omega);have l3:IntKind.u64.wrap (zj:Int)=zj:=bO _ (by omega);unfold FH at bm;have bd:=If an;have ns:=If bm;have nv:=kq3 g5 bs e0;clear ai an au a8 hR hT bm g5 bs e0 er ez;go_wp2_with fail;refine nG I (fun i=>[8].contains i) (.take 0 (.take 1 (.take 2 (.take 3 (.go 4 (.take 5 (.take 6 (.take 7 (.go 8 .nil))))))))) (by kernel_rfl) (by kernel_rfl) bj ?_
          iterate 4
           refine' qT ?_ ?_;rotate_left
           ·intro x;go_simp
            try rfl
           try simp only[pu]
          refine qD fun K hK=>?_;go_simp;refine(ns.out _ _ (HR.out.below (aa _ wr).drew).st).mono ?_;rintro en w5 ⟨rfl,fj⟩;have C5:=(HR.out.below (aa _ wr).drew).below fj;have e8:I w5:=bd.out _ ⟨fj.block _ HR.out.lt.2,fj.block _ (aJ (by have:=HC.out.lt;have:=HC.out.at3;omega) HR.out.kp.size)⟩;have e':=C5.br;obtain⟨b0,b1,b2,b3⟩:=Fy e';obtain⟨h0,h1,h2,h3⟩:=fO e';have nj:=If (C5.setR3 (Xu ((nr:Int)+(su j:Nat)+(zj:Nat))));clear C5 e'
          try go_simp
          refine hK.out _ _ e8 ?_;clear hK K
          try simp only[pu]
          iterate 3
           refine' qT ?_ ?_;rotate_left
           ·intro x;go_simp
            try rfl
           try simp only[pu]
          refine qL fun K hK=>?_;go_simp
          try go_simp
          refine hK.out _ _ trivial ?_;clear hK K
          try simp only[pu]
          refine jd ?_;go_wp2_with fail;go_roundw
          case rel=>
           refine⟨j+1,by omega,by simp,?_⟩;have e1:((nr:Int)+(su (j+1):Nat))=(nr:Int)+(su j:Nat)+(zj:Nat):=by have:=nv.a;omega
           rw[e1];exact nj
          case measure=>simp[intOf];omega
         ·have n':j=m2:=by omega
          subst n';have ra:¬(j:Int)<j:=by omega
          obtain⟨fk,j0⟩:=nn.out;obtain⟨zl,hl⟩:=Ii (Bt.its (Bt.leftOf t x')).length;rw[hl] at fk;have pa:=e5.out j;have pi:IntKind.u64.wrap ((sz:Int)+1-((nr:Int)+(su j:Nat)))=(zl:Int)+1:=by rw[bO _ (by omega)];omega
          have pj:IntKind.u64.wrap ((zl:Int)+1-1)=zl:=by rw[bO _ (by omega)];omega
          have pk:IntKind.u64.wrap (zl:Int)=zl:=bO _ (by omega);have e1:((sz+1:Nat):Int)=(sz:Int)+1:=by omega
          have e2:((nr+su j:Nat):Int)=(nr:Int)+(su j:Nat):=by omega
          have hN:=(HR.out.kp.block _ HC.out.yb.1).trans HC.out.box;rw[e1] at hN;have hL:=HR.out.bl;have hR:=HR.out.br;obtain⟨y0,y1,y2,y3⟩:=Fy hN;obtain⟨a0,a1,a2,a3⟩:=Fy hL;obtain⟨f0,f1,f2,f3⟩:=fO hL;obtain⟨b0,b1,b2,b3⟩:=Fy hR;have HZ:=kq5 fk j0 hl e1 e2;clear fk j0 hl e1 e2 hN hL hR pa
          go_upto_region 24 with fail
          go_cut [] from 22 (fun wd=>Hid (eV wp wd ps S' Y bL bR #[.slice (some ⟨bk,0,none⟩) t k1,.slice (some ⟨bv,0,none⟩) t l1,.slice A1 m1 c1,Xu zl] #[.slice (some ⟨bk,t+1,none⟩) nr (k1-(t+1)),.slice (some ⟨bv,t+1,none⟩) nr (l1-(t+1)),.slice A2 j c2,Xu ((nr:Int)+(su j:Nat))]))
          case first=>
           as_aux_lemma=>
            go_wp2_with fail
            go_meet
            case rel=>exact If (HR.out.setL3 (Xu zl))
          case rest=>
           clear y0 y1 y2 y3 a0 a1 a2 a3 f0 f1 f2 f3 b0 b1 b2 b3 pi pj pk HR;have hL:=hcut.out.bl;have hT:=(hcut.out.kp.block _ HC.out.yb.2.1).trans HC.out.tree;obtain⟨x0,x1⟩:=Fp hT;obtain⟨a0,a1,a2,a3⟩:=Fy hL;have eo:(Bn.es x').length=2*t:=by have:=HM.c;have:=bf.a;omega
           have ha:∀g,(Value.slice (some ⟨bk,0,none⟩) n k1).ownBlock=some g->Y g:=fun g hg=>HC.out.yk g (ab hg);have hf:∀g,(Value.slice (some ⟨bv,0,none⟩) n l1).ownBlock=some g->Y g:=fun g hg=>HC.out.yk g (ae (ab hg));have ar:=bf.b;have bb:=bf.a;obtain⟨ho,mc,md⟩:=Bt.leftOf_bn t x';obtain⟨hr,mm,mr,pt⟩:=Bt.rightOf_bn t x' gg;obtain⟨ll,lr,pf,lz,l0,ph⟩:=HM.a.halves b' eo gg;obtain⟨cx,kz⟩:=HM.a.lts b' eo gg;obtain⟨p1,p2,p3,p4,p5,p6,p7⟩:=HM.a.putting;have gp:nr=n-(t+1):=by omega
           have m5:FD wp (.slice (some ⟨bk,0,none⟩) t k1) (Bt.bn (Bt.leftOf t x')).keys:=by rw[ho];exact FD.take HC.out.rows.k.hrow (by omega)
           have m8:FD wp (.slice (some ⟨bv,0,none⟩) t l1) (Bt.bn (Bt.leftOf t x')).vals:=by rw[mc];exact FD.take HC.out.rows.v.hrow (by omega)
           have ms:FD wp (.slice A1 m1 c1) (Bt.bn (Bt.leftOf t x')).kids:=by rw[md];exact h'.a
           have m6:FD wp (.slice (some ⟨bk,t+1,none⟩) nr (k1-(t+1))) (Bt.bn (Bt.rightOf t x' gg)).keys:=by rw[hr,gp];exact FD.drop HC.out.rows.k.hrow (by omega)
           have m':FD wp (.slice (some ⟨bv,t+1,none⟩) nr (l1-(t+1))) (Bt.bn (Bt.rightOf t x' gg)).vals:=by rw[mm,gp];exact FD.drop HC.out.rows.v.hrow (by omega)
           have mv:FD wp (.slice A2 j c2) (Bt.bn (Bt.rightOf t x' gg)).kids:=by rw[mr,ib.b];exact ee.a
           have bu:=Jg hcut.out.st p1 (Bt.bnok_of HM.a.mid.fit b' c5 lz ll) (hcut.out.row m5 ha) (hcut.out.row m8 hf) (hcut.out.row ms h'.b) (Bn.h x) p3 p2 (kX cx (by rw[ho,aL];omega));have k':(Bt.bn (Bt.leftOf t x')).size=zl:=HZ.c;rw[k'] at bu;unfold eC at bu;have HP:=If bu;have ik:Hid ((∀g,(.slice (some ⟨bk,t+1,none⟩) nr (k1-(t+1)):Value).ownBlock=some g->Y g)/\∀g,(.slice (some ⟨bv,t+1,none⟩) nr (l1-(t+1)):Value).ownBlock=some g->Y g):=If ⟨fun g hg=>HC.out.yk g (ab hg),fun g hg=>HC.out.yk g (ae (ab hg))⟩;have cj:=kq6 m6 m' mv ha hf eo;have id:=kq4 (Bt.bnok_of HM.a.mid.fit b' c5 l0 lr) (kX (t:=t) kz (by rw[hr,bS];omega)) ar bb;clear bu k' m5 m8 ms m6 m' mv ha hf ar bb ho mc md hr mm mr pt ll lr pf lz l0 ph cx kz p1 p2 p3 p4 p5 p6 p7 gp hL hT eo;go_wp2_with fail;refine HP.out.mono ?_;rintro en w3 ⟨rfl,ea,ds⟩;have C3:=hcut.out.put ea ds;clear x0 x1 a0 a1 a2 a3 HP ea ds hcut;have a':=If C3;clear C3;go_wp2_with fail;obtain⟨wg,er,ez,g3⟩:=ed.out.2.2.2;have kd:=ed.out.2.2.1;have dn:=HM.a.left_put b' c5 cj.f kd ez;have j':=(fL dn.1 dn.2).2.1;have ka:(FC S' (Bn.h x) 0 (bnWords t (Bt.bn (Bt.leftOf t x')))).len gg=(6*t,0):=by rw[jw dn.1.tab dn.2,g3]
           have jj:bl<w.heap.size:=HC.out.zl bl HC.out.zs.1;have n7:=HC.out.rows.k.block (g:=bk) rfl;have n8:=HC.out.rows.v.block (g:=bv) rfl;have i4:L2.length<=1000:=by
            have h1:=HI.j;have h2:=HM.a.sum;rw[h2] at h1;simp only[ah] at h1;omega
           have g4:=HC.out.spz;have k6:gz w3.drew bt bl D ps t v' (L2++[gg]):=HC.out.sp.keeps fun k hk=>a'.out.kp.block k (HC.out.zy k (g4 k hk));have jk:∀b,(Value.slice (some ⟨bk,t+1,none⟩) nr (k1-(t+1))).ownBlock=some b->b≠bl:=fun b hb q=>by
            have hb:bk=b:=Option.some.inj hb;omega
           have jn:∀b,(Value.slice (some ⟨bv,t+1,none⟩) nr (l1-(t+1))).ownBlock=some b->b≠bl:=fun b hb q=>by
            have hb:bv=b:=Option.some.inj hb;omega
           have js:∀b,(Value.slice A2 j c2).ownBlock=some b->b≠bl:=nf.out;have d8:=pZ (n:=Bt.bn (Bt.rightOf t x' gg)) (vk:=.slice (some ⟨bk,t+1,none⟩) nr (k1-(t+1))) (vv:=.slice (some ⟨bv,t+1,none⟩) nr (l1-(t+1))) (vc:=.slice A2 j c2) (a'.out.st.below (aa _ w3).drew) dn.1.inv k6 (ab (HC.out.zy _ HC.out.zs.1)) (ab (HC.out.zy _ HC.out.zs.2.1)) (fun b hb=>ab (HC.out.zy _ (g4 b (ae (ae hb))))) i4 id.a (a'.out.row cj.a ik.out.1) (a'.out.row cj.b ik.out.2) (a'.out.row cj.c ee.b) jk jn js j' ka id.b;have la:(Bt.bn (Bt.rightOf t x' gg)).size=nr+su j:=HZ.b;rw[la] at d8;unfold eC at d8;rw[HZ.e] at d8;have lb:t<(Bn.es x').length:=by have:=cj.f;omega
           obtain⟨m,hm⟩:=Ii ((Bn.es x')[t]);have gb:(Bn.es x')[t]?=some m:=by rw[af lb,hm]
           have dd:=FD.at (f:=(·.kh)) (l:=Bn.es x') (a'.out.row HC.out.rows.k.hrow cj.d) gb;have dk:=FD.at (f:=(·.vh)) (l:=Bn.es x') (a'.out.row HC.out.rows.v.hrow cj.e) gb;obtain⟨gk,ok,ek,dd⟩:=dd;obtain⟨gv,ov,ev,dk⟩:=dk
           injection ek with ek
           injection ek with ek1 ek2 _
           subst ek1 ek2
           injection ev with ev
           injection ev with ev1 ev2 _
           subst ev1 ev2;rw[bH] at dd dk;have hN:=(a'.out.kp.block _ HC.out.yb.1).trans HC.out.box;rw[HZ.d] at hN;have hT:=(a'.out.kp.block _ HC.out.yb.2.1).trans HC.out.tree;have hR:=a'.out.br;have g':=HC.out.yb;have fb:=HC.out.at3;have fm:=a'.out.ge;have pm:=HC.out.keep.size;have l5:=HC.out.yk bk (ab rfl);have l8:=HC.out.yk bv (ae (ab rfl));obtain⟨I,ai,an⟩:=ic fun w'=>∀k,(Y k\/k=bL\/k=bR)->k≠bl->w'.heap[k]?=w3.heap[k]?;have au:=fun x:Fq I=>(ai _ x.ok w1.heap.size (ab g'.1) (by omega)).trans hN;have a8:=fun x:Fq I=>(ai _ x.ok w.heap.size (ab g'.2.1) (by omega)).trans hT;have mb:=fun x:Fq I=>(ai _ x.ok bR (ae (ae rfl)) (by omega)).trans hR;obtain⟨r0,r1,r2,r3⟩:=iB au;obtain⟨p0,p1⟩:=fw a8;obtain⟨q0,q1,q2,q3⟩:=iB mb;have o1:∀x:Fq I,x.to.cell? ⟨bk,t,none⟩=some (Xu (m.kh:Nat)):=fun x=>(j9 (ai _ x.ok bk (ab l5) (by omega))).trans dd;have o2:∀x:Fq I,x.to.cell? ⟨bv,t,none⟩=some (Xu (m.vh:Nat)):=fun x=>(j9 (ai _ x.ok bv (ab l8) (by omega))).trans dk;have bj:I w3.drew:=an _ fun _ _ _=>rfl;have r':(t:Int)<n:=by have:=HM.c;omega
           have n5:=If d8;have bd:=If an;have nm:=If (HM.a.done b' c5 cj.f ed.out.1 ed.out.2.1 er g3 lb);have nq:=If hm;have p8:Hid (w.heap.size+2≠bl):=If (by omega);clear ai an au a8 mb d8 j' ka jj n7 n8 i4 g4 k6 jk jn js la gb dd dk hN hT hR g' fb fm pm l5 l8 hm er ez g3 kd dn;refine nG I (fun i=>[17].contains i) (.take 0 (.take 1 (.take 2 (.take 3 (.take 4 (.take 5 (.take 6 (.take 7 (.take 8 (.take 9 (.take 10 (.take 11 (.take 12 (.take 13 (.take 14 (.go 15 (.take 16 (.go 17 .nil)))))))))))))))))) (by kernel_rfl) (by kernel_rfl) bj ?_
           iterate 15
            refine' qT ?_ ?_;rotate_left
            ·intro x;go_simp
             try rfl
            try simp only[pu]
           refine qD fun K hK=>?_;go_simp;refine n5.out.mono ?_;rintro en w5 ⟨rfl,v5,nb,c6,na,ml⟩;have H5:=HC.out.kid (nb.mono fun k hk=>ab hk) ((a'.out.kp.mono fun k hk=>hk.1).trans ⟨c6.os,c6.tape,c6.output,c6.size,fun k hk=>c6.block k ⟨ab hk.1,hk.2⟩⟩) na ml;have ep:=H5.res;have e8:I w5:=bd.out _ fun k hk hn=>c6.block k ⟨hk,hn⟩;obtain⟨b0,b1,b2,b3⟩:=Fy ep;obtain⟨h0,h1,h2,h3⟩:=fO ep;have hw:=kq2 H5 ep;clear nb c6 na H5 ep
           try go_simp
           refine hK.out _ _ e8 ?_;clear hK K
           try simp only[pu]
           refine' qT ?_ ?_;rotate_left
           ·intro x;go_simp
            try rfl
           try simp only[pu]
           refine qL fun K hK=>?_;go_simp
           try go_simp
           refine hK.out _ _ trivial ?_;clear hK K
           try simp only[pu]
           refine jd ?_;go_wp2_with fail;obtain⟨WF,cu⟩:=Ii ((((w5.setCell ⟨w.heap.size+1+1,0,none⟩ (.bool true)).setCell ⟨w.heap.size+1+1,1,none⟩ (Xu (m.kh:Nat))).setCell ⟨w.heap.size+1+1,2,none⟩ (Xu (m.vh:Nat))).setCell ⟨w.heap.size+1+1,3,none⟩ (Xu (gg:Nat)));rw[cu];have HF:=hw.a.fin hw.b (.bool true) (Xu (m.kh:Nat)) (Xu (m.vh:Nat)) (Xu (gg:Nat)) WF cu.symm;clear cu b0 b1 b2 b3 h0 h1 h2 h3;have e4:=HF.2.2.2;obtain⟨a0,a1,a2,a3⟩:=Fy e4;obtain⟨d1,d2,d3⟩:=nm.out;rw[nq.out] at d1;have pb:L=L2++(gg::U):=by have:=HM.a.sum;rw[this];simp
           have o5:=ml.trans HM.a.held.own;have pe:Ending.returned (.agg #[.bool true,Xu (m.kh:Nat),Xu (m.vh:Nat),Xu (gg:Nat)])=Ending.returned (ky (some (m,gg))):=rfl;exact bodyPost_ret (v:=.agg #[.bool true,Xu (m.kh:Nat),Xu (m.vh:Nat),Xu (gg:Nat)]) (by simp[results,f182,go_sem,a0,a1,a2,a3]) rfl ⟨some (m,gg),pe,_,v5,L2,gg::U,pb,d1,HF.1,HF.2.1,HF.2.2.1,o5,d2,d3⟩