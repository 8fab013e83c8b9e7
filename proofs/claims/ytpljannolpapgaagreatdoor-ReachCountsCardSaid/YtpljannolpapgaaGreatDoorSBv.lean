/- B-trees: insert: the walk of one node. -/
import Derived.Test.YtpljannolpapgaaGreatDoorSDc
set_option maxRecDepth 100000
set_option maxHeartbeats 40000000
namespace Go.Proofs.YtpljannolpapgaaGreatDoor
open Go.RowKit Tryz Go.BigFrame Go.Maps Go.WideMaps Lf Tr
open Go.Shelf
theorem uU(d:Nat)(rec0:∀d0,d=d0+1->j4 d0):j4 d:=by
 intro w ps S o Z bt bl D t v L x e i h hx gp hid sp spare fb zb zt zv hL gs f' hkh hvh b';have B0:=(c_ w (Xc ps t)).alloc s_ (Xe e.kh e.vh) |>.alloc m_ (.cells #[.bool false,Xu 0,Xu 0,Xu 0] 274)
 have q0:=(c_ w (Xc ps t));have z1:(w.alloc (Xc ps t)).1.size=w.1.size+1:=s_
 have z2:((w.alloc (Xc ps t)).alloc (Xe e.kh e.vh)).1.size=w.1.size+1+1:=s_
 have q1:=heap_alloc_new w (Xc ps t);have q2:=heap_alloc_new (w.alloc (Xc ps t)) (Xe e.kh e.vh);have q3:=heap_alloc_new ((w.alloc (Xc ps t)).alloc (Xe e.kh e.vh)) (.cells #[.bool false,Xu 0,Xu 0,Xu 0] 274);have b2:=(aa (w.alloc (Xc ps t)).1.size (w.alloc (Xc ps t))).alloc Ih (Xe e.kh e.vh);have b3:=(aa ((w.alloc (Xc ps t)).alloc (Xe e.kh e.vh)).1.size ((w.alloc (Xc ps t)).alloc (Xe e.kh e.vh))).alloc Ih (.cells #[.bool false,Xu 0,Xu 0,Xu 0] 274);have q1:=(b3.block w.1.size (by rw[z2];omega)).T ((b2.block w.1.size (by rw[z1];omega)).T q1);rw[z1] at q2;have q2:=(b3.block (w.1.size+1) (by rw[z2];omega)).T q2;rw[z2] at q3;clear b2 b3 q0;have hi:=hx.fit.inv;generalize hW:((w.alloc (Xc ps t)).alloc (Xe e.kh e.vh)).alloc (.cells #[.bool false,Xu 0,Xu 0,Xu 0] 274)=W0 at*;have hz:w.1.size+3<=W0.1.size:=by rw[<-hW];simp
 obtain⟨x0,x1⟩:=Fp q1;have fw:=kI (h.a_ B0) hi hx.read;unfold FH eC at fw;have HG:=kq2 (kq5 B0 q1 q2 q3 hz) fw;have HI:=kq13 h hx gp sp spare fb zb zt zv hL gs f' b';clear z1 z2 q1 q2 q3 hz B0 fw h hx gp sp spare fb zb zt zv hL gs f' b' hi;unfold FH Id JB;go_enter func182,ntmps182;go_wp2_with fail;refine HG.b.M ?_;rintro en w1 ⟨vk,vv,vc,rfl,rows,hb⟩;obtain⟨Ak,ck,rfl⟩:=rows.k.C9;obtain⟨Av,cv,rfl⟩:=rows.v.C9;obtain⟨Ac,cc,rfl⟩:=rows.c.C9;have hx:=HI.b;have ar:(Bt.bn x).l_.length=(Bn.es x).length:=by unfold Bt.bn;rw[ao]
 have ha:(Bt.bn x).F_.length=(Bn.es x).length:=by unfold Bt.bn;rw[ao]
 have cw:(Bt.bn x).B_.length=(Bn.ks x).length:=by unfold Bt.bn;rw[ao]
 rw[ar,ha,cw] at rows;rw[ar,ha,cw];obtain⟨i1,i2,po⟩:=hx.es;have bm:=hx.size;generalize k8:(Bt.bn x).size=sz at*;generalize kn:(Bn.es x).length=lk at*;generalize eo:(Bn.ks x).length=lc at*;have A1:=c_ w1 (.cells #[.slice Ak lk ck,.slice Av lk cv,.slice Ac lc cc,Xu sz] 215);have p1:=heap_alloc_new w1 (.cells #[.slice Ak lk ck,.slice Av lk cv,.slice Ac lc cc,Xu sz] 215);have d':=rows.a_ A1;have c':=hb.size;have cx:w1.1.size<(w1.alloc (.cells #[.slice Ak lk ck,.slice Av lk cv,.slice Ac lc cc,Xu sz] 215)).1.size:=s_
 obtain⟨W1,jk⟩:=Ii (w1.alloc (.cells #[.slice Ak lk ck,.slice Av lk cv,.slice Ac lc cc,Xu sz] 215));rw[jk] at A1 p1 d' cx;have B1:=b_ hb A1;have t1:=(B1.block w.1.size (by have:=HG.a.e;omega)).T HG.a.b;have t2:=(B1.block (w.1.size+1) (by have:=HG.a.e;omega)).T HG.a.c;clear x0 x1;obtain⟨x0,x1⟩:=Fp t1;obtain⟨y0,y1,y2,y3⟩:=Fy p1;have cy:=d'.k.C6;have g4:=nR (HI.a.a_ (b_ HG.a.a B1)) hx.fit.inv t (es:=Bn.es x) (vk:=.slice Ak lk ck) (vv:=.slice Av lk cv) (vc:=.slice Ac lc cc) (sz:=sz) cy o_ i1 i2 e.k;unfold FH eC at g4;have iu:=If g4;have H1:=kq11 B1 p1 d' t1 t2 cx kn k8 bm eo c';clear g4 rows d' hb A1 p1 B1 t1 t2 cy ar ha cw i1 i2 cx bm hx hW c';have qb:((i:Int)==40)=false:=m_
 have qd:¬(i:Int)=40:=o_
 go_wp2_with fail;refine iu.O.M ?_;rintro en w2 ⟨rfl,bq⟩;have p2:=(bq.block w1.1.size H1.f).T H1.b;have t2:=(bq.block w.1.size (by have:=H1.a.size;have:=HG.a.e;omega)).T H1.d;have u2:=(bq.block (w.1.size+1) (by have:=H1.a.size;have:=HG.a.e;omega)).T H1.e;have e5:=H1.c.a_ bq;clear x0 x1 y0 y1 y2 y3;obtain⟨x0,x1⟩:=Fp t2;obtain⟨y0,y1,y2,y3⟩:=Fy p2;obtain⟨z0,z1⟩:=Fp u2;have cj:=kq5 bq p2 t2 u2 e5;clear bq p2 t2 u2 e5 iu jk;obtain⟨k,hk⟩:∃k,belowB e.k (Bn.es x)=k:=⟨_,rfl⟩;obtain⟨he,kk⟩:=Ii (fo e.k (Bn.es x));rw[hk,kk];have ba:k<=lk:=by rw[<-hk,<-H1.g];exact kH _
 have HK:=If hk;clear hk kk;have js:eH w ps Z bt bl D t v w1.1.size w2 S (fun k=>Z k\/(w.1.size<=k/\k<w2.1.size)) v L (.slice Ak lk ck) (.slice Av lk cv) (.slice Ac lc cc) sz (Bt.bn x).l_ (Bt.bn x).F_ (Bt.bn x).B_:=by
  obtain⟨⟨B0,q1,q2,q3,hz⟩,_⟩:=HG.O;obtain⟨B1,p1,d',t1,r5,cx,kn,k8,bm,eo,c'⟩:=H1.O;obtain⟨bq,p2,t2,u2,e5⟩:=cj.O;obtain⟨h,hx,gp,sp,spare,fb,zb,zt,zv,hL,gs,f',b'⟩:=HI.O;have s1:=B1.size;have s2:=bq.size;have e8:D_ w w2:=B0.T ((B1.T (bq.M s1)).M o_);have zl:=h.yl;have b4:fN w2 (w.1.size+3) (.slice Ak lk ck) (.slice Av lk cv) (.slice Ac lc cc) (Bt.bn x).l_ (Bt.bn x).F_ (Bt.bn x).B_:=e5.lift o_ fun g _ _=>rfl;refine⟨h.wide e8,fun k hk=>ab hk,zl,⟨zb,zt,zv⟩,(Fo.v_ e8 fun k hk=>zl k hk.1),sp.keeps fun k hk=>e8.block k (zl k ?_),rfl,p2,b4,⟨ae ⟨o_,o_⟩,ae ⟨o_,o_⟩,ae ⟨o_,o_⟩⟩,fun g hg=>ae ?_,t2,(bq.block _ o_).T ((B1.block _ o_).T q3),o_⟩
  ·rcases hk with rfl | rfl | hk
   ·exact zt
   ·exact zb
   ·exact zv _ hk
  ·rcases hg with hg | hg | hg
   ·have:=b4.k.block hg;exact⟨o_,this.2.1⟩
   ·have:=b4.v.block hg;exact⟨o_,this.2.1⟩
   ·have:=b4.c.block hg;exact⟨o_,this.2.1⟩
 have HB:=If js;clear js
 go_upto_if 45 with fail
 go_cut [] from 18 (fun wc=>∃S' Y v' L' U x' vk vv vc,gQ w ps S o Z bt bl D t v L x e w1.1.size wc S' Y v' L' U x' vk vv vc)
 case first=>
  as_aux_lemma=>
   by_cases hd0:d=0
   ·subst hd0;obtain rfl:lc=0:=by rw[<-H1.j,Bt.G9 (Bn.ks x)];rfl
    go_wp2_with fail;obtain⟨I,ai,an⟩:=ic fun w'=>w'.1[w1.1.size]?=w2.1[w1.1.size]?/\w'.1[w.1.size+1]?=w2.1[w.1.size+1]?;have au:=fun x:Fq I=>(ai _ x.ok).1.T cj.b;have a8:=fun x:Fq I=>(ai _ x.ok).2.T cj.d;obtain⟨m0,m1,m2,m3⟩:=iB au;obtain⟨n0,n1⟩:=mt a8;have bj:I w2.drew:=an _ ⟨rfl,rfl⟩;have d7:∀(w':World) (u1 u2:Value) (m1 m2:List Nat),fD w2 w' (w.1.size+3) ps S (fun k=>Z k\/(w.1.size<=k/\k<w2.1.size)) (.slice Ak lk ck) (.slice Av lk cv) u1 u2 m1 m2->I w':=fun w' u1 u2 m1 m2 T=>an _ ⟨T.w_.block _ ⟨HB.O.lt,HB.O.ne.1,HB.O.ne.2.1⟩,T.w_.block _ ⟨by have:=HB.O.lt;have:=HB.O.at3;omega,fun q=>by have:=(HB.O.rows.k.block q).1;omega,fun q=>by have:=(HB.O.rows.v.block q).1;omega⟩⟩;have ap:=If d7;clear d7;have dv:=If HB.O.two.drew;have HT:Hid (fy<w.1.size+3):=If (by have:=J8 HI.a;omega);have HN:Hid ((Bt.bn x).l_.length=lk/\(Bt.bn x).F_.length=lk):=If ⟨by rw[<-H1.g];unfold Bt.bn;rw[ao],by rw[<-H1.g];unfold Bt.bn;rw[ao]⟩;have n8:lk<=31:=by rw[<-H1.g];exact HI.b.es.2.2
    clear ai an au a8;refine nG I (fun i=>[15,16,17].contains i) (.take 0 (.take 1 (.take 2 (.take 3 (.take 4 (.take 7 (.take 8 (.take 9 (.take 10 (.take 11 (.two 5 12 (.two 6 12 (.take 14 (.go 12 (.go 13 (.go 15 (.go 16 (.go 17 .nil)))))) (.go 6 (.take 14 (.go 13 (.go 15 (.go 16 (.go 17 .nil))))))) (.go 5 (.go 6 (.take 14 (.go 13 (.go 15 (.go 16 (.go 17 .nil)))))))))))))))))) k_ k_ bj ?_
    iterate 10
     refine qT_ ?_
     try simp only[pu]
    have eb:∀c,(w2.drew.alloc c).1.size=w2.1.size+1:=fun c=>by simp
    refine Jh ?_ ?_
    ·skip
     refine qD fun K hK=>?_;go_simp;obtain⟨T1,x1,ca,d9,s1,b1⟩:=dv.O.one (e.kh)
     try go_simp
     refine hK.O _ _ (ap.O _ _ _ _ _ T1) ?_;clear hK K
     try simp only[pu]
     refine Jh ?_ ?_
     ·skip
      refine qD fun K hK=>?_;go_simp;refine(T1.ins HT.O (by have:=T1.w_.size;have:=HB.O.lt;have:=HB.O.at3;omega) (by rw[HN.O.1];omega) (by rw[HN.O.1];exact ba) x1 ca).M ?_;rintro en w4 ⟨u1,rfl,T2,o2⟩;obtain⟨A2,m2,c2,rfl⟩:=T2.own1.slice
      try go_simp
      refine hK.O _ _ (ap.O _ _ _ _ _ T2) ?_;clear hK K
      try simp only[pu]
      refine qT_ ?_
      try simp only[pu]
      refine qD fun K hK=>?_;go_simp;obtain⟨T3,x3,pf,ht,s3,b3⟩:=T2.one (e.vh)
      try go_simp
      refine hK.O _ _ (ap.O _ _ _ _ _ T3) ?_;clear hK K
      try simp only[pu]
      refine qD fun K hK=>?_;go_simp;refine(T3.swap.ins HT.O (by have:=T3.w_.size;have:=HB.O.lt;have:=HB.O.at3;omega) (by rw[HN.O.2];omega) (by rw[HN.O.2];exact ba) x3 ht).M ?_;rintro en w6 ⟨u2,rfl,T4,o4⟩;obtain⟨A4,m4,c4,rfl⟩:=T4.own1.slice;have T5:=T4.swap
      try go_simp
      refine hK.O _ _ (ap.O _ _ _ _ _ T5) ?_;clear hK K
      try simp only[pu]
      obtain⟨g0,g1,g2⟩:=HB.O.grow T5;have f0:w6.frozen? (y_ w1.1.size)=false:=AT g0;have d0:w6.cell? (y_ w1.1.size)=some (.slice Ak lk ck):=e_ g0
      have f1:(w6.setCell (y_ w1.1.size) (.slice A2 m2 c2)).frozen? (x_ w1.1.size 1)=false:=AT g1;have d1:(w6.setCell (y_ w1.1.size) (.slice A2 m2 c2)).cell? (x_ w1.1.size 1)=some (.slice Av lk cv):=e_ g1
      have a9:=If g2;clear g0 g1 g2;refine qL fun K hK=>?_;go_simp
      try go_simp
      refine hK.O _ _ trivial ?_;clear hK K
      try simp only[pu]
      refine qL fun K hK=>?_;go_simp
      try go_simp
      refine hK.O _ _ trivial ?_;clear hK K
      try simp only[pu]
      refine qL fun K hK=>?_;go_simp
      try go_simp
      refine hK.O _ _ trivial ?_;clear hK K
      try simp only[pu]
      refine jd ?_;go_wp2_with fail
      go_meet
      case rel=>exact⟨S,_,v,L,[],Bt.leafPut x e,_,_,_,rJ HI.b HI.c HI.l hkh hvh HK.O H1.i.1 a9.O⟩
     ·skip
      refine qD fun K hK=>?_;go_simp;obtain⟨T2,x2,bo,cb,s2,b2⟩:=T1.one (e.vh);rw[eb] at x2 bo cb s2;have c6:=(b2.block _ s1).T x1
      try go_simp
      refine hK.O _ _ (ap.O _ _ _ _ _ T2) ?_;clear hK K
      try simp only[pu]
      refine qD fun K hK=>?_;go_simp;refine(T2.ins HT.O (by have:=T2.w_.size;have:=HB.O.lt;have:=HB.O.at3;omega) (by rw[HN.O.1];omega) (by rw[HN.O.1];exact ba) c6 ca).M ?_;rintro en w5 ⟨u1,rfl,T3,o3⟩;have hw:=(o3 _ s2 bo).T x2;obtain⟨A2,m2,c2,rfl⟩:=T3.own1.slice
      try go_simp
      refine hK.O _ _ (ap.O _ _ _ _ _ T3) ?_;clear hK K
      try simp only[pu]
      refine qT_ ?_
      try simp only[pu]
      refine qD fun K hK=>?_;go_simp;refine(T3.swap.ins HT.O (by have:=T3.w_.size;have:=HB.O.lt;have:=HB.O.at3;omega) (by rw[HN.O.2];omega) (by rw[HN.O.2];exact ba) hw cb).M ?_;rintro en w6 ⟨u2,rfl,T4,o4⟩;obtain⟨A4,m4,c4,rfl⟩:=T4.own1.slice;have T5:=T4.swap
      try go_simp
      refine hK.O _ _ (ap.O _ _ _ _ _ T5) ?_;clear hK K
      try simp only[pu]
      obtain⟨g0,g1,g2⟩:=HB.O.grow T5;have f0:w6.frozen? (y_ w1.1.size)=false:=AT g0;have d0:w6.cell? (y_ w1.1.size)=some (.slice Ak lk ck):=e_ g0
      have f1:(w6.setCell (y_ w1.1.size) (.slice A2 m2 c2)).frozen? (x_ w1.1.size 1)=false:=AT g1;have d1:(w6.setCell (y_ w1.1.size) (.slice A2 m2 c2)).cell? (x_ w1.1.size 1)=some (.slice Av lk cv):=e_ g1
      have a9:=If g2;clear g0 g1 g2;refine qL fun K hK=>?_;go_simp
      try go_simp
      refine hK.O _ _ trivial ?_;clear hK K
      try simp only[pu]
      refine qL fun K hK=>?_;go_simp
      try go_simp
      refine hK.O _ _ trivial ?_;clear hK K
      try simp only[pu]
      refine qL fun K hK=>?_;go_simp
      try go_simp
      refine hK.O _ _ trivial ?_;clear hK K
      try simp only[pu]
      refine jd ?_;go_wp2_with fail
      go_meet
      case rel=>exact⟨S,_,v,L,[],Bt.leafPut x e,_,_,_,rJ HI.b HI.c HI.l hkh hvh HK.O H1.i.1 a9.O⟩
    ·skip
     refine qD fun K hK=>?_;go_simp;obtain⟨T1,x1,ca,d9,s1,b1⟩:=dv.O.one (e.vh)
     try go_simp
     refine hK.O _ _ (ap.O _ _ _ _ _ T1) ?_;clear hK K
     try simp only[pu]
     refine qD fun K hK=>?_;go_simp;obtain⟨T2,x2,bo,cb,s2,b2⟩:=T1.one (e.kh);rw[eb] at x2 bo cb;have c6:=(b2.block _ s1).T x1
     try go_simp
     refine hK.O _ _ (ap.O _ _ _ _ _ T2) ?_;clear hK K
     try simp only[pu]
     refine qD fun K hK=>?_;go_simp;refine(T2.ins HT.O (by have:=T2.w_.size;have:=HB.O.lt;have:=HB.O.at3;omega) (by rw[HN.O.1];omega) (by rw[HN.O.1];exact ba) x2 bo).M ?_;rintro en w5 ⟨u1,rfl,T3,o3⟩;have hv:=(o3 _ (Nat.lt_trans s1 s2) ca).T c6;obtain⟨A2,m2,c2,rfl⟩:=T3.own1.slice
     try go_simp
     refine hK.O _ _ (ap.O _ _ _ _ _ T3) ?_;clear hK K
     try simp only[pu]
     refine qT_ ?_
     try simp only[pu]
     refine qD fun K hK=>?_;go_simp;refine(T3.swap.ins HT.O (by have:=T3.w_.size;have:=HB.O.lt;have:=HB.O.at3;omega) (by rw[HN.O.2];omega) (by rw[HN.O.2];exact ba) hv d9).M ?_;rintro en w6 ⟨u2,rfl,T4,o4⟩;obtain⟨A4,m4,c4,rfl⟩:=T4.own1.slice;have T5:=T4.swap
     try go_simp
     refine hK.O _ _ (ap.O _ _ _ _ _ T5) ?_;clear hK K
     try simp only[pu]
     obtain⟨g0,g1,g2⟩:=HB.O.grow T5;have f0:w6.frozen? (y_ w1.1.size)=false:=AT g0;have d0:w6.cell? (y_ w1.1.size)=some (.slice Ak lk ck):=e_ g0
     have f1:(w6.setCell (y_ w1.1.size) (.slice A2 m2 c2)).frozen? (x_ w1.1.size 1)=false:=AT g1;have d1:(w6.setCell (y_ w1.1.size) (.slice A2 m2 c2)).cell? (x_ w1.1.size 1)=some (.slice Av lk cv):=e_ g1
     have a9:=If g2;clear g0 g1 g2;refine qL fun K hK=>?_;go_simp
     try go_simp
     refine hK.O _ _ trivial ?_;clear hK K
     try simp only[pu]
     refine qL fun K hK=>?_;go_simp
     try go_simp
     refine hK.O _ _ trivial ?_;clear hK K
     try simp only[pu]
     refine qL fun K hK=>?_;go_simp
     try go_simp
     refine hK.O _ _ trivial ?_;clear hK K
     try simp only[pu]
     refine jd ?_;go_wp2_with fail
     go_meet
     case rel=>exact⟨S,_,v,L,[],Bt.leafPut x e,_,_,_,rJ HI.b HI.c HI.l hkh hvh HK.O H1.i.1 a9.O⟩
   ·obtain⟨d,rfl⟩:∃d0,d=d0+1:=⟨d-1,o_⟩;have oi:j4 d:=rec0 d rfl;have eo:lc=lk+1:=by rw[<-H1.j,<-H1.g];exact HI.b.ok.B_
    have qj:((lc:Int)==0)=false:=m_
    have ql:¬(lc:Int)=0:=o_
    have ar:=HI.b.kid_lt HK.O;have d6:=fun(Y1:Nat->Prop) (W:World) Hd=>BG (Y1:=Y1) (wc:=W) (ps:=ps) (Z:=Z) (bt:=bt) (bl:=bl) (D:=D) (v:=v) (bN:=w1.1.size) (w:=w) (vk:=.slice Ak lk ck) (vv:=.slice Av lk cv) (vc:=.slice Ac lc cc) (sz:=sz) (ks:=(Bt.bn x).l_) (vs:=(Bt.bn x).F_) (cs:=(Bt.bn x).B_) oi HI.b HI.c hid HI.e HI.f HI.j HI.k HI.l hkh hvh HI.m HK.O ar Hd;obtain⟨y,hy⟩:=Ii ((Bn.ks x)[k]);rw[hy] at d6;have el:=FD.at (f:=Bt.hd) (l:=Bn.ks x) (k:=k) HB.O.rows.c.C6 (ag ar);rw[hy] at el;obtain⟨gc,oc,rfl,dc⟩:=el;have j':=HB.O.rows.c.block (g:=gc) rfl;have ka:w.1.size<=gc/\gc<w2.1.size:=⟨o_,j'.2.1⟩;clear j';obtain⟨hh,bs⟩:=Ii (Bt.hd y);rw[bs] at d6 dc;have qi:(k:Int)<lc:=by have:=H1.j;omega
    unfold FH Id JB at d6;have HC:=If d6;have HY:=kq2 hy bs;clear d6 hy bs eo
    go_upto_region 7 with fail
    go_cut [17] from 18 (fun s17 wc=>∃b,s17=.pointer (some (y_ b))/\Hid (∃r S4 Y4 v4 L4 U,jp w ps S o Z bt bl D t v L y e w1.1.size (.slice Ak lk ck) (.slice Av lk cv) (.slice (some (x_ gc oc)) lc cc) sz (Bt.bn x).l_ (Bt.bn x).F_ (Bt.bn x).B_ b wc r S4 Y4 v4 L4 U))
    case first=>
     as_aux_lemma=>
      obtain⟨I,ai,an⟩:=ic fun w'=>∀k,w.1.size<=k->k<w2.1.size->w'.1[k]?=w2.1[k]?;have hlt:=HB.O.lt;have h3:=HB.O.at3;have l8:=fun x:Fq I=>(ai _ x.ok w.1.size o_ o_).T cj.c;have au:=fun x:Fq I=>(ai _ x.ok w1.1.size o_ o_).T cj.b;have a8:=fun x:Fq I=>(ai _ x.ok (w.1.size+1) o_ o_).T cj.d;obtain⟨p0,p1⟩:=mt l8;obtain⟨m0,m1,m2,m3⟩:=iB au;obtain⟨n0,n1⟩:=mt a8;have o0:∀x:Fq I,x.to.cell? ⟨gc,oc+k,none⟩=some (Xu hh):=fun x=>(j9 (ai _ x.ok gc ka.1 ka.2)).T dc;have bj:I w2.drew:=an _ fun _ _ _=>rfl;have bd:=If an;have rs:IntKind.i64.wrap ((i:Int)+1)=(i:Int)+1:=aw _ o_;have px:bl<w.1.size:=HB.O.zl bl HB.O.zs.1;clear ai an l8 au a8 hlt h3;refine nG I (fun i=>[13].contains i) (.take 0 (.take 1 (.take 2 (.take 3 (.take 4 (.take 5 (.take 6 (.take 7 (.take 8 (.take 9 (.take 10 (.two 11 12 (.go 12 (.go 13 .nil)) (.go 11 (.go 13 .nil)))))))))))))) k_ k_ bj ?_
      iterate 11
       refine qT_ ?_
       try simp only[pu]
      refine Jh ?_ ?_
      ·skip
       refine qD fun K hK=>?_;go_simp;refine(HC.O _ _ (HB.O.a_ (aa _ w2).drew)).M ?_;rintro en w4 ⟨r,S4,v4,L4,U,rfl,h4⟩;have H4:=If h4;clear h4;have g':=H4.O.2.2.2.2.2.size;have d5:∀k,w.1.size<=k->k<w2.1.size->w4.1[k]?=w2.1[k]?:=fun k h1 h2=>H4.O.2.2.2.2.2.block k ⟨ab (ae ⟨h1,h2⟩),o_⟩;have cn:=If d5;clear d5
       rcases r with _ | ⟨m,g⟩
       ·dsimp only[ky,iQ]
        try go_simp
        refine hK.O _ _ (bd.O _ cn.O) ?_;clear hK K
        try simp only[pu]
        refine qD fun K hK=>?_;go_simp
        try go_simp
        refine hK.O _ _ (bd.O _ fun k h1 h2=>((aa _ w4).alloc Ih _ |>.block k (aF h2 g')).T (cn.O k h1 h2)) ?_;clear hK K
        try simp only[pu]
        refine qL fun K hK=>?_;go_simp
        try go_simp
        refine hK.O _ _ trivial ?_;clear hK K
        try simp only[pu]
        refine jd ?_;go_wp2_with fail
        go_meet
        case rel=>exact⟨_,rfl,If ⟨_,_,_,_,_,_,jp.new H4.O⟩⟩
       ·dsimp only[ky,iQ]
        try go_simp
        refine hK.O _ _ (bd.O _ cn.O) ?_;clear hK K
        try simp only[pu]
        refine qD fun K hK=>?_;go_simp
        try go_simp
        refine hK.O _ _ (bd.O _ fun k h1 h2=>((aa _ w4).alloc Ih _ |>.block k (aF h2 g')).T (cn.O k h1 h2)) ?_;clear hK K
        try simp only[pu]
        refine qL fun K hK=>?_;go_simp
        try go_simp
        refine hK.O _ _ trivial ?_;clear hK K
        try simp only[pu]
        refine jd ?_;go_wp2_with fail
        go_meet
        case rel=>exact⟨_,rfl,If ⟨_,_,_,_,_,_,jp.new H4.O⟩⟩
      ·skip
       refine qD fun K hK=>?_;go_simp;have b3:=((aa w2.1.size w2).drew).alloc Ih (.cells #[.bool false,Xu 0,Xu 0,Xu 0] 274)
       try go_simp
       refine hK.O _ _ (bd.O _ fun k h1 h2=>b3.block k h2) ?_;clear hK K
       try simp only[pu]
       refine qD fun K hK=>?_;go_simp;refine(HC.O _ _ (HB.O.a_ b3)).M ?_;rintro en w4 ⟨r,S4,v4,L4,U,rfl,h4⟩;have H4:=If h4;clear h4;have g':=H4.O.2.2.2.2.2.size;have d5:∀k,w.1.size<=k->k<w2.1.size->w4.1[k]?=w2.1[k]?:=fun k h1 h2=>(H4.O.2.2.2.2.2.block k ⟨ab (ae ⟨h1,h2⟩),o_⟩).T (b3.block k h2);have e4:w4.1[w2.1.size]?=some (.cells #[.bool false,Xu 0,Xu 0,Xu 0] 274 (0,0)):=(H4.O.2.2.2.2.2.block w2.1.size ⟨ae ⟨Nat.le_refl _,s_⟩,by have:=HB.O.lt;have:=HB.O.at3;omega⟩).T (heap_alloc_new w2.drew _);have cn:=If d5;clear d5;obtain⟨x0,x1,x2,x3⟩:=Fy e4;obtain⟨f0,f1,f2,f3⟩:=fO e4;have h9:=If e4;clear e4
       rcases r with _ | ⟨m,g⟩
       ·dsimp only[ky,iQ]
        try go_simp
        refine hK.O _ _ (bd.O _ cn.O) ?_;clear hK K
        try simp only[pu]
        refine qL fun K hK=>?_;go_simp
        try go_simp
        refine hK.O _ _ trivial ?_;clear hK K
        try simp only[pu]
        refine jd ?_;go_wp2_with fail
        go_meet
        case rel=>exact⟨_,rfl,If ⟨_,_,_,_,_,_,jp.set H4.O (ae ⟨Nat.le_refl _,s_⟩) (by have:=HB.O.lt;have:=HB.O.at3;omega) h9.O rfl⟩⟩
       ·dsimp only[ky,iQ]
        try go_simp
        refine hK.O _ _ (bd.O _ cn.O) ?_;clear hK K
        try simp only[pu]
        refine qL fun K hK=>?_;go_simp
        try go_simp
        refine hK.O _ _ trivial ?_;clear hK K
        try simp only[pu]
        refine jd ?_;go_wp2_with fail
        go_meet
        case rel=>exact⟨_,rfl,If ⟨_,_,_,_,_,_,jp.set H4.O (ae ⟨Nat.le_refl _,s_⟩) (by have:=HB.O.lt;have:=HB.O.at3;omega) h9.O rfl⟩⟩
    case rest=>
     obtain⟨b,rfl,HU⟩:=hcut;obtain⟨r,S4,Y4,v4,L4,U,U1⟩:=HU.O;clear HU cj HC x0 x1 y0 y1 y2 y3 z0 z1 dc
     rcases r with _ | ⟨m,g⟩
     ·have up:=U1.up;unfold iQ at up
      dsimp only at up
      obtain⟨x0,x1,x2,x3⟩:=Fy up;have ad:=If U1;clear up U1;go_wp2_with fail
      go_meet
      case rel=>
       obtain⟨hy,bs⟩:=HY.O;have U1:=ad.O;subst hy;obtain⟨x',M⟩:=Db HI.b HI.c HI.l hkh hvh HI.f HK.O ar H1.i.1 U1.sum U1.put U1.num U1.all U1.held;exact⟨_,_,_,_,_,x',_,_,_,M⟩
     ·have up:=U1.up;unfold iQ at up
      dsimp only at up
      obtain⟨x0,x1,x2,x3⟩:=Fy up;have iv:=If up;have ad:=If U1;clear up U1
      go_upto_region 9 with fail
      go_cut [] from 18 (fun wd=>Hid (wd.1[b]?=some (.cells #[.bool true,Xu m.kh,Xu m.vh,Xu g] 274 (0,0))/\∃Y5 A2 m2 c2 A4 m4 c4,eH w ps Z bt bl D t v w1.1.size wd S4 Y5 v4 L4 (.slice A2 m2 c2) (.slice A4 m4 c4) (.slice (some (x_ gc oc)) lc cc) sz ((Bt.bn x).l_.take k++m.kh::(Bt.bn x).l_.drop k) ((Bt.bn x).F_.take k++m.vh::(Bt.bn x).F_.drop k) (Bt.bn x).B_))
      case first=>
       as_aux_lemma=>
        obtain⟨I,ai,an⟩:=ic fun w'=>w'.1[w1.1.size]?=wc.1[w1.1.size]?/\w'.1[b]?=wc.1[b]?;have au:=fun x:Fq I=>(ai _ x.ok).1.T ad.O.held.box;have a8:=fun x:Fq I=>(ai _ x.ok).2.T iv.O;obtain⟨m0,m1,m2,m3⟩:=iB au;obtain⟨n0,n1,n2,n3⟩:=iB a8;have bj:I wc.drew:=an _ ⟨rfl,rfl⟩;have d7:∀(w':World) (u1 u2:Value) (l1 l2:List Nat),fD wc w' (w.1.size+3) ps S4 Y4 (.slice Ak lk ck) (.slice Av lk cv) u1 u2 l1 l2->I w':=fun w' u1 u2 l1 l2 T=>an _ ⟨T.w_.block _ ⟨ad.O.held.lt,ad.O.held.ne.1,ad.O.held.ne.2.1⟩,T.w_.block _ ⟨ad.O.ne.1,ad.O.ne.2.1,ad.O.ne.2.2.1⟩⟩;have ap:=If d7;have e7:Hid (∀(w':World) (u1 u2:Value) (l1 l2:List Nat),fD wc w' (w.1.size+3) ps S4 Y4 (.slice Ak lk ck) (.slice Av lk cv) u1 u2 l1 l2->∀z1 z2,((w'.setCell (y_ w1.1.size) z1).setCell (x_ w1.1.size 1) z2).1[b]?=some (.cells #[.bool true,Xu m.kh,Xu m.vh,Xu g] 274 (0,0))):=If fun w' u1 u2 l1 l2 T z1 z2=>((FB ad.O.ne.2.2.2.2).T (FB ad.O.ne.2.2.2.2)).T ((T.w_.block _ ⟨ad.O.ne.1,ad.O.ne.2.1,ad.O.ne.2.2.1⟩).T iv.O);have dv:=If ad.O.held.two.drew;have HT:Hid (fy<w.1.size+3):=If (by have:=J8 HI.a;omega);have HN:Hid ((Bt.bn x).l_.length=lk/\(Bt.bn x).F_.length=lk):=If ⟨by rw[<-H1.g];unfold Bt.bn;rw[ao],by rw[<-H1.g];unfold Bt.bn;rw[ao]⟩;have n8:lk<=31:=by rw[<-H1.g];exact HI.b.es.2.2
        clear ai an au a8 d7;refine nG I (fun i=>[17,18,19].contains i) (.take 0 (.take 1 (.take 2 (.take 3 (.take 4 (.take 5 (.take 8 (.take 9 (.take 10 (.take 11 (.take 12 (.take 13 (.two 6 14 (.two 7 14 (.take 16 (.go 14 (.go 15 (.go 17 (.go 18 (.go 19 .nil)))))) (.go 7 (.take 16 (.go 15 (.go 17 (.go 18 (.go 19 .nil))))))) (.go 6 (.go 7 (.take 16 (.go 15 (.go 17 (.go 18 (.go 19 .nil)))))))))))))))))))) k_ k_ bj ?_
        iterate 12
         refine qT_ ?_
         try simp only[pu]
        have eb:∀c,(wc.drew.alloc c).1.size=wc.1.size+1:=fun c=>by simp
        refine Jh ?_ ?_
        ·skip
         refine qD fun K hK=>?_;go_simp;obtain⟨T1,x1,ca,d9,s1,b1⟩:=dv.O.one (m.kh)
         try go_simp
         refine hK.O _ _ (ap.O _ _ _ _ _ T1) ?_;clear hK K
         try simp only[pu]
         refine Jh ?_ ?_
         ·skip
          refine qD fun K hK=>?_;go_simp;refine(T1.ins HT.O (by have:=T1.w_.size;have:=ad.O.held.lt;have:=ad.O.held.at3;omega) (by rw[HN.O.1];omega) (by rw[HN.O.1];exact ba) x1 ca).M ?_;rintro en w4 ⟨u1,rfl,T2,o2⟩;obtain⟨A2,m2,c2,rfl⟩:=T2.own1.slice
          try go_simp
          refine hK.O _ _ (ap.O _ _ _ _ _ T2) ?_;clear hK K
          try simp only[pu]
          refine qT_ ?_
          try simp only[pu]
          refine qD fun K hK=>?_;go_simp;obtain⟨T3,x3,pf,ht,s3,b3⟩:=T2.one (m.vh)
          try go_simp
          refine hK.O _ _ (ap.O _ _ _ _ _ T3) ?_;clear hK K
          try simp only[pu]
          refine qD fun K hK=>?_;go_simp;refine(T3.swap.ins HT.O (by have:=T3.w_.size;have:=ad.O.held.lt;have:=ad.O.held.at3;omega) (by rw[HN.O.2];omega) (by rw[HN.O.2];exact ba) x3 ht).M ?_;rintro en w6 ⟨u2,rfl,T4,o4⟩;obtain⟨A4,m4,c4,rfl⟩:=T4.own1.slice;have T5:=T4.swap
          try go_simp
          refine hK.O _ _ (ap.O _ _ _ _ _ T5) ?_;clear hK K
          try simp only[pu]
          obtain⟨g0,g1,g2⟩:=ad.O.held.grow T5;have f0:w6.frozen? (y_ w1.1.size)=false:=AT g0;have d0:w6.cell? (y_ w1.1.size)=some (.slice Ak lk ck):=e_ g0
          have f1:(w6.setCell (y_ w1.1.size) (.slice A2 m2 c2)).frozen? (x_ w1.1.size 1)=false:=AT g1;have d1:(w6.setCell (y_ w1.1.size) (.slice A2 m2 c2)).cell? (x_ w1.1.size 1)=some (.slice Av lk cv):=e_ g1
          have a9:=If g2;have d4:=If (e7.O _ _ _ _ _ T5 (.slice A2 m2 c2) (.slice A4 m4 c4));clear g0 g1 g2;refine qL fun K hK=>?_;go_simp
          try go_simp
          refine hK.O _ _ trivial ?_;clear hK K
          try simp only[pu]
          refine qL fun K hK=>?_;go_simp
          try go_simp
          refine hK.O _ _ trivial ?_;clear hK K
          try simp only[pu]
          refine qL fun K hK=>?_;go_simp
          try go_simp
          refine hK.O _ _ trivial ?_;clear hK K
          try simp only[pu]
          refine jd ?_;go_wp2_with fail
          go_meet
          case rel=>exact If ⟨d4.O,_,A2,m2,c2,A4,m4,c4,a9.O⟩
         ·skip
          refine qD fun K hK=>?_;go_simp;obtain⟨T2,x2,bo,cb,s2,b2⟩:=T1.one (m.vh);rw[eb] at x2 bo cb s2;have c6:=(b2.block _ s1).T x1
          try go_simp
          refine hK.O _ _ (ap.O _ _ _ _ _ T2) ?_;clear hK K
          try simp only[pu]
          refine qD fun K hK=>?_;go_simp;refine(T2.ins HT.O (by have:=T2.w_.size;have:=ad.O.held.lt;have:=ad.O.held.at3;omega) (by rw[HN.O.1];omega) (by rw[HN.O.1];exact ba) c6 ca).M ?_;rintro en w5 ⟨u1,rfl,T3,o3⟩;have hw:=(o3 _ s2 bo).T x2;obtain⟨A2,m2,c2,rfl⟩:=T3.own1.slice
          try go_simp
          refine hK.O _ _ (ap.O _ _ _ _ _ T3) ?_;clear hK K
          try simp only[pu]
          refine qT_ ?_
          try simp only[pu]
          refine qD fun K hK=>?_;go_simp;refine(T3.swap.ins HT.O (by have:=T3.w_.size;have:=ad.O.held.lt;have:=ad.O.held.at3;omega) (by rw[HN.O.2];omega) (by rw[HN.O.2];exact ba) hw cb).M ?_;rintro en w6 ⟨u2,rfl,T4,o4⟩;obtain⟨A4,m4,c4,rfl⟩:=T4.own1.slice;have T5:=T4.swap
          try go_simp
          refine hK.O _ _ (ap.O _ _ _ _ _ T5) ?_;clear hK K
          try simp only[pu]
          obtain⟨g0,g1,g2⟩:=ad.O.held.grow T5;have f0:w6.frozen? (y_ w1.1.size)=false:=AT g0;have d0:w6.cell? (y_ w1.1.size)=some (.slice Ak lk ck):=e_ g0
          have f1:(w6.setCell (y_ w1.1.size) (.slice A2 m2 c2)).frozen? (x_ w1.1.size 1)=false:=AT g1;have d1:(w6.setCell (y_ w1.1.size) (.slice A2 m2 c2)).cell? (x_ w1.1.size 1)=some (.slice Av lk cv):=e_ g1
          have a9:=If g2;have d4:=If (e7.O _ _ _ _ _ T5 (.slice A2 m2 c2) (.slice A4 m4 c4));clear g0 g1 g2;refine qL fun K hK=>?_;go_simp
          try go_simp
          refine hK.O _ _ trivial ?_;clear hK K
          try simp only[pu]
          refine qL fun K hK=>?_;go_simp
          try go_simp
          refine hK.O _ _ trivial ?_;clear hK K
          try simp only[pu]
          refine qL fun K hK=>?_;go_simp
          try go_simp
          refine hK.O _ _ trivial ?_;clear hK K
          try simp only[pu]
          refine jd ?_;go_wp2_with fail
          go_meet
          case rel=>exact If ⟨d4.O,_,A2,m2,c2,A4,m4,c4,a9.O⟩
        ·skip
         refine qD fun K hK=>?_;go_simp;obtain⟨T1,x1,ca,d9,s1,b1⟩:=dv.O.one (m.vh)
         try go_simp
         refine hK.O _ _ (ap.O _ _ _ _ _ T1) ?_;clear hK K
         try simp only[pu]
         refine qD fun K hK=>?_;go_simp;obtain⟨T2,x2,bo,cb,s2,b2⟩:=T1.one (m.kh);rw[eb] at x2 bo cb;have c6:=(b2.block _ s1).T x1
         try go_simp
         refine hK.O _ _ (ap.O _ _ _ _ _ T2) ?_;clear hK K
         try simp only[pu]
         refine qD fun K hK=>?_;go_simp;refine(T2.ins HT.O (by have:=T2.w_.size;have:=ad.O.held.lt;have:=ad.O.held.at3;omega) (by rw[HN.O.1];omega) (by rw[HN.O.1];exact ba) x2 bo).M ?_;rintro en w5 ⟨u1,rfl,T3,o3⟩;have hv:=(o3 _ (Nat.lt_trans s1 s2) ca).T c6;obtain⟨A2,m2,c2,rfl⟩:=T3.own1.slice
         try go_simp
         refine hK.O _ _ (ap.O _ _ _ _ _ T3) ?_;clear hK K
         try simp only[pu]
         refine qT_ ?_
         try simp only[pu]
         refine qD fun K hK=>?_;go_simp;refine(T3.swap.ins HT.O (by have:=T3.w_.size;have:=ad.O.held.lt;have:=ad.O.held.at3;omega) (by rw[HN.O.2];omega) (by rw[HN.O.2];exact ba) hv d9).M ?_;rintro en w6 ⟨u2,rfl,T4,o4⟩;obtain⟨A4,m4,c4,rfl⟩:=T4.own1.slice;have T5:=T4.swap
         try go_simp
         refine hK.O _ _ (ap.O _ _ _ _ _ T5) ?_;clear hK K
         try simp only[pu]
         obtain⟨g0,g1,g2⟩:=ad.O.held.grow T5;have f0:w6.frozen? (y_ w1.1.size)=false:=AT g0;have d0:w6.cell? (y_ w1.1.size)=some (.slice Ak lk ck):=e_ g0
         have f1:(w6.setCell (y_ w1.1.size) (.slice A2 m2 c2)).frozen? (x_ w1.1.size 1)=false:=AT g1;have d1:(w6.setCell (y_ w1.1.size) (.slice A2 m2 c2)).cell? (x_ w1.1.size 1)=some (.slice Av lk cv):=e_ g1
         have a9:=If g2;have d4:=If (e7.O _ _ _ _ _ T5 (.slice A2 m2 c2) (.slice A4 m4 c4));clear g0 g1 g2;refine qL fun K hK=>?_;go_simp
         try go_simp
         refine hK.O _ _ trivial ?_;clear hK K
         try simp only[pu]
         refine qL fun K hK=>?_;go_simp
         try go_simp
         refine hK.O _ _ trivial ?_;clear hK K
         try simp only[pu]
         refine qL fun K hK=>?_;go_simp
         try go_simp
         refine hK.O _ _ trivial ?_;clear hK K
         try simp only[pu]
         refine jd ?_;go_wp2_with fail
         go_meet
         case rel=>exact If ⟨d4.O,_,A2,m2,c2,A4,m4,c4,a9.O⟩
      case rest=>
       obtain⟨up,Y5,A2,m2,c2,A4,m4,c4,H5⟩:=hcut.O;clear hcut x0 x1 x2 x3;have i3:=H5.box;obtain⟨x0,x1,x2,x3⟩:=Fy up;obtain⟨y0,y1,y2,y3⟩:=Fy i3;have b6:=(aa _ wc).alloc Ih (Xf g);have H6:=H5.a_ b6;have x6:=heap_alloc_new wc (Xf g);have n6:(Value.slice (some (x_ gc oc)) lc cc).ownBlock≠some wc.1.size:=fun q=>by have:=(H5.rows.c.block q).2.1;omega
       have n4:(Bt.bn x).B_.length=lc:=by rw[<-H1.j];unfold Bt.bn;rw[ao]
       have n7:lc<=32:=by
        have h1:=HI.b.es.2.2;have h2:=HI.b.ok.B_;have h3:=H1.j;omega
       have cw:=uT H6.st H6.rows.c (fun g hg=>H6.yk g (ae (ae hg))) (by have:=J8 HI.a;omega) o_ (i:=k+1) o_ x6 n6 (by have:=H6.lt;have:=H6.at3;omega);have e1:((k+1:Nat):Int)=(k:Int)+1:=o_
       rw[e1] at cw;have rv:IntKind.i64.wrap ((k:Int)+1)=(k:Int)+1:=aw _ o_;have nf:=If cw;have na:=If H6;have pi:=If up;clear cw H6 H5 i3 up x6 n6 n4 n7 e1 b6;go_wp2_with fail;refine nf.O.M ?_;rintro en w7 ⟨u3,rfl,I7⟩;obtain⟨A7,m7,c7,rfl⟩:=I7.own.slice;obtain⟨g0,g2⟩:=na.O.grow3 I7;have f2:w7.frozen? (x_ w1.1.size 2)=false:=AT g0;have d2:w7.cell? (x_ w1.1.size 2)=some (.slice (some (x_ gc oc)) lc cc):=e_ g0
       have a9:=If g2;clear g0 g2 I7 x0 x1 x2 x3 y0 y1 y2 y3;go_wp2_with fail
       go_meet
       case rel=>
        obtain⟨hy,bs⟩:=HY.O;have U1:=ad.O;subst hy;obtain⟨x',M⟩:=Dc HI.b HI.c HI.l hkh hvh HI.f HK.O ar H1.i.1 U1.sum U1.put U1.num U1.all a9.O;exact⟨_,_,_,_,_,x',_,_,_,M⟩
 case rest=>
  obtain⟨S',Y,v',L',U,x',vk,vv,vc,M⟩:=hcut;have hp:=M.putting;have cy:=M.held.rows;obtain⟨K1,k1,i'⟩:=cy.k.C9;obtain⟨V1,l1,jj⟩:=cy.v.C9;obtain⟨C1,j1,i4⟩:=cy.c.C9;rw[hp.2.2.2.2.1] at i';rw[hp.2.2.2.2.2.1] at jj;rw[hp.2.2.2.2.2.2] at i4;subst i' jj i4;obtain⟨sz,b8⟩:=Ii (Bt.its x).length;obtain⟨n,hn⟩:=Ii (Bn.es x').length;obtain⟨c,hc⟩:=Ii (Bn.ks x').length;have Hd:=M.held;rw[b8,hn,hc] at Hd;have hb:=Hd.box;have b':=Hd.tree;have rk:sz<1000000:=by rw[<-b8];exact HI.b.few
  have qq:n<=2*t:=by rw[<-hn];exact M.mid.okN.1
  have c3:=HI.b.t2;have b9:=HI.b.t1;clear x0 x1 y0 y1 y2 y3 z0 z1;obtain⟨x0,x1⟩:=Fp b';obtain⟨y0,y1,y2,y3⟩:=Fy hb;obtain⟨f0,f1,f2,f3⟩:=fO hb;have l0:IntKind.u64.wrap ((sz:Int)+1)=(sz:Int)+1:=bM _ o_;have HM:=kq4 M b8 hn hc;have HD:=If Hd;clear M Hd hp cy b8 hn hc hb b'
  go_upto_region 11 with fail
  go_cut [] from 18 (fun wd=>Hid (eH w ps Z bt bl D t v w1.1.size wd S' Y v' L' (.slice K1 n k1) (.slice V1 n l1) (.slice C1 c j1) (sz+1) (Bt.bn x').l_ (Bt.bn x').F_ (Bt.bn x').B_))
  case first=>
   as_aux_lemma=>
    go_wp2_with fail
    go_meet
    case rel=>
     have h:=HD.O.size (sz+1);have e1:((sz+1:Nat):Int)=(sz:Int)+1:=o_
     rw[e1] at h;exact If h
  case rest=>
   have hb:=hcut.O.box;have b':=hcut.O.tree;have oj:=hcut.O.res;clear HD x0 x1 y0 y1 y2 y3 f0 f1 f2 f3 l0;have e1:((sz+1:Nat):Int)=(sz:Int)+1:=o_
   rw[e1] at hb;obtain⟨x0,x1⟩:=Fp b';obtain⟨y0,y1,y2,y3⟩:=Fy hb;have rr:IntKind.i64.wrap (2*(t:Int))=2*(t:Int):=aw _ o_;clear hb b' oj
   by_cases hlt:n<2*t
   ·have n':(n:Int)<2*t:=o_
    have bu:Ct 212 #[PV ps,Xi t,Xu (Bt.hd x:Nat),eC (.slice K1 n k1) (.slice V1 n l1) (.slice C1 c j1) (Bt.bn x').size] wc fun e w'=>e=.returned (Xi 0)/\Ig w' ps (FC S' (Bn.h x) 0 (z_ t (Bt.bn x'))) Y/\Fo Y wc w':=by
     obtain⟨M,b8,hn,hc⟩:=HM.O;obtain⟨p1,p2,p3,p4,p5,p6,p7⟩:=M.putting;exact Jg hcut.O.st p1 (Bt.bnok_of M.mid.fit b9 c3 M.mid.B_ (M.mid.okN.ok o_)) hcut.O.rows.k.C6 hcut.O.rows.v.C6 hcut.O.rows.c.C6 (Bn.h x) p3 p2 (kX M.mid.lt o_)
    have c':(Bt.bn x').size=sz+1:=by
     obtain⟨M,b8,hn,hc⟩:=HM.O;exact M.putting.2.2.2.1.T (by rw[b8])
    rw[c'] at bu;unfold eC at bu;rw[e1] at bu;have HP:=If bu;clear bu c' e1;go_wp2_with fail;refine HP.O.M ?_;rintro en w3 ⟨rfl,ea,ds⟩;have H3:=hcut.O.kid ea (ds.M fun k hk=>hk.1) (hcut.O.sp.keeps fun k hk=>ds.block k (hcut.O.zy k (hcut.O.spz k hk))) rfl;have b4:=H3.res;clear x0 x1 y0 y1 y2 y3;obtain⟨x0,x1,x2,x3⟩:=Fy b4;obtain⟨f0,f1,f2,f3⟩:=fO b4;have H3:=kq2 H3 b4;clear b4 ea ds;go_wp2_with fail;obtain⟨WF,cq⟩:=Ii ((((w3.setCell (y_ (w.1.size+1+1)) (.bool false)).setCell (x_ (w.1.size+1+1) 1) (Xu 0)).setCell (x_ (w.1.size+1+1) 2) (Xu 0)).setCell (x_ (w.1.size+1+1) 3) (Xu 0));rw[cq];have HF:=H3.a.fin H3.b (.bool false) (Xu 0) (Xu 0) (Xu 0) WF cq.S;clear cq x0 x1 x2 x3 f0 f1 f2 f3;have e4:=HF.2.2.2;obtain⟨q0,q1,q2,q3⟩:=Fy e4;obtain⟨M,b8,hn,hc⟩:=HM.O;have bb:¬(Bn.es x').length=2*t:=o_
    have k2:=M.num;have jn:=M.all;rw[if_neg bb] at k2;rw[decide_eq_false bb] at jn;exact bodyPost_ret (v:=.agg #[.bool false,Xu 0,Xu 0,Xu 0]) (by simp[results,f182,go_sem,q0,q1,q2,q3]) rfl ⟨none,_,v',L',U,rfl,M.sum,M.mid.put c3 o_,HF.1,HF.2.1,HF.2.2.1,M.held.own,k2,jn⟩
   ·have n':¬(n:Int)<2*t:=o_
    have bb:n=2*t:=o_
    have ar:(Bt.bn x').l_.length=n/\(Bt.bn x').F_.length=n/\(Bt.bn x').B_.length=c:=by
     obtain⟨M,b8,hn,hc⟩:=HM.O;obtain⟨p1,p2,p3,p4,p5,p6,p7⟩:=M.putting;exact⟨o_,o_,o_⟩
    have ou:∃b cc,(Value.slice K1 n k1)=.slice (some (y_ b)) n cc/\n<=cc:=by
     have:=hcut.O.rows.k.some o_;rwa[ar.1] at this
    have ox:∃b cc,(Value.slice V1 n l1)=.slice (some (y_ b)) n cc/\n<=cc:=by
     have:=hcut.O.rows.v.some o_;rwa[ar.2.1] at this
    obtain⟨bk,pm,ek,dd⟩:=ou;obtain⟨bv,pn,ev,dk⟩:=ox
    injection ek with ek1 _ ek2
    injection ev with ev1 _ ev2
    subst ek1 ek2 ev1 ev2;have rl:t+1<=n:=o_
    have bf:=kq2 bb ar;clear bb ar e1;have a1:(t:Int)<=k1:=o_
    have a2:(t:Int)<=l1:=o_
    have a3:(t:Int)+1<=n:=o_
    have a4:0<=(t:Int)+1:=o_
    have a6:¬k1=t+1:=o_
    have a7:¬l1=t+1:=o_
    have a5:((t:Int)+1).toNat=t+1:=o_
    have rx:IntKind.i64.wrap ((t:Int)+1)=(t:Int)+1:=aw _ o_;have p9:(t:Int)+1<=k1:=o_
    have p8:(t:Int)+1<=l1:=o_
    obtain⟨wp,rfl⟩:∃z,z=wc:=⟨wc,rfl⟩;have HC:=hcut;clear hcut
    go_upto_region 15 with fail
    go_cut [18,19] from 20 (fun s18 s19 wd=>∃bL bR,s18=.pointer (some (y_ bL))/\s19=.pointer (some (y_ bR))/\Hid (eV wp wd ps S' Y bL bR #[.slice (some (y_ bk)) t k1,.slice (some (y_ bv)) t l1,n_,Xu 0] #[.slice (some ⟨bk,t+1,none⟩) (n-(t+1)) (k1-(t+1)),.slice (some ⟨bv,t+1,none⟩) (n-(t+1)) (l1-(t+1)),n_,Xu 0]))
    case first=>
     as_aux_lemma=>
      obtain⟨I,ai,an⟩:=ic fun w'=>w'.1[w1.1.size]?=wp.1[w1.1.size]?/\w'.1[w.1.size]?=wp.1[w.1.size]?;have hb:=HC.O.box;have e1:((sz+1:Nat):Int)=(sz:Int)+1:=o_
      rw[e1] at hb;have au:=fun x:Fq I=>(ai _ x.ok).1.T hb;have a8:=fun x:Fq I=>(ai _ x.ok).2.T HC.O.tree;obtain⟨m0,m1,m2,m3⟩:=iB au;obtain⟨p0,p1⟩:=mt a8;have bj:I wp.drew:=an _ ⟨rfl,rfl⟩;have b1:=fun q=>((aa wp.1.size wp).drew).alloc Ih (.cells q 215);have b2:=fun q q2=>(b1 q).alloc s_ (.cells q2 215);have i5:∀q,I (wp.drew.alloc (.cells q 215)):=fun q=>an _ ⟨(b1 q).block _ HC.O.lt,(b1 q).block _ (by have:=HC.O.lt;have:=HC.O.at3;omega)⟩;have i6:∀q q2,I ((wp.drew.alloc (.cells q 215)).alloc (.cells q2 215)):=fun q q2=>an _ ⟨(b2 q q2).block _ HC.O.lt,(b2 q q2).block _ (by have:=HC.O.lt;have:=HC.O.at3;omega)⟩;have ib:=If i5;have c9:=If i6;clear ai an au a8 hb e1 b1 b2 i5 i6;refine fh I (.take 0 (.take 1 (.take 2 (.take 3 (.take 4 (.take 5 (.take 6 (.take 7 (.take 8 (.take 9 (.take 10 (.take 11 (.take 12 (.take 13 (.take 14 (.take 15 (.take 16 (.take 17 (.take 18 (.take 19 (.take 20 (.take 21 (.take 22 (.take 23 (.two 24 25 (.go 25 (.go 26 (.go 27 .nil))) (.go 24 (.go 26 (.go 27 .nil)))))))))))))))))))))))))))) k_ k_ bj ?_
      iterate 24
       refine pT_ ?_
       try simp only[pu]
      refine gL ?_ ?_
      ·skip
       refine pD fun K hK=>?_;go_simp
       try go_simp
       refine hK.O _ _ (ib.O _) ?_;clear hK K
       try simp only[pu]
       refine pD fun K hK=>?_;go_simp
       try go_simp
       refine hK.O _ _ (c9.O _ _) ?_;clear hK K
       try simp only[pu]
       refine pD fun K hK=>?_;go_simp
       try go_simp
       refine hK.O _ _ (c9.O _ _) ?_;clear hK K
       try simp only[pu]
       refine pD fun K hK=>?_;go_simp
       try go_simp
       refine hK.O _ _ (c9.O _ _) ?_;clear hK K
       try simp only[pu]
       refine eP ?_;go_wp2_with fail
       go_meet
       case rel=>exact⟨_,_,rfl,rfl,If (eV.start HC.O.st _ _)⟩
      ·skip
       refine pD fun K hK=>?_;go_simp
       try go_simp
       refine hK.O _ _ (ib.O _) ?_;clear hK K
       try simp only[pu]
       refine pD fun K hK=>?_;go_simp
       try go_simp
       refine hK.O _ _ (c9.O _ _) ?_;clear hK K
       try simp only[pu]
       refine pD fun K hK=>?_;go_simp
       try go_simp
       refine hK.O _ _ (c9.O _ _) ?_;clear hK K
       try simp only[pu]
       refine pD fun K hK=>?_;go_simp
       try go_simp
       refine hK.O _ _ (c9.O _ _) ?_;clear hK K
       try simp only[pu]
       refine eP ?_;go_wp2_with fail
       go_meet
       case rel=>exact⟨_,_,rfl,rfl,If (eV.start HC.O.st _ _).turn⟩
    case rest=>
     obtain⟨bL,bR,rfl,rfl,HS⟩:=hcut;obtain⟨nr,k0⟩:∃nr,nr=n-(t+1):=⟨_,rfl⟩;rw[<-k0] at HS;have rj:nr+1=t:=by have:=bf.a;omega
     clear k0 x0 x1 y0 y1 y2 y3 a1 a2 a3 a4 a5 a6 a7;have hL:=HS.O.bl;have hR:=HS.O.br;have e1:((sz+1:Nat):Int)=(sz:Int)+1:=o_
     have hN:=(HS.O.kp.block _ HC.O.yb.1).T HC.O.box;rw[e1] at hN;have hT:=(HS.O.kp.block _ HC.O.yb.2.1).T HC.O.tree;obtain⟨x0,x1⟩:=Fp hT;obtain⟨y0,y1,y2,y3⟩:=Fy hN;obtain⟨a0,a1,a2,a3⟩:=Fy hL;obtain⟨f0,f1,f2,f3⟩:=fO hL;obtain⟨b0,b1,b2,b3⟩:=Fy hR;obtain⟨h0,h1,h2,h3⟩:=fO hR;clear hL hR hN hT e1
     go_upto_if 149 with fail
     go_cut [] from 20 (fun wd=>∃A1 m1 c1 A2 m2 c2,Hid (eV wp wd ps S' Y bL bR #[.slice (some (y_ bk)) t k1,.slice (some (y_ bv)) t l1,.slice A1 m1 c1,Xu 0] #[.slice (some ⟨bk,t+1,none⟩) nr (k1-(t+1)),.slice (some ⟨bv,t+1,none⟩) nr (l1-(t+1)),.slice A2 m2 c2,Xu 0]/\FD wp (.slice A1 m1 c1) ((Bt.bn x').B_.take (t+1))/\FD wp (.slice A2 m2 c2) ((Bt.bn x').B_.drop (t+1))/\(∀g,(Value.slice A1 m1 c1).ownBlock=some g->Y g)/\∀g,(Value.slice A2 m2 c2).ownBlock=some g->Y g/\g≠bl))
     case first=>
      as_aux_lemma=>
       by_cases hd0:d=0
       ·subst hd0;have km:Bn.ks x'=[]:=Bt.G9 _;obtain rfl:c=0:=by rw[<-HM.d,km];rfl
        go_wp2_with fail
        go_meet
        case rel=>
         have kl:(Bt.bn x').B_=[]:=by unfold Bt.bn;rw[km];rfl
         refine⟨none,0,0,none,0,0,If ⟨HS.O,?_,?_,(fun g hg=>nomatch hg),fun g hg=>nomatch hg⟩⟩
         ·rw[kl];exact⟨none,0,rfl,fun k hk=>absurd hk s_⟩
         ·rw[kl];exact⟨none,0,rfl,fun k hk=>absurd hk s_⟩
       ·have j5:c=n+1:=by
         have h1:=HM.a.mid.okN.2.1;rw[if_neg hd0] at h1;have h2:=HM.O.2.2;omega
        have op:∃b cc,(Value.slice C1 c j1)=.slice (some (y_ b)) c cc/\c<=cc:=by
         have:=HC.O.rows.c.some (by have:=bf.b.2.2;omega);rwa[bf.b.2.2] at this
        obtain⟨bc,pk,ec,dc⟩:=op
        injection ec with ec1 _ ec2
        subst ec1 ec2;have bb:=bf.a;have p':(0:Int)<c:=o_
        have q1:(t:Int)+1<=j1:=o_
        have q2:(t:Int)+1<=c:=o_
        have q3:0<=(t:Int)+1:=o_
        have q4:¬j1=t+1:=o_
        have q5:((t:Int)+1).toNat=t+1:=o_
        have qt:¬bL=bR:=HS.O.ge.2.2;have qz:¬bR=bL:=fun q=>HS.O.ge.2.2 q.S;have n5:=HC.O.lt;have fv:=HS.O.ge;have fk:=HC.O.at3;have q6:¬bL=w1.1.size:=o_
        have q7:¬w1.1.size=bL:=o_
        have q8:¬bR=w1.1.size:=o_
        have q9:¬w1.1.size=bR:=o_
        have q':¬bL=w.1.size:=o_
        have ra:¬w.1.size=bL:=o_
        have rb:¬bR=w.1.size:=o_
        have qs:¬w.1.size=bR:=o_
        clear j5 bb n5 fv fk
        go_upto_region 17 with fail
        go_region
        go_wp2_with fail
        go_meet
        case rel=>
         have C6:=HC.O.rows.c.C6;have ar:=bf.b.2.2;have bb:=bf.a;have j5:c=n+1:=by
          have h1:=HM.a.mid.okN.2.1;rw[if_neg hd0] at h1;have h2:=HM.O.2.2;omega
         have l3:∀g,(Value.slice (some (y_ bc)) c j1).ownBlock=some g->Y g:=fun g hg=>HC.O.yk g (ae (ae hg));have pt:=(HC.O.rows.c.block (g:=bc) rfl).1;have jv:=HC.O.zl bl HC.O.zs.1;have pe:∀g,(Value.slice (some (y_ bc)) c j1).ownBlock=some g->Y g/\g≠bl:=fun g hg=>⟨l3 g hg,by
          have hg:bc=g:=Option.some.inj hg;omega⟩
         exact⟨_,_,_,_,_,_,If ⟨((HS.O.setL2 _).setR2 _).a_ (aa _ _).drew,FD.take C6 o_,FD.drop C6 o_,l3,pe⟩⟩
     case rest=>
      obtain⟨A1,m1,c1,A2,m2,c2,bx⟩:=hcut;obtain⟨L2,gg,rfl,k4⟩:=HM.a.spare HI.m HI.e HI.f (by have:=bf.a;have:=HM.c;omega);have ed:=If k4;obtain⟨KS,cp⟩:=Ii ((Bn.ks x').drop (t+1));have em:(Bt.bn x').B_.drop (t+1)=KS.map Bt.hd:=by rw[<-cp];unfold Bt.bn;rw[List.map_drop]
      have gf:m2=KS.length:=by
       obtain⟨_,_,e,_⟩:=bx.O.2.2.1
       injection e with _ e _
       rw[e,em,ao]
      have qp:m2<=33:=by
       have h1:=HM.a.mid.okN.2.1;have h2:KS.length<=(Bn.ks x').length:=by rw[<-cp,bQ];omega
       have h3:=HM.c
       split at h1<;>omega
      obtain⟨su,dp⟩:∃su:Nat->Nat,∀j,su j=((KS.take j).map fun k=>(Bt.its k).length).sum:=⟨_,fun _=>rfl⟩;have k6:su 0=0:=by rw[dp];rfl
      have g8:∀j (hj:j<KS.length),su (j+1)=su j+(Bt.its KS[j]).length:=fun j hj=>by rw[dp,dp,ED _ _ hj]
      have g9:∀j,su j<=1000000:=fun j=>by
       have h1:=EC (fun k=>(Bt.its k).length) (Bn.ks x') (t+1) j;have h2:=Bt.its_len HM.a.mid.okN;have h3:=HM.a.putting.2.2.2.1;have h4:=HM.b;rw[dp,<-cp];omega
      have kj:sz+1=(Bt.its (Bt.G0 t x')).length+1+(nr+su m2)/\(Bt.its (Bt.G7 t x' gg)).length=nr+su m2:=by
       have bb:=bf.a;have h1:=HM.a.halves b9 (by have:=HM.c;omega) gg;have h3:=HM.a.putting.2.2.2.1;have h4:=HM.b;have h5:=HM.c;have h6:su m2=(((Bn.ks x').drop (t+1)).map fun k=>(Bt.its k).length).sum:=by rw[dp,gf,cC,cp]
       have h7:=h1.2.2.1;have h8:=h1.2.2.2.2.2;rw[<-h6] at h8;omega
      have k7:∀k∈KS,k∈Bn.ks x':=fun k hk=>by
       rw[<-cp] at hk;exact bB hk
      have bm:∀(W:World) (Yx:Nat->Prop),Ig W ps S' Yx->∀j (hj:j<KS.length),Cb 175 #[FH ps t,Xu (Bt.hd KS[j]:Nat)] W (Xi (Bt.its KS[j]).length):=fun W Yx hst j hj=>by
       have kz:KS[j]∈Bn.ks x':=k7 _ (av hj);have h1:=g8 j hj;have h2:=g9 (j+1);exact ri HM.a.mid.fit b9 c3 (HM.a.mid.B_ _ kz) (HM.a.mid.okN.2.2 _ kz).1 o_ W Yx hst
      have k3:FD wp (.slice A2 m2 c2) (KS.map Bt.hd):=by rw[<-em];exact bx.O.2.2.1
      have ih:=kq3 cp em g8;have e6:=If g9;have nu:=If bm;have nl:=If kj;have eg:=kq2 k3 (show ∀g,(Value.slice A2 m2 c2).ownBlock=some g->Y g from fun g hg=>(bx.O.2.2.2.2 g hg).1);have nb:Hid (∀g,(Value.slice A2 m2 c2).ownBlock=some g->g≠bl):=If fun g hg=>(bx.O.2.2.2.2 g hg).2;have id:=kq2 bx.O.2.1 bx.O.2.2.2.1;have ns:=If k6;have nm:=If gf;clear cp em dp g8 g9 kj bm k3 k4 k6 gf k7;clear x0 x1 y0 y1 y2 y3 a0 a1 a2 a3 b0 b1 b2 b3 f0 f1 f2 f3 h0 h1 h2 h3;have hR:=bx.O.1.br;obtain⟨b0,b1,b2,b3⟩:=Fy hR;obtain⟨h0,h1,h2,h3⟩:=fO hR;clear hR;have ob:IntKind.u64.wrap (nr:Int)=nr:=bM _ o_
      go_upto_region 18 with fail
      go_cut [] from 20 (fun wd=>Hid (eV wp wd ps S' Y bL bR #[.slice (some (y_ bk)) t k1,.slice (some (y_ bv)) t l1,.slice A1 m1 c1,Xu 0] #[.slice (some ⟨bk,t+1,none⟩) nr (k1-(t+1)),.slice (some ⟨bv,t+1,none⟩) nr (l1-(t+1)),.slice A2 m2 c2,Xu nr]))
      case first=>
       as_aux_lemma=>
        go_wp2_with fail
        go_meet
        case rel=>exact If (bx.O.1.setR3 (Xu nr))
      case rest=>
       have hR:=hcut.O.br;clear b0 b1 b2 b3 h0 h1 h2 h3 ob bx;obtain⟨b0,b1,b2,b3⟩:=Fy hR;clear hR;go_wp2_with fail
       go_loopw [21,172] (fun _ s172 wr=>∃j:Nat,j<=m2/\s172=Xi j/\Hid (eV wp wr ps S' Y bL bR #[.slice (some (y_ bk)) t k1,.slice (some (y_ bv)) t l1,.slice A1 m1 c1,Xu 0] #[.slice (some ⟨bk,t+1,none⟩) nr (k1-(t+1)),.slice (some ⟨bv,t+1,none⟩) nr (l1-(t+1)),.slice A2 m2 c2,Xu ((nr:Int)+(su j:Nat))])) (fun _ s172 _=>m2-(intOf s172).toNat)
       case atStart=>exact⟨0,o_,rfl,by rw[ns.O];simpa using hcut⟩
       case round=>
        as_aux_lemma=>
         clear b0 b1 b2 b3 hcut;obtain⟨j,hj,rfl,HR⟩:=hrel
         by_cases hjlt:j<m2
         ·have qe:(j:Int)<m2:=o_
          have gb:j<KS.length:=by have:=nm.O;omega
          have hR:=HR.O.br;have hT:=(HR.O.kp.block _ HC.O.yb.2.1).T HC.O.tree;have el:=FD.at (f:=Bt.hd) (l:=KS) (HR.O.row eg.a eg.b) (ag gb);obtain⟨g2,o2,rfl,dc⟩:=el;obtain⟨hh,bs⟩:=Ii (Bt.hd KS[j]);obtain⟨zj,e3⟩:=Ii (Bt.its KS[j]).length;have bm:=fun W Yx hst=>nu.O W Yx hst j gb;rw[bs,e3] at bm;rw[bs] at dc;have g7:=ih.c j gb;rw[e3] at g7;have ez:=e6.O j;have e0:=e6.O (j+1);have r4:zj<=1000000:=o_
          obtain⟨I,ai,an⟩:=ic fun w'=>w'.1[bR]?=wr.1[bR]?/\w'.1[w.1.size]?=wr.1[w.1.size]?;have au:=fun x:Fq I=>(ai _ x.ok).1.T hR;have a8:=fun x:Fq I=>(ai _ x.ok).2.T hT;obtain⟨r0,r1,r2,r3⟩:=iB au;obtain⟨p0,p1⟩:=mt a8;have bj:I wr.drew:=an _ ⟨rfl,rfl⟩;have rt:IntKind.u64.wrap ((nr:Int)+(su j:Nat)+(zj:Nat))=(nr:Int)+(su j:Nat)+(zj:Nat):=bM _ o_;have l0:IntKind.u64.wrap (zj:Int)=zj:=bM _ o_;unfold FH at bm;have bd:=If an;have np:=If bm;have nq:=kq3 g7 bs e3;clear ai an au a8 hR hT bm g7 bs e3 ez e0;go_wp2_with fail;refine nG I (fun i=>[8].contains i) (.take 0 (.take 1 (.take 2 (.take 3 (.go 4 (.take 5 (.take 6 (.take 7 (.go 8 .nil))))))))) k_ k_ bj ?_
          iterate 4
           refine qT_ ?_
           try simp only[pu]
          refine qD fun K hK=>?_;go_simp;refine(np.O _ _ (HR.O.a_ (aa _ wr).drew).st).M ?_;rintro en w5 ⟨rfl,fm⟩;have C5:=(HR.O.a_ (aa _ wr).drew).a_ fm;have e':I w5:=bd.O _ ⟨fm.block _ HR.O.lt.2,fm.block _ (aF (by have:=HC.O.lt;have:=HC.O.at3;omega) HR.O.kp.size)⟩;have fj:=C5.br;obtain⟨b0,b1,b2,b3⟩:=Fy fj;obtain⟨h0,h1,h2,h3⟩:=fO fj;have nc:=If (C5.setR3 (Xu ((nr:Int)+(su j:Nat)+(zj:Nat))));clear C5 fj
          try go_simp
          refine hK.O _ _ e' ?_;clear hK K
          try simp only[pu]
          iterate 3
           refine qT_ ?_
           try simp only[pu]
          refine qL fun K hK=>?_;go_simp
          try go_simp
          refine hK.O _ _ trivial ?_;clear hK K
          try simp only[pu]
          refine jd ?_;go_wp2_with fail;go_roundw
          case rel=>
           refine⟨j+1,o_,s_,?_⟩;have e1:((nr:Int)+(su (j+1):Nat))=(nr:Int)+(su j:Nat)+(zj:Nat):=by have:=nq.a;omega
           rw[e1];exact nc
          case measure=>simp[intOf];omega
         ·have nz:j=m2:=o_
          subst nz;have qm:¬(j:Int)<j:=o_
          obtain⟨fn,j8⟩:=nl.O;obtain⟨zl,hq⟩:=Ii (Bt.its (Bt.G0 t x')).length;rw[hq] at fn;have o5:=e6.O j;have o':IntKind.u64.wrap ((sz:Int)+1-((nr:Int)+(su j:Nat)))=(zl:Int)+1:=by rw[bM _ o_];omega
          have pa:IntKind.u64.wrap ((zl:Int)+1-1)=zl:=by rw[bM _ o_];omega
          have pb:IntKind.u64.wrap (zl:Int)=zl:=bM _ o_;have e1:((sz+1:Nat):Int)=(sz:Int)+1:=o_
          have e2:((nr+su j:Nat):Int)=(nr:Int)+(su j:Nat):=o_
          have hN:=(HR.O.kp.block _ HC.O.yb.1).T HC.O.box;rw[e1] at hN;have hL:=HR.O.bl;have hR:=HR.O.br;obtain⟨y0,y1,y2,y3⟩:=Fy hN;obtain⟨a0,a1,a2,a3⟩:=Fy hL;obtain⟨f0,f1,f2,f3⟩:=fO hL;obtain⟨b0,b1,b2,b3⟩:=Fy hR;have HZ:=kq5 fn j8 hq e1 e2;clear fn j8 hq e1 e2 hN hL hR o5
          go_upto_region 24 with fail
          go_cut [] from 22 (fun wd=>Hid (eV wp wd ps S' Y bL bR #[.slice (some (y_ bk)) t k1,.slice (some (y_ bv)) t l1,.slice A1 m1 c1,Xu zl] #[.slice (some ⟨bk,t+1,none⟩) nr (k1-(t+1)),.slice (some ⟨bv,t+1,none⟩) nr (l1-(t+1)),.slice A2 j c2,Xu ((nr:Int)+(su j:Nat))]))
          case first=>
           as_aux_lemma=>
            go_wp2_with fail
            go_meet
            case rel=>exact If (HR.O.setL3 (Xu zl))
          case rest=>
           clear y0 y1 y2 y3 a0 a1 a2 a3 f0 f1 f2 f3 b0 b1 b2 b3 o' pa pb HR;have hL:=hcut.O.bl;have hT:=(hcut.O.kp.block _ HC.O.yb.2.1).T HC.O.tree;obtain⟨x0,x1⟩:=Fp hT;obtain⟨a0,a1,a2,a3⟩:=Fy hL;have ep:(Bn.es x').length=2*t:=by have:=HM.c;have:=bf.a;omega
           have hl:∀g,(Value.slice (some (y_ bk)) n k1).ownBlock=some g->Y g:=fun g hg=>HC.O.yk g (ab hg);have ho:∀g,(Value.slice (some (y_ bv)) n l1).ownBlock=some g->Y g:=fun g hg=>HC.O.yk g (ae (ab hg));have ar:=bf.b;have bb:=bf.a;obtain⟨hr,mb,mc⟩:=Bt.leftOf_bn t x';obtain⟨hu,mi,ml,ph⟩:=Bt.rightOf_bn t x' gg;obtain⟨lb,ll,o8,lr,lz,o9⟩:=HM.a.halves b9 ep gg;obtain⟨cx,kq⟩:=HM.a.lts b9 ep gg;obtain⟨p1,p2,p3,p4,p5,p6,p7⟩:=HM.a.putting;have g3:nr=n-(t+1):=o_
           have ms:FD wp (.slice (some (y_ bk)) t k1) (Bt.bn (Bt.G0 t x')).l_:=by rw[hr];exact FD.take HC.O.rows.k.C6 o_
           have m5:FD wp (.slice (some (y_ bv)) t l1) (Bt.bn (Bt.G0 t x')).F_:=by rw[mb];exact FD.take HC.O.rows.v.C6 o_
           have mm:FD wp (.slice A1 m1 c1) (Bt.bn (Bt.G0 t x')).B_:=by rw[mc];exact id.a
           have mv:FD wp (.slice (some ⟨bk,t+1,none⟩) nr (k1-(t+1))) (Bt.bn (Bt.G7 t x' gg)).l_:=by rw[hu,g3];exact FD.drop HC.O.rows.k.C6 o_
           have m6:FD wp (.slice (some ⟨bv,t+1,none⟩) nr (l1-(t+1))) (Bt.bn (Bt.G7 t x' gg)).F_:=by rw[mi,g3];exact FD.drop HC.O.rows.v.C6 o_
           have mr:FD wp (.slice A2 j c2) (Bt.bn (Bt.G7 t x' gg)).B_:=by rw[ml,ih.b];exact eg.a
           have bu:=Jg hcut.O.st p1 (Bt.bnok_of HM.a.mid.fit b9 c3 lr lb) (hcut.O.row ms hl) (hcut.O.row m5 ho) (hcut.O.row mm id.b) (Bn.h x) p3 p2 (kX cx (by rw[hr,aM];omega));have k9:(Bt.bn (Bt.G0 t x')).size=zl:=HZ.c;rw[k9] at bu;unfold eC at bu;have HP:=If bu;have i0:Hid ((∀g,(.slice (some ⟨bk,t+1,none⟩) nr (k1-(t+1)):Value).ownBlock=some g->Y g)/\∀g,(.slice (some ⟨bv,t+1,none⟩) nr (l1-(t+1)):Value).ownBlock=some g->Y g):=If ⟨fun g hg=>HC.O.yk g (ab hg),fun g hg=>HC.O.yk g (ae (ab hg))⟩;have ch:=kq6 mv m6 mr hl ho ep;have ik:=kq4 (Bt.bnok_of HM.a.mid.fit b9 c3 lz ll) (kX (t:=t) kq (by rw[hu,bQ];omega)) ar bb;clear bu k9 ms m5 mm mv m6 mr hl ho ar bb hr mb mc hu mi ml ph lb ll o8 lr lz o9 cx kq p1 p2 p3 p4 p5 p6 p7 g3 hL hT ep;go_wp2_with fail;refine HP.O.M ?_;rintro en w3 ⟨rfl,ea,ds⟩;have C3:=hcut.O.put ea ds;clear x0 x1 a0 a1 a2 a3 HP ea ds hcut;have a':=If C3;clear C3;go_wp2_with fail;obtain⟨wg,ez,e0,g5⟩:=ed.O.2.2.2;have kf:=ed.O.2.2.1;have dn:=HM.a.left_put b9 c3 ch.f kf e0;have kd:=(fL dn.1 dn.2).2.1;have ke:(FC S' (Bn.h x) 0 (z_ t (Bt.bn (Bt.G0 t x')))).len gg=(6*t,0):=by rw[jw dn.1.tab dn.2,g5]
           have jv:bl<w.1.size:=HC.O.zl bl HC.O.zs.1;have nw:=HC.O.rows.k.block (g:=bk) rfl;have nx:=HC.O.rows.v.block (g:=bv) rfl;have jc:L2.length<=1000:=by
            have h1:=HI.j;have h2:=HM.a.sum;rw[h2] at h1;simp only[af] at h1;omega
           have g6:=HC.O.spz;have k5:gz w3.drew bt bl D ps t v' (L2++[gg]):=HC.O.sp.keeps fun k hk=>a'.O.kp.block k (HC.O.zy k (g6 k hk));have j0:∀b,(Value.slice (some ⟨bk,t+1,none⟩) nr (k1-(t+1))).ownBlock=some b->b≠bl:=fun b hb q=>by
            have hb:bk=b:=Option.some.inj hb;omega
           have j2:∀b,(Value.slice (some ⟨bv,t+1,none⟩) nr (l1-(t+1))).ownBlock=some b->b≠bl:=fun b hb q=>by
            have hb:bv=b:=Option.some.inj hb;omega
           have j3:∀b,(Value.slice A2 j c2).ownBlock=some b->b≠bl:=nb.O;have d8:=pZ (n:=Bt.bn (Bt.G7 t x' gg)) (vk:=.slice (some ⟨bk,t+1,none⟩) nr (k1-(t+1))) (vv:=.slice (some ⟨bv,t+1,none⟩) nr (l1-(t+1))) (vc:=.slice A2 j c2) (a'.O.st.a_ (aa _ w3).drew) dn.1.inv k5 (ab (HC.O.zy _ HC.O.zs.1)) (ab (HC.O.zy _ HC.O.zs.2.1)) (fun b hb=>ab (HC.O.zy _ (g6 b (ae (ae hb))))) jc ik.a (a'.O.row ch.a i0.O.1) (a'.O.row ch.b i0.O.2) (a'.O.row ch.c eg.b) j0 j2 j3 kd ke ik.b;have k':(Bt.bn (Bt.G7 t x' gg)).size=nr+su j:=HZ.b;rw[k'] at d8;unfold eC at d8;rw[HZ.e] at d8;have la:t<(Bn.es x').length:=by have:=ch.f;omega
           obtain⟨m,hm⟩:=Ii ((Bn.es x')[t]);have gn:(Bn.es x')[t]?=some m:=by rw[ag la,hm]
           have dd:=FD.at (f:=(·.kh)) (l:=Bn.es x') (a'.O.row HC.O.rows.k.C6 ch.d) gn;have dk:=FD.at (f:=(·.vh)) (l:=Bn.es x') (a'.O.row HC.O.rows.v.C6 ch.e) gn;obtain⟨gk,ok,ek,dd⟩:=dd;obtain⟨gv,ov,ev,dk⟩:=dk
           injection ek with ek
           injection ek with ek1 ek2 _
           subst ek1 ek2
           injection ev with ev
           injection ev with ev1 ev2 _
           subst ev1 ev2;rw[bA] at dd dk;have hN:=(a'.O.kp.block _ HC.O.yb.1).T HC.O.box;rw[HZ.d] at hN;have hT:=(a'.O.kp.block _ HC.O.yb.2.1).T HC.O.tree;have hR:=a'.O.br;have hf:=HC.O.yb;have fk:=HC.O.at3;have fv:=a'.O.ge;have pc:=HC.O.w_.size;have l4:=HC.O.yk bk (ab rfl);have l5:=HC.O.yk bv (ae (ab rfl));obtain⟨I,ai,an⟩:=ic fun w'=>∀k,(Y k\/k=bL\/k=bR)->k≠bl->w'.1[k]?=w3.1[k]?;have au:=fun x:Fq I=>(ai _ x.ok w1.1.size (ab hf.1) o_).T hN;have a8:=fun x:Fq I=>(ai _ x.ok w.1.size (ab hf.2.1) o_).T hT;have l':=fun x:Fq I=>(ai _ x.ok bR (ae (ae rfl)) o_).T hR;obtain⟨r0,r1,r2,r3⟩:=iB au;obtain⟨p0,p1⟩:=mt a8;obtain⟨q0,q1,q2,q3⟩:=iB l';have o1:∀x:Fq I,x.to.cell? (x_ bk t)=some (Xu (m.kh:Nat)):=fun x=>(j9 (ai _ x.ok bk (ab l4) o_)).T dd;have o2:∀x:Fq I,x.to.cell? (x_ bv t)=some (Xu (m.vh:Nat)):=fun x=>(j9 (ai _ x.ok bv (ab l5) o_)).T dk;have bj:I w3.drew:=an _ fun _ _ _=>rfl;have rm:(t:Int)<n:=by have:=HM.c;omega
           have nv:=If d8;have bd:=If an;have nj:=If (HM.a.done b9 c3 ch.f ed.O.1 ed.O.2.1 ez g5 la);have nn:=If hm;have pj:Hid (w.1.size+2≠bl):=If o_;clear ai an au a8 l' d8 kd ke jv nw nx jc g6 k5 j0 j2 j3 k' gn dd dk hN hT hR hf fk fv pc l4 l5 hm ez e0 g5 kf dn;refine nG I (fun i=>[17].contains i) (.take 0 (.take 1 (.take 2 (.take 3 (.take 4 (.take 5 (.take 6 (.take 7 (.take 8 (.take 9 (.take 10 (.take 11 (.take 12 (.take 13 (.take 14 (.go 15 (.take 16 (.go 17 .nil)))))))))))))))))) k_ k_ bj ?_
           iterate 15
            refine qT_ ?_
            try simp only[pu]
           refine qD fun K hK=>?_;go_simp;refine nv.O.M ?_;rintro en w5 ⟨rfl,v5,m',c5,m8,md⟩;have H5:=HC.O.kid (m'.M fun k hk=>ab hk) ((a'.O.kp.M fun k hk=>hk.1).T ⟨c5.os,c5.tape,c5.output,c5.size,fun k hk=>c5.block k ⟨ab hk.1,hk.2⟩⟩) m8 md;have er:=H5.res;have e':I w5:=bd.O _ fun k hk hn=>c5.block k ⟨hk,hn⟩;obtain⟨b0,b1,b2,b3⟩:=Fy er;obtain⟨h0,h1,h2,h3⟩:=fO er;have h':=kq2 H5 er;clear m' c5 m8 H5 er
           try go_simp
           refine hK.O _ _ e' ?_;clear hK K
           try simp only[pu]
           refine qT_ ?_
           try simp only[pu]
           refine qL fun K hK=>?_;go_simp
           try go_simp
           refine hK.O _ _ trivial ?_;clear hK K
           try simp only[pu]
           refine jd ?_;go_wp2_with fail;obtain⟨WF,cq⟩:=Ii ((((w5.setCell (y_ (w.1.size+1+1)) (.bool true)).setCell (x_ (w.1.size+1+1) 1) (Xu (m.kh:Nat))).setCell (x_ (w.1.size+1+1) 2) (Xu (m.vh:Nat))).setCell (x_ (w.1.size+1+1) 3) (Xu (gg:Nat)));rw[cq];have HF:=h'.a.fin h'.b (.bool true) (Xu (m.kh:Nat)) (Xu (m.vh:Nat)) (Xu (gg:Nat)) WF cq.S;clear cq b0 b1 b2 b3 h0 h1 h2 h3;have e4:=HF.2.2.2;obtain⟨a0,a1,a2,a3⟩:=Fy e4;obtain⟨d1,d2,d3⟩:=nj.O;rw[nn.O] at d1;have o6:L=L2++(gg::U):=by have:=HM.a.sum;rw[this];simp
           have oe:=md.T HM.a.held.own;have o7:Ending.returned (.agg #[.bool true,Xu (m.kh:Nat),Xu (m.vh:Nat),Xu (gg:Nat)])=Ending.returned (ky (some (m,gg))):=rfl;exact bodyPost_ret (v:=.agg #[.bool true,Xu (m.kh:Nat),Xu (m.vh:Nat),Xu (gg:Nat)]) (by simp[results,f182,go_sem,a0,a1,a2,a3]) rfl ⟨some (m,gg),o7,_,v5,L2,gg::U,o6,d1,HF.1,HF.2.1,HF.2.2.1,oe,d2,d3⟩