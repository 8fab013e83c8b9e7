/- B-trees: insert: the walk of one node. -/
import Derived.Test.YtpljannolpapgaaGreatDoorRDc
set_option maxRecDepth 100000
set_option maxHeartbeats 40000000
namespace Go.Proofs.YtpljannolpapgaaGreatDoor
open Go.RowKit Tryz Go.BigFrame Go.Maps Go.WideMaps Lf Tr
open Go.Shelf
theorem uU(d:Nat)(rec0:∀d0,d=d0+1->j4 d0):j4 d:=by
 intro w ps S o Z bt bl D t v L x e i h hx g3 hid sp spare fk zb zt zv hL g4 gf hkh hvh ca;have B0:=(c_ w (Xc ps t)).alloc s_ (Xe e.kh e.vh) |>.alloc m_ (.cells #[.bool false,Xu 0,Xu 0,Xu 0] 274)
 have q0:=(c_ w (Xc ps t));have z1:(w.alloc (Xc ps t)).1.size=w.1.size+1:=s_
 have z2:((w.alloc (Xc ps t)).alloc (Xe e.kh e.vh)).1.size=w.1.size+1+1:=s_
 have q1:=heap_alloc_new w (Xc ps t);have q2:=heap_alloc_new (w.alloc (Xc ps t)) (Xe e.kh e.vh);have q3:=heap_alloc_new ((w.alloc (Xc ps t)).alloc (Xe e.kh e.vh)) (.cells #[.bool false,Xu 0,Xu 0,Xu 0] 274);have b2:=(aa (w.alloc (Xc ps t)).1.size (w.alloc (Xc ps t))).alloc Ih (Xe e.kh e.vh);have b3:=(aa ((w.alloc (Xc ps t)).alloc (Xe e.kh e.vh)).1.size ((w.alloc (Xc ps t)).alloc (Xe e.kh e.vh))).alloc Ih (.cells #[.bool false,Xu 0,Xu 0,Xu 0] 274);have q1:=(b3.block w.1.size (by rw[z2];omega)).T ((b2.block w.1.size (by rw[z1];omega)).T q1);rw[z1] at q2;have q2:=(b3.block (w.1.size+1) (by rw[z2];omega)).T q2;rw[z2] at q3;clear b2 b3 q0;have hi:=hx.fit.inv;generalize hW:((w.alloc (Xc ps t)).alloc (Xe e.kh e.vh)).alloc (.cells #[.bool false,Xu 0,Xu 0,Xu 0] 274)=W0 at*;have hz:w.1.size+3<=W0.1.size:=by rw[<-hW];simp
 obtain⟨x0,x1⟩:=Fp q1;have gb:=kI (h.a_ B0) hi hx.read;unfold FH eC at gb;have HG:=kq2 (kq5 B0 q1 q2 q3 hz) gb;have HI:=kq13 h hx g3 sp spare fk zb zt zv hL g4 gf ca;clear z1 z2 q1 q2 q3 hz B0 gb h hx g3 sp spare fk zb zt zv hL g4 gf ca hi;unfold FH Id JB;go_enter func182,ntmps182;go_wp2_with fail;refine HG.b.M ?_;rintro en w1 ⟨vk,vv,vc,rfl,rows,hb⟩;obtain⟨Ak,ck,rfl⟩:=rows.k.E_;obtain⟨Av,cv,rfl⟩:=rows.v.E_;obtain⟨Ac,cc,rfl⟩:=rows.c.E_;have hx:=HI.b;have ar:(Bt.bn x).j_.length=(Bn.es x).length:=by unfold Bt.bn;rw[am]
 have ho:(Bt.bn x).C9.length=(Bn.es x).length:=by unfold Bt.bn;rw[am]
 have cx:(Bt.bn x).A6.length=(Bn.ks x).length:=by unfold Bt.bn;rw[am]
 rw[ar,ho,cx] at rows;rw[ar,ho,cx];obtain⟨i4,i5,px⟩:=hx.es;have bm:=hx.size;generalize la:(Bt.bn x).size=sz at*;generalize k0:(Bn.es x).length=lk at*;generalize er:(Bn.ks x).length=lc at*;have A1:=c_ w1 (.cells #[.slice Ak lk ck,.slice Av lk cv,.slice Ac lc cc,Xu sz] 215);have p1:=heap_alloc_new w1 (.cells #[.slice Ak lk ck,.slice Av lk cv,.slice Ac lc cc,Xu sz] 215);have eb:=rows.a_ A1;have dd:=hb.size;have c3:w1.1.size<(w1.alloc (.cells #[.slice Ak lk ck,.slice Av lk cv,.slice Ac lc cc,Xu sz] 215)).1.size:=s_
 obtain⟨W1,jv⟩:=Ii (w1.alloc (.cells #[.slice Ak lk ck,.slice Av lk cv,.slice Ac lc cc,Xu sz] 215));rw[jv] at A1 p1 eb c3;have B1:=b_ hb A1;have t1:=(B1.block w.1.size (by have:=HG.a.e;omega)).T HG.a.b;have t2:=(B1.block (w.1.size+1) (by have:=HG.a.e;omega)).T HG.a.c;clear x0 x1;obtain⟨x0,x1⟩:=Fp t1;obtain⟨y0,y1,y2,y3⟩:=Fy p1;have c5:=eb.k.C_;have g6:=nR (HI.a.a_ (b_ HG.a.a B1)) hx.fit.inv t (es:=Bn.es x) (vk:=.slice Ak lk ck) (vv:=.slice Av lk cv) (vc:=.slice Ac lc cc) (sz:=sz) c5 o_ i4 i5 e.k;unfold FH eC at g6;have i1:=If g6;have H1:=kq11 B1 p1 eb t1 t2 c3 k0 la bm er dd;clear g6 rows eb hb A1 p1 B1 t1 t2 c5 ar ho cx i4 i5 c3 bm hx hW dd;have qd:((i:Int)==40)=false:=m_
 have qe:¬(i:Int)=40:=o_
 go_wp2_with fail;refine i1.O.M ?_;rintro en w2 ⟨rfl,bq⟩;have p2:=(bq.block w1.1.size H1.f).T H1.b;have t2:=(bq.block w.1.size (by have:=H1.a.size;have:=HG.a.e;omega)).T H1.d;have u2:=(bq.block (w.1.size+1) (by have:=H1.a.size;have:=HG.a.e;omega)).T H1.e;have e7:=H1.c.a_ bq;clear x0 x1 y0 y1 y2 y3;obtain⟨x0,x1⟩:=Fp t2;obtain⟨y0,y1,y2,y3⟩:=Fy p2;obtain⟨z0,z1⟩:=Fp u2;have cn:=kq5 bq p2 t2 u2 e7;clear bq p2 t2 u2 e7 i1 jv;obtain⟨k,hk⟩:∃k,belowB e.k (Bn.es x)=k:=⟨_,rfl⟩;obtain⟨he,kn⟩:=Ii (fo e.k (Bn.es x));rw[hk,kn];have ba:k<=lk:=by rw[<-hk,<-H1.g];exact kH _
 have HK:=If hk;clear hk kn;have j2:eH w ps Z bt bl D t v w1.1.size w2 S (fun k=>Z k\/(w.1.size<=k/\k<w2.1.size)) v L (.slice Ak lk ck) (.slice Av lk cv) (.slice Ac lc cc) sz (Bt.bn x).j_ (Bt.bn x).C9 (Bt.bn x).A6:=by
  obtain⟨⟨B0,q1,q2,q3,hz⟩,_⟩:=HG.O;obtain⟨B1,p1,eb,t1,r4,c3,k0,la,bm,er,dd⟩:=H1.O;obtain⟨bq,p2,t2,u2,e7⟩:=cn.O;obtain⟨h,hx,g3,sp,spare,fk,zb,zt,zv,hL,g4,gf,ca⟩:=HI.O;have s1:=B1.size;have s2:=bq.size;have fb:D_ w w2:=B0.T ((B1.T (bq.M s1)).M o_);have zl:=h.yl;have b4:fN w2 (w.1.size+3) (.slice Ak lk ck) (.slice Av lk cv) (.slice Ac lc cc) (Bt.bn x).j_ (Bt.bn x).C9 (Bt.bn x).A6:=e7.lift o_ fun g _ _=>rfl;refine⟨h.wide fb,fun k hk=>ab hk,zl,⟨zb,zt,zv⟩,(Fo.v_ fb fun k hk=>zl k hk.1),sp.keeps fun k hk=>fb.block k (zl k ?_),rfl,p2,b4,⟨ae ⟨o_,o_⟩,ae ⟨o_,o_⟩,ae ⟨o_,o_⟩⟩,fun g hg=>ae ?_,t2,(bq.block _ o_).T ((B1.block _ o_).T q3),o_⟩
  ·rcases hk with rfl | rfl | hk
   ·exact zt
   ·exact zb
   ·exact zv _ hk
  ·rcases hg with hg | hg | hg
   ·have:=b4.k.block hg;exact⟨o_,this.2.1⟩
   ·have:=b4.v.block hg;exact⟨o_,this.2.1⟩
   ·have:=b4.c.block hg;exact⟨o_,this.2.1⟩
 have HB:=If j2;clear j2
 go_upto_if 45 with fail
 go_cut [] from 18 (fun wc=>∃S' Y v' L' U x' vk vv vc,gQ w ps S o Z bt bl D t v L x e w1.1.size wc S' Y v' L' U x' vk vv vc)
 case first=>
  as_aux_lemma=>
   by_cases hd0:d=0
   ·subst hd0;obtain rfl:lc=0:=by rw[<-H1.j,Bt.G8 (Bn.ks x)];rfl
    go_wp2_with fail;obtain⟨I,ai,an⟩:=ic fun w'=>w'.1[w1.1.size]?=w2.1[w1.1.size]?/\w'.1[w.1.size+1]?=w2.1[w.1.size+1]?;have au:=fun x:Fq I=>(ai _ x.ok).1.T cn.b;have a8:=fun x:Fq I=>(ai _ x.ok).2.T cn.d;obtain⟨m0,m1,m2,m3⟩:=iB au;obtain⟨n0,n1⟩:=mt a8;have bj:I w2.drew:=an _ ⟨rfl,rfl⟩;have d9:∀(w':World) (u1 u2:Value) (m1 m2:List Nat),fD w2 w' (w.1.size+3) ps S (fun k=>Z k\/(w.1.size<=k/\k<w2.1.size)) (.slice Ak lk ck) (.slice Av lk cv) u1 u2 m1 m2->I w':=fun w' u1 u2 m1 m2 T=>an _ ⟨T.w_.block _ ⟨HB.O.lt,HB.O.ne.1,HB.O.ne.2.1⟩,T.w_.block _ ⟨by have:=HB.O.lt;have:=HB.O.at3;omega,fun q=>by have:=(HB.O.rows.k.block q).1;omega,fun q=>by have:=(HB.O.rows.v.block q).1;omega⟩⟩;have ap:=If d9;clear d9;have d5:=If HB.O.two.drew;have HT:Hid (fy<w.1.size+3):=If (by have:=J8 HI.a;omega);have HN:Hid ((Bt.bn x).j_.length=lk/\(Bt.bn x).C9.length=lk):=If ⟨by rw[<-H1.g];unfold Bt.bn;rw[am],by rw[<-H1.g];unfold Bt.bn;rw[am]⟩;have oe:lk<=31:=by rw[<-H1.g];exact HI.b.es.2.2
    clear ai an au a8;refine nG I (fun i=>[15,16,17].contains i) (.take 0 (.take 1 (.take 2 (.take 3 (.take 4 (.take 7 (.take 8 (.take 9 (.take 10 (.take 11 (.two 5 12 (.two 6 12 (.take 14 (.go 12 (.go 13 (.go 15 (.go 16 (.go 17 .nil)))))) (.go 6 (.take 14 (.go 13 (.go 15 (.go 16 (.go 17 .nil))))))) (.go 5 (.go 6 (.take 14 (.go 13 (.go 15 (.go 16 (.go 17 .nil)))))))))))))))))) k_ k_ bj ?_
    iterate 10
     refine qT_ ?_
     try simp only[pu]
    have eg:∀c,(w2.drew.alloc c).1.size=w2.1.size+1:=fun c=>by simp
    refine Jh ?_ ?_
    ·skip
     refine qD fun K hK=>?_;go_simp;obtain⟨T1,x1,cb,ea,s1,b1⟩:=d5.O.one (e.kh)
     try go_simp
     refine hK.O _ _ (ap.O _ _ _ _ _ T1) ?_;clear hK K
     try simp only[pu]
     refine Jh ?_ ?_
     ·skip
      refine qD fun K hK=>?_;go_simp;refine(T1.ins HT.O (by have:=T1.w_.size;have:=HB.O.lt;have:=HB.O.at3;omega) (by rw[HN.O.1];omega) (by rw[HN.O.1];exact ba) x1 cb).M ?_;rintro en w4 ⟨u1,rfl,T2,o2⟩;obtain⟨A2,m2,c2,rfl⟩:=T2.own1.slice
      try go_simp
      refine hK.O _ _ (ap.O _ _ _ _ _ T2) ?_;clear hK K
      try simp only[pu]
      refine qT_ ?_
      try simp only[pu]
      refine qD fun K hK=>?_;go_simp;obtain⟨T3,x3,pi,hw,s3,b3⟩:=T2.one (e.vh)
      try go_simp
      refine hK.O _ _ (ap.O _ _ _ _ _ T3) ?_;clear hK K
      try simp only[pu]
      refine qD fun K hK=>?_;go_simp;refine(T3.swap.ins HT.O (by have:=T3.w_.size;have:=HB.O.lt;have:=HB.O.at3;omega) (by rw[HN.O.2];omega) (by rw[HN.O.2];exact ba) x3 hw).M ?_;rintro en w6 ⟨u2,rfl,T4,o4⟩;obtain⟨A4,m4,c4,rfl⟩:=T4.own1.slice;have T5:=T4.swap
      try go_simp
      refine hK.O _ _ (ap.O _ _ _ _ _ T5) ?_;clear hK K
      try simp only[pu]
      obtain⟨g0,g1,g2⟩:=HB.O.grow T5;have f0:w6.frozen? (y_ w1.1.size)=false:=AT g0;have d0:w6.cell? (y_ w1.1.size)=some (.slice Ak lk ck):=e_ g0
      have f1:(w6.setCell (y_ w1.1.size) (.slice A2 m2 c2)).frozen? (x_ w1.1.size 1)=false:=AT g1;have d1:(w6.setCell (y_ w1.1.size) (.slice A2 m2 c2)).cell? (x_ w1.1.size 1)=some (.slice Av lk cv):=e_ g1
      have a9:=If g2;clear g0 g1 g2;refine qL fun K hK=>?_;go_simp
      try go_simp
      refine hK.O _ _ trivial ?_;clear hK K
      try simp only[pu]
      refine qL fun K hK=>?_;go_simp
      try go_simp
      refine hK.O _ _ trivial ?_;clear hK K
      try simp only[pu]
      refine qL fun K hK=>?_;go_simp
      try go_simp
      refine hK.O _ _ trivial ?_;clear hK K
      try simp only[pu]
      refine jd ?_;go_wp2_with fail
      go_meet
      case rel=>exact⟨S,_,v,L,[],Bt.leafPut x e,_,_,_,rJ HI.b HI.c HI.l hkh hvh HK.O H1.i.1 a9.O⟩
     ·skip
      refine qD fun K hK=>?_;go_simp;obtain⟨T2,x2,bo,ch,s2,b2⟩:=T1.one (e.vh);rw[eg] at x2 bo ch s2;have c':=(b2.block _ s1).T x1
      try go_simp
      refine hK.O _ _ (ap.O _ _ _ _ _ T2) ?_;clear hK K
      try simp only[pu]
      refine qD fun K hK=>?_;go_simp;refine(T2.ins HT.O (by have:=T2.w_.size;have:=HB.O.lt;have:=HB.O.at3;omega) (by rw[HN.O.1];omega) (by rw[HN.O.1];exact ba) c' cb).M ?_;rintro en w5 ⟨u1,rfl,T3,o3⟩;have ib:=(o3 _ s2 bo).T x2;obtain⟨A2,m2,c2,rfl⟩:=T3.own1.slice
      try go_simp
      refine hK.O _ _ (ap.O _ _ _ _ _ T3) ?_;clear hK K
      try simp only[pu]
      refine qT_ ?_
      try simp only[pu]
      refine qD fun K hK=>?_;go_simp;refine(T3.swap.ins HT.O (by have:=T3.w_.size;have:=HB.O.lt;have:=HB.O.at3;omega) (by rw[HN.O.2];omega) (by rw[HN.O.2];exact ba) ib ch).M ?_;rintro en w6 ⟨u2,rfl,T4,o4⟩;obtain⟨A4,m4,c4,rfl⟩:=T4.own1.slice;have T5:=T4.swap
      try go_simp
      refine hK.O _ _ (ap.O _ _ _ _ _ T5) ?_;clear hK K
      try simp only[pu]
      obtain⟨g0,g1,g2⟩:=HB.O.grow T5;have f0:w6.frozen? (y_ w1.1.size)=false:=AT g0;have d0:w6.cell? (y_ w1.1.size)=some (.slice Ak lk ck):=e_ g0
      have f1:(w6.setCell (y_ w1.1.size) (.slice A2 m2 c2)).frozen? (x_ w1.1.size 1)=false:=AT g1;have d1:(w6.setCell (y_ w1.1.size) (.slice A2 m2 c2)).cell? (x_ w1.1.size 1)=some (.slice Av lk cv):=e_ g1
      have a9:=If g2;clear g0 g1 g2;refine qL fun K hK=>?_;go_simp
      try go_simp
      refine hK.O _ _ trivial ?_;clear hK K
      try simp only[pu]
      refine qL fun K hK=>?_;go_simp
      try go_simp
      refine hK.O _ _ trivial ?_;clear hK K
      try simp only[pu]
      refine qL fun K hK=>?_;go_simp
      try go_simp
      refine hK.O _ _ trivial ?_;clear hK K
      try simp only[pu]
      refine jd ?_;go_wp2_with fail
      go_meet
      case rel=>exact⟨S,_,v,L,[],Bt.leafPut x e,_,_,_,rJ HI.b HI.c HI.l hkh hvh HK.O H1.i.1 a9.O⟩
    ·skip
     refine qD fun K hK=>?_;go_simp;obtain⟨T1,x1,cb,ea,s1,b1⟩:=d5.O.one (e.vh)
     try go_simp
     refine hK.O _ _ (ap.O _ _ _ _ _ T1) ?_;clear hK K
     try simp only[pu]
     refine qD fun K hK=>?_;go_simp;obtain⟨T2,x2,bo,ch,s2,b2⟩:=T1.one (e.kh);rw[eg] at x2 bo ch;have c':=(b2.block _ s1).T x1
     try go_simp
     refine hK.O _ _ (ap.O _ _ _ _ _ T2) ?_;clear hK K
     try simp only[pu]
     refine qD fun K hK=>?_;go_simp;refine(T2.ins HT.O (by have:=T2.w_.size;have:=HB.O.lt;have:=HB.O.at3;omega) (by rw[HN.O.1];omega) (by rw[HN.O.1];exact ba) x2 bo).M ?_;rintro en w5 ⟨u1,rfl,T3,o3⟩;have h':=(o3 _ (Nat.lt_trans s1 s2) cb).T c';obtain⟨A2,m2,c2,rfl⟩:=T3.own1.slice
     try go_simp
     refine hK.O _ _ (ap.O _ _ _ _ _ T3) ?_;clear hK K
     try simp only[pu]
     refine qT_ ?_
     try simp only[pu]
     refine qD fun K hK=>?_;go_simp;refine(T3.swap.ins HT.O (by have:=T3.w_.size;have:=HB.O.lt;have:=HB.O.at3;omega) (by rw[HN.O.2];omega) (by rw[HN.O.2];exact ba) h' ea).M ?_;rintro en w6 ⟨u2,rfl,T4,o4⟩;obtain⟨A4,m4,c4,rfl⟩:=T4.own1.slice;have T5:=T4.swap
     try go_simp
     refine hK.O _ _ (ap.O _ _ _ _ _ T5) ?_;clear hK K
     try simp only[pu]
     obtain⟨g0,g1,g2⟩:=HB.O.grow T5;have f0:w6.frozen? (y_ w1.1.size)=false:=AT g0;have d0:w6.cell? (y_ w1.1.size)=some (.slice Ak lk ck):=e_ g0
     have f1:(w6.setCell (y_ w1.1.size) (.slice A2 m2 c2)).frozen? (x_ w1.1.size 1)=false:=AT g1;have d1:(w6.setCell (y_ w1.1.size) (.slice A2 m2 c2)).cell? (x_ w1.1.size 1)=some (.slice Av lk cv):=e_ g1
     have a9:=If g2;clear g0 g1 g2;refine qL fun K hK=>?_;go_simp
     try go_simp
     refine hK.O _ _ trivial ?_;clear hK K
     try simp only[pu]
     refine qL fun K hK=>?_;go_simp
     try go_simp
     refine hK.O _ _ trivial ?_;clear hK K
     try simp only[pu]
     refine qL fun K hK=>?_;go_simp
     try go_simp
     refine hK.O _ _ trivial ?_;clear hK K
     try simp only[pu]
     refine jd ?_;go_wp2_with fail
     go_meet
     case rel=>exact⟨S,_,v,L,[],Bt.leafPut x e,_,_,_,rJ HI.b HI.c HI.l hkh hvh HK.O H1.i.1 a9.O⟩
   ·obtain⟨d,rfl⟩:∃d0,d=d0+1:=⟨d-1,o_⟩;have ou:j4 d:=rec0 d rfl;have er:lc=lk+1:=by rw[<-H1.j,<-H1.g];exact HI.b.ok.A6
    have qj:((lc:Int)==0)=false:=m_
    have ql:¬(lc:Int)=0:=o_
    have ar:=HI.b.kid_lt HK.O;have d8:=fun(Y1:Nat->Prop) (W:World) Hd=>BG (Y1:=Y1) (wc:=W) (ps:=ps) (Z:=Z) (bt:=bt) (bl:=bl) (D:=D) (v:=v) (bN:=w1.1.size) (w:=w) (vk:=.slice Ak lk ck) (vv:=.slice Av lk cv) (vc:=.slice Ac lc cc) (sz:=sz) (ks:=(Bt.bn x).j_) (vs:=(Bt.bn x).C9) (cs:=(Bt.bn x).A6) ou HI.b HI.c hid HI.e HI.f HI.j HI.k HI.l hkh hvh HI.m HK.O ar Hd;obtain⟨y,hy⟩:=Ii ((Bn.ks x)[k]);rw[hy] at d8;have eo:=FD.at (f:=Bt.hd) (l:=Bn.ks x) (k:=k) HB.O.rows.c.C_ (af ar);rw[hy] at eo;obtain⟨gc,oc,rfl,dk⟩:=eo;have ke:=HB.O.rows.c.block (g:=gc) rfl;have kf:w.1.size<=gc/\gc<w2.1.size:=⟨o_,ke.2.1⟩;clear ke;obtain⟨hh,bs⟩:=Ii (Bt.hd y);rw[bs] at d8 dk;have qi:(k:Int)<lc:=by have:=H1.j;omega
    unfold FH Id JB at d8;have HC:=If d8;have HY:=kq2 hy bs;clear d8 hy bs er
    go_upto_region 7 with fail
    go_cut [17] from 18 (fun s17 wc=>∃b,s17=.pointer (some (y_ b))/\Hid (∃r S4 Y4 v4 L4 U,jp w ps S o Z bt bl D t v L y e w1.1.size (.slice Ak lk ck) (.slice Av lk cv) (.slice (some (x_ gc oc)) lc cc) sz (Bt.bn x).j_ (Bt.bn x).C9 (Bt.bn x).A6 b wc r S4 Y4 v4 L4 U))
    case first=>
     as_aux_lemma=>
      obtain⟨I,ai,an⟩:=ic fun w'=>∀k,w.1.size<=k->k<w2.1.size->w'.1[k]?=w2.1[k]?;have hlt:=HB.O.lt;have h3:=HB.O.at3;have mc:=fun x:Fq I=>(ai _ x.ok w.1.size o_ o_).T cn.c;have au:=fun x:Fq I=>(ai _ x.ok w1.1.size o_ o_).T cn.b;have a8:=fun x:Fq I=>(ai _ x.ok (w.1.size+1) o_ o_).T cn.d;obtain⟨p0,p1⟩:=mt mc;obtain⟨m0,m1,m2,m3⟩:=iB au;obtain⟨n0,n1⟩:=mt a8;have o0:∀x:Fq I,x.to.cell? ⟨gc,oc+k,none⟩=some (Xu hh):=fun x=>(j9 (ai _ x.ok gc kf.1 kf.2)).T dk;have bj:I w2.drew:=an _ fun _ _ _=>rfl;have bd:=If an;have rr:IntKind.i64.wrap ((i:Int)+1)=(i:Int)+1:=ax _ o_;have p9:bl<w.1.size:=HB.O.zl bl HB.O.zs.1;clear ai an mc au a8 hlt h3;refine nG I (fun i=>[13].contains i) (.take 0 (.take 1 (.take 2 (.take 3 (.take 4 (.take 5 (.take 6 (.take 7 (.take 8 (.take 9 (.take 10 (.two 11 12 (.go 12 (.go 13 .nil)) (.go 11 (.go 13 .nil)))))))))))))) k_ k_ bj ?_
      iterate 11
       refine qT_ ?_
       try simp only[pu]
      refine Jh ?_ ?_
      ·skip
       refine qD fun K hK=>?_;go_simp;refine(HC.O _ _ (HB.O.a_ (aa _ w2).drew)).M ?_;rintro en w4 ⟨r,S4,v4,L4,U,rfl,h4⟩;have H4:=If h4;clear h4;have hl:=H4.O.2.2.2.2.2.size;have d7:∀k,w.1.size<=k->k<w2.1.size->w4.1[k]?=w2.1[k]?:=fun k h1 h2=>H4.O.2.2.2.2.2.block k ⟨ab (ae ⟨h1,h2⟩),o_⟩;have cp:=If d7;clear d7
       rcases r with _ | ⟨m,g⟩
       ·dsimp only[ky,iQ]
        try go_simp
        refine hK.O _ _ (bd.O _ cp.O) ?_;clear hK K
        try simp only[pu]
        refine qD fun K hK=>?_;go_simp
        try go_simp
        refine hK.O _ _ (bd.O _ fun k h1 h2=>((aa _ w4).alloc Ih _ |>.block k (aB h2 hl)).T (cp.O k h1 h2)) ?_;clear hK K
        try simp only[pu]
        refine qL fun K hK=>?_;go_simp
        try go_simp
        refine hK.O _ _ trivial ?_;clear hK K
        try simp only[pu]
        refine jd ?_;go_wp2_with fail
        go_meet
        case rel=>exact⟨_,rfl,If ⟨_,_,_,_,_,_,jp.new H4.O⟩⟩
       ·dsimp only[ky,iQ]
        try go_simp
        refine hK.O _ _ (bd.O _ cp.O) ?_;clear hK K
        try simp only[pu]
        refine qD fun K hK=>?_;go_simp
        try go_simp
        refine hK.O _ _ (bd.O _ fun k h1 h2=>((aa _ w4).alloc Ih _ |>.block k (aB h2 hl)).T (cp.O k h1 h2)) ?_;clear hK K
        try simp only[pu]
        refine qL fun K hK=>?_;go_simp
        try go_simp
        refine hK.O _ _ trivial ?_;clear hK K
        try simp only[pu]
        refine jd ?_;go_wp2_with fail
        go_meet
        case rel=>exact⟨_,rfl,If ⟨_,_,_,_,_,_,jp.new H4.O⟩⟩
      ·skip
       refine qD fun K hK=>?_;go_simp;have b3:=((aa w2.1.size w2).drew).alloc Ih (.cells #[.bool false,Xu 0,Xu 0,Xu 0] 274)
       try go_simp
       refine hK.O _ _ (bd.O _ fun k h1 h2=>b3.block k h2) ?_;clear hK K
       try simp only[pu]
       refine qD fun K hK=>?_;go_simp;refine(HC.O _ _ (HB.O.a_ b3)).M ?_;rintro en w4 ⟨r,S4,v4,L4,U,rfl,h4⟩;have H4:=If h4;clear h4;have hl:=H4.O.2.2.2.2.2.size;have d7:∀k,w.1.size<=k->k<w2.1.size->w4.1[k]?=w2.1[k]?:=fun k h1 h2=>(H4.O.2.2.2.2.2.block k ⟨ab (ae ⟨h1,h2⟩),o_⟩).T (b3.block k h2);have e4:w4.1[w2.1.size]?=some (.cells #[.bool false,Xu 0,Xu 0,Xu 0] 274 (0,0)):=(H4.O.2.2.2.2.2.block w2.1.size ⟨ae ⟨Nat.le_refl _,s_⟩,by have:=HB.O.lt;have:=HB.O.at3;omega⟩).T (heap_alloc_new w2.drew _);have cp:=If d7;clear d7;obtain⟨x0,x1,x2,x3⟩:=Fy e4;obtain⟨f0,f1,f2,f3⟩:=fO e4;have id:=If e4;clear e4
       rcases r with _ | ⟨m,g⟩
       ·dsimp only[ky,iQ]
        try go_simp
        refine hK.O _ _ (bd.O _ cp.O) ?_;clear hK K
        try simp only[pu]
        refine qL fun K hK=>?_;go_simp
        try go_simp
        refine hK.O _ _ trivial ?_;clear hK K
        try simp only[pu]
        refine jd ?_;go_wp2_with fail
        go_meet
        case rel=>exact⟨_,rfl,If ⟨_,_,_,_,_,_,jp.set H4.O (ae ⟨Nat.le_refl _,s_⟩) (by have:=HB.O.lt;have:=HB.O.at3;omega) id.O rfl⟩⟩
       ·dsimp only[ky,iQ]
        try go_simp
        refine hK.O _ _ (bd.O _ cp.O) ?_;clear hK K
        try simp only[pu]
        refine qL fun K hK=>?_;go_simp
        try go_simp
        refine hK.O _ _ trivial ?_;clear hK K
        try simp only[pu]
        refine jd ?_;go_wp2_with fail
        go_meet
        case rel=>exact⟨_,rfl,If ⟨_,_,_,_,_,_,jp.set H4.O (ae ⟨Nat.le_refl _,s_⟩) (by have:=HB.O.lt;have:=HB.O.at3;omega) id.O rfl⟩⟩
    case rest=>
     obtain⟨b,rfl,HU⟩:=hcut;obtain⟨r,S4,Y4,v4,L4,U,U1⟩:=HU.O;clear HU cn HC x0 x1 y0 y1 y2 y3 z0 z1 dk
     rcases r with _ | ⟨m,g⟩
     ·have up:=U1.up;unfold iQ at up
      dsimp only at up
      obtain⟨x0,x1,x2,x3⟩:=Fy up;have ad:=If U1;clear up U1;go_wp2_with fail
      go_meet
      case rel=>
       obtain⟨hy,bs⟩:=HY.O;have U1:=ad.O;subst hy;obtain⟨x',M⟩:=Db HI.b HI.c HI.l hkh hvh HI.f HK.O ar H1.i.1 U1.sum U1.put U1.num U1.all U1.held;exact⟨_,_,_,_,_,x',_,_,_,M⟩
     ·have up:=U1.up;unfold iQ at up
      dsimp only at up
      obtain⟨x0,x1,x2,x3⟩:=Fy up;have i2:=If up;have ad:=If U1;clear up U1
      go_upto_region 9 with fail
      go_cut [] from 18 (fun wd=>Hid (wd.1[b]?=some (.cells #[.bool true,Xu m.kh,Xu m.vh,Xu g] 274 (0,0))/\∃Y5 A2 m2 c2 A4 m4 c4,eH w ps Z bt bl D t v w1.1.size wd S4 Y5 v4 L4 (.slice A2 m2 c2) (.slice A4 m4 c4) (.slice (some (x_ gc oc)) lc cc) sz ((Bt.bn x).j_.take k++m.kh::(Bt.bn x).j_.drop k) ((Bt.bn x).C9.take k++m.vh::(Bt.bn x).C9.drop k) (Bt.bn x).A6))
      case first=>
       as_aux_lemma=>
        obtain⟨I,ai,an⟩:=ic fun w'=>w'.1[w1.1.size]?=wc.1[w1.1.size]?/\w'.1[b]?=wc.1[b]?;have au:=fun x:Fq I=>(ai _ x.ok).1.T ad.O.held.box;have a8:=fun x:Fq I=>(ai _ x.ok).2.T i2.O;obtain⟨m0,m1,m2,m3⟩:=iB au;obtain⟨n0,n1,n2,n3⟩:=iB a8;have bj:I wc.drew:=an _ ⟨rfl,rfl⟩;have d9:∀(w':World) (u1 u2:Value) (l1 l2:List Nat),fD wc w' (w.1.size+3) ps S4 Y4 (.slice Ak lk ck) (.slice Av lk cv) u1 u2 l1 l2->I w':=fun w' u1 u2 l1 l2 T=>an _ ⟨T.w_.block _ ⟨ad.O.held.lt,ad.O.held.ne.1,ad.O.held.ne.2.1⟩,T.w_.block _ ⟨ad.O.ne.1,ad.O.ne.2.1,ad.O.ne.2.2.1⟩⟩;have ap:=If d9;have e':Hid (∀(w':World) (u1 u2:Value) (l1 l2:List Nat),fD wc w' (w.1.size+3) ps S4 Y4 (.slice Ak lk ck) (.slice Av lk cv) u1 u2 l1 l2->∀z1 z2,((w'.setCell (y_ w1.1.size) z1).setCell (x_ w1.1.size 1) z2).1[b]?=some (.cells #[.bool true,Xu m.kh,Xu m.vh,Xu g] 274 (0,0))):=If fun w' u1 u2 l1 l2 T z1 z2=>((FB ad.O.ne.2.2.2.2).T (FB ad.O.ne.2.2.2.2)).T ((T.w_.block _ ⟨ad.O.ne.1,ad.O.ne.2.1,ad.O.ne.2.2.1⟩).T i2.O);have d5:=If ad.O.held.two.drew;have HT:Hid (fy<w.1.size+3):=If (by have:=J8 HI.a;omega);have HN:Hid ((Bt.bn x).j_.length=lk/\(Bt.bn x).C9.length=lk):=If ⟨by rw[<-H1.g];unfold Bt.bn;rw[am],by rw[<-H1.g];unfold Bt.bn;rw[am]⟩;have oe:lk<=31:=by rw[<-H1.g];exact HI.b.es.2.2
        clear ai an au a8 d9;refine nG I (fun i=>[17,18,19].contains i) (.take 0 (.take 1 (.take 2 (.take 3 (.take 4 (.take 5 (.take 8 (.take 9 (.take 10 (.take 11 (.take 12 (.take 13 (.two 6 14 (.two 7 14 (.take 16 (.go 14 (.go 15 (.go 17 (.go 18 (.go 19 .nil)))))) (.go 7 (.take 16 (.go 15 (.go 17 (.go 18 (.go 19 .nil))))))) (.go 6 (.go 7 (.take 16 (.go 15 (.go 17 (.go 18 (.go 19 .nil)))))))))))))))))))) k_ k_ bj ?_
        iterate 12
         refine qT_ ?_
         try simp only[pu]
        have eg:∀c,(wc.drew.alloc c).1.size=wc.1.size+1:=fun c=>by simp
        refine Jh ?_ ?_
        ·skip
         refine qD fun K hK=>?_;go_simp;obtain⟨T1,x1,cb,ea,s1,b1⟩:=d5.O.one (m.kh)
         try go_simp
         refine hK.O _ _ (ap.O _ _ _ _ _ T1) ?_;clear hK K
         try simp only[pu]
         refine Jh ?_ ?_
         ·skip
          refine qD fun K hK=>?_;go_simp;refine(T1.ins HT.O (by have:=T1.w_.size;have:=ad.O.held.lt;have:=ad.O.held.at3;omega) (by rw[HN.O.1];omega) (by rw[HN.O.1];exact ba) x1 cb).M ?_;rintro en w4 ⟨u1,rfl,T2,o2⟩;obtain⟨A2,m2,c2,rfl⟩:=T2.own1.slice
          try go_simp
          refine hK.O _ _ (ap.O _ _ _ _ _ T2) ?_;clear hK K
          try simp only[pu]
          refine qT_ ?_
          try simp only[pu]
          refine qD fun K hK=>?_;go_simp;obtain⟨T3,x3,pi,hw,s3,b3⟩:=T2.one (m.vh)
          try go_simp
          refine hK.O _ _ (ap.O _ _ _ _ _ T3) ?_;clear hK K
          try simp only[pu]
          refine qD fun K hK=>?_;go_simp;refine(T3.swap.ins HT.O (by have:=T3.w_.size;have:=ad.O.held.lt;have:=ad.O.held.at3;omega) (by rw[HN.O.2];omega) (by rw[HN.O.2];exact ba) x3 hw).M ?_;rintro en w6 ⟨u2,rfl,T4,o4⟩;obtain⟨A4,m4,c4,rfl⟩:=T4.own1.slice;have T5:=T4.swap
          try go_simp
          refine hK.O _ _ (ap.O _ _ _ _ _ T5) ?_;clear hK K
          try simp only[pu]
          obtain⟨g0,g1,g2⟩:=ad.O.held.grow T5;have f0:w6.frozen? (y_ w1.1.size)=false:=AT g0;have d0:w6.cell? (y_ w1.1.size)=some (.slice Ak lk ck):=e_ g0
          have f1:(w6.setCell (y_ w1.1.size) (.slice A2 m2 c2)).frozen? (x_ w1.1.size 1)=false:=AT g1;have d1:(w6.setCell (y_ w1.1.size) (.slice A2 m2 c2)).cell? (x_ w1.1.size 1)=some (.slice Av lk cv):=e_ g1
          have a9:=If g2;have d6:=If (e'.O _ _ _ _ _ T5 (.slice A2 m2 c2) (.slice A4 m4 c4));clear g0 g1 g2;refine qL fun K hK=>?_;go_simp
          try go_simp
          refine hK.O _ _ trivial ?_;clear hK K
          try simp only[pu]
          refine qL fun K hK=>?_;go_simp
          try go_simp
          refine hK.O _ _ trivial ?_;clear hK K
          try simp only[pu]
          refine qL fun K hK=>?_;go_simp
          try go_simp
          refine hK.O _ _ trivial ?_;clear hK K
          try simp only[pu]
          refine jd ?_;go_wp2_with fail
          go_meet
          case rel=>exact If ⟨d6.O,_,A2,m2,c2,A4,m4,c4,a9.O⟩
         ·skip
          refine qD fun K hK=>?_;go_simp;obtain⟨T2,x2,bo,ch,s2,b2⟩:=T1.one (m.vh);rw[eg] at x2 bo ch s2;have c':=(b2.block _ s1).T x1
          try go_simp
          refine hK.O _ _ (ap.O _ _ _ _ _ T2) ?_;clear hK K
          try simp only[pu]
          refine qD fun K hK=>?_;go_simp;refine(T2.ins HT.O (by have:=T2.w_.size;have:=ad.O.held.lt;have:=ad.O.held.at3;omega) (by rw[HN.O.1];omega) (by rw[HN.O.1];exact ba) c' cb).M ?_;rintro en w5 ⟨u1,rfl,T3,o3⟩;have ib:=(o3 _ s2 bo).T x2;obtain⟨A2,m2,c2,rfl⟩:=T3.own1.slice
          try go_simp
          refine hK.O _ _ (ap.O _ _ _ _ _ T3) ?_;clear hK K
          try simp only[pu]
          refine qT_ ?_
          try simp only[pu]
          refine qD fun K hK=>?_;go_simp;refine(T3.swap.ins HT.O (by have:=T3.w_.size;have:=ad.O.held.lt;have:=ad.O.held.at3;omega) (by rw[HN.O.2];omega) (by rw[HN.O.2];exact ba) ib ch).M ?_;rintro en w6 ⟨u2,rfl,T4,o4⟩;obtain⟨A4,m4,c4,rfl⟩:=T4.own1.slice;have T5:=T4.swap
          try go_simp
          refine hK.O _ _ (ap.O _ _ _ _ _ T5) ?_;clear hK K
          try simp only[pu]
          obtain⟨g0,g1,g2⟩:=ad.O.held.grow T5;have f0:w6.frozen? (y_ w1.1.size)=false:=AT g0;have d0:w6.cell? (y_ w1.1.size)=some (.slice Ak lk ck):=e_ g0
          have f1:(w6.setCell (y_ w1.1.size) (.slice A2 m2 c2)).frozen? (x_ w1.1.size 1)=false:=AT g1;have d1:(w6.setCell (y_ w1.1.size) (.slice A2 m2 c2)).cell? (x_ w1.1.size 1)=some (.slice Av lk cv):=e_ g1
          have a9:=If g2;have d6:=If (e'.O _ _ _ _ _ T5 (.slice A2 m2 c2) (.slice A4 m4 c4));clear g0 g1 g2;refine qL fun K hK=>?_;go_simp
          try go_simp
          refine hK.O _ _ trivial ?_;clear hK K
          try simp only[pu]
          refine qL fun K hK=>?_;go_simp
          try go_simp
          refine hK.O _ _ trivial ?_;clear hK K
          try simp only[pu]
          refine qL fun K hK=>?_;go_simp
          try go_simp
          refine hK.O _ _ trivial ?_;clear hK K
          try simp only[pu]
          refine jd ?_;go_wp2_with fail
          go_meet
          case rel=>exact If ⟨d6.O,_,A2,m2,c2,A4,m4,c4,a9.O⟩
        ·skip
         refine qD fun K hK=>?_;go_simp;obtain⟨T1,x1,cb,ea,s1,b1⟩:=d5.O.one (m.vh)
         try go_simp
         refine hK.O _ _ (ap.O _ _ _ _ _ T1) ?_;clear hK K
         try simp only[pu]
         refine qD fun K hK=>?_;go_simp;obtain⟨T2,x2,bo,ch,s2,b2⟩:=T1.one (m.kh);rw[eg] at x2 bo ch;have c':=(b2.block _ s1).T x1
         try go_simp
         refine hK.O _ _ (ap.O _ _ _ _ _ T2) ?_;clear hK K
         try simp only[pu]
         refine qD fun K hK=>?_;go_simp;refine(T2.ins HT.O (by have:=T2.w_.size;have:=ad.O.held.lt;have:=ad.O.held.at3;omega) (by rw[HN.O.1];omega) (by rw[HN.O.1];exact ba) x2 bo).M ?_;rintro en w5 ⟨u1,rfl,T3,o3⟩;have h':=(o3 _ (Nat.lt_trans s1 s2) cb).T c';obtain⟨A2,m2,c2,rfl⟩:=T3.own1.slice
         try go_simp
         refine hK.O _ _ (ap.O _ _ _ _ _ T3) ?_;clear hK K
         try simp only[pu]
         refine qT_ ?_
         try simp only[pu]
         refine qD fun K hK=>?_;go_simp;refine(T3.swap.ins HT.O (by have:=T3.w_.size;have:=ad.O.held.lt;have:=ad.O.held.at3;omega) (by rw[HN.O.2];omega) (by rw[HN.O.2];exact ba) h' ea).M ?_;rintro en w6 ⟨u2,rfl,T4,o4⟩;obtain⟨A4,m4,c4,rfl⟩:=T4.own1.slice;have T5:=T4.swap
         try go_simp
         refine hK.O _ _ (ap.O _ _ _ _ _ T5) ?_;clear hK K
         try simp only[pu]
         obtain⟨g0,g1,g2⟩:=ad.O.held.grow T5;have f0:w6.frozen? (y_ w1.1.size)=false:=AT g0;have d0:w6.cell? (y_ w1.1.size)=some (.slice Ak lk ck):=e_ g0
         have f1:(w6.setCell (y_ w1.1.size) (.slice A2 m2 c2)).frozen? (x_ w1.1.size 1)=false:=AT g1;have d1:(w6.setCell (y_ w1.1.size) (.slice A2 m2 c2)).cell? (x_ w1.1.size 1)=some (.slice Av lk cv):=e_ g1
         have a9:=If g2;have d6:=If (e'.O _ _ _ _ _ T5 (.slice A2 m2 c2) (.slice A4 m4 c4));clear g0 g1 g2;refine qL fun K hK=>?_;go_simp
         try go_simp
         refine hK.O _ _ trivial ?_;clear hK K
         try simp only[pu]
         refine qL fun K hK=>?_;go_simp
         try go_simp
         refine hK.O _ _ trivial ?_;clear hK K
         try simp only[pu]
         refine qL fun K hK=>?_;go_simp
         try go_simp
         refine hK.O _ _ trivial ?_;clear hK K
         try simp only[pu]
         refine jd ?_;go_wp2_with fail
         go_meet
         case rel=>exact If ⟨d6.O,_,A2,m2,c2,A4,m4,c4,a9.O⟩
      case rest=>
       obtain⟨up,Y5,A2,m2,c2,A4,m4,c4,H5⟩:=hcut.O;clear hcut x0 x1 x2 x3;have i6:=H5.box;obtain⟨x0,x1,x2,x3⟩:=Fy up;obtain⟨y0,y1,y2,y3⟩:=Fy i6;have b6:=(aa _ wc).alloc Ih (Xf g);have H6:=H5.a_ b6;have x6:=heap_alloc_new wc (Xf g);have n6:(Value.slice (some (x_ gc oc)) lc cc).ownBlock≠some wc.1.size:=fun q=>by have:=(H5.rows.c.block q).2.1;omega
       have n8:(Bt.bn x).A6.length=lc:=by rw[<-H1.j];unfold Bt.bn;rw[am]
       have ob:lc<=32:=by
        have h1:=HI.b.es.2.2;have h2:=HI.b.ok.A6;have h3:=H1.j;omega
       have cx:=uT H6.st H6.rows.c (fun g hg=>H6.yk g (ae (ae hg))) (by have:=J8 HI.a;omega) o_ (i:=k+1) o_ x6 n6 (by have:=H6.lt;have:=H6.at3;omega);have e1:((k+1:Nat):Int)=(k:Int)+1:=o_
       rw[e1] at cx;have rt:IntKind.i64.wrap ((k:Int)+1)=(k:Int)+1:=ax _ o_;have nm:=If cx;have nf:=If H6;have pk:=If up;clear cx H6 H5 i6 up x6 n6 n8 ob e1 b6;go_wp2_with fail;refine nm.O.M ?_;rintro en w7 ⟨u3,rfl,I7⟩;obtain⟨A7,m7,c7,rfl⟩:=I7.own.slice;obtain⟨g0,g2⟩:=nf.O.grow3 I7;have f2:w7.frozen? (x_ w1.1.size 2)=false:=AT g0;have d2:w7.cell? (x_ w1.1.size 2)=some (.slice (some (x_ gc oc)) lc cc):=e_ g0
       have a9:=If g2;clear g0 g2 I7 x0 x1 x2 x3 y0 y1 y2 y3;go_wp2_with fail
       go_meet
       case rel=>
        obtain⟨hy,bs⟩:=HY.O;have U1:=ad.O;subst hy;obtain⟨x',M⟩:=Dc HI.b HI.c HI.l hkh hvh HI.f HK.O ar H1.i.1 U1.sum U1.put U1.num U1.all a9.O;exact⟨_,_,_,_,_,x',_,_,_,M⟩
 case rest=>
  obtain⟨S',Y,v',L',U,x',vk,vv,vc,M⟩:=hcut;have hp:=M.putting;have c5:=M.held.rows;obtain⟨K1,k1,jk⟩:=c5.k.E_;obtain⟨V1,l1,js⟩:=c5.v.E_;obtain⟨C1,j1,i'⟩:=c5.c.E_;rw[hp.2.2.2.2.1] at jk;rw[hp.2.2.2.2.2.1] at js;rw[hp.2.2.2.2.2.2] at i';subst jk js i';obtain⟨sz,b9⟩:=Ii (Bt.its x).length;obtain⟨n,hn⟩:=Ii (Bn.es x').length;obtain⟨c,hc⟩:=Ii (Bn.ks x').length;have Hd:=M.held;rw[b9,hn,hc] at Hd;have hb:=Hd.box;have ca:=Hd.tree;have rj:sz<1000000:=by rw[<-b9];exact HI.b.few
  have qq:n<=2*t:=by rw[<-hn];exact M.mid.okN.1
  have c6:=HI.b.t2;have b':=HI.b.t1;clear x0 x1 y0 y1 y2 y3 z0 z1;obtain⟨x0,x1⟩:=Fp ca;obtain⟨y0,y1,y2,y3⟩:=Fy hb;obtain⟨f0,f1,f2,f3⟩:=fO hb;have l5:IntKind.u64.wrap ((sz:Int)+1)=(sz:Int)+1:=bP _ o_;have HM:=kq4 M b9 hn hc;have HD:=If Hd;clear M Hd hp c5 b9 hn hc hb ca
  go_upto_region 11 with fail
  go_cut [] from 18 (fun wd=>Hid (eH w ps Z bt bl D t v w1.1.size wd S' Y v' L' (.slice K1 n k1) (.slice V1 n l1) (.slice C1 c j1) (sz+1) (Bt.bn x').j_ (Bt.bn x').C9 (Bt.bn x').A6))
  case first=>
   as_aux_lemma=>
    go_wp2_with fail
    go_meet
    case rel=>
     have h:=HD.O.size (sz+1);have e1:((sz+1:Nat):Int)=(sz:Int)+1:=o_
     rw[e1] at h;exact If h
  case rest=>
   have hb:=hcut.O.box;have ca:=hcut.O.tree;have ox:=hcut.O.res;clear HD x0 x1 y0 y1 y2 y3 f0 f1 f2 f3 l5;have e1:((sz+1:Nat):Int)=(sz:Int)+1:=o_
   rw[e1] at hb;obtain⟨x0,x1⟩:=Fp ca;obtain⟨y0,y1,y2,y3⟩:=Fy hb;have rm:IntKind.i64.wrap (2*(t:Int))=2*(t:Int):=ax _ o_;clear hb ca ox
   by_cases hlt:n<2*t
   ·have oi:(n:Int)<2*t:=o_
    have bu:Ct 212 #[PV ps,Xi t,Xu (Bt.hd x:Nat),eC (.slice K1 n k1) (.slice V1 n l1) (.slice C1 c j1) (Bt.bn x').size] wc fun e w'=>e=.returned (Xi 0)/\Ig w' ps (FC S' (Bn.h x) 0 (v8 t (Bt.bn x'))) Y/\Fo Y wc w':=by
     obtain⟨M,b9,hn,hc⟩:=HM.O;obtain⟨p1,p2,p3,p4,p5,p6,p7⟩:=M.putting;exact Jg hcut.O.st p1 (Bt.bnok_of M.mid.fit b' c6 M.mid.A6 (M.mid.okN.ok o_)) hcut.O.rows.k.C_ hcut.O.rows.v.C_ hcut.O.rows.c.C_ (Bn.h x) p3 p2 (kX M.mid.lt o_)
    have dd:(Bt.bn x').size=sz+1:=by
     obtain⟨M,b9,hn,hc⟩:=HM.O;exact M.putting.2.2.2.1.T (by rw[b9])
    rw[dd] at bu;unfold eC at bu;rw[e1] at bu;have HP:=If bu;clear bu dd e1;go_wp2_with fail;refine HP.O.M ?_;rintro en w3 ⟨rfl,ed,d4⟩;have H3:=hcut.O.kid ed (d4.M fun k hk=>hk.1) (hcut.O.sp.keeps fun k hk=>d4.block k (hcut.O.zy k (hcut.O.spz k hk))) rfl;have b4:=H3.res;clear x0 x1 y0 y1 y2 y3;obtain⟨x0,x1,x2,x3⟩:=Fy b4;obtain⟨f0,f1,f2,f3⟩:=fO b4;have H3:=kq2 H3 b4;clear b4 ed d4;go_wp2_with fail;obtain⟨WF,cw⟩:=Ii ((((w3.setCell (y_ (w.1.size+1+1)) (.bool false)).setCell (x_ (w.1.size+1+1) 1) (Xu 0)).setCell (x_ (w.1.size+1+1) 2) (Xu 0)).setCell (x_ (w.1.size+1+1) 3) (Xu 0));rw[cw];have HF:=H3.a.fin H3.b (.bool false) (Xu 0) (Xu 0) (Xu 0) WF cw.S;clear cw x0 x1 x2 x3 f0 f1 f2 f3;have e4:=HF.2.2.2;obtain⟨q0,q1,q2,q3⟩:=Fy e4;obtain⟨M,b9,hn,hc⟩:=HM.O;have bb:¬(Bn.es x').length=2*t:=o_
    have k5:=M.num;have j0:=M.all;rw[if_neg bb] at k5;rw[decide_eq_false bb] at j0;exact bodyPost_ret (v:=.agg #[.bool false,Xu 0,Xu 0,Xu 0]) (by simp[results,f182,go_sem,q0,q1,q2,q3]) rfl ⟨none,_,v',L',U,rfl,M.sum,M.mid.put c6 o_,HF.1,HF.2.1,HF.2.2.1,M.held.own,k5,j0⟩
   ·have oi:¬(n:Int)<2*t:=o_
    have bb:n=2*t:=o_
    have ar:(Bt.bn x').j_.length=n/\(Bt.bn x').C9.length=n/\(Bt.bn x').A6.length=c:=by
     obtain⟨M,b9,hn,hc⟩:=HM.O;obtain⟨p1,p2,p3,p4,p5,p6,p7⟩:=M.putting;exact⟨o_,o_,o_⟩
    have o6:∃b cc,(Value.slice K1 n k1)=.slice (some (y_ b)) n cc/\n<=cc:=by
     have:=hcut.O.rows.k.some o_;rwa[ar.1] at this
    have o7:∃b cc,(Value.slice V1 n l1)=.slice (some (y_ b)) n cc/\n<=cc:=by
     have:=hcut.O.rows.v.some o_;rwa[ar.2.1] at this
    obtain⟨bk,po,ek,dn⟩:=o6;obtain⟨bv,pt,ev,dp⟩:=o7
    injection ek with ek1 _ ek2
    injection ev with ev1 _ ev2
    subst ek1 ek2 ev1 ev2;have rk:t+1<=n:=o_
    have bf:=kq2 bb ar;clear bb ar e1;have a1:(t:Int)<=k1:=o_
    have a2:(t:Int)<=l1:=o_
    have a3:(t:Int)+1<=n:=o_
    have a4:0<=(t:Int)+1:=o_
    have a6:¬k1=t+1:=o_
    have a7:¬l1=t+1:=o_
    have a5:((t:Int)+1).toNat=t+1:=o_
    have rv:IntKind.i64.wrap ((t:Int)+1)=(t:Int)+1:=ax _ o_;have qa:(t:Int)+1<=k1:=o_
    have p':(t:Int)+1<=l1:=o_
    obtain⟨wp,rfl⟩:∃z,z=wc:=⟨wc,rfl⟩;have HC:=hcut;clear hcut
    go_upto_region 15 with fail
    go_cut [18,19] from 20 (fun s18 s19 wd=>∃bL bR,s18=.pointer (some (y_ bL))/\s19=.pointer (some (y_ bR))/\Hid (eV wp wd ps S' Y bL bR #[.slice (some (y_ bk)) t k1,.slice (some (y_ bv)) t l1,n_,Xu 0] #[.slice (some ⟨bk,t+1,none⟩) (n-(t+1)) (k1-(t+1)),.slice (some ⟨bv,t+1,none⟩) (n-(t+1)) (l1-(t+1)),n_,Xu 0]))
    case first=>
     as_aux_lemma=>
      obtain⟨I,ai,an⟩:=ic fun w'=>w'.1[w1.1.size]?=wp.1[w1.1.size]?/\w'.1[w.1.size]?=wp.1[w.1.size]?;have hb:=HC.O.box;have e1:((sz+1:Nat):Int)=(sz:Int)+1:=o_
      rw[e1] at hb;have au:=fun x:Fq I=>(ai _ x.ok).1.T hb;have a8:=fun x:Fq I=>(ai _ x.ok).2.T HC.O.tree;obtain⟨m0,m1,m2,m3⟩:=iB au;obtain⟨p0,p1⟩:=mt a8;have bj:I wp.drew:=an _ ⟨rfl,rfl⟩;have b1:=fun q=>((aa wp.1.size wp).drew).alloc Ih (.cells q 215);have b2:=fun q q2=>(b1 q).alloc s_ (.cells q2 215);have jc:∀q,I (wp.drew.alloc (.cells q 215)):=fun q=>an _ ⟨(b1 q).block _ HC.O.lt,(b1 q).block _ (by have:=HC.O.lt;have:=HC.O.at3;omega)⟩;have jj:∀q q2,I ((wp.drew.alloc (.cells q 215)).alloc (.cells q2 215)):=fun q q2=>an _ ⟨(b2 q q2).block _ HC.O.lt,(b2 q q2).block _ (by have:=HC.O.lt;have:=HC.O.at3;omega)⟩;have ik:=If jc;have dc:=If jj;clear ai an au a8 hb e1 b1 b2 jc jj;refine fh I (.take 0 (.take 1 (.take 2 (.take 3 (.take 4 (.take 5 (.take 6 (.take 7 (.take 8 (.take 9 (.take 10 (.take 11 (.take 12 (.take 13 (.take 14 (.take 15 (.take 16 (.take 17 (.take 18 (.take 19 (.take 20 (.take 21 (.take 22 (.take 23 (.two 24 25 (.go 25 (.go 26 (.go 27 .nil))) (.go 24 (.go 26 (.go 27 .nil)))))))))))))))))))))))))))) k_ k_ bj ?_
      iterate 24
       refine pT_ ?_
       try simp only[pu]
      refine gL ?_ ?_
      ·skip
       refine pD fun K hK=>?_;go_simp
       try go_simp
       refine hK.O _ _ (ik.O _) ?_;clear hK K
       try simp only[pu]
       refine pD fun K hK=>?_;go_simp
       try go_simp
       refine hK.O _ _ (dc.O _ _) ?_;clear hK K
       try simp only[pu]
       refine pD fun K hK=>?_;go_simp
       try go_simp
       refine hK.O _ _ (dc.O _ _) ?_;clear hK K
       try simp only[pu]
       refine pD fun K hK=>?_;go_simp
       try go_simp
       refine hK.O _ _ (dc.O _ _) ?_;clear hK K
       try simp only[pu]
       refine eP ?_;go_wp2_with fail
       go_meet
       case rel=>exact⟨_,_,rfl,rfl,If (eV.start HC.O.st _ _)⟩
      ·skip
       refine pD fun K hK=>?_;go_simp
       try go_simp
       refine hK.O _ _ (ik.O _) ?_;clear hK K
       try simp only[pu]
       refine pD fun K hK=>?_;go_simp
       try go_simp
       refine hK.O _ _ (dc.O _ _) ?_;clear hK K
       try simp only[pu]
       refine pD fun K hK=>?_;go_simp
       try go_simp
       refine hK.O _ _ (dc.O _ _) ?_;clear hK K
       try simp only[pu]
       refine pD fun K hK=>?_;go_simp
       try go_simp
       refine hK.O _ _ (dc.O _ _) ?_;clear hK K
       try simp only[pu]
       refine eP ?_;go_wp2_with fail
       go_meet
       case rel=>exact⟨_,_,rfl,rfl,If (eV.start HC.O.st _ _).turn⟩
    case rest=>
     obtain⟨bL,bR,rfl,rfl,HS⟩:=hcut;obtain⟨nr,k4⟩:∃nr,nr=n-(t+1):=⟨_,rfl⟩;rw[<-k4] at HS;have rc:nr+1=t:=by have:=bf.a;omega
     clear k4 x0 x1 y0 y1 y2 y3 a1 a2 a3 a4 a5 a6 a7;have hL:=HS.O.bl;have hR:=HS.O.br;have e1:((sz+1:Nat):Int)=(sz:Int)+1:=o_
     have hN:=(HS.O.kp.block _ HC.O.yb.1).T HC.O.box;rw[e1] at hN;have hT:=(HS.O.kp.block _ HC.O.yb.2.1).T HC.O.tree;obtain⟨x0,x1⟩:=Fp hT;obtain⟨y0,y1,y2,y3⟩:=Fy hN;obtain⟨a0,a1,a2,a3⟩:=Fy hL;obtain⟨f0,f1,f2,f3⟩:=fO hL;obtain⟨b0,b1,b2,b3⟩:=Fy hR;obtain⟨h0,h1,h2,h3⟩:=fO hR;clear hL hR hN hT e1
     go_upto_if 149 with fail
     go_cut [] from 20 (fun wd=>∃A1 m1 c1 A2 m2 c2,Hid (eV wp wd ps S' Y bL bR #[.slice (some (y_ bk)) t k1,.slice (some (y_ bv)) t l1,.slice A1 m1 c1,Xu 0] #[.slice (some ⟨bk,t+1,none⟩) nr (k1-(t+1)),.slice (some ⟨bv,t+1,none⟩) nr (l1-(t+1)),.slice A2 m2 c2,Xu 0]/\FD wp (.slice A1 m1 c1) ((Bt.bn x').A6.take (t+1))/\FD wp (.slice A2 m2 c2) ((Bt.bn x').A6.drop (t+1))/\(∀g,(Value.slice A1 m1 c1).ownBlock=some g->Y g)/\∀g,(Value.slice A2 m2 c2).ownBlock=some g->Y g/\g≠bl))
     case first=>
      as_aux_lemma=>
       by_cases hd0:d=0
       ·subst hd0;have kz:Bn.ks x'=[]:=Bt.G8 _;obtain rfl:c=0:=by rw[<-HM.d,kz];rfl
        go_wp2_with fail
        go_meet
        case rel=>
         have kq:(Bt.bn x').A6=[]:=by unfold Bt.bn;rw[kz];rfl
         refine⟨none,0,0,none,0,0,If ⟨HS.O,?_,?_,(fun g hg=>nomatch hg),fun g hg=>nomatch hg⟩⟩
         ·rw[kq];exact⟨none,0,rfl,fun k hk=>absurd hk s_⟩
         ·rw[kq];exact⟨none,0,rfl,fun k hk=>absurd hk s_⟩
       ·have ka:c=n+1:=by
         have h1:=HM.a.mid.okN.2.1;rw[if_neg hd0] at h1;have h2:=HM.O.2.2;omega
        have o5:∃b cc,(Value.slice C1 c j1)=.slice (some (y_ b)) c cc/\c<=cc:=by
         have:=HC.O.rows.c.some (by have:=bf.b.2.2;omega);rwa[bf.b.2.2] at this
        obtain⟨bc,pn,ec,dk⟩:=o5
        injection ec with ec1 _ ec2
        subst ec1 ec2;have bb:=bf.a;have qb:(0:Int)<c:=o_
        have q1:(t:Int)+1<=j1:=o_
        have q2:(t:Int)+1<=c:=o_
        have q3:0<=(t:Int)+1:=o_
        have q4:¬j1=t+1:=o_
        have q5:((t:Int)+1).toNat=t+1:=o_
        have qt:¬bL=bR:=HS.O.ge.2.2;have qz:¬bR=bL:=fun q=>HS.O.ge.2.2 q.S;have n':=HC.O.lt;have f':=HS.O.ge;have fn:=HC.O.at3;have q6:¬bL=w1.1.size:=o_
        have q7:¬w1.1.size=bL:=o_
        have q8:¬bR=w1.1.size:=o_
        have q9:¬w1.1.size=bR:=o_
        have q':¬bL=w.1.size:=o_
        have ra:¬w.1.size=bL:=o_
        have rb:¬bR=w.1.size:=o_
        have qs:¬w.1.size=bR:=o_
        clear ka bb n' f' fn
        go_upto_region 17 with fail
        go_region
        go_wp2_with fail
        go_meet
        case rel=>
         have C_:=HC.O.rows.c.C_;have ar:=bf.b.2.2;have bb:=bf.a;have ka:c=n+1:=by
          have h1:=HM.a.mid.okN.2.1;rw[if_neg hd0] at h1;have h2:=HM.O.2.2;omega
         have l8:∀g,(Value.slice (some (y_ bc)) c j1).ownBlock=some g->Y g:=fun g hg=>HC.O.yk g (ae (ae hg));have p8:=(HC.O.rows.c.block (g:=bc) rfl).1;have j3:=HC.O.zl bl HC.O.zs.1;have ph:∀g,(Value.slice (some (y_ bc)) c j1).ownBlock=some g->Y g/\g≠bl:=fun g hg=>⟨l8 g hg,by
          have hg:bc=g:=Option.some.inj hg;omega⟩
         exact⟨_,_,_,_,_,_,If ⟨((HS.O.setL2 _).setR2 _).a_ (aa _ _).drew,FD.take C_ o_,FD.drop C_ o_,l8,ph⟩⟩
     case rest=>
      obtain⟨A1,m1,c1,A2,m2,c2,bx⟩:=hcut;obtain⟨L2,gg,rfl,k7⟩:=HM.a.spare HI.m HI.e HI.f (by have:=bf.a;have:=HM.c;omega);have el:=If k7;obtain⟨KS,cq⟩:=Ii ((Bn.ks x').drop (t+1));have ep:(Bt.bn x').A6.drop (t+1)=KS.map Bt.hd:=by rw[<-cq];unfold Bt.bn;rw[List.map_drop]
      have gp:m2=KS.length:=by
       obtain⟨_,_,e,_⟩:=bx.O.2.2.1
       injection e with _ e _
       rw[e,ep,am]
      have qp:m2<=33:=by
       have h1:=HM.a.mid.okN.2.1;have h2:KS.length<=(Bn.ks x').length:=by rw[<-cq,bT];omega
       have h3:=HM.c
       split at h1<;>omega
      obtain⟨su,dv⟩:∃su:Nat->Nat,∀j,su j=((KS.take j).map fun k=>(Bt.its k).length).sum:=⟨_,fun _=>rfl⟩;have k9:su 0=0:=by rw[dv];rfl
      have g':∀j (hj:j<KS.length),su (j+1)=su j+(Bt.its KS[j]).length:=fun j hj=>by rw[dv,dv,ED _ _ hj]
      have hf:∀j,su j<=1000000:=fun j=>by
       have h1:=EC (fun k=>(Bt.its k).length) (Bn.ks x') (t+1) j;have h2:=Bt.its_len HM.a.mid.okN;have h3:=HM.a.putting.2.2.2.1;have h4:=HM.b;rw[dv,<-cq];omega
      have km:sz+1=(Bt.its (Bt.G_ t x')).length+1+(nr+su m2)/\(Bt.its (Bt.G5 t x' gg)).length=nr+su m2:=by
       have bb:=bf.a;have h1:=HM.a.halves b' (by have:=HM.c;omega) gg;have h3:=HM.a.putting.2.2.2.1;have h4:=HM.b;have h5:=HM.c;have h6:su m2=(((Bn.ks x').drop (t+1)).map fun k=>(Bt.its k).length).sum:=by rw[dv,gp,cB,cq]
       have h7:=h1.2.2.1;have h8:=h1.2.2.2.2.2;rw[<-h6] at h8;omega
      have k':∀k∈KS,k∈Bn.ks x':=fun k hk=>by
       rw[<-cq] at hk;exact bB hk
      have bm:∀(W:World) (Yx:Nat->Prop),Ig W ps S' Yx->∀j (hj:j<KS.length),Cb 175 #[FH ps t,Xu (Bt.hd KS[j]:Nat)] W (Xi (Bt.its KS[j]).length):=fun W Yx hst j hj=>by
       have k3:KS[j]∈Bn.ks x':=k' _ (ao hj);have h1:=g' j hj;have h2:=hf (j+1);exact ri HM.a.mid.fit b' c6 (HM.a.mid.A6 _ k3) (HM.a.mid.okN.2.2 _ k3).1 o_ W Yx hst
      have k6:FD wp (.slice A2 m2 c2) (KS.map Bt.hd):=by rw[<-ep];exact bx.O.2.2.1
      have iv:=kq3 cq ep g';have e8:=If hf;have nx:=If bm;have np:=If km;have em:=kq2 k6 (show ∀g,(Value.slice A2 m2 c2).ownBlock=some g->Y g from fun g hg=>(bx.O.2.2.2.2 g hg).1);have nj:Hid (∀g,(Value.slice A2 m2 c2).ownBlock=some g->g≠bl):=If fun g hg=>(bx.O.2.2.2.2 g hg).2;have iu:=kq2 bx.O.2.1 bx.O.2.2.2.1;have nw:=If k9;have nq:=If gp;clear cq ep dv g' hf km bm k6 k7 k9 gp k';clear x0 x1 y0 y1 y2 y3 a0 a1 a2 a3 b0 b1 b2 b3 f0 f1 f2 f3 h0 h1 h2 h3;have hR:=bx.O.1.br;obtain⟨b0,b1,b2,b3⟩:=Fy hR;obtain⟨h0,h1,h2,h3⟩:=fO hR;clear hR;have oj:IntKind.u64.wrap (nr:Int)=nr:=bP _ o_
      go_upto_region 18 with fail
      go_cut [] from 20 (fun wd=>Hid (eV wp wd ps S' Y bL bR #[.slice (some (y_ bk)) t k1,.slice (some (y_ bv)) t l1,.slice A1 m1 c1,Xu 0] #[.slice (some ⟨bk,t+1,none⟩) nr (k1-(t+1)),.slice (some ⟨bv,t+1,none⟩) nr (l1-(t+1)),.slice A2 m2 c2,Xu nr]))
      case first=>
       as_aux_lemma=>
        go_wp2_with fail
        go_meet
        case rel=>exact If (bx.O.1.setR3 (Xu nr))
      case rest=>
       have hR:=hcut.O.br;clear b0 b1 b2 b3 h0 h1 h2 h3 oj bx;obtain⟨b0,b1,b2,b3⟩:=Fy hR;clear hR;go_wp2_with fail
       go_loopw [21,172] (fun _ s172 wr=>∃j:Nat,j<=m2/\s172=Xi j/\Hid (eV wp wr ps S' Y bL bR #[.slice (some (y_ bk)) t k1,.slice (some (y_ bv)) t l1,.slice A1 m1 c1,Xu 0] #[.slice (some ⟨bk,t+1,none⟩) nr (k1-(t+1)),.slice (some ⟨bv,t+1,none⟩) nr (l1-(t+1)),.slice A2 m2 c2,Xu ((nr:Int)+(su j:Nat))])) (fun _ s172 _=>m2-(intOf s172).toNat)
       case atStart=>exact⟨0,o_,rfl,by rw[nw.O];simpa using hcut⟩
       case round=>
        as_aux_lemma=>
         clear b0 b1 b2 b3 hcut;obtain⟨j,hj,rfl,HR⟩:=hrel
         by_cases hjlt:j<m2
         ·have qh:(j:Int)<m2:=o_
          have gn:j<KS.length:=by have:=nq.O;omega
          have hR:=HR.O.br;have hT:=(HR.O.kp.block _ HC.O.yb.2.1).T HC.O.tree;have eo:=FD.at (f:=Bt.hd) (l:=KS) (HR.O.row em.a em.b) (af gn);obtain⟨g2,o2,rfl,dk⟩:=eo;obtain⟨hh,bs⟩:=Ii (Bt.hd KS[j]);obtain⟨zj,e6⟩:=Ii (Bt.its KS[j]).length;have bm:=fun W Yx hst=>nx.O W Yx hst j gn;rw[bs,e6] at bm;rw[bs] at dk;have g9:=iv.c j gn;rw[e6] at g9;have e3:=e8.O j;have e5:=e8.O (j+1);have rx:zj<=1000000:=o_
          obtain⟨I,ai,an⟩:=ic fun w'=>w'.1[bR]?=wr.1[bR]?/\w'.1[w.1.size]?=wr.1[w.1.size]?;have au:=fun x:Fq I=>(ai _ x.ok).1.T hR;have a8:=fun x:Fq I=>(ai _ x.ok).2.T hT;obtain⟨r0,r1,r2,r3⟩:=iB au;obtain⟨p0,p1⟩:=mt a8;have bj:I wr.drew:=an _ ⟨rfl,rfl⟩;have rs:IntKind.u64.wrap ((nr:Int)+(su j:Nat)+(zj:Nat))=(nr:Int)+(su j:Nat)+(zj:Nat):=bP _ o_;have l5:IntKind.u64.wrap (zj:Int)=zj:=bP _ o_;unfold FH at bm;have bd:=If an;have nu:=If bm;have nv:=kq3 g9 bs e6;clear ai an au a8 hR hT bm g9 bs e6 e3 e5;go_wp2_with fail;refine nG I (fun i=>[8].contains i) (.take 0 (.take 1 (.take 2 (.take 3 (.go 4 (.take 5 (.take 6 (.take 7 (.go 8 .nil))))))))) k_ k_ bj ?_
          iterate 4
           refine qT_ ?_
           try simp only[pu]
          refine qD fun K hK=>?_;go_simp;refine(nu.O _ _ (HR.O.a_ (aa _ wr).drew).st).M ?_;rintro en w5 ⟨rfl,fv⟩;have C5:=(HR.O.a_ (aa _ wr).drew).a_ fv;have fj:I w5:=bd.O _ ⟨fv.block _ HR.O.lt.2,fv.block _ (aB (by have:=HC.O.lt;have:=HC.O.at3;omega) HR.O.kp.size)⟩;have fm:=C5.br;obtain⟨b0,b1,b2,b3⟩:=Fy fm;obtain⟨h0,h1,h2,h3⟩:=fO fm;have nl:=If (C5.setR3 (Xu ((nr:Int)+(su j:Nat)+(zj:Nat))));clear C5 fm
          try go_simp
          refine hK.O _ _ fj ?_;clear hK K
          try simp only[pu]
          iterate 3
           refine qT_ ?_
           try simp only[pu]
          refine qL fun K hK=>?_;go_simp
          try go_simp
          refine hK.O _ _ trivial ?_;clear hK K
          try simp only[pu]
          refine jd ?_;go_wp2_with fail;go_roundw
          case rel=>
           refine⟨j+1,o_,s_,?_⟩;have e1:((nr:Int)+(su (j+1):Nat))=(nr:Int)+(su j:Nat)+(zj:Nat):=by have:=nv.a;omega
           rw[e1];exact nl
          case measure=>simp[intOf];omega
         ·have n7:j=m2:=o_
          subst n7;have qm:¬(j:Int)<j:=o_
          obtain⟨fw,kd⟩:=np.O;obtain⟨zl,hu⟩:=Ii (Bt.its (Bt.G_ t x')).length;rw[hu] at fw;have o8:=e8.O j;have pc:IntKind.u64.wrap ((sz:Int)+1-((nr:Int)+(su j:Nat)))=(zl:Int)+1:=by rw[bP _ o_];omega
          have pd:IntKind.u64.wrap ((zl:Int)+1-1)=zl:=by rw[bP _ o_];omega
          have pe:IntKind.u64.wrap (zl:Int)=zl:=bP _ o_;have e1:((sz+1:Nat):Int)=(sz:Int)+1:=o_
          have e2:((nr+su j:Nat):Int)=(nr:Int)+(su j:Nat):=o_
          have hN:=(HR.O.kp.block _ HC.O.yb.1).T HC.O.box;rw[e1] at hN;have hL:=HR.O.bl;have hR:=HR.O.br;obtain⟨y0,y1,y2,y3⟩:=Fy hN;obtain⟨a0,a1,a2,a3⟩:=Fy hL;obtain⟨f0,f1,f2,f3⟩:=fO hL;obtain⟨b0,b1,b2,b3⟩:=Fy hR;have HZ:=kq5 fw kd hu e1 e2;clear fw kd hu e1 e2 hN hL hR o8
          go_upto_region 24 with fail
          go_cut [] from 22 (fun wd=>Hid (eV wp wd ps S' Y bL bR #[.slice (some (y_ bk)) t k1,.slice (some (y_ bv)) t l1,.slice A1 m1 c1,Xu zl] #[.slice (some ⟨bk,t+1,none⟩) nr (k1-(t+1)),.slice (some ⟨bv,t+1,none⟩) nr (l1-(t+1)),.slice A2 j c2,Xu ((nr:Int)+(su j:Nat))]))
          case first=>
           as_aux_lemma=>
            go_wp2_with fail
            go_meet
            case rel=>exact If (HR.O.setL3 (Xu zl))
          case rest=>
           clear y0 y1 y2 y3 a0 a1 a2 a3 f0 f1 f2 f3 b0 b1 b2 b3 pc pd pe HR;have hL:=hcut.O.bl;have hT:=(hcut.O.kp.block _ HC.O.yb.2.1).T HC.O.tree;obtain⟨x0,x1⟩:=Fp hT;obtain⟨a0,a1,a2,a3⟩:=Fy hL;have ez:(Bn.es x').length=2*t:=by have:=HM.c;have:=bf.a;omega
           have hr:∀g,(Value.slice (some (y_ bk)) n k1).ownBlock=some g->Y g:=fun g hg=>HC.O.yk g (ab hg);have ht:∀g,(Value.slice (some (y_ bv)) n l1).ownBlock=some g->Y g:=fun g hg=>HC.O.yk g (ae (ab hg));have ar:=bf.b;have bb:=bf.a;obtain⟨hv,mi,ml⟩:=Bt.leftOf_bn t x';obtain⟨h9,mr,ms,pj⟩:=Bt.rightOf_bn t x' gg;obtain⟨lz,l0,pa,l3,l4,pb⟩:=HM.a.halves b' ez gg;obtain⟨c3,k2⟩:=HM.a.lts b' ez gg;obtain⟨p1,p2,p3,p4,p5,p6,p7⟩:=HM.a.putting;have g5:nr=n-(t+1):=o_
           have m6:FD wp (.slice (some (y_ bk)) t k1) (Bt.bn (Bt.G_ t x')).j_:=by rw[hv];exact FD.take HC.O.rows.k.C_ o_
           have m':FD wp (.slice (some (y_ bv)) t l1) (Bt.bn (Bt.G_ t x')).C9:=by rw[mi];exact FD.take HC.O.rows.v.C_ o_
           have mv:FD wp (.slice A1 m1 c1) (Bt.bn (Bt.G_ t x')).A6:=by rw[ml];exact iu.a
           have m8:FD wp (.slice (some ⟨bk,t+1,none⟩) nr (k1-(t+1))) (Bt.bn (Bt.G5 t x' gg)).j_:=by rw[h9,g5];exact FD.drop HC.O.rows.k.C_ o_
           have na:FD wp (.slice (some ⟨bv,t+1,none⟩) nr (l1-(t+1))) (Bt.bn (Bt.G5 t x' gg)).C9:=by rw[mr,g5];exact FD.drop HC.O.rows.v.C_ o_
           have m5:FD wp (.slice A2 j c2) (Bt.bn (Bt.G5 t x' gg)).A6:=by rw[ms,iv.b];exact em.a
           have bu:=Jg hcut.O.st p1 (Bt.bnok_of HM.a.mid.fit b' c6 l3 lz) (hcut.O.row m6 hr) (hcut.O.row m' ht) (hcut.O.row mv iu.b) (Bn.h x) p3 p2 (kX c3 (by rw[hv,aK];omega));have lb:(Bt.bn (Bt.G_ t x')).size=zl:=HZ.c;rw[lb] at bu;unfold eC at bu;have HP:=If bu;have i3:Hid ((∀g,(.slice (some ⟨bk,t+1,none⟩) nr (k1-(t+1)):Value).ownBlock=some g->Y g)/\∀g,(.slice (some ⟨bv,t+1,none⟩) nr (l1-(t+1)):Value).ownBlock=some g->Y g):=If ⟨fun g hg=>HC.O.yk g (ab hg),fun g hg=>HC.O.yk g (ae (ab hg))⟩;have cj:=kq6 m8 na m5 hr ht ez;have i0:=kq4 (Bt.bnok_of HM.a.mid.fit b' c6 l4 l0) (kX (t:=t) k2 (by rw[h9,bT];omega)) ar bb;clear bu lb m6 m' mv m8 na m5 hr ht ar bb hv mi ml h9 mr ms pj lz l0 pa l3 l4 pb c3 k2 p1 p2 p3 p4 p5 p6 p7 g5 hL hT ez;go_wp2_with fail;refine HP.O.M ?_;rintro en w3 ⟨rfl,ed,d4⟩;have C3:=hcut.O.put ed d4;clear x0 x1 a0 a1 a2 a3 HP ed d4 hcut;have a':=If C3;clear C3;go_wp2_with fail;obtain⟨wg,e3,e5,g7⟩:=el.O.2.2.2;have kl:=el.O.2.2.1;have ds:=HM.a.left_put b' c6 cj.f kl e5;have kj:=(fL ds.1 ds.2).2.1;have kk:(FC S' (Bn.h x) 0 (v8 t (Bt.bn (Bt.G_ t x')))).len gg=(6*t,0):=by rw[jw ds.1.tab ds.2,g7]
           have j3:bl<w.1.size:=HC.O.zl bl HC.O.zs.1;have n4:=HC.O.rows.k.block (g:=bk) rfl;have n5:=HC.O.rows.v.block (g:=bv) rfl;have jn:L2.length<=1000:=by
            have h1:=HI.j;have h2:=HM.a.sum;rw[h2] at h1;simp only[ag] at h1;omega
           have g8:=HC.O.spz;have k8:gz w3.drew bt bl D ps t v' (L2++[gg]):=HC.O.sp.keeps fun k hk=>a'.O.kp.block k (HC.O.zy k (g8 k hk));have j5:∀b,(Value.slice (some ⟨bk,t+1,none⟩) nr (k1-(t+1))).ownBlock=some b->b≠bl:=fun b hb q=>by
            have hb:bk=b:=Option.some.inj hb;omega
           have j8:∀b,(Value.slice (some ⟨bv,t+1,none⟩) nr (l1-(t+1))).ownBlock=some b->b≠bl:=fun b hb q=>by
            have hb:bv=b:=Option.some.inj hb;omega
           have j':∀b,(Value.slice A2 j c2).ownBlock=some b->b≠bl:=nj.O;have d':=pZ (n:=Bt.bn (Bt.G5 t x' gg)) (vk:=.slice (some ⟨bk,t+1,none⟩) nr (k1-(t+1))) (vv:=.slice (some ⟨bv,t+1,none⟩) nr (l1-(t+1))) (vc:=.slice A2 j c2) (a'.O.st.a_ (aa _ w3).drew) ds.1.inv k8 (ab (HC.O.zy _ HC.O.zs.1)) (ab (HC.O.zy _ HC.O.zs.2.1)) (fun b hb=>ab (HC.O.zy _ (g8 b (ae (ae hb))))) jn i0.a (a'.O.row cj.a i3.O.1) (a'.O.row cj.b i3.O.2) (a'.O.row cj.c em.b) j5 j8 j' kj kk i0.b;have ll:(Bt.bn (Bt.G5 t x' gg)).size=nr+su j:=HZ.b;rw[ll] at d';unfold eC at d';rw[HZ.e] at d';have lr:t<(Bn.es x').length:=by have:=cj.f;omega
           obtain⟨m,hm⟩:=Ii ((Bn.es x')[t]);have gs:(Bn.es x')[t]?=some m:=by rw[af lr,hm]
           have dn:=FD.at (f:=(·.kh)) (l:=Bn.es x') (a'.O.row HC.O.rows.k.C_ cj.d) gs;have dp:=FD.at (f:=(·.vh)) (l:=Bn.es x') (a'.O.row HC.O.rows.v.C_ cj.e) gs;obtain⟨gk,ok,ek,dn⟩:=dn;obtain⟨gv,ov,ev,dp⟩:=dp
           injection ek with ek
           injection ek with ek1 ek2 _
           subst ek1 ek2
           injection ev with ev
           injection ev with ev1 ev2 _
           subst ev1 ev2;rw[bz] at dn dp;have hN:=(a'.O.kp.block _ HC.O.yb.1).T HC.O.box;rw[HZ.d] at hN;have hT:=(a'.O.kp.block _ HC.O.yb.2.1).T HC.O.tree;have hR:=a'.O.br;have hq:=HC.O.yb;have fn:=HC.O.at3;have f':=a'.O.ge;have pf:=HC.O.w_.size;have l':=HC.O.yk bk (ab rfl);have mb:=HC.O.yk bv (ae (ab rfl));obtain⟨I,ai,an⟩:=ic fun w'=>∀k,(Y k\/k=bL\/k=bR)->k≠bl->w'.1[k]?=w3.1[k]?;have au:=fun x:Fq I=>(ai _ x.ok w1.1.size (ab hq.1) o_).T hN;have a8:=fun x:Fq I=>(ai _ x.ok w.1.size (ab hq.2.1) o_).T hT;have md:=fun x:Fq I=>(ai _ x.ok bR (ae (ae rfl)) o_).T hR;obtain⟨r0,r1,r2,r3⟩:=iB au;obtain⟨p0,p1⟩:=mt a8;obtain⟨q0,q1,q2,q3⟩:=iB md;have o1:∀x:Fq I,x.to.cell? (x_ bk t)=some (Xu (m.kh:Nat)):=fun x=>(j9 (ai _ x.ok bk (ab l') o_)).T dn;have o2:∀x:Fq I,x.to.cell? (x_ bv t)=some (Xu (m.vh:Nat)):=fun x=>(j9 (ai _ x.ok bv (ab mb) o_)).T dp;have bj:I w3.drew:=an _ fun _ _ _=>rfl;have rl:(t:Int)<n:=by have:=HM.c;omega
           have nz:=If d';have bd:=If an;have nn:=If (HM.a.done b' c6 cj.f el.O.1 el.O.2.1 e3 g7 lr);have ns:=If hm;have pm:Hid (w.1.size+2≠bl):=If o_;clear ai an au a8 md d' kj kk j3 n4 n5 jn g8 k8 j5 j8 j' ll gs dn dp hN hT hR hq fn f' pf l' mb hm e3 e5 g7 kl ds;refine nG I (fun i=>[17].contains i) (.take 0 (.take 1 (.take 2 (.take 3 (.take 4 (.take 5 (.take 6 (.take 7 (.take 8 (.take 9 (.take 10 (.take 11 (.take 12 (.take 13 (.take 14 (.go 15 (.take 16 (.go 17 .nil)))))))))))))))))) k_ k_ bj ?_
           iterate 15
            refine qT_ ?_
            try simp only[pu]
           refine qD fun K hK=>?_;go_simp;refine nz.O.M ?_;rintro en w5 ⟨rfl,v5,nc,c9,nb,mm⟩;have H5:=HC.O.kid (nc.M fun k hk=>ab hk) ((a'.O.kp.M fun k hk=>hk.1).T ⟨c9.os,c9.tape,c9.output,c9.size,fun k hk=>c9.block k ⟨ab hk.1,hk.2⟩⟩) nb mm;have e0:=H5.res;have fj:I w5:=bd.O _ fun k hk hn=>c9.block k ⟨hk,hn⟩;obtain⟨b0,b1,b2,b3⟩:=Fy e0;obtain⟨h0,h1,h2,h3⟩:=fO e0;have ih:=kq2 H5 e0;clear nc c9 nb H5 e0
           try go_simp
           refine hK.O _ _ fj ?_;clear hK K
           try simp only[pu]
           refine qT_ ?_
           try simp only[pu]
           refine qL fun K hK=>?_;go_simp
           try go_simp
           refine hK.O _ _ trivial ?_;clear hK K
           try simp only[pu]
           refine jd ?_;go_wp2_with fail;obtain⟨WF,cw⟩:=Ii ((((w5.setCell (y_ (w.1.size+1+1)) (.bool true)).setCell (x_ (w.1.size+1+1) 1) (Xu (m.kh:Nat))).setCell (x_ (w.1.size+1+1) 2) (Xu (m.vh:Nat))).setCell (x_ (w.1.size+1+1) 3) (Xu (gg:Nat)));rw[cw];have HF:=ih.a.fin ih.b (.bool true) (Xu (m.kh:Nat)) (Xu (m.vh:Nat)) (Xu (gg:Nat)) WF cw.S;clear cw b0 b1 b2 b3 h0 h1 h2 h3;have e4:=HF.2.2.2;obtain⟨a0,a1,a2,a3⟩:=Fy e4;obtain⟨d1,d2,d3⟩:=nn.O;rw[ns.O] at d1;have o9:L=L2++(gg::U):=by have:=HM.a.sum;rw[this];simp
           have op:=mm.T HM.a.held.own;have o':Ending.returned (.agg #[.bool true,Xu (m.kh:Nat),Xu (m.vh:Nat),Xu (gg:Nat)])=Ending.returned (ky (some (m,gg))):=rfl;exact bodyPost_ret (v:=.agg #[.bool true,Xu (m.kh:Nat),Xu (m.vh:Nat),Xu (gg:Nat)]) (by simp[results,f182,go_sem,a0,a1,a2,a3]) rfl ⟨some (m,gg),o',_,v5,L2,gg::U,o9,d1,HF.1,HF.2.1,HF.2.2.1,op,d2,d3⟩