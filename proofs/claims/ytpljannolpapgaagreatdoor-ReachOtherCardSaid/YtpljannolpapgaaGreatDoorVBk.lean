/- B-trees: At: the walk. -/
import Derived.Test.YtpljannolpapgaaGreatDoorVFf
import Derived.Test.YtpljannolpapgaaGreatDoorVBh
set_option maxRecDepth 100000
set_option maxHeartbeats 6400000
namespace Go.Proofs.YtpljannolpapgaaGreatDoor
section
open Go.RowKit Tryz Go.BigFrame Go.Maps Go.WideMaps Lf Tr
variable{S:St}{i:Nat}{o:Nat->Nat}
theorem ox{t d:Nat}{x:Bt (d+2)}(h:Bt.Walk S o t x)(hi:i<=(Bn.es x).length):(Bt.lo ((Bn.es x).take i) (((Bn.ks x).map Bt.its).take i)).length=i+fV x i:=by
 have:=Bt.Ok.kids h.ok;rw[Bt.lo_length _ _ (by rw[aL,aL,ao];omega),aL];unfold fV;rw[<-dh,cD,dE hi];rfl
theorem Bt.Walk.at_kid{t d:Nat}{x:Bt (d+2)}(h:Walk S o t x){i m:Nat}(hi:i<(Bn.ks x).length)(hm:m<(its (Bn.ks x)[i]).length):(its x)[i+fV x i+m]?=(its (Bn.ks x)[i])[m]?:=by
 have hk:=Bt.Ok.kids h.ok;rw[dQ,nA (k:=i) (by omega) h.ok.rows,jN hi,cg (by rw[ox h (by omega)];omega),ox h (by omega),dl,dC hm]
theorem Bt.Walk.at_here{t d:Nat}{x:Bt (d+2)}(h:Walk S o t x)(hi:i<(Bn.ks x).length)(he:i<(Bn.es x).length):(its x)[i+fV x i+(its (Bn.ks x)[i]).length]?=(Bn.es x)[i]?:=by
 rw[dQ,nA (k:=i) (by omega) h.ok.rows,jN hi,cg (by rw[ox h (by omega)];omega),ox h (by omega),dl,cg Ih,Nat.sub_self,mP he,af he];rfl
theorem qBkac{P:Prop}(h:P:=by
 have eW:WF.drew.heap[w.heap.size]?=_:=eW;obtain⟨e0,e1⟩:=Fp eW;exact bodyPost_ret (v:=.tuple #[.agg #[Xu (e.kh:Nat),Xu (e.vh:Nat)],Xi 0]) (by simp[results,f322,go_sem,e0,e1]) rfl ⟨rfl,BF.drew⟩):P:=h
theorem zS{w:World}{ps:Nat}{Y:Nat->Prop}(h:Ig w ps S Y){t d:Nat}{x:Bt (d+1)}(hx:Bt.Walk S o t x)(hd:d<40){k:Nat}{e:It}(hke:(Bt.its x)[k]?=some e):
 Ct 322 #[PV ps,Xi t,Xu (Bt.hd x:Nat),Xi k] w fun e' w'=>e'=.returned (.tuple #[Id e.kh e.vh,Xi 0])/\Below w.heap.size w w':=by
 have a9:k<(Bt.its x).length:=(aq.1 hke).1;have B1:=(aa w.heap.size w).alloc Ih (.cells #[Xu 0,Xu 0] 104);have B0:=B1.alloc (by simp) (Xd ps t);have z1:(w.alloc (.cells #[Xu 0,Xu 0] 104)).heap.size=w.heap.size+1:=by simp
 have q1:=heap_alloc_new w (.cells #[Xu 0,Xu 0] 104);have q3:=heap_alloc_new (w.alloc (.cells #[Xu 0,Xu 0] 104)) (Xd ps t);have q2:=(((aa (w.alloc (.cells #[Xu 0,Xu 0] 104)).heap.size (w.alloc (.cells #[Xu 0,Xu 0] 104))).alloc Ih (Xd ps t)).block w.heap.size (by simp)).trans q1;rw[z1] at q3;have hz:w.heap.size+2<=((w.alloc (.cells #[Xu 0,Xu 0] 104)).alloc (Xd ps t)).heap.size:=by simp
 have hi:=hx.fit.inv;have has:=kZ (h.below B1) hi hx.t1 hx.t2;generalize d8:w.alloc (.cells #[Xu 0,Xu 0] 104)=Wa at*;generalize hW:Wa.alloc (Xd ps t)=W0 at*;have eo:Wa.heap.size=w.heap.size+1:=z1;have au:=fun W (hw:Below W0.heap.size W0 W) {n:BN} {hh:Nat} (hb:jg S t hh n)=>kI (h.below (B0.trans (hw.mono B0.size))) hi hb;have bx:=fun W (hw:Below W0.heap.size W0 W) {n:BN} {hh:Nat} (hb:jg S t hh n) hz=>nS (h.below (B0.trans (hw.mono B0.size))) hi hb hz;have a4:=bx W0 (aa _ _) hx.read hx.size.2;have a4:Cb 175 #[FH ps t,Xu (Bt.hd x:Nat)] W0 (Xi ((Bt.its x).length:Nat)):=a4;obtain⟨x0,x1⟩:=Fp q3;have HG:=kq4 (kq4 B0 q2 q3 hz) @au @bx has;have HX:=If hx;have d3:=hx.few;obtain⟨n0,bj⟩:=Ii (Bt.hd x);obtain⟨L,hL⟩:=Ii (Bt.its x).length;rw[bj,hL] at a4;rw[hL] at a9 d3;have HR:=kq2 hke bj;rw[bj];unfold FH at a4;have H0:=If a4;have ee:¬((L:Int)<=k):=by omega
 have ed:((k:Int)<0)=False:=eq_false (by omega);have eg:(L<=k)=False:=eq_false (by omega);clear au bx h hx hi B0 B1 q1 q2 q3 z1 hz has a4 hke bj hL;go_enter func322,ntmps322;go_wp2_with fail;refine Jc HG.d ?_;go_wp2_with fail;refine b8 H0.out fun w1 hb1=>?_;have ds:=If hb1;clear hb1 x0 x1;go_wp2_with fail
 go_loopw [2,3,12,13,14,15,36] (fun s2 s3 _ _ _ _ s36 wr=>∃(d' i kk hh:Nat),s2=Xu hh/\s3=Xi kk/\s36=Xi i/\i+d'<40/\kk<=1000000/\Hid (Below W0.heap.size W0 wr/\∃y:Bt (d'+1),Bt.Walk S o t y/\Bt.hd y=hh/\(Bt.its y)[kk]?=some e)) (fun _ _ _ _ _ _ s36 _=>40-(intOf s36).toNat)
 case atStart=>exact⟨d,0,k,n0,rfl,rfl,rfl,by omega,by omega,ds.out,x,HX.out,HR.b,HR.a⟩
 case round=>
  obtain⟨d',i,kk,hh,rfl,rfl,rfl,ea,d9,I⟩:=hrel;obtain⟨hB,y,hy,cx,an⟩:=I.out;have hlt:(i:Int)<40:=by omega
  have t3:=(hB.block (w.heap.size+1) (by have:=HG.a.d;omega)).trans HG.a.c;obtain⟨x0,x1⟩:=Fp t3;have au:=HG.b wr hB hy.read;unfold FH eC at au;rw[cx] at au;have HY:=kq3 hB hy an;clear hB hy cx an t3;obtain⟨n,hn⟩:=Ii (Bt.bn y);rw[hn] at au;have b9:=If au;clear au;go_wp2_with fail;refine b9.out.mono ?_;rintro e w1 ⟨vk,vv,vc,rfl,rows,hb⟩;obtain⟨Ak,ck,rfl⟩:=rows.k.slice2;obtain⟨Av,cv,rfl⟩:=rows.v.slice2;obtain⟨Ac,cc,rfl⟩:=rows.c.slice2;have a9:n.keys.length=(Bn.es y).length:=by rw[<-hn];unfold Bt.bn;rw[ao]
  have b2:n.vals.length=(Bn.es y).length:=by rw[<-hn];unfold Bt.bn;rw[ao]
  have bq:n.kids.length=(Bn.ks y).length:=by rw[<-hn];unfold Bt.bn;rw[ao]
  rw[a9] at rows;rw[b2] at rows;rw[bq] at rows;rw[a9,b2,bq];generalize n.size=sz at*;have hy:=HY.b;have d7:=hy.es.2.2;generalize c':(Bn.es y).length=lk at*;generalize c9:(Bn.ks y).length=lc at*;have A1:=(aa w1.heap.size w1).alloc Ih (.cells #[.slice Ak lk ck,.slice Av lk cv,.slice Ac lc cc,Xu sz] 215);have p1:=heap_alloc_new w1 (.cells #[.slice Ak lk ck,.slice Av lk cv,.slice Ac lc cc,Xu sz] 215);have B1:=HY.a.trans ((hb.trans (A1.mono hb.size)).mono HY.a.size);have a0:=rows.below A1;have bu:w1.heap.size<(w1.alloc (.cells #[.slice Ak lk ck,.slice Av lk cv,.slice Ac lc cc,Xu sz] 215)).heap.size:=by simp
  obtain⟨W1,cp⟩:=Ii (w1.alloc (.cells #[.slice Ak lk ck,.slice Av lk cv,.slice Ac lc cc,Xu sz] 215));rw[cp] at A1 p1 B1 a0 bu;have t3:=(B1.block (w.heap.size+1) (by have:=HG.a.d;omega)).trans HG.a.c;have q6:=(B1.block w.heap.size (by have:=HG.a.d;omega)).trans HG.a.b;have ba:=a0.k.hrow;have bb:=a0.v.hrow;have a':=a0.c.hrow;rw[<-hn] at ba bb a';have ba:FD W1 (.slice Ak lk ck) ((Bn.es y).map (·.kh)):=ba;have bb:FD W1 (.slice Av lk cv) ((Bn.es y).map (·.vh)):=bb;have a':FD W1 (.slice Ac lc cc) ((Bn.ks y).map Bt.hd):=a';have d6:=HY.a.size;have bk:=HG.a.d;have ch:∀g o,Ak=some ⟨g,o,none⟩->w.heap.size≠g:=fun g o e=>by subst e;have:=a0.k.ge g rfl;omega
  have cj:∀g o,Av=some ⟨g,o,none⟩->w.heap.size≠g:=fun g o e=>by subst e;have:=a0.v.ge g rfl;omega
  have cb:∀g o,Ac=some ⟨g,o,none⟩->w.heap.size≠g:=fun g o e=>by subst e;have:=a0.c.ge g rfl;omega
  have dd:w.heap.size≠w1.heap.size:=by have:=hb.size;omega
  have dn:w.heap.size+1<W1.heap.size:=by have:=B1.size;omega
  have H1:=kq6 B1 p1 (kq3 ba bb a') t3 bu q6;have HN:=kq5 ch cj cb dd dn;have HK:=kq2 c' c9;clear ch cj cb dd dn d6 bk rows a0 hb A1 p1 B1 t3 ba bb a' b9 a9 b2 bq hn bu q6 c' c9 hy x0 x1;have d0:=If (aa W1.heap.size W1);obtain⟨su,b1⟩:∃su:Nat->Nat,fV y=su:=⟨_,rfl⟩;have d5:su 0=0:=by rw[<-b1];simp[fV]
  have bd:=If b1;clear b1;have p2:=H1.b;obtain⟨y0,y1,y2,y3⟩:=Fy p2;go_wp2_with fail;clear y0 y1 y2 y3 p2 cp
  go_loopw [3,14,15] (fun s3 s14 _ wr=>∃j q:Nat,j<=lk/\s3=Xi q/\s14=Xi j/\j+su j+q=kk/\Hid (Below W1.heap.size W1 wr)) (fun _ s14 _ _=>lk-(intOf s14).toNat)
  case atStart=>exact⟨0,kk,by omega,rfl,rfl,by rw[d5];omega,d0⟩
  case round=>
   obtain⟨j,q,ec,rfl,rfl,c7,ad⟩:=hrel;have p2:=(ad.out.block w1.heap.size H1.e).trans H1.b;have t2:=(ad.out.block (w.heap.size+1) HN.e).trans H1.d;have q2:=(ad.out.block w.heap.size (by have:=HN.e;omega)).trans H1.f;obtain⟨x0,x1⟩:=Fp t2;obtain⟨y0,y1,y2,y3⟩:=Fy p2;obtain⟨z0,z1⟩:=Fp q2;obtain⟨f0,f1⟩:=ef q2;have HQ:=If q2;clear p2 t2 q2
   cases d' with
   | zero=>
    have d2:lc=0:=by rw[<-HK.b,Bt.nil_of_zero (Bn.ks y)];rfl
    subst d2;have ap:su j=0:=by rw[<-bd.out];unfold fV;rw[Bt.nil_of_zero (Bn.ks y)];simp
    have an:=HY.c;rw[Bt.its_leaf] at an;have c8:=(aq.1 an).1;rw[HK.a] at c8;have c5:j<lk:=by omega
    have c6:(j:Int)<lk:=by omega
    by_cases hq0:q=0
    ·subst hq0;have a8:kk=j:=by omega
     rw[a8] at an;obtain⟨gk,ok,rfl,a1⟩:=FD.at (f:=fun d:It=>d.kh) (l:=Bn.es y) H1.c.a an;obtain⟨gv,ov,rfl,a2⟩:=FD.at (f:=fun d:It=>d.vh) (l:=Bn.es y) H1.c.b an;have dk:=(ad.out.cell (p:=⟨gk,ok+j,none⟩) (fK a1)).trans a1;have dv:=(ad.out.cell (p:=⟨gv,ov+j,none⟩) (fK a2)).trans a2;clear a1 a2 an c8 a8 c7;go_wp2_with fail
     go_region
     go_wp2_with fail;have BW:Below w.heap.size w wr:=HG.a.a.trans ((H1.a.trans (ad.out.mono H1.a.size)).mono HG.a.a.size);have eW:=ew HQ.out (Xu (e.kh:Nat)) (Xu (e.vh:Nat));have BF:=eT BW (b:=w.heap.size) (by omega) (Xu (e.kh:Nat)) (Xu (e.vh:Nat));generalize ((wr.setCell ⟨w.heap.size,0,none⟩ (Xu (e.kh:Nat))).setCell ⟨w.heap.size,1,none⟩ (Xu (e.vh:Nat)))=WF at*;exact qBkac
    ·have el:¬((q:Int)<=0):=by omega
     have en:IntKind.i64.wrap ((q:Int)-1)=(q:Int)-1:=az _ (by omega);have em:su (j+1)=0:=by rw[<-bd.out];unfold fV;rw[Bt.nil_of_zero (Bn.ks y)];simp
     clear an;go_wp2_with fail;go_roundw
     case rel=>exact⟨j+1,q-1,by omega,by congr 1;omega,by simp,by omega,ad⟩
     case measure=>simp[intOf];omega
   | succ d'=>
    have hy:=HY.b;have bt:=Bt.Ok.kids hy.ok;rw[HK.a,HK.b] at bt;have ek:(0:Int)<lc:=by omega
    have a7:j<(Bn.ks y).length:=by rw[HK.b];omega
    have eb:(j:Int)<lc:=by omega
    have cu:(Bn.ks y)[j]?=some (Bn.ks y)[j]:=af a7;obtain⟨gc,oc,rfl,ar⟩:=FD.at (f:=Bt.hd) (l:=Bn.ks y) H1.c.c cu;have a3:=hy.kid (aw a7);have ap:=fun W (hW:Below W1.heap.size W1 W)=>HG.c W (H1.a.trans (hW.mono H1.a.size)) a3.read a3.size.2;have ap:∀W,Below W1.heap.size W1 W->Cb 175 #[FH ps t,Xu (Bt.hd (Bn.ks y)[j]:Nat)] W (Xi ((Bt.its (Bn.ks y)[j]).length:Nat)):=ap;unfold FH at ap;have a6:=fun m=>hy.at_kid (m:=m) a7;have a5:=fun h=>hy.at_here a7 h;have bc:=xt a7;have b0:=xr hy j;have bs:=a3.few;rw[bd.out] at a6 a5 bc b0;obtain⟨kj,a8⟩:=Ii ((Bn.ks y)[j]);rw[a8] at ap a6 a5 bc ar a3 bs;obtain⟨nj,bv⟩:=Ii (Bt.hd kj);obtain⟨zj,b4⟩:=Ii (Bt.its kj).length;rw[bv] at ap ar;rw[b4] at ap a6 a5 bc bs;have dc:=(ad.out.cell (p:=⟨gc,oc+j,none⟩) (fK ar)).trans ar;have cw:=HN.c gc oc rfl;have HJ:=kq8 a6 a5 bc a3 bv b4 b0 bs;have HS:=If ap;have b':=If ar;have hke:=HY.c;rw[<-c7] at hke;have HE:=If hke;obtain⟨I,bf,bm⟩:=ub W1 w.heap.size;have dp:=fun x:Fq I=>(bf _ x.ok w1.heap.size H1.e (Ne.symm HN.d)).trans H1.b;have bk:=fun x:Fq I=>(bf _ x.ok (w.heap.size+1) HN.e (by omega)).trans H1.d;obtain⟨m0,m1,m2,m3⟩:=iB dp;obtain⟨n0,n1⟩:=fw bk;have o0:∀x:Fq I,x.to.cell? ⟨gc,oc+j,none⟩=some (Xu nj):=fun x=>(j9 (bf _ x.ok gc (fK ar) (Ne.symm cw))).trans ar;have cn:I wr.drew:=bm _ fun k hk _=>ad.out.block k hk;have HI:=If bm;have d1:=If bt;clear bm dp bk cu ap ar cw a6 a5 bc a3 bv b4 a8 hke hy b0 bt
    by_cases c5:j<lk
    ·have c6:(j:Int)<lk:=by omega
     go_wp2_with fail;refine fh I (.take 0 (.take 1 (.take 2 (.take 3 (.take 4 (.take 5 (.go 6 (.take 7 .nil)))))))) (by kernel_rfl) (by kernel_rfl) cn ?_
     iterate 6
      refine' pT ?_ ?_;rotate_left
      ·intro x;go_simp
       try rfl
      try simp only[pu]
     refine pD fun K hK=>?_;go_simp;refine(HS.out wr.drew ad.out.drew).mono ?_;rintro e' w3 ⟨rfl,bo⟩;have B3:=ad.out.drew.trans (bo.mono ad.out.size);have q3:=(bo.block w.heap.size (gl HQ.out)).trans HQ.out;have ai:=kq2 B3 q3
     try go_simp
     refine hK.out _ _ (HI.out _ fun k hk _=>ai.a.block k hk) ?_;clear hK K
     try simp only[pu]
     clear B3 bo q3;refine' pT ?_ ?_;rotate_left
     ·intro x;go_simp
      try rfl
     try simp only[pu]
     refine eP ?_;clear m0 m1 m2 m3 n0 n1 o0 bf HI I cn x0 x1 y0 y1 y2 y3 z0 z1 f0 f1 dc;have p2:=(ai.a.block w1.heap.size H1.e).trans H1.b;have q2:=ai.b;obtain⟨y0,y1,y2,y3⟩:=Fy p2;obtain⟨z0,z1⟩:=Fp q2;obtain⟨f0,f1⟩:=ef q2;have dc:=(ai.a.cell (p:=⟨gc,oc+j,none⟩) (fK (b'.out))).trans b'.out;clear p2 q2
     rcases Nat.lt_trichotomy q zj with hq | hq | hq
     ·have g1:(q:Int)<=zj:=by omega
      have g2:((q:Int)==zj)=false:=by simp;omega
      have g3:¬(q:Int)=zj:=by omega
      go_wp2_with fail;go_roundw
      case rel=>exact⟨d',i+1,q,nj,rfl,rfl,by simp,by omega,by have:=HJ.h;omega,H1.a.trans (ai.a.mono H1.a.size),kj,HJ.d,HJ.e,by rw[<-HJ.a q hq];exact HE.out⟩
      case measure=>simp[intOf];omega
     ·subst hq;have hke:=HE.out;rw[HJ.b (by rw[HK.a];exact c5)] at hke;obtain⟨gk,ok,rfl,a1⟩:=FD.at (f:=fun d:It=>d.kh) (l:=Bn.es y) H1.c.a hke;obtain⟨gv,ov,rfl,a2⟩:=FD.at (f:=fun d:It=>d.vh) (l:=Bn.es y) H1.c.b hke;have dk:=(ai.a.cell (p:=⟨gk,ok+j,none⟩) (fK a1)).trans a1;have dv:=(ai.a.cell (p:=⟨gv,ov+j,none⟩) (fK a2)).trans a2;clear a1 a2 hke;go_wp2_with fail
      go_region
      go_wp2_with fail;have BW:Below w.heap.size w w3:=HG.a.a.trans ((H1.a.trans (ai.a.mono H1.a.size)).mono HG.a.a.size);have eW:=ew ai.b (Xu (e.kh:Nat)) (Xu (e.vh:Nat));have BF:=eT BW (b:=w.heap.size) (by omega) (Xu (e.kh:Nat)) (Xu (e.vh:Nat));generalize ((w3.setCell ⟨w.heap.size,0,none⟩ (Xu (e.kh:Nat))).setCell ⟨w.heap.size,1,none⟩ (Xu (e.vh:Nat)))=WF at*;exact qBkac
     ·have g1:¬(q:Int)<=zj:=by omega
      have g4:IntKind.i64.wrap ((zj:Int)+1)=(zj:Int)+1:=az _ (by have:=HJ.h;omega);have g5:IntKind.i64.wrap ((q:Int)-((zj:Int)+1))=(q:Int)-((zj:Int)+1):=az _ (by omega);go_wp2_with fail;go_roundw
      case rel=>exact⟨j+1,q-(zj+1),by omega,by congr 1;omega,by simp,by have:=HJ.c;omega,If ai.a⟩
      case measure=>simp[intOf];omega
    ·have c6:¬(j:Int)<lk:=by omega
     have c4:j=lk:=by omega
     have d4:=(aq.1 HE.out).1;have c3:=Bt.its_length HY.b.ok.okN;have cq:su lc=((Bn.ks y).map fun k=>(Bt.its k).length).sum:=by rw[<-bd.out];unfold fV;rw[aT (by rw[HK.b];exact Nat.le_refl _)]
     rw[<-cq,HK.a,d1.out] at c3;have hq:q<zj:=by have:=HJ.c;subst c4;omega
     have ca:=If hq;clear c3 cq d4 hq c4;go_wp2_with fail;go_roundw
     case rel=>exact⟨d',i+1,q,nj,rfl,rfl,by simp,by omega,by have:=HJ.h;have:=ca.out;omega,H1.a.trans (ad.out.mono H1.a.size),kj,HJ.d,HJ.e,by rw[<-HJ.a q ca.out];exact HE.out⟩
     case measure=>simp[intOf];omega
end
section
open Go.RowKit Tryz Go.BigFrame Go.Maps Go.WideMaps Lf
variable{S:St}{Y:Nat->Prop}{ps:Nat}{w:World}{x1:Nat}{x:Nat}
theorem gW(h:Ig w ps S Y)(tu:Bool)(hh:Nat):(sidesT S tu hh).1<2^64/\(sidesT S tu hh).2<2^64:=by
 have:=fs h hh;unfold sidesT
 split
 ·exact⟨this.right,this.left⟩
 ·exact⟨this.left,this.right⟩
theorem qBkad{P:Prop}(h:P:=by
 go_wp2_with fail;clear c0 c1;go_ret;exact⟨rfl,H2.a.mono (fun k hk=>ab hk),H2.c⟩):P:=h
theorem DU{S S':St}(h:Ig w ps S Y)(hi:Fv S)(tu:Bool)(m t low:Nat)(hm:m<2^64)(ht:t<2^64)(hw:low<2^64)(d:Nat)(hd:d<=200)(h200:d=200)(hp:putJ S tu m t low true=some S'):
 Ct 221 #[dP ps tu,Xu t,Xu m,Xu low,Xi d] w fun e w'=>e=.returned (Xu m)/\Ig w' ps S' Y/\Fo Y w w':=by
 unfold dP;have cp:=fun W (hW:Ig W ps S (fun k=>Y k\/(w.heap.size<=k/\k<w.heap.size+1)))=>jW hW hi tu m t low true hm ht hw hp;subst h200;unfold dP at cp;have q0:=heap_alloc_new w (Xc ps tu);have B0:=(aa w.heap.size w).alloc Ih (Xc ps tu);have an:(w.alloc (Xc ps tu)).heap.size=w.heap.size+1:=by simp
 have z0:=h.wide B0;rw[an] at z0;have k0:Fo Y w (w.alloc (Xc ps tu)):=Fo.of_below B0 h.yl;have au:w.heap.size<(w.alloc (Xc ps tu)).heap.size:=by omega
 have HG:=If cp;clear cp hp hi au an hd;have H0:=kq3 z0 q0 k0;clear z0 q0 k0 B0 h;go_enter func221,ntmps221;go_wp2_with fail;have ap:w.heap.size<(w.alloc (Xc ps tu)).heap.size:=by simp
 have ar:∀x:Fq (Below (w.alloc (Xc ps tu)).heap.size (w.alloc (Xc ps tu))),x.to.cell? ⟨w.heap.size,0,none⟩=some (PV ps):=fun x=>by rw[cell_of_block ((x.ok.block _ ap).trans H0.b)];rfl
 generalize a0:w.alloc (Xc ps tu)=W0 at*;refine iq (Below W0.heap.size W0) (by kernel_rfl) (by kernel_rfl) (aa _ _).drew (fun _=>?_)
 repeat (first | go_big_quiet_skip | (go_big_quiet_want;go_big_quiet_op;go_big_quiet_on))
 refine wpQuiet_nil ?_;rintro _ ⟨v,rfl⟩;have rr:=(v.ok.block w.heap.size ap).trans H0.b;have hs:=H0.a.below v.ok;have hk:=H0.c.trans ((H0.a.keep v.ok).mono (fun k hk=>ab hk));obtain⟨w1,ai⟩:=Ii v.to;rw[ai] at rr hs hk⊢;clear ai v ar;obtain⟨c0,c1⟩:=Fp rr;have H1:=kq3 hs rr hk;clear rr hs hk;go_wp2_with fail;clear c0 c1;refine(HG.out _ H1.a).mono ?_;rintro e w2 ⟨rfl,hs,ad⟩;have rr:=(ad.block w.heap.size (ae ⟨Nat.le_refl _,aV _⟩)).trans H1.b;have hk:=H1.c.trans (ad.mono (fun k hk=>ab hk));obtain⟨c0,c1⟩:=Fp rr;have H2:=kq3 hs rr hk;clear ad rr hs hk;exact qBkad
theorem DW{S S':St}(h:Ig w ps S Y)(hi:Fv S)(tu:Bool)(m t low:Nat)(hm:m<2^64)(ht:t<2^64)(hw:low<2^64)(d:Nat)(_:d<=200)(h200:d≠200)(hr:redT S t=false)(hb:blackT S t=blackT S low)(hp:putJ S tu m t low true=some S'):
 Ct 221 #[dP ps tu,Xu t,Xu m,Xu low,Xi d] w fun e w'=>e=.returned (Xu m)/\Ig w' ps S' Y/\Fo Y w w':=by
 unfold dP;have cp:=fun W (hW:Ig W ps S (fun k=>Y k\/(w.heap.size<=k/\k<w.heap.size+1)))=>jW hW hi tu m t low true hm ht hw hp;have an:=fun W (hW:Ig W ps S (fun k=>Y k\/(w.heap.size<=k/\k<w.heap.size+1)))=>gq hW hi t ht;have ad:=fun W (hW:Ig W ps S (fun k=>Y k\/(w.heap.size<=k/\k<w.heap.size+1)))=>gy hW hi t ht;have a0:=fun W (hW:Ig W ps S (fun k=>Y k\/(w.heap.size<=k/\k<w.heap.size+1)))=>gy hW hi low hw;rw[hr] at an;rw[hb] at ad;generalize blackT S low=bk at*;have hq:((d:Int)==200)=false:=by simp;omega
 unfold dP at cp;have q0:=heap_alloc_new w (Xc ps tu);have B0:=(aa w.heap.size w).alloc Ih (Xc ps tu);have a2:(w.alloc (Xc ps tu)).heap.size=w.heap.size+1:=by simp
 have z0:=h.wide B0;rw[a2] at z0;have k0:Fo Y w (w.alloc (Xc ps tu)):=Fo.of_below B0 h.yl;have a5:w.heap.size<(w.alloc (Xc ps tu)).heap.size:=by omega
 have HG:=kq4 cp an ad a0;clear cp an ad a0 hp hi a5 a2 hr hb h200;have H0:=kq3 z0 q0 k0;clear z0 q0 k0 B0 h;go_enter func221,ntmps221;go_wp2_with fail;have a3:w.heap.size<(w.alloc (Xc ps tu)).heap.size:=by simp
 have a4:∀x:Fq (Below (w.alloc (Xc ps tu)).heap.size (w.alloc (Xc ps tu))),x.to.cell? ⟨w.heap.size,0,none⟩=some (PV ps):=fun x=>by rw[cell_of_block ((x.ok.block _ a3).trans H0.b)];rfl
 have au:=fun x:Fq (Below (w.alloc (Xc ps tu)).heap.size (w.alloc (Xc ps tu)))=>Calls.keeps_below (HG.b x.to (H0.a.below x.ok));have ar:=fun x:Fq (Below (w.alloc (Xc ps tu)).heap.size (w.alloc (Xc ps tu)))=>Calls.keeps_below (HG.c x.to (H0.a.below x.ok));have ap:=fun x:Fq (Below (w.alloc (Xc ps tu)).heap.size (w.alloc (Xc ps tu)))=>Calls.keeps_below (HG.d x.to (H0.a.below x.ok));generalize a6:w.alloc (Xc ps tu)=W0 at*;refine iq (Below W0.heap.size W0) (by kernel_rfl) (by kernel_rfl) (aa _ _).drew (fun _=>?_)
 repeat (first | go_big_quiet_skip | (go_big_quiet_want;go_big_quiet_op;first | go_big_quiet_on | (apply Exists.intro;refine⟨fun x=>?_,?_⟩;(· first | with_reducible exact au x | with_reducible exact ar x | with_reducible exact ap x);go_big_quiet_on)))
 refine wpQuiet_nil ?_;rintro _ ⟨v,rfl⟩;have rr:=(v.ok.block w.heap.size a3).trans H0.b;have hs:=H0.a.below v.ok;have hk:=H0.c.trans ((H0.a.keep v.ok).mono (fun k hk=>ab hk));obtain⟨w1,a1⟩:=Ii v.to;rw[a1] at rr hs hk⊢;clear a1 v a4 au ar ap;obtain⟨c0,c1⟩:=Fp rr;have H1:=kq3 hs rr hk;clear rr hs hk;go_wp2_with fail;clear c0 c1;refine(HG.a _ H1.a).mono ?_;rintro e w2 ⟨rfl,hs,ai⟩;have rr:=(ai.block w.heap.size (ae ⟨Nat.le_refl _,aV _⟩)).trans H1.b;have hk:=H1.c.trans (ai.mono (fun k hk=>ab hk));obtain⟨c0,c1⟩:=Fp rr;have H2:=kq3 hs rr hk;clear ai rr hs hk;exact qBkad
theorem DV(h:Ig w ps S Y)(hi:Fv S)(tu:Bool)(m t low:Nat)(_:m<2^64)(ht:t<2^64)(_:low<2^64)(d:Nat)(hd:d<=200)(h200:d≠200)(hr:redT S t=true){S1 S2:St}(hx1:x1<2^64)(hi1:Fv S1)(_:Fv S2)
 (cr:∀(W:World) (Z:Nat->Prop),Ig W ps S Z->Ct 221 #[dP ps tu,Xu (sidesT S tu t).2,Xu m,Xu low,Xi ((d:Int)+1)] W fun e w'=>e=.returned (Xu x1)/\Ig w' ps S1 Z/\Fo Z W w')
 (hp:putJ S1 tu t (sidesT S tu t).1 x1 (redT S t)=some S2):
 Ct 221 #[dP ps tu,Xu t,Xu m,Xu low,Xi d] w fun e w'=>e=.returned (Xu t)/\Ig w' ps S2 Y/\Fo Y w w':=by
 have ar:=gW h tu t;unfold dP at cr⊢;have an:=fun W (hW:Ig W ps S (fun k=>Y k\/(w.heap.size<=k/\k<w.heap.size+1)))=>gq hW hi t ht;have ai:=fun W (hW:Ig W ps S (fun k=>Y k\/(w.heap.size<=k/\k<w.heap.size+1)))=>jX hW hi tu t ht;have cp:=fun W (hW:Ig W ps S1 (fun k=>Y k\/(w.heap.size<=k/\k<w.heap.size+1)))=>jW hW hi1 tu t (sidesT S tu t).1 x1 (redT S t) ht ar.1 hx1 hp;have cr:=fun W (hW:Ig W ps S (fun k=>Y k\/(w.heap.size<=k/\k<w.heap.size+1)))=>cr W _ hW;try unfold dP at ai
 try unfold dP at cp
 rw[hr] at an cp;obtain⟨⟨a7,own⟩,au⟩:∃r,sidesT S tu t=r:=⟨_,rfl⟩;rw[au] at ai cp cr;simp only at ai cp cr;have hq:((d:Int)==200)=false:=by simp;omega
 have a6:IntKind.i64.wrap ((d:Int)+1)=(d:Int)+1:=az _ (by omega);have q0:=heap_alloc_new w (Xc ps tu);have B0:=(aa w.heap.size w).alloc Ih (Xc ps tu);have a1:(w.alloc (Xc ps tu)).heap.size=w.heap.size+1:=by simp
 have z0:=h.wide B0;rw[a1] at z0;have k0:Fo Y w (w.alloc (Xc ps tu)):=Fo.of_below B0 h.yl;have a4:w.heap.size<(w.alloc (Xc ps tu)).heap.size:=by omega
 have HG:=kq4 an ai cp cr;clear an ai cp cr hp hi hi1 a4 a1 hr h200 au ar;have H0:=kq3 z0 q0 k0;clear z0 q0 k0 B0 h;go_enter func221,ntmps221;go_wp2_with fail;have a2:w.heap.size<(w.alloc (Xc ps tu)).heap.size:=by simp
 have a3:∀x:Fq (Below (w.alloc (Xc ps tu)).heap.size (w.alloc (Xc ps tu))),x.to.cell? ⟨w.heap.size,0,none⟩=some (PV ps):=fun x=>by rw[cell_of_block ((x.ok.block _ a2).trans H0.b)];rfl
 have ap:=fun x:Fq (Below (w.alloc (Xc ps tu)).heap.size (w.alloc (Xc ps tu)))=>Calls.keeps_below (HG.a x.to (H0.a.below x.ok));generalize a5:w.alloc (Xc ps tu)=W0 at*;refine iq (Below W0.heap.size W0) (by kernel_rfl) (by kernel_rfl) (aa _ _).drew (fun _=>?_);repeat (first | go_big_quiet_skip | (go_big_quiet_want;go_big_quiet_op;first | go_big_quiet_on | (apply Exists.intro;refine⟨fun x=>?_,?_⟩;(· first | with_reducible exact ap x);go_big_quiet_on)))
 refine wpQuiet_nil ?_;rintro _ ⟨v,rfl⟩;have rr:=(v.ok.block w.heap.size a2).trans H0.b;have hs:=H0.a.below v.ok;have hk:=H0.c.trans ((H0.a.keep v.ok).mono (fun k hk=>ab hk));obtain⟨w1,a0⟩:=Ii v.to;rw[a0] at rr hs hk⊢;clear a0 v a3 ap;obtain⟨c0,c1⟩:=Fp rr;have H1:=kq3 hs rr hk;clear rr hs hk;go_wp2_with fail;clear c0 c1;refine b8 (HG.b _ H1.a) fun w2 hb=>?_;have rr:=(hb.block w.heap.size (gl H1.b)).trans H1.b;have hs:=H1.a.below hb;have hk:=H1.c.trans ((H1.a.keep hb).mono (fun k hk=>ab hk));obtain⟨c0,c1⟩:=Fp rr;have H2:=kq3 hs rr hk;clear hb rr hs hk;go_wp2_with fail;clear c0 c1;refine b8 (HG.a _ H2.a) fun w3 hb=>?_;have rr:=(hb.block w.heap.size (gl H2.b)).trans H2.b;have hs:=H2.a.below hb;have hk:=H2.c.trans ((H2.a.keep hb).mono (fun k hk=>ab hk));obtain⟨c0,c1⟩:=Fp rr;have H3:=kq3 hs rr hk;clear hb rr hs hk;go_wp2_with fail;clear c0 c1;refine(HG.d _ H3.a).mono ?_;rintro e w4 ⟨rfl,hs,ad⟩;have rr:=(ad.block w.heap.size (ae ⟨Nat.le_refl _,aV _⟩)).trans H3.b;have hk:=H3.c.trans (ad.mono (fun k hk=>ab hk));obtain⟨c0,c1⟩:=Fp rr;have H4:=kq3 hs rr hk;clear ad rr hs hk;go_wp2_with fail;clear c0 c1;refine(HG.c _ H4.a).mono ?_;rintro e w5 ⟨rfl,hs,ad⟩;have rr:=(ad.block w.heap.size (ae ⟨Nat.le_refl _,aV _⟩)).trans H4.b;have hk:=H4.c.trans (ad.mono (fun k hk=>ab hk));obtain⟨c0,c1⟩:=Fp rr;have H5:=kq3 hs rr hk;clear ad rr hs hk;go_wp2_with fail;clear c0 c1;go_ret;exact⟨rfl,H5.a.mono (fun k hk=>ab hk),H5.c⟩
theorem DR(h:Ig w ps S Y)(hi:Fv S)(tu:Bool)(m t low:Nat)(_:m<2^64)(ht:t<2^64)(hw:low<2^64)(d:Nat)(hd:d<=200)(h200:d≠200)(hr:redT S t=false)(hb:blackT S t≠blackT S low){S1 S2:St}(hx1:x1<2^64)(hi1:Fv S1)(hi2:Fv S2)
 (cr:∀(W:World) (Z:Nat->Prop),Ig W ps S Z->Ct 221 #[dP ps tu,Xu (sidesT S tu t).2,Xu m,Xu low,Xi ((d:Int)+1)] W fun e w'=>e=.returned (Xu x1)/\Ig w' ps S1 Z/\Fo Z W w')
 (hp:putJ S1 tu t (sidesT S tu t).1 x1 (redT S t)=some S2) (hf:redT S2 x1=false):
 Ct 221 #[dP ps tu,Xu t,Xu m,Xu low,Xi d] w fun e w'=>e=.returned (Xu t)/\Ig w' ps S2 Y/\Fo Y w w':=by
 have a3:=gW h tu t;unfold dP at cr⊢;have an:=fun W (hW:Ig W ps S (fun k=>Y k\/(w.heap.size<=k/\k<w.heap.size+1)))=>gq hW hi t ht;have ai:=fun W (hW:Ig W ps S (fun k=>Y k\/(w.heap.size<=k/\k<w.heap.size+1)))=>jX hW hi tu t ht;have cp:=fun W (hW:Ig W ps S1 (fun k=>Y k\/(w.heap.size<=k/\k<w.heap.size+1)))=>jW hW hi1 tu t (sidesT S tu t).1 x1 (redT S t) ht a3.1 hx1 hp;have a2:=fun W (hW:Ig W ps S (fun k=>Y k\/(w.heap.size<=k/\k<w.heap.size+1)))=>gy hW hi t ht;have a1:=fun W (hW:Ig W ps S (fun k=>Y k\/(w.heap.size<=k/\k<w.heap.size+1)))=>gy hW hi low hw;have ap:=fun W (hW:Ig W ps S2 (fun k=>Y k\/(w.heap.size<=k/\k<w.heap.size+1)))=>gq hW hi2 x1 hx1;have cr:=fun W (hW:Ig W ps S (fun k=>Y k\/(w.heap.size<=k/\k<w.heap.size+1)))=>cr W _ hW;try unfold dP at ai
 try unfold dP at cp
 rw[hr] at an cp;rw[hf] at ap;have bb:(((blackT S t:Nat):Int)==(blackT S low:Nat))=false:=by simp;omega
 generalize blackT S t=bk1 at*;generalize blackT S low=bk2 at*;obtain⟨⟨bc,own⟩,a4⟩:∃r,sidesT S tu t=r:=⟨_,rfl⟩;rw[a4] at ai cp cr;simp only at ai cp cr;have hq:((d:Int)==200)=false:=by simp;omega
 have ba:IntKind.i64.wrap ((d:Int)+1)=(d:Int)+1:=az _ (by omega);have q0:=heap_alloc_new w (Xc ps tu);have B0:=(aa w.heap.size w).alloc Ih (Xc ps tu);have a6:(w.alloc (Xc ps tu)).heap.size=w.heap.size+1:=by simp
 have z0:=h.wide B0;rw[a6] at z0;have k0:Fo Y w (w.alloc (Xc ps tu)):=Fo.of_below B0 h.yl;have a9:w.heap.size<(w.alloc (Xc ps tu)).heap.size:=by omega
 have HG:=kq7 an ai cp a2 a1 ap cr;clear an ai cp a2 a1 ap cr hp hi hi1 hi2 a9 a6 hr h200 a4 a3 hb hf;have H0:=kq3 z0 q0 k0;clear z0 q0 k0 B0 h;go_enter func221,ntmps221;go_wp2_with fail;have a7:w.heap.size<(w.alloc (Xc ps tu)).heap.size:=by simp
 have a8:∀x:Fq (Below (w.alloc (Xc ps tu)).heap.size (w.alloc (Xc ps tu))),x.to.cell? ⟨w.heap.size,0,none⟩=some (PV ps):=fun x=>by rw[cell_of_block ((x.ok.block _ a7).trans H0.b)];rfl
 have a0:=fun x:Fq (Below (w.alloc (Xc ps tu)).heap.size (w.alloc (Xc ps tu)))=>Calls.keeps_below (HG.a x.to (H0.a.below x.ok));have au:=fun x:Fq (Below (w.alloc (Xc ps tu)).heap.size (w.alloc (Xc ps tu)))=>Calls.keeps_below (HG.d x.to (H0.a.below x.ok));have ar:=fun x:Fq (Below (w.alloc (Xc ps tu)).heap.size (w.alloc (Xc ps tu)))=>Calls.keeps_below (HG.e x.to (H0.a.below x.ok));generalize a':w.alloc (Xc ps tu)=W0 at*;refine iq (Below W0.heap.size W0) (by kernel_rfl) (by kernel_rfl) (aa _ _).drew (fun _=>?_);repeat (first | go_big_quiet_skip | (go_big_quiet_want;go_big_quiet_op;first | go_big_quiet_on | (apply Exists.intro;refine⟨fun x=>?_,?_⟩;(· first | with_reducible exact a0 x | with_reducible exact au x | with_reducible exact ar x);go_big_quiet_on)))
 refine wpQuiet_nil ?_;rintro _ ⟨v,rfl⟩;have rr:=(v.ok.block w.heap.size a7).trans H0.b;have hs:=H0.a.below v.ok;have hk:=H0.c.trans ((H0.a.keep v.ok).mono (fun k hk=>ab hk));obtain⟨w1,a5⟩:=Ii v.to;rw[a5] at rr hs hk⊢;clear a5 v a8 a0 au ar;obtain⟨c0,c1⟩:=Fp rr;have H1:=kq3 hs rr hk;clear rr hs hk;go_wp2_with fail;clear c0 c1;refine b8 (HG.b _ H1.a) fun w2 hb=>?_;have rr:=(hb.block w.heap.size (gl H1.b)).trans H1.b;have hs:=H1.a.below hb;have hk:=H1.c.trans ((H1.a.keep hb).mono (fun k hk=>ab hk));obtain⟨c0,c1⟩:=Fp rr;have H2:=kq3 hs rr hk;clear hb rr hs hk;go_wp2_with fail;clear c0 c1;refine b8 (HG.a _ H2.a) fun w3 hb=>?_;have rr:=(hb.block w.heap.size (gl H2.b)).trans H2.b;have hs:=H2.a.below hb;have hk:=H2.c.trans ((H2.a.keep hb).mono (fun k hk=>ab hk));obtain⟨c0,c1⟩:=Fp rr;have H3:=kq3 hs rr hk;clear hb rr hs hk;go_wp2_with fail;clear c0 c1;refine(HG.g _ H3.a).mono ?_;rintro e w4 ⟨rfl,hs,ad⟩;have rr:=(ad.block w.heap.size (ae ⟨Nat.le_refl _,aV _⟩)).trans H3.b;have hk:=H3.c.trans (ad.mono (fun k hk=>ab hk));obtain⟨c0,c1⟩:=Fp rr;have H4:=kq3 hs rr hk;clear ad rr hs hk;go_wp2_with fail;clear c0 c1;refine(HG.c _ H4.a).mono ?_;rintro e w5 ⟨rfl,hs,ad⟩;have rr:=(ad.block w.heap.size (ae ⟨Nat.le_refl _,aV _⟩)).trans H4.b;have hk:=H4.c.trans (ad.mono (fun k hk=>ab hk));obtain⟨c0,c1⟩:=Fp rr;have H5:=kq3 hs rr hk;clear ad rr hs hk;go_wp2_with fail;clear c0 c1;refine b8 (HG.f _ H5.a) fun w6 hb=>?_;have rr:=(hb.block w.heap.size (gl H5.b)).trans H5.b;have hs:=H5.a.below hb;have hk:=H5.c.trans ((H5.a.keep hb).mono (fun k hk=>ab hk));obtain⟨c0,c1⟩:=Fp rr;have H6:=kq3 hs rr hk;clear hb rr hs hk;go_wp2_with fail;clear c0 c1;go_ret;exact⟨rfl,H6.a.mono (fun k hk=>ab hk),H6.c⟩
theorem DS(h:Ig w ps S Y)(hi:Fv S)(tu:Bool)(m t low:Nat)(_:m<2^64)(ht:t<2^64)(hw:low<2^64)(d:Nat)(hd:d<=200)(h200:d≠200)(hr:redT S t=false)(hb:blackT S t≠blackT S low){S1 S2:St}(hx1:x1<2^64)(hi1:Fv S1)(hi2:Fv S2)
 (cr:∀(W:World) (Z:Nat->Prop),Ig W ps S Z->Ct 221 #[dP ps tu,Xu (sidesT S tu t).2,Xu m,Xu low,Xi ((d:Int)+1)] W fun e w'=>e=.returned (Xu x1)/\Ig w' ps S1 Z/\Fo Z W w')
 (hp:putJ S1 tu t (sidesT S tu t).1 x1 (redT S t)=some S2) (hf:redT S2 x1=true) (hg:redT S2 (sidesT S2 tu x1).2=false):
 Ct 221 #[dP ps tu,Xu t,Xu m,Xu low,Xi d] w fun e w'=>e=.returned (Xu t)/\Ig w' ps S2 Y/\Fo Y w w':=by
 have a5:=gW h tu t;unfold dP at cr⊢;have ar:=fun W (hW:Ig W ps S (fun k=>Y k\/(w.heap.size<=k/\k<w.heap.size+1)))=>gq hW hi t ht;have an:=fun W (hW:Ig W ps S (fun k=>Y k\/(w.heap.size<=k/\k<w.heap.size+1)))=>jX hW hi tu t ht;have cp:=fun W (hW:Ig W ps S1 (fun k=>Y k\/(w.heap.size<=k/\k<w.heap.size+1)))=>jW hW hi1 tu t (sidesT S tu t).1 x1 (redT S t) ht a5.1 hx1 hp;have a4:=fun W (hW:Ig W ps S (fun k=>Y k\/(w.heap.size<=k/\k<w.heap.size+1)))=>gy hW hi t ht;have a3:=fun W (hW:Ig W ps S (fun k=>Y k\/(w.heap.size<=k/\k<w.heap.size+1)))=>gy hW hi low hw;have au:=fun W (hW:Ig W ps S2 (fun k=>Y k\/(w.heap.size<=k/\k<w.heap.size+1)))=>gq hW hi2 x1 hx1;have ap:=fun W (hW:Ig W ps S2 (fun k=>Y k\/(w.heap.size<=k/\k<w.heap.size+1)))=>jX hW hi2 tu x1 hx1;have ai:=fun W (hW:Ig W ps S2 (fun k=>Y k\/(w.heap.size<=k/\k<w.heap.size+1)))=>gq hW hi2 (sidesT S2 tu x1).2 (gW hW tu x1).2;have cr:=fun W (hW:Ig W ps S (fun k=>Y k\/(w.heap.size<=k/\k<w.heap.size+1)))=>cr W _ hW;try unfold dP at an
 try unfold dP at cp
 try unfold dP at ap
 rw[hr] at ar cp;rw[hf] at au;have bf:(((blackT S t:Nat):Int)==(blackT S low:Nat))=false:=by simp;omega
 generalize blackT S t=bk1 at*;generalize blackT S low=bk2 at*;rw[hg] at ai;obtain⟨⟨bj,own⟩,a6⟩:∃r,sidesT S tu t=r:=⟨_,rfl⟩;rw[a6] at an cp cr;simp only at an cp cr;obtain⟨⟨sa,sb⟩,a7⟩:∃r,sidesT S2 tu x1=r:=⟨_,rfl⟩;rw[a7] at ap ai;simp only at ap ai;have hq:((d:Int)==200)=false:=by simp;omega
 have bd:IntKind.i64.wrap ((d:Int)+1)=(d:Int)+1:=az _ (by omega);have q0:=heap_alloc_new w (Xc ps tu);have B0:=(aa w.heap.size w).alloc Ih (Xc ps tu);have a9:(w.alloc (Xc ps tu)).heap.size=w.heap.size+1:=by simp
 have z0:=h.wide B0;rw[a9] at z0;have k0:Fo Y w (w.alloc (Xc ps tu)):=Fo.of_below B0 h.yl;have bb:w.heap.size<(w.alloc (Xc ps tu)).heap.size:=by omega
 have HG:=kq9 ar an cp a4 a3 au ap ai cr;clear ar an cp a4 a3 au ap ai cr hp hi hi1 hi2 bb a9 hr h200 a6 a5 hb hf hg a7;have H0:=kq3 z0 q0 k0;clear z0 q0 k0 B0 h;go_enter func221,ntmps221;go_wp2_with fail;have a':w.heap.size<(w.alloc (Xc ps tu)).heap.size:=by simp
 have ba:∀x:Fq (Below (w.alloc (Xc ps tu)).heap.size (w.alloc (Xc ps tu))),x.to.cell? ⟨w.heap.size,0,none⟩=some (PV ps):=fun x=>by rw[cell_of_block ((x.ok.block _ a').trans H0.b)];rfl
 have a2:=fun x:Fq (Below (w.alloc (Xc ps tu)).heap.size (w.alloc (Xc ps tu)))=>Calls.keeps_below (HG.a x.to (H0.a.below x.ok));have a1:=fun x:Fq (Below (w.alloc (Xc ps tu)).heap.size (w.alloc (Xc ps tu)))=>Calls.keeps_below (HG.d x.to (H0.a.below x.ok));have a0:=fun x:Fq (Below (w.alloc (Xc ps tu)).heap.size (w.alloc (Xc ps tu)))=>Calls.keeps_below (HG.e x.to (H0.a.below x.ok));generalize bc:w.alloc (Xc ps tu)=W0 at*;refine iq (Below W0.heap.size W0) (by kernel_rfl) (by kernel_rfl) (aa _ _).drew (fun _=>?_);repeat (first | go_big_quiet_skip | (go_big_quiet_want;go_big_quiet_op;first | go_big_quiet_on | (apply Exists.intro;refine⟨fun x=>?_,?_⟩;(· first | with_reducible exact a2 x | with_reducible exact a1 x | with_reducible exact a0 x);go_big_quiet_on)))
 refine wpQuiet_nil ?_;rintro _ ⟨v,rfl⟩;have rr:=(v.ok.block w.heap.size a').trans H0.b;have hs:=H0.a.below v.ok;have hk:=H0.c.trans ((H0.a.keep v.ok).mono (fun k hk=>ab hk));obtain⟨w1,a8⟩:=Ii v.to;rw[a8] at rr hs hk⊢;clear a8 v ba a2 a1 a0;obtain⟨c0,c1⟩:=Fp rr;have H1:=kq3 hs rr hk;clear rr hs hk;go_wp2_with fail;clear c0 c1;refine b8 (HG.b _ H1.a) fun w2 hb=>?_;have rr:=(hb.block w.heap.size (gl H1.b)).trans H1.b;have hs:=H1.a.below hb;have hk:=H1.c.trans ((H1.a.keep hb).mono (fun k hk=>ab hk));obtain⟨c0,c1⟩:=Fp rr;have H2:=kq3 hs rr hk;clear hb rr hs hk;go_wp2_with fail;clear c0 c1;refine b8 (HG.a _ H2.a) fun w3 hb=>?_;have rr:=(hb.block w.heap.size (gl H2.b)).trans H2.b;have hs:=H2.a.below hb;have hk:=H2.c.trans ((H2.a.keep hb).mono (fun k hk=>ab hk));obtain⟨c0,c1⟩:=Fp rr;have H3:=kq3 hs rr hk;clear hb rr hs hk;go_wp2_with fail;clear c0 c1;refine(HG.i _ H3.a).mono ?_;rintro e w4 ⟨rfl,hs,ad⟩;have rr:=(ad.block w.heap.size (ae ⟨Nat.le_refl _,aV _⟩)).trans H3.b;have hk:=H3.c.trans (ad.mono (fun k hk=>ab hk));obtain⟨c0,c1⟩:=Fp rr;have H4:=kq3 hs rr hk;clear ad rr hs hk;go_wp2_with fail;clear c0 c1;refine(HG.c _ H4.a).mono ?_;rintro e w5 ⟨rfl,hs,ad⟩;have rr:=(ad.block w.heap.size (ae ⟨Nat.le_refl _,aV _⟩)).trans H4.b;have hk:=H4.c.trans (ad.mono (fun k hk=>ab hk));obtain⟨c0,c1⟩:=Fp rr;have H5:=kq3 hs rr hk;clear ad rr hs hk;go_wp2_with fail;clear c0 c1;refine b8 (HG.f _ H5.a) fun w6 hb=>?_;have rr:=(hb.block w.heap.size (gl H5.b)).trans H5.b;have hs:=H5.a.below hb;have hk:=H5.c.trans ((H5.a.keep hb).mono (fun k hk=>ab hk));obtain⟨c0,c1⟩:=Fp rr;have H6:=kq3 hs rr hk;clear hb rr hs hk;go_wp2_with fail;clear c0 c1;refine b8 (HG.g _ H6.a) fun w7 hb=>?_;have rr:=(hb.block w.heap.size (gl H6.b)).trans H6.b;have hs:=H6.a.below hb;have hk:=H6.c.trans ((H6.a.keep hb).mono (fun k hk=>ab hk));obtain⟨c0,c1⟩:=Fp rr;have H7:=kq3 hs rr hk;clear hb rr hs hk;go_wp2_with fail;clear c0 c1;refine b8 (HG.h _ H7.a) fun w8 hb=>?_;have rr:=(hb.block w.heap.size (gl H7.b)).trans H7.b;have hs:=H7.a.below hb;have hk:=H7.c.trans ((H7.a.keep hb).mono (fun k hk=>ab hk));obtain⟨c0,c1⟩:=Fp rr;have H8:=kq3 hs rr hk;clear hb rr hs hk;go_wp2_with fail;clear c0 c1;go_ret;exact⟨rfl,H8.a.mono (fun k hk=>ab hk),H8.c⟩
theorem DT(h:Ig w ps S Y)(hi:Fv S)(tu:Bool)(m t low:Nat)(_:m<2^64)(ht:t<2^64)(hw:low<2^64)(d:Nat)(hd:d<=200)(h200:d≠200)(hr:redT S t=false)(hb:blackT S t≠blackT S low){S1 S2:St}(hx1:x1<2^64)(hi1:Fv S1)(hi2:Fv S2)
 (cr:∀(W:World) (Z:Nat->Prop),Ig W ps S Z->Ct 221 #[dP ps tu,Xu (sidesT S tu t).2,Xu m,Xu low,Xi ((d:Int)+1)] W fun e w'=>e=.returned (Xu x1)/\Ig w' ps S1 Z/\Fo Z W w')
 (hp:putJ S1 tu t (sidesT S tu t).1 x1 (redT S t)=some S2) (hf:redT S2 x1=true) (hg:redT S2 (sidesT S2 tu x1).2=true) {S3 S4 S5:St} (hp3:putJ S2 tu (sidesT S2 tu x1).2 (sidesT S2 tu (sidesT S2 tu x1).2).1 (sidesT S2 tu (sidesT S2 tu x1).2).2 false=some S3)
 (hp4:putJ S3 tu t (sidesT S tu t).1 (sidesT S2 tu x1).1 false=some S4) (hp5:putJ S4 tu x1 t (sidesT S2 tu x1).2 true=some S5):
 Ct 221 #[dP ps tu,Xu t,Xu m,Xu low,Xi d] w fun e w'=>e=.returned (Xu x1)/\Ig w' ps S5 Y/\Fo Y w w':=by
 have a7:=gW h tu t;unfold dP at cr⊢;have a4:=jV hi2 hp3;have bd:=jV a4 hp4;have a5:=fun W (hW:Ig W ps S (fun k=>Y k\/(w.heap.size<=k/\k<w.heap.size+1)))=>gq hW hi t ht;have a0:=fun W (hW:Ig W ps S (fun k=>Y k\/(w.heap.size<=k/\k<w.heap.size+1)))=>jX hW hi tu t ht;have cp:=fun W (hW:Ig W ps S1 (fun k=>Y k\/(w.heap.size<=k/\k<w.heap.size+1)))=>jW hW hi1 tu t (sidesT S tu t).1 x1 (redT S t) ht a7.1 hx1 hp;have bc:=fun W (hW:Ig W ps S (fun k=>Y k\/(w.heap.size<=k/\k<w.heap.size+1)))=>gy hW hi t ht;have bb:=fun W (hW:Ig W ps S (fun k=>Y k\/(w.heap.size<=k/\k<w.heap.size+1)))=>gy hW hi low hw;have a6:=fun W (hW:Ig W ps S2 (fun k=>Y k\/(w.heap.size<=k/\k<w.heap.size+1)))=>gq hW hi2 x1 hx1;have a1:=fun W (hW:Ig W ps S2 (fun k=>Y k\/(w.heap.size<=k/\k<w.heap.size+1)))=>jX hW hi2 tu x1 hx1;have au:=fun W (hW:Ig W ps S2 (fun k=>Y k\/(w.heap.size<=k/\k<w.heap.size+1)))=>gq hW hi2 (sidesT S2 tu x1).2 (gW hW tu x1).2;have ap:=fun W (hW:Ig W ps S2 (fun k=>Y k\/(w.heap.size<=k/\k<w.heap.size+1)))=>jX hW hi2 tu (sidesT S2 tu x1).2 (gW hW tu x1).2;have ai:=fun W (hW:Ig W ps S2 (fun k=>Y k\/(w.heap.size<=k/\k<w.heap.size+1)))=>And.intro (gW hW tu x1) (jW hW hi2 tu (sidesT S2 tu x1).2 (sidesT S2 tu (sidesT S2 tu x1).2).1 (sidesT S2 tu (sidesT S2 tu x1).2).2 false (gW hW tu x1).2 (gW hW tu _).1 (gW hW tu _).2 hp3);have an:=fun W (hW:Ig W ps S3 (fun k=>Y k\/(w.heap.size<=k/\k<w.heap.size+1)))=>fun(q:(sidesT S2 tu x1).1<2^64)=>jW hW a4 tu t (sidesT S tu t).1 (sidesT S2 tu x1).1 false ht a7.1 q hp4;have ar:=fun W (hW:Ig W ps S4 (fun k=>Y k\/(w.heap.size<=k/\k<w.heap.size+1)))=>fun(q:(sidesT S2 tu x1).2<2^64)=>jW hW bd tu x1 t (sidesT S2 tu x1).2 true hx1 ht q hp5;have cr:=fun W (hW:Ig W ps S (fun k=>Y k\/(w.heap.size<=k/\k<w.heap.size+1)))=>cr W _ hW;try unfold dP at a0
 try unfold dP at cp
 try unfold dP at a1
 try unfold dP at ap
 try unfold dP at ai
 try unfold dP at an
 try unfold dP at ar
 rw[hr] at a5 cp;rw[hf] at a6;have bx:(((blackT S t:Nat):Int)==(blackT S low:Nat))=false:=by simp;omega
 generalize blackT S t=bk1 at*;generalize blackT S low=bk2 at*;rw[hg] at au;obtain⟨⟨b0,own⟩,bf⟩:∃r,sidesT S tu t=r:=⟨_,rfl⟩;rw[bf] at a0 cp cr an;simp only at a0 cp cr an;obtain⟨⟨sa,sb⟩,bj⟩:∃r,sidesT S2 tu x1=r:=⟨_,rfl⟩;rw[bj] at a1 au ap ai an ar;simp only at a1 au ap ai an ar;obtain⟨⟨sc,sd⟩,bk⟩:∃r,sidesT S2 tu sb=r:=⟨_,rfl⟩;rw[bk] at ap ai;simp only at ap ai;have hq:((d:Int)==200)=false:=by simp;omega
 have bv:IntKind.i64.wrap ((d:Int)+1)=(d:Int)+1:=az _ (by omega);have q0:=heap_alloc_new w (Xc ps tu);have B0:=(aa w.heap.size w).alloc Ih (Xc ps tu);have bo:(w.alloc (Xc ps tu)).heap.size=w.heap.size+1:=by simp
 have z0:=h.wide B0;rw[bo] at z0;have k0:Fo Y w (w.alloc (Xc ps tu)):=Fo.of_below B0 h.yl;have bt:w.heap.size<(w.alloc (Xc ps tu)).heap.size:=by omega
 have HG:=kq13 a5 a0 cp bc bb a6 a1 au ap ai an ar cr;clear a5 a0 cp bc bb a6 a1 au ap ai an ar cr hp hi hi1 hi2 bt bo hr h200 bf a7 hb hf hg bj bk hp3 hp4 hp5 a4 bd;have H0:=kq3 z0 q0 k0;clear z0 q0 k0 B0 h;go_enter func221,ntmps221;go_wp2_with fail;have bq:w.heap.size<(w.alloc (Xc ps tu)).heap.size:=by simp
 have bs:∀x:Fq (Below (w.alloc (Xc ps tu)).heap.size (w.alloc (Xc ps tu))),x.to.cell? ⟨w.heap.size,0,none⟩=some (PV ps):=fun x=>by rw[cell_of_block ((x.ok.block _ bq).trans H0.b)];rfl
 have ba:=fun x:Fq (Below (w.alloc (Xc ps tu)).heap.size (w.alloc (Xc ps tu)))=>Calls.keeps_below (HG.a x.to (H0.a.below x.ok));have a':=fun x:Fq (Below (w.alloc (Xc ps tu)).heap.size (w.alloc (Xc ps tu)))=>Calls.keeps_below (HG.d x.to (H0.a.below x.ok));have a9:=fun x:Fq (Below (w.alloc (Xc ps tu)).heap.size (w.alloc (Xc ps tu)))=>Calls.keeps_below (HG.e x.to (H0.a.below x.ok));generalize bu:w.alloc (Xc ps tu)=W0 at*;refine iq (Below W0.heap.size W0) (by kernel_rfl) (by kernel_rfl) (aa _ _).drew (fun _=>?_);repeat (first | go_big_quiet_skip | (go_big_quiet_want;go_big_quiet_op;first | go_big_quiet_on | (apply Exists.intro;refine⟨fun x=>?_,?_⟩;(· first | with_reducible exact ba x | with_reducible exact a' x | with_reducible exact a9 x);go_big_quiet_on)))
 refine wpQuiet_nil ?_;rintro _ ⟨v,rfl⟩;have rr:=(v.ok.block w.heap.size bq).trans H0.b;have hs:=H0.a.below v.ok;have hk:=H0.c.trans ((H0.a.keep v.ok).mono (fun k hk=>ab hk));obtain⟨w1,bm⟩:=Ii v.to;rw[bm] at rr hs hk⊢;clear bm v bs ba a' a9;obtain⟨c0,c1⟩:=Fp rr;have H1:=kq3 hs rr hk;clear rr hs hk;go_wp2_with fail;clear c0 c1;refine b8 (HG.b _ H1.a) fun w2 hb=>?_;have rr:=(hb.block w.heap.size (gl H1.b)).trans H1.b;have hs:=H1.a.below hb;have hk:=H1.c.trans ((H1.a.keep hb).mono (fun k hk=>ab hk));obtain⟨c0,c1⟩:=Fp rr;have H2:=kq3 hs rr hk;clear hb rr hs hk;go_wp2_with fail;clear c0 c1;refine b8 (HG.a _ H2.a) fun w3 hb=>?_;have rr:=(hb.block w.heap.size (gl H2.b)).trans H2.b;have hs:=H2.a.below hb;have hk:=H2.c.trans ((H2.a.keep hb).mono (fun k hk=>ab hk));obtain⟨c0,c1⟩:=Fp rr;have H3:=kq3 hs rr hk;clear hb rr hs hk;go_wp2_with fail;clear c0 c1;refine(HG.m _ H3.a).mono ?_;rintro e w4 ⟨rfl,hs,ad⟩;have rr:=(ad.block w.heap.size (ae ⟨Nat.le_refl _,aV _⟩)).trans H3.b;have hk:=H3.c.trans (ad.mono (fun k hk=>ab hk));obtain⟨c0,c1⟩:=Fp rr;have H4:=kq3 hs rr hk;clear ad rr hs hk;go_wp2_with fail;clear c0 c1;refine(HG.c _ H4.a).mono ?_;rintro e w5 ⟨rfl,hs,ad⟩;have rr:=(ad.block w.heap.size (ae ⟨Nat.le_refl _,aV _⟩)).trans H4.b;have hk:=H4.c.trans (ad.mono (fun k hk=>ab hk));obtain⟨c0,c1⟩:=Fp rr;have H5:=kq3 hs rr hk;clear ad rr hs hk;go_wp2_with fail;clear c0 c1;refine b8 (HG.f _ H5.a) fun w6 hb=>?_;have rr:=(hb.block w.heap.size (gl H5.b)).trans H5.b;have hs:=H5.a.below hb;have hk:=H5.c.trans ((H5.a.keep hb).mono (fun k hk=>ab hk));obtain⟨c0,c1⟩:=Fp rr;have H6:=kq3 hs rr hk;clear hb rr hs hk;go_wp2_with fail;clear c0 c1;refine b8 (HG.g _ H6.a) fun w7 hb=>?_;have rr:=(hb.block w.heap.size (gl H6.b)).trans H6.b;have hs:=H6.a.below hb;have hk:=H6.c.trans ((H6.a.keep hb).mono (fun k hk=>ab hk));obtain⟨c0,c1⟩:=Fp rr;have H7:=kq3 hs rr hk;clear hb rr hs hk;go_wp2_with fail;clear c0 c1;refine b8 (HG.h _ H7.a) fun w8 hb=>?_;have rr:=(hb.block w.heap.size (gl H7.b)).trans H7.b;have hs:=H7.a.below hb;have hk:=H7.c.trans ((H7.a.keep hb).mono (fun k hk=>ab hk));obtain⟨c0,c1⟩:=Fp rr;have H8:=kq3 hs rr hk;clear hb rr hs hk;go_wp2_with fail;clear c0 c1;refine b8 (HG.i _ H8.a) fun w9 hb=>?_;have rr:=(hb.block w.heap.size (gl H8.b)).trans H8.b;have hs:=H8.a.below hb;have hk:=H8.c.trans ((H8.a.keep hb).mono (fun k hk=>ab hk));obtain⟨c0,c1⟩:=Fp rr;have H9:=kq3 hs rr hk;clear hb rr hs hk;go_wp2_with fail;clear c0 c1;obtain⟨qb,q3⟩:=HG.j _ H9.a;refine q3.mono ?_;clear q3;rintro e b1 ⟨rfl,hs,ad⟩;have rr:=(ad.block w.heap.size (ae ⟨Nat.le_refl _,aV _⟩)).trans H9.b;have hk:=H9.c.trans (ad.mono (fun k hk=>ab hk));obtain⟨c0,c1⟩:=Fp rr;have a2:=kq3 hs rr hk;have HQ:=If qb;clear ad rr hs hk qb;go_wp2_with fail;clear c0 c1;refine(HG.k _ a2.a HQ.out.1).mono ?_;rintro e b2 ⟨rfl,hs,ad⟩;have rr:=(ad.block w.heap.size (ae ⟨Nat.le_refl _,aV _⟩)).trans a2.b;have hk:=a2.c.trans (ad.mono (fun k hk=>ab hk));obtain⟨c0,c1⟩:=Fp rr;have a3:=kq3 hs rr hk;clear ad rr hs hk;go_wp2_with fail;clear c0 c1;refine(HG.l _ a3.a HQ.out.2).mono ?_;rintro e b4 ⟨rfl,hs,ad⟩;have rr:=(ad.block w.heap.size (ae ⟨Nat.le_refl _,aV _⟩)).trans a3.b;have hk:=a3.c.trans (ad.mono (fun k hk=>ab hk));obtain⟨c0,c1⟩:=Fp rr;have a8:=kq3 hs rr hk;clear ad rr hs hk;go_wp2_with fail;clear c0 c1;go_ret;exact⟨rfl,a8.a.mono (fun k hk=>ab hk),a8.c⟩
theorem AW{tu:Bool}{S S':St}{t other x y:Nat}{is:Bool}(h:fixR tu S t other x is=some (y,S')):
 (is=true/\y=t/\S'=S)\/(is=false/\redT S x=false/\y=t/\S'=S)\/(is=false/\redT S x=true/\redT S (sidesT S tu x).2=false/\y=t/\S'=S)\/
 (is=false/\redT S x=true/\redT S (sidesT S tu x).2=true/\y=x/\∃S3 S4,putJ S tu (sidesT S tu x).2 (sidesT S tu (sidesT S tu x).2).1 (sidesT S tu (sidesT S tu x).2).2 false=some S3/\putJ S3 tu t other (sidesT S tu x).1 false=some S4/\putJ S4 tu x t (sidesT S tu x).2 true=some S'):=by
 unfold fixR at h;cases is with
 | true=>
  rw[if_pos (ab rfl)] at h;injection h with h
  injection h with e1 e2
  exact ab ⟨rfl,e1.symm,e2.symm⟩
 | false=>
  split at h
  ·rename_i hc;injection h with h
   injection h with e1 e2
   rcases hc with hc | hc
   ·cases hc
   ·exact ae (ab ⟨rfl,hc,e1.symm,e2.symm⟩)
  ·rename_i hc;have hx:redT S x=true:=by simpa using hc
   split at h
   ·rename_i hb;injection h with h
    injection h with e1 e2
    exact ae (ae (ab ⟨rfl,hx,hb,e1.symm,e2.symm⟩))
   ·rename_i hb;have hb:redT S (sidesT S tu x).2=true:=by simpa using hb
    split at h
    ·cases h
    ·rename_i S3 h3;split at h
     ·cases h
     ·rename_i S4 h4;obtain⟨S5,h5,h6⟩:=aD.1 h;injection h6 with e1 e2
      subst e1 e2;exact ae (ae (ae ⟨rfl,hx,hb,rfl,S3,S4,h3,h4,h5⟩))
theorem rX(tu:Bool)(m:Nat)(hm:m<2^64):∀(f d:Nat),d+f=200->∀{w:World} {S S':St} {Y:Nat->Prop} {t low x:Nat},Ig w ps S Y->Fv S->t<2^64->low<2^64->
 joinR tu m f S t low=some (x,S')->
 Ct 221 #[dP ps tu,Xu t,Xu m,Xu low,Xi d] w fun e w'=>e=.returned (Xu x)/\Ig w' ps S' Y/\Fo Y w w':=by
 intro f;induction f with
 | zero=>
  intro d hd w S S' Y t low x h hi ht hw hj;rw[rf] at hj;obtain⟨S1,h1,h2⟩:=aD.1 hj;injection h2 with e1 e2
  subst e1 e2;exact DU h hi tu m t low hm ht hw d (by omega) (by omega) h1
 | succ f ih=>
  intro d hd w S S' Y t low x h hi ht hw hj;rw[re] at hj;split at hj
  ·rename_i hc;obtain⟨S1,h1,h2⟩:=aD.1 hj;injection h2 with e1 e2
   subst e1 e2;exact DW h hi tu m t low hm ht hw d (by omega) (by omega) hc.1 hc.2 h1
  ·rename_i hc;split at hj
   ·cases hj
   rename_i x1 S1 hj1;split at hj
   ·cases hj
   rename_i S2 hp;obtain⟨hj,-⟩:=lM hj;obtain⟨ai,ad⟩:=lU tu f hi hj1;have ad:=ad hm;have an:=jV ai hp;have cr:=fun(W:World) (Z:Nat->Prop) (hW:Ig W ps S Z)=>ih (d+1) (by omega) hW hi (gW h tu t).2 hw hj1;rcases AW hj with⟨c1,rfl,rfl⟩ | ⟨c1,c2,rfl,rfl⟩ | ⟨c1,c2,c3,rfl,rfl⟩ | ⟨c1,c2,c3,rfl,S3,S4,h3,h4,h5⟩
   ·exact DV h hi tu m _ low hm ht hw d (by omega) (by omega) c1 ad ai an cr hp
   ·exact DR h hi tu m _ low hm ht hw d (by omega) (by omega) c1 (fun e=>hc ⟨c1,e⟩) ad ai an cr hp c2
   ·exact DS h hi tu m _ low hm ht hw d (by omega) (by omega) c1 (fun e=>hc ⟨c1,e⟩) ad ai an cr hp c2 c3
   ·exact DT h hi tu m t low hm ht hw d (by omega) (by omega) c1 (fun e=>hc ⟨c1,e⟩) ad ai an cr hp c2 c3 h3 h4 h5
theorem Ia{S S1:St}(h:Ig w ps S Y)(hi:Fv S)(tu:Bool)(t m low:Nat)(hm:m<2^64)(ht:t<2^64)(hw:low<2^64)(hj:joinR tu m 200 S t low=some (x,S1))(c1:redT S1 x=true)(c2:redT S1 (sidesT S1 tu x).2=true){S2:St}(hp:putJ S1 tu x (sidesT S1 tu x).1 (sidesT S1 tu x).2 false=some S2):
 Ct 189 #[dP ps tu,Xu t,Xu m,Xu low] w fun e w'=>e=.returned (Xu x)/\Ig w' ps S2 Y/\Fo Y w w':=by
 obtain⟨ai,hx⟩:=lU tu 200 hi hj;have hx:=hx hm;have cj:=fun W (hW:Ig W ps S (fun k=>Y k\/(w.heap.size<=k/\k<w.heap.size+1)))=>rX tu m hm 200 0 rfl hW hi ht hw hj;have ap:=fun W (hW:Ig W ps S1 (fun k=>Y k\/(w.heap.size<=k/\k<w.heap.size+1)))=>jX hW ai tu x hx;have ar:=fun W (hW:Ig W ps S1 (fun k=>Y k\/(w.heap.size<=k/\k<w.heap.size+1)))=>gq hW ai x hx;have an:=fun W (hW:Ig W ps S1 (fun k=>Y k\/(w.heap.size<=k/\k<w.heap.size+1)))=>gq hW ai (sidesT S1 tu x).2 (gW hW tu x).2;have cp:=fun W (hW:Ig W ps S1 (fun k=>Y k\/(w.heap.size<=k/\k<w.heap.size+1)))=>jW hW ai tu x (sidesT S1 tu x).1 (sidesT S1 tu x).2 false hx (gW hW tu x).1 (gW hW tu x).2 hp;rw[c1] at ar;rw[c2] at an;unfold dP at cj;unfold dP at ap;unfold dP at cp;unfold dP;obtain⟨⟨sa,sb⟩,au⟩:∃r,sidesT S1 tu x=r:=⟨_,rfl⟩;rw[au] at ap an cp;simp only at ap an cp;have q0:=heap_alloc_new w (Xc ps tu);have B0:=(aa w.heap.size w).alloc Ih (Xc ps tu);have a0:(w.alloc (Xc ps tu)).heap.size=w.heap.size+1:=by simp
 have z0:=h.wide B0;rw[a0] at z0;have k0:Fo Y w (w.alloc (Xc ps tu)):=Fo.of_below B0 h.yl;have a1:w.heap.size<(w.alloc (Xc ps tu)).heap.size:=by omega
 have HG:=kq5 cj ap ar an cp;clear cj ap ar an cp hi ai a1 a0 au hj c1 c2 hp;have c0:(w.alloc (Xc ps tu)).cell? ⟨w.heap.size,0,none⟩=some (PV ps):=by rw[cell_of_block q0];rfl
 have c1:(w.alloc (Xc ps tu)).cell? ⟨w.heap.size,1,none⟩=some (.bool tu):=by rw[cell_of_block q0];rfl
 have H0:=kq3 z0 q0 k0;clear z0 q0 k0 B0 h;go_enter func189,ntmps189;go_wp2_with fail;clear c0 c1;refine(HG.a _ H0.a).mono ?_;rintro e w1 ⟨rfl,hs,ad⟩;have rr:=(ad.block w.heap.size (ae ⟨Nat.le_refl _,aV _⟩)).trans H0.b;have hk:=H0.c.trans (ad.mono (fun k hk=>ab hk));obtain⟨c0,c1⟩:=Fp rr;have H1:=kq3 hs rr hk;clear ad rr hs hk;go_wp2_with fail;clear c0 c1;refine b8 (HG.b _ H1.a) fun w2 hb=>?_;have rr:=(hb.block w.heap.size (gl H1.b)).trans H1.b;have hs:=H1.a.below hb;have hk:=H1.c.trans ((H1.a.keep hb).mono (fun k hk=>ab hk));obtain⟨c0,c1⟩:=Fp rr;have H2:=kq3 hs rr hk;clear hb rr hs hk;go_wp2_with fail;clear c0 c1;refine b8 (HG.c _ H2.a) fun w3 hb=>?_;have rr:=(hb.block w.heap.size (gl H2.b)).trans H2.b;have hs:=H2.a.below hb;have hk:=H2.c.trans ((H2.a.keep hb).mono (fun k hk=>ab hk));obtain⟨c0,c1⟩:=Fp rr;have H3:=kq3 hs rr hk;clear hb rr hs hk;go_wp2_with fail;clear c0 c1;refine b8 (HG.d _ H3.a) fun w4 hb=>?_;have rr:=(hb.block w.heap.size (gl H3.b)).trans H3.b;have hs:=H3.a.below hb;have hk:=H3.c.trans ((H3.a.keep hb).mono (fun k hk=>ab hk));obtain⟨c0,c1⟩:=Fp rr;have H4:=kq3 hs rr hk;clear hb rr hs hk;go_wp2_with fail;clear c0 c1;refine(HG.e _ H4.a).mono ?_;rintro e w5 ⟨rfl,hs,ad⟩;have rr:=(ad.block w.heap.size (ae ⟨Nat.le_refl _,aV _⟩)).trans H4.b;have hk:=H4.c.trans (ad.mono (fun k hk=>ab hk));obtain⟨c0,c1⟩:=Fp rr;have H5:=kq3 hs rr hk;clear ad rr hs hk;go_wp2_with fail;clear c0 c1;go_ret;exact⟨rfl,H5.a.mono (fun k hk=>ab hk),H5.c⟩
theorem DZ{S S1:St}(h:Ig w ps S Y)(hi:Fv S)(tu:Bool)(t m low:Nat)(hm:m<2^64)(ht:t<2^64)(hw:low<2^64)(hj:joinR tu m 200 S t low=some (x,S1))(c1:redT S1 x=true)(c2:redT S1 (sidesT S1 tu x).2=false):
 Ct 189 #[dP ps tu,Xu t,Xu m,Xu low] w fun e w'=>e=.returned (Xu x)/\Ig w' ps S1 Y/\Fo Y w w':=by
 obtain⟨an,hx⟩:=lU tu 200 hi hj;have hx:=hx hm;have cj:=fun W (hW:Ig W ps S (fun k=>Y k\/(w.heap.size<=k/\k<w.heap.size+1)))=>rX tu m hm 200 0 rfl hW hi ht hw hj;have ai:=fun W (hW:Ig W ps S1 (fun k=>Y k\/(w.heap.size<=k/\k<w.heap.size+1)))=>jX hW an tu x hx;have ar:=fun W (hW:Ig W ps S1 (fun k=>Y k\/(w.heap.size<=k/\k<w.heap.size+1)))=>gq hW an x hx;have ad:=fun W (hW:Ig W ps S1 (fun k=>Y k\/(w.heap.size<=k/\k<w.heap.size+1)))=>gq hW an (sidesT S1 tu x).2 (gW hW tu x).2;rw[c1] at ar;rw[c2] at ad;unfold dP at cj;unfold dP at ai;unfold dP;obtain⟨⟨sa,sb⟩,au⟩:∃r,sidesT S1 tu x=r:=⟨_,rfl⟩;rw[au] at ai ad;simp only at ai ad;have q0:=heap_alloc_new w (Xc ps tu);have B0:=(aa w.heap.size w).alloc Ih (Xc ps tu);have a0:(w.alloc (Xc ps tu)).heap.size=w.heap.size+1:=by simp
 have z0:=h.wide B0;rw[a0] at z0;have k0:Fo Y w (w.alloc (Xc ps tu)):=Fo.of_below B0 h.yl;have a1:w.heap.size<(w.alloc (Xc ps tu)).heap.size:=by omega
 have HG:=kq4 cj ai ar ad;clear cj ai ar ad hi an a1 a0 au hj c1 c2;have c0:(w.alloc (Xc ps tu)).cell? ⟨w.heap.size,0,none⟩=some (PV ps):=by rw[cell_of_block q0];rfl
 have c1:(w.alloc (Xc ps tu)).cell? ⟨w.heap.size,1,none⟩=some (.bool tu):=by rw[cell_of_block q0];rfl
 have H0:=kq3 z0 q0 k0;clear z0 q0 k0 B0 h;go_enter func189,ntmps189;go_wp2_with fail;clear c0 c1;refine(HG.a _ H0.a).mono ?_;rintro e w1 ⟨rfl,hs,ap⟩;have rr:=(ap.block w.heap.size (ae ⟨Nat.le_refl _,aV _⟩)).trans H0.b;have hk:=H0.c.trans (ap.mono (fun k hk=>ab hk));obtain⟨c0,c1⟩:=Fp rr;have H1:=kq3 hs rr hk;clear ap rr hs hk;go_wp2_with fail;clear c0 c1;refine b8 (HG.b _ H1.a) fun w2 hb=>?_;have rr:=(hb.block w.heap.size (gl H1.b)).trans H1.b;have hs:=H1.a.below hb;have hk:=H1.c.trans ((H1.a.keep hb).mono (fun k hk=>ab hk));obtain⟨c0,c1⟩:=Fp rr;have H2:=kq3 hs rr hk;clear hb rr hs hk;go_wp2_with fail;clear c0 c1;refine b8 (HG.c _ H2.a) fun w3 hb=>?_;have rr:=(hb.block w.heap.size (gl H2.b)).trans H2.b;have hs:=H2.a.below hb;have hk:=H2.c.trans ((H2.a.keep hb).mono (fun k hk=>ab hk));obtain⟨c0,c1⟩:=Fp rr;have H3:=kq3 hs rr hk;clear hb rr hs hk;go_wp2_with fail;clear c0 c1;refine b8 (HG.d _ H3.a) fun w4 hb=>?_;have rr:=(hb.block w.heap.size (gl H3.b)).trans H3.b;have hs:=H3.a.below hb;have hk:=H3.c.trans ((H3.a.keep hb).mono (fun k hk=>ab hk));obtain⟨c0,c1⟩:=Fp rr;have H4:=kq3 hs rr hk;clear hb rr hs hk;go_wp2_with fail;clear c0 c1;go_ret;exact⟨rfl,H4.a.mono (fun k hk=>ab hk),H4.c⟩
theorem DY{S S1:St}(h:Ig w ps S Y)(hi:Fv S)(tu:Bool)(t m low:Nat)(hm:m<2^64)(ht:t<2^64)(hw:low<2^64)(hj:joinR tu m 200 S t low=some (x,S1))(c1:redT S1 x=false):
 Ct 189 #[dP ps tu,Xu t,Xu m,Xu low] w fun e w'=>e=.returned (Xu x)/\Ig w' ps S1 Y/\Fo Y w w':=by
 obtain⟨ai,hx⟩:=lU tu 200 hi hj;have hx:=hx hm;have cj:=fun W (hW:Ig W ps S (fun k=>Y k\/(w.heap.size<=k/\k<w.heap.size+1)))=>rX tu m hm 200 0 rfl hW hi ht hw hj;have ad:=fun W (hW:Ig W ps S1 (fun k=>Y k\/(w.heap.size<=k/\k<w.heap.size+1)))=>jX hW ai tu x hx;have ap:=fun W (hW:Ig W ps S1 (fun k=>Y k\/(w.heap.size<=k/\k<w.heap.size+1)))=>gq hW ai x hx;rw[c1] at ap;unfold dP at cj;unfold dP at ad;unfold dP;obtain⟨⟨sa,sb⟩,ar⟩:∃r,sidesT S1 tu x=r:=⟨_,rfl⟩;rw[ar] at ad;simp only at ad;have q0:=heap_alloc_new w (Xc ps tu);have B0:=(aa w.heap.size w).alloc Ih (Xc ps tu);have au:(w.alloc (Xc ps tu)).heap.size=w.heap.size+1:=by simp
 have z0:=h.wide B0;rw[au] at z0;have k0:Fo Y w (w.alloc (Xc ps tu)):=Fo.of_below B0 h.yl;have a0:w.heap.size<(w.alloc (Xc ps tu)).heap.size:=by omega
 have HG:=kq3 cj ad ap;clear cj ad ap hi ai a0 au ar hj c1;have c0:(w.alloc (Xc ps tu)).cell? ⟨w.heap.size,0,none⟩=some (PV ps):=by rw[cell_of_block q0];rfl
 have c1:(w.alloc (Xc ps tu)).cell? ⟨w.heap.size,1,none⟩=some (.bool tu):=by rw[cell_of_block q0];rfl
 have H0:=kq3 z0 q0 k0;clear z0 q0 k0 B0 h;go_enter func189,ntmps189;go_wp2_with fail;clear c0 c1;refine(HG.a _ H0.a).mono ?_;rintro e w1 ⟨rfl,hs,an⟩;have rr:=(an.block w.heap.size (ae ⟨Nat.le_refl _,aV _⟩)).trans H0.b;have hk:=H0.c.trans (an.mono (fun k hk=>ab hk));obtain⟨c0,c1⟩:=Fp rr;have H1:=kq3 hs rr hk;clear an rr hs hk;go_wp2_with fail;clear c0 c1;refine b8 (HG.b _ H1.a) fun w2 hb=>?_;have rr:=(hb.block w.heap.size (gl H1.b)).trans H1.b;have hs:=H1.a.below hb;have hk:=H1.c.trans ((H1.a.keep hb).mono (fun k hk=>ab hk));obtain⟨c0,c1⟩:=Fp rr;have H2:=kq3 hs rr hk;clear hb rr hs hk;go_wp2_with fail;clear c0 c1;refine b8 (HG.c _ H2.a) fun w3 hb=>?_;have rr:=(hb.block w.heap.size (gl H2.b)).trans H2.b;have hs:=H2.a.below hb;have hk:=H2.c.trans ((H2.a.keep hb).mono (fun k hk=>ab hk));obtain⟨c0,c1⟩:=Fp rr;have H3:=kq3 hs rr hk;clear hb rr hs hk;go_wp2_with fail;clear c0 c1;go_ret;exact⟨rfl,H3.a.mono (fun k hk=>ab hk),H3.c⟩
theorem wE{S S':St}(h:Ig w ps S Y)(hi:Fv S)(tu:Bool)(t m low:Nat)(hm:m<2^64)(ht:t<2^64)(hw:low<2^64)(hj:topR tu S t m low=some (x,S')):
 Ct 189 #[dP ps tu,Xu t,Xu m,Xu low] w fun e w'=>e=.returned (Xu x)/\Ig w' ps S' Y/\Fo Y w w':=by
 unfold topR at hj
 split at hj
 ·cases hj
 ·rename_i y S1 h1
  by_cases c1:redT S1 y=true
  ·by_cases c2:redT S1 (sidesT S1 tu y).2=true
   ·rw[if_pos ⟨c1,c2⟩] at hj;obtain⟨S2,h2,h3⟩:=aD.1 hj
    injection h3 with e1 e2
    subst e1 e2;exact Ia h hi tu t m low hm ht hw h1 c1 c2 h2
   ·rw[if_neg (fun q=>c2 q.2)] at hj
    injection hj with hj
    injection hj with e1 e2
    subst e1 e2;exact DZ h hi tu t m low hm ht hw h1 c1 (by simpa using c2)
  ·rw[if_neg (fun q=>c1 q.1)] at hj
   injection hj with hj
   injection hj with e1 e2
   subst e1 e2;exact DY h hi tu t m low hm ht hw h1 (by simpa using c1)
theorem qBkab{P:Prop}(h:P:=by
 clear hc;generalize blackT S l=bk1 at*;generalize blackT S r=bk2 at*;have HG:=kq8 ap ad ai an ar au h hp;clear ap ad ai an ar au h hp hi h0 t1 t2 t3;go_enter func142,ntmps142;go_wp2_with fail;refine Jc HG.a ?_;go_wp2_with fail;refine b8 HG.b fun w1 hb=>?_;have H1:=If hb;clear hb;go_wp2_with fail;refine b8 (HG.c _ H1.out) fun w2 hb=>?_;have H2:=If (H1.out.trans (hb.mono H1.out.size));clear hb;go_wp2_with fail;refine b8 (HG.d _ H2.out) fun w3 hb=>?_;have H3:=If (H2.out.trans (hb.mono H2.out.size));clear hb;go_wp2_with fail;refine b8 (HG.e _ H3.out) fun w4 hb=>?_;have H4:=If (H3.out.trans (hb.mono H3.out.size));clear hb;go_wp2_with fail;refine b8 (HG.f _ H4.out) fun w5 hb=>?_;have H5:=If (H4.out.trans (hb.mono H4.out.size));clear hb;go_wp2_with fail;refine(HG.h _ H5.out).mono ?_;rintro e w6 ⟨rfl,hs,hk⟩;have HE:=kq2 hs ((HG.g.keep H5.out).trans hk);clear hs hk;go_wp2_with fail;go_ret2;exact⟨rfl,HE.out⟩):P:=h
theorem DM{S S':St}(h:Ig w ps S Y)(hi:Fv S)(l m r:Nat)(hl:l<2^64)(hm:m<2^64)(hr:r<2^64)(h0:m≠0)(t1:isT S l=true)(t2:isT S m=true)(t3:isT S r=true)(hc:blackT S r<blackT S l)(hp:topR false S l m r=some (x,S')):
 Ct 142 #[PV ps,Xu l,Xu m,Xu r] w fun e w'=>e=.returned (.tuple #[Xu x,Xi 0])/\Ig w' ps S' Y/\Fo Y w w':=by
 have ap:=fB h hi 0 (by omega);rw[fU] at ap;have ad:=io h hi l hl;have ai:=fun W (hW:Below w.heap.size w W)=>io (h.below hW) hi m hm;have an:=fun W (hW:Below w.heap.size w W)=>io (h.below hW) hi r hr;have ar:=fun W (hW:Below w.heap.size w W)=>gy (h.below hW) hi l hl;have au:=fun W (hW:Below w.heap.size w W)=>gy (h.below hW) hi r hr;rw[t1] at ad;rw[t2] at ai;rw[t3] at an;have hq:((m:Int)==0)=false:=by simp;omega
 have hp:=fun W (hW:Below w.heap.size w W)=>wE (h.below hW) hi false l m r hm hl hr hp;unfold dP at hp;have a0:((blackT S r:Nat):Int)<(blackT S l:Nat):=by omega
 exact qBkab
theorem DN{S S':St}(h:Ig w ps S Y)(hi:Fv S)(l m r:Nat)(hl:l<2^64)(hm:m<2^64)(hr:r<2^64)(h0:m≠0)(t1:isT S l=true)(t2:isT S m=true)(t3:isT S r=true)(hc:blackT S l<blackT S r)(hp:topR true S r m l=some (x,S')):
 Ct 142 #[PV ps,Xu l,Xu m,Xu r] w fun e w'=>e=.returned (.tuple #[Xu x,Xi 0])/\Ig w' ps S' Y/\Fo Y w w':=by
 have ap:=fB h hi 0 (by omega);rw[fU] at ap;have ad:=io h hi l hl;have ai:=fun W (hW:Below w.heap.size w W)=>io (h.below hW) hi m hm;have an:=fun W (hW:Below w.heap.size w W)=>io (h.below hW) hi r hr;have ar:=fun W (hW:Below w.heap.size w W)=>gy (h.below hW) hi l hl;have au:=fun W (hW:Below w.heap.size w W)=>gy (h.below hW) hi r hr;rw[t1] at ad;rw[t2] at ai;rw[t3] at an;have hq:((m:Int)==0)=false:=by simp;omega
 have hp:=fun W (hW:Below w.heap.size w W)=>wE (h.below hW) hi true r m l hm hr hl hp;unfold dP at hp;have a0:((blackT S l:Nat):Int)<(blackT S r:Nat):=by omega
 have a1:¬((blackT S r:Nat):Int)<(blackT S l:Nat):=by omega
 exact qBkab
theorem DO{S S':St}(h:Ig w ps S Y)(hi:Fv S)(l m r:Nat)(hl:l<2^64)(hm:m<2^64)(hr:r<2^64)(h0:m≠0)(t1:isT S l=true)(t2:isT S m=true)(t3:isT S r=true)(hc:blackT S l=blackT S r)(hr1:redT S l=true)(hp:putRM S m l r false=some S'):
 Ct 142 #[PV ps,Xu l,Xu m,Xu r] w fun e w'=>e=.returned (.tuple #[Xu m,Xi 0])/\Ig w' ps S' Y/\Fo Y w w':=by
 have au:=fB h hi 0 (by omega);rw[fU] at au;have ad:=io h hi l hl;have ai:=fun W (hW:Below w.heap.size w W)=>io (h.below hW) hi m hm;have an:=fun W (hW:Below w.heap.size w W)=>io (h.below hW) hi r hr;have a0:=fun W (hW:Below w.heap.size w W)=>gy (h.below hW) hi l hl;have ap:=fun W (hW:Below w.heap.size w W)=>gy (h.below hW) hi r hr;rw[t1] at ad;rw[t2] at ai;rw[t3] at an;have hq:((m:Int)==0)=false:=by simp;omega
 have hp:=fun W (hW:Below w.heap.size w W)=>nh (h.below hW) hi m l r false hm hl hr hp;have ar:=fun W (hW:Below w.heap.size w W)=>gq (h.below hW) hi l hl;rw[hr1] at ar;rw[<-hc] at ap;clear hc hr1;generalize blackT S l=bk1 at*;have HG:=kq9 au ad ai an a0 ap h ar hp;clear au ad ai an a0 ap h ar hp hi h0 t1 t2 t3;go_enter func142,ntmps142;go_wp2_with fail;refine Jc HG.a ?_;go_wp2_with fail;refine b8 HG.b fun w1 hb=>?_;have H1:=If hb;clear hb;go_wp2_with fail;refine b8 (HG.c _ H1.out) fun w2 hb=>?_;have H2:=If (H1.out.trans (hb.mono H1.out.size));clear hb;go_wp2_with fail;refine b8 (HG.d _ H2.out) fun w3 hb=>?_;have H3:=If (H2.out.trans (hb.mono H2.out.size));clear hb;go_wp2_with fail;refine b8 (HG.e _ H3.out) fun w4 hb=>?_;have H4:=If (H3.out.trans (hb.mono H3.out.size));clear hb;go_wp2_with fail;refine b8 (HG.f _ H4.out) fun w5 hb=>?_;have H5:=If (H4.out.trans (hb.mono H4.out.size));clear hb;go_wp2_with fail;refine b8 (HG.h _ H5.out) fun w6 hb=>?_;have H6:=If (H5.out.trans (hb.mono H5.out.size));clear hb;go_wp2_with fail;refine(HG.i _ H6.out).mono ?_;rintro e w7 ⟨rfl,hs,hk⟩;have HE:=kq2 hs ((HG.g.keep H6.out).trans hk);clear hs hk;go_wp2_with fail;go_ret2;exact⟨rfl,HE.out⟩
theorem qBkaa{P:Prop}(h:P:=by
 have ar:=fun W (hW:Below w.heap.size w W)=>gq (h.below hW) hi l hl;rw[hr1] at ar;rw[<-hc] at ap;clear hc hr1;generalize blackT S l=bk1 at*;have au:=fun W (hW:Below w.heap.size w W)=>gq (h.below hW) hi r hr;rw[hr2] at au;clear hr2;have HG:=kq10 a0 ad ai an a1 ap h ar au hp;clear a0 ad ai an a1 ap h ar au hp hi h0 t1 t2 t3;go_enter func142,ntmps142;go_wp2_with fail;refine Jc HG.a ?_;go_wp2_with fail;refine b8 HG.b fun w1 hb=>?_;have H1:=If hb;clear hb;go_wp2_with fail;refine b8 (HG.c _ H1.out) fun w2 hb=>?_;have H2:=If (H1.out.trans (hb.mono H1.out.size));clear hb;go_wp2_with fail;refine b8 (HG.d _ H2.out) fun w3 hb=>?_;have H3:=If (H2.out.trans (hb.mono H2.out.size));clear hb;go_wp2_with fail;refine b8 (HG.e _ H3.out) fun w4 hb=>?_;have H4:=If (H3.out.trans (hb.mono H3.out.size));clear hb;go_wp2_with fail;refine b8 (HG.f _ H4.out) fun w5 hb=>?_;have H5:=If (H4.out.trans (hb.mono H4.out.size));clear hb;go_wp2_with fail;refine b8 (HG.h _ H5.out) fun w6 hb=>?_;have H6:=If (H5.out.trans (hb.mono H5.out.size));clear hb;go_wp2_with fail;refine b8 (HG.i _ H6.out) fun w7 hb=>?_;have H7:=If (H6.out.trans (hb.mono H6.out.size));clear hb;go_wp2_with fail;refine(HG.j _ H7.out).mono ?_;rintro e w8 ⟨rfl,hs,hk⟩;have HE:=kq2 hs ((HG.g.keep H7.out).trans hk);clear hs hk;go_wp2_with fail;go_ret2;exact⟨rfl,HE.out⟩):P:=h
theorem DP{S S':St}(h:Ig w ps S Y)(hi:Fv S)(l m r:Nat)(hl:l<2^64)(hm:m<2^64)(hr:r<2^64)(h0:m≠0)(t1:isT S l=true)(t2:isT S m=true)(t3:isT S r=true)(hc:blackT S l=blackT S r)(hr1:redT S l=false)(hr2:redT S r=true)(hp:putRM S m l r false=some S'):
 Ct 142 #[PV ps,Xu l,Xu m,Xu r] w fun e w'=>e=.returned (.tuple #[Xu m,Xi 0])/\Ig w' ps S' Y/\Fo Y w w':=by
 have a0:=fB h hi 0 (by omega);rw[fU] at a0;have ad:=io h hi l hl;have ai:=fun W (hW:Below w.heap.size w W)=>io (h.below hW) hi m hm;have an:=fun W (hW:Below w.heap.size w W)=>io (h.below hW) hi r hr;have a1:=fun W (hW:Below w.heap.size w W)=>gy (h.below hW) hi l hl;have ap:=fun W (hW:Below w.heap.size w W)=>gy (h.below hW) hi r hr;rw[t1] at ad;rw[t2] at ai;rw[t3] at an;have hq:((m:Int)==0)=false:=by simp;omega
 have hp:=fun W (hW:Below w.heap.size w W)=>nh (h.below hW) hi m l r false hm hl hr hp;exact qBkaa
theorem DL{S S':St}(h:Ig w ps S Y)(hi:Fv S)(l m r:Nat)(hl:l<2^64)(hm:m<2^64)(hr:r<2^64)(h0:m≠0)(t1:isT S l=true)(t2:isT S m=true)(t3:isT S r=true)(hc:blackT S l=blackT S r)(hr1:redT S l=false)(hr2:redT S r=false)(hp:putRM S m l r true=some S'):
 Ct 142 #[PV ps,Xu l,Xu m,Xu r] w fun e w'=>e=.returned (.tuple #[Xu m,Xi 0])/\Ig w' ps S' Y/\Fo Y w w':=by
 have a0:=fB h hi 0 (by omega);rw[fU] at a0;have ad:=io h hi l hl;have ai:=fun W (hW:Below w.heap.size w W)=>io (h.below hW) hi m hm;have an:=fun W (hW:Below w.heap.size w W)=>io (h.below hW) hi r hr;have a1:=fun W (hW:Below w.heap.size w W)=>gy (h.below hW) hi l hl;have ap:=fun W (hW:Below w.heap.size w W)=>gy (h.below hW) hi r hr;rw[t1] at ad;rw[t2] at ai;rw[t3] at an;have hq:((m:Int)==0)=false:=by simp;omega
 have hp:=fun W (hW:Below w.heap.size w W)=>nh (h.below hW) hi m l r true hm hl hr hp;exact qBkaa
theorem DK{S S':St}(h:Ig w ps S Y)(hi:Fv S)(l m r:Nat)(hl:l<2^64)(hm:m<2^64)(hr:r<2^64){R:Nat×Nat}(hR:redJ S l m r=some (R,S')):
 Ct 142 #[PV ps,Xu l,Xu m,Xu r] w fun e w'=>e=.returned (.tuple #[Xu R.1,Xi R.2])/\Ig w' ps S' Y/\Fo Y w w':=by
 unfold redJ at hR
 split at hR
 ·cases hR
 rename_i hc;simp only[not_or,Bool.not_eq_false] at hc;obtain⟨h0,t1,t2,t3⟩:=hc
 split at hR
 ·rename_i hc;obtain⟨⟨x,S1⟩,h1,h2⟩:=aD.1 hR
  injection h2 with e1 e2
  subst e1 e2;exact DM h hi l m r hl hm hr h0 t1 t2 t3 hc h1
 ·rename_i hc1
  split at hR
  ·rename_i hc;obtain⟨⟨x,S1⟩,h1,h2⟩:=aD.1 hR
   injection h2 with e1 e2
   subst e1 e2;exact DN h hi l m r hl hm hr h0 t1 t2 t3 hc h1
  ·rename_i hc2;obtain⟨S1,h1,h2⟩:=aD.1 hR
   injection h2 with e1 e2
   subst e1 e2;have he:blackT S l=blackT S r:=by omega
   cases a1:redT S l with
   | true=>rw[a1] at h1;exact DO h hi l m r hl hm hr h0 t1 t2 t3 he a1 h1
   | false=>
    cases a2:redT S r with
    | true=>rw[a1,a2] at h1;exact DP h hi l m r hl hm hr h0 t1 t2 t3 he a1 a2 h1
    | false=>rw[a1,a2] at h1;exact DL h hi l m r hl hm hr h0 t1 t2 t3 he a1 a2 h1
theorem BK:kW 142 redJ where
 enter args w:=by go_simp
 inv hi h:=(wG hi h).1
 lt hi _ hm _ h:=(wG hi h).2.1 hm
 ok h:=by
  unfold redJ at h;split at h
  ·cases h
  ·split at h
   ·obtain⟨_,_,h2⟩:=aD.1 h;injection h2 with e1 e2
    rw[<-e1]
   ·split at h
    ·obtain⟨_,_,h2⟩:=aD.1 h;injection h2 with e1 e2
     rw[<-e1]
    ·obtain⟨_,_,h2⟩:=aD.1 h;injection h2 with e1 e2
     rw[<-e1]
 call h hi hl hm hr hR:=DK h hi _ _ _ hl hm hr hR
theorem ot:jD 2 142 235 redJ:=⟨ae rfl,E3,BK,Aj⟩
end
section
open Lf
namespace Tr
variable{S:St}{d:It}{f:Nat->Nat}{m:Nat}{o:Tr}{t:Tr}{u:Tr}{w:Tr}
theorem jf{A B:List Nat}{d:Nat}(h:(A++d::B).Nodup):A.Nodup/\B.Nodup/\d∉A/\d∉B/\∀y∈A,y∉B:=by
 grind
theorem lh{A B:List Nat}{d:Nat}(h1:A.Nodup)(h2:B.Nodup)(h3:d∉A)(h4:d∉B)(h5:∀y∈A,y∉B):(A++d::B).Nodup:=
 aC.2 ⟨h1,aF.2 ⟨h4,h2⟩,fun a ha b hb e=>by
  subst e;rcases aj.1 hb with e | e
  ·exact h3 (e▸ha)
  ·exact h5 a ha e⟩
def nt(tu:Bool)(o:Tr)(d:It)(m:Nat)(w:Tr):Tr:=if tu=true then node w d m o else node o d m w
theorem il(tu:Bool)(o:Tr)(d:It)(m:Nat)(w:Tr):(nt tu o d m w).root=d.h:=by cases tu<;>rfl
theorem fg(tu:Bool)(o:Tr)(d:It)(m:Nat)(w:Tr):(nt tu o d m w).mark=m:=by cases tu<;>rfl
theorem jR(tu:Bool)(o:Tr)(d:It)(m:Nat)(w:Tr):(nt tu o d m w).its=if tu=true then w.its++d::o.its else o.its++d::w.its:=by cases tu<;>rfl
theorem kJ(tu:Bool)(o:Tr)(d:It)(m:Nat)(w:Tr):(nt tu o d m w).its.length=o.its.length+w.its.length+1:=by
 rw[jR];cases tu<;>simp<;>omega
theorem jS(tu:Bool)(o:Tr)(d:It)(m:Nat)(w:Tr)(y:Nat):y∈(nt tu o d m w).hs↔y∈o.hs\/y=d.h\/y∈w.hs:=by
 cases tu
 ·show y∈(node o d m w).hs↔_
  rw[eY]
  simp
 ·show y∈(node w d m o).hs↔_
  grind [eY]
theorem lZ(tu:Bool)(o:Tr)(d:It)(m:Nat)(w:Tr):(nt tu o d m w).hs.Nodup↔(o.hs++d.h::w.hs).Nodup:=by
 cases tu
 ·show (node o d m w).hs.Nodup↔_
  rw[eY]
 ·show (node w d m o).hs.Nodup↔_
  rw[eY]
  grind
theorem lY{tu:Bool}(h:At S (nt tu o d m w)):At S o/\At S w/\∃n0,reco S d.h=some (eM n0)/\n0.key=d.kh/\n0.val=d.vh:=by
 cases tu
 ·exact⟨h.2.1,h.2.2,_,h.1,rfl,rfl⟩
 ·exact⟨h.2.2,h.2.1,_,h.1,rfl,rfl⟩
theorem oH(hf:Fw S f){tu:Bool}(h:At S (nt tu o d m w)):sidesT S tu d.h=(o.root,w.root):=by
 unfold sidesT
 cases tu
 ·have h:At S (node o d m w):=h;rw[h.getNode hf]
  rfl
 ·have h:At S (node w d m o):=h;rw[h.getNode hf]
  rfl
theorem At.red(hf:Fw S f)(h:At S t):redT S t.root=decide (t.mark % 2=1):=by
 unfold redT;have:=(h.mark_eq hf).1;unfold mU at this;grind
theorem At.black(hf:Fw S f)(h:At S t):blackT S t.root=t.mark / 2:=by
 unfold blackT;have:=(h.mark_eq hf).1;unfold mU at this;omega
def Sr(t:Tr):Prop:=t.mark<100000/\t.its.length<100000
theorem rW(hf:Fw S f){l r:Tr}{n0:Nd}(c:Bool)(hl:At S l)(hr:At S r)(hd:reco S d.h=some (eM n0))(hk0:n0.key=d.kh)(hv0:n0.val=d.vh)(hnl:d.h∉l.hs)(hnr:d.h∉r.hs)(sl:Sr l)(sr:Sr r):
 ∃S',putRM S d.h l.root r.root c=some S'/\Fw S' f/\At S' (node l d (l.mark / 2*2+(if c then 1 else 2)) r)/\(∀h',h'≠d.h->reco S' h'=reco S h')/\ej S S' 0 0:=by
 have hw:=(fL hf hd).2.2.2;have ai:d.kh<2^64:=by rw[<-hk0];exact hw _ (by simp[eM])
 have ar:d.vh<2^64:=by rw[<-hv0];exact hw _ (by simp[eM])
 have h1:=sl.1;have h2:=sl.2;have h3:=sr.2;have au:(node l d (l.mark / 2*2+(if c then 1 else 2)) r).its.length=l.its.length+(r.its.length+1):=by simp[its]
 have ap:ji (nd l d (l.mark / 2*2+(if c then 1 else 2)) r):=by
  refine⟨ai,ar,hl.root_lt hf,hr.root_lt hf,?_,?_⟩
  ·show l.mark / 2*2+(if c then 1 else 2)<_
   cases c<;>simp<;>omega
  ·show (node l d (l.mark / 2*2+(if c then 1 else 2)) r).its.length<_;omega
 obtain⟨S',e,ad,an,ho,hg⟩:=ww hf hd ap;refine⟨S',?_,ad,⟨an,hl.frame fun h hm=>ho h fun e=>hnl (e▸hm),hr.frame fun h hm=>ho h fun e=>hnr (e▸hm)⟩,ho,hg⟩;unfold putRM;rw[hl.size hf (by omega),hr.size hf (by omega),hl.black hf,gw hf hd];simp only
 grind [mark,nd]
theorem lu(hf:Fw S f)(tu:Bool){o w:Tr}{n0:Nd}(c:Bool)(ho:At S o)(hw:At S w)(hd:reco S d.h=some (eM n0))(hk0:n0.key=d.kh)(hv0:n0.val=d.vh)(hno:d.h∉o.hs)(hnw:d.h∉w.hs)(so:Sr o)(sw:Sr w)(hb:o.mark / 2=w.mark / 2):
 ∃S',putJ S tu d.h o.root w.root c=some S'/\Fw S' f/\At S' (nt tu o d (o.mark / 2*2+(if c then 1 else 2)) w)/\(∀h',h'≠d.h->reco S' h'=reco S h')/\ej S S' 0 0:=by
 cases tu
 ·exact rW hf c ho hw hd hk0 hv0 hno hnw so sw
 ·have:=rW hf c hw ho hd hk0 hv0 hnw hno sw so;rw[<-hb] at this;exact this
def Rb:Tr->Prop
 | nil=>True
 | node l _ m r=>Rb l/\Rb r/\l.mark / 2=r.mark / 2/\((m=l.mark / 2*2+1/\l.mark % 2=0/\r.mark % 2=0)\/m=l.mark / 2*2+2)
theorem Rb.mark_le:∀{t:Tr},Rb t->t.mark<=2*t.its.length
 | nil,_=>Nat.le_refl _
 | node l d m r,⟨h1,h2,h3,h4⟩=>by
  have:=h1.mark_le;have:=h2.mark_le;show m<=2*(l.its++d::r.its).length
  simp only[ah,ag];omega
theorem Rb.sr(h:Rb t)(hl:t.its.length<40000):Sr t:=⟨by have:=h.mark_le;omega,by omega⟩
structure jl (o w:Tr) (m:Nat):Prop where
 ro:Rb o
 rw':Rb w
 bh:o.mark / 2=w.mark / 2
 col:(m=o.mark / 2*2+1/\o.mark % 2=0/\w.mark % 2=0)\/m=o.mark / 2*2+2
theorem jl.nt{tu:Bool}{o w:Tr}(h:jl o w m):Rb (Tr.nt tu o d m w):=by
 obtain⟨h1,h2,h3,h4⟩:=h
 cases tu
 ·exact⟨h1,h2,h3,h4⟩
 ·refine⟨h2,h1,h3.symm,?_⟩;omega
theorem Rb.node_nt(tu:Bool)(h:Rb t)(hm:t.mark≠0):∃o d m w,t=Tr.nt tu o d m w/\jl o w m:=by
 cases t with
 | nil=>exact absurd rfl hm
 | node l d m r=>
  obtain⟨h1,h2,h3,h4⟩:=h
  cases tu
  ·exact⟨l,d,m,r,rfl,h1,h2,h3,h4⟩
  ·refine⟨r,d,m,l,rfl,h2,h1,h3.symm,?_⟩;omega
def iS(tu:Bool)(u:Tr):Prop:=∃o d m w,u=Tr.nt tu o d m w/\Rb o/\Rb w/\o.mark % 2=0/\o.mark / 2=w.mark / 2/\m=o.mark / 2*2+1
def kR(tu:Bool)(u:Tr):Prop:=∃o d m w,u=Tr.nt tu o d m w/\Rb o/\(Rb w\/iS tu w)/\o.mark % 2=0/\o.mark / 2=w.mark / 2/\m=o.mark / 2*2+1
theorem iS.two{tu:Bool}(h:iS tu u):kR tu u:=by
 obtain⟨o,d,m,w,h1,h2,h3,h4⟩:=h;exact⟨o,d,m,w,h1,h2,ab h3,h4⟩
theorem iS.odd{tu:Bool}(h:iS tu u):u.mark % 2=1:=by
 obtain⟨o,d,m,w,rfl,_,_,_,_,h⟩:=h;rw[fg];omega
theorem kR.odd{tu:Bool}(h:kR tu u):u.mark % 2=1:=by
 obtain⟨o,d,m,w,rfl,_,_,_,_,h⟩:=h;rw[fg];omega
theorem yz{tu:Bool}(h:Rb u\/kR tu u)(hr:u.mark % 2=1):kR tu u:=by
 rcases h with h | h
 ·obtain⟨o,d,m,w,rfl,h1,h2,h3,h4⟩:=h.node_nt tu (by omega);rw[fg] at hr;have h4:m=o.mark / 2*2+1/\o.mark % 2=0/\w.mark % 2=0:=by rcases h4 with h4 | h4<;>omega
  exact⟨o,d,m,w,rfl,h1,ab h2,h4.2.1,h3,h4.1⟩
 omega
theorem tA{tu:Bool}(h:Rb u\/iS tu u)(hr:u.mark % 2=1):iS tu u:=by
 rcases h with h | h
 ·obtain⟨o,d,m,w,rfl,h1,h2,h3,h4⟩:=h.node_nt tu (by omega);rw[fg] at hr;have h4:m=o.mark / 2*2+1/\o.mark % 2=0/\w.mark % 2=0:=by rcases h4 with h4 | h4<;>omega
  exact⟨o,d,m,w,rfl,h1,h2,h4.2.1,h3,h4.1⟩
 omega
def jO(tu:Bool)(a:List It)(d:It)(b:List It):List It:=if tu=true then b++d::a else a++d::b
theorem AY(hf:Fw S f){tu:Bool}{oth x:Tr}{e:It}(ha:At S (nt tu oth e (oth.mark / 2*2+2) x))(hnd:(nt tu oth e (oth.mark / 2*2+2) x).hs.Nodup)(hlen:(nt tu oth e (oth.mark / 2*2+2) x).its.length<40000)
 (ro:Rb oth) (rx:Rb x\/kR tu x) (hb:oth.mark / 2=x.mark / 2):
 ∃u S',fixR tu S e.h oth.root x.root false=some (u.root,S')/\lF S S' f (nt tu oth e (oth.mark / 2*2+2) x).hs u/\u.its=(nt tu oth e (oth.mark / 2*2+2) x).its/\Rb u/\u.mark / 2=oth.mark / 2+1:=by
 obtain⟨ho,hx,n0,bb,a9,bk⟩:=lY ha;have ai:=hx.red hf;by_cases c1:x.mark % 2=1
 ·obtain⟨a,xd,xm,b,rfl,ra,rb,ea,eb,em⟩:=yz rx c1;rw[fg] at hb c1;have hs:=oH hf hx;obtain⟨a4,ad,n1,bc,a',bo⟩:=lY hx;have ap:=ad.red hf;by_cases c2:b.mark % 2=1
  ·obtain⟨c,bd,bm,d',rfl,rc,rd,ec,ed,b2⟩:=tA rb c2;rw[fg] at eb c2;obtain⟨a5,a6,n2,bf,ba,bq⟩:=lY ad;rw[lZ] at hnd;obtain⟨d1,d2,d3,d4,d5⟩:=jf hnd;rw[lZ] at d2;obtain⟨d6,d7,d8,d9,an⟩:=jf d2;rw[lZ] at d7;obtain⟨bx,b0,ar,au,b1⟩:=jf d7;simp only[jS,not_or] at d4 d5 d9 an;rw[kJ,kJ,kJ] at hlen;have so:=ro.sr (by omega);obtain⟨S1,e1,f1,a1,o1,g1⟩:=lu hf tu false a5 a6 bf ba bq ar au (rc.sr (by omega)) (rd.sr (by omega)) ed;have bj:At S1 oth:=ho.frame fun y hy=>o1 y fun q=>(d5 y hy).2.2.2.1 q;have a0:At S1 a:=a4.frame fun y hy=>o1 y fun q=>(an y hy).2.1 q;have a8:reco S1 e.h=some (eM n0):=(o1 _ fun q=>d4.2.2.2.1 q).trans bb;have bs:reco S1 xd.h=some (eM n1):=(o1 _ fun q=>d9.2.1 q).trans bc;obtain⟨S2,e2,f2,a2,o2,g2⟩:=lu f1 tu false bj a0 a8 a9 bk d3 d4.1 so (ra.sr (by omega)) (by omega);have a7:At S2 (nt tu c bd (c.mark / 2*2+2) d'):=a1.frame fun y hy=>o2 y fun q=>by
    grind [jS]
   have bt:reco S2 xd.h=some (eM n1):=(o2 _ fun q=>d4.2.1 q.symm).trans bs;have st:Sr (nt tu oth e (oth.mark / 2*2+2) a):=⟨by rw[fg];have:=so.1;have:=ro.mark_le;omega,by rw[kJ];omega⟩;have sb:Sr (nt tu c bd (c.mark / 2*2+2) d'):=⟨by rw[fg];have:=rc.mark_le;omega,by rw[kJ];omega⟩;obtain⟨S3,e3,f3,a3,o3,g3⟩:=lu f2 tu true a2 a7 bt a' bo (by rw[jS];grind) (by rw[jS];grind) st sb (by rw[fg,fg];grind);refine⟨_,S3,?_,⟨f3,a3,?_,(g1.trans g2).trans g3⟩,?_,?_,?_⟩
   ·unfold fixR;rw[ai,fg];rw[if_neg (by simp;omega),il,hs];simp only;rw[ap,fg,if_neg (by simp;omega),il,oH hf ad];grind [il]
   ·intro y hy;simp only[jS,not_or] at hy;grind
   ·cases tu<;>simp[jR]
   ·refine jl.nt ⟨jl.nt ⟨ro,ra,by omega,ae rfl⟩,jl.nt ⟨rc,rd,ed,ae rfl⟩,?_,ab ⟨rfl,?_,?_⟩⟩<;>simp only[fg,dF,if_false]<;>omega
   ·simp only[fg,dF,if_false,if_true];omega
  ·refine⟨nt tu oth e (oth.mark / 2*2+2) (nt tu a xd xm b),S,?_,⟨hf,ha,fun _ _=>rfl,ej.refl S⟩,rfl,?_,?_⟩
   ·unfold fixR;rw[ai,fg,if_neg (by grind),il,hs];simp only;rw[ap,if_pos (by grind),il]
   ·have bu:Rb b:=by
     rcases rb with h | h
     ·exact h
     ·have:=h.odd;omega
    refine jl.nt ⟨ro,jl.nt ⟨ra,bu,eb,ab ⟨em,ea,by omega⟩⟩,?_,ae rfl⟩;rw[fg];omega
   ·rw[fg];omega
 ·have bv:Rb x:=by
   rcases rx with h | h
   ·exact h
   ·have:=h.odd;omega
  refine⟨nt tu oth e (oth.mark / 2*2+2) x,S,?_,⟨hf,ha,fun _ _=>rfl,ej.refl S⟩,rfl,jl.nt ⟨ro,bv,hb,ae rfl⟩,by rw[fg];omega⟩;unfold fixR;rw[ai,if_pos (by grind),il]
end Tr
namespace Tr
structure yw (tu:Bool) (t low u:Tr):Prop where
 bh:u.mark / 2=t.mark / 2
 all:Rb u\/kR tu u
 stop:t.mark % 2=0->low.mark / 2=t.mark / 2->iS tu u
 go:t.mark % 2=0->low.mark / 2<t.mark / 2->Rb u
 red:t.mark % 2=1->low.mark / 2<t.mark / 2->iS tu u
theorem uZ(tu:Bool){d:It}:∀(f:Nat) {S:St} {o:Nat->Nat} {t low:Tr} {n0:Nd},Fw S o->At S t->At S low->Rb t->Rb low->reco S d.h=some (eM n0)->n0.key=d.kh->n0.val=d.vh->
 (t.hs++d.h::low.hs).Nodup->t.its.length+low.its.length<9000->t.its.length<=f->low.mark / 2<=t.mark / 2->
 ∃u S',joinR tu d.h f S t.root low.root=some (u.root,S')/\lF S S' o (t.hs++d.h::low.hs) u/\u.its=jO tu t.its d low.its/\yw tu t low u
 | 0,S,o,t,low,n0,hf,ht,hlo,rt,rl,hd,hk0,hv0,hnd,hlen,hfu,hb=>by
  have bb:t=nil:=by
   cases t with
   | nil=>rfl
   | node l d m r=>simp[its] at hfu
  subst bb;obtain⟨h1,h2,h3,h4,h5⟩:=jf hnd;obtain⟨S1,e1,f1,a1,o1,g1⟩:=lu hf tu true ht hlo hd hk0 hv0 h3 h4 (rt.sr (by omega)) (rl.sr (by omega)) (by have:nil.mark=0:=rfl;omega);refine⟨_,S1,?_,⟨f1,a1,fun y hy=>o1 y fun e=>hy (by grind),g1⟩,?_,?_⟩
  ·rw[rf,e1,il];rfl
  ·rw[jR];rfl
  ·have h0:nil.mark=0:=rfl;have ai:iS tu (nt tu nil d (nil.mark / 2*2+(if true then 1 else 2)) low):=⟨nil,d,_,low,rfl,rt,rl,rfl,by omega,rfl⟩;exact⟨by rw[fg];rfl,ae ai.two,fun _ _=>ai,fun _ q=>by omega,fun q=>by omega⟩
 | f+1,S,o,t,low,n0,hf,ht,hlo,rt,rl,hd,hk0,hv0,hnd,hlen,hfu,hb=>by
  rw[re,ht.red hf,ht.black hf,hlo.black hf];obtain⟨h1,h2,h3,h4,h5⟩:=jf hnd;by_cases c1:t.mark % 2=0/\t.mark / 2=low.mark / 2
  ·rw[if_pos (by grind)];obtain⟨S1,e1,f1,a1,o1,g1⟩:=lu hf tu true ht hlo hd hk0 hv0 h3 h4 (rt.sr (by omega)) (rl.sr (by omega)) c1.2;refine⟨_,S1,?_,⟨f1,a1,fun y hy=>o1 y fun e=>hy (by grind),g1⟩,?_,?_⟩
   ·rw[e1,il];rfl
   ·rw[jR];rfl
   ·have ai:iS tu (nt tu t d (t.mark / 2*2+(if true then 1 else 2)) low):=⟨t,d,_,low,rfl,rt,rl,c1.1,c1.2,rfl⟩;exact⟨by rw[fg];grind,ae ai.two,fun _ _=>ai,fun _ q=>by omega,fun q=>by omega⟩
  ·rw[if_neg (by grind)];have au:t.mark≠0:=by omega
   obtain⟨ad,e,m,own,rfl,ro,a0,bd,ap⟩:=rt.node_nt tu au;rw[fg] at hb c1 au;obtain⟨a4,a6,n1,a',a9,bc⟩:=lY ht;rw[lZ] at h1;obtain⟨d1,d2,d3,d4,d5⟩:=jf h1;simp only[jS,not_or] at h3 h5;rw[kJ] at hlen hfu;have ba:(own.hs++d.h::low.hs).Nodup:=lh d2 h2 h3.2.2 h4 fun y hy=>h5 y (ae (ae hy));obtain⟨x,S1,e1,D1,i1,J1⟩:=uZ tu f hf a6 hlo a0 rl hd hk0 hv0 ba (by omega) (by omega) (by rcases ap with g | g<;>omega);have bm:∀y,y∈x.hs↔y∈own.hs\/y=d.h\/y∈low.hs:=fun y=>by
    grind [Tr.hs,jO]
   have bo:x.its.length=own.its.length+low.its.length+1:=by rw[i1];unfold jO;cases tu<;>simp<;>omega
   have bq:x.hs.Nodup:=by
    have e:x.hs=if tu=true then low.hs++d.h::own.hs else own.hs++d.h::low.hs:=by
     unfold Tr.hs;rw[i1];unfold jO;cases tu<;>simp
    grind
   have a5:At S1 ad:=a4.frame fun y hy=>D1.other y fun hm=>by
    grind
   have bf:d.h≠e.h:=h3.2.1;have bk:e.h∉low.hs:=h5 _ (ae (ab rfl));have a7:reco S1 e.h=some (eM n1):=(D1.other _ fun hm=>by
    grind).trans a'
   have a8:e.h∉x.hs:=by
    grind
   have sx:Sr x:=by
    refine⟨?_,by omega⟩;have:=J1.bh;have:=a0.mark_le;omega
   obtain⟨S2,e2,f2,a2,o2,g2⟩:=lu D1.fit tu (decide (m % 2=1)) a5 D1.at' a7 a9 bc d3 a8 (ro.sr (by omega)) sx (by rw[J1.bh];omega);have bj:∀y∈ad.hs,y∉x.hs:=fun y hy hm=>by
    grind
   rw[il,oH hf ht];simp only;rw[e1];simp only;rw[fg,e2];simp only;have an:∀y,y∉(nt tu ad e m own).hs++d.h::low.hs->y≠e.h/\y∉own.hs++d.h::low.hs:=fun y hy=>by
    simp only[ax,aj,jS,not_or] at hy⊢;grind
   by_cases c2:m % 2=1
   ·have hm:m=ad.mark / 2*2+1/\ad.mark % 2=0/\own.mark % 2=0:=by rcases ap with g | g<;>omega
    have ar:decide (m % 2=1)=true:=decide_eq_true c2;rw[ar] at a2⊢;refine⟨nt tu ad e (ad.mark / 2*2+(if true then 1 else 2)) x,S2,?_,⟨f2,a2,fun y hy=>(o2 y (an y hy).1).trans (D1.other y (an y hy).2),D1.grew.trans g2⟩,?_,?_⟩
    ·unfold fixR;rw[if_pos (ab rfl),il];exact nU (fL f2 (lY a2).2.2.choose_spec.1).2.1
    ·rw[jR,i1,jR];unfold jO;cases tu<;>simp
    ·refine⟨by rw[fg,fg];grind,?_,?_,?_,?_⟩
     ·right
      refine⟨ad,e,_,x,rfl,ro,?_,hm.2.1,by rw[J1.bh];omega,rfl⟩;rcases co (low.mark / 2) (own.mark / 2) with g | g
      ·exact ab (J1.go hm.2.2 g)
      ·exact ae (J1.stop hm.2.2 (by omega))
     ·intro q;rw[fg] at q;omega
     ·intro q;rw[fg] at q;omega
     ·intro _ q;rw[fg] at q;exact⟨ad,e,_,x,rfl,ro,J1.go hm.2.2 (by omega),hm.2.1,by rw[J1.bh];omega,rfl⟩
   ·have hm:m=ad.mark / 2*2+2:=by rcases ap with g | g<;>omega
    have ar:decide (m % 2=1)=false:=decide_eq_false c2;rw[ar] at a2⊢;have a3:At S2 (nt tu ad e (ad.mark / 2*2+2) x):=a2;obtain⟨u,S3,e3,D3,i3,r3,b3⟩:=AY f2 a3 (by rw[lZ];grind) (by rw[kJ];omega) ro J1.all (by rw[J1.bh];omega);refine⟨u,S3,?_,⟨D3.fit,D3.at',fun y hy=>?_,(D1.grew.trans g2).trans D3.grew⟩,?_,?_⟩
    ·rw[e3];exact nU (D3.at'.root_lt D3.fit)
    ·refine(D3.other y ?_).trans ((o2 y (an y hy).1).trans (D1.other y (an y hy).2));simp only[ax,aj,jS,not_or] at hy⊢;grind
    ·rw[i3,jR,i1,jR];unfold jO;cases tu<;>simp
    ·refine⟨by rw[b3,fg];omega,ab r3,fun _ q=>?_,fun _ _=>r3,fun q=>?_⟩
     ·rw[fg] at q;omega
     ·rw[fg] at q;omega
theorem xG(tu:Bool){d:It}{S:St}{o:Nat->Nat}{t low:Tr}{n0:Nd}(hf:Fw S o)(ht:At S t)(hlo:At S low)(rt:Rb t)(rl:Rb low)(hd:reco S d.h=some (eM n0))(hk0:n0.key=d.kh)(hv0:n0.val=d.vh)
 (hnd:(t.hs++d.h::low.hs).Nodup) (hlen:t.its.length+low.its.length<99) (hb:low.mark / 2<t.mark / 2):
 ∃u S',topR tu S t.root d.h low.root=some (u.root,S')/\lF S S' o (t.hs++d.h::low.hs) u/\Rb u/\u.its=jO tu t.its d low.its:=by
 obtain⟨u,S1,e1,D1,i1,J1⟩:=uZ tu 200 hf ht hlo rt rl hd hk0 hv0 hnd (by omega) (by omega) (by omega);unfold topR;rw[e1];simp only;rw[D1.at'.red D1.fit];by_cases c1:u.mark % 2=1
 ·have an:iS tu u:=by
   by_cases c0:t.mark % 2=0
   ·exact tA (ab (J1.go c0 hb)) c1
   ·exact J1.red (by omega) hb
  obtain⟨a,e,m,b,rfl,ra,rb,ea,eb,em⟩:=an;have hs:=oH D1.fit D1.at';obtain⟨ha,ad,n1,au,ap,a1⟩:=lY D1.at';rw[il,hs];simp only;rw[ad.red D1.fit];by_cases c2:b.mark % 2=1
  ·have ai:(nt tu a e m b).hs.Nodup:=by
    have q:(nt tu a e m b).hs=if tu=true then low.hs++d.h::t.hs else t.hs++d.h::low.hs:=by
     unfold Tr.hs;rw[i1];unfold jO;cases tu<;>simp
    grind
   have a0:(nt tu a e m b).its.length<200:=by rw[i1];unfold jO;cases tu<;>simp<;>omega
   rw[kJ] at a0;rw[lZ] at ai;obtain⟨_,_,g3,g4,g5⟩:=jf ai;obtain⟨S2,e2,f2,a2,o2,w2⟩:=lu D1.fit tu false ha ad au ap a1 g3 g4 (ra.sr (by omega)) (rb.sr (by omega)) eb;have ar:∀y,y∉t.hs++d.h::low.hs->y≠e.h:=fun y hy q=>by
    have:e.h∈(nt tu a e m b).hs:=by rw[jS];exact ae (ab rfl)
    grind [nt,hs,Tr.hs,jO]
   refine⟨nt tu a e (a.mark / 2*2+(if false then 1 else 2)) b,S2,?_,⟨f2,a2,fun y hy=>(o2 y (ar y hy)).trans (D1.other y hy),D1.grew.trans w2⟩,jl.nt ⟨ra,rb,eb,ae rfl⟩,?_⟩
   ·rw[fg,if_pos (by grind),e2,il];rfl
   ·rw[<-i1,jR,jR]
  ·refine⟨nt tu a e m b,S1,?_,D1,jl.nt ⟨ra,rb,eb,ab ⟨em,ea,by omega⟩⟩,i1⟩;rw[if_neg (by grind),il]
 ·refine⟨u,S1,?_,D1,?_,i1⟩
  ·grind
  ·rcases J1.all with h | h
   ·exact h
   ·have:=h.odd;omega
theorem oq:kV redJ Rb where
 nil:=trivial
 sub h:=⟨h.1,h.2.1⟩
 join:=by
  intro S o l r d n0 hf hl hr bl br hd hk0 hv0 hnd hlen;have ad:=(fL hf hd).1;have h0:¬(d.h=0\/isT S l.root=false\/isT S d.h=false\/isT S r.root=false):=by
   rw[hl.isT hf,hr.isT hf];have:isT S d.h=true:=by unfold isT;rw[gw hf hd];simp
   grind
  unfold redJ;rw[if_neg h0,hl.black hf,hr.black hf];obtain⟨g1,g2,g3,g4,g5⟩:=jf hnd;by_cases c1:r.mark / 2<l.mark / 2
  ·rw[if_pos c1];obtain⟨u,S1,e1,D1,r1,i1⟩:=xG false hf hl hr bl br hd hk0 hv0 hnd hlen c1;exact⟨u,S1,by grind,D1,r1,i1⟩
  ·rw[if_neg c1];by_cases c2:l.mark / 2<r.mark / 2
   ·rw[if_pos c2];obtain⟨u,S1,e1,D1,r1,i1⟩:=xG true hf hr hl br bl hd hk0 hv0 (lh g2 g1 g4 g3 fun y hy hm=>g5 y hm hy) (by omega) c2;refine⟨u,S1,by rw[e1];rfl,⟨D1.fit,D1.at',fun y hy=>D1.other y fun hm=>hy ?_,D1.grew⟩,r1,i1⟩;grind
   ·rw[if_neg c2,hl.red hf,hr.red hf];obtain⟨S1,e1,f1,a1,o1,w1⟩:=rW hf (!decide (l.mark % 2=1) && !decide (r.mark % 2=1)) hl hr hd hk0 hv0 g3 g4 (bl.sr (by omega)) (br.sr (by omega));refine⟨_,S1,by rw[e1];rfl,⟨f1,a1,fun y hy=>o1 y fun e=>hy (by rw[e];simp),w1⟩,⟨bl,br,by omega,?_⟩,rfl⟩;grind
end Tr
end
section
open Go.RowKit Tryz Go.BigFrame Go.Maps Go.WideMaps Lf Tr
variable{S:St}{Y:Nat->Prop}{hh:Nat}{o:Nat->Nat}{ps:Nat}{w:World}
theorem Hb(h:Ig w ps S Y)(hf:Fw S o){n:Nd}(hn:reco S hh=some (eM n)):
 Cb 76 #[PV ps,Xu hh] w (.tuple #[eS n,Xi 0]):=by
 have:=iO h hf.inv hh (fL hf hn).2.1;rw[gw hf hn] at this;exact this
theorem Ki(h:Ig w ps S Y)(hf:Fw S o){t:List UInt8}(ht:t.length<=1000)(hn:reco S hh=some (FK t)):
 Cb 51 #[PV ps,Xu hh] w (.tuple #[SV t,Xi 0]):=by
 have e:=jt hf ht hn;have:=iz h hf.inv hh (fL hf hn).2.1 (by rw[e];exact(by decide:(0:Nat)≠8));rw[e] at this;exact this
theorem LV(h:Ig w ps S Y)(hf:Fw S o){n:Nd}(hn:reco S hh=some (eM n)){k v:List UInt8}(lk:k.length<=1000)(lv:v.length<=1000)(hk:reco S n.key=some (FK k))(hv:reco S n.val=some (FK v)):
 Cb 192 #[PV ps,Xu hh] w (.tuple #[eu (k,v),Xi 0]):=by
 have hg:=fun W (hW:Below w.heap.size w W)=>Hb (h.below hW) hf hn;have ai:=fun W (hW:Below w.heap.size w W)=>Ki (h.below hW) hf lk hk;have an:=fun W (hW:Below w.heap.size w W)=>Ki (h.below hW) hf lv hv;have ad:Below w.heap.size w (w.alloc (.cells #[.string ⟨#[]⟩,.string ⟨#[]⟩] 40)):=(aa _ _).alloc Ih _;have hs:(w.alloc (.cells #[.string ⟨#[]⟩,.string ⟨#[]⟩] 40)).heap[w.heap.size]?=some (.cells #[.string ⟨#[]⟩,.string ⟨#[]⟩] 40):=World.alloc_heap_new _ _;have HG:=kq5 hg ai an ad hs;unfold eS at HG;clear hg ai an ad h hf hn lk lv hk hv hs;go_enter func192,ntmps192;go_wp2_with fail;refine b8 (HG.a _ HG.d) fun w1 hb1=>?_;have A1:=HG.d.trans (hb1.mono HG.d.size);have N1:=(aa w1.heap.size w1).alloc Ih (Xb n.key n.val n.left n.right n.mark n.size);have q1:(w1.alloc (Xb n.key n.val n.left n.right n.mark n.size)).heap[w1.heap.size]?=some (Xb n.key n.val n.left n.right n.mark n.size):=World.alloc_heap_new _ _;have A2:=A1.trans (N1.mono A1.size);have z0:=(gl HG.e);have s1:=hb1.size;have p2:=(N1.block _ (by omega)).trans ((hb1.block _ z0).trans HG.e);have H1:=kq3 A2 q1 p2;clear A1 N1 q1 A2 p2 hb1 z0 s1;go_wp2_with fail;refine b8 (HG.b _ H1.a) fun w3 hb3=>?_;have A3:=H1.a.trans (hb3.mono H1.a.size);have q3:=(hb3.block _ (gl H1.b)).trans H1.b;have p3:=(hb3.block _ (gl H1.c)).trans H1.c;obtain⟨c0,c1,c2,c3,c4,c5⟩:=ia q3;have H3:=kq2 A3 p3;clear hb3 A3 q3 p3 H1;go_wp2_with fail;refine b8 (HG.c _ H3.a) fun w4 hb4=>?_;have p4:=(hb4.block _ (gl H3.b)).trans H3.b;have q5:=ew p4 (SV k) (SV v);have B5:=eT (H3.a.trans (hb4.mono H3.a.size)) Ih (SV k) (SV v);obtain⟨d0,d1⟩:=Fp p4;obtain⟨f0,f1⟩:=ef p4;have HB:=kq2 q5 B5;clear hb4 p4 H3 c0 c1 c2 c3 c4 c5 q5 B5;go_wp2_with fail;obtain⟨q5,B5⟩:=HB.out;generalize ((w4.setCell ⟨w.heap.size,0,none⟩ (SV k)).setCell ⟨w.heap.size,1,none⟩ (SV v))=wF at*;obtain⟨e0,e1⟩:=Fp q5;exact bodyPost_ret (v:=.tuple #[.agg #[SV k,SV v],Xi 0]) (by simp[results,f192,go_sem,e0,e1]) rfl ⟨rfl,B5⟩
def mt(L R:Nat):Nat->Nat
 | 0=>1
 | 1=>1+L
 | _=>1+L+R
theorem Tr.side:∀{t:Tr},Tr.At S t->(t.root=0/\t.its.length=0)\/∃n,reco S t.root=some (eM n)/\n.size=t.its.length
 | .nil,_=> .inl ⟨rfl,rfl⟩
 | .node _ _ _ _,h=> .inr ⟨_,h.1,rfl⟩
theorem Lr(a b:Value)(w:World):(Instr.index 322 (.agg #[a,b]) (Xi 0)).run prog w=.ok a w:=by kernel_rfl
theorem Ls(a b:Value)(w:World):(Instr.index 322 (.agg #[a,b]) (Xi 1)).run prog w=.ok b w:=by kernel_rfl
theorem LT(h:Ig w ps S Y)(hf:Fw S o){l:Tr}{d:It}{m:Nat}{r:Tr}(hl:Tr.At S l)(hr:Tr.At S r)(hc:l.its.length+r.its.length<1000):
 Cb 193 #[PV ps,eS (nd l d m r)] w (.bool true):=by
 have hz:(Tr.node l d m r).its.length=1+l.its.length+r.its.length:=by
  show (l.its++d::r.its).length=_
  rw[ah,ag];omega
 have sl:=Tr.side hl;have sr:=Tr.side hr;have hg:=fun W (hW:Below w.heap.size w W) (hh:Nat) (n:Nd) (hn:reco S hh=some (eM n))=>Hb (h.below hW) hf hn;have au:=fun(hh:Nat) (n:Nd) (hn:reco S hh=some (eM n))=>(fL hf hn).1;unfold nd eS;obtain⟨z,a1⟩:=Ii (Tr.node l d m r).its.length;rw[a1] at hz⊢;clear a1;generalize l.its.length=L at*;generalize r.its.length=R at*;generalize l.root=rl at*;generalize r.root=rr at*;have ar:Below w.heap.size w (w.alloc (Xb d.kh d.vh rl rr m (z:Nat))):=(aa _ _).alloc Ih _;have q0:(w.alloc (Xb d.kh d.vh rl rr m (z:Nat))).heap[w.heap.size]?=some (Xb d.kh d.vh rl rr m (z:Nat)):=World.alloc_heap_new _ _;unfold eS at hg;have HG:=kq6 hg au ar q0 sl sr;have a0:mt L R 2=z:=by rw[hz];rfl
 have HZ:=If a0;clear hg au ar q0 sl sr h hf hl hr hz a0;have a2:=Lr (Xu rl) (Xu rr);have a3:=Ls (Xu rl) (Xu rr);go_enter func193,ntmps193;go_wp2_with fail
 go_loopw [4,5,7,8,9,15] (fun _ s5 _ _ _ s15 wr=>∃j:Nat,j<=2/\s15=Xi j/\s5=Xu (mt L R j:Nat)/\Hid (Below w.heap.size w wr/\wr.heap[w.heap.size]?=some (Xb d.kh d.vh rl rr m (z:Nat)))) (fun _ _ _ _ _ s15 _=>2-(intOf s15).toNat)
 case atStart=>exact⟨0,by omega,rfl,rfl,HG.c,HG.d⟩
 case round=>
  obtain⟨j,hj,rfl,rfl,J0⟩:=hrel
  rcases(show j=0\/j=1\/j=2 by omega) with rfl | rfl | rfl
  ·rcases HG.e with⟨e0,e1⟩ | ⟨n,e0,e1⟩
   ·have ap:((rl:Int)==0)=true:=by rw[e0];rfl
    have hs:mt L R 1=mt L R 0:=by rw[e1];rfl
    have HE:=If hs;clear e0 e1 hs;generalize mt L R 0=s0 at*;obtain⟨s1,ad⟩:=Ii (mt L R 1);have ai:=If ad;clear ad;go_wp2_with fail;go_roundw
    case rel=>exact⟨1,by omega,rfl,by rw[<-HE.out],J0.out⟩
    case measure=>simp[intOf]
   ·have ap:((rl:Int)==0)=false:=by have:=HG.b _ _ e0;simp;omega
    have an:=HG.a wr J0.out.1 rl n e0;have hw:IntKind.u64.wrap (((mt L R 0:Nat):Int)+n.size)=((mt L R 1:Nat):Int):=by
     rw[e1];simp only[mt];rw[bO _ (by omega)];omega
    have HE:=kq3 e0 e1 an;clear e0 e1 an;generalize mt L R 0=s0 at*;obtain⟨s1,ad⟩:=Ii (mt L R 1);rw[ad] at hw;have ai:=If ad;clear ad;go_wp2_with fail;refine b8 HE.c fun w1 hb1=>?_;have q1:=(hb1.block _ (gl J0.out.2)).trans J0.out.2;have A1:=J0.out.1.trans (hb1.mono J0.out.1.size);have N1:=(aa w1.heap.size w1).alloc Ih (Xb n.key n.val n.left n.right n.mark n.size);have H1:=kq2 (A1.trans (N1.mono A1.size)) ((N1.block _ (gl q1)).trans q1);clear hb1 q1 A1 N1;go_wp2_with fail;go_roundw
    case rel=>
     exact⟨1,by omega,rfl,by rw[ai.out],H1.out⟩
    case measure=>simp[intOf]
  ·rcases HG.f with⟨e0,e1⟩ | ⟨n,e0,e1⟩
   ·have ap:((rr:Int)==0)=true:=by rw[e0];rfl
    have hs:mt L R 2=mt L R 1:=by rw[e1];rfl
    have HE:=If hs;clear e0 e1 hs;generalize mt L R 1=s0 at*;obtain⟨s1,ad⟩:=Ii (mt L R 2);have ai:=If ad;clear ad;go_wp2_with fail;go_roundw
    case rel=>exact⟨2,by omega,rfl,by rw[<-HE.out],J0.out⟩
    case measure=>simp[intOf]
   ·have ap:((rr:Int)==0)=false:=by have:=HG.b _ _ e0;simp;omega
    have an:=HG.a wr J0.out.1 rr n e0;have hw:IntKind.u64.wrap (((mt L R 1:Nat):Int)+n.size)=((mt L R 2:Nat):Int):=by
     rw[e1];simp only[mt];rw[bO _ (by omega)];omega
    have HE:=kq3 e0 e1 an;clear e0 e1 an;generalize mt L R 1=s0 at*;obtain⟨s1,ad⟩:=Ii (mt L R 2);rw[ad] at hw;have ai:=If ad;clear ad;go_wp2_with fail;refine b8 HE.c fun w1 hb1=>?_;have q1:=(hb1.block _ (gl J0.out.2)).trans J0.out.2;have A1:=J0.out.1.trans (hb1.mono J0.out.1.size);have N1:=(aa w1.heap.size w1).alloc Ih (Xb n.key n.val n.left n.right n.mark n.size);have H1:=kq2 (A1.trans (N1.mono A1.size)) ((N1.block _ (gl q1)).trans q1);clear hb1 q1 A1 N1;go_wp2_with fail;go_roundw
    case rel=>exact⟨2,by omega,rfl,by rw[ai.out],H1.out⟩
    case measure=>simp[intOf]
  ·have q:=J0.out.2;obtain⟨c0,c1,c2,c3,c4,c5⟩:=ia q;clear q;rw[HZ.out];go_wp2_with fail;go_ret;exact⟨rfl,J0.out.1⟩
end
section
open Lf Tr
variable{S:St}{o:Nat->Nat}{t:Tr}
def pc(a:List (It×Nd)):List UInt8:=match a.getLast? with | some z=>z.1.k | none=>[]
def ma(a:List (It×Nd)):List Nat:=eB (a.map (·.1))
def mj(root:Nat)(a:List (It×Nd)):List Nat:=root::a.flatMap fun z=>[z.2.left,z.2.right]
theorem Ku(a:List (It×Nd))(z:It×Nd):pc (a++[z])=z.1.k:=by unfold pc;simp
theorem Lo(a:List (It×Nd))(z:It×Nd):ma (a++[z])=ma a++[z.1.h,z.1.kh,z.1.vh]:=by
 unfold ma;rw[aP,iX];rfl
theorem LM(root:Nat)(a:List (It×Nd))(z:It×Nd):mj root (a++[z])=mj root a++[z.2.left,z.2.right]:=by
 unfold mj;rw[List.flatMap_append];rfl
theorem Kn(a:List (It×Nd)):(ma a).length=3*a.length:=by
 unfold ma eB
 induction a with
 | nil=>rfl
 | cons z a ih=>simp only[bg,bZ,ah,ag,aM] at ih⊢;omega
theorem J7(root:Nat)(a:List (It×Nd)):(mj root a).length=2*a.length+1:=by
 unfold mj
 induction a with
 | nil=>rfl
 | cons z a ih=>simp only[bZ,ah,ag,aM] at ih⊢;omega
structure Ke (S:St) (t:Tr) (a:List (It×Nd)) (z:It×Nd):Prop where
 rec':reco S z.1.h=some (eM z.2)
 key:z.2.key=z.1.kh
 val:z.2.val=z.1.vh
 bl:gu S z.1
 sub:∃l m r,z.2=nd l z.1 m r/\At S (.node l z.1 m r)/\l.its.length+r.its.length<t.its.length
 less:a=[]\/Fu (pc a) z.1.k<0
 h1:z.1.h∉ma a
 h2:z.1.kh∉ma a++[z.1.h]
 h3:z.1.vh∉ma a++[z.1.h]++[z.1.kh]
 al:a.length<t.its.length
theorem LC{Ok:Tr->Prop}(h:fC Ok S o t){a:List (It×Nd)}{z:It×Nd}{r:List (It×Nd)}(e:a++z::r=t.nodes):Ke S t a z:=by
 have hz:z∈t.nodes:=by rw[<-e];simp
 obtain⟨l,m,r',e1,e2,e3,_,_⟩:=nodes_at h.at' z hz;have hi:a.map (·.1)++z.1::r.map (·.1)=t.its:=by rw[<-nodes_its,<-e];simp
 have hd:z.1∈t.its:=by rw[<-hi];simp
 have hn:=h.nd;have hs:=h.sorted;rw[<-hi] at hn hs;rw[iX,mx] at hn;obtain⟨_,n2,n3⟩:=aC.1 hn;obtain⟨m1,n4⟩:=aF.1 n2;obtain⟨m2,n5⟩:=aF.1 n4;simp only[aj,not_or] at m1 m2;have ne:∀{x y:Nat},x∈ma a->y∈z.1.h::z.1.kh::z.1.vh::eB (r.map (·.1))->x≠y:=fun hx hy q=>n3 _ hx _ hy q;have hl:a.length<t.its.length:=by rw[<-hi];simp
 refine⟨e1▸e2.1,by rw[e1];rfl,by rw[e1];rfl,h.blobs _ hd,⟨l,m,r',e1,e2,e3⟩,?_,fun q=>ne q (by simp) rfl,fun q=>?_,fun q=>?_,hl⟩
 ·rcases List.eq_nil_or_concat a with q | ⟨b,y,q⟩
  ·exact .inl q
  ·right
   subst q;rw[List.concat_eq_append,Ku];exact(bz.1 hs).2.2 y.1 (by simp) z.1 (am ..)
 ·rcases ax.1 q with q | q
  ·exact ne q (by simp) rfl
  ·exact m1.1 (aA.1 q).symm
 ·rcases ax.1 q with q | q
  ·rcases ax.1 q with q | q
   ·exact ne q (by simp) rfl
   ·exact m1.2.1 (aA.1 q).symm
  ·exact m2.1 (aA.1 q).symm
theorem Tr.root_in:∀t:Tr,t.root=0\/∃d∈t.its,t.root=d.h
 | .nil=> .inl rfl
 | .node l d m r=> .inr ⟨d,by show d∈l.its++d::r.its;simp,rfl⟩
theorem LN(h:At S t):∀x∈mj t.root t.nodes,x=0\/x∈ma t.nodes:=by
 have key:∀u:Tr,(∀y∈u.its,y∈t.its)->u.root=0\/u.root∈ma t.nodes:=fun u hu=>by
  rcases u.root_in with q | ⟨d,hd,q⟩
  ·exact .inl q
  ·right
   unfold ma;rw[nodes_its,q];exact gU.2 ⟨d,hu d hd,.inl rfl⟩
 intro x hx
 rcases aj.1 hx with rfl | hx
 ·exact key t fun _ h=>h
 ·obtain⟨z,hz,hx⟩:=List.mem_flatMap.1 hx;obtain⟨l,m,r,e1,_,_,e4,e5⟩:=nodes_at h z hz;rw[e1] at hx
  rcases aj.1 hx with rfl | hx
  ·exact key l e4
  ·rw[aA] at hx;subst hx;exact key r e5
theorem Ln{Ok:Tr->Prop}(h:fC Ok S o t):(ma t.nodes).Nodup:=by
 unfold ma;rw[nodes_its];exact h.nd