/- B-trees: At: the walk. -/
import Derived.Test.YtcibkdbpicledaaGreatDoorVFp
import Derived.Test.YtcibkdbpicledaaGreatDoorVFg
set_option maxRecDepth 100000
set_option maxHeartbeats 6400000
namespace Go.Proofs.YtcibkdbpicledaaGreatDoor
section
open Go.RowKit Tryz Go.BigFrame Go.Maps Go.WideMaps Lf Tr
variable{S:St}{i:Nat}{o:Nat->Nat}
theorem ox{t d:Nat}{x:Bt (d+2)}(h:Bt.Walk S o t x)(hi:i<=(Bn.es x).length):(Bt.lo ((Bn.es x).take i) (((Bn.ks x).map Bt.its).take i)).length=i+fV x i:=by
 have:=Bt.Ok.kids h.ok;rw[Bt.lo_length _ _ (by rw[aB,aB,aq];omega),aB];unfold fV;rw[<-bT,cI,dw hi];rfl
theorem Bt.Walk.at_kid{t d:Nat}{x:Bt (d+2)}(h:Walk S o t x){i m:Nat}(hi:i<(Bn.ks x).length)(hm:m<(its (Bn.ks x)[i]).length):(its x)[i+fV x i+m]?=(its (Bn.ks x)[i])[m]?:=by
 have hk:=Bt.Ok.kids h.ok;rw[el,nA (k:=i) (by omega) h.ok.rows,jN hi,bS (by rw[ox h (by omega)];omega),ox h (by omega),cA,cE hm]
theorem Bt.Walk.at_here{t d:Nat}{x:Bt (d+2)}(h:Walk S o t x)(hi:i<(Bn.ks x).length)(he:i<(Bn.es x).length):(its x)[i+fV x i+(its (Bn.ks x)[i]).length]?=(Bn.es x)[i]?:=by
 rw[el,nA (k:=i) (by omega) h.ok.rows,jN hi,bS (by rw[ox h (by omega)];omega),ox h (by omega),cA,bS Ih,dF,mP he,af he];rfl
theorem qBkad{P:Prop}(h:P:=by
 have eW:WF.drew.heap[w.heap.size]?=_:=eW;obtain⟨e0,e1⟩:=Fp eW;exact bodyPost_ret (v:=.tuple #[.agg #[Xu (e.kh:Nat),Xu (e.vh:Nat)],Xi 0]) (by simp[results,f314,go_sem,e0,e1]) rfl ⟨rfl,BF.drew⟩):P:=h
theorem zS{w:World}{ps:Nat}{Y:Nat->Prop}(h:Ig w ps S Y){t d:Nat}{x:Bt (d+1)}(hx:Bt.Walk S o t x)(hd:d<40){k:Nat}{e:It}(hke:(Bt.its x)[k]?=some e):
 Ct 314 #[PV ps,Xi t,Xu (Bt.hd x:Nat),Xi k] w fun e' w'=>e'=.returned (.tuple #[Id e.kh e.vh,Xi 0])/\Below w.heap.size w w':=by
 have a9:k<(Bt.its x).length:=(aA.1 hke).1;have B1:=(aa w.heap.size w).alloc Ih (.cells #[Xu 0,Xu 0] 137);have B0:=B1.alloc (by simp) (Xc ps t);have z1:(w.alloc (.cells #[Xu 0,Xu 0] 137)).heap.size=w.heap.size+1:=by simp
 have q1:=heap_alloc_new w (.cells #[Xu 0,Xu 0] 137);have q3:=heap_alloc_new (w.alloc (.cells #[Xu 0,Xu 0] 137)) (Xc ps t);have q2:=(((aa (w.alloc (.cells #[Xu 0,Xu 0] 137)).heap.size (w.alloc (.cells #[Xu 0,Xu 0] 137))).alloc Ih (Xc ps t)).block w.heap.size (by simp)).trans q1;rw[z1] at q3;have hz:w.heap.size+2<=((w.alloc (.cells #[Xu 0,Xu 0] 137)).alloc (Xc ps t)).heap.size:=by simp
 have hi:=hx.fit.inv;have has:=kZ (h.below B1) hi hx.t1 hx.t2;generalize d9:w.alloc (.cells #[Xu 0,Xu 0] 137)=Wa at*;generalize hW:Wa.alloc (Xc ps t)=W0 at*;have ez:Wa.heap.size=w.heap.size+1:=z1;have au:=fun W (hw:Below W0.heap.size W0 W) {n:BN} {hh:Nat} (hb:jg S t hh n)=>kI (h.below (B0.trans (hw.mono B0.size))) hi hb;have b1:=fun W (hw:Below W0.heap.size W0 W) {n:BN} {hh:Nat} (hb:jg S t hh n) hz=>nS (h.below (B0.trans (hw.mono B0.size))) hi hb hz;have a4:=b1 W0 (aa _ _) hx.read hx.size.2;have a4:Cb 163 #[FH ps t,Xu (Bt.hd x:Nat)] W0 (Xi ((Bt.its x).length:Nat)):=a4;obtain⟨x0,x1⟩:=Fp q3;have HG:=kq4 (kq4 B0 q2 q3 hz) @au @b1 has;have HX:=If hx;have d4:=hx.few;obtain⟨n0,bj⟩:=Ii (Bt.hd x);obtain⟨L,hL⟩:=Ii (Bt.its x).length;rw[bj,hL] at a4;rw[hL] at a9 d4;have HR:=kq2 hke bj;rw[bj];unfold FH at a4;have H0:=If a4;have ek:¬((L:Int)<=k):=by omega
 have eg:((k:Int)<0)=False:=eq_false (by omega);have em:(L<=k)=False:=eq_false (by omega);clear au b1 h hx hi B0 B1 q1 q2 q3 z1 hz has a4 hke bj hL;go_enter func314,ntmps314;go_wp2_with fail;refine Jc HG.d ?_;go_wp2_with fail;refine wx H0.out fun w1 hb1=>?_;have d0:=If hb1;clear hb1 x0 x1;go_wp2_with fail
 go_loopw [2,3,12,13,14,15,36] (fun s2 s3 _ _ _ _ s36 wr=>∃(d' i kk hh:Nat),s2=Xu hh/\s3=Xi kk/\s36=Xi i/\i+d'<40/\kk<=1000000/\Hid (Below W0.heap.size W0 wr/\∃y:Bt (d'+1),Bt.Walk S o t y/\Bt.hd y=hh/\(Bt.its y)[kk]?=some e)) (fun _ _ _ _ _ _ s36 _=>40-(intOf s36).toNat)
 case atStart=>exact⟨d,0,k,n0,rfl,rfl,rfl,by omega,by omega,d0.out,x,HX.out,HR.b,HR.a⟩
 case round=>
  obtain⟨d',i,kk,hh,rfl,rfl,rfl,eb,ea,I⟩:=hrel;obtain⟨hB,y,hy,cw,al⟩:=I.out;have eo:(i:Int)<40:=by omega
  have t3:=(hB.block (w.heap.size+1) (by have:=HG.a.d;omega)).trans HG.a.c;obtain⟨x0,x1⟩:=Fp t3;have au:=HG.b wr hB hy.read;unfold FH eC at au;rw[cw] at au;have HY:=kq3 hB hy al;clear hB hy cw al t3;obtain⟨n,hn⟩:=Ii (Bt.bn y);rw[hn] at au;have b':=If au;clear au;go_wp2_with fail;refine b'.out.mono ?_;rintro e w1 ⟨vk,vv,vc,rfl,rows,hb⟩;obtain⟨Ak,ck,rfl⟩:=rows.k.slice2;obtain⟨Av,cv,rfl⟩:=rows.v.slice2;obtain⟨Ac,cc,rfl⟩:=rows.c.slice2;have a9:n.keys.length=(Bn.es y).length:=by rw[<-hn];unfold Bt.bn;rw[aq]
  have b8:n.vals.length=(Bn.es y).length:=by rw[<-hn];unfold Bt.bn;rw[aq]
  have bs:n.kids.length=(Bn.ks y).length:=by rw[<-hn];unfold Bt.bn;rw[aq]
  rw[a9] at rows;rw[b8] at rows;rw[bs] at rows;rw[a9,b8,bs];generalize n.size=sz at*;have hy:=HY.b;have d8:=hy.es.2.2;generalize c9:(Bn.es y).length=lk at*;generalize c8:(Bn.ks y).length=lc at*;have A1:=(aa w1.heap.size w1).alloc Ih (.cells #[.slice Ak lk ck,.slice Av lk cv,.slice Ac lc cc,Xu sz] 286);have p1:=heap_alloc_new w1 (.cells #[.slice Ak lk ck,.slice Av lk cv,.slice Ac lc cc,Xu sz] 286);have B1:=HY.a.trans ((hb.trans (A1.mono hb.size)).mono HY.a.size);have a0:=rows.below A1;have bv:w1.heap.size<(w1.alloc (.cells #[.slice Ak lk ck,.slice Av lk cv,.slice Ac lc cc,Xu sz] 286)).heap.size:=by simp
  obtain⟨W1,cn⟩:=Ii (w1.alloc (.cells #[.slice Ak lk ck,.slice Av lk cv,.slice Ac lc cc,Xu sz] 286));rw[cn] at A1 p1 B1 a0 bv;have t3:=(B1.block (w.heap.size+1) (by have:=HG.a.d;omega)).trans HG.a.c;have q6:=(B1.block w.heap.size (by have:=HG.a.d;omega)).trans HG.a.b;have ba:=a0.k.hrow;have bb:=a0.v.hrow;have a':=a0.c.hrow;rw[<-hn] at ba bb a';have ba:FD W1 (.slice Ak lk ck) ((Bn.es y).map (·.kh)):=ba;have bb:FD W1 (.slice Av lk cv) ((Bn.es y).map (·.vh)):=bb;have a':FD W1 (.slice Ac lc cc) ((Bn.ks y).map Bt.hd):=a';have d7:=HY.a.size;have bk:=HG.a.d;have ch:∀g o,Ak=some ⟨g,o,none⟩->w.heap.size≠g:=fun g o e=>by subst e;have:=a0.k.ge g rfl;omega
  have cj:∀g o,Av=some ⟨g,o,none⟩->w.heap.size≠g:=fun g o e=>by subst e;have:=a0.v.ge g rfl;omega
  have cd:∀g o,Ac=some ⟨g,o,none⟩->w.heap.size≠g:=fun g o e=>by subst e;have:=a0.c.ge g rfl;omega
  have c':w.heap.size≠w1.heap.size:=by have:=hb.size;omega
  have dn:w.heap.size+1<W1.heap.size:=by have:=B1.size;omega
  have H1:=kq6 B1 p1 (kq3 ba bb a') t3 bv q6;have HN:=kq5 ch cj cd c' dn;have HK:=kq2 c9 c8;clear ch cj cd c' dn d7 bk rows a0 hb A1 p1 B1 t3 ba bb a' b' a9 b8 bs hn bv q6 c9 c8 hy x0 x1;have d1:=If (aa W1.heap.size W1);obtain⟨su,b4⟩:∃su:Nat->Nat,fV y=su:=⟨_,rfl⟩;have d6:su 0=0:=by rw[<-b4];simp[fV]
  have bd:=If b4;clear b4;have p2:=H1.b;obtain⟨y0,y1,y2,y3⟩:=Fy p2;go_wp2_with fail;clear y0 y1 y2 y3 p2 cn
  go_loopw [3,14,15] (fun s3 s14 _ wr=>∃j q:Nat,j<=lk/\s3=Xi q/\s14=Xi j/\j+su j+q=kk/\Hid (Below W1.heap.size W1 wr)) (fun _ s14 _ _=>lk-(intOf s14).toNat)
  case atStart=>exact⟨0,kk,by omega,rfl,rfl,by rw[d6];omega,d1⟩
  case round=>
   obtain⟨j,q,ed,rfl,rfl,c6,ad⟩:=hrel;have p2:=(ad.out.block w1.heap.size H1.e).trans H1.b;have t2:=(ad.out.block (w.heap.size+1) HN.e).trans H1.d;have q2:=(ad.out.block w.heap.size (by have:=HN.e;omega)).trans H1.f;obtain⟨x0,x1⟩:=Fp t2;obtain⟨y0,y1,y2,y3⟩:=Fy p2;obtain⟨z0,z1⟩:=Fp q2;obtain⟨f0,f1⟩:=ef q2;have HQ:=If q2;clear p2 t2 q2
   cases d' with
   | zero=>
    have d3:lc=0:=by rw[<-HK.b,Bt.nil_of_zero (Bn.ks y)];rfl
    subst d3;have ap:su j=0:=by rw[<-bd.out];unfold fV;rw[Bt.nil_of_zero (Bn.ks y)];simp
    have al:=HY.c;rw[Bt.its_leaf] at al;have c7:=(aA.1 al).1;rw[HK.a] at c7;have c4:j<lk:=by omega
    have c5:(j:Int)<lk:=by omega
    by_cases hq0:q=0
    ·subst hq0;have a8:kk=j:=by omega
     rw[a8] at al;obtain⟨gk,ok,rfl,a1⟩:=FD.at (f:=fun d:It=>d.kh) (l:=Bn.es y) H1.c.a al;obtain⟨gv,ov,rfl,a2⟩:=FD.at (f:=fun d:It=>d.vh) (l:=Bn.es y) H1.c.b al;have dk:=(ad.out.cell (p:=⟨gk,ok+j,none⟩) (fK a1)).trans a1;have dv:=(ad.out.cell (p:=⟨gv,ov+j,none⟩) (fK a2)).trans a2;clear a1 a2 al c7 a8 c6;go_wp2_with fail
     go_region
     go_wp2_with fail;have BW:Below w.heap.size w wr:=HG.a.a.trans ((H1.a.trans (ad.out.mono H1.a.size)).mono HG.a.a.size);have eW:=ew HQ.out (Xu (e.kh:Nat)) (Xu (e.vh:Nat));have BF:=eT BW (b:=w.heap.size) (by omega) (Xu (e.kh:Nat)) (Xu (e.vh:Nat));generalize ((wr.setCell ⟨w.heap.size,0,none⟩ (Xu (e.kh:Nat))).setCell ⟨w.heap.size,1,none⟩ (Xu (e.vh:Nat)))=WF at*;exact qBkad
    ·have ep:¬((q:Int)<=0):=by omega
     have ev:IntKind.i64.wrap ((q:Int)-1)=(q:Int)-1:=aD _ (by omega);have er:su (j+1)=0:=by rw[<-bd.out];unfold fV;rw[Bt.nil_of_zero (Bn.ks y)];simp
     clear al;go_wp2_with fail;go_roundw
     case rel=>exact⟨j+1,q-1,by omega,by congr 1;omega,by simp,by omega,ad⟩
     case measure=>simp[intOf];omega
   | succ d'=>
    have hy:=HY.b;have bu:=Bt.Ok.kids hy.ok;rw[HK.a,HK.b] at bu;have en:(0:Int)<lc:=by omega
    have a7:j<(Bn.ks y).length:=by rw[HK.b];omega
    have ec:(j:Int)<lc:=by omega
    have cr:(Bn.ks y)[j]?=some (Bn.ks y)[j]:=af a7;obtain⟨gc,oc,rfl,ar⟩:=FD.at (f:=Bt.hd) (l:=Bn.ks y) H1.c.c cr;have a3:=hy.kid (aF a7);have ap:=fun W (hW:Below W1.heap.size W1 W)=>HG.c W (H1.a.trans (hW.mono H1.a.size)) a3.read a3.size.2;have ap:∀W,Below W1.heap.size W1 W->Cb 163 #[FH ps t,Xu (Bt.hd (Bn.ks y)[j]:Nat)] W (Xi ((Bt.its (Bn.ks y)[j]).length:Nat)):=ap;unfold FH at ap;have a6:=fun m=>hy.at_kid (m:=m) a7;have a5:=fun h=>hy.at_here a7 h;have bc:=xt a7;have b2:=xr hy j;have bt:=a3.few;rw[bd.out] at a6 a5 bc b2;obtain⟨kj,a8⟩:=Ii ((Bn.ks y)[j]);rw[a8] at ap a6 a5 bc ar a3 bt;obtain⟨nj,b0⟩:=Ii (Bt.hd kj);obtain⟨zj,b9⟩:=Ii (Bt.its kj).length;rw[b0] at ap ar;rw[b9] at ap a6 a5 bc bt;have dc:=(ad.out.cell (p:=⟨gc,oc+j,none⟩) (fK ar)).trans ar;have cs:=HN.c gc oc rfl;have HJ:=kq8 a6 a5 bc a3 b0 b9 b2 bt;have HS:=If ap;have ca:=If ar;have hke:=HY.c;rw[<-c6] at hke;have HE:=If hke;obtain⟨I,bf,bm⟩:=ub W1 w.heap.size;have ds:=fun x:Fq I=>(bf _ x.ok w1.heap.size H1.e (Ne.symm HN.d)).trans H1.b;have bk:=fun x:Fq I=>(bf _ x.ok (w.heap.size+1) HN.e (by omega)).trans H1.d;obtain⟨m0,m1,m2,m3⟩:=iB ds;obtain⟨n0,n1⟩:=fw bk;have o0:∀x:Fq I,x.to.cell? ⟨gc,oc+j,none⟩=some (Xu nj):=fun x=>(j9 (bf _ x.ok gc (fK ar) (Ne.symm cs))).trans ar;have cl:I wr.drew:=bm _ fun k hk _=>ad.out.block k hk;have HI:=If bm;have d2:=If bu;clear bm ds bk cr ap ar cs a6 a5 bc a3 b0 b9 a8 hke hy b2 bu
    by_cases c4:j<lk
    ·have c5:(j:Int)<lk:=by omega
     go_wp2_with fail;refine fh I (.take 0 (.take 1 (.take 2 (.take 3 (.take 4 (.take 5 (.go 6 (.take 7 .nil)))))))) (by kernel_rfl) (by kernel_rfl) cl ?_
     iterate 6
      refine' pT ?_ ?_;rotate_left
      ·intro x;go_simp
       try rfl
      try simp only[pu]
     refine pD fun K hK=>?_;go_simp;refine(HS.out wr.drew ad.out.drew).mono ?_;rintro e' w3 ⟨rfl,bo⟩;have B3:=ad.out.drew.trans (bo.mono ad.out.size);have q3:=(bo.block w.heap.size (gl HQ.out)).trans HQ.out;have ai:=kq2 B3 q3
     try go_simp
     refine hK.out _ _ (HI.out _ fun k hk _=>ai.a.block k hk) ?_;clear hK K
     try simp only[pu]
     clear B3 bo q3;refine' pT ?_ ?_;rotate_left
     ·intro x;go_simp
      try rfl
     try simp only[pu]
     refine eP ?_;clear m0 m1 m2 m3 n0 n1 o0 bf HI I cl x0 x1 y0 y1 y2 y3 z0 z1 f0 f1 dc;have p2:=(ai.a.block w1.heap.size H1.e).trans H1.b;have q2:=ai.b;obtain⟨y0,y1,y2,y3⟩:=Fy p2;obtain⟨z0,z1⟩:=Fp q2;obtain⟨f0,f1⟩:=ef q2;have dc:=(ai.a.cell (p:=⟨gc,oc+j,none⟩) (fK (ca.out))).trans ca.out;clear p2 q2
     rcases Nat.lt_trichotomy q zj with hq | hq | hq
     ·have g1:(q:Int)<=zj:=by omega
      have g2:((q:Int)==zj)=false:=by simp;omega
      have g3:¬(q:Int)=zj:=by omega
      go_wp2_with fail;go_roundw
      case rel=>exact⟨d',i+1,q,nj,rfl,rfl,by simp,by omega,by have:=HJ.h;omega,H1.a.trans (ai.a.mono H1.a.size),kj,HJ.d,HJ.e,by rw[<-HJ.a q hq];exact HE.out⟩
      case measure=>simp[intOf];omega
     ·subst hq;have hke:=HE.out;rw[HJ.b (by rw[HK.a];exact c4)] at hke;obtain⟨gk,ok,rfl,a1⟩:=FD.at (f:=fun d:It=>d.kh) (l:=Bn.es y) H1.c.a hke;obtain⟨gv,ov,rfl,a2⟩:=FD.at (f:=fun d:It=>d.vh) (l:=Bn.es y) H1.c.b hke;have dk:=(ai.a.cell (p:=⟨gk,ok+j,none⟩) (fK a1)).trans a1;have dv:=(ai.a.cell (p:=⟨gv,ov+j,none⟩) (fK a2)).trans a2;clear a1 a2 hke;go_wp2_with fail
      go_region
      go_wp2_with fail;have BW:Below w.heap.size w w3:=HG.a.a.trans ((H1.a.trans (ai.a.mono H1.a.size)).mono HG.a.a.size);have eW:=ew ai.b (Xu (e.kh:Nat)) (Xu (e.vh:Nat));have BF:=eT BW (b:=w.heap.size) (by omega) (Xu (e.kh:Nat)) (Xu (e.vh:Nat));generalize ((w3.setCell ⟨w.heap.size,0,none⟩ (Xu (e.kh:Nat))).setCell ⟨w.heap.size,1,none⟩ (Xu (e.vh:Nat)))=WF at*;exact qBkad
     ·have g1:¬(q:Int)<=zj:=by omega
      have g4:IntKind.i64.wrap ((zj:Int)+1)=(zj:Int)+1:=aD _ (by have:=HJ.h;omega);have g5:IntKind.i64.wrap ((q:Int)-((zj:Int)+1))=(q:Int)-((zj:Int)+1):=aD _ (by omega);go_wp2_with fail;go_roundw
      case rel=>exact⟨j+1,q-(zj+1),by omega,by congr 1;omega,by simp,by have:=HJ.c;omega,If ai.a⟩
      case measure=>simp[intOf];omega
    ·have c5:¬(j:Int)<lk:=by omega
     have c3:j=lk:=by omega
     have d5:=(aA.1 HE.out).1;have cx:=Bt.its_length HY.b.ok.okN;have cp:su lc=((Bn.ks y).map fun k=>(Bt.its k).length).sum:=by rw[<-bd.out];unfold fV;rw[aU (by rw[HK.b];exact Nat.le_refl _)]
     rw[<-cp,HK.a,d2.out] at cx;have hq:q<zj:=by have:=HJ.c;subst c3;omega
     have cb:=If hq;clear cx cp d5 hq c3;go_wp2_with fail;go_roundw
     case rel=>exact⟨d',i+1,q,nj,rfl,rfl,by simp,by omega,by have:=HJ.h;have:=cb.out;omega,H1.a.trans (ad.out.mono H1.a.size),kj,HJ.d,HJ.e,by rw[<-HJ.a q cb.out];exact HE.out⟩
     case measure=>simp[intOf];omega
end
section
open Go.RowKit Tryz Go.BigFrame Go.Maps Go.WideMaps Lf
variable{Y:Nat->Prop}{ps:Nat}{w:World}{x:Nat}
theorem wE{S S':St}(h:Ig w ps S Y)(hi:Fv S)(tu:Bool)(t m low:Nat)(hm:m<2^64)(ht:t<2^64)(hw:low<2^64)(hj:topR tu S t m low=some (x,S')):
 Ct 225 #[eq ps tu,Xu t,Xu m,Xu low] w fun e w'=>e=.returned (Xu x)/\Ig w' ps S' Y/\Fo Y w w':=by
 unfold topR at hj
 split at hj
 ·cases hj
 ·rename_i y S1 h1
  by_cases c1:redT S1 y=true
  ·by_cases c2:redT S1 (sidesT S1 tu y).2=true
   ·rw[if_pos ⟨c1,c2⟩] at hj;obtain⟨S2,h2,h3⟩:=aC.1 hj
    injection h3 with e1 e2
    subst e1 e2;exact Ia h hi tu t m low hm ht hw h1 c1 c2 h2
   ·rw[if_neg (fun q=>c2 q.2)] at hj
    injection hj with hj
    injection hj with e1 e2
    subst e1 e2;exact DZ h hi tu t m low hm ht hw h1 c1 (by simpa using c2)
  ·rw[if_neg (fun q=>c1 q.1)] at hj
   injection hj with hj
   injection hj with e1 e2
   subst e1 e2;exact DY h hi tu t m low hm ht hw h1 (by simpa using c1)
theorem qBkab{P:Prop}(h:P:=by
 clear hc;generalize blackT S l=bk1 at*;generalize blackT S r=bk2 at*;have HG:=kq8 ap ad ai al ar au h hp;clear ap ad ai al ar au h hp hi h0 t1 t2 t3;go_enter func199,ntmps199;go_wp2_with fail;refine Jc HG.a ?_;go_wp2_with fail;refine wx HG.b fun w1 hb=>?_;have H1:=If hb;clear hb;go_wp2_with fail;refine wx (HG.c _ H1.out) fun w2 hb=>?_;have H2:=If (H1.out.trans (hb.mono H1.out.size));clear hb;go_wp2_with fail;refine wx (HG.d _ H2.out) fun w3 hb=>?_;have H3:=If (H2.out.trans (hb.mono H2.out.size));clear hb;go_wp2_with fail;refine wx (HG.e _ H3.out) fun w4 hb=>?_;have H4:=If (H3.out.trans (hb.mono H3.out.size));clear hb;go_wp2_with fail;refine wx (HG.f _ H4.out) fun w5 hb=>?_;have H5:=If (H4.out.trans (hb.mono H4.out.size));clear hb;go_wp2_with fail;refine(HG.h _ H5.out).mono ?_;rintro e w6 ⟨rfl,hs,hk⟩;have HE:=kq2 hs ((HG.g.keep H5.out).trans hk);clear hs hk;go_wp2_with fail;go_ret2;exact⟨rfl,HE.out⟩):P:=h
theorem DM{S S':St}(h:Ig w ps S Y)(hi:Fv S)(l m r:Nat)(hl:l<2^64)(hm:m<2^64)(hr:r<2^64)(h0:m≠0)(t1:isT S l=true)(t2:isT S m=true)(t3:isT S r=true)(hc:blackT S r<blackT S l)(hp:topR false S l m r=some (x,S')):
 Ct 199 #[PV ps,Xu l,Xu m,Xu r] w fun e w'=>e=.returned (.tuple #[Xu x,Xi 0])/\Ig w' ps S' Y/\Fo Y w w':=by
 have ap:=fB h hi 0 (by omega);rw[fU] at ap;have ad:=io h hi l hl;have ai:=fun W (hW:Below w.heap.size w W)=>io (h.below hW) hi m hm;have al:=fun W (hW:Below w.heap.size w W)=>io (h.below hW) hi r hr;have ar:=fun W (hW:Below w.heap.size w W)=>gy (h.below hW) hi l hl;have au:=fun W (hW:Below w.heap.size w W)=>gy (h.below hW) hi r hr;rw[t1] at ad;rw[t2] at ai;rw[t3] at al;have hq:((m:Int)==0)=false:=by simp;omega
 have hp:=fun W (hW:Below w.heap.size w W)=>wE (h.below hW) hi false l m r hm hl hr hp;unfold eq at hp;have a0:((blackT S r:Nat):Int)<(blackT S l:Nat):=by omega
 exact qBkab
theorem DN{S S':St}(h:Ig w ps S Y)(hi:Fv S)(l m r:Nat)(hl:l<2^64)(hm:m<2^64)(hr:r<2^64)(h0:m≠0)(t1:isT S l=true)(t2:isT S m=true)(t3:isT S r=true)(hc:blackT S l<blackT S r)(hp:topR true S r m l=some (x,S')):
 Ct 199 #[PV ps,Xu l,Xu m,Xu r] w fun e w'=>e=.returned (.tuple #[Xu x,Xi 0])/\Ig w' ps S' Y/\Fo Y w w':=by
 have ap:=fB h hi 0 (by omega);rw[fU] at ap;have ad:=io h hi l hl;have ai:=fun W (hW:Below w.heap.size w W)=>io (h.below hW) hi m hm;have al:=fun W (hW:Below w.heap.size w W)=>io (h.below hW) hi r hr;have ar:=fun W (hW:Below w.heap.size w W)=>gy (h.below hW) hi l hl;have au:=fun W (hW:Below w.heap.size w W)=>gy (h.below hW) hi r hr;rw[t1] at ad;rw[t2] at ai;rw[t3] at al;have hq:((m:Int)==0)=false:=by simp;omega
 have hp:=fun W (hW:Below w.heap.size w W)=>wE (h.below hW) hi true r m l hm hr hl hp;unfold eq at hp;have a0:((blackT S l:Nat):Int)<(blackT S r:Nat):=by omega
 have a1:¬((blackT S r:Nat):Int)<(blackT S l:Nat):=by omega
 exact qBkab
theorem DO{S S':St}(h:Ig w ps S Y)(hi:Fv S)(l m r:Nat)(hl:l<2^64)(hm:m<2^64)(hr:r<2^64)(h0:m≠0)(t1:isT S l=true)(t2:isT S m=true)(t3:isT S r=true)(hc:blackT S l=blackT S r)(hr1:redT S l=true)(hp:putRM S m l r false=some S'):
 Ct 199 #[PV ps,Xu l,Xu m,Xu r] w fun e w'=>e=.returned (.tuple #[Xu m,Xi 0])/\Ig w' ps S' Y/\Fo Y w w':=by
 have au:=fB h hi 0 (by omega);rw[fU] at au;have ad:=io h hi l hl;have ai:=fun W (hW:Below w.heap.size w W)=>io (h.below hW) hi m hm;have al:=fun W (hW:Below w.heap.size w W)=>io (h.below hW) hi r hr;have a0:=fun W (hW:Below w.heap.size w W)=>gy (h.below hW) hi l hl;have ap:=fun W (hW:Below w.heap.size w W)=>gy (h.below hW) hi r hr;rw[t1] at ad;rw[t2] at ai;rw[t3] at al;have hq:((m:Int)==0)=false:=by simp;omega
 have hp:=fun W (hW:Below w.heap.size w W)=>nh (h.below hW) hi m l r false hm hl hr hp;have ar:=fun W (hW:Below w.heap.size w W)=>gq (h.below hW) hi l hl;rw[hr1] at ar;rw[<-hc] at ap;clear hc hr1;generalize blackT S l=bk1 at*;have HG:=kq9 au ad ai al a0 ap h ar hp;clear au ad ai al a0 ap h ar hp hi h0 t1 t2 t3;go_enter func199,ntmps199;go_wp2_with fail;refine Jc HG.a ?_;go_wp2_with fail;refine wx HG.b fun w1 hb=>?_;have H1:=If hb;clear hb;go_wp2_with fail;refine wx (HG.c _ H1.out) fun w2 hb=>?_;have H2:=If (H1.out.trans (hb.mono H1.out.size));clear hb;go_wp2_with fail;refine wx (HG.d _ H2.out) fun w3 hb=>?_;have H3:=If (H2.out.trans (hb.mono H2.out.size));clear hb;go_wp2_with fail;refine wx (HG.e _ H3.out) fun w4 hb=>?_;have H4:=If (H3.out.trans (hb.mono H3.out.size));clear hb;go_wp2_with fail;refine wx (HG.f _ H4.out) fun w5 hb=>?_;have H5:=If (H4.out.trans (hb.mono H4.out.size));clear hb;go_wp2_with fail;refine wx (HG.h _ H5.out) fun w6 hb=>?_;have H6:=If (H5.out.trans (hb.mono H5.out.size));clear hb;go_wp2_with fail;refine(HG.i _ H6.out).mono ?_;rintro e w7 ⟨rfl,hs,hk⟩;have HE:=kq2 hs ((HG.g.keep H6.out).trans hk);clear hs hk;go_wp2_with fail;go_ret2;exact⟨rfl,HE.out⟩
theorem qBkaa{P:Prop}(h:P:=by
 have ar:=fun W (hW:Below w.heap.size w W)=>gq (h.below hW) hi l hl;rw[hr1] at ar;rw[<-hc] at ap;clear hc hr1;generalize blackT S l=bk1 at*;have au:=fun W (hW:Below w.heap.size w W)=>gq (h.below hW) hi r hr;rw[hr2] at au;clear hr2;have HG:=kq10 a0 ad ai al a1 ap h ar au hp;clear a0 ad ai al a1 ap h ar au hp hi h0 t1 t2 t3;go_enter func199,ntmps199;go_wp2_with fail;refine Jc HG.a ?_;go_wp2_with fail;refine wx HG.b fun w1 hb=>?_;have H1:=If hb;clear hb;go_wp2_with fail;refine wx (HG.c _ H1.out) fun w2 hb=>?_;have H2:=If (H1.out.trans (hb.mono H1.out.size));clear hb;go_wp2_with fail;refine wx (HG.d _ H2.out) fun w3 hb=>?_;have H3:=If (H2.out.trans (hb.mono H2.out.size));clear hb;go_wp2_with fail;refine wx (HG.e _ H3.out) fun w4 hb=>?_;have H4:=If (H3.out.trans (hb.mono H3.out.size));clear hb;go_wp2_with fail;refine wx (HG.f _ H4.out) fun w5 hb=>?_;have H5:=If (H4.out.trans (hb.mono H4.out.size));clear hb;go_wp2_with fail;refine wx (HG.h _ H5.out) fun w6 hb=>?_;have H6:=If (H5.out.trans (hb.mono H5.out.size));clear hb;go_wp2_with fail;refine wx (HG.i _ H6.out) fun w7 hb=>?_;have H7:=If (H6.out.trans (hb.mono H6.out.size));clear hb;go_wp2_with fail;refine(HG.j _ H7.out).mono ?_;rintro e w8 ⟨rfl,hs,hk⟩;have HE:=kq2 hs ((HG.g.keep H7.out).trans hk);clear hs hk;go_wp2_with fail;go_ret2;exact⟨rfl,HE.out⟩):P:=h
theorem DP{S S':St}(h:Ig w ps S Y)(hi:Fv S)(l m r:Nat)(hl:l<2^64)(hm:m<2^64)(hr:r<2^64)(h0:m≠0)(t1:isT S l=true)(t2:isT S m=true)(t3:isT S r=true)(hc:blackT S l=blackT S r)(hr1:redT S l=false)(hr2:redT S r=true)(hp:putRM S m l r false=some S'):
 Ct 199 #[PV ps,Xu l,Xu m,Xu r] w fun e w'=>e=.returned (.tuple #[Xu m,Xi 0])/\Ig w' ps S' Y/\Fo Y w w':=by
 have a0:=fB h hi 0 (by omega);rw[fU] at a0;have ad:=io h hi l hl;have ai:=fun W (hW:Below w.heap.size w W)=>io (h.below hW) hi m hm;have al:=fun W (hW:Below w.heap.size w W)=>io (h.below hW) hi r hr;have a1:=fun W (hW:Below w.heap.size w W)=>gy (h.below hW) hi l hl;have ap:=fun W (hW:Below w.heap.size w W)=>gy (h.below hW) hi r hr;rw[t1] at ad;rw[t2] at ai;rw[t3] at al;have hq:((m:Int)==0)=false:=by simp;omega
 have hp:=fun W (hW:Below w.heap.size w W)=>nh (h.below hW) hi m l r false hm hl hr hp;exact qBkaa
theorem DL{S S':St}(h:Ig w ps S Y)(hi:Fv S)(l m r:Nat)(hl:l<2^64)(hm:m<2^64)(hr:r<2^64)(h0:m≠0)(t1:isT S l=true)(t2:isT S m=true)(t3:isT S r=true)(hc:blackT S l=blackT S r)(hr1:redT S l=false)(hr2:redT S r=false)(hp:putRM S m l r true=some S'):
 Ct 199 #[PV ps,Xu l,Xu m,Xu r] w fun e w'=>e=.returned (.tuple #[Xu m,Xi 0])/\Ig w' ps S' Y/\Fo Y w w':=by
 have a0:=fB h hi 0 (by omega);rw[fU] at a0;have ad:=io h hi l hl;have ai:=fun W (hW:Below w.heap.size w W)=>io (h.below hW) hi m hm;have al:=fun W (hW:Below w.heap.size w W)=>io (h.below hW) hi r hr;have a1:=fun W (hW:Below w.heap.size w W)=>gy (h.below hW) hi l hl;have ap:=fun W (hW:Below w.heap.size w W)=>gy (h.below hW) hi r hr;rw[t1] at ad;rw[t2] at ai;rw[t3] at al;have hq:((m:Int)==0)=false:=by simp;omega
 have hp:=fun W (hW:Below w.heap.size w W)=>nh (h.below hW) hi m l r true hm hl hr hp;exact qBkaa
theorem DK{S S':St}(h:Ig w ps S Y)(hi:Fv S)(l m r:Nat)(hl:l<2^64)(hm:m<2^64)(hr:r<2^64){R:Nat×Nat}(hR:redJ S l m r=some (R,S')):
 Ct 199 #[PV ps,Xu l,Xu m,Xu r] w fun e w'=>e=.returned (.tuple #[Xu R.1,Xi R.2])/\Ig w' ps S' Y/\Fo Y w w':=by
 unfold redJ at hR
 split at hR
 ·cases hR
 rename_i hc;simp only[not_or,dQ] at hc;obtain⟨h0,t1,t2,t3⟩:=hc
 split at hR
 ·rename_i hc;obtain⟨⟨x,S1⟩,h1,h2⟩:=aC.1 hR
  injection h2 with e1 e2
  subst e1 e2;exact DM h hi l m r hl hm hr h0 t1 t2 t3 hc h1
 ·rename_i hc1
  split at hR
  ·rename_i hc;obtain⟨⟨x,S1⟩,h1,h2⟩:=aC.1 hR
   injection h2 with e1 e2
   subst e1 e2;exact DN h hi l m r hl hm hr h0 t1 t2 t3 hc h1
  ·rename_i hc2;obtain⟨S1,h1,h2⟩:=aC.1 hR
   injection h2 with e1 e2
   subst e1 e2;have he:blackT S l=blackT S r:=by omega
   cases a1:redT S l with
   | true=>rw[a1] at h1;exact DO h hi l m r hl hm hr h0 t1 t2 t3 he a1 h1
   | false=>
    cases a2:redT S r with
    | true=>rw[a1,a2] at h1;exact DP h hi l m r hl hm hr h0 t1 t2 t3 he a1 a2 h1
    | false=>rw[a1,a2] at h1;exact DL h hi l m r hl hm hr h0 t1 t2 t3 he a1 a2 h1
theorem BK:kW 199 redJ where
 enter args w:=by go_simp
 inv hi h:=(wG hi h).1
 lt hi _ hm _ h:=(wG hi h).2.1 hm
 ok h:=by
  unfold redJ at h;split at h
  ·cases h
  ·split at h
   ·obtain⟨_,_,h2⟩:=aC.1 h;injection h2 with e1 e2
    rw[<-e1]
   ·split at h
    ·obtain⟨_,_,h2⟩:=aC.1 h;injection h2 with e1 e2
     rw[<-e1]
    ·obtain⟨_,_,h2⟩:=aC.1 h;injection h2 with e1 e2
     rw[<-e1]
 call h hi hl hm hr hR:=DK h hi _ _ _ hl hm hr hR
theorem ot:jD 2 199 200 redJ:=⟨ae rfl,E3,BK,Aj⟩
end
section
open Lf
namespace Tr
variable{S:St}{d:It}{f:Nat->Nat}{m:Nat}{o:Tr}{t:Tr}{u:Tr}{w:Tr}
theorem jf{A B:List Nat}{d:Nat}(h:(A++d::B).Nodup):A.Nodup/\B.Nodup/\d∉A/\d∉B/\∀y∈A,y∉B:=by
 obtain⟨h1,h2,h3⟩:=aw.1 h;obtain⟨h4,h5⟩:=aE.1 h2;exact⟨h1,h5,fun hm=>h3 _ hm _ (ag ..) rfl,h4,fun y hy hm=>h3 _ hy _ (aj _ hm) rfl⟩
theorem lh{A B:List Nat}{d:Nat}(h1:A.Nodup)(h2:B.Nodup)(h3:d∉A)(h4:d∉B)(h5:∀y∈A,y∉B):(A++d::B).Nodup:=
 aw.2 ⟨h1,aE.2 ⟨h4,h2⟩,fun a ha b hb e=>by
  subst e;rcases ah.1 hb with e | e
  ·exact h3 (e▸ha)
  ·exact h5 a ha e⟩
def nt(tu:Bool)(o:Tr)(d:It)(m:Nat)(w:Tr):Tr:=if tu=true then node w d m o else node o d m w
theorem il(tu:Bool)(o:Tr)(d:It)(m:Nat)(w:Tr):(nt tu o d m w).root=d.h:=by cases tu<;>rfl
theorem fg(tu:Bool)(o:Tr)(d:It)(m:Nat)(w:Tr):(nt tu o d m w).mark=m:=by cases tu<;>rfl
theorem jR(tu:Bool)(o:Tr)(d:It)(m:Nat)(w:Tr):(nt tu o d m w).its=if tu=true then w.its++d::o.its else o.its++d::w.its:=by cases tu<;>rfl
theorem kJ(tu:Bool)(o:Tr)(d:It)(m:Nat)(w:Tr):(nt tu o d m w).its.length=o.its.length+w.its.length+1:=by
 rw[jR];cases tu<;>simp<;>omega
theorem jS(tu:Bool)(o:Tr)(d:It)(m:Nat)(w:Tr)(y:Nat):y∈(nt tu o d m w).hs↔y∈o.hs\/y=d.h\/y∈w.hs:=by
 cases tu
 ·show y∈(node o d m w).hs↔_
  rw[eY]
  simp
 ·show y∈(node w d m o).hs↔_
  rw[eY]
  simp;constructor
  ·rintro(h | h | h)
   ·exact ae (ae h)
   ·exact ae (ab h)
   ·exact ab h
  ·rintro(h | h | h)
   ·exact ae (ae h)
   ·exact ae (ab h)
   ·exact ab h
theorem qBkae{P:Prop}(h:P:=by
 intro h;obtain⟨h1,h2,h3,h4,h5⟩:=jf h;exact lh h2 h1 h4 h3 fun y hy hm=>h5 y hm hy):P:=h
theorem lZ(tu:Bool)(o:Tr)(d:It)(m:Nat)(w:Tr):(nt tu o d m w).hs.Nodup↔(o.hs++d.h::w.hs).Nodup:=by
 cases tu
 ·show (node o d m w).hs.Nodup↔_
  rw[eY]
 ·show (node w d m o).hs.Nodup↔_
  rw[eY]
  constructor
  ·exact qBkae
  ·exact qBkae
theorem lY{tu:Bool}(h:At S (nt tu o d m w)):At S o/\At S w/\∃n0,reco S d.h=some (eM n0)/\n0.key=d.kh/\n0.val=d.vh:=by
 cases tu
 ·exact⟨h.2.1,h.2.2,_,h.1,rfl,rfl⟩
 ·exact⟨h.2.2,h.2.1,_,h.1,rfl,rfl⟩
theorem oH(hf:Fw S f){tu:Bool}(h:At S (nt tu o d m w)):sidesT S tu d.h=(o.root,w.root):=by
 unfold sidesT
 cases tu
 ·have h:At S (node o d m w):=h;rw[h.getNode hf]
  rfl
 ·have h:At S (node w d m o):=h;rw[h.getNode hf]
  rfl
theorem At.red(hf:Fw S f)(h:At S t):redT S t.root=decide (t.mark % 2=1):=by
 unfold redT;have:=(h.mark_eq hf).1;unfold mU at this;rw[this]
theorem At.black(hf:Fw S f)(h:At S t):blackT S t.root=t.mark / 2:=by
 unfold blackT;have:=(h.mark_eq hf).1;unfold mU at this;rw[this]
def Sr(t:Tr):Prop:=t.mark<100000/\t.its.length<100000
theorem rW(hf:Fw S f){l r:Tr}{n0:Nd}(c:Bool)(hl:At S l)(hr:At S r)(hd:reco S d.h=some (eM n0))(hk0:n0.key=d.kh)(hv0:n0.val=d.vh)(hnl:d.h∉l.hs)(hnr:d.h∉r.hs)(sl:Sr l)(sr:Sr r):
 ∃S',putRM S d.h l.root r.root c=some S'/\Fw S' f/\At S' (node l d (l.mark / 2*2+(if c then 1 else 2)) r)/\(∀h',h'≠d.h->reco S' h'=reco S h')/\ej S S' 0 0:=by
 have hw:=(fL hf hd).2.2.2;have ai:d.kh<2^64:=by rw[<-hk0];exact hw _ (by simp[eM])
 have au:d.vh<2^64:=by rw[<-hv0];exact hw _ (by simp[eM])
 have h1:=sl.1;have h2:=sl.2;have h3:=sr.2;have al:(node l d (l.mark / 2*2+(if c then 1 else 2)) r).its.length=l.its.length+(r.its.length+1):=by simp[its]
 have ar:ji (nd l d (l.mark / 2*2+(if c then 1 else 2)) r):=by
  refine⟨ai,au,hl.root_lt hf,hr.root_lt hf,?_,?_⟩
  ·show l.mark / 2*2+(if c then 1 else 2)<_
   cases c<;>simp<;>omega
  ·show (node l d (l.mark / 2*2+(if c then 1 else 2)) r).its.length<_;omega
 obtain⟨S',e,ad,ap,ho,hg⟩:=ww hf hd ar;refine⟨S',?_,ad,⟨ap,hl.frame fun h hm=>ho h fun e=>hnl (e▸hm),hr.frame fun h hm=>ho h fun e=>hnr (e▸hm)⟩,ho,hg⟩;unfold putRM;rw[hl.size hf (by omega),hr.size hf (by omega),hl.black hf,gw hf hd];simp only;rw[if_neg (by omega)];have:({ n0 with left:=l.root,right:=r.root,mark:=l.mark / 2*2+(if c then 1 else 2),size:=l.its.length+r.its.length+1 }:Nd)=nd l d (l.mark / 2*2+(if c then 1 else 2)) r:=by
  unfold nd;rw[hk0,hv0,al]
  congr 1
 rw[this,e]
theorem lu(hf:Fw S f)(tu:Bool){o w:Tr}{n0:Nd}(c:Bool)(ho:At S o)(hw:At S w)(hd:reco S d.h=some (eM n0))(hk0:n0.key=d.kh)(hv0:n0.val=d.vh)(hno:d.h∉o.hs)(hnw:d.h∉w.hs)(so:Sr o)(sw:Sr w)(hb:o.mark / 2=w.mark / 2):
 ∃S',putJ S tu d.h o.root w.root c=some S'/\Fw S' f/\At S' (nt tu o d (o.mark / 2*2+(if c then 1 else 2)) w)/\(∀h',h'≠d.h->reco S' h'=reco S h')/\ej S S' 0 0:=by
 cases tu
 ·exact rW hf c ho hw hd hk0 hv0 hno hnw so sw
 ·have:=rW hf c hw ho hd hk0 hv0 hnw hno sw so;rw[<-hb] at this;exact this
def Rb:Tr->Prop
 | nil=>True
 | node l _ m r=>Rb l/\Rb r/\l.mark / 2=r.mark / 2/\((m=l.mark / 2*2+1/\l.mark % 2=0/\r.mark % 2=0)\/m=l.mark / 2*2+2)
theorem Rb.mark_le:∀{t:Tr},Rb t->t.mark<=2*t.its.length
 | nil,_=>Nat.le_refl _
 | node l d m r,⟨h1,h2,h3,h4⟩=>by
  have:=h1.mark_le;have:=h2.mark_le;show m<=2*(l.its++d::r.its).length
  simp only[aG,av];omega
theorem Rb.sr(h:Rb t)(hl:t.its.length<40000):Sr t:=⟨by have:=h.mark_le;omega,by omega⟩
structure jl (o w:Tr) (m:Nat):Prop where
 ro:Rb o
 rw':Rb w
 bh:o.mark / 2=w.mark / 2
 col:(m=o.mark / 2*2+1/\o.mark % 2=0/\w.mark % 2=0)\/m=o.mark / 2*2+2
theorem jl.nt{tu:Bool}{o w:Tr}(h:jl o w m):Rb (Tr.nt tu o d m w):=by
 obtain⟨h1,h2,h3,h4⟩:=h
 cases tu
 ·exact⟨h1,h2,h3,h4⟩
 ·refine⟨h2,h1,h3.symm,?_⟩
  rcases h4 with h4 | h4
  ·left;omega
  ·right;omega
theorem Rb.node_nt(tu:Bool)(h:Rb t)(hm:t.mark≠0):∃o d m w,t=Tr.nt tu o d m w/\jl o w m:=by
 cases t with
 | nil=>exact absurd rfl hm
 | node l d m r=>
  obtain⟨h1,h2,h3,h4⟩:=h
  cases tu
  ·exact⟨l,d,m,r,rfl,h1,h2,h3,h4⟩
  ·refine⟨r,d,m,l,rfl,h2,h1,h3.symm,?_⟩
   rcases h4 with h4 | h4
   ·left;omega
   ·right;omega
def iS(tu:Bool)(u:Tr):Prop:=∃o d m w,u=Tr.nt tu o d m w/\Rb o/\Rb w/\o.mark % 2=0/\o.mark / 2=w.mark / 2/\m=o.mark / 2*2+1
def kR(tu:Bool)(u:Tr):Prop:=∃o d m w,u=Tr.nt tu o d m w/\Rb o/\(Rb w\/iS tu w)/\o.mark % 2=0/\o.mark / 2=w.mark / 2/\m=o.mark / 2*2+1
theorem iS.two{tu:Bool}(h:iS tu u):kR tu u:=by
 obtain⟨o,d,m,w,h1,h2,h3,h4⟩:=h;exact⟨o,d,m,w,h1,h2,ab h3,h4⟩
theorem iS.odd{tu:Bool}(h:iS tu u):u.mark % 2=1:=by
 obtain⟨o,d,m,w,rfl,_,_,_,_,h⟩:=h;rw[fg];omega
theorem kR.odd{tu:Bool}(h:kR tu u):u.mark % 2=1:=by
 obtain⟨o,d,m,w,rfl,_,_,_,_,h⟩:=h;rw[fg];omega
theorem yz{tu:Bool}(h:Rb u\/kR tu u)(hr:u.mark % 2=1):kR tu u:=by
 rcases h with h | h
 ·obtain⟨o,d,m,w,rfl,h1,h2,h3,h4⟩:=h.node_nt tu (by omega);rw[fg] at hr;have h4:m=o.mark / 2*2+1/\o.mark % 2=0/\w.mark % 2=0:=by rcases h4 with h4 | h4<;>omega
  exact⟨o,d,m,w,rfl,h1,ab h2,h4.2.1,h3,h4.1⟩
 ·exact h
theorem tA{tu:Bool}(h:Rb u\/iS tu u)(hr:u.mark % 2=1):iS tu u:=by
 rcases h with h | h
 ·obtain⟨o,d,m,w,rfl,h1,h2,h3,h4⟩:=h.node_nt tu (by omega);rw[fg] at hr;have h4:m=o.mark / 2*2+1/\o.mark % 2=0/\w.mark % 2=0:=by rcases h4 with h4 | h4<;>omega
  exact⟨o,d,m,w,rfl,h1,h2,h4.2.1,h3,h4.1⟩
 ·exact h
def jO(tu:Bool)(a:List It)(d:It)(b:List It):List It:=if tu=true then b++d::a else a++d::b
theorem AY(hf:Fw S f){tu:Bool}{oth x:Tr}{e:It}(ha:At S (nt tu oth e (oth.mark / 2*2+2) x))(hnd:(nt tu oth e (oth.mark / 2*2+2) x).hs.Nodup)(hlen:(nt tu oth e (oth.mark / 2*2+2) x).its.length<40000)
 (ro:Rb oth) (rx:Rb x\/kR tu x) (hb:oth.mark / 2=x.mark / 2):
 ∃u S',fixR tu S e.h oth.root x.root false=some (u.root,S')/\lF S S' f (nt tu oth e (oth.mark / 2*2+2) x).hs u/\u.its=(nt tu oth e (oth.mark / 2*2+2) x).its/\Rb u/\u.mark / 2=oth.mark / 2+1:=by
 obtain⟨ho,hx,n0,bb,a9,bo⟩:=lY ha;have ai:=hx.red hf;by_cases c1:x.mark % 2=1
 ·obtain⟨a,xd,xm,b,rfl,ra,rb,ea,eb,em⟩:=yz rx c1;rw[fg] at hb c1;have hs:=oH hf hx;obtain⟨a4,ad,n1,bc,a',bs⟩:=lY hx;have ap:=ad.red hf;by_cases c2:b.mark % 2=1
  ·obtain⟨c,bd,bm,d',rfl,rc,rd,ec,ed,b9⟩:=tA rb c2;rw[fg] at eb c2;have bk:=oH hf ad;obtain⟨a5,a6,n2,bf,ba,bt⟩:=lY ad;rw[lZ] at hnd;obtain⟨d1,d2,d3,d4,d5⟩:=jf hnd;rw[lZ] at d2;obtain⟨d6,d7,d8,d9,al⟩:=jf d2;rw[lZ] at d7;obtain⟨b2,b4,ar,au,b8⟩:=jf d7;simp only[jS,not_or] at d4 d5 d9 al;rw[kJ,kJ,kJ] at hlen;have so:=ro.sr (by omega);have sa:=ra.sr (by omega);have sc:=rc.sr (by omega);have sd:=rd.sr (by omega);obtain⟨S1,e1,f1,a1,o1,g1⟩:=lu hf tu false a5 a6 bf ba bt ar au sc sd ed;have bj:At S1 oth:=ho.frame fun y hy=>o1 y fun q=>(d5 y hy).2.2.2.1 q;have a0:At S1 a:=a4.frame fun y hy=>o1 y fun q=>(al y hy).2.1 q;have a8:reco S1 e.h=some (eM n0):=(o1 _ fun q=>d4.2.2.2.1 q).trans bb;have bu:reco S1 xd.h=some (eM n1):=(o1 _ fun q=>d9.2.1 q).trans bc;obtain⟨S2,e2,f2,a2,o2,g2⟩:=lu f1 tu false bj a0 a8 a9 bo d3 d4.1 so sa (by omega);have a7:At S2 (nt tu c bd (c.mark / 2*2+2) d'):=a1.frame fun y hy=>o2 y fun q=>by
    rw[jS] at hy;subst q;rcases hy with hy | hy | hy
    ·exact d4.2.2.1 hy
    ·exact d4.2.2.2.1 hy
    ·exact d4.2.2.2.2 hy
   have bv:reco S2 xd.h=some (eM n1):=(o2 _ fun q=>d4.2.1 q.symm).trans bu;have st:Sr (nt tu oth e (oth.mark / 2*2+2) a):=⟨by rw[fg];have:=so.1;have:=ro.mark_le;omega,by rw[kJ];omega⟩;have sb:Sr (nt tu c bd (c.mark / 2*2+2) d'):=⟨by rw[fg];have:=rc.mark_le;omega,by rw[kJ];omega⟩;obtain⟨S3,e3,f3,a3,o3,g3⟩:=lu f2 tu true a2 a7 bv a' bs (by rw[jS];simp only[not_or];exact⟨fun q=>(d5 _ q).2.1 rfl,fun q=>d4.2.1 q.symm,d8⟩) (by rw[jS];simp only[not_or];exact d9) st sb (by rw[fg,fg];simp only[bO,if_false];omega);refine⟨_,S3,?_,⟨f3,a3,?_,(g1.trans g2).trans g3⟩,?_,?_,?_⟩
   ·unfold fixR;rw[ai,fg];rw[if_neg (by simp;omega),il,hs];simp only;rw[ap,fg,if_neg (by simp;omega),il,bk];simp only;rw[e1];simp only;rw[e2];simp only;rw[il,il] at e3;rw[e3,il];rfl
   ·intro y hy;simp only[jS,not_or] at hy;exact(o3 y hy.2.2.2.1).trans ((o2 y hy.2.1).trans (o1 y hy.2.2.2.2.2.1))
   ·cases tu<;>simp[jR]
   ·refine jl.nt ⟨jl.nt ⟨ro,ra,by omega,ae rfl⟩,jl.nt ⟨rc,rd,ed,ae rfl⟩,?_,ab ⟨rfl,?_,?_⟩⟩<;>simp only[fg,bO,if_false]<;>omega
   ·simp only[fg,bO,if_false,if_true];omega
  ·refine⟨nt tu oth e (oth.mark / 2*2+2) (nt tu a xd xm b),S,?_,⟨hf,ha,fun _ _=>rfl,ej.refl S⟩,rfl,?_,?_⟩
   ·unfold fixR;rw[ai,fg,if_neg (by simp;omega),il,hs];simp only;rw[ap,if_pos (by simp;omega),il]
   ·have b0:Rb b:=by
     rcases rb with h | h
     ·exact h
     ·have:=h.odd;omega
    refine jl.nt ⟨ro,jl.nt ⟨ra,b0,eb,ab ⟨em,ea,by omega⟩⟩,?_,ae rfl⟩;rw[fg];omega
   ·rw[fg];omega
 ·have b1:Rb x:=by
   rcases rx with h | h
   ·exact h
   ·have:=h.odd;omega
  refine⟨nt tu oth e (oth.mark / 2*2+2) x,S,?_,⟨hf,ha,fun _ _=>rfl,ej.refl S⟩,rfl,jl.nt ⟨ro,b1,hb,ae rfl⟩,by rw[fg];omega⟩;unfold fixR;rw[ai,if_pos (by right;simp;omega),il]
end Tr
namespace Tr
structure yw (tu:Bool) (t low u:Tr):Prop where
 bh:u.mark / 2=t.mark / 2
 all:Rb u\/kR tu u
 stop:t.mark % 2=0->low.mark / 2=t.mark / 2->iS tu u
 go:t.mark % 2=0->low.mark / 2<t.mark / 2->Rb u
 red:t.mark % 2=1->low.mark / 2<t.mark / 2->iS tu u
theorem uZ(tu:Bool){d:It}:∀(f:Nat) {S:St} {o:Nat->Nat} {t low:Tr} {n0:Nd},Fw S o->At S t->At S low->Rb t->Rb low->reco S d.h=some (eM n0)->n0.key=d.kh->n0.val=d.vh->
 (t.hs++d.h::low.hs).Nodup->t.its.length+low.its.length<9000->t.its.length<=f->low.mark / 2<=t.mark / 2->
 ∃u S',joinR tu d.h f S t.root low.root=some (u.root,S')/\lF S S' o (t.hs++d.h::low.hs) u/\u.its=jO tu t.its d low.its/\yw tu t low u
 | 0,S,o,t,low,n0,hf,ht,hlo,rt,rl,hd,hk0,hv0,hnd,hlen,hfu,hb=>by
  have bk:t=nil:=by
   cases t with
   | nil=>rfl
   | node l d m r=>simp[its] at hfu
  subst bk;obtain⟨h1,h2,h3,h4,h5⟩:=jf hnd;obtain⟨S1,e1,f1,a1,o1,g1⟩:=lu hf tu true ht hlo hd hk0 hv0 h3 h4 (rt.sr (by simp[its])) (rl.sr (by omega)) (by have:nil.mark=0:=rfl;omega);refine⟨_,S1,?_,⟨f1,a1,fun y hy=>o1 y fun e=>hy (by rw[e];simp),g1⟩,?_,?_⟩
  ·rw[rf,e1,il];rfl
  ·rw[jR];rfl
  ·have h0:nil.mark=0:=rfl;have ai:iS tu (nt tu nil d (nil.mark / 2*2+(if true then 1 else 2)) low):=⟨nil,d,_,low,rfl,rt,rl,rfl,by omega,rfl⟩;exact⟨by rw[fg];rfl,ae ai.two,fun _ _=>ai,fun _ q=>by omega,fun q=>by omega⟩
 | f+1,S,o,t,low,n0,hf,ht,hlo,rt,rl,hd,hk0,hv0,hnd,hlen,hfu,hb=>by
  have q1:=ht.red hf;have q2:=ht.black hf;have q3:=hlo.black hf;rw[re,q1,q2,q3];obtain⟨h1,h2,h3,h4,h5⟩:=jf hnd;by_cases c1:t.mark % 2=0/\t.mark / 2=low.mark / 2
  ·rw[if_pos (by simp;omega)];obtain⟨S1,e1,f1,a1,o1,g1⟩:=lu hf tu true ht hlo hd hk0 hv0 h3 h4 (rt.sr (by omega)) (rl.sr (by omega)) c1.2;refine⟨_,S1,?_,⟨f1,a1,fun y hy=>o1 y fun e=>hy (by rw[e];simp),g1⟩,?_,?_⟩
   ·rw[e1,il];rfl
   ·rw[jR];rfl
   ·have ai:iS tu (nt tu t d (t.mark / 2*2+(if true then 1 else 2)) low):=⟨t,d,_,low,rfl,rt,rl,c1.1,c1.2,rfl⟩;exact⟨by rw[fg];simp;omega,ae ai.two,fun _ _=>ai,fun _ q=>by omega,fun q=>by omega⟩
  ·rw[if_neg (by simp;omega)];have a7:t.mark≠0:=by omega
   obtain⟨ad,e,m,own,rfl,ro,a8,al,ar⟩:=rt.node_nt tu a7;rw[fg] at hb c1 a7;have hs:=oH hf ht;obtain⟨a',bb,n1,bj,bf,bm⟩:=lY ht;rw[lZ] at h1;obtain⟨d1,d2,d3,d4,d5⟩:=jf h1;simp only[jS,not_or] at h3 h5;rw[kJ] at hlen hfu;have a0:(own.hs++d.h::low.hs).Nodup:=lh d2 h2 h3.2.2 h4 fun y hy=>h5 y (ae (ae hy));obtain⟨x,S1,e1,D1,i1,J1⟩:=uZ tu f hf bb hlo a8 rl hd hk0 hv0 a0 (by omega) (by omega) (by rcases ar with g | g<;>omega);have a3:∀y,y∈x.hs↔y∈own.hs\/y=d.h\/y∈low.hs:=fun y=>by
    unfold Tr.hs;rw[i1];unfold jO;cases tu<;>simp<;>constructor<;>rintro(g | g | g)<;>simp_all
   have bs:x.its.length=own.its.length+low.its.length+1:=by rw[i1];unfold jO;cases tu<;>simp<;>omega
   have bo:x.hs.Nodup:=by
    have e:x.hs=if tu=true then low.hs++d.h::own.hs else own.hs++d.h::low.hs:=by
     unfold Tr.hs;rw[i1];unfold jO;cases tu<;>simp
    rw[e];cases tu
    ·exact a0
    ·obtain⟨g1,g2,g3,g4,g5⟩:=jf a0;exact lh g2 g1 g4 g3 fun y hy hm=>g5 y hm hy
   have ba:At S1 ad:=a'.frame fun y hy=>D1.other y fun hm=>by
    rcases ak.1 hm with hm | hm
    ·exact d5 y hy hm
    ·rcases ah.1 hm with hm | hm
     ·exact h3.1 (hm▸hy)
     ·exact h5 y (ab hy) hm
   have a4:d.h≠e.h:=h3.2.1;have a5:e.h∉low.hs:=h5 _ (ae (ab rfl));have bd:reco S1 e.h=some (eM n1):=(D1.other _ fun hm=>by
    rcases ak.1 hm with hm | hm
    ·exact d4 hm
    ·rcases ah.1 hm with hm | hm
     ·exact a4 hm.symm
     ·exact a5 hm).trans bj
   have a6:e.h∉x.hs:=by
    rw[a3];simp only[not_or];exact⟨d4,fun q=>a4 q.symm,a5⟩
   have sx:Sr x:=by
    refine⟨?_,by omega⟩;have:=J1.bh;have:=a8.mark_le;omega
   obtain⟨S2,e2,f2,a2,o2,g2⟩:=lu D1.fit tu (decide (m % 2=1)) ba D1.at' bd bf bm d3 a6 (ro.sr (by omega)) sx (by rw[J1.bh];exact al);have bc:∀y∈ad.hs,y∉x.hs:=fun y hy hm=>by
    rcases(a3 y).1 hm with hm | hm | hm
    ·exact d5 y hy hm
    ·exact h3.1 (hm▸hy)
    ·exact h5 y (ab hy) hm
   rw[il,hs];simp only;rw[e1];simp only;rw[fg,e2];simp only;have ap:∀y,y∉(nt tu ad e m own).hs++d.h::low.hs->y≠e.h/\y∉own.hs++d.h::low.hs:=fun y hy=>by
    simp only[ak,ah,jS,not_or] at hy⊢;exact⟨hy.1.2.1,hy.1.2.2,hy.2⟩
   by_cases c2:m % 2=1
   ·have hm:m=ad.mark / 2*2+1/\ad.mark % 2=0/\own.mark % 2=0:=by rcases ar with g | g<;>omega
    have au:decide (m % 2=1)=true:=decide_eq_true c2;rw[au] at a2⊢;refine⟨nt tu ad e (ad.mark / 2*2+(if true then 1 else 2)) x,S2,?_,⟨f2,a2,fun y hy=>(o2 y (ap y hy).1).trans (D1.other y (ap y hy).2),D1.grew.trans g2⟩,?_,?_⟩
    ·unfold fixR;rw[if_pos (ab rfl),il];exact nU (fL f2 (lY a2).2.2.choose_spec.1).2.1
    ·rw[jR,i1,jR];unfold jO;cases tu<;>simp
    ·refine⟨by rw[fg,fg];simp;omega,?_,?_,?_,?_⟩
     ·right
      refine⟨ad,e,_,x,rfl,ro,?_,hm.2.1,by rw[J1.bh];exact al,rfl⟩;rcases bZ (low.mark / 2) (own.mark / 2) with g | g
      ·exact ab (J1.go hm.2.2 g)
      ·exact ae (J1.stop hm.2.2 (by omega))
     ·intro q;rw[fg] at q;omega
     ·intro q;rw[fg] at q;omega
     ·intro _ q;rw[fg] at q;exact⟨ad,e,_,x,rfl,ro,J1.go hm.2.2 (by omega),hm.2.1,by rw[J1.bh];exact al,rfl⟩
   ·have hm:m=ad.mark / 2*2+2:=by rcases ar with g | g<;>omega
    have au:decide (m % 2=1)=false:=decide_eq_false c2;rw[au] at a2⊢;have a9:At S2 (nt tu ad e (ad.mark / 2*2+2) x):=a2;obtain⟨u,S3,e3,D3,i3,r3,b3⟩:=AY f2 a9 (by rw[lZ];exact lh d1 bo d3 a6 bc) (by rw[kJ];omega) ro J1.all (by rw[J1.bh];exact al);refine⟨u,S3,?_,⟨D3.fit,D3.at',fun y hy=>?_,(D1.grew.trans g2).trans D3.grew⟩,?_,?_⟩
    ·rw[e3];exact nU (D3.at'.root_lt D3.fit)
    ·refine(D3.other y ?_).trans ((o2 y (ap y hy).1).trans (D1.other y (ap y hy).2));rw[jS];simp only[ak,ah,jS,not_or] at hy⊢;refine⟨hy.1.1,hy.1.2.1,?_⟩;rw[a3];simp only[not_or];exact⟨hy.1.2.2,hy.2⟩
    ·rw[i3,jR,i1,jR];unfold jO;cases tu<;>simp
    ·refine⟨by rw[b3,fg];omega,ab r3,fun _ q=>?_,fun _ _=>r3,fun q=>?_⟩
     ·rw[fg] at q;omega
     ·rw[fg] at q;omega
theorem xG(tu:Bool){d:It}{S:St}{o:Nat->Nat}{t low:Tr}{n0:Nd}(hf:Fw S o)(ht:At S t)(hlo:At S low)(rt:Rb t)(rl:Rb low)(hd:reco S d.h=some (eM n0))(hk0:n0.key=d.kh)(hv0:n0.val=d.vh)
 (hnd:(t.hs++d.h::low.hs).Nodup) (hlen:t.its.length+low.its.length<99) (hb:low.mark / 2<t.mark / 2):
 ∃u S',topR tu S t.root d.h low.root=some (u.root,S')/\lF S S' o (t.hs++d.h::low.hs) u/\Rb u/\u.its=jO tu t.its d low.its:=by
 obtain⟨u,S1,e1,D1,i1,J1⟩:=uZ tu 200 hf ht hlo rt rl hd hk0 hv0 hnd (by omega) (by omega) (by omega);have q1:=D1.at'.red D1.fit;unfold topR;rw[e1];simp only;rw[q1];by_cases c1:u.mark % 2=1
 ·have al:iS tu u:=by
   by_cases c0:t.mark % 2=0
   ·exact tA (ab (J1.go c0 hb)) c1
   ·exact J1.red (by omega) hb
  obtain⟨a,e,m,b,rfl,ra,rb,ea,eb,em⟩:=al;have hs:=oH D1.fit D1.at';obtain⟨ha,ad,n1,au,ap,a1⟩:=lY D1.at';rw[il,hs];simp only;rw[ad.red D1.fit];by_cases c2:b.mark % 2=1
  ·have ai:(nt tu a e m b).hs.Nodup:=by
    have q:(nt tu a e m b).hs=if tu=true then low.hs++d.h::t.hs else t.hs++d.h::low.hs:=by
     unfold Tr.hs;rw[i1];unfold jO;cases tu<;>simp
    rw[q];cases tu
    ·exact hnd
    ·obtain⟨g1,g2,g3,g4,g5⟩:=jf hnd;exact lh g2 g1 g4 g3 fun y hy hm=>g5 y hm hy
   have a0:(nt tu a e m b).its.length<200:=by rw[i1];unfold jO;cases tu<;>simp<;>omega
   rw[kJ] at a0;rw[lZ] at ai;obtain⟨_,_,g3,g4,g5⟩:=jf ai;obtain⟨S2,e2,f2,a2,o2,w2⟩:=lu D1.fit tu false ha ad au ap a1 g3 g4 (ra.sr (by omega)) (rb.sr (by omega)) eb;have ar:∀y,y∉t.hs++d.h::low.hs->y≠e.h:=fun y hy q=>by
    have:e.h∈(nt tu a e m b).hs:=by rw[jS];exact ae (ab rfl)
    have q2:(nt tu a e m b).hs=if tu=true then low.hs++d.h::t.hs else t.hs++d.h::low.hs:=by
     unfold Tr.hs;rw[i1];unfold jO;cases tu<;>simp
    rw[q2,<-q] at this;cases tu
    ·exact hy this
    ·refine hy ?_;have this:y∈low.hs++d.h::t.hs:=this;simp only[ak,ah] at this⊢;rcases this with h | h | h
     ·exact ae (ae h)
     ·exact ae (ab h)
     ·exact ab h
   refine⟨nt tu a e (a.mark / 2*2+(if false then 1 else 2)) b,S2,?_,⟨f2,a2,fun y hy=>(o2 y (ar y hy)).trans (D1.other y hy),D1.grew.trans w2⟩,jl.nt ⟨ra,rb,eb,ae rfl⟩,?_⟩
   ·rw[fg,if_pos (by simp;omega),e2,il];rfl
   ·rw[<-i1,jR,jR]
  ·refine⟨nt tu a e m b,S1,?_,D1,jl.nt ⟨ra,rb,eb,ab ⟨em,ea,by omega⟩⟩,i1⟩;rw[if_neg (by simp;omega),il]
 ·refine⟨u,S1,?_,D1,?_,i1⟩
  ·rw[if_neg (by simp;omega)]
  ·rcases J1.all with h | h
   ·exact h
   ·have:=h.odd;omega
theorem oq:kV redJ Rb where
 nil:=trivial
 sub h:=⟨h.1,h.2.1⟩
 join:=by
  intro S o l r d n0 hf hl hr bl br hd hk0 hv0 hnd hlen;have ad:=(fL hf hd).1;have q1:=hl.black hf;have q2:=hr.black hf;have h0:¬(d.h=0\/isT S l.root=false\/isT S d.h=false\/isT S r.root=false):=by
   rw[hl.isT hf,hr.isT hf];have:isT S d.h=true:=by unfold isT;rw[gw hf hd];simp
   rw[this];simp;omega
  unfold redJ;rw[if_neg h0,q1,q2];obtain⟨g1,g2,g3,g4,g5⟩:=jf hnd;by_cases c1:r.mark / 2<l.mark / 2
  ·rw[if_pos c1];obtain⟨u,S1,e1,D1,r1,i1⟩:=xG false hf hl hr bl br hd hk0 hv0 hnd hlen c1;exact⟨u,S1,by rw[e1];rfl,D1,r1,i1⟩
  ·rw[if_neg c1];by_cases c2:l.mark / 2<r.mark / 2
   ·rw[if_pos c2];obtain⟨u,S1,e1,D1,r1,i1⟩:=xG true hf hr hl br bl hd hk0 hv0 (lh g2 g1 g4 g3 fun y hy hm=>g5 y hm hy) (by omega) c2;refine⟨u,S1,by rw[e1];rfl,⟨D1.fit,D1.at',fun y hy=>D1.other y fun hm=>hy ?_,D1.grew⟩,r1,i1⟩;simp only[ak,ah] at hm⊢;rcases hm with h | h | h
    ·exact ae (ae h)
    ·exact ae (ab h)
    ·exact ab h
   ·rw[if_neg c2,hl.red hf,hr.red hf];obtain⟨S1,e1,f1,a1,o1,w1⟩:=rW hf (!decide (l.mark % 2=1) && !decide (r.mark % 2=1)) hl hr hd hk0 hv0 g3 g4 (bl.sr (by omega)) (br.sr (by omega));refine⟨_,S1,by rw[e1];rfl,⟨f1,a1,fun y hy=>o1 y fun e=>hy (by rw[e];simp),w1⟩,⟨bl,br,by omega,?_⟩,rfl⟩;by_cases a1:l.mark % 2=1
    ·right;simp[a1]
    ·by_cases a2:r.mark % 2=1
     ·right;simp[a2]
     ·left
      have b1:l.mark % 2=0:=by omega
      have b2:r.mark % 2=0:=by omega
      simp[b1,b2]
end Tr
end
section
open Go.RowKit Tryz Go.BigFrame Go.Maps Go.WideMaps Lf
variable{S:St}{Y:Nat->Prop}{w:World}{z:Nat}
theorem CQ{pm px ps limit:Nat}(hM:Ic w pm px ps limit)(ht:Cb 56 #[PV px] w (Xi z)):
 Cb 22 #[PV pm] w (Xi z):=by
 have HG:=kq2 (ki hM) ht;unfold Ic at hM;obtain⟨c0,c1,c2⟩:=fq hM;clear hM ht;go_enter func22,ntmps22;go_wp2_with fail;refine Jc HG.a ?_;go_wp2_with fail;refine wx HG.b fun w2 hb=>?_;have HB:=If hb;clear hb;go_wp2_with fail;go_ret;exact⟨rfl,HB.out⟩
theorem CU{pm px ps limit:Nat}(hM:Ic w pm px ps limit)(k:List UInt8)(ht:Cb 49 #[PV px,SV k] w (Xi z)):
 Cb 14 #[PV pm,SV k] w (Xi z):=by
 have HG:=kq2 (ki hM) ht;unfold Ic at hM;obtain⟨c0,c1,c2⟩:=fq hM;clear hM ht;go_enter func14,ntmps14;go_wp2_with fail;refine Jc HG.a ?_;go_wp2_with fail;refine wx HG.b fun w2 hb=>?_;have HB:=If hb;clear hb;go_wp2_with fail;go_ret;exact⟨rfl,HB.out⟩
theorem CV{pm px ps limit:Nat}(hM:Ic w pm px ps limit)(k:Int)(p:List UInt8×List UInt8)(er:Nat)(ht:∀W,Below w.heap.size w W->Cb 53 #[PV px,Xi k] W (.tuple #[eu p,Xi er])):
 Cb 18 #[PV pm,Xi k] w (.tuple #[eu p,Xi er]):=by
 have B0:=(aa w.heap.size w).alloc Ih (.cells #[.string ⟨#[]⟩,.string ⟨#[]⟩] 34);have q0:=heap_alloc_new w (.cells #[.string ⟨#[]⟩,.string ⟨#[]⟩] 34);have ad:=hM.below B0;have ai:=ht _ B0;simp only[eu] at ai⊢;obtain⟨p1,p2⟩:=p;simp only at ai⊢;have HG:=kq4 (ki ad) ai B0 q0;unfold Ic at ad;obtain⟨c0,c1,c2⟩:=fq ad;clear hM ad ht ai B0 q0;go_enter func18,ntmps18;go_wp2_with fail;refine Jc HG.a ?_;go_wp2_with fail;refine wx HG.b fun w2 hb=>?_;have q2:=(hb.block w.heap.size (by simp)).trans HG.d;obtain⟨d0,d1⟩:=Fp q2;obtain⟨f0,f1⟩:=ef q2;have q3:=ew q2 (SV p1) (SV p2);have B3:=eT (HG.c.trans (hb.mono HG.c.size)) Ih (SV p1) (SV p2);have HB:=kq2 q3 B3;clear hb q2 q3 B3;go_wp2_with fail;obtain⟨q3,B3⟩:=HB.out;generalize ((w2.setCell ⟨w.heap.size,0,none⟩ (SV p1)).setCell ⟨w.heap.size,1,none⟩ (SV p2))=w3 at*;obtain⟨e0,e1⟩:=Fp q3;exact bodyPost_ret (v:=.tuple #[.agg #[SV p1,SV p2],Xi er]) (by simp[results,f18,go_sem,e0,e1]) rfl ⟨rfl,B3⟩
theorem CL{pm px ps limit:Nat}(hM:Ic w pm px ps limit)(a:List UInt8){n:Nat}(hn:n<2^62)(is:Bool)(v:List UInt8)(h1:Cb 49 #[PV px,SV a] w (Xi n))(h2:∀W,Below w.heap.size w W->Cb 50 #[PV px,SV a] W (.tuple #[SV v,.bool is])):
 Cb 52 #[PV pm,SV a] w (Xi (if is=true then(n:Int) else(n:Int)-1)):=by
 have hw:IntKind.i64.wrap ((n:Int)-1)=(n:Int)-1:=aD _ (by omega);have HG:=kq3 h1 h2 hM;unfold Ic at hM;obtain⟨c0,c1,c2⟩:=fq hM;clear h1 h2 hM
 cases is
 all_goals
  go_enter func52,ntmps52;go_wp2_with fail;refine wx HG.a fun w1 hb1=>?_;have ad:=HG.c.below hb1;unfold Ic at ad;obtain⟨d0,d1,d2⟩:=fq ad;have H1:=If hb1;clear hb1 ad;go_wp2_with fail;refine wx (HG.b _ H1.out) fun w2 hb2=>?_;have H2:=If (H1.out.trans (hb2.mono H1.out.size));clear hb2;go_wp2_with fail;go_ret;exact⟨rfl,H2.out⟩
theorem CM{pm px ps limit:Nat}(hM:Ic w pm px ps limit)(a:List UInt8)(k:Int)(hpl:∀W,Below w.heap.size w W->Cb 14 #[PV pm,SV a] W (Xi k))(p:List UInt8×List UInt8)(hat:∀W,Below w.heap.size w W->Cb 53 #[PV px,Xi k] W (.tuple #[eu p,Xi 0])):
 Cb 17 #[PV pm,SV a] w (.tuple #[eu p,Xi 0]):=by
 have B0:=(aa w.heap.size w).alloc Ih (.cells #[.string ⟨#[]⟩,.string ⟨#[]⟩] 34);have q0:=heap_alloc_new w (.cells #[.string ⟨#[]⟩,.string ⟨#[]⟩] 34);have M0:=hM.below B0;have hat:=vI M0 14 (fun args w=>by go_simp) a k p.1 p.2 (fun W hW=>hpl W (B0.trans (hW.mono B0.size))) (fun W hW=>hat W (B0.trans (hW.mono B0.size)));obtain⟨p1,p2⟩:=p;simp only[eL,eu] at hat⊢;have HG:=kq3 hat B0 q0;clear M0 hM hat B0 q0 hpl;go_enter func17,ntmps17;go_wp2_with fail;refine wx HG.a fun w1 hb=>?_;have q1:=(hb.block w.heap.size (by simp)).trans HG.c;obtain⟨c0,c1⟩:=Fp q1;obtain⟨f0,f1⟩:=ef q1;have q2:=ew q1 (SV p1) (SV p2);have B2:=eT (HG.b.trans (hb.mono HG.b.size)) Ih (SV p1) (SV p2);have HB:=kq2 q2 B2;clear hb q1 q2 B2;go_wp2_with fail;obtain⟨q2,B2⟩:=HB.out;generalize ((w1.setCell ⟨w.heap.size,0,none⟩ (SV p1)).setCell ⟨w.heap.size,1,none⟩ (SV p2))=w2 at*;obtain⟨e0,e1⟩:=Fp q2;exact bodyPost_ret (v:=.tuple #[.agg #[SV p1,SV p2],Xi 0]) (by simp[results,f17,go_sem,e0,e1]) rfl ⟨rfl,B2⟩
theorem CN{pm px ps limit:Nat}(hM:Ic w pm px ps limit)(a:List UInt8)(k:Int)(hpl:∀W,Below w.heap.size w W->Cb 14 #[PV pm,SV a] W (Xi k))(s1 s2:List UInt8)(hat:∀W,Below w.heap.size w W->Cb 53 #[PV px,Xi k] W (.tuple #[.agg #[SV s1,SV s2],Xi 2])):
 Cb 17 #[PV pm,SV a] w (.tuple #[.agg #[.string ⟨#[]⟩,.string ⟨#[]⟩],Xi 5]):=by
 have B0:=(aa w.heap.size w).alloc Ih (.cells #[.string ⟨#[]⟩,.string ⟨#[]⟩] 34);have q0:=heap_alloc_new w (.cells #[.string ⟨#[]⟩,.string ⟨#[]⟩] 34);have M0:=hM.below B0;have hat:=vJ M0 14 (fun args w=>by go_simp) a k s1 s2 (fun W hW=>hpl W (B0.trans (hW.mono B0.size))) (fun W hW=>hat W (B0.trans (hW.mono B0.size)));simp only[eL] at hat⊢;have HG:=kq3 hat B0 q0;clear M0 hM hat B0 q0 hpl;go_enter func17,ntmps17;go_wp2_with fail;refine wx HG.a fun w1 hb=>?_;have q1:=(hb.block w.heap.size (by simp)).trans HG.c;obtain⟨c0,c1⟩:=Fp q1;obtain⟨f0,f1⟩:=ef q1;have q2:=ew q1 (.string ⟨#[]⟩) (.string ⟨#[]⟩);have B2:=eT (HG.b.trans (hb.mono HG.b.size)) Ih (.string ⟨#[]⟩) (.string ⟨#[]⟩);have HB:=kq2 q2 B2;clear hb q1 q2 B2;go_wp2_with fail;obtain⟨q2,B2⟩:=HB.out;generalize ((w1.setCell ⟨w.heap.size,0,none⟩ (.string ⟨#[]⟩)).setCell ⟨w.heap.size,1,none⟩ (.string ⟨#[]⟩))=w2 at*;obtain⟨e0,e1⟩:=Fp q2;exact bodyPost_ret (v:=.tuple #[.agg #[.string ⟨#[]⟩,.string ⟨#[]⟩],Xi 5]) (by simp[results,f17,go_sem,e0,e1]) rfl ⟨rfl,B2⟩
theorem CS{pm px ps limit:Nat}(hM:Ic w pm px ps limit)(a b t:List UInt8)(was:Bool)(ha:a.length<=limit)(hb:b.length<=limit){Q:World->Prop}(ht:Ct 58 #[PV px,.agg #[SV a,SV b]] w fun e w'=>e=.returned (.tuple #[SV t,.bool was,Xi 0])/\Q w'):
 Ct 23 #[PV pm,SV a,SV b] w fun e w'=>e=.returned (.tuple #[SV t,.bool was,Xi 0])/\Q w':=by
 have HG:=kq2 (vH hM a b ha hb) ht;unfold Ic at hM;obtain⟨c0,c1,c2⟩:=fq hM;clear hM ha hb ht;go_enter func23,ntmps23;go_wp2_with fail;refine Jc HG.a ?_;go_wp2_with fail;refine wx HG.b fun w2 hr=>?_;have HR:=If hr;clear hr;go_wp2_with fail;go_ret3;exact⟨rfl,HR.out⟩
def Ju(w:World)(pc pm ps hh is:Nat):Prop:=w.heap[pc]?=some (.cells #[PV pm,PV ps,Xu hh,Xi is] 114)
theorem Ju.below{w w':World}{pc pm ps hh is:Nat}(h:Ju w pc pm ps hh is)(hb:Below w.heap.size w w'):Ju w' pc pm ps hh is:=(hb.block pc (gl h)).trans h
theorem Ju.keep{w w':World}{pc pm ps hh is:Nat}(h:Ju w pc pm ps hh is)(hk:Fo Y w w')(hy:Y pc):Ju w' pc pm ps hh is:=(hk.block pc hy).trans h
theorem Bb(pc pm ps hh is:Nat):∃I:World->Prop,(∀w',I w'->Ju w' pc pm ps hh is)/\(∀w',Ju w' pc pm ps hh is->I w'):=⟨fun w'=>Ju w' pc pm ps hh is,fun _ h=>h,fun _ a=>a⟩
def Lf.curPut(S:St)(hh:Nat)(ws:List Nat):Nat->St
 | 0=>S
 | n+1=>((curPut S hh ws n).put hh n (ws.getD n 0)).2
theorem uo {S:St}(hi:Fv S)(hh:Nat)(ws:List Nat):∀n,Fv (curPut S hh ws n)
 | 0=>hi
 | n+1=>(uo hi hh ws n).put hh n _
theorem ee{pc pm ps hh is:Nat}(hC:Ju w pc pm ps hh is)(h0:hh≠0):
 Ct 70 #[PV pc] w fun e w'=>e=.returned (Xi 0)/\w=w':=by
 unfold Ju at hC;obtain⟨c0,c1,c2,c3⟩:=Fy hC;have hq:((hh:Int)=0)=False:=eq_false (by omega);clear hC;go_enter func70,ntmps70;go_wp2_with fail;go_ret;exact⟨rfl,rfl⟩
theorem qBkac{P:Prop}(h:P:=by
 go_wp2_with fail;refine fh I (.take 0 (.take 1 (.take 2 (.take 3 (.take 4 (.take 5 (.take 6 (.take 7 (.take 8 (.take 9 (.go 10 .nil))))))))))) (by kernel_rfl) (by kernel_rfl) a2 ?_;clear a2
 iterate 10
  refine' pT ?_ ?_;rotate_left
  ·intro x;go_simp
   try rfl
  try simp only[pu]
 refine pD fun K hK=>?_;go_simp;refine HK.a.mono ?_;rintro e w4 ⟨rfl,h4,k4⟩;have al:=(HK.b.trans (Fo.drewN Z wr 1)).trans k4;have a0:=H1.e.keep al (HZ.b _ hyc)
 try go_simp
 refine hK.out _ _ (HG.j _ a0) ?_;clear hK K
 try simp only[pu]
 have H4:=kq2 h4 al;clear h4 k4 al a0;refine eP ?_;go_wp2_with fail;go_roundw
 case rel=>exact⟨k+1,by omega,by simp,H4.a,H4.b⟩
 case measure=>simp[intOf];omega):P:=h
theorem IG{pc pm px ps hh is limit:Nat}(h:Ig w ps S Y)(hi:Fv S)(hM:Ic w pm px ps limit)(hC:Ju w pc pm ps hh is)(hyc:Y pc)(hl:hh<2^64)(hlim:limit<=1000)(l:List UInt8)(hll:l.length<=1000):
 Ct 74 #[PV pc,SV l] w fun e w'=>e=.returned (.tuple #[])/\Ig w' ps (curPut S hh (FK l) (many limit)) Y/\Fo (fun k=>Y k/\k≠pc) w w'/\Ju w' pc pm ps hh 1:=by
 have a6:=fun W=>xE l W hll;have a5:=xZ l (by omega);have bd:=fun W (hW:Ic W pm px ps limit)=>Ik hW;have a4:=fun W=>xD limit W (by omega);have bk:many limit<=200:=by unfold many;split<;>omega
 obtain⟨ws,bf⟩:=Ii (FK l);rw[bf] at a6 a5⊢;obtain⟨m,hm⟩:=Ii (many limit);rw[hm] at a4 bk⊢;obtain⟨n,hn⟩:=Ii ws.length;obtain⟨I,a8,a9⟩:=Bb pc pm ps hh is;have a7:=fun x:Fq I=>a8 _ x.ok;simp only[Ju] at a7;obtain⟨m0,m1,m2,m3⟩:=iB a7;have HG:=kq10 a6 bd a4 h hM hC a5 hi hn a9;clear a6 bd a4 h hM hC a5 hi hn a8 a9 a7 bf hm hll hlim;go_enter func74,ntmps74;go_wp2_with fail;refine(HG.a _).mono ?_;rintro e w1 ⟨v,rfl,hrow,hb⟩;have h1:=HG.d.wide hb;have a':=HG.e.below hb;have a1:=HG.f.below hb;have bm:=hrow;obtain⟨G,cp,rfl,_,_⟩:=bm;have hn:=HG.i;rw[hn] at hrow;simp only[hn];have H1:=kq5 hrow hb h1 a' a1;unfold Ju at a1;obtain⟨c0,c1,c2,c3⟩:=Fy a1;clear hrow hb h1 a' a1 hn;go_wp2_with fail;refine Jc (HG.b _ H1.d) ?_;go_wp2_with fail;refine Jc (HG.c _) ?_;go_wp2_with fail;obtain⟨Z,hZ⟩:∃Z:Nat->Prop,(fun k=>Y k\/(w.heap.size<=k/\k<w1.heap.size))=Z:=⟨_,rfl⟩;have h1:=H1.c;rw[hZ] at h1;have bb:∀k,Y k->Z k:=fun k hk=>by rw[<-hZ];exact ab hk
 have ba:∀k,w.heap.size<=k->k<w1.heap.size->Z k:=fun k h1 h2=>by rw[<-hZ];exact ae ⟨h1,h2⟩
 have HZ:=kq3 h1 bb ba;clear h1 bb ba hZ
 go_loopw [6,7,19] (fun _ _ i wr=>∃k:Nat,k<=m/\i=Xi k/\Ig wr ps (curPut S hh ws k) Z/\Fo Z w1 wr) (fun _ _ i _=>m-(intOf i).toNat)
 case atStart=>exact⟨0,by omega,rfl,HZ.a,Fo.refl _ _⟩
 case round=>
  obtain⟨k,hk,rfl,au,ad⟩:=hrel;have ai:=H1.e.keep ad (HZ.b _ hyc)
  by_cases hlt:k<m
  ·have bo:(k:Int)<m:=by omega
   have a2:I wr.drew:=HG.j _ (ai.below (aa _ _).drew)
   by_cases hlw:k<n
   ·have bj:(k:Int)<n:=by omega
    have a3:k<ws.length:=by rw[HG.i];exact hlw
    obtain⟨G',c',he,_,bc⟩:=H1.a.keep ad HZ.c
    injection he with he1 he2 he3
    injection he1 with he1
    injection he1 with he1
    subst he1;have c1:=bc k a3;have hx:=HG.g _ (aF a3);have hd:curPut S hh ws (k+1)=((curPut S hh ws k).put hh k ws[k]).2:=by
     show ((curPut S hh ws k).put hh k (ws.getD k 0)).2=_
     rw[am,af a3]
     rfl
    have ap:=xl (au.below (aa _ _).drew) (uo HG.h hh ws k) hh k ws[k] hl (by omega) hx;rw[<-hd] at ap;generalize ws[k]=x at*;have HK:=kq3 ap ad ai;clear ap ad bc hd au ai he2 he3;exact qBkac
   ·have bj:¬(k:Int)<n:=by omega
    have hd:curPut S hh ws (k+1)=((curPut S hh ws k).put hh k 0).2:=by
     show ((curPut S hh ws k).put hh k (ws.getD k 0)).2=_
     rw[am,aH (by have:=HG.i;omega)]
     rfl
    have ap:=xl (au.below (aa _ _).drew) (uo HG.h hh ws k) hh k 0 hl (by omega) (by omega);rw[<-hd] at ap;have HK:=kq3 ap ad ai;clear ap ad hd au ai;exact qBkac
  ·obtain rfl:k=m:=by omega
   have ar:=ai;unfold Ju at ar;obtain⟨d0,d1,d2,d3⟩:=Fy ar;obtain⟨f0,f1,f2,f3⟩:=fO ar;have q4:=heap_setCell (i:=3) (v:=Xi 1) ar;have s4:Ig (wr.setCell ⟨pc,3,none⟩ (Xi 1)) ps (curPut S hh ws k) Z:=au.write (HZ.b _ hyc) ar ⟨by decide,by decide⟩ (by simp) (by simp) fun k _ hk=>FB hk;have k4:Fo (fun k=>Y k/\k≠pc) w (wr.setCell ⟨pc,3,none⟩ (Xi 1)):=((Fo.of_below H1.b fun k hk=>HG.d.yl k hk.1).trans (ad.mono fun k hk=>HZ.b k hk.1)).trans ⟨rfl,rfl,rfl,by simp,fun k hk=>FB hk.2⟩;have HK:=kq3 (s4.mono HZ.b) k4 q4;clear s4 k4 q4 au ad ai ar;go_wp2_with fail
   go_end0
   exact⟨rfl,HK.a,HK.b,HK.c⟩
theorem IF{pc pm ps hh is:Nat}(h:Ig w ps S Y)(hi:Fv S)(hC:Ju w pc pm ps hh is)(hl:hh<2^64)(t:List UInt8)(ht:t.length<=1000)(h0:(S.get hh 0).1=t.length)(hw:(List.range (many t.length)).map (fun k=>(S.get hh k).1)=FK t):
 Cb 72 #[PV pc] w (SV t):=by
 have al:=fun W (hW:Below w.heap.size w W)=>sG (h.below hW) hi hh 0 hl (by omega);have a3:=fun W k (hW:Below w.heap.size w W) (hk:k<=200)=>sG (h.below hW) hi hh k hl (by omega);rw[h0] at al;have a0:=fun W=>xD t.length W (by omega);have bc:many t.length<=200:=by unfold many;split<;>omega
 have a4:=fun {W:World} {B:Nat} {v:Value} (hr:jm W B v (FK t))=>EP hr ht;have ad:∀k (hk:k<many t.length),(FK t)[k]?=some (S.get hh k).1:=fun k hk=>by
  rw[<-hw,aT,bC hk]
  rfl
 have ar:(FK t).length=many t.length:=by rw[<-hw];simp
 have ap:=xZ t (by omega);have au:many t.length≠0:=by unfold many;split<;>omega
 obtain⟨n,hn⟩:=Ii t.length;rw[hn] at al a0 bc ad ar ht au;have bt:(n:Int)<=1000:=by omega
 obtain⟨m,hm⟩:=Ii (many n);rw[hm] at a0 bc ad ar au;obtain⟨ws,bj⟩:=Ii (FK t);rw[bj] at a4 ad ar ap;obtain⟨gs,a'⟩:∃gs:Nat->Nat×Nat,(fun k=>S.get hh k)=gs:=⟨_,rfl⟩;have ba:∀k,S.get hh k=gs k:=fun k=>congrFun a' k;simp only[ba] at al a3 ad;obtain⟨I,a8,a2⟩:=Bb pc pm ps hh is;have a6:=fun x:Fq I=>a8 _ x.ok;simp only[Ju] at a6;obtain⟨m0,m1,m2,m3⟩:=iB a6;have ai:I w.drew:=a2 _ (hC.below (aa _ _).drew);obtain⟨i0,hi,bk,bm,bo⟩:=info_parts uQ;have HG:=kq10 al a3 a0 (@a4) ad ar hC a2 ap au;clear al a3 a0 a4 ad ar hC a8 a2 a6 bj hm hn ht h0 hw a' ba h ap au;go_enter func72,ntmps72;go_wp2_with fail;refine fh I (.take 0 (.take 1 (.take 2 (.take 3 (.take 4 (.take 5 (.take 6 (.take 7 (.go 8 (.take 9 (.take 10 (.take 11 (.take 12 (.take 13 .nil)))))))))))))) (by kernel_rfl) (by kernel_rfl) ai ?_;clear ai
 iterate 8
  refine' pT ?_ ?_;rotate_left
  ·intro x;go_simp
   try rfl
  try simp only[pu]
 refine pD fun K hK=>?_;go_simp;refine wx (HG.a _ (aa _ _).drew) fun w1 e1=>?_;have B1:Below w.heap.size w w1:=e1▸(aa _ _).drew;have C1:=HG.g.below B1
 try go_simp
 refine hK.out _ _ (HG.h _ C1) ?_;clear hK K
 try simp only[pu]
 iterate 5
  refine' pT ?_ ?_;rotate_left
  ·intro x;go_simp
   try rfl
  try simp only[pu]
 refine eP ?_;have H1:=If B1;clear B1 C1 e1;go_wp2_with fail;refine Jc (HG.c _) ?_;go_wp2_with fail
 go_loopw [5,6,7,8,26] (fun v _ _ _ i wr=>∃k:Nat,k<=m/\i=Xi k/\wr.ownsRow w.heap.size 82 1 v k (uV (ws.take k))/\Below w.heap.size w wr) (fun _ _ _ _ i _=>m-(intOf i).toNat)
 case atStart=>exact⟨0,by omega,rfl,⟨rfl,ab ⟨rfl,rfl⟩⟩,H1.out⟩
 case round=>
  obtain⟨k,hk,rfl,hrow,hB⟩:=hrel
  by_cases ap:k<m
  ·have bs:(k:Int)<m:=by omega
   have a7:=HG.g.below hB;have ai:I wr.drew:=HG.h _ (a7.below (aa _ _).drew);have bb:=HG.b _ k (hB.drew) (by omega);have a5:=HG.e k ap;have hx:=HG.i _ (bA a5);have bf:uV (ws.take k)++[Xu ((gs k).1:Nat)]=uV (ws.take (k+1)):=by
    rw[List.take_add_one,a5]
    simp[uV]
   generalize (gs k).1=x at*;generalize (gs k).2=er at*;have HI:=kq4 hrow hB bb bf;clear hrow hB bb bf a5 a7;go_wp2_with fail;refine fh I (.take 0 (.take 1 (.take 2 (.take 3 (.take 4 (.take 5 (.take 6 (.take 7 (.take 8 (.go 9 (.take 10 (.take 11 (.take 12 (.take 13 (.take 14 .nil))))))))))))))) (by kernel_rfl) (by kernel_rfl) ai ?_;clear ai
   iterate 9
    refine' pT ?_ ?_;rotate_left
    ·intro x;go_simp
     try rfl
    try simp only[pu]
   refine pD fun K hK=>?_;go_simp;refine wx HI.c fun w4 e4=>?_;have B4:Below wr.heap.size wr w4:=e4▸(aa _ _).drew;have C4:=HG.g.below (HI.b.trans (B4.mono HI.b.size))
   try go_simp
   refine hK.out _ _ (HG.h _ C4) ?_;clear hK K
   try simp only[pu]
   iterate 5
    refine' pT ?_ ?_;rotate_left
    ·intro x;go_simp
     try rfl
    try simp only[pu]
   refine eP ?_;have R4:=e4▸HI.a.drew;have H4:=kq3 R4 (HI.b.trans (B4.mono HI.b.size)) HI.d;clear B4 C4 R4 e4 HI
   go_wp2_with (at_builtin;refine wpList_append_own_at _ rfl _ _ 162 rfl w.heap.size 82 i0 (Xu 0) 1 8 underlying162 hi bk bm bo rfl (by decide) _ _ _ rfl (H4.a.alloc _) ⟨w4.heap.size,0,none⟩ 1 1 [Xu x] rfl rfl (cell_one_new _ _ _) ?c2 ?c3 ?c4 ?c5 ?_)
   case c2=>simp[Value.oneCell']
   case c3=>unfold maxLen;omega
   case c4=>omega
   case c5=>have:=H4.b.size;simp;omega
   intro v' w5 hown hgrow _ hat;have a1:=H4.b.size;have a9:Below w.heap.size w4 w5:=((aa _ w4).mono a1 |>.alloc a1 (.cells #[Xu x] 82)).grown hgrow (by simp;omega) (fun k e=>(H4.a.lt k e).1);rw[H4.c] at hown;have HW:=kq2 hown (H4.b.trans a9);clear hown hgrow hat a1 a9;go_wp2_with fail;go_roundw
   case rel=>exact⟨k+1,by omega,by simp,HW.out⟩
   case measure=>simp[intOf];omega
  ·obtain rfl:k=m:=by omega
   have bd:jm wr w.heap.size u5 ws:=Eb (by rw[HG.f];rw[aU (by rw[HG.f];exact Nat.le_refl _)] at hrow;exact hrow) (fun e=>HG.j (by rw[<-HG.f,e];rfl));have HI:=kq2 bd hB;clear hrow hB bd;go_wp2_with fail;refine wx (HG.d HI.a) fun w2 hb2=>?_;have HE:=If (HI.b.trans (hb2.mono HI.b.size));clear hb2;go_wp2_with fail;go_ret;exact⟨rfl,HE.out⟩