/- B-trees: At: the walk. -/
import Derived.Test.YtcibkdbpicledaaGreatDoorZBg
set_option maxRecDepth 100000
set_option maxHeartbeats 6400000
namespace Go.Proofs.YtcibkdbpicledaaGreatDoor
open Go.RowKit Tryz Go.BigFrame Go.Maps Go.WideMaps Lf Tr
variable{S:St}{i:Nat}{o:Nat->Nat}
theorem ox{t d:Nat}{x:Bt (d+2)}(h:Bt.Walk S o t x)(hi:i<=(Bn.es x).length):(Bt.lo ((Bn.es x).take i) (((Bn.ks x).map Bt.its).take i)).length=i+fV x i:=by
 have:=Bt.Ok.kids h.ok;rw[Bt.lo_length _ _ (by rw[ay,ay,aq];omega),ay];unfold fV;rw[<-bX,cN,cX hi];rfl
theorem Bt.Walk.at_kid{t d:Nat}{x:Bt (d+2)}(h:Walk S o t x){i m:Nat}(hi:i<(Bn.ks x).length)(hm:m<(its (Bn.ks x)[i]).length):(its x)[i+fV x i+m]?=(its (Bn.ks x)[i])[m]?:=by
 have hk:=Bt.Ok.kids h.ok;rw[el,nA (k:=i) (by omega) h.ok.rows,jN hi,bU (by rw[ox h (by omega)];omega),ox h (by omega),cE,cI hm]
theorem Bt.Walk.at_here{t d:Nat}{x:Bt (d+2)}(h:Walk S o t x)(hi:i<(Bn.ks x).length)(he:i<(Bn.es x).length):(its x)[i+fV x i+(its (Bn.ks x)[i]).length]?=(Bn.es x)[i]?:=by
 rw[el,nA (k:=i) (by omega) h.ok.rows,jN hi,bU (by rw[ox h (by omega)];omega),ox h (by omega),cE,bU Ih,dT,mP he,af he];rfl
theorem qBkaa{P:Prop}(h:P:=by
 have eW:WF.drew.heap[w.heap.size]?=_:=eW;obtain⟨e0,e1⟩:=Fp eW;exact bodyPost_ret (v:=.tuple #[.agg #[.int .u64 (e.kh:Nat),.int .u64 (e.vh:Nat)],.int .i64 0]) (by simp[results,f314,go_sem,e0,e1]) rfl ⟨rfl,BF.drew⟩):P:=h
theorem zS{w:World}{ps:Nat}{Y:Nat->Prop}(h:Ig w ps S Y){t d:Nat}{x:Bt (d+1)}(hx:Bt.Walk S o t x)(hd:d<40){k:Nat}{e:It}(hke:(Bt.its x)[k]?=some e):
 Ct 314 #[PV ps,.int .i64 t,.int .u64 (Bt.hd x:Nat),.int .i64 k] w fun e' w'=>e'=.returned (.tuple #[Id e.kh e.vh,.int .i64 0])/\Below w.heap.size w w':=by
 have a7:k<(Bt.its x).length:=(aA.1 hke).1;have B1:=(aa w.heap.size w).alloc Ih (.cells #[.int .u64 0,.int .u64 0] 137);have B0:=B1.alloc (by simp) (.cells #[PV ps,.int .i64 t] 254);have z1:(w.alloc (.cells #[.int .u64 0,.int .u64 0] 137)).heap.size=w.heap.size+1:=by simp
 have q1:=heap_alloc_new w (.cells #[.int .u64 0,.int .u64 0] 137);have q3:=heap_alloc_new (w.alloc (.cells #[.int .u64 0,.int .u64 0] 137)) (.cells #[PV ps,.int .i64 t] 254);have q2:=(((aa (w.alloc (.cells #[.int .u64 0,.int .u64 0] 137)).heap.size (w.alloc (.cells #[.int .u64 0,.int .u64 0] 137))).alloc Ih (.cells #[PV ps,.int .i64 t] 254)).block w.heap.size (by simp)).trans q1;rw[z1] at q3;have hz:w.heap.size+2<=((w.alloc (.cells #[.int .u64 0,.int .u64 0] 137)).alloc (.cells #[PV ps,.int .i64 t] 254)).heap.size:=by simp
 have hi:=hx.fit.inv;have has:=kZ (h.below B1) hi hx.t1 hx.t2;generalize d8:w.alloc (.cells #[.int .u64 0,.int .u64 0] 137)=Wa at*;generalize hW:Wa.alloc (.cells #[PV ps,.int .i64 t] 254)=W0 at*;have ev:Wa.heap.size=w.heap.size+1:=z1;have ap:=fun W (hw:Below W0.heap.size W0 W) {n:BN} {hh:Nat} (hb:jg S t hh n)=>kI (h.below (B0.trans (hw.mono B0.size))) hi hb;have bv:=fun W (hw:Below W0.heap.size W0 W) {n:BN} {hh:Nat} (hb:jg S t hh n) hz=>nS (h.below (B0.trans (hw.mono B0.size))) hi hb hz;have a2:=bv W0 (aa _ _) hx.read hx.size.2;have a2:Cb 163 #[FH ps t,.int .u64 (Bt.hd x:Nat)] W0 (.int .i64 ((Bt.its x).length:Nat)):=a2;obtain⟨x0,x1⟩:=Fp q3;have HG:=kq4 (kq4 B0 q2 q3 hz) @ap @bv has;have HX:=If hx;have d3:=hx.few;obtain⟨n0,bd⟩:=Ii (Bt.hd x);obtain⟨L,hL⟩:=Ii (Bt.its x).length;rw[bd,hL] at a2;rw[hL] at a7 d3;have HR:=kq2 hke bd;rw[bd];unfold FH at a2;have H0:=If a2;have ee:¬((L:Int)<=k):=by omega
 have ed:((k:Int)<0)=False:=eq_false (by omega);have eg:(L<=k)=False:=eq_false (by omega);clear ap bv h hx hi B0 B1 q1 q2 q3 z1 hz has a2 hke bd hL;go_enter func314,ntmps314;go_wp2_with fail;refine HG.d.mono ?_;rintro e w1 ⟨rfl,rfl⟩;go_wp2_with fail;refine H0.out.mono ?_;rintro e w1 ⟨rfl,cm⟩;have ds:=If cm;clear cm x0 x1;go_wp2_with fail
 go_loopw [2,3,12,13,14,15,36] (fun s2 s3 _ _ _ _ s36 wr=>∃(d' i kk hh:Nat),s2=.int .u64 hh/\s3=.int .i64 kk/\s36=.int .i64 i/\i+d'<40/\kk<=1000000/\Hid (Below W0.heap.size W0 wr/\∃y:Bt (d'+1),Bt.Walk S o t y/\Bt.hd y=hh/\(Bt.its y)[kk]?=some e)) (fun _ _ _ _ _ _ s36 _=>40-(intOf s36).toNat)
 case atStart=>exact⟨d,0,k,n0,rfl,rfl,rfl,by omega,by omega,ds.out,x,HX.out,HR.b,HR.a⟩
 case round=>
  obtain⟨d',i,kk,hh,rfl,rfl,rfl,ea,d9,I⟩:=hrel;obtain⟨hB,y,hy,cr,al⟩:=I.out;have em:(i:Int)<40:=by omega
  have t3:=(hB.block (w.heap.size+1) (by have:=HG.a.d;omega)).trans HG.a.c;obtain⟨x0,x1⟩:=Fp t3;have ap:=HG.b wr hB hy.read;unfold FH eC at ap;rw[cr] at ap;have HY:=kq3 hB hy al;clear hB hy cr al t3;obtain⟨n,hn⟩:=Ii (Bt.bn y);rw[hn] at ap;have b8:=If ap;clear ap;go_wp2_with fail;refine b8.out.mono ?_;rintro e w1 ⟨vk,vv,vc,rfl,rows,hb⟩;obtain⟨Ak,ck,rfl⟩:=rows.k.slice2;obtain⟨Av,cv,rfl⟩:=rows.v.slice2;obtain⟨Ac,cc,rfl⟩:=rows.c.slice2;have a7:n.keys.length=(Bn.es y).length:=by rw[<-hn];unfold Bt.bn;rw[aq]
  have b2:n.vals.length=(Bn.es y).length:=by rw[<-hn];unfold Bt.bn;rw[aq]
  have bm:n.kids.length=(Bn.ks y).length:=by rw[<-hn];unfold Bt.bn;rw[aq]
  rw[a7] at rows;rw[b2] at rows;rw[bm] at rows;rw[a7,b2,bm];generalize n.size=sz at*;have hy:=HY.b;have d7:=hy.es.2.2;generalize c6:(Bn.es y).length=lk at*;generalize c5:(Bn.ks y).length=lc at*;have A1:=(aa w1.heap.size w1).alloc Ih (.cells #[.slice Ak lk ck,.slice Av lk cv,.slice Ac lc cc,.int .u64 sz] 286);have p1:=heap_alloc_new w1 (.cells #[.slice Ak lk ck,.slice Av lk cv,.slice Ac lc cc,.int .u64 sz] 286);have B1:=HY.a.trans ((hb.trans (A1.mono hb.size)).mono HY.a.size);have ar:=rows.below A1;have bt:w1.heap.size<(w1.alloc (.cells #[.slice Ak lk ck,.slice Av lk cv,.slice Ac lc cc,.int .u64 sz] 286)).heap.size:=by simp
  obtain⟨W1,cj⟩:=Ii (w1.alloc (.cells #[.slice Ak lk ck,.slice Av lk cv,.slice Ac lc cc,.int .u64 sz] 286));rw[cj] at A1 p1 B1 ar bt;have t3:=(B1.block (w.heap.size+1) (by have:=HG.a.d;omega)).trans HG.a.c;have q6:=(B1.block w.heap.size (by have:=HG.a.d;omega)).trans HG.a.b;have a9:=ar.k.hrow;have a':=ar.v.hrow;have a8:=ar.c.hrow;rw[<-hn] at a9 a' a8;have a9:FD W1 (.slice Ak lk ck) ((Bn.es y).map (·.kh)):=a9;have a':FD W1 (.slice Av lk cv) ((Bn.es y).map (·.vh)):=a';have a8:FD W1 (.slice Ac lc cc) ((Bn.ks y).map Bt.hd):=a8;have d6:=HY.a.size;have bf:=HG.a.d;have cb:∀g o,Ak=some ⟨g,o,none⟩->w.heap.size≠g:=fun g o e=>by subst e;have:=ar.k.ge g rfl;omega
  have cd:∀g o,Av=some ⟨g,o,none⟩->w.heap.size≠g:=fun g o e=>by subst e;have:=ar.v.ge g rfl;omega
  have ca:∀g o,Ac=some ⟨g,o,none⟩->w.heap.size≠g:=fun g o e=>by subst e;have:=ar.c.ge g rfl;omega
  have c7:w.heap.size≠w1.heap.size:=by have:=hb.size;omega
  have c':w.heap.size+1<W1.heap.size:=by have:=B1.size;omega
  have H1:=kq6 B1 p1 (kq3 a9 a' a8) t3 bt q6;have HN:=kq5 cb cd ca c7 c';have HK:=kq2 c6 c5;clear cb cd ca c7 c' d6 bf rows ar hb A1 p1 B1 t3 a9 a' a8 b8 a7 b2 bm hn bt q6 c6 c5 hy x0 x1;have d0:=If (aa W1.heap.size W1);obtain⟨su,b1⟩:∃su:Nat->Nat,fV y=su:=⟨_,rfl⟩;have d5:su 0=0:=by rw[<-b1];simp[fV]
  have bb:=If b1;clear b1;have p2:=H1.b;obtain⟨y0,y1,y2,y3⟩:=Fy p2;go_wp2_with fail;clear y0 y1 y2 y3 p2 cj
  go_loopw [3,14,15] (fun s3 s14 _ wr=>∃j q:Nat,j<=lk/\s3=.int .i64 q/\s14=.int .i64 j/\j+su j+q=kk/\Hid (Below W1.heap.size W1 wr)) (fun _ s14 _ _=>lk-(intOf s14).toNat)
  case atStart=>exact⟨0,kk,by omega,rfl,rfl,by rw[d5];omega,d0⟩
  case round=>
   obtain⟨j,q,ec,rfl,rfl,c3,ad⟩:=hrel;have p2:=(ad.out.block w1.heap.size H1.e).trans H1.b;have t2:=(ad.out.block (w.heap.size+1) HN.e).trans H1.d;have q2:=(ad.out.block w.heap.size (by have:=HN.e;omega)).trans H1.f;obtain⟨x0,x1⟩:=Fp t2;obtain⟨y0,y1,y2,y3⟩:=Fy p2;obtain⟨z0,z1⟩:=Fp q2;obtain⟨f0,f1⟩:=ef q2;have HQ:=If q2;clear p2 t2 q2
   cases d' with
   | zero=>
    have d2:lc=0:=by rw[<-HK.b,Bt.nil_of_zero (Bn.ks y)];rfl
    subst d2;have an:su j=0:=by rw[<-bb.out];unfold fV;rw[Bt.nil_of_zero (Bn.ks y)];simp
    have al:=HY.c;rw[Bt.its_leaf] at al;have c4:=(aA.1 al).1;rw[HK.a] at c4;have cw:j<lk:=by omega
    have cx:(j:Int)<lk:=by omega
    by_cases hq0:q=0
    ·subst hq0;have a6:kk=j:=by omega
     rw[a6] at al;obtain⟨gk,ok,rfl,au⟩:=FD.at (f:=fun d:It=>d.kh) (l:=Bn.es y) H1.c.a al;obtain⟨gv,ov,rfl,a0⟩:=FD.at (f:=fun d:It=>d.vh) (l:=Bn.es y) H1.c.b al;have dk:=(ad.out.cell (p:=⟨gk,ok+j,none⟩) (fK au)).trans au;have dv:=(ad.out.cell (p:=⟨gv,ov+j,none⟩) (fK a0)).trans a0;clear au a0 al c4 a6 c3;go_wp2_with fail
     go_region
     go_wp2_with fail;have BW:Below w.heap.size w wr:=HG.a.a.trans ((H1.a.trans (ad.out.mono H1.a.size)).mono HG.a.a.size);have eW:=ew HQ.out (.int .u64 (e.kh:Nat)) (.int .u64 (e.vh:Nat));have BF:=eT BW (b:=w.heap.size) (by omega) (.int .u64 (e.kh:Nat)) (.int .u64 (e.vh:Nat));generalize ((wr.setCell ⟨w.heap.size,0,none⟩ (.int .u64 (e.kh:Nat))).setCell ⟨w.heap.size,1,none⟩ (.int .u64 (e.vh:Nat)))=WF at*;exact qBkaa
    ·have en:¬((q:Int)<=0):=by omega
     have er:IntKind.i64.wrap ((q:Int)-1)=(q:Int)-1:=aD _ (by omega);have eo:su (j+1)=0:=by rw[<-bb.out];unfold fV;rw[Bt.nil_of_zero (Bn.ks y)];simp
     clear al;go_wp2_with fail;go_roundw
     case rel=>exact⟨j+1,q-1,by omega,by congr 1;omega,by simp,by omega,ad⟩
     case measure=>simp[intOf];omega
   | succ d'=>
    have hy:=HY.b;have bs:=Bt.Ok.kids hy.ok;rw[HK.a,HK.b] at bs;have ek:(0:Int)<lc:=by omega
    have a5:j<(Bn.ks y).length:=by rw[HK.b];omega
    have eb:(j:Int)<lc:=by omega
    have cn:(Bn.ks y)[j]?=some (Bn.ks y)[j]:=af a5;obtain⟨gc,oc,rfl,ao⟩:=FD.at (f:=Bt.hd) (l:=Bn.ks y) H1.c.c cn;have a1:=hy.kid (aG a5);have an:=fun W (hW:Below W1.heap.size W1 W)=>HG.c W (H1.a.trans (hW.mono H1.a.size)) a1.read a1.size.2;have an:∀W,Below W1.heap.size W1 W->Cb 163 #[FH ps t,.int .u64 (Bt.hd (Bn.ks y)[j]:Nat)] W (.int .i64 ((Bt.its (Bn.ks y)[j]).length:Nat)):=an;unfold FH at an;have a4:=fun m=>hy.at_kid (m:=m) a5;have a3:=fun h=>hy.at_here a5 h;have ba:=xt a5;have b0:=xr hy j;have bo:=a1.few;rw[bb.out] at a4 a3 ba b0;obtain⟨kj,a6⟩:=Ii ((Bn.ks y)[j]);rw[a6] at an a4 a3 ba ao a1 bo;obtain⟨nj,bu⟩:=Ii (Bt.hd kj);obtain⟨zj,b4⟩:=Ii (Bt.its kj).length;rw[bu] at an ao;rw[b4] at an a4 a3 ba bo;have dc:=(ad.out.cell (p:=⟨gc,oc+j,none⟩) (fK ao)).trans ao;have cp:=HN.c gc oc rfl;have HJ:=kq8 a4 a3 ba a1 bu b4 b0 bo;have HS:=If an;have b9:=If ao;have hke:=HY.c;rw[<-c3] at hke;have HE:=If hke;obtain⟨I,bc,bj⟩:=qd W1 w.heap.size;have dn:=fun x:Fq I=>(bc _ x.ok w1.heap.size H1.e (Ne.symm HN.d)).trans H1.b;have bf:=fun x:Fq I=>(bc _ x.ok (w.heap.size+1) HN.e (by omega)).trans H1.d;obtain⟨m0,m1,m2,m3⟩:=iB dn;obtain⟨n0,n1⟩:=fw bf;have o0:∀x:Fq I,x.to.cell? ⟨gc,oc+j,none⟩=some (.int .u64 nj):=fun x=>(j9 (bc _ x.ok gc (fK ao) (Ne.symm cp))).trans ao;have ch:I wr.drew:=bj _ fun k hk _=>ad.out.block k hk;have HI:=If bj;have d1:=If bs;clear bj dn bf cn an ao cp a4 a3 ba a1 bu b4 a6 hke hy b0 bs
    by_cases cw:j<lk
    ·have cx:(j:Int)<lk:=by omega
     go_wp2_with fail;refine fh I (.take 0 (.take 1 (.take 2 (.take 3 (.take 4 (.take 5 (.go 6 (.take 7 .nil)))))))) (by kernel_rfl) (by kernel_rfl) ch ?_
     iterate 6
      refine' pT ?_ ?_;rotate_left
      ·intro x;go_simp
       try rfl
      try simp only[pu]
     refine pD fun K hK=>?_;go_simp;refine(HS.out wr.drew ad.out.drew).mono ?_;rintro e' w3 ⟨rfl,bk⟩;have B3:=ad.out.drew.trans (bk.mono ad.out.size);have q3:=(bk.block w.heap.size (gl HQ.out)).trans HQ.out;have ai:=kq2 B3 q3
     try go_simp
     refine hK.out _ _ (HI.out _ fun k hk _=>ai.a.block k hk) ?_;clear hK K
     try simp only[pu]
     clear B3 bk q3;refine' pT ?_ ?_;rotate_left
     ·intro x;go_simp
      try rfl
     try simp only[pu]
     refine eP ?_;clear m0 m1 m2 m3 n0 n1 o0 bc HI I ch x0 x1 y0 y1 y2 y3 z0 z1 f0 f1 dc;have p2:=(ai.a.block w1.heap.size H1.e).trans H1.b;have q2:=ai.b;obtain⟨y0,y1,y2,y3⟩:=Fy p2;obtain⟨z0,z1⟩:=Fp q2;obtain⟨f0,f1⟩:=ef q2;have dc:=(ai.a.cell (p:=⟨gc,oc+j,none⟩) (fK (b9.out))).trans b9.out;clear p2 q2
     rcases Nat.lt_trichotomy q zj with hq | hq | hq
     ·have g1:(q:Int)<=zj:=by omega
      have g2:((q:Int)==zj)=false:=by simp;omega
      have g3:¬(q:Int)=zj:=by omega
      go_wp2_with fail;go_roundw
      case rel=>exact⟨d',i+1,q,nj,rfl,rfl,by simp,by omega,by have:=HJ.h;omega,H1.a.trans (ai.a.mono H1.a.size),kj,HJ.d,HJ.e,by rw[<-HJ.a q hq];exact HE.out⟩
      case measure=>simp[intOf];omega
     ·subst hq;have hke:=HE.out;rw[HJ.b (by rw[HK.a];exact cw)] at hke;obtain⟨gk,ok,rfl,au⟩:=FD.at (f:=fun d:It=>d.kh) (l:=Bn.es y) H1.c.a hke;obtain⟨gv,ov,rfl,a0⟩:=FD.at (f:=fun d:It=>d.vh) (l:=Bn.es y) H1.c.b hke;have dk:=(ai.a.cell (p:=⟨gk,ok+j,none⟩) (fK au)).trans au;have dv:=(ai.a.cell (p:=⟨gv,ov+j,none⟩) (fK a0)).trans a0;clear au a0 hke;go_wp2_with fail
      go_region
      go_wp2_with fail;have BW:Below w.heap.size w w3:=HG.a.a.trans ((H1.a.trans (ai.a.mono H1.a.size)).mono HG.a.a.size);have eW:=ew ai.b (.int .u64 (e.kh:Nat)) (.int .u64 (e.vh:Nat));have BF:=eT BW (b:=w.heap.size) (by omega) (.int .u64 (e.kh:Nat)) (.int .u64 (e.vh:Nat));generalize ((w3.setCell ⟨w.heap.size,0,none⟩ (.int .u64 (e.kh:Nat))).setCell ⟨w.heap.size,1,none⟩ (.int .u64 (e.vh:Nat)))=WF at*;exact qBkaa
     ·have g1:¬(q:Int)<=zj:=by omega
      have g4:IntKind.i64.wrap ((zj:Int)+1)=(zj:Int)+1:=aD _ (by have:=HJ.h;omega);have g5:IntKind.i64.wrap ((q:Int)-((zj:Int)+1))=(q:Int)-((zj:Int)+1):=aD _ (by omega);go_wp2_with fail;go_roundw
      case rel=>exact⟨j+1,q-(zj+1),by omega,by congr 1;omega,by simp,by have:=HJ.c;omega,If ai.a⟩
      case measure=>simp[intOf];omega
    ·have cx:¬(j:Int)<lk:=by omega
     have cu:j=lk:=by omega
     have d4:=(aA.1 HE.out).1;have cs:=Bt.its_length HY.b.ok.okN;have cl:su lc=((Bn.ks y).map fun k=>(Bt.its k).length).sum:=by rw[<-bb.out];unfold fV;rw[bi (by rw[HK.b];exact Nat.le_refl _)]
     rw[<-cl,HK.a,d1.out] at cs;have hq:q<zj:=by have:=HJ.c;subst cu;omega
     have b':=If hq;clear cs cl d4 hq cu;go_wp2_with fail;go_roundw
     case rel=>exact⟨d',i+1,q,nj,rfl,rfl,by simp,by omega,by have:=HJ.h;have:=b'.out;omega,H1.a.trans (ad.out.mono H1.a.size),kj,HJ.d,HJ.e,by rw[<-HJ.a q b'.out];exact HE.out⟩
     case measure=>simp[intOf];omega