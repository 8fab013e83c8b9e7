/- B-trees: At: the walk. -/
import Derived.Test.YtpljannolpapgaaGreatDoorUBg
import Derived.Test.YtpljannolpapgaaGreatDoorUOa
set_option maxRecDepth 100000
set_option maxHeartbeats 6400000
namespace Go.Proofs.YtpljannolpapgaaGreatDoor
section
open Go.RowKit Tryz Go.BigFrame Go.Maps Go.WideMaps Lf Tr
variable{S:St}{i:Nat}{o:Nat->Nat}
theorem ox{t d:Nat}{x:Bt (d+2)}(h:Bt.Walk S o t x)(hi:i<=(Bn.es x).length):(Bt.lo ((Bn.es x).take i) (((Bn.ks x).map Bt.its).take i)).length=i+fV x i:=by
 have:=Bt.Ok.C_ h.ok;rw[Bt.lo_length _ _ (by rw[aF,aF,ak];omega),aF];unfold fV;rw[<-dj,cy,dL hi];rfl
theorem Bt.Walk.at_kid{t d:Nat}{x:Bt (d+2)}(h:Walk S o t x){i m:Nat}(hi:i<(Bn.ks x).length)(hm:m<(its (Bn.ks x)[i]).length):(its x)[i+fV x i+m]?=(its (Bn.ks x)[i])[m]?:=by
 have hk:=Bt.Ok.C_ h.ok;rw[dQ,nA (k:=i) o_ h.ok.rows,jN hi,ct (by rw[ox h o_];omega),ox h o_,dr,dF hm]
theorem Bt.Walk.at_here{t d:Nat}{x:Bt (d+2)}(h:Walk S o t x)(hi:i<(Bn.ks x).length)(he:i<(Bn.es x).length):(its x)[i+fV x i+(its (Bn.ks x)[i]).length]?=(Bn.es x)[i]?:=by
 rw[dQ,nA (k:=i) o_ h.ok.rows,jN hi,ct (by rw[ox h o_];omega),ox h o_,dr,ct Ih,Nat.sub_self,mP he,af he];rfl
theorem qBkaa{P:Prop}(h:P:=by
 have eW:WF.drew.1[w.1.size]?=_:=eW;obtain⟨e0,e1⟩:=Fp eW;exact bodyPost_ret (v:=.tuple #[.agg #[Xu (e.kh:Nat),Xu (e.vh:Nat)],Xi 0]) (by simp[results,f322,go_sem,e0,e1]) rfl ⟨rfl,BF.drew⟩):P:=h
theorem zS{w:World}{ps:Nat}{Y:Nat->Prop}(h:Ig w ps S Y){t d:Nat}{x:Bt (d+1)}(hx:Bt.Walk S o t x)(hd:d<40){k:Nat}{e:It}(hke:(Bt.its x)[k]?=some e):
 Ct 322 #[PV ps,Xi t,Xu (Bt.hd x:Nat),Xi k] w fun e' w'=>e'=.returned (.tuple #[Id e.kh e.vh,Xi 0])/\D_ w w':=by
 have a9:k<(Bt.its x).length:=(ax.1 hke).1;have B1:=c_ w (.cells #[Xu 0,Xu 0] 104);have B0:=B1.alloc s_ (Xc ps t);have z1:(w.alloc (.cells #[Xu 0,Xu 0] 104)).1.size=w.1.size+1:=s_
 have q1:=heap_alloc_new w (.cells #[Xu 0,Xu 0] 104);have q3:=heap_alloc_new (w.alloc (.cells #[Xu 0,Xu 0] 104)) (Xc ps t);have q2:=(((aa (w.alloc (.cells #[Xu 0,Xu 0] 104)).1.size (w.alloc (.cells #[Xu 0,Xu 0] 104))).alloc Ih (Xc ps t)).block w.1.size s_).T q1;rw[z1] at q3;have hz:w.1.size+2<=((w.alloc (.cells #[Xu 0,Xu 0] 104)).alloc (Xc ps t)).1.size:=s_
 have hi:=hx.fit.inv;have has:=kZ (h.a_ B1) hi hx.t1 hx.t2;generalize ec:w.alloc (.cells #[Xu 0,Xu 0] 104)=Wa at*;generalize hW:Wa.alloc (Xc ps t)=W0 at*;have e2:Wa.1.size=w.1.size+1:=z1;have au:=fun W (hw:D_ W0 W) {n:BN} {hh:Nat} (hb:jg S t hh n)=>kI (h.a_ (b_ B0 hw)) hi hb;have b0:=fun W (hw:D_ W0 W) {n:BN} {hh:Nat} (hb:jg S t hh n) hz=>nS (h.a_ (b_ B0 hw)) hi hb hz;have a4:=b0 W0 (aa _ _) hx.read hx.size.2;have a4:Cb 175 #[FH ps t,Xu (Bt.hd x:Nat)] W0 (Xi ((Bt.its x).length:Nat)):=a4;obtain⟨x0,x1⟩:=Fp q3;have HG:=kq4 (kq4 B0 q2 q3 hz) @au @b0 has;have HX:=If hx;have d7:=hx.few;obtain⟨n0,bj⟩:=Ii (Bt.hd x);obtain⟨L,hL⟩:=Ii (Bt.its x).length;rw[bj,hL] at a4;rw[hL] at a9 d7;have HR:=kq2 hke bj;rw[bj];unfold FH at a4;have H0:=If a4;have em:¬((L:Int)<=k):=o_
 have el:((k:Int)<0)=False:=eq_false o_;have en:(L<=k)=False:=eq_false o_;clear au b0 h hx hi B0 B1 q1 q2 q3 z1 hz has a4 hke bj hL;go_enter func322,ntmps322;go_wp2_with fail;refine Jc HG.d ?_;go_wp2_with fail;refine e9 H0.O fun w1 hb1=>?_;have d3:=If hb1;clear hb1 x0 x1;go_wp2_with fail
 go_loopw [2,3,12,13,14,15,36] (fun s2 s3 _ _ _ _ s36 wr=>∃(d' i kk hh:Nat),s2=Xu hh/\s3=Xi kk/\s36=Xi i/\i+d'<40/\kk<=1000000/\Hid (D_ W0 wr/\∃y:Bt (d'+1),Bt.Walk S o t y/\Bt.hd y=hh/\(Bt.its y)[kk]?=some e)) (fun _ _ _ _ _ _ s36 _=>40-(intOf s36).toNat)
 case atStart=>exact⟨d,0,k,n0,rfl,rfl,rfl,o_,o_,d3.O,x,HX.O,HR.b,HR.a⟩
 case round=>
  obtain⟨d',i,kk,hh,rfl,rfl,rfl,ee,ed,I⟩:=hrel;obtain⟨hB,y,hy,c3,an⟩:=I.O;have ep:(i:Int)<40:=o_
  have t3:=(hB.block (w.1.size+1) (by have:=HG.a.d;omega)).T HG.a.c;obtain⟨x0,x1⟩:=Fp t3;have au:=HG.b wr hB hy.read;unfold FH eC at au;rw[c3] at au;have HY:=kq3 hB hy an;clear hB hy c3 an t3;obtain⟨n,hn⟩:=Ii (Bt.bn y);rw[hn] at au;have b9:=If au;clear au;go_wp2_with fail;refine b9.O.M ?_;rintro e w1 ⟨vk,vv,vc,rfl,rows,hb⟩;obtain⟨Ak,ck,rfl⟩:=rows.k.F8;obtain⟨Av,cv,rfl⟩:=rows.v.F8;obtain⟨Ac,cc,rfl⟩:=rows.c.F8;have a9:n.i_.length=(Bn.es y).length:=by rw[<-hn];unfold Bt.bn;rw[ak]
  have b4:n.F4.length=(Bn.es y).length:=by rw[<-hn];unfold Bt.bn;rw[ak]
  have bq:n.C_.length=(Bn.ks y).length:=by rw[<-hn];unfold Bt.bn;rw[ak]
  rw[a9] at rows;rw[b4] at rows;rw[bq] at rows;rw[a9,b4,bq];generalize n.size=sz at*;have hy:=HY.b;have eb:=hy.es.2.2;generalize ds:(Bn.es y).length=lk at*;generalize dp:(Bn.ks y).length=lc at*;have A1:=c_ w1 (.cells #[.slice Ak lk ck,.slice Av lk cv,.slice Ac lc cc,Xu sz] 215);have p1:=heap_alloc_new w1 (.cells #[.slice Ak lk ck,.slice Av lk cv,.slice Ac lc cc,Xu sz] 215);have B1:=HY.a.T ((b_ hb A1).M HY.a.size);have a0:=rows.a_ A1;have bu:w1.1.size<(w1.alloc (.cells #[.slice Ak lk ck,.slice Av lk cv,.slice Ac lc cc,Xu sz] 215)).1.size:=s_
  obtain⟨W1,cp⟩:=Ii (w1.alloc (.cells #[.slice Ak lk ck,.slice Av lk cv,.slice Ac lc cc,Xu sz] 215));rw[cp] at A1 p1 B1 a0 bu;have t3:=(B1.block (w.1.size+1) (by have:=HG.a.d;omega)).T HG.a.c;have q6:=(B1.block w.1.size (by have:=HG.a.d;omega)).T HG.a.b;have ba:=a0.k.E_;have bb:=a0.v.E_;have a':=a0.c.E_;rw[<-hn] at ba bb a';have ba:FD W1 (.slice Ak lk ck) ((Bn.es y).map (·.kh)):=ba;have bb:FD W1 (.slice Av lk cv) ((Bn.es y).map (·.vh)):=bb;have a':FD W1 (.slice Ac lc cc) ((Bn.ks y).map Bt.hd):=a';have ea:=HY.a.size;have bk:=HG.a.d;have ch:∀g o,Ak=some (x_ g o)->w.1.size≠g:=fun g o e=>by subst e;have:=a0.k.ge g rfl;omega
  have cj:∀g o,Av=some (x_ g o)->w.1.size≠g:=fun g o e=>by subst e;have:=a0.v.ge g rfl;omega
  have cb:∀g o,Ac=some (x_ g o)->w.1.size≠g:=fun g o e=>by subst e;have:=a0.c.ge g rfl;omega
  have d0:w.1.size≠w1.1.size:=by have:=hb.size;omega
  have d1:w.1.size+1<W1.1.size:=by have:=B1.size;omega
  have H1:=kq6 B1 p1 (kq3 ba bb a') t3 bu q6;have HN:=kq5 ch cj cb d0 d1;have HK:=kq2 ds dp;clear ch cj cb d0 d1 ea bk rows a0 hb A1 p1 B1 t3 ba bb a' b9 a9 b4 bq hn bu q6 ds dp hy x0 x1;have d4:=If (aa W1.1.size W1);obtain⟨su,b2⟩:∃su:Nat->Nat,fV y=su:=⟨_,rfl⟩;have d9:su 0=0:=by rw[<-b2];simp[fV]
  have bd:=If b2;clear b2;have p2:=H1.b;obtain⟨y0,y1,y2,y3⟩:=Fy p2;go_wp2_with fail;clear y0 y1 y2 y3 p2 cp
  go_loopw [3,14,15] (fun s3 s14 _ wr=>∃j q:Nat,j<=lk/\s3=Xi q/\s14=Xi j/\j+su j+q=kk/\Hid (D_ W1 wr)) (fun _ s14 _ _=>lk-(intOf s14).toNat)
  case atStart=>exact⟨0,kk,o_,rfl,rfl,by rw[d9];omega,d4⟩
  case round=>
   obtain⟨j,q,ek,rfl,rfl,c',ad⟩:=hrel;have p2:=(ad.O.block w1.1.size H1.e).T H1.b;have t2:=(ad.O.block (w.1.size+1) HN.e).T H1.d;have q2:=(ad.O.block w.1.size (by have:=HN.e;omega)).T H1.f;obtain⟨x0,x1⟩:=Fp t2;obtain⟨y0,y1,y2,y3⟩:=Fy p2;obtain⟨z0,z1⟩:=Fp q2;obtain⟨f0,f1⟩:=ef q2;have HQ:=If q2;clear p2 t2 q2
   cases d' with
   | zero=>
    have d6:lc=0:=by rw[<-HK.b,Bt.I6 (Bn.ks y)];rfl
    subst d6;have ap:su j=0:=by rw[<-bd.O];unfold fV;rw[Bt.I6 (Bn.ks y)];simp
    have an:=HY.c;rw[Bt.its_leaf] at an;have dn:=(ax.1 an).1;rw[HK.a] at dn;have c6:j<lk:=o_
    have c7:(j:Int)<lk:=o_
    by_cases hq0:q=0
    ·subst hq0;have a8:kk=j:=o_
     rw[a8] at an;obtain⟨gk,ok,rfl,a1⟩:=FD.at (f:=fun d:It=>d.kh) (l:=Bn.es y) H1.c.a an;obtain⟨gv,ov,rfl,a2⟩:=FD.at (f:=fun d:It=>d.vh) (l:=Bn.es y) H1.c.b an;have dk:=(ad.O.cell (p:=⟨gk,ok+j,none⟩) (fK a1)).T a1;have dv:=(ad.O.cell (p:=⟨gv,ov+j,none⟩) (fK a2)).T a2;clear a1 a2 an dn a8 c';go_wp2_with fail
     go_region
     go_wp2_with fail;have BW:D_ w wr:=HG.a.a.T ((b_ H1.a ad.O).M HG.a.a.size);have eW:=ew HQ.O (Xu (e.kh:Nat)) (Xu (e.vh:Nat));have BF:=eT BW (b:=w.1.size) o_ (Xu (e.kh:Nat)) (Xu (e.vh:Nat));generalize ((wr.setCell (y_ w.1.size) (Xu (e.kh:Nat))).setCell (x_ w.1.size 1) (Xu (e.vh:Nat)))=WF at*;exact qBkaa
    ·have er:¬((q:Int)<=0):=o_
     have ez:IntKind.i64.wrap ((q:Int)-1)=(q:Int)-1:=aq _ o_;have ev:su (j+1)=0:=by rw[<-bd.O];unfold fV;rw[Bt.I6 (Bn.ks y)];simp
     clear an;go_wp2_with fail;go_roundw
     case rel=>exact⟨j+1,q-1,o_,by congr 1;omega,s_,o_,ad⟩
     case measure=>simp[intOf];omega
   | succ d'=>
    have hy:=HY.b;have bt:=Bt.Ok.C_ hy.ok;rw[HK.a,HK.b] at bt;have eo:(0:Int)<lc:=o_
    have a7:j<(Bn.ks y).length:=by rw[HK.b];omega
    have eg:(j:Int)<lc:=o_
    have cw:(Bn.ks y)[j]?=some (Bn.ks y)[j]:=af a7;obtain⟨gc,oc,rfl,ar⟩:=FD.at (f:=Bt.hd) (l:=Bn.ks y) H1.c.c cw;have a3:=hy.kid (aw a7);have ap:=fun W (hW:D_ W1 W)=>HG.c W (b_ H1.a hW) a3.read a3.size.2;have ap:∀W,D_ W1 W->Cb 175 #[FH ps t,Xu (Bt.hd (Bn.ks y)[j]:Nat)] W (Xi ((Bt.its (Bn.ks y)[j]).length:Nat)):=ap;unfold FH at ap;have a6:=fun m=>hy.at_kid (m:=m) a7;have a5:=fun h=>hy.at_here a7 h;have bc:=xt a7;have b1:=xr hy j;have bs:=a3.few;rw[bd.O] at a6 a5 bc b1;obtain⟨kj,a8⟩:=Ii ((Bn.ks y)[j]);rw[a8] at ap a6 a5 bc ar a3 bs;obtain⟨nj,bv⟩:=Ii (Bt.hd kj);obtain⟨zj,b8⟩:=Ii (Bt.its kj).length;rw[bv] at ap ar;rw[b8] at ap a6 a5 bc bs;have dc:=(ad.O.cell (p:=⟨gc,oc+j,none⟩) (fK ar)).T ar;have cx:=HN.c gc oc rfl;have HJ:=kq8 a6 a5 bc a3 bv b8 b1 bs;have HS:=If ap;have b':=If ar;have hke:=HY.c;rw[<-c'] at hke;have HE:=If hke;obtain⟨I,bf,bm⟩:=ub W1 w.1.size;have d2:=fun x:Fq I=>(bf _ x.ok w1.1.size H1.e (Ne.S HN.d)).T H1.b;have bk:=fun x:Fq I=>(bf _ x.ok (w.1.size+1) HN.e o_).T H1.d;obtain⟨m0,m1,m2,m3⟩:=iB d2;obtain⟨n0,n1⟩:=ft bk;have o0:∀x:Fq I,x.to.cell? ⟨gc,oc+j,none⟩=some (Xu nj):=fun x=>(j9 (bf _ x.ok gc (fK ar) (Ne.S cx))).T ar;have cn:I wr.drew:=bm _ fun k hk _=>ad.O.block k hk;have HI:=If bm;have d5:=If bt;clear bm d2 bk cw ap ar cx a6 a5 bc a3 bv b8 a8 hke hy b1 bt
    by_cases c6:j<lk
    ·have c7:(j:Int)<lk:=o_
     go_wp2_with fail;refine fh I (.take 0 (.take 1 (.take 2 (.take 3 (.take 4 (.take 5 (.go 6 (.take 7 .nil)))))))) k_ k_ cn ?_
     iterate 6
      refine pT_ ?_
      try simp only[pu]
     refine pD fun K hK=>?_;go_simp;refine(HS.O wr.drew ad.O.drew).M ?_;rintro e' w3 ⟨rfl,bo⟩;have B3:=ad.O.drew.T (bo.M ad.O.size);have q3:=(bo.block w.1.size (gl HQ.O)).T HQ.O;have ai:=kq2 B3 q3
     try go_simp
     refine hK.O _ _ (HI.O _ fun k hk _=>ai.a.block k hk) ?_;clear hK K
     try simp only[pu]
     clear B3 bo q3;refine pT_ ?_
     try simp only[pu]
     refine eP ?_;clear m0 m1 m2 m3 n0 n1 o0 bf HI I cn x0 x1 y0 y1 y2 y3 z0 z1 f0 f1 dc;have p2:=(ai.a.block w1.1.size H1.e).T H1.b;have q2:=ai.b;obtain⟨y0,y1,y2,y3⟩:=Fy p2;obtain⟨z0,z1⟩:=Fp q2;obtain⟨f0,f1⟩:=ef q2;have dc:=(ai.a.cell (p:=⟨gc,oc+j,none⟩) (fK (b'.O))).T b'.O;clear p2 q2
     rcases Nat.lt_trichotomy q zj with hq | hq | hq
     ·have g1:(q:Int)<=zj:=o_
      have g2:((q:Int)==zj)=false:=m_
      have g3:¬(q:Int)=zj:=o_
      go_wp2_with fail;go_roundw
      case rel=>exact⟨d',i+1,q,nj,rfl,rfl,s_,o_,by have:=HJ.h;omega,b_ H1.a ai.a,kj,HJ.d,HJ.e,by rw[<-HJ.a q hq];exact HE.O⟩
      case measure=>simp[intOf];omega
     ·subst hq;have hke:=HE.O;rw[HJ.b (by rw[HK.a];exact c6)] at hke;obtain⟨gk,ok,rfl,a1⟩:=FD.at (f:=fun d:It=>d.kh) (l:=Bn.es y) H1.c.a hke;obtain⟨gv,ov,rfl,a2⟩:=FD.at (f:=fun d:It=>d.vh) (l:=Bn.es y) H1.c.b hke;have dk:=(ai.a.cell (p:=⟨gk,ok+j,none⟩) (fK a1)).T a1;have dv:=(ai.a.cell (p:=⟨gv,ov+j,none⟩) (fK a2)).T a2;clear a1 a2 hke;go_wp2_with fail
      go_region
      go_wp2_with fail;have BW:D_ w w3:=HG.a.a.T ((b_ H1.a ai.a).M HG.a.a.size);have eW:=ew ai.b (Xu (e.kh:Nat)) (Xu (e.vh:Nat));have BF:=eT BW (b:=w.1.size) o_ (Xu (e.kh:Nat)) (Xu (e.vh:Nat));generalize ((w3.setCell (y_ w.1.size) (Xu (e.kh:Nat))).setCell (x_ w.1.size 1) (Xu (e.vh:Nat)))=WF at*;exact qBkaa
     ·have g1:¬(q:Int)<=zj:=o_
      have g4:IntKind.i64.wrap ((zj:Int)+1)=(zj:Int)+1:=aq _ (by have:=HJ.h;omega);have g5:IntKind.i64.wrap ((q:Int)-((zj:Int)+1))=(q:Int)-((zj:Int)+1):=aq _ o_;go_wp2_with fail;go_roundw
      case rel=>exact⟨j+1,q-(zj+1),o_,by congr 1;omega,s_,by have:=HJ.c;omega,If ai.a⟩
      case measure=>simp[intOf];omega
    ·have c7:¬(j:Int)<lk:=o_
     have c5:j=lk:=o_
     have d8:=(ax.1 HE.O).1;have c4:=Bt.its_length HY.b.ok.okN;have cq:su lc=((Bn.ks y).map fun k=>(Bt.its k).length).sum:=by rw[<-bd.O];unfold fV;rw[aJ (by rw[HK.b];exact Nat.le_refl _)]
     rw[<-cq,HK.a,d5.O] at c4;have hq:q<zj:=by have:=HJ.c;subst c5;omega
     have ca:=If hq;clear c4 cq d8 hq c5;go_wp2_with fail;go_roundw
     case rel=>exact⟨d',i+1,q,nj,rfl,rfl,s_,o_,by have:=HJ.h;have:=ca.O;omega,b_ H1.a ad.O,kj,HJ.d,HJ.e,by rw[<-HJ.a q ca.O];exact HE.O⟩
     case measure=>simp[intOf];omega
end
section
open Lf
namespace Tr
variable{S:St}{d:It}{f:Nat->Nat}{m:Nat}{o:Tr}{t:Tr}{u:Tr}{w:Tr}
theorem jf{A B:List Nat}{d:Nat}(h:(A++d::B).Nodup):A.Nodup/\B.Nodup/\d∉A/\d∉B/\∀y∈A,y∉B:=by
 grind
theorem lh{A B:List Nat}{d:Nat}(h1:A.Nodup)(h2:B.Nodup)(h3:d∉A)(h4:d∉B)(h5:∀y∈A,y∉B):(A++d::B).Nodup:=
 aC.2 ⟨h1,aG.2 ⟨h4,h2⟩,fun a ha b hb e=>by
  subst e;rcases aj.1 hb with e | e
  ·exact h3 (e▸ha)
  ·exact h5 a ha e⟩
def nt(tu:Bool)(o:Tr)(d:It)(m:Nat)(w:Tr):Tr:=if tu=true then node w d m o else node o d m w
theorem il(tu:Bool)(o:Tr)(d:It)(m:Nat)(w:Tr):(nt tu o d m w).f9=d.h:=by cases tu<;>rfl
theorem fg(tu:Bool)(o:Tr)(d:It)(m:Nat)(w:Tr):(nt tu o d m w).mark=m:=by cases tu<;>rfl
theorem jR(tu:Bool)(o:Tr)(d:It)(m:Nat)(w:Tr):(nt tu o d m w).its=if tu=true then w.its++d::o.its else o.its++d::w.its:=by cases tu<;>rfl
theorem kJ(tu:Bool)(o:Tr)(d:It)(m:Nat)(w:Tr):(nt tu o d m w).its.length=o.its.length+w.its.length+1:=by
 rw[jR];cases tu<;>simp<;>omega
theorem jS(tu:Bool)(o:Tr)(d:It)(m:Nat)(w:Tr)(y:Nat):y∈(nt tu o d m w).hs↔y∈o.hs\/y=d.h\/y∈w.hs:=by
 cases tu
 ·show y∈(node o d m w).hs↔_
  rw[eY]
  simp
 ·show y∈(node w d m o).hs↔_
  grind [eY]
theorem lZ(tu:Bool)(o:Tr)(d:It)(m:Nat)(w:Tr):(nt tu o d m w).hs.Nodup↔(o.hs++d.h::w.hs).Nodup:=by
 cases tu
 ·show (node o d m w).hs.Nodup↔_
  rw[eY]
 ·show (node w d m o).hs.Nodup↔_
  rw[eY]
  grind
theorem lY{tu:Bool}(h:At S (nt tu o d m w)):At S o/\At S w/\∃n0,l_ S d.h=some (eM n0)/\n0.key=d.kh/\n0.val=d.vh:=by
 cases tu
 ·exact⟨h.2.1,h.2.2,_,h.1,rfl,rfl⟩
 ·exact⟨h.2.2,h.2.1,_,h.1,rfl,rfl⟩
theorem oH(hf:Fw S f){tu:Bool}(h:At S (nt tu o d m w)):z_ S tu d.h=(o.f9,w.f9):=by
 unfold z_
 cases tu
 ·have h:At S (node o d m w):=h;rw[h.f_ hf]
  rfl
 ·have h:At S (node w d m o):=h;rw[h.f_ hf]
  rfl
theorem At.red(hf:Fw S f)(h:At S t):G8 S t.f9=decide (t.mark % 2=1):=by
 unfold G8;have:=(h.mark_eq hf).1;unfold mU at this;grind
theorem At.black(hf:Fw S f)(h:At S t):F1 S t.f9=t.mark / 2:=by
 unfold F1;have:=(h.mark_eq hf).1;unfold mU at this;omega
def Sr(t:Tr):Prop:=t.mark<100000/\t.its.length<100000
theorem rW(hf:Fw S f){l r:Tr}{n0:Nd}(c:Bool)(hl:At S l)(hr:At S r)(hd:l_ S d.h=some (eM n0))(hk0:n0.key=d.kh)(hv0:n0.val=d.vh)(hnl:d.h∉l.hs)(hnr:d.h∉r.hs)(sl:Sr l)(sr:Sr r):
 ∃S',putRM S d.h l.f9 r.f9 c=some S'/\Fw S' f/\At S' (node l d (l.mark / 2*2+(if c then 1 else 2)) r)/\(∀h',h'≠d.h->l_ S' h'=l_ S h')/\ej S S' 0 0:=by
 have hw:=(fL hf hd).2.2.2;have ai:d.kh<2^64:=by rw[<-hk0];exact hw _ (by simp[eM])
 have ar:d.vh<2^64:=by rw[<-hv0];exact hw _ (by simp[eM])
 have h1:=sl.1;have h2:=sl.2;have h3:=sr.2;have au:(node l d (l.mark / 2*2+(if c then 1 else 2)) r).its.length=l.its.length+(r.its.length+1):=by simp[its]
 have ap:ji (nd l d (l.mark / 2*2+(if c then 1 else 2)) r):=by
  refine⟨ai,ar,hl.root_lt hf,hr.root_lt hf,?_,?_⟩
  ·show l.mark / 2*2+(if c then 1 else 2)<_
   cases c<;>simp<;>omega
  ·show (node l d (l.mark / 2*2+(if c then 1 else 2)) r).its.length<_;omega
 obtain⟨S',e,ad,an,ho,hg⟩:=ww hf hd ap;refine⟨S',?_,ad,⟨an,hl.frame fun h hm=>ho h fun e=>hnl (e▸hm),hr.frame fun h hm=>ho h fun e=>hnr (e▸hm)⟩,ho,hg⟩;unfold putRM;rw[hl.size hf o_,hr.size hf o_,hl.black hf,gw hf hd];simp only
 grind [mark,nd]
theorem lu(hf:Fw S f)(tu:Bool){o w:Tr}{n0:Nd}(c:Bool)(ho:At S o)(hw:At S w)(hd:l_ S d.h=some (eM n0))(hk0:n0.key=d.kh)(hv0:n0.val=d.vh)(hno:d.h∉o.hs)(hnw:d.h∉w.hs)(so:Sr o)(sw:Sr w)(hb:o.mark / 2=w.mark / 2):
 ∃S',putJ S tu d.h o.f9 w.f9 c=some S'/\Fw S' f/\At S' (nt tu o d (o.mark / 2*2+(if c then 1 else 2)) w)/\(∀h',h'≠d.h->l_ S' h'=l_ S h')/\ej S S' 0 0:=by
 cases tu
 ·exact rW hf c ho hw hd hk0 hv0 hno hnw so sw
 ·have:=rW hf c hw ho hd hk0 hv0 hnw hno sw so;rw[<-hb] at this;exact this
def Rb:Tr->Prop
 | nil=>True
 | node l _ m r=>Rb l/\Rb r/\l.mark / 2=r.mark / 2/\((m=l.mark / 2*2+1/\l.mark % 2=0/\r.mark % 2=0)\/m=l.mark / 2*2+2)
theorem Rb.mark_le:∀{t:Tr},Rb t->t.mark<=2*t.its.length
 | nil,_=>Nat.le_refl _
 | node l d m r,⟨h1,h2,h3,h4⟩=>by
  have:=h1.mark_le;have:=h2.mark_le;show m<=2*(l.its++d::r.its).length
  simp only[ag,ah];omega
theorem Rb.sr(h:Rb t)(hl:t.its.length<40000):Sr t:=⟨by have:=h.mark_le;omega,o_⟩
structure jl (o w:Tr) (m:Nat):Prop where
 ro:Rb o
 rw':Rb w
 bh:o.mark / 2=w.mark / 2
 col:(m=o.mark / 2*2+1/\o.mark % 2=0/\w.mark % 2=0)\/m=o.mark / 2*2+2
theorem jl.nt{tu:Bool}{o w:Tr}(h:jl o w m):Rb (Tr.nt tu o d m w):=by
 obtain⟨h1,h2,h3,h4⟩:=h
 cases tu
 ·exact⟨h1,h2,h3,h4⟩
 ·refine⟨h2,h1,h3.S,?_⟩;omega
theorem Rb.node_nt(tu:Bool)(h:Rb t)(hm:t.mark≠0):∃o d m w,t=Tr.nt tu o d m w/\jl o w m:=by
 cases t with
 | nil=>exact absurd rfl hm
 | node l d m r=>
  obtain⟨h1,h2,h3,h4⟩:=h
  cases tu
  ·exact⟨l,d,m,r,rfl,h1,h2,h3,h4⟩
  ·refine⟨r,d,m,l,rfl,h2,h1,h3.S,?_⟩;omega
def iS(tu:Bool)(u:Tr):Prop:=∃o d m w,u=Tr.nt tu o d m w/\Rb o/\Rb w/\o.mark % 2=0/\o.mark / 2=w.mark / 2/\m=o.mark / 2*2+1
def kR(tu:Bool)(u:Tr):Prop:=∃o d m w,u=Tr.nt tu o d m w/\Rb o/\(Rb w\/iS tu w)/\o.mark % 2=0/\o.mark / 2=w.mark / 2/\m=o.mark / 2*2+1
theorem iS.two{tu:Bool}(h:iS tu u):kR tu u:=by
 obtain⟨o,d,m,w,h1,h2,h3,h4⟩:=h;exact⟨o,d,m,w,h1,h2,ab h3,h4⟩
theorem iS.odd{tu:Bool}(h:iS tu u):u.mark % 2=1:=by
 obtain⟨o,d,m,w,rfl,_,_,_,_,h⟩:=h;rw[fg];omega
theorem kR.odd{tu:Bool}(h:kR tu u):u.mark % 2=1:=by
 obtain⟨o,d,m,w,rfl,_,_,_,_,h⟩:=h;rw[fg];omega
theorem yz{tu:Bool}(h:Rb u\/kR tu u)(hr:u.mark % 2=1):kR tu u:=by
 rcases h with h | h
 ·obtain⟨o,d,m,w,rfl,h1,h2,h3,h4⟩:=h.node_nt tu o_;rw[fg] at hr;have h4:m=o.mark / 2*2+1/\o.mark % 2=0/\w.mark % 2=0:=by rcases h4 with h4 | h4<;>omega
  exact⟨o,d,m,w,rfl,h1,ab h2,h4.2.1,h3,h4.1⟩
 omega
theorem tA{tu:Bool}(h:Rb u\/iS tu u)(hr:u.mark % 2=1):iS tu u:=by
 rcases h with h | h
 ·obtain⟨o,d,m,w,rfl,h1,h2,h3,h4⟩:=h.node_nt tu o_;rw[fg] at hr;have h4:m=o.mark / 2*2+1/\o.mark % 2=0/\w.mark % 2=0:=by rcases h4 with h4 | h4<;>omega
  exact⟨o,d,m,w,rfl,h1,h2,h4.2.1,h3,h4.1⟩
 omega
def jO(tu:Bool)(a:List It)(d:It)(b:List It):List It:=if tu=true then b++d::a else a++d::b
theorem AY(hf:Fw S f){tu:Bool}{oth x:Tr}{e:It}(ha:At S (nt tu oth e (oth.mark / 2*2+2) x))(hnd:(nt tu oth e (oth.mark / 2*2+2) x).hs.Nodup)(hlen:(nt tu oth e (oth.mark / 2*2+2) x).its.length<40000)
 (ro:Rb oth) (rx:Rb x\/kR tu x) (hb:oth.mark / 2=x.mark / 2):
 ∃u S',fixR tu S e.h oth.f9 x.f9 false=some (u.f9,S')/\lF S S' f (nt tu oth e (oth.mark / 2*2+2) x).hs u/\u.its=(nt tu oth e (oth.mark / 2*2+2) x).its/\Rb u/\u.mark / 2=oth.mark / 2+1:=by
 obtain⟨ho,hx,n0,bb,a9,bk⟩:=lY ha;have ai:=hx.red hf;by_cases c1:x.mark % 2=1
 ·obtain⟨a,xd,xm,b,rfl,ra,rb,ea,eb,em⟩:=yz rx c1;rw[fg] at hb c1;have hs:=oH hf hx;obtain⟨a4,ad,n1,bc,a',bo⟩:=lY hx;have ap:=ad.red hf;by_cases c2:b.mark % 2=1
  ·obtain⟨c,bd,bm,d',rfl,rc,rd,ec,ed,b4⟩:=tA rb c2;rw[fg] at eb c2;obtain⟨a5,a6,n2,bf,ba,bq⟩:=lY ad;rw[lZ] at hnd;obtain⟨d1,d2,d3,d4,d5⟩:=jf hnd;rw[lZ] at d2;obtain⟨d6,d7,d8,d9,an⟩:=jf d2;rw[lZ] at d7;obtain⟨b0,b1,ar,au,b2⟩:=jf d7;simp only[jS,not_or] at d4 d5 d9 an;rw[kJ,kJ,kJ] at hlen;have so:=ro.sr o_;obtain⟨S1,e1,f1,a1,o1,g1⟩:=lu hf tu false a5 a6 bf ba bq ar au (rc.sr o_) (rd.sr o_) ed;have bj:At S1 oth:=ho.frame fun y hy=>o1 y fun q=>(d5 y hy).2.2.2.1 q;have a0:At S1 a:=a4.frame fun y hy=>o1 y fun q=>(an y hy).2.1 q;have a8:l_ S1 e.h=some (eM n0):=(o1 _ fun q=>d4.2.2.2.1 q).T bb;have bs:l_ S1 xd.h=some (eM n1):=(o1 _ fun q=>d9.2.1 q).T bc;obtain⟨S2,e2,f2,a2,o2,g2⟩:=lu f1 tu false bj a0 a8 a9 bk d3 d4.1 so (ra.sr o_) o_;have a7:At S2 (nt tu c bd (c.mark / 2*2+2) d'):=a1.frame fun y hy=>o2 y fun q=>by
    grind [jS]
   have bt:l_ S2 xd.h=some (eM n1):=(o2 _ fun q=>d4.2.1 q.S).T bs;have st:Sr (nt tu oth e (oth.mark / 2*2+2) a):=⟨by rw[fg];have:=so.1;have:=ro.mark_le;omega,by rw[kJ];omega⟩;have sb:Sr (nt tu c bd (c.mark / 2*2+2) d'):=⟨by rw[fg];have:=rc.mark_le;omega,by rw[kJ];omega⟩;obtain⟨S3,e3,f3,a3,o3,g3⟩:=lu f2 tu true a2 a7 bt a' bo (by rw[jS];grind) (by rw[jS];grind) st sb (by rw[fg,fg];grind);refine⟨_,S3,?_,⟨f3,a3,?_,(g1.T g2).T g3⟩,?_,?_,?_⟩
   ·unfold fixR;rw[ai,fg];rw[if_neg m_,il,hs];simp only;rw[ap,fg,if_neg m_,il,oH hf ad];grind [il]
   ·intro y hy;simp only[jS,not_or] at hy;grind
   ·cases tu<;>simp[jR]
   ·refine jl.nt ⟨jl.nt ⟨ro,ra,o_,ae rfl⟩,jl.nt ⟨rc,rd,ed,ae rfl⟩,?_,ab ⟨rfl,?_,?_⟩⟩<;>simp only[fg,du,if_false]<;>omega
   ·simp only[fg,du,if_false,if_true];omega
  ·refine⟨nt tu oth e (oth.mark / 2*2+2) (nt tu a xd xm b),S,?_,⟨hf,ha,fun _ _=>rfl,ej.refl S⟩,rfl,?_,?_⟩
   ·unfold fixR;rw[ai,fg,if_neg (by grind),il,hs];simp only;rw[ap,if_pos (by grind),il]
   ·have bu:Rb b:=by
     rcases rb with h | h
     ·exact h
     ·have:=h.odd;omega
    refine jl.nt ⟨ro,jl.nt ⟨ra,bu,eb,ab ⟨em,ea,o_⟩⟩,?_,ae rfl⟩;rw[fg];omega
   ·rw[fg];omega
 ·have bv:Rb x:=by
   rcases rx with h | h
   ·exact h
   ·have:=h.odd;omega
  refine⟨nt tu oth e (oth.mark / 2*2+2) x,S,?_,⟨hf,ha,fun _ _=>rfl,ej.refl S⟩,rfl,jl.nt ⟨ro,bv,hb,ae rfl⟩,by rw[fg];omega⟩;unfold fixR;rw[ai,if_pos (by grind),il]
end Tr
namespace Tr
structure yw (tu:Bool) (t low u:Tr):Prop where
 bh:u.mark / 2=t.mark / 2
 all:Rb u\/kR tu u
 stop:t.mark % 2=0->low.mark / 2=t.mark / 2->iS tu u
 go:t.mark % 2=0->low.mark / 2<t.mark / 2->Rb u
 red:t.mark % 2=1->low.mark / 2<t.mark / 2->iS tu u
theorem uZ(tu:Bool){d:It}:∀(f:Nat) {S:St} {o:Nat->Nat} {t low:Tr} {n0:Nd},Fw S o->At S t->At S low->Rb t->Rb low->l_ S d.h=some (eM n0)->n0.key=d.kh->n0.val=d.vh->
 (t.hs++d.h::low.hs).Nodup->t.its.length+low.its.length<9000->t.its.length<=f->low.mark / 2<=t.mark / 2->
 ∃u S',joinR tu d.h f S t.f9 low.f9=some (u.f9,S')/\lF S S' o (t.hs++d.h::low.hs) u/\u.its=jO tu t.its d low.its/\yw tu t low u
 | 0,S,o,t,low,n0,hf,ht,hlo,rt,rl,hd,hk0,hv0,hnd,hlen,hfu,hb=>by
  have bb:t=nil:=by
   cases t with
   | nil=>rfl
   | node l d m r=>simp[its] at hfu
  subst bb;obtain⟨h1,h2,h3,h4,h5⟩:=jf hnd;obtain⟨S1,e1,f1,a1,o1,g1⟩:=lu hf tu true ht hlo hd hk0 hv0 h3 h4 (rt.sr o_) (rl.sr o_) (by have:nil.mark=0:=rfl;omega);refine⟨_,S1,?_,⟨f1,a1,fun y hy=>o1 y fun e=>hy (by grind),g1⟩,?_,?_⟩
  ·rw[rf,e1,il];rfl
  ·rw[jR];rfl
  ·have h0:nil.mark=0:=rfl;have ai:iS tu (nt tu nil d (nil.mark / 2*2+(if true then 1 else 2)) low):=⟨nil,d,_,low,rfl,rt,rl,rfl,o_,rfl⟩;exact⟨by rw[fg];rfl,ae ai.two,fun _ _=>ai,fun _ q=>by omega,fun q=>by omega⟩
 | f+1,S,o,t,low,n0,hf,ht,hlo,rt,rl,hd,hk0,hv0,hnd,hlen,hfu,hb=>by
  rw[re,ht.red hf,ht.black hf,hlo.black hf];obtain⟨h1,h2,h3,h4,h5⟩:=jf hnd;by_cases c1:t.mark % 2=0/\t.mark / 2=low.mark / 2
  ·rw[if_pos (by grind)];obtain⟨S1,e1,f1,a1,o1,g1⟩:=lu hf tu true ht hlo hd hk0 hv0 h3 h4 (rt.sr o_) (rl.sr o_) c1.2;refine⟨_,S1,?_,⟨f1,a1,fun y hy=>o1 y fun e=>hy (by grind),g1⟩,?_,?_⟩
   ·rw[e1,il];rfl
   ·rw[jR];rfl
   ·have ai:iS tu (nt tu t d (t.mark / 2*2+(if true then 1 else 2)) low):=⟨t,d,_,low,rfl,rt,rl,c1.1,c1.2,rfl⟩;exact⟨by rw[fg];grind,ae ai.two,fun _ _=>ai,fun _ q=>by omega,fun q=>by omega⟩
  ·rw[if_neg (by grind)];have au:t.mark≠0:=o_
   obtain⟨ad,e,m,own,rfl,ro,a0,bd,ap⟩:=rt.node_nt tu au;rw[fg] at hb c1 au;obtain⟨a4,a6,n1,a',a9,bc⟩:=lY ht;rw[lZ] at h1;obtain⟨d1,d2,d3,d4,d5⟩:=jf h1;simp only[jS,not_or] at h3 h5;rw[kJ] at hlen hfu;have ba:(own.hs++d.h::low.hs).Nodup:=lh d2 h2 h3.2.2 h4 fun y hy=>h5 y (ae (ae hy));obtain⟨x,S1,e1,D1,i1,J1⟩:=uZ tu f hf a6 hlo a0 rl hd hk0 hv0 ba o_ o_ (by rcases ap with g | g<;>omega);have bm:∀y,y∈x.hs↔y∈own.hs\/y=d.h\/y∈low.hs:=fun y=>by
    grind [Tr.hs,jO]
   have bo:x.its.length=own.its.length+low.its.length+1:=by rw[i1];unfold jO;cases tu<;>simp<;>omega
   have bq:x.hs.Nodup:=by
    have e:x.hs=if tu=true then low.hs++d.h::own.hs else own.hs++d.h::low.hs:=by
     unfold Tr.hs;rw[i1];unfold jO;cases tu<;>simp
    grind
   have a5:At S1 ad:=a4.frame fun y hy=>D1.v_ y fun hm=>by
    grind
   have bf:d.h≠e.h:=h3.2.1;have bk:e.h∉low.hs:=h5 _ (ae (ab rfl));have a7:l_ S1 e.h=some (eM n1):=(D1.v_ _ fun hm=>by
    grind).T a'
   have a8:e.h∉x.hs:=by
    grind
   have sx:Sr x:=by
    refine⟨?_,o_⟩;have:=J1.bh;have:=a0.mark_le;omega
   obtain⟨S2,e2,f2,a2,o2,g2⟩:=lu D1.fit tu (decide (m % 2=1)) a5 D1.at' a7 a9 bc d3 a8 (ro.sr o_) sx (by rw[J1.bh];omega);have bj:∀y∈ad.hs,y∉x.hs:=fun y hy hm=>by
    grind
   rw[il,oH hf ht];simp only;rw[e1];simp only;rw[fg,e2];simp only;have an:∀y,y∉(nt tu ad e m own).hs++d.h::low.hs->y≠e.h/\y∉own.hs++d.h::low.hs:=fun y hy=>by
    simp only[ay,aj,jS,not_or] at hy⊢;grind
   by_cases c2:m % 2=1
   ·have hm:m=ad.mark / 2*2+1/\ad.mark % 2=0/\own.mark % 2=0:=by rcases ap with g | g<;>omega
    have ar:decide (m % 2=1)=true:=decide_eq_true c2;rw[ar] at a2⊢;refine⟨nt tu ad e (ad.mark / 2*2+(if true then 1 else 2)) x,S2,?_,⟨f2,a2,fun y hy=>(o2 y (an y hy).1).T (D1.v_ y (an y hy).2),D1.grew.T g2⟩,?_,?_⟩
    ·unfold fixR;rw[if_pos (ab rfl),il];exact nU (fL f2 (lY a2).2.2.choose_spec.1).2.1
    ·rw[jR,i1,jR];unfold jO;cases tu<;>simp
    ·refine⟨by rw[fg,fg];grind,?_,?_,?_,?_⟩
     ·right
      refine⟨ad,e,_,x,rfl,ro,?_,hm.2.1,by rw[J1.bh];omega,rfl⟩;rcases cB (low.mark / 2) (own.mark / 2) with g | g
      ·exact ab (J1.go hm.2.2 g)
      ·exact ae (J1.stop hm.2.2 o_)
     ·intro q;rw[fg] at q;omega
     ·intro q;rw[fg] at q;omega
     ·intro _ q;rw[fg] at q;exact⟨ad,e,_,x,rfl,ro,J1.go hm.2.2 o_,hm.2.1,by rw[J1.bh];omega,rfl⟩
   ·have hm:m=ad.mark / 2*2+2:=by rcases ap with g | g<;>omega
    have ar:decide (m % 2=1)=false:=decide_eq_false c2;rw[ar] at a2⊢;have a3:At S2 (nt tu ad e (ad.mark / 2*2+2) x):=a2;obtain⟨u,S3,e3,D3,i3,r3,b3⟩:=AY f2 a3 (by rw[lZ];grind) (by rw[kJ];omega) ro J1.all (by rw[J1.bh];omega);refine⟨u,S3,?_,⟨D3.fit,D3.at',fun y hy=>?_,(D1.grew.T g2).T D3.grew⟩,?_,?_⟩
    ·rw[e3];exact nU (D3.at'.root_lt D3.fit)
    ·refine(D3.v_ y ?_).T ((o2 y (an y hy).1).T (D1.v_ y (an y hy).2));simp only[ay,aj,jS,not_or] at hy⊢;grind
    ·rw[i3,jR,i1,jR];unfold jO;cases tu<;>simp
    ·refine⟨by rw[b3,fg];omega,ab r3,fun _ q=>?_,fun _ _=>r3,fun q=>?_⟩
     ·rw[fg] at q;omega
     ·rw[fg] at q;omega
theorem xG(tu:Bool){d:It}{S:St}{o:Nat->Nat}{t low:Tr}{n0:Nd}(hf:Fw S o)(ht:At S t)(hlo:At S low)(rt:Rb t)(rl:Rb low)(hd:l_ S d.h=some (eM n0))(hk0:n0.key=d.kh)(hv0:n0.val=d.vh)
 (hnd:(t.hs++d.h::low.hs).Nodup) (hlen:t.its.length+low.its.length<99) (hb:low.mark / 2<t.mark / 2):
 ∃u S',topR tu S t.f9 d.h low.f9=some (u.f9,S')/\lF S S' o (t.hs++d.h::low.hs) u/\Rb u/\u.its=jO tu t.its d low.its:=by
 obtain⟨u,S1,e1,D1,i1,J1⟩:=uZ tu 200 hf ht hlo rt rl hd hk0 hv0 hnd o_ o_ o_;unfold topR;rw[e1];simp only;rw[D1.at'.red D1.fit];by_cases c1:u.mark % 2=1
 ·have an:iS tu u:=by
   by_cases c0:t.mark % 2=0
   ·exact tA (ab (J1.go c0 hb)) c1
   ·exact J1.red o_ hb
  obtain⟨a,e,m,b,rfl,ra,rb,ea,eb,em⟩:=an;have hs:=oH D1.fit D1.at';obtain⟨ha,ad,n1,au,ap,a1⟩:=lY D1.at';rw[il,hs];simp only;rw[ad.red D1.fit];by_cases c2:b.mark % 2=1
  ·have ai:(nt tu a e m b).hs.Nodup:=by
    have q:(nt tu a e m b).hs=if tu=true then low.hs++d.h::t.hs else t.hs++d.h::low.hs:=by
     unfold Tr.hs;rw[i1];unfold jO;cases tu<;>simp
    grind
   have a0:(nt tu a e m b).its.length<200:=by rw[i1];unfold jO;cases tu<;>simp<;>omega
   rw[kJ] at a0;rw[lZ] at ai;obtain⟨_,_,g3,g4,g5⟩:=jf ai;obtain⟨S2,e2,f2,a2,o2,w2⟩:=lu D1.fit tu false ha ad au ap a1 g3 g4 (ra.sr o_) (rb.sr o_) eb;have ar:∀y,y∉t.hs++d.h::low.hs->y≠e.h:=fun y hy q=>by
    have:e.h∈(nt tu a e m b).hs:=by rw[jS];exact ae (ab rfl)
    grind [nt,hs,Tr.hs,jO]
   refine⟨nt tu a e (a.mark / 2*2+(if false then 1 else 2)) b,S2,?_,⟨f2,a2,fun y hy=>(o2 y (ar y hy)).T (D1.v_ y hy),D1.grew.T w2⟩,jl.nt ⟨ra,rb,eb,ae rfl⟩,?_⟩
   ·rw[fg,if_pos (by grind),e2,il];rfl
   ·rw[<-i1,jR,jR]
  ·refine⟨nt tu a e m b,S1,?_,D1,jl.nt ⟨ra,rb,eb,ab ⟨em,ea,o_⟩⟩,i1⟩;rw[if_neg (by grind),il]
 ·refine⟨u,S1,?_,D1,?_,i1⟩
  ·grind
  ·rcases J1.all with h | h
   ·exact h
   ·have:=h.odd;omega
theorem oq:kV redJ Rb where
 nil:=trivial
 sub h:=⟨h.1,h.2.1⟩
 join:=by
  intro S o l r d n0 hf hl hr bl br hd hk0 hv0 hnd hlen;have ad:=(fL hf hd).1;have h0:¬(d.h=0\/isT S l.f9=false\/isT S d.h=false\/isT S r.f9=false):=by
   rw[hl.isT hf,hr.isT hf];have:isT S d.h=true:=by unfold isT;rw[gw hf hd];simp
   grind
  unfold redJ;rw[if_neg h0,hl.black hf,hr.black hf];obtain⟨g1,g2,g3,g4,g5⟩:=jf hnd;by_cases c1:r.mark / 2<l.mark / 2
  ·rw[if_pos c1];obtain⟨u,S1,e1,D1,r1,i1⟩:=xG false hf hl hr bl br hd hk0 hv0 hnd hlen c1;exact⟨u,S1,by grind,D1,r1,i1⟩
  ·rw[if_neg c1];by_cases c2:l.mark / 2<r.mark / 2
   ·rw[if_pos c2];obtain⟨u,S1,e1,D1,r1,i1⟩:=xG true hf hr hl br bl hd hk0 hv0 (lh g2 g1 g4 g3 fun y hy hm=>g5 y hm hy) o_ c2;refine⟨u,S1,by rw[e1];rfl,⟨D1.fit,D1.at',fun y hy=>D1.v_ y fun hm=>hy ?_,D1.grew⟩,r1,i1⟩;grind
   ·rw[if_neg c2,hl.red hf,hr.red hf];obtain⟨S1,e1,f1,a1,o1,w1⟩:=rW hf (!decide (l.mark % 2=1) && !decide (r.mark % 2=1)) hl hr hd hk0 hv0 g3 g4 (bl.sr o_) (br.sr o_);refine⟨_,S1,by rw[e1];rfl,⟨f1,a1,fun y hy=>o1 y fun e=>hy (by rw[e];simp),w1⟩,⟨bl,br,o_,?_⟩,rfl⟩;grind
end Tr
end
section
open Go.RowKit Tryz Go.BigFrame Go.Maps Go.WideMaps Lf Tr
namespace Bt
variable{d:Nat}{j:Nat}
theorem Mv:∀(es:List It) (ks:List (List It)),(ks=[]\/ks.length=es.length+1)->(ei es ks).length=es.length+(ks.map List.length).sum
 | [],[],_=>rfl
 | [],[k],_=>by simp[ei]
 | [],_::_::_,h=>by
  rcases h with h | h
  ·cases h
  ·simp at h
 | e::es,[],_=>by rw[jY];simp
 | e::es,k::ks,h=>by
  have h:ks.length=es.length+1:=by
   rcases h with h | h
   ·cases h
   ·simpa using h
  have:=Mv es ks (.inr h);simp only[ei,ag,ah,this,bg,List.sum_cons];omega
def partS {d:Nat}(x:Bt (d+1))(j:Nat):Nat:=(Bn.es x).length+(((Bn.ks x).take j).map fun k=>(its k).length).sum
theorem partS_kid(x:Bt (d+1))(hj:j<(Bn.ks x).length):partS x (j+1)=partS x j+(its (Bn.ks x)[j]).length:=by
 unfold partS;rw[aA hj,aQ,dK]
 simp
 omega
theorem partS_all(x:Bt (d+1))(h:(Bn.ks x).length=0\/(Bn.ks x).length=(Bn.es x).length+1)(hj:(Bn.ks x).length<=j):partS x j=(its x).length:=by
 rw[dQ,Mv _ _ (h.imp (fun h=>by rw[bG.1 h];rfl) fun h=>by rw[ak,h]),cy];unfold partS;rw[aJ hj];rfl
theorem partS_le(x:Bt (d+1))(h:(Bn.ks x).length=0\/(Bn.ks x).length=(Bn.es x).length+1)(j:Nat):partS x j<=(its x).length:=by
 rw[<-partS_all x h Ih];unfold partS;rw[cY]
 conv=>rhs;rw[<-aV j (Bn.ks x),aQ,dK]
 omega
end Bt
theorem Mm {ps t:Nat}{S:St}{o:Nat->Nat}{w:World}{Y:Nat->Prop}(h:Ig w ps S Y):∀{d:Nat} (k:Bt d),Bt.Walk S o t k->Cb 175 #[FH ps t,Xu (Bt.hd k)] w (Xi (Bt.its k).length)
 | 0,k,_=>nomatch k
 | _+1,_,hk=>nS h hk.fit.inv hk.read hk.size.2
theorem Mz {ps t:Nat}{S:St}{o:Nat->Nat}:∀(d:Nat) (x:Bt d),Bt.Walk S o t x->∀{w:World} {Y:Nat->Prop} {top:Bool},Ig w ps S Y->(if top=true then 1 else t-1)<=Bt.nk x->d<=40->(Bt.its x).length<=5000->
 Cb 172 #[FH ps t,Xu (Bt.hd x:Nat),.bool top,Xi ((d:Int)-1)] w (.bool true):=by
 intro d;induction d with
 | zero=>exact fun x=>nomatch x
 | succ d ih=>
  intro x hx w Y top h hk hd hl;have B0:=c_ w (Xc ps t);have q0:=heap_alloc_new w (Xc ps t);obtain⟨Wa,bm⟩:=Ii (w.alloc (Xc ps t));rw[bm] at B0 q0;have hg:=kI (h.a_ B0) hx.fit.inv hx.read;have bu:=hx.es.2.2;have a9:=hx.ok.2.1;have a':=hx.ok.2.2;have b8:=hx.t2;have b4:=hx.t1;obtain⟨c0,c1⟩:=Fp q0;have HG:=kq9 hg B0 q0 ih hx h hl a9 a';unfold FH;have If:((d+1:Nat):Int)-1=(d:Int):=o_
  rw[If];have bb:Bt.nk x=(Bn.es x).length:=rfl;rw[bb] at hk;clear hg B0 q0 ih hx h hl a9 a' If bb;go_enter func172,ntmps172;go_wp2_with fail;refine HG.a.M ?_;rintro e w1 ⟨vk,vv,vc,rfl,hr,hb⟩;obtain⟨kA,kc,rfl⟩:=hr.k.F8;obtain⟨vA,vC,rfl⟩:=hr.v.F8;obtain⟨cA,cc,rfl⟩:=hr.c.F8;unfold eC;obtain⟨z,hz⟩:=Ii (Bt.bn x).size;obtain⟨ke,ad⟩:=Ii (Bn.es x).length;obtain⟨m,hm⟩:=Ii (Bn.ks x).length;have lk:(Bt.bn x).i_.length=ke:=by rw[<-ad];exact ak _
  have lv:(Bt.bn x).F4.length=ke:=by rw[<-ad];exact ak _
  have lc:(Bt.bn x).C_.length=m:=by rw[<-hm];exact ak _
  rw[hz,lk,lv,lc];rw[ad] at hk bu;have au:m=if d=0 then 0 else ke+1:=by rw[<-hm,<-ad];exact HG.h
  have A1:=c_ w1 (.cells #[.slice kA ke kc,.slice vA ke vC,.slice cA m cc,Xu z] 215);have q1:=heap_alloc_new w1 (.cells #[.slice kA ke kc,.slice vA ke vC,.slice cA m cc,Xu z] 215);obtain⟨W2,bk⟩:=Ii (w1.alloc (.cells #[.slice kA ke kc,.slice vA ke vC,.slice cA m cc,Xu z] 215));rw[bk] at A1 q1;have t2:=(A1.block _ (aH (gl HG.c) hb.size)).T ((hb.block _ (gl HG.c)).T HG.c);have b2:=HG.b.T ((hb.M HG.b.size).T (A1.M (aI HG.b.size hb.size)));have bf:=hr.c.at (w':=W2) fun g e=>A1.block g (hr.c.ge g e).2;obtain⟨y0,y1,y2,y3⟩:=Fy q1;obtain⟨a0,a1⟩:=Fp t2;have H2:=kq8 b2 bf q1 t2 ad hm lc hz;have bt:IntKind.i64.wrap ((t:Int)-1)=(t:Int)-1:=aq _ o_;have b1:m<=40:=by rw[au];split<;>omega
  obtain⟨b,f1,f2,f3,f4⟩:∃b:Bool,((m:Int)==0)=b/\((d:Int)==0)=b/\(m==0)=b/\(d==0)=b:=by
   refine⟨decide (d=0),?_,?_,?_,?_⟩<;>by_cases q:d=0<;>simp[au,q]<;>omega
  have bv:IntKind.i64.wrap ((d:Int)-1)=(d:Int)-1:=aq _ o_;clear A1 q1 t2 b2 bf hr hb ad hm lk lv lc hz au;cases top
  case' false=>
   have ba:¬((ke:Int)<(t:Int)-1):=by simp at hk;omega
   go_wp2_with fail
  case' true=>
   have ba:¬((ke:Int)<1):=by simp at hk;omega
   go_wp2_with fail
  all_goals
   clear y0 y1 y2 y3 a0 a1 c0 c1 ba f1 f2 f3 f4 bt;go_loopw [8,12,14,49] (fun _ s12 _ s49 wr=>∃j:Nat,s49=Xi j/\j<=m/\s12=Xi (Bt.partS x j)/\Hid (D_ W2 wr)) (fun _ _ _ s49 _=>m-(intOf s49).toNat)
   case atStart=>exact⟨0,rfl,o_,by unfold Bt.partS;rw[H2.e];simp,aa _ _⟩
   case round=>
    obtain⟨j,rfl,hj,rfl,J0⟩:=hrel;have ai:=b_ H2.a J0.O;by_cases hjl:j<m
    ·have ar:j<(Bn.ks x).length:=by rw[H2.f];exact hjl
     have a7:=H2.b.at (w':=wr) fun g e=>J0.O.block g (H2.b.ge g e).2;obtain⟨bc,c3,e3,_,bj⟩:=a7.cell_at (j:=j) (by rw[H2.g];exact hjl);obtain⟨rfl,rfl⟩:cA=some (y_ bc)/\cc=c3:=by cases e3;exact⟨rfl,rfl⟩
     obtain⟨kid,ap⟩:=Ii ((Bn.ks x)[j]'ar);have rc:wr.cell? (x_ bc j)=some (Xu (Bt.hd kid)):=by rw[bj,<-ap];simp[Bt.bn]
     have a2:kid∈Bn.ks x:=ap▸aw ar;have bd:Bt.partS x (j+1)=Bt.partS x j+(Bt.its kid).length:=by rw[Bt.partS_kid x ar,ap]
     have an:(Bn.ks x).length=0\/(Bn.ks x).length=(Bn.es x).length+1:=by have:=HG.h;split at this<;>omega
     have bq:=Bt.partS_le x an (j+1);have h1:=HG.g;have a5:=HG.e.kid a2;have hi:=HG.d kid a5 (top:=false) (HG.f.a_ ai) (by have:=(HG.i kid a2).2;simp;omega) o_ o_;have hs:=fun W (hW:D_ w W)=>Mm (HG.f.a_ hW) kid a5;unfold FH at hi hs;have tq:=(J0.O.block _ (gl H2.d)).T H2.d;obtain⟨a0,a1⟩:=Fp tq;have bo:(j:Int)<m:=o_
     have bs:IntKind.i64.wrap ((Bt.partS x j:Int)+((Bt.its kid).length:Nat))=((Bt.partS x (j+1):Nat):Int):=by rw[bd,aq _ o_];omega
     obtain⟨b0,a8⟩:=Ii (Bt.hd kid);rw[a8] at hi rc hs;have HE:=kq4 hi hs ai tq;clear hi hs ai tq bd bq h1 a5 a2 ap bj a7 e3 a8 an;generalize (Bt.its kid).length=kl at*;generalize Bt.partS x j=pj at*;obtain⟨pk,a4⟩:=Ii (Bt.partS x (j+1));rw[a4] at bs;have HQ:=If a4;clear a4 ar;go_wp2_with fail;refine e9 HE.a fun w3 hb3=>?_;have B3:=b_ HE.c hb3;have t3:=(hb3.block _ (gl HE.d)).T HE.d;clear a0 a1 rc;obtain⟨a0,a1⟩:=Fp t3;have H3:=kq2 B3 (b_ J0.O hb3);clear B3 t3 hb3;go_wp2_with fail;refine e9 (HE.b w3 H3.a) fun w4 hb4=>?_;have H4:=If (b_ H3.b hb4);clear hb4 a0 a1;go_wp2_with fail;go_roundw
     case rel=>exact⟨j+1,s_,o_,by rw[HQ.O],H4.O⟩
     case measure=>simp[intOf];omega
    ·obtain rfl:j=m:=o_
     have bo:¬(j:Int)<j:=o_
     have an:(Bn.ks x).length=0\/(Bn.ks x).length=(Bn.es x).length+1:=by have:=HG.h;split at this<;>omega
     have a3:=Bt.partS_all x an (j:=j) (by rw[H2.f];omega);have a6:Bt.partS x j=z:=by rw[a3,<-H2.h];rfl
     have b9:z<=5000:=by rw[<-a6,a3];exact HG.g
     rw[a6];have q3:=(J0.O.block _ (gl H2.c)).T H2.c;obtain⟨y0,y1,y2,y3⟩:=Fy q3;have HB:=If ai;clear a3 a6 an q3 ai;go_wp2_with fail;go_ret;exact⟨rfl,HB.O⟩
namespace Bt
variable{d:Nat}{j:Nat}
def partL {d:Nat}(x:Bt (d+1))(j:Nat):List It:=if(Bn.ks x).length=0 then(Bn.es x).take j else lo ((Bn.es x).take j) (((Bn.ks x).map its).take j)
theorem partL_zero(x:Bt (d+1)):partL x 0=[]:=by unfold partL;split<;>simp[lo]
theorem partL_leaf(x:Bt (d+1))(h:(Bn.ks x).length=0)(hj:j<(Bn.es x).length):partL x (j+1)=partL x j++[(Bn.es x)[j]]:=by
 unfold partL;simp_all
theorem partL_kid(x:Bt (d+1))(h:(Bn.ks x).length=(Bn.es x).length+1)(hj:j<(Bn.es x).length):partL x (j+1)=partL x j++its ((Bn.ks x)[j]' o_)++[(Bn.es x)[j]]:=by
 unfold partL;rw[if_neg o_,if_neg o_,aA hj,aA (by grind),Mt _ _ _ _ (by grind),bP,bp]
theorem partL_all(x:Bt (d+1))(h:(Bn.ks x).length=0):partL x (Bn.es x).length=its x:=by
 unfold partL;rw[if_pos h,cY,dQ,bG.1 h];exact(jY _).S
theorem partL_end(x:Bt (d+1))(h:(Bn.ks x).length=(Bn.es x).length+1):partL x (Bn.es x).length++its ((Bn.ks x)[(Bn.es x).length]' o_)=its x:=by
 rw[dQ,xU (Bn.es x) ((Bn.ks x).map its) (Bn.es x).length Ih (by grind)];unfold partL;rw[if_neg o_,List.drop_length,aZ (by grind),bP];rfl
theorem partL_le(x:Bt (d+1))(h:(Bn.ks x).length=0\/(Bn.ks x).length=(Bn.es x).length+1)(j:Nat)(hj:j<=(Bn.es x).length):(partL x j).length<=(its x).length:=by
 rcases h with h | h
 ·rw[<-partL_all x h];unfold partL
  grind
 ·rw[dQ,xU (Bn.es x) ((Bn.ks x).map its) j hj (by rw[ak,h])];unfold partL
  grind
def partN {d:Nat}(x:Bt (d+1))(j:Nat):Nat:=1+(((Bn.ks x).take j).map fun k=>j_ k).flatten.length
theorem partN_kid(x:Bt (d+1))(hj:j<(Bn.ks x).length):partN x (j+1)=partN x j+(j_ (Bn.ks x)[j]).length:=by
 grind [partN,List.take_succ_eq_append_getElem,List.flatten_append,List.length_append]
theorem partN_le(x:Bt (d+1))(j:Nat):partN x j<=(j_ x).length:=by
 have h:(j_ x).length=1+((Bn.ks x).map fun k=>j_ k).flatten.length:=by
  show (Bn.h x::((Bn.ks x).map fun k=>j_ k).flatten).length=_
  grind
 rw[h];unfold partN
 conv=>rhs;rw[<-aV j (Bn.ks x),aQ,bY,ag]
 omega
theorem partN_all(x:Bt (d+1))(hj:(Bn.ks x).length<=j):partN x j=(j_ x).length:=by
 have h:(j_ x).length=1+((Bn.ks x).map fun k=>j_ k).flatten.length:=by
  show (Bn.h x::((Bn.ks x).map fun k=>j_ k).flatten).length=_
  grind
 rw[h];unfold partN;rw[aJ hj]
end Bt
structure ta (w0:World) (bl:Nat) (w:World) (v:Value) (L:List It) (n:Nat):Prop where
 bel:D_ w0 w
 own:qj w w0.1.size v L
 box:w.1[bl]?=some (Xj n)
 lo:w0.1.size<=bl
def LK(bl:Nat)(w:World)(v:Value)(w':World)(v':Value):Prop:=w.1.size<=w'.1.size/\(∀k,k<w.1.size->v.ownBlock≠some k->k≠bl->w'.1[k]?=w.1[k]?)/\(v'.ownBlock=v.ownBlock\/∃g,v'.ownBlock=some g/\w.1.size<=g)
section
variable {w0 w w' w'':World}{bl n:Nat}{v v' v'':Value}{L:List It}
theorem LK.refl(bl:Nat)(w:World)(v:Value):LK bl w v w v:=⟨Nat.le_refl _,fun _ _ _ _=>rfl,.inl rfl⟩
theorem LK.T(h:LK bl w v w' v')(k:LK bl w' v' w'' v''):LK bl w v w'' v'':=by
 refine⟨aI h.1 k.1,fun i hi h1 h2=>(k.2.1 i (aH hi h.1) (fun e=>?_) h2).T (h.2.1 i hi h1 h2),?_⟩
 ·rcases h.2.2 with q | ⟨g,q,hg⟩
  ·exact h1 (q▸e)
  ·rw[q] at e
   cases e
   omega
 ·rcases k.2.2 with q | ⟨g,q,hg⟩
  ·rw[q];exact h.2.2
  ·exact .inr ⟨g,q,aI h.1 hg⟩
theorem LK.at(h:LK bl w v w' v'){k:Nat}{o:Obj}(e:w.1[k]?=some o)(h1:v.ownBlock≠some k)(h2:k≠bl):w'.1[k]?=some o:=(h.2.1 k (gl e) h1 h2).T e
theorem ta.ge(h:ta w0 bl w v L n):∀g,v.ownBlock=some g->w0.1.size<=g/\g<w.1.size/\∃cs fr,w.1[g]?=some (.cells cs 104 fr):=fun g e=>by
 rcases h.own.2 with⟨rfl,_⟩ | ⟨b,c,ad,rfl,hb,hg,_⟩
 ·cases e
 ·cases e
  exact⟨hb,(gl hg),_,_,hg⟩
theorem ta.a_(h:ta w0 bl w v L n)(hb:D_ w w'):ta w0 bl w' v L n/\LK bl w v w' v:=
 ⟨⟨b_ h.bel hb,h.own.kept (lf hb) (Classical.em _),(hb.block _ (gl h.box)).T h.box,h.lo⟩,hb.size,fun k hk _ _=>hb.block k hk,.inl rfl⟩
theorem ta.ne(h:ta w0 bl w v L n):v.ownBlock≠some bl:=fun e=>by
 obtain⟨_,_,cs,fr,e2⟩:=h.ge bl e;rw[h.box] at e2;cases e2
theorem ta.dec(h:ta w0 bl w v L (n+1)):ta w0 bl (w.setCell (y_ bl) (Xi n)) v L n/\LK bl w v (w.setCell (y_ bl) (Xi n)) v:=by
 have hg:=grownBy_setCell' w bl (Xi n);refine⟨⟨h.bel.T ⟨hg.os,hg.tape,hg.output,hg.size,fun k hk=>hg.block k (aH hk h.bel.size) fun e=>by have:=Option.some.inj e;have:=h.lo;omega⟩,h.own.kept hg (.inr h.ne),heap_setCell (i:=0) (v:=Xi n) h.box,h.lo⟩,hg.size,fun k hk _ h2=>hg.block k hk fun e=>h2 (Option.some.inj e),.inl rfl⟩
theorem ta.item(h:ta w0 bl w v L n)(hl:L.length<=10000)(d:It)(ty:TypeId):
 ∃v' w',(Builtin.append_ #[135,135] ty #[v,.slice (some (y_ w.1.size)) 1 1]).run prog (w.alloc (Xe d.kh d.vh))=.ok v' w'/\ta w0 bl w' v' (L++[d]) n/\LK bl w v w' v':=by
 obtain⟨v',w',h1,h2,hg,h3⟩:=Mk h.own hl d h.bel.size ty;refine⟨v',w',h1,⟨h.bel.T ⟨hg.os,hg.tape,hg.output,hg.size,fun k hk=>hg.block k (aH hk h.bel.size) fun e=>?_⟩,h2,(hg.block _ (gl h.box) fun e=>h.ne e.S).T h.box,h.lo⟩,hg.size,fun k hk q _=>hg.block k hk fun e=>q e.S,h3⟩;have:=(h.ge k e.S).1;omega
end
theorem MA {ps t:Nat}{S:St}{o:Nat->Nat}:∀(d:Nat) (x:Bt d),Bt.Walk S o t x->∀{w0 w:World} {Y:Nat->Prop} {bl n dp:Nat} {v:Value} {L:List It},Ig w0 ps S Y->ta w0 bl w v L n->dp+d<=40->(Bt.j_ x).length<=n->n<=100000->L.length+(Bt.its x).length<=5000->
 Ct 120 #[FH ps t,v,Xu (Bt.hd x:Nat),PV bl,Xi dp] w fun e w'=>∃v',e=.returned v'/\ta w0 bl w' v' (L++Bt.its x) (n-(Bt.j_ x).length)/\LK bl w v w' v':=by
 intro d;induction d with
 | zero=>exact fun x=>nomatch x
 | succ d ih=>
  intro x hx w0 w Y bl n dp v L h0 h hd hn hn2 hl;obtain⟨n,rfl⟩:∃n',n=n'+1:=⟨n-1,by have:=Bt.partN_le x 0;unfold Bt.partN at this;omega⟩;have B0:=c_ w (Xc ps t);have q0:=heap_alloc_new w (Xc ps t);obtain⟨Wa,ds⟩:=Ii (w.alloc (Xc ps t));rw[ds] at B0 q0;obtain⟨ha,ka⟩:=h.a_ B0;have hg:=kI (h0.a_ ha.bel) hx.fit.inv hx.read;obtain⟨A,c,rfl⟩:=h.own.slice;have d6:((dp:Int)==40)=false:=m_
  have c':=hx.es.2.2;have cx:=hx.ok.2.1;obtain⟨c0,c1⟩:=Fp q0;have HG:=kq11 hg h ha ka q0 ih hx h0 hl hn cx;unfold FH;clear hg h ha ka q0 ih hx h0 B0 hl hn cx;go_enter func120,ntmps120;go_wp2_with fail;refine HG.a.M ?_;rintro e w1 ⟨vk,vv,vc,rfl,hr,hb⟩;obtain⟨kA,kc,rfl⟩:=hr.k.F8;obtain⟨vA,vC,rfl⟩:=hr.v.F8;obtain⟨cA,cc,rfl⟩:=hr.c.F8;unfold eC;obtain⟨z,hz⟩:=Ii (Bt.bn x).size;obtain⟨ke,a7⟩:=Ii (Bn.es x).length;obtain⟨m,hm⟩:=Ii (Bn.ks x).length;have lk:(Bt.bn x).i_.length=ke:=by rw[<-a7];exact ak _
  have lv:(Bt.bn x).F4.length=ke:=by rw[<-a7];exact ak _
  have lc:(Bt.bn x).C_.length=m:=by rw[<-hm];exact ak _
  rw[hz,lk,lv,lc];have d7:ke<=31:=by rw[<-a7];exact c'
  have c4:m=0\/m=ke+1:=by
   have:=HG.k;rw[hm,a7] at this;split at this<;>omega
  obtain⟨h1,k1⟩:=HG.c.a_ hb;have A1:=c_ w1 (.cells #[.slice kA ke kc,.slice vA ke vC,.slice cA m cc,Xu z] 215);have q1:=heap_alloc_new w1 (.cells #[.slice kA ke kc,.slice vA ke vC,.slice cA m cc,Xu z] 215);obtain⟨W2,cv⟩:=Ii (w1.alloc (.cells #[.slice kA ke kc,.slice vA ke vC,.slice cA m cc,Xu z] 215));rw[cv] at A1 q1;obtain⟨h2,k2⟩:=h1.a_ A1;have b2:=h2.box;have b0:(W2).cell? (y_ bl)=some (Xi ((n:Int)+1)):=e_ b2
  have f0:(W2).frozen? (y_ bl)=false:=AT b2;obtain⟨y0,y1,y2,y3⟩:=Fy q1;obtain⟨h3,k3⟩:=h2.dec;obtain⟨W3,dn⟩:=Ii (W2.setCell (y_ bl) (Xi n));rw[dn] at h3 k3;have d9:((n:Int)+1==0)=false:=m_
  have d':IntKind.i64.wrap ((n:Int)+1-1)=n:=by rw[Int.add_sub_cancel];exact aq _ o_
  have cw:bl<w.1.size:=(gl HG.b.box);have b9:w.1.size<Wa.1.size:=(gl HG.e);have c7:=hb.size;have c6:W2.1.size=w1.1.size+1:=by rw[<-cv];simp
  have bt:∀k,w.1.size<=k->(Value.slice A L.length c).ownBlock≠some k:=fun k hk e=>by have:=(HG.b.ge k e).2.1;omega
  have q3:=k3.at q1 (bt _ o_) o_;have t3:=k3.at ((A1.block _ o_).T ((hb.block _ b9).T HG.e)) (bt _ Ih) o_;have rows:∀k,Wa.1.size<=k->k<w1.1.size->W3.1[k]?=w1.1[k]?:=fun k hk hk2=>(k3.2.1 k o_ (bt k o_) o_).T (A1.block k hk2);obtain⟨g0,g1,g2,g3⟩:=Fy q3;have c5:n+1-Bt.partN x 0=n:=by unfold Bt.partN;simp
  have H3:=kq14 h3 (HG.d.T (k1.T (k2.T k3))) hr rows q3 t3 bt c5 a7 hm lk lv lc hz;have HS:=kq5 cw b9 c7 c6 k3.1;clear h1 k1 h2 k2 h3 k3 hr rows q3 t3 bt c5 a7 hm lk lv lc hz cw b9 c7 c6 A1 q1 hb b2 c';go_wp2_with fail;clear c0 c1 b0 f0 y0 y1 y2 y3 g0 g1 g2 g3;go_loopw [1,13,41] (fun s1 _ s41 wr=>∃j:Nat,s41=Xi j/\j<=ke/\Hid (ta w0 bl wr s1 (L++Bt.partL x j) (n+1-Bt.partN x j)/\LK bl W3 (.slice A L.length c) wr s1)) (fun _ _ s41 _=>ke-(intOf s41).toNat)
  case atStart=>exact⟨0,rfl,o_,by rw[Bt.partL_zero,bI,H3.h];exact H3.a,LK.refl _ _ _⟩
  case round=>
   obtain⟨j,rfl,hj,J0⟩:=hrel;have E_:∀k,Wa.1.size<=k->k<w1.1.size->wr.1[k]?=w1.1[k]?:=fun k hk hk2=>by
    have d5:=HS.O;exact(J0.O.2.2.1 k o_ (H3.g k o_) o_).T (H3.d k hk hk2)
   have hq:=J0.O.2.at H3.e (H3.g _ (by have:=HS.O;omega)) (by have:=HS.O;omega);have ht:=J0.O.2.at H3.f (H3.g _ Ih) (by have:=HS.O;omega);by_cases hjl:j<ke
   ·have d0:(j:Int)<ke:=o_
    have b1:j<(Bn.es x).length:=by rw[H3.i];exact hjl
    have b4:=H3.c.k.at (w':=wr) fun g e=>E_ g (H3.c.k.ge g e).1 (H3.c.k.ge g e).2;have b':=H3.c.v.at (w':=wr) fun g e=>E_ g (H3.c.v.ge g e).1 (H3.c.v.ge g e).2;obtain⟨bk,c1,e1,dc,rk⟩:=b4.cell_at (j:=j) (by rw[H3.k];exact hjl);obtain⟨bv,c2,e2,dk,rv⟩:=b'.cell_at (j:=j) (by rw[H3.l];exact hjl);have cp:=e1;have cq:=e2;obtain⟨rfl,rfl⟩:kA=some (y_ bk)/\kc=c1:=by cases e1;exact⟨rfl,rfl⟩
    obtain⟨rfl,rfl⟩:vA=some (y_ bv)/\vC=c2:=by cases e2;exact⟨rfl,rfl⟩
    have bu:=kq3 (kq2 dc (H3.c.k.ge bk (by rw[cp];rfl)).2) dk (H3.c.v.ge bv (by rw[cq];rfl)).2;clear dc dk cp cq;have rk:wr.cell? (x_ bk j)=some (Xu (Bn.es x)[j].kh):=by rw[rk];simp[Bt.bn]
    have rv:wr.cell? (x_ bv j)=some (Xu (Bn.es x)[j].vh):=by rw[rv];simp[Bt.bn]
    obtain⟨e,he⟩:=Ii ((Bn.es x)[j]);rw[he] at rk rv;have a4:=kq4 hq rk rv ht;obtain⟨y0,y1,y2,y3⟩:=Fy hq;rcases c4 with ap | ap
    ·have d2:(0<(m:Int))=False:=eq_false o_;have b8:¬0<m:=o_
     have a2:=Bt.partL_leaf x (by rw[H3.j];exact ap) b1;rw[he] at a2;have a9:n+1-Bt.partN x (j+1)=n+1-Bt.partN x j:=by rw[Bt.partN_all x (j:=j) (by rw[H3.j];omega),Bt.partN_all x (j:=j+1) (by rw[H3.j];omega)]
     have bf:(L++Bt.partL x j).length<=10000:=by
      have h1:=Bt.partL_le x (.inl (by rw[H3.j];exact ap)) j o_;have h2:=HG.i;rw[ag];omega
     have HP:=kq3 a2 a9 bf;clear a2 a9 bf b4 b' E_ hq ht he e1 e2 ap b1 rk rv;go_upto_region 10 with fail
     have J1:=(J0.O.1).a_ (aa wr.1.size wr).drew;obtain⟨v2,w6,bo,h6,k6⟩:=J1.1.item HP.c e 135;have H6:=kq2 h6 ((J0.O.2).T (J1.2.T k6));obtain⟨I,ad,an⟩:=ic fun w'=>w'.1[w1.1.size]?=some (.cells #[.slice (some (y_ bk)) ke kc,.slice (some (y_ bv)) ke vC,.slice cA m cc,Xu z] 215)/\w'.cell? (x_ bk j)=some (Xu e.kh)/\w'.cell? (x_ bv j)=some (Xu e.vh);have a3:=fun x:Fq I=>(ad _ x.ok).1;have cb:=fun x:Fq I=>(ad _ x.ok).2.1;have ck:=fun x:Fq I=>(ad _ x.ok).2.2;clear y0 y1 y2 y3;obtain⟨y0,y1,y2,y3⟩:=iB a3;have ar:I wr.drew:=an _ ⟨a4.a,a4.b,a4.c⟩;refine nG I (fun i=>[13,14].contains i) (.take 0 (.take 1 (.take 2 (.take 3 (.take 4 (.take 5 (.take 6 (.take 7 (.take 8 (.take 9 (.take 10 (.take 11 (.go 12 (.go 13 (.go 14 .nil))))))))))))))) k_ k_ ar ?_;have a':=If an;have HW:=If (show wr.drew.1[w1.1.size]?=some (.cells #[.slice (some (y_ bk)) ke kc,.slice (some (y_ bv)) ke vC,.slice cA m cc,Xu z] 215)/\wr.drew.cell? (x_ bk j)=some (Xu e.kh)/\wr.drew.cell? (x_ bv j)=some (Xu e.vh) from⟨a4.a,a4.b,a4.c⟩);clear ar an ad a3 J1 h6 k6;generalize wr.drew=Wd at*;iterate 12
      refine' qT ?_ ?_;rotate_left
      ·intro x;go_simp;try rfl
      try simp only[pu]
     refine qD fun K hK=>?_;go_simp;have a5:D_ Wd (Wd.alloc (Xe e.kh e.vh)):=(aa _ _).alloc Ih _;try go_simp
     refine hK.O _ _ (a'.O _ ⟨(a5.block _ (gl HW.O.1)).T HW.O.1,(a5.cell (fK HW.O.2.1)).T HW.O.2.1,(a5.cell (fK HW.O.2.2)).T HW.O.2.2⟩) ?_;clear hK K;try simp only[pu]
     clear a5 a' HW;refine qL (fun K hK=>kE _ _ _ rfl rfl rfl bo ?_);try go_simp
     refine hK.O _ _ trivial ?_;clear hK K;try simp only[pu]
     refine qL fun K hK=>?_;go_simp;try go_simp
     refine hK.O _ _ trivial ?_;clear hK K;try simp only[pu]
     refine jd ?_;clear bo y0 y1 y2 y3 cb ck;go_wp2_with fail;go_roundw
     case rel=>
      refine⟨j+1,s_,o_,?_⟩;rw[HP.b,HP.a,<-bp];exact H6.O
     case measure=>simp[intOf];omega
    ·have ai:=If ap;clear ap;have a6:j<(Bn.ks x).length:=by rw[H3.j,ai.O];omega
     have a8:(Bn.ks x).length=(Bn.es x).length+1:=by rw[H3.j,H3.i];exact ai.O
     have ba:=H3.c.c.at (w':=wr) fun g e=>E_ g (H3.c.c.ge g e).1 (H3.c.c.ge g e).2;obtain⟨bc,c3,e3,_,bs⟩:=ba.cell_at (j:=j) (by rw[H3.m,ai.O];omega);obtain⟨rfl,rfl⟩:cA=some (y_ bc)/\cc=c3:=by cases e3;exact⟨rfl,rfl⟩
     obtain⟨kid,au⟩:=Ii ((Bn.ks x)[j]'a6);have rc:wr.cell? (x_ bc j)=some (Xu (Bt.hd kid)):=by rw[bs,<-au];simp[Bt.bn]
     have d2:(0<(m:Int))=True:=eq_true (by have:=ai.O;omega);have b8:0<m:=by have:=ai.O;omega
     have d1:(j:Int)<m:=by have:=ai.O;omega
     have a2:Bt.partL x (j+1)=Bt.partL x j++Bt.its kid++[e]:=by rw[Bt.partL_kid x a8 b1,he,<-au]
     have a9:Bt.partN x (j+1)=Bt.partN x j+(Bt.j_ kid).length:=by rw[Bt.partN_kid x a6,au]
     have bj:kid∈Bn.ks x:=au▸aw a6;have d3:=Bt.partN_le x (j+1);have h1:=Bt.partL_le x (.inr a8) (j+1) o_;rw[a2,ag,ag,bE] at h1;have h2:=HG.i;have h3:=HG.j;have J1:=J0.O.1.a_ (aa wr.1.size wr).drew;have hi:=HG.f kid (HG.g.kid bj) (dp:=dp+1) HG.h J1.1 o_ o_ o_ (by rw[ag];omega);have bf:(L++Bt.partL x j++Bt.its kid).length<=10000:=by rw[ag,ag];omega
     have bm:n+1-Bt.partN x j-(Bt.j_ kid).length=n+1-Bt.partN x (j+1):=o_
     rw[bm] at hi;have dv:IntKind.i64.wrap ((dp:Int)+1)=(dp:Int)+1:=aq _ o_;have bb:((dp+1:Nat):Int)=(dp:Int)+1:=o_
     rw[bb] at hi;obtain⟨hk,bd⟩:=Ii (Bt.hd kid);rw[bd] at hi rc;have HP:=kq4 a2 hi bf J1.2;clear a2 a9 d3 h1 h2 h3 hi bf bm bb J1 b4 b' ba e1 e2 e3 he bd bj au bs a8 a6 b1 E_ hq ht;go_upto_region 9 with fail
     obtain⟨I,ad,an⟩:=ic fun w'=>w'.1[w1.1.size]?=some (.cells #[.slice (some (y_ bk)) ke kc,.slice (some (y_ bv)) ke vC,.slice (some (y_ bc)) m cc,Xu z] 215)/\w'.1[w.1.size]?=some (Xc ps t)/\w'.cell? (x_ bc j)=some (Xu hk);have a3:=fun x:Fq I=>(ad _ x.ok).1;have bq:=fun x:Fq I=>(ad _ x.ok).2.1;have ca:=fun x:Fq I=>(ad _ x.ok).2.2;clear y0 y1 y2 y3;obtain⟨y0,y1,y2,y3⟩:=iB a3;obtain⟨a0,a1⟩:=ft bq;have ar:I wr.drew:=an _ ⟨a4.a,a4.d,rc⟩;refine nG I (fun i=>[10,11].contains i) (.take 0 (.take 1 (.take 2 (.take 3 (.take 4 (.take 5 (.take 6 (.take 7 (.take 8 (.take 9 (.go 10 (.go 11 .nil)))))))))))) k_ k_ ar ?_;clear ar an ad a3 bq rc;iterate 10
      refine' qT ?_ ?_;rotate_left
      ·intro x;go_simp;try rfl
      try simp only[pu]
     refine qL fun K hK=>?_;go_simp;refine HP.b.M ?_;rintro e' w5 ⟨v5,rfl,h5,k5⟩;try go_simp
     refine hK.O _ _ trivial ?_;clear hK K;try simp only[pu]
     refine qL fun K hK=>?_;go_simp;try go_simp
     refine hK.O _ _ trivial ?_;clear hK K;try simp only[pu]
     refine jd ?_;clear y0 y1 y2 y3 a0 a1 ca;have K5:=J0.O.2.T (HP.d.T k5);have q5:=K5.at H3.e (H3.g _ (by have:=HS.O;omega)) (by have:=HS.O;omega);have cj:∀k,Wa.1.size<=k->k<w1.1.size->w5.1[k]?=wr.1[k]?:=fun k hk hk2=>by
      have d5:=HS.O;exact(K5.2.1 k o_ (H3.g k o_) o_).T (J0.O.2.2.1 k o_ (H3.g k o_) o_).S
     have ch:=(Ha (o:=j) (cj bk bu.a.a bu.a.b)).T a4.b;have cn:=(Ha (o:=j) (cj bv bu.b bu.c)).T a4.c;have J1:=h5.a_ (aa w5.1.size w5).drew;obtain⟨v2,w6,bo,h6,k6⟩:=J1.1.item HP.c e 135;have H6:=kq2 h6 (K5.T (J1.2.T k6));obtain⟨I,ad,an⟩:=ic fun w'=>w'.1[w1.1.size]?=some (.cells #[.slice (some (y_ bk)) ke kc,.slice (some (y_ bv)) ke vC,.slice (some (y_ bc)) m cc,Xu z] 215)/\w'.cell? (x_ bk j)=some (Xu e.kh)/\w'.cell? (x_ bv j)=some (Xu e.vh);have a3:=fun x:Fq I=>(ad _ x.ok).1;have cb:=fun x:Fq I=>(ad _ x.ok).2.1;have ck:=fun x:Fq I=>(ad _ x.ok).2.2;obtain⟨y0,y1,y2,y3⟩:=iB a3;have ar:I w5.drew:=an _ ⟨q5,ch,cn⟩;have a':=If an;have HW:=If (show w5.drew.1[w1.1.size]?=some (.cells #[.slice (some (y_ bk)) ke kc,.slice (some (y_ bv)) ke vC,.slice (some (y_ bc)) m cc,Xu z] 215)/\w5.drew.cell? (x_ bk j)=some (Xu e.kh)/\w5.drew.cell? (x_ bv j)=some (Xu e.vh) from⟨q5,ch,cn⟩);clear an ad a3 J1 h6 k6 h5 k5 K5 q5 cj ch cn;go_upto_region 10 with fail
     refine nG I (fun i=>[13,14].contains i) (.take 0 (.take 1 (.take 2 (.take 3 (.take 4 (.take 5 (.take 6 (.take 7 (.take 8 (.take 9 (.take 10 (.take 11 (.go 12 (.go 13 (.go 14 .nil))))))))))))))) k_ k_ ar ?_;clear ar;generalize w5.drew=Wd at*;iterate 12
      refine' qT ?_ ?_;rotate_left
      ·intro x;go_simp;try rfl
      try simp only[pu]
     refine qD fun K hK=>?_;go_simp;have a5:D_ Wd (Wd.alloc (Xe e.kh e.vh)):=(aa _ _).alloc Ih _;try go_simp
     refine hK.O _ _ (a'.O _ ⟨(a5.block _ (gl HW.O.1)).T HW.O.1,(a5.cell (fK HW.O.2.1)).T HW.O.2.1,(a5.cell (fK HW.O.2.2)).T HW.O.2.2⟩) ?_;clear hK K;try simp only[pu]
     clear a5 a' HW;refine qL (fun K hK=>kE _ _ _ rfl rfl rfl bo ?_);try go_simp
     refine hK.O _ _ trivial ?_;clear hK K;try simp only[pu]
     refine qL fun K hK=>?_;go_simp;try go_simp
     refine hK.O _ _ trivial ?_;clear hK K;try simp only[pu]
     refine jd ?_;clear bo y0 y1 y2 y3 cb ck;go_wp2_with fail;go_roundw
     case rel=>
      refine⟨j+1,s_,o_,?_⟩;rw[HP.a,<-bp,<-bp];exact H6.O
     case measure=>simp[intOf];omega
   ·obtain rfl:j=ke:=o_
    have d0:¬(j:Int)<j:=o_
    rcases c4 with ap | ap
    ·have b8:¬0<m:=o_
     have e1:=Bt.partL_all x (by rw[H3.j];exact ap);rw[H3.i] at e1;have e2:=Bt.partN_all x (j:=j) (by rw[H3.j];omega);have HF:=kq3 e1 e2 (H3.b.T J0.O.2);obtain⟨y0,y1,y2,y3⟩:=Fy hq;clear e1 e2 hq ht E_ ap;go_wp2_with fail;go_ret;refine⟨_,rfl,?_,HF.c⟩;rw[<-HF.a,<-HF.b];exact J0.O.1
    ·have ai:=If ap;clear ap;have a6:j<(Bn.ks x).length:=by rw[H3.j,ai.O];omega
     have a8:(Bn.ks x).length=(Bn.es x).length+1:=by rw[H3.j,H3.i];exact ai.O
     have ba:=H3.c.c.at (w':=wr) fun g e=>E_ g (H3.c.c.ge g e).1 (H3.c.c.ge g e).2;obtain⟨bc,c3,e3,_,bs⟩:=ba.cell_at (j:=j) (by rw[H3.m,ai.O];omega);obtain⟨rfl,rfl⟩:cA=some (y_ bc)/\cc=c3:=by cases e3;exact⟨rfl,rfl⟩
     obtain⟨kid,au⟩:=Ii ((Bn.ks x)[j]'a6);have rc:wr.cell? (x_ bc j)=some (Xu (Bt.hd kid)):=by rw[bs,<-au];simp[Bt.bn]
     have b8:0<m:=by have:=ai.O;omega
     have d1:(j:Int)<m:=by have:=ai.O;omega
     have a2:Bt.partL x j++Bt.its kid=Bt.its x:=by
      have:=Bt.partL_end x a8;simp only[H3.i,au] at this;exact this
     have a9:Bt.partN x (j+1)=Bt.partN x j+(Bt.j_ kid).length:=by rw[Bt.partN_kid x a6,au]
     have d4:=Bt.partN_all x (j:=j+1) (by rw[H3.j,ai.O];omega);have bj:kid∈Bn.ks x:=au▸aw a6;have h2:=HG.i;have h1:=congrArg List.length a2;rw[ag] at h1;have h3:=HG.j;have J1:=J0.O.1.a_ (aa wr.1.size wr).drew;have hi:=HG.f kid (HG.g.kid bj) (dp:=dp+1) HG.h J1.1 o_ o_ o_ (by rw[ag];omega);have bm:n+1-Bt.partN x j-(Bt.j_ kid).length=n+1-(Bt.j_ x).length:=o_
     rw[bm,bp,a2] at hi;have dv:IntKind.i64.wrap ((dp:Int)+1)=(dp:Int)+1:=aq _ o_;have bb:((dp+1:Nat):Int)=(dp:Int)+1:=o_
     rw[bb] at hi;have d8:IntKind.i64.wrap ((m:Int)-1)=j:=by rw[aq _ (by have:=ai.O;omega)];have:=ai.O;omega
     obtain⟨hk,bd⟩:=Ii (Bt.hd kid);rw[bd] at hi rc;have HP:=kq2 hi (H3.b.T (J0.O.2.T J1.2));obtain⟨y0,y1,y2,y3⟩:=Fy hq;obtain⟨I,ad,an⟩:=ic fun w'=>w'.1[w1.1.size]?=some (.cells #[.slice kA j kc,.slice vA j vC,.slice (some (y_ bc)) m cc,Xu z] 215)/\w'.1[w.1.size]?=some (Xc ps t)/\w'.cell? (x_ bc j)=some (Xu hk);have ar:I wr.drew:=an _ ⟨hq,ht,rc⟩;have a3:=fun x:Fq I=>(ad _ x.ok).1;have bq:=fun x:Fq I=>(ad _ x.ok).2.1;have ca:=fun x:Fq I=>(ad _ x.ok).2.2;clear a2 a9 d4 h1 h2 h3 hi bm bb J1 ba e3 bd bj au bs a8 a6 E_ hq ht ad an rc;go_upto_region 13 with fail
     clear y0 y1 y2 y3;obtain⟨y0,y1,y2,y3⟩:=iB a3;obtain⟨a0,a1⟩:=ft bq;refine nG I (fun i=>[13,14].contains i) (.take 0 (.take 1 (.take 2 (.take 3 (.take 4 (.take 5 (.take 6 (.take 7 (.take 8 (.take 9 (.take 10 (.take 11 (.take 12 (.go 13 (.go 14 .nil))))))))))))))) k_ k_ ar ?_;clear ar a3 bq;iterate 13
      refine' qT ?_ ?_;rotate_left
      ·intro x;go_simp;try rfl
      try simp only[pu]
     refine qL fun K hK=>?_;go_simp;refine HP.a.M ?_;rintro e' w5 ⟨v5,rfl,h5,k5⟩;try go_simp
     refine hK.O _ _ trivial ?_;clear hK K;try simp only[pu]
     refine qL fun K hK=>?_;go_simp;try go_simp
     refine hK.O _ _ trivial ?_;clear hK K;try simp only[pu]
     refine jd ?_;clear y0 y1 y2 y3 a0 a1 ca;have HF:=kq2 h5 (HP.b.T k5);clear h5 k5;go_wp2_with fail;go_ret;exact⟨_,rfl,HF.O⟩
