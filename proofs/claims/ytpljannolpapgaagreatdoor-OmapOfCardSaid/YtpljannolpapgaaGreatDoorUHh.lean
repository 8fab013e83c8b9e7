/- The heap: a slot is left, a block is freed: the walks. -/
import Derived.Test.YtpljannolpapgaaGreatDoorUUx
import Derived.Test.YtpljannolpapgaaGreatDoorUKi
set_option maxRecDepth 100000
set_option maxHeartbeats 3200000
namespace Go.Proofs.YtpljannolpapgaaGreatDoor
open Go.RowKit Tryz Go.BigFrame Go.Maps Go.WideMaps Lf
variable{S:St}{Y:Nat->Prop}{ps:Nat}{s:q_}{w:World}{x:Nat}
theorem Eo{pa pm:Nat}{blk:Nat->Nat}(h:eh w pa pm s Y blk)(p n:Nat)(hg:4096<n):
 Ct 109 #[PV pa,Xi p,Xi n] w fun e w'=>e=.returned (Xi ((s.release p n).1:Nat))/\eh w' pa pm (s.release p n).2 Y blk/\Fo Y w w':=by
 have ad:=If (ly h);have he:s.release p n=(2,s):=by unfold q_.release;rw[if_pos o_]
 rw[he];have H:=If h;have ai:1<=n:=o_
 clear h he;go_enter func109,ntmps109;go_wp2_with fail;refine Jc ad.O ?_;go_wp2_with fail;go_ret;exact⟨rfl,H.O,Fo.refl _ _⟩
theorem Fz.release{ph pa pm:Nat}(h:Fz w ph pa pm s Y)(p n:Nat)(hp:p<=1048575):
 Ct 109 #[PV pa,Xi p,Xi n] w fun e w'=>e=.returned (Xi ((s.release p n).1:Nat))/\Fz w' ph pa pm (s.release p n).2 Y/\Fo Y w w':=by
 obtain⟨ad,hs⟩:=h.slab
 by_cases hn:n<=100000000
 ·refine(En hs p n hp hn).M ?_;rintro e w' ⟨he,h1,h2⟩;exact⟨he,h.step ⟨ad,h1⟩ h2,h2⟩
 ·refine(Eo hs p n o_).M ?_;rintro e w' ⟨he,h1,h2⟩;exact⟨he,h.step ⟨ad,h1⟩ h2,h2⟩
theorem G4(a b c d e f:Int)(W:World):(binOp .eql 188 (.agg #[Xi a,Xi b,Xu c]) (.agg #[Xi d,Xi e,Xu f])).run prog W=.ok (.bool (decide (a=d/\b=e/\c=f))) W:=by
 go_simp;by_cases h1:a=d<;>by_cases h2:b=e<;>by_cases h3:c=f<;>simp[h1,h2,h3]
theorem zm{w k:Nat}(hw:w<2^64):iy w k<2^64:=cL Nat.and_le_left hw
theorem Bv{ph pa pm:Nat}(h:Fz w ph pa pm s Y)(p k:Nat)(hp:p<=1048575)(hk:k<64):
 Ct 110 #[PV ph,Xi p,Xi k] w fun e w'=>e=.returned (.tuple #[])/\Fz w' ph pa pm (li s p k) Y/\Fo Y w w':=by
 have au:=getH_lt h p;have ad:=qU h p o_;have ht:li s p k=if(⟨(FA s p).h_,(FA s p).n,iy (FA s p).w k⟩:Hr)=⟨1,(FA s p).n,0⟩ then((Ie s p ⟨(FA s p).h_,(FA s p).n,iy (FA s p).w k⟩).release p 1).2 else Ie s p ⟨(FA s p).h_,(FA s p).n,iy (FA s p).w k⟩:=rfl
 rw[ht];clear ht;generalize FA s p=x at*;obtain⟨kd,xn,xw⟩:=x;simp only at au ad⊢;obtain⟨a6,a7,ar⟩:=au;have a4:=fun W=>zo xw k W ar hk;have a5:=zm (k:=k) ar;have an:∀W,Fz W ph pa pm s Y->_:=fun W hW=>oh (hW.own (Xm kd xn (iy xw k:Nat))) p ⟨kd,xn,iy xw k⟩ o_ a6 a7 a5;simp only[fT] at ad an;generalize iy xw k=bs at*;generalize Ie s p ⟨kd,xn,bs⟩=s1 at*;have a3:=fun W (hW:Fz W ph pa pm s1 Y)=>hW.release p 1 hp;obtain⟨B,hB⟩:=Ii (decide ((kd:Int)=1/\(xn:Int)=xn/\(bs:Int)=0));have a8:=fun W=>G4 kd xn bs 1 xn 0 W;rw[hB] at a8;have ap:((⟨kd,xn,bs⟩:Hr)=⟨1,xn,0⟩)=(B=true):=by
  rw[<-hB]
  simp
  omega
 simp only[ap];have hc:=h.cell;have HG:=kq5 ad a4 an a3 h;clear ad a4 an a3 h hB ap;go_enter func110,ntmps110;go_wp2_with fail;refine e9 HG.a fun w1 hb1=>?_;have H1:=kq2 (HG.e.a_ hb1) (HG.e.B_ hb1);clear hb1;go_wp2_with fail;refine Jc (HG.b _) ?_;go_wp2_with fail;refine(HG.c w1 H1.a).M ?_;rintro e w3 ⟨rfl,h3,k3⟩;have a2:(w1.alloc (Xm kd xn (bs:Nat))).1[w1.1.size]?=some (.cells #[Xi kd,Xi xn,Xu (bs:Nat)] 188 (0,0)):=by
  show (w1.1.push _)[w1.1.size]?=_;simp
 have a1:=(k3.block w1.1.size (ae rfl)).T a2;obtain⟨b0,b1,b2⟩:=fq a1;have a0:Fo Y w1 (w1.alloc (Xm kd xn (bs:Nat))):=H1.a.B_ ((aa _ w1).alloc Ih _);have ai:=h3.M (fun k hk=>ab hk) HG.e.yh HG.e.yt;have c3:=ai.cell;have H3:=kq2 ai (H1.b.T (a0.T (k3.M fun k hk=>ab hk)));clear h3 k3 a2 a0 a1 ai
 cases B with
 | true=>
  go_wp2_with fail;refine(HG.d _ H3.a).M ?_;rintro e w4 ⟨rfl,h4,k4⟩;have H4:=kq2 h4 (H3.b.T k4);clear h4 k4;go_wp2_with fail
  go_end0
  exact⟨rfl,H4.O⟩
 | false=>
  go_wp2_with fail
  go_end0
  exact⟨rfl,H3.O⟩
theorem mH(u_:Nat){p k:Nat}{x:Hr}:∀l:List (Nat×Hr),fS u_ l=some (p,k,x)->(p,x)∈l/\k<64
 | (q,y)::l,h=>by
  rw[L5] at h;split at h
  ·injection h with h
   injection h with h1 h2
   injection h2 with h2 h3
   subst h1 h2 h3;exact⟨s_,o_⟩
  ·split at h
   ·exact⟨am _ (mH u_ l h).1,(mH u_ l h).2⟩
   ·split at h
    ·rename_i j hj;injection h with h
     injection h with h1 h2
     injection h2 with h2 h3
     subst h1 h2 h3;refine⟨s_,?_⟩;unfold qp at hj;have h4:=bU hj;have h5:=nX y.n;have h6:=bz.1 h4;omega
    ·exact⟨am _ (mH u_ l h).1,(mH u_ l h).2⟩
theorem AS{ph pa pm:Nat}(h:Fz w ph pa pm s Y){u_ p k:Nat}{x:Hr}(hf:kb s u_=some (p,k,x)):p<=1048575/\k<64/\x.h_<256/\x.n<2^56/\x.w<2^64:=by
 obtain⟨h1,h2⟩:=mH u_ _ hf;obtain⟨h3,h4⟩:=oD _ _ h1;have h5:=getH_lt h p;simp only at h3 h4;rw[<-h4] at h5;exact⟨h.wf.top p h3,h2,h5⟩
theorem Bu{ph pa pm:Nat}(h:Fz w ph pa pm s Y)(u_:Nat)(ha:u_<=4611686018427387903):
 Ct 64 #[PV ph,Xi u_] w fun e w'=>e=.returned (Xi ((iM s u_).1:Nat))/\Fz w' ph pa pm (iM s u_).2 Y/\Fo Y w w':=by
 have a1:=qV h;have ap:=Bq h u_ ha;obtain⟨R,hR⟩:=Ii (iM s u_);rw[hR]
 cases hf:kb s u_ with
 | none=>
  rw[hf] at ap;have ai:R=(5,s):=by rw[<-hR];unfold iM;rw[hf]
  simp only[od,fT] at ap;have HG:=kq4 a1 ap ai h;clear a1 ap ai h hR hf;go_enter func64,ntmps64;go_wp2_with fail;refine Jc HG.a ?_;go_wp2_with fail;refine e9 HG.b fun w1 ad=>?_;have an:=ad.alloc ad.size (Xm (0:Nat) (0:Nat) (0:Nat));have H1:=kq2 (HG.d.a_ an) (HG.d.B_ an);clear ad an;go_wp2_with fail;go_ret;obtain rfl:=HG.c;exact⟨rfl,H1.O⟩
 | some r=>
  obtain⟨p,k,x⟩:=r;have a5:=AS h hf;rw[hf] at ap;have ai:R=if x.h_=2 then s.release p x.n else(0,li s p k):=by rw[<-hR];unfold iM;rw[hf]
  obtain⟨kd,xn,xw⟩:=x;simp only[od,fT] at ap a5 ai;obtain⟨h1,h2,h3,h4,h5⟩:=a5;have a8:=fun W Z (hW:Fz W ph pa pm s Z)=>hW.release p xn h1;have a6:=fun W (hW:Fz W ph pa pm s Y)=>Bv hW p k h1 h2;have HG:=kq6 a1 ap ai h a8 a6;clear a1 ap ai h a8 a6 hR hf
  by_cases ar:kd=2
  ·obtain rfl:=ar;go_enter func64,ntmps64;go_wp2_with fail;refine Jc HG.a ?_;go_wp2_with fail;refine e9 HG.b fun w1 ad=>?_;have ho:=(HG.d.a_ ad).own (Xm (2:Nat) xn (xw:Nat));have an:=ad.alloc ad.size (Xm (2:Nat) xn (xw:Nat));have a2:=heap_alloc_new w1 (Xm (2:Nat) xn (xw:Nat));have ba:=ad.size;have H1:=kq3 ho (HG.d.B_ an) a2;clear ad an ho;go_wp2_with fail;generalize w1.alloc (Xm (2:Nat) xn (xw:Nat))=W at*;obtain⟨I,a3,a4⟩:∃I:World->Prop,(∀W',Fz W' ph pa pm s (lE Y w1.1.size)\/Fz W' ph pa pm (s.release p xn).2 (lE Y w1.1.size)->W'.1[w1.1.size]?=some (.cells #[Xi (2:Nat),Xi xn,Xu (xw:Nat)] 188 (0,0))->I W')/\(∀W',I W'->W'.cell? (y_ ph)=some (PV pa)/\W'.1[w1.1.size]?=some (.cells #[Xi (2:Nat),Xi xn,Xu (xw:Nat)] 188 (0,0))):=
    ⟨fun W'=>W'.cell? (y_ ph)=some (PV pa)/\W'.1[w1.1.size]?=some (.cells #[Xi (2:Nat),Xi xn,Xu (xw:Nat)] 188 (0,0)),fun W' h1 h2=>⟨h1.elim (·.cell) (·.cell),h2⟩,fun W' h=>h⟩
   have bc:∀x:Fq I,x.to.cell? (y_ ph)=some (PV pa):=fun x=>(a4 _ x.ok).1;have hq:=fun x:Fq I=>(a4 _ x.ok).2;obtain⟨a',ad,an⟩:=qf hq;have a9:I W.drew:=a3 _ (ab (H1.a.drewN 1)) a2;clear a2;refine fh I (.take 0 (.take 1 (.take 2 (.take 3 (.take 4 (.take 5 (.take 6 (.go 7 (.take 8 .nil))))))))) k_ k_ a9 ?_
   iterate 7
    refine pT_ ?_
    try simp only[pu]
   refine pD fun K hK=>?_;go_simp;refine(HG.e _ _ (H1.a.drewN 1)).M ?_;rintro e w2 ⟨rfl,au,ar⟩;have a7:=(ar.block w1.1.size (ae rfl)).T H1.c;have a0:Fo Y w w2:=H1.b.T ((H1.a.B_ (aa _ _).drew).T ar |>.M fun k hk=>ab hk);have H2:=kq2 (au.M (fun k hk=>ab hk) HG.d.yh HG.d.yt) a0
   try go_simp
   refine hK.O _ _ (a3 _ (ae au) a7) ?_;clear hK K
   try simp only[pu]
   clear ar au a7 a0;refine pT_ ?_
   try simp only[pu]
   refine eP ?_;go_wp2_with fail;go_ret;have ai:=HG.c;rw[if_pos trivial] at ai;subst ai;exact⟨rfl,H2.O⟩
  ·have bb:((kd:Int)==2)=false:=m_
   go_enter func64,ntmps64;go_wp2_with fail;refine Jc HG.a ?_;go_wp2_with fail;refine e9 HG.b fun w1 ad=>?_;have an:=ad.alloc ad.size (Xm kd xn xw);have H1:=kq2 (HG.d.a_ an) (HG.d.B_ an);clear ad an;go_wp2_with fail;refine(HG.f _ H1.a).M ?_;rintro e w2 ⟨rfl,au,a0⟩;have H2:=kq2 au (H1.b.T a0);clear au a0;go_wp2_with fail;go_ret;have ai:=HG.c;rw[if_neg ar] at ai;subst ai;exact⟨rfl,H2.O⟩
theorem La(t:Hs)(hh:Nat):(t.close hh).2.most=t.most/\(t.close hh).2.last=t.last:=by
 unfold Hs.close;split<;>exact⟨rfl,rfl⟩
theorem sE(h:Ig w ps S Y)(hi:Fv S)(hh:Nat)(hl:hh<2^64):
 Ct 78 #[PV ps,Xu hh] w fun e w'=>e=.returned (Xi ((S.drop hh).1:Nat))/\Ig w' ps (S.drop hh).2 Y/\Fo Y w w':=by
 have ad:=sD h hi hh hl;have a1:=hi.addr_le hh
 rcases S.at_cases hh with⟨u_,n,h1,h2,_⟩ | ⟨h1,h2⟩
 ·have hR:S.drop hh=((S.t.close hh).1,⟨(iM S.a u_).2,(S.t.close hh).2⟩):=by unfold St.drop;rw[h1];rfl
  rw[hR];rw[h1] at ad a1;simp only at ad a1;have HG:=kq2 ad h;clear ad hR h1 h2 h;go_enter func78,ntmps78;go_wp2_with fail;refine Jc HG.a ?_;have hS:=HG.b;have a0:=Fo.refl Y w;obtain⟨pa,pm,ph,pt,v,hS⟩:=hS;obtain⟨_,_,_,c3,c4⟩:=hS.cells;have H1:=kq2 hS a0;clear hS a0;go_wp2_with fail;refine(Bu H1.a.heap u_ o_).M ?_;rintro e w2 ⟨rfl,ar,an⟩;have ai:=H1.a.arena ar an;obtain⟨_,_,_,_,a3⟩:=ai.cells;have H2:=kq2 ai (H1.b.T (an.M fun k hk=>ab hk));clear c3 c4 ar an ai;go_wp2_with fail;refine(EI H2.a.tab hh hl (fun k=>k<w2.1.size/\k≠pt/\v.ownBlock≠some k) (fun b hb e=>hb.2.2 e.S)).M ?_;rintro e w3 ⟨rfl,a2,ap⟩;have au:=H2.a.table a2 (La _ _) _ (fun k h1 h2 h3=>⟨h1,h2,h3⟩) ap (fun b hb=>hb.2.2);have H3:=kq2 au (H2.b.T (ap.M fun k hk=>⟨H2.a.yl k hk,(H2.a.off k (ab hk)).1,(H2.a.off k (ab hk)).2⟩));clear a2 ap au;go_wp2_with fail;go_ret;exact⟨rfl,⟨_,_,_,_,_,H3.a⟩,H3.b⟩
 ·have hR:S.drop hh=(7,S):=by unfold St.drop;rw[h1];rfl
  rw[hR];rw[h1] at ad;have HG:=kq2 ad h;clear ad hR h1 h2 h;go_enter func78,ntmps78;go_wp2_with fail;refine Jc HG.a ?_;have H1:=kq2 HG.b (Fo.refl Y w);go_wp2_with fail;go_ret;exact⟨rfl,H1.O⟩
theorem qHhad{P:Prop}(h:P:=by
 split at h
 ·cases h
 ·rename_i S1 h1;obtain⟨S2,h2,h3⟩:=aB.1 h
  injection h3 with e1 e2
  subst e1 e2;exact⟨S1,h1,h2,rfl⟩):P:=h
theorem rp{S S':St}{hh x:Nat}(h:leftM S hh=some (x,S')):∃S1,fu S (f_ S hh).1 hh (f_ S hh).1.left (f_ S (f_ S hh).1.right).1.left=some S1/\fu S1 (f_ S (f_ S hh).1.right).1 (f_ S hh).1.right hh (f_ S (f_ S hh).1.right).1.right=some S'/\x=(f_ S hh).1.right:=by
 unfold leftM at h;exact qHhad
theorem ow{S S':St}{hh x:Nat}(hi:Fv S)(h:leftM S hh=some (x,S')):Fv S':=by
 obtain⟨S1,h1,h2,_⟩:=rp h;exact gX (gX hi h1) h2
theorem qHhac{P:Prop}(h:P:=by
 iterate 13
  refine' hC ?_ ?_;rotate_left
  ·intro x;go_simp
   try rfl
  simp only[pu]
 refine mo ?_;clear y0 y1 y2 y3 y4 y5 y6 z0 z1 z2 z3 z4 z5 z6;refine gF _ (by rfl) (by rfl) (fun K hK=>?_);go_simp;refine(HG.c _ _ (HZ.a.a_ (aa _ _).drew)).M ?_;rintro e w5 ⟨rfl,h5,au⟩;have u5:=(au.block b1 (ae ⟨o_,a7⟩)).T HZ.b;have v5:=(au.block b2 (ae ⟨o_,a8⟩)).T HZ.c;have H5:=kq4 h5 au u5 v5;clear h5 au u5 v5
 try go_simp
 refine hK.O _ _ (HI.O _ H5.c H5.d) ?_;clear hK K
 try simp only[pu]
 refine gF _ (by rfl) (by rfl) (fun K hK=>?_);go_simp;refine(HG.d _ _ H5.a).M ?_;rintro e w6 ⟨rfl,h6,a0⟩;have u6:=(a0.block b1 (ae ⟨o_,a7⟩)).T H5.c;have v6:=(a0.block b2 (ae ⟨o_,a8⟩)).T H5.d;have H6:=kq4 h6 (H5.b.T a0) u6 v6;clear h6 a0 u6 v6
 try go_simp
 refine hK.O _ _ (HI.O _ H6.c H6.d) ?_;clear hK K
 try simp only[pu]
 refine gF _ (by rfl) (by rfl) (fun K hK=>?_)
 try go_simp
 refine hK.O _ _ (HI.O _ H6.c H6.d) ?_;clear hK K
 try simp only[pu]
 refine L9 ?_;go_wp2_with fail;go_ret;exact⟨rfl,H6.a.M fun k hk=>ab hk,(Fo.A_ HZ.d.drew HG.e.yl).T (H6.b.M fun k hk=>ab hk)⟩):P:=h
theorem pR{S S':St}(h:Ig w ps S Y)(hi:Fv S)(hh:Nat)(hl:hh<2^64)(hR:leftM S hh=some (x,S')):
 Ct 240 #[PV ps,Xu hh] w fun e w'=>e=.returned (Xu x)/\Ig w' ps S' Y/\Fo Y w w':=by
 obtain⟨S1,h1,h2,rfl⟩:=rp hR;have ap:=fs h hh;have ar:=fs h (f_ S hh).1.right;have a4:=gX hi h1;have hg:=gR h hi hh hl;have an:=fun W (hW:D_ w W)=>gR (h.a_ hW) hi (f_ S hh).1.right ap.right;have ad:=fun W Z (hW:Ig W ps S Z)=>jG hW hi (f_ S hh).1 ap hh (f_ S hh).1.left (f_ S (f_ S hh).1.right).1.left hl (by first | exact ap.left | exact ar.right) (by first | exact ar.left | exact ap.right) h1;have ai:=fun W Z (hW:Ig W ps S1 Z)=>jG hW a4 (f_ S (f_ S hh).1.right).1 ar (f_ S hh).1.right hh (f_ S (f_ S hh).1.right).1.right ap.right (by first | exact hl | exact ar.left) (by first | exact ar.right | exact hl) h2;obtain⟨⟨⟨k0,k1,k2,k3,k4,k5⟩,er⟩,hE⟩:∃q,f_ S hh=q:=⟨_,rfl⟩;rw[hE] at hg an ad ai⊢;simp only at hg an ad ai⊢;obtain⟨⟨⟨g0,g1,g2,g3,g4,g5⟩,bb⟩,a3⟩:∃q,f_ S k3=q:=⟨_,rfl⟩;rw[a3] at an ad ai;simp only[gP] at hg an ad ai;have HG:=kq5 hg an ad ai h;clear hg an ad ai h hi a4 h1 h2 ap ar hE a3 hR;go_enter func240,ntmps240;go_wp2_with fail;refine e9 HG.a fun w1 hb1=>?_;have q:=heap_alloc_new w1 (Xa k0 k1 k2 k3 k4 k5 hh);have B1:=hb1.alloc hb1.size (Xa k0 k1 k2 k3 k4 k5 hh);have bc:=hb1.size;clear hb1;go_wp2_with fail;generalize a':w1.alloc (Xa k0 k1 k2 k3 k4 k5 hh)=W1 at*;have ba:w1.1.size<W1.1.size:=(gl q);generalize w1.1.size=b1 at*;refine e9 (HG.b _ B1) fun w2 hb2=>?_;have q2:=(hb2.block b1 ba).T q;have B2:=b_ B1 hb2;have bd:=hb2.size;clear hb2 q a';have q4:=heap_alloc_new w2 (Xa g0 g1 g2 g3 g4 g5 k3);have r4:=((c_ w2 (Xa g0 g1 g2 g3 g4 g5 k3)).block b1 o_).T q2;have B4:=B2.alloc B2.size (Xa g0 g1 g2 g3 g4 g5 k3);have bf:w.1.size<=w2.1.size:=B2.size;clear q2 B1 B2;go_wp2_with fail;generalize w2.alloc (Xa g0 g1 g2 g3 g4 g5 k3)=W at*;generalize w2.1.size=b2 at*;have a7:=(gl r4);have a8:=(gl q4);have HZ:=kq4 (HG.e.wide B4) r4 q4 B4;obtain⟨I,a1,a2⟩:∃I:World->Prop,(∀w',I w'->w'.1[b1]?=some (.cells #[Xu k0,Xu k1,Xu k2,Xu k3,Xu k4,Xu k5,Xu hh] 280 (0,0))/\w'.1[b2]?=some (.cells #[Xu g0,Xu g1,Xu g2,Xu g3,Xu g4,Xu g5,Xu k3] 280 (0,0)))/\(∀w',w'.1[b1]?=some (.cells #[Xu k0,Xu k1,Xu k2,Xu k3,Xu k4,Xu k5,Xu hh] 280 (0,0))->w'.1[b2]?=some (.cells #[Xu g0,Xu g1,Xu g2,Xu g3,Xu g4,Xu g5,Xu k3] 280 (0,0))->I w'):=⟨fun w'=>w'.1[b1]?=some (.cells #[Xu k0,Xu k1,Xu k2,Xu k3,Xu k4,Xu k5,Xu hh] 280 (0,0))/\w'.1[b2]?=some (.cells #[Xu g0,Xu g1,Xu g2,Xu g3,Xu g4,Xu g5,Xu k3] 280 (0,0)),fun _ h=>h,fun _ a b=>⟨a,b⟩⟩;have a5:=fun x:Fq I=>(a1 _ x.ok).1;have a6:=fun x:Fq I=>(a1 _ x.ok).2;obtain⟨y0,y1,y2,y3,y4,y5,y6⟩:=iZ a5;obtain⟨z0,z1,z2,z3,z4,z5,z6⟩:=iZ a6;have HI:=If a2;have a9:I W.drew:=a2 _ r4 q4;clear a5 a6 q4 r4 B4 a1 a2;refine Jz I [0,1,2,3,4,5,6,7,8,9,11,12,13] [10,14,15] k_ k_ a9 ?_;exact qHhac
theorem se{S S':St}{hh x:Nat}(h:rightM S hh=some (x,S')):∃S1,fu S (f_ S hh).1 hh (f_ S (f_ S hh).1.left).1.right (f_ S hh).1.right=some S1/\fu S1 (f_ S (f_ S hh).1.left).1 (f_ S hh).1.left (f_ S (f_ S hh).1.left).1.left hh=some S'/\x=(f_ S hh).1.left:=by
 unfold rightM at h;exact qHhad
theorem oT{S S':St}{hh x:Nat}(hi:Fv S)(h:rightM S hh=some (x,S')):Fv S':=by
 obtain⟨S1,h1,h2,_⟩:=se h;exact gX (gX hi h1) h2
theorem pS{S S':St}(h:Ig w ps S Y)(hi:Fv S)(hh:Nat)(hl:hh<2^64)(hR:rightM S hh=some (x,S')):
 Ct 241 #[PV ps,Xu hh] w fun e w'=>e=.returned (Xu x)/\Ig w' ps S' Y/\Fo Y w w':=by
 obtain⟨S1,h1,h2,rfl⟩:=se hR;have ap:=fs h hh;have ar:=fs h (f_ S hh).1.left;have a4:=gX hi h1;have hg:=gR h hi hh hl;have an:=fun W (hW:D_ w W)=>gR (h.a_ hW) hi (f_ S hh).1.left ap.left;have ad:=fun W Z (hW:Ig W ps S Z)=>jG hW hi (f_ S hh).1 ap hh (f_ S (f_ S hh).1.left).1.right (f_ S hh).1.right hl (by first | exact ap.left | exact ar.right) (by first | exact ar.left | exact ap.right) h1;have ai:=fun W Z (hW:Ig W ps S1 Z)=>jG hW a4 (f_ S (f_ S hh).1.left).1 ar (f_ S hh).1.left (f_ S (f_ S hh).1.left).1.left hh ap.left (by first | exact hl | exact ar.left) (by first | exact ar.right | exact hl) h2;obtain⟨⟨⟨k0,k1,k2,k3,k4,k5⟩,er⟩,hE⟩:∃q,f_ S hh=q:=⟨_,rfl⟩;rw[hE] at hg an ad ai⊢;simp only at hg an ad ai⊢;obtain⟨⟨⟨g0,g1,g2,g3,g4,g5⟩,bb⟩,a3⟩:∃q,f_ S k2=q:=⟨_,rfl⟩;rw[a3] at an ad ai;simp only[gP] at hg an ad ai;have HG:=kq5 hg an ad ai h;clear hg an ad ai h hi a4 h1 h2 ap ar hE a3 hR;go_enter func241,ntmps241;go_wp2_with fail;refine e9 HG.a fun w1 hb1=>?_;have q:=heap_alloc_new w1 (Xa k0 k1 k2 k3 k4 k5 hh);have B1:=hb1.alloc hb1.size (Xa k0 k1 k2 k3 k4 k5 hh);have bc:=hb1.size;clear hb1;go_wp2_with fail;generalize a':w1.alloc (Xa k0 k1 k2 k3 k4 k5 hh)=W1 at*;have ba:w1.1.size<W1.1.size:=(gl q);generalize w1.1.size=b1 at*;refine e9 (HG.b _ B1) fun w2 hb2=>?_;have q2:=(hb2.block b1 ba).T q;have B2:=b_ B1 hb2;have bd:=hb2.size;clear hb2 q a';have q4:=heap_alloc_new w2 (Xa g0 g1 g2 g3 g4 g5 k2);have r4:=((c_ w2 (Xa g0 g1 g2 g3 g4 g5 k2)).block b1 o_).T q2;have B4:=B2.alloc B2.size (Xa g0 g1 g2 g3 g4 g5 k2);have bf:w.1.size<=w2.1.size:=B2.size;clear q2 B1 B2;go_wp2_with fail;generalize w2.alloc (Xa g0 g1 g2 g3 g4 g5 k2)=W at*;generalize w2.1.size=b2 at*;have a7:=(gl r4);have a8:=(gl q4);have HZ:=kq4 (HG.e.wide B4) r4 q4 B4;obtain⟨I,a1,a2⟩:∃I:World->Prop,(∀w',I w'->w'.1[b1]?=some (.cells #[Xu k0,Xu k1,Xu k2,Xu k3,Xu k4,Xu k5,Xu hh] 280 (0,0))/\w'.1[b2]?=some (.cells #[Xu g0,Xu g1,Xu g2,Xu g3,Xu g4,Xu g5,Xu k2] 280 (0,0)))/\(∀w',w'.1[b1]?=some (.cells #[Xu k0,Xu k1,Xu k2,Xu k3,Xu k4,Xu k5,Xu hh] 280 (0,0))->w'.1[b2]?=some (.cells #[Xu g0,Xu g1,Xu g2,Xu g3,Xu g4,Xu g5,Xu k2] 280 (0,0))->I w'):=⟨fun w'=>w'.1[b1]?=some (.cells #[Xu k0,Xu k1,Xu k2,Xu k3,Xu k4,Xu k5,Xu hh] 280 (0,0))/\w'.1[b2]?=some (.cells #[Xu g0,Xu g1,Xu g2,Xu g3,Xu g4,Xu g5,Xu k2] 280 (0,0)),fun _ h=>h,fun _ a b=>⟨a,b⟩⟩;have a5:=fun x:Fq I=>(a1 _ x.ok).1;have a6:=fun x:Fq I=>(a1 _ x.ok).2;obtain⟨y0,y1,y2,y3,y4,y5,y6⟩:=iZ a5;obtain⟨z0,z1,z2,z3,z4,z5,z6⟩:=iZ a6;have HI:=If a2;have a9:I W.drew:=a2 _ r4 q4;clear a5 a6 q4 r4 B4 a1 a2;refine Jz I [0,1,2,3,4,5,6,7,8,9,10,11,12] [13,14,15] k_ k_ a9 ?_;exact qHhac
inductive BalDid (S S':St) (hh x a b:Nat):Prop
 | none (h1:a<=b+1) (h2:b<=a+1) (h3:x=hh) (h4:S'=S):BalDid S S' hh x a b
 | ll (c d:Nat) (h1:b+1<a) (h2:eE S (f_ S (f_ S hh).1.left).1.left=some c) (h3:eE S (f_ S (f_ S hh).1.left).1.right=some d) (h4:¬c<d) (h5:rightM S hh=some (x,S')):BalDid S S' hh x a b
 | lr (c d y:Nat) (S1 S2:St) (h1:b+1<a) (h2:eE S (f_ S (f_ S hh).1.left).1.left=some c) (h3:eE S (f_ S (f_ S hh).1.left).1.right=some d) (h4:c<d) (h5:leftM S (f_ S hh).1.left=some (y,S1)) (h6:fu S1 (f_ S hh).1 hh y (f_ S hh).1.right=some S2) (h7:rightM S2 hh=some (x,S')):BalDid S S' hh x a b
 | rr (c d:Nat) (h0:¬b+1<a) (h1:a+1<b) (h2:eE S (f_ S (f_ S hh).1.right).1.left=some c) (h3:eE S (f_ S (f_ S hh).1.right).1.right=some d) (h4:¬d<c) (h5:leftM S hh=some (x,S')):BalDid S S' hh x a b
 | rl (c d y:Nat) (S1 S2:St) (h0:¬b+1<a) (h1:a+1<b) (h2:eE S (f_ S (f_ S hh).1.right).1.left=some c) (h3:eE S (f_ S (f_ S hh).1.right).1.right=some d) (h4:d<c) (h5:rightM S (f_ S hh).1.right=some (y,S1)) (h6:fu S1 (f_ S hh).1 hh (f_ S hh).1.left y=some S2) (h7:leftM S2 hh=some (x,S')):BalDid S S' hh x a b
theorem tI{S S':St}{hh x:Nat}(h:balM S hh=some (x,S')):∃a b,eE S (f_ S hh).1.left=some a/\eE S (f_ S hh).1.right=some b/\BalDid S S' hh x a b:=by
 unfold balM at h
 split at h
 ·rename_i a b ha hb;refine⟨a,b,ha,hb,?_⟩
  split at h
  ·rename_i h1
   split at h
   ·rename_i c d hc hd
    split at h
    ·rename_i h4
     split at h
     ·cases h
     ·rename_i y S1 h5
      split at h
      ·cases h
      ·rename_i S2 h6;exact .lr c d y S1 S2 h1 hc hd h4 h5 h6 h
    ·rename_i h4;exact .ll c d h1 hc hd h4 h
   ·cases h
  ·rename_i h0
   split at h
   ·rename_i h1
    split at h
    ·rename_i c d hc hd
     split at h
     ·rename_i h4
      split at h
      ·cases h
      ·rename_i y S1 h5
       split at h
       ·cases h
       ·rename_i S2 h6;exact .rl c d y S1 S2 h0 h1 hc hd h4 h5 h6 h
     ·rename_i h4;exact .rr c d h0 h1 hc hd h4 h
    ·cases h
   ·rename_i h1
    injection h with h
    injection h with e1 e2
    exact .none o_ o_ e1.S e2.S
 ·cases h
theorem Cj{S S':St}(h:Ig w ps S Y){hh x:Nat}(hR:leftM S hh=some (x,S')):x<2^64:=by
 obtain⟨_,_,_,rfl⟩:=rp hR;exact(fs h hh).right
theorem D9{S S':St}(h:Ig w ps S Y){hh x:Nat}(hR:rightM S hh=some (x,S')):x<2^64:=by
 obtain⟨_,_,_,rfl⟩:=se hR;exact(fs h hh).left
theorem yQ(h:Ig w ps S Y)(hi:Fv S)(hh:Nat)(hl:hh<2^64){a b:Nat}(ha:eE S (f_ S hh).1.left=some a)(hb:eE S (f_ S hh).1.right=some b)(h1:a<=b+1)(h2:b<=a+1):
 Ct 218 #[PV ps,Xu hh] w fun e w'=>e=.returned (Xu hh)/\Ig w' ps S Y/\Fo Y w w':=by
 have hg:=gR h hi hh hl;have ad:=fs h hh;have an:a<2^62:=by have:=G_ ha;omega
 have ap:b<2^62:=by have:=G_ hb;omega
 have hA:=fun W (hW:D_ w W)=>fJ (h.a_ hW) hi (f_ S hh).1.left ad.left ha;have hB:=fun W (hW:D_ w W)=>fJ (h.a_ hW) hi (f_ S hh).1.right ad.right hb;obtain⟨⟨⟨k0,k1,k2,k3,k4,k5⟩,er⟩,hE⟩:∃r,f_ S hh=r:=⟨_,rfl⟩;rw[hE] at hg hA hB;simp only at hg hA hB;simp only[gP] at hg;have d0:IntKind.i64.wrap ((a:Int)-b)=(a:Int)-b:=aq _ o_;have d1:((1:Int)<(a:Int)-b)=False:=eq_false o_;have d2:((a:Int)-b< -1)=False:=eq_false o_;have HG:=kq4 hg hA hB h;clear hg hA hB h hi hE ad ha hb h1 h2 an ap;go_enter func218,ntmps218;go_wp2_with fail;refine e9 HG.a fun w1 hb1=>?_;have q:=heap_alloc_new w1 (Xa k0 k1 k2 k3 k4 k5 hh);have B1:=hb1.alloc hb1.size (Xa k0 k1 k2 k3 k4 k5 hh);have a1:=hb1.size;clear hb1;go_wp2_with fail;generalize w1.alloc (Xa k0 k1 k2 k3 k4 k5 hh)=W at*;have ql:=(gl q);generalize w1.1.size=b1 at*;have ar:∀x:Fq (D_ W),x.to.cell? (x_ b1 2)=some (Xu k2):=fun x=>by rw[t_ ((x.ok.block _ ql).T q)];rfl
 have au:∀x:Fq (D_ W),x.to.cell? (x_ b1 3)=some (Xu k3):=fun x=>by rw[t_ ((x.ok.block _ ql).T q)];rfl
 have hA:=fun x:Fq (D_ W)=>Calls.F_ (HG.b x.to (b_ B1 x.ok));have hB:=fun x:Fq (D_ W)=>Calls.F_ (HG.c x.to (b_ B1 x.ok));have HB:=kq2 B1 q;clear B1 q;refine iq (D_ W) k_ k_ (aa _ _).drew (fun _=>?_)
 repeat (first | go_big_quiet_skip | (go_big_quiet_want;go_big_quiet_op;first | go_big_quiet_on | (apply Exists.intro;refine⟨fun x=>?_,?_⟩;(· first | with_reducible exact hA x | with_reducible exact hB x);go_big_quiet_on)))
 refine wpQuiet_nil ?_;rintro _ ⟨v,rfl⟩;clear hA hB ar au;have r2:=(v.ok.block b1 ql).T HB.b;have HX:=kq2 (b_ HB.a v.ok) r2;have a0:=v.ok.size;obtain⟨w2,ai⟩:=Ii v.to;rw[ai] at HX r2 a0⊢;clear ai v HB;clear r2;go_wp2_with fail;go_ret;exact⟨rfl,HG.d.a_ HX.a,Fo.A_ HX.a HG.d.yl⟩
theorem qHhaa{P:Prop}(h:P:=by
 generalize w3.1.size=b2 at*;have ba:=(gl r4);have ar:=(gl q4);have a9:∀x:Fq (D_ W3),x.to.cell? (x_ b2 2)=some (Xu g2):=fun x=>by rw[t_ ((x.ok.block _ ar).T q4)];rfl
 have a':∀x:Fq (D_ W3),x.to.cell? (x_ b2 3)=some (Xu g3):=fun x=>by rw[t_ ((x.ok.block _ ar).T q4)];rfl
 have hC:=fun x:Fq (D_ W3)=>Calls.F_ (HG.f x.to (b_ B4 x.ok));have hD:=fun x:Fq (D_ W3)=>Calls.F_ (HG.g x.to (b_ B4 x.ok));have ai:=kq3 B4 r4 q4;clear B4 r4 q4;refine iq (D_ W3) k_ k_ (aa _ _).drew (fun _=>?_)
 repeat (first | go_big_quiet_skip | (go_big_quiet_want;go_big_quiet_op;first | go_big_quiet_on | (apply Exists.intro;refine⟨fun x=>?_,?_⟩;(· first | with_reducible exact hC x | with_reducible exact hD x);go_big_quiet_on)))
 refine wpQuiet_nil ?_;rintro _ ⟨v,rfl⟩;clear hC hD a9 a';have r5:=(v.ok.block b1 ba).T ai.b;have q5:=(v.ok.block b2 ar).T ai.c;have B5:=b_ ai.a v.ok;have bc:=v.ok.size;obtain⟨w5,a2⟩:=Ii v.to;rw[a2] at r5 q5 B5 bc⊢;clear a2 v ai;have au:=kq3 B5 r5 q5;clear r5 q5 B5;go_wp2_with fail;refine(HG.h _ _ (HG.d.a_ au.a)).M ?_;rintro e w6 ⟨rfl,h6,k6⟩;have H6:=kq2 h6 ((Fo.A_ au.a HG.d.yl).T k6);clear h6 k6;go_wp2_with fail;go_ret;exact⟨rfl,H6.O⟩):P:=h
theorem yO{S S':St}(h:Ig w ps S Y)(hi:Fv S)(hh:Nat)(hl:hh<2^64){a b:Nat}(ha:eE S (f_ S hh).1.left=some a)(hb:eE S (f_ S hh).1.right=some b){c d x:Nat}(h1:b+1<a)(h2:eE S (f_ S (f_ S hh).1.left).1.left=some c)(h3:eE S (f_ S (f_ S hh).1.left).1.right=some d)(h4:¬c<d)(h5:rightM S hh=some (x,S')):
 Ct 218 #[PV ps,Xu hh] w fun e w'=>e=.returned (Xu x)/\Ig w' ps S' Y/\Fo Y w w':=by
 have hg:=gR h hi hh hl;have an:=fs h hh;have a3:a<2^62:=by have:=G_ ha;omega
 have a4:b<2^62:=by have:=G_ hb;omega
 have hA:=fun W (hW:D_ w W)=>fJ (h.a_ hW) hi (f_ S hh).1.left an.left ha;have hB:=fun W (hW:D_ w W)=>fJ (h.a_ hW) hi (f_ S hh).1.right an.right hb;have ap:=fs h (f_ S hh).1.left;have ad:=fun W (hW:D_ w W)=>gR (h.a_ hW) hi (f_ S hh).1.left an.left;have a5:c<2^62:=by have:=G_ h2;omega
 have a6:d<2^62:=by have:=G_ h3;omega
 have hC:=fun W (hW:D_ w W)=>fJ (h.a_ hW) hi (f_ S (f_ S hh).1.left).1.left ap.left h2;have hD:=fun W (hW:D_ w W)=>fJ (h.a_ hW) hi (f_ S (f_ S hh).1.left).1.right ap.right h3;have hF:=fun W Z (hW:Ig W ps S Z)=>pS hW hi hh hl h5;obtain⟨⟨⟨k0,k1,k2,k3,k4,k5⟩,er⟩,hE⟩:∃r,f_ S hh=r:=⟨_,rfl⟩;rw[hE] at hg hA hB ad hC hD;simp only at hg hA hB ad hC hD;obtain⟨⟨⟨g0,g1,g2,g3,g4,g5⟩,bd⟩,a0⟩:∃q,f_ S k2=q:=⟨_,rfl⟩;rw[a0] at ad hC hD;simp only[gP] at hg ad hC hD;have d0:IntKind.i64.wrap ((a:Int)-b)=(a:Int)-b:=aq _ o_;have d1:((1:Int)<(a:Int)-b)=True:=eq_true o_;have d3:((c:Int)<d)=False:=eq_false o_;have HG:=kq8 hg hA hB h ad hC hD hF;clear hg hA hB h ad hC hD hF hi hE an ha hb h1 h2 a3 a4 h3 h4 h5 ap a0 a5 a6;go_enter func218,ntmps218;go_wp2_with fail;refine e9 HG.a fun w1 hb1=>?_;have q:=heap_alloc_new w1 (Xa k0 k1 k2 k3 k4 k5 hh);have B1:=hb1.alloc hb1.size (Xa k0 k1 k2 k3 k4 k5 hh);have bf:=hb1.size;clear hb1;go_wp2_with fail;generalize w1.alloc (Xa k0 k1 k2 k3 k4 k5 hh)=W at*;have ql:=(gl q);generalize w1.1.size=b1 at*;have a7:∀x:Fq (D_ W),x.to.cell? (x_ b1 2)=some (Xu k2):=fun x=>by rw[t_ ((x.ok.block _ ql).T q)];rfl
 have a8:∀x:Fq (D_ W),x.to.cell? (x_ b1 3)=some (Xu k3):=fun x=>by rw[t_ ((x.ok.block _ ql).T q)];rfl
 have hA:=fun x:Fq (D_ W)=>Calls.F_ (HG.b x.to (b_ B1 x.ok));have hB:=fun x:Fq (D_ W)=>Calls.F_ (HG.c x.to (b_ B1 x.ok));have HB:=kq2 B1 q;clear B1 q;refine iq (D_ W) k_ k_ (aa _ _).drew (fun _=>?_)
 repeat (first | go_big_quiet_skip | (go_big_quiet_want;go_big_quiet_op;first | go_big_quiet_on | (apply Exists.intro;refine⟨fun x=>?_,?_⟩;(· first | with_reducible exact hA x | with_reducible exact hB x);go_big_quiet_on)))
 refine wpQuiet_nil ?_;rintro _ ⟨v,rfl⟩;clear hA hB a7 a8;have r2:=(v.ok.block b1 ql).T HB.b;have HX:=kq2 (b_ HB.a v.ok) r2;have bb:=v.ok.size;obtain⟨w2,a1⟩:=Ii v.to;rw[a1] at HX r2 bb⊢;clear a1 v HB;obtain⟨c0,c1,c2,c3,c4,c5,c6⟩:=gG r2;clear r2;go_wp2_with fail;clear c0 c1 c2 c3 c4 c5 c6;refine e9 (HG.e _ HX.a) fun w3 hb3=>?_;have r3:=(hb3.block b1 o_).T HX.b;have B3:=b_ HX.a hb3;have q4:=heap_alloc_new w3 (Xa g0 g1 g2 g3 g4 g5 k2);have bj:=hb3.size;have r4:=((c_ w3 (Xa g0 g1 g2 g3 g4 g5 k2)).block b1 o_).T r3;have B4:=B3.alloc B3.size (Xa g0 g1 g2 g3 g4 g5 k2);have bk:w.1.size<=w3.1.size:=B3.size;clear hb3 r3 B3;go_wp2_with fail;generalize w3.alloc (Xa g0 g1 g2 g3 g4 g5 k2)=W3 at*;exact qHhaa
theorem qHhab{P:Prop}(h:P:=by
 iterate 8
  refine' hC ?_ ?_;rotate_left
  ·intro x;go_simp
   try rfl
  simp only[pu]
 refine mo ?_;clear y0 y1 y2 y3 y4 y5 y6 z0 z1 z2 z3 z4 z5 z6;refine gF _ (by rfl) (by rfl) (fun K hK=>?_);go_simp;refine(HG.i _ _ (HZ.O.a_ (aa _ _).drew)).M ?_;rintro e w6 ⟨rfl,h6,k6⟩;have u6:=(k6.block b1 (ae ⟨o_,o_⟩)).T ap.b;have v6:=(k6.block b2 (ae ⟨o_,o_⟩)).T ap.c;have H6:=kq4 h6 k6 u6 v6;clear h6 k6 u6 v6
 try go_simp
 refine hK.O _ _ (HI.O _ H6.c H6.d) ?_;clear hK K
 try simp only[pu]
 refine gF _ (by rfl) (by rfl) (fun K hK=>?_);go_simp;refine(HG.j _ _ H6.a).M ?_;rintro e w7 ⟨rfl,h7,k7⟩;have u7:=(k7.block b1 (ae ⟨o_,o_⟩)).T H6.c;have v7:=(k7.block b2 (ae ⟨o_,o_⟩)).T H6.d;have H7:=kq4 h7 (H6.b.T k7) u7 v7;clear h7 k7 u7 v7
 try go_simp
 refine hK.O _ _ (HI.O _ H7.c H7.d) ?_;clear hK K
 try simp only[pu]
 refine L9 ?_;go_wp2_with fail;refine(HG.h _ _ H7.a).M ?_;rintro e w8 ⟨rfl,h8,k8⟩;have H8:=kq2 h8 (H7.b.T k8);clear h8 k8;go_wp2_with fail;go_ret;exact⟨rfl,H8.a.M fun k hk=>ab hk,(Fo.A_ ap.a.drew HG.d.yl).T (H8.b.M fun k hk=>ab hk)⟩):P:=h
theorem yP{S S':St}(h:Ig w ps S Y)(hi:Fv S)(hh:Nat)(hl:hh<2^64){a b:Nat}(ha:eE S (f_ S hh).1.left=some a)(hb:eE S (f_ S hh).1.right=some b){c d x y:Nat}{S1 S2:St}(h1:b+1<a)(h2:eE S (f_ S (f_ S hh).1.left).1.left=some c)(h3:eE S (f_ S (f_ S hh).1.left).1.right=some d)(h4:c<d)(h5:leftM S (f_ S hh).1.left=some (y,S1))(h6:fu S1 (f_ S hh).1 hh y (f_ S hh).1.right=some S2)(h7:rightM S2 hh=some (x,S')):
 Ct 218 #[PV ps,Xu hh] w fun e w'=>e=.returned (Xu x)/\Ig w' ps S' Y/\Fo Y w w':=by
 have hg:=gR h hi hh hl;have ad:=fs h hh;have ba:a<2^62:=by have:=G_ ha;omega
 have bb:b<2^62:=by have:=G_ hb;omega
 have hA:=fun W (hW:D_ w W)=>fJ (h.a_ hW) hi (f_ S hh).1.left ad.left ha;have hB:=fun W (hW:D_ w W)=>fJ (h.a_ hW) hi (f_ S hh).1.right ad.right hb;have a1:=fs h (f_ S hh).1.left;have ai:=fun W (hW:D_ w W)=>gR (h.a_ hW) hi (f_ S hh).1.left ad.left;have bc:c<2^62:=by have:=G_ h2;omega
 have bd:d<2^62:=by have:=G_ h3;omega
 have hC:=fun W (hW:D_ w W)=>fJ (h.a_ hW) hi (f_ S (f_ S hh).1.left).1.left a1.left h2;have hD:=fun W (hW:D_ w W)=>fJ (h.a_ hW) hi (f_ S (f_ S hh).1.left).1.right a1.right h3;have a0:=ow hi h5;have a4:=gX a0 h6;have a8:=Cj h h5;have hM:=fun W Z (hW:Ig W ps S Z)=>pR hW hi (f_ S hh).1.left ad.left h5;have hN:=fun W Z (hW:Ig W ps S1 Z)=>jG hW a0 (f_ S hh).1 ad hh y (f_ S hh).1.right hl a8 ad.right h6;have hF:=fun W Z (hW:Ig W ps S2 Z)=>pS hW a4 hh hl h7;obtain⟨⟨⟨k0,k1,k2,k3,k4,k5⟩,er⟩,hE⟩:∃r,f_ S hh=r:=⟨_,rfl⟩;rw[hE] at hg hA hB ai hC hD hM hN;simp only at hg hA hB ai hC hD hM hN;obtain⟨⟨⟨g0,g1,g2,g3,g4,g5⟩,bt⟩,a3⟩:∃q,f_ S k2=q:=⟨_,rfl⟩;rw[a3] at ai hC hD;simp only[gP] at hg ai hC hD hN;have d0:IntKind.i64.wrap ((a:Int)-b)=(a:Int)-b:=aq _ o_;have d1:((1:Int)<(a:Int)-b)=True:=eq_true o_;have d3:((c:Int)<d)=True:=eq_true o_;have HG:=kq10 hg hA hB h ai hC hD hF hM hN;clear hg hA hB h ai hC hD hF hM hN hi hE ad ha hb h1 h2 ba bb h3 h4 h5 h6 h7 a1 a3 bc bd a0 a4 a8;go_enter func218,ntmps218;go_wp2_with fail;refine e9 HG.a fun w1 hb1=>?_;have q:=heap_alloc_new w1 (Xa k0 k1 k2 k3 k4 k5 hh);have B1:=hb1.alloc hb1.size (Xa k0 k1 k2 k3 k4 k5 hh);have bu:=hb1.size;clear hb1;go_wp2_with fail;generalize w1.alloc (Xa k0 k1 k2 k3 k4 k5 hh)=W at*;have ql:=(gl q);generalize w1.1.size=b1 at*;have bf:∀x:Fq (D_ W),x.to.cell? (x_ b1 2)=some (Xu k2):=fun x=>by rw[t_ ((x.ok.block _ ql).T q)];rfl
 have bj:∀x:Fq (D_ W),x.to.cell? (x_ b1 3)=some (Xu k3):=fun x=>by rw[t_ ((x.ok.block _ ql).T q)];rfl
 have hA:=fun x:Fq (D_ W)=>Calls.F_ (HG.b x.to (b_ B1 x.ok));have hB:=fun x:Fq (D_ W)=>Calls.F_ (HG.c x.to (b_ B1 x.ok));have HB:=kq2 B1 q;clear B1 q;refine iq (D_ W) k_ k_ (aa _ _).drew (fun _=>?_)
 repeat (first | go_big_quiet_skip | (go_big_quiet_want;go_big_quiet_op;first | go_big_quiet_on | (apply Exists.intro;refine⟨fun x=>?_,?_⟩;(· first | with_reducible exact hA x | with_reducible exact hB x);go_big_quiet_on)))
 refine wpQuiet_nil ?_;rintro _ ⟨v,rfl⟩;clear hA hB bf bj;have r2:=(v.ok.block b1 ql).T HB.b;have HX:=kq2 (b_ HB.a v.ok) r2;have bq:=v.ok.size;obtain⟨w2,a5⟩:=Ii v.to;rw[a5] at HX r2 bq⊢;clear a5 v HB;obtain⟨c0,c1,c2,c3,c4,c5,c6⟩:=gG r2;clear r2;go_wp2_with fail;clear c0 c1 c2 c3 c4 c5 c6;refine e9 (HG.e _ HX.a) fun w3 hb3=>?_;have r3:=(hb3.block b1 o_).T HX.b;have B3:=b_ HX.a hb3;have q4:=heap_alloc_new w3 (Xa g0 g1 g2 g3 g4 g5 k2);have bv:=hb3.size;have r4:=((c_ w3 (Xa g0 g1 g2 g3 g4 g5 k2)).block b1 o_).T r3;have B4:=B3.alloc B3.size (Xa g0 g1 g2 g3 g4 g5 k2);have b0:w.1.size<=w3.1.size:=B3.size;clear hb3 r3 B3;go_wp2_with fail;generalize w3.alloc (Xa g0 g1 g2 g3 g4 g5 k2)=W3 at*;generalize w3.1.size=b2 at*;have bo:=(gl r4);have a2:=(gl q4);have bk:∀x:Fq (D_ W3),x.to.cell? (x_ b2 2)=some (Xu g2):=fun x=>by rw[t_ ((x.ok.block _ a2).T q4)];rfl
 have bm:∀x:Fq (D_ W3),x.to.cell? (x_ b2 3)=some (Xu g3):=fun x=>by rw[t_ ((x.ok.block _ a2).T q4)];rfl
 have hC:=fun x:Fq (D_ W3)=>Calls.F_ (HG.f x.to (b_ B4 x.ok));have hD:=fun x:Fq (D_ W3)=>Calls.F_ (HG.g x.to (b_ B4 x.ok));have an:=kq3 B4 r4 q4;clear B4 r4 q4;refine iq (D_ W3) k_ k_ (aa _ _).drew (fun _=>?_)
 repeat (first | go_big_quiet_skip | (go_big_quiet_want;go_big_quiet_op;first | go_big_quiet_on | (apply Exists.intro;refine⟨fun x=>?_,?_⟩;(· first | with_reducible exact hC x | with_reducible exact hD x);go_big_quiet_on)))
 refine wpQuiet_nil ?_;rintro _ ⟨v,rfl⟩;clear hC hD bk bm;have r5:=(v.ok.block b1 bo).T an.b;have q5:=(v.ok.block b2 a2).T an.c;have B5:=b_ an.a v.ok;have bs:=v.ok.size;obtain⟨w5,a6⟩:=Ii v.to;rw[a6] at r5 q5 B5 bs⊢;clear a6 v an;have ap:=kq3 B5 r5 q5;have HZ:=If (HG.d.wide B5);clear B5;go_wp2_with fail;obtain⟨I,ar,au⟩:∃I:World->Prop,(∀w',I w'->w'.1[b1]?=some (.cells #[Xu k0,Xu k1,Xu k2,Xu k3,Xu k4,Xu k5,Xu hh] 280 (0,0))/\w'.1[b2]?=some (.cells #[Xu g0,Xu g1,Xu g2,Xu g3,Xu g4,Xu g5,Xu k2] 280 (0,0)))/\(∀w',w'.1[b1]?=some (.cells #[Xu k0,Xu k1,Xu k2,Xu k3,Xu k4,Xu k5,Xu hh] 280 (0,0))->w'.1[b2]?=some (.cells #[Xu g0,Xu g1,Xu g2,Xu g3,Xu g4,Xu g5,Xu k2] 280 (0,0))->I w'):=⟨fun w'=>w'.1[b1]?=some (.cells #[Xu k0,Xu k1,Xu k2,Xu k3,Xu k4,Xu k5,Xu hh] 280 (0,0))/\w'.1[b2]?=some (.cells #[Xu g0,Xu g1,Xu g2,Xu g3,Xu g4,Xu g5,Xu k2] 280 (0,0)),fun _ h=>h,fun _ a b=>⟨a,b⟩⟩;have a7:=fun x:Fq I=>(ar _ x.ok).1;have a9:=fun x:Fq I=>(ar _ x.ok).2;obtain⟨y0,y1,y2,y3,y4,y5,y6⟩:=iZ a7;obtain⟨z0,z1,z2,z3,z4,z5,z6⟩:=iZ a9;have HI:=If au;have a':I w5.drew:=au _ r5 q5;clear a7 a9 q5 r5 ar au;refine Jz I [0,1,2,3,4,6,7,8] [5,9] k_ k_ a' ?_;exact qHhab
theorem yS{S S':St}(h:Ig w ps S Y)(hi:Fv S)(hh:Nat)(hl:hh<2^64){a b:Nat}(ha:eE S (f_ S hh).1.left=some a)(hb:eE S (f_ S hh).1.right=some b){c d x:Nat}(h1:a+1<b)(h2:eE S (f_ S (f_ S hh).1.right).1.left=some c)(h3:eE S (f_ S (f_ S hh).1.right).1.right=some d)(h4:¬d<c)(h5:leftM S hh=some (x,S')):
 Ct 218 #[PV ps,Xu hh] w fun e w'=>e=.returned (Xu x)/\Ig w' ps S' Y/\Fo Y w w':=by
 have hg:=gR h hi hh hl;have an:=fs h hh;have a3:a<2^62:=by have:=G_ ha;omega
 have a4:b<2^62:=by have:=G_ hb;omega
 have hA:=fun W (hW:D_ w W)=>fJ (h.a_ hW) hi (f_ S hh).1.left an.left ha;have hB:=fun W (hW:D_ w W)=>fJ (h.a_ hW) hi (f_ S hh).1.right an.right hb;have ap:=fs h (f_ S hh).1.right;have ad:=fun W (hW:D_ w W)=>gR (h.a_ hW) hi (f_ S hh).1.right an.right;have a5:c<2^62:=by have:=G_ h2;omega
 have a6:d<2^62:=by have:=G_ h3;omega
 have hC:=fun W (hW:D_ w W)=>fJ (h.a_ hW) hi (f_ S (f_ S hh).1.right).1.left ap.left h2;have hD:=fun W (hW:D_ w W)=>fJ (h.a_ hW) hi (f_ S (f_ S hh).1.right).1.right ap.right h3;have hF:=fun W Z (hW:Ig W ps S Z)=>pR hW hi hh hl h5;obtain⟨⟨⟨k0,k1,k2,k3,k4,k5⟩,er⟩,hE⟩:∃r,f_ S hh=r:=⟨_,rfl⟩;rw[hE] at hg hA hB ad hC hD;simp only at hg hA hB ad hC hD;obtain⟨⟨⟨g0,g1,g2,g3,g4,g5⟩,bd⟩,a0⟩:∃q,f_ S k3=q:=⟨_,rfl⟩;rw[a0] at ad hC hD;simp only[gP] at hg ad hC hD;have d0:IntKind.i64.wrap ((a:Int)-b)=(a:Int)-b:=aq _ o_;have d1:((1:Int)<(a:Int)-b)=False:=eq_false o_;have d2:((a:Int)-b< -1)=True:=eq_true o_;have d3:((d:Int)<c)=False:=eq_false o_;have HG:=kq8 hg hA hB h ad hC hD hF;clear hg hA hB h ad hC hD hF hi hE an ha hb h1 h2 a3 a4 h3 h4 h5 ap a0 a5 a6;go_enter func218,ntmps218;go_wp2_with fail;refine e9 HG.a fun w1 hb1=>?_;have q:=heap_alloc_new w1 (Xa k0 k1 k2 k3 k4 k5 hh);have B1:=hb1.alloc hb1.size (Xa k0 k1 k2 k3 k4 k5 hh);have bf:=hb1.size;clear hb1;go_wp2_with fail;generalize w1.alloc (Xa k0 k1 k2 k3 k4 k5 hh)=W at*;have ql:=(gl q);generalize w1.1.size=b1 at*;have a7:∀x:Fq (D_ W),x.to.cell? (x_ b1 2)=some (Xu k2):=fun x=>by rw[t_ ((x.ok.block _ ql).T q)];rfl
 have a8:∀x:Fq (D_ W),x.to.cell? (x_ b1 3)=some (Xu k3):=fun x=>by rw[t_ ((x.ok.block _ ql).T q)];rfl
 have hA:=fun x:Fq (D_ W)=>Calls.F_ (HG.b x.to (b_ B1 x.ok));have hB:=fun x:Fq (D_ W)=>Calls.F_ (HG.c x.to (b_ B1 x.ok));have HB:=kq2 B1 q;clear B1 q;refine iq (D_ W) k_ k_ (aa _ _).drew (fun _=>?_)
 repeat (first | go_big_quiet_skip | (go_big_quiet_want;go_big_quiet_op;first | go_big_quiet_on | (apply Exists.intro;refine⟨fun x=>?_,?_⟩;(· first | with_reducible exact hA x | with_reducible exact hB x);go_big_quiet_on)))
 refine wpQuiet_nil ?_;rintro _ ⟨v,rfl⟩;clear hA hB a7 a8;have r2:=(v.ok.block b1 ql).T HB.b;have HX:=kq2 (b_ HB.a v.ok) r2;have bb:=v.ok.size;obtain⟨w2,a1⟩:=Ii v.to;rw[a1] at HX r2 bb⊢;clear a1 v HB;obtain⟨c0,c1,c2,c3,c4,c5,c6⟩:=gG r2;clear r2;go_wp2_with fail;clear c0 c1 c2 c3 c4 c5 c6;refine e9 (HG.e _ HX.a) fun w3 hb3=>?_;have r3:=(hb3.block b1 o_).T HX.b;have B3:=b_ HX.a hb3;have q4:=heap_alloc_new w3 (Xa g0 g1 g2 g3 g4 g5 k3);have bj:=hb3.size;have r4:=((c_ w3 (Xa g0 g1 g2 g3 g4 g5 k3)).block b1 o_).T r3;have B4:=B3.alloc B3.size (Xa g0 g1 g2 g3 g4 g5 k3);have bk:w.1.size<=w3.1.size:=B3.size;clear hb3 r3 B3;go_wp2_with fail;generalize w3.alloc (Xa g0 g1 g2 g3 g4 g5 k3)=W3 at*;exact qHhaa
theorem yR{S S':St}(h:Ig w ps S Y)(hi:Fv S)(hh:Nat)(hl:hh<2^64){a b:Nat}(ha:eE S (f_ S hh).1.left=some a)(hb:eE S (f_ S hh).1.right=some b){c d x y:Nat}{S1 S2:St}(h1:a+1<b)(h2:eE S (f_ S (f_ S hh).1.right).1.left=some c)(h3:eE S (f_ S (f_ S hh).1.right).1.right=some d)(h4:d<c)(h5:rightM S (f_ S hh).1.right=some (y,S1))(h6:fu S1 (f_ S hh).1 hh (f_ S hh).1.left y=some S2)(h7:leftM S2 hh=some (x,S')):
 Ct 218 #[PV ps,Xu hh] w fun e w'=>e=.returned (Xu x)/\Ig w' ps S' Y/\Fo Y w w':=by
 have hg:=gR h hi hh hl;have ad:=fs h hh;have ba:a<2^62:=by have:=G_ ha;omega
 have bb:b<2^62:=by have:=G_ hb;omega
 have hA:=fun W (hW:D_ w W)=>fJ (h.a_ hW) hi (f_ S hh).1.left ad.left ha;have hB:=fun W (hW:D_ w W)=>fJ (h.a_ hW) hi (f_ S hh).1.right ad.right hb;have a1:=fs h (f_ S hh).1.right;have ai:=fun W (hW:D_ w W)=>gR (h.a_ hW) hi (f_ S hh).1.right ad.right;have bc:c<2^62:=by have:=G_ h2;omega
 have bd:d<2^62:=by have:=G_ h3;omega
 have hC:=fun W (hW:D_ w W)=>fJ (h.a_ hW) hi (f_ S (f_ S hh).1.right).1.left a1.left h2;have hD:=fun W (hW:D_ w W)=>fJ (h.a_ hW) hi (f_ S (f_ S hh).1.right).1.right a1.right h3;have a0:=oT hi h5;have a4:=gX a0 h6;have a8:=D9 h h5;have hM:=fun W Z (hW:Ig W ps S Z)=>pS hW hi (f_ S hh).1.right ad.right h5;have hN:=fun W Z (hW:Ig W ps S1 Z)=>jG hW a0 (f_ S hh).1 ad hh (f_ S hh).1.left y hl ad.left a8 h6;have hF:=fun W Z (hW:Ig W ps S2 Z)=>pR hW a4 hh hl h7;obtain⟨⟨⟨k0,k1,k2,k3,k4,k5⟩,er⟩,hE⟩:∃r,f_ S hh=r:=⟨_,rfl⟩;rw[hE] at hg hA hB ai hC hD hM hN;simp only at hg hA hB ai hC hD hM hN;obtain⟨⟨⟨g0,g1,g2,g3,g4,g5⟩,bt⟩,a3⟩:∃q,f_ S k3=q:=⟨_,rfl⟩;rw[a3] at ai hC hD;simp only[gP] at hg ai hC hD hN;have d0:IntKind.i64.wrap ((a:Int)-b)=(a:Int)-b:=aq _ o_;have d1:((1:Int)<(a:Int)-b)=False:=eq_false o_;have d2:((a:Int)-b< -1)=True:=eq_true o_;have d3:((d:Int)<c)=True:=eq_true o_;have HG:=kq10 hg hA hB h ai hC hD hF hM hN;clear hg hA hB h ai hC hD hF hM hN hi hE ad ha hb h1 h2 ba bb h3 h4 h5 h6 h7 a1 a3 bc bd a0 a4 a8;go_enter func218,ntmps218;go_wp2_with fail;refine e9 HG.a fun w1 hb1=>?_;have q:=heap_alloc_new w1 (Xa k0 k1 k2 k3 k4 k5 hh);have B1:=hb1.alloc hb1.size (Xa k0 k1 k2 k3 k4 k5 hh);have bu:=hb1.size;clear hb1;go_wp2_with fail;generalize w1.alloc (Xa k0 k1 k2 k3 k4 k5 hh)=W at*;have ql:=(gl q);generalize w1.1.size=b1 at*;have bf:∀x:Fq (D_ W),x.to.cell? (x_ b1 2)=some (Xu k2):=fun x=>by rw[t_ ((x.ok.block _ ql).T q)];rfl
 have bj:∀x:Fq (D_ W),x.to.cell? (x_ b1 3)=some (Xu k3):=fun x=>by rw[t_ ((x.ok.block _ ql).T q)];rfl
 have hA:=fun x:Fq (D_ W)=>Calls.F_ (HG.b x.to (b_ B1 x.ok));have hB:=fun x:Fq (D_ W)=>Calls.F_ (HG.c x.to (b_ B1 x.ok));have HB:=kq2 B1 q;clear B1 q;refine iq (D_ W) k_ k_ (aa _ _).drew (fun _=>?_)
 repeat (first | go_big_quiet_skip | (go_big_quiet_want;go_big_quiet_op;first | go_big_quiet_on | (apply Exists.intro;refine⟨fun x=>?_,?_⟩;(· first | with_reducible exact hA x | with_reducible exact hB x);go_big_quiet_on)))
 refine wpQuiet_nil ?_;rintro _ ⟨v,rfl⟩;clear hA hB bf bj;have r2:=(v.ok.block b1 ql).T HB.b;have HX:=kq2 (b_ HB.a v.ok) r2;have bq:=v.ok.size;obtain⟨w2,a5⟩:=Ii v.to;rw[a5] at HX r2 bq⊢;clear a5 v HB;obtain⟨c0,c1,c2,c3,c4,c5,c6⟩:=gG r2;clear r2;go_wp2_with fail;clear c0 c1 c2 c3 c4 c5 c6;refine e9 (HG.e _ HX.a) fun w3 hb3=>?_;have r3:=(hb3.block b1 o_).T HX.b;have B3:=b_ HX.a hb3;have q4:=heap_alloc_new w3 (Xa g0 g1 g2 g3 g4 g5 k3);have bv:=hb3.size;have r4:=((c_ w3 (Xa g0 g1 g2 g3 g4 g5 k3)).block b1 o_).T r3;have B4:=B3.alloc B3.size (Xa g0 g1 g2 g3 g4 g5 k3);have b0:w.1.size<=w3.1.size:=B3.size;clear hb3 r3 B3;go_wp2_with fail;generalize w3.alloc (Xa g0 g1 g2 g3 g4 g5 k3)=W3 at*;generalize w3.1.size=b2 at*;have bo:=(gl r4);have a2:=(gl q4);have bk:∀x:Fq (D_ W3),x.to.cell? (x_ b2 2)=some (Xu g2):=fun x=>by rw[t_ ((x.ok.block _ a2).T q4)];rfl
 have bm:∀x:Fq (D_ W3),x.to.cell? (x_ b2 3)=some (Xu g3):=fun x=>by rw[t_ ((x.ok.block _ a2).T q4)];rfl
 have hC:=fun x:Fq (D_ W3)=>Calls.F_ (HG.f x.to (b_ B4 x.ok));have hD:=fun x:Fq (D_ W3)=>Calls.F_ (HG.g x.to (b_ B4 x.ok));have an:=kq3 B4 r4 q4;clear B4 r4 q4;refine iq (D_ W3) k_ k_ (aa _ _).drew (fun _=>?_)
 repeat (first | go_big_quiet_skip | (go_big_quiet_want;go_big_quiet_op;first | go_big_quiet_on | (apply Exists.intro;refine⟨fun x=>?_,?_⟩;(· first | with_reducible exact hC x | with_reducible exact hD x);go_big_quiet_on)))
 refine wpQuiet_nil ?_;rintro _ ⟨v,rfl⟩;clear hC hD bk bm;have r5:=(v.ok.block b1 bo).T an.b;have q5:=(v.ok.block b2 a2).T an.c;have B5:=b_ an.a v.ok;have bs:=v.ok.size;obtain⟨w5,a6⟩:=Ii v.to;rw[a6] at r5 q5 B5 bs⊢;clear a6 v an;have ap:=kq3 B5 r5 q5;have HZ:=If (HG.d.wide B5);clear B5;go_wp2_with fail;obtain⟨I,ar,au⟩:∃I:World->Prop,(∀w',I w'->w'.1[b1]?=some (.cells #[Xu k0,Xu k1,Xu k2,Xu k3,Xu k4,Xu k5,Xu hh] 280 (0,0))/\w'.1[b2]?=some (.cells #[Xu g0,Xu g1,Xu g2,Xu g3,Xu g4,Xu g5,Xu k3] 280 (0,0)))/\(∀w',w'.1[b1]?=some (.cells #[Xu k0,Xu k1,Xu k2,Xu k3,Xu k4,Xu k5,Xu hh] 280 (0,0))->w'.1[b2]?=some (.cells #[Xu g0,Xu g1,Xu g2,Xu g3,Xu g4,Xu g5,Xu k3] 280 (0,0))->I w'):=⟨fun w'=>w'.1[b1]?=some (.cells #[Xu k0,Xu k1,Xu k2,Xu k3,Xu k4,Xu k5,Xu hh] 280 (0,0))/\w'.1[b2]?=some (.cells #[Xu g0,Xu g1,Xu g2,Xu g3,Xu g4,Xu g5,Xu k3] 280 (0,0)),fun _ h=>h,fun _ a b=>⟨a,b⟩⟩;have a7:=fun x:Fq I=>(ar _ x.ok).1;have a9:=fun x:Fq I=>(ar _ x.ok).2;obtain⟨y0,y1,y2,y3,y4,y5,y6⟩:=iZ a7;obtain⟨z0,z1,z2,z3,z4,z5,z6⟩:=iZ a9;have HI:=If au;have a':I w5.drew:=au _ r5 q5;clear a7 a9 q5 r5 ar au;refine Jz I [0,1,2,3,4,5,6,7] [8,9] k_ k_ a' ?_;exact qHhab
theorem tH{S S':St}{hh x:Nat}(hi:Fv S)(h:balM S hh=some (x,S')):Fv S':=by
 obtain⟨a,b,-,-,D⟩:=tI h
 cases D with
 | none _ _ _ h4=>rw[h4];exact hi
 | ll c d _ _ _ _ h5=>exact oT hi h5
 | lr c d y S1 S2 _ _ _ _ h5 h6 h7=>exact oT (gX (ow hi h5) h6) h7
 | rr c d _ _ _ _ _ h5=>exact ow hi h5
 | rl c d y S1 S2 _ _ _ _ _ h5 h6 h7=>exact ow (gX (oT hi h5) h6) h7
theorem tG{S S':St}(h:Ig w ps S Y)(hi:Fv S)(hh:Nat)(hl:hh<2^64)(hR:balM S hh=some (x,S')):
 Ct 218 #[PV ps,Xu hh] w fun e w'=>e=.returned (Xu x)/\Ig w' ps S' Y/\Fo Y w w':=by
 obtain⟨a,b,ha,hb,D⟩:=tI hR
 cases D with
 | none h1 h2 h3 h4=>subst h3 h4;exact yQ h hi x hl ha hb h1 h2
 | ll c d h1 h2 h3 h4 h5=>exact yO h hi hh hl ha hb h1 h2 h3 h4 h5
 | lr c d y S1 S2 h1 h2 h3 h4 h5 h6 h7=>exact yP h hi hh hl ha hb h1 h2 h3 h4 h5 h6 h7
 | rr c d _ h1 h2 h3 h4 h5=>exact yS h hi hh hl ha hb h1 h2 h3 h4 h5
 | rl c d y S1 S2 _ h1 h2 h3 h4 h5 h6 h7=>exact yR h hi hh hl ha hb h1 h2 h3 h4 h5 h6 h7