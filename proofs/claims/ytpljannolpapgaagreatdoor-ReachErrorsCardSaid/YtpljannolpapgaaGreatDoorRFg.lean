/- Trees balanced by their heights: left, right: the walks. -/
import Derived.Test.YtpljannolpapgaaGreatDoorRKi
set_option maxRecDepth 100000
set_option maxHeartbeats 6400000
namespace Go.Proofs.YtpljannolpapgaaGreatDoor
section
open Go.RowKit Tryz Go.BigFrame Go.Maps Go.WideMaps Lf
variable{R:Nat×Nat}{S:St}{Y:Nat->Prop}{ps:Nat}{w:World}{x:Nat}
theorem qFgaf{P:Prop}(h:P:=by
 split at h
 ·cases h
 ·rename_i S1 h1;obtain⟨S2,h2,h3⟩:=aG.1 h
  injection h3 with e1 e2
  subst e1 e2;exact⟨S1,h1,h2,rfl⟩):P:=h
theorem rp{S S':St}{hh x:Nat}(h:leftM S hh=some (x,S')):∃S1,fu S (f_ S hh).1 hh (f_ S hh).1.left (f_ S (f_ S hh).1.right).1.left=some S1/\fu S1 (f_ S (f_ S hh).1.right).1 (f_ S hh).1.right hh (f_ S (f_ S hh).1.right).1.right=some S'/\x=(f_ S hh).1.right:=by
 unfold leftM at h;exact qFgaf
theorem ow{S S':St}{hh x:Nat}(hi:Fv S)(h:leftM S hh=some (x,S')):Fv S':=by
 obtain⟨S1,h1,h2,_⟩:=rp h;exact gX (gX hi h1) h2
theorem qFgac{P:Prop}(h:P:=by
 iterate 13
  refine' hC ?_ ?_;rotate_left
  ·intro x;go_simp
   try rfl
  simp only[pu]
 refine mo ?_;clear y0 y1 y2 y3 y4 y5 y6 z0 z1 z2 z3 z4 z5 z6;refine gF _ (by rfl) (by rfl) (fun K hK=>?_);go_simp;refine(HG.c _ _ (HZ.a.a_ (aa _ _).drew)).M ?_;rintro e w5 ⟨rfl,h5,ar⟩;have u5:=(ar.block b1 (ae ⟨o_,a6⟩)).T HZ.b;have v5:=(ar.block b2 (ae ⟨o_,a7⟩)).T HZ.c;have H5:=kq4 h5 ar u5 v5;clear h5 ar u5 v5
 try go_simp
 refine hK.O _ _ (HI.O _ H5.c H5.d) ?_;clear hK K
 try simp only[pu]
 refine gF _ (by rfl) (by rfl) (fun K hK=>?_);go_simp;refine(HG.d _ _ H5.a).M ?_;rintro e w6 ⟨rfl,h6,au⟩;have u6:=(au.block b1 (ae ⟨o_,a6⟩)).T H5.c;have v6:=(au.block b2 (ae ⟨o_,a7⟩)).T H5.d;have H6:=kq4 h6 (H5.b.T au) u6 v6;clear h6 au u6 v6
 try go_simp
 refine hK.O _ _ (HI.O _ H6.c H6.d) ?_;clear hK K
 try simp only[pu]
 refine gF _ (by rfl) (by rfl) (fun K hK=>?_)
 try go_simp
 refine hK.O _ _ (HI.O _ H6.c H6.d) ?_;clear hK K
 try simp only[pu]
 refine J9 ?_;go_wp2_with fail;go_ret;exact⟨rfl,H6.a.M fun k hk=>ab hk,(Fo.v_ HZ.d.drew HG.e.yl).T (H6.b.M fun k hk=>ab hk)⟩):P:=h
theorem pR{S S':St}(h:Ig w ps S Y)(hi:Fv S)(hh:Nat)(hl:hh<2^64)(hR:leftM S hh=some (x,S')):
 Ct 240 #[PV ps,Xu hh] w fun e w'=>e=.returned (Xu x)/\Ig w' ps S' Y/\Fo Y w w':=by
 obtain⟨S1,h1,h2,rfl⟩:=rp hR;have hlt:=fs h hh;have ap:=fs h (f_ S hh).1.right;have a3:=gX hi h1;have hg:=gR h hi hh hl;have an:=fun W (hW:D_ w W)=>gR (h.a_ hW) hi (f_ S hh).1.right hlt.right;have ad:=fun W Z (hW:Ig W ps S Z)=>jG hW hi (f_ S hh).1 hlt hh (f_ S hh).1.left (f_ S (f_ S hh).1.right).1.left hl (by first | exact hlt.left | exact ap.right) (by first | exact ap.left | exact hlt.right) h1;have ai:=fun W Z (hW:Ig W ps S1 Z)=>jG hW a3 (f_ S (f_ S hh).1.right).1 ap (f_ S hh).1.right hh (f_ S (f_ S hh).1.right).1.right hlt.right (by first | exact hl | exact ap.left) (by first | exact ap.right | exact hl) h2;obtain⟨⟨⟨k0,k1,k2,k3,k4,k5⟩,er⟩,hE⟩:∃q,f_ S hh=q:=⟨_,rfl⟩;rw[hE] at hg an ad ai⊢;simp only at hg an ad ai⊢;obtain⟨⟨⟨g0,g1,g2,g3,g4,g5⟩,ba⟩,a2⟩:∃q,f_ S k3=q:=⟨_,rfl⟩;rw[a2] at an ad ai;simp only[gP] at hg an ad ai;have HG:=kq5 hg an ad ai h;clear hg an ad ai h hi a3 h1 h2 hlt ap hE a2 hR;go_enter func240,ntmps240;go_wp2_with fail;refine dR HG.a fun w1 hb1=>?_;have q:=heap_alloc_new w1 (Xa k0 k1 k2 k3 k4 k5 hh);have B1:=hb1.alloc hb1.size (Xa k0 k1 k2 k3 k4 k5 hh);have bb:=hb1.size;clear hb1;go_wp2_with fail;generalize a9:w1.alloc (Xa k0 k1 k2 k3 k4 k5 hh)=W1 at*;have a':w1.1.size<W1.1.size:=(gl q);generalize w1.1.size=b1 at*;refine dR (HG.b _ B1) fun w2 hb2=>?_;have q2:=(hb2.block b1 a').T q;have B2:=b_ B1 hb2;have bc:=hb2.size;clear hb2 q a9;have q4:=heap_alloc_new w2 (Xa g0 g1 g2 g3 g4 g5 k3);have r4:=((c_ w2 (Xa g0 g1 g2 g3 g4 g5 k3)).block b1 o_).T q2;have B4:=B2.alloc B2.size (Xa g0 g1 g2 g3 g4 g5 k3);have bd:w.1.size<=w2.1.size:=B2.size;clear q2 B1 B2;go_wp2_with fail;generalize w2.alloc (Xa g0 g1 g2 g3 g4 g5 k3)=W at*;generalize w2.1.size=b2 at*;have a6:=(gl r4);have a7:=(gl q4);have HZ:=kq4 (HG.e.wide B4) r4 q4 B4;obtain⟨I,a0,a1⟩:∃I:World->Prop,(∀w',I w'->w'.1[b1]?=some (.cells #[Xu k0,Xu k1,Xu k2,Xu k3,Xu k4,Xu k5,Xu hh] 280 (0,0))/\w'.1[b2]?=some (.cells #[Xu g0,Xu g1,Xu g2,Xu g3,Xu g4,Xu g5,Xu k3] 280 (0,0)))/\(∀w',w'.1[b1]?=some (.cells #[Xu k0,Xu k1,Xu k2,Xu k3,Xu k4,Xu k5,Xu hh] 280 (0,0))->w'.1[b2]?=some (.cells #[Xu g0,Xu g1,Xu g2,Xu g3,Xu g4,Xu g5,Xu k3] 280 (0,0))->I w'):=⟨fun w'=>w'.1[b1]?=some (.cells #[Xu k0,Xu k1,Xu k2,Xu k3,Xu k4,Xu k5,Xu hh] 280 (0,0))/\w'.1[b2]?=some (.cells #[Xu g0,Xu g1,Xu g2,Xu g3,Xu g4,Xu g5,Xu k3] 280 (0,0)),fun _ h=>h,fun _ a b=>⟨a,b⟩⟩;have a4:=fun x:Fq I=>(a0 _ x.ok).1;have a5:=fun x:Fq I=>(a0 _ x.ok).2;obtain⟨y0,y1,y2,y3,y4,y5,y6⟩:=iZ a4;obtain⟨z0,z1,z2,z3,z4,z5,z6⟩:=iZ a5;have HI:=If a1;have a8:I W.drew:=a1 _ r4 q4;clear a4 a5 q4 r4 B4 a0 a1;refine Jz I [0,1,2,3,4,5,6,7,8,9,11,12,13] [10,14,15] k_ k_ a8 ?_;exact qFgac
theorem se{S S':St}{hh x:Nat}(h:rightM S hh=some (x,S')):∃S1,fu S (f_ S hh).1 hh (f_ S (f_ S hh).1.left).1.right (f_ S hh).1.right=some S1/\fu S1 (f_ S (f_ S hh).1.left).1 (f_ S hh).1.left (f_ S (f_ S hh).1.left).1.left hh=some S'/\x=(f_ S hh).1.left:=by
 unfold rightM at h;exact qFgaf
theorem oT{S S':St}{hh x:Nat}(hi:Fv S)(h:rightM S hh=some (x,S')):Fv S':=by
 obtain⟨S1,h1,h2,_⟩:=se h;exact gX (gX hi h1) h2
theorem pS{S S':St}(h:Ig w ps S Y)(hi:Fv S)(hh:Nat)(hl:hh<2^64)(hR:rightM S hh=some (x,S')):
 Ct 241 #[PV ps,Xu hh] w fun e w'=>e=.returned (Xu x)/\Ig w' ps S' Y/\Fo Y w w':=by
 obtain⟨S1,h1,h2,rfl⟩:=se hR;have hlt:=fs h hh;have ap:=fs h (f_ S hh).1.left;have a3:=gX hi h1;have hg:=gR h hi hh hl;have an:=fun W (hW:D_ w W)=>gR (h.a_ hW) hi (f_ S hh).1.left hlt.left;have ad:=fun W Z (hW:Ig W ps S Z)=>jG hW hi (f_ S hh).1 hlt hh (f_ S (f_ S hh).1.left).1.right (f_ S hh).1.right hl (by first | exact hlt.left | exact ap.right) (by first | exact ap.left | exact hlt.right) h1;have ai:=fun W Z (hW:Ig W ps S1 Z)=>jG hW a3 (f_ S (f_ S hh).1.left).1 ap (f_ S hh).1.left (f_ S (f_ S hh).1.left).1.left hh hlt.left (by first | exact hl | exact ap.left) (by first | exact ap.right | exact hl) h2;obtain⟨⟨⟨k0,k1,k2,k3,k4,k5⟩,er⟩,hE⟩:∃q,f_ S hh=q:=⟨_,rfl⟩;rw[hE] at hg an ad ai⊢;simp only at hg an ad ai⊢;obtain⟨⟨⟨g0,g1,g2,g3,g4,g5⟩,ba⟩,a2⟩:∃q,f_ S k2=q:=⟨_,rfl⟩;rw[a2] at an ad ai;simp only[gP] at hg an ad ai;have HG:=kq5 hg an ad ai h;clear hg an ad ai h hi a3 h1 h2 hlt ap hE a2 hR;go_enter func241,ntmps241;go_wp2_with fail;refine dR HG.a fun w1 hb1=>?_;have q:=heap_alloc_new w1 (Xa k0 k1 k2 k3 k4 k5 hh);have B1:=hb1.alloc hb1.size (Xa k0 k1 k2 k3 k4 k5 hh);have bb:=hb1.size;clear hb1;go_wp2_with fail;generalize a9:w1.alloc (Xa k0 k1 k2 k3 k4 k5 hh)=W1 at*;have a':w1.1.size<W1.1.size:=(gl q);generalize w1.1.size=b1 at*;refine dR (HG.b _ B1) fun w2 hb2=>?_;have q2:=(hb2.block b1 a').T q;have B2:=b_ B1 hb2;have bc:=hb2.size;clear hb2 q a9;have q4:=heap_alloc_new w2 (Xa g0 g1 g2 g3 g4 g5 k2);have r4:=((c_ w2 (Xa g0 g1 g2 g3 g4 g5 k2)).block b1 o_).T q2;have B4:=B2.alloc B2.size (Xa g0 g1 g2 g3 g4 g5 k2);have bd:w.1.size<=w2.1.size:=B2.size;clear q2 B1 B2;go_wp2_with fail;generalize w2.alloc (Xa g0 g1 g2 g3 g4 g5 k2)=W at*;generalize w2.1.size=b2 at*;have a6:=(gl r4);have a7:=(gl q4);have HZ:=kq4 (HG.e.wide B4) r4 q4 B4;obtain⟨I,a0,a1⟩:∃I:World->Prop,(∀w',I w'->w'.1[b1]?=some (.cells #[Xu k0,Xu k1,Xu k2,Xu k3,Xu k4,Xu k5,Xu hh] 280 (0,0))/\w'.1[b2]?=some (.cells #[Xu g0,Xu g1,Xu g2,Xu g3,Xu g4,Xu g5,Xu k2] 280 (0,0)))/\(∀w',w'.1[b1]?=some (.cells #[Xu k0,Xu k1,Xu k2,Xu k3,Xu k4,Xu k5,Xu hh] 280 (0,0))->w'.1[b2]?=some (.cells #[Xu g0,Xu g1,Xu g2,Xu g3,Xu g4,Xu g5,Xu k2] 280 (0,0))->I w'):=⟨fun w'=>w'.1[b1]?=some (.cells #[Xu k0,Xu k1,Xu k2,Xu k3,Xu k4,Xu k5,Xu hh] 280 (0,0))/\w'.1[b2]?=some (.cells #[Xu g0,Xu g1,Xu g2,Xu g3,Xu g4,Xu g5,Xu k2] 280 (0,0)),fun _ h=>h,fun _ a b=>⟨a,b⟩⟩;have a4:=fun x:Fq I=>(a0 _ x.ok).1;have a5:=fun x:Fq I=>(a0 _ x.ok).2;obtain⟨y0,y1,y2,y3,y4,y5,y6⟩:=iZ a4;obtain⟨z0,z1,z2,z3,z4,z5,z6⟩:=iZ a5;have HI:=If a1;have a8:I W.drew:=a1 _ r4 q4;clear a4 a5 q4 r4 B4 a0 a1;refine Jz I [0,1,2,3,4,5,6,7,8,9,10,11,12] [13,14,15] k_ k_ a8 ?_;exact qFgac
inductive BalDid (S S':St) (hh x a b:Nat):Prop
 | none (h1:a<=b+1) (h2:b<=a+1) (h3:x=hh) (h4:S'=S):BalDid S S' hh x a b
 | ll (c d:Nat) (h1:b+1<a) (h2:eE S (f_ S (f_ S hh).1.left).1.left=some c) (h3:eE S (f_ S (f_ S hh).1.left).1.right=some d) (h4:¬c<d) (h5:rightM S hh=some (x,S')):BalDid S S' hh x a b
 | lr (c d y:Nat) (S1 S2:St) (h1:b+1<a) (h2:eE S (f_ S (f_ S hh).1.left).1.left=some c) (h3:eE S (f_ S (f_ S hh).1.left).1.right=some d) (h4:c<d) (h5:leftM S (f_ S hh).1.left=some (y,S1)) (h6:fu S1 (f_ S hh).1 hh y (f_ S hh).1.right=some S2) (h7:rightM S2 hh=some (x,S')):BalDid S S' hh x a b
 | rr (c d:Nat) (h0:¬b+1<a) (h1:a+1<b) (h2:eE S (f_ S (f_ S hh).1.right).1.left=some c) (h3:eE S (f_ S (f_ S hh).1.right).1.right=some d) (h4:¬d<c) (h5:leftM S hh=some (x,S')):BalDid S S' hh x a b
 | rl (c d y:Nat) (S1 S2:St) (h0:¬b+1<a) (h1:a+1<b) (h2:eE S (f_ S (f_ S hh).1.right).1.left=some c) (h3:eE S (f_ S (f_ S hh).1.right).1.right=some d) (h4:d<c) (h5:rightM S (f_ S hh).1.right=some (y,S1)) (h6:fu S1 (f_ S hh).1 hh (f_ S hh).1.left y=some S2) (h7:leftM S2 hh=some (x,S')):BalDid S S' hh x a b
theorem tI{S S':St}{hh x:Nat}(h:balM S hh=some (x,S')):∃a b,eE S (f_ S hh).1.left=some a/\eE S (f_ S hh).1.right=some b/\BalDid S S' hh x a b:=by
 unfold balM at h
 split at h
 ·rename_i a b ha hb;refine⟨a,b,ha,hb,?_⟩
  split at h
  ·rename_i h1
   split at h
   ·rename_i c d hc hd
    split at h
    ·rename_i h4
     split at h
     ·cases h
     ·rename_i y S1 h5
      split at h
      ·cases h
      ·rename_i S2 h6;exact .lr c d y S1 S2 h1 hc hd h4 h5 h6 h
    ·rename_i h4;exact .ll c d h1 hc hd h4 h
   ·cases h
  ·rename_i h0
   split at h
   ·rename_i h1
    split at h
    ·rename_i c d hc hd
     split at h
     ·rename_i h4
      split at h
      ·cases h
      ·rename_i y S1 h5
       split at h
       ·cases h
       ·rename_i S2 h6;exact .rl c d y S1 S2 h0 h1 hc hd h4 h5 h6 h
     ·rename_i h4;exact .rr c d h0 h1 hc hd h4 h
    ·cases h
   ·rename_i h1
    injection h with h
    injection h with e1 e2
    exact .none o_ o_ e1.S e2.S
 ·cases h
theorem Cj{S S':St}(h:Ig w ps S Y){hh x:Nat}(hR:leftM S hh=some (x,S')):x<2^64:=by
 obtain⟨_,_,_,rfl⟩:=rp hR;exact(fs h hh).right
theorem D9{S S':St}(h:Ig w ps S Y){hh x:Nat}(hR:rightM S hh=some (x,S')):x<2^64:=by
 obtain⟨_,_,_,rfl⟩:=se hR;exact(fs h hh).left
theorem yQ(h:Ig w ps S Y)(hi:Fv S)(hh:Nat)(hl:hh<2^64){a b:Nat}(ha:eE S (f_ S hh).1.left=some a)(hb:eE S (f_ S hh).1.right=some b)(h1:a<=b+1)(h2:b<=a+1):
 Ct 218 #[PV ps,Xu hh] w fun e w'=>e=.returned (Xu hh)/\Ig w' ps S Y/\Fo Y w w':=by
 have hg:=gR h hi hh hl;have hlt:=fs h hh;have ai:a<2^62:=by have:=F3 ha;omega
 have an:b<2^62:=by have:=F3 hb;omega
 have hA:=fun W (hW:D_ w W)=>fJ (h.a_ hW) hi (f_ S hh).1.left hlt.left ha;have hB:=fun W (hW:D_ w W)=>fJ (h.a_ hW) hi (f_ S hh).1.right hlt.right hb;obtain⟨⟨⟨k0,k1,k2,k3,k4,k5⟩,er⟩,hE⟩:∃r,f_ S hh=r:=⟨_,rfl⟩;rw[hE] at hg hA hB;simp only at hg hA hB;simp only[gP] at hg;have d0:IntKind.i64.wrap ((a:Int)-b)=(a:Int)-b:=ax _ o_;have d1:((1:Int)<(a:Int)-b)=False:=eq_false o_;have d2:((a:Int)-b< -1)=False:=eq_false o_;have HG:=kq4 hg hA hB h;clear hg hA hB h hi hE hlt ha hb h1 h2 ai an;go_enter func218,ntmps218;go_wp2_with fail;refine dR HG.a fun w1 hb1=>?_;have q:=heap_alloc_new w1 (Xa k0 k1 k2 k3 k4 k5 hh);have B1:=hb1.alloc hb1.size (Xa k0 k1 k2 k3 k4 k5 hh);have a0:=hb1.size;clear hb1;go_wp2_with fail;generalize w1.alloc (Xa k0 k1 k2 k3 k4 k5 hh)=W at*;have ql:=(gl q);generalize w1.1.size=b1 at*;have ap:∀x:Fq (D_ W),x.to.cell? (x_ b1 2)=some (Xu k2):=fun x=>by rw[q_ ((x.ok.block _ ql).T q)];rfl
 have ar:∀x:Fq (D_ W),x.to.cell? (x_ b1 3)=some (Xu k3):=fun x=>by rw[q_ ((x.ok.block _ ql).T q)];rfl
 have hA:=fun x:Fq (D_ W)=>Calls.C6 (HG.b x.to (b_ B1 x.ok));have hB:=fun x:Fq (D_ W)=>Calls.C6 (HG.c x.to (b_ B1 x.ok));have HB:=kq2 B1 q;clear B1 q;refine iq (D_ W) k_ k_ (aa _ _).drew (fun _=>?_)
 repeat (first | go_big_quiet_skip | (go_big_quiet_want;go_big_quiet_op;first | go_big_quiet_on | (apply Exists.intro;refine⟨fun x=>?_,?_⟩;(· first | with_reducible exact hA x | with_reducible exact hB x);go_big_quiet_on)))
 refine wpQuiet_nil ?_;rintro _ ⟨v,rfl⟩;clear hA hB ap ar;have r2:=(v.ok.block b1 ql).T HB.b;have HX:=kq2 (b_ HB.a v.ok) r2;have au:=v.ok.size;obtain⟨w2,ad⟩:=Ii v.to;rw[ad] at HX r2 au⊢;clear ad v HB;clear r2;go_wp2_with fail;go_ret;exact⟨rfl,HG.d.a_ HX.a,Fo.v_ HX.a HG.d.yl⟩
theorem qFgaa{P:Prop}(h:P:=by
 generalize w3.1.size=b2 at*;have a':=(gl r4);have ap:=(gl q4);have a8:∀x:Fq (D_ W3),x.to.cell? (x_ b2 2)=some (Xu g2):=fun x=>by rw[q_ ((x.ok.block _ ap).T q4)];rfl
 have a9:∀x:Fq (D_ W3),x.to.cell? (x_ b2 3)=some (Xu g3):=fun x=>by rw[q_ ((x.ok.block _ ap).T q4)];rfl
 have hC:=fun x:Fq (D_ W3)=>Calls.C6 (HG.f x.to (b_ B4 x.ok));have hD:=fun x:Fq (D_ W3)=>Calls.C6 (HG.g x.to (b_ B4 x.ok));have ai:=kq3 B4 r4 q4;clear B4 r4 q4;refine iq (D_ W3) k_ k_ (aa _ _).drew (fun _=>?_)
 repeat (first | go_big_quiet_skip | (go_big_quiet_want;go_big_quiet_op;first | go_big_quiet_on | (apply Exists.intro;refine⟨fun x=>?_,?_⟩;(· first | with_reducible exact hC x | with_reducible exact hD x);go_big_quiet_on)))
 refine wpQuiet_nil ?_;rintro _ ⟨v,rfl⟩;clear hC hD a8 a9;have r5:=(v.ok.block b1 a').T ai.b;have q5:=(v.ok.block b2 ap).T ai.c;have B5:=b_ ai.a v.ok;have bb:=v.ok.size;obtain⟨w5,a1⟩:=Ii v.to;rw[a1] at r5 q5 B5 bb⊢;clear a1 v ai;have ar:=kq3 B5 r5 q5;clear r5 q5 B5;go_wp2_with fail;refine(HG.h _ _ (HG.d.a_ ar.a)).M ?_;rintro e w6 ⟨rfl,h6,k6⟩;have H6:=kq2 h6 ((Fo.v_ ar.a HG.d.yl).T k6);clear h6 k6;go_wp2_with fail;go_ret;exact⟨rfl,H6.O⟩):P:=h
theorem yO{S S':St}(h:Ig w ps S Y)(hi:Fv S)(hh:Nat)(hl:hh<2^64){a b:Nat}(ha:eE S (f_ S hh).1.left=some a)(hb:eE S (f_ S hh).1.right=some b){c d x:Nat}(h1:b+1<a)(h2:eE S (f_ S (f_ S hh).1.left).1.left=some c)(h3:eE S (f_ S (f_ S hh).1.left).1.right=some d)(h4:¬c<d)(h5:rightM S hh=some (x,S')):
 Ct 218 #[PV ps,Xu hh] w fun e w'=>e=.returned (Xu x)/\Ig w' ps S' Y/\Fo Y w w':=by
 have hg:=gR h hi hh hl;have hlt:=fs h hh;have a2:a<2^62:=by have:=F3 ha;omega
 have a3:b<2^62:=by have:=F3 hb;omega
 have hA:=fun W (hW:D_ w W)=>fJ (h.a_ hW) hi (f_ S hh).1.left hlt.left ha;have hB:=fun W (hW:D_ w W)=>fJ (h.a_ hW) hi (f_ S hh).1.right hlt.right hb;have an:=fs h (f_ S hh).1.left;have ad:=fun W (hW:D_ w W)=>gR (h.a_ hW) hi (f_ S hh).1.left hlt.left;have a4:c<2^62:=by have:=F3 h2;omega
 have a5:d<2^62:=by have:=F3 h3;omega
 have hC:=fun W (hW:D_ w W)=>fJ (h.a_ hW) hi (f_ S (f_ S hh).1.left).1.left an.left h2;have hD:=fun W (hW:D_ w W)=>fJ (h.a_ hW) hi (f_ S (f_ S hh).1.left).1.right an.right h3;have hF:=fun W Z (hW:Ig W ps S Z)=>pS hW hi hh hl h5;obtain⟨⟨⟨k0,k1,k2,k3,k4,k5⟩,er⟩,hE⟩:∃r,f_ S hh=r:=⟨_,rfl⟩;rw[hE] at hg hA hB ad hC hD;simp only at hg hA hB ad hC hD;obtain⟨⟨⟨g0,g1,g2,g3,g4,g5⟩,bc⟩,au⟩:∃q,f_ S k2=q:=⟨_,rfl⟩;rw[au] at ad hC hD;simp only[gP] at hg ad hC hD;have d0:IntKind.i64.wrap ((a:Int)-b)=(a:Int)-b:=ax _ o_;have d1:((1:Int)<(a:Int)-b)=True:=eq_true o_;have d3:((c:Int)<d)=False:=eq_false o_;have HG:=kq8 hg hA hB h ad hC hD hF;clear hg hA hB h ad hC hD hF hi hE hlt ha hb h1 h2 a2 a3 h3 h4 h5 an au a4 a5;go_enter func218,ntmps218;go_wp2_with fail;refine dR HG.a fun w1 hb1=>?_;have q:=heap_alloc_new w1 (Xa k0 k1 k2 k3 k4 k5 hh);have B1:=hb1.alloc hb1.size (Xa k0 k1 k2 k3 k4 k5 hh);have bd:=hb1.size;clear hb1;go_wp2_with fail;generalize w1.alloc (Xa k0 k1 k2 k3 k4 k5 hh)=W at*;have ql:=(gl q);generalize w1.1.size=b1 at*;have a6:∀x:Fq (D_ W),x.to.cell? (x_ b1 2)=some (Xu k2):=fun x=>by rw[q_ ((x.ok.block _ ql).T q)];rfl
 have a7:∀x:Fq (D_ W),x.to.cell? (x_ b1 3)=some (Xu k3):=fun x=>by rw[q_ ((x.ok.block _ ql).T q)];rfl
 have hA:=fun x:Fq (D_ W)=>Calls.C6 (HG.b x.to (b_ B1 x.ok));have hB:=fun x:Fq (D_ W)=>Calls.C6 (HG.c x.to (b_ B1 x.ok));have HB:=kq2 B1 q;clear B1 q;refine iq (D_ W) k_ k_ (aa _ _).drew (fun _=>?_)
 repeat (first | go_big_quiet_skip | (go_big_quiet_want;go_big_quiet_op;first | go_big_quiet_on | (apply Exists.intro;refine⟨fun x=>?_,?_⟩;(· first | with_reducible exact hA x | with_reducible exact hB x);go_big_quiet_on)))
 refine wpQuiet_nil ?_;rintro _ ⟨v,rfl⟩;clear hA hB a6 a7;have r2:=(v.ok.block b1 ql).T HB.b;have HX:=kq2 (b_ HB.a v.ok) r2;have ba:=v.ok.size;obtain⟨w2,a0⟩:=Ii v.to;rw[a0] at HX r2 ba⊢;clear a0 v HB;obtain⟨c0,c1,c2,c3,c4,c5,c6⟩:=gG r2;clear r2;go_wp2_with fail;clear c0 c1 c2 c3 c4 c5 c6;refine dR (HG.e _ HX.a) fun w3 hb3=>?_;have r3:=(hb3.block b1 o_).T HX.b;have B3:=b_ HX.a hb3;have q4:=heap_alloc_new w3 (Xa g0 g1 g2 g3 g4 g5 k2);have bf:=hb3.size;have r4:=((c_ w3 (Xa g0 g1 g2 g3 g4 g5 k2)).block b1 o_).T r3;have B4:=B3.alloc B3.size (Xa g0 g1 g2 g3 g4 g5 k2);have bj:w.1.size<=w3.1.size:=B3.size;clear hb3 r3 B3;go_wp2_with fail;generalize w3.alloc (Xa g0 g1 g2 g3 g4 g5 k2)=W3 at*;exact qFgaa
theorem qFgab{P:Prop}(h:P:=by
 iterate 8
  refine' hC ?_ ?_;rotate_left
  ·intro x;go_simp
   try rfl
  simp only[pu]
 refine mo ?_;clear y0 y1 y2 y3 y4 y5 y6 z0 z1 z2 z3 z4 z5 z6;refine gF _ (by rfl) (by rfl) (fun K hK=>?_);go_simp;refine(HG.i _ _ (HZ.O.a_ (aa _ _).drew)).M ?_;rintro e w6 ⟨rfl,h6,k6⟩;have u6:=(k6.block b1 (ae ⟨o_,o_⟩)).T an.b;have v6:=(k6.block b2 (ae ⟨o_,o_⟩)).T an.c;have H6:=kq4 h6 k6 u6 v6;clear h6 k6 u6 v6
 try go_simp
 refine hK.O _ _ (HI.O _ H6.c H6.d) ?_;clear hK K
 try simp only[pu]
 refine gF _ (by rfl) (by rfl) (fun K hK=>?_);go_simp;refine(HG.j _ _ H6.a).M ?_;rintro e w7 ⟨rfl,h7,k7⟩;have u7:=(k7.block b1 (ae ⟨o_,o_⟩)).T H6.c;have v7:=(k7.block b2 (ae ⟨o_,o_⟩)).T H6.d;have H7:=kq4 h7 (H6.b.T k7) u7 v7;clear h7 k7 u7 v7
 try go_simp
 refine hK.O _ _ (HI.O _ H7.c H7.d) ?_;clear hK K
 try simp only[pu]
 refine J9 ?_;go_wp2_with fail;refine(HG.h _ _ H7.a).M ?_;rintro e w8 ⟨rfl,h8,k8⟩;have H8:=kq2 h8 (H7.b.T k8);clear h8 k8;go_wp2_with fail;go_ret;exact⟨rfl,H8.a.M fun k hk=>ab hk,(Fo.v_ an.a.drew HG.d.yl).T (H8.b.M fun k hk=>ab hk)⟩):P:=h
theorem yP{S S':St}(h:Ig w ps S Y)(hi:Fv S)(hh:Nat)(hl:hh<2^64){a b:Nat}(ha:eE S (f_ S hh).1.left=some a)(hb:eE S (f_ S hh).1.right=some b){c d x y:Nat}{S1 S2:St}(h1:b+1<a)(h2:eE S (f_ S (f_ S hh).1.left).1.left=some c)(h3:eE S (f_ S (f_ S hh).1.left).1.right=some d)(h4:c<d)(h5:leftM S (f_ S hh).1.left=some (y,S1))(h6:fu S1 (f_ S hh).1 hh y (f_ S hh).1.right=some S2)(h7:rightM S2 hh=some (x,S')):
 Ct 218 #[PV ps,Xu hh] w fun e w'=>e=.returned (Xu x)/\Ig w' ps S' Y/\Fo Y w w':=by
 have hg:=gR h hi hh hl;have hlt:=fs h hh;have a':a<2^62:=by have:=F3 ha;omega
 have ba:b<2^62:=by have:=F3 hb;omega
 have hA:=fun W (hW:D_ w W)=>fJ (h.a_ hW) hi (f_ S hh).1.left hlt.left ha;have hB:=fun W (hW:D_ w W)=>fJ (h.a_ hW) hi (f_ S hh).1.right hlt.right hb;have a0:=fs h (f_ S hh).1.left;have ad:=fun W (hW:D_ w W)=>gR (h.a_ hW) hi (f_ S hh).1.left hlt.left;have bb:c<2^62:=by have:=F3 h2;omega
 have bc:d<2^62:=by have:=F3 h3;omega
 have hC:=fun W (hW:D_ w W)=>fJ (h.a_ hW) hi (f_ S (f_ S hh).1.left).1.left a0.left h2;have hD:=fun W (hW:D_ w W)=>fJ (h.a_ hW) hi (f_ S (f_ S hh).1.left).1.right a0.right h3;have au:=ow hi h5;have a3:=gX au h6;have a7:=Cj h h5;have hM:=fun W Z (hW:Ig W ps S Z)=>pR hW hi (f_ S hh).1.left hlt.left h5;have hN:=fun W Z (hW:Ig W ps S1 Z)=>jG hW au (f_ S hh).1 hlt hh y (f_ S hh).1.right hl a7 hlt.right h6;have hF:=fun W Z (hW:Ig W ps S2 Z)=>pS hW a3 hh hl h7;obtain⟨⟨⟨k0,k1,k2,k3,k4,k5⟩,er⟩,hE⟩:∃r,f_ S hh=r:=⟨_,rfl⟩;rw[hE] at hg hA hB ad hC hD hM hN;simp only at hg hA hB ad hC hD hM hN;obtain⟨⟨⟨g0,g1,g2,g3,g4,g5⟩,bs⟩,a2⟩:∃q,f_ S k2=q:=⟨_,rfl⟩;rw[a2] at ad hC hD;simp only[gP] at hg ad hC hD hN;have d0:IntKind.i64.wrap ((a:Int)-b)=(a:Int)-b:=ax _ o_;have d1:((1:Int)<(a:Int)-b)=True:=eq_true o_;have d3:((c:Int)<d)=True:=eq_true o_;have HG:=kq10 hg hA hB h ad hC hD hF hM hN;clear hg hA hB h ad hC hD hF hM hN hi hE hlt ha hb h1 h2 a' ba h3 h4 h5 h6 h7 a0 a2 bb bc au a3 a7;go_enter func218,ntmps218;go_wp2_with fail;refine dR HG.a fun w1 hb1=>?_;have q:=heap_alloc_new w1 (Xa k0 k1 k2 k3 k4 k5 hh);have B1:=hb1.alloc hb1.size (Xa k0 k1 k2 k3 k4 k5 hh);have bt:=hb1.size;clear hb1;go_wp2_with fail;generalize w1.alloc (Xa k0 k1 k2 k3 k4 k5 hh)=W at*;have ql:=(gl q);generalize w1.1.size=b1 at*;have bd:∀x:Fq (D_ W),x.to.cell? (x_ b1 2)=some (Xu k2):=fun x=>by rw[q_ ((x.ok.block _ ql).T q)];rfl
 have bf:∀x:Fq (D_ W),x.to.cell? (x_ b1 3)=some (Xu k3):=fun x=>by rw[q_ ((x.ok.block _ ql).T q)];rfl
 have hA:=fun x:Fq (D_ W)=>Calls.C6 (HG.b x.to (b_ B1 x.ok));have hB:=fun x:Fq (D_ W)=>Calls.C6 (HG.c x.to (b_ B1 x.ok));have HB:=kq2 B1 q;clear B1 q;refine iq (D_ W) k_ k_ (aa _ _).drew (fun _=>?_)
 repeat (first | go_big_quiet_skip | (go_big_quiet_want;go_big_quiet_op;first | go_big_quiet_on | (apply Exists.intro;refine⟨fun x=>?_,?_⟩;(· first | with_reducible exact hA x | with_reducible exact hB x);go_big_quiet_on)))
 refine wpQuiet_nil ?_;rintro _ ⟨v,rfl⟩;clear hA hB bd bf;have r2:=(v.ok.block b1 ql).T HB.b;have HX:=kq2 (b_ HB.a v.ok) r2;have bo:=v.ok.size;obtain⟨w2,a4⟩:=Ii v.to;rw[a4] at HX r2 bo⊢;clear a4 v HB;obtain⟨c0,c1,c2,c3,c4,c5,c6⟩:=gG r2;clear r2;go_wp2_with fail;clear c0 c1 c2 c3 c4 c5 c6;refine dR (HG.e _ HX.a) fun w3 hb3=>?_;have r3:=(hb3.block b1 o_).T HX.b;have B3:=b_ HX.a hb3;have q4:=heap_alloc_new w3 (Xa g0 g1 g2 g3 g4 g5 k2);have bu:=hb3.size;have r4:=((c_ w3 (Xa g0 g1 g2 g3 g4 g5 k2)).block b1 o_).T r3;have B4:=B3.alloc B3.size (Xa g0 g1 g2 g3 g4 g5 k2);have bv:w.1.size<=w3.1.size:=B3.size;clear hb3 r3 B3;go_wp2_with fail;generalize w3.alloc (Xa g0 g1 g2 g3 g4 g5 k2)=W3 at*;generalize w3.1.size=b2 at*;have bm:=(gl r4);have a1:=(gl q4);have bj:∀x:Fq (D_ W3),x.to.cell? (x_ b2 2)=some (Xu g2):=fun x=>by rw[q_ ((x.ok.block _ a1).T q4)];rfl
 have bk:∀x:Fq (D_ W3),x.to.cell? (x_ b2 3)=some (Xu g3):=fun x=>by rw[q_ ((x.ok.block _ a1).T q4)];rfl
 have hC:=fun x:Fq (D_ W3)=>Calls.C6 (HG.f x.to (b_ B4 x.ok));have hD:=fun x:Fq (D_ W3)=>Calls.C6 (HG.g x.to (b_ B4 x.ok));have ai:=kq3 B4 r4 q4;clear B4 r4 q4;refine iq (D_ W3) k_ k_ (aa _ _).drew (fun _=>?_)
 repeat (first | go_big_quiet_skip | (go_big_quiet_want;go_big_quiet_op;first | go_big_quiet_on | (apply Exists.intro;refine⟨fun x=>?_,?_⟩;(· first | with_reducible exact hC x | with_reducible exact hD x);go_big_quiet_on)))
 refine wpQuiet_nil ?_;rintro _ ⟨v,rfl⟩;clear hC hD bj bk;have r5:=(v.ok.block b1 bm).T ai.b;have q5:=(v.ok.block b2 a1).T ai.c;have B5:=b_ ai.a v.ok;have bq:=v.ok.size;obtain⟨w5,a5⟩:=Ii v.to;rw[a5] at r5 q5 B5 bq⊢;clear a5 v ai;have an:=kq3 B5 r5 q5;have HZ:=If (HG.d.wide B5);clear B5;go_wp2_with fail;obtain⟨I,ap,ar⟩:∃I:World->Prop,(∀w',I w'->w'.1[b1]?=some (.cells #[Xu k0,Xu k1,Xu k2,Xu k3,Xu k4,Xu k5,Xu hh] 280 (0,0))/\w'.1[b2]?=some (.cells #[Xu g0,Xu g1,Xu g2,Xu g3,Xu g4,Xu g5,Xu k2] 280 (0,0)))/\(∀w',w'.1[b1]?=some (.cells #[Xu k0,Xu k1,Xu k2,Xu k3,Xu k4,Xu k5,Xu hh] 280 (0,0))->w'.1[b2]?=some (.cells #[Xu g0,Xu g1,Xu g2,Xu g3,Xu g4,Xu g5,Xu k2] 280 (0,0))->I w'):=⟨fun w'=>w'.1[b1]?=some (.cells #[Xu k0,Xu k1,Xu k2,Xu k3,Xu k4,Xu k5,Xu hh] 280 (0,0))/\w'.1[b2]?=some (.cells #[Xu g0,Xu g1,Xu g2,Xu g3,Xu g4,Xu g5,Xu k2] 280 (0,0)),fun _ h=>h,fun _ a b=>⟨a,b⟩⟩;have a6:=fun x:Fq I=>(ap _ x.ok).1;have a8:=fun x:Fq I=>(ap _ x.ok).2;obtain⟨y0,y1,y2,y3,y4,y5,y6⟩:=iZ a6;obtain⟨z0,z1,z2,z3,z4,z5,z6⟩:=iZ a8;have HI:=If ar;have a9:I w5.drew:=ar _ r5 q5;clear a6 a8 q5 r5 ap ar;refine Jz I [0,1,2,3,4,6,7,8] [5,9] k_ k_ a9 ?_;exact qFgab
theorem yS{S S':St}(h:Ig w ps S Y)(hi:Fv S)(hh:Nat)(hl:hh<2^64){a b:Nat}(ha:eE S (f_ S hh).1.left=some a)(hb:eE S (f_ S hh).1.right=some b){c d x:Nat}(h1:a+1<b)(h2:eE S (f_ S (f_ S hh).1.right).1.left=some c)(h3:eE S (f_ S (f_ S hh).1.right).1.right=some d)(h4:¬d<c)(h5:leftM S hh=some (x,S')):
 Ct 218 #[PV ps,Xu hh] w fun e w'=>e=.returned (Xu x)/\Ig w' ps S' Y/\Fo Y w w':=by
 have hg:=gR h hi hh hl;have hlt:=fs h hh;have a2:a<2^62:=by have:=F3 ha;omega
 have a3:b<2^62:=by have:=F3 hb;omega
 have hA:=fun W (hW:D_ w W)=>fJ (h.a_ hW) hi (f_ S hh).1.left hlt.left ha;have hB:=fun W (hW:D_ w W)=>fJ (h.a_ hW) hi (f_ S hh).1.right hlt.right hb;have an:=fs h (f_ S hh).1.right;have ad:=fun W (hW:D_ w W)=>gR (h.a_ hW) hi (f_ S hh).1.right hlt.right;have a4:c<2^62:=by have:=F3 h2;omega
 have a5:d<2^62:=by have:=F3 h3;omega
 have hC:=fun W (hW:D_ w W)=>fJ (h.a_ hW) hi (f_ S (f_ S hh).1.right).1.left an.left h2;have hD:=fun W (hW:D_ w W)=>fJ (h.a_ hW) hi (f_ S (f_ S hh).1.right).1.right an.right h3;have hF:=fun W Z (hW:Ig W ps S Z)=>pR hW hi hh hl h5;obtain⟨⟨⟨k0,k1,k2,k3,k4,k5⟩,er⟩,hE⟩:∃r,f_ S hh=r:=⟨_,rfl⟩;rw[hE] at hg hA hB ad hC hD;simp only at hg hA hB ad hC hD;obtain⟨⟨⟨g0,g1,g2,g3,g4,g5⟩,bc⟩,au⟩:∃q,f_ S k3=q:=⟨_,rfl⟩;rw[au] at ad hC hD;simp only[gP] at hg ad hC hD;have d0:IntKind.i64.wrap ((a:Int)-b)=(a:Int)-b:=ax _ o_;have d1:((1:Int)<(a:Int)-b)=False:=eq_false o_;have d2:((a:Int)-b< -1)=True:=eq_true o_;have d3:((d:Int)<c)=False:=eq_false o_;have HG:=kq8 hg hA hB h ad hC hD hF;clear hg hA hB h ad hC hD hF hi hE hlt ha hb h1 h2 a2 a3 h3 h4 h5 an au a4 a5;go_enter func218,ntmps218;go_wp2_with fail;refine dR HG.a fun w1 hb1=>?_;have q:=heap_alloc_new w1 (Xa k0 k1 k2 k3 k4 k5 hh);have B1:=hb1.alloc hb1.size (Xa k0 k1 k2 k3 k4 k5 hh);have bd:=hb1.size;clear hb1;go_wp2_with fail;generalize w1.alloc (Xa k0 k1 k2 k3 k4 k5 hh)=W at*;have ql:=(gl q);generalize w1.1.size=b1 at*;have a6:∀x:Fq (D_ W),x.to.cell? (x_ b1 2)=some (Xu k2):=fun x=>by rw[q_ ((x.ok.block _ ql).T q)];rfl
 have a7:∀x:Fq (D_ W),x.to.cell? (x_ b1 3)=some (Xu k3):=fun x=>by rw[q_ ((x.ok.block _ ql).T q)];rfl
 have hA:=fun x:Fq (D_ W)=>Calls.C6 (HG.b x.to (b_ B1 x.ok));have hB:=fun x:Fq (D_ W)=>Calls.C6 (HG.c x.to (b_ B1 x.ok));have HB:=kq2 B1 q;clear B1 q;refine iq (D_ W) k_ k_ (aa _ _).drew (fun _=>?_)
 repeat (first | go_big_quiet_skip | (go_big_quiet_want;go_big_quiet_op;first | go_big_quiet_on | (apply Exists.intro;refine⟨fun x=>?_,?_⟩;(· first | with_reducible exact hA x | with_reducible exact hB x);go_big_quiet_on)))
 refine wpQuiet_nil ?_;rintro _ ⟨v,rfl⟩;clear hA hB a6 a7;have r2:=(v.ok.block b1 ql).T HB.b;have HX:=kq2 (b_ HB.a v.ok) r2;have ba:=v.ok.size;obtain⟨w2,a0⟩:=Ii v.to;rw[a0] at HX r2 ba⊢;clear a0 v HB;obtain⟨c0,c1,c2,c3,c4,c5,c6⟩:=gG r2;clear r2;go_wp2_with fail;clear c0 c1 c2 c3 c4 c5 c6;refine dR (HG.e _ HX.a) fun w3 hb3=>?_;have r3:=(hb3.block b1 o_).T HX.b;have B3:=b_ HX.a hb3;have q4:=heap_alloc_new w3 (Xa g0 g1 g2 g3 g4 g5 k3);have bf:=hb3.size;have r4:=((c_ w3 (Xa g0 g1 g2 g3 g4 g5 k3)).block b1 o_).T r3;have B4:=B3.alloc B3.size (Xa g0 g1 g2 g3 g4 g5 k3);have bj:w.1.size<=w3.1.size:=B3.size;clear hb3 r3 B3;go_wp2_with fail;generalize w3.alloc (Xa g0 g1 g2 g3 g4 g5 k3)=W3 at*;exact qFgaa
theorem yR{S S':St}(h:Ig w ps S Y)(hi:Fv S)(hh:Nat)(hl:hh<2^64){a b:Nat}(ha:eE S (f_ S hh).1.left=some a)(hb:eE S (f_ S hh).1.right=some b){c d x y:Nat}{S1 S2:St}(h1:a+1<b)(h2:eE S (f_ S (f_ S hh).1.right).1.left=some c)(h3:eE S (f_ S (f_ S hh).1.right).1.right=some d)(h4:d<c)(h5:rightM S (f_ S hh).1.right=some (y,S1))(h6:fu S1 (f_ S hh).1 hh (f_ S hh).1.left y=some S2)(h7:leftM S2 hh=some (x,S')):
 Ct 218 #[PV ps,Xu hh] w fun e w'=>e=.returned (Xu x)/\Ig w' ps S' Y/\Fo Y w w':=by
 have hg:=gR h hi hh hl;have hlt:=fs h hh;have a':a<2^62:=by have:=F3 ha;omega
 have ba:b<2^62:=by have:=F3 hb;omega
 have hA:=fun W (hW:D_ w W)=>fJ (h.a_ hW) hi (f_ S hh).1.left hlt.left ha;have hB:=fun W (hW:D_ w W)=>fJ (h.a_ hW) hi (f_ S hh).1.right hlt.right hb;have a0:=fs h (f_ S hh).1.right;have ad:=fun W (hW:D_ w W)=>gR (h.a_ hW) hi (f_ S hh).1.right hlt.right;have bb:c<2^62:=by have:=F3 h2;omega
 have bc:d<2^62:=by have:=F3 h3;omega
 have hC:=fun W (hW:D_ w W)=>fJ (h.a_ hW) hi (f_ S (f_ S hh).1.right).1.left a0.left h2;have hD:=fun W (hW:D_ w W)=>fJ (h.a_ hW) hi (f_ S (f_ S hh).1.right).1.right a0.right h3;have au:=oT hi h5;have a3:=gX au h6;have a7:=D9 h h5;have hM:=fun W Z (hW:Ig W ps S Z)=>pS hW hi (f_ S hh).1.right hlt.right h5;have hN:=fun W Z (hW:Ig W ps S1 Z)=>jG hW au (f_ S hh).1 hlt hh (f_ S hh).1.left y hl hlt.left a7 h6;have hF:=fun W Z (hW:Ig W ps S2 Z)=>pR hW a3 hh hl h7;obtain⟨⟨⟨k0,k1,k2,k3,k4,k5⟩,er⟩,hE⟩:∃r,f_ S hh=r:=⟨_,rfl⟩;rw[hE] at hg hA hB ad hC hD hM hN;simp only at hg hA hB ad hC hD hM hN;obtain⟨⟨⟨g0,g1,g2,g3,g4,g5⟩,bs⟩,a2⟩:∃q,f_ S k3=q:=⟨_,rfl⟩;rw[a2] at ad hC hD;simp only[gP] at hg ad hC hD hN;have d0:IntKind.i64.wrap ((a:Int)-b)=(a:Int)-b:=ax _ o_;have d1:((1:Int)<(a:Int)-b)=False:=eq_false o_;have d2:((a:Int)-b< -1)=True:=eq_true o_;have d3:((d:Int)<c)=True:=eq_true o_;have HG:=kq10 hg hA hB h ad hC hD hF hM hN;clear hg hA hB h ad hC hD hF hM hN hi hE hlt ha hb h1 h2 a' ba h3 h4 h5 h6 h7 a0 a2 bb bc au a3 a7;go_enter func218,ntmps218;go_wp2_with fail;refine dR HG.a fun w1 hb1=>?_;have q:=heap_alloc_new w1 (Xa k0 k1 k2 k3 k4 k5 hh);have B1:=hb1.alloc hb1.size (Xa k0 k1 k2 k3 k4 k5 hh);have bt:=hb1.size;clear hb1;go_wp2_with fail;generalize w1.alloc (Xa k0 k1 k2 k3 k4 k5 hh)=W at*;have ql:=(gl q);generalize w1.1.size=b1 at*;have bd:∀x:Fq (D_ W),x.to.cell? (x_ b1 2)=some (Xu k2):=fun x=>by rw[q_ ((x.ok.block _ ql).T q)];rfl
 have bf:∀x:Fq (D_ W),x.to.cell? (x_ b1 3)=some (Xu k3):=fun x=>by rw[q_ ((x.ok.block _ ql).T q)];rfl
 have hA:=fun x:Fq (D_ W)=>Calls.C6 (HG.b x.to (b_ B1 x.ok));have hB:=fun x:Fq (D_ W)=>Calls.C6 (HG.c x.to (b_ B1 x.ok));have HB:=kq2 B1 q;clear B1 q;refine iq (D_ W) k_ k_ (aa _ _).drew (fun _=>?_)
 repeat (first | go_big_quiet_skip | (go_big_quiet_want;go_big_quiet_op;first | go_big_quiet_on | (apply Exists.intro;refine⟨fun x=>?_,?_⟩;(· first | with_reducible exact hA x | with_reducible exact hB x);go_big_quiet_on)))
 refine wpQuiet_nil ?_;rintro _ ⟨v,rfl⟩;clear hA hB bd bf;have r2:=(v.ok.block b1 ql).T HB.b;have HX:=kq2 (b_ HB.a v.ok) r2;have bo:=v.ok.size;obtain⟨w2,a4⟩:=Ii v.to;rw[a4] at HX r2 bo⊢;clear a4 v HB;obtain⟨c0,c1,c2,c3,c4,c5,c6⟩:=gG r2;clear r2;go_wp2_with fail;clear c0 c1 c2 c3 c4 c5 c6;refine dR (HG.e _ HX.a) fun w3 hb3=>?_;have r3:=(hb3.block b1 o_).T HX.b;have B3:=b_ HX.a hb3;have q4:=heap_alloc_new w3 (Xa g0 g1 g2 g3 g4 g5 k3);have bu:=hb3.size;have r4:=((c_ w3 (Xa g0 g1 g2 g3 g4 g5 k3)).block b1 o_).T r3;have B4:=B3.alloc B3.size (Xa g0 g1 g2 g3 g4 g5 k3);have bv:w.1.size<=w3.1.size:=B3.size;clear hb3 r3 B3;go_wp2_with fail;generalize w3.alloc (Xa g0 g1 g2 g3 g4 g5 k3)=W3 at*;generalize w3.1.size=b2 at*;have bm:=(gl r4);have a1:=(gl q4);have bj:∀x:Fq (D_ W3),x.to.cell? (x_ b2 2)=some (Xu g2):=fun x=>by rw[q_ ((x.ok.block _ a1).T q4)];rfl
 have bk:∀x:Fq (D_ W3),x.to.cell? (x_ b2 3)=some (Xu g3):=fun x=>by rw[q_ ((x.ok.block _ a1).T q4)];rfl
 have hC:=fun x:Fq (D_ W3)=>Calls.C6 (HG.f x.to (b_ B4 x.ok));have hD:=fun x:Fq (D_ W3)=>Calls.C6 (HG.g x.to (b_ B4 x.ok));have ai:=kq3 B4 r4 q4;clear B4 r4 q4;refine iq (D_ W3) k_ k_ (aa _ _).drew (fun _=>?_)
 repeat (first | go_big_quiet_skip | (go_big_quiet_want;go_big_quiet_op;first | go_big_quiet_on | (apply Exists.intro;refine⟨fun x=>?_,?_⟩;(· first | with_reducible exact hC x | with_reducible exact hD x);go_big_quiet_on)))
 refine wpQuiet_nil ?_;rintro _ ⟨v,rfl⟩;clear hC hD bj bk;have r5:=(v.ok.block b1 bm).T ai.b;have q5:=(v.ok.block b2 a1).T ai.c;have B5:=b_ ai.a v.ok;have bq:=v.ok.size;obtain⟨w5,a5⟩:=Ii v.to;rw[a5] at r5 q5 B5 bq⊢;clear a5 v ai;have an:=kq3 B5 r5 q5;have HZ:=If (HG.d.wide B5);clear B5;go_wp2_with fail;obtain⟨I,ap,ar⟩:∃I:World->Prop,(∀w',I w'->w'.1[b1]?=some (.cells #[Xu k0,Xu k1,Xu k2,Xu k3,Xu k4,Xu k5,Xu hh] 280 (0,0))/\w'.1[b2]?=some (.cells #[Xu g0,Xu g1,Xu g2,Xu g3,Xu g4,Xu g5,Xu k3] 280 (0,0)))/\(∀w',w'.1[b1]?=some (.cells #[Xu k0,Xu k1,Xu k2,Xu k3,Xu k4,Xu k5,Xu hh] 280 (0,0))->w'.1[b2]?=some (.cells #[Xu g0,Xu g1,Xu g2,Xu g3,Xu g4,Xu g5,Xu k3] 280 (0,0))->I w'):=⟨fun w'=>w'.1[b1]?=some (.cells #[Xu k0,Xu k1,Xu k2,Xu k3,Xu k4,Xu k5,Xu hh] 280 (0,0))/\w'.1[b2]?=some (.cells #[Xu g0,Xu g1,Xu g2,Xu g3,Xu g4,Xu g5,Xu k3] 280 (0,0)),fun _ h=>h,fun _ a b=>⟨a,b⟩⟩;have a6:=fun x:Fq I=>(ap _ x.ok).1;have a8:=fun x:Fq I=>(ap _ x.ok).2;obtain⟨y0,y1,y2,y3,y4,y5,y6⟩:=iZ a6;obtain⟨z0,z1,z2,z3,z4,z5,z6⟩:=iZ a8;have HI:=If ar;have a9:I w5.drew:=ar _ r5 q5;clear a6 a8 q5 r5 ap ar;refine Jz I [0,1,2,3,4,5,6,7] [8,9] k_ k_ a9 ?_;exact qFgab
theorem tH{S S':St}{hh x:Nat}(hi:Fv S)(h:balM S hh=some (x,S')):Fv S':=by
 obtain⟨a,b,-,-,D⟩:=tI h
 cases D with
 | none _ _ _ h4=>rw[h4];exact hi
 | ll c d _ _ _ _ h5=>exact oT hi h5
 | lr c d y S1 S2 _ _ _ _ h5 h6 h7=>exact oT (gX (ow hi h5) h6) h7
 | rr c d _ _ _ _ _ h5=>exact ow hi h5
 | rl c d y S1 S2 _ _ _ _ _ h5 h6 h7=>exact ow (gX (oT hi h5) h6) h7
theorem tG{S S':St}(h:Ig w ps S Y)(hi:Fv S)(hh:Nat)(hl:hh<2^64)(hR:balM S hh=some (x,S')):
 Ct 218 #[PV ps,Xu hh] w fun e w'=>e=.returned (Xu x)/\Ig w' ps S' Y/\Fo Y w w':=by
 obtain⟨a,b,ha,hb,D⟩:=tI hR
 cases D with
 | none h1 h2 h3 h4=>subst h3 h4;exact yQ h hi x hl ha hb h1 h2
 | ll c d h1 h2 h3 h4 h5=>exact yO h hi hh hl ha hb h1 h2 h3 h4 h5
 | lr c d y S1 S2 h1 h2 h3 h4 h5 h6 h7=>exact yP h hi hh hl ha hb h1 h2 h3 h4 h5 h6 h7
 | rr c d _ h1 h2 h3 h4 h5=>exact yS h hi hh hl ha hb h1 h2 h3 h4 h5
 | rl c d y S1 S2 _ h1 h2 h3 h4 h5 h6 h7=>exact yR h hi hh hl ha hb h1 h2 h3 h4 h5 h6 h7
theorem lT(n:Nd){m:Nat}:∀(f:Nat) {S S':St} {l r x:Nat},Fv S->joinB n m f S l r=some (x,S')->Fv S'/\(m<2^64->x<2^64)
 | 0,S,S',l,r,x,hi,hj=>by
  rw[qY] at hj;obtain⟨S1,h1,h2⟩:=aG.1 hj;injection h2 with e1 e2
  subst e1 e2;exact⟨gX hi h1,id⟩
 | f+1,S,S',l,r,x,hi,hj=>by
  rw[qX] at hj;split at hj
  ·split at hj
   ·split at hj
    ·cases hj
    ·rename_i x1 S1 h1;split at hj
     ·cases hj
     ·rename_i S2 h2;obtain⟨hb,hx⟩:=lM hj;exact⟨tH (gX (lT n f hi h1).1 h2) hb,fun _=>hx⟩
   ·split at hj
    ·split at hj
     ·cases hj
     ·rename_i x1 S1 h1;split at hj
      ·cases hj
      ·rename_i S2 h2;obtain⟨hb,hx⟩:=lM hj;exact⟨tH (gX (lT n f hi h1).1 h2) hb,fun _=>hx⟩
    ·obtain⟨S1,h1,h2⟩:=aG.1 hj;injection h2 with e1 e2
     subst e1 e2;exact⟨gX hi h1,id⟩
  ·cases hj
theorem yU(n:Nd)(hn:ji n)(m:Nat)(hm:m<2^64):∀(f d:Nat),d+f=100->∀{w:World} {S S':St} {Y:Nat->Prop} {l r x:Nat},Ig w ps S Y->Fv S->l<2^64->r<2^64->
 joinB n m f S l r=some (x,S')->
 Ct 185 #[PV ps,Xu l,Xu r,gP n m,Xi d] w fun e w'=>e=.returned (Xu x)/\Ig w' ps S' Y/\Fo Y w w':=by
 intro f;induction f with
 | zero=>
  intro d hd w S S' Y l r x h hi hl hr hj;obtain rfl:d=100:=o_
  rw[qY] at hj;obtain⟨S1,h1,h2⟩:=aG.1 hj;injection h2 with e1 e2
  subst e1 e2;obtain⟨a,b,-,-,ha,hb,-,-,-⟩:=Ht h1;have hA:=fun W (hW:D_ w W)=>fJ (h.a_ hW) hi l hl ha;have hB:=fun W (hW:D_ w W)=>fJ (h.a_ hW) hi r hr hb;have hW:=fun W Z (hW:Ig W ps S Z)=>jG hW hi n hn m l r hm hl hr h1;obtain⟨k0,k1,k2,k3,k4,k5⟩:=n;simp only[gP] at hW⊢;have q0:=heap_alloc_new w (Xa k0 k1 k2 k3 k4 k5 m);have B0:=c_ w (Xa k0 k1 k2 k3 k4 k5 m);have HG:=kq6 hA hB hW h q0 B0;clear hA hB hW h hi hj h1 ha hb q0 B0 hd hn;go_enter func185,ntmps185;go_wp2_with fail;refine dR (HG.a _ HG.f) fun w1 hb1=>?_;have H1:=kq2 (b_ HG.f hb1) ((hb1.block w.1.size s_).T HG.e);clear hb1;go_wp2_with fail;refine dR (HG.b _ H1.a) fun w2 hb2=>?_;have r2:=(hb2.block w.1.size (gl H1.b)).T H1.b;obtain⟨c0,c1,c2,c3,c4,c5,c6⟩:=gG r2;have H2:=If (b_ H1.a hb2);clear hb2 r2;go_wp2_with fail;refine(HG.c _ _ (HG.d.a_ H2.O)).M ?_;rintro e w3 ⟨rfl,h3,a8⟩;have H3:=kq2 h3 ((Fo.v_ H2.O HG.d.yl).T a8);clear h3 a8;go_wp2_with fail;go_ret;exact⟨rfl,H3.O⟩
 | succ f ih=>
  intro d hd w S S' Y l r x h hi hl hr hj;rw[qX] at hj;split at hj
  case h_2=>cases hj
  rename_i a b ha hb;have bd:a<2^62:=by have:=F3 ha;omega
  have bf:b<2^62:=by have:=F3 hb;omega
  have hA:=fun W (hW:D_ w W)=>fJ (h.a_ hW) hi l hl ha;have hB:=fun W (hW:D_ w W)=>fJ (h.a_ hW) hi r hr hb;have bj:((d:Int)==100)=false:=m_
  split at hj
  ·rename_i hba;have ba:((b:Int)+1<a)=True:=eq_true o_;split at hj
   ·cases hj
   rename_i x1 S1 hj1;split at hj
   ·cases hj
   rename_i S2 hj2;obtain⟨hj,a'⟩:=lM hj;obtain⟨a1,ai⟩:=lT n f hi hj1;have ai:=ai hm;have a4:=gX a1 hj2;have ad:=fs h l;have hg:=fun W (hW:D_ w W)=>gR (h.a_ hW) hi l hl;have cr:=fun W Z (hW:Ig W ps S Z)=>ih (d+1) o_ hW hi ad.right hr hj1;have cw:=fun W Z (hW:Ig W ps S1 Z)=>jG hW a1 (f_ S l).1 ad l (f_ S l).1.left x1 hl ad.left ai hj2;have cb:=fun W Z (hW:Ig W ps S2 Z)=>tG hW a4 _ hl hj;obtain⟨⟨⟨g0,g1,g2,g3,g4,g5⟩,er⟩,hE⟩:∃r,f_ S l=r:=⟨_,rfl⟩;rw[hE] at hg cr cw;obtain⟨k0,k1,k2,k3,k4,k5⟩:=n;simp only[gP] at hg cr cw⊢;have bb:IntKind.i64.wrap ((d:Int)+1)=(d:Int)+1:=ax _ o_;have q0:=heap_alloc_new w (Xa k0 k1 k2 k3 k4 k5 m);have B0:=c_ w (Xa k0 k1 k2 k3 k4 k5 m);have HG:=kq9 hA hB hg h q0 B0 cr cw cb;clear hA hB hg cr cw cb h hi a1 a4 hj hj1 hj2 ha hb q0 B0 ih hn ad a' ai hE;go_enter func185,ntmps185;go_wp2_with fail;refine dR (HG.a _ HG.f) fun w1 hb1=>?_;have H1:=kq2 (b_ HG.f hb1) ((hb1.block w.1.size s_).T HG.e);clear hb1;go_wp2_with fail;refine dR (HG.b _ H1.a) fun w2 hb2=>?_;have H2:=kq2 (b_ H1.a hb2) ((hb2.block w.1.size (gl H1.b)).T H1.b);clear hb2;go_wp2_with fail;refine dR (HG.c _ H2.a) fun w3 hb3=>?_;have r3:=(hb3.block w.1.size (gl H2.b)).T H2.b;have B3:=b_ H2.a hb3;have q4:=heap_alloc_new w3 (Xa g0 g1 g2 g3 g4 g5 l);have r4:=((c_ w3 (Xa g0 g1 g2 g3 g4 g5 l)).block w.1.size (gl r3)).T r3;have B4:=B3.alloc B3.size (Xa g0 g1 g2 g3 g4 g5 l);clear hb3 r3;have a5:=B3.size;go_wp2_with fail;generalize w3.alloc (Xa g0 g1 g2 g3 g4 g5 l)=W at*;generalize w3.1.size=b13 at*;have a3:=(gl r4);have a2:=(gl q4);have zw:=HG.d.wide B4;have HZ:=kq5 zw r4 q4 B4 a5;obtain⟨I,au,a0⟩:∃I:World->Prop,(∀w',I w'->w'.1[w.1.size]?=some (Xa k0 k1 k2 k3 k4 k5 m)/\w'.1[b13]?=some (Xa g0 g1 g2 g3 g4 g5 l))/\(∀w',w'.1[w.1.size]?=some (Xa k0 k1 k2 k3 k4 k5 m)->w'.1[b13]?=some (Xa g0 g1 g2 g3 g4 g5 l)->I w'):=⟨fun w'=>w'.1[w.1.size]?=some (Xa k0 k1 k2 k3 k4 k5 m)/\w'.1[b13]?=some (Xa g0 g1 g2 g3 g4 g5 l),fun _ h=>h,fun _ a b=>⟨a,b⟩⟩;have a6:=fun x:Fq I=>(au _ x.ok).1;have a7:=fun x:Fq I=>(au _ x.ok).2;obtain⟨y0,y1,y2,y3,y4,y5,y6⟩:=iZ a6;obtain⟨z0,z1,z2,z3,z4,z5,z6⟩:=iZ a7;have HI:=If a0;have a9:I W.drew:=a0 _ r4 q4;clear a6 a7 q4 r4 zw B4 a5 au a0;refine Jz I [0,1,2,3,4,5,6,7,8,9,10,11,12,13] [14,15,16,17] k_ k_ a9 ?_;iterate 14
    refine' hC ?_ ?_;rotate_left
    ·intro x;go_simp;try rfl
    simp only[pu]
   refine mo ?_;clear y0 y1 y2 y3 y4 y5 y6 z0 z1 z2 z3 z4 z5 z6;refine gF _ (by rfl) (by rfl) (fun K hK=>?_);go_simp;refine(HG.g _ _ (HZ.a.a_ (aa _ _).drew)).M ?_;rintro e w5 ⟨rfl,h5,an⟩;have u5:w5.1[w.1.size]?=_:=(an.block _ (ae ⟨Nat.le_refl _,a3⟩)).T HZ.b;have v5:w5.1[b13]?=_:=(an.block _ (ae ⟨HZ.e,a2⟩)).T HZ.c;have H5:=kq4 h5 an u5 v5;clear h5 an u5 v5;try go_simp
   refine hK.O _ _ (HI.O _ H5.c H5.d) ?_;clear hK K;try simp only[pu]
   refine gF _ (by rfl) (by rfl) (fun K hK=>?_);go_simp;refine(HG.h _ _ H5.a).M ?_;rintro e w6 ⟨rfl,h6,ap⟩;have u6:w6.1[w.1.size]?=_:=(ap.block _ (ae ⟨Nat.le_refl _,a3⟩)).T H5.c;have v6:w6.1[b13]?=_:=(ap.block _ (ae ⟨HZ.e,a2⟩)).T H5.d;have H6:=kq4 h6 (H5.b.T ap) u6 v6;clear h6 ap u6 v6;try go_simp
   refine hK.O _ _ (HI.O _ H6.c H6.d) ?_;clear hK K;try simp only[pu]
   refine gF _ (by rfl) (by rfl) (fun K hK=>?_);go_simp;refine(HG.i _ _ H6.a).M ?_;rintro e w7 ⟨rfl,h7,ar⟩;have u7:w7.1[w.1.size]?=_:=(ar.block _ (ae ⟨Nat.le_refl _,a3⟩)).T H6.c;have v7:w7.1[b13]?=_:=(ar.block _ (ae ⟨HZ.e,a2⟩)).T H6.d;have H7:=kq4 h7 (H6.b.T ar) u7 v7;clear h7 ar u7 v7;try go_simp
   refine hK.O _ _ (HI.O _ H7.c H7.d) ?_;clear hK K;try simp only[pu]
   refine gF _ (by rfl) (by rfl) (fun K hK=>?_);try go_simp
   refine hK.O _ _ (HI.O _ H7.c H7.d) ?_;clear hK K;try simp only[pu]
   refine J9 ?_;go_wp2_with fail;go_ret;exact⟨rfl,H7.a.M fun k hk=>ab hk,(Fo.v_ HZ.d.drew HG.d.yl).T (H7.b.M fun k hk=>ab hk)⟩
  ·split at hj
   ·rename_i hab;have ba:((b:Int)+1<a)=False:=eq_false o_;have bc:((a:Int)+1<b)=True:=eq_true o_;split at hj
    ·cases hj
    rename_i x1 S1 hj1;split at hj
    ·cases hj
    rename_i S2 hj2;obtain⟨hj,a'⟩:=lM hj;obtain⟨a1,ai⟩:=lT n f hi hj1;have ai:=ai hm;have a4:=gX a1 hj2;have ad:=fs h r;have hg:=fun W (hW:D_ w W)=>gR (h.a_ hW) hi r hr;have cr:=fun W Z (hW:Ig W ps S Z)=>ih (d+1) o_ hW hi hl ad.left hj1;have cw:=fun W Z (hW:Ig W ps S1 Z)=>jG hW a1 (f_ S r).1 ad r x1 (f_ S r).1.right hr ai ad.right hj2;have cb:=fun W Z (hW:Ig W ps S2 Z)=>tG hW a4 _ hr hj;obtain⟨⟨⟨g0,g1,g2,g3,g4,g5⟩,er⟩,hE⟩:∃q,f_ S r=q:=⟨_,rfl⟩;rw[hE] at hg cr cw;obtain⟨k0,k1,k2,k3,k4,k5⟩:=n;simp only[gP] at hg cr cw⊢;have bb:IntKind.i64.wrap ((d:Int)+1)=(d:Int)+1:=ax _ o_;have q0:=heap_alloc_new w (Xa k0 k1 k2 k3 k4 k5 m);have B0:=c_ w (Xa k0 k1 k2 k3 k4 k5 m);have HG:=kq9 hA hB hg h q0 B0 cr cw cb;clear hA hB hg cr cw cb h hi a1 a4 hj hj1 hj2 ha hb q0 B0 ih hn ad a' ai hE;go_enter func185,ntmps185;go_wp2_with fail;refine dR (HG.a _ HG.f) fun w1 hb1=>?_;have H1:=kq2 (b_ HG.f hb1) ((hb1.block w.1.size s_).T HG.e);clear hb1;go_wp2_with fail;refine dR (HG.b _ H1.a) fun w2 hb2=>?_;have H2:=kq2 (b_ H1.a hb2) ((hb2.block w.1.size (gl H1.b)).T H1.b);clear hb2;go_wp2_with fail;refine dR (HG.c _ H2.a) fun w3 hb3=>?_;have r3:=(hb3.block w.1.size (gl H2.b)).T H2.b;have B3:=b_ H2.a hb3;have q4:=heap_alloc_new w3 (Xa g0 g1 g2 g3 g4 g5 r);have r4:=((c_ w3 (Xa g0 g1 g2 g3 g4 g5 r)).block w.1.size (gl r3)).T r3;have B4:=B3.alloc B3.size (Xa g0 g1 g2 g3 g4 g5 r);clear hb3 r3;have a5:=B3.size;go_wp2_with fail;generalize w3.alloc (Xa g0 g1 g2 g3 g4 g5 r)=W at*;generalize w3.1.size=b13 at*;have a3:=(gl r4);have a2:=(gl q4);have zw:=HG.d.wide B4;have HZ:=kq5 zw r4 q4 B4 a5;obtain⟨I,au,a0⟩:∃I:World->Prop,(∀w',I w'->w'.1[w.1.size]?=some (Xa k0 k1 k2 k3 k4 k5 m)/\w'.1[b13]?=some (Xa g0 g1 g2 g3 g4 g5 r))/\(∀w',w'.1[w.1.size]?=some (Xa k0 k1 k2 k3 k4 k5 m)->w'.1[b13]?=some (Xa g0 g1 g2 g3 g4 g5 r)->I w'):=⟨fun w'=>w'.1[w.1.size]?=some (Xa k0 k1 k2 k3 k4 k5 m)/\w'.1[b13]?=some (Xa g0 g1 g2 g3 g4 g5 r),fun _ h=>h,fun _ a b=>⟨a,b⟩⟩;have a6:=fun x:Fq I=>(au _ x.ok).1;have a7:=fun x:Fq I=>(au _ x.ok).2;obtain⟨y0,y1,y2,y3,y4,y5,y6⟩:=iZ a6;obtain⟨z0,z1,z2,z3,z4,z5,z6⟩:=iZ a7;have HI:=If a0;have a9:I W.drew:=a0 _ r4 q4;clear a6 a7 q4 r4 zw B4 a5 au a0;refine Jz I [0,1,2,3,4,5,6,7,8,9,10,12,13,14] [11,15,16,17] k_ k_ a9 ?_;iterate 14
     refine' hC ?_ ?_;rotate_left
     ·intro x;go_simp;try rfl
     simp only[pu]
    refine mo ?_;clear y0 y1 y2 y3 y4 y5 y6 z0 z1 z2 z3 z4 z5 z6;refine gF _ (by rfl) (by rfl) (fun K hK=>?_);go_simp;refine(HG.g _ _ (HZ.a.a_ (aa _ _).drew)).M ?_;rintro e w5 ⟨rfl,h5,an⟩;have u5:w5.1[w.1.size]?=_:=(an.block _ (ae ⟨Nat.le_refl _,a3⟩)).T HZ.b;have v5:w5.1[b13]?=_:=(an.block _ (ae ⟨HZ.e,a2⟩)).T HZ.c;have H5:=kq4 h5 an u5 v5;clear h5 an u5 v5;try go_simp
    refine hK.O _ _ (HI.O _ H5.c H5.d) ?_;clear hK K;try simp only[pu]
    refine gF _ (by rfl) (by rfl) (fun K hK=>?_);go_simp;refine(HG.h _ _ H5.a).M ?_;rintro e w6 ⟨rfl,h6,ap⟩;have u6:w6.1[w.1.size]?=_:=(ap.block _ (ae ⟨Nat.le_refl _,a3⟩)).T H5.c;have v6:w6.1[b13]?=_:=(ap.block _ (ae ⟨HZ.e,a2⟩)).T H5.d;have H6:=kq4 h6 (H5.b.T ap) u6 v6;clear h6 ap u6 v6;try go_simp
    refine hK.O _ _ (HI.O _ H6.c H6.d) ?_;clear hK K;try simp only[pu]
    refine gF _ (by rfl) (by rfl) (fun K hK=>?_);go_simp;refine(HG.i _ _ H6.a).M ?_;rintro e w7 ⟨rfl,h7,ar⟩;have u7:w7.1[w.1.size]?=_:=(ar.block _ (ae ⟨Nat.le_refl _,a3⟩)).T H6.c;have v7:w7.1[b13]?=_:=(ar.block _ (ae ⟨HZ.e,a2⟩)).T H6.d;have H7:=kq4 h7 (H6.b.T ar) u7 v7;clear h7 ar u7 v7;try go_simp
    refine hK.O _ _ (HI.O _ H7.c H7.d) ?_;clear hK K;try simp only[pu]
    refine gF _ (by rfl) (by rfl) (fun K hK=>?_);try go_simp
    refine hK.O _ _ (HI.O _ H7.c H7.d) ?_;clear hK K;try simp only[pu]
    refine J9 ?_;go_wp2_with fail;go_ret;exact⟨rfl,H7.a.M fun k hk=>ab hk,(Fo.v_ HZ.d.drew HG.d.yl).T (H7.b.M fun k hk=>ab hk)⟩
   ·rename_i hba hab;have ba:((b:Int)+1<a)=False:=eq_false o_;have bc:((a:Int)+1<b)=False:=eq_false o_;obtain⟨S1,h1,h2⟩:=aG.1 hj;injection h2 with e1 e2
    subst e1 e2;have hW:=fun W Z (hW:Ig W ps S Z)=>jG hW hi n hn m l r hm hl hr h1;obtain⟨k0,k1,k2,k3,k4,k5⟩:=n;simp only[gP] at hW⊢;have q0:=heap_alloc_new w (Xa k0 k1 k2 k3 k4 k5 m);have B0:=c_ w (Xa k0 k1 k2 k3 k4 k5 m);have HG:=kq6 hA hB hW h q0 B0;clear hA hB hW h hi hj h1 ha hb q0 B0 hn ih;go_enter func185,ntmps185;go_wp2_with fail;refine dR (HG.a _ HG.f) fun w1 hb1=>?_;have H1:=kq2 (b_ HG.f hb1) ((hb1.block w.1.size s_).T HG.e);clear hb1;go_wp2_with fail;refine dR (HG.b _ H1.a) fun w2 hb2=>?_;have r2:=(hb2.block w.1.size (gl H1.b)).T H1.b;obtain⟨c0,c1,c2,c3,c4,c5,c6⟩:=gG r2;have H2:=If (b_ H1.a hb2);clear hb2 r2;go_wp2_with fail;refine(HG.c _ _ (HG.d.a_ H2.O)).M ?_;rintro e w3 ⟨rfl,h3,a8⟩;have H3:=kq2 h3 ((Fo.v_ H2.O HG.d.yl).T a8);clear h3 a8;go_wp2_with fail;go_ret;exact⟨rfl,H3.O⟩
theorem nL{S S':St}{l m r:Nat}(h:avlJ S l m r=some (R,S')):
 m≠0/\isT S l=true/\isT S m=true/\isT S r=true/\joinB (f_ S m).1 m 100 S l r=some (R.1,S')/\R.2=0:=by
 unfold avlJ at h
 split at h
 ·cases h
 ·rename_i hc;obtain⟨⟨x,S1⟩,h1,h2⟩:=aG.1 h
  injection h2 with e1 e2
  subst e1 e2;simp only[not_or,Bool.not_eq_false] at hc;exact⟨hc.1,hc.2.1,hc.2.2.1,hc.2.2.2,h1,rfl⟩
theorem yM{S S':St}(h:Ig w ps S Y)(hi:Fv S)(l m r:Nat)(hl:l<2^64)(hm:m<2^64)(hr:r<2^64)(hR:avlJ S l m r=some (R,S')):
 Ct 141 #[PV ps,Xu l,Xu m,Xu r] w fun e w'=>e=.returned (.tuple #[Xu R.1,Xi R.2])/\Ig w' ps S' Y/\Fo Y w w':=by
 obtain⟨h0,h1,h2,h3,h4,h5⟩:=nL hR;obtain⟨x,er⟩:=R;simp only at h4 h5;subst h5;have ap:=fB h hi 0 o_;rw[fU] at ap;have ad:=pQ h hi l hl;have ai:=fun W (hW:D_ w W)=>pQ (h.a_ hW) hi m hm;have an:=fun W (hW:D_ w W)=>pQ (h.a_ hW) hi r hr;have hg:=fun W (hW:D_ w W)=>gR (h.a_ hW) hi m hm;have hj:=fun W (hW:D_ w W)=>yU (f_ S m).1 (fs h m) m hm 100 0 rfl (h.a_ hW) hi hl hr h4;rw[h1] at ad;rw[h2] at ai;rw[h3] at an;obtain⟨⟨⟨k0,k1,k2,k3,k4,k5⟩,er⟩,hE⟩:∃q,f_ S m=q:=⟨_,rfl⟩;rw[hE] at hg hj;simp only[gP] at hg hj;have hq:((m:Int)==0)=false:=m_
 have HG:=kq7 ap ad ai an hg hj h;clear ap ad ai an hg hj h hi hE h0 h1 h2 h3 h4 hR;go_enter func141,ntmps141;go_wp2_with fail;refine Jc HG.a ?_;go_wp2_with fail;refine dR HG.b fun w1 hb1=>?_;have H1:=If hb1;clear hb1;go_wp2_with fail;refine dR (HG.c _ H1.O) fun w2 hb2=>?_;have H2:=If (b_ H1.O hb2);clear hb2;go_wp2_with fail;refine dR (HG.d _ H2.O) fun w3 hb3=>?_;have H3:=If (b_ H2.O hb3);clear hb3;go_wp2_with fail;refine dR (HG.e _ H3.O) fun w4 hb4=>?_;have H4:=If (b_ H3.O hb4);clear hb4;go_wp2_with fail;refine(HG.f _ H4.O).M ?_;rintro e w5 ⟨rfl,h5,ar⟩;have H5:=kq2 h5 ((HG.g.w_ H4.O).T ar);clear h5 ar;go_wp2_with fail;go_ret2;exact⟨rfl,H5.O⟩
theorem BJ:kW 141 avlJ where
 enter args w:=by go_simp
 inv hi h:=(lT _ 100 hi (nL h).2.2.2.2.1).1
 lt hi _ hm _ h:=(lT _ 100 hi (nL h).2.2.2.2.1).2 hm
 ok h:=(nL h).2.2.2.2.2
 call h hi hl hm hr hR:=yM h hi _ _ _ hl hm hr hR
theorem vi:jD 1 141 234 avlJ:=⟨ab rfl,E2,BJ,Ai⟩
theorem uy(a0 a1 a2 a3 a4 a5:Value)(w:World):(Instr.field 139 (.agg #[a0,a1,a2,a3,a4,a5]) 4).run prog w=.ok a4 w:=k_
def Lf.C7(S:St)(h:Nat):Nat:=(f_ S h).1.mark / 2
def Lf.F5(S:St)(h:Nat):Bool:=decide ((f_ S h).1.mark % 2=1)
def Lf.putRM(S:St)(h l r:Nat)(isRed:Bool):Option St:=
 match fY S l,fY S r with
 | some x,some y=>if 4611686018427387904<=C7 S l then none else
  some (gM S h { (f_ S h).1 with left:=l,right:=r,mark:=C7 S l*2+(if isRed then 1 else 2),size:=x+y+1 }).2
 | _,_=>none
theorem wA{S S':St}{h l r:Nat}{c:Bool}(hp:putRM S h l r c=some S'):∃x y,fY S l=some x/\fY S r=some y/\C7 S l<2^62/\
 S'=(gM S h { (f_ S h).1 with left:=l,right:=r,mark:=C7 S l*2+(if c then 1 else 2),size:=x+y+1 }).2:=by
 unfold putRM at hp;split at hp
 ·rename_i x y h1 h2;split at hp
  ·cases hp
  ·exact⟨x,y,h1,h2,o_,(Option.some.inj hp).S⟩
 ·cases hp
theorem oQ(h:Ig w ps S Y)(hi:Fv S)(hh:Nat)(hl:hh<2^64):
 Cb 220 #[PV ps,Xu hh] w (eS (f_ S hh).1):=by
 have B0:=c_ w (.cells #[Xu 0,Xu 0,Xu 0,Xu 0,Xu 0,Xu 0] 139);have q0:=heap_alloc_new w (.cells #[Xu 0,Xu 0,Xu 0,Xu 0,Xu 0,Xu 0] 139);have hg:=iO (h.a_ B0) hi hh hl;obtain⟨⟨⟨k0,k1,k2,k3,k4,k5⟩,er⟩,hE⟩:∃r,f_ S hh=r:=⟨_,rfl⟩;rw[hE] at hg⊢;unfold eS at hg⊢;simp only at hg⊢;have HG:=kq3 hg B0 q0;clear hg h hi hE B0 q0;go_enter func220,ntmps220;go_wp2_with fail;refine dR HG.a fun w1 hb=>?_;have ad:=hb.alloc hb.size (Xb k0 k1 k2 k3 k4 k5);have r0:=(ad.block w.1.size s_).T HG.c;have B1:=b_ HG.b ad;obtain⟨c0,c1,c2,c3,c4,c5⟩:=ia r0;obtain⟨f0,f1,f2,f3,f4,f5⟩:=lP r0;have HB:=kq2 r0 B1;clear r0 B1 ad hb;go_wp2_with fail;have q6:=xj HB.a (Xu k0) (Xu k1) (Xu k2) (Xu k3) (Xu k4) (Xu k5);have B6:=LU HB.b (Nat.le_refl w.1.size) (Xu k0) (Xu k1) (Xu k2) (Xu k3) (Xu k4) (Xu k5);generalize (((((((w1.alloc (Xb k0 k1 k2 k3 k4 k5)).setCell (y_ w.1.size) (Xu k0)).setCell (x_ w.1.size 1) (Xu k1)).setCell (x_ w.1.size 2) (Xu k2)).setCell (x_ w.1.size 3) (Xu k3)).setCell (x_ w.1.size 4) (Xu k4)).setCell (x_ w.1.size 5) (Xu k5))=W6 at q6 B6⊢;obtain⟨g0,g1,g2,g3,g4,g5⟩:=ia q6;exact bodyPost_ret (v:=.agg #[Xu k0,Xu k1,Xu k2,Xu k3,Xu k4,Xu k5]) (by simp[results,f220,go_sem,g0,g1,g2,g3,g4,g5]) rfl ⟨rfl,B6⟩
theorem gy(h:Ig w ps S Y)(hi:Fv S)(hh:Nat)(hl:hh<2^64):
 Cb 188 #[PV ps,Xu hh] w (Xu (C7 S hh:Nat)):=by
 have hg:=oQ h hi hh hl;unfold C7;obtain⟨⟨⟨k0,k1,k2,k3,k4,k5⟩,er⟩,hE⟩:∃r,f_ S hh=r:=⟨_,rfl⟩;rw[hE] at hg⊢;unfold eS at hg;simp only at hg⊢;have ad:=uy;have HG:=If hg;clear hg h hi hE;go_enter func188,ntmps188;go_wp2_with fail;refine dR HG.O fun w1 hb=>?_;have HB:=If hb;clear hb;go_wp2_with fail;go_ret;exact⟨s_,HB.O⟩
theorem gq(h:Ig w ps S Y)(hi:Fv S)(hh:Nat)(hl:hh<2^64):
 Cb 191 #[PV ps,Xu hh] w (.bool (F5 S hh)):=by
 have hg:=oQ h hi hh hl;have hlt:=(fs h hh).mark;unfold F5;obtain⟨⟨⟨k0,k1,k2,k3,k4,k5⟩,er⟩,hE⟩:∃r,f_ S hh=r:=⟨_,rfl⟩;rw[hE] at hg hlt⊢;unfold eS at hg;simp only at hg hlt⊢;have ad:bits BinOp.and IntKind.u64 (k4:Int) 1=((k4 % 2:Nat):Int):=by
  have h1:=bits_and_u64_nat k4 1 hlt d_;rw[show ((1:Nat):Int)=1 from rfl] at h1;rw[h1,Nat.and_one_is_mod]
 have HA:=If ad;clear ad;have ai:=uy;have HG:=If hg;clear hg h hi hE;go_enter func191,ntmps191;go_wp2_with fail;refine dR HG.O fun w1 hb=>?_;have HB:=If hb;clear hb;go_wp2_with fail;go_ret;refine⟨?_,HB.O⟩;rw[HA.O]
 rcases dA k4 with e | e<;>simp[e]
theorem io(h:Ig w ps S Y)(hi:Fv S)(hh:Nat)(hl:hh<2^64):
 Cb 187 #[PV ps,Xu hh] w (.bool (isT S hh)):=by
 have hg:=iO h hi hh hl;obtain⟨R,hR⟩:=Ii (isT S hh);rw[hR];unfold isT at hR;obtain⟨⟨⟨k0,k1,k2,k3,k4,k5⟩,er⟩,hE⟩:∃r,f_ S hh=r:=⟨_,rfl⟩;rw[hE] at hg hR;unfold eS at hg;simp only at hg hR;have ad:R=(((hh:Int)==0) || ((er:Int)==0)):=by
  rw[<-hR]
  by_cases a:hh=0<;>by_cases b:er=0<;>simp[a,b]<;>omega
 have HG:=kq2 hg ad;clear hg h hi hE hR ad
 by_cases h0:hh=0
 ·subst h0;go_enter func187,ntmps187;go_wp2_with fail;refine dR HG.a fun w1 hb=>?_;have HB:=If (hb.alloc hb.size (Xb k0 k1 k2 k3 k4 k5));clear hb;go_wp2_with fail;go_ret;obtain rfl:=HG.b;exact⟨s_,HB.O⟩
 ·have hq:((hh:Int)==0)=false:=m_
  go_enter func187,ntmps187;go_wp2_with fail;refine dR HG.a fun w1 hb=>?_;have HB:=If (hb.alloc hb.size (Xb k0 k1 k2 k3 k4 k5));clear hb;go_wp2_with fail;go_ret;obtain rfl:=HG.b;exact⟨by simp[hq],HB.O⟩
theorem qFgad{P:Prop}(h:P:=by
 have B6:=H5.a.setCell (p:=x_ b 5) H2.c (Xu ((x:Int)+y+1));refine(HG.e _ _ (HG.f.wide B6)).M ?_;rintro e w7 ⟨rfl,h7,k7⟩;have H7:=kq2 (h7.M (Z:=Y) fun k hk=>ab hk) ((Fo.v_ B6 HG.f.yl).T (k7.M fun k hk=>ab hk));clear h7 k7 r6 B6 c0 c1 c2 c3 c4 c5 f0 f1 f2 f3 f4 f5;go_wp2_with fail;go_ret;exact⟨rfl,H7.O⟩):P:=h
theorem nh{S S':St}(h:Ig w ps S Y)(hi:Fv S)(hh l r:Nat)(c:Bool)(hl:hh<2^64)(hll:l<2^64)(hrl:r<2^64)(hp:putRM S hh l r c=some S'):
 Ct 190 #[PV ps,Xu hh,Xu l,Xu r,.bool c] w fun e w'=>e=.returned (Xu hh)/\Ig w' ps S' Y/\Fo Y w w':=by
 obtain⟨x,y,h1,h2,au,rfl⟩:=wA hp;have hx:x<2^62:=by have:=F3 h1;omega
 have hy:y<2^62:=by have:=F3 h2;omega
 have ad:=fs h hh;have hg:=oQ h hi hh hl;have hb:=fun W (hW:D_ w W)=>gy (h.a_ hW) hi l hll;have an:=fun W (hW:D_ w W)=>kP (h.a_ hW) hi l hll h1;have ap:=fun W (hW:D_ w W)=>kP (h.a_ hW) hi r hrl h2;generalize C7 S l=bk at*;obtain⟨⟨⟨k0,k1,k2,k3,k4,k5⟩,er⟩,hE⟩:∃q,f_ S hh=q:=⟨_,rfl⟩;rw[hE] at hg ad⊢;simp only at ad⊢;have ai:=fun W Z (hW:Ig W ps S Z)=>rM hW hi hh hl ⟨k0,k1,l,r,bk*2+(if c then 1 else 2),x+y+1⟩ ⟨ad.key,ad.val,hll,hrl,by simp only;split<;>omega,by simp only;omega⟩;have ar:eS ⟨k0,k1,l,r,bk*2+(if c then 1 else 2),x+y+1⟩=.agg #[Xu k0,Xu k1,Xu l,Xu r,Xu ((bk*2+(if c then 1 else 2):Nat):Int),Xu ((x:Int)+y+1)]:=by simp[eS]
 rw[ar] at ai;unfold eS at hg;simp only at hg;have HG:=kq6 hg hb an ap ai h;have a1:IntKind.u64.wrap ((bk:Int)*2)=(bk:Int)*2:=by rw[IntKind.wrap_u64];omega
 have a2:IntKind.u64.wrap ((bk:Int)*2+2)=(bk:Int)*2+2:=by rw[IntKind.wrap_u64];omega
 have a0:bits BinOp.or IntKind.u64 ((bk:Int)*2) 1=(bk:Int)*2+1:=by
  rw[show ((bk:Int)*2)=((bk*2:Nat):Int) by simp,show (1:Int)=((1:Nat):Int) from rfl,bits_or_u64_nat _ _ o_ d_];have:bk*2 ||| 1=bk*2+1:=by
   rw[show bk*2=bk<<<1 by simp[Nat.shiftLeft_eq]];exact(cV d_ bk).S
  omega
 clear hg hb an ap ai ar h hi hE hp h1 h2 ad
 cases c with
 | true=>
  simp only[if_true] at HG⊢;go_enter func190,ntmps190;go_wp2_with fail;refine dR HG.a fun w1 hb1=>?_;have q1:=heap_alloc_new w1 (Xb k0 k1 l r k4 k5);have B1:=hb1.alloc hb1.size (Xb k0 k1 l r k4 k5);have z1:=hb1.size;clear hb1;go_wp2_with fail;generalize w1.alloc (Xb k0 k1 l r k4 k5)=W at*;generalize w1.1.size=b at*;refine dR (HG.b _ B1) fun w2 hb2=>?_;have r2:=(hb2.block b (gl q1)).T q1;obtain⟨c0,c1,c2,c3,c4,c5⟩:=ia r2;obtain⟨f0,f1,f2,f3,f4,f5⟩:=lP r2;have H2:=kq3 (b_ B1 hb2) r2 z1;clear hb2 r2 B1 q1 z1;go_wp2_with fail;have r3:((w2.setCell (x_ b 4) (Xu ((bk:Int)*2))).setCell (x_ b 4) (Xu ((bk:Int)*2+1))).1[b]?=some (Xb k0 k1 l r ((bk:Int)*2+1) k5):=by rw[heap_setCell (heap_setCell H2.b)];rfl
  have B3:=(H2.a.setCell (p:=x_ b 4) H2.c (Xu ((bk:Int)*2))).setCell (p:=x_ b 4) H2.c (Xu ((bk:Int)*2+1));generalize ((w2.setCell (x_ b 4) (Xu ((bk:Int)*2))).setCell (x_ b 4) (Xu ((bk:Int)*2+1)))=w3 at*;clear c0 c1 c2 c3 c4 c5 f0 f1 f2 f3 f4 f5;refine dR (HG.c _ B3) fun w4 hb4=>?_;have H4:=kq2 (b_ B3 hb4) ((hb4.block b (gl r3)).T r3);clear hb4 r3 B3;go_wp2_with fail;refine dR (HG.d _ H4.a) fun w5 hb5=>?_;have r5:=(hb5.block b (gl H4.b)).T H4.b;obtain⟨c0,c1,c2,c3,c4,c5⟩:=ia r5;obtain⟨f0,f1,f2,f3,f4,f5⟩:=lP r5;have H5:=kq2 (b_ H4.a hb5) r5;clear hb5 r5;go_wp2_with fail;have r6:(w5.setCell (x_ b 5) (Xu ((x:Int)+y+1))).1[b]?=some (Xb k0 k1 l r ((bk:Int)*2+1) ((x:Int)+y+1)):=heap_setCell H5.b;exact qFgad
 | false=>
  simp only[dH,if_false] at HG⊢;go_enter func190,ntmps190;go_wp2_with fail;refine dR HG.a fun w1 hb1=>?_;have q1:=heap_alloc_new w1 (Xb k0 k1 l r k4 k5);have B1:=hb1.alloc hb1.size (Xb k0 k1 l r k4 k5);have z1:=hb1.size;clear hb1;go_wp2_with fail;generalize w1.alloc (Xb k0 k1 l r k4 k5)=W at*;generalize w1.1.size=b at*;refine dR (HG.b _ B1) fun w2 hb2=>?_;have r2:=(hb2.block b (gl q1)).T q1;obtain⟨c0,c1,c2,c3,c4,c5⟩:=ia r2;obtain⟨f0,f1,f2,f3,f4,f5⟩:=lP r2;have H2:=kq3 (b_ B1 hb2) r2 z1;clear hb2 r2 B1 q1 z1;go_wp2_with fail;have r3:((w2.setCell (x_ b 4) (Xu ((bk:Int)*2))).setCell (x_ b 4) (Xu ((bk:Int)*2+2))).1[b]?=some (Xb k0 k1 l r ((bk:Int)*2+2) k5):=by rw[heap_setCell (heap_setCell H2.b)];rfl
  have B3:=(H2.a.setCell (p:=x_ b 4) H2.c (Xu ((bk:Int)*2))).setCell (p:=x_ b 4) H2.c (Xu ((bk:Int)*2+2));generalize ((w2.setCell (x_ b 4) (Xu ((bk:Int)*2))).setCell (x_ b 4) (Xu ((bk:Int)*2+2)))=w3 at*;clear c0 c1 c2 c3 c4 c5 f0 f1 f2 f3 f4 f5;refine dR (HG.c _ B3) fun w4 hb4=>?_;have H4:=kq2 (b_ B3 hb4) ((hb4.block b (gl r3)).T r3);clear hb4 r3 B3;go_wp2_with fail;refine dR (HG.d _ H4.a) fun w5 hb5=>?_;have r5:=(hb5.block b (gl H4.b)).T H4.b;obtain⟨c0,c1,c2,c3,c4,c5⟩:=ia r5;obtain⟨f0,f1,f2,f3,f4,f5⟩:=lP r5;have H5:=kq2 (b_ H4.a hb5) r5;clear hb5 r5;go_wp2_with fail;have r6:(w5.setCell (x_ b 5) (Xu ((x:Int)+y+1))).1[b]?=some (Xb k0 k1 l r ((bk:Int)*2+2) ((x:Int)+y+1)):=heap_setCell H5.b;exact qFgad
end
section
open Lf
def Lf.z_(S:St)(tu:Bool)(h:Nat):Nat×Nat:=if tu=true then((f_ S h).1.right,(f_ S h).1.left) else((f_ S h).1.left,(f_ S h).1.right)
def Lf.putJ(S:St)(tu:Bool)(h u_ own:Nat)(c:Bool):Option St:=if tu=true then putRM S h own u_ c else putRM S h u_ own c
def Lf.fixR(tu:Bool)(S:St)(t u_ x:Nat)(is:Bool):Option (Nat×St):=
 if is=true\/F5 S x=false then some (t,S)
 else if F5 S (z_ S tu x).2=false then some (t,S)
 else match putJ S tu (z_ S tu x).2 (z_ S tu (z_ S tu x).2).1 (z_ S tu (z_ S tu x).2).2 false with
  | none=>none
  | some S1=>match putJ S1 tu t u_ (z_ S tu x).1 false with
   | none=>none
   | some S2=>(putJ S2 tu x t (z_ S tu x).2 true).map fun S3=>(x,S3)
def Lf.joinR(tu:Bool)(m:Nat):Nat->St->Nat->Nat->Option (Nat×St)
 | 0,S,t,low=>(putJ S tu m t low true).map fun S'=>(m,S')
 | f+1,S,t,low=>
  if F5 S t=false/\C7 S t=C7 S low then(putJ S tu m t low true).map fun S'=>(m,S')
  else match joinR tu m f S (z_ S tu t).2 low with
   | none=>none
   | some (x,S1)=>
    match putJ S1 tu t (z_ S tu t).1 x (F5 S t) with
    | none=>none
    | some S2=>chk (fixR tu S2 t (z_ S tu t).1 x (F5 S t))
theorem rf(tu:Bool)(m:Nat)(S:St)(t low:Nat):joinR tu m 0 S t low=(putJ S tu m t low true).map fun S'=>(m,S'):=rfl
theorem re(tu:Bool)(m f:Nat)(S:St)(t low:Nat):joinR tu m (f+1) S t low=
 if F5 S t=false/\C7 S t=C7 S low then(putJ S tu m t low true).map fun S'=>(m,S')
 else match joinR tu m f S (z_ S tu t).2 low with
  | none=>none
  | some (x,S1)=>
   match putJ S1 tu t (z_ S tu t).1 x (F5 S t) with
   | none=>none
   | some S2=>chk (fixR tu S2 t (z_ S tu t).1 x (F5 S t)):=rfl
def Lf.topR(tu:Bool)(S:St)(t m low:Nat):Option (Nat×St):=
 match joinR tu m 200 S t low with
 | none=>none
 | some (h,S1)=>
  if F5 S1 h=true/\F5 S1 (z_ S1 tu h).2=true then(putJ S1 tu h (z_ S1 tu h).1 (z_ S1 tu h).2 false).map fun S2=>(h,S2)
  else some (h,S1)
def Lf.redJ(S:St)(l m r:Nat):Option ((Nat×Nat)×St):=
 if m=0\/isT S l=false\/isT S m=false\/isT S r=false then none
 else if C7 S r<C7 S l then(topR false S l m r).map fun x=>((x.1,0),x.2)
 else if C7 S l<C7 S r then(topR true S r m l).map fun x=>((x.1,0),x.2)
 else(putRM S m l r (!F5 S l && !F5 S r)).map fun S'=>((m,0),S')
theorem Jo {S S':St}{h l r:Nat}{c:Bool}(hi:Fv S)(hp:putRM S h l r c=some S'):Fv S':=by
 grind [wA,rT]
theorem jV {S S':St}{tu:Bool}{h a b:Nat}{c:Bool}(hi:Fv S)(hp:putJ S tu h a b c=some S'):Fv S':=by
 unfold putJ at hp;split at hp<;>exact Jo hi hp
theorem AX {tu:Bool}{S S':St}{t u_ x y:Nat}{is:Bool}(hi:Fv S)(h:fixR tu S t u_ x is=some (y,S')):Fv S':=by
 unfold fixR at h
 split at h
 ·grind
 ·split at h
  ·grind
  ·split at h
   ·cases h
   ·rename_i S1 h1
    split at h
    ·cases h
    ·rename_i S2 h2;obtain⟨S3,h3,h4⟩:=aG.1 h
     injection h4 with _ e
     rw[<-e];exact jV (jV (jV hi h1) h2) h3
theorem lU(tu:Bool){m:Nat}:∀(f:Nat) {S S':St} {t low x:Nat},Fv S->joinR tu m f S t low=some (x,S')->Fv S'/\(m<2^64->x<2^64)
 | 0,S,S',t,low,x,hi,hj=>by
  rw[rf] at hj;obtain⟨S1,h1,h2⟩:=aG.1 hj;injection h2 with e1 e2
  subst e1 e2;exact⟨jV hi h1,id⟩
 | f+1,S,S',t,low,x,hi,hj=>by
  rw[re] at hj;split at hj
  ·obtain⟨S1,h1,h2⟩:=aG.1 hj;injection h2 with e1 e2
   subst e1 e2;exact⟨jV hi h1,id⟩
  ·split at hj
   ·cases hj
   ·rename_i x1 S1 h1;split at hj
    ·cases hj
    ·rename_i S2 h2;obtain⟨h3,h4⟩:=lM hj;exact⟨AX (jV (lU tu f hi h1).1 h2) h3,fun _=>h4⟩
theorem NB {tu:Bool}{S S':St}{t m low x:Nat}(hi:Fv S)(h:topR tu S t m low=some (x,S')):Fv S'/\(m<2^64->x<2^64):=by
 unfold topR at h
 split at h
 ·cases h
 ·rename_i y S1 h1;obtain⟨i1,l1⟩:=lU tu 200 hi h1
  grind [Option.map_eq_some_iff,jV]
theorem wG {S S':St}{l m r:Nat}{R:Nat×Nat}(hi:Fv S)(h:redJ S l m r=some (R,S')):Fv S'/\(m<2^64->R.1<2^64)/\R.2=0:=by
 grind [redJ,Option.map_eq_some_iff,NB,Jo,id]
end
section
open Go.RowKit Tryz Go.BigFrame Go.Maps Go.WideMaps Lf
variable{S:St}{Y:Nat->Prop}{ps:Nat}{w:World}
def ma(ps:Nat)(tu:Bool):Value:=.agg #[PV ps,.bool tu]
theorem DX{bj ps:Nat}{tu:Bool}(hb:w.1[bj]?=some (.cells #[PV ps,.bool tu] 284 (0,0)))(a b:Nat):
 Ct 242 #[Xu a,Xu b,PV bj] w fun e w'=>e=.returned (.tuple #[Xu (if tu=true then b else a:Nat),Xu (if tu=true then a else b:Nat)])/\w=w':=by
 obtain⟨c0,c1⟩:=Fp hb;clear hb
 cases tu
 all_goals
  go_enter func242,ntmps242;go_wp2_with fail;go_ret2;exact⟨rfl,rfl⟩
theorem jX(h:Ig w ps S Y)(hi:Fv S)(tu:Bool)(hh:Nat)(hl:hh<2^64):
 Cb 222 #[ma ps tu,Xu hh] w (.tuple #[Xu (z_ S tu hh).1,Xu (z_ S tu hh).2]):=by
 have q0:=heap_alloc_new w (Xd ps tu);have B0:=c_ w (Xd ps tu);have hg:=oQ (h.a_ B0) hi hh hl;unfold z_;obtain⟨⟨⟨k0,k1,k2,k3,k4,k5⟩,er⟩,hE⟩:∃r,f_ S hh=r:=⟨_,rfl⟩;rw[hE] at hg⊢;unfold eS at hg;simp only at hg⊢;unfold ma;have ad:=fun(W:World) (hW:W.1[w.1.size]?=some (.cells #[PV ps,.bool tu] 284 (0,0)))=>DX hW k2 k3;have ai:∀(args:Array Value) (w:World),(callFunc 242 args).run prog w=.ok (.enter 242 args) w:=fun args w=>by go_simp
 have HG:=kq4 hg ad q0 B0;clear hg ad h hi hE q0 B0;go_enter func222,ntmps222;go_wp2_with fail;refine dR HG.a fun w1 hb1=>?_;have q1:=(hb1.block w.1.size s_).T HG.c;have B1:=HG.d.T (hb1.M s_);have r2:=((c_ w1 (Xb k0 k1 k2 k3 k4 k5)).block w.1.size (gl q1)).T q1;have B2:=B1.alloc B1.size (Xb k0 k1 k2 k3 k4 k5);have H2:=kq2 r2 B2;clear hb1 q1 B1 r2 B2;go_wp2_with fail;refine Jc (HG.b _ H2.a) ?_
 cases tu
 all_goals
  simp only[if_true,if_false,dH];go_wp2_with fail;go_ret2;exact⟨rfl,H2.b⟩
theorem qFgae{P:Prop}(h:P:=by
 have HG:=kq2 hq (Fo.v_ B0 h.yl);clear hq B0 h hi hp;go_enter func223,ntmps223;go_wp2_with fail;refine HG.a.M ?_;rintro e w1 ⟨rfl,h1,k1⟩;have H1:=kq2 h1 (HG.b.T k1);clear h1 k1;go_wp2_with fail;go_ret;exact⟨rfl,H1.O⟩):P:=h
theorem jW{S S':St}(h:Ig w ps S Y)(hi:Fv S)(tu:Bool)(hh a b:Nat)(c:Bool)(hl:hh<2^64)(hal:a<2^64)(hbl:b<2^64)(hp:putJ S tu hh a b c=some S'):
 Ct 223 #[ma ps tu,Xu hh,Xu a,Xu b,.bool c] w fun e w'=>e=.returned (Xu hh)/\Ig w' ps S' Y/\Fo Y w w':=by
 have B0:=c_ w (Xd ps tu);unfold putJ at hp;unfold ma
 cases tu with
 | false=>
  have hq:=nh (h.a_ B0) hi hh a b c hl hal hbl (by simpa using hp);exact qFgae
 | true=>
  have hq:=nh (h.a_ B0) hi hh b a c hl hbl hal (by simpa using hp);exact qFgae
theorem DQ(h:Ig w ps S Y)(hi:Fv S):
 Cb 235 #[PV ps,Xu 0] w (Xi 0):=by
 have hc:=xS h hi;have hl:=fun W (hW:D_ w W)=>sY (h.a_ hW);have HG:=kq2 hc hl;clear hc hl h hi;go_enter func235,ntmps235;go_wp2_with fail;refine dR HG.a fun w1 hb1=>?_;have H1:=If hb1;clear hb1;go_wp2_with fail;refine dR (HG.b _ H1.O) fun w2 hb2=>?_;have H2:=If (b_ H1.O hb2);clear hb2;go_wp2_with fail
 go_loopw [7,8,9,10,21] (fun _ _ _ _ k wr=>k=Xi 0/\wr=w2) (fun _ _ _ _ _ _=>0)
 case atStart=>exact⟨rfl,rfl⟩
 case round=>
  obtain⟨rfl,rfl⟩:=hrel;go_wp2_with fail;go_ret;exact⟨rfl,H2.O⟩
theorem Aj:nI 235 where
 enter args w:=by go_simp
 call h hi:=DQ h hi
theorem E3:j6 2 142 235:=by
 intro W;simp only[eL];go_enter func208,ntmps208;go_wp2_with fail;exact bodyPost_ret (v:=.tuple #[.agg #[.func (.func 142) #[] #[],.func (.func 235) #[] #[]],.bool true]) (by simp[results,f208,go_sem]) rfl ⟨rfl,(aa _ _).alloc Ih _⟩
end
section
open Lf
namespace Tr
variable{S:St}{d:It}{f:Nat->Nat}{m:Nat}{o:Tr}{t:Tr}{u:Tr}{w:Tr}
theorem jf{A B:List Nat}{d:Nat}(h:(A++d::B).Nodup):A.Nodup/\B.Nodup/\d∉A/\d∉B/\∀y∈A,y∉B:=by
 grind
theorem lh{A B:List Nat}{d:Nat}(h1:A.Nodup)(h2:B.Nodup)(h3:d∉A)(h4:d∉B)(h5:∀y∈A,y∉B):(A++d::B).Nodup:=
 aF.2 ⟨h1,aI.2 ⟨h4,h2⟩,fun a ha b hb e=>by
  subst e;rcases ah.1 hb with e | e
  ·exact h3 (e▸ha)
  ·exact h5 a ha e⟩
def nt(tu:Bool)(o:Tr)(d:It)(m:Nat)(w:Tr):Tr:=if tu=true then node w d m o else node o d m w
theorem il(tu:Bool)(o:Tr)(d:It)(m:Nat)(w:Tr):(nt tu o d m w).f9=d.h:=by cases tu<;>rfl
theorem fg(tu:Bool)(o:Tr)(d:It)(m:Nat)(w:Tr):(nt tu o d m w).mark=m:=by cases tu<;>rfl
theorem jR(tu:Bool)(o:Tr)(d:It)(m:Nat)(w:Tr):(nt tu o d m w).its=if tu=true then w.its++d::o.its else o.its++d::w.its:=by cases tu<;>rfl
theorem kJ(tu:Bool)(o:Tr)(d:It)(m:Nat)(w:Tr):(nt tu o d m w).its.length=o.its.length+w.its.length+1:=by
 rw[jR];cases tu<;>simp<;>omega
theorem jS(tu:Bool)(o:Tr)(d:It)(m:Nat)(w:Tr)(y:Nat):y∈(nt tu o d m w).hs↔y∈o.hs\/y=d.h\/y∈w.hs:=by
 cases tu
 ·show y∈(node o d m w).hs↔_
  rw[eY]
  simp
 ·show y∈(node w d m o).hs↔_
  grind [eY]
theorem lZ(tu:Bool)(o:Tr)(d:It)(m:Nat)(w:Tr):(nt tu o d m w).hs.Nodup↔(o.hs++d.h::w.hs).Nodup:=by
 cases tu
 ·show (node o d m w).hs.Nodup↔_
  rw[eY]
 ·show (node w d m o).hs.Nodup↔_
  rw[eY]
  grind
theorem lY{tu:Bool}(h:At S (nt tu o d m w)):At S o/\At S w/\∃n0,i_ S d.h=some (eM n0)/\n0.key=d.kh/\n0.val=d.vh:=by
 cases tu
 ·exact⟨h.2.1,h.2.2,_,h.1,rfl,rfl⟩
 ·exact⟨h.2.2,h.2.1,_,h.1,rfl,rfl⟩
theorem oH(hf:Fw S f){tu:Bool}(h:At S (nt tu o d m w)):z_ S tu d.h=(o.f9,w.f9):=by
 unfold z_
 cases tu
 ·have h:At S (node o d m w):=h;rw[h.f_ hf]
  rfl
 ·have h:At S (node w d m o):=h;rw[h.f_ hf]
  rfl
theorem At.red(hf:Fw S f)(h:At S t):F5 S t.f9=decide (t.mark % 2=1):=by
 unfold F5;have:=(h.mark_eq hf).1;unfold mU at this;grind
theorem At.black(hf:Fw S f)(h:At S t):C7 S t.f9=t.mark / 2:=by
 unfold C7;have:=(h.mark_eq hf).1;unfold mU at this;omega
def Sr(t:Tr):Prop:=t.mark<100000/\t.its.length<100000
theorem rW(hf:Fw S f){l r:Tr}{n0:Nd}(c:Bool)(hl:At S l)(hr:At S r)(hd:i_ S d.h=some (eM n0))(hk0:n0.key=d.kh)(hv0:n0.val=d.vh)(hnl:d.h∉l.hs)(hnr:d.h∉r.hs)(sl:Sr l)(sr:Sr r):
 ∃S',putRM S d.h l.f9 r.f9 c=some S'/\Fw S' f/\At S' (node l d (l.mark / 2*2+(if c then 1 else 2)) r)/\(∀h',h'≠d.h->i_ S' h'=i_ S h')/\ej S S' 0 0:=by
 have hw:=(fL hf hd).2.2.2;have ai:d.kh<2^64:=by rw[<-hk0];exact hw _ (by simp[eM])
 have ar:d.vh<2^64:=by rw[<-hv0];exact hw _ (by simp[eM])
 have h1:=sl.1;have h2:=sl.2;have h3:=sr.2;have au:(node l d (l.mark / 2*2+(if c then 1 else 2)) r).its.length=l.its.length+(r.its.length+1):=by simp[its]
 have ap:ji (nd l d (l.mark / 2*2+(if c then 1 else 2)) r):=by
  refine⟨ai,ar,hl.root_lt hf,hr.root_lt hf,?_,?_⟩
  ·show l.mark / 2*2+(if c then 1 else 2)<_
   cases c<;>simp<;>omega
  ·show (node l d (l.mark / 2*2+(if c then 1 else 2)) r).its.length<_;omega
 obtain⟨S',e,ad,an,ho,hg⟩:=ww hf hd ap;refine⟨S',?_,ad,⟨an,hl.frame fun h hm=>ho h fun e=>hnl (e▸hm),hr.frame fun h hm=>ho h fun e=>hnr (e▸hm)⟩,ho,hg⟩;unfold putRM;rw[hl.size hf o_,hr.size hf o_,hl.black hf,gw hf hd];simp only
 grind [mark,nd]
theorem lu(hf:Fw S f)(tu:Bool){o w:Tr}{n0:Nd}(c:Bool)(ho:At S o)(hw:At S w)(hd:i_ S d.h=some (eM n0))(hk0:n0.key=d.kh)(hv0:n0.val=d.vh)(hno:d.h∉o.hs)(hnw:d.h∉w.hs)(so:Sr o)(sw:Sr w)(hb:o.mark / 2=w.mark / 2):
 ∃S',putJ S tu d.h o.f9 w.f9 c=some S'/\Fw S' f/\At S' (nt tu o d (o.mark / 2*2+(if c then 1 else 2)) w)/\(∀h',h'≠d.h->i_ S' h'=i_ S h')/\ej S S' 0 0:=by
 cases tu
 ·exact rW hf c ho hw hd hk0 hv0 hno hnw so sw
 ·have:=rW hf c hw ho hd hk0 hv0 hnw hno sw so;rw[<-hb] at this;exact this
def Rb:Tr->Prop
 | nil=>True
 | node l _ m r=>Rb l/\Rb r/\l.mark / 2=r.mark / 2/\((m=l.mark / 2*2+1/\l.mark % 2=0/\r.mark % 2=0)\/m=l.mark / 2*2+2)
theorem Rb.mark_le:∀{t:Tr},Rb t->t.mark<=2*t.its.length
 | nil,_=>Nat.le_refl _
 | node l d m r,⟨h1,h2,h3,h4⟩=>by
  have:=h1.mark_le;have:=h2.mark_le;show m<=2*(l.its++d::r.its).length
  simp only[ag,aj];omega
theorem Rb.sr(h:Rb t)(hl:t.its.length<40000):Sr t:=⟨by have:=h.mark_le;omega,o_⟩
structure jl (o w:Tr) (m:Nat):Prop where
 ro:Rb o
 rw':Rb w
 bh:o.mark / 2=w.mark / 2
 col:(m=o.mark / 2*2+1/\o.mark % 2=0/\w.mark % 2=0)\/m=o.mark / 2*2+2
theorem jl.nt{tu:Bool}{o w:Tr}(h:jl o w m):Rb (Tr.nt tu o d m w):=by
 obtain⟨h1,h2,h3,h4⟩:=h
 cases tu
 ·exact⟨h1,h2,h3,h4⟩
 ·refine⟨h2,h1,h3.S,?_⟩;omega
theorem Rb.node_nt(tu:Bool)(h:Rb t)(hm:t.mark≠0):∃o d m w,t=Tr.nt tu o d m w/\jl o w m:=by
 cases t with
 | nil=>exact absurd rfl hm
 | node l d m r=>
  obtain⟨h1,h2,h3,h4⟩:=h
  cases tu
  ·exact⟨l,d,m,r,rfl,h1,h2,h3,h4⟩
  ·refine⟨r,d,m,l,rfl,h2,h1,h3.S,?_⟩;omega
def iS(tu:Bool)(u:Tr):Prop:=∃o d m w,u=Tr.nt tu o d m w/\Rb o/\Rb w/\o.mark % 2=0/\o.mark / 2=w.mark / 2/\m=o.mark / 2*2+1
def kR(tu:Bool)(u:Tr):Prop:=∃o d m w,u=Tr.nt tu o d m w/\Rb o/\(Rb w\/iS tu w)/\o.mark % 2=0/\o.mark / 2=w.mark / 2/\m=o.mark / 2*2+1
theorem iS.two{tu:Bool}(h:iS tu u):kR tu u:=by
 obtain⟨o,d,m,w,h1,h2,h3,h4⟩:=h;exact⟨o,d,m,w,h1,h2,ab h3,h4⟩
theorem iS.odd{tu:Bool}(h:iS tu u):u.mark % 2=1:=by
 obtain⟨o,d,m,w,rfl,_,_,_,_,h⟩:=h;rw[fg];omega
theorem kR.odd{tu:Bool}(h:kR tu u):u.mark % 2=1:=by
 obtain⟨o,d,m,w,rfl,_,_,_,_,h⟩:=h;rw[fg];omega
theorem yz{tu:Bool}(h:Rb u\/kR tu u)(hr:u.mark % 2=1):kR tu u:=by
 rcases h with h | h
 ·obtain⟨o,d,m,w,rfl,h1,h2,h3,h4⟩:=h.node_nt tu o_;rw[fg] at hr;have h4:m=o.mark / 2*2+1/\o.mark % 2=0/\w.mark % 2=0:=by rcases h4 with h4 | h4<;>omega
  exact⟨o,d,m,w,rfl,h1,ab h2,h4.2.1,h3,h4.1⟩
 omega
theorem tA{tu:Bool}(h:Rb u\/iS tu u)(hr:u.mark % 2=1):iS tu u:=by
 rcases h with h | h
 ·obtain⟨o,d,m,w,rfl,h1,h2,h3,h4⟩:=h.node_nt tu o_;rw[fg] at hr;have h4:m=o.mark / 2*2+1/\o.mark % 2=0/\w.mark % 2=0:=by rcases h4 with h4 | h4<;>omega
  exact⟨o,d,m,w,rfl,h1,h2,h4.2.1,h3,h4.1⟩
 omega
def jO(tu:Bool)(a:List It)(d:It)(b:List It):List It:=if tu=true then b++d::a else a++d::b
theorem AY(hf:Fw S f){tu:Bool}{oth x:Tr}{e:It}(ha:At S (nt tu oth e (oth.mark / 2*2+2) x))(hnd:(nt tu oth e (oth.mark / 2*2+2) x).hs.Nodup)(hlen:(nt tu oth e (oth.mark / 2*2+2) x).its.length<40000)
 (ro:Rb oth) (rx:Rb x\/kR tu x) (hb:oth.mark / 2=x.mark / 2):
 ∃u S',fixR tu S e.h oth.f9 x.f9 false=some (u.f9,S')/\lF S S' f (nt tu oth e (oth.mark / 2*2+2) x).hs u/\u.its=(nt tu oth e (oth.mark / 2*2+2) x).its/\Rb u/\u.mark / 2=oth.mark / 2+1:=by
 obtain⟨ho,hx,n0,bb,a9,bk⟩:=lY ha;have ai:=hx.red hf;by_cases c1:x.mark % 2=1
 ·obtain⟨a,xd,xm,b,rfl,ra,rb,ea,eb,em⟩:=yz rx c1;rw[fg] at hb c1;have hs:=oH hf hx;obtain⟨a4,ad,n1,bc,a',bo⟩:=lY hx;have ap:=ad.red hf;by_cases c2:b.mark % 2=1
  ·obtain⟨c,bd,bm,d',rfl,rc,rd,ec,ed,b2⟩:=tA rb c2;rw[fg] at eb c2;obtain⟨a5,a6,n2,bf,ba,bq⟩:=lY ad;rw[lZ] at hnd;obtain⟨d1,d2,d3,d4,d5⟩:=jf hnd;rw[lZ] at d2;obtain⟨d6,d7,d8,d9,an⟩:=jf d2;rw[lZ] at d7;obtain⟨bx,b0,ar,au,b1⟩:=jf d7;simp only[jS,not_or] at d4 d5 d9 an;rw[kJ,kJ,kJ] at hlen;have so:=ro.sr o_;obtain⟨S1,e1,f1,a1,o1,g1⟩:=lu hf tu false a5 a6 bf ba bq ar au (rc.sr o_) (rd.sr o_) ed;have bj:At S1 oth:=ho.frame fun y hy=>o1 y fun q=>(d5 y hy).2.2.2.1 q;have a0:At S1 a:=a4.frame fun y hy=>o1 y fun q=>(an y hy).2.1 q;have a8:i_ S1 e.h=some (eM n0):=(o1 _ fun q=>d4.2.2.2.1 q).T bb;have bs:i_ S1 xd.h=some (eM n1):=(o1 _ fun q=>d9.2.1 q).T bc;obtain⟨S2,e2,f2,a2,o2,g2⟩:=lu f1 tu false bj a0 a8 a9 bk d3 d4.1 so (ra.sr o_) o_;have a7:At S2 (nt tu c bd (c.mark / 2*2+2) d'):=a1.frame fun y hy=>o2 y fun q=>by
    grind [jS]
   have bt:i_ S2 xd.h=some (eM n1):=(o2 _ fun q=>d4.2.1 q.S).T bs;have st:Sr (nt tu oth e (oth.mark / 2*2+2) a):=⟨by rw[fg];have:=so.1;have:=ro.mark_le;omega,by rw[kJ];omega⟩;have sb:Sr (nt tu c bd (c.mark / 2*2+2) d'):=⟨by rw[fg];have:=rc.mark_le;omega,by rw[kJ];omega⟩;obtain⟨S3,e3,f3,a3,o3,g3⟩:=lu f2 tu true a2 a7 bt a' bo (by rw[jS];grind) (by rw[jS];grind) st sb (by rw[fg,fg];grind);refine⟨_,S3,?_,⟨f3,a3,?_,(g1.T g2).T g3⟩,?_,?_,?_⟩
   ·unfold fixR;rw[ai,fg];rw[if_neg m_,il,hs];simp only;rw[ap,fg,if_neg m_,il,oH hf ad];grind [il]
   ·intro y hy;simp only[jS,not_or] at hy;grind
   ·cases tu<;>simp[jR]
   ·refine jl.nt ⟨jl.nt ⟨ro,ra,o_,ae rfl⟩,jl.nt ⟨rc,rd,ed,ae rfl⟩,?_,ab ⟨rfl,?_,?_⟩⟩<;>simp only[fg,dH,if_false]<;>omega
   ·simp only[fg,dH,if_false,if_true];omega
  ·refine⟨nt tu oth e (oth.mark / 2*2+2) (nt tu a xd xm b),S,?_,⟨hf,ha,fun _ _=>rfl,ej.refl S⟩,rfl,?_,?_⟩
   ·unfold fixR;rw[ai,fg,if_neg (by grind),il,hs];simp only;rw[ap,if_pos (by grind),il]
   ·have bu:Rb b:=by
     rcases rb with h | h
     ·exact h
     ·have:=h.odd;omega
    refine jl.nt ⟨ro,jl.nt ⟨ra,bu,eb,ab ⟨em,ea,o_⟩⟩,?_,ae rfl⟩;rw[fg];omega
   ·rw[fg];omega
 ·have bv:Rb x:=by
   rcases rx with h | h
   ·exact h
   ·have:=h.odd;omega
  refine⟨nt tu oth e (oth.mark / 2*2+2) x,S,?_,⟨hf,ha,fun _ _=>rfl,ej.refl S⟩,rfl,jl.nt ⟨ro,bv,hb,ae rfl⟩,by rw[fg];omega⟩;unfold fixR;rw[ai,if_pos (by grind),il]
end Tr
namespace Tr
structure yw (tu:Bool) (t low u:Tr):Prop where
 bh:u.mark / 2=t.mark / 2
 all:Rb u\/kR tu u
 stop:t.mark % 2=0->low.mark / 2=t.mark / 2->iS tu u
 go:t.mark % 2=0->low.mark / 2<t.mark / 2->Rb u
 red:t.mark % 2=1->low.mark / 2<t.mark / 2->iS tu u
theorem uZ(tu:Bool){d:It}:∀(f:Nat) {S:St} {o:Nat->Nat} {t low:Tr} {n0:Nd},Fw S o->At S t->At S low->Rb t->Rb low->i_ S d.h=some (eM n0)->n0.key=d.kh->n0.val=d.vh->
 (t.hs++d.h::low.hs).Nodup->t.its.length+low.its.length<9000->t.its.length<=f->low.mark / 2<=t.mark / 2->
 ∃u S',joinR tu d.h f S t.f9 low.f9=some (u.f9,S')/\lF S S' o (t.hs++d.h::low.hs) u/\u.its=jO tu t.its d low.its/\yw tu t low u
 | 0,S,o,t,low,n0,hf,ht,hlo,rt,rl,hd,hk0,hv0,hnd,hlen,hfu,hb=>by
  have bb:t=nil:=by
   cases t with
   | nil=>rfl
   | node l d m r=>simp[its] at hfu
  subst bb;obtain⟨h1,h2,h3,h4,h5⟩:=jf hnd;obtain⟨S1,e1,f1,a1,o1,g1⟩:=lu hf tu true ht hlo hd hk0 hv0 h3 h4 (rt.sr o_) (rl.sr o_) (by have:nil.mark=0:=rfl;omega);refine⟨_,S1,?_,⟨f1,a1,fun y hy=>o1 y fun e=>hy (by grind),g1⟩,?_,?_⟩
  ·rw[rf,e1,il];rfl
  ·rw[jR];rfl
  ·have h0:nil.mark=0:=rfl;have ai:iS tu (nt tu nil d (nil.mark / 2*2+(if true then 1 else 2)) low):=⟨nil,d,_,low,rfl,rt,rl,rfl,o_,rfl⟩;exact⟨by rw[fg];rfl,ae ai.two,fun _ _=>ai,fun _ q=>by omega,fun q=>by omega⟩
 | f+1,S,o,t,low,n0,hf,ht,hlo,rt,rl,hd,hk0,hv0,hnd,hlen,hfu,hb=>by
  rw[re,ht.red hf,ht.black hf,hlo.black hf];obtain⟨h1,h2,h3,h4,h5⟩:=jf hnd;by_cases c1:t.mark % 2=0/\t.mark / 2=low.mark / 2
  ·rw[if_pos (by grind)];obtain⟨S1,e1,f1,a1,o1,g1⟩:=lu hf tu true ht hlo hd hk0 hv0 h3 h4 (rt.sr o_) (rl.sr o_) c1.2;refine⟨_,S1,?_,⟨f1,a1,fun y hy=>o1 y fun e=>hy (by grind),g1⟩,?_,?_⟩
   ·rw[e1,il];rfl
   ·rw[jR];rfl
   ·have ai:iS tu (nt tu t d (t.mark / 2*2+(if true then 1 else 2)) low):=⟨t,d,_,low,rfl,rt,rl,c1.1,c1.2,rfl⟩;exact⟨by rw[fg];grind,ae ai.two,fun _ _=>ai,fun _ q=>by omega,fun q=>by omega⟩
  ·rw[if_neg (by grind)];have au:t.mark≠0:=o_
   obtain⟨ad,e,m,own,rfl,ro,a0,bd,ap⟩:=rt.node_nt tu au;rw[fg] at hb c1 au;obtain⟨a4,a6,n1,a',a9,bc⟩:=lY ht;rw[lZ] at h1;obtain⟨d1,d2,d3,d4,d5⟩:=jf h1;simp only[jS,not_or] at h3 h5;rw[kJ] at hlen hfu;have ba:(own.hs++d.h::low.hs).Nodup:=lh d2 h2 h3.2.2 h4 fun y hy=>h5 y (ae (ae hy));obtain⟨x,S1,e1,D1,i1,J1⟩:=uZ tu f hf a6 hlo a0 rl hd hk0 hv0 ba o_ o_ (by rcases ap with g | g<;>omega);have bm:∀y,y∈x.hs↔y∈own.hs\/y=d.h\/y∈low.hs:=fun y=>by
    grind [Tr.hs,jO]
   have bo:x.its.length=own.its.length+low.its.length+1:=by rw[i1];unfold jO;cases tu<;>simp<;>omega
   have bq:x.hs.Nodup:=by
    have e:x.hs=if tu=true then low.hs++d.h::own.hs else own.hs++d.h::low.hs:=by
     unfold Tr.hs;rw[i1];unfold jO;cases tu<;>simp
    grind
   have a5:At S1 ad:=a4.frame fun y hy=>D1.u_ y fun hm=>by
    grind
   have bf:d.h≠e.h:=h3.2.1;have bk:e.h∉low.hs:=h5 _ (ae (ab rfl));have a7:i_ S1 e.h=some (eM n1):=(D1.u_ _ fun hm=>by
    grind).T a'
   have a8:e.h∉x.hs:=by
    grind
   have sx:Sr x:=by
    refine⟨?_,o_⟩;have:=J1.bh;have:=a0.mark_le;omega
   obtain⟨S2,e2,f2,a2,o2,g2⟩:=lu D1.fit tu (decide (m % 2=1)) a5 D1.at' a7 a9 bc d3 a8 (ro.sr o_) sx (by rw[J1.bh];omega);have bj:∀y∈ad.hs,y∉x.hs:=fun y hy hm=>by
    grind
   rw[il,oH hf ht];simp only;rw[e1];simp only;rw[fg,e2];simp only;have an:∀y,y∉(nt tu ad e m own).hs++d.h::low.hs->y≠e.h/\y∉own.hs++d.h::low.hs:=fun y hy=>by
    simp only[aq,ah,jS,not_or] at hy⊢;grind
   by_cases c2:m % 2=1
   ·have hm:m=ad.mark / 2*2+1/\ad.mark % 2=0/\own.mark % 2=0:=by rcases ap with g | g<;>omega
    have ar:decide (m % 2=1)=true:=decide_eq_true c2;rw[ar] at a2⊢;refine⟨nt tu ad e (ad.mark / 2*2+(if true then 1 else 2)) x,S2,?_,⟨f2,a2,fun y hy=>(o2 y (an y hy).1).T (D1.u_ y (an y hy).2),D1.grew.T g2⟩,?_,?_⟩
    ·unfold fixR;rw[if_pos (ab rfl),il];exact nU (fL f2 (lY a2).2.2.choose_spec.1).2.1
    ·rw[jR,i1,jR];unfold jO;cases tu<;>simp
    ·refine⟨by rw[fg,fg];grind,?_,?_,?_,?_⟩
     ·right
      refine⟨ad,e,_,x,rfl,ro,?_,hm.2.1,by rw[J1.bh];omega,rfl⟩;rcases cE (low.mark / 2) (own.mark / 2) with g | g
      ·exact ab (J1.go hm.2.2 g)
      ·exact ae (J1.stop hm.2.2 o_)
     ·intro q;rw[fg] at q;omega
     ·intro q;rw[fg] at q;omega
     ·intro _ q;rw[fg] at q;exact⟨ad,e,_,x,rfl,ro,J1.go hm.2.2 o_,hm.2.1,by rw[J1.bh];omega,rfl⟩
   ·have hm:m=ad.mark / 2*2+2:=by rcases ap with g | g<;>omega
    have ar:decide (m % 2=1)=false:=decide_eq_false c2;rw[ar] at a2⊢;have a3:At S2 (nt tu ad e (ad.mark / 2*2+2) x):=a2;obtain⟨u,S3,e3,D3,i3,r3,b3⟩:=AY f2 a3 (by rw[lZ];grind) (by rw[kJ];omega) ro J1.all (by rw[J1.bh];omega);refine⟨u,S3,?_,⟨D3.fit,D3.at',fun y hy=>?_,(D1.grew.T g2).T D3.grew⟩,?_,?_⟩
    ·rw[e3];exact nU (D3.at'.root_lt D3.fit)
    ·refine(D3.u_ y ?_).T ((o2 y (an y hy).1).T (D1.u_ y (an y hy).2));simp only[aq,ah,jS,not_or] at hy⊢;grind
    ·rw[i3,jR,i1,jR];unfold jO;cases tu<;>simp
    ·refine⟨by rw[b3,fg];omega,ab r3,fun _ q=>?_,fun _ _=>r3,fun q=>?_⟩
     ·rw[fg] at q;omega
     ·rw[fg] at q;omega
theorem xG(tu:Bool){d:It}{S:St}{o:Nat->Nat}{t low:Tr}{n0:Nd}(hf:Fw S o)(ht:At S t)(hlo:At S low)(rt:Rb t)(rl:Rb low)(hd:i_ S d.h=some (eM n0))(hk0:n0.key=d.kh)(hv0:n0.val=d.vh)
 (hnd:(t.hs++d.h::low.hs).Nodup) (hlen:t.its.length+low.its.length<99) (hb:low.mark / 2<t.mark / 2):
 ∃u S',topR tu S t.f9 d.h low.f9=some (u.f9,S')/\lF S S' o (t.hs++d.h::low.hs) u/\Rb u/\u.its=jO tu t.its d low.its:=by
 obtain⟨u,S1,e1,D1,i1,J1⟩:=uZ tu 200 hf ht hlo rt rl hd hk0 hv0 hnd o_ o_ o_;unfold topR;rw[e1];simp only;rw[D1.at'.red D1.fit];by_cases c1:u.mark % 2=1
 ·have an:iS tu u:=by
   by_cases c0:t.mark % 2=0
   ·exact tA (ab (J1.go c0 hb)) c1
   ·exact J1.red o_ hb
  obtain⟨a,e,m,b,rfl,ra,rb,ea,eb,em⟩:=an;have hs:=oH D1.fit D1.at';obtain⟨ha,ad,n1,au,ap,a1⟩:=lY D1.at';rw[il,hs];simp only;rw[ad.red D1.fit];by_cases c2:b.mark % 2=1
  ·have ai:(nt tu a e m b).hs.Nodup:=by
    have q:(nt tu a e m b).hs=if tu=true then low.hs++d.h::t.hs else t.hs++d.h::low.hs:=by
     unfold Tr.hs;rw[i1];unfold jO;cases tu<;>simp
    grind
   have a0:(nt tu a e m b).its.length<200:=by rw[i1];unfold jO;cases tu<;>simp<;>omega
   rw[kJ] at a0;rw[lZ] at ai;obtain⟨_,_,g3,g4,g5⟩:=jf ai;obtain⟨S2,e2,f2,a2,o2,w2⟩:=lu D1.fit tu false ha ad au ap a1 g3 g4 (ra.sr o_) (rb.sr o_) eb;have ar:∀y,y∉t.hs++d.h::low.hs->y≠e.h:=fun y hy q=>by
    have:e.h∈(nt tu a e m b).hs:=by rw[jS];exact ae (ab rfl)
    grind [nt,hs,Tr.hs,jO]
   refine⟨nt tu a e (a.mark / 2*2+(if false then 1 else 2)) b,S2,?_,⟨f2,a2,fun y hy=>(o2 y (ar y hy)).T (D1.u_ y hy),D1.grew.T w2⟩,jl.nt ⟨ra,rb,eb,ae rfl⟩,?_⟩
   ·rw[fg,if_pos (by grind),e2,il];rfl
   ·rw[<-i1,jR,jR]
  ·refine⟨nt tu a e m b,S1,?_,D1,jl.nt ⟨ra,rb,eb,ab ⟨em,ea,o_⟩⟩,i1⟩;rw[if_neg (by grind),il]
 ·refine⟨u,S1,?_,D1,?_,i1⟩
  ·grind
  ·rcases J1.all with h | h
   ·exact h
   ·have:=h.odd;omega
theorem oq:kV redJ Rb where
 nil:=trivial
 sub h:=⟨h.1,h.2.1⟩
 join:=by
  intro S o l r d n0 hf hl hr bl br hd hk0 hv0 hnd hlen;have ad:=(fL hf hd).1;have h0:¬(d.h=0\/isT S l.f9=false\/isT S d.h=false\/isT S r.f9=false):=by
   rw[hl.isT hf,hr.isT hf];have:isT S d.h=true:=by unfold isT;rw[gw hf hd];simp
   grind
  unfold redJ;rw[if_neg h0,hl.black hf,hr.black hf];obtain⟨g1,g2,g3,g4,g5⟩:=jf hnd;by_cases c1:r.mark / 2<l.mark / 2
  ·rw[if_pos c1];obtain⟨u,S1,e1,D1,r1,i1⟩:=xG false hf hl hr bl br hd hk0 hv0 hnd hlen c1;exact⟨u,S1,by grind,D1,r1,i1⟩
  ·rw[if_neg c1];by_cases c2:l.mark / 2<r.mark / 2
   ·rw[if_pos c2];obtain⟨u,S1,e1,D1,r1,i1⟩:=xG true hf hr hl br bl hd hk0 hv0 (lh g2 g1 g4 g3 fun y hy hm=>g5 y hm hy) o_ c2;refine⟨u,S1,by rw[e1];rfl,⟨D1.fit,D1.at',fun y hy=>D1.u_ y fun hm=>hy ?_,D1.grew⟩,r1,i1⟩;grind
   ·rw[if_neg c2,hl.red hf,hr.red hf];obtain⟨S1,e1,f1,a1,o1,w1⟩:=rW hf (!decide (l.mark % 2=1) && !decide (r.mark % 2=1)) hl hr hd hk0 hv0 g3 g4 (bl.sr o_) (br.sr o_);refine⟨_,S1,by rw[e1];rfl,⟨f1,a1,fun y hy=>o1 y fun e=>hy (by rw[e];simp),w1⟩,⟨bl,br,o_,?_⟩,rfl⟩;grind
end Tr
