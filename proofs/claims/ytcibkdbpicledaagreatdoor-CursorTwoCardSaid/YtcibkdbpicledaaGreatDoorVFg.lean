/- Trees balanced by their heights: left, right: the walks. -/
import Derived.Test.YtcibkdbpicledaaGreatDoorVOa
import Derived.Test.YtcibkdbpicledaaGreatDoorVVw
set_option maxRecDepth 100000
set_option maxHeartbeats 6400000
namespace Go.Proofs.YtcibkdbpicledaaGreatDoor
section
open Go.RowKit Tryz Go.BigFrame Go.Maps Go.WideMaps Lf
variable{R:Nat×Nat}{Y:Nat->Prop}{ps:Nat}{w:World}{x:Nat}
theorem qFgae{P:Prop}(h:P:=by
 split at h
 ·cases h
 ·rename_i S1 h1;obtain⟨S2,h2,h3⟩:=aC.1 h
  injection h3 with e1 e2
  subst e1 e2;exact⟨S1,h1,h2,rfl⟩):P:=h
theorem rp{S S':St}{hh x:Nat}(h:leftM S hh=some (x,S')):∃S1,fu S (getNode S hh).1 hh (getNode S hh).1.left (getNode S (getNode S hh).1.right).1.left=some S1/\fu S1 (getNode S (getNode S hh).1.right).1 (getNode S hh).1.right hh (getNode S (getNode S hh).1.right).1.right=some S'/\x=(getNode S hh).1.right:=by
 unfold leftM at h;exact qFgae
theorem ow{S S':St}{hh x:Nat}(hi:Fv S)(h:leftM S hh=some (x,S')):Fv S':=by
 obtain⟨S1,h1,h2,_⟩:=rp h;exact gX (gX hi h1) h2
theorem qFgac{P:Prop}(h:P:=by
 iterate 13
  refine' hC ?_ ?_;rotate_left
  ·intro x;go_simp
   try rfl
  simp only[pu]
 refine mo ?_;clear y0 y1 y2 y3 y4 y5 y6 z0 z1 z2 z3 z4 z5 z6;refine gF _ (by rfl) (by rfl) (fun K hK=>?_);go_simp;refine(HG.c _ _ (HZ.a.below (aa _ _).drew)).mono ?_;rintro e w5 ⟨rfl,h5,au⟩;have u5:=(au.block b1 (ae ⟨by omega,a7⟩)).trans HZ.b;have v5:=(au.block b2 (ae ⟨by omega,a8⟩)).trans HZ.c;have H5:=kq4 h5 au u5 v5;clear h5 au u5 v5
 try go_simp
 refine hK.out _ _ (HI.out _ H5.c H5.d) ?_;clear hK K
 try simp only[pu]
 refine gF _ (by rfl) (by rfl) (fun K hK=>?_);go_simp;refine(HG.d _ _ H5.a).mono ?_;rintro e w6 ⟨rfl,h6,a0⟩;have u6:=(a0.block b1 (ae ⟨by omega,a7⟩)).trans H5.c;have v6:=(a0.block b2 (ae ⟨by omega,a8⟩)).trans H5.d;have H6:=kq4 h6 (H5.b.trans a0) u6 v6;clear h6 a0 u6 v6
 try go_simp
 refine hK.out _ _ (HI.out _ H6.c H6.d) ?_;clear hK K
 try simp only[pu]
 refine gF _ (by rfl) (by rfl) (fun K hK=>?_)
 try go_simp
 refine hK.out _ _ (HI.out _ H6.c H6.d) ?_;clear hK K
 try simp only[pu]
 refine mp ?_;go_wp2_with fail;go_ret;exact⟨rfl,H6.a.mono fun k hk=>ab hk,(Fo.of_below HZ.d.drew HG.e.yl).trans (H6.b.mono fun k hk=>ab hk)⟩):P:=h
theorem pR{S S':St}(h:Ig w ps S Y)(hi:Fv S)(hh:Nat)(hl:hh<2^64)(hR:leftM S hh=some (x,S')):
 Ct 262 #[PV ps,Xu hh] w fun e w'=>e=.returned (Xu x)/\Ig w' ps S' Y/\Fo Y w w':=by
 obtain⟨S1,h1,h2,rfl⟩:=rp hR;have ap:=fs h hh;have ar:=fs h (getNode S hh).1.right;have a4:=gX hi h1;have hg:=gR h hi hh hl;have al:=fun W (hW:Below w.heap.size w W)=>gR (h.below hW) hi (getNode S hh).1.right ap.right;have ad:=fun W Z (hW:Ig W ps S Z)=>jG hW hi (getNode S hh).1 ap hh (getNode S hh).1.left (getNode S (getNode S hh).1.right).1.left hl (by first | exact ap.left | exact ar.right) (by first | exact ar.left | exact ap.right) h1;have ai:=fun W Z (hW:Ig W ps S1 Z)=>jG hW a4 (getNode S (getNode S hh).1.right).1 ar (getNode S hh).1.right hh (getNode S (getNode S hh).1.right).1.right ap.right (by first | exact hl | exact ar.left) (by first | exact ar.right | exact hl) h2;obtain⟨⟨⟨k0,k1,k2,k3,k4,k5⟩,er⟩,hE⟩:∃q,getNode S hh=q:=⟨_,rfl⟩;rw[hE] at hg al ad ai⊢;simp only at hg al ad ai⊢;obtain⟨⟨⟨g0,g1,g2,g3,g4,g5⟩,bb⟩,a3⟩:∃q,getNode S k3=q:=⟨_,rfl⟩;rw[a3] at al ad ai;simp only[gP] at hg al ad ai;have HG:=kq5 hg al ad ai h;clear hg al ad ai h hi a4 h1 h2 ap ar hE a3 hR;go_enter func262,ntmps262;go_wp2_with fail;refine wx HG.a fun w1 hb1=>?_;have q:=heap_alloc_new w1 (Xa k0 k1 k2 k3 k4 k5 hh);have B1:=hb1.alloc hb1.size (Xa k0 k1 k2 k3 k4 k5 hh);have bc:=hb1.size;clear hb1;go_wp2_with fail;generalize a':w1.alloc (Xa k0 k1 k2 k3 k4 k5 hh)=W1 at*;have ba:w1.heap.size<W1.heap.size:=(gl q);generalize w1.heap.size=b1 at*;refine wx (HG.b _ B1) fun w2 hb2=>?_;have q2:=(hb2.block b1 ba).trans q;have B2:=B1.trans (hb2.mono B1.size);have bd:=hb2.size;clear hb2 q a';have q4:=heap_alloc_new w2 (Xa g0 g1 g2 g3 g4 g5 k3);have r4:=(((aa w2.heap.size w2).alloc Ih (Xa g0 g1 g2 g3 g4 g5 k3)).block b1 (by omega)).trans q2;have B4:=B2.alloc B2.size (Xa g0 g1 g2 g3 g4 g5 k3);have bf:w.heap.size<=w2.heap.size:=B2.size;clear q2 B1 B2;go_wp2_with fail;generalize w2.alloc (Xa g0 g1 g2 g3 g4 g5 k3)=W at*;generalize w2.heap.size=b2 at*;have a7:=(gl r4);have a8:=(gl q4);have HZ:=kq4 (HG.e.wide B4) r4 q4 B4;obtain⟨I,a1,a2⟩:∃I:World->Prop,(∀w',I w'->w'.heap[b1]?=some (.cells #[Xu k0,Xu k1,Xu k2,Xu k3,Xu k4,Xu k5,Xu hh] 319 (0,0))/\w'.heap[b2]?=some (.cells #[Xu g0,Xu g1,Xu g2,Xu g3,Xu g4,Xu g5,Xu k3] 319 (0,0)))/\(∀w',w'.heap[b1]?=some (.cells #[Xu k0,Xu k1,Xu k2,Xu k3,Xu k4,Xu k5,Xu hh] 319 (0,0))->w'.heap[b2]?=some (.cells #[Xu g0,Xu g1,Xu g2,Xu g3,Xu g4,Xu g5,Xu k3] 319 (0,0))->I w'):=⟨fun w'=>w'.heap[b1]?=some (.cells #[Xu k0,Xu k1,Xu k2,Xu k3,Xu k4,Xu k5,Xu hh] 319 (0,0))/\w'.heap[b2]?=some (.cells #[Xu g0,Xu g1,Xu g2,Xu g3,Xu g4,Xu g5,Xu k3] 319 (0,0)),fun _ h=>h,fun _ a b=>⟨a,b⟩⟩;have a5:=fun x:Fq I=>(a1 _ x.ok).1;have a6:=fun x:Fq I=>(a1 _ x.ok).2;obtain⟨y0,y1,y2,y3,y4,y5,y6⟩:=iZ a5;obtain⟨z0,z1,z2,z3,z4,z5,z6⟩:=iZ a6;have HI:=If a2;have a9:I W.drew:=a2 _ r4 q4;clear a5 a6 q4 r4 B4 a1 a2;refine Jz I [0,1,2,3,4,5,6,7,8,9,11,12,13] [10,14,15] (by kernel_rfl) (by kernel_rfl) a9 ?_;exact qFgac
theorem se{S S':St}{hh x:Nat}(h:rightM S hh=some (x,S')):∃S1,fu S (getNode S hh).1 hh (getNode S (getNode S hh).1.left).1.right (getNode S hh).1.right=some S1/\fu S1 (getNode S (getNode S hh).1.left).1 (getNode S hh).1.left (getNode S (getNode S hh).1.left).1.left hh=some S'/\x=(getNode S hh).1.left:=by
 unfold rightM at h;exact qFgae
theorem oT{S S':St}{hh x:Nat}(hi:Fv S)(h:rightM S hh=some (x,S')):Fv S':=by
 obtain⟨S1,h1,h2,_⟩:=se h;exact gX (gX hi h1) h2
theorem pS{S S':St}(h:Ig w ps S Y)(hi:Fv S)(hh:Nat)(hl:hh<2^64)(hR:rightM S hh=some (x,S')):
 Ct 263 #[PV ps,Xu hh] w fun e w'=>e=.returned (Xu x)/\Ig w' ps S' Y/\Fo Y w w':=by
 obtain⟨S1,h1,h2,rfl⟩:=se hR;have ap:=fs h hh;have ar:=fs h (getNode S hh).1.left;have a4:=gX hi h1;have hg:=gR h hi hh hl;have al:=fun W (hW:Below w.heap.size w W)=>gR (h.below hW) hi (getNode S hh).1.left ap.left;have ad:=fun W Z (hW:Ig W ps S Z)=>jG hW hi (getNode S hh).1 ap hh (getNode S (getNode S hh).1.left).1.right (getNode S hh).1.right hl (by first | exact ap.left | exact ar.right) (by first | exact ar.left | exact ap.right) h1;have ai:=fun W Z (hW:Ig W ps S1 Z)=>jG hW a4 (getNode S (getNode S hh).1.left).1 ar (getNode S hh).1.left (getNode S (getNode S hh).1.left).1.left hh ap.left (by first | exact hl | exact ar.left) (by first | exact ar.right | exact hl) h2;obtain⟨⟨⟨k0,k1,k2,k3,k4,k5⟩,er⟩,hE⟩:∃q,getNode S hh=q:=⟨_,rfl⟩;rw[hE] at hg al ad ai⊢;simp only at hg al ad ai⊢;obtain⟨⟨⟨g0,g1,g2,g3,g4,g5⟩,bb⟩,a3⟩:∃q,getNode S k2=q:=⟨_,rfl⟩;rw[a3] at al ad ai;simp only[gP] at hg al ad ai;have HG:=kq5 hg al ad ai h;clear hg al ad ai h hi a4 h1 h2 ap ar hE a3 hR;go_enter func263,ntmps263;go_wp2_with fail;refine wx HG.a fun w1 hb1=>?_;have q:=heap_alloc_new w1 (Xa k0 k1 k2 k3 k4 k5 hh);have B1:=hb1.alloc hb1.size (Xa k0 k1 k2 k3 k4 k5 hh);have bc:=hb1.size;clear hb1;go_wp2_with fail;generalize a':w1.alloc (Xa k0 k1 k2 k3 k4 k5 hh)=W1 at*;have ba:w1.heap.size<W1.heap.size:=(gl q);generalize w1.heap.size=b1 at*;refine wx (HG.b _ B1) fun w2 hb2=>?_;have q2:=(hb2.block b1 ba).trans q;have B2:=B1.trans (hb2.mono B1.size);have bd:=hb2.size;clear hb2 q a';have q4:=heap_alloc_new w2 (Xa g0 g1 g2 g3 g4 g5 k2);have r4:=(((aa w2.heap.size w2).alloc Ih (Xa g0 g1 g2 g3 g4 g5 k2)).block b1 (by omega)).trans q2;have B4:=B2.alloc B2.size (Xa g0 g1 g2 g3 g4 g5 k2);have bf:w.heap.size<=w2.heap.size:=B2.size;clear q2 B1 B2;go_wp2_with fail;generalize w2.alloc (Xa g0 g1 g2 g3 g4 g5 k2)=W at*;generalize w2.heap.size=b2 at*;have a7:=(gl r4);have a8:=(gl q4);have HZ:=kq4 (HG.e.wide B4) r4 q4 B4;obtain⟨I,a1,a2⟩:∃I:World->Prop,(∀w',I w'->w'.heap[b1]?=some (.cells #[Xu k0,Xu k1,Xu k2,Xu k3,Xu k4,Xu k5,Xu hh] 319 (0,0))/\w'.heap[b2]?=some (.cells #[Xu g0,Xu g1,Xu g2,Xu g3,Xu g4,Xu g5,Xu k2] 319 (0,0)))/\(∀w',w'.heap[b1]?=some (.cells #[Xu k0,Xu k1,Xu k2,Xu k3,Xu k4,Xu k5,Xu hh] 319 (0,0))->w'.heap[b2]?=some (.cells #[Xu g0,Xu g1,Xu g2,Xu g3,Xu g4,Xu g5,Xu k2] 319 (0,0))->I w'):=⟨fun w'=>w'.heap[b1]?=some (.cells #[Xu k0,Xu k1,Xu k2,Xu k3,Xu k4,Xu k5,Xu hh] 319 (0,0))/\w'.heap[b2]?=some (.cells #[Xu g0,Xu g1,Xu g2,Xu g3,Xu g4,Xu g5,Xu k2] 319 (0,0)),fun _ h=>h,fun _ a b=>⟨a,b⟩⟩;have a5:=fun x:Fq I=>(a1 _ x.ok).1;have a6:=fun x:Fq I=>(a1 _ x.ok).2;obtain⟨y0,y1,y2,y3,y4,y5,y6⟩:=iZ a5;obtain⟨z0,z1,z2,z3,z4,z5,z6⟩:=iZ a6;have HI:=If a2;have a9:I W.drew:=a2 _ r4 q4;clear a5 a6 q4 r4 B4 a1 a2;refine Jz I [0,1,2,3,4,5,6,7,8,9,10,11,12] [13,14,15] (by kernel_rfl) (by kernel_rfl) a9 ?_;exact qFgac
inductive BalDid (S S':St) (hh x a b:Nat):Prop
 | none (h1:a<=b+1) (h2:b<=a+1) (h3:x=hh) (h4:S'=S):BalDid S S' hh x a b
 | ll (c d:Nat) (h1:b+1<a) (h2:eE S (getNode S (getNode S hh).1.left).1.left=some c) (h3:eE S (getNode S (getNode S hh).1.left).1.right=some d) (h4:¬c<d) (h5:rightM S hh=some (x,S')):BalDid S S' hh x a b
 | lr (c d y:Nat) (S1 S2:St) (h1:b+1<a) (h2:eE S (getNode S (getNode S hh).1.left).1.left=some c) (h3:eE S (getNode S (getNode S hh).1.left).1.right=some d) (h4:c<d) (h5:leftM S (getNode S hh).1.left=some (y,S1)) (h6:fu S1 (getNode S hh).1 hh y (getNode S hh).1.right=some S2) (h7:rightM S2 hh=some (x,S')):BalDid S S' hh x a b
 | rr (c d:Nat) (h0:¬b+1<a) (h1:a+1<b) (h2:eE S (getNode S (getNode S hh).1.right).1.left=some c) (h3:eE S (getNode S (getNode S hh).1.right).1.right=some d) (h4:¬d<c) (h5:leftM S hh=some (x,S')):BalDid S S' hh x a b
 | rl (c d y:Nat) (S1 S2:St) (h0:¬b+1<a) (h1:a+1<b) (h2:eE S (getNode S (getNode S hh).1.right).1.left=some c) (h3:eE S (getNode S (getNode S hh).1.right).1.right=some d) (h4:d<c) (h5:rightM S (getNode S hh).1.right=some (y,S1)) (h6:fu S1 (getNode S hh).1 hh (getNode S hh).1.left y=some S2) (h7:leftM S2 hh=some (x,S')):BalDid S S' hh x a b
theorem tI{S S':St}{hh x:Nat}(h:balM S hh=some (x,S')):∃a b,eE S (getNode S hh).1.left=some a/\eE S (getNode S hh).1.right=some b/\BalDid S S' hh x a b:=by
 unfold balM at h
 split at h
 ·rename_i a b ha hb;refine⟨a,b,ha,hb,?_⟩
  split at h
  ·rename_i h1
   split at h
   ·rename_i c d hc hd
    split at h
    ·rename_i h4
     split at h
     ·cases h
     ·rename_i y S1 h5
      split at h
      ·cases h
      ·rename_i S2 h6;exact .lr c d y S1 S2 h1 hc hd h4 h5 h6 h
    ·rename_i h4;exact .ll c d h1 hc hd h4 h
   ·cases h
  ·rename_i h0
   split at h
   ·rename_i h1
    split at h
    ·rename_i c d hc hd
     split at h
     ·rename_i h4
      split at h
      ·cases h
      ·rename_i y S1 h5
       split at h
       ·cases h
       ·rename_i S2 h6;exact .rl c d y S1 S2 h0 h1 hc hd h4 h5 h6 h
     ·rename_i h4;exact .rr c d h0 h1 hc hd h4 h
    ·cases h
   ·rename_i h1
    injection h with h
    injection h with e1 e2
    exact .none (by omega) (by omega) e1.symm e2.symm
 ·cases h
theorem Cj{S S':St}(h:Ig w ps S Y){hh x:Nat}(hR:leftM S hh=some (x,S')):x<2^64:=by
 obtain⟨_,_,_,rfl⟩:=rp hR;exact(fs h hh).right
theorem D9{S S':St}(h:Ig w ps S Y){hh x:Nat}(hR:rightM S hh=some (x,S')):x<2^64:=by
 obtain⟨_,_,_,rfl⟩:=se hR;exact(fs h hh).left
theorem yQ{S:St}(h:Ig w ps S Y)(hi:Fv S)(hh:Nat)(hl:hh<2^64){a b:Nat}(ha:eE S (getNode S hh).1.left=some a)(hb:eE S (getNode S hh).1.right=some b)(h1:a<=b+1)(h2:b<=a+1):
 Ct 246 #[PV ps,Xu hh] w fun e w'=>e=.returned (Xu hh)/\Ig w' ps S Y/\Fo Y w w':=by
 have hg:=gR h hi hh hl;have ad:=fs h hh;have al:a<2^62:=by have:=num_some ha;omega
 have ap:b<2^62:=by have:=num_some hb;omega
 have hA:=fun W (hW:Below w.heap.size w W)=>fJ (h.below hW) hi (getNode S hh).1.left ad.left ha;have hB:=fun W (hW:Below w.heap.size w W)=>fJ (h.below hW) hi (getNode S hh).1.right ad.right hb;obtain⟨⟨⟨k0,k1,k2,k3,k4,k5⟩,er⟩,hE⟩:∃r,getNode S hh=r:=⟨_,rfl⟩;rw[hE] at hg hA hB;simp only at hg hA hB;simp only[gP] at hg;have d0:IntKind.i64.wrap ((a:Int)-b)=(a:Int)-b:=aD _ (by omega);have d1:((1:Int)<(a:Int)-b)=False:=eq_false (by omega);have d2:((a:Int)-b< -1)=False:=eq_false (by omega);have HG:=kq4 hg hA hB h;clear hg hA hB h hi hE ad ha hb h1 h2 al ap;go_enter func246,ntmps246;go_wp2_with fail;refine wx HG.a fun w1 hb1=>?_;have q:=heap_alloc_new w1 (Xa k0 k1 k2 k3 k4 k5 hh);have B1:=hb1.alloc hb1.size (Xa k0 k1 k2 k3 k4 k5 hh);have a1:=hb1.size;clear hb1;go_wp2_with fail;generalize w1.alloc (Xa k0 k1 k2 k3 k4 k5 hh)=W at*;have ql:=(gl q);generalize w1.heap.size=b1 at*;have ar:∀x:Fq (Below W.heap.size W),x.to.cell? ⟨b1,2,none⟩=some (Xu k2):=fun x=>by rw[cell_of_block ((x.ok.block _ ql).trans q)];rfl
 have au:∀x:Fq (Below W.heap.size W),x.to.cell? ⟨b1,3,none⟩=some (Xu k3):=fun x=>by rw[cell_of_block ((x.ok.block _ ql).trans q)];rfl
 have hA:=fun x:Fq (Below W.heap.size W)=>Calls.keeps_below (HG.b x.to (B1.trans (x.ok.mono B1.size)));have hB:=fun x:Fq (Below W.heap.size W)=>Calls.keeps_below (HG.c x.to (B1.trans (x.ok.mono B1.size)));have HB:=kq2 B1 q;clear B1 q;refine iq (Below W.heap.size W) (by kernel_rfl) (by kernel_rfl) (aa _ _).drew (fun _=>?_)
 repeat (first | go_big_quiet_skip | (go_big_quiet_want;go_big_quiet_op;first | go_big_quiet_on | (apply Exists.intro;refine⟨fun x=>?_,?_⟩;(· first | with_reducible exact hA x | with_reducible exact hB x);go_big_quiet_on)))
 refine wpQuiet_nil ?_;rintro _ ⟨v,rfl⟩;clear hA hB ar au;have r2:=(v.ok.block b1 ql).trans HB.b;have HX:=kq2 (HB.a.trans (v.ok.mono HB.a.size)) r2;have a0:=v.ok.size;obtain⟨w2,ai⟩:=Ii v.to;rw[ai] at HX r2 a0⊢;clear ai v HB;clear r2;go_wp2_with fail;go_ret;exact⟨rfl,HG.d.below HX.a,Fo.of_below HX.a HG.d.yl⟩
theorem qFgaa{P:Prop}(h:P:=by
 generalize w3.heap.size=b2 at*;have ba:=(gl r4);have ar:=(gl q4);have a9:∀x:Fq (Below W3.heap.size W3),x.to.cell? ⟨b2,2,none⟩=some (Xu g2):=fun x=>by rw[cell_of_block ((x.ok.block _ ar).trans q4)];rfl
 have a':∀x:Fq (Below W3.heap.size W3),x.to.cell? ⟨b2,3,none⟩=some (Xu g3):=fun x=>by rw[cell_of_block ((x.ok.block _ ar).trans q4)];rfl
 have hC:=fun x:Fq (Below W3.heap.size W3)=>Calls.keeps_below (HG.f x.to (B4.trans (x.ok.mono B4.size)));have hD:=fun x:Fq (Below W3.heap.size W3)=>Calls.keeps_below (HG.g x.to (B4.trans (x.ok.mono B4.size)));have ai:=kq3 B4 r4 q4;clear B4 r4 q4;refine iq (Below W3.heap.size W3) (by kernel_rfl) (by kernel_rfl) (aa _ _).drew (fun _=>?_)
 repeat (first | go_big_quiet_skip | (go_big_quiet_want;go_big_quiet_op;first | go_big_quiet_on | (apply Exists.intro;refine⟨fun x=>?_,?_⟩;(· first | with_reducible exact hC x | with_reducible exact hD x);go_big_quiet_on)))
 refine wpQuiet_nil ?_;rintro _ ⟨v,rfl⟩;clear hC hD a9 a';have r5:=(v.ok.block b1 ba).trans ai.b;have q5:=(v.ok.block b2 ar).trans ai.c;have B5:=ai.a.trans (v.ok.mono ai.a.size);have bc:=v.ok.size;obtain⟨w5,a2⟩:=Ii v.to;rw[a2] at r5 q5 B5 bc⊢;clear a2 v ai;have au:=kq3 B5 r5 q5;clear r5 q5 B5;go_wp2_with fail;refine(HG.h _ _ (HG.d.below au.a)).mono ?_;rintro e w6 ⟨rfl,h6,k6⟩;have H6:=kq2 h6 ((Fo.of_below au.a HG.d.yl).trans k6);clear h6 k6;go_wp2_with fail;go_ret;exact⟨rfl,H6.out⟩):P:=h
theorem yO{S S':St}(h:Ig w ps S Y)(hi:Fv S)(hh:Nat)(hl:hh<2^64){a b:Nat}(ha:eE S (getNode S hh).1.left=some a)(hb:eE S (getNode S hh).1.right=some b){c d x:Nat}(h1:b+1<a)(h2:eE S (getNode S (getNode S hh).1.left).1.left=some c)(h3:eE S (getNode S (getNode S hh).1.left).1.right=some d)(h4:¬c<d)(h5:rightM S hh=some (x,S')):
 Ct 246 #[PV ps,Xu hh] w fun e w'=>e=.returned (Xu x)/\Ig w' ps S' Y/\Fo Y w w':=by
 have hg:=gR h hi hh hl;have al:=fs h hh;have a3:a<2^62:=by have:=num_some ha;omega
 have a4:b<2^62:=by have:=num_some hb;omega
 have hA:=fun W (hW:Below w.heap.size w W)=>fJ (h.below hW) hi (getNode S hh).1.left al.left ha;have hB:=fun W (hW:Below w.heap.size w W)=>fJ (h.below hW) hi (getNode S hh).1.right al.right hb;have ap:=fs h (getNode S hh).1.left;have ad:=fun W (hW:Below w.heap.size w W)=>gR (h.below hW) hi (getNode S hh).1.left al.left;have a5:c<2^62:=by have:=num_some h2;omega
 have a6:d<2^62:=by have:=num_some h3;omega
 have hC:=fun W (hW:Below w.heap.size w W)=>fJ (h.below hW) hi (getNode S (getNode S hh).1.left).1.left ap.left h2;have hD:=fun W (hW:Below w.heap.size w W)=>fJ (h.below hW) hi (getNode S (getNode S hh).1.left).1.right ap.right h3;have hF:=fun W Z (hW:Ig W ps S Z)=>pS hW hi hh hl h5;obtain⟨⟨⟨k0,k1,k2,k3,k4,k5⟩,er⟩,hE⟩:∃r,getNode S hh=r:=⟨_,rfl⟩;rw[hE] at hg hA hB ad hC hD;simp only at hg hA hB ad hC hD;obtain⟨⟨⟨g0,g1,g2,g3,g4,g5⟩,bd⟩,a0⟩:∃q,getNode S k2=q:=⟨_,rfl⟩;rw[a0] at ad hC hD;simp only[gP] at hg ad hC hD;have d0:IntKind.i64.wrap ((a:Int)-b)=(a:Int)-b:=aD _ (by omega);have d1:((1:Int)<(a:Int)-b)=True:=eq_true (by omega);have d3:((c:Int)<d)=False:=eq_false (by omega);have HG:=kq8 hg hA hB h ad hC hD hF;clear hg hA hB h ad hC hD hF hi hE al ha hb h1 h2 a3 a4 h3 h4 h5 ap a0 a5 a6;go_enter func246,ntmps246;go_wp2_with fail;refine wx HG.a fun w1 hb1=>?_;have q:=heap_alloc_new w1 (Xa k0 k1 k2 k3 k4 k5 hh);have B1:=hb1.alloc hb1.size (Xa k0 k1 k2 k3 k4 k5 hh);have bf:=hb1.size;clear hb1;go_wp2_with fail;generalize w1.alloc (Xa k0 k1 k2 k3 k4 k5 hh)=W at*;have ql:=(gl q);generalize w1.heap.size=b1 at*;have a7:∀x:Fq (Below W.heap.size W),x.to.cell? ⟨b1,2,none⟩=some (Xu k2):=fun x=>by rw[cell_of_block ((x.ok.block _ ql).trans q)];rfl
 have a8:∀x:Fq (Below W.heap.size W),x.to.cell? ⟨b1,3,none⟩=some (Xu k3):=fun x=>by rw[cell_of_block ((x.ok.block _ ql).trans q)];rfl
 have hA:=fun x:Fq (Below W.heap.size W)=>Calls.keeps_below (HG.b x.to (B1.trans (x.ok.mono B1.size)));have hB:=fun x:Fq (Below W.heap.size W)=>Calls.keeps_below (HG.c x.to (B1.trans (x.ok.mono B1.size)));have HB:=kq2 B1 q;clear B1 q;refine iq (Below W.heap.size W) (by kernel_rfl) (by kernel_rfl) (aa _ _).drew (fun _=>?_)
 repeat (first | go_big_quiet_skip | (go_big_quiet_want;go_big_quiet_op;first | go_big_quiet_on | (apply Exists.intro;refine⟨fun x=>?_,?_⟩;(· first | with_reducible exact hA x | with_reducible exact hB x);go_big_quiet_on)))
 refine wpQuiet_nil ?_;rintro _ ⟨v,rfl⟩;clear hA hB a7 a8;have r2:=(v.ok.block b1 ql).trans HB.b;have HX:=kq2 (HB.a.trans (v.ok.mono HB.a.size)) r2;have bb:=v.ok.size;obtain⟨w2,a1⟩:=Ii v.to;rw[a1] at HX r2 bb⊢;clear a1 v HB;obtain⟨c0,c1,c2,c3,c4,c5,c6⟩:=gG r2;clear r2;go_wp2_with fail;clear c0 c1 c2 c3 c4 c5 c6;refine wx (HG.e _ HX.a) fun w3 hb3=>?_;have r3:=(hb3.block b1 (by omega)).trans HX.b;have B3:=HX.a.trans (hb3.mono HX.a.size);have q4:=heap_alloc_new w3 (Xa g0 g1 g2 g3 g4 g5 k2);have bj:=hb3.size;have r4:=(((aa w3.heap.size w3).alloc Ih (Xa g0 g1 g2 g3 g4 g5 k2)).block b1 (by omega)).trans r3;have B4:=B3.alloc B3.size (Xa g0 g1 g2 g3 g4 g5 k2);have bk:w.heap.size<=w3.heap.size:=B3.size;clear hb3 r3 B3;go_wp2_with fail;generalize w3.alloc (Xa g0 g1 g2 g3 g4 g5 k2)=W3 at*;exact qFgaa
theorem qFgab{P:Prop}(h:P:=by
 iterate 8
  refine' hC ?_ ?_;rotate_left
  ·intro x;go_simp
   try rfl
  simp only[pu]
 refine mo ?_;clear y0 y1 y2 y3 y4 y5 y6 z0 z1 z2 z3 z4 z5 z6;refine gF _ (by rfl) (by rfl) (fun K hK=>?_);go_simp;refine(HG.i _ _ (HZ.out.below (aa _ _).drew)).mono ?_;rintro e w6 ⟨rfl,h6,k6⟩;have u6:=(k6.block b1 (ae ⟨by omega,by omega⟩)).trans ap.b;have v6:=(k6.block b2 (ae ⟨by omega,by omega⟩)).trans ap.c;have H6:=kq4 h6 k6 u6 v6;clear h6 k6 u6 v6
 try go_simp
 refine hK.out _ _ (HI.out _ H6.c H6.d) ?_;clear hK K
 try simp only[pu]
 refine gF _ (by rfl) (by rfl) (fun K hK=>?_);go_simp;refine(HG.j _ _ H6.a).mono ?_;rintro e w7 ⟨rfl,h7,k7⟩;have u7:=(k7.block b1 (ae ⟨by omega,by omega⟩)).trans H6.c;have v7:=(k7.block b2 (ae ⟨by omega,by omega⟩)).trans H6.d;have H7:=kq4 h7 (H6.b.trans k7) u7 v7;clear h7 k7 u7 v7
 try go_simp
 refine hK.out _ _ (HI.out _ H7.c H7.d) ?_;clear hK K
 try simp only[pu]
 refine mp ?_;go_wp2_with fail;refine(HG.h _ _ H7.a).mono ?_;rintro e w8 ⟨rfl,h8,k8⟩;have H8:=kq2 h8 (H7.b.trans k8);clear h8 k8;go_wp2_with fail;go_ret;exact⟨rfl,H8.a.mono fun k hk=>ab hk,(Fo.of_below ap.a.drew HG.d.yl).trans (H8.b.mono fun k hk=>ab hk)⟩):P:=h
theorem yP{S S':St}(h:Ig w ps S Y)(hi:Fv S)(hh:Nat)(hl:hh<2^64){a b:Nat}(ha:eE S (getNode S hh).1.left=some a)(hb:eE S (getNode S hh).1.right=some b){c d x y:Nat}{S1 S2:St}(h1:b+1<a)(h2:eE S (getNode S (getNode S hh).1.left).1.left=some c)(h3:eE S (getNode S (getNode S hh).1.left).1.right=some d)(h4:c<d)(h5:leftM S (getNode S hh).1.left=some (y,S1))(h6:fu S1 (getNode S hh).1 hh y (getNode S hh).1.right=some S2)(h7:rightM S2 hh=some (x,S')):
 Ct 246 #[PV ps,Xu hh] w fun e w'=>e=.returned (Xu x)/\Ig w' ps S' Y/\Fo Y w w':=by
 have hg:=gR h hi hh hl;have ad:=fs h hh;have ba:a<2^62:=by have:=num_some ha;omega
 have bb:b<2^62:=by have:=num_some hb;omega
 have hA:=fun W (hW:Below w.heap.size w W)=>fJ (h.below hW) hi (getNode S hh).1.left ad.left ha;have hB:=fun W (hW:Below w.heap.size w W)=>fJ (h.below hW) hi (getNode S hh).1.right ad.right hb;have a1:=fs h (getNode S hh).1.left;have ai:=fun W (hW:Below w.heap.size w W)=>gR (h.below hW) hi (getNode S hh).1.left ad.left;have bc:c<2^62:=by have:=num_some h2;omega
 have bd:d<2^62:=by have:=num_some h3;omega
 have hC:=fun W (hW:Below w.heap.size w W)=>fJ (h.below hW) hi (getNode S (getNode S hh).1.left).1.left a1.left h2;have hD:=fun W (hW:Below w.heap.size w W)=>fJ (h.below hW) hi (getNode S (getNode S hh).1.left).1.right a1.right h3;have a0:=ow hi h5;have a4:=gX a0 h6;have a8:=Cj h h5;have hM:=fun W Z (hW:Ig W ps S Z)=>pR hW hi (getNode S hh).1.left ad.left h5;have hN:=fun W Z (hW:Ig W ps S1 Z)=>jG hW a0 (getNode S hh).1 ad hh y (getNode S hh).1.right hl a8 ad.right h6;have hF:=fun W Z (hW:Ig W ps S2 Z)=>pS hW a4 hh hl h7;obtain⟨⟨⟨k0,k1,k2,k3,k4,k5⟩,er⟩,hE⟩:∃r,getNode S hh=r:=⟨_,rfl⟩;rw[hE] at hg hA hB ai hC hD hM hN;simp only at hg hA hB ai hC hD hM hN;obtain⟨⟨⟨g0,g1,g2,g3,g4,g5⟩,bu⟩,a3⟩:∃q,getNode S k2=q:=⟨_,rfl⟩;rw[a3] at ai hC hD;simp only[gP] at hg ai hC hD hN;have d0:IntKind.i64.wrap ((a:Int)-b)=(a:Int)-b:=aD _ (by omega);have d1:((1:Int)<(a:Int)-b)=True:=eq_true (by omega);have d3:((c:Int)<d)=True:=eq_true (by omega);have HG:=kq10 hg hA hB h ai hC hD hF hM hN;clear hg hA hB h ai hC hD hF hM hN hi hE ad ha hb h1 h2 ba bb h3 h4 h5 h6 h7 a1 a3 bc bd a0 a4 a8;go_enter func246,ntmps246;go_wp2_with fail;refine wx HG.a fun w1 hb1=>?_;have q:=heap_alloc_new w1 (Xa k0 k1 k2 k3 k4 k5 hh);have B1:=hb1.alloc hb1.size (Xa k0 k1 k2 k3 k4 k5 hh);have bv:=hb1.size;clear hb1;go_wp2_with fail;generalize w1.alloc (Xa k0 k1 k2 k3 k4 k5 hh)=W at*;have ql:=(gl q);generalize w1.heap.size=b1 at*;have bf:∀x:Fq (Below W.heap.size W),x.to.cell? ⟨b1,2,none⟩=some (Xu k2):=fun x=>by rw[cell_of_block ((x.ok.block _ ql).trans q)];rfl
 have bj:∀x:Fq (Below W.heap.size W),x.to.cell? ⟨b1,3,none⟩=some (Xu k3):=fun x=>by rw[cell_of_block ((x.ok.block _ ql).trans q)];rfl
 have hA:=fun x:Fq (Below W.heap.size W)=>Calls.keeps_below (HG.b x.to (B1.trans (x.ok.mono B1.size)));have hB:=fun x:Fq (Below W.heap.size W)=>Calls.keeps_below (HG.c x.to (B1.trans (x.ok.mono B1.size)));have HB:=kq2 B1 q;clear B1 q;refine iq (Below W.heap.size W) (by kernel_rfl) (by kernel_rfl) (aa _ _).drew (fun _=>?_)
 repeat (first | go_big_quiet_skip | (go_big_quiet_want;go_big_quiet_op;first | go_big_quiet_on | (apply Exists.intro;refine⟨fun x=>?_,?_⟩;(· first | with_reducible exact hA x | with_reducible exact hB x);go_big_quiet_on)))
 refine wpQuiet_nil ?_;rintro _ ⟨v,rfl⟩;clear hA hB bf bj;have r2:=(v.ok.block b1 ql).trans HB.b;have HX:=kq2 (HB.a.trans (v.ok.mono HB.a.size)) r2;have bs:=v.ok.size;obtain⟨w2,a5⟩:=Ii v.to;rw[a5] at HX r2 bs⊢;clear a5 v HB;obtain⟨c0,c1,c2,c3,c4,c5,c6⟩:=gG r2;clear r2;go_wp2_with fail;clear c0 c1 c2 c3 c4 c5 c6;refine wx (HG.e _ HX.a) fun w3 hb3=>?_;have r3:=(hb3.block b1 (by omega)).trans HX.b;have B3:=HX.a.trans (hb3.mono HX.a.size);have q4:=heap_alloc_new w3 (Xa g0 g1 g2 g3 g4 g5 k2);have b0:=hb3.size;have r4:=(((aa w3.heap.size w3).alloc Ih (Xa g0 g1 g2 g3 g4 g5 k2)).block b1 (by omega)).trans r3;have B4:=B3.alloc B3.size (Xa g0 g1 g2 g3 g4 g5 k2);have b4:w.heap.size<=w3.heap.size:=B3.size;clear hb3 r3 B3;go_wp2_with fail;generalize w3.alloc (Xa g0 g1 g2 g3 g4 g5 k2)=W3 at*;generalize w3.heap.size=b2 at*;have bo:=(gl r4);have a2:=(gl q4);have bk:∀x:Fq (Below W3.heap.size W3),x.to.cell? ⟨b2,2,none⟩=some (Xu g2):=fun x=>by rw[cell_of_block ((x.ok.block _ a2).trans q4)];rfl
 have bm:∀x:Fq (Below W3.heap.size W3),x.to.cell? ⟨b2,3,none⟩=some (Xu g3):=fun x=>by rw[cell_of_block ((x.ok.block _ a2).trans q4)];rfl
 have hC:=fun x:Fq (Below W3.heap.size W3)=>Calls.keeps_below (HG.f x.to (B4.trans (x.ok.mono B4.size)));have hD:=fun x:Fq (Below W3.heap.size W3)=>Calls.keeps_below (HG.g x.to (B4.trans (x.ok.mono B4.size)));have al:=kq3 B4 r4 q4;clear B4 r4 q4;refine iq (Below W3.heap.size W3) (by kernel_rfl) (by kernel_rfl) (aa _ _).drew (fun _=>?_)
 repeat (first | go_big_quiet_skip | (go_big_quiet_want;go_big_quiet_op;first | go_big_quiet_on | (apply Exists.intro;refine⟨fun x=>?_,?_⟩;(· first | with_reducible exact hC x | with_reducible exact hD x);go_big_quiet_on)))
 refine wpQuiet_nil ?_;rintro _ ⟨v,rfl⟩;clear hC hD bk bm;have r5:=(v.ok.block b1 bo).trans al.b;have q5:=(v.ok.block b2 a2).trans al.c;have B5:=al.a.trans (v.ok.mono al.a.size);have bt:=v.ok.size;obtain⟨w5,a6⟩:=Ii v.to;rw[a6] at r5 q5 B5 bt⊢;clear a6 v al;have ap:=kq3 B5 r5 q5;have HZ:=If (HG.d.wide B5);clear B5;go_wp2_with fail;obtain⟨I,ar,au⟩:∃I:World->Prop,(∀w',I w'->w'.heap[b1]?=some (.cells #[Xu k0,Xu k1,Xu k2,Xu k3,Xu k4,Xu k5,Xu hh] 319 (0,0))/\w'.heap[b2]?=some (.cells #[Xu g0,Xu g1,Xu g2,Xu g3,Xu g4,Xu g5,Xu k2] 319 (0,0)))/\(∀w',w'.heap[b1]?=some (.cells #[Xu k0,Xu k1,Xu k2,Xu k3,Xu k4,Xu k5,Xu hh] 319 (0,0))->w'.heap[b2]?=some (.cells #[Xu g0,Xu g1,Xu g2,Xu g3,Xu g4,Xu g5,Xu k2] 319 (0,0))->I w'):=⟨fun w'=>w'.heap[b1]?=some (.cells #[Xu k0,Xu k1,Xu k2,Xu k3,Xu k4,Xu k5,Xu hh] 319 (0,0))/\w'.heap[b2]?=some (.cells #[Xu g0,Xu g1,Xu g2,Xu g3,Xu g4,Xu g5,Xu k2] 319 (0,0)),fun _ h=>h,fun _ a b=>⟨a,b⟩⟩;have a7:=fun x:Fq I=>(ar _ x.ok).1;have a9:=fun x:Fq I=>(ar _ x.ok).2;obtain⟨y0,y1,y2,y3,y4,y5,y6⟩:=iZ a7;obtain⟨z0,z1,z2,z3,z4,z5,z6⟩:=iZ a9;have HI:=If au;have a':I w5.drew:=au _ r5 q5;clear a7 a9 q5 r5 ar au;refine Jz I [0,1,2,3,4,6,7,8] [5,9] (by kernel_rfl) (by kernel_rfl) a' ?_;exact qFgab
theorem yS{S S':St}(h:Ig w ps S Y)(hi:Fv S)(hh:Nat)(hl:hh<2^64){a b:Nat}(ha:eE S (getNode S hh).1.left=some a)(hb:eE S (getNode S hh).1.right=some b){c d x:Nat}(h1:a+1<b)(h2:eE S (getNode S (getNode S hh).1.right).1.left=some c)(h3:eE S (getNode S (getNode S hh).1.right).1.right=some d)(h4:¬d<c)(h5:leftM S hh=some (x,S')):
 Ct 246 #[PV ps,Xu hh] w fun e w'=>e=.returned (Xu x)/\Ig w' ps S' Y/\Fo Y w w':=by
 have hg:=gR h hi hh hl;have al:=fs h hh;have a3:a<2^62:=by have:=num_some ha;omega
 have a4:b<2^62:=by have:=num_some hb;omega
 have hA:=fun W (hW:Below w.heap.size w W)=>fJ (h.below hW) hi (getNode S hh).1.left al.left ha;have hB:=fun W (hW:Below w.heap.size w W)=>fJ (h.below hW) hi (getNode S hh).1.right al.right hb;have ap:=fs h (getNode S hh).1.right;have ad:=fun W (hW:Below w.heap.size w W)=>gR (h.below hW) hi (getNode S hh).1.right al.right;have a5:c<2^62:=by have:=num_some h2;omega
 have a6:d<2^62:=by have:=num_some h3;omega
 have hC:=fun W (hW:Below w.heap.size w W)=>fJ (h.below hW) hi (getNode S (getNode S hh).1.right).1.left ap.left h2;have hD:=fun W (hW:Below w.heap.size w W)=>fJ (h.below hW) hi (getNode S (getNode S hh).1.right).1.right ap.right h3;have hF:=fun W Z (hW:Ig W ps S Z)=>pR hW hi hh hl h5;obtain⟨⟨⟨k0,k1,k2,k3,k4,k5⟩,er⟩,hE⟩:∃r,getNode S hh=r:=⟨_,rfl⟩;rw[hE] at hg hA hB ad hC hD;simp only at hg hA hB ad hC hD;obtain⟨⟨⟨g0,g1,g2,g3,g4,g5⟩,bd⟩,a0⟩:∃q,getNode S k3=q:=⟨_,rfl⟩;rw[a0] at ad hC hD;simp only[gP] at hg ad hC hD;have d0:IntKind.i64.wrap ((a:Int)-b)=(a:Int)-b:=aD _ (by omega);have d1:((1:Int)<(a:Int)-b)=False:=eq_false (by omega);have d2:((a:Int)-b< -1)=True:=eq_true (by omega);have d3:((d:Int)<c)=False:=eq_false (by omega);have HG:=kq8 hg hA hB h ad hC hD hF;clear hg hA hB h ad hC hD hF hi hE al ha hb h1 h2 a3 a4 h3 h4 h5 ap a0 a5 a6;go_enter func246,ntmps246;go_wp2_with fail;refine wx HG.a fun w1 hb1=>?_;have q:=heap_alloc_new w1 (Xa k0 k1 k2 k3 k4 k5 hh);have B1:=hb1.alloc hb1.size (Xa k0 k1 k2 k3 k4 k5 hh);have bf:=hb1.size;clear hb1;go_wp2_with fail;generalize w1.alloc (Xa k0 k1 k2 k3 k4 k5 hh)=W at*;have ql:=(gl q);generalize w1.heap.size=b1 at*;have a7:∀x:Fq (Below W.heap.size W),x.to.cell? ⟨b1,2,none⟩=some (Xu k2):=fun x=>by rw[cell_of_block ((x.ok.block _ ql).trans q)];rfl
 have a8:∀x:Fq (Below W.heap.size W),x.to.cell? ⟨b1,3,none⟩=some (Xu k3):=fun x=>by rw[cell_of_block ((x.ok.block _ ql).trans q)];rfl
 have hA:=fun x:Fq (Below W.heap.size W)=>Calls.keeps_below (HG.b x.to (B1.trans (x.ok.mono B1.size)));have hB:=fun x:Fq (Below W.heap.size W)=>Calls.keeps_below (HG.c x.to (B1.trans (x.ok.mono B1.size)));have HB:=kq2 B1 q;clear B1 q;refine iq (Below W.heap.size W) (by kernel_rfl) (by kernel_rfl) (aa _ _).drew (fun _=>?_)
 repeat (first | go_big_quiet_skip | (go_big_quiet_want;go_big_quiet_op;first | go_big_quiet_on | (apply Exists.intro;refine⟨fun x=>?_,?_⟩;(· first | with_reducible exact hA x | with_reducible exact hB x);go_big_quiet_on)))
 refine wpQuiet_nil ?_;rintro _ ⟨v,rfl⟩;clear hA hB a7 a8;have r2:=(v.ok.block b1 ql).trans HB.b;have HX:=kq2 (HB.a.trans (v.ok.mono HB.a.size)) r2;have bb:=v.ok.size;obtain⟨w2,a1⟩:=Ii v.to;rw[a1] at HX r2 bb⊢;clear a1 v HB;obtain⟨c0,c1,c2,c3,c4,c5,c6⟩:=gG r2;clear r2;go_wp2_with fail;clear c0 c1 c2 c3 c4 c5 c6;refine wx (HG.e _ HX.a) fun w3 hb3=>?_;have r3:=(hb3.block b1 (by omega)).trans HX.b;have B3:=HX.a.trans (hb3.mono HX.a.size);have q4:=heap_alloc_new w3 (Xa g0 g1 g2 g3 g4 g5 k3);have bj:=hb3.size;have r4:=(((aa w3.heap.size w3).alloc Ih (Xa g0 g1 g2 g3 g4 g5 k3)).block b1 (by omega)).trans r3;have B4:=B3.alloc B3.size (Xa g0 g1 g2 g3 g4 g5 k3);have bk:w.heap.size<=w3.heap.size:=B3.size;clear hb3 r3 B3;go_wp2_with fail;generalize w3.alloc (Xa g0 g1 g2 g3 g4 g5 k3)=W3 at*;exact qFgaa
theorem yR{S S':St}(h:Ig w ps S Y)(hi:Fv S)(hh:Nat)(hl:hh<2^64){a b:Nat}(ha:eE S (getNode S hh).1.left=some a)(hb:eE S (getNode S hh).1.right=some b){c d x y:Nat}{S1 S2:St}(h1:a+1<b)(h2:eE S (getNode S (getNode S hh).1.right).1.left=some c)(h3:eE S (getNode S (getNode S hh).1.right).1.right=some d)(h4:d<c)(h5:rightM S (getNode S hh).1.right=some (y,S1))(h6:fu S1 (getNode S hh).1 hh (getNode S hh).1.left y=some S2)(h7:leftM S2 hh=some (x,S')):
 Ct 246 #[PV ps,Xu hh] w fun e w'=>e=.returned (Xu x)/\Ig w' ps S' Y/\Fo Y w w':=by
 have hg:=gR h hi hh hl;have ad:=fs h hh;have ba:a<2^62:=by have:=num_some ha;omega
 have bb:b<2^62:=by have:=num_some hb;omega
 have hA:=fun W (hW:Below w.heap.size w W)=>fJ (h.below hW) hi (getNode S hh).1.left ad.left ha;have hB:=fun W (hW:Below w.heap.size w W)=>fJ (h.below hW) hi (getNode S hh).1.right ad.right hb;have a1:=fs h (getNode S hh).1.right;have ai:=fun W (hW:Below w.heap.size w W)=>gR (h.below hW) hi (getNode S hh).1.right ad.right;have bc:c<2^62:=by have:=num_some h2;omega
 have bd:d<2^62:=by have:=num_some h3;omega
 have hC:=fun W (hW:Below w.heap.size w W)=>fJ (h.below hW) hi (getNode S (getNode S hh).1.right).1.left a1.left h2;have hD:=fun W (hW:Below w.heap.size w W)=>fJ (h.below hW) hi (getNode S (getNode S hh).1.right).1.right a1.right h3;have a0:=oT hi h5;have a4:=gX a0 h6;have a8:=D9 h h5;have hM:=fun W Z (hW:Ig W ps S Z)=>pS hW hi (getNode S hh).1.right ad.right h5;have hN:=fun W Z (hW:Ig W ps S1 Z)=>jG hW a0 (getNode S hh).1 ad hh (getNode S hh).1.left y hl ad.left a8 h6;have hF:=fun W Z (hW:Ig W ps S2 Z)=>pR hW a4 hh hl h7;obtain⟨⟨⟨k0,k1,k2,k3,k4,k5⟩,er⟩,hE⟩:∃r,getNode S hh=r:=⟨_,rfl⟩;rw[hE] at hg hA hB ai hC hD hM hN;simp only at hg hA hB ai hC hD hM hN;obtain⟨⟨⟨g0,g1,g2,g3,g4,g5⟩,bu⟩,a3⟩:∃q,getNode S k3=q:=⟨_,rfl⟩;rw[a3] at ai hC hD;simp only[gP] at hg ai hC hD hN;have d0:IntKind.i64.wrap ((a:Int)-b)=(a:Int)-b:=aD _ (by omega);have d1:((1:Int)<(a:Int)-b)=False:=eq_false (by omega);have d2:((a:Int)-b< -1)=True:=eq_true (by omega);have d3:((d:Int)<c)=True:=eq_true (by omega);have HG:=kq10 hg hA hB h ai hC hD hF hM hN;clear hg hA hB h ai hC hD hF hM hN hi hE ad ha hb h1 h2 ba bb h3 h4 h5 h6 h7 a1 a3 bc bd a0 a4 a8;go_enter func246,ntmps246;go_wp2_with fail;refine wx HG.a fun w1 hb1=>?_;have q:=heap_alloc_new w1 (Xa k0 k1 k2 k3 k4 k5 hh);have B1:=hb1.alloc hb1.size (Xa k0 k1 k2 k3 k4 k5 hh);have bv:=hb1.size;clear hb1;go_wp2_with fail;generalize w1.alloc (Xa k0 k1 k2 k3 k4 k5 hh)=W at*;have ql:=(gl q);generalize w1.heap.size=b1 at*;have bf:∀x:Fq (Below W.heap.size W),x.to.cell? ⟨b1,2,none⟩=some (Xu k2):=fun x=>by rw[cell_of_block ((x.ok.block _ ql).trans q)];rfl
 have bj:∀x:Fq (Below W.heap.size W),x.to.cell? ⟨b1,3,none⟩=some (Xu k3):=fun x=>by rw[cell_of_block ((x.ok.block _ ql).trans q)];rfl
 have hA:=fun x:Fq (Below W.heap.size W)=>Calls.keeps_below (HG.b x.to (B1.trans (x.ok.mono B1.size)));have hB:=fun x:Fq (Below W.heap.size W)=>Calls.keeps_below (HG.c x.to (B1.trans (x.ok.mono B1.size)));have HB:=kq2 B1 q;clear B1 q;refine iq (Below W.heap.size W) (by kernel_rfl) (by kernel_rfl) (aa _ _).drew (fun _=>?_)
 repeat (first | go_big_quiet_skip | (go_big_quiet_want;go_big_quiet_op;first | go_big_quiet_on | (apply Exists.intro;refine⟨fun x=>?_,?_⟩;(· first | with_reducible exact hA x | with_reducible exact hB x);go_big_quiet_on)))
 refine wpQuiet_nil ?_;rintro _ ⟨v,rfl⟩;clear hA hB bf bj;have r2:=(v.ok.block b1 ql).trans HB.b;have HX:=kq2 (HB.a.trans (v.ok.mono HB.a.size)) r2;have bs:=v.ok.size;obtain⟨w2,a5⟩:=Ii v.to;rw[a5] at HX r2 bs⊢;clear a5 v HB;obtain⟨c0,c1,c2,c3,c4,c5,c6⟩:=gG r2;clear r2;go_wp2_with fail;clear c0 c1 c2 c3 c4 c5 c6;refine wx (HG.e _ HX.a) fun w3 hb3=>?_;have r3:=(hb3.block b1 (by omega)).trans HX.b;have B3:=HX.a.trans (hb3.mono HX.a.size);have q4:=heap_alloc_new w3 (Xa g0 g1 g2 g3 g4 g5 k3);have b0:=hb3.size;have r4:=(((aa w3.heap.size w3).alloc Ih (Xa g0 g1 g2 g3 g4 g5 k3)).block b1 (by omega)).trans r3;have B4:=B3.alloc B3.size (Xa g0 g1 g2 g3 g4 g5 k3);have b4:w.heap.size<=w3.heap.size:=B3.size;clear hb3 r3 B3;go_wp2_with fail;generalize w3.alloc (Xa g0 g1 g2 g3 g4 g5 k3)=W3 at*;generalize w3.heap.size=b2 at*;have bo:=(gl r4);have a2:=(gl q4);have bk:∀x:Fq (Below W3.heap.size W3),x.to.cell? ⟨b2,2,none⟩=some (Xu g2):=fun x=>by rw[cell_of_block ((x.ok.block _ a2).trans q4)];rfl
 have bm:∀x:Fq (Below W3.heap.size W3),x.to.cell? ⟨b2,3,none⟩=some (Xu g3):=fun x=>by rw[cell_of_block ((x.ok.block _ a2).trans q4)];rfl
 have hC:=fun x:Fq (Below W3.heap.size W3)=>Calls.keeps_below (HG.f x.to (B4.trans (x.ok.mono B4.size)));have hD:=fun x:Fq (Below W3.heap.size W3)=>Calls.keeps_below (HG.g x.to (B4.trans (x.ok.mono B4.size)));have al:=kq3 B4 r4 q4;clear B4 r4 q4;refine iq (Below W3.heap.size W3) (by kernel_rfl) (by kernel_rfl) (aa _ _).drew (fun _=>?_)
 repeat (first | go_big_quiet_skip | (go_big_quiet_want;go_big_quiet_op;first | go_big_quiet_on | (apply Exists.intro;refine⟨fun x=>?_,?_⟩;(· first | with_reducible exact hC x | with_reducible exact hD x);go_big_quiet_on)))
 refine wpQuiet_nil ?_;rintro _ ⟨v,rfl⟩;clear hC hD bk bm;have r5:=(v.ok.block b1 bo).trans al.b;have q5:=(v.ok.block b2 a2).trans al.c;have B5:=al.a.trans (v.ok.mono al.a.size);have bt:=v.ok.size;obtain⟨w5,a6⟩:=Ii v.to;rw[a6] at r5 q5 B5 bt⊢;clear a6 v al;have ap:=kq3 B5 r5 q5;have HZ:=If (HG.d.wide B5);clear B5;go_wp2_with fail;obtain⟨I,ar,au⟩:∃I:World->Prop,(∀w',I w'->w'.heap[b1]?=some (.cells #[Xu k0,Xu k1,Xu k2,Xu k3,Xu k4,Xu k5,Xu hh] 319 (0,0))/\w'.heap[b2]?=some (.cells #[Xu g0,Xu g1,Xu g2,Xu g3,Xu g4,Xu g5,Xu k3] 319 (0,0)))/\(∀w',w'.heap[b1]?=some (.cells #[Xu k0,Xu k1,Xu k2,Xu k3,Xu k4,Xu k5,Xu hh] 319 (0,0))->w'.heap[b2]?=some (.cells #[Xu g0,Xu g1,Xu g2,Xu g3,Xu g4,Xu g5,Xu k3] 319 (0,0))->I w'):=⟨fun w'=>w'.heap[b1]?=some (.cells #[Xu k0,Xu k1,Xu k2,Xu k3,Xu k4,Xu k5,Xu hh] 319 (0,0))/\w'.heap[b2]?=some (.cells #[Xu g0,Xu g1,Xu g2,Xu g3,Xu g4,Xu g5,Xu k3] 319 (0,0)),fun _ h=>h,fun _ a b=>⟨a,b⟩⟩;have a7:=fun x:Fq I=>(ar _ x.ok).1;have a9:=fun x:Fq I=>(ar _ x.ok).2;obtain⟨y0,y1,y2,y3,y4,y5,y6⟩:=iZ a7;obtain⟨z0,z1,z2,z3,z4,z5,z6⟩:=iZ a9;have HI:=If au;have a':I w5.drew:=au _ r5 q5;clear a7 a9 q5 r5 ar au;refine Jz I [0,1,2,3,4,5,6,7] [8,9] (by kernel_rfl) (by kernel_rfl) a' ?_;exact qFgab
theorem tH{S S':St}{hh x:Nat}(hi:Fv S)(h:balM S hh=some (x,S')):Fv S':=by
 obtain⟨a,b,-,-,D⟩:=tI h
 cases D with
 | none _ _ _ h4=>rw[h4];exact hi
 | ll c d _ _ _ _ h5=>exact oT hi h5
 | lr c d y S1 S2 _ _ _ _ h5 h6 h7=>exact oT (gX (ow hi h5) h6) h7
 | rr c d _ _ _ _ _ h5=>exact ow hi h5
 | rl c d y S1 S2 _ _ _ _ _ h5 h6 h7=>exact ow (gX (oT hi h5) h6) h7
theorem tG{S S':St}(h:Ig w ps S Y)(hi:Fv S)(hh:Nat)(hl:hh<2^64)(hR:balM S hh=some (x,S')):
 Ct 246 #[PV ps,Xu hh] w fun e w'=>e=.returned (Xu x)/\Ig w' ps S' Y/\Fo Y w w':=by
 obtain⟨a,b,ha,hb,D⟩:=tI hR
 cases D with
 | none h1 h2 h3 h4=>subst h3 h4;exact yQ h hi x hl ha hb h1 h2
 | ll c d h1 h2 h3 h4 h5=>exact yO h hi hh hl ha hb h1 h2 h3 h4 h5
 | lr c d y S1 S2 h1 h2 h3 h4 h5 h6 h7=>exact yP h hi hh hl ha hb h1 h2 h3 h4 h5 h6 h7
 | rr c d _ h1 h2 h3 h4 h5=>exact yS h hi hh hl ha hb h1 h2 h3 h4 h5
 | rl c d y S1 S2 _ h1 h2 h3 h4 h5 h6 h7=>exact yR h hi hh hl ha hb h1 h2 h3 h4 h5 h6 h7
theorem lT(n:Nd){m:Nat}:∀(f:Nat) {S S':St} {l r x:Nat},Fv S->joinB n m f S l r=some (x,S')->Fv S'/\(m<2^64->x<2^64)
 | 0,S,S',l,r,x,hi,hj=>by
  rw[qY] at hj;obtain⟨S1,h1,h2⟩:=aC.1 hj;injection h2 with e1 e2
  subst e1 e2;exact⟨gX hi h1,id⟩
 | f+1,S,S',l,r,x,hi,hj=>by
  rw[qX] at hj;split at hj
  ·split at hj
   ·split at hj
    ·cases hj
    ·rename_i x1 S1 h1;split at hj
     ·cases hj
     ·rename_i S2 h2;obtain⟨hb,hx⟩:=lM hj;exact⟨tH (gX (lT n f hi h1).1 h2) hb,fun _=>hx⟩
   ·split at hj
    ·split at hj
     ·cases hj
     ·rename_i x1 S1 h1;split at hj
      ·cases hj
      ·rename_i S2 h2;obtain⟨hb,hx⟩:=lM hj;exact⟨tH (gX (lT n f hi h1).1 h2) hb,fun _=>hx⟩
    ·obtain⟨S1,h1,h2⟩:=aC.1 hj;injection h2 with e1 e2
     subst e1 e2;exact⟨gX hi h1,id⟩
  ·cases hj
theorem yU(n:Nd)(hn:ji n)(m:Nat)(hm:m<2^64):∀(f d:Nat),d+f=100->∀{w:World} {S S':St} {Y:Nat->Prop} {l r x:Nat},Ig w ps S Y->Fv S->l<2^64->r<2^64->
 joinB n m f S l r=some (x,S')->
 Ct 219 #[PV ps,Xu l,Xu r,gP n m,Xi d] w fun e w'=>e=.returned (Xu x)/\Ig w' ps S' Y/\Fo Y w w':=by
 intro f;induction f with
 | zero=>
  intro d hd w S S' Y l r x h hi hl hr hj;obtain rfl:d=100:=by omega
  rw[qY] at hj;obtain⟨S1,h1,h2⟩:=aC.1 hj;injection h2 with e1 e2
  subst e1 e2;obtain⟨a,b,-,-,ha,hb,-,-,-⟩:=Ht h1;have hA:=fun W (hW:Below w.heap.size w W)=>fJ (h.below hW) hi l hl ha;have hB:=fun W (hW:Below w.heap.size w W)=>fJ (h.below hW) hi r hr hb;have hW:=fun W Z (hW:Ig W ps S Z)=>jG hW hi n hn m l r hm hl hr h1;obtain⟨k0,k1,k2,k3,k4,k5⟩:=n;simp only[gP] at hW⊢;have q0:=heap_alloc_new w (Xa k0 k1 k2 k3 k4 k5 m);have B0:=(aa w.heap.size w).alloc Ih (Xa k0 k1 k2 k3 k4 k5 m);have HG:=kq6 hA hB hW h q0 B0;clear hA hB hW h hi hj h1 ha hb q0 B0 hd hn;go_enter func219,ntmps219;go_wp2_with fail;refine wx (HG.a _ HG.f) fun w1 hb1=>?_;have H1:=kq2 (HG.f.trans (hb1.mono HG.f.size)) ((hb1.block w.heap.size (by simp)).trans HG.e);clear hb1;go_wp2_with fail;refine wx (HG.b _ H1.a) fun w2 hb2=>?_;have r2:=(hb2.block w.heap.size (gl H1.b)).trans H1.b;obtain⟨c0,c1,c2,c3,c4,c5,c6⟩:=gG r2;have H2:=If (H1.a.trans (hb2.mono H1.a.size));clear hb2 r2;go_wp2_with fail;refine(HG.c _ _ (HG.d.below H2.out)).mono ?_;rintro e w3 ⟨rfl,h3,a8⟩;have H3:=kq2 h3 ((Fo.of_below H2.out HG.d.yl).trans a8);clear h3 a8;go_wp2_with fail;go_ret;exact⟨rfl,H3.out⟩
 | succ f ih=>
  intro d hd w S S' Y l r x h hi hl hr hj;rw[qX] at hj;split at hj
  case h_2=>cases hj
  rename_i a b ha hb;have bd:a<2^62:=by have:=num_some ha;omega
  have bf:b<2^62:=by have:=num_some hb;omega
  have hA:=fun W (hW:Below w.heap.size w W)=>fJ (h.below hW) hi l hl ha;have hB:=fun W (hW:Below w.heap.size w W)=>fJ (h.below hW) hi r hr hb;have bj:((d:Int)==100)=false:=by simp;omega
  split at hj
  ·rename_i hba;have ba:((b:Int)+1<a)=True:=eq_true (by omega);split at hj
   ·cases hj
   rename_i x1 S1 hj1;split at hj
   ·cases hj
   rename_i S2 hj2;obtain⟨hj,a'⟩:=lM hj;obtain⟨a1,ai⟩:=lT n f hi hj1;have ai:=ai hm;have a4:=gX a1 hj2;have ad:=fs h l;have hg:=fun W (hW:Below w.heap.size w W)=>gR (h.below hW) hi l hl;have cr:=fun W Z (hW:Ig W ps S Z)=>ih (d+1) (by omega) hW hi ad.right hr hj1;have cw:=fun W Z (hW:Ig W ps S1 Z)=>jG hW a1 (getNode S l).1 ad l (getNode S l).1.left x1 hl ad.left ai hj2;have cb:=fun W Z (hW:Ig W ps S2 Z)=>tG hW a4 _ hl hj;obtain⟨⟨⟨g0,g1,g2,g3,g4,g5⟩,er⟩,hE⟩:∃r,getNode S l=r:=⟨_,rfl⟩;rw[hE] at hg cr cw;obtain⟨k0,k1,k2,k3,k4,k5⟩:=n;simp only[gP] at hg cr cw⊢;have bb:IntKind.i64.wrap ((d:Int)+1)=(d:Int)+1:=aD _ (by omega);have q0:=heap_alloc_new w (Xa k0 k1 k2 k3 k4 k5 m);have B0:=(aa w.heap.size w).alloc Ih (Xa k0 k1 k2 k3 k4 k5 m);have HG:=kq9 hA hB hg h q0 B0 cr cw cb;clear hA hB hg cr cw cb h hi a1 a4 hj hj1 hj2 ha hb q0 B0 ih hn ad a' ai hE;go_enter func219,ntmps219;go_wp2_with fail;refine wx (HG.a _ HG.f) fun w1 hb1=>?_;have H1:=kq2 (HG.f.trans (hb1.mono HG.f.size)) ((hb1.block w.heap.size (by simp)).trans HG.e);clear hb1;go_wp2_with fail;refine wx (HG.b _ H1.a) fun w2 hb2=>?_;have H2:=kq2 (H1.a.trans (hb2.mono H1.a.size)) ((hb2.block w.heap.size (gl H1.b)).trans H1.b);clear hb2;go_wp2_with fail;refine wx (HG.c _ H2.a) fun w3 hb3=>?_;have r3:=(hb3.block w.heap.size (gl H2.b)).trans H2.b;have B3:=H2.a.trans (hb3.mono H2.a.size);have q4:=heap_alloc_new w3 (Xa g0 g1 g2 g3 g4 g5 l);have r4:=(((aa w3.heap.size w3).alloc Ih (Xa g0 g1 g2 g3 g4 g5 l)).block w.heap.size (gl r3)).trans r3;have B4:=B3.alloc B3.size (Xa g0 g1 g2 g3 g4 g5 l);clear hb3 r3;have a5:=B3.size;go_wp2_with fail;generalize w3.alloc (Xa g0 g1 g2 g3 g4 g5 l)=W at*;generalize w3.heap.size=b13 at*;have a3:=(gl r4);have a2:=(gl q4);have zw:=HG.d.wide B4;have HZ:=kq5 zw r4 q4 B4 a5;obtain⟨I,au,a0⟩:∃I:World->Prop,(∀w',I w'->w'.heap[w.heap.size]?=some (Xa k0 k1 k2 k3 k4 k5 m)/\w'.heap[b13]?=some (Xa g0 g1 g2 g3 g4 g5 l))/\(∀w',w'.heap[w.heap.size]?=some (Xa k0 k1 k2 k3 k4 k5 m)->w'.heap[b13]?=some (Xa g0 g1 g2 g3 g4 g5 l)->I w'):=⟨fun w'=>w'.heap[w.heap.size]?=some (Xa k0 k1 k2 k3 k4 k5 m)/\w'.heap[b13]?=some (Xa g0 g1 g2 g3 g4 g5 l),fun _ h=>h,fun _ a b=>⟨a,b⟩⟩;have a6:=fun x:Fq I=>(au _ x.ok).1;have a7:=fun x:Fq I=>(au _ x.ok).2;obtain⟨y0,y1,y2,y3,y4,y5,y6⟩:=iZ a6;obtain⟨z0,z1,z2,z3,z4,z5,z6⟩:=iZ a7;have HI:=If a0;have a9:I W.drew:=a0 _ r4 q4;clear a6 a7 q4 r4 zw B4 a5 au a0;refine Jz I [0,1,2,3,4,5,6,7,8,9,10,11,12,13] [14,15,16,17] (by kernel_rfl) (by kernel_rfl) a9 ?_;iterate 14
    refine' hC ?_ ?_;rotate_left
    ·intro x;go_simp;try rfl
    simp only[pu]
   refine mo ?_;clear y0 y1 y2 y3 y4 y5 y6 z0 z1 z2 z3 z4 z5 z6;refine gF _ (by rfl) (by rfl) (fun K hK=>?_);go_simp;refine(HG.g _ _ (HZ.a.below (aa _ _).drew)).mono ?_;rintro e w5 ⟨rfl,h5,al⟩;have u5:w5.heap[w.heap.size]?=_:=(al.block _ (ae ⟨Nat.le_refl _,a3⟩)).trans HZ.b;have v5:w5.heap[b13]?=_:=(al.block _ (ae ⟨HZ.e,a2⟩)).trans HZ.c;have H5:=kq4 h5 al u5 v5;clear h5 al u5 v5;try go_simp
   refine hK.out _ _ (HI.out _ H5.c H5.d) ?_;clear hK K;try simp only[pu]
   refine gF _ (by rfl) (by rfl) (fun K hK=>?_);go_simp;refine(HG.h _ _ H5.a).mono ?_;rintro e w6 ⟨rfl,h6,ap⟩;have u6:w6.heap[w.heap.size]?=_:=(ap.block _ (ae ⟨Nat.le_refl _,a3⟩)).trans H5.c;have v6:w6.heap[b13]?=_:=(ap.block _ (ae ⟨HZ.e,a2⟩)).trans H5.d;have H6:=kq4 h6 (H5.b.trans ap) u6 v6;clear h6 ap u6 v6;try go_simp
   refine hK.out _ _ (HI.out _ H6.c H6.d) ?_;clear hK K;try simp only[pu]
   refine gF _ (by rfl) (by rfl) (fun K hK=>?_);go_simp;refine(HG.i _ _ H6.a).mono ?_;rintro e w7 ⟨rfl,h7,ar⟩;have u7:w7.heap[w.heap.size]?=_:=(ar.block _ (ae ⟨Nat.le_refl _,a3⟩)).trans H6.c;have v7:w7.heap[b13]?=_:=(ar.block _ (ae ⟨HZ.e,a2⟩)).trans H6.d;have H7:=kq4 h7 (H6.b.trans ar) u7 v7;clear h7 ar u7 v7;try go_simp
   refine hK.out _ _ (HI.out _ H7.c H7.d) ?_;clear hK K;try simp only[pu]
   refine gF _ (by rfl) (by rfl) (fun K hK=>?_);try go_simp
   refine hK.out _ _ (HI.out _ H7.c H7.d) ?_;clear hK K;try simp only[pu]
   refine mp ?_;go_wp2_with fail;go_ret;exact⟨rfl,H7.a.mono fun k hk=>ab hk,(Fo.of_below HZ.d.drew HG.d.yl).trans (H7.b.mono fun k hk=>ab hk)⟩
  ·split at hj
   ·rename_i hab;have ba:((b:Int)+1<a)=False:=eq_false (by omega);have bc:((a:Int)+1<b)=True:=eq_true (by omega);split at hj
    ·cases hj
    rename_i x1 S1 hj1;split at hj
    ·cases hj
    rename_i S2 hj2;obtain⟨hj,a'⟩:=lM hj;obtain⟨a1,ai⟩:=lT n f hi hj1;have ai:=ai hm;have a4:=gX a1 hj2;have ad:=fs h r;have hg:=fun W (hW:Below w.heap.size w W)=>gR (h.below hW) hi r hr;have cr:=fun W Z (hW:Ig W ps S Z)=>ih (d+1) (by omega) hW hi hl ad.left hj1;have cw:=fun W Z (hW:Ig W ps S1 Z)=>jG hW a1 (getNode S r).1 ad r x1 (getNode S r).1.right hr ai ad.right hj2;have cb:=fun W Z (hW:Ig W ps S2 Z)=>tG hW a4 _ hr hj;obtain⟨⟨⟨g0,g1,g2,g3,g4,g5⟩,er⟩,hE⟩:∃q,getNode S r=q:=⟨_,rfl⟩;rw[hE] at hg cr cw;obtain⟨k0,k1,k2,k3,k4,k5⟩:=n;simp only[gP] at hg cr cw⊢;have bb:IntKind.i64.wrap ((d:Int)+1)=(d:Int)+1:=aD _ (by omega);have q0:=heap_alloc_new w (Xa k0 k1 k2 k3 k4 k5 m);have B0:=(aa w.heap.size w).alloc Ih (Xa k0 k1 k2 k3 k4 k5 m);have HG:=kq9 hA hB hg h q0 B0 cr cw cb;clear hA hB hg cr cw cb h hi a1 a4 hj hj1 hj2 ha hb q0 B0 ih hn ad a' ai hE;go_enter func219,ntmps219;go_wp2_with fail;refine wx (HG.a _ HG.f) fun w1 hb1=>?_;have H1:=kq2 (HG.f.trans (hb1.mono HG.f.size)) ((hb1.block w.heap.size (by simp)).trans HG.e);clear hb1;go_wp2_with fail;refine wx (HG.b _ H1.a) fun w2 hb2=>?_;have H2:=kq2 (H1.a.trans (hb2.mono H1.a.size)) ((hb2.block w.heap.size (gl H1.b)).trans H1.b);clear hb2;go_wp2_with fail;refine wx (HG.c _ H2.a) fun w3 hb3=>?_;have r3:=(hb3.block w.heap.size (gl H2.b)).trans H2.b;have B3:=H2.a.trans (hb3.mono H2.a.size);have q4:=heap_alloc_new w3 (Xa g0 g1 g2 g3 g4 g5 r);have r4:=(((aa w3.heap.size w3).alloc Ih (Xa g0 g1 g2 g3 g4 g5 r)).block w.heap.size (gl r3)).trans r3;have B4:=B3.alloc B3.size (Xa g0 g1 g2 g3 g4 g5 r);clear hb3 r3;have a5:=B3.size;go_wp2_with fail;generalize w3.alloc (Xa g0 g1 g2 g3 g4 g5 r)=W at*;generalize w3.heap.size=b13 at*;have a3:=(gl r4);have a2:=(gl q4);have zw:=HG.d.wide B4;have HZ:=kq5 zw r4 q4 B4 a5;obtain⟨I,au,a0⟩:∃I:World->Prop,(∀w',I w'->w'.heap[w.heap.size]?=some (Xa k0 k1 k2 k3 k4 k5 m)/\w'.heap[b13]?=some (Xa g0 g1 g2 g3 g4 g5 r))/\(∀w',w'.heap[w.heap.size]?=some (Xa k0 k1 k2 k3 k4 k5 m)->w'.heap[b13]?=some (Xa g0 g1 g2 g3 g4 g5 r)->I w'):=⟨fun w'=>w'.heap[w.heap.size]?=some (Xa k0 k1 k2 k3 k4 k5 m)/\w'.heap[b13]?=some (Xa g0 g1 g2 g3 g4 g5 r),fun _ h=>h,fun _ a b=>⟨a,b⟩⟩;have a6:=fun x:Fq I=>(au _ x.ok).1;have a7:=fun x:Fq I=>(au _ x.ok).2;obtain⟨y0,y1,y2,y3,y4,y5,y6⟩:=iZ a6;obtain⟨z0,z1,z2,z3,z4,z5,z6⟩:=iZ a7;have HI:=If a0;have a9:I W.drew:=a0 _ r4 q4;clear a6 a7 q4 r4 zw B4 a5 au a0;refine Jz I [0,1,2,3,4,5,6,7,8,9,10,12,13,14] [11,15,16,17] (by kernel_rfl) (by kernel_rfl) a9 ?_;iterate 14
     refine' hC ?_ ?_;rotate_left
     ·intro x;go_simp;try rfl
     simp only[pu]
    refine mo ?_;clear y0 y1 y2 y3 y4 y5 y6 z0 z1 z2 z3 z4 z5 z6;refine gF _ (by rfl) (by rfl) (fun K hK=>?_);go_simp;refine(HG.g _ _ (HZ.a.below (aa _ _).drew)).mono ?_;rintro e w5 ⟨rfl,h5,al⟩;have u5:w5.heap[w.heap.size]?=_:=(al.block _ (ae ⟨Nat.le_refl _,a3⟩)).trans HZ.b;have v5:w5.heap[b13]?=_:=(al.block _ (ae ⟨HZ.e,a2⟩)).trans HZ.c;have H5:=kq4 h5 al u5 v5;clear h5 al u5 v5;try go_simp
    refine hK.out _ _ (HI.out _ H5.c H5.d) ?_;clear hK K;try simp only[pu]
    refine gF _ (by rfl) (by rfl) (fun K hK=>?_);go_simp;refine(HG.h _ _ H5.a).mono ?_;rintro e w6 ⟨rfl,h6,ap⟩;have u6:w6.heap[w.heap.size]?=_:=(ap.block _ (ae ⟨Nat.le_refl _,a3⟩)).trans H5.c;have v6:w6.heap[b13]?=_:=(ap.block _ (ae ⟨HZ.e,a2⟩)).trans H5.d;have H6:=kq4 h6 (H5.b.trans ap) u6 v6;clear h6 ap u6 v6;try go_simp
    refine hK.out _ _ (HI.out _ H6.c H6.d) ?_;clear hK K;try simp only[pu]
    refine gF _ (by rfl) (by rfl) (fun K hK=>?_);go_simp;refine(HG.i _ _ H6.a).mono ?_;rintro e w7 ⟨rfl,h7,ar⟩;have u7:w7.heap[w.heap.size]?=_:=(ar.block _ (ae ⟨Nat.le_refl _,a3⟩)).trans H6.c;have v7:w7.heap[b13]?=_:=(ar.block _ (ae ⟨HZ.e,a2⟩)).trans H6.d;have H7:=kq4 h7 (H6.b.trans ar) u7 v7;clear h7 ar u7 v7;try go_simp
    refine hK.out _ _ (HI.out _ H7.c H7.d) ?_;clear hK K;try simp only[pu]
    refine gF _ (by rfl) (by rfl) (fun K hK=>?_);try go_simp
    refine hK.out _ _ (HI.out _ H7.c H7.d) ?_;clear hK K;try simp only[pu]
    refine mp ?_;go_wp2_with fail;go_ret;exact⟨rfl,H7.a.mono fun k hk=>ab hk,(Fo.of_below HZ.d.drew HG.d.yl).trans (H7.b.mono fun k hk=>ab hk)⟩
   ·rename_i hba hab;have ba:((b:Int)+1<a)=False:=eq_false (by omega);have bc:((a:Int)+1<b)=False:=eq_false (by omega);obtain⟨S1,h1,h2⟩:=aC.1 hj;injection h2 with e1 e2
    subst e1 e2;have hW:=fun W Z (hW:Ig W ps S Z)=>jG hW hi n hn m l r hm hl hr h1;obtain⟨k0,k1,k2,k3,k4,k5⟩:=n;simp only[gP] at hW⊢;have q0:=heap_alloc_new w (Xa k0 k1 k2 k3 k4 k5 m);have B0:=(aa w.heap.size w).alloc Ih (Xa k0 k1 k2 k3 k4 k5 m);have HG:=kq6 hA hB hW h q0 B0;clear hA hB hW h hi hj h1 ha hb q0 B0 hn ih;go_enter func219,ntmps219;go_wp2_with fail;refine wx (HG.a _ HG.f) fun w1 hb1=>?_;have H1:=kq2 (HG.f.trans (hb1.mono HG.f.size)) ((hb1.block w.heap.size (by simp)).trans HG.e);clear hb1;go_wp2_with fail;refine wx (HG.b _ H1.a) fun w2 hb2=>?_;have r2:=(hb2.block w.heap.size (gl H1.b)).trans H1.b;obtain⟨c0,c1,c2,c3,c4,c5,c6⟩:=gG r2;have H2:=If (H1.a.trans (hb2.mono H1.a.size));clear hb2 r2;go_wp2_with fail;refine(HG.c _ _ (HG.d.below H2.out)).mono ?_;rintro e w3 ⟨rfl,h3,a8⟩;have H3:=kq2 h3 ((Fo.of_below H2.out HG.d.yl).trans a8);clear h3 a8;go_wp2_with fail;go_ret;exact⟨rfl,H3.out⟩
theorem nL{S S':St}{l m r:Nat}(h:avlJ S l m r=some (R,S')):
 m≠0/\isT S l=true/\isT S m=true/\isT S r=true/\joinB (getNode S m).1 m 100 S l r=some (R.1,S')/\R.2=0:=by
 unfold avlJ at h
 split at h
 ·cases h
 ·rename_i hc;obtain⟨⟨x,S1⟩,h1,h2⟩:=aC.1 h
  injection h2 with e1 e2
  subst e1 e2;simp only[not_or,dQ] at hc;exact⟨hc.1,hc.2.1,hc.2.2.1,hc.2.2.2,h1,rfl⟩
theorem yM{S S':St}(h:Ig w ps S Y)(hi:Fv S)(l m r:Nat)(hl:l<2^64)(hm:m<2^64)(hr:r<2^64)(hR:avlJ S l m r=some (R,S')):
 Ct 197 #[PV ps,Xu l,Xu m,Xu r] w fun e w'=>e=.returned (.tuple #[Xu R.1,Xi R.2])/\Ig w' ps S' Y/\Fo Y w w':=by
 obtain⟨h0,h1,h2,h3,h4,h5⟩:=nL hR;obtain⟨x,er⟩:=R;simp only at h4 h5;subst h5;have ap:=fB h hi 0 (by omega);rw[fU] at ap;have ad:=pQ h hi l hl;have ai:=fun W (hW:Below w.heap.size w W)=>pQ (h.below hW) hi m hm;have al:=fun W (hW:Below w.heap.size w W)=>pQ (h.below hW) hi r hr;have hg:=fun W (hW:Below w.heap.size w W)=>gR (h.below hW) hi m hm;have hj:=fun W (hW:Below w.heap.size w W)=>yU (getNode S m).1 (fs h m) m hm 100 0 rfl (h.below hW) hi hl hr h4;rw[h1] at ad;rw[h2] at ai;rw[h3] at al;obtain⟨⟨⟨k0,k1,k2,k3,k4,k5⟩,er⟩,hE⟩:∃q,getNode S m=q:=⟨_,rfl⟩;rw[hE] at hg hj;simp only[gP] at hg hj;have hq:((m:Int)==0)=false:=by simp;omega
 have HG:=kq7 ap ad ai al hg hj h;clear ap ad ai al hg hj h hi hE h0 h1 h2 h3 h4 hR;go_enter func197,ntmps197;go_wp2_with fail;refine Jc HG.a ?_;go_wp2_with fail;refine wx HG.b fun w1 hb1=>?_;have H1:=If hb1;clear hb1;go_wp2_with fail;refine wx (HG.c _ H1.out) fun w2 hb2=>?_;have H2:=If (H1.out.trans (hb2.mono H1.out.size));clear hb2;go_wp2_with fail;refine wx (HG.d _ H2.out) fun w3 hb3=>?_;have H3:=If (H2.out.trans (hb3.mono H2.out.size));clear hb3;go_wp2_with fail;refine wx (HG.e _ H3.out) fun w4 hb4=>?_;have H4:=If (H3.out.trans (hb4.mono H3.out.size));clear hb4;go_wp2_with fail;refine(HG.f _ H4.out).mono ?_;rintro e w5 ⟨rfl,h5,ar⟩;have H5:=kq2 h5 ((HG.g.keep H4.out).trans ar);clear h5 ar;go_wp2_with fail;go_ret2;exact⟨rfl,H5.out⟩
theorem BJ:kW 197 avlJ where
 enter args w:=by go_simp
 inv hi h:=(lT _ 100 hi (nL h).2.2.2.2.1).1
 lt hi _ hm _ h:=(lT _ 100 hi (nL h).2.2.2.2.1).2 hm
 ok h:=(nL h).2.2.2.2.2
 call h hi hl hm hr hR:=yM h hi _ _ _ hl hm hr hR
theorem vi:jD 1 197 198 avlJ:=⟨ab rfl,E2,BJ,Ai⟩
end
section
open Lf
def Lf.sidesT(S:St)(tu:Bool)(h:Nat):Nat×Nat:=if tu=true then((getNode S h).1.right,(getNode S h).1.left) else((getNode S h).1.left,(getNode S h).1.right)
def Lf.putJ(S:St)(tu:Bool)(h other own:Nat)(c:Bool):Option St:=if tu=true then putRM S h own other c else putRM S h other own c
def Lf.fixR(tu:Bool)(S:St)(t other x:Nat)(is:Bool):Option (Nat×St):=
 if is=true\/redT S x=false then some (t,S)
 else if redT S (sidesT S tu x).2=false then some (t,S)
 else match putJ S tu (sidesT S tu x).2 (sidesT S tu (sidesT S tu x).2).1 (sidesT S tu (sidesT S tu x).2).2 false with
  | none=>none
  | some S1=>match putJ S1 tu t other (sidesT S tu x).1 false with
   | none=>none
   | some S2=>(putJ S2 tu x t (sidesT S tu x).2 true).map fun S3=>(x,S3)
def Lf.joinR(tu:Bool)(m:Nat):Nat->St->Nat->Nat->Option (Nat×St)
 | 0,S,t,low=>(putJ S tu m t low true).map fun S'=>(m,S')
 | f+1,S,t,low=>
  if redT S t=false/\blackT S t=blackT S low then(putJ S tu m t low true).map fun S'=>(m,S')
  else match joinR tu m f S (sidesT S tu t).2 low with
   | none=>none
   | some (x,S1)=>
    match putJ S1 tu t (sidesT S tu t).1 x (redT S t) with
    | none=>none
    | some S2=>chk (fixR tu S2 t (sidesT S tu t).1 x (redT S t))
theorem rf(tu:Bool)(m:Nat)(S:St)(t low:Nat):joinR tu m 0 S t low=(putJ S tu m t low true).map fun S'=>(m,S'):=rfl
theorem re(tu:Bool)(m f:Nat)(S:St)(t low:Nat):joinR tu m (f+1) S t low=
 if redT S t=false/\blackT S t=blackT S low then(putJ S tu m t low true).map fun S'=>(m,S')
 else match joinR tu m f S (sidesT S tu t).2 low with
  | none=>none
  | some (x,S1)=>
   match putJ S1 tu t (sidesT S tu t).1 x (redT S t) with
   | none=>none
   | some S2=>chk (fixR tu S2 t (sidesT S tu t).1 x (redT S t)):=rfl
def Lf.topR(tu:Bool)(S:St)(t m low:Nat):Option (Nat×St):=
 match joinR tu m 200 S t low with
 | none=>none
 | some (h,S1)=>
  if redT S1 h=true/\redT S1 (sidesT S1 tu h).2=true then(putJ S1 tu h (sidesT S1 tu h).1 (sidesT S1 tu h).2 false).map fun S2=>(h,S2)
  else some (h,S1)
def Lf.redJ(S:St)(l m r:Nat):Option ((Nat×Nat)×St):=
 if m=0\/isT S l=false\/isT S m=false\/isT S r=false then none
 else if blackT S r<blackT S l then(topR false S l m r).map fun x=>((x.1,0),x.2)
 else if blackT S l<blackT S r then(topR true S r m l).map fun x=>((x.1,0),x.2)
 else(putRM S m l r (!redT S l && !redT S r)).map fun S'=>((m,0),S')
theorem Jo {S S':St}{h l r:Nat}{c:Bool}(hi:Fv S)(hp:putRM S h l r c=some S'):Fv S':=by
 obtain⟨_,_,_,_,_,rfl⟩:=wA hp;exact rT hi _ _
theorem jV {S S':St}{tu:Bool}{h a b:Nat}{c:Bool}(hi:Fv S)(hp:putJ S tu h a b c=some S'):Fv S':=by
 unfold putJ at hp;split at hp<;>exact Jo hi hp
theorem AX {tu:Bool}{S S':St}{t other x y:Nat}{is:Bool}(hi:Fv S)(h:fixR tu S t other x is=some (y,S')):Fv S':=by
 unfold fixR at h
 split at h
 ·injection h with h;injection h with _ e;rw[<-e];exact hi
 ·split at h
  ·injection h with h;injection h with _ e;rw[<-e];exact hi
  ·split at h
   ·cases h
   ·rename_i S1 h1
    split at h
    ·cases h
    ·rename_i S2 h2;obtain⟨S3,h3,h4⟩:=aC.1 h
     injection h4 with _ e
     rw[<-e];exact jV (jV (jV hi h1) h2) h3
theorem lU(tu:Bool){m:Nat}:∀(f:Nat) {S S':St} {t low x:Nat},Fv S->joinR tu m f S t low=some (x,S')->Fv S'/\(m<2^64->x<2^64)
 | 0,S,S',t,low,x,hi,hj=>by
  rw[rf] at hj;obtain⟨S1,h1,h2⟩:=aC.1 hj;injection h2 with e1 e2
  subst e1 e2;exact⟨jV hi h1,id⟩
 | f+1,S,S',t,low,x,hi,hj=>by
  rw[re] at hj;split at hj
  ·obtain⟨S1,h1,h2⟩:=aC.1 hj;injection h2 with e1 e2
   subst e1 e2;exact⟨jV hi h1,id⟩
  ·split at hj
   ·cases hj
   ·rename_i x1 S1 h1;split at hj
    ·cases hj
    ·rename_i S2 h2;obtain⟨h3,h4⟩:=lM hj;exact⟨AX (jV (lU tu f hi h1).1 h2) h3,fun _=>h4⟩
theorem pi {tu:Bool}{S S':St}{t m low x:Nat}(hi:Fv S)(h:topR tu S t m low=some (x,S')):Fv S'/\(m<2^64->x<2^64):=by
 unfold topR at h
 split at h
 ·cases h
 ·rename_i y S1 h1;obtain⟨i1,l1⟩:=lU tu 200 hi h1
  split at h
  ·obtain⟨S2,h2,h3⟩:=aC.1 h
   injection h3 with e1 e2
   subst e1 e2;exact⟨jV i1 h2,l1⟩
  ·injection h with h
   injection h with e1 e2
   subst e1 e2;exact⟨i1,l1⟩
theorem qFgaf{P:Prop}(h:P:=by
 obtain⟨x,h1,h2⟩:=aC.1 h
 injection h2 with e1 e2
 subst e1 e2;exact⟨(pi hi h1).1,(pi hi h1).2,rfl⟩):P:=h
theorem wG {S S':St}{l m r:Nat}{R:Nat×Nat}(hi:Fv S)(h:redJ S l m r=some (R,S')):Fv S'/\(m<2^64->R.1<2^64)/\R.2=0:=by
 unfold redJ at h
 split at h
 ·cases h
 ·split at h
  ·exact qFgaf
  ·split at h
   ·exact qFgaf
   ·obtain⟨S1,h1,h2⟩:=aC.1 h
    injection h2 with e1 e2
    subst e1 e2;exact⟨Jo hi h1,id,rfl⟩
end
section
open Go.RowKit Tryz Go.BigFrame Go.Maps Go.WideMaps Lf
variable{S:St}{Y:Nat->Prop}{ps:Nat}{w:World}{x1:Nat}{x:Nat}
def eq(ps:Nat)(tu:Bool):Value:=.agg #[PV ps,.bool tu]
theorem DX{bj ps:Nat}{tu:Bool}(hb:w.heap[bj]?=some (.cells #[PV ps,.bool tu] 324 (0,0)))(a b:Nat):
 Ct 264 #[Xu a,Xu b,PV bj] w fun e w'=>e=.returned (.tuple #[Xu (if tu=true then b else a:Nat),Xu (if tu=true then a else b:Nat)])/\w=w':=by
 obtain⟨c0,c1⟩:=Fp hb;clear hb
 cases tu
 all_goals
  go_enter func264,ntmps264;go_wp2_with fail;go_ret2;exact⟨rfl,rfl⟩
theorem jX(h:Ig w ps S Y)(hi:Fv S)(tu:Bool)(hh:Nat)(hl:hh<2^64):
 Cb 251 #[eq ps tu,Xu hh] w (.tuple #[Xu (sidesT S tu hh).1,Xu (sidesT S tu hh).2]):=by
 have q0:=heap_alloc_new w (Xb ps tu);have B0:=(aa w.heap.size w).alloc Ih (Xb ps tu);have hg:=oQ (h.below B0) hi hh hl;unfold sidesT;obtain⟨⟨⟨k0,k1,k2,k3,k4,k5⟩,er⟩,hE⟩:∃r,getNode S hh=r:=⟨_,rfl⟩;rw[hE] at hg⊢;unfold eS at hg;simp only at hg⊢;unfold eq;have ad:=fun(W:World) (hW:W.heap[w.heap.size]?=some (.cells #[PV ps,.bool tu] 324 (0,0)))=>DX hW k2 k3;have ai:∀(args:Array Value) (w:World),(callFunc 264 args).run prog w=.ok (.enter 264 args) w:=fun args w=>by go_simp
 have HG:=kq4 hg ad q0 B0;clear hg ad h hi hE q0 B0;go_enter func251,ntmps251;go_wp2_with fail;refine wx HG.a fun w1 hb1=>?_;have q1:=(hb1.block w.heap.size (by simp)).trans HG.c;have B1:=HG.d.trans (hb1.mono (by simp));have r2:=(((aa w1.heap.size w1).alloc Ih (Xd k0 k1 k2 k3 k4 k5)).block w.heap.size (gl q1)).trans q1;have B2:=B1.alloc B1.size (Xd k0 k1 k2 k3 k4 k5);have H2:=kq2 r2 B2;clear hb1 q1 B1 r2 B2;go_wp2_with fail;refine Jc (HG.b _ H2.a) ?_
 cases tu
 all_goals
  simp only[if_true,if_false,bO];go_wp2_with fail;go_ret2;exact⟨rfl,H2.b⟩
theorem qFgad{P:Prop}(h:P:=by
 have HG:=kq2 hq (Fo.of_below B0 h.yl);clear hq B0 h hi hp;go_enter func252,ntmps252;go_wp2_with fail;refine HG.a.mono ?_;rintro e w1 ⟨rfl,h1,k1⟩;have H1:=kq2 h1 (HG.b.trans k1);clear h1 k1;go_wp2_with fail;go_ret;exact⟨rfl,H1.out⟩):P:=h
theorem jW{S S':St}(h:Ig w ps S Y)(hi:Fv S)(tu:Bool)(hh a b:Nat)(c:Bool)(hl:hh<2^64)(hal:a<2^64)(hbl:b<2^64)(hp:putJ S tu hh a b c=some S'):
 Ct 252 #[eq ps tu,Xu hh,Xu a,Xu b,.bool c] w fun e w'=>e=.returned (Xu hh)/\Ig w' ps S' Y/\Fo Y w w':=by
 have B0:=(aa w.heap.size w).alloc Ih (Xb ps tu);unfold putJ at hp;unfold eq
 cases tu with
 | false=>
  have hq:=nh (h.below B0) hi hh a b c hl hal hbl (by simpa using hp);exact qFgad
 | true=>
  have hq:=nh (h.below B0) hi hh b a c hl hbl hal (by simpa using hp);exact qFgad
theorem gW(h:Ig w ps S Y)(tu:Bool)(hh:Nat):(sidesT S tu hh).1<2^64/\(sidesT S tu hh).2<2^64:=by
 have:=fs h hh;unfold sidesT
 split
 ·exact⟨this.right,this.left⟩
 ·exact⟨this.left,this.right⟩
theorem qFgag{P:Prop}(h:P:=by
 go_wp2_with fail;clear c0 c1;go_ret;exact⟨rfl,H2.a.mono (fun k hk=>ab hk),H2.c⟩):P:=h
theorem DU{S S':St}(h:Ig w ps S Y)(hi:Fv S)(tu:Bool)(m t low:Nat)(hm:m<2^64)(ht:t<2^64)(hw:low<2^64)(d:Nat)(hd:d<=200)(h200:d=200)(hp:putJ S tu m t low true=some S'):
 Ct 250 #[eq ps tu,Xu t,Xu m,Xu low,Xi d] w fun e w'=>e=.returned (Xu m)/\Ig w' ps S' Y/\Fo Y w w':=by
 unfold eq;have cp:=fun W (hW:Ig W ps S (fun k=>Y k\/(w.heap.size<=k/\k<w.heap.size+1)))=>jW hW hi tu m t low true hm ht hw hp;subst h200;unfold eq at cp;have q0:=heap_alloc_new w (Xb ps tu);have B0:=(aa w.heap.size w).alloc Ih (Xb ps tu);have al:(w.alloc (Xb ps tu)).heap.size=w.heap.size+1:=by simp
 have z0:=h.wide B0;rw[al] at z0;have k0:Fo Y w (w.alloc (Xb ps tu)):=Fo.of_below B0 h.yl;have au:w.heap.size<(w.alloc (Xb ps tu)).heap.size:=by omega
 have HG:=If cp;clear cp hp hi au al hd;have H0:=kq3 z0 q0 k0;clear z0 q0 k0 B0 h;go_enter func250,ntmps250;go_wp2_with fail;have ap:w.heap.size<(w.alloc (Xb ps tu)).heap.size:=by simp
 have ar:∀x:Fq (Below (w.alloc (Xb ps tu)).heap.size (w.alloc (Xb ps tu))),x.to.cell? ⟨w.heap.size,0,none⟩=some (PV ps):=fun x=>by rw[cell_of_block ((x.ok.block _ ap).trans H0.b)];rfl
 generalize a0:w.alloc (Xb ps tu)=W0 at*;refine iq (Below W0.heap.size W0) (by kernel_rfl) (by kernel_rfl) (aa _ _).drew (fun _=>?_)
 repeat (first | go_big_quiet_skip | (go_big_quiet_want;go_big_quiet_op;go_big_quiet_on))
 refine wpQuiet_nil ?_;rintro _ ⟨v,rfl⟩;have rr:=(v.ok.block w.heap.size ap).trans H0.b;have hs:=H0.a.below v.ok;have hk:=H0.c.trans ((H0.a.keep v.ok).mono (fun k hk=>ab hk));obtain⟨w1,ai⟩:=Ii v.to;rw[ai] at rr hs hk⊢;clear ai v ar;obtain⟨c0,c1⟩:=Fp rr;have H1:=kq3 hs rr hk;clear rr hs hk;go_wp2_with fail;clear c0 c1;refine(HG.out _ H1.a).mono ?_;rintro e w2 ⟨rfl,hs,ad⟩;have rr:=(ad.block w.heap.size (ae ⟨Nat.le_refl _,aJ _⟩)).trans H1.b;have hk:=H1.c.trans (ad.mono (fun k hk=>ab hk));obtain⟨c0,c1⟩:=Fp rr;have H2:=kq3 hs rr hk;clear ad rr hs hk;exact qFgag
theorem DW{S S':St}(h:Ig w ps S Y)(hi:Fv S)(tu:Bool)(m t low:Nat)(hm:m<2^64)(ht:t<2^64)(hw:low<2^64)(d:Nat)(_:d<=200)(h200:d≠200)(hr:redT S t=false)(hb:blackT S t=blackT S low)(hp:putJ S tu m t low true=some S'):
 Ct 250 #[eq ps tu,Xu t,Xu m,Xu low,Xi d] w fun e w'=>e=.returned (Xu m)/\Ig w' ps S' Y/\Fo Y w w':=by
 unfold eq;have cp:=fun W (hW:Ig W ps S (fun k=>Y k\/(w.heap.size<=k/\k<w.heap.size+1)))=>jW hW hi tu m t low true hm ht hw hp;have al:=fun W (hW:Ig W ps S (fun k=>Y k\/(w.heap.size<=k/\k<w.heap.size+1)))=>gq hW hi t ht;have ad:=fun W (hW:Ig W ps S (fun k=>Y k\/(w.heap.size<=k/\k<w.heap.size+1)))=>gy hW hi t ht;have a0:=fun W (hW:Ig W ps S (fun k=>Y k\/(w.heap.size<=k/\k<w.heap.size+1)))=>gy hW hi low hw;rw[hr] at al;rw[hb] at ad;generalize blackT S low=bk at*;have hq:((d:Int)==200)=false:=by simp;omega
 unfold eq at cp;have q0:=heap_alloc_new w (Xb ps tu);have B0:=(aa w.heap.size w).alloc Ih (Xb ps tu);have a2:(w.alloc (Xb ps tu)).heap.size=w.heap.size+1:=by simp
 have z0:=h.wide B0;rw[a2] at z0;have k0:Fo Y w (w.alloc (Xb ps tu)):=Fo.of_below B0 h.yl;have a5:w.heap.size<(w.alloc (Xb ps tu)).heap.size:=by omega
 have HG:=kq4 cp al ad a0;clear cp al ad a0 hp hi a5 a2 hr hb h200;have H0:=kq3 z0 q0 k0;clear z0 q0 k0 B0 h;go_enter func250,ntmps250;go_wp2_with fail;have a3:w.heap.size<(w.alloc (Xb ps tu)).heap.size:=by simp
 have a4:∀x:Fq (Below (w.alloc (Xb ps tu)).heap.size (w.alloc (Xb ps tu))),x.to.cell? ⟨w.heap.size,0,none⟩=some (PV ps):=fun x=>by rw[cell_of_block ((x.ok.block _ a3).trans H0.b)];rfl
 have au:=fun x:Fq (Below (w.alloc (Xb ps tu)).heap.size (w.alloc (Xb ps tu)))=>Calls.keeps_below (HG.b x.to (H0.a.below x.ok));have ar:=fun x:Fq (Below (w.alloc (Xb ps tu)).heap.size (w.alloc (Xb ps tu)))=>Calls.keeps_below (HG.c x.to (H0.a.below x.ok));have ap:=fun x:Fq (Below (w.alloc (Xb ps tu)).heap.size (w.alloc (Xb ps tu)))=>Calls.keeps_below (HG.d x.to (H0.a.below x.ok));generalize a6:w.alloc (Xb ps tu)=W0 at*;refine iq (Below W0.heap.size W0) (by kernel_rfl) (by kernel_rfl) (aa _ _).drew (fun _=>?_)
 repeat (first | go_big_quiet_skip | (go_big_quiet_want;go_big_quiet_op;first | go_big_quiet_on | (apply Exists.intro;refine⟨fun x=>?_,?_⟩;(· first | with_reducible exact au x | with_reducible exact ar x | with_reducible exact ap x);go_big_quiet_on)))
 refine wpQuiet_nil ?_;rintro _ ⟨v,rfl⟩;have rr:=(v.ok.block w.heap.size a3).trans H0.b;have hs:=H0.a.below v.ok;have hk:=H0.c.trans ((H0.a.keep v.ok).mono (fun k hk=>ab hk));obtain⟨w1,a1⟩:=Ii v.to;rw[a1] at rr hs hk⊢;clear a1 v a4 au ar ap;obtain⟨c0,c1⟩:=Fp rr;have H1:=kq3 hs rr hk;clear rr hs hk;go_wp2_with fail;clear c0 c1;refine(HG.a _ H1.a).mono ?_;rintro e w2 ⟨rfl,hs,ai⟩;have rr:=(ai.block w.heap.size (ae ⟨Nat.le_refl _,aJ _⟩)).trans H1.b;have hk:=H1.c.trans (ai.mono (fun k hk=>ab hk));obtain⟨c0,c1⟩:=Fp rr;have H2:=kq3 hs rr hk;clear ai rr hs hk;exact qFgag
theorem DV(h:Ig w ps S Y)(hi:Fv S)(tu:Bool)(m t low:Nat)(_:m<2^64)(ht:t<2^64)(_:low<2^64)(d:Nat)(hd:d<=200)(h200:d≠200)(hr:redT S t=true){S1 S2:St}(hx1:x1<2^64)(hi1:Fv S1)(_:Fv S2)
 (cr:∀(W:World) (Z:Nat->Prop),Ig W ps S Z->Ct 250 #[eq ps tu,Xu (sidesT S tu t).2,Xu m,Xu low,Xi ((d:Int)+1)] W fun e w'=>e=.returned (Xu x1)/\Ig w' ps S1 Z/\Fo Z W w')
 (hp:putJ S1 tu t (sidesT S tu t).1 x1 (redT S t)=some S2):
 Ct 250 #[eq ps tu,Xu t,Xu m,Xu low,Xi d] w fun e w'=>e=.returned (Xu t)/\Ig w' ps S2 Y/\Fo Y w w':=by
 have ar:=gW h tu t;unfold eq at cr⊢;have al:=fun W (hW:Ig W ps S (fun k=>Y k\/(w.heap.size<=k/\k<w.heap.size+1)))=>gq hW hi t ht;have ai:=fun W (hW:Ig W ps S (fun k=>Y k\/(w.heap.size<=k/\k<w.heap.size+1)))=>jX hW hi tu t ht;have cp:=fun W (hW:Ig W ps S1 (fun k=>Y k\/(w.heap.size<=k/\k<w.heap.size+1)))=>jW hW hi1 tu t (sidesT S tu t).1 x1 (redT S t) ht ar.1 hx1 hp;have cr:=fun W (hW:Ig W ps S (fun k=>Y k\/(w.heap.size<=k/\k<w.heap.size+1)))=>cr W _ hW;try unfold eq at ai
 try unfold eq at cp
 rw[hr] at al cp;obtain⟨⟨a7,own⟩,au⟩:∃r,sidesT S tu t=r:=⟨_,rfl⟩;rw[au] at ai cp cr;simp only at ai cp cr;have hq:((d:Int)==200)=false:=by simp;omega
 have a6:IntKind.i64.wrap ((d:Int)+1)=(d:Int)+1:=aD _ (by omega);have q0:=heap_alloc_new w (Xb ps tu);have B0:=(aa w.heap.size w).alloc Ih (Xb ps tu);have a1:(w.alloc (Xb ps tu)).heap.size=w.heap.size+1:=by simp
 have z0:=h.wide B0;rw[a1] at z0;have k0:Fo Y w (w.alloc (Xb ps tu)):=Fo.of_below B0 h.yl;have a4:w.heap.size<(w.alloc (Xb ps tu)).heap.size:=by omega
 have HG:=kq4 al ai cp cr;clear al ai cp cr hp hi hi1 a4 a1 hr h200 au ar;have H0:=kq3 z0 q0 k0;clear z0 q0 k0 B0 h;go_enter func250,ntmps250;go_wp2_with fail;have a2:w.heap.size<(w.alloc (Xb ps tu)).heap.size:=by simp
 have a3:∀x:Fq (Below (w.alloc (Xb ps tu)).heap.size (w.alloc (Xb ps tu))),x.to.cell? ⟨w.heap.size,0,none⟩=some (PV ps):=fun x=>by rw[cell_of_block ((x.ok.block _ a2).trans H0.b)];rfl
 have ap:=fun x:Fq (Below (w.alloc (Xb ps tu)).heap.size (w.alloc (Xb ps tu)))=>Calls.keeps_below (HG.a x.to (H0.a.below x.ok));generalize a5:w.alloc (Xb ps tu)=W0 at*;refine iq (Below W0.heap.size W0) (by kernel_rfl) (by kernel_rfl) (aa _ _).drew (fun _=>?_);repeat (first | go_big_quiet_skip | (go_big_quiet_want;go_big_quiet_op;first | go_big_quiet_on | (apply Exists.intro;refine⟨fun x=>?_,?_⟩;(· first | with_reducible exact ap x);go_big_quiet_on)))
 refine wpQuiet_nil ?_;rintro _ ⟨v,rfl⟩;have rr:=(v.ok.block w.heap.size a2).trans H0.b;have hs:=H0.a.below v.ok;have hk:=H0.c.trans ((H0.a.keep v.ok).mono (fun k hk=>ab hk));obtain⟨w1,a0⟩:=Ii v.to;rw[a0] at rr hs hk⊢;clear a0 v a3 ap;obtain⟨c0,c1⟩:=Fp rr;have H1:=kq3 hs rr hk;clear rr hs hk;go_wp2_with fail;clear c0 c1;refine wx (HG.b _ H1.a) fun w2 hb=>?_;have rr:=(hb.block w.heap.size (gl H1.b)).trans H1.b;have hs:=H1.a.below hb;have hk:=H1.c.trans ((H1.a.keep hb).mono (fun k hk=>ab hk));obtain⟨c0,c1⟩:=Fp rr;have H2:=kq3 hs rr hk;clear hb rr hs hk;go_wp2_with fail;clear c0 c1;refine wx (HG.a _ H2.a) fun w3 hb=>?_;have rr:=(hb.block w.heap.size (gl H2.b)).trans H2.b;have hs:=H2.a.below hb;have hk:=H2.c.trans ((H2.a.keep hb).mono (fun k hk=>ab hk));obtain⟨c0,c1⟩:=Fp rr;have H3:=kq3 hs rr hk;clear hb rr hs hk;go_wp2_with fail;clear c0 c1;refine(HG.d _ H3.a).mono ?_;rintro e w4 ⟨rfl,hs,ad⟩;have rr:=(ad.block w.heap.size (ae ⟨Nat.le_refl _,aJ _⟩)).trans H3.b;have hk:=H3.c.trans (ad.mono (fun k hk=>ab hk));obtain⟨c0,c1⟩:=Fp rr;have H4:=kq3 hs rr hk;clear ad rr hs hk;go_wp2_with fail;clear c0 c1;refine(HG.c _ H4.a).mono ?_;rintro e w5 ⟨rfl,hs,ad⟩;have rr:=(ad.block w.heap.size (ae ⟨Nat.le_refl _,aJ _⟩)).trans H4.b;have hk:=H4.c.trans (ad.mono (fun k hk=>ab hk));obtain⟨c0,c1⟩:=Fp rr;have H5:=kq3 hs rr hk;clear ad rr hs hk;go_wp2_with fail;clear c0 c1;go_ret;exact⟨rfl,H5.a.mono (fun k hk=>ab hk),H5.c⟩
theorem DR(h:Ig w ps S Y)(hi:Fv S)(tu:Bool)(m t low:Nat)(_:m<2^64)(ht:t<2^64)(hw:low<2^64)(d:Nat)(hd:d<=200)(h200:d≠200)(hr:redT S t=false)(hb:blackT S t≠blackT S low){S1 S2:St}(hx1:x1<2^64)(hi1:Fv S1)(hi2:Fv S2)
 (cr:∀(W:World) (Z:Nat->Prop),Ig W ps S Z->Ct 250 #[eq ps tu,Xu (sidesT S tu t).2,Xu m,Xu low,Xi ((d:Int)+1)] W fun e w'=>e=.returned (Xu x1)/\Ig w' ps S1 Z/\Fo Z W w')
 (hp:putJ S1 tu t (sidesT S tu t).1 x1 (redT S t)=some S2) (hf:redT S2 x1=false):
 Ct 250 #[eq ps tu,Xu t,Xu m,Xu low,Xi d] w fun e w'=>e=.returned (Xu t)/\Ig w' ps S2 Y/\Fo Y w w':=by
 have a3:=gW h tu t;unfold eq at cr⊢;have al:=fun W (hW:Ig W ps S (fun k=>Y k\/(w.heap.size<=k/\k<w.heap.size+1)))=>gq hW hi t ht;have ai:=fun W (hW:Ig W ps S (fun k=>Y k\/(w.heap.size<=k/\k<w.heap.size+1)))=>jX hW hi tu t ht;have cp:=fun W (hW:Ig W ps S1 (fun k=>Y k\/(w.heap.size<=k/\k<w.heap.size+1)))=>jW hW hi1 tu t (sidesT S tu t).1 x1 (redT S t) ht a3.1 hx1 hp;have a2:=fun W (hW:Ig W ps S (fun k=>Y k\/(w.heap.size<=k/\k<w.heap.size+1)))=>gy hW hi t ht;have a1:=fun W (hW:Ig W ps S (fun k=>Y k\/(w.heap.size<=k/\k<w.heap.size+1)))=>gy hW hi low hw;have ap:=fun W (hW:Ig W ps S2 (fun k=>Y k\/(w.heap.size<=k/\k<w.heap.size+1)))=>gq hW hi2 x1 hx1;have cr:=fun W (hW:Ig W ps S (fun k=>Y k\/(w.heap.size<=k/\k<w.heap.size+1)))=>cr W _ hW;try unfold eq at ai
 try unfold eq at cp
 rw[hr] at al cp;rw[hf] at ap;have bb:(((blackT S t:Nat):Int)==(blackT S low:Nat))=false:=by simp;omega
 generalize blackT S t=bk1 at*;generalize blackT S low=bk2 at*;obtain⟨⟨bc,own⟩,a4⟩:∃r,sidesT S tu t=r:=⟨_,rfl⟩;rw[a4] at ai cp cr;simp only at ai cp cr;have hq:((d:Int)==200)=false:=by simp;omega
 have ba:IntKind.i64.wrap ((d:Int)+1)=(d:Int)+1:=aD _ (by omega);have q0:=heap_alloc_new w (Xb ps tu);have B0:=(aa w.heap.size w).alloc Ih (Xb ps tu);have a6:(w.alloc (Xb ps tu)).heap.size=w.heap.size+1:=by simp
 have z0:=h.wide B0;rw[a6] at z0;have k0:Fo Y w (w.alloc (Xb ps tu)):=Fo.of_below B0 h.yl;have a9:w.heap.size<(w.alloc (Xb ps tu)).heap.size:=by omega
 have HG:=kq7 al ai cp a2 a1 ap cr;clear al ai cp a2 a1 ap cr hp hi hi1 hi2 a9 a6 hr h200 a4 a3 hb hf;have H0:=kq3 z0 q0 k0;clear z0 q0 k0 B0 h;go_enter func250,ntmps250;go_wp2_with fail;have a7:w.heap.size<(w.alloc (Xb ps tu)).heap.size:=by simp
 have a8:∀x:Fq (Below (w.alloc (Xb ps tu)).heap.size (w.alloc (Xb ps tu))),x.to.cell? ⟨w.heap.size,0,none⟩=some (PV ps):=fun x=>by rw[cell_of_block ((x.ok.block _ a7).trans H0.b)];rfl
 have a0:=fun x:Fq (Below (w.alloc (Xb ps tu)).heap.size (w.alloc (Xb ps tu)))=>Calls.keeps_below (HG.a x.to (H0.a.below x.ok));have au:=fun x:Fq (Below (w.alloc (Xb ps tu)).heap.size (w.alloc (Xb ps tu)))=>Calls.keeps_below (HG.d x.to (H0.a.below x.ok));have ar:=fun x:Fq (Below (w.alloc (Xb ps tu)).heap.size (w.alloc (Xb ps tu)))=>Calls.keeps_below (HG.e x.to (H0.a.below x.ok));generalize a':w.alloc (Xb ps tu)=W0 at*;refine iq (Below W0.heap.size W0) (by kernel_rfl) (by kernel_rfl) (aa _ _).drew (fun _=>?_);repeat (first | go_big_quiet_skip | (go_big_quiet_want;go_big_quiet_op;first | go_big_quiet_on | (apply Exists.intro;refine⟨fun x=>?_,?_⟩;(· first | with_reducible exact a0 x | with_reducible exact au x | with_reducible exact ar x);go_big_quiet_on)))
 refine wpQuiet_nil ?_;rintro _ ⟨v,rfl⟩;have rr:=(v.ok.block w.heap.size a7).trans H0.b;have hs:=H0.a.below v.ok;have hk:=H0.c.trans ((H0.a.keep v.ok).mono (fun k hk=>ab hk));obtain⟨w1,a5⟩:=Ii v.to;rw[a5] at rr hs hk⊢;clear a5 v a8 a0 au ar;obtain⟨c0,c1⟩:=Fp rr;have H1:=kq3 hs rr hk;clear rr hs hk;go_wp2_with fail;clear c0 c1;refine wx (HG.b _ H1.a) fun w2 hb=>?_;have rr:=(hb.block w.heap.size (gl H1.b)).trans H1.b;have hs:=H1.a.below hb;have hk:=H1.c.trans ((H1.a.keep hb).mono (fun k hk=>ab hk));obtain⟨c0,c1⟩:=Fp rr;have H2:=kq3 hs rr hk;clear hb rr hs hk;go_wp2_with fail;clear c0 c1;refine wx (HG.a _ H2.a) fun w3 hb=>?_;have rr:=(hb.block w.heap.size (gl H2.b)).trans H2.b;have hs:=H2.a.below hb;have hk:=H2.c.trans ((H2.a.keep hb).mono (fun k hk=>ab hk));obtain⟨c0,c1⟩:=Fp rr;have H3:=kq3 hs rr hk;clear hb rr hs hk;go_wp2_with fail;clear c0 c1;refine(HG.g _ H3.a).mono ?_;rintro e w4 ⟨rfl,hs,ad⟩;have rr:=(ad.block w.heap.size (ae ⟨Nat.le_refl _,aJ _⟩)).trans H3.b;have hk:=H3.c.trans (ad.mono (fun k hk=>ab hk));obtain⟨c0,c1⟩:=Fp rr;have H4:=kq3 hs rr hk;clear ad rr hs hk;go_wp2_with fail;clear c0 c1;refine(HG.c _ H4.a).mono ?_;rintro e w5 ⟨rfl,hs,ad⟩;have rr:=(ad.block w.heap.size (ae ⟨Nat.le_refl _,aJ _⟩)).trans H4.b;have hk:=H4.c.trans (ad.mono (fun k hk=>ab hk));obtain⟨c0,c1⟩:=Fp rr;have H5:=kq3 hs rr hk;clear ad rr hs hk;go_wp2_with fail;clear c0 c1;refine wx (HG.f _ H5.a) fun w6 hb=>?_;have rr:=(hb.block w.heap.size (gl H5.b)).trans H5.b;have hs:=H5.a.below hb;have hk:=H5.c.trans ((H5.a.keep hb).mono (fun k hk=>ab hk));obtain⟨c0,c1⟩:=Fp rr;have H6:=kq3 hs rr hk;clear hb rr hs hk;go_wp2_with fail;clear c0 c1;go_ret;exact⟨rfl,H6.a.mono (fun k hk=>ab hk),H6.c⟩
theorem DS(h:Ig w ps S Y)(hi:Fv S)(tu:Bool)(m t low:Nat)(_:m<2^64)(ht:t<2^64)(hw:low<2^64)(d:Nat)(hd:d<=200)(h200:d≠200)(hr:redT S t=false)(hb:blackT S t≠blackT S low){S1 S2:St}(hx1:x1<2^64)(hi1:Fv S1)(hi2:Fv S2)
 (cr:∀(W:World) (Z:Nat->Prop),Ig W ps S Z->Ct 250 #[eq ps tu,Xu (sidesT S tu t).2,Xu m,Xu low,Xi ((d:Int)+1)] W fun e w'=>e=.returned (Xu x1)/\Ig w' ps S1 Z/\Fo Z W w')
 (hp:putJ S1 tu t (sidesT S tu t).1 x1 (redT S t)=some S2) (hf:redT S2 x1=true) (hg:redT S2 (sidesT S2 tu x1).2=false):
 Ct 250 #[eq ps tu,Xu t,Xu m,Xu low,Xi d] w fun e w'=>e=.returned (Xu t)/\Ig w' ps S2 Y/\Fo Y w w':=by
 have a5:=gW h tu t;unfold eq at cr⊢;have ar:=fun W (hW:Ig W ps S (fun k=>Y k\/(w.heap.size<=k/\k<w.heap.size+1)))=>gq hW hi t ht;have al:=fun W (hW:Ig W ps S (fun k=>Y k\/(w.heap.size<=k/\k<w.heap.size+1)))=>jX hW hi tu t ht;have cp:=fun W (hW:Ig W ps S1 (fun k=>Y k\/(w.heap.size<=k/\k<w.heap.size+1)))=>jW hW hi1 tu t (sidesT S tu t).1 x1 (redT S t) ht a5.1 hx1 hp;have a4:=fun W (hW:Ig W ps S (fun k=>Y k\/(w.heap.size<=k/\k<w.heap.size+1)))=>gy hW hi t ht;have a3:=fun W (hW:Ig W ps S (fun k=>Y k\/(w.heap.size<=k/\k<w.heap.size+1)))=>gy hW hi low hw;have au:=fun W (hW:Ig W ps S2 (fun k=>Y k\/(w.heap.size<=k/\k<w.heap.size+1)))=>gq hW hi2 x1 hx1;have ap:=fun W (hW:Ig W ps S2 (fun k=>Y k\/(w.heap.size<=k/\k<w.heap.size+1)))=>jX hW hi2 tu x1 hx1;have ai:=fun W (hW:Ig W ps S2 (fun k=>Y k\/(w.heap.size<=k/\k<w.heap.size+1)))=>gq hW hi2 (sidesT S2 tu x1).2 (gW hW tu x1).2;have cr:=fun W (hW:Ig W ps S (fun k=>Y k\/(w.heap.size<=k/\k<w.heap.size+1)))=>cr W _ hW;try unfold eq at al
 try unfold eq at cp
 try unfold eq at ap
 rw[hr] at ar cp;rw[hf] at au;have bf:(((blackT S t:Nat):Int)==(blackT S low:Nat))=false:=by simp;omega
 generalize blackT S t=bk1 at*;generalize blackT S low=bk2 at*;rw[hg] at ai;obtain⟨⟨bj,own⟩,a6⟩:∃r,sidesT S tu t=r:=⟨_,rfl⟩;rw[a6] at al cp cr;simp only at al cp cr;obtain⟨⟨sa,sb⟩,a7⟩:∃r,sidesT S2 tu x1=r:=⟨_,rfl⟩;rw[a7] at ap ai;simp only at ap ai;have hq:((d:Int)==200)=false:=by simp;omega
 have bd:IntKind.i64.wrap ((d:Int)+1)=(d:Int)+1:=aD _ (by omega);have q0:=heap_alloc_new w (Xb ps tu);have B0:=(aa w.heap.size w).alloc Ih (Xb ps tu);have a9:(w.alloc (Xb ps tu)).heap.size=w.heap.size+1:=by simp
 have z0:=h.wide B0;rw[a9] at z0;have k0:Fo Y w (w.alloc (Xb ps tu)):=Fo.of_below B0 h.yl;have bb:w.heap.size<(w.alloc (Xb ps tu)).heap.size:=by omega
 have HG:=kq9 ar al cp a4 a3 au ap ai cr;clear ar al cp a4 a3 au ap ai cr hp hi hi1 hi2 bb a9 hr h200 a6 a5 hb hf hg a7;have H0:=kq3 z0 q0 k0;clear z0 q0 k0 B0 h;go_enter func250,ntmps250;go_wp2_with fail;have a':w.heap.size<(w.alloc (Xb ps tu)).heap.size:=by simp
 have ba:∀x:Fq (Below (w.alloc (Xb ps tu)).heap.size (w.alloc (Xb ps tu))),x.to.cell? ⟨w.heap.size,0,none⟩=some (PV ps):=fun x=>by rw[cell_of_block ((x.ok.block _ a').trans H0.b)];rfl
 have a2:=fun x:Fq (Below (w.alloc (Xb ps tu)).heap.size (w.alloc (Xb ps tu)))=>Calls.keeps_below (HG.a x.to (H0.a.below x.ok));have a1:=fun x:Fq (Below (w.alloc (Xb ps tu)).heap.size (w.alloc (Xb ps tu)))=>Calls.keeps_below (HG.d x.to (H0.a.below x.ok));have a0:=fun x:Fq (Below (w.alloc (Xb ps tu)).heap.size (w.alloc (Xb ps tu)))=>Calls.keeps_below (HG.e x.to (H0.a.below x.ok));generalize bc:w.alloc (Xb ps tu)=W0 at*;refine iq (Below W0.heap.size W0) (by kernel_rfl) (by kernel_rfl) (aa _ _).drew (fun _=>?_);repeat (first | go_big_quiet_skip | (go_big_quiet_want;go_big_quiet_op;first | go_big_quiet_on | (apply Exists.intro;refine⟨fun x=>?_,?_⟩;(· first | with_reducible exact a2 x | with_reducible exact a1 x | with_reducible exact a0 x);go_big_quiet_on)))
 refine wpQuiet_nil ?_;rintro _ ⟨v,rfl⟩;have rr:=(v.ok.block w.heap.size a').trans H0.b;have hs:=H0.a.below v.ok;have hk:=H0.c.trans ((H0.a.keep v.ok).mono (fun k hk=>ab hk));obtain⟨w1,a8⟩:=Ii v.to;rw[a8] at rr hs hk⊢;clear a8 v ba a2 a1 a0;obtain⟨c0,c1⟩:=Fp rr;have H1:=kq3 hs rr hk;clear rr hs hk;go_wp2_with fail;clear c0 c1;refine wx (HG.b _ H1.a) fun w2 hb=>?_;have rr:=(hb.block w.heap.size (gl H1.b)).trans H1.b;have hs:=H1.a.below hb;have hk:=H1.c.trans ((H1.a.keep hb).mono (fun k hk=>ab hk));obtain⟨c0,c1⟩:=Fp rr;have H2:=kq3 hs rr hk;clear hb rr hs hk;go_wp2_with fail;clear c0 c1;refine wx (HG.a _ H2.a) fun w3 hb=>?_;have rr:=(hb.block w.heap.size (gl H2.b)).trans H2.b;have hs:=H2.a.below hb;have hk:=H2.c.trans ((H2.a.keep hb).mono (fun k hk=>ab hk));obtain⟨c0,c1⟩:=Fp rr;have H3:=kq3 hs rr hk;clear hb rr hs hk;go_wp2_with fail;clear c0 c1;refine(HG.i _ H3.a).mono ?_;rintro e w4 ⟨rfl,hs,ad⟩;have rr:=(ad.block w.heap.size (ae ⟨Nat.le_refl _,aJ _⟩)).trans H3.b;have hk:=H3.c.trans (ad.mono (fun k hk=>ab hk));obtain⟨c0,c1⟩:=Fp rr;have H4:=kq3 hs rr hk;clear ad rr hs hk;go_wp2_with fail;clear c0 c1;refine(HG.c _ H4.a).mono ?_;rintro e w5 ⟨rfl,hs,ad⟩;have rr:=(ad.block w.heap.size (ae ⟨Nat.le_refl _,aJ _⟩)).trans H4.b;have hk:=H4.c.trans (ad.mono (fun k hk=>ab hk));obtain⟨c0,c1⟩:=Fp rr;have H5:=kq3 hs rr hk;clear ad rr hs hk;go_wp2_with fail;clear c0 c1;refine wx (HG.f _ H5.a) fun w6 hb=>?_;have rr:=(hb.block w.heap.size (gl H5.b)).trans H5.b;have hs:=H5.a.below hb;have hk:=H5.c.trans ((H5.a.keep hb).mono (fun k hk=>ab hk));obtain⟨c0,c1⟩:=Fp rr;have H6:=kq3 hs rr hk;clear hb rr hs hk;go_wp2_with fail;clear c0 c1;refine wx (HG.g _ H6.a) fun w7 hb=>?_;have rr:=(hb.block w.heap.size (gl H6.b)).trans H6.b;have hs:=H6.a.below hb;have hk:=H6.c.trans ((H6.a.keep hb).mono (fun k hk=>ab hk));obtain⟨c0,c1⟩:=Fp rr;have H7:=kq3 hs rr hk;clear hb rr hs hk;go_wp2_with fail;clear c0 c1;refine wx (HG.h _ H7.a) fun w8 hb=>?_;have rr:=(hb.block w.heap.size (gl H7.b)).trans H7.b;have hs:=H7.a.below hb;have hk:=H7.c.trans ((H7.a.keep hb).mono (fun k hk=>ab hk));obtain⟨c0,c1⟩:=Fp rr;have H8:=kq3 hs rr hk;clear hb rr hs hk;go_wp2_with fail;clear c0 c1;go_ret;exact⟨rfl,H8.a.mono (fun k hk=>ab hk),H8.c⟩
theorem DT(h:Ig w ps S Y)(hi:Fv S)(tu:Bool)(m t low:Nat)(_:m<2^64)(ht:t<2^64)(hw:low<2^64)(d:Nat)(hd:d<=200)(h200:d≠200)(hr:redT S t=false)(hb:blackT S t≠blackT S low){S1 S2:St}(hx1:x1<2^64)(hi1:Fv S1)(hi2:Fv S2)
 (cr:∀(W:World) (Z:Nat->Prop),Ig W ps S Z->Ct 250 #[eq ps tu,Xu (sidesT S tu t).2,Xu m,Xu low,Xi ((d:Int)+1)] W fun e w'=>e=.returned (Xu x1)/\Ig w' ps S1 Z/\Fo Z W w')
 (hp:putJ S1 tu t (sidesT S tu t).1 x1 (redT S t)=some S2) (hf:redT S2 x1=true) (hg:redT S2 (sidesT S2 tu x1).2=true) {S3 S4 S5:St} (hp3:putJ S2 tu (sidesT S2 tu x1).2 (sidesT S2 tu (sidesT S2 tu x1).2).1 (sidesT S2 tu (sidesT S2 tu x1).2).2 false=some S3)
 (hp4:putJ S3 tu t (sidesT S tu t).1 (sidesT S2 tu x1).1 false=some S4) (hp5:putJ S4 tu x1 t (sidesT S2 tu x1).2 true=some S5):
 Ct 250 #[eq ps tu,Xu t,Xu m,Xu low,Xi d] w fun e w'=>e=.returned (Xu x1)/\Ig w' ps S5 Y/\Fo Y w w':=by
 have a7:=gW h tu t;unfold eq at cr⊢;have a4:=jV hi2 hp3;have bd:=jV a4 hp4;have a5:=fun W (hW:Ig W ps S (fun k=>Y k\/(w.heap.size<=k/\k<w.heap.size+1)))=>gq hW hi t ht;have a0:=fun W (hW:Ig W ps S (fun k=>Y k\/(w.heap.size<=k/\k<w.heap.size+1)))=>jX hW hi tu t ht;have cp:=fun W (hW:Ig W ps S1 (fun k=>Y k\/(w.heap.size<=k/\k<w.heap.size+1)))=>jW hW hi1 tu t (sidesT S tu t).1 x1 (redT S t) ht a7.1 hx1 hp;have bc:=fun W (hW:Ig W ps S (fun k=>Y k\/(w.heap.size<=k/\k<w.heap.size+1)))=>gy hW hi t ht;have bb:=fun W (hW:Ig W ps S (fun k=>Y k\/(w.heap.size<=k/\k<w.heap.size+1)))=>gy hW hi low hw;have a6:=fun W (hW:Ig W ps S2 (fun k=>Y k\/(w.heap.size<=k/\k<w.heap.size+1)))=>gq hW hi2 x1 hx1;have a1:=fun W (hW:Ig W ps S2 (fun k=>Y k\/(w.heap.size<=k/\k<w.heap.size+1)))=>jX hW hi2 tu x1 hx1;have au:=fun W (hW:Ig W ps S2 (fun k=>Y k\/(w.heap.size<=k/\k<w.heap.size+1)))=>gq hW hi2 (sidesT S2 tu x1).2 (gW hW tu x1).2;have ap:=fun W (hW:Ig W ps S2 (fun k=>Y k\/(w.heap.size<=k/\k<w.heap.size+1)))=>jX hW hi2 tu (sidesT S2 tu x1).2 (gW hW tu x1).2;have ai:=fun W (hW:Ig W ps S2 (fun k=>Y k\/(w.heap.size<=k/\k<w.heap.size+1)))=>And.intro (gW hW tu x1) (jW hW hi2 tu (sidesT S2 tu x1).2 (sidesT S2 tu (sidesT S2 tu x1).2).1 (sidesT S2 tu (sidesT S2 tu x1).2).2 false (gW hW tu x1).2 (gW hW tu _).1 (gW hW tu _).2 hp3);have al:=fun W (hW:Ig W ps S3 (fun k=>Y k\/(w.heap.size<=k/\k<w.heap.size+1)))=>fun(q:(sidesT S2 tu x1).1<2^64)=>jW hW a4 tu t (sidesT S tu t).1 (sidesT S2 tu x1).1 false ht a7.1 q hp4;have ar:=fun W (hW:Ig W ps S4 (fun k=>Y k\/(w.heap.size<=k/\k<w.heap.size+1)))=>fun(q:(sidesT S2 tu x1).2<2^64)=>jW hW bd tu x1 t (sidesT S2 tu x1).2 true hx1 ht q hp5;have cr:=fun W (hW:Ig W ps S (fun k=>Y k\/(w.heap.size<=k/\k<w.heap.size+1)))=>cr W _ hW;try unfold eq at a0
 try unfold eq at cp
 try unfold eq at a1
 try unfold eq at ap
 try unfold eq at ai
 try unfold eq at al
 try unfold eq at ar
 rw[hr] at a5 cp;rw[hf] at a6;have b1:(((blackT S t:Nat):Int)==(blackT S low:Nat))=false:=by simp;omega
 generalize blackT S t=bk1 at*;generalize blackT S low=bk2 at*;rw[hg] at au;obtain⟨⟨b2,own⟩,bf⟩:∃r,sidesT S tu t=r:=⟨_,rfl⟩;rw[bf] at a0 cp cr al;simp only at a0 cp cr al;obtain⟨⟨sa,sb⟩,bj⟩:∃r,sidesT S2 tu x1=r:=⟨_,rfl⟩;rw[bj] at a1 au ap ai al ar;simp only at a1 au ap ai al ar;obtain⟨⟨sc,sd⟩,bk⟩:∃r,sidesT S2 tu sb=r:=⟨_,rfl⟩;rw[bk] at ap ai;simp only at ap ai;have hq:((d:Int)==200)=false:=by simp;omega
 have b0:IntKind.i64.wrap ((d:Int)+1)=(d:Int)+1:=aD _ (by omega);have q0:=heap_alloc_new w (Xb ps tu);have B0:=(aa w.heap.size w).alloc Ih (Xb ps tu);have bo:(w.alloc (Xb ps tu)).heap.size=w.heap.size+1:=by simp
 have z0:=h.wide B0;rw[bo] at z0;have k0:Fo Y w (w.alloc (Xb ps tu)):=Fo.of_below B0 h.yl;have bu:w.heap.size<(w.alloc (Xb ps tu)).heap.size:=by omega
 have HG:=kq13 a5 a0 cp bc bb a6 a1 au ap ai al ar cr;clear a5 a0 cp bc bb a6 a1 au ap ai al ar cr hp hi hi1 hi2 bu bo hr h200 bf a7 hb hf hg bj bk hp3 hp4 hp5 a4 bd;have H0:=kq3 z0 q0 k0;clear z0 q0 k0 B0 h;go_enter func250,ntmps250;go_wp2_with fail;have bs:w.heap.size<(w.alloc (Xb ps tu)).heap.size:=by simp
 have bt:∀x:Fq (Below (w.alloc (Xb ps tu)).heap.size (w.alloc (Xb ps tu))),x.to.cell? ⟨w.heap.size,0,none⟩=some (PV ps):=fun x=>by rw[cell_of_block ((x.ok.block _ bs).trans H0.b)];rfl
 have ba:=fun x:Fq (Below (w.alloc (Xb ps tu)).heap.size (w.alloc (Xb ps tu)))=>Calls.keeps_below (HG.a x.to (H0.a.below x.ok));have a':=fun x:Fq (Below (w.alloc (Xb ps tu)).heap.size (w.alloc (Xb ps tu)))=>Calls.keeps_below (HG.d x.to (H0.a.below x.ok));have a9:=fun x:Fq (Below (w.alloc (Xb ps tu)).heap.size (w.alloc (Xb ps tu)))=>Calls.keeps_below (HG.e x.to (H0.a.below x.ok));generalize bv:w.alloc (Xb ps tu)=W0 at*;refine iq (Below W0.heap.size W0) (by kernel_rfl) (by kernel_rfl) (aa _ _).drew (fun _=>?_);repeat (first | go_big_quiet_skip | (go_big_quiet_want;go_big_quiet_op;first | go_big_quiet_on | (apply Exists.intro;refine⟨fun x=>?_,?_⟩;(· first | with_reducible exact ba x | with_reducible exact a' x | with_reducible exact a9 x);go_big_quiet_on)))
 refine wpQuiet_nil ?_;rintro _ ⟨v,rfl⟩;have rr:=(v.ok.block w.heap.size bs).trans H0.b;have hs:=H0.a.below v.ok;have hk:=H0.c.trans ((H0.a.keep v.ok).mono (fun k hk=>ab hk));obtain⟨w1,bm⟩:=Ii v.to;rw[bm] at rr hs hk⊢;clear bm v bt ba a' a9;obtain⟨c0,c1⟩:=Fp rr;have H1:=kq3 hs rr hk;clear rr hs hk;go_wp2_with fail;clear c0 c1;refine wx (HG.b _ H1.a) fun w2 hb=>?_;have rr:=(hb.block w.heap.size (gl H1.b)).trans H1.b;have hs:=H1.a.below hb;have hk:=H1.c.trans ((H1.a.keep hb).mono (fun k hk=>ab hk));obtain⟨c0,c1⟩:=Fp rr;have H2:=kq3 hs rr hk;clear hb rr hs hk;go_wp2_with fail;clear c0 c1;refine wx (HG.a _ H2.a) fun w3 hb=>?_;have rr:=(hb.block w.heap.size (gl H2.b)).trans H2.b;have hs:=H2.a.below hb;have hk:=H2.c.trans ((H2.a.keep hb).mono (fun k hk=>ab hk));obtain⟨c0,c1⟩:=Fp rr;have H3:=kq3 hs rr hk;clear hb rr hs hk;go_wp2_with fail;clear c0 c1;refine(HG.m _ H3.a).mono ?_;rintro e w4 ⟨rfl,hs,ad⟩;have rr:=(ad.block w.heap.size (ae ⟨Nat.le_refl _,aJ _⟩)).trans H3.b;have hk:=H3.c.trans (ad.mono (fun k hk=>ab hk));obtain⟨c0,c1⟩:=Fp rr;have H4:=kq3 hs rr hk;clear ad rr hs hk;go_wp2_with fail;clear c0 c1;refine(HG.c _ H4.a).mono ?_;rintro e w5 ⟨rfl,hs,ad⟩;have rr:=(ad.block w.heap.size (ae ⟨Nat.le_refl _,aJ _⟩)).trans H4.b;have hk:=H4.c.trans (ad.mono (fun k hk=>ab hk));obtain⟨c0,c1⟩:=Fp rr;have H5:=kq3 hs rr hk;clear ad rr hs hk;go_wp2_with fail;clear c0 c1;refine wx (HG.f _ H5.a) fun w6 hb=>?_;have rr:=(hb.block w.heap.size (gl H5.b)).trans H5.b;have hs:=H5.a.below hb;have hk:=H5.c.trans ((H5.a.keep hb).mono (fun k hk=>ab hk));obtain⟨c0,c1⟩:=Fp rr;have H6:=kq3 hs rr hk;clear hb rr hs hk;go_wp2_with fail;clear c0 c1;refine wx (HG.g _ H6.a) fun w7 hb=>?_;have rr:=(hb.block w.heap.size (gl H6.b)).trans H6.b;have hs:=H6.a.below hb;have hk:=H6.c.trans ((H6.a.keep hb).mono (fun k hk=>ab hk));obtain⟨c0,c1⟩:=Fp rr;have H7:=kq3 hs rr hk;clear hb rr hs hk;go_wp2_with fail;clear c0 c1;refine wx (HG.h _ H7.a) fun w8 hb=>?_;have rr:=(hb.block w.heap.size (gl H7.b)).trans H7.b;have hs:=H7.a.below hb;have hk:=H7.c.trans ((H7.a.keep hb).mono (fun k hk=>ab hk));obtain⟨c0,c1⟩:=Fp rr;have H8:=kq3 hs rr hk;clear hb rr hs hk;go_wp2_with fail;clear c0 c1;refine wx (HG.i _ H8.a) fun w9 hb=>?_;have rr:=(hb.block w.heap.size (gl H8.b)).trans H8.b;have hs:=H8.a.below hb;have hk:=H8.c.trans ((H8.a.keep hb).mono (fun k hk=>ab hk));obtain⟨c0,c1⟩:=Fp rr;have H9:=kq3 hs rr hk;clear hb rr hs hk;go_wp2_with fail;clear c0 c1;obtain⟨qb,q3⟩:=HG.j _ H9.a;refine q3.mono ?_;clear q3;rintro e b4 ⟨rfl,hs,ad⟩;have rr:=(ad.block w.heap.size (ae ⟨Nat.le_refl _,aJ _⟩)).trans H9.b;have hk:=H9.c.trans (ad.mono (fun k hk=>ab hk));obtain⟨c0,c1⟩:=Fp rr;have a2:=kq3 hs rr hk;have HQ:=If qb;clear ad rr hs hk qb;go_wp2_with fail;clear c0 c1;refine(HG.k _ a2.a HQ.out.1).mono ?_;rintro e b8 ⟨rfl,hs,ad⟩;have rr:=(ad.block w.heap.size (ae ⟨Nat.le_refl _,aJ _⟩)).trans a2.b;have hk:=a2.c.trans (ad.mono (fun k hk=>ab hk));obtain⟨c0,c1⟩:=Fp rr;have a3:=kq3 hs rr hk;clear ad rr hs hk;go_wp2_with fail;clear c0 c1;refine(HG.l _ a3.a HQ.out.2).mono ?_;rintro e b9 ⟨rfl,hs,ad⟩;have rr:=(ad.block w.heap.size (ae ⟨Nat.le_refl _,aJ _⟩)).trans a3.b;have hk:=a3.c.trans (ad.mono (fun k hk=>ab hk));obtain⟨c0,c1⟩:=Fp rr;have a8:=kq3 hs rr hk;clear ad rr hs hk;go_wp2_with fail;clear c0 c1;go_ret;exact⟨rfl,a8.a.mono (fun k hk=>ab hk),a8.c⟩
theorem AW{tu:Bool}{S S':St}{t other x y:Nat}{is:Bool}(h:fixR tu S t other x is=some (y,S')):
 (is=true/\y=t/\S'=S)\/(is=false/\redT S x=false/\y=t/\S'=S)\/(is=false/\redT S x=true/\redT S (sidesT S tu x).2=false/\y=t/\S'=S)\/
 (is=false/\redT S x=true/\redT S (sidesT S tu x).2=true/\y=x/\∃S3 S4,putJ S tu (sidesT S tu x).2 (sidesT S tu (sidesT S tu x).2).1 (sidesT S tu (sidesT S tu x).2).2 false=some S3/\putJ S3 tu t other (sidesT S tu x).1 false=some S4/\putJ S4 tu x t (sidesT S tu x).2 true=some S'):=by
 unfold fixR at h;cases is with
 | true=>
  rw[if_pos (ab rfl)] at h;injection h with h
  injection h with e1 e2
  exact ab ⟨rfl,e1.symm,e2.symm⟩
 | false=>
  split at h
  ·rename_i hc;injection h with h
   injection h with e1 e2
   rcases hc with hc | hc
   ·cases hc
   ·exact ae (ab ⟨rfl,hc,e1.symm,e2.symm⟩)
  ·rename_i hc;have hx:redT S x=true:=by simpa using hc
   split at h
   ·rename_i hb;injection h with h
    injection h with e1 e2
    exact ae (ae (ab ⟨rfl,hx,hb,e1.symm,e2.symm⟩))
   ·rename_i hb;have hb:redT S (sidesT S tu x).2=true:=by simpa using hb
    split at h
    ·cases h
    ·rename_i S3 h3;split at h
     ·cases h
     ·rename_i S4 h4;obtain⟨S5,h5,h6⟩:=aC.1 h;injection h6 with e1 e2
      subst e1 e2;exact ae (ae (ae ⟨rfl,hx,hb,rfl,S3,S4,h3,h4,h5⟩))
theorem rX(tu:Bool)(m:Nat)(hm:m<2^64):∀(f d:Nat),d+f=200->∀{w:World} {S S':St} {Y:Nat->Prop} {t low x:Nat},Ig w ps S Y->Fv S->t<2^64->low<2^64->
 joinR tu m f S t low=some (x,S')->
 Ct 250 #[eq ps tu,Xu t,Xu m,Xu low,Xi d] w fun e w'=>e=.returned (Xu x)/\Ig w' ps S' Y/\Fo Y w w':=by
 intro f;induction f with
 | zero=>
  intro d hd w S S' Y t low x h hi ht hw hj;rw[rf] at hj;obtain⟨S1,h1,h2⟩:=aC.1 hj;injection h2 with e1 e2
  subst e1 e2;exact DU h hi tu m t low hm ht hw d (by omega) (by omega) h1
 | succ f ih=>
  intro d hd w S S' Y t low x h hi ht hw hj;rw[re] at hj;split at hj
  ·rename_i hc;obtain⟨S1,h1,h2⟩:=aC.1 hj;injection h2 with e1 e2
   subst e1 e2;exact DW h hi tu m t low hm ht hw d (by omega) (by omega) hc.1 hc.2 h1
  ·rename_i hc;split at hj
   ·cases hj
   rename_i x1 S1 hj1;split at hj
   ·cases hj
   rename_i S2 hp;obtain⟨hj,-⟩:=lM hj;obtain⟨ai,ad⟩:=lU tu f hi hj1;have ad:=ad hm;have al:=jV ai hp;have cr:=fun(W:World) (Z:Nat->Prop) (hW:Ig W ps S Z)=>ih (d+1) (by omega) hW hi (gW h tu t).2 hw hj1;rcases AW hj with⟨c1,rfl,rfl⟩ | ⟨c1,c2,rfl,rfl⟩ | ⟨c1,c2,c3,rfl,rfl⟩ | ⟨c1,c2,c3,rfl,S3,S4,h3,h4,h5⟩
   ·exact DV h hi tu m _ low hm ht hw d (by omega) (by omega) c1 ad ai al cr hp
   ·exact DR h hi tu m _ low hm ht hw d (by omega) (by omega) c1 (fun e=>hc ⟨c1,e⟩) ad ai al cr hp c2
   ·exact DS h hi tu m _ low hm ht hw d (by omega) (by omega) c1 (fun e=>hc ⟨c1,e⟩) ad ai al cr hp c2 c3
   ·exact DT h hi tu m t low hm ht hw d (by omega) (by omega) c1 (fun e=>hc ⟨c1,e⟩) ad ai al cr hp c2 c3 h3 h4 h5
theorem Ia{S S1:St}(h:Ig w ps S Y)(hi:Fv S)(tu:Bool)(t m low:Nat)(hm:m<2^64)(ht:t<2^64)(hw:low<2^64)(hj:joinR tu m 200 S t low=some (x,S1))(c1:redT S1 x=true)(c2:redT S1 (sidesT S1 tu x).2=true){S2:St}(hp:putJ S1 tu x (sidesT S1 tu x).1 (sidesT S1 tu x).2 false=some S2):
 Ct 225 #[eq ps tu,Xu t,Xu m,Xu low] w fun e w'=>e=.returned (Xu x)/\Ig w' ps S2 Y/\Fo Y w w':=by
 obtain⟨ai,hx⟩:=lU tu 200 hi hj;have hx:=hx hm;have cj:=fun W (hW:Ig W ps S (fun k=>Y k\/(w.heap.size<=k/\k<w.heap.size+1)))=>rX tu m hm 200 0 rfl hW hi ht hw hj;have ap:=fun W (hW:Ig W ps S1 (fun k=>Y k\/(w.heap.size<=k/\k<w.heap.size+1)))=>jX hW ai tu x hx;have ar:=fun W (hW:Ig W ps S1 (fun k=>Y k\/(w.heap.size<=k/\k<w.heap.size+1)))=>gq hW ai x hx;have al:=fun W (hW:Ig W ps S1 (fun k=>Y k\/(w.heap.size<=k/\k<w.heap.size+1)))=>gq hW ai (sidesT S1 tu x).2 (gW hW tu x).2;have cp:=fun W (hW:Ig W ps S1 (fun k=>Y k\/(w.heap.size<=k/\k<w.heap.size+1)))=>jW hW ai tu x (sidesT S1 tu x).1 (sidesT S1 tu x).2 false hx (gW hW tu x).1 (gW hW tu x).2 hp;rw[c1] at ar;rw[c2] at al;unfold eq at cj;unfold eq at ap;unfold eq at cp;unfold eq;obtain⟨⟨sa,sb⟩,au⟩:∃r,sidesT S1 tu x=r:=⟨_,rfl⟩;rw[au] at ap al cp;simp only at ap al cp;have q0:=heap_alloc_new w (Xb ps tu);have B0:=(aa w.heap.size w).alloc Ih (Xb ps tu);have a0:(w.alloc (Xb ps tu)).heap.size=w.heap.size+1:=by simp
 have z0:=h.wide B0;rw[a0] at z0;have k0:Fo Y w (w.alloc (Xb ps tu)):=Fo.of_below B0 h.yl;have a1:w.heap.size<(w.alloc (Xb ps tu)).heap.size:=by omega
 have HG:=kq5 cj ap ar al cp;clear cj ap ar al cp hi ai a1 a0 au hj c1 c2 hp;have c0:(w.alloc (Xb ps tu)).cell? ⟨w.heap.size,0,none⟩=some (PV ps):=by rw[cell_of_block q0];rfl
 have c1:(w.alloc (Xb ps tu)).cell? ⟨w.heap.size,1,none⟩=some (.bool tu):=by rw[cell_of_block q0];rfl
 have H0:=kq3 z0 q0 k0;clear z0 q0 k0 B0 h;go_enter func225,ntmps225;go_wp2_with fail;clear c0 c1;refine(HG.a _ H0.a).mono ?_;rintro e w1 ⟨rfl,hs,ad⟩;have rr:=(ad.block w.heap.size (ae ⟨Nat.le_refl _,aJ _⟩)).trans H0.b;have hk:=H0.c.trans (ad.mono (fun k hk=>ab hk));obtain⟨c0,c1⟩:=Fp rr;have H1:=kq3 hs rr hk;clear ad rr hs hk;go_wp2_with fail;clear c0 c1;refine wx (HG.b _ H1.a) fun w2 hb=>?_;have rr:=(hb.block w.heap.size (gl H1.b)).trans H1.b;have hs:=H1.a.below hb;have hk:=H1.c.trans ((H1.a.keep hb).mono (fun k hk=>ab hk));obtain⟨c0,c1⟩:=Fp rr;have H2:=kq3 hs rr hk;clear hb rr hs hk;go_wp2_with fail;clear c0 c1;refine wx (HG.c _ H2.a) fun w3 hb=>?_;have rr:=(hb.block w.heap.size (gl H2.b)).trans H2.b;have hs:=H2.a.below hb;have hk:=H2.c.trans ((H2.a.keep hb).mono (fun k hk=>ab hk));obtain⟨c0,c1⟩:=Fp rr;have H3:=kq3 hs rr hk;clear hb rr hs hk;go_wp2_with fail;clear c0 c1;refine wx (HG.d _ H3.a) fun w4 hb=>?_;have rr:=(hb.block w.heap.size (gl H3.b)).trans H3.b;have hs:=H3.a.below hb;have hk:=H3.c.trans ((H3.a.keep hb).mono (fun k hk=>ab hk));obtain⟨c0,c1⟩:=Fp rr;have H4:=kq3 hs rr hk;clear hb rr hs hk;go_wp2_with fail;clear c0 c1;refine(HG.e _ H4.a).mono ?_;rintro e w5 ⟨rfl,hs,ad⟩;have rr:=(ad.block w.heap.size (ae ⟨Nat.le_refl _,aJ _⟩)).trans H4.b;have hk:=H4.c.trans (ad.mono (fun k hk=>ab hk));obtain⟨c0,c1⟩:=Fp rr;have H5:=kq3 hs rr hk;clear ad rr hs hk;go_wp2_with fail;clear c0 c1;go_ret;exact⟨rfl,H5.a.mono (fun k hk=>ab hk),H5.c⟩
theorem DZ{S S1:St}(h:Ig w ps S Y)(hi:Fv S)(tu:Bool)(t m low:Nat)(hm:m<2^64)(ht:t<2^64)(hw:low<2^64)(hj:joinR tu m 200 S t low=some (x,S1))(c1:redT S1 x=true)(c2:redT S1 (sidesT S1 tu x).2=false):
 Ct 225 #[eq ps tu,Xu t,Xu m,Xu low] w fun e w'=>e=.returned (Xu x)/\Ig w' ps S1 Y/\Fo Y w w':=by
 obtain⟨al,hx⟩:=lU tu 200 hi hj;have hx:=hx hm;have cj:=fun W (hW:Ig W ps S (fun k=>Y k\/(w.heap.size<=k/\k<w.heap.size+1)))=>rX tu m hm 200 0 rfl hW hi ht hw hj;have ai:=fun W (hW:Ig W ps S1 (fun k=>Y k\/(w.heap.size<=k/\k<w.heap.size+1)))=>jX hW al tu x hx;have ar:=fun W (hW:Ig W ps S1 (fun k=>Y k\/(w.heap.size<=k/\k<w.heap.size+1)))=>gq hW al x hx;have ad:=fun W (hW:Ig W ps S1 (fun k=>Y k\/(w.heap.size<=k/\k<w.heap.size+1)))=>gq hW al (sidesT S1 tu x).2 (gW hW tu x).2;rw[c1] at ar;rw[c2] at ad;unfold eq at cj;unfold eq at ai;unfold eq;obtain⟨⟨sa,sb⟩,au⟩:∃r,sidesT S1 tu x=r:=⟨_,rfl⟩;rw[au] at ai ad;simp only at ai ad;have q0:=heap_alloc_new w (Xb ps tu);have B0:=(aa w.heap.size w).alloc Ih (Xb ps tu);have a0:(w.alloc (Xb ps tu)).heap.size=w.heap.size+1:=by simp
 have z0:=h.wide B0;rw[a0] at z0;have k0:Fo Y w (w.alloc (Xb ps tu)):=Fo.of_below B0 h.yl;have a1:w.heap.size<(w.alloc (Xb ps tu)).heap.size:=by omega
 have HG:=kq4 cj ai ar ad;clear cj ai ar ad hi al a1 a0 au hj c1 c2;have c0:(w.alloc (Xb ps tu)).cell? ⟨w.heap.size,0,none⟩=some (PV ps):=by rw[cell_of_block q0];rfl
 have c1:(w.alloc (Xb ps tu)).cell? ⟨w.heap.size,1,none⟩=some (.bool tu):=by rw[cell_of_block q0];rfl
 have H0:=kq3 z0 q0 k0;clear z0 q0 k0 B0 h;go_enter func225,ntmps225;go_wp2_with fail;clear c0 c1;refine(HG.a _ H0.a).mono ?_;rintro e w1 ⟨rfl,hs,ap⟩;have rr:=(ap.block w.heap.size (ae ⟨Nat.le_refl _,aJ _⟩)).trans H0.b;have hk:=H0.c.trans (ap.mono (fun k hk=>ab hk));obtain⟨c0,c1⟩:=Fp rr;have H1:=kq3 hs rr hk;clear ap rr hs hk;go_wp2_with fail;clear c0 c1;refine wx (HG.b _ H1.a) fun w2 hb=>?_;have rr:=(hb.block w.heap.size (gl H1.b)).trans H1.b;have hs:=H1.a.below hb;have hk:=H1.c.trans ((H1.a.keep hb).mono (fun k hk=>ab hk));obtain⟨c0,c1⟩:=Fp rr;have H2:=kq3 hs rr hk;clear hb rr hs hk;go_wp2_with fail;clear c0 c1;refine wx (HG.c _ H2.a) fun w3 hb=>?_;have rr:=(hb.block w.heap.size (gl H2.b)).trans H2.b;have hs:=H2.a.below hb;have hk:=H2.c.trans ((H2.a.keep hb).mono (fun k hk=>ab hk));obtain⟨c0,c1⟩:=Fp rr;have H3:=kq3 hs rr hk;clear hb rr hs hk;go_wp2_with fail;clear c0 c1;refine wx (HG.d _ H3.a) fun w4 hb=>?_;have rr:=(hb.block w.heap.size (gl H3.b)).trans H3.b;have hs:=H3.a.below hb;have hk:=H3.c.trans ((H3.a.keep hb).mono (fun k hk=>ab hk));obtain⟨c0,c1⟩:=Fp rr;have H4:=kq3 hs rr hk;clear hb rr hs hk;go_wp2_with fail;clear c0 c1;go_ret;exact⟨rfl,H4.a.mono (fun k hk=>ab hk),H4.c⟩
theorem DY{S S1:St}(h:Ig w ps S Y)(hi:Fv S)(tu:Bool)(t m low:Nat)(hm:m<2^64)(ht:t<2^64)(hw:low<2^64)(hj:joinR tu m 200 S t low=some (x,S1))(c1:redT S1 x=false):
 Ct 225 #[eq ps tu,Xu t,Xu m,Xu low] w fun e w'=>e=.returned (Xu x)/\Ig w' ps S1 Y/\Fo Y w w':=by
 obtain⟨ai,hx⟩:=lU tu 200 hi hj;have hx:=hx hm;have cj:=fun W (hW:Ig W ps S (fun k=>Y k\/(w.heap.size<=k/\k<w.heap.size+1)))=>rX tu m hm 200 0 rfl hW hi ht hw hj;have ad:=fun W (hW:Ig W ps S1 (fun k=>Y k\/(w.heap.size<=k/\k<w.heap.size+1)))=>jX hW ai tu x hx;have ap:=fun W (hW:Ig W ps S1 (fun k=>Y k\/(w.heap.size<=k/\k<w.heap.size+1)))=>gq hW ai x hx;rw[c1] at ap;unfold eq at cj;unfold eq at ad;unfold eq;obtain⟨⟨sa,sb⟩,ar⟩:∃r,sidesT S1 tu x=r:=⟨_,rfl⟩;rw[ar] at ad;simp only at ad;have q0:=heap_alloc_new w (Xb ps tu);have B0:=(aa w.heap.size w).alloc Ih (Xb ps tu);have au:(w.alloc (Xb ps tu)).heap.size=w.heap.size+1:=by simp
 have z0:=h.wide B0;rw[au] at z0;have k0:Fo Y w (w.alloc (Xb ps tu)):=Fo.of_below B0 h.yl;have a0:w.heap.size<(w.alloc (Xb ps tu)).heap.size:=by omega
 have HG:=kq3 cj ad ap;clear cj ad ap hi ai a0 au ar hj c1;have c0:(w.alloc (Xb ps tu)).cell? ⟨w.heap.size,0,none⟩=some (PV ps):=by rw[cell_of_block q0];rfl
 have c1:(w.alloc (Xb ps tu)).cell? ⟨w.heap.size,1,none⟩=some (.bool tu):=by rw[cell_of_block q0];rfl
 have H0:=kq3 z0 q0 k0;clear z0 q0 k0 B0 h;go_enter func225,ntmps225;go_wp2_with fail;clear c0 c1;refine(HG.a _ H0.a).mono ?_;rintro e w1 ⟨rfl,hs,al⟩;have rr:=(al.block w.heap.size (ae ⟨Nat.le_refl _,aJ _⟩)).trans H0.b;have hk:=H0.c.trans (al.mono (fun k hk=>ab hk));obtain⟨c0,c1⟩:=Fp rr;have H1:=kq3 hs rr hk;clear al rr hs hk;go_wp2_with fail;clear c0 c1;refine wx (HG.b _ H1.a) fun w2 hb=>?_;have rr:=(hb.block w.heap.size (gl H1.b)).trans H1.b;have hs:=H1.a.below hb;have hk:=H1.c.trans ((H1.a.keep hb).mono (fun k hk=>ab hk));obtain⟨c0,c1⟩:=Fp rr;have H2:=kq3 hs rr hk;clear hb rr hs hk;go_wp2_with fail;clear c0 c1;refine wx (HG.c _ H2.a) fun w3 hb=>?_;have rr:=(hb.block w.heap.size (gl H2.b)).trans H2.b;have hs:=H2.a.below hb;have hk:=H2.c.trans ((H2.a.keep hb).mono (fun k hk=>ab hk));obtain⟨c0,c1⟩:=Fp rr;have H3:=kq3 hs rr hk;clear hb rr hs hk;go_wp2_with fail;clear c0 c1;go_ret;exact⟨rfl,H3.a.mono (fun k hk=>ab hk),H3.c⟩