/- Trees balanced by their heights: left, right: the walks. -/
import Derived.Test.YtpljannolpapgaaGreatDoorVKe
set_option maxRecDepth 100000
set_option maxHeartbeats 3200000
namespace Go.Proofs.YtpljannolpapgaaGreatDoor
open Go.RowKit Tryz Go.BigFrame Go.Maps Go.WideMaps Lf
variable{Y:Nat->Prop}{ps:Nat}{w:World}{x:Nat}
theorem qFgad{P:Prop}(h:P:=by
 split at h
 ·cases h
 ·rename_i S1 h1;obtain⟨S2,h2,h3⟩:=aC.1 h
  injection h3 with e1 e2
  subst e1 e2;exact⟨S1,h1,h2,rfl⟩):P:=h
theorem rp{S S':St}{hh x:Nat}(h:leftM S hh=some (x,S')):∃S1,fu S (getNode S hh).1 hh (getNode S hh).1.left (getNode S (getNode S hh).1.right).1.left=some S1/\fu S1 (getNode S (getNode S hh).1.right).1 (getNode S hh).1.right hh (getNode S (getNode S hh).1.right).1.right=some S'/\x=(getNode S hh).1.right:=by
 unfold leftM at h;exact qFgad
theorem ow{S S':St}{hh x:Nat}(hi:Fv S)(h:leftM S hh=some (x,S')):Fv S':=by
 obtain⟨S1,h1,h2,_⟩:=rp h;exact gX (gX hi h1) h2
theorem qFgac{P:Prop}(h:P:=by
 iterate 13
  refine' hC ?_ ?_;rotate_left
  ·intro x;go_simp
   try rfl
  simp only[pu]
 refine mo ?_;clear y0 y1 y2 y3 y4 y5 y6 z0 z1 z2 z3 z4 z5 z6;refine gF _ (by rfl) (by rfl) (fun K hK=>?_);go_simp;refine(HG.c _ _ (HZ.a.below (ab _ _).drew)).mono ?_;rintro e w5 ⟨rfl,h5,au⟩;have u5:=(au.block b1 (ae ⟨by omega,a7⟩)).trans HZ.b;have v5:=(au.block b2 (ae ⟨by omega,a8⟩)).trans HZ.c;have H5:=kq4 h5 au u5 v5;clear h5 au u5 v5
 try go_simp
 refine hK.out _ _ (HI.out _ H5.c H5.d) ?_;clear hK K
 try simp only[pu]
 refine gF _ (by rfl) (by rfl) (fun K hK=>?_);go_simp;refine(HG.d _ _ H5.a).mono ?_;rintro e w6 ⟨rfl,h6,a0⟩;have u6:=(a0.block b1 (ae ⟨by omega,a7⟩)).trans H5.c;have v6:=(a0.block b2 (ae ⟨by omega,a8⟩)).trans H5.d;have H6:=kq4 h6 (H5.b.trans a0) u6 v6;clear h6 a0 u6 v6
 try go_simp
 refine hK.out _ _ (HI.out _ H6.c H6.d) ?_;clear hK K
 try simp only[pu]
 refine gF _ (by rfl) (by rfl) (fun K hK=>?_)
 try go_simp
 refine hK.out _ _ (HI.out _ H6.c H6.d) ?_;clear hK K
 try simp only[pu]
 refine mp ?_;go_wp2_with fail;go_ret;exact⟨rfl,H6.a.mono fun k hk=>aa hk,(Fo.of_below HZ.d.drew HG.e.yl).trans (H6.b.mono fun k hk=>aa hk)⟩):P:=h
theorem pR{S S':St}(h:Ig w ps S Y)(hi:Fv S)(hh:Nat)(hl:hh<2^64)(hR:leftM S hh=some (x,S')):
 Ct 240 #[PV ps,Xu hh] w fun e w'=>e=.returned (Xu x)/\Ig w' ps S' Y/\Fo Y w w':=by
 obtain⟨S1,h1,h2,rfl⟩:=rp hR;have an:=fs h hh;have ar:=fs h (getNode S hh).1.right;have a4:=gX hi h1;have hg:=gR h hi hh hl;have al:=fun W (hW:Below w.heap.size w W)=>gR (h.below hW) hi (getNode S hh).1.right an.right;have ad:=fun W Z (hW:Ig W ps S Z)=>jG hW hi (getNode S hh).1 an hh (getNode S hh).1.left (getNode S (getNode S hh).1.right).1.left hl (by first | exact an.left | exact ar.right) (by first | exact ar.left | exact an.right) h1;have ai:=fun W Z (hW:Ig W ps S1 Z)=>jG hW a4 (getNode S (getNode S hh).1.right).1 ar (getNode S hh).1.right hh (getNode S (getNode S hh).1.right).1.right an.right (by first | exact hl | exact ar.left) (by first | exact ar.right | exact hl) h2;obtain⟨⟨⟨k0,k1,k2,k3,k4,k5⟩,er⟩,hE⟩:∃q,getNode S hh=q:=⟨_,rfl⟩;rw[hE] at hg al ad ai⊢;simp only at hg al ad ai⊢;obtain⟨⟨⟨g0,g1,g2,g3,g4,g5⟩,bb⟩,a3⟩:∃q,getNode S k3=q:=⟨_,rfl⟩;rw[a3] at al ad ai;simp only[gP] at hg al ad ai;have HG:=kq5 hg al ad ai h;clear hg al ad ai h hi a4 h1 h2 an ar hE a3 hR;go_enter func240,ntmps240;go_wp2_with fail;refine wx HG.a fun w1 hb1=>?_;have q:=heap_alloc_new w1 (Xa k0 k1 k2 k3 k4 k5 hh);have B1:=hb1.alloc hb1.size (Xa k0 k1 k2 k3 k4 k5 hh);have bc:=hb1.size;clear hb1;go_wp2_with fail;generalize a':w1.alloc (Xa k0 k1 k2 k3 k4 k5 hh)=W1 at*;have ba:w1.heap.size<W1.heap.size:=(gl q);generalize w1.heap.size=b1 at*;refine wx (HG.b _ B1) fun w2 hb2=>?_;have q2:=(hb2.block b1 ba).trans q;have B2:=B1.trans (hb2.mono B1.size);have bd:=hb2.size;clear hb2 q a';have q4:=heap_alloc_new w2 (Xa g0 g1 g2 g3 g4 g5 k3);have r4:=(((ab w2.heap.size w2).alloc Ih (Xa g0 g1 g2 g3 g4 g5 k3)).block b1 (by omega)).trans q2;have B4:=B2.alloc B2.size (Xa g0 g1 g2 g3 g4 g5 k3);have bf:w.heap.size<=w2.heap.size:=B2.size;clear q2 B1 B2;go_wp2_with fail;generalize w2.alloc (Xa g0 g1 g2 g3 g4 g5 k3)=W at*;generalize w2.heap.size=b2 at*;have a7:=(gl r4);have a8:=(gl q4);have HZ:=kq4 (HG.e.wide B4) r4 q4 B4;obtain⟨I,a1,a2⟩:∃I:World->Prop,(∀w',I w'->w'.heap[b1]?=some (.cells #[Xu k0,Xu k1,Xu k2,Xu k3,Xu k4,Xu k5,Xu hh] 280 (0,0))/\w'.heap[b2]?=some (.cells #[Xu g0,Xu g1,Xu g2,Xu g3,Xu g4,Xu g5,Xu k3] 280 (0,0)))/\(∀w',w'.heap[b1]?=some (.cells #[Xu k0,Xu k1,Xu k2,Xu k3,Xu k4,Xu k5,Xu hh] 280 (0,0))->w'.heap[b2]?=some (.cells #[Xu g0,Xu g1,Xu g2,Xu g3,Xu g4,Xu g5,Xu k3] 280 (0,0))->I w'):=⟨fun w'=>w'.heap[b1]?=some (.cells #[Xu k0,Xu k1,Xu k2,Xu k3,Xu k4,Xu k5,Xu hh] 280 (0,0))/\w'.heap[b2]?=some (.cells #[Xu g0,Xu g1,Xu g2,Xu g3,Xu g4,Xu g5,Xu k3] 280 (0,0)),fun _ h=>h,fun _ a b=>⟨a,b⟩⟩;have a5:=fun x:Fq I=>(a1 _ x.ok).1;have a6:=fun x:Fq I=>(a1 _ x.ok).2;obtain⟨y0,y1,y2,y3,y4,y5,y6⟩:=iZ a5;obtain⟨z0,z1,z2,z3,z4,z5,z6⟩:=iZ a6;have HI:=If a2;have a9:I W.drew:=a2 _ r4 q4;clear a5 a6 q4 r4 B4 a1 a2;refine Jz I [0,1,2,3,4,5,6,7,8,9,11,12,13] [10,14,15] (by kernel_rfl) (by kernel_rfl) a9 ?_;exact qFgac
theorem se{S S':St}{hh x:Nat}(h:rightM S hh=some (x,S')):∃S1,fu S (getNode S hh).1 hh (getNode S (getNode S hh).1.left).1.right (getNode S hh).1.right=some S1/\fu S1 (getNode S (getNode S hh).1.left).1 (getNode S hh).1.left (getNode S (getNode S hh).1.left).1.left hh=some S'/\x=(getNode S hh).1.left:=by
 unfold rightM at h;exact qFgad
theorem oT{S S':St}{hh x:Nat}(hi:Fv S)(h:rightM S hh=some (x,S')):Fv S':=by
 obtain⟨S1,h1,h2,_⟩:=se h;exact gX (gX hi h1) h2
theorem pS{S S':St}(h:Ig w ps S Y)(hi:Fv S)(hh:Nat)(hl:hh<2^64)(hR:rightM S hh=some (x,S')):
 Ct 241 #[PV ps,Xu hh] w fun e w'=>e=.returned (Xu x)/\Ig w' ps S' Y/\Fo Y w w':=by
 obtain⟨S1,h1,h2,rfl⟩:=se hR;have an:=fs h hh;have ar:=fs h (getNode S hh).1.left;have a4:=gX hi h1;have hg:=gR h hi hh hl;have al:=fun W (hW:Below w.heap.size w W)=>gR (h.below hW) hi (getNode S hh).1.left an.left;have ad:=fun W Z (hW:Ig W ps S Z)=>jG hW hi (getNode S hh).1 an hh (getNode S (getNode S hh).1.left).1.right (getNode S hh).1.right hl (by first | exact an.left | exact ar.right) (by first | exact ar.left | exact an.right) h1;have ai:=fun W Z (hW:Ig W ps S1 Z)=>jG hW a4 (getNode S (getNode S hh).1.left).1 ar (getNode S hh).1.left (getNode S (getNode S hh).1.left).1.left hh an.left (by first | exact hl | exact ar.left) (by first | exact ar.right | exact hl) h2;obtain⟨⟨⟨k0,k1,k2,k3,k4,k5⟩,er⟩,hE⟩:∃q,getNode S hh=q:=⟨_,rfl⟩;rw[hE] at hg al ad ai⊢;simp only at hg al ad ai⊢;obtain⟨⟨⟨g0,g1,g2,g3,g4,g5⟩,bb⟩,a3⟩:∃q,getNode S k2=q:=⟨_,rfl⟩;rw[a3] at al ad ai;simp only[gP] at hg al ad ai;have HG:=kq5 hg al ad ai h;clear hg al ad ai h hi a4 h1 h2 an ar hE a3 hR;go_enter func241,ntmps241;go_wp2_with fail;refine wx HG.a fun w1 hb1=>?_;have q:=heap_alloc_new w1 (Xa k0 k1 k2 k3 k4 k5 hh);have B1:=hb1.alloc hb1.size (Xa k0 k1 k2 k3 k4 k5 hh);have bc:=hb1.size;clear hb1;go_wp2_with fail;generalize a':w1.alloc (Xa k0 k1 k2 k3 k4 k5 hh)=W1 at*;have ba:w1.heap.size<W1.heap.size:=(gl q);generalize w1.heap.size=b1 at*;refine wx (HG.b _ B1) fun w2 hb2=>?_;have q2:=(hb2.block b1 ba).trans q;have B2:=B1.trans (hb2.mono B1.size);have bd:=hb2.size;clear hb2 q a';have q4:=heap_alloc_new w2 (Xa g0 g1 g2 g3 g4 g5 k2);have r4:=(((ab w2.heap.size w2).alloc Ih (Xa g0 g1 g2 g3 g4 g5 k2)).block b1 (by omega)).trans q2;have B4:=B2.alloc B2.size (Xa g0 g1 g2 g3 g4 g5 k2);have bf:w.heap.size<=w2.heap.size:=B2.size;clear q2 B1 B2;go_wp2_with fail;generalize w2.alloc (Xa g0 g1 g2 g3 g4 g5 k2)=W at*;generalize w2.heap.size=b2 at*;have a7:=(gl r4);have a8:=(gl q4);have HZ:=kq4 (HG.e.wide B4) r4 q4 B4;obtain⟨I,a1,a2⟩:∃I:World->Prop,(∀w',I w'->w'.heap[b1]?=some (.cells #[Xu k0,Xu k1,Xu k2,Xu k3,Xu k4,Xu k5,Xu hh] 280 (0,0))/\w'.heap[b2]?=some (.cells #[Xu g0,Xu g1,Xu g2,Xu g3,Xu g4,Xu g5,Xu k2] 280 (0,0)))/\(∀w',w'.heap[b1]?=some (.cells #[Xu k0,Xu k1,Xu k2,Xu k3,Xu k4,Xu k5,Xu hh] 280 (0,0))->w'.heap[b2]?=some (.cells #[Xu g0,Xu g1,Xu g2,Xu g3,Xu g4,Xu g5,Xu k2] 280 (0,0))->I w'):=⟨fun w'=>w'.heap[b1]?=some (.cells #[Xu k0,Xu k1,Xu k2,Xu k3,Xu k4,Xu k5,Xu hh] 280 (0,0))/\w'.heap[b2]?=some (.cells #[Xu g0,Xu g1,Xu g2,Xu g3,Xu g4,Xu g5,Xu k2] 280 (0,0)),fun _ h=>h,fun _ a b=>⟨a,b⟩⟩;have a5:=fun x:Fq I=>(a1 _ x.ok).1;have a6:=fun x:Fq I=>(a1 _ x.ok).2;obtain⟨y0,y1,y2,y3,y4,y5,y6⟩:=iZ a5;obtain⟨z0,z1,z2,z3,z4,z5,z6⟩:=iZ a6;have HI:=If a2;have a9:I W.drew:=a2 _ r4 q4;clear a5 a6 q4 r4 B4 a1 a2;refine Jz I [0,1,2,3,4,5,6,7,8,9,10,11,12] [13,14,15] (by kernel_rfl) (by kernel_rfl) a9 ?_;exact qFgac
inductive BalDid (S S':St) (hh x a b:Nat):Prop
 | none (h1:a<=b+1) (h2:b<=a+1) (h3:x=hh) (h4:S'=S):BalDid S S' hh x a b
 | ll (c d:Nat) (h1:b+1<a) (h2:eE S (getNode S (getNode S hh).1.left).1.left=some c) (h3:eE S (getNode S (getNode S hh).1.left).1.right=some d) (h4:¬c<d) (h5:rightM S hh=some (x,S')):BalDid S S' hh x a b
 | lr (c d y:Nat) (S1 S2:St) (h1:b+1<a) (h2:eE S (getNode S (getNode S hh).1.left).1.left=some c) (h3:eE S (getNode S (getNode S hh).1.left).1.right=some d) (h4:c<d) (h5:leftM S (getNode S hh).1.left=some (y,S1)) (h6:fu S1 (getNode S hh).1 hh y (getNode S hh).1.right=some S2) (h7:rightM S2 hh=some (x,S')):BalDid S S' hh x a b
 | rr (c d:Nat) (h0:¬b+1<a) (h1:a+1<b) (h2:eE S (getNode S (getNode S hh).1.right).1.left=some c) (h3:eE S (getNode S (getNode S hh).1.right).1.right=some d) (h4:¬d<c) (h5:leftM S hh=some (x,S')):BalDid S S' hh x a b
 | rl (c d y:Nat) (S1 S2:St) (h0:¬b+1<a) (h1:a+1<b) (h2:eE S (getNode S (getNode S hh).1.right).1.left=some c) (h3:eE S (getNode S (getNode S hh).1.right).1.right=some d) (h4:d<c) (h5:rightM S (getNode S hh).1.right=some (y,S1)) (h6:fu S1 (getNode S hh).1 hh (getNode S hh).1.left y=some S2) (h7:leftM S2 hh=some (x,S')):BalDid S S' hh x a b
theorem tI{S S':St}{hh x:Nat}(h:balM S hh=some (x,S')):∃a b,eE S (getNode S hh).1.left=some a/\eE S (getNode S hh).1.right=some b/\BalDid S S' hh x a b:=by
 unfold balM at h
 split at h
 ·rename_i a b ha hb;refine⟨a,b,ha,hb,?_⟩
  split at h
  ·rename_i h1
   split at h
   ·rename_i c d hc hd
    split at h
    ·rename_i h4
     split at h
     ·cases h
     ·rename_i y S1 h5
      split at h
      ·cases h
      ·rename_i S2 h6;exact .lr c d y S1 S2 h1 hc hd h4 h5 h6 h
    ·rename_i h4;exact .ll c d h1 hc hd h4 h
   ·cases h
  ·rename_i h0
   split at h
   ·rename_i h1
    split at h
    ·rename_i c d hc hd
     split at h
     ·rename_i h4
      split at h
      ·cases h
      ·rename_i y S1 h5
       split at h
       ·cases h
       ·rename_i S2 h6;exact .rl c d y S1 S2 h0 h1 hc hd h4 h5 h6 h
     ·rename_i h4;exact .rr c d h0 h1 hc hd h4 h
    ·cases h
   ·rename_i h1
    injection h with h
    injection h with e1 e2
    exact .none (by omega) (by omega) e1.symm e2.symm
 ·cases h
theorem Cj{S S':St}(h:Ig w ps S Y){hh x:Nat}(hR:leftM S hh=some (x,S')):x<2^64:=by
 obtain⟨_,_,_,rfl⟩:=rp hR;exact(fs h hh).right
theorem D9{S S':St}(h:Ig w ps S Y){hh x:Nat}(hR:rightM S hh=some (x,S')):x<2^64:=by
 obtain⟨_,_,_,rfl⟩:=se hR;exact(fs h hh).left
theorem yQ{S:St}(h:Ig w ps S Y)(hi:Fv S)(hh:Nat)(hl:hh<2^64){a b:Nat}(ha:eE S (getNode S hh).1.left=some a)(hb:eE S (getNode S hh).1.right=some b)(h1:a<=b+1)(h2:b<=a+1):
 Ct 218 #[PV ps,Xu hh] w fun e w'=>e=.returned (Xu hh)/\Ig w' ps S Y/\Fo Y w w':=by
 have hg:=gR h hi hh hl;have ad:=fs h hh;have al:a<2^62:=by have:=num_some ha;omega
 have an:b<2^62:=by have:=num_some hb;omega
 have hA:=fun W (hW:Below w.heap.size w W)=>fJ (h.below hW) hi (getNode S hh).1.left ad.left ha;have hB:=fun W (hW:Below w.heap.size w W)=>fJ (h.below hW) hi (getNode S hh).1.right ad.right hb;obtain⟨⟨⟨k0,k1,k2,k3,k4,k5⟩,er⟩,hE⟩:∃r,getNode S hh=r:=⟨_,rfl⟩;rw[hE] at hg hA hB;simp only at hg hA hB;simp only[gP] at hg;have d0:IntKind.i64.wrap ((a:Int)-b)=(a:Int)-b:=aB _ (by omega);have d1:((1:Int)<(a:Int)-b)=False:=eq_false (by omega);have d2:((a:Int)-b< -1)=False:=eq_false (by omega);have HG:=kq4 hg hA hB h;clear hg hA hB h hi hE ad ha hb h1 h2 al an;go_enter func218,ntmps218;go_wp2_with fail;refine wx HG.a fun w1 hb1=>?_;have q:=heap_alloc_new w1 (Xa k0 k1 k2 k3 k4 k5 hh);have B1:=hb1.alloc hb1.size (Xa k0 k1 k2 k3 k4 k5 hh);have a1:=hb1.size;clear hb1;go_wp2_with fail;generalize w1.alloc (Xa k0 k1 k2 k3 k4 k5 hh)=W at*;have ql:=(gl q);generalize w1.heap.size=b1 at*;have ar:∀x:Fq (Below W.heap.size W),x.to.cell? ⟨b1,2,none⟩=some (Xu k2):=fun x=>by rw[cell_of_block ((x.ok.block _ ql).trans q)];rfl
 have au:∀x:Fq (Below W.heap.size W),x.to.cell? ⟨b1,3,none⟩=some (Xu k3):=fun x=>by rw[cell_of_block ((x.ok.block _ ql).trans q)];rfl
 have hA:=fun x:Fq (Below W.heap.size W)=>Calls.keeps_below (HG.b x.to (B1.trans (x.ok.mono B1.size)));have hB:=fun x:Fq (Below W.heap.size W)=>Calls.keeps_below (HG.c x.to (B1.trans (x.ok.mono B1.size)));have HB:=kq2 B1 q;clear B1 q;refine iq (Below W.heap.size W) (by kernel_rfl) (by kernel_rfl) (ab _ _).drew (fun _=>?_)
 repeat (first | go_big_quiet_skip | (go_big_quiet_want;go_big_quiet_op;first | go_big_quiet_on | (apply Exists.intro;refine⟨fun x=>?_,?_⟩;(· first | with_reducible exact hA x | with_reducible exact hB x);go_big_quiet_on)))
 refine wpQuiet_nil ?_;rintro _ ⟨v,rfl⟩;clear hA hB ar au;have r2:=(v.ok.block b1 ql).trans HB.b;have HX:=kq2 (HB.a.trans (v.ok.mono HB.a.size)) r2;have a0:=v.ok.size;obtain⟨w2,ai⟩:=Ii v.to;rw[ai] at HX r2 a0⊢;clear ai v HB;clear r2;go_wp2_with fail;go_ret;exact⟨rfl,HG.d.below HX.a,Fo.of_below HX.a HG.d.yl⟩
theorem qFgaa{P:Prop}(h:P:=by
 generalize w3.heap.size=b2 at*;have ba:=(gl r4);have ar:=(gl q4);have a9:∀x:Fq (Below W3.heap.size W3),x.to.cell? ⟨b2,2,none⟩=some (Xu g2):=fun x=>by rw[cell_of_block ((x.ok.block _ ar).trans q4)];rfl
 have a':∀x:Fq (Below W3.heap.size W3),x.to.cell? ⟨b2,3,none⟩=some (Xu g3):=fun x=>by rw[cell_of_block ((x.ok.block _ ar).trans q4)];rfl
 have hC:=fun x:Fq (Below W3.heap.size W3)=>Calls.keeps_below (HG.f x.to (B4.trans (x.ok.mono B4.size)));have hD:=fun x:Fq (Below W3.heap.size W3)=>Calls.keeps_below (HG.g x.to (B4.trans (x.ok.mono B4.size)));have ai:=kq3 B4 r4 q4;clear B4 r4 q4;refine iq (Below W3.heap.size W3) (by kernel_rfl) (by kernel_rfl) (ab _ _).drew (fun _=>?_)
 repeat (first | go_big_quiet_skip | (go_big_quiet_want;go_big_quiet_op;first | go_big_quiet_on | (apply Exists.intro;refine⟨fun x=>?_,?_⟩;(· first | with_reducible exact hC x | with_reducible exact hD x);go_big_quiet_on)))
 refine wpQuiet_nil ?_;rintro _ ⟨v,rfl⟩;clear hC hD a9 a';have r5:=(v.ok.block b1 ba).trans ai.b;have q5:=(v.ok.block b2 ar).trans ai.c;have B5:=ai.a.trans (v.ok.mono ai.a.size);have bc:=v.ok.size;obtain⟨w5,a2⟩:=Ii v.to;rw[a2] at r5 q5 B5 bc⊢;clear a2 v ai;have au:=kq3 B5 r5 q5;clear r5 q5 B5;go_wp2_with fail;refine(HG.h _ _ (HG.d.below au.a)).mono ?_;rintro e w6 ⟨rfl,h6,k6⟩;have H6:=kq2 h6 ((Fo.of_below au.a HG.d.yl).trans k6);clear h6 k6;go_wp2_with fail;go_ret;exact⟨rfl,H6.out⟩):P:=h
theorem yO{S S':St}(h:Ig w ps S Y)(hi:Fv S)(hh:Nat)(hl:hh<2^64){a b:Nat}(ha:eE S (getNode S hh).1.left=some a)(hb:eE S (getNode S hh).1.right=some b){c d x:Nat}(h1:b+1<a)(h2:eE S (getNode S (getNode S hh).1.left).1.left=some c)(h3:eE S (getNode S (getNode S hh).1.left).1.right=some d)(h4:¬c<d)(h5:rightM S hh=some (x,S')):
 Ct 218 #[PV ps,Xu hh] w fun e w'=>e=.returned (Xu x)/\Ig w' ps S' Y/\Fo Y w w':=by
 have hg:=gR h hi hh hl;have al:=fs h hh;have a3:a<2^62:=by have:=num_some ha;omega
 have a4:b<2^62:=by have:=num_some hb;omega
 have hA:=fun W (hW:Below w.heap.size w W)=>fJ (h.below hW) hi (getNode S hh).1.left al.left ha;have hB:=fun W (hW:Below w.heap.size w W)=>fJ (h.below hW) hi (getNode S hh).1.right al.right hb;have an:=fs h (getNode S hh).1.left;have ad:=fun W (hW:Below w.heap.size w W)=>gR (h.below hW) hi (getNode S hh).1.left al.left;have a5:c<2^62:=by have:=num_some h2;omega
 have a6:d<2^62:=by have:=num_some h3;omega
 have hC:=fun W (hW:Below w.heap.size w W)=>fJ (h.below hW) hi (getNode S (getNode S hh).1.left).1.left an.left h2;have hD:=fun W (hW:Below w.heap.size w W)=>fJ (h.below hW) hi (getNode S (getNode S hh).1.left).1.right an.right h3;have hF:=fun W Z (hW:Ig W ps S Z)=>pS hW hi hh hl h5;obtain⟨⟨⟨k0,k1,k2,k3,k4,k5⟩,er⟩,hE⟩:∃r,getNode S hh=r:=⟨_,rfl⟩;rw[hE] at hg hA hB ad hC hD;simp only at hg hA hB ad hC hD;obtain⟨⟨⟨g0,g1,g2,g3,g4,g5⟩,bd⟩,a0⟩:∃q,getNode S k2=q:=⟨_,rfl⟩;rw[a0] at ad hC hD;simp only[gP] at hg ad hC hD;have d0:IntKind.i64.wrap ((a:Int)-b)=(a:Int)-b:=aB _ (by omega);have d1:((1:Int)<(a:Int)-b)=True:=eq_true (by omega);have d3:((c:Int)<d)=False:=eq_false (by omega);have HG:=kq8 hg hA hB h ad hC hD hF;clear hg hA hB h ad hC hD hF hi hE al ha hb h1 h2 a3 a4 h3 h4 h5 an a0 a5 a6;go_enter func218,ntmps218;go_wp2_with fail;refine wx HG.a fun w1 hb1=>?_;have q:=heap_alloc_new w1 (Xa k0 k1 k2 k3 k4 k5 hh);have B1:=hb1.alloc hb1.size (Xa k0 k1 k2 k3 k4 k5 hh);have bf:=hb1.size;clear hb1;go_wp2_with fail;generalize w1.alloc (Xa k0 k1 k2 k3 k4 k5 hh)=W at*;have ql:=(gl q);generalize w1.heap.size=b1 at*;have a7:∀x:Fq (Below W.heap.size W),x.to.cell? ⟨b1,2,none⟩=some (Xu k2):=fun x=>by rw[cell_of_block ((x.ok.block _ ql).trans q)];rfl
 have a8:∀x:Fq (Below W.heap.size W),x.to.cell? ⟨b1,3,none⟩=some (Xu k3):=fun x=>by rw[cell_of_block ((x.ok.block _ ql).trans q)];rfl
 have hA:=fun x:Fq (Below W.heap.size W)=>Calls.keeps_below (HG.b x.to (B1.trans (x.ok.mono B1.size)));have hB:=fun x:Fq (Below W.heap.size W)=>Calls.keeps_below (HG.c x.to (B1.trans (x.ok.mono B1.size)));have HB:=kq2 B1 q;clear B1 q;refine iq (Below W.heap.size W) (by kernel_rfl) (by kernel_rfl) (ab _ _).drew (fun _=>?_)
 repeat (first | go_big_quiet_skip | (go_big_quiet_want;go_big_quiet_op;first | go_big_quiet_on | (apply Exists.intro;refine⟨fun x=>?_,?_⟩;(· first | with_reducible exact hA x | with_reducible exact hB x);go_big_quiet_on)))
 refine wpQuiet_nil ?_;rintro _ ⟨v,rfl⟩;clear hA hB a7 a8;have r2:=(v.ok.block b1 ql).trans HB.b;have HX:=kq2 (HB.a.trans (v.ok.mono HB.a.size)) r2;have bb:=v.ok.size;obtain⟨w2,a1⟩:=Ii v.to;rw[a1] at HX r2 bb⊢;clear a1 v HB;obtain⟨c0,c1,c2,c3,c4,c5,c6⟩:=gG r2;clear r2;go_wp2_with fail;clear c0 c1 c2 c3 c4 c5 c6;refine wx (HG.e _ HX.a) fun w3 hb3=>?_;have r3:=(hb3.block b1 (by omega)).trans HX.b;have B3:=HX.a.trans (hb3.mono HX.a.size);have q4:=heap_alloc_new w3 (Xa g0 g1 g2 g3 g4 g5 k2);have bj:=hb3.size;have r4:=(((ab w3.heap.size w3).alloc Ih (Xa g0 g1 g2 g3 g4 g5 k2)).block b1 (by omega)).trans r3;have B4:=B3.alloc B3.size (Xa g0 g1 g2 g3 g4 g5 k2);have bk:w.heap.size<=w3.heap.size:=B3.size;clear hb3 r3 B3;go_wp2_with fail;generalize w3.alloc (Xa g0 g1 g2 g3 g4 g5 k2)=W3 at*;exact qFgaa
theorem qFgab{P:Prop}(h:P:=by
 iterate 8
  refine' hC ?_ ?_;rotate_left
  ·intro x;go_simp
   try rfl
  simp only[pu]
 refine mo ?_;clear y0 y1 y2 y3 y4 y5 y6 z0 z1 z2 z3 z4 z5 z6;refine gF _ (by rfl) (by rfl) (fun K hK=>?_);go_simp;refine(HG.i _ _ (HZ.out.below (ab _ _).drew)).mono ?_;rintro e w6 ⟨rfl,h6,k6⟩;have u6:=(k6.block b1 (ae ⟨by omega,by omega⟩)).trans an.b;have v6:=(k6.block b2 (ae ⟨by omega,by omega⟩)).trans an.c;have H6:=kq4 h6 k6 u6 v6;clear h6 k6 u6 v6
 try go_simp
 refine hK.out _ _ (HI.out _ H6.c H6.d) ?_;clear hK K
 try simp only[pu]
 refine gF _ (by rfl) (by rfl) (fun K hK=>?_);go_simp;refine(HG.j _ _ H6.a).mono ?_;rintro e w7 ⟨rfl,h7,k7⟩;have u7:=(k7.block b1 (ae ⟨by omega,by omega⟩)).trans H6.c;have v7:=(k7.block b2 (ae ⟨by omega,by omega⟩)).trans H6.d;have H7:=kq4 h7 (H6.b.trans k7) u7 v7;clear h7 k7 u7 v7
 try go_simp
 refine hK.out _ _ (HI.out _ H7.c H7.d) ?_;clear hK K
 try simp only[pu]
 refine mp ?_;go_wp2_with fail;refine(HG.h _ _ H7.a).mono ?_;rintro e w8 ⟨rfl,h8,k8⟩;have H8:=kq2 h8 (H7.b.trans k8);clear h8 k8;go_wp2_with fail;go_ret;exact⟨rfl,H8.a.mono fun k hk=>aa hk,(Fo.of_below an.a.drew HG.d.yl).trans (H8.b.mono fun k hk=>aa hk)⟩):P:=h
theorem yP{S S':St}(h:Ig w ps S Y)(hi:Fv S)(hh:Nat)(hl:hh<2^64){a b:Nat}(ha:eE S (getNode S hh).1.left=some a)(hb:eE S (getNode S hh).1.right=some b){c d x y:Nat}{S1 S2:St}(h1:b+1<a)(h2:eE S (getNode S (getNode S hh).1.left).1.left=some c)(h3:eE S (getNode S (getNode S hh).1.left).1.right=some d)(h4:c<d)(h5:leftM S (getNode S hh).1.left=some (y,S1))(h6:fu S1 (getNode S hh).1 hh y (getNode S hh).1.right=some S2)(h7:rightM S2 hh=some (x,S')):
 Ct 218 #[PV ps,Xu hh] w fun e w'=>e=.returned (Xu x)/\Ig w' ps S' Y/\Fo Y w w':=by
 have hg:=gR h hi hh hl;have ad:=fs h hh;have ba:a<2^62:=by have:=num_some ha;omega
 have bb:b<2^62:=by have:=num_some hb;omega
 have hA:=fun W (hW:Below w.heap.size w W)=>fJ (h.below hW) hi (getNode S hh).1.left ad.left ha;have hB:=fun W (hW:Below w.heap.size w W)=>fJ (h.below hW) hi (getNode S hh).1.right ad.right hb;have a1:=fs h (getNode S hh).1.left;have ai:=fun W (hW:Below w.heap.size w W)=>gR (h.below hW) hi (getNode S hh).1.left ad.left;have bc:c<2^62:=by have:=num_some h2;omega
 have bd:d<2^62:=by have:=num_some h3;omega
 have hC:=fun W (hW:Below w.heap.size w W)=>fJ (h.below hW) hi (getNode S (getNode S hh).1.left).1.left a1.left h2;have hD:=fun W (hW:Below w.heap.size w W)=>fJ (h.below hW) hi (getNode S (getNode S hh).1.left).1.right a1.right h3;have a0:=ow hi h5;have a4:=gX a0 h6;have a8:=Cj h h5;have hM:=fun W Z (hW:Ig W ps S Z)=>pR hW hi (getNode S hh).1.left ad.left h5;have hN:=fun W Z (hW:Ig W ps S1 Z)=>jG hW a0 (getNode S hh).1 ad hh y (getNode S hh).1.right hl a8 ad.right h6;have hF:=fun W Z (hW:Ig W ps S2 Z)=>pS hW a4 hh hl h7;obtain⟨⟨⟨k0,k1,k2,k3,k4,k5⟩,er⟩,hE⟩:∃r,getNode S hh=r:=⟨_,rfl⟩;rw[hE] at hg hA hB ai hC hD hM hN;simp only at hg hA hB ai hC hD hM hN;obtain⟨⟨⟨g0,g1,g2,g3,g4,g5⟩,bu⟩,a3⟩:∃q,getNode S k2=q:=⟨_,rfl⟩;rw[a3] at ai hC hD;simp only[gP] at hg ai hC hD hN;have d0:IntKind.i64.wrap ((a:Int)-b)=(a:Int)-b:=aB _ (by omega);have d1:((1:Int)<(a:Int)-b)=True:=eq_true (by omega);have d3:((c:Int)<d)=True:=eq_true (by omega);have HG:=kq10 hg hA hB h ai hC hD hF hM hN;clear hg hA hB h ai hC hD hF hM hN hi hE ad ha hb h1 h2 ba bb h3 h4 h5 h6 h7 a1 a3 bc bd a0 a4 a8;go_enter func218,ntmps218;go_wp2_with fail;refine wx HG.a fun w1 hb1=>?_;have q:=heap_alloc_new w1 (Xa k0 k1 k2 k3 k4 k5 hh);have B1:=hb1.alloc hb1.size (Xa k0 k1 k2 k3 k4 k5 hh);have bv:=hb1.size;clear hb1;go_wp2_with fail;generalize w1.alloc (Xa k0 k1 k2 k3 k4 k5 hh)=W at*;have ql:=(gl q);generalize w1.heap.size=b1 at*;have bf:∀x:Fq (Below W.heap.size W),x.to.cell? ⟨b1,2,none⟩=some (Xu k2):=fun x=>by rw[cell_of_block ((x.ok.block _ ql).trans q)];rfl
 have bj:∀x:Fq (Below W.heap.size W),x.to.cell? ⟨b1,3,none⟩=some (Xu k3):=fun x=>by rw[cell_of_block ((x.ok.block _ ql).trans q)];rfl
 have hA:=fun x:Fq (Below W.heap.size W)=>Calls.keeps_below (HG.b x.to (B1.trans (x.ok.mono B1.size)));have hB:=fun x:Fq (Below W.heap.size W)=>Calls.keeps_below (HG.c x.to (B1.trans (x.ok.mono B1.size)));have HB:=kq2 B1 q;clear B1 q;refine iq (Below W.heap.size W) (by kernel_rfl) (by kernel_rfl) (ab _ _).drew (fun _=>?_)
 repeat (first | go_big_quiet_skip | (go_big_quiet_want;go_big_quiet_op;first | go_big_quiet_on | (apply Exists.intro;refine⟨fun x=>?_,?_⟩;(· first | with_reducible exact hA x | with_reducible exact hB x);go_big_quiet_on)))
 refine wpQuiet_nil ?_;rintro _ ⟨v,rfl⟩;clear hA hB bf bj;have r2:=(v.ok.block b1 ql).trans HB.b;have HX:=kq2 (HB.a.trans (v.ok.mono HB.a.size)) r2;have bs:=v.ok.size;obtain⟨w2,a5⟩:=Ii v.to;rw[a5] at HX r2 bs⊢;clear a5 v HB;obtain⟨c0,c1,c2,c3,c4,c5,c6⟩:=gG r2;clear r2;go_wp2_with fail;clear c0 c1 c2 c3 c4 c5 c6;refine wx (HG.e _ HX.a) fun w3 hb3=>?_;have r3:=(hb3.block b1 (by omega)).trans HX.b;have B3:=HX.a.trans (hb3.mono HX.a.size);have q4:=heap_alloc_new w3 (Xa g0 g1 g2 g3 g4 g5 k2);have b0:=hb3.size;have r4:=(((ab w3.heap.size w3).alloc Ih (Xa g0 g1 g2 g3 g4 g5 k2)).block b1 (by omega)).trans r3;have B4:=B3.alloc B3.size (Xa g0 g1 g2 g3 g4 g5 k2);have b4:w.heap.size<=w3.heap.size:=B3.size;clear hb3 r3 B3;go_wp2_with fail;generalize w3.alloc (Xa g0 g1 g2 g3 g4 g5 k2)=W3 at*;generalize w3.heap.size=b2 at*;have bo:=(gl r4);have a2:=(gl q4);have bk:∀x:Fq (Below W3.heap.size W3),x.to.cell? ⟨b2,2,none⟩=some (Xu g2):=fun x=>by rw[cell_of_block ((x.ok.block _ a2).trans q4)];rfl
 have bm:∀x:Fq (Below W3.heap.size W3),x.to.cell? ⟨b2,3,none⟩=some (Xu g3):=fun x=>by rw[cell_of_block ((x.ok.block _ a2).trans q4)];rfl
 have hC:=fun x:Fq (Below W3.heap.size W3)=>Calls.keeps_below (HG.f x.to (B4.trans (x.ok.mono B4.size)));have hD:=fun x:Fq (Below W3.heap.size W3)=>Calls.keeps_below (HG.g x.to (B4.trans (x.ok.mono B4.size)));have al:=kq3 B4 r4 q4;clear B4 r4 q4;refine iq (Below W3.heap.size W3) (by kernel_rfl) (by kernel_rfl) (ab _ _).drew (fun _=>?_)
 repeat (first | go_big_quiet_skip | (go_big_quiet_want;go_big_quiet_op;first | go_big_quiet_on | (apply Exists.intro;refine⟨fun x=>?_,?_⟩;(· first | with_reducible exact hC x | with_reducible exact hD x);go_big_quiet_on)))
 refine wpQuiet_nil ?_;rintro _ ⟨v,rfl⟩;clear hC hD bk bm;have r5:=(v.ok.block b1 bo).trans al.b;have q5:=(v.ok.block b2 a2).trans al.c;have B5:=al.a.trans (v.ok.mono al.a.size);have bt:=v.ok.size;obtain⟨w5,a6⟩:=Ii v.to;rw[a6] at r5 q5 B5 bt⊢;clear a6 v al;have an:=kq3 B5 r5 q5;have HZ:=If (HG.d.wide B5);clear B5;go_wp2_with fail;obtain⟨I,ar,au⟩:∃I:World->Prop,(∀w',I w'->w'.heap[b1]?=some (.cells #[Xu k0,Xu k1,Xu k2,Xu k3,Xu k4,Xu k5,Xu hh] 280 (0,0))/\w'.heap[b2]?=some (.cells #[Xu g0,Xu g1,Xu g2,Xu g3,Xu g4,Xu g5,Xu k2] 280 (0,0)))/\(∀w',w'.heap[b1]?=some (.cells #[Xu k0,Xu k1,Xu k2,Xu k3,Xu k4,Xu k5,Xu hh] 280 (0,0))->w'.heap[b2]?=some (.cells #[Xu g0,Xu g1,Xu g2,Xu g3,Xu g4,Xu g5,Xu k2] 280 (0,0))->I w'):=⟨fun w'=>w'.heap[b1]?=some (.cells #[Xu k0,Xu k1,Xu k2,Xu k3,Xu k4,Xu k5,Xu hh] 280 (0,0))/\w'.heap[b2]?=some (.cells #[Xu g0,Xu g1,Xu g2,Xu g3,Xu g4,Xu g5,Xu k2] 280 (0,0)),fun _ h=>h,fun _ a b=>⟨a,b⟩⟩;have a7:=fun x:Fq I=>(ar _ x.ok).1;have a9:=fun x:Fq I=>(ar _ x.ok).2;obtain⟨y0,y1,y2,y3,y4,y5,y6⟩:=iZ a7;obtain⟨z0,z1,z2,z3,z4,z5,z6⟩:=iZ a9;have HI:=If au;have a':I w5.drew:=au _ r5 q5;clear a7 a9 q5 r5 ar au;refine Jz I [0,1,2,3,4,6,7,8] [5,9] (by kernel_rfl) (by kernel_rfl) a' ?_;exact qFgab
theorem yS{S S':St}(h:Ig w ps S Y)(hi:Fv S)(hh:Nat)(hl:hh<2^64){a b:Nat}(ha:eE S (getNode S hh).1.left=some a)(hb:eE S (getNode S hh).1.right=some b){c d x:Nat}(h1:a+1<b)(h2:eE S (getNode S (getNode S hh).1.right).1.left=some c)(h3:eE S (getNode S (getNode S hh).1.right).1.right=some d)(h4:¬d<c)(h5:leftM S hh=some (x,S')):
 Ct 218 #[PV ps,Xu hh] w fun e w'=>e=.returned (Xu x)/\Ig w' ps S' Y/\Fo Y w w':=by
 have hg:=gR h hi hh hl;have al:=fs h hh;have a3:a<2^62:=by have:=num_some ha;omega
 have a4:b<2^62:=by have:=num_some hb;omega
 have hA:=fun W (hW:Below w.heap.size w W)=>fJ (h.below hW) hi (getNode S hh).1.left al.left ha;have hB:=fun W (hW:Below w.heap.size w W)=>fJ (h.below hW) hi (getNode S hh).1.right al.right hb;have an:=fs h (getNode S hh).1.right;have ad:=fun W (hW:Below w.heap.size w W)=>gR (h.below hW) hi (getNode S hh).1.right al.right;have a5:c<2^62:=by have:=num_some h2;omega
 have a6:d<2^62:=by have:=num_some h3;omega
 have hC:=fun W (hW:Below w.heap.size w W)=>fJ (h.below hW) hi (getNode S (getNode S hh).1.right).1.left an.left h2;have hD:=fun W (hW:Below w.heap.size w W)=>fJ (h.below hW) hi (getNode S (getNode S hh).1.right).1.right an.right h3;have hF:=fun W Z (hW:Ig W ps S Z)=>pR hW hi hh hl h5;obtain⟨⟨⟨k0,k1,k2,k3,k4,k5⟩,er⟩,hE⟩:∃r,getNode S hh=r:=⟨_,rfl⟩;rw[hE] at hg hA hB ad hC hD;simp only at hg hA hB ad hC hD;obtain⟨⟨⟨g0,g1,g2,g3,g4,g5⟩,bd⟩,a0⟩:∃q,getNode S k3=q:=⟨_,rfl⟩;rw[a0] at ad hC hD;simp only[gP] at hg ad hC hD;have d0:IntKind.i64.wrap ((a:Int)-b)=(a:Int)-b:=aB _ (by omega);have d1:((1:Int)<(a:Int)-b)=False:=eq_false (by omega);have d2:((a:Int)-b< -1)=True:=eq_true (by omega);have d3:((d:Int)<c)=False:=eq_false (by omega);have HG:=kq8 hg hA hB h ad hC hD hF;clear hg hA hB h ad hC hD hF hi hE al ha hb h1 h2 a3 a4 h3 h4 h5 an a0 a5 a6;go_enter func218,ntmps218;go_wp2_with fail;refine wx HG.a fun w1 hb1=>?_;have q:=heap_alloc_new w1 (Xa k0 k1 k2 k3 k4 k5 hh);have B1:=hb1.alloc hb1.size (Xa k0 k1 k2 k3 k4 k5 hh);have bf:=hb1.size;clear hb1;go_wp2_with fail;generalize w1.alloc (Xa k0 k1 k2 k3 k4 k5 hh)=W at*;have ql:=(gl q);generalize w1.heap.size=b1 at*;have a7:∀x:Fq (Below W.heap.size W),x.to.cell? ⟨b1,2,none⟩=some (Xu k2):=fun x=>by rw[cell_of_block ((x.ok.block _ ql).trans q)];rfl
 have a8:∀x:Fq (Below W.heap.size W),x.to.cell? ⟨b1,3,none⟩=some (Xu k3):=fun x=>by rw[cell_of_block ((x.ok.block _ ql).trans q)];rfl
 have hA:=fun x:Fq (Below W.heap.size W)=>Calls.keeps_below (HG.b x.to (B1.trans (x.ok.mono B1.size)));have hB:=fun x:Fq (Below W.heap.size W)=>Calls.keeps_below (HG.c x.to (B1.trans (x.ok.mono B1.size)));have HB:=kq2 B1 q;clear B1 q;refine iq (Below W.heap.size W) (by kernel_rfl) (by kernel_rfl) (ab _ _).drew (fun _=>?_)
 repeat (first | go_big_quiet_skip | (go_big_quiet_want;go_big_quiet_op;first | go_big_quiet_on | (apply Exists.intro;refine⟨fun x=>?_,?_⟩;(· first | with_reducible exact hA x | with_reducible exact hB x);go_big_quiet_on)))
 refine wpQuiet_nil ?_;rintro _ ⟨v,rfl⟩;clear hA hB a7 a8;have r2:=(v.ok.block b1 ql).trans HB.b;have HX:=kq2 (HB.a.trans (v.ok.mono HB.a.size)) r2;have bb:=v.ok.size;obtain⟨w2,a1⟩:=Ii v.to;rw[a1] at HX r2 bb⊢;clear a1 v HB;obtain⟨c0,c1,c2,c3,c4,c5,c6⟩:=gG r2;clear r2;go_wp2_with fail;clear c0 c1 c2 c3 c4 c5 c6;refine wx (HG.e _ HX.a) fun w3 hb3=>?_;have r3:=(hb3.block b1 (by omega)).trans HX.b;have B3:=HX.a.trans (hb3.mono HX.a.size);have q4:=heap_alloc_new w3 (Xa g0 g1 g2 g3 g4 g5 k3);have bj:=hb3.size;have r4:=(((ab w3.heap.size w3).alloc Ih (Xa g0 g1 g2 g3 g4 g5 k3)).block b1 (by omega)).trans r3;have B4:=B3.alloc B3.size (Xa g0 g1 g2 g3 g4 g5 k3);have bk:w.heap.size<=w3.heap.size:=B3.size;clear hb3 r3 B3;go_wp2_with fail;generalize w3.alloc (Xa g0 g1 g2 g3 g4 g5 k3)=W3 at*;exact qFgaa
theorem yR{S S':St}(h:Ig w ps S Y)(hi:Fv S)(hh:Nat)(hl:hh<2^64){a b:Nat}(ha:eE S (getNode S hh).1.left=some a)(hb:eE S (getNode S hh).1.right=some b){c d x y:Nat}{S1 S2:St}(h1:a+1<b)(h2:eE S (getNode S (getNode S hh).1.right).1.left=some c)(h3:eE S (getNode S (getNode S hh).1.right).1.right=some d)(h4:d<c)(h5:rightM S (getNode S hh).1.right=some (y,S1))(h6:fu S1 (getNode S hh).1 hh (getNode S hh).1.left y=some S2)(h7:leftM S2 hh=some (x,S')):
 Ct 218 #[PV ps,Xu hh] w fun e w'=>e=.returned (Xu x)/\Ig w' ps S' Y/\Fo Y w w':=by
 have hg:=gR h hi hh hl;have ad:=fs h hh;have ba:a<2^62:=by have:=num_some ha;omega
 have bb:b<2^62:=by have:=num_some hb;omega
 have hA:=fun W (hW:Below w.heap.size w W)=>fJ (h.below hW) hi (getNode S hh).1.left ad.left ha;have hB:=fun W (hW:Below w.heap.size w W)=>fJ (h.below hW) hi (getNode S hh).1.right ad.right hb;have a1:=fs h (getNode S hh).1.right;have ai:=fun W (hW:Below w.heap.size w W)=>gR (h.below hW) hi (getNode S hh).1.right ad.right;have bc:c<2^62:=by have:=num_some h2;omega
 have bd:d<2^62:=by have:=num_some h3;omega
 have hC:=fun W (hW:Below w.heap.size w W)=>fJ (h.below hW) hi (getNode S (getNode S hh).1.right).1.left a1.left h2;have hD:=fun W (hW:Below w.heap.size w W)=>fJ (h.below hW) hi (getNode S (getNode S hh).1.right).1.right a1.right h3;have a0:=oT hi h5;have a4:=gX a0 h6;have a8:=D9 h h5;have hM:=fun W Z (hW:Ig W ps S Z)=>pS hW hi (getNode S hh).1.right ad.right h5;have hN:=fun W Z (hW:Ig W ps S1 Z)=>jG hW a0 (getNode S hh).1 ad hh (getNode S hh).1.left y hl ad.left a8 h6;have hF:=fun W Z (hW:Ig W ps S2 Z)=>pR hW a4 hh hl h7;obtain⟨⟨⟨k0,k1,k2,k3,k4,k5⟩,er⟩,hE⟩:∃r,getNode S hh=r:=⟨_,rfl⟩;rw[hE] at hg hA hB ai hC hD hM hN;simp only at hg hA hB ai hC hD hM hN;obtain⟨⟨⟨g0,g1,g2,g3,g4,g5⟩,bu⟩,a3⟩:∃q,getNode S k3=q:=⟨_,rfl⟩;rw[a3] at ai hC hD;simp only[gP] at hg ai hC hD hN;have d0:IntKind.i64.wrap ((a:Int)-b)=(a:Int)-b:=aB _ (by omega);have d1:((1:Int)<(a:Int)-b)=False:=eq_false (by omega);have d2:((a:Int)-b< -1)=True:=eq_true (by omega);have d3:((d:Int)<c)=True:=eq_true (by omega);have HG:=kq10 hg hA hB h ai hC hD hF hM hN;clear hg hA hB h ai hC hD hF hM hN hi hE ad ha hb h1 h2 ba bb h3 h4 h5 h6 h7 a1 a3 bc bd a0 a4 a8;go_enter func218,ntmps218;go_wp2_with fail;refine wx HG.a fun w1 hb1=>?_;have q:=heap_alloc_new w1 (Xa k0 k1 k2 k3 k4 k5 hh);have B1:=hb1.alloc hb1.size (Xa k0 k1 k2 k3 k4 k5 hh);have bv:=hb1.size;clear hb1;go_wp2_with fail;generalize w1.alloc (Xa k0 k1 k2 k3 k4 k5 hh)=W at*;have ql:=(gl q);generalize w1.heap.size=b1 at*;have bf:∀x:Fq (Below W.heap.size W),x.to.cell? ⟨b1,2,none⟩=some (Xu k2):=fun x=>by rw[cell_of_block ((x.ok.block _ ql).trans q)];rfl
 have bj:∀x:Fq (Below W.heap.size W),x.to.cell? ⟨b1,3,none⟩=some (Xu k3):=fun x=>by rw[cell_of_block ((x.ok.block _ ql).trans q)];rfl
 have hA:=fun x:Fq (Below W.heap.size W)=>Calls.keeps_below (HG.b x.to (B1.trans (x.ok.mono B1.size)));have hB:=fun x:Fq (Below W.heap.size W)=>Calls.keeps_below (HG.c x.to (B1.trans (x.ok.mono B1.size)));have HB:=kq2 B1 q;clear B1 q;refine iq (Below W.heap.size W) (by kernel_rfl) (by kernel_rfl) (ab _ _).drew (fun _=>?_)
 repeat (first | go_big_quiet_skip | (go_big_quiet_want;go_big_quiet_op;first | go_big_quiet_on | (apply Exists.intro;refine⟨fun x=>?_,?_⟩;(· first | with_reducible exact hA x | with_reducible exact hB x);go_big_quiet_on)))
 refine wpQuiet_nil ?_;rintro _ ⟨v,rfl⟩;clear hA hB bf bj;have r2:=(v.ok.block b1 ql).trans HB.b;have HX:=kq2 (HB.a.trans (v.ok.mono HB.a.size)) r2;have bs:=v.ok.size;obtain⟨w2,a5⟩:=Ii v.to;rw[a5] at HX r2 bs⊢;clear a5 v HB;obtain⟨c0,c1,c2,c3,c4,c5,c6⟩:=gG r2;clear r2;go_wp2_with fail;clear c0 c1 c2 c3 c4 c5 c6;refine wx (HG.e _ HX.a) fun w3 hb3=>?_;have r3:=(hb3.block b1 (by omega)).trans HX.b;have B3:=HX.a.trans (hb3.mono HX.a.size);have q4:=heap_alloc_new w3 (Xa g0 g1 g2 g3 g4 g5 k3);have b0:=hb3.size;have r4:=(((ab w3.heap.size w3).alloc Ih (Xa g0 g1 g2 g3 g4 g5 k3)).block b1 (by omega)).trans r3;have B4:=B3.alloc B3.size (Xa g0 g1 g2 g3 g4 g5 k3);have b4:w.heap.size<=w3.heap.size:=B3.size;clear hb3 r3 B3;go_wp2_with fail;generalize w3.alloc (Xa g0 g1 g2 g3 g4 g5 k3)=W3 at*;generalize w3.heap.size=b2 at*;have bo:=(gl r4);have a2:=(gl q4);have bk:∀x:Fq (Below W3.heap.size W3),x.to.cell? ⟨b2,2,none⟩=some (Xu g2):=fun x=>by rw[cell_of_block ((x.ok.block _ a2).trans q4)];rfl
 have bm:∀x:Fq (Below W3.heap.size W3),x.to.cell? ⟨b2,3,none⟩=some (Xu g3):=fun x=>by rw[cell_of_block ((x.ok.block _ a2).trans q4)];rfl
 have hC:=fun x:Fq (Below W3.heap.size W3)=>Calls.keeps_below (HG.f x.to (B4.trans (x.ok.mono B4.size)));have hD:=fun x:Fq (Below W3.heap.size W3)=>Calls.keeps_below (HG.g x.to (B4.trans (x.ok.mono B4.size)));have al:=kq3 B4 r4 q4;clear B4 r4 q4;refine iq (Below W3.heap.size W3) (by kernel_rfl) (by kernel_rfl) (ab _ _).drew (fun _=>?_)
 repeat (first | go_big_quiet_skip | (go_big_quiet_want;go_big_quiet_op;first | go_big_quiet_on | (apply Exists.intro;refine⟨fun x=>?_,?_⟩;(· first | with_reducible exact hC x | with_reducible exact hD x);go_big_quiet_on)))
 refine wpQuiet_nil ?_;rintro _ ⟨v,rfl⟩;clear hC hD bk bm;have r5:=(v.ok.block b1 bo).trans al.b;have q5:=(v.ok.block b2 a2).trans al.c;have B5:=al.a.trans (v.ok.mono al.a.size);have bt:=v.ok.size;obtain⟨w5,a6⟩:=Ii v.to;rw[a6] at r5 q5 B5 bt⊢;clear a6 v al;have an:=kq3 B5 r5 q5;have HZ:=If (HG.d.wide B5);clear B5;go_wp2_with fail;obtain⟨I,ar,au⟩:∃I:World->Prop,(∀w',I w'->w'.heap[b1]?=some (.cells #[Xu k0,Xu k1,Xu k2,Xu k3,Xu k4,Xu k5,Xu hh] 280 (0,0))/\w'.heap[b2]?=some (.cells #[Xu g0,Xu g1,Xu g2,Xu g3,Xu g4,Xu g5,Xu k3] 280 (0,0)))/\(∀w',w'.heap[b1]?=some (.cells #[Xu k0,Xu k1,Xu k2,Xu k3,Xu k4,Xu k5,Xu hh] 280 (0,0))->w'.heap[b2]?=some (.cells #[Xu g0,Xu g1,Xu g2,Xu g3,Xu g4,Xu g5,Xu k3] 280 (0,0))->I w'):=⟨fun w'=>w'.heap[b1]?=some (.cells #[Xu k0,Xu k1,Xu k2,Xu k3,Xu k4,Xu k5,Xu hh] 280 (0,0))/\w'.heap[b2]?=some (.cells #[Xu g0,Xu g1,Xu g2,Xu g3,Xu g4,Xu g5,Xu k3] 280 (0,0)),fun _ h=>h,fun _ a b=>⟨a,b⟩⟩;have a7:=fun x:Fq I=>(ar _ x.ok).1;have a9:=fun x:Fq I=>(ar _ x.ok).2;obtain⟨y0,y1,y2,y3,y4,y5,y6⟩:=iZ a7;obtain⟨z0,z1,z2,z3,z4,z5,z6⟩:=iZ a9;have HI:=If au;have a':I w5.drew:=au _ r5 q5;clear a7 a9 q5 r5 ar au;refine Jz I [0,1,2,3,4,5,6,7] [8,9] (by kernel_rfl) (by kernel_rfl) a' ?_;exact qFgab
theorem tH{S S':St}{hh x:Nat}(hi:Fv S)(h:balM S hh=some (x,S')):Fv S':=by
 obtain⟨a,b,-,-,D⟩:=tI h
 cases D with
 | none _ _ _ h4=>rw[h4];exact hi
 | ll c d _ _ _ _ h5=>exact oT hi h5
 | lr c d y S1 S2 _ _ _ _ h5 h6 h7=>exact oT (gX (ow hi h5) h6) h7
 | rr c d _ _ _ _ _ h5=>exact ow hi h5
 | rl c d y S1 S2 _ _ _ _ _ h5 h6 h7=>exact ow (gX (oT hi h5) h6) h7
theorem tG{S S':St}(h:Ig w ps S Y)(hi:Fv S)(hh:Nat)(hl:hh<2^64)(hR:balM S hh=some (x,S')):
 Ct 218 #[PV ps,Xu hh] w fun e w'=>e=.returned (Xu x)/\Ig w' ps S' Y/\Fo Y w w':=by
 obtain⟨a,b,ha,hb,D⟩:=tI hR
 cases D with
 | none h1 h2 h3 h4=>subst h3 h4;exact yQ h hi x hl ha hb h1 h2
 | ll c d h1 h2 h3 h4 h5=>exact yO h hi hh hl ha hb h1 h2 h3 h4 h5
 | lr c d y S1 S2 h1 h2 h3 h4 h5 h6 h7=>exact yP h hi hh hl ha hb h1 h2 h3 h4 h5 h6 h7
 | rr c d _ h1 h2 h3 h4 h5=>exact yS h hi hh hl ha hb h1 h2 h3 h4 h5
 | rl c d y S1 S2 _ h1 h2 h3 h4 h5 h6 h7=>exact yR h hi hh hl ha hb h1 h2 h3 h4 h5 h6 h7