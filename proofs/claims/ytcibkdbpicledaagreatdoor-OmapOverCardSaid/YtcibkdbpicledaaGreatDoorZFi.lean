/- Trees balanced by their heights: join, Join, with all turns: the walks. -/
import Derived.Test.YtcibkdbpicledaaGreatDoorZFq
set_option maxRecDepth 100000
set_option maxHeartbeats 6400000
namespace Go.Proofs.YtcibkdbpicledaaGreatDoor
open Go.RowKit Tryz Go.BigFrame Go.Maps Go.WideMaps Lf
variable{R:Nat×Nat}{ps:Nat}
theorem lT(n:Nd){m:Nat}:∀(f:Nat) {S S':St} {l r x:Nat},Fv S->joinB n m f S l r=some (x,S')->Fv S'/\(m<2^64->x<2^64)
 | 0,S,S',l,r,x,hi,hj=>by
  rw[qY] at hj;obtain⟨S1,h1,h2⟩:=aB.1 hj;injection h2 with e1 e2
  subst e1 e2;exact⟨gX hi h1,id⟩
 | f+1,S,S',l,r,x,hi,hj=>by
  rw[qX] at hj;split at hj
  ·split at hj
   ·split at hj
    ·cases hj
    ·rename_i x1 S1 h1;split at hj
     ·cases hj
     ·rename_i S2 h2;obtain⟨hb,hx⟩:=lM hj;exact⟨tH (gX (lT n f hi h1).1 h2) hb,fun _=>hx⟩
   ·split at hj
    ·split at hj
     ·cases hj
     ·rename_i x1 S1 h1;split at hj
      ·cases hj
      ·rename_i S2 h2;obtain⟨hb,hx⟩:=lM hj;exact⟨tH (gX (lT n f hi h1).1 h2) hb,fun _=>hx⟩
    ·obtain⟨S1,h1,h2⟩:=aB.1 hj;injection h2 with e1 e2
     subst e1 e2;exact⟨gX hi h1,id⟩
  ·cases hj
theorem yU(n:Nd)(hn:ji n)(m:Nat)(hm:m<2^64):∀(f d:Nat),d+f=100->∀{w:World} {S S':St} {Y:Nat->Prop} {l r x:Nat},Ig w ps S Y->Fv S->l<2^64->r<2^64->
 joinB n m f S l r=some (x,S')->
 Ct 219 #[PV ps,.int .u64 l,.int .u64 r,gP n m,.int .i64 d] w fun e w'=>e=.returned (.int .u64 x)/\Ig w' ps S' Y/\Fo Y w w':=by
 intro f;induction f with
 | zero=>
  intro d hd w S S' Y l r x h hi hl hr hj;obtain rfl:d=100:=by omega
  rw[qY] at hj;obtain⟨S1,h1,h2⟩:=aB.1 hj;injection h2 with e1 e2
  subst e1 e2;obtain⟨a,b,-,-,ha,hb,-,-,-⟩:=Ht h1;have hA:=fun W (hW:Below w.heap.size w W)=>fJ (h.below hW) hi l hl ha;have hB:=fun W (hW:Below w.heap.size w W)=>fJ (h.below hW) hi r hr hb;have hW:=fun W Z (hW:Ig W ps S Z)=>jG hW hi n hn m l r hm hl hr h1;obtain⟨k0,k1,k2,k3,k4,k5⟩:=n;simp only[gP] at hW⊢;have q0:=heap_alloc_new w (.cells #[.int .u64 k0,.int .u64 k1,.int .u64 k2,.int .u64 k3,.int .u64 k4,.int .u64 k5,.int .u64 m] 319);have B0:=(aa w.heap.size w).alloc Ih (.cells #[.int .u64 k0,.int .u64 k1,.int .u64 k2,.int .u64 k3,.int .u64 k4,.int .u64 k5,.int .u64 m] 319);have HG:=kq6 hA hB hW h q0 B0;clear hA hB hW h hi hj h1 ha hb q0 B0 hd hn;go_enter func219,ntmps219;go_wp2_with fail;refine(HG.a _ HG.f).mono ?_;rintro e w1 ⟨rfl,ad⟩;have H1:=kq2 (HG.f.trans (ad.mono HG.f.size)) ((ad.block w.heap.size (by simp)).trans HG.e);clear ad;go_wp2_with fail;refine(HG.b _ H1.a).mono ?_;rintro e w2 ⟨rfl,ai⟩;have r2:=(ai.block w.heap.size (gl H1.b)).trans H1.b;obtain⟨c0,c1,c2,c3,c4,c5,c6⟩:=gG r2;have H2:=If (H1.a.trans (ai.mono H1.a.size));clear ai r2;go_wp2_with fail;refine(HG.c _ _ (HG.d.below H2.out)).mono ?_;rintro e w3 ⟨rfl,h3,a9⟩;have H3:=kq2 h3 ((Fo.of_below H2.out HG.d.yl).trans a9);clear h3 a9;go_wp2_with fail;go_ret;exact⟨rfl,H3.out⟩
 | succ f ih=>
  intro d hd w S S' Y l r x h hi hl hr hj;rw[qX] at hj;split at hj
  case h_2=>cases hj
  rename_i a b ha hb;have bf:a<2^62:=by have:=num_some ha;omega
  have bj:b<2^62:=by have:=num_some hb;omega
  have hA:=fun W (hW:Below w.heap.size w W)=>fJ (h.below hW) hi l hl ha;have hB:=fun W (hW:Below w.heap.size w W)=>fJ (h.below hW) hi r hr hb;have bk:((d:Int)==100)=false:=by simp;omega
  split at hj
  ·rename_i hba;have bb:((b:Int)+1<a)=True:=eq_true (by omega);split at hj
   ·cases hj
   rename_i x1 S1 hj1;split at hj
   ·cases hj
   rename_i S2 hj2;obtain⟨hj,ba⟩:=lM hj;obtain⟨a2,an⟩:=lT n f hi hj1;have an:=an hm;have a5:=gX a2 hj2;have al:=fs h l;have hg:=fun W (hW:Below w.heap.size w W)=>gR (h.below hW) hi l hl;have cr:=fun W Z (hW:Ig W ps S Z)=>ih (d+1) (by omega) hW hi al.right hr hj1;have cw:=fun W Z (hW:Ig W ps S1 Z)=>jG hW a2 (getNode S l).1 al l (getNode S l).1.left x1 hl al.left an hj2;have cb:=fun W Z (hW:Ig W ps S2 Z)=>tG hW a5 _ hl hj;obtain⟨⟨⟨g0,g1,g2,g3,g4,g5⟩,er⟩,hE⟩:∃r,getNode S l=r:=⟨_,rfl⟩;rw[hE] at hg cr cw;obtain⟨k0,k1,k2,k3,k4,k5⟩:=n;simp only[gP] at hg cr cw⊢;have bc:IntKind.i64.wrap ((d:Int)+1)=(d:Int)+1:=aD _ (by omega);have q0:=heap_alloc_new w (.cells #[.int .u64 k0,.int .u64 k1,.int .u64 k2,.int .u64 k3,.int .u64 k4,.int .u64 k5,.int .u64 m] 319);have B0:=(aa w.heap.size w).alloc Ih (.cells #[.int .u64 k0,.int .u64 k1,.int .u64 k2,.int .u64 k3,.int .u64 k4,.int .u64 k5,.int .u64 m] 319);have HG:=kq9 hA hB hg h q0 B0 cr cw cb;clear hA hB hg cr cw cb h hi a2 a5 hj hj1 hj2 ha hb q0 B0 ih hn al ba an hE;go_enter func219,ntmps219;go_wp2_with fail;refine(HG.a _ HG.f).mono ?_;rintro e w1 ⟨rfl,ad⟩;have H1:=kq2 (HG.f.trans (ad.mono HG.f.size)) ((ad.block w.heap.size (by simp)).trans HG.e);clear ad;go_wp2_with fail;refine(HG.b _ H1.a).mono ?_;rintro e w2 ⟨rfl,ai⟩;have H2:=kq2 (H1.a.trans (ai.mono H1.a.size)) ((ai.block w.heap.size (gl H1.b)).trans H1.b);clear ai;go_wp2_with fail;refine(HG.c _ H2.a).mono ?_;rintro e w3 ⟨rfl,a1⟩;have r3:=(a1.block w.heap.size (gl H2.b)).trans H2.b;have B3:=H2.a.trans (a1.mono H2.a.size);have q4:=heap_alloc_new w3 (.cells #[.int .u64 g0,.int .u64 g1,.int .u64 g2,.int .u64 g3,.int .u64 g4,.int .u64 g5,.int .u64 l] 319);have r4:=(((aa w3.heap.size w3).alloc Ih (.cells #[.int .u64 g0,.int .u64 g1,.int .u64 g2,.int .u64 g3,.int .u64 g4,.int .u64 g5,.int .u64 l] 319)).block w.heap.size (gl r3)).trans r3;have B4:=B3.alloc B3.size (.cells #[.int .u64 g0,.int .u64 g1,.int .u64 g2,.int .u64 g3,.int .u64 g4,.int .u64 g5,.int .u64 l] 319);clear a1 r3;have a6:=B3.size;go_wp2_with fail;generalize w3.alloc (.cells #[.int .u64 g0,.int .u64 g1,.int .u64 g2,.int .u64 g3,.int .u64 g4,.int .u64 g5,.int .u64 l] 319)=W at*;generalize w3.heap.size=b13 at*;have a4:=(gl r4);have a3:=(gl q4);have zw:=HG.d.wide B4;have HZ:=kq5 zw r4 q4 B4 a6;obtain⟨I,au,a0⟩:∃I:World->Prop,(∀w',I w'->w'.heap[w.heap.size]?=some (.cells #[.int .u64 k0,.int .u64 k1,.int .u64 k2,.int .u64 k3,.int .u64 k4,.int .u64 k5,.int .u64 m] 319)/\w'.heap[b13]?=some (.cells #[.int .u64 g0,.int .u64 g1,.int .u64 g2,.int .u64 g3,.int .u64 g4,.int .u64 g5,.int .u64 l] 319))/\(∀w',w'.heap[w.heap.size]?=some (.cells #[.int .u64 k0,.int .u64 k1,.int .u64 k2,.int .u64 k3,.int .u64 k4,.int .u64 k5,.int .u64 m] 319)->w'.heap[b13]?=some (.cells #[.int .u64 g0,.int .u64 g1,.int .u64 g2,.int .u64 g3,.int .u64 g4,.int .u64 g5,.int .u64 l] 319)->I w'):=⟨fun w'=>w'.heap[w.heap.size]?=some (.cells #[.int .u64 k0,.int .u64 k1,.int .u64 k2,.int .u64 k3,.int .u64 k4,.int .u64 k5,.int .u64 m] 319)/\w'.heap[b13]?=some (.cells #[.int .u64 g0,.int .u64 g1,.int .u64 g2,.int .u64 g3,.int .u64 g4,.int .u64 g5,.int .u64 l] 319),fun _ h=>h,fun _ a b=>⟨a,b⟩⟩;have a7:=fun x:Fq I=>(au _ x.ok).1;have a8:=fun x:Fq I=>(au _ x.ok).2;obtain⟨y0,y1,y2,y3,y4,y5,y6⟩:=iZ a7;obtain⟨z0,z1,z2,z3,z4,z5,z6⟩:=iZ a8;have HI:=If a0;have a':I W.drew:=a0 _ r4 q4;clear a7 a8 q4 r4 zw B4 a6 au a0;refine mq I [0,1,2,3,4,5,6,7,8,9,10,11,12,13] [14,15,16,17] (by kernel_rfl) (by kernel_rfl) a' ?_;iterate 14
    refine' hC ?_ ?_;rotate_left
    ·intro x;go_simp;try rfl
    simp only[pu]
   refine mo ?_;clear y0 y1 y2 y3 y4 y5 y6 z0 z1 z2 z3 z4 z5 z6;refine gF _ (by rfl) (by rfl) (fun K hK=>?_);go_simp;refine(HG.g _ _ (HZ.a.below (aa _ _).drew)).mono ?_;rintro e w5 ⟨rfl,h5,ao⟩;have u5:w5.heap[w.heap.size]?=_:=(ao.block _ (ae ⟨Nat.le_refl _,a4⟩)).trans HZ.b;have v5:w5.heap[b13]?=_:=(ao.block _ (ae ⟨HZ.e,a3⟩)).trans HZ.c;have H5:=kq4 h5 ao u5 v5;clear h5 ao u5 v5;try go_simp
   refine hK.out _ _ (HI.out _ H5.c H5.d) ?_;clear hK K;try simp only[pu]
   refine gF _ (by rfl) (by rfl) (fun K hK=>?_);go_simp;refine(HG.h _ _ H5.a).mono ?_;rintro e w6 ⟨rfl,h6,ap⟩;have u6:w6.heap[w.heap.size]?=_:=(ap.block _ (ae ⟨Nat.le_refl _,a4⟩)).trans H5.c;have v6:w6.heap[b13]?=_:=(ap.block _ (ae ⟨HZ.e,a3⟩)).trans H5.d;have H6:=kq4 h6 (H5.b.trans ap) u6 v6;clear h6 ap u6 v6;try go_simp
   refine hK.out _ _ (HI.out _ H6.c H6.d) ?_;clear hK K;try simp only[pu]
   refine gF _ (by rfl) (by rfl) (fun K hK=>?_);go_simp;refine(HG.i _ _ H6.a).mono ?_;rintro e w7 ⟨rfl,h7,ar⟩;have u7:w7.heap[w.heap.size]?=_:=(ar.block _ (ae ⟨Nat.le_refl _,a4⟩)).trans H6.c;have v7:w7.heap[b13]?=_:=(ar.block _ (ae ⟨HZ.e,a3⟩)).trans H6.d;have H7:=kq4 h7 (H6.b.trans ar) u7 v7;clear h7 ar u7 v7;try go_simp
   refine hK.out _ _ (HI.out _ H7.c H7.d) ?_;clear hK K;try simp only[pu]
   refine gF _ (by rfl) (by rfl) (fun K hK=>?_);try go_simp
   refine hK.out _ _ (HI.out _ H7.c H7.d) ?_;clear hK K;try simp only[pu]
   refine mp ?_;go_wp2_with fail;go_ret;exact⟨rfl,H7.a.mono fun k hk=>ab hk,(Fo.of_below HZ.d.drew HG.d.yl).trans (H7.b.mono fun k hk=>ab hk)⟩
  ·split at hj
   ·rename_i hab;have bb:((b:Int)+1<a)=False:=eq_false (by omega);have bd:((a:Int)+1<b)=True:=eq_true (by omega);split at hj
    ·cases hj
    rename_i x1 S1 hj1;split at hj
    ·cases hj
    rename_i S2 hj2;obtain⟨hj,ba⟩:=lM hj;obtain⟨a2,an⟩:=lT n f hi hj1;have an:=an hm;have a5:=gX a2 hj2;have al:=fs h r;have hg:=fun W (hW:Below w.heap.size w W)=>gR (h.below hW) hi r hr;have cr:=fun W Z (hW:Ig W ps S Z)=>ih (d+1) (by omega) hW hi hl al.left hj1;have cw:=fun W Z (hW:Ig W ps S1 Z)=>jG hW a2 (getNode S r).1 al r x1 (getNode S r).1.right hr an al.right hj2;have cb:=fun W Z (hW:Ig W ps S2 Z)=>tG hW a5 _ hr hj;obtain⟨⟨⟨g0,g1,g2,g3,g4,g5⟩,er⟩,hE⟩:∃q,getNode S r=q:=⟨_,rfl⟩;rw[hE] at hg cr cw;obtain⟨k0,k1,k2,k3,k4,k5⟩:=n;simp only[gP] at hg cr cw⊢;have bc:IntKind.i64.wrap ((d:Int)+1)=(d:Int)+1:=aD _ (by omega);have q0:=heap_alloc_new w (.cells #[.int .u64 k0,.int .u64 k1,.int .u64 k2,.int .u64 k3,.int .u64 k4,.int .u64 k5,.int .u64 m] 319);have B0:=(aa w.heap.size w).alloc Ih (.cells #[.int .u64 k0,.int .u64 k1,.int .u64 k2,.int .u64 k3,.int .u64 k4,.int .u64 k5,.int .u64 m] 319);have HG:=kq9 hA hB hg h q0 B0 cr cw cb;clear hA hB hg cr cw cb h hi a2 a5 hj hj1 hj2 ha hb q0 B0 ih hn al ba an hE;go_enter func219,ntmps219;go_wp2_with fail;refine(HG.a _ HG.f).mono ?_;rintro e w1 ⟨rfl,ad⟩;have H1:=kq2 (HG.f.trans (ad.mono HG.f.size)) ((ad.block w.heap.size (by simp)).trans HG.e);clear ad;go_wp2_with fail;refine(HG.b _ H1.a).mono ?_;rintro e w2 ⟨rfl,ai⟩;have H2:=kq2 (H1.a.trans (ai.mono H1.a.size)) ((ai.block w.heap.size (gl H1.b)).trans H1.b);clear ai;go_wp2_with fail;refine(HG.c _ H2.a).mono ?_;rintro e w3 ⟨rfl,a1⟩;have r3:=(a1.block w.heap.size (gl H2.b)).trans H2.b;have B3:=H2.a.trans (a1.mono H2.a.size);have q4:=heap_alloc_new w3 (.cells #[.int .u64 g0,.int .u64 g1,.int .u64 g2,.int .u64 g3,.int .u64 g4,.int .u64 g5,.int .u64 r] 319);have r4:=(((aa w3.heap.size w3).alloc Ih (.cells #[.int .u64 g0,.int .u64 g1,.int .u64 g2,.int .u64 g3,.int .u64 g4,.int .u64 g5,.int .u64 r] 319)).block w.heap.size (gl r3)).trans r3;have B4:=B3.alloc B3.size (.cells #[.int .u64 g0,.int .u64 g1,.int .u64 g2,.int .u64 g3,.int .u64 g4,.int .u64 g5,.int .u64 r] 319);clear a1 r3;have a6:=B3.size;go_wp2_with fail;generalize w3.alloc (.cells #[.int .u64 g0,.int .u64 g1,.int .u64 g2,.int .u64 g3,.int .u64 g4,.int .u64 g5,.int .u64 r] 319)=W at*;generalize w3.heap.size=b13 at*;have a4:=(gl r4);have a3:=(gl q4);have zw:=HG.d.wide B4;have HZ:=kq5 zw r4 q4 B4 a6;obtain⟨I,au,a0⟩:∃I:World->Prop,(∀w',I w'->w'.heap[w.heap.size]?=some (.cells #[.int .u64 k0,.int .u64 k1,.int .u64 k2,.int .u64 k3,.int .u64 k4,.int .u64 k5,.int .u64 m] 319)/\w'.heap[b13]?=some (.cells #[.int .u64 g0,.int .u64 g1,.int .u64 g2,.int .u64 g3,.int .u64 g4,.int .u64 g5,.int .u64 r] 319))/\(∀w',w'.heap[w.heap.size]?=some (.cells #[.int .u64 k0,.int .u64 k1,.int .u64 k2,.int .u64 k3,.int .u64 k4,.int .u64 k5,.int .u64 m] 319)->w'.heap[b13]?=some (.cells #[.int .u64 g0,.int .u64 g1,.int .u64 g2,.int .u64 g3,.int .u64 g4,.int .u64 g5,.int .u64 r] 319)->I w'):=⟨fun w'=>w'.heap[w.heap.size]?=some (.cells #[.int .u64 k0,.int .u64 k1,.int .u64 k2,.int .u64 k3,.int .u64 k4,.int .u64 k5,.int .u64 m] 319)/\w'.heap[b13]?=some (.cells #[.int .u64 g0,.int .u64 g1,.int .u64 g2,.int .u64 g3,.int .u64 g4,.int .u64 g5,.int .u64 r] 319),fun _ h=>h,fun _ a b=>⟨a,b⟩⟩;have a7:=fun x:Fq I=>(au _ x.ok).1;have a8:=fun x:Fq I=>(au _ x.ok).2;obtain⟨y0,y1,y2,y3,y4,y5,y6⟩:=iZ a7;obtain⟨z0,z1,z2,z3,z4,z5,z6⟩:=iZ a8;have HI:=If a0;have a':I W.drew:=a0 _ r4 q4;clear a7 a8 q4 r4 zw B4 a6 au a0;refine mq I [0,1,2,3,4,5,6,7,8,9,10,12,13,14] [11,15,16,17] (by kernel_rfl) (by kernel_rfl) a' ?_;iterate 14
     refine' hC ?_ ?_;rotate_left
     ·intro x;go_simp;try rfl
     simp only[pu]
    refine mo ?_;clear y0 y1 y2 y3 y4 y5 y6 z0 z1 z2 z3 z4 z5 z6;refine gF _ (by rfl) (by rfl) (fun K hK=>?_);go_simp;refine(HG.g _ _ (HZ.a.below (aa _ _).drew)).mono ?_;rintro e w5 ⟨rfl,h5,ao⟩;have u5:w5.heap[w.heap.size]?=_:=(ao.block _ (ae ⟨Nat.le_refl _,a4⟩)).trans HZ.b;have v5:w5.heap[b13]?=_:=(ao.block _ (ae ⟨HZ.e,a3⟩)).trans HZ.c;have H5:=kq4 h5 ao u5 v5;clear h5 ao u5 v5;try go_simp
    refine hK.out _ _ (HI.out _ H5.c H5.d) ?_;clear hK K;try simp only[pu]
    refine gF _ (by rfl) (by rfl) (fun K hK=>?_);go_simp;refine(HG.h _ _ H5.a).mono ?_;rintro e w6 ⟨rfl,h6,ap⟩;have u6:w6.heap[w.heap.size]?=_:=(ap.block _ (ae ⟨Nat.le_refl _,a4⟩)).trans H5.c;have v6:w6.heap[b13]?=_:=(ap.block _ (ae ⟨HZ.e,a3⟩)).trans H5.d;have H6:=kq4 h6 (H5.b.trans ap) u6 v6;clear h6 ap u6 v6;try go_simp
    refine hK.out _ _ (HI.out _ H6.c H6.d) ?_;clear hK K;try simp only[pu]
    refine gF _ (by rfl) (by rfl) (fun K hK=>?_);go_simp;refine(HG.i _ _ H6.a).mono ?_;rintro e w7 ⟨rfl,h7,ar⟩;have u7:w7.heap[w.heap.size]?=_:=(ar.block _ (ae ⟨Nat.le_refl _,a4⟩)).trans H6.c;have v7:w7.heap[b13]?=_:=(ar.block _ (ae ⟨HZ.e,a3⟩)).trans H6.d;have H7:=kq4 h7 (H6.b.trans ar) u7 v7;clear h7 ar u7 v7;try go_simp
    refine hK.out _ _ (HI.out _ H7.c H7.d) ?_;clear hK K;try simp only[pu]
    refine gF _ (by rfl) (by rfl) (fun K hK=>?_);try go_simp
    refine hK.out _ _ (HI.out _ H7.c H7.d) ?_;clear hK K;try simp only[pu]
    refine mp ?_;go_wp2_with fail;go_ret;exact⟨rfl,H7.a.mono fun k hk=>ab hk,(Fo.of_below HZ.d.drew HG.d.yl).trans (H7.b.mono fun k hk=>ab hk)⟩
   ·rename_i hba hab;have bb:((b:Int)+1<a)=False:=eq_false (by omega);have bd:((a:Int)+1<b)=False:=eq_false (by omega);obtain⟨S1,h1,h2⟩:=aB.1 hj;injection h2 with e1 e2
    subst e1 e2;have hW:=fun W Z (hW:Ig W ps S Z)=>jG hW hi n hn m l r hm hl hr h1;obtain⟨k0,k1,k2,k3,k4,k5⟩:=n;simp only[gP] at hW⊢;have q0:=heap_alloc_new w (.cells #[.int .u64 k0,.int .u64 k1,.int .u64 k2,.int .u64 k3,.int .u64 k4,.int .u64 k5,.int .u64 m] 319);have B0:=(aa w.heap.size w).alloc Ih (.cells #[.int .u64 k0,.int .u64 k1,.int .u64 k2,.int .u64 k3,.int .u64 k4,.int .u64 k5,.int .u64 m] 319);have HG:=kq6 hA hB hW h q0 B0;clear hA hB hW h hi hj h1 ha hb q0 B0 hn ih;go_enter func219,ntmps219;go_wp2_with fail;refine(HG.a _ HG.f).mono ?_;rintro e w1 ⟨rfl,ad⟩;have H1:=kq2 (HG.f.trans (ad.mono HG.f.size)) ((ad.block w.heap.size (by simp)).trans HG.e);clear ad;go_wp2_with fail;refine(HG.b _ H1.a).mono ?_;rintro e w2 ⟨rfl,ai⟩;have r2:=(ai.block w.heap.size (gl H1.b)).trans H1.b;obtain⟨c0,c1,c2,c3,c4,c5,c6⟩:=gG r2;have H2:=If (H1.a.trans (ai.mono H1.a.size));clear ai r2;go_wp2_with fail;refine(HG.c _ _ (HG.d.below H2.out)).mono ?_;rintro e w3 ⟨rfl,h3,a9⟩;have H3:=kq2 h3 ((Fo.of_below H2.out HG.d.yl).trans a9);clear h3 a9;go_wp2_with fail;go_ret;exact⟨rfl,H3.out⟩
theorem nL{S S':St}{l m r:Nat}(h:avlJ S l m r=some (R,S')):
 m≠0/\isT S l=true/\isT S m=true/\isT S r=true/\joinB (getNode S m).1 m 100 S l r=some (R.1,S')/\R.2=0:=by
 unfold avlJ at h
 split at h
 ·cases h
 ·rename_i hc;obtain⟨⟨x,S1⟩,h1,h2⟩:=aB.1 h
  injection h2 with e1 e2
  subst e1 e2;simp only[not_or,Bool.not_eq_false] at hc;exact⟨hc.1,hc.2.1,hc.2.2.1,hc.2.2.2,h1,rfl⟩
theorem yM{w:World}{S S':St}{Y:Nat->Prop}(h:Ig w ps S Y)(hi:Fv S)(l m r:Nat)(hl:l<2^64)(hm:m<2^64)(hr:r<2^64)(hR:avlJ S l m r=some (R,S')):
 Ct 197 #[PV ps,.int .u64 l,.int .u64 m,.int .u64 r] w fun e w'=>e=.returned (.tuple #[.int .u64 R.1,.int .i64 R.2])/\Ig w' ps S' Y/\Fo Y w w':=by
 obtain⟨h0,h1,h2,h3,h4,h5⟩:=nL hR;obtain⟨x,er⟩:=R;simp only at h4 h5;subst h5;have an:=fB h hi 0 (by omega);rw[fU] at an;have ad:=pQ h hi l hl;have ai:=fun W (hW:Below w.heap.size w W)=>pQ (h.below hW) hi m hm;have al:=fun W (hW:Below w.heap.size w W)=>pQ (h.below hW) hi r hr;have hg:=fun W (hW:Below w.heap.size w W)=>gR (h.below hW) hi m hm;have hj:=fun W (hW:Below w.heap.size w W)=>yU (getNode S m).1 (fs h m) m hm 100 0 rfl (h.below hW) hi hl hr h4;rw[h1] at ad;rw[h2] at ai;rw[h3] at al;obtain⟨⟨⟨k0,k1,k2,k3,k4,k5⟩,er⟩,hE⟩:∃q,getNode S m=q:=⟨_,rfl⟩;rw[hE] at hg hj;simp only[gP] at hg hj;have hq:((m:Int)==0)=false:=by simp;omega
 have HG:=kq7 an ad ai al hg hj h;clear an ad ai al hg hj h hi hE h0 h1 h2 h3 h4 hR;go_enter func197,ntmps197;go_wp2_with fail;refine HG.a.mono ?_;rintro e w1 ⟨rfl,rfl⟩;go_wp2_with fail;refine HG.b.mono ?_;rintro e w1 ⟨rfl,ao⟩;have H1:=If ao;clear ao;go_wp2_with fail;refine(HG.c _ H1.out).mono ?_;rintro e w2 ⟨rfl,ap⟩;have H2:=If (H1.out.trans (ap.mono H1.out.size));clear ap;go_wp2_with fail;refine(HG.d _ H2.out).mono ?_;rintro e w3 ⟨rfl,ar⟩;have H3:=If (H2.out.trans (ar.mono H2.out.size));clear ar;go_wp2_with fail;refine(HG.e _ H3.out).mono ?_;rintro e w4 ⟨rfl,au⟩;have H4:=If (H3.out.trans (au.mono H3.out.size));clear au;go_wp2_with fail;refine(HG.f _ H4.out).mono ?_;rintro e w5 ⟨rfl,h5,a0⟩;have H5:=kq2 h5 ((HG.g.keep H4.out).trans a0);clear h5 a0;go_wp2_with fail;go_ret2;exact⟨rfl,H5.out⟩
theorem BJ:kW 197 avlJ where
 enter args w:=by go_simp
 inv hi h:=(lT _ 100 hi (nL h).2.2.2.2.1).1
 lt hi _ hm _ h:=(lT _ 100 hi (nL h).2.2.2.2.1).2 hm
 ok h:=(nL h).2.2.2.2.2
 call h hi hl hm hr hR:=yM h hi _ _ _ hl hm hr hR
theorem vi:jD 1 197 198 avlJ:=⟨ab rfl,E2,BJ,Ai⟩
