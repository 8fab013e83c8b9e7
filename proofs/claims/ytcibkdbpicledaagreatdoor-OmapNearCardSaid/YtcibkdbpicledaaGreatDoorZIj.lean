/- OmapNear: the walk. -/
import Derived.Test.YtcibkdbpicledaaGreatDoorZIh
set_option maxRecDepth 100000
set_option maxHeartbeats 12800000
namespace Go.Proofs.YtcibkdbpicledaaGreatDoor
open Go.RowKit Tryz Go.BigFrame Go.Maps Go.WideMaps Lf Tr
theorem yq(W:World):(binOp .neq 34 (.agg #[.string ⟨#[]⟩,.string ⟨#[]⟩]) (.agg #[.string ⟨#[]⟩,.string ⟨#[]⟩])).run prog W=.ok (.bool false) W:=by kernel_rfl
theorem Fm(W:World):(binOp .eql 34 (.agg #[.string ⟨#[]⟩,.string ⟨#[]⟩]) (.agg #[.string ⟨#[]⟩,.string ⟨#[]⟩])).run prog W=.ok (.bool true) W:=by kernel_rfl
theorem rQ(a b:List UInt8)(W:World):(binOp .neq 34 (.agg #[SV a,SV b]) (.agg #[SV a,SV b])).run prog W=.ok (.bool false) W:=by
 rw[DE];simp
theorem wn(a b:List UInt8)(W:World):(binOp .eql 34 (.agg #[SV a,SV b]) (.agg #[SV a,SV b])).run prog W=.ok (.bool true) W:=by
 rw[DD];simp
theorem xq {a b:List UInt8}(h:Fu a b<=0)(W:World):(binOp .gtr 9 (SV a) (SV b)).run prog W=.ok (.bool false) W:=by rw[Ey,decide_eq_false (by omega)]
theorem sO {a b:List UInt8}(h:0<=Fu a b):Op.bytesLess a b=false:=by rw[qe,decide_eq_false (by omega)]
theorem tD(L:List (List UInt8×List UInt8))(n:Nat):fj L (n:Nat)=L[n]?:=by
 unfold fj;rw[if_neg (by omega)];rfl
theorem Df {L:List (List UInt8×List UInt8)}(hs:ms L){key:List UInt8}(h:Bt.getL L key=none):gI L key=(eK L key:Int)-1/\(∀p,fj L ((eK L key:Int)-1)=some p->Fu p.1 key<0)/\∀p,fj L (eK L key:Nat)=some p->Fu key p.1<0:=by
 obtain⟨h1,h2⟩:=Dg hs h;refine⟨by unfold gI;rw[h];rfl,fun p hp=>?_,fun p hp=>h1 p (by rw[tD] at hp;exact hp)⟩;obtain⟨n,hn,hp⟩:=tE hp;exact h2 n p (by omega) hp
structure yr (pm:Nat) (L:List (List UInt8×List UInt8)) (key:List UInt8) (W:World):Prop where
 rank:∀V,Below W.heap.size W V->Cb 14 #[PV pm,SV key] V (.int .i64 (eK L key:Nat))
 get:∀V,Below W.heap.size W V->Cb 15 #[PV pm,SV key] V (.tuple #[SV ((Bt.getL L key).getD []),.int .i64 ((if(Bt.getL L key).isSome=true then 0 else 5:Nat):Nat)])
 floor:∀V,Below W.heap.size W V->∀q,fj L (gI L key)=q->Cb 16 #[PV pm,SV key] V (.tuple #[eu (q.getD ([],[])),.int .i64 ((if q.isSome=true then 0 else 5:Nat):Nat)])
 ceiling:∀V,Below W.heap.size W V->∀q,fj L (eK L key:Nat)=q->Cb 17 #[PV pm,SV key] V (.tuple #[eu (q.getD ([],[])),.int .i64 ((if q.isSome=true then 0 else 5:Nat):Nat)])
 select:∀V,Below W.heap.size W V->∀k:Int,k<2^62->∀q,fj L k=q->Cb 18 #[PV pm,.int .i64 k] V (.tuple #[eu (q.getD ([],[])),.int .i64 ((if q.isSome=true then 0 else 2:Nat):Nat)])
theorem fi.asks {P:List (List UInt8×List UInt8)->Prop}{K:jo}{w W:World}{ps pm px limit root:Nat}{S:St}{Y:Nat->Prop}{L:List (List UInt8×List UInt8)}(ok:gB K P)(h:fi K w W ps pm px limit root S Y L)(hc:L.length<98)(key:List UInt8):yr pm L key W where
 rank _ hV:=(h.below ok hV).rank ok hc key
 get _ hV:=(h.below ok hV).get ok hc key
 floor _ hV q hq:=(h.below ok hV).floor ok hc key q hq
 ceiling _ hV q hq:=(h.below ok hV).ceiling ok hc key q hq
 select _ hV k hk q hq:=(h.below ok hV).select ok hc k hk q hq
theorem qIjae{P:Prop}(h:P:=by
 go_enter func3,ntmps3;go_wp2_with fail;refine a'.out.mono ?_;rintro e wx ⟨rfl,rfl⟩;exact qIjaa):P:=h
theorem qIjad{P:Prop}(h:P:=by
 obtain⟨c0,c1⟩:=Fp q8;obtain⟨d0,d1⟩:=Fp p8;clear an A8 q8 p8 B8;simp only[eu,bQ,bH,aS,if_false];exact qIjab):P:=h
theorem qIjac{P:Prop}(h:P:=by
 obtain⟨W8,ba⟩:=Ii (w8.alloc (.cells #[SV x,SV y] 34));rw[ba] at H8 q8 p8;obtain⟨c0,c1⟩:=Fp q8;obtain⟨d0,d1⟩:=Fp p8;clear an A8 q8 p8 B8;simp only[eu,bA,bz,if_true];exact qIjab):P:=h
theorem qIjab{P:Prop}(h:P:=by
 go_wp2_with fail;refine(HW.a _ (HW.b.trans (H8.out.mono HW.b.size))).mono ?_;rintro e w9 ⟨rfl,a0⟩;have B9:=(HW.b.trans (H8.out.mono HW.b.size));have H9:=If (B9.trans (a0.mono B9.size));clear a0 B9;go_wp2_with fail;go_ret;exact⟨rfl,H9.out⟩):P:=h
theorem qIjaa{P:Prop}(h:P:=by
 go_wp2_with fail;refine(HG.a _ (aa _ _)).mono ?_;rintro e w1 ⟨rfl,al⟩;have H1:=If al;clear al;go_wp2_with fail;go_ret;exact⟨rfl,H1.out⟩):P:=h
theorem omapNear_walk(kind t:Int){v:Value}{l:List (List UInt8×List UInt8)}(key:List UInt8){w:World}(ht:gA w)(hv:jj w v l):
 Cb 3 #[.int .i64 kind,.int .i64 t,v,SV key] w (.bool true):=by
 have bc:=fun W (hW:Below w.heap.size w W)=>yV (ht.of_block (hW.block _ ht.lt));obtain⟨A,c,rfl,hc⟩:=hv;have hv:jj w (.slice A l.length c) l:=⟨A,c,rfl,hc⟩;obtain⟨n,hn⟩:=Ii l.length;rw[hn] at hv;have HG:=kq4 bc ht hv hn;clear bc ht hv hc;rw[hn]
 by_cases k1:kind<1
 ·clear hn;have bm:(kind<1)=True:=eq_true k1;clear k1;go_enter func3,ntmps3;exact qIjaa
 have bm:(kind<1)=False:=eq_false k1
 by_cases k2:3<kind
 ·clear hn;have bo:(3<kind)=True:=eq_true k2;clear k2;go_enter func3,ntmps3;exact qIjaa
 have bo:(3<kind)=False:=eq_false k2
 by_cases k3:t<2
 ·clear hn;have bs:(t<2)=True:=eq_true k3;clear k3;go_enter func3,ntmps3;exact qIjaa
 have bs:(t<2)=False:=eq_false k3
 by_cases k4:16<t
 ·clear hn;have bt:(16<t)=True:=eq_true k4;clear k4;go_enter func3,ntmps3;exact qIjaa
 have bt:(16<t)=False:=eq_false k4
 by_cases k5:60<n
 ·clear hn;have bu:(60<(n:Int))=True:=eq_true (by omega);clear k1 k2 k3 k4 k5;go_enter func3,ntmps3;exact qIjaa
 have bu:(60<(n:Int))=False:=eq_false (by omega);have a5:=Cm HG.c (by omega);obtain⟨lb,a8⟩:=Ii (jb l);rw[a8] at a5;have a':=If a5;clear a5
 cases lb with
 | true=>
  clear hn a8 k1 k2 k3 k4 k5;exact qIjae
 | false=>
  by_cases k6:2000<key.length
  ·have bv:(2000<(key.length:Int))=True:=eq_true (by omega);clear hn a8 k1 k2 k3 k4 k5 k6;exact qIjae
  have bv:(2000<(key.length:Int))=False:=eq_false (by omega);obtain⟨K,hK⟩:=BU uS kind t (by omega);have bf:=Cp hK HG.b HG.c (by omega) (Cl a8) (fun _ _=>trivial);have bk:=wt l;have bj:=hK.ok;have HM:=kq3 bf bj (by omega:(im l).length<98);clear bf bk bj hK hn a8 k1 k2 k3 k4 k5 k6;go_enter func3,ntmps3;go_wp2_with fail;refine a'.out.mono ?_;rintro e wx ⟨rfl,rfl⟩;go_wp2_with fail;refine HM.a.mono ?_;rintro e w2 ⟨ps,pm,px,root,S,Y,rfl,hm,_⟩;obtain⟨oo,RR,hH⟩:=hm.hold;have hs:ms (im l):=HM.b.sorted hH;have hA:=hm.asks HM.b HM.c key;have bd:eK (im l) key<=98:=aO (nZ _ _) (cO HM.c);have a4:=hm.bl;obtain⟨L,hL⟩:=Ii (im l);rw[hL] at hs hA bd;obtain⟨m,ao⟩:=Ii (eK L key);rw[ao] at bd;have b0:IntKind.i64.wrap ((m:Int)-1)=(m:Int)-1:=aD _ (by omega)
  cases hg:Bt.getL L key with
  | some v=>
   have bb:=Dh hs hg;rw[ao] at bb;have a3:gI L key=(m:Nat):=by unfold gI;rw[hg,ao];rfl
   have a9:fj L (m:Nat)=some (key,v):=by rw[tD];exact bb
   have a1:fj L (eK L key:Nat)=some (key,v):=by rw[ao];exact a9
   have a2:fj L (gI L key)=some (key,v):=by rw[a3];exact a9
   have HA:=kq7 hA ao hg a2 a1 a9 a3;have HW:=kq2 HG.a a4;have e1:=rQ key v;have e2:=wn key v;have e3:=xq (a:=key) (b:=key) (by rw[fX];omega);have e4:=sO (a:=key) (b:=key) (by rw[fX];omega);clear hA hg ao a2 a1 a9 a3 bb hm hH hs hL a4;go_wp2_with fail;refine(HA.a.rank _ (aa _ _)).mono ?_;rintro e w3 ⟨rfl,ap⟩;rw[HA.b];have H3:=If ap;clear ap;go_wp2_with fail;refine(HA.a.get _ H3.out).mono ?_;rintro e w4 ⟨rfl,ar⟩;rw[HA.c];have H4:=If (H3.out.trans (ar.mono H3.out.size));clear ar;simp only[bA,bz,if_true];go_wp2_with fail;refine(HA.a.floor _ H4.out _ HA.d).mono ?_;rintro e w5 ⟨rfl,au⟩;have A5:=(aa w5.heap.size w5).alloc Ih (.cells #[SV key,SV v] 34);have q5:=heap_alloc_new w5 (.cells #[SV key,SV v] 34);have B5:=H4.out.trans (au.mono H4.out.size);have H5:=kq2 (B5.trans (A5.mono B5.size)) q5;clear au A5 q5 B5;simp only[eu,bA,bz,if_true];go_wp2_with fail;refine(HA.a.ceiling _ H5.a _ HA.e).mono ?_;rintro e w6 ⟨rfl,ai⟩;have A6:=(aa w6.heap.size w6).alloc Ih (.cells #[SV key,SV v] 34);have q6:=heap_alloc_new w6 (.cells #[SV key,SV v] 34);have p6:=(A6.block _ (by have:=ai.size;have:=(gl H5.b);omega)).trans ((ai.block _ (gl H5.b)).trans H5.b);have B6:=H5.a.trans (ai.mono H5.a.size);have H6:=kq3 (B6.trans (A6.mono B6.size)) q6 p6;clear ai A6 q6 p6 B6;simp only[eu,bA,bz,if_true];go_wp2_with fail;refine(HA.a.select _ H6.a (m:Nat) (by omega) _ HA.f).mono ?_;rintro e w7 ⟨rfl,ad⟩;have A7:=(aa w7.heap.size w7).alloc Ih (.cells #[SV key,SV v] 34);have q7:=heap_alloc_new w7 (.cells #[SV key,SV v] 34);have p7:=(A7.block _ (by have:=ad.size;have:=(gl H6.b);omega)).trans ((ad.block _ (gl H6.b)).trans H6.b);have r7:=(A7.block _ (by have:=ad.size;have:=(gl H6.c);omega)).trans ((ad.block _ (gl H6.c)).trans H6.c);have B7:=H6.a.trans (ad.mono H6.a.size);have H7:=kq4 (B7.trans (A7.mono B7.size)) q7 p7 r7;obtain⟨W7,a6⟩:=Ii (w7.alloc (.cells #[SV key,SV v] 34));rw[a6] at H7 q7 p7 r7;obtain⟨c0,c1⟩:=Fp q7;obtain⟨d0,d1⟩:=Fp p7;obtain⟨f0,f1⟩:=Fp r7;clear ad A7 q7 p7 r7 B7;simp only[eu,bA,bz,if_true];go_wp2_with fail;refine(HW.a _ (HW.b.trans (H7.a.mono HW.b.size))).mono ?_;rintro e w9 ⟨rfl,a0⟩;have B9:=(HW.b.trans (H7.a.mono HW.b.size));have H9:=If (B9.trans (a0.mono B9.size));clear a0 B9;go_wp2_with fail;go_ret;exact⟨rfl,H9.out⟩
  | none=>
   obtain⟨a3,a5,a7⟩:=Df hs hg;rw[ao] at a3 a5 a7
   cases hqf:fj L ((m:Int)-1) with
   | none=>
    have e5:=Fm
    cases hqc:fj L (m:Nat) with
    | none=>
     have e1:=yq;have a1:fj L (eK L key:Nat)=none:=by rw[ao];exact hqc
     have a2:fj L (gI L key)=none:=by rw[a3];exact hqf
     have HA:=kq7 hA ao hg a2 a1 hqc hqf;have HW:=kq2 HG.a a4;clear hA hg ao a2 a1 hqc hqf a3 a5 a7 hm hH hs hL a4;go_wp2_with fail;refine(HA.a.rank _ (aa _ _)).mono ?_;rintro e w3 ⟨rfl,ap⟩;rw[HA.b];have H3:=If ap;clear ap;go_wp2_with fail;refine(HA.a.get _ H3.out).mono ?_;rintro e w4 ⟨rfl,ar⟩;rw[HA.c];have H4:=If (H3.out.trans (ar.mono H3.out.size));clear ar;simp only[bQ,bH,aS,if_false];go_wp2_with fail;refine(HA.a.floor _ H4.out _ HA.d).mono ?_;rintro e w5 ⟨rfl,au⟩;have A5:=(aa w5.heap.size w5).alloc Ih (.cells #[.string ⟨#[]⟩,.string ⟨#[]⟩] 34);have q5:=heap_alloc_new w5 (.cells #[.string ⟨#[]⟩,.string ⟨#[]⟩] 34);have B5:=H4.out.trans (au.mono H4.out.size);have H5:=kq2 (B5.trans (A5.mono B5.size)) q5;clear au A5 q5 B5;simp only[eu,bQ,bH,aS,if_false];go_wp2_with fail;refine(HA.a.ceiling _ H5.a _ HA.e).mono ?_;rintro e w6 ⟨rfl,ai⟩;have A6:=(aa w6.heap.size w6).alloc Ih (.cells #[.string ⟨#[]⟩,.string ⟨#[]⟩] 34);have q6:=heap_alloc_new w6 (.cells #[.string ⟨#[]⟩,.string ⟨#[]⟩] 34);have p6:=(A6.block _ (by have:=ai.size;have:=(gl H5.b);omega)).trans ((ai.block _ (gl H5.b)).trans H5.b);have B6:=H5.a.trans (ai.mono H5.a.size);have H6:=kq3 (B6.trans (A6.mono B6.size)) q6 p6;clear ai A6 q6 p6 B6;simp only[eu,bQ,bH,aS,if_false];go_wp2_with fail;refine(HA.a.select _ H6.a (m:Nat) (by omega) _ HA.f).mono ?_;rintro e w7 ⟨rfl,ad⟩;have A7:=(aa w7.heap.size w7).alloc Ih (.cells #[.string ⟨#[]⟩,.string ⟨#[]⟩] 34);have q7:=heap_alloc_new w7 (.cells #[.string ⟨#[]⟩,.string ⟨#[]⟩] 34);have p7:=(A7.block _ (by have:=ad.size;have:=(gl H6.b);omega)).trans ((ad.block _ (gl H6.b)).trans H6.b);have r7:=(A7.block _ (by have:=ad.size;have:=(gl H6.c);omega)).trans ((ad.block _ (gl H6.c)).trans H6.c);have B7:=H6.a.trans (ad.mono H6.a.size);have H7:=kq4 (B7.trans (A7.mono B7.size)) q7 p7 r7;obtain⟨c0,c1⟩:=Fp q7;obtain⟨d0,d1⟩:=Fp p7;obtain⟨f0,f1⟩:=Fp r7;clear ad A7 q7 p7 r7 B7;simp only[eu,bQ,bH,aS,if_false];go_wp2_with fail;refine(HA.a.select _ H7.a ((m:Int)-1) (by omega) _ HA.g).mono ?_;rintro e w8 ⟨rfl,an⟩;have A8:=(aa w8.heap.size w8).alloc Ih (.cells #[.string ⟨#[]⟩,.string ⟨#[]⟩] 34);have q8:=heap_alloc_new w8 (.cells #[.string ⟨#[]⟩,.string ⟨#[]⟩] 34);have p8:=(A8.block _ (by have:=an.size;have:=(gl H7.d);omega)).trans ((an.block _ (gl H7.d)).trans H7.d);have B8:=H7.a.trans (an.mono H7.a.size);have H8:=If (B8.trans (A8.mono B8.size));clear c0 c1 d0 d1 f0 f1;exact qIjad
    | some pc=>
     obtain⟨x2,y2⟩:=pc;have e4:=sO (a:=x2) (b:=key) (by have:=a7 _ hqc;rw[ie] at this;simp only at this⊢;omega);have e1:=rQ x2 y2;have a1:fj L (eK L key:Nat)=some (x2,y2):=by rw[ao];exact hqc
     have a2:fj L (gI L key)=none:=by rw[a3];exact hqf
     have HA:=kq7 hA ao hg a2 a1 hqc hqf;have HW:=kq2 HG.a a4;clear hA hg ao a2 a1 hqc hqf a3 a5 a7 hm hH hs hL a4;go_wp2_with fail;refine(HA.a.rank _ (aa _ _)).mono ?_;rintro e w3 ⟨rfl,ap⟩;rw[HA.b];have H3:=If ap;clear ap;go_wp2_with fail;refine(HA.a.get _ H3.out).mono ?_;rintro e w4 ⟨rfl,ar⟩;rw[HA.c];have H4:=If (H3.out.trans (ar.mono H3.out.size));clear ar;simp only[bQ,bH,aS,if_false];go_wp2_with fail;refine(HA.a.floor _ H4.out _ HA.d).mono ?_;rintro e w5 ⟨rfl,au⟩;have A5:=(aa w5.heap.size w5).alloc Ih (.cells #[.string ⟨#[]⟩,.string ⟨#[]⟩] 34);have q5:=heap_alloc_new w5 (.cells #[.string ⟨#[]⟩,.string ⟨#[]⟩] 34);have B5:=H4.out.trans (au.mono H4.out.size);have H5:=kq2 (B5.trans (A5.mono B5.size)) q5;clear au A5 q5 B5;simp only[eu,bQ,bH,aS,if_false];go_wp2_with fail;refine(HA.a.ceiling _ H5.a _ HA.e).mono ?_;rintro e w6 ⟨rfl,ai⟩;have A6:=(aa w6.heap.size w6).alloc Ih (.cells #[SV x2,SV y2] 34);have q6:=heap_alloc_new w6 (.cells #[SV x2,SV y2] 34);have p6:=(A6.block _ (by have:=ai.size;have:=(gl H5.b);omega)).trans ((ai.block _ (gl H5.b)).trans H5.b);have B6:=H5.a.trans (ai.mono H5.a.size);have H6:=kq3 (B6.trans (A6.mono B6.size)) q6 p6;clear ai A6 q6 p6 B6;simp only[eu,bA,bz,if_true];go_wp2_with fail;refine(HA.a.select _ H6.a (m:Nat) (by omega) _ HA.f).mono ?_;rintro e w7 ⟨rfl,ad⟩;have A7:=(aa w7.heap.size w7).alloc Ih (.cells #[SV x2,SV y2] 34);have q7:=heap_alloc_new w7 (.cells #[SV x2,SV y2] 34);have p7:=(A7.block _ (by have:=ad.size;have:=(gl H6.b);omega)).trans ((ad.block _ (gl H6.b)).trans H6.b);have r7:=(A7.block _ (by have:=ad.size;have:=(gl H6.c);omega)).trans ((ad.block _ (gl H6.c)).trans H6.c);have B7:=H6.a.trans (ad.mono H6.a.size);have H7:=kq4 (B7.trans (A7.mono B7.size)) q7 p7 r7;obtain⟨W7,a6⟩:=Ii (w7.alloc (.cells #[SV x2,SV y2] 34));rw[a6] at H7 q7 p7 r7;obtain⟨c0,c1⟩:=Fp q7;obtain⟨d0,d1⟩:=Fp p7;obtain⟨f0,f1⟩:=Fp r7;clear ad A7 q7 p7 r7 B7;simp only[eu,bA,bz,if_true];go_wp2_with fail;refine(HA.a.select _ H7.a ((m:Int)-1) (by omega) _ HA.g).mono ?_;rintro e w8 ⟨rfl,an⟩;have A8:=(aa w8.heap.size w8).alloc Ih (.cells #[.string ⟨#[]⟩,.string ⟨#[]⟩] 34);have q8:=heap_alloc_new w8 (.cells #[.string ⟨#[]⟩,.string ⟨#[]⟩] 34);have p8:=(A8.block _ (by have:=an.size;have:=(gl H7.d);omega)).trans ((an.block _ (gl H7.d)).trans H7.d);have B8:=H7.a.trans (an.mono H7.a.size);have H8:=If (B8.trans (A8.mono B8.size));clear c0 c1 d0 d1 f0 f1 a6;exact qIjad
   | some pf=>
    obtain⟨x,y⟩:=pf;have e3:=xq (a:=x) (b:=key) (Int.le_of_lt (a5 _ hqf));have e5:=wn x y
    cases hqc:fj L (m:Nat) with
    | none=>
     have e1:=yq;have a1:fj L (eK L key:Nat)=none:=by rw[ao];exact hqc
     have a2:fj L (gI L key)=some (x,y):=by rw[a3];exact hqf
     have HA:=kq7 hA ao hg a2 a1 hqc hqf;have HW:=kq2 HG.a a4;clear hA hg ao a2 a1 hqc hqf a3 a5 a7 hm hH hs hL a4;go_wp2_with fail;refine(HA.a.rank _ (aa _ _)).mono ?_;rintro e w3 ⟨rfl,ap⟩;rw[HA.b];have H3:=If ap;clear ap;go_wp2_with fail;refine(HA.a.get _ H3.out).mono ?_;rintro e w4 ⟨rfl,ar⟩;rw[HA.c];have H4:=If (H3.out.trans (ar.mono H3.out.size));clear ar;simp only[bQ,bH,aS,if_false];go_wp2_with fail;refine(HA.a.floor _ H4.out _ HA.d).mono ?_;rintro e w5 ⟨rfl,au⟩;have A5:=(aa w5.heap.size w5).alloc Ih (.cells #[SV x,SV y] 34);have q5:=heap_alloc_new w5 (.cells #[SV x,SV y] 34);have B5:=H4.out.trans (au.mono H4.out.size);have H5:=kq2 (B5.trans (A5.mono B5.size)) q5;clear au A5 q5 B5;simp only[eu,bA,bz,if_true];go_wp2_with fail;refine(HA.a.ceiling _ H5.a _ HA.e).mono ?_;rintro e w6 ⟨rfl,ai⟩;have A6:=(aa w6.heap.size w6).alloc Ih (.cells #[.string ⟨#[]⟩,.string ⟨#[]⟩] 34);have q6:=heap_alloc_new w6 (.cells #[.string ⟨#[]⟩,.string ⟨#[]⟩] 34);have p6:=(A6.block _ (by have:=ai.size;have:=(gl H5.b);omega)).trans ((ai.block _ (gl H5.b)).trans H5.b);have B6:=H5.a.trans (ai.mono H5.a.size);have H6:=kq3 (B6.trans (A6.mono B6.size)) q6 p6;clear ai A6 q6 p6 B6;simp only[eu,bQ,bH,aS,if_false];go_wp2_with fail;refine(HA.a.select _ H6.a (m:Nat) (by omega) _ HA.f).mono ?_;rintro e w7 ⟨rfl,ad⟩;have A7:=(aa w7.heap.size w7).alloc Ih (.cells #[.string ⟨#[]⟩,.string ⟨#[]⟩] 34);have q7:=heap_alloc_new w7 (.cells #[.string ⟨#[]⟩,.string ⟨#[]⟩] 34);have p7:=(A7.block _ (by have:=ad.size;have:=(gl H6.b);omega)).trans ((ad.block _ (gl H6.b)).trans H6.b);have r7:=(A7.block _ (by have:=ad.size;have:=(gl H6.c);omega)).trans ((ad.block _ (gl H6.c)).trans H6.c);have B7:=H6.a.trans (ad.mono H6.a.size);have H7:=kq4 (B7.trans (A7.mono B7.size)) q7 p7 r7;obtain⟨c0,c1⟩:=Fp q7;obtain⟨d0,d1⟩:=Fp p7;obtain⟨f0,f1⟩:=Fp r7;clear ad A7 q7 p7 r7 B7;simp only[eu,bQ,bH,aS,if_false];go_wp2_with fail;refine(HA.a.select _ H7.a ((m:Int)-1) (by omega) _ HA.g).mono ?_;rintro e w8 ⟨rfl,an⟩;have A8:=(aa w8.heap.size w8).alloc Ih (.cells #[SV x,SV y] 34);have q8:=heap_alloc_new w8 (.cells #[SV x,SV y] 34);have p8:=(A8.block _ (by have:=an.size;have:=(gl H7.d);omega)).trans ((an.block _ (gl H7.d)).trans H7.d);have B8:=H7.a.trans (an.mono H7.a.size);have H8:=If (B8.trans (A8.mono B8.size));clear c0 c1 d0 d1 f0 f1;exact qIjac
    | some pc=>
     obtain⟨x2,y2⟩:=pc;have e4:=sO (a:=x2) (b:=key) (by have:=a7 _ hqc;rw[ie] at this;simp only at this⊢;omega);have e1:=rQ x2 y2;have a1:fj L (eK L key:Nat)=some (x2,y2):=by rw[ao];exact hqc
     have a2:fj L (gI L key)=some (x,y):=by rw[a3];exact hqf
     have HA:=kq7 hA ao hg a2 a1 hqc hqf;have HW:=kq2 HG.a a4;clear hA hg ao a2 a1 hqc hqf a3 a5 a7 hm hH hs hL a4;go_wp2_with fail;refine(HA.a.rank _ (aa _ _)).mono ?_;rintro e w3 ⟨rfl,ap⟩;rw[HA.b];have H3:=If ap;clear ap;go_wp2_with fail;refine(HA.a.get _ H3.out).mono ?_;rintro e w4 ⟨rfl,ar⟩;rw[HA.c];have H4:=If (H3.out.trans (ar.mono H3.out.size));clear ar;simp only[bQ,bH,aS,if_false];go_wp2_with fail;refine(HA.a.floor _ H4.out _ HA.d).mono ?_;rintro e w5 ⟨rfl,au⟩;have A5:=(aa w5.heap.size w5).alloc Ih (.cells #[SV x,SV y] 34);have q5:=heap_alloc_new w5 (.cells #[SV x,SV y] 34);have B5:=H4.out.trans (au.mono H4.out.size);have H5:=kq2 (B5.trans (A5.mono B5.size)) q5;clear au A5 q5 B5;simp only[eu,bA,bz,if_true];go_wp2_with fail;refine(HA.a.ceiling _ H5.a _ HA.e).mono ?_;rintro e w6 ⟨rfl,ai⟩;have A6:=(aa w6.heap.size w6).alloc Ih (.cells #[SV x2,SV y2] 34);have q6:=heap_alloc_new w6 (.cells #[SV x2,SV y2] 34);have p6:=(A6.block _ (by have:=ai.size;have:=(gl H5.b);omega)).trans ((ai.block _ (gl H5.b)).trans H5.b);have B6:=H5.a.trans (ai.mono H5.a.size);have H6:=kq3 (B6.trans (A6.mono B6.size)) q6 p6;clear ai A6 q6 p6 B6;simp only[eu,bA,bz,if_true];go_wp2_with fail;refine(HA.a.select _ H6.a (m:Nat) (by omega) _ HA.f).mono ?_;rintro e w7 ⟨rfl,ad⟩;have A7:=(aa w7.heap.size w7).alloc Ih (.cells #[SV x2,SV y2] 34);have q7:=heap_alloc_new w7 (.cells #[SV x2,SV y2] 34);have p7:=(A7.block _ (by have:=ad.size;have:=(gl H6.b);omega)).trans ((ad.block _ (gl H6.b)).trans H6.b);have r7:=(A7.block _ (by have:=ad.size;have:=(gl H6.c);omega)).trans ((ad.block _ (gl H6.c)).trans H6.c);have B7:=H6.a.trans (ad.mono H6.a.size);have H7:=kq4 (B7.trans (A7.mono B7.size)) q7 p7 r7;obtain⟨W7,a6⟩:=Ii (w7.alloc (.cells #[SV x2,SV y2] 34));rw[a6] at H7 q7 p7 r7;obtain⟨c0,c1⟩:=Fp q7;obtain⟨d0,d1⟩:=Fp p7;obtain⟨f0,f1⟩:=Fp r7;clear ad A7 q7 p7 r7 B7;simp only[eu,bA,bz,if_true];go_wp2_with fail;refine(HA.a.select _ H7.a ((m:Int)-1) (by omega) _ HA.g).mono ?_;rintro e w8 ⟨rfl,an⟩;have A8:=(aa w8.heap.size w8).alloc Ih (.cells #[SV x,SV y] 34);have q8:=heap_alloc_new w8 (.cells #[SV x,SV y] 34);have p8:=(A8.block _ (by have:=an.size;have:=(gl H7.d);omega)).trans ((an.block _ (gl H7.d)).trans H7.d);have B8:=H7.a.trans (an.mono H7.a.size);have H8:=If (B8.trans (A8.mono B8.size));clear c0 c1 d0 d1 f0 f1 a6;exact qIjac