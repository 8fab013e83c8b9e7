/- Trees of any face: none, Len, Rank, At, Get: the walks. -/
import Derived.Test.YtcibkdbpicledaaGreatDoorZYd
import Derived.Test.YtcibkdbpicledaaGreatDoorZFd
set_option maxRecDepth 100000
set_option maxHeartbeats 3200000
namespace Go.Proofs.YtcibkdbpicledaaGreatDoor
open Go.RowKit Tryz Go.BigFrame Go.Maps Go.WideMaps Lf
variable{Y:Nat->Prop}{fm:FuncId}{kv:Value}{ps:Nat}{ty:TypeId}{w:World}{x:Nat}{z:Nat}
def FF(w:World)(px ps:Nat)(ty:TypeId)(kv:Value)(kind td root:Nat):Prop:=w.heap[px]?=some (.cells #[PV ps,.int .i64 kind,.int .i64 td,.iface ty kv,.int .u64 root] 134)
theorem FF.below{w w':World}{px ps kind td root:Nat}(h:FF w px ps ty kv kind td root)(hb:Below w.heap.size w w'):FF w' px ps ty kv kind td root:=(hb.block px (gl h)).trans h
theorem FF.keep{w w':World}{px ps kind td root:Nat}(h:FF w px ps ty kv kind td root)(hk:Fo Y w w')(hy:Y px):FF w' px ps ty kv kind td root:=(hk.block px hy).trans h
theorem kw{px ps kind td root:Nat}(hT:FF w px ps ty kv kind td root):
 Ct 79 #[PV px] w fun e w'=>e=.returned (.bool false)/\w=w':=by
 unfold FF at hT;obtain⟨c0,c1,c2,c3,c4⟩:=ld hT;clear hT;go_enter func79,ntmps79;go_wp2_with fail;go_ret;exact⟨rfl,rfl⟩
theorem kN(px ps:Nat)(ty:TypeId)(kv:Value)(kind td root:Nat):∃I:World->Prop,(∀w',I w'->FF w' px ps ty kv kind td root)/\(∀w',FF w' px ps ty kv kind td root->I w'):=⟨fun w'=>FF w' px ps ty kv kind td root,fun _ h=>h,fun _ a=>a⟩
theorem qDcab{P:Prop}(h:P:=by
 refine mD fun K hK=>?_;go_simp;refine HG.b.mono ?_;rintro e w2 ⟨rfl,ai⟩;have T2:=FF.below (w:=w.drew) HG.c ai;have B2:=kq2 T2 ((aa w.heap.size w).drew.trans ai);clear T2 ai
 try go_simp
 refine hK.out _ _ (HG.d _ B2.a) ?_;clear hK K
 try simp only[pu]
 refine mD fun K hK=>?_;go_simp
 try go_simp
 refine hK.out _ _ (HG.d _ B2.a) ?_;clear hK K
 try simp only[pu]
 refine mX ?_;go_wp2_with fail;go_ret;exact⟨rfl,B2.b⟩):P:=h
theorem xM{px ps kind td root:Nat}(hT:FF w px ps ty kv kind td root)(hme:∀(f:Nat) (v:Value) (w:World),(method (f+1) ty v "loft/backend.size").run prog w=.ok (fm,v) w)(hen:∀(args:Array Value) (w:World),(callFunc fm args).run prog w=.ok (.enter fm args) w)(hs:∀W,Below w.heap.size w W->Ct fm #[kv,.int .u64 root] W fun e w'=>e=.returned (.int .i64 z)/\Below W.heap.size W w'):
 Cb 56 #[PV px] w (.int .i64 z):=by
 have hn:=kw hT;have hs:=hs _ (aa _ w).drew;obtain⟨I,an,ad⟩:=kN px ps ty kv kind td root;have al:=fun x:Fq I=>an _ x.ok;simp only[FF] at al;obtain⟨m0,m1,m2,m3,m4⟩:=iK al;have ao:I w.drew:=ad _ hT;have HG:=kq4 hn hs hT ad;clear hn hs hT an ad al;go_enter func56,ntmps56;go_wp2_with fail;refine HG.a.mono ?_;rintro e w1 ⟨rfl,rfl⟩;go_wp2_with fail;refine nF I [(true,0),(true,1),(true,2),(true,3),(true,4),(true,5),(true,6),(true,7),(true,8),(true,9),(false,10),(false,11)] (by kernel_rfl) (by kernel_rfl) ao ?_
 iterate 10
  refine' mT ?_ ?_;rotate_left
  ·intro x;go_simp
   try rfl
  try simp only[pu]
 exact qDcab
theorem xO{px ps kind td root:Nat}(hT:FF w px ps ty kv kind td root)(k:List UInt8)(hme:∀(f:Nat) (v:Value) (w:World),(method (f+1) ty v "loft/backend.rank").run prog w=.ok (fm,v) w)(hen:∀(args:Array Value) (w:World),(callFunc fm args).run prog w=.ok (.enter fm args) w)(hs:∀W,Below w.heap.size w W->Ct fm #[kv,.int .u64 root,SV k] W fun e w'=>e=.returned (.int .i64 z)/\Below W.heap.size W w'):
 Cb 49 #[PV px,SV k] w (.int .i64 z):=by
 have hn:=kw hT;have hs:=hs _ (aa _ w).drew;obtain⟨I,an,ad⟩:=kN px ps ty kv kind td root;have al:=fun x:Fq I=>an _ x.ok;simp only[FF] at al;obtain⟨m0,m1,m2,m3,m4⟩:=iK al;have ao:I w.drew:=ad _ hT;have HG:=kq4 hn hs hT ad;clear hn hs hT an ad al;go_enter func49,ntmps49;go_wp2_with fail;refine HG.a.mono ?_;rintro e w1 ⟨rfl,rfl⟩;go_wp2_with fail;refine nF I [(true,0),(true,1),(true,2),(true,3),(true,4),(true,5),(true,6),(true,7),(true,8),(true,9),(true,10),(false,11),(false,12)] (by kernel_rfl) (by kernel_rfl) ao ?_
 iterate 11
  refine' mT ?_ ?_;rotate_left
  ·intro x;go_simp
   try rfl
  try simp only[pu]
 exact qDcab
theorem xH{px ps kind td root:Nat}(hT:FF w px ps ty kv kind td root)(k:Int)(p:List UInt8×List UInt8)(k0 k1 e1 e2:Nat)(hme:∀(f:Nat) (v:Value) (w:World),(method (f+1) ty v "loft/backend.at").run prog w=.ok (fm,v) w)(hen:∀(args:Array Value) (w:World),(callFunc fm args).run prog w=.ok (.enter fm args) w)(hs:∀W,Below w.heap.size w W->Ct fm #[kv,.int .u64 root,.int .i64 k] W fun e w'=>e=.returned (.tuple #[.agg #[.int .u64 k0,.int .u64 k1],.int .i64 0])/\Below W.heap.size W w')(hg1:∀W,Below w.heap.size w W->Cb 80 #[PV ps,.int .u64 k0] W (.tuple #[SV p.1,.int .i64 e1]))(hg2:∀W,Below w.heap.size w W->Cb 80 #[PV ps,.int .u64 k1] W (.tuple #[SV p.2,.int .i64 e2])):
 Cb 53 #[PV px,.int .i64 k] w (.tuple #[eu p,.int .i64 0]):=by
 have B0:=(aa w.heap.size w).alloc Ih (.cells #[.string ⟨#[]⟩,.string ⟨#[]⟩] 34);have y0:=heap_alloc_new w (.cells #[.string ⟨#[]⟩,.string ⟨#[]⟩] 34);have hn:=kw (hT.below B0);obtain⟨p1,p2⟩:=p;simp only[eu] at hg1 hg2⊢;obtain⟨I,ar,au⟩:=kN px ps ty kv kind td root;have ap:=fun x:Fq I=>ar _ x.ok;simp only[FF] at ap;obtain⟨m0,m1,m2,m3,m4⟩:=iK ap;have ao:I ((w.alloc (.cells #[.string ⟨#[]⟩,.string ⟨#[]⟩] 34)).drew):=au _ (hT.below B0.drew);have HG:=kq8 hn hs hT au B0 y0 hg1 hg2;clear hn hs hT ar au ap B0 y0 hg1 hg2;go_enter func53,ntmps53;go_wp2_with fail;refine HG.a.mono ?_;rintro e w1 ⟨rfl,rfl⟩;go_wp2_with fail;have HU:=kq2 HG.g HG.h;refine fh I (.take 0 (.take 1 (.take 2 (.take 3 (.take 4 (.take 5 (.take 6 (.take 7 (.take 8 (.take 9 (.take 10 (.two 11 15 (.take 12 (.take 13 (.take 14 (.go 15 (.go 16 (.go 17 .nil)))))) (.go 11 (.take 12 (.take 13 (.take 14 (.go 16 (.go 17 .nil)))))))))))))))))) (by kernel_rfl) (by kernel_rfl) ao ?_
 iterate 11
  refine' pT ?_ ?_;rotate_left
  ·intro x;go_simp
   try rfl
  try simp only[pu]
 refine gL ?h1 ?h2
 case' h1=>
  refine pD fun K hK=>?_;go_simp;refine(HG.b _ HG.e.drew).mono ?_;rintro e w2 ⟨rfl,al⟩;have T2:=FF.below (w:=(w.alloc (.cells #[.string ⟨#[]⟩,.string ⟨#[]⟩] 34)).drew) (HG.c.below HG.e.drew) al;have y2:=(al.block w.heap.size (by show w.heap.size<(w.alloc _).heap.size;simp)).trans HG.f;have B2:=kq3 T2 (HG.e.drew.trans (al.mono HG.e.drew.size)) y2;clear T2 al y2
  try go_simp
  refine hK.out _ _ (HG.d _ B2.a) ?_;clear hK K
  try simp only[pu]
  iterate 3
   refine' pT ?_ ?_;rotate_left
   ·intro x;go_simp
    try rfl
   try simp only[pu]
  refine pD fun K hK=>?_;go_simp;have A2:=(aa w2.heap.size w2).alloc Ih (.cells #[.int .u64 0,.int .u64 0] 137);have TA:=B2.a.below A2;have BA:=B2.b.trans (A2.mono B2.b.size);have yA:=(A2.block w.heap.size (gl B2.c)).trans B2.c;have qA:=heap_alloc_new w2 (.cells #[.int .u64 0,.int .u64 0] 137);have a1:w.heap.size<w2.heap.size:=(gl B2.c);clear A2 B2;generalize w2.alloc (.cells #[.int .u64 0,.int .u64 0] 137)=W at*;generalize w2.heap.size=b6 at*
  try go_simp
  refine hK.out _ _ (HG.d _ TA) ?_;clear hK K
  try simp only[pu]
  obtain⟨c0,c1⟩:=Fp qA;obtain⟨f0,f1⟩:=ef qA;have HA:=kq5 TA BA yA qA a1;clear TA BA yA qA a1;refine pD fun K hK=>?_;go_simp;have qB:=ew HA.d (.int .u64 k0) (.int .u64 k1);have BB:=eT HA.b (cO HA.e) (.int .u64 k0) (.int .u64 k1);have yB:=(fA (cP HA.e) (.int .u64 k0) (.int .u64 k1)).trans HA.c;have TB:FF ((W.setCell ⟨b6,0,none⟩ (.int .u64 k0)).setCell ⟨b6,1,none⟩ (.int .u64 k1)) px ps ty kv kind td root:=HG.c.below BB;have a2:=HA.e;clear c0 c1 f0 f1 HA;generalize ((W.setCell ⟨b6,0,none⟩ (.int .u64 k0)).setCell ⟨b6,1,none⟩ (.int .u64 k1))=W7 at*
  try go_simp
  refine hK.out _ _ (HG.d _ TB) ?_;clear hK K
  try simp only[pu]
  refine pD fun K hK=>?_;go_simp
  try go_simp
  refine hK.out _ _ (HG.d _ TB) ?_;clear hK K
  try simp only[pu]
  refine eP ?_;have H7:=kq5 TB BB yB qB a2;clear TB BB yB qB a2;clear w2
 case' h2=>
  refine pD fun K hK=>?_;go_simp;have A2:=(aa (w.alloc (.cells #[.string ⟨#[]⟩,.string ⟨#[]⟩] 34)).heap.size (w.alloc (.cells #[.string ⟨#[]⟩,.string ⟨#[]⟩] 34))).alloc Ih (.cells #[.int .u64 0,.int .u64 0] 137);have BA:=(HG.e.trans (A2.mono HG.e.size)).drew;have qA:((w.alloc (.cells #[.string ⟨#[]⟩,.string ⟨#[]⟩] 34)).alloc (.cells #[.int .u64 0,.int .u64 0] 137)).drew.heap[(w.alloc (.cells #[.string ⟨#[]⟩,.string ⟨#[]⟩] 34)).heap.size]?=_:=heap_alloc_new (w.alloc (.cells #[.string ⟨#[]⟩,.string ⟨#[]⟩] 34)) (.cells #[.int .u64 0,.int .u64 0] 137);have yA:((w.alloc (.cells #[.string ⟨#[]⟩,.string ⟨#[]⟩] 34)).alloc (.cells #[.int .u64 0,.int .u64 0] 137)).drew.heap[w.heap.size]?=_:=(A2.block w.heap.size (by simp)).trans HG.f;have TA:=HG.c.below BA;simp only[World.size_alloc] at qA;clear A2;generalize ((w.alloc (.cells #[.string ⟨#[]⟩,.string ⟨#[]⟩] 34)).alloc (.cells #[.int .u64 0,.int .u64 0] 137)).drew=w1 at*
  try go_simp
  refine hK.out _ _ (HG.d _ TA) ?_;clear hK K
  try simp only[pu]
  have an:=kq4 TA BA yA qA;clear TA BA yA qA;refine pD fun K hK=>?_;go_simp;refine(HG.b _ an.b).mono ?_;rintro e W ⟨rfl,al⟩;have TA:=an.a.below al;have BA:=an.b.trans (al.mono an.b.size);have yA:=(al.block w.heap.size (gl an.c)).trans an.c;have qA:=(al.block (w.heap.size+1) (gl an.d)).trans an.d;have a1:w.heap.size<w.heap.size+1:=by omega
  clear al an;generalize w.heap.size+1=b6 at*
  try go_simp
  refine hK.out _ _ (HG.d _ TA) ?_;clear hK K
  try simp only[pu]
  iterate 3
   refine' pT ?_ ?_;rotate_left
   ·intro x;go_simp
    try rfl
   try simp only[pu]
  obtain⟨c0,c1⟩:=Fp qA;obtain⟨f0,f1⟩:=ef qA;have HA:=kq5 TA BA yA qA a1;clear TA BA yA qA a1;refine pD fun K hK=>?_;go_simp;have qB:=ew HA.d (.int .u64 k0) (.int .u64 k1);have BB:=eT HA.b (cO HA.e) (.int .u64 k0) (.int .u64 k1);have yB:=(fA (cP HA.e) (.int .u64 k0) (.int .u64 k1)).trans HA.c;have TB:FF ((W.setCell ⟨b6,0,none⟩ (.int .u64 k0)).setCell ⟨b6,1,none⟩ (.int .u64 k1)) px ps ty kv kind td root:=HG.c.below BB;have a2:=HA.e;clear c0 c1 f0 f1 HA;generalize ((W.setCell ⟨b6,0,none⟩ (.int .u64 k0)).setCell ⟨b6,1,none⟩ (.int .u64 k1))=W7 at*
  try go_simp
  refine hK.out _ _ (HG.d _ TB) ?_;clear hK K
  try simp only[pu]
  refine pD fun K hK=>?_;go_simp
  try go_simp
  refine hK.out _ _ (HG.d _ TB) ?_;clear hK K
  try simp only[pu]
  refine eP ?_;have H7:=kq5 TB BB yB qB a2;clear TB BB yB qB a2;clear w1
 all_goals
  have HT:=If HG.c;clear ao HG m0 m1 m2 m3 m4 I;obtain⟨I,ar,au⟩:=lB (fun w'=>FF w' px ps ty kv kind td root) (fun w'=>w'.heap[b6]?=some (.cells #[.int .u64 k0,.int .u64 k1] 137));have ap:=fun x:Fq I=>(ar _ x.ok).1;have a4:=fun x:Fq I=>(ar _ x.ok).2;simp only[FF] at ap;obtain⟨m0,m1,m2,m3,m4⟩:=iK ap;obtain⟨n0,n1⟩:=fw a4;have HI:=If au;clear ar au ap a4;have ad:=H7;clear H7;have ao:I W7.drew:=HI.out _ ad.out.1 ad.out.2.2.2.1;go_wp2_with fail;refine fh I (.take 0 (.take 1 (.take 2 (.take 3 (.take 4 (.take 5 (.go 6 (.take 7 (.take 8 (.take 9 (.take 10 (.go 11 .nil)))))))))))) (by kernel_rfl) (by kernel_rfl) ao ?_;clear ao
  iterate 6
   refine' pT ?_ ?_;rotate_left
   ·intro x;go_simp
    try rfl
   try simp only[pu]
  refine pD fun K hK=>?_;go_simp;refine(HU.a _ ad.out.2.1.drew).mono ?_;rintro e w8 ⟨rfl,hb⟩;have T2:=FF.below (w:=W7.drew) (ad.out.1.below (aa _ _).drew) hb;have B2:=ad.out.2.1.drew.trans (hb.mono ad.out.2.1.drew.size);have y2:=(hb.block w.heap.size (gl ad.out.2.2.1)).trans ad.out.2.2.1;have q2:=(hb.block b6 (gl ad.out.2.2.2.1)).trans ad.out.2.2.2.1;clear hb;obtain⟨c0,c1⟩:=Fp y2;obtain⟨f0,f1⟩:=ef y2;have HX:=kq5 T2 B2 y2 q2 ad.out.2.2.2.2;clear T2 B2 y2 q2
  try go_simp
  refine hK.out _ _ (HI.out _ HX.a HX.d) ?_;clear hK K
  try simp only[pu]
  iterate 4
   refine' pT ?_ ?_;rotate_left
   ·intro x;go_simp
    try rfl
   try simp only[pu]
  refine pD fun K hK=>?_;go_simp;have y3:=heap_setCell HX.c (v:=SV p1) (i:=0);have B3:=HX.b.setCell (p:=⟨w.heap.size,0,none⟩) Ih (SV p1);have q3:=(FB (w:=w8) (b:=w.heap.size) (i:=0) (v:=SV p1) (Nat.ne_of_gt HX.e)).trans HX.d;have T3:FF (w8.setCell ⟨w.heap.size,0,none⟩ (SV p1)) px ps ty kv kind td root:=HT.out.below B3;have a0:=HX.e;clear c0 c1 f0 f1 HX;generalize w8.setCell ⟨w.heap.size,0,none⟩ (SV p1)=w8s at*
  try go_simp
  refine hK.out _ _ (HI.out _ T3 q3) ?_;clear hK K
  try simp only[pu]
  refine eP ?_;have ai:=kq5 T3 B3 y3 q3 a0;clear T3 B3 y3 q3 a0;have ao:I w8s.drew:=HI.out _ ai.a ai.d;go_wp2_with fail;refine fh I (.take 0 (.take 1 (.take 2 (.take 3 (.take 4 (.take 5 (.go 6 (.take 7 (.take 8 (.take 9 (.take 10 (.go 11 .nil)))))))))))) (by kernel_rfl) (by kernel_rfl) ao ?_;clear ao
  iterate 6
   refine' pT ?_ ?_;rotate_left
   ·intro x;go_simp
    try rfl
   try simp only[pu]
  refine pD fun K hK=>?_;go_simp;refine(HU.b _ ai.b.drew).mono ?_;rintro e w9 ⟨rfl,hb⟩;have T2:=FF.below (w:=w8s.drew) (ai.a.below (aa _ _).drew) hb;have B2:=ai.b.drew.trans (hb.mono ai.b.drew.size);have y2:=(hb.block w.heap.size (gl ai.c)).trans ai.c;have q2:=(hb.block b6 (gl ai.d)).trans ai.d;clear hb;obtain⟨c0,c1⟩:=Fp y2;obtain⟨f0,f1⟩:=ef y2;have HX:=kq5 T2 B2 y2 q2 ai.e;clear T2 B2 y2 q2
  try go_simp
  refine hK.out _ _ (HI.out _ HX.a HX.d) ?_;clear hK K
  try simp only[pu]
  iterate 4
   refine' pT ?_ ?_;rotate_left
   ·intro x;go_simp
    try rfl
   try simp only[pu]
  refine pD fun K hK=>?_;go_simp;have y3:=heap_setCell HX.c (v:=SV p2) (i:=1);have B3:=HX.b.setCell (p:=⟨w.heap.size,1,none⟩) Ih (SV p2);have q3:=(FB (w:=w9) (b:=w.heap.size) (i:=1) (v:=SV p2) (Nat.ne_of_gt HX.e)).trans HX.d;have T3:FF (w9.setCell ⟨w.heap.size,1,none⟩ (SV p2)) px ps ty kv kind td root:=HT.out.below B3;have a0:=HX.e;clear c0 c1 f0 f1 HX;generalize w9.setCell ⟨w.heap.size,1,none⟩ (SV p2)=w9s at*
  try go_simp
  refine hK.out _ _ (HI.out _ T3 q3) ?_;clear hK K
  try simp only[pu]
  refine eP ?_;have a3:=kq5 T3 B3 y3 q3 a0;clear T3 B3 y3 q3 a0;have y:=a3.c;have y':w9s.heap[w.heap.size]?=some (.cells #[SV p1,SV p2] 34):=y;obtain⟨c0,c1⟩:=Fp y';obtain⟨f0,f1⟩:=ef y';have q5:=ew y' (SV p1) (SV p2);have B5:=eT a3.b Ih (SV p1) (SV p2);have HB:=kq2 q5 B5;clear y y' q5 B5;go_wp2_with fail;obtain⟨q5,B5⟩:=HB.out;generalize ((w9s.setCell ⟨w.heap.size,0,none⟩ (SV p1)).setCell ⟨w.heap.size,1,none⟩ (SV p2))=wF at*;obtain⟨e0,e1⟩:=Fp q5;exact bodyPost_ret (v:=.tuple #[.agg #[SV p1,SV p2],.int .i64 0]) (by simp[results,f53,go_sem,e0,e1]) rfl ⟨rfl,B5⟩
theorem xJ{px ps kind td root:Nat}(hT:FF w px ps ty kv kind td root)(k:List UInt8)(k0 k1:Nat)(hme:∀(f:Nat) (v:Value) (w:World),(method (f+1) ty v "loft/backend.find").run prog w=.ok (fm,v) w)(hen:∀(args:Array Value) (w:World),(callFunc fm args).run prog w=.ok (.enter fm args) w)(hs:∀W,Below w.heap.size w W->Ct fm #[kv,.int .u64 root,SV k] W fun e w'=>e=.returned (.tuple #[.agg #[.int .u64 k0,.int .u64 k1],.bool false])/\Below W.heap.size W w'):
 Cb 50 #[PV px,SV k] w (.tuple #[.string ⟨#[]⟩,.bool false]):=by
 have B0:=aa w.heap.size w;have hn:=kw (hT.below B0);obtain⟨I,au,ao⟩:=kN px ps ty kv kind td root;have ap:=fun x:Fq I=>au _ x.ok;simp only[FF] at ap;obtain⟨m0,m1,m2,m3,m4⟩:=iK ap;have a1:I w.drew:=ao _ (hT.below B0.drew);have a2:=True.intro;have HI:=If ao;have HG:=kq4 hn hs hT B0
 skip
 clear hn hs hT au ao ap B0;go_enter func50,ntmps50;go_wp2_with fail;refine HG.a.mono ?_;rintro e w1 ⟨rfl,rfl⟩;go_wp2_with fail;refine fh I (.take 0 (.take 1 (.take 2 (.take 3 (.take 4 (.take 5 (.take 6 (.take 7 (.take 8 (.take 9 (.take 10 (.two 11 15 (.take 12 (.take 13 (.take 14 (.go 15 (.go 16 (.go 17 .nil)))))) (.go 11 (.take 12 (.take 13 (.take 14 (.go 16 (.go 17 .nil)))))))))))))))))) (by kernel_rfl) (by kernel_rfl) a1 ?_
 iterate 11
  refine' pT ?_ ?_;rotate_left
  ·intro x;go_simp
   try rfl
  try simp only[pu]
 refine gL ?h1 ?h2
 case' h1=>
  refine pD fun K hK=>?_;go_simp;refine(HG.b _ HG.d.drew).mono ?_;rintro e w2 ⟨rfl,ad⟩;have T2:=FF.below (w:=w.drew) (HG.c.below HG.d.drew) ad;have ar:=HG.d.drew.trans (ad.mono HG.d.drew.size);have B2:=kq2 T2 ar;clear T2 ad ar
  try go_simp
  refine hK.out _ _ (HI.out _ B2.a) ?_;clear hK K
  try simp only[pu]
  iterate 3
   refine' pT ?_ ?_;rotate_left
   ·intro x;go_simp
    try rfl
   try simp only[pu]
  refine pD fun K hK=>?_;go_simp;have A2:=(aa w2.heap.size w2).alloc Ih (.cells #[.int .u64 0,.int .u64 0] 137);have TA:=B2.a.below A2;have BA:=B2.b.trans (A2.mono B2.b.size);have qA:=heap_alloc_new w2 (.cells #[.int .u64 0,.int .u64 0] 137);have al:w.heap.size<=w2.heap.size:=B2.b.size;clear A2 B2;generalize w2.alloc (.cells #[.int .u64 0,.int .u64 0] 137)=W at*;generalize w2.heap.size=b6 at*
  try go_simp
  refine hK.out _ _ (HI.out _ TA) ?_;clear hK K
  try simp only[pu]
  obtain⟨c0,c1⟩:=Fp qA;obtain⟨f0,f1⟩:=ef qA;have HA:=kq4 TA BA qA al;clear TA BA qA al;refine pD fun K hK=>?_;go_simp;have qB:=ew HA.c (.int .u64 k0) (.int .u64 k1);have BB:=eT HA.b (HA.d) (.int .u64 k0) (.int .u64 k1);have TB:FF ((W.setCell ⟨b6,0,none⟩ (.int .u64 k0)).setCell ⟨b6,1,none⟩ (.int .u64 k1)) px ps ty kv kind td root:=HG.c.below BB;have an:=HA.d;clear c0 c1 f0 f1 HA;generalize ((W.setCell ⟨b6,0,none⟩ (.int .u64 k0)).setCell ⟨b6,1,none⟩ (.int .u64 k1))=W7 at*
  try go_simp
  refine hK.out _ _ (HI.out _ TB) ?_;clear hK K
  try simp only[pu]
  refine pD fun K hK=>?_;go_simp
  try go_simp
  refine hK.out _ _ (HI.out _ TB) ?_;clear hK K
  try simp only[pu]
  refine eP ?_;have H7:=kq4 TB BB qB an;clear TB BB qB an;clear w2
 case' h2=>
  refine pD fun K hK=>?_;go_simp;have A2:=(aa w.heap.size w).alloc Ih (.cells #[.int .u64 0,.int .u64 0] 137);have BA:=(HG.d.trans (A2.mono HG.d.size)).drew;have qA:(w.alloc (.cells #[.int .u64 0,.int .u64 0] 137)).drew.heap[w.heap.size]?=_:=heap_alloc_new w (.cells #[.int .u64 0,.int .u64 0] 137);have TA:=HG.c.below BA;clear A2;generalize (w.alloc (.cells #[.int .u64 0,.int .u64 0] 137)).drew=w1 at*
  try go_simp
  refine hK.out _ _ (HI.out _ TA) ?_;clear hK K
  try simp only[pu]
  have ai:=kq3 TA BA qA;clear TA BA qA;refine pD fun K hK=>?_;go_simp;refine(HG.b _ ai.b).mono ?_;rintro e W ⟨rfl,ad⟩;have TA:=ai.a.below ad;have BA:=ai.b.trans (ad.mono ai.b.size);have qA:=(ad.block w.heap.size (gl ai.c)).trans ai.c;obtain⟨b6,a0⟩:=Ii w.heap.size;have al:w.heap.size<=b6:=by omega
  rw[a0] at qA;simp only[a0];clear ad ai
  try go_simp
  refine hK.out _ _ (HI.out _ TA) ?_;clear hK K
  try simp only[pu]
  iterate 3
   refine' pT ?_ ?_;rotate_left
   ·intro x;go_simp
    try rfl
   try simp only[pu]
  obtain⟨c0,c1⟩:=Fp qA;obtain⟨f0,f1⟩:=ef qA;have HA:=kq4 TA BA qA al;clear TA BA qA al;refine pD fun K hK=>?_;go_simp;have qB:=ew HA.c (.int .u64 k0) (.int .u64 k1);have BB:=eT HA.b (HA.d) (.int .u64 k0) (.int .u64 k1);have TB:FF ((W.setCell ⟨b6,0,none⟩ (.int .u64 k0)).setCell ⟨b6,1,none⟩ (.int .u64 k1)) px ps ty kv kind td root:=HG.c.below BB;have an:=HA.d;clear c0 c1 f0 f1 HA;generalize ((W.setCell ⟨b6,0,none⟩ (.int .u64 k0)).setCell ⟨b6,1,none⟩ (.int .u64 k1))=W7 at*
  try go_simp
  refine hK.out _ _ (HI.out _ TB) ?_;clear hK K
  try simp only[pu]
  refine pD fun K hK=>?_;go_simp
  try go_simp
  refine hK.out _ _ (HI.out _ TB) ?_;clear hK K
  try simp only[pu]
  refine eP ?_;have H7:=kq4 TB BB qB an;clear TB BB qB an;clear w1
 all_goals
  go_wp2_with fail;go_ret2;exact⟨rfl,H7.b⟩
theorem xK{px ps kind td root:Nat}(hT:FF w px ps ty kv kind td root)(k:List UInt8)(k0 k1:Nat)(t:List UInt8)(e1:Nat)(hg:∀W,Below w.heap.size w W->Cb 80 #[PV ps,.int .u64 k1] W (.tuple #[SV t,.int .i64 e1]))(hme:∀(f:Nat) (v:Value) (w:World),(method (f+1) ty v "loft/backend.find").run prog w=.ok (fm,v) w)(hen:∀(args:Array Value) (w:World),(callFunc fm args).run prog w=.ok (.enter fm args) w)(hs:∀W,Below w.heap.size w W->Ct fm #[kv,.int .u64 root,SV k] W fun e w'=>e=.returned (.tuple #[.agg #[.int .u64 k0,.int .u64 k1],.bool true])/\Below W.heap.size W w'):
 Cb 50 #[PV px,SV k] w (.tuple #[SV t,.bool true]):=by
 have B0:=aa w.heap.size w;have hn:=kw (hT.below B0);obtain⟨I,ao,al⟩:=kN px ps ty kv kind td root;have an:=fun x:Fq I=>ao _ x.ok;simp only[FF] at an;obtain⟨m0,m1,m2,m3,m4⟩:=iK an;have ap:I w.drew:=al _ (hT.below B0.drew);have a3:=True.intro;have HI:=If al;have HG:=kq4 hn hs hT B0;have HU:=If hg;clear hn hs hT ao al an B0 hg;go_enter func50,ntmps50;go_wp2_with fail;refine HG.a.mono ?_;rintro e w1 ⟨rfl,rfl⟩;go_wp2_with fail;refine fh I (.take 0 (.take 1 (.take 2 (.take 3 (.take 4 (.take 5 (.take 6 (.take 7 (.take 8 (.take 9 (.take 10 (.two 11 15 (.take 12 (.take 13 (.take 14 (.go 15 (.go 16 (.go 17 .nil)))))) (.go 11 (.take 12 (.take 13 (.take 14 (.go 16 (.go 17 .nil)))))))))))))))))) (by kernel_rfl) (by kernel_rfl) ap ?_
 iterate 11
  refine' pT ?_ ?_;rotate_left
  ·intro x;go_simp
   try rfl
  try simp only[pu]
 refine gL ?h1 ?h2
 case' h1=>
  refine pD fun K hK=>?_;go_simp;refine(HG.b _ HG.d.drew).mono ?_;rintro e w2 ⟨rfl,ad⟩;have T2:=FF.below (w:=w.drew) (HG.c.below HG.d.drew) ad;have a0:=HG.d.drew.trans (ad.mono HG.d.drew.size);have B2:=kq2 T2 a0;clear T2 ad a0
  try go_simp
  refine hK.out _ _ (HI.out _ B2.a) ?_;clear hK K
  try simp only[pu]
  iterate 3
   refine' pT ?_ ?_;rotate_left
   ·intro x;go_simp
    try rfl
   try simp only[pu]
  refine pD fun K hK=>?_;go_simp;have A2:=(aa w2.heap.size w2).alloc Ih (.cells #[.int .u64 0,.int .u64 0] 137);have TA:=B2.a.below A2;have BA:=B2.b.trans (A2.mono B2.b.size);have qA:=heap_alloc_new w2 (.cells #[.int .u64 0,.int .u64 0] 137);have ar:w.heap.size<=w2.heap.size:=B2.b.size;clear A2 B2;generalize w2.alloc (.cells #[.int .u64 0,.int .u64 0] 137)=W at*;generalize w2.heap.size=b6 at*
  try go_simp
  refine hK.out _ _ (HI.out _ TA) ?_;clear hK K
  try simp only[pu]
  obtain⟨c0,c1⟩:=Fp qA;obtain⟨f0,f1⟩:=ef qA;have HA:=kq4 TA BA qA ar;clear TA BA qA ar;refine pD fun K hK=>?_;go_simp;have qB:=ew HA.c (.int .u64 k0) (.int .u64 k1);have BB:=eT HA.b (HA.d) (.int .u64 k0) (.int .u64 k1);have TB:FF ((W.setCell ⟨b6,0,none⟩ (.int .u64 k0)).setCell ⟨b6,1,none⟩ (.int .u64 k1)) px ps ty kv kind td root:=HG.c.below BB;have au:=HA.d;clear c0 c1 f0 f1 HA;generalize ((W.setCell ⟨b6,0,none⟩ (.int .u64 k0)).setCell ⟨b6,1,none⟩ (.int .u64 k1))=W7 at*
  try go_simp
  refine hK.out _ _ (HI.out _ TB) ?_;clear hK K
  try simp only[pu]
  refine pD fun K hK=>?_;go_simp
  try go_simp
  refine hK.out _ _ (HI.out _ TB) ?_;clear hK K
  try simp only[pu]
  refine eP ?_;have H7:=kq4 TB BB qB au;clear TB BB qB au;clear w2
 case' h2=>
  refine pD fun K hK=>?_;go_simp;have A2:=(aa w.heap.size w).alloc Ih (.cells #[.int .u64 0,.int .u64 0] 137);have BA:=(HG.d.trans (A2.mono HG.d.size)).drew;have qA:(w.alloc (.cells #[.int .u64 0,.int .u64 0] 137)).drew.heap[w.heap.size]?=_:=heap_alloc_new w (.cells #[.int .u64 0,.int .u64 0] 137);have TA:=HG.c.below BA;clear A2;generalize (w.alloc (.cells #[.int .u64 0,.int .u64 0] 137)).drew=w1 at*
  try go_simp
  refine hK.out _ _ (HI.out _ TA) ?_;clear hK K
  try simp only[pu]
  have ai:=kq3 TA BA qA;clear TA BA qA;refine pD fun K hK=>?_;go_simp;refine(HG.b _ ai.b).mono ?_;rintro e W ⟨rfl,ad⟩;have TA:=ai.a.below ad;have BA:=ai.b.trans (ad.mono ai.b.size);have qA:=(ad.block w.heap.size (gl ai.c)).trans ai.c;obtain⟨b6,a1⟩:=Ii w.heap.size;have ar:w.heap.size<=b6:=by omega
  rw[a1] at qA;simp only[a1];clear ad ai
  try go_simp
  refine hK.out _ _ (HI.out _ TA) ?_;clear hK K
  try simp only[pu]
  iterate 3
   refine' pT ?_ ?_;rotate_left
   ·intro x;go_simp
    try rfl
   try simp only[pu]
  obtain⟨c0,c1⟩:=Fp qA;obtain⟨f0,f1⟩:=ef qA;have HA:=kq4 TA BA qA ar;clear TA BA qA ar;refine pD fun K hK=>?_;go_simp;have qB:=ew HA.c (.int .u64 k0) (.int .u64 k1);have BB:=eT HA.b (HA.d) (.int .u64 k0) (.int .u64 k1);have TB:FF ((W.setCell ⟨b6,0,none⟩ (.int .u64 k0)).setCell ⟨b6,1,none⟩ (.int .u64 k1)) px ps ty kv kind td root:=HG.c.below BB;have au:=HA.d;clear c0 c1 f0 f1 HA;generalize ((W.setCell ⟨b6,0,none⟩ (.int .u64 k0)).setCell ⟨b6,1,none⟩ (.int .u64 k1))=W7 at*
  try go_simp
  refine hK.out _ _ (HI.out _ TB) ?_;clear hK K
  try simp only[pu]
  refine pD fun K hK=>?_;go_simp
  try go_simp
  refine hK.out _ _ (HI.out _ TB) ?_;clear hK K
  try simp only[pu]
  refine eP ?_;have H7:=kq4 TB BB qB au;clear TB BB qB au;clear w1
 all_goals
  clear HI ap a3 m0 m1 m2 m3 m4 I;obtain⟨I,ao,al⟩:=lB (fun w'=>FF w' px ps ty kv kind td root) (fun w'=>w'.heap[b6]?=some (.cells #[.int .u64 k0,.int .u64 k1] 137));have an:=fun x:Fq I=>(ao _ x.ok).1;have a2:=fun x:Fq I=>(ao _ x.ok).2;simp only[FF] at an;obtain⟨m0,m1,m2,m3,m4⟩:=iK an;obtain⟨n0,n1⟩:=fw a2;have HI:=If al;have ap:I W7.drew:=al _ H7.a H7.c;clear ao al an a2;go_wp2_with fail;refine fh I (.take 0 (.take 1 (.take 2 (.take 3 (.take 4 (.take 5 (.go 6 (.take 7 (.take 8 (.take 9 (.go 10 (.go 11 .nil)))))))))))) (by kernel_rfl) (by kernel_rfl) ap ?_;clear ap
  iterate 6
   refine' pT ?_ ?_;rotate_left
   ·intro x;go_simp
    try rfl
   try simp only[pu]
  refine pD fun K hK=>?_;go_simp;refine(HU.out _ H7.b.drew).mono ?_;rintro e w8 ⟨rfl,hb⟩;have T2:=FF.below (w:=W7.drew) (H7.a.below (aa _ _).drew) hb;have q2:=(hb.block b6 (gl H7.c)).trans H7.c;have HX:=kq3 T2 q2 (H7.b.drew.trans (hb.mono H7.b.drew.size));clear hb T2 q2
  try go_simp
  refine hK.out _ _ (HI.out _ HX.a HX.b) ?_;clear hK K
  try simp only[pu]
  iterate 3
   refine' pT ?_ ?_;rotate_left
   ·intro x;go_simp
    try rfl
   try simp only[pu]
  refine pD fun K hK=>?_;go_simp
  try go_simp
  refine hK.out _ _ (HI.out _ HX.a HX.b) ?_;clear hK K
  try simp only[pu]
  refine pD fun K hK=>?_;go_simp
  try go_simp
  refine hK.out _ _ (HI.out _ HX.a HX.b) ?_;clear hK K
  try simp only[pu]
  refine eP ?_;go_wp2_with fail;go_ret2;exact⟨rfl,HX.c⟩
theorem sU{px ps kind td root:Nat}(hT:FF w px ps ty kv kind td root)(k:Int)(k0 k1:Nat)(hme:∀(f:Nat) (v:Value) (w:World),(method (f+1) ty v "loft/backend.at").run prog w=.ok (fm,v) w)(hen:∀(args:Array Value) (w:World),(callFunc fm args).run prog w=.ok (.enter fm args) w)(hs:∀W,Below w.heap.size w W->Ct fm #[kv,.int .u64 root,.int .i64 k] W fun e w'=>e=.returned (.tuple #[.agg #[.int .u64 k0,.int .u64 k1],.int .i64 2])/\Below W.heap.size W w'):
 Cb 53 #[PV px,.int .i64 k] w (.tuple #[.agg #[.string ⟨#[]⟩,.string ⟨#[]⟩],.int .i64 2]):=by
 have B0:=(aa w.heap.size w).alloc Ih (.cells #[.string ⟨#[]⟩,.string ⟨#[]⟩] 34);have y0:=heap_alloc_new w (.cells #[.string ⟨#[]⟩,.string ⟨#[]⟩] 34);have hn:=kw (hT.below B0);obtain⟨I,au,ao⟩:=kN px ps ty kv kind td root;have ap:=fun x:Fq I=>au _ x.ok;simp only[FF] at ap;obtain⟨m0,m1,m2,m3,m4⟩:=iK ap;have a0:I (w.alloc (.cells #[.string ⟨#[]⟩,.string ⟨#[]⟩] 34)).drew:=ao _ (hT.below B0.drew);have HI:=If ao;have HG:=kq5 hn hs hT B0 y0;clear hn hs hT au ao ap B0 y0;go_enter func53,ntmps53;go_wp2_with fail;refine HG.a.mono ?_;rintro e w1 ⟨rfl,rfl⟩;go_wp2_with fail;refine fh I (.take 0 (.take 1 (.take 2 (.take 3 (.take 4 (.take 5 (.take 6 (.take 7 (.take 8 (.take 9 (.take 10 (.two 11 15 (.take 12 (.take 13 (.take 14 (.go 15 (.go 16 (.go 17 .nil)))))) (.go 11 (.take 12 (.take 13 (.take 14 (.go 16 (.go 17 .nil)))))))))))))))))) (by kernel_rfl) (by kernel_rfl) a0 ?_
 iterate 11
  refine' pT ?_ ?_;rotate_left
  ·intro x;go_simp
   try rfl
  try simp only[pu]
 refine gL ?h1 ?h2
 case' h1=>
  refine pD fun K hK=>?_;go_simp;refine(HG.b _ HG.d.drew).mono ?_;rintro e w2 ⟨rfl,ad⟩;have T2:=FF.below (w:=(w.alloc (.cells #[.string ⟨#[]⟩,.string ⟨#[]⟩] 34)).drew) (HG.c.below HG.d.drew) ad;have y2:=(ad.block w.heap.size (by show w.heap.size<(w.alloc _).heap.size;simp)).trans HG.e;have ar:=HG.d.drew.trans (ad.mono HG.d.drew.size);have B2:=kq3 T2 ar y2;clear T2 ad ar y2
  try go_simp
  refine hK.out _ _ (HI.out _ B2.a) ?_;clear hK K
  try simp only[pu]
  iterate 3
   refine' pT ?_ ?_;rotate_left
   ·intro x;go_simp
    try rfl
   try simp only[pu]
  refine pD fun K hK=>?_;go_simp;have A2:=(aa w2.heap.size w2).alloc Ih (.cells #[.int .u64 0,.int .u64 0] 137);have TA:=B2.a.below A2;have BA:=B2.b.trans (A2.mono B2.b.size);have yA:=(A2.block w.heap.size (gl B2.c)).trans B2.c;have qA:=heap_alloc_new w2 (.cells #[.int .u64 0,.int .u64 0] 137);have al:w.heap.size<w2.heap.size:=(gl B2.c);clear A2 B2;generalize w2.alloc (.cells #[.int .u64 0,.int .u64 0] 137)=W at*;generalize w2.heap.size=b6 at*
  try go_simp
  refine hK.out _ _ (HI.out _ TA) ?_;clear hK K
  try simp only[pu]
  obtain⟨c0,c1⟩:=Fp qA;obtain⟨f0,f1⟩:=ef qA;have HA:=kq5 TA BA yA qA al;clear TA BA yA qA al;refine pD fun K hK=>?_;go_simp;have qB:=ew HA.d (.int .u64 k0) (.int .u64 k1);have BB:=eT HA.b (cO HA.e) (.int .u64 k0) (.int .u64 k1);have yB:=(fA (cP HA.e) (.int .u64 k0) (.int .u64 k1)).trans HA.c;have TB:FF ((W.setCell ⟨b6,0,none⟩ (.int .u64 k0)).setCell ⟨b6,1,none⟩ (.int .u64 k1)) px ps ty kv kind td root:=HG.c.below BB;have an:=HA.e;clear c0 c1 f0 f1 HA;generalize ((W.setCell ⟨b6,0,none⟩ (.int .u64 k0)).setCell ⟨b6,1,none⟩ (.int .u64 k1))=W7 at*
  try go_simp
  refine hK.out _ _ (HI.out _ TB) ?_;clear hK K
  try simp only[pu]
  refine pD fun K hK=>?_;go_simp
  try go_simp
  refine hK.out _ _ (HI.out _ TB) ?_;clear hK K
  try simp only[pu]
  refine eP ?_;have H7:=kq5 TB BB yB qB an;clear TB BB yB qB an;clear w2
 case' h2=>
  refine pD fun K hK=>?_;go_simp;have A2:=(aa (w.alloc (.cells #[.string ⟨#[]⟩,.string ⟨#[]⟩] 34)).heap.size (w.alloc (.cells #[.string ⟨#[]⟩,.string ⟨#[]⟩] 34))).alloc Ih (.cells #[.int .u64 0,.int .u64 0] 137);have BA:=(HG.d.trans (A2.mono HG.d.size)).drew;have qA:((w.alloc (.cells #[.string ⟨#[]⟩,.string ⟨#[]⟩] 34)).alloc (.cells #[.int .u64 0,.int .u64 0] 137)).drew.heap[(w.alloc (.cells #[.string ⟨#[]⟩,.string ⟨#[]⟩] 34)).heap.size]?=_:=heap_alloc_new (w.alloc (.cells #[.string ⟨#[]⟩,.string ⟨#[]⟩] 34)) (.cells #[.int .u64 0,.int .u64 0] 137);have yA:((w.alloc (.cells #[.string ⟨#[]⟩,.string ⟨#[]⟩] 34)).alloc (.cells #[.int .u64 0,.int .u64 0] 137)).drew.heap[w.heap.size]?=_:=(A2.block w.heap.size (by simp)).trans HG.e;simp only[World.size_alloc] at qA;have TA:=HG.c.below BA;clear A2;generalize ((w.alloc (.cells #[.string ⟨#[]⟩,.string ⟨#[]⟩] 34)).alloc (.cells #[.int .u64 0,.int .u64 0] 137)).drew=w1 at*
  try go_simp
  refine hK.out _ _ (HI.out _ TA) ?_;clear hK K
  try simp only[pu]
  have ai:=kq4 TA BA yA qA;clear TA BA yA qA;refine pD fun K hK=>?_;go_simp;refine(HG.b _ ai.b).mono ?_;rintro e W ⟨rfl,ad⟩;have TA:=ai.a.below ad;have BA:=ai.b.trans (ad.mono ai.b.size);have yA:=(ad.block w.heap.size (gl ai.c)).trans ai.c;have qA:=(ad.block (w.heap.size+1) (gl ai.d)).trans ai.d;have al:w.heap.size<w.heap.size+1:=by omega
  clear ad ai;generalize w.heap.size+1=b6 at*
  try go_simp
  refine hK.out _ _ (HI.out _ TA) ?_;clear hK K
  try simp only[pu]
  iterate 3
   refine' pT ?_ ?_;rotate_left
   ·intro x;go_simp
    try rfl
   try simp only[pu]
  obtain⟨c0,c1⟩:=Fp qA;obtain⟨f0,f1⟩:=ef qA;have HA:=kq5 TA BA yA qA al;clear TA BA yA qA al;refine pD fun K hK=>?_;go_simp;have qB:=ew HA.d (.int .u64 k0) (.int .u64 k1);have BB:=eT HA.b (cO HA.e) (.int .u64 k0) (.int .u64 k1);have yB:=(fA (cP HA.e) (.int .u64 k0) (.int .u64 k1)).trans HA.c;have TB:FF ((W.setCell ⟨b6,0,none⟩ (.int .u64 k0)).setCell ⟨b6,1,none⟩ (.int .u64 k1)) px ps ty kv kind td root:=HG.c.below BB;have an:=HA.e;clear c0 c1 f0 f1 HA;generalize ((W.setCell ⟨b6,0,none⟩ (.int .u64 k0)).setCell ⟨b6,1,none⟩ (.int .u64 k1))=W7 at*
  try go_simp
  refine hK.out _ _ (HI.out _ TB) ?_;clear hK K
  try simp only[pu]
  refine pD fun K hK=>?_;go_simp
  try go_simp
  refine hK.out _ _ (HI.out _ TB) ?_;clear hK K
  try simp only[pu]
  refine eP ?_;have H7:=kq5 TB BB yB qB an;clear TB BB yB qB an;clear w1
 all_goals
  have y:=H7.c;obtain⟨c0,c1⟩:=Fp y;obtain⟨f0,f1⟩:=ef y;have q5:=ew y (.string ⟨#[]⟩) (.string ⟨#[]⟩);have B5:=eT H7.b Ih (.string ⟨#[]⟩) (.string ⟨#[]⟩);have HB:=kq2 q5 B5;clear y q5 B5;go_wp2_with fail;obtain⟨q5,B5⟩:=HB.out;generalize ((W7.setCell ⟨w.heap.size,0,none⟩ (.string ⟨#[]⟩)).setCell ⟨w.heap.size,1,none⟩ (.string ⟨#[]⟩))=wF at*;obtain⟨e0,e1⟩:=Fp q5;exact bodyPost_ret (v:=.tuple #[.agg #[.string ⟨#[]⟩,.string ⟨#[]⟩],.int .i64 2]) (by simp[results,f53,go_sem,e0,e1]) rfl ⟨rfl,B5⟩
def Lf.binRepM(jn:Jn)(S:St)(root k v:Nat):Option ((Nat×Nat×Nat)×St):=
 if(ft S ⟨k,v,0,0,0,1⟩).1.2≠0 then none
 else match insertOkM jn (ft S ⟨k,v,0,0,0,1⟩).2 root (ft S ⟨k,v,0,0,0,1⟩).1.1 with
  | none=>none
  | some ((now,o),S1)=>match jr S1 o with
   | (0,S2)=>some ((now,(getNode S1 o).1.key,(getNode S1 o).1.val),S2)
   | _=>none
theorem y9{jn:Jn}{S S':St}{root k v:Nat}{R:Nat×Nat×Nat}(h:binRepM jn S root k v=some (R,S')):
 ∃o S1,(ft S ⟨k,v,0,0,0,1⟩).1.2=0/\insertOkM jn (ft S ⟨k,v,0,0,0,1⟩).2 root (ft S ⟨k,v,0,0,0,1⟩).1.1=some ((R.1,o),S1)/\jr S1 o=(0,S')/\R.2.1=(getNode S1 o).1.key/\R.2.2=(getNode S1 o).1.val:=by
 unfold binRepM at h
 split at h
 ·cases h
 ·rename_i h0
  split at h
  ·cases h
  ·rename_i now o S1 h1
   split at h
   ·rename_i S2 h2;have h:=Option.some.inj h
    injection h with e1 e2
    subst e1 e2;exact⟨o,S1,de.1 h0,h1,h2,rfl,rfl⟩
   ·cases h
theorem zd{S S':St}(h:Ig w ps S Y)(hm:iw S 6){kind:Nat}{j c:FuncId}{jn:Jn}(hk:jD kind j c jn)(root k v:Nat)(hl:root<2^64)(hkl:k<2^64)(hvl:v<2^64){R:Nat×Nat×Nat}(hx:binRepM jn S root k v=some (R,S'))(hi':Fv S'):
 Ct 288 #[fE ps kind,.int .u64 root,Id k v] w fun e w'=>e=.returned (.tuple #[.int .u64 R.1,Id R.2.1 R.2.2,.bool true,.int .i64 0])/\Ig w' ps S' Y/\Fo Y w w'/\Fv S'/\R.1<2^64:=by
 obtain⟨o,S2,h0,h1,h2,e1,e2⟩:=y9 hx;obtain⟨x,ik,iv⟩:=R;simp only at h1 e1 e2⊢;have ao:=vz hm ⟨k,v,0,0,0,1⟩;have a2:=vA h.tabwf ⟨k,v,0,0,0,1⟩;have ai:=fun W Z (hW:Ig W ps S Z)=>vU hW hm ⟨k,v,0,0,0,1⟩ ⟨hkl,hvl,by simp,by simp,by simp,by simp⟩;generalize ft S ⟨k,v,0,0,0,1⟩=M at*;obtain⟨⟨m,em⟩,S1⟩:=M;simp only at h0 h1 ao a2 ai;subst h0;have a1:=fun W Z (hW:Ig W ps S1 Z)=>wk hW ao hk.joins hk.way root m hl a2 h1;have al:=fun W Z (hi2:Fv S2) (ho:o<2^64) (hW:Ig W ps S2 Z)=>zi hW hi2 kind o ho h2;rw[<-e1,<-e2] at al;simp only[fE,Id,eS] at ai al⊢;have B1:=(aa w.heap.size w).alloc Ih (.cells #[PV ps,.int .i64 kind] 185);have q1:=heap_alloc_new w (.cells #[PV ps,.int .i64 kind] 185);generalize a4:w.alloc (.cells #[PV ps,.int .i64 kind] 185)=w1 at*;have z1:w1.heap.size=w.heap.size+1:=by rw[<-a4];simp
 have A2:=(aa w1.heap.size w1).alloc Ih (.cells #[.int .u64 k,.int .u64 v] 137);have B2:=B1.alloc B1.size (.cells #[.int .u64 k,.int .u64 v] 137);have q2:=(A2.block w.heap.size (by omega)).trans q1;have z2:(w1.alloc (.cells #[.int .u64 k,.int .u64 v] 137)).heap.size=w.heap.size+2:=by simp[z1]
 generalize a8:w1.alloc (.cells #[.int .u64 k,.int .u64 v] 137)=w2 at*;have A3:=(aa w2.heap.size w2).alloc Ih (.cells #[.int .u64 0,.int .u64 0] 137);have q3:=(A3.block w.heap.size (by omega)).trans q2;have B3:=B2.alloc B2.size (.cells #[.int .u64 0,.int .u64 0] 137);have y3:=heap_alloc_new w2 (.cells #[.int .u64 0,.int .u64 0] 137);rw[z2] at y3;have z3:(w2.alloc (.cells #[.int .u64 0,.int .u64 0] 137)).heap.size=w.heap.size+3:=by simp[z2]
 subst a8 a4;have hY:=h.yl;have HG:=kq9 ai a1 al (h.wide B3) q3 y3 z3 B3 hY;clear ai a1 al h q1 q2 q3 y3 A2 A3 B1 B2 B3 z1 z2 z3 ao h1 h2 e1 e2 hm hk hY hx;go_enter func288,ntmps288;go_wp2_with fail;refine(HG.a _ _ HG.d).mono ?_;rintro e w4 ⟨rfl,h4,k4⟩;have q4:=(k4.block w.heap.size (ae ⟨Nat.le_refl _,by have:=HG.g;omega⟩)).trans HG.e;have y4:=(k4.block (w.heap.size+2) (ae ⟨by omega,by have:=HG.g;omega⟩)).trans HG.f;obtain⟨c0,c1⟩:=Fp q4;have H4:=kq4 h4 k4 q4 y4;clear h4 k4 q4 y4;go_wp2_with fail;obtain⟨hp,a0,a5,a3⟩:=HG.b _ _ H4.a;refine hp.mono ?_;rintro e w5 ⟨rfl,h5,k5⟩;have q5:=(k5.block w.heap.size (ae ⟨Nat.le_refl _,by have:=HG.g;omega⟩)).trans H4.c;have y5:=(k5.block (w.heap.size+2) (ae ⟨by omega,by have:=HG.g;omega⟩)).trans H4.d;obtain⟨d0,d1⟩:=Fp q5;have H5:=kq6 h5 (H4.b.trans k5) a0 a5 y5 a3;clear h5 k5 q5 y5 hp a0 a5 a3 c0 c1;go_wp2_with fail;refine(HG.c _ _ H5.c H5.f H5.a).mono ?_;rintro e w6 ⟨rfl,h6,ap⟩;have y6:=(ap.block (w.heap.size+2) (ae ⟨by omega,by have:=HG.g;omega⟩)).trans H5.e;obtain⟨e0,e1⟩:=Fp y6;obtain⟨f0,f1⟩:=ef y6;have q7:((w6.setCell ⟨(w.heap.size+2),0,none⟩ (.int .u64 ik)).setCell ⟨(w.heap.size+2),1,none⟩ (.int .u64 iv)).heap[w.heap.size+2]?=_:=ew y6 (.int .u64 ik) (.int .u64 iv);have o7:∀k,k≠w.heap.size+2->((w6.setCell ⟨(w.heap.size+2),0,none⟩ (.int .u64 ik)).setCell ⟨(w.heap.size+2),1,none⟩ (.int .u64 iv)).heap[k]?=w6.heap[k]?:=fun k hk=>fA hk _ _;have z7:((w6.setCell ⟨(w.heap.size+2),0,none⟩ (.int .u64 ik)).setCell ⟨(w.heap.size+2),1,none⟩ (.int .u64 iv)).heap.size=w6.heap.size:=by simp
 have s7:((w6.setCell ⟨(w.heap.size+2),0,none⟩ (.int .u64 ik)).setCell ⟨(w.heap.size+2),1,none⟩ (.int .u64 iv)).os=w6.os/\((w6.setCell ⟨(w.heap.size+2),0,none⟩ (.int .u64 ik)).setCell ⟨(w.heap.size+2),1,none⟩ (.int .u64 iv)).tape=w6.tape/\((w6.setCell ⟨(w.heap.size+2),0,none⟩ (.int .u64 ik)).setCell ⟨(w.heap.size+2),1,none⟩ (.int .u64 iv)).output=w6.output:=⟨rfl,rfl,rfl⟩;have a9:∀k,Y k->k<w.heap.size:=HG.i;have k6:=H5.b.trans ap;have H6:=kq9 h6 k6 H5.c H5.d y6 q7 o7 z7 s7;clear y6 d0 d1 h6 k6 ap o7 z7 s7 q7;go_wp2_with fail;generalize ((w6.setCell ⟨(w.heap.size+2),0,none⟩ (.int .u64 ik)).setCell ⟨(w.heap.size+2),1,none⟩ (.int .u64 iv))=w7 at*;have q7:=H6.f;obtain⟨I,ar,an⟩:∃I:World->Prop,(∀w',I w'->w'.heap[w.heap.size+2]?=some (.cells #[.int .u64 ik,.int .u64 iv] 137))/\(∀w',w'.heap[w.heap.size+2]?=some (.cells #[.int .u64 ik,.int .u64 iv] 137)->I w'):=⟨fun w'=>w'.heap[w.heap.size+2]?=some (.cells #[.int .u64 ik,.int .u64 iv] 137),fun _ h=>h,fun _ a=>a⟩;have a6:=fun x:Fq I=>ar _ x.ok;obtain⟨m0,m1⟩:=fw a6;obtain⟨g0,g1⟩:=Fp q7;obtain⟨h0,h1⟩:=ef q7;have HI:=If an;have a7:I w7.drew:=an _ q7;have HQ:=If q7;clear e0 e1 f0 f1 q7 ar an a6;refine nF I [(true,0),(true,1),(true,2),(true,3),(false,4),(false,5),(false,6),(false,7)] (by kernel_rfl) (by kernel_rfl) a7 ?_
 iterate 4
  refine' mT ?_ ?_;rotate_left
  ·intro x;go_simp
   try rfl
  try simp only[pu]
 refine mD fun K hK=>?_;go_simp
 try go_simp
 refine hK.out _ _ (HI.out _ HQ.out) ?_;clear hK K
 try simp only[pu]
 refine mD fun K hK=>?_;go_simp;have q8:((w7.setCell ⟨(w.heap.size+2),0,none⟩ (.int .u64 ik)).setCell ⟨(w.heap.size+2),1,none⟩ (.int .u64 iv)).drew.heap[w.heap.size+2]?=_:=ew HQ.out (.int .u64 ik) (.int .u64 iv);have o8:∀k,k≠w.heap.size+2->((w7.setCell ⟨(w.heap.size+2),0,none⟩ (.int .u64 ik)).setCell ⟨(w.heap.size+2),1,none⟩ (.int .u64 iv)).drew.heap[k]?=w7.heap[k]?:=fun k hk=>fA hk _ _;have z8:((w7.setCell ⟨(w.heap.size+2),0,none⟩ (.int .u64 ik)).setCell ⟨(w.heap.size+2),1,none⟩ (.int .u64 iv)).drew.heap.size=w7.heap.size:=by show ((w7.setCell ⟨(w.heap.size+2),0,none⟩ (.int .u64 ik)).setCell ⟨(w.heap.size+2),1,none⟩ (.int .u64 iv)).heap.size=_;simp
 have s8:((w7.setCell ⟨(w.heap.size+2),0,none⟩ (.int .u64 ik)).setCell ⟨(w.heap.size+2),1,none⟩ (.int .u64 iv)).drew.os=w7.os/\((w7.setCell ⟨(w.heap.size+2),0,none⟩ (.int .u64 ik)).setCell ⟨(w.heap.size+2),1,none⟩ (.int .u64 iv)).drew.tape=w7.tape/\((w7.setCell ⟨(w.heap.size+2),0,none⟩ (.int .u64 ik)).setCell ⟨(w.heap.size+2),1,none⟩ (.int .u64 iv)).drew.output=w7.output:=⟨rfl,rfl,rfl⟩;generalize ((w7.setCell ⟨(w.heap.size+2),0,none⟩ (.int .u64 ik)).setCell ⟨(w.heap.size+2),1,none⟩ (.int .u64 iv)).drew=w8 at*
 try go_simp
 refine hK.out _ _ (HI.out _ q8) ?_;clear hK K
 try simp only[pu]
 refine mD fun K hK=>?_;go_simp
 try go_simp
 refine hK.out _ _ (HI.out _ q8) ?_;clear hK K
 try simp only[pu]
 refine mD fun K hK=>?_;go_simp
 try go_simp
 refine hK.out _ _ (HI.out _ q8) ?_;clear hK K
 try simp only[pu]
 refine mX ?_;obtain⟨e0,e1⟩:=Fp q8;have au:Ig w8 ps S' Y/\Fo Y w w8:=by
  obtain⟨h6,k6,-,-,y6,-,o7,z7,s7⟩:=H6.out;have hY:=HG.i;have hz:=HG.g;have hw:∀k,k≠w.heap.size+2->w8.heap[k]?=w6.heap[k]?:=fun k hk=>(o8 k hk).trans (o7 k hk);refine⟨(h6.write (ae ⟨by omega,by omega⟩) y6 ⟨by decide,by decide⟩ (by simp) (by omega) fun k _ hk=>hw k hk).mono fun k hk=>ab hk,?_⟩;have ad:=(Fo.of_below HG.h hY).trans (k6.mono fun k hk=>ab hk);exact⟨(s8.1.trans s7.1).trans ad.os,(s8.2.1.trans s7.2.1).trans ad.tape,(s8.2.2.trans s7.2.2).trans ad.output,by have:=ad.size;omega,fun k hk=>(hw k (by have:=hY k hk;omega)).trans (ad.block k hk)⟩
 have HF:=If au;clear au q8 o8 z8 s8 g0 g1 h0 h1 m0 m1;go_wp2_with fail;exact bodyPost_ret (v:=.tuple #[.int .u64 x,.agg #[.int .u64 ik,.int .u64 iv],.bool true,.int .i64 0]) (by simp[results,f288,go_sem,e0,e1]) rfl ⟨rfl,HF.out.1,HF.out.2,hi',H6.d⟩
def Lf.treeRepM(jn:Jn)(S:St)(root:Nat)(a b:List UInt8):Option ((Nat×Nat×Nat)×St):=
 match itemsM S a b with
 | none=>none
 | some (p,S1)=>binRepM jn S1 root p.1 p.2
theorem qDcac{P:Prop}(h:P:=by
 split at h
 ·cases h
 ·rename_i S1 h1;obtain⟨S2,h2,h3⟩:=aB.1 h
  injection h3 with e1 e2
  subst e1 e2;exact⟨S1,h1,h2,rfl⟩):P:=h
theorem rp{S S':St}{hh x:Nat}(h:leftM S hh=some (x,S')):∃S1,fu S (getNode S hh).1 hh (getNode S hh).1.left (getNode S (getNode S hh).1.right).1.left=some S1/\fu S1 (getNode S (getNode S hh).1.right).1 (getNode S hh).1.right hh (getNode S (getNode S hh).1.right).1.right=some S'/\x=(getNode S hh).1.right:=by
 unfold leftM at h;exact qDcac
theorem ow{S S':St}{hh x:Nat}(hi:Fv S)(h:leftM S hh=some (x,S')):Fv S':=by
 obtain⟨S1,h1,h2,_⟩:=rp h;exact gX (gX hi h1) h2
theorem qDcaa{P:Prop}(h:P:=by
 iterate 13
  refine' hC ?_ ?_;rotate_left
  ·intro x;go_simp
   try rfl
  simp only[pu]
 refine mo ?_;clear y0 y1 y2 y3 y4 y5 y6 z0 z1 z2 z3 z4 z5 z6;refine gF _ (by rfl) (by rfl) (fun K hK=>?_);go_simp;refine(HG.c _ _ (HZ.a.below (aa _ _).drew)).mono ?_;rintro e w5 ⟨rfl,h5,au⟩;have u5:=(au.block b1 (ae ⟨by omega,a7⟩)).trans HZ.b;have v5:=(au.block b2 (ae ⟨by omega,a8⟩)).trans HZ.c;have H5:=kq4 h5 au u5 v5;clear h5 au u5 v5
 try go_simp
 refine hK.out _ _ (HI.out _ H5.c H5.d) ?_;clear hK K
 try simp only[pu]
 refine gF _ (by rfl) (by rfl) (fun K hK=>?_);go_simp;refine(HG.d _ _ H5.a).mono ?_;rintro e w6 ⟨rfl,h6,a0⟩;have u6:=(a0.block b1 (ae ⟨by omega,a7⟩)).trans H5.c;have v6:=(a0.block b2 (ae ⟨by omega,a8⟩)).trans H5.d;have H6:=kq4 h6 (H5.b.trans a0) u6 v6;clear h6 a0 u6 v6
 try go_simp
 refine hK.out _ _ (HI.out _ H6.c H6.d) ?_;clear hK K
 try simp only[pu]
 refine gF _ (by rfl) (by rfl) (fun K hK=>?_)
 try go_simp
 refine hK.out _ _ (HI.out _ H6.c H6.d) ?_;clear hK K
 try simp only[pu]
 refine mp ?_;go_wp2_with fail;go_ret;exact⟨rfl,H6.a.mono fun k hk=>ab hk,(Fo.of_below HZ.d.drew HG.e.yl).trans (H6.b.mono fun k hk=>ab hk)⟩):P:=h
theorem pR{S S':St}(h:Ig w ps S Y)(hi:Fv S)(hh:Nat)(hl:hh<2^64)(hR:leftM S hh=some (x,S')):
 Ct 262 #[PV ps,.int .u64 hh] w fun e w'=>e=.returned (.int .u64 x)/\Ig w' ps S' Y/\Fo Y w w':=by
 obtain⟨S1,h1,h2,rfl⟩:=rp hR;have an:=fs h hh;have ao:=fs h (getNode S hh).1.right;have a4:=gX hi h1;have hg:=gR h hi hh hl;have al:=fun W (hW:Below w.heap.size w W)=>gR (h.below hW) hi (getNode S hh).1.right an.right;have ad:=fun W Z (hW:Ig W ps S Z)=>jG hW hi (getNode S hh).1 an hh (getNode S hh).1.left (getNode S (getNode S hh).1.right).1.left hl (by first | exact an.left | exact ao.right) (by first | exact ao.left | exact an.right) h1;have ai:=fun W Z (hW:Ig W ps S1 Z)=>jG hW a4 (getNode S (getNode S hh).1.right).1 ao (getNode S hh).1.right hh (getNode S (getNode S hh).1.right).1.right an.right (by first | exact hl | exact ao.left) (by first | exact ao.right | exact hl) h2;obtain⟨⟨⟨k0,k1,k2,k3,k4,k5⟩,er⟩,hE⟩:∃q,getNode S hh=q:=⟨_,rfl⟩;rw[hE] at hg al ad ai⊢;simp only at hg al ad ai⊢;obtain⟨⟨⟨g0,g1,g2,g3,g4,g5⟩,bb⟩,a3⟩:∃q,getNode S k3=q:=⟨_,rfl⟩;rw[a3] at al ad ai;simp only[gP] at hg al ad ai;have HG:=kq5 hg al ad ai h;clear hg al ad ai h hi a4 h1 h2 an ao hE a3 hR;go_enter func262,ntmps262;go_wp2_with fail;refine HG.a.mono ?_;rintro e w1 ⟨rfl,ap⟩;have q:=heap_alloc_new w1 (.cells #[.int .u64 k0,.int .u64 k1,.int .u64 k2,.int .u64 k3,.int .u64 k4,.int .u64 k5,.int .u64 hh] 319);have B1:=ap.alloc ap.size (.cells #[.int .u64 k0,.int .u64 k1,.int .u64 k2,.int .u64 k3,.int .u64 k4,.int .u64 k5,.int .u64 hh] 319);have bc:=ap.size;clear ap;go_wp2_with fail;generalize a':w1.alloc (.cells #[.int .u64 k0,.int .u64 k1,.int .u64 k2,.int .u64 k3,.int .u64 k4,.int .u64 k5,.int .u64 hh] 319)=W1 at*;have ba:w1.heap.size<W1.heap.size:=(gl q);generalize w1.heap.size=b1 at*;refine(HG.b _ B1).mono ?_;rintro e w2 ⟨rfl,ar⟩;have q2:=(ar.block b1 ba).trans q;have B2:=B1.trans (ar.mono B1.size);have bd:=ar.size;clear ar q a';have q4:=heap_alloc_new w2 (.cells #[.int .u64 g0,.int .u64 g1,.int .u64 g2,.int .u64 g3,.int .u64 g4,.int .u64 g5,.int .u64 k3] 319);have r4:=(((aa w2.heap.size w2).alloc Ih (.cells #[.int .u64 g0,.int .u64 g1,.int .u64 g2,.int .u64 g3,.int .u64 g4,.int .u64 g5,.int .u64 k3] 319)).block b1 (by omega)).trans q2;have B4:=B2.alloc B2.size (.cells #[.int .u64 g0,.int .u64 g1,.int .u64 g2,.int .u64 g3,.int .u64 g4,.int .u64 g5,.int .u64 k3] 319);have bf:w.heap.size<=w2.heap.size:=B2.size;clear q2 B1 B2;go_wp2_with fail;generalize w2.alloc (.cells #[.int .u64 g0,.int .u64 g1,.int .u64 g2,.int .u64 g3,.int .u64 g4,.int .u64 g5,.int .u64 k3] 319)=W at*;generalize w2.heap.size=b2 at*;have a7:=(gl r4);have a8:=(gl q4);have HZ:=kq4 (HG.e.wide B4) r4 q4 B4;obtain⟨I,a1,a2⟩:∃I:World->Prop,(∀w',I w'->w'.heap[b1]?=some (.cells #[.int .u64 k0,.int .u64 k1,.int .u64 k2,.int .u64 k3,.int .u64 k4,.int .u64 k5,.int .u64 hh] 319 (0,0))/\w'.heap[b2]?=some (.cells #[.int .u64 g0,.int .u64 g1,.int .u64 g2,.int .u64 g3,.int .u64 g4,.int .u64 g5,.int .u64 k3] 319 (0,0)))/\(∀w',w'.heap[b1]?=some (.cells #[.int .u64 k0,.int .u64 k1,.int .u64 k2,.int .u64 k3,.int .u64 k4,.int .u64 k5,.int .u64 hh] 319 (0,0))->w'.heap[b2]?=some (.cells #[.int .u64 g0,.int .u64 g1,.int .u64 g2,.int .u64 g3,.int .u64 g4,.int .u64 g5,.int .u64 k3] 319 (0,0))->I w'):=⟨fun w'=>w'.heap[b1]?=some (.cells #[.int .u64 k0,.int .u64 k1,.int .u64 k2,.int .u64 k3,.int .u64 k4,.int .u64 k5,.int .u64 hh] 319 (0,0))/\w'.heap[b2]?=some (.cells #[.int .u64 g0,.int .u64 g1,.int .u64 g2,.int .u64 g3,.int .u64 g4,.int .u64 g5,.int .u64 k3] 319 (0,0)),fun _ h=>h,fun _ a b=>⟨a,b⟩⟩;have a5:=fun x:Fq I=>(a1 _ x.ok).1;have a6:=fun x:Fq I=>(a1 _ x.ok).2;obtain⟨y0,y1,y2,y3,y4,y5,y6⟩:=iZ a5;obtain⟨z0,z1,z2,z3,z4,z5,z6⟩:=iZ a6;have HI:=If a2;have a9:I W.drew:=a2 _ r4 q4;clear a5 a6 q4 r4 B4 a1 a2;refine mq I [0,1,2,3,4,5,6,7,8,9,11,12,13] [10,14,15] (by kernel_rfl) (by kernel_rfl) a9 ?_;exact qDcaa
theorem se{S S':St}{hh x:Nat}(h:rightM S hh=some (x,S')):∃S1,fu S (getNode S hh).1 hh (getNode S (getNode S hh).1.left).1.right (getNode S hh).1.right=some S1/\fu S1 (getNode S (getNode S hh).1.left).1 (getNode S hh).1.left (getNode S (getNode S hh).1.left).1.left hh=some S'/\x=(getNode S hh).1.left:=by
 unfold rightM at h;exact qDcac
theorem oT{S S':St}{hh x:Nat}(hi:Fv S)(h:rightM S hh=some (x,S')):Fv S':=by
 obtain⟨S1,h1,h2,_⟩:=se h;exact gX (gX hi h1) h2
theorem pS{S S':St}(h:Ig w ps S Y)(hi:Fv S)(hh:Nat)(hl:hh<2^64)(hR:rightM S hh=some (x,S')):
 Ct 263 #[PV ps,.int .u64 hh] w fun e w'=>e=.returned (.int .u64 x)/\Ig w' ps S' Y/\Fo Y w w':=by
 obtain⟨S1,h1,h2,rfl⟩:=se hR;have an:=fs h hh;have ao:=fs h (getNode S hh).1.left;have a4:=gX hi h1;have hg:=gR h hi hh hl;have al:=fun W (hW:Below w.heap.size w W)=>gR (h.below hW) hi (getNode S hh).1.left an.left;have ad:=fun W Z (hW:Ig W ps S Z)=>jG hW hi (getNode S hh).1 an hh (getNode S (getNode S hh).1.left).1.right (getNode S hh).1.right hl (by first | exact an.left | exact ao.right) (by first | exact ao.left | exact an.right) h1;have ai:=fun W Z (hW:Ig W ps S1 Z)=>jG hW a4 (getNode S (getNode S hh).1.left).1 ao (getNode S hh).1.left (getNode S (getNode S hh).1.left).1.left hh an.left (by first | exact hl | exact ao.left) (by first | exact ao.right | exact hl) h2;obtain⟨⟨⟨k0,k1,k2,k3,k4,k5⟩,er⟩,hE⟩:∃q,getNode S hh=q:=⟨_,rfl⟩;rw[hE] at hg al ad ai⊢;simp only at hg al ad ai⊢;obtain⟨⟨⟨g0,g1,g2,g3,g4,g5⟩,bb⟩,a3⟩:∃q,getNode S k2=q:=⟨_,rfl⟩;rw[a3] at al ad ai;simp only[gP] at hg al ad ai;have HG:=kq5 hg al ad ai h;clear hg al ad ai h hi a4 h1 h2 an ao hE a3 hR;go_enter func263,ntmps263;go_wp2_with fail;refine HG.a.mono ?_;rintro e w1 ⟨rfl,ap⟩;have q:=heap_alloc_new w1 (.cells #[.int .u64 k0,.int .u64 k1,.int .u64 k2,.int .u64 k3,.int .u64 k4,.int .u64 k5,.int .u64 hh] 319);have B1:=ap.alloc ap.size (.cells #[.int .u64 k0,.int .u64 k1,.int .u64 k2,.int .u64 k3,.int .u64 k4,.int .u64 k5,.int .u64 hh] 319);have bc:=ap.size;clear ap;go_wp2_with fail;generalize a':w1.alloc (.cells #[.int .u64 k0,.int .u64 k1,.int .u64 k2,.int .u64 k3,.int .u64 k4,.int .u64 k5,.int .u64 hh] 319)=W1 at*;have ba:w1.heap.size<W1.heap.size:=(gl q);generalize w1.heap.size=b1 at*;refine(HG.b _ B1).mono ?_;rintro e w2 ⟨rfl,ar⟩;have q2:=(ar.block b1 ba).trans q;have B2:=B1.trans (ar.mono B1.size);have bd:=ar.size;clear ar q a';have q4:=heap_alloc_new w2 (.cells #[.int .u64 g0,.int .u64 g1,.int .u64 g2,.int .u64 g3,.int .u64 g4,.int .u64 g5,.int .u64 k2] 319);have r4:=(((aa w2.heap.size w2).alloc Ih (.cells #[.int .u64 g0,.int .u64 g1,.int .u64 g2,.int .u64 g3,.int .u64 g4,.int .u64 g5,.int .u64 k2] 319)).block b1 (by omega)).trans q2;have B4:=B2.alloc B2.size (.cells #[.int .u64 g0,.int .u64 g1,.int .u64 g2,.int .u64 g3,.int .u64 g4,.int .u64 g5,.int .u64 k2] 319);have bf:w.heap.size<=w2.heap.size:=B2.size;clear q2 B1 B2;go_wp2_with fail;generalize w2.alloc (.cells #[.int .u64 g0,.int .u64 g1,.int .u64 g2,.int .u64 g3,.int .u64 g4,.int .u64 g5,.int .u64 k2] 319)=W at*;generalize w2.heap.size=b2 at*;have a7:=(gl r4);have a8:=(gl q4);have HZ:=kq4 (HG.e.wide B4) r4 q4 B4;obtain⟨I,a1,a2⟩:∃I:World->Prop,(∀w',I w'->w'.heap[b1]?=some (.cells #[.int .u64 k0,.int .u64 k1,.int .u64 k2,.int .u64 k3,.int .u64 k4,.int .u64 k5,.int .u64 hh] 319 (0,0))/\w'.heap[b2]?=some (.cells #[.int .u64 g0,.int .u64 g1,.int .u64 g2,.int .u64 g3,.int .u64 g4,.int .u64 g5,.int .u64 k2] 319 (0,0)))/\(∀w',w'.heap[b1]?=some (.cells #[.int .u64 k0,.int .u64 k1,.int .u64 k2,.int .u64 k3,.int .u64 k4,.int .u64 k5,.int .u64 hh] 319 (0,0))->w'.heap[b2]?=some (.cells #[.int .u64 g0,.int .u64 g1,.int .u64 g2,.int .u64 g3,.int .u64 g4,.int .u64 g5,.int .u64 k2] 319 (0,0))->I w'):=⟨fun w'=>w'.heap[b1]?=some (.cells #[.int .u64 k0,.int .u64 k1,.int .u64 k2,.int .u64 k3,.int .u64 k4,.int .u64 k5,.int .u64 hh] 319 (0,0))/\w'.heap[b2]?=some (.cells #[.int .u64 g0,.int .u64 g1,.int .u64 g2,.int .u64 g3,.int .u64 g4,.int .u64 g5,.int .u64 k2] 319 (0,0)),fun _ h=>h,fun _ a b=>⟨a,b⟩⟩;have a5:=fun x:Fq I=>(a1 _ x.ok).1;have a6:=fun x:Fq I=>(a1 _ x.ok).2;obtain⟨y0,y1,y2,y3,y4,y5,y6⟩:=iZ a5;obtain⟨z0,z1,z2,z3,z4,z5,z6⟩:=iZ a6;have HI:=If a2;have a9:I W.drew:=a2 _ r4 q4;clear a5 a6 q4 r4 B4 a1 a2;refine mq I [0,1,2,3,4,5,6,7,8,9,10,11,12] [13,14,15] (by kernel_rfl) (by kernel_rfl) a9 ?_;exact qDcaa