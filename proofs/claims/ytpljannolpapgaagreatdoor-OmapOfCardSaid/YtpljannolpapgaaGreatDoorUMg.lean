/- Places of maps: at: the walk. -/
import Derived.Test.YtpljannolpapgaaGreatDoorUYg
import Derived.Test.YtpljannolpapgaaGreatDoorUBk
set_option maxRecDepth 100000
set_option maxHeartbeats 6400000
namespace Go.Proofs.YtpljannolpapgaaGreatDoor
section
open Go.RowKit Tryz Go.BigFrame Go.Maps Go.WideMaps Lf
variable{w:World}{z:Nat}
theorem vI{pm px ps r_:Nat}(hM:Ic w pm px ps r_)(pl:FuncId)(hen:∀(args:Array Value) (w:World),(callFunc pl args).run prog w=.ok (.enter pl args) w)(a:List UInt8)(k:Int)(s1 s2:List UInt8)
 (hpl:∀W,D_ w W->Ct pl #[PV pm,SV a] W fun e w'=>e=.returned (Xi k)/\D_ W w')
 (hat:∀W,D_ w W->Cb 18 #[PV px,Xi k] W (.tuple #[.agg #[SV s1,SV s2],Xi 0])):
 Cb 97 #[PV pm,eL pl,SV a] w (.tuple #[.agg #[SV s1,SV s2],Xi 0]):=by
 have B0:=c_ w (.cells #[.string ⟨#[]⟩,.string ⟨#[]⟩] 40);have y0:=heap_alloc_new w (.cells #[.string ⟨#[]⟩,.string ⟨#[]⟩] 40);have hn:=ki (hM.a_ B0);obtain⟨I,a3,au⟩:∃I:World->Prop,(∀w',I w'->Ic w' pm px ps r_)/\(∀w',Ic w' pm px ps r_->I w'):=⟨fun w'=>Ic w' pm px ps r_,fun _ h=>h,fun _ a=>a⟩;have a0:=fun x:Fq I=>a3 _ x.ok;simp only[Ic] at a0;obtain⟨m0,m1,m2⟩:=qf a0;have a2:I (w.alloc (.cells #[.string ⟨#[]⟩,.string ⟨#[]⟩] 40)).drew:=au _ (hM.a_ B0.drew);have HI:=If au;have HG:=kq6 hn hpl hat hM B0 y0;clear hn hpl hat hM a3 au a0 B0 y0;simp only[eL];go_enter func97,ntmps97;go_wp2_with fail;refine Jc HG.a ?_;go_wp2_with fail;refine fh I (.take 0 (.take 1 (.take 2 (.take 3 (.take 4 (.take 5 (.take 6 (.two 7 12 (.two 8 12 (.take 9 (.take 10 (.take 11 (.go 12 (.go 13 (.go 14 .nil)))))) (.go 8 (.take 9 (.take 10 (.take 11 (.go 13 (.go 14 .nil))))))) (.go 7 (.go 8 (.take 9 (.take 10 (.take 11 (.go 13 (.go 14 .nil))))))))))))))) k_ k_ a2 ?_;iterate 7
  refine' pT ?_ ?_;rotate_left
  ·intro x;go_simp;try rfl
  try simp only[pu]
 refine gL ?h1 ?h2
 case' h1=>
  refine pD fun K hK=>?_;go_simp;refine e9 (HG.b _ HG.e.drew) fun w2 hb2=>?_;have ar:=b_ HG.e.drew hb2;have a5:=(hb2.block w.1.size (gl HG.f)).T HG.f;have a4:Ic w2 pm px ps r_:=HG.d.a_ ar;try go_simp
  refine hK.O _ _ (HI.O _ a4) ?_;clear hK K;try simp only[pu]
  have ad:=kq2 ar a5;clear a5 ar a4 hb2;refine gL ?h3 ?h4
  case' h3=>
   refine pD fun K hK=>?_;go_simp;refine e9 (HG.c _ ad.a) fun w3 hb3=>?_;have an:=b_ ad.a hb3;have ap:=(hb3.block w.1.size (gl ad.b)).T ad.b;have a1:Ic w3 pm px ps r_:=HG.d.a_ an;clear hb3;try go_simp
   refine hK.O _ _ (HI.O _ a1) ?_;clear hK K;try simp only[pu]
   iterate 3
    refine' pT ?_ ?_;rotate_left
    ·intro x;go_simp;try rfl
    try simp only[pu]
   refine pD fun K hK=>?_;go_simp;have A4:=c_ w3 (.cells #[.string ⟨#[]⟩,.string ⟨#[]⟩] 40);have mA:=a1.a_ A4;have BA:=b_ an A4;have yA:=(A4.block w.1.size (gl ap)).T ap;have qA:=heap_alloc_new w3 (.cells #[.string ⟨#[]⟩,.string ⟨#[]⟩] 40);have ai:w.1.size<w3.1.size:=(gl ap);clear A4 a1 an ap ad;generalize w3.alloc (.cells #[.string ⟨#[]⟩,.string ⟨#[]⟩] 40)=W at*;generalize w3.1.size=b8 at*;try go_simp
   refine hK.O _ _ (HI.O _ mA) ?_;clear hK K;try simp only[pu]
   obtain⟨c0,c1⟩:=Fp qA;obtain⟨f0,f1⟩:=ef qA;have HA:=kq5 mA BA yA qA ai;clear mA BA yA qA ai;refine pD fun K hK=>?_;go_simp;have qB:=ew HA.d (SV s1) (SV s2);have BB:=eT HA.b (cW HA.e) (SV s1) (SV s2);have yB:=(fA (dh HA.e) (SV s1) (SV s2)).T HA.c;have mB:Ic ((W.setCell (y_ b8) (SV s1)).setCell (x_ b8 1) (SV s2)) pm px ps r_:=HG.d.a_ BB;clear c0 c1 f0 f1 HA;generalize ((W.setCell (y_ b8) (SV s1)).setCell (x_ b8 1) (SV s2))=W7 at*;try go_simp
   refine hK.O _ _ (HI.O _ mB) ?_;clear hK K;try simp only[pu]
   refine pD fun K hK=>?_;go_simp;try go_simp
   refine hK.O _ _ (HI.O _ mB) ?_;clear hK K;try simp only[pu]
   refine eP ?_;have H7:=kq3 BB yB qB;clear BB yB qB mB;clear w2 w3
  case' h4=>
   refine pD fun K hK=>?_;go_simp;have A4:=c_ w2 (.cells #[.string ⟨#[]⟩,.string ⟨#[]⟩] 40);have BZ:=b_ ad.a A4;have yZ:=(A4.block w.1.size (gl ad.b)).T ad.b;have qZ:=heap_alloc_new w2 (.cells #[.string ⟨#[]⟩,.string ⟨#[]⟩] 40);have mZ:Ic (w2.alloc (.cells #[.string ⟨#[]⟩,.string ⟨#[]⟩] 40)) pm px ps r_:=HG.d.a_ BZ;have ai:w.1.size<w2.1.size:=(gl ad.b);clear A4 ad;generalize w2.alloc (.cells #[.string ⟨#[]⟩,.string ⟨#[]⟩] 40)=w4 at*;generalize w2.1.size=b8 at*;try go_simp
   refine hK.O _ _ (HI.O _ mZ) ?_;clear hK K;try simp only[pu]
   have HZ:=kq3 BZ yZ qZ;clear BZ yZ qZ mZ;refine pD fun K hK=>?_;go_simp;refine e9 (HG.c _ HZ.a) fun W hb3=>?_;have BW:=b_ HZ.a hb3;have yW:=(hb3.block w.1.size (gl HZ.b)).T HZ.b;have qW:=(hb3.block _ (gl HZ.c)).T HZ.c;have mW:Ic W pm px ps r_:=HG.d.a_ BW;clear hb3;try go_simp
   refine hK.O _ _ (HI.O _ mW) ?_;clear hK K;try simp only[pu]
   have mA:=mW;have BA:=BW;have yA:=yW;have qA:=qW;clear mW BW yW qW HZ;iterate 3
    refine' pT ?_ ?_;rotate_left
    ·intro x;go_simp;try rfl
    try simp only[pu]
   obtain⟨c0,c1⟩:=Fp qA;obtain⟨f0,f1⟩:=ef qA;have HA:=kq5 mA BA yA qA ai;clear mA BA yA qA ai;refine pD fun K hK=>?_;go_simp;have qB:=ew HA.d (SV s1) (SV s2);have BB:=eT HA.b (cW HA.e) (SV s1) (SV s2);have yB:=(fA (dh HA.e) (SV s1) (SV s2)).T HA.c;have mB:Ic ((W.setCell (y_ b8) (SV s1)).setCell (x_ b8 1) (SV s2)) pm px ps r_:=HG.d.a_ BB;clear c0 c1 f0 f1 HA;generalize ((W.setCell (y_ b8) (SV s1)).setCell (x_ b8 1) (SV s2))=W7 at*;try go_simp
   refine hK.O _ _ (HI.O _ mB) ?_;clear hK K;try simp only[pu]
   refine pD fun K hK=>?_;go_simp;try go_simp
   refine hK.O _ _ (HI.O _ mB) ?_;clear hK K;try simp only[pu]
   refine eP ?_;have H7:=kq3 BB yB qB;clear BB yB qB mB;clear w2 w4
 case' h2=>
  refine pD fun K hK=>?_;go_simp;have A2:=((aa (w.alloc (.cells #[.string ⟨#[]⟩,.string ⟨#[]⟩] 40)).1.size (w.alloc (.cells #[.string ⟨#[]⟩,.string ⟨#[]⟩] 40))).alloc Ih (.cells #[.string ⟨#[]⟩,.string ⟨#[]⟩] 40)).drew;have BZ:=b_ HG.e A2;have qZ:((w.alloc (.cells #[.string ⟨#[]⟩,.string ⟨#[]⟩] 40)).alloc (.cells #[.string ⟨#[]⟩,.string ⟨#[]⟩] 40)).drew.1[(w.alloc (.cells #[.string ⟨#[]⟩,.string ⟨#[]⟩] 40)).1.size]?=_:=heap_alloc_new (w.alloc (.cells #[.string ⟨#[]⟩,.string ⟨#[]⟩] 40)) (.cells #[.string ⟨#[]⟩,.string ⟨#[]⟩] 40);have yZ:((w.alloc (.cells #[.string ⟨#[]⟩,.string ⟨#[]⟩] 40)).alloc (.cells #[.string ⟨#[]⟩,.string ⟨#[]⟩] 40)).drew.1[w.1.size]?=_:=(A2.block w.1.size s_).T HG.f;have mZ:Ic ((w.alloc (.cells #[.string ⟨#[]⟩,.string ⟨#[]⟩] 40)).alloc (.cells #[.string ⟨#[]⟩,.string ⟨#[]⟩] 40)).drew pm px ps r_:=HG.d.a_ BZ;simp only[World.size_alloc] at qZ;clear A2;generalize ((w.alloc (.cells #[.string ⟨#[]⟩,.string ⟨#[]⟩] 40)).alloc (.cells #[.string ⟨#[]⟩,.string ⟨#[]⟩] 40)).drew=w4 at*;try go_simp
  refine hK.O _ _ (HI.O _ mZ) ?_;clear hK K;try simp only[pu]
  have HZ:=kq3 BZ yZ qZ;clear BZ yZ qZ mZ;refine pD fun K hK=>?_;go_simp;refine e9 (HG.b _ HZ.a) fun w5 hb2=>?_;have B5:=b_ HZ.a hb2;have y5:=(hb2.block w.1.size (gl HZ.b)).T HZ.b;have q5:=(hb2.block _ (gl HZ.c)).T HZ.c;have m5:Ic w5 pm px ps r_:=HG.d.a_ B5;clear hb2 HZ;try go_simp
  refine hK.O _ _ (HI.O _ m5) ?_;clear hK K;try simp only[pu]
  have HZ:=kq3 B5 y5 q5;clear B5 y5 q5 m5;refine pD fun K hK=>?_;go_simp;refine e9 (HG.c _ HZ.a) fun W hb3=>?_;have BW:=b_ HZ.a hb3;have yW:=(hb3.block w.1.size (gl HZ.b)).T HZ.b;have qW:=(hb3.block _ (gl HZ.c)).T HZ.c;have mW:Ic W pm px ps r_:=HG.d.a_ BW;clear hb3;try go_simp
  refine hK.O _ _ (HI.O _ mW) ?_;clear hK K;try simp only[pu]
  have mA:=mW;have BA:=BW;have yA:=yW;have qA:=qW;have ai:w.1.size<w.1.size+1:=o_
  clear mW BW yW qW HZ;generalize w.1.size+1=b8 at*;iterate 3
   refine' pT ?_ ?_;rotate_left
   ·intro x;go_simp;try rfl
   try simp only[pu]
  obtain⟨c0,c1⟩:=Fp qA;obtain⟨f0,f1⟩:=ef qA;have HA:=kq5 mA BA yA qA ai;clear mA BA yA qA ai;refine pD fun K hK=>?_;go_simp;have qB:=ew HA.d (SV s1) (SV s2);have BB:=eT HA.b (cW HA.e) (SV s1) (SV s2);have yB:=(fA (dh HA.e) (SV s1) (SV s2)).T HA.c;have mB:Ic ((W.setCell (y_ b8) (SV s1)).setCell (x_ b8 1) (SV s2)) pm px ps r_:=HG.d.a_ BB;clear c0 c1 f0 f1 HA;generalize ((W.setCell (y_ b8) (SV s1)).setCell (x_ b8 1) (SV s2))=W7 at*;try go_simp
  refine hK.O _ _ (HI.O _ mB) ?_;clear hK K;try simp only[pu]
  refine pD fun K hK=>?_;go_simp;try go_simp
  refine hK.O _ _ (HI.O _ mB) ?_;clear hK K;try simp only[pu]
  refine eP ?_;have H7:=kq3 BB yB qB;clear BB yB qB mB;clear w4 w5
 all_goals
  clear HI a2 m0 m1 m2 I;have y:=H7.b;have q:=H7.c;obtain⟨c0,c1⟩:=Fp y;obtain⟨f0,f1⟩:=ef y;obtain⟨d0,d1⟩:=Fp q;have q5:=ew y (SV s1) (SV s2);have B5:=eT H7.a Ih (SV s1) (SV s2);have HB:=kq2 q5 B5;clear y q q5 B5;go_wp2_with fail;obtain⟨q5,B5⟩:=HB.O;generalize ((W7.setCell (y_ w.1.size) ((SV s1))).setCell (x_ w.1.size 1) ((SV s2)))=wF at*;obtain⟨e0,e1⟩:=Fp q5;exact bodyPost_ret (v:=.tuple #[.agg #[(SV s1),(SV s2)],Xi 0]) (by simp[results,f97,go_sem,e0,e1]) rfl ⟨rfl,B5⟩
theorem vJ{pm px ps r_:Nat}(hM:Ic w pm px ps r_)(pl:FuncId)(hen:∀(args:Array Value) (w:World),(callFunc pl args).run prog w=.ok (.enter pl args) w)(a:List UInt8)(k:Int)(s1 s2:List UInt8)
 (hpl:∀W,D_ w W->Ct pl #[PV pm,SV a] W fun e w'=>e=.returned (Xi k)/\D_ W w')
 (hat:∀W,D_ w W->Cb 18 #[PV px,Xi k] W (.tuple #[.agg #[SV s1,SV s2],Xi 2])):
 Cb 97 #[PV pm,eL pl,SV a] w (.tuple #[.agg #[.string ⟨#[]⟩,.string ⟨#[]⟩],Xi 5]):=by
 have B0:=c_ w (.cells #[.string ⟨#[]⟩,.string ⟨#[]⟩] 40);have y0:=heap_alloc_new w (.cells #[.string ⟨#[]⟩,.string ⟨#[]⟩] 40);have hn:=ki (hM.a_ B0);obtain⟨I,a3,au⟩:∃I:World->Prop,(∀w',I w'->Ic w' pm px ps r_)/\(∀w',Ic w' pm px ps r_->I w'):=⟨fun w'=>Ic w' pm px ps r_,fun _ h=>h,fun _ a=>a⟩;have a0:=fun x:Fq I=>a3 _ x.ok;simp only[Ic] at a0;obtain⟨m0,m1,m2⟩:=qf a0;have a2:I (w.alloc (.cells #[.string ⟨#[]⟩,.string ⟨#[]⟩] 40)).drew:=au _ (hM.a_ B0.drew);have HI:=If au;have HG:=kq6 hn hpl hat hM B0 y0;clear hn hpl hat hM a3 au a0 B0 y0;simp only[eL];go_enter func97,ntmps97;go_wp2_with fail;refine Jc HG.a ?_;go_wp2_with fail;refine fh I (.take 0 (.take 1 (.take 2 (.take 3 (.take 4 (.take 5 (.take 6 (.two 7 12 (.two 8 12 (.take 9 (.take 10 (.take 11 (.go 12 (.go 13 (.go 14 .nil)))))) (.go 8 (.take 9 (.take 10 (.take 11 (.go 13 (.go 14 .nil))))))) (.go 7 (.go 8 (.take 9 (.take 10 (.take 11 (.go 13 (.go 14 .nil))))))))))))))) k_ k_ a2 ?_;iterate 7
  refine' pT ?_ ?_;rotate_left
  ·intro x;go_simp;try rfl
  try simp only[pu]
 refine gL ?h1 ?h2
 case' h1=>
  refine pD fun K hK=>?_;go_simp;refine e9 (HG.b _ HG.e.drew) fun w2 hb2=>?_;have ar:=b_ HG.e.drew hb2;have a5:=(hb2.block w.1.size (gl HG.f)).T HG.f;have a4:Ic w2 pm px ps r_:=HG.d.a_ ar;try go_simp
  refine hK.O _ _ (HI.O _ a4) ?_;clear hK K;try simp only[pu]
  have ad:=kq2 ar a5;clear a5 ar a4 hb2;refine gL ?h3 ?h4
  case' h3=>
   refine pD fun K hK=>?_;go_simp;refine e9 (HG.c _ ad.a) fun w3 hb3=>?_;have an:=b_ ad.a hb3;have ap:=(hb3.block w.1.size (gl ad.b)).T ad.b;have a1:Ic w3 pm px ps r_:=HG.d.a_ an;clear hb3;try go_simp
   refine hK.O _ _ (HI.O _ a1) ?_;clear hK K;try simp only[pu]
   iterate 3
    refine' pT ?_ ?_;rotate_left
    ·intro x;go_simp;try rfl
    try simp only[pu]
   refine pD fun K hK=>?_;go_simp;have A4:=c_ w3 (.cells #[.string ⟨#[]⟩,.string ⟨#[]⟩] 40);have mA:=a1.a_ A4;have BA:=b_ an A4;have yA:=(A4.block w.1.size (gl ap)).T ap;have qA:=heap_alloc_new w3 (.cells #[.string ⟨#[]⟩,.string ⟨#[]⟩] 40);have ai:w.1.size<w3.1.size:=(gl ap);clear A4 a1 an ap ad;generalize w3.alloc (.cells #[.string ⟨#[]⟩,.string ⟨#[]⟩] 40)=W at*;generalize w3.1.size=b8 at*;try go_simp
   refine hK.O _ _ (HI.O _ mA) ?_;clear hK K;try simp only[pu]
   obtain⟨c0,c1⟩:=Fp qA;obtain⟨f0,f1⟩:=ef qA;have HA:=kq5 mA BA yA qA ai;clear mA BA yA qA ai;refine pD fun K hK=>?_;go_simp;have qB:=ew HA.d (SV s1) (SV s2);have BB:=eT HA.b (cW HA.e) (SV s1) (SV s2);have yB:=(fA (dh HA.e) (SV s1) (SV s2)).T HA.c;have mB:Ic ((W.setCell (y_ b8) (SV s1)).setCell (x_ b8 1) (SV s2)) pm px ps r_:=HG.d.a_ BB;clear c0 c1 f0 f1 HA;generalize ((W.setCell (y_ b8) (SV s1)).setCell (x_ b8 1) (SV s2))=W7 at*;try go_simp
   refine hK.O _ _ (HI.O _ mB) ?_;clear hK K;try simp only[pu]
   refine pD fun K hK=>?_;go_simp;try go_simp
   refine hK.O _ _ (HI.O _ mB) ?_;clear hK K;try simp only[pu]
   refine eP ?_;have H7:=kq3 BB yB qB;clear BB yB qB mB;clear w2 w3
  case' h4=>
   refine pD fun K hK=>?_;go_simp;have A4:=c_ w2 (.cells #[.string ⟨#[]⟩,.string ⟨#[]⟩] 40);have BZ:=b_ ad.a A4;have yZ:=(A4.block w.1.size (gl ad.b)).T ad.b;have qZ:=heap_alloc_new w2 (.cells #[.string ⟨#[]⟩,.string ⟨#[]⟩] 40);have mZ:Ic (w2.alloc (.cells #[.string ⟨#[]⟩,.string ⟨#[]⟩] 40)) pm px ps r_:=HG.d.a_ BZ;have ai:w.1.size<w2.1.size:=(gl ad.b);clear A4 ad;generalize w2.alloc (.cells #[.string ⟨#[]⟩,.string ⟨#[]⟩] 40)=w4 at*;generalize w2.1.size=b8 at*;try go_simp
   refine hK.O _ _ (HI.O _ mZ) ?_;clear hK K;try simp only[pu]
   have HZ:=kq3 BZ yZ qZ;clear BZ yZ qZ mZ;refine pD fun K hK=>?_;go_simp;refine e9 (HG.c _ HZ.a) fun W hb3=>?_;have BW:=b_ HZ.a hb3;have yW:=(hb3.block w.1.size (gl HZ.b)).T HZ.b;have qW:=(hb3.block _ (gl HZ.c)).T HZ.c;have mW:Ic W pm px ps r_:=HG.d.a_ BW;clear hb3;try go_simp
   refine hK.O _ _ (HI.O _ mW) ?_;clear hK K;try simp only[pu]
   have mA:=mW;have BA:=BW;have yA:=yW;have qA:=qW;clear mW BW yW qW HZ;iterate 3
    refine' pT ?_ ?_;rotate_left
    ·intro x;go_simp;try rfl
    try simp only[pu]
   obtain⟨c0,c1⟩:=Fp qA;obtain⟨f0,f1⟩:=ef qA;have HA:=kq5 mA BA yA qA ai;clear mA BA yA qA ai;refine pD fun K hK=>?_;go_simp;have qB:=ew HA.d (SV s1) (SV s2);have BB:=eT HA.b (cW HA.e) (SV s1) (SV s2);have yB:=(fA (dh HA.e) (SV s1) (SV s2)).T HA.c;have mB:Ic ((W.setCell (y_ b8) (SV s1)).setCell (x_ b8 1) (SV s2)) pm px ps r_:=HG.d.a_ BB;clear c0 c1 f0 f1 HA;generalize ((W.setCell (y_ b8) (SV s1)).setCell (x_ b8 1) (SV s2))=W7 at*;try go_simp
   refine hK.O _ _ (HI.O _ mB) ?_;clear hK K;try simp only[pu]
   refine pD fun K hK=>?_;go_simp;try go_simp
   refine hK.O _ _ (HI.O _ mB) ?_;clear hK K;try simp only[pu]
   refine eP ?_;have H7:=kq3 BB yB qB;clear BB yB qB mB;clear w2 w4
 case' h2=>
  refine pD fun K hK=>?_;go_simp;have A2:=((aa (w.alloc (.cells #[.string ⟨#[]⟩,.string ⟨#[]⟩] 40)).1.size (w.alloc (.cells #[.string ⟨#[]⟩,.string ⟨#[]⟩] 40))).alloc Ih (.cells #[.string ⟨#[]⟩,.string ⟨#[]⟩] 40)).drew;have BZ:=b_ HG.e A2;have qZ:((w.alloc (.cells #[.string ⟨#[]⟩,.string ⟨#[]⟩] 40)).alloc (.cells #[.string ⟨#[]⟩,.string ⟨#[]⟩] 40)).drew.1[(w.alloc (.cells #[.string ⟨#[]⟩,.string ⟨#[]⟩] 40)).1.size]?=_:=heap_alloc_new (w.alloc (.cells #[.string ⟨#[]⟩,.string ⟨#[]⟩] 40)) (.cells #[.string ⟨#[]⟩,.string ⟨#[]⟩] 40);have yZ:((w.alloc (.cells #[.string ⟨#[]⟩,.string ⟨#[]⟩] 40)).alloc (.cells #[.string ⟨#[]⟩,.string ⟨#[]⟩] 40)).drew.1[w.1.size]?=_:=(A2.block w.1.size s_).T HG.f;have mZ:Ic ((w.alloc (.cells #[.string ⟨#[]⟩,.string ⟨#[]⟩] 40)).alloc (.cells #[.string ⟨#[]⟩,.string ⟨#[]⟩] 40)).drew pm px ps r_:=HG.d.a_ BZ;simp only[World.size_alloc] at qZ;clear A2;generalize ((w.alloc (.cells #[.string ⟨#[]⟩,.string ⟨#[]⟩] 40)).alloc (.cells #[.string ⟨#[]⟩,.string ⟨#[]⟩] 40)).drew=w4 at*;try go_simp
  refine hK.O _ _ (HI.O _ mZ) ?_;clear hK K;try simp only[pu]
  have HZ:=kq3 BZ yZ qZ;clear BZ yZ qZ mZ;refine pD fun K hK=>?_;go_simp;refine e9 (HG.b _ HZ.a) fun w5 hb2=>?_;have B5:=b_ HZ.a hb2;have y5:=(hb2.block w.1.size (gl HZ.b)).T HZ.b;have q5:=(hb2.block _ (gl HZ.c)).T HZ.c;have m5:Ic w5 pm px ps r_:=HG.d.a_ B5;clear hb2 HZ;try go_simp
  refine hK.O _ _ (HI.O _ m5) ?_;clear hK K;try simp only[pu]
  have HZ:=kq3 B5 y5 q5;clear B5 y5 q5 m5;refine pD fun K hK=>?_;go_simp;refine e9 (HG.c _ HZ.a) fun W hb3=>?_;have BW:=b_ HZ.a hb3;have yW:=(hb3.block w.1.size (gl HZ.b)).T HZ.b;have qW:=(hb3.block _ (gl HZ.c)).T HZ.c;have mW:Ic W pm px ps r_:=HG.d.a_ BW;clear hb3;try go_simp
  refine hK.O _ _ (HI.O _ mW) ?_;clear hK K;try simp only[pu]
  have mA:=mW;have BA:=BW;have yA:=yW;have qA:=qW;have ai:w.1.size<w.1.size+1:=o_
  clear mW BW yW qW HZ;generalize w.1.size+1=b8 at*;iterate 3
   refine' pT ?_ ?_;rotate_left
   ·intro x;go_simp;try rfl
   try simp only[pu]
  obtain⟨c0,c1⟩:=Fp qA;obtain⟨f0,f1⟩:=ef qA;have HA:=kq5 mA BA yA qA ai;clear mA BA yA qA ai;refine pD fun K hK=>?_;go_simp;have qB:=ew HA.d (SV s1) (SV s2);have BB:=eT HA.b (cW HA.e) (SV s1) (SV s2);have yB:=(fA (dh HA.e) (SV s1) (SV s2)).T HA.c;have mB:Ic ((W.setCell (y_ b8) (SV s1)).setCell (x_ b8 1) (SV s2)) pm px ps r_:=HG.d.a_ BB;clear c0 c1 f0 f1 HA;generalize ((W.setCell (y_ b8) (SV s1)).setCell (x_ b8 1) (SV s2))=W7 at*;try go_simp
  refine hK.O _ _ (HI.O _ mB) ?_;clear hK K;try simp only[pu]
  refine pD fun K hK=>?_;go_simp;try go_simp
  refine hK.O _ _ (HI.O _ mB) ?_;clear hK K;try simp only[pu]
  refine eP ?_;have H7:=kq3 BB yB qB;clear BB yB qB mB;clear w4 w5
 all_goals
  clear HI a2 m0 m1 m2 I;have y:=H7.b;have q:=H7.c;obtain⟨c0,c1⟩:=Fp y;obtain⟨f0,f1⟩:=ef y;obtain⟨d0,d1⟩:=Fp q;have q5:=ew y (.string ⟨#[]⟩) (.string ⟨#[]⟩);have B5:=eT H7.a Ih (.string ⟨#[]⟩) (.string ⟨#[]⟩);have HB:=kq2 q5 B5;clear y q q5 B5;go_wp2_with fail;obtain⟨q5,B5⟩:=HB.O;generalize ((W7.setCell (y_ w.1.size) ((.string ⟨#[]⟩))).setCell (x_ w.1.size 1) ((.string ⟨#[]⟩)))=wF at*;obtain⟨e0,e1⟩:=Fp q5;exact bodyPost_ret (v:=.tuple #[.agg #[(.string ⟨#[]⟩),(.string ⟨#[]⟩)],Xi 5]) (by simp[results,f97,go_sem,e0,e1]) rfl ⟨rfl,B5⟩
theorem Ik{pm px ps r_:Nat}(hM:Ic w pm px ps r_):
 Ct 27 #[PV pm] w fun e w'=>e=.returned (Xi r_)/\w=w':=by
 have HG:=If (ki hM);unfold Ic at hM;obtain⟨c0,c1,c2⟩:=fq hM;clear hM;go_enter func27,ntmps27;go_wp2_with fail;refine Jc HG.O ?_;go_wp2_with fail;go_ret;exact⟨rfl,rfl⟩
theorem CQ{pm px ps r_:Nat}(hM:Ic w pm px ps r_)(ht:Cb 19 #[PV px] w (Xi z)):
 Cb 39 #[PV pm] w (Xi z):=by
 have HG:=kq2 (ki hM) ht;unfold Ic at hM;obtain⟨c0,c1,c2⟩:=fq hM;clear hM ht;go_enter func39,ntmps39;go_wp2_with fail;refine Jc HG.a ?_;go_wp2_with fail;refine e9 HG.b fun w2 hb=>?_;have HB:=If hb;clear hb;go_wp2_with fail;go_ret;exact⟨rfl,HB.O⟩
theorem CU{pm px ps r_:Nat}(hM:Ic w pm px ps r_)(k:List UInt8)(ht:Cb 16 #[PV px,SV k] w (Xi z)):
 Cb 99 #[PV pm,SV k] w (Xi z):=by
 have HG:=kq2 (ki hM) ht;unfold Ic at hM;obtain⟨c0,c1,c2⟩:=fq hM;clear hM ht;go_enter func99,ntmps99;go_wp2_with fail;refine Jc HG.a ?_;go_wp2_with fail;refine e9 HG.b fun w2 hb=>?_;have HB:=If hb;clear hb;go_wp2_with fail;go_ret;exact⟨rfl,HB.O⟩
theorem CL{pm px ps r_:Nat}(hM:Ic w pm px ps r_)(a:List UInt8){n:Nat}(hn:n<2^62)(is:Bool)(v:List UInt8)(h1:Cb 16 #[PV px,SV a] w (Xi n))(h2:∀W,D_ w W->Cb 17 #[PV px,SV a] W (.tuple #[SV v,.bool is])):
 Cb 98 #[PV pm,SV a] w (Xi (if is=true then(n:Int) else(n:Int)-1)):=by
 have hw:IntKind.i64.wrap ((n:Int)-1)=(n:Int)-1:=aq _ o_;have HG:=kq3 h1 h2 hM;unfold Ic at hM;obtain⟨c0,c1,c2⟩:=fq hM;clear h1 h2 hM
 cases is
 all_goals
  go_enter func98,ntmps98;go_wp2_with fail;refine e9 HG.a fun w1 hb1=>?_;have ad:=HG.c.a_ hb1;unfold Ic at ad;obtain⟨d0,d1,d2⟩:=fq ad;have H1:=If hb1;clear hb1 ad;go_wp2_with fail;refine e9 (HG.b _ H1.O) fun w2 hb2=>?_;have H2:=If (b_ H1.O hb2);clear hb2;go_wp2_with fail;go_ret;exact⟨rfl,H2.O⟩
theorem CO{pm px ps r_:Nat}(hM:Ic w pm px ps r_)(a:List UInt8)(k:Int)(hpl:∀W,D_ w W->Cb 98 #[PV pm,SV a] W (Xi k))(p:List UInt8×List UInt8)(hat:∀W,D_ w W->Cb 18 #[PV px,Xi k] W (.tuple #[eu p,Xi 0])):
 Cb 53 #[PV pm,SV a] w (.tuple #[eu p,Xi 0]):=by
 have B0:=c_ w (.cells #[.string ⟨#[]⟩,.string ⟨#[]⟩] 40);have q0:=heap_alloc_new w (.cells #[.string ⟨#[]⟩,.string ⟨#[]⟩] 40);have M0:=hM.a_ B0;have hat:=vI M0 98 (fun args w=>by go_simp) a k p.1 p.2 (fun W hW=>hpl W (b_ B0 hW)) (fun W hW=>hat W (b_ B0 hW));obtain⟨p1,p2⟩:=p;simp only[eL,eu] at hat⊢;have HG:=kq3 hat B0 q0;clear M0 hM hat B0 q0 hpl;go_enter func53,ntmps53;go_wp2_with fail;refine e9 HG.a fun w1 hb=>?_;have q1:=(hb.block w.1.size s_).T HG.c;obtain⟨c0,c1⟩:=Fp q1;obtain⟨f0,f1⟩:=ef q1;have q2:=ew q1 (SV p1) (SV p2);have B2:=eT (b_ HG.b hb) Ih (SV p1) (SV p2);have HB:=kq2 q2 B2;clear hb q1 q2 B2;go_wp2_with fail;obtain⟨q2,B2⟩:=HB.O;generalize ((w1.setCell (y_ w.1.size) (SV p1)).setCell (x_ w.1.size 1) (SV p2))=w2 at*;obtain⟨e0,e1⟩:=Fp q2;exact bodyPost_ret (v:=.tuple #[.agg #[SV p1,SV p2],Xi 0]) (by simp[results,f53,go_sem,e0,e1]) rfl ⟨rfl,B2⟩
theorem CM{pm px ps r_:Nat}(hM:Ic w pm px ps r_)(a:List UInt8)(k:Int)(hpl:∀W,D_ w W->Cb 99 #[PV pm,SV a] W (Xi k))(p:List UInt8×List UInt8)(hat:∀W,D_ w W->Cb 18 #[PV px,Xi k] W (.tuple #[eu p,Xi 0])):
 Cb 54 #[PV pm,SV a] w (.tuple #[eu p,Xi 0]):=by
 have B0:=c_ w (.cells #[.string ⟨#[]⟩,.string ⟨#[]⟩] 40);have q0:=heap_alloc_new w (.cells #[.string ⟨#[]⟩,.string ⟨#[]⟩] 40);have M0:=hM.a_ B0;have hat:=vI M0 99 (fun args w=>by go_simp) a k p.1 p.2 (fun W hW=>hpl W (b_ B0 hW)) (fun W hW=>hat W (b_ B0 hW));obtain⟨p1,p2⟩:=p;simp only[eL,eu] at hat⊢;have HG:=kq3 hat B0 q0;clear M0 hM hat B0 q0 hpl;go_enter func54,ntmps54;go_wp2_with fail;refine e9 HG.a fun w1 hb=>?_;have q1:=(hb.block w.1.size s_).T HG.c;obtain⟨c0,c1⟩:=Fp q1;obtain⟨f0,f1⟩:=ef q1;have q2:=ew q1 (SV p1) (SV p2);have B2:=eT (b_ HG.b hb) Ih (SV p1) (SV p2);have HB:=kq2 q2 B2;clear hb q1 q2 B2;go_wp2_with fail;obtain⟨q2,B2⟩:=HB.O;generalize ((w1.setCell (y_ w.1.size) (SV p1)).setCell (x_ w.1.size 1) (SV p2))=w2 at*;obtain⟨e0,e1⟩:=Fp q2;exact bodyPost_ret (v:=.tuple #[.agg #[SV p1,SV p2],Xi 0]) (by simp[results,f54,go_sem,e0,e1]) rfl ⟨rfl,B2⟩
theorem CP{pm px ps r_:Nat}(hM:Ic w pm px ps r_)(a:List UInt8)(k:Int)(hpl:∀W,D_ w W->Cb 98 #[PV pm,SV a] W (Xi k))(s1 s2:List UInt8)(hat:∀W,D_ w W->Cb 18 #[PV px,Xi k] W (.tuple #[.agg #[SV s1,SV s2],Xi 2])):
 Cb 53 #[PV pm,SV a] w (.tuple #[.agg #[.string ⟨#[]⟩,.string ⟨#[]⟩],Xi 5]):=by
 have B0:=c_ w (.cells #[.string ⟨#[]⟩,.string ⟨#[]⟩] 40);have q0:=heap_alloc_new w (.cells #[.string ⟨#[]⟩,.string ⟨#[]⟩] 40);have M0:=hM.a_ B0;have hat:=vJ M0 98 (fun args w=>by go_simp) a k s1 s2 (fun W hW=>hpl W (b_ B0 hW)) (fun W hW=>hat W (b_ B0 hW));simp only[eL] at hat⊢;have HG:=kq3 hat B0 q0;clear M0 hM hat B0 q0 hpl;go_enter func53,ntmps53;go_wp2_with fail;refine e9 HG.a fun w1 hb=>?_;have q1:=(hb.block w.1.size s_).T HG.c;obtain⟨c0,c1⟩:=Fp q1;obtain⟨f0,f1⟩:=ef q1;have q2:=ew q1 (.string ⟨#[]⟩) (.string ⟨#[]⟩);have B2:=eT (b_ HG.b hb) Ih (.string ⟨#[]⟩) (.string ⟨#[]⟩);have HB:=kq2 q2 B2;clear hb q1 q2 B2;go_wp2_with fail;obtain⟨q2,B2⟩:=HB.O;generalize ((w1.setCell (y_ w.1.size) (.string ⟨#[]⟩)).setCell (x_ w.1.size 1) (.string ⟨#[]⟩))=w2 at*;obtain⟨e0,e1⟩:=Fp q2;exact bodyPost_ret (v:=.tuple #[.agg #[.string ⟨#[]⟩,.string ⟨#[]⟩],Xi 5]) (by simp[results,f53,go_sem,e0,e1]) rfl ⟨rfl,B2⟩
theorem CN{pm px ps r_:Nat}(hM:Ic w pm px ps r_)(a:List UInt8)(k:Int)(hpl:∀W,D_ w W->Cb 99 #[PV pm,SV a] W (Xi k))(s1 s2:List UInt8)(hat:∀W,D_ w W->Cb 18 #[PV px,Xi k] W (.tuple #[.agg #[SV s1,SV s2],Xi 2])):
 Cb 54 #[PV pm,SV a] w (.tuple #[.agg #[.string ⟨#[]⟩,.string ⟨#[]⟩],Xi 5]):=by
 have B0:=c_ w (.cells #[.string ⟨#[]⟩,.string ⟨#[]⟩] 40);have q0:=heap_alloc_new w (.cells #[.string ⟨#[]⟩,.string ⟨#[]⟩] 40);have M0:=hM.a_ B0;have hat:=vJ M0 99 (fun args w=>by go_simp) a k s1 s2 (fun W hW=>hpl W (b_ B0 hW)) (fun W hW=>hat W (b_ B0 hW));simp only[eL] at hat⊢;have HG:=kq3 hat B0 q0;clear M0 hM hat B0 q0 hpl;go_enter func54,ntmps54;go_wp2_with fail;refine e9 HG.a fun w1 hb=>?_;have q1:=(hb.block w.1.size s_).T HG.c;obtain⟨c0,c1⟩:=Fp q1;obtain⟨f0,f1⟩:=ef q1;have q2:=ew q1 (.string ⟨#[]⟩) (.string ⟨#[]⟩);have B2:=eT (b_ HG.b hb) Ih (.string ⟨#[]⟩) (.string ⟨#[]⟩);have HB:=kq2 q2 B2;clear hb q1 q2 B2;go_wp2_with fail;obtain⟨q2,B2⟩:=HB.O;generalize ((w1.setCell (y_ w.1.size) (.string ⟨#[]⟩)).setCell (x_ w.1.size 1) (.string ⟨#[]⟩))=w2 at*;obtain⟨e0,e1⟩:=Fp q2;exact bodyPost_ret (v:=.tuple #[.agg #[.string ⟨#[]⟩,.string ⟨#[]⟩],Xi 5]) (by simp[results,f54,go_sem,e0,e1]) rfl ⟨rfl,B2⟩
theorem CJ{pm px ps r_:Nat}(hM:Ic w pm px ps r_)(a b:List UInt8)(ha:a.length<=r_)(hb:b.length<=r_){t:List UInt8}(ht:Cb 17 #[PV px,SV a] w (.tuple #[SV t,.bool true])):
 Cb 55 #[PV pm,SV a,SV b] w (Xi 6):=by
 have HG:=kq2 (vH hM a b ha hb) ht;unfold Ic at hM;obtain⟨c0,c1,c2⟩:=fq hM;clear hM ha hb ht;go_enter func55,ntmps55;go_wp2_with fail;refine Jc HG.a ?_;go_wp2_with fail;refine e9 HG.b fun w2 hb2=>?_;have H2:=If hb2;clear hb2;go_wp2_with fail;go_ret;exact⟨rfl,H2.O⟩
theorem CS{pm px ps r_:Nat}(hM:Ic w pm px ps r_)(a b t:List UInt8)(was:Bool)(ha:a.length<=r_)(hb:b.length<=r_){Q:World->Prop}(ht:Ct 43 #[PV px,.agg #[SV a,SV b]] w fun e w'=>e=.returned (.tuple #[SV t,.bool was,Xi 0])/\Q w'):
 Ct 24 #[PV pm,SV a,SV b] w fun e w'=>e=.returned (.tuple #[SV t,.bool was,Xi 0])/\Q w':=by
 have HG:=kq2 (vH hM a b ha hb) ht;unfold Ic at hM;obtain⟨c0,c1,c2⟩:=fq hM;clear hM ha hb ht;go_enter func24,ntmps24;go_wp2_with fail;refine Jc HG.a ?_;go_wp2_with fail;refine e9 HG.b fun w2 hr=>?_;have HR:=If hr;clear hr;go_wp2_with fail;go_ret3;exact⟨rfl,HR.O⟩
theorem qMgaa{P:Prop}(h:P:=by
 go_enter func58,ntmps58;go_wp2_with fail;refine Jc HG.O ?_;go_wp2_with fail;go_ret;exact⟨rfl,rfl⟩):P:=h
theorem CK{pm px ps r_:Nat}(hM:Ic w pm px ps r_)(a b:List UInt8)(ha:r_<a.length\/r_<b.length):
 Ct 58 #[PV pm,SV a,SV b] w fun e w'=>e=.returned (Xi 4)/\w=w':=by
 have HG:=If (ki hM);unfold Ic at hM;obtain⟨c0,c1,c2⟩:=fq hM;clear hM
 by_cases h1:r_<a.length
 ·have ad:((r_:Int)<(a.length:Int))=True:=eq_true o_;exact qMgaa
 ·have ad:((r_:Int)<(a.length:Int))=False:=eq_false o_;have ai:((r_:Int)<(b.length:Int))=True:=eq_true o_;exact qMgaa
theorem CT{pm px ps r_:Nat}(hM:Ic w pm px ps r_)(a b:List UInt8)(ha:r_<a.length\/r_<b.length):
 Ct 24 #[PV pm,SV a,SV b] w fun e w'=>e=.returned (.tuple #[.string ⟨#[]⟩,.bool false,Xi 4])/\w=w':=by
 have HG:=If (CK hM a b ha);clear hM ha;go_enter func24,ntmps24;go_wp2_with fail;refine Jc (HG.O) ?_;go_wp2_with fail;go_ret3;exact⟨rfl,rfl⟩
end
section
open Go.RowKit Tryz Go.BigFrame Go.Maps Go.WideMaps Lf Tr
theorem Na {w:World}{ps:Nat}{S:St}{o:Nat->Nat}{Y:Nat->Prop}{t:Tr}(h:Ig w ps S Y)(hB:fC Rb S o t)(hN:t.its.length<=1000):
 Cb 235 #[PV ps,Xu t.f9] w (Xi 0):=by
 have bc:=LR h hB hN;have bj:=fun W (hW:D_ w W)=>KO (h.a_ hW) hB.fit hB.at' (by rw[nodes_len];exact hB.r_) (by rw[nodes_len];exact hN);obtain⟨n,hn⟩:=Ii t.hs.length;have a6:n=t.j_.length:=by rw[<-hn,<-nodes_h,ak]
 have b8:n<=1000:=by rw[a6,nodes_len];exact hN
 have HG:=kq6 h hB bc bj hn a6;clear h hB bc bj hn a6;go_enter func235,ntmps235;go_wp2_with fail;refine e9 HG.c fun w1 hb1=>?_;have H1:=If hb1;clear hb1;go_wp2_with fail;refine(HG.d w1 H1.O).M ?_;rintro e w2 ⟨v,rfl,a7,ar⟩;obtain⟨A,c,rfl⟩:=a7.F8;rw[HG.e];have H2:=kq2 (b_ H1.O ar) a7;clear ar a7;go_wp2_with fail
 go_loopw [4,7,8,9,10,21] (fun _ _ _ _ _ i wr=>∃j:Nat,i=Xi j/\j<=n/\Hid (D_ w2 wr)) (fun _ _ _ _ _ i _=>n-(intOf i).toNat)
 case atStart=>exact⟨0,rfl,o_,aa _ _⟩
 case round=>
  obtain⟨j,rfl,hj,J0⟩:=hrel
  by_cases hjl:j<n
  ·have bd:j<t.hs.length:=by rw[HG.e];exact hjl
   have bf:j<t.j_.length:=by rw[<-HG.f];exact hjl
   have bm:=H2.b.at fun g e=>J0.O.block g (H2.b.ge g e).2;obtain⟨b,c',hv,_,r0⟩:=bm.cell_at bd;have bb:t.hs[j]=t.j_[j].1.h:=by simp[<-nodes_h]
   rw[bb] at r0;obtain⟨l,m,r,e1,e2,e3,e4⟩:=nodes_ok (S:=S) (Ok:=Rb) (fun h=>⟨h.1,h.2.1⟩) HG.b.at' HG.b.ok _ (aw bf);obtain⟨x,hx⟩:=Ii t.j_[j];rw[hx] at r0 e1 e2 e3;have a3:=b_ H2.a J0.O;have bu:(j:Int)<n:=o_
   obtain⟨rfl,rfl⟩:A=some (y_ b)/\c=c':=by cases hv;exact⟨rfl,rfl⟩
   have hf:=HG.b.fit;have hg:=oQ (HG.a.a_ a3) hf.inv x.1.h (fL hf e2.1).2.1;rw[e2.f_ hf] at hg;obtain⟨b1,b2,bk,hm⟩:=e3;have bv:=b1.mark_le;have b0:=b2.mark_le;have b4:m<=10000:=o_
   have a5:=fun W (hW:D_ w W)=>gy (HG.a.a_ hW) hf.inv l.f9 (At.root_lt hf e2.2.1);have a2:=fun W (hW:D_ w W)=>gy (HG.a.a_ hW) hf.inv r.f9 (At.root_lt hf e2.2.2);have a4:=fun W (hW:D_ w W)=>gy (HG.a.a_ hW) hf.inv x.1.h (fL hf e2.1).2.1;have a9:=fun W (hW:D_ w W)=>gq (HG.a.a_ hW) hf.inv l.f9 (At.root_lt hf e2.2.1);have a':=fun W (hW:D_ w W)=>gq (HG.a.a_ hW) hf.inv r.f9 (At.root_lt hf e2.2.2);have a8:=fun W (hW:D_ w W)=>gq (HG.a.a_ hW) hf.inv x.1.h (fL hf e2.1).2.1;have bo:F1 S x.1.h=m / 2:=e2.black hf;have bq:G8 S x.1.h=decide (m % 2=1):=e2.red hf;simp only[e2.2.1.black hf,e2.2.2.black hf,e2.2.1.red hf,e2.2.2.red hf,bo,bq] at a5 a2 a4 a9 a' a8;simp only[nd,eS] at hg;rw[<-bk] at a2;obtain⟨z,hz⟩:=Ii (Tr.node l x.1 m r).its.length;rw[hz] at hg;have hw:IntKind.u64.wrap (((l.mark / 2:Nat):Int)+1)=((l.mark / 2:Nat):Int)+1:=bO _ o_;have bs:(decide (m % 2=1)=true/\m / 2=l.mark / 2/\decide (l.mark % 2=1)=false/\decide (r.mark % 2=1)=false)\/(decide (m % 2=1)=false/\m / 2=l.mark / 2+1):=by
    rcases hm with⟨e,q1,q2⟩ | e
    ·left
     refine⟨m_,o_,m_,m_⟩
    ·right
     exact⟨m_,o_⟩
   generalize decide (m % 2=1)=ch at*;generalize decide (l.mark % 2=1)=cl at*;generalize decide (r.mark % 2=1)=cr at*;generalize m / 2=bh at*;generalize l.mark / 2=lb at*;have HE:=kq8 hg a5 a2 a4 a8 a9 a' a3;clear hg a5 a2 a4 a8 a9 a' a3 e1 e2 b1 b2 hm bv b0 hz bm hv bb hx bd bf hf bk bo bq;generalize l.f9=lr at*;generalize r.f9=rr at*;go_wp2_with fail;refine e9 HE.a fun w3 hb3=>?_;have q:=heap_alloc_new w3 (Xb x.1.kh x.1.vh lr rr m z);have B:=(b_ HE.h hb3).alloc (by have:=hb3.size;have:=HE.h.size;omega) (Xb x.1.kh x.1.vh lr rr m z);have B2:=(b_ J0.O hb3).alloc (by have:=hb3.size;have:=J0.O.size;omega) (Xb x.1.kh x.1.vh lr rr m z);have a1:=kq3 B B2 q;clear hb3 r0 B B2 q;go_wp2_with fail;refine e9 (HE.b _ a1.a) fun W1 hb1=>?_;have ap:=kq3 (b_ a1.a hb1) (b_ a1.b hb1) ((hb1.block _ (gl a1.c)).T a1.c);have q1:=ap.c;obtain⟨c0,c1,c2,c3,c4,c5⟩:=ia q1;clear hb1 q1;go_wp2_with fail;clear c0 c1 c2 c3 c4 c5
   rcases bs with⟨rfl,rfl,rfl,rfl⟩ | ⟨rfl,rfl⟩
   ·have bt:True:=trivial;refine e9 (HE.e _ ap.a) fun W2 ar=>?_;have ad:=kq3 (b_ ap.a ar) (b_ ap.b ar) ((ar.block _ (gl ap.c)).T ap.c);have q2:=ad.c;obtain⟨c0,c1,c2,c3,c4,c5⟩:=ia q2;clear ar q2;go_wp2_with fail;clear c0 c1 c2 c3 c4 c5;refine e9 (HE.c _ ad.a) fun W3 hb3=>?_;have ai:=kq3 (b_ ad.a hb3) (b_ ad.b hb3) ((hb3.block _ (gl ad.c)).T ad.c);have q3:=ai.c;obtain⟨c0,c1,c2,c3,c4,c5⟩:=ia q3;clear hb3 q3;go_wp2_with fail;clear c0 c1 c2 c3 c4 c5;refine e9 (HE.d _ ai.a) fun W4 hb4=>?_;have an:=kq3 (b_ ai.a hb4) (b_ ai.b hb4) ((hb4.block _ (gl ai.c)).T ai.c);have q4:=an.c;obtain⟨c0,c1,c2,c3,c4,c5⟩:=ia q4;clear hb4 q4;go_wp2_with fail;clear c0 c1 c2 c3 c4 c5;refine e9 (HE.e _ an.a) fun W5 hb5=>?_;have au:=kq3 (b_ an.a hb5) (b_ an.b hb5) ((hb5.block _ (gl an.c)).T an.c);have q5:=au.c;obtain⟨c0,c1,c2,c3,c4,c5⟩:=ia q5;clear hb5 q5;go_wp2_with fail;clear c0 c1 c2 c3 c4 c5;refine e9 (HE.f _ au.a) fun W6 hb6=>?_;have a0:=kq3 (b_ au.a hb6) (b_ au.b hb6) ((hb6.block _ (gl au.c)).T au.c);have q6:=a0.c;obtain⟨c0,c1,c2,c3,c4,c5⟩:=ia q6;clear hb6 q6;go_wp2_with fail;clear c0 c1 c2 c3 c4 c5;refine e9 (HE.g _ a0.a) fun W7 hb7=>?_;have ba:=kq3 (b_ a0.a hb7) (b_ a0.b hb7) ((hb7.block _ (gl a0.c)).T a0.c);have q7:=ba.c;obtain⟨c0,c1,c2,c3,c4,c5⟩:=ia q7;clear hb7 q7;go_wp2_with fail;clear c0 c1 c2 c3 c4 c5;go_roundw
    case rel=>exact⟨j+1,s_,o_,ba.b⟩
    case measure=>simp[intOf];omega
   ·have bt:True:=trivial;refine e9 (HE.e _ ap.a) fun W2 ar=>?_;have ad:=kq3 (b_ ap.a ar) (b_ ap.b ar) ((ar.block _ (gl ap.c)).T ap.c);have q2:=ad.c;obtain⟨c0,c1,c2,c3,c4,c5⟩:=ia q2;clear ar q2;go_wp2_with fail;clear c0 c1 c2 c3 c4 c5;refine e9 (HE.c _ ad.a) fun W3 hb3=>?_;have ai:=kq3 (b_ ad.a hb3) (b_ ad.b hb3) ((hb3.block _ (gl ad.c)).T ad.c);have q3:=ai.c;obtain⟨c0,c1,c2,c3,c4,c5⟩:=ia q3;clear hb3 q3;go_wp2_with fail;clear c0 c1 c2 c3 c4 c5;refine e9 (HE.d _ ai.a) fun W4 hb4=>?_;have an:=kq3 (b_ ai.a hb4) (b_ ai.b hb4) ((hb4.block _ (gl ai.c)).T ai.c);have q4:=an.c;obtain⟨c0,c1,c2,c3,c4,c5⟩:=ia q4;clear hb4 q4;go_wp2_with fail;clear c0 c1 c2 c3 c4 c5;refine e9 (HE.e _ an.a) fun W5 hb5=>?_;have au:=kq3 (b_ an.a hb5) (b_ an.b hb5) ((hb5.block _ (gl an.c)).T an.c);have q5:=au.c;obtain⟨c0,c1,c2,c3,c4,c5⟩:=ia q5;clear hb5 q5;go_wp2_with fail;clear c0 c1 c2 c3 c4 c5;go_roundw
    case rel=>exact⟨j+1,s_,o_,au.b⟩
    case measure=>simp[intOf];omega
  ·obtain rfl:j=n:=o_
   have bu:¬(j:Int)<j:=o_
   go_wp2_with fail;go_ret;exact⟨rfl,b_ H2.a J0.O⟩