/- Trees of any face: an item made, one let go, Put: the walks. -/
import Derived.Test.YtpljannolpapgaaGreatDoorTXv
import Derived.Test.YtpljannolpapgaaGreatDoorTBj
set_option maxRecDepth 100000
set_option maxHeartbeats 6400000
namespace Go.Proofs.YtpljannolpapgaaGreatDoor
open Go.RowKit Tryz Go.BigFrame Go.Maps Go.WideMaps Lf
variable{S:St}{Y:Nat->Prop}{kv:Value}{p:Nat×Nat}{ty:TypeId}{w:World}
structure jC (w W:World) (px ps:Nat) (ty:TypeId) (kv:Value) (l_ td f9:Nat) (a b:List UInt8) (S:St) (Y:Nat->Prop) (q0 q1:Value):Prop where
 t:FF W px ps ty kv l_ td f9
 y:W.1[w.1.size]?=some (Xn a b)
 q:W.1[w.1.size+1]?=some (.cells #[q0,q1] 104)
 st:Ig W ps S (fun k=>Y k\/(w.1.size<=k/\k<w.1.size+2))
 k:Fo Y w W
theorem jC.drew{w W:World}{px ps l_ td f9:Nat}{a b:List UInt8}{q0 q1:Value}(h:jC w W px ps ty kv l_ td f9 a b S Y q0 q1):jC w W.drew px ps ty kv l_ td f9 a b S Y q0 q1:=
 ⟨h.t,h.y,h.q,h.st.a_ (aa _ _).drew,h.k.T (Fo.drewN Y W 1)⟩
theorem jC.call{w W W':World}{px ps l_ td f9:Nat}{a b:List UInt8}{S S':St}{q0 q1:Value}(h:jC w W px ps ty kv l_ td f9 a b S Y q0 q1)(hpx:Y px)(hs:Ig W' ps S' (fun k=>Y k\/(w.1.size<=k/\k<w.1.size+2)))(hk:Fo (fun k=>Y k\/(w.1.size<=k/\k<w.1.size+2)) W W'):jC w W' px ps ty kv l_ td f9 a b S' Y q0 q1:=
 ⟨h.t.A_ hk (ab hpx),(hk.block _ (ae ⟨o_,o_⟩)).T h.y,(hk.block _ (ae ⟨o_,o_⟩)).T h.q,hs,h.k.T (hk.M fun _ hk=>ab hk)⟩
theorem jC.write{w W W':World}{px ps l_ td f9:Nat}{a b:List UInt8}{q0 q1 r0 r1:Value}(h:jC w W px ps ty kv l_ td f9 a b S Y q0 q1)(hpx:Y px)(hY:∀k,Y k->k<w.1.size)(hz:W'.1.size=W.1.size)(ho:W'.os=W.os/\W'.tape=W.tape/\W'.output=W.output)(hw:∀k,k≠w.1.size+1->W'.1[k]?=W.1[k]?)(hq:W'.1[w.1.size+1]?=some (.cells #[r0,r1] 104)):jC w W' px ps ty kv l_ td f9 a b S Y r0 r1:=by
 have h1:=hY px hpx;refine⟨(hw px o_).T h.t,(hw _ o_).T h.y,hq,h.st.write (ae ⟨o_,o_⟩) h.q ⟨d_,d_⟩ s_ o_ fun k _ hk=>hw k hk,?_⟩;refine h.k.T ⟨ho.1,ho.2.1,ho.2.2,o_,fun k hk=>hw k ?_⟩;have:=hY k hk;omega
theorem ER{px ps l_ td f9:Nat}{S S':St}(h:Ig w ps S Y)(hi:Fv S)(hT:FF w px ps ty kv l_ td f9)(hpx:Y px)(a b:List UInt8)(hm:nJ S a b)(hp:itemsM S a b=some (p,S')):
 Ct 83 #[PV px,eu (a,b)] w fun e w'=>e=.returned (.tuple #[Id p.1 p.2,Xi 0])/\Ig w' ps S' Y/\Fo Y w w'/\Fv S'/\p.1<2^64/\p.2<2^64:=by
 obtain⟨e1,e2,e3⟩:=BI hp;have a2:=wu hm.2.2.1 hi;have a3:=wu hm.2.2.2 a2;have l1:=wv h.tabwf a;have a0:=fun W Z (hW:Ig W ps S Z)=>tP hW hi a hm.1 hm.2.2.1;have au:=fun W Z (hW:Ig W ps (fx S a).2 Z)=>And.intro (tP hW a2 b hm.2.1 hm.2.2.2) (wv hW.tabwf b);rw[e1] at a0 l1;rw[e2] at au;rw[<-e3] at a3 au;generalize (fx S a).2=S1 at*;obtain⟨p1,p2⟩:=p;simp only[eu,Id] at a0 au l1⊢;have B1:=c_ w (Xn a b);have y1:=heap_alloc_new w (Xn a b);have z1:(w.alloc (Xn a b)).1.size=w.1.size+1:=s_
 generalize a9:w.alloc (Xn a b)=w1 at*;have A2:=c_ w1 (.cells #[Xu 0,Xu 0] 104);have B2:=b_ B1 A2;have y2:=(A2.block w.1.size o_).T y1;have q2:=heap_alloc_new w1 (.cells #[Xu 0,Xu 0] 104);have z2:(w1.alloc (.cells #[Xu 0,Xu 0] 104)).1.size=w.1.size+2:=by simp[z1]
 rw[z1] at q2;subst a9;have hY:=h.yl;have hA:jC w ((w.alloc (Xn a b)).alloc (.cells #[Xu 0,Xu 0] 104)) px ps ty kv l_ td f9 a b S Y (Xu 0) (Xu 0):=⟨hT.a_ B2,y2,q2,by have:=h.wide B2;rwa[z2] at this,Fo.v_ B2 hY⟩;have HG:=kq4 a0 au hpx hY;have HL:=kq2 a3 l1;have HA:=If hA;clear a0 au hA B1 B2 y1 y2 q2 A2 z1 z2 hY h hi a2 a3 l1 hm hp e1 e2 e3 hT;go_enter func83,ntmps83;go_wp2_with fail;generalize ((w.alloc (Xn a b)).alloc (.cells #[Xu 0,Xu 0] 104))=W0 at*;obtain⟨I,a1,a5⟩:=lB (fun w'=>FF w' px ps ty kv l_ td f9) (fun w'=>w'.1[w.1.size]?=some (Xn a b));have a4:=fun x:Fq I=>(a1 _ x.ok).1;have a7:=fun x:Fq I=>(a1 _ x.ok).2;simp only[FF] at a4;obtain⟨m0,m1,m2,m3,m4⟩:=iK a4;obtain⟨n0,n1⟩:=mt a7;have HI:=If a5;clear a1 a5 a4 a7;have ar:I W0.drew:=HI.O _ HA.O.drew.t HA.O.drew.y;refine fh I (.take 0 (.take 1 (.take 2 (.take 3 (.take 4 (.take 5 (.go 6 (.take 7 (.take 8 (.take 9 (.take 10 (.go 11 (.go 12 .nil))))))))))))) k_ k_ ar ?_;clear ar
 iterate 6
  refine pT_ ?_
  try simp only[pu]
 refine pD fun K hK=>?_;go_simp;refine(HG.a _ _ HA.O.drew.st).M ?_;rintro e w3 ⟨rfl,h3,k3⟩;have an:=If (HA.O.drew.call HG.c h3 k3);clear h3 k3;have q:=an.O.q;obtain⟨c0,c1⟩:=Fp q;obtain⟨f0,f1⟩:=ef q;clear q
 try go_simp
 refine hK.O _ _ (HI.O _ an.O.t an.O.y) ?_;clear hK K
 try simp only[pu]
 iterate 4
  refine pT_ ?_
  try simp only[pu]
 refine pD fun K hK=>?_;go_simp;have ad:=If (an.O.write (W':=w3.setCell (y_ (w.1.size+1)) (Xu p1)) HG.c HG.d s_ ⟨rfl,rfl,rfl⟩ (fun k hk=>FB hk) (heap_setCell an.O.q));clear c0 c1 f0 f1;generalize w3.setCell (y_ (w.1.size+1)) (Xu p1)=w4 at*
 try go_simp
 refine hK.O _ _ (HI.O _ ad.O.t ad.O.y) ?_;clear hK K
 try simp only[pu]
 refine pD fun K hK=>?_;go_simp
 try go_simp
 refine hK.O _ _ (HI.O _ ad.O.t ad.O.y) ?_;clear hK K
 try simp only[pu]
 refine eP ?_;go_wp2_with fail;have ar:I w4.drew:=HI.O _ ad.O.drew.t ad.O.drew.y;refine fh I (.take 0 (.take 1 (.take 2 (.take 3 (.take 4 (.take 5 (.go 6 (.take 7 (.take 8 (.take 9 (.take 10 (.go 11 (.go 12 .nil))))))))))))) k_ k_ ar ?_;clear ar
 iterate 6
  refine pT_ ?_
  try simp only[pu]
 refine pD fun K hK=>?_;go_simp;obtain⟨a6,l2⟩:=HG.b _ _ ad.O.drew.st;refine a6.M ?_;rintro e w5 ⟨rfl,h3,k3⟩;have ap:=If (ad.O.drew.call HG.c h3 k3);have a8:=If l2;clear h3 k3 a6 l2;have q:=ap.O.q;obtain⟨c0,c1⟩:=Fp q;obtain⟨f0,f1⟩:=ef q;clear q
 try go_simp
 refine hK.O _ _ (HI.O _ ap.O.t ap.O.y) ?_;clear hK K
 try simp only[pu]
 iterate 4
  refine pT_ ?_
  try simp only[pu]
 refine pD fun K hK=>?_;go_simp;have ai:=If (ap.O.write (W':=w5.setCell (x_ (w.1.size+1) 1) (Xu p2)) HG.c HG.d s_ ⟨rfl,rfl,rfl⟩ (fun k hk=>FB hk) (heap_setCell ap.O.q));clear c0 c1 f0 f1;generalize w5.setCell (x_ (w.1.size+1) 1) (Xu p2)=w6 at*
 try go_simp
 refine hK.O _ _ (HI.O _ ai.O.t ai.O.y) ?_;clear hK K
 try simp only[pu]
 refine pD fun K hK=>?_;go_simp
 try go_simp
 refine hK.O _ _ (HI.O _ ai.O.t ai.O.y) ?_;clear hK K
 try simp only[pu]
 refine eP ?_;have q:=ai.O.q;obtain⟨c0,c1⟩:=Fp q;obtain⟨f0,f1⟩:=ef q;have HF:=If (ai.O.write (W':=((w6.setCell (y_ (w.1.size+1)) (Xu p1)).setCell (x_ (w.1.size+1) 1) (Xu p2))) HG.c HG.d s_ ⟨rfl,rfl,rfl⟩ (fun k hk=>fA hk _ _) (ew q _ _));clear q;go_wp2_with fail;generalize ((w6.setCell (y_ (w.1.size+1)) (Xu p1)).setCell (x_ (w.1.size+1) 1) (Xu p2))=w7 at*;have q:=HF.O.q;obtain⟨e0,e1⟩:=Fp q;exact bodyPost_ret (v:=.tuple #[.agg #[Xu p1,Xu p2],Xi 0]) (by simp[results,f83,go_sem,e0,e1]) rfl ⟨rfl,HF.O.st.M fun k hk=>ab hk,HF.O.k,HL.a,HL.b,a8.O⟩
theorem xL{px ps l_ td f9:Nat}(h:Ig w ps S Y)(hi:Fv S)(hT:FF w px ps ty kv l_ td f9)(hpx:Y px)(k v:Nat)(hk:k<2^64)(hv:v<2^64)(hg:(fz S v).2≠8)(hi1:Fv (S.drop k).2):
 Ct 84 #[PV px,Id k v,.bool true] w fun e w'=>e=.returned (SV (fz S v).1)/\Ig w' ps ((S.drop k).2.drop v).2 Y/\Fo Y w w':=by
 have B1:=c_ w (Xe k v);have q1:=heap_alloc_new w (Xe k v);have S1:=h.wide B1;have T1:=hT.a_ B1;have a4:=h.yl;have sw:(w.alloc (Xe k v)).1.size=w.1.size+1:=s_
 rw[sw] at S1;have au:=fun W Z (hW:Ig W ps S Z)=>iz hW hi v hv hg;have a0:=fun W Z (hW:Ig W ps S Z)=>sE hW hi k hk;have a1:=fun W Z (hW:Ig W ps (S.drop k).2 Z)=>sE hW hi1 v hv;simp only[Id];generalize (fz S v).1=t at*;generalize (fz S v).2=er at*;generalize (S.drop k).1=e1 at*;generalize (S.drop k).2=S2 at*;generalize (S2.drop v).1=e2 at*;generalize (S2.drop v).2=S3 at*;have HG:=kq4 au a0 a1 (Fo.v_ B1 a4);clear au a0 a1 h hi hi1 hg;go_enter func84,ntmps84;go_wp2_with fail;generalize w.alloc (Xe k v)=W at*;obtain⟨I,ad,ai⟩:=lB (fun w'=>FF w' px ps ty kv l_ td f9) (fun w'=>w'.1[w.1.size]?=some (Xe k v));have an:=fun x:Fq I=>(ad _ x.ok).1;have a2:=fun x:Fq I=>(ad _ x.ok).2;simp only[FF] at an;obtain⟨m0,m1,m2,m3,m4⟩:=iK an;obtain⟨n0,n1⟩:=mt a2;have a3:I W.drew:=ai _ T1 q1;have HI:=If ai;have HW:=kq3 S1 T1 q1;clear S1 T1 q1 B1 ad ai an a2;refine fh I (.take 0 (.take 1 (.take 2 (.take 3 (.take 4 (.take 5 (.go 6 (.take 7 (.take 8 (.take 9 (.take 10 (.take 11 .nil)))))))))))) k_ k_ a3 ?_
 iterate 6
  refine pT_ ?_
  try simp only[pu]
 refine pD fun K hK=>?_;go_simp;refine b8 (HG.a _ _ (HW.a.drewN 1)) fun w2 hb2=>?_;have T2:FF w2 px ps ty kv l_ td f9:=FF.a_ (w:=W.drew) HW.b hb2;have q2:w2.1[w.1.size]?=_:=(hb2.block w.1.size (gl HW.c)).T HW.c;have s2:=(HW.a.drewN 1).a_ hb2;have k2:Fo Y W w2:=(Fo.drewN Y W 1).T ((HW.a.drewN 1).A_ hb2 |>.M fun k hk=>ab hk);have H2:=kq4 s2 T2 q2 (HG.d.T k2);clear s2 T2 q2 hb2 k2
 try go_simp
 refine hK.O _ _ (HI.O _ H2.b H2.c) ?_;clear hK K
 try simp only[pu]
 iterate 5
  refine pT_ ?_
  try simp only[pu]
 refine eP ?_;go_wp2_with fail;have ap:I w2.drew:=HI.O _ H2.b H2.c;refine fh I (.take 0 (.take 1 (.take 2 (.take 3 (.take 4 (.take 5 (.go 6 .nil))))))) k_ k_ ap ?_
 iterate 6
  refine pT_ ?_
  try simp only[pu]
 refine pD fun K hK=>?_;go_simp;refine(HG.b _ _ (H2.a.drewN 1)).M ?_;rintro e w3 ⟨rfl,s3,k3⟩;have T3:FF w3 px ps ty kv l_ td f9:=FF.A_ (w:=w2.drew) H2.b k3 (ab hpx);have q3:=(k3.block w.1.size (ae ⟨Nat.le_refl _,aX _⟩)).T H2.c;have H3:=kq4 s3 T3 q3 (H2.d.T ((Fo.drewN Y w2 1).T (k3.M fun k hk=>ab hk)));clear s3 T3 q3 k3 ap
 try go_simp
 refine hK.O _ _ (HI.O _ H3.b H3.c) ?_;clear hK K
 try simp only[pu]
 refine eP ?_;go_wp2_with fail;have ar:I w3.drew:=HI.O _ H3.b H3.c;refine fh I (.take 0 (.take 1 (.take 2 (.take 3 (.take 4 (.take 5 (.go 6 .nil))))))) k_ k_ ar ?_
 iterate 6
  refine pT_ ?_
  try simp only[pu]
 refine pD fun K hK=>?_;go_simp;refine(HG.c _ _ (H3.a.drewN 1)).M ?_;rintro e w4 ⟨rfl,s4,k4⟩;have T4:FF w4 px ps ty kv l_ td f9:=FF.A_ (w:=w3.drew) H3.b k4 (ab hpx);have q4:=(k4.block w.1.size (ae ⟨Nat.le_refl _,aX _⟩)).T H3.c;have H4:=kq2 (s4.M (Z:=Y) fun k hk=>ab hk) (H3.d.T ((Fo.drewN Y w3 1).T (k4.M fun k hk=>ab hk)))
 try go_simp
 refine hK.O _ _ (HI.O _ T4 q4) ?_;clear hK K
 try simp only[pu]
 clear s4 k4 ar T4 q4;refine eP ?_;go_wp2_with fail;go_ret;exact⟨rfl,H4.O⟩
structure KX (w W:World) (px ps:Nat) (ty:TypeId) (kv:Value) (l_ td f9:Nat) (S:St) (Y:Nat->Prop) (b9 ik iv:Nat):Prop where
 t:FF W px ps ty kv l_ td f9
 st:Ig W ps S Y
 k:Fo Y w W
 q:W.1[b9]?=some (Xe ik iv)
 l:w.1.size<=b9
theorem ny{px ps l_ td f9:Nat}(h:Ig w ps S Y)(hi:Fv S)(hT:FF w px ps ty kv l_ td f9)(hpx:Y px)(a b:List UInt8)(hm:nJ S a b){S1:St}(hp:itemsM S a b=some (p,S1))(was:Bool)(tv:List UInt8){R:Nat->Nat->Nat->St->Prop}{R2:Nat->St->Prop}{fm:FuncId}(hme:∀(f:Nat) (v:Value) (w:World),(method (f+1) ty v "loft/backend.insert").run prog w=.ok (fm,v) w)(hen:∀(args:Array Value) (w:World),(callFunc fm args).run prog w=.ok (.enter fm args) w)(hin:∀W Z,Ig W ps S1 Z->p.1<2^64->p.2<2^64->Ct fm #[kv,Xu f9,Id p.1 p.2] W fun e w'=>∃(x ik iv:Nat) (S':St),e=.returned (.tuple #[Xu x,Id ik iv,.bool was,Xi 0])/\Ig w' ps S' Z/\Fo Z W w'/\R x ik iv S')(hgo:∀x ik iv S',R x ik iv S'->∀W Z,Ig W ps S' Z->FF W px ps ty kv l_ td x->Z px->Ct 84 #[PV px,Id ik iv,.bool was] W fun e w'=>∃S3,e=.returned (SV tv)/\Ig w' ps S3 Z/\Fo Z W w'/\R2 x S3):
 Ct 43 #[PV px,eu (a,b)] w fun e w'=>∃(x:Nat) (S3:St),e=.returned (.tuple #[SV tv,.bool was,Xi 0])/\Ig w' ps S3 Y/\Fo (fun k=>Y k/\k≠px) w w'/\FF w' px ps ty kv l_ td x/\R2 x S3:=by
 have a8:(1000<(a.length:Int))=False:=eq_false (by have:=hm.1;omega);have a9:(1000<(b.length:Int))=False:=eq_false (by have:=hm.2.1;omega);have B0:=c_ w (Xn a b);have hn:=kw (hT.a_ B0);have ap:=ER (h.a_ B0) hi (hT.a_ B0) hpx a b hm hp;have hY:=h.yl;have a2:=hT.a_ B0;have a1:=Fo.v_ B0 hY;obtain⟨p1,p2⟩:=p;simp only[eu,Id] at ap hin hgo⊢;have HG:=kq8 hn ap hin hgo hpx hY a2 a1;clear hn ap hin hgo B0 h hi hT hm hp hY a2 a1;go_enter func43,ntmps43;go_wp2_with fail;refine Jc HG.a ?_;go_wp2_with fail;refine HG.b.M ?_;rintro e w1 ⟨rfl,s1,k1,i1,l1,l2⟩;have A2:=c_ w1 (Xe p1 p2);have q2:=heap_alloc_new w1 (Xe p1 p2);have s2:=s1.wide A2;have z2:(w1.alloc (Xe p1 p2)).1.size=w1.1.size+1:=s_
 have K2:=HG.h.T (k1.T (s1.A_ A2));have T2:FF (w1.alloc (Xe p1 p2)) px ps ty kv l_ td f9:=HG.g.A_ (k1.T (s1.A_ A2)) HG.e;have ins:=fun W Z hW=>HG.c W Z hW l1 l2;have a5:w.1.size<=w1.1.size:=by have:=(HG.h.T k1).size;exact this
 rw[z2] at s2;clear s1 k1 i1 A2;go_wp2_with fail;generalize a7:w1.alloc (Xe p1 p2)=w2 at*;generalize a6:w1.1.size=b7 at*;clear a7 a6 w1;have H2:=kq7 T2 s2 K2 q2 ins a5 z2;obtain⟨I,ai,an⟩:=lB (fun w'=>FF w' px ps ty kv l_ td f9) (fun w'=>w'.1[b7]?=some (Xe p1 p2));have ar:=fun x:Fq I=>(ai _ x.ok).1;have a4:=fun x:Fq I=>(ai _ x.ok).2;simp only[FF] at ar;obtain⟨m0,m1,m2,m3,m4⟩:=iK ar;obtain⟨n0,n1⟩:=mt a4;have a0:I w2.drew:=an _ T2 q2;have HI:=If an;clear ai an ar a4 T2 s2 K2 q2 ins a5 z2;refine fh I (.take 0 (.take 1 (.take 2 (.take 3 (.take 4 (.take 5 (.take 6 (.take 7 (.take 8 (.take 9 (.take 10 (.two 11 17 (.take 12 (.take 13 (.take 14 (.take 15 (.take 16 (.go 17 (.go 18 (.go 19 (.go 20 (.go 21 .nil)))))))))) (.go 11 (.take 12 (.take 13 (.take 14 (.take 15 (.take 16 (.go 18 (.go 19 (.go 20 (.go 21 .nil)))))))))))))))))))))) k_ k_ a0 ?_;clear a0
 iterate 11
  refine pT_ ?_
  try simp only[pu]
 refine gL ?h1 ?h2
 case' h1=>
  refine pD fun K hK=>?_;go_simp;refine(H2.e _ _ (H2.b.a_ (aa _ _).drew)).M ?_;rintro e w3 ⟨x,ik,iv,S',rfl,s3,k3,i3⟩;have T3:=FF.A_ (w:=w2.drew) H2.a k3 (ab HG.e);have q3:w3.1[b7]?=some (Xe p1 p2):=(k3.block b7 (ae ⟨Nat.le_refl _,aX _⟩)).T H2.d;have H3:=kq5 T3 q3 s3 (k3.M (Z:=Y) fun k hk=>ab hk) i3;clear T3 q3 s3 k3 i3
  try go_simp
  refine hK.O _ _ (HI.O _ H3.a H3.b) ?_;clear hK K
  try simp only[pu]
  iterate 5
   refine pT_ ?_
   try simp only[pu]
  refine pD fun K hK=>?_;go_simp;have A4:=c_ w3 (.cells #[Xu 0,Xu 0] 104);have TA:=H3.a.a_ A4;have q4:=(A4.block b7 (gl H3.b)).T H3.b;have sA:=((H3.c.M (Z:=Y) fun k hk=>ab hk).wide A4).M (Z:=fun k=>Y k\/k=w3.1.size) (fun k hk=>hk.imp id fun e=>⟨o_,m_⟩);have kA:=(H2.c.T (Fo.drewN Y w2 1)).T (H3.d.T ((H3.c.M (Z:=Y) fun k hk=>ab hk).A_ A4));have qA:=heap_alloc_new w3 (.cells #[Xu 0,Xu 0] 104);have lA:w.1.size<=w3.1.size:=((H2.c.T (Fo.drewN Y w2 1)).T H3.d).size;have iA:=H3.e;have nb:b7≠w3.1.size:=Nat.ne_of_lt (gl H3.b);clear A4 H3;generalize w3.alloc (.cells #[Xu 0,Xu 0] 104)=W at*;generalize w3.1.size=b9 at*
  try go_simp
  refine hK.O _ _ (HI.O _ TA q4) ?_;clear hK K
  try simp only[pu]
  refine pD fun K hK=>?_;go_simp
  try go_simp
  refine hK.O _ _ (HI.O _ TA q4) ?_;clear hK K
  try simp only[pu]
  obtain⟨c0,c1⟩:=Fp qA;obtain⟨f0,f1⟩:=ef qA;have HA:=kq6 TA sA kA qA lA iA;clear TA sA kA qA lA iA;refine pD fun K hK=>?_;go_simp;have q5:((W.setCell (y_ b9) (Xu ik)).setCell (x_ b9 1) (Xu iv)).1[b7]?=some (Xe p1 p2):=(fA nb _ _).T q4;have ad:px≠b9:=by have:=HG.f px HG.e;have:=HA.e;omega
  have qB:=ew HA.d (Xu ik) (Xu iv);have oB:∀k,k≠b9->((W.setCell (y_ b9) (Xu ik)).setCell (x_ b9 1) (Xu iv)).1[k]?=W.1[k]?:=fun k hk=>fA hk _ _;have sB:Ig ((W.setCell (y_ b9) (Xu ik)).setCell (x_ b9 1) (Xu iv)) ps S' Y:=(HA.b.write (ae rfl) HA.d ⟨d_,d_⟩ s_ s_ fun k _ hk=>oB k hk).M fun k hk=>ab hk;have kB:Fo Y w ((W.setCell (y_ b9) (Xu ik)).setCell (x_ b9 1) (Xu iv)):=HA.c.T ⟨rfl,rfl,rfl,s_,fun k hk=>oB k (by have:=HG.f k hk;have:=HA.e;omega)⟩;have P7:KX w ((W.setCell (y_ b9) (Xu ik)).setCell (x_ b9 1) (Xu iv)) px ps ty kv l_ td f9 S' Y b9 ik iv:=⟨(oB px ad).T HA.a,sB,kB,qB,HA.e⟩;have au:=If HA.f;clear c0 c1 f0 f1 HA qB oB sB kB ad;have H7:=If P7;clear P7;generalize ((W.setCell (y_ b9) (Xu ik)).setCell (x_ b9 1) (Xu iv))=W7 at*
  try go_simp
  refine hK.O _ _ (HI.O _ H7.O.t q5) ?_;clear hK K
  try simp only[pu]
  refine pD fun K hK=>?_;go_simp
  try go_simp
  refine hK.O _ _ (HI.O _ H7.O.t q5) ?_;clear hK K
  try simp only[pu]
  refine pD fun K hK=>?_;go_simp
  try go_simp
  refine hK.O _ _ (HI.O _ H7.O.t q5) ?_;clear hK K
  try simp only[pu]
  refine eP ?_;clear q4 q5 w3 nb
 case' h2=>
  refine pD fun K hK=>?_;go_simp;have A3:=(c_ w2 (.cells #[Xu 0,Xu 0] 104)).drew;have T3:=H2.a.a_ A3;have q3:=(A3.block b7 (gl H2.d)).T H2.d;have qz:(w2.alloc (.cells #[Xu 0,Xu 0] 104)).drew.1[w2.1.size]?=_:=heap_alloc_new w2 (.cells #[Xu 0,Xu 0] 104);have s3:=H2.b.wide A3;have z3:(w2.alloc (.cells #[Xu 0,Xu 0] 104)).drew.1.size=w2.1.size+1:=by show (w2.alloc _).1.size=_;simp
  have k3:=H2.c.T ((H2.b.M (Z:=Y) fun k hk=>ab hk).A_ A3);have nb:b7≠w2.1.size:=by have:=H2.g;omega
  have lz:w.1.size<=w2.1.size:=H2.c.size;rw[z3] at s3;clear A3 z3;generalize (w2.alloc (.cells #[Xu 0,Xu 0] 104)).drew=w3 at*;generalize w2.1.size=b9 at*
  try go_simp
  refine hK.O _ _ (HI.O _ T3 q3) ?_;clear hK K
  try simp only[pu]
  have H3:=kq6 T3 q3 s3 k3 qz lz;clear T3 q3 s3 k3 qz lz;refine pD fun K hK=>?_;go_simp;refine(H2.e _ _ H3.c).M ?_;rintro e W ⟨x,ik,iv,S',rfl,s4,k4,i4⟩;have TA:=FF.A_ (w:=w3) H3.a k4 (ab (ab HG.e));have q4:W.1[b7]?=some (Xe p1 p2):=(k4.block b7 (ab (ae ⟨Nat.le_refl _,aX _⟩))).T H3.b;have sA:=s4.M (Z:=fun k=>Y k\/k=b9) (fun k hk=>hk.elim (fun h=>ab (ab h)) fun e=>ae ⟨o_,o_⟩);have kA:=H3.d.T (k4.M (Z:=Y) fun k hk=>ab (ab hk));have qA:W.1[b9]?=some (.cells #[Xu 0,Xu 0] 104):=(k4.block b9 (ae ⟨Nat.le_refl _,aX _⟩)).T H3.e;have lA:=H3.f;have iA:=i4;clear s4 k4 i4 H3
  try go_simp
  refine hK.O _ _ (HI.O _ TA q4) ?_;clear hK K
  try simp only[pu]
  iterate 5
   refine pT_ ?_
   try simp only[pu]
  refine pD fun K hK=>?_;go_simp
  try go_simp
  refine hK.O _ _ (HI.O _ TA q4) ?_;clear hK K
  try simp only[pu]
  obtain⟨c0,c1⟩:=Fp qA;obtain⟨f0,f1⟩:=ef qA;have HA:=kq6 TA sA kA qA lA iA;clear TA sA kA qA lA iA;refine pD fun K hK=>?_;go_simp;have q5:((W.setCell (y_ b9) (Xu ik)).setCell (x_ b9 1) (Xu iv)).1[b7]?=some (Xe p1 p2):=(fA nb _ _).T q4;have ad:px≠b9:=by have:=HG.f px HG.e;have:=HA.e;omega
  have qB:=ew HA.d (Xu ik) (Xu iv);have oB:∀k,k≠b9->((W.setCell (y_ b9) (Xu ik)).setCell (x_ b9 1) (Xu iv)).1[k]?=W.1[k]?:=fun k hk=>fA hk _ _;have sB:Ig ((W.setCell (y_ b9) (Xu ik)).setCell (x_ b9 1) (Xu iv)) ps S' Y:=(HA.b.write (ae rfl) HA.d ⟨d_,d_⟩ s_ s_ fun k _ hk=>oB k hk).M fun k hk=>ab hk;have kB:Fo Y w ((W.setCell (y_ b9) (Xu ik)).setCell (x_ b9 1) (Xu iv)):=HA.c.T ⟨rfl,rfl,rfl,s_,fun k hk=>oB k (by have:=HG.f k hk;have:=HA.e;omega)⟩;have P7:KX w ((W.setCell (y_ b9) (Xu ik)).setCell (x_ b9 1) (Xu iv)) px ps ty kv l_ td f9 S' Y b9 ik iv:=⟨(oB px ad).T HA.a,sB,kB,qB,HA.e⟩;have au:=If HA.f;clear c0 c1 f0 f1 HA qB oB sB kB ad;have H7:=If P7;clear P7;generalize ((W.setCell (y_ b9) (Xu ik)).setCell (x_ b9 1) (Xu iv))=W7 at*
  try go_simp
  refine hK.O _ _ (HI.O _ H7.O.t q5) ?_;clear hK K
  try simp only[pu]
  refine pD fun K hK=>?_;go_simp
  try go_simp
  refine hK.O _ _ (HI.O _ H7.O.t q5) ?_;clear hK K
  try simp only[pu]
  refine pD fun K hK=>?_;go_simp
  try go_simp
  refine hK.O _ _ (HI.O _ H7.O.t q5) ?_;clear hK K
  try simp only[pu]
  refine eP ?_;clear q4 q5 w3 nb
 all_goals
  clear m0 m1 m2 m3 m4 n0 n1 HI I;have t7:=H7.O.t;simp only[FF] at t7;obtain⟨c0,c1,c2,c3,c4⟩:=ld t7;obtain⟨f0,f1,f2,f3,f4⟩:=G2 t7;have ad:px≠b9:=by have:=HG.f px HG.e;have:=H7.O.l;omega
  have t8:FF (W7.setCell (x_ px 4) (Xu x)) px ps ty kv l_ td x:=heap_setCell t7;have q8:=(FB (w:=W7) (b:=px) (i:=4) (v:=Xu x) ad.S).T H7.O.q;have s8:Ig (W7.setCell (x_ px 4) (Xu x)) ps S' Y:=H7.O.st.write HG.e t7 ⟨d_,d_⟩ s_ s_ fun k _ hk=>FB hk;have k8:Fo (fun k=>Y k/\k≠px) w (W7.setCell (x_ px 4) (Xu x)):=(H7.O.k.M fun k hk=>hk.1).T ⟨rfl,rfl,rfl,s_,fun k hk=>FB hk.2⟩;obtain⟨e0,e1⟩:=Fp q8;have H8:=kq3 t8 s8 k8;clear t7 t8 s8 k8 ad q8;go_wp2_with fail;refine(HG.d x ik iv S' au.O _ _ H8.b H8.a HG.e).M ?_;rintro e w9 ⟨S3,rfl,s9,k9,r9⟩;have a3:Ig w9 ps S3 Y/\Fo (fun k=>Y k/\k≠px) w w9/\FF w9 px ps ty kv l_ td x/\R2 x S3:=⟨s9,H8.c.T (k9.M fun k hk=>hk.1),FF.A_ H8.a k9 HG.e,r9⟩;have HF:=If a3;clear a3 s9 k9 H8 c0 c1 c2 c3 c4 f0 f1 f2 f3 f4 e0 e1;go_wp2_with fail;go_ret3;exact⟨x,S3,rfl,HF.O⟩