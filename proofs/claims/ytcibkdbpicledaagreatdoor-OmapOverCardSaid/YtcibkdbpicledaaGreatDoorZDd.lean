/- Trees of any face: an item made, one let go, Put: the walks. -/
import Derived.Test.YtcibkdbpicledaaGreatDoorZDc
import Derived.Test.YtcibkdbpicledaaGreatDoorZFf
import Derived.Test.YtcibkdbpicledaaGreatDoorZVx
set_option maxRecDepth 100000
set_option maxHeartbeats 6400000
namespace Go.Proofs.YtcibkdbpicledaaGreatDoor
section
open Go.RowKit Tryz Go.BigFrame Go.Maps Go.WideMaps Lf
variable{S:St}{Y:Nat->Prop}{kv:Value}{p:Nat×Nat}{ty:TypeId}{w:World}
structure jC (w W:World) (px ps:Nat) (ty:TypeId) (kv:Value) (kind td root:Nat) (a b:List UInt8) (S:St) (Y:Nat->Prop) (q0 q1:Value):Prop where
 t:FF W px ps ty kv kind td root
 y:W.heap[w.heap.size]?=some (.cells #[SV a,SV b] 34)
 q:W.heap[w.heap.size+1]?=some (.cells #[q0,q1] 137)
 st:Ig W ps S (fun k=>Y k\/(w.heap.size<=k/\k<w.heap.size+2))
 k:Fo Y w W
theorem jC.drew{w W:World}{px ps kind td root:Nat}{a b:List UInt8}{q0 q1:Value}(h:jC w W px ps ty kv kind td root a b S Y q0 q1):jC w W.drew px ps ty kv kind td root a b S Y q0 q1:=
 ⟨h.t,h.y,h.q,h.st.below (aa _ _).drew,h.k.trans (Fo.drewN Y W 1)⟩
theorem jC.call{w W W':World}{px ps kind td root:Nat}{a b:List UInt8}{S S':St}{q0 q1:Value}(h:jC w W px ps ty kv kind td root a b S Y q0 q1)(hpx:Y px)(hs:Ig W' ps S' (fun k=>Y k\/(w.heap.size<=k/\k<w.heap.size+2)))(hk:Fo (fun k=>Y k\/(w.heap.size<=k/\k<w.heap.size+2)) W W'):jC w W' px ps ty kv kind td root a b S' Y q0 q1:=
 ⟨h.t.keep hk (ab hpx),(hk.block _ (ae ⟨by omega,by omega⟩)).trans h.y,(hk.block _ (ae ⟨by omega,by omega⟩)).trans h.q,hs,h.k.trans (hk.mono fun _ hk=>ab hk)⟩
theorem jC.write{w W W':World}{px ps kind td root:Nat}{a b:List UInt8}{q0 q1 r0 r1:Value}(h:jC w W px ps ty kv kind td root a b S Y q0 q1)(hpx:Y px)(hY:∀k,Y k->k<w.heap.size)(hz:W'.heap.size=W.heap.size)(ho:W'.os=W.os/\W'.tape=W.tape/\W'.output=W.output)(hw:∀k,k≠w.heap.size+1->W'.heap[k]?=W.heap[k]?)(hq:W'.heap[w.heap.size+1]?=some (.cells #[r0,r1] 137)):jC w W' px ps ty kv kind td root a b S Y r0 r1:=by
 have h1:=hY px hpx;refine⟨(hw px (by omega)).trans h.t,(hw _ (by omega)).trans h.y,hq,h.st.write (ae ⟨by omega,by omega⟩) h.q ⟨by decide,by decide⟩ (by simp) (by omega) fun k _ hk=>hw k hk,?_⟩;refine h.k.trans ⟨ho.1,ho.2.1,ho.2.2,by omega,fun k hk=>hw k ?_⟩;have:=hY k hk;omega
theorem ER{px ps kind td root:Nat}{S S':St}(h:Ig w ps S Y)(hi:Fv S)(hT:FF w px ps ty kv kind td root)(hpx:Y px)(a b:List UInt8)(hm:nJ S a b)(hp:itemsM S a b=some (p,S')):
 Ct 82 #[PV px,eu (a,b)] w fun e w'=>e=.returned (.tuple #[Id p.1 p.2,.int .i64 0])/\Ig w' ps S' Y/\Fo Y w w'/\Fv S'/\p.1<2^64/\p.2<2^64:=by
 obtain⟨e1,e2,e3⟩:=BI hp;have a0:=wu hm.2.2.1 hi;have a1:=wu hm.2.2.2 a0;have l1:=wv h.tabwf a;have ar:=fun W Z (hW:Ig W ps S Z)=>tP hW hi a hm.1 hm.2.2.1;have ap:=fun W Z (hW:Ig W ps (fx S a).2 Z)=>And.intro (tP hW a0 b hm.2.1 hm.2.2.2) (wv hW.tabwf b);rw[e1] at ar l1;rw[e2] at ap;rw[<-e3] at a1 ap;generalize (fx S a).2=S1 at*;obtain⟨p1,p2⟩:=p;simp only[eu,Id] at ar ap l1⊢;have B1:=(aa w.heap.size w).alloc Ih (.cells #[SV a,SV b] 34);have y1:=heap_alloc_new w (.cells #[SV a,SV b] 34);have z1:(w.alloc (.cells #[SV a,SV b] 34)).heap.size=w.heap.size+1:=by simp
 generalize a7:w.alloc (.cells #[SV a,SV b] 34)=w1 at*;have A2:=(aa w1.heap.size w1).alloc Ih (.cells #[.int .u64 0,.int .u64 0] 137);have B2:=B1.trans (A2.mono B1.size);have y2:=(A2.block w.heap.size (by omega)).trans y1;have q2:=heap_alloc_new w1 (.cells #[.int .u64 0,.int .u64 0] 137);have z2:(w1.alloc (.cells #[.int .u64 0,.int .u64 0] 137)).heap.size=w.heap.size+2:=by simp[z1]
 rw[z1] at q2;subst a7;have hY:=h.yl;have hA:jC w ((w.alloc (.cells #[SV a,SV b] 34)).alloc (.cells #[.int .u64 0,.int .u64 0] 137)) px ps ty kv kind td root a b S Y (.int .u64 0) (.int .u64 0):=⟨hT.below B2,y2,q2,by have:=h.wide B2;rwa[z2] at this,Fo.of_below B2 hY⟩;have HG:=kq4 ar ap hpx hY;have HL:=kq2 a1 l1;have HA:=If hA;clear ar ap hA B1 B2 y1 y2 q2 A2 z1 z2 hY h hi a0 a1 l1 hm hp e1 e2 e3 hT;go_enter func82,ntmps82;go_wp2_with fail;generalize ((w.alloc (.cells #[SV a,SV b] 34)).alloc (.cells #[.int .u64 0,.int .u64 0] 137))=W0 at*;obtain⟨I,au,a3⟩:=lB (fun w'=>FF w' px ps ty kv kind td root) (fun w'=>w'.heap[w.heap.size]?=some (.cells #[SV a,SV b] 34));have a2:=fun x:Fq I=>(au _ x.ok).1;have a5:=fun x:Fq I=>(au _ x.ok).2;simp only[FF] at a2;obtain⟨m0,m1,m2,m3,m4⟩:=iK a2;obtain⟨n0,n1⟩:=fw a5;have HI:=If a3;clear au a3 a2 a5;have ao:I W0.drew:=HI.out _ HA.out.drew.t HA.out.drew.y;refine fh I (.take 0 (.take 1 (.take 2 (.take 3 (.take 4 (.take 5 (.go 6 (.take 7 (.take 8 (.take 9 (.take 10 (.go 11 (.go 12 .nil))))))))))))) (by kernel_rfl) (by kernel_rfl) ao ?_;clear ao
 iterate 6
  refine' pT ?_ ?_;rotate_left
  ·intro x;go_simp
   try rfl
  try simp only[pu]
 refine pD fun K hK=>?_;go_simp;refine(HG.a _ _ HA.out.drew.st).mono ?_;rintro e w3 ⟨rfl,h3,k3⟩;have al:=If (HA.out.drew.call HG.c h3 k3);clear h3 k3;have q:=al.out.q;obtain⟨c0,c1⟩:=Fp q;obtain⟨f0,f1⟩:=ef q;clear q
 try go_simp
 refine hK.out _ _ (HI.out _ al.out.t al.out.y) ?_;clear hK K
 try simp only[pu]
 iterate 4
  refine' pT ?_ ?_;rotate_left
  ·intro x;go_simp
   try rfl
  try simp only[pu]
 refine pD fun K hK=>?_;go_simp;have ad:=If (al.out.write (W':=w3.setCell ⟨w.heap.size+1,0,none⟩ (.int .u64 p1)) HG.c HG.d (by simp) ⟨rfl,rfl,rfl⟩ (fun k hk=>FB hk) (heap_setCell al.out.q));clear c0 c1 f0 f1;generalize w3.setCell ⟨w.heap.size+1,0,none⟩ (.int .u64 p1)=w4 at*
 try go_simp
 refine hK.out _ _ (HI.out _ ad.out.t ad.out.y) ?_;clear hK K
 try simp only[pu]
 refine pD fun K hK=>?_;go_simp
 try go_simp
 refine hK.out _ _ (HI.out _ ad.out.t ad.out.y) ?_;clear hK K
 try simp only[pu]
 refine eP ?_;go_wp2_with fail;have ao:I w4.drew:=HI.out _ ad.out.drew.t ad.out.drew.y;refine fh I (.take 0 (.take 1 (.take 2 (.take 3 (.take 4 (.take 5 (.go 6 (.take 7 (.take 8 (.take 9 (.take 10 (.go 11 (.go 12 .nil))))))))))))) (by kernel_rfl) (by kernel_rfl) ao ?_;clear ao
 iterate 6
  refine' pT ?_ ?_;rotate_left
  ·intro x;go_simp
   try rfl
  try simp only[pu]
 refine pD fun K hK=>?_;go_simp;obtain⟨a4,l2⟩:=HG.b _ _ ad.out.drew.st;refine a4.mono ?_;rintro e w5 ⟨rfl,h3,k3⟩;have an:=If (ad.out.drew.call HG.c h3 k3);have a6:=If l2;clear h3 k3 a4 l2;have q:=an.out.q;obtain⟨c0,c1⟩:=Fp q;obtain⟨f0,f1⟩:=ef q;clear q
 try go_simp
 refine hK.out _ _ (HI.out _ an.out.t an.out.y) ?_;clear hK K
 try simp only[pu]
 iterate 4
  refine' pT ?_ ?_;rotate_left
  ·intro x;go_simp
   try rfl
  try simp only[pu]
 refine pD fun K hK=>?_;go_simp;have ai:=If (an.out.write (W':=w5.setCell ⟨w.heap.size+1,1,none⟩ (.int .u64 p2)) HG.c HG.d (by simp) ⟨rfl,rfl,rfl⟩ (fun k hk=>FB hk) (heap_setCell an.out.q));clear c0 c1 f0 f1;generalize w5.setCell ⟨w.heap.size+1,1,none⟩ (.int .u64 p2)=w6 at*
 try go_simp
 refine hK.out _ _ (HI.out _ ai.out.t ai.out.y) ?_;clear hK K
 try simp only[pu]
 refine pD fun K hK=>?_;go_simp
 try go_simp
 refine hK.out _ _ (HI.out _ ai.out.t ai.out.y) ?_;clear hK K
 try simp only[pu]
 refine eP ?_;have q:=ai.out.q;obtain⟨c0,c1⟩:=Fp q;obtain⟨f0,f1⟩:=ef q;have HF:=If (ai.out.write (W':=((w6.setCell ⟨(w.heap.size+1),0,none⟩ (.int .u64 p1)).setCell ⟨(w.heap.size+1),1,none⟩ (.int .u64 p2))) HG.c HG.d (by simp) ⟨rfl,rfl,rfl⟩ (fun k hk=>fA hk _ _) (ew q _ _));clear q;go_wp2_with fail;generalize ((w6.setCell ⟨(w.heap.size+1),0,none⟩ (.int .u64 p1)).setCell ⟨(w.heap.size+1),1,none⟩ (.int .u64 p2))=w7 at*;have q:=HF.out.q;obtain⟨e0,e1⟩:=Fp q;exact bodyPost_ret (v:=.tuple #[.agg #[.int .u64 p1,.int .u64 p2],.int .i64 0]) (by simp[results,f82,go_sem,e0,e1]) rfl ⟨rfl,HF.out.st.mono fun k hk=>ab hk,HF.out.k,HL.a,HL.b,a6.out⟩
theorem xL{px ps kind td root:Nat}(h:Ig w ps S Y)(hi:Fv S)(hT:FF w px ps ty kv kind td root)(hpx:Y px)(k v:Nat)(hk:k<2^64)(hv:v<2^64)(hg:(fz S v).2≠8)(hi1:Fv (S.drop k).2):
 Ct 83 #[PV px,Id k v,.bool true] w fun e w'=>e=.returned (SV (fz S v).1)/\Ig w' ps ((S.drop k).2.drop v).2 Y/\Fo Y w w':=by
 have B1:=(aa w.heap.size w).alloc Ih (.cells #[.int .u64 k,.int .u64 v] 137);have q1:=heap_alloc_new w (.cells #[.int .u64 k,.int .u64 v] 137);have S1:=h.wide B1;have T1:=hT.below B1;have a3:=h.yl;have sw:(w.alloc (.cells #[.int .u64 k,.int .u64 v] 137)).heap.size=w.heap.size+1:=by simp
 rw[sw] at S1;have ar:=fun W Z (hW:Ig W ps S Z)=>iz hW hi v hv hg;have au:=fun W Z (hW:Ig W ps S Z)=>sE hW hi k hk;have a0:=fun W Z (hW:Ig W ps (S.drop k).2 Z)=>sE hW hi1 v hv;simp only[Id];generalize (fz S v).1=t at*;generalize (fz S v).2=er at*;generalize (S.drop k).1=e1 at*;generalize (S.drop k).2=S2 at*;generalize (S2.drop v).1=e2 at*;generalize (S2.drop v).2=S3 at*;have HG:=kq4 ar au a0 (Fo.of_below B1 a3);clear ar au a0 h hi hi1 hg;go_enter func83,ntmps83;go_wp2_with fail;generalize w.alloc (.cells #[.int .u64 k,.int .u64 v] 137)=W at*;obtain⟨I,ai,al⟩:=lB (fun w'=>FF w' px ps ty kv kind td root) (fun w'=>w'.heap[w.heap.size]?=some (.cells #[.int .u64 k,.int .u64 v] 137));have an:=fun x:Fq I=>(ai _ x.ok).1;have a1:=fun x:Fq I=>(ai _ x.ok).2;simp only[FF] at an;obtain⟨m0,m1,m2,m3,m4⟩:=iK an;obtain⟨n0,n1⟩:=fw a1;have a2:I W.drew:=al _ T1 q1;have HI:=If al;have HW:=kq3 S1 T1 q1;clear S1 T1 q1 B1 ai al an a1;refine fh I (.take 0 (.take 1 (.take 2 (.take 3 (.take 4 (.take 5 (.go 6 (.take 7 (.take 8 (.take 9 (.take 10 (.take 11 .nil)))))))))))) (by kernel_rfl) (by kernel_rfl) a2 ?_
 iterate 6
  refine' pT ?_ ?_;rotate_left
  ·intro x;go_simp
   try rfl
  try simp only[pu]
 refine pD fun K hK=>?_;go_simp;refine(HG.a _ _ (HW.a.drewN 1)).mono ?_;rintro e w2 ⟨rfl,ad⟩;have T2:FF w2 px ps ty kv kind td root:=FF.below (w:=W.drew) HW.b ad;have q2:w2.heap[w.heap.size]?=_:=(ad.block w.heap.size (gl HW.c)).trans HW.c;have s2:=(HW.a.drewN 1).below ad;have k2:Fo Y W w2:=(Fo.drewN Y W 1).trans ((HW.a.drewN 1).keep ad |>.mono fun k hk=>ab hk);have H2:=kq4 s2 T2 q2 (HG.d.trans k2);clear s2 T2 q2 ad k2
 try go_simp
 refine hK.out _ _ (HI.out _ H2.b H2.c) ?_;clear hK K
 try simp only[pu]
 iterate 5
  refine' pT ?_ ?_;rotate_left
  ·intro x;go_simp
   try rfl
  try simp only[pu]
 refine eP ?_;go_wp2_with fail;have ao:I w2.drew:=HI.out _ H2.b H2.c;refine fh I (.take 0 (.take 1 (.take 2 (.take 3 (.take 4 (.take 5 (.go 6 .nil))))))) (by kernel_rfl) (by kernel_rfl) ao ?_
 iterate 6
  refine' pT ?_ ?_;rotate_left
  ·intro x;go_simp
   try rfl
  try simp only[pu]
 refine pD fun K hK=>?_;go_simp;refine(HG.b _ _ (H2.a.drewN 1)).mono ?_;rintro e w3 ⟨rfl,s3,k3⟩;have T3:FF w3 px ps ty kv kind td root:=FF.keep (w:=w2.drew) H2.b k3 (ab hpx);have q3:=(k3.block w.heap.size (ae ⟨Nat.le_refl _,aJ _⟩)).trans H2.c;have H3:=kq4 s3 T3 q3 (H2.d.trans ((Fo.drewN Y w2 1).trans (k3.mono fun k hk=>ab hk)));clear s3 T3 q3 k3 ao
 try go_simp
 refine hK.out _ _ (HI.out _ H3.b H3.c) ?_;clear hK K
 try simp only[pu]
 refine eP ?_;go_wp2_with fail;have ap:I w3.drew:=HI.out _ H3.b H3.c;refine fh I (.take 0 (.take 1 (.take 2 (.take 3 (.take 4 (.take 5 (.go 6 .nil))))))) (by kernel_rfl) (by kernel_rfl) ap ?_
 iterate 6
  refine' pT ?_ ?_;rotate_left
  ·intro x;go_simp
   try rfl
  try simp only[pu]
 refine pD fun K hK=>?_;go_simp;refine(HG.c _ _ (H3.a.drewN 1)).mono ?_;rintro e w4 ⟨rfl,s4,k4⟩;have T4:FF w4 px ps ty kv kind td root:=FF.keep (w:=w3.drew) H3.b k4 (ab hpx);have q4:=(k4.block w.heap.size (ae ⟨Nat.le_refl _,aJ _⟩)).trans H3.c;have H4:=kq2 (s4.mono (Z:=Y) fun k hk=>ab hk) (H3.d.trans ((Fo.drewN Y w3 1).trans (k4.mono fun k hk=>ab hk)))
 try go_simp
 refine hK.out _ _ (HI.out _ T4 q4) ?_;clear hK K
 try simp only[pu]
 clear s4 k4 ap T4 q4;refine eP ?_;go_wp2_with fail;go_ret;exact⟨rfl,H4.out⟩
structure tn (w W:World) (px ps:Nat) (ty:TypeId) (kv:Value) (kind td root:Nat) (S:St) (Y:Nat->Prop) (b9 ik iv:Nat):Prop where
 t:FF W px ps ty kv kind td root
 st:Ig W ps S Y
 k:Fo Y w W
 q:W.heap[b9]?=some (.cells #[.int .u64 ik,.int .u64 iv] 137)
 l:w.heap.size<=b9
theorem ny{px ps kind td root:Nat}(h:Ig w ps S Y)(hi:Fv S)(hT:FF w px ps ty kv kind td root)(hpx:Y px)(a b:List UInt8)(hm:nJ S a b){S1:St}(hp:itemsM S a b=some (p,S1))(was:Bool)(tv:List UInt8){R:Nat->Nat->Nat->St->Prop}{R2:Nat->St->Prop}{fm:FuncId}(hme:∀(f:Nat) (v:Value) (w:World),(method (f+1) ty v "loft/backend.insert").run prog w=.ok (fm,v) w)(hen:∀(args:Array Value) (w:World),(callFunc fm args).run prog w=.ok (.enter fm args) w)(hin:∀W Z,Ig W ps S1 Z->p.1<2^64->p.2<2^64->Ct fm #[kv,.int .u64 root,Id p.1 p.2] W fun e w'=>∃(x ik iv:Nat) (S':St),e=.returned (.tuple #[.int .u64 x,Id ik iv,.bool was,.int .i64 0])/\Ig w' ps S' Z/\Fo Z W w'/\R x ik iv S')(hgo:∀x ik iv S',R x ik iv S'->∀W Z,Ig W ps S' Z->FF W px ps ty kv kind td x->Z px->Ct 83 #[PV px,Id ik iv,.bool was] W fun e w'=>∃S3,e=.returned (SV tv)/\Ig w' ps S3 Z/\Fo Z W w'/\R2 x S3):
 Ct 58 #[PV px,eu (a,b)] w fun e w'=>∃(x:Nat) (S3:St),e=.returned (.tuple #[SV tv,.bool was,.int .i64 0])/\Ig w' ps S3 Y/\Fo (fun k=>Y k/\k≠px) w w'/\FF w' px ps ty kv kind td x/\R2 x S3:=by
 have a6:(1000<(a.length:Int))=False:=eq_false (by have:=hm.1;omega);have a7:(1000<(b.length:Int))=False:=eq_false (by have:=hm.2.1;omega);have B0:=(aa w.heap.size w).alloc Ih (.cells #[SV a,SV b] 34);have hn:=kw (hT.below B0);have an:=ER (h.below B0) hi (hT.below B0) hpx a b hm hp;have hY:=h.yl;have a0:=hT.below B0;have au:=Fo.of_below B0 hY;obtain⟨p1,p2⟩:=p;simp only[eu,Id] at an hin hgo⊢;have HG:=kq8 hn an hin hgo hpx hY a0 au;clear hn an hin hgo B0 h hi hT hm hp hY a0 au;go_enter func58,ntmps58;go_wp2_with fail;refine HG.a.mono ?_;rintro e w0 ⟨rfl,rfl⟩;go_wp2_with fail;refine HG.b.mono ?_;rintro e w1 ⟨rfl,s1,k1,i1,l1,l2⟩;have A2:=(aa w1.heap.size w1).alloc Ih (.cells #[.int .u64 p1,.int .u64 p2] 137);have q2:=heap_alloc_new w1 (.cells #[.int .u64 p1,.int .u64 p2] 137);have s2:=s1.wide A2;have z2:(w1.alloc (.cells #[.int .u64 p1,.int .u64 p2] 137)).heap.size=w1.heap.size+1:=by simp
 have K2:=HG.h.trans (k1.trans (s1.keep A2));have T2:FF (w1.alloc (.cells #[.int .u64 p1,.int .u64 p2] 137)) px ps ty kv kind td root:=HG.g.keep (k1.trans (s1.keep A2)) HG.e;have ins:=fun W Z hW=>HG.c W Z hW l1 l2;have a3:w.heap.size<=w1.heap.size:=by have:=(HG.h.trans k1).size;exact this
 rw[z2] at s2;clear s1 k1 i1 A2;go_wp2_with fail;generalize a5:w1.alloc (.cells #[.int .u64 p1,.int .u64 p2] 137)=w2 at*;generalize a4:w1.heap.size=b7 at*;clear a5 a4 w1;have H2:=kq7 T2 s2 K2 q2 ins a3 z2;obtain⟨I,ai,al⟩:=lB (fun w'=>FF w' px ps ty kv kind td root) (fun w'=>w'.heap[b7]?=some (.cells #[.int .u64 p1,.int .u64 p2] 137));have ao:=fun x:Fq I=>(ai _ x.ok).1;have a2:=fun x:Fq I=>(ai _ x.ok).2;simp only[FF] at ao;obtain⟨m0,m1,m2,m3,m4⟩:=iK ao;obtain⟨n0,n1⟩:=fw a2;have ar:I w2.drew:=al _ T2 q2;have HI:=If al;clear ai al ao a2 T2 s2 K2 q2 ins a3 z2;refine fh I (.take 0 (.take 1 (.take 2 (.take 3 (.take 4 (.take 5 (.take 6 (.take 7 (.take 8 (.take 9 (.take 10 (.two 11 17 (.take 12 (.take 13 (.take 14 (.take 15 (.take 16 (.go 17 (.go 18 (.go 19 (.go 20 (.go 21 .nil)))))))))) (.go 11 (.take 12 (.take 13 (.take 14 (.take 15 (.take 16 (.go 18 (.go 19 (.go 20 (.go 21 .nil)))))))))))))))))))))) (by kernel_rfl) (by kernel_rfl) ar ?_;clear ar
 iterate 11
  refine' pT ?_ ?_;rotate_left
  ·intro x;go_simp
   try rfl
  try simp only[pu]
 refine gL ?h1 ?h2
 case' h1=>
  refine pD fun K hK=>?_;go_simp;refine(H2.e _ _ (H2.b.below (aa _ _).drew)).mono ?_;rintro e w3 ⟨x,ik,iv,S',rfl,s3,k3,i3⟩;have T3:=FF.keep (w:=w2.drew) H2.a k3 (ab HG.e);have q3:w3.heap[b7]?=some (.cells #[.int .u64 p1,.int .u64 p2] 137):=(k3.block b7 (ae ⟨Nat.le_refl _,aJ _⟩)).trans H2.d;have H3:=kq5 T3 q3 s3 (k3.mono (Z:=Y) fun k hk=>ab hk) i3;clear T3 q3 s3 k3 i3
  try go_simp
  refine hK.out _ _ (HI.out _ H3.a H3.b) ?_;clear hK K
  try simp only[pu]
  iterate 5
   refine' pT ?_ ?_;rotate_left
   ·intro x;go_simp
    try rfl
   try simp only[pu]
  refine pD fun K hK=>?_;go_simp;have A4:=(aa w3.heap.size w3).alloc Ih (.cells #[.int .u64 0,.int .u64 0] 137);have TA:=H3.a.below A4;have q4:=(A4.block b7 (gl H3.b)).trans H3.b;have sA:=((H3.c.mono (Z:=Y) fun k hk=>ab hk).wide A4).mono (Z:=fun k=>Y k\/k=w3.heap.size) (fun k hk=>hk.imp id fun e=>⟨by omega,by simp;omega⟩);have kA:=(H2.c.trans (Fo.drewN Y w2 1)).trans (H3.d.trans ((H3.c.mono (Z:=Y) fun k hk=>ab hk).keep A4));have qA:=heap_alloc_new w3 (.cells #[.int .u64 0,.int .u64 0] 137);have lA:w.heap.size<=w3.heap.size:=((H2.c.trans (Fo.drewN Y w2 1)).trans H3.d).size;have iA:=H3.e;have nb:b7≠w3.heap.size:=cP (gl H3.b);clear A4 H3;generalize w3.alloc (.cells #[.int .u64 0,.int .u64 0] 137)=W at*;generalize w3.heap.size=b9 at*
  try go_simp
  refine hK.out _ _ (HI.out _ TA q4) ?_;clear hK K
  try simp only[pu]
  refine pD fun K hK=>?_;go_simp
  try go_simp
  refine hK.out _ _ (HI.out _ TA q4) ?_;clear hK K
  try simp only[pu]
  obtain⟨c0,c1⟩:=Fp qA;obtain⟨f0,f1⟩:=ef qA;have HA:=kq6 TA sA kA qA lA iA;clear TA sA kA qA lA iA;refine pD fun K hK=>?_;go_simp;have q5:((W.setCell ⟨b9,0,none⟩ (.int .u64 ik)).setCell ⟨b9,1,none⟩ (.int .u64 iv)).heap[b7]?=some (.cells #[.int .u64 p1,.int .u64 p2] 137):=(fA nb _ _).trans q4;have ad:px≠b9:=by have:=HG.f px HG.e;have:=HA.e;omega
  have qB:=ew HA.d (.int .u64 ik) (.int .u64 iv);have oB:∀k,k≠b9->((W.setCell ⟨b9,0,none⟩ (.int .u64 ik)).setCell ⟨b9,1,none⟩ (.int .u64 iv)).heap[k]?=W.heap[k]?:=fun k hk=>fA hk _ _;have sB:Ig ((W.setCell ⟨b9,0,none⟩ (.int .u64 ik)).setCell ⟨b9,1,none⟩ (.int .u64 iv)) ps S' Y:=(HA.b.write (ae rfl) HA.d ⟨by decide,by decide⟩ (by simp) (by simp) fun k _ hk=>oB k hk).mono fun k hk=>ab hk;have kB:Fo Y w ((W.setCell ⟨b9,0,none⟩ (.int .u64 ik)).setCell ⟨b9,1,none⟩ (.int .u64 iv)):=HA.c.trans ⟨rfl,rfl,rfl,by simp,fun k hk=>oB k (by have:=HG.f k hk;have:=HA.e;omega)⟩;have P7:tn w ((W.setCell ⟨b9,0,none⟩ (.int .u64 ik)).setCell ⟨b9,1,none⟩ (.int .u64 iv)) px ps ty kv kind td root S' Y b9 ik iv:=⟨(oB px ad).trans HA.a,sB,kB,qB,HA.e⟩;have ap:=If HA.f;clear c0 c1 f0 f1 HA qB oB sB kB ad;have H7:=If P7;clear P7;generalize ((W.setCell ⟨b9,0,none⟩ (.int .u64 ik)).setCell ⟨b9,1,none⟩ (.int .u64 iv))=W7 at*
  try go_simp
  refine hK.out _ _ (HI.out _ H7.out.t q5) ?_;clear hK K
  try simp only[pu]
  refine pD fun K hK=>?_;go_simp
  try go_simp
  refine hK.out _ _ (HI.out _ H7.out.t q5) ?_;clear hK K
  try simp only[pu]
  refine pD fun K hK=>?_;go_simp
  try go_simp
  refine hK.out _ _ (HI.out _ H7.out.t q5) ?_;clear hK K
  try simp only[pu]
  refine eP ?_;clear q4 q5 w3 nb
 case' h2=>
  refine pD fun K hK=>?_;go_simp;have A3:=((aa w2.heap.size w2).alloc Ih (.cells #[.int .u64 0,.int .u64 0] 137)).drew;have T3:=H2.a.below A3;have q3:=(A3.block b7 (gl H2.d)).trans H2.d;have qz:(w2.alloc (.cells #[.int .u64 0,.int .u64 0] 137)).drew.heap[w2.heap.size]?=_:=heap_alloc_new w2 (.cells #[.int .u64 0,.int .u64 0] 137);have s3:=H2.b.wide A3;have z3:(w2.alloc (.cells #[.int .u64 0,.int .u64 0] 137)).drew.heap.size=w2.heap.size+1:=by show (w2.alloc _).heap.size=_;simp
  have k3:=H2.c.trans ((H2.b.mono (Z:=Y) fun k hk=>ab hk).keep A3);have nb:b7≠w2.heap.size:=by have:=H2.g;omega
  have lz:w.heap.size<=w2.heap.size:=H2.c.size;rw[z3] at s3;clear A3 z3;generalize (w2.alloc (.cells #[.int .u64 0,.int .u64 0] 137)).drew=w3 at*;generalize w2.heap.size=b9 at*
  try go_simp
  refine hK.out _ _ (HI.out _ T3 q3) ?_;clear hK K
  try simp only[pu]
  have H3:=kq6 T3 q3 s3 k3 qz lz;clear T3 q3 s3 k3 qz lz;refine pD fun K hK=>?_;go_simp;refine(H2.e _ _ H3.c).mono ?_;rintro e W ⟨x,ik,iv,S',rfl,s4,k4,i4⟩;have TA:=FF.keep (w:=w3) H3.a k4 (ab (ab HG.e));have q4:W.heap[b7]?=some (.cells #[.int .u64 p1,.int .u64 p2] 137):=(k4.block b7 (ab (ae ⟨Nat.le_refl _,aJ _⟩))).trans H3.b;have sA:=s4.mono (Z:=fun k=>Y k\/k=b9) (fun k hk=>hk.elim (fun h=>ab (ab h)) fun e=>ae ⟨by omega,by omega⟩);have kA:=H3.d.trans (k4.mono (Z:=Y) fun k hk=>ab (ab hk));have qA:W.heap[b9]?=some (.cells #[.int .u64 0,.int .u64 0] 137):=(k4.block b9 (ae ⟨Nat.le_refl _,aJ _⟩)).trans H3.e;have lA:=H3.f;have iA:=i4;clear s4 k4 i4 H3
  try go_simp
  refine hK.out _ _ (HI.out _ TA q4) ?_;clear hK K
  try simp only[pu]
  iterate 5
   refine' pT ?_ ?_;rotate_left
   ·intro x;go_simp
    try rfl
   try simp only[pu]
  refine pD fun K hK=>?_;go_simp
  try go_simp
  refine hK.out _ _ (HI.out _ TA q4) ?_;clear hK K
  try simp only[pu]
  obtain⟨c0,c1⟩:=Fp qA;obtain⟨f0,f1⟩:=ef qA;have HA:=kq6 TA sA kA qA lA iA;clear TA sA kA qA lA iA;refine pD fun K hK=>?_;go_simp;have q5:((W.setCell ⟨b9,0,none⟩ (.int .u64 ik)).setCell ⟨b9,1,none⟩ (.int .u64 iv)).heap[b7]?=some (.cells #[.int .u64 p1,.int .u64 p2] 137):=(fA nb _ _).trans q4;have ad:px≠b9:=by have:=HG.f px HG.e;have:=HA.e;omega
  have qB:=ew HA.d (.int .u64 ik) (.int .u64 iv);have oB:∀k,k≠b9->((W.setCell ⟨b9,0,none⟩ (.int .u64 ik)).setCell ⟨b9,1,none⟩ (.int .u64 iv)).heap[k]?=W.heap[k]?:=fun k hk=>fA hk _ _;have sB:Ig ((W.setCell ⟨b9,0,none⟩ (.int .u64 ik)).setCell ⟨b9,1,none⟩ (.int .u64 iv)) ps S' Y:=(HA.b.write (ae rfl) HA.d ⟨by decide,by decide⟩ (by simp) (by simp) fun k _ hk=>oB k hk).mono fun k hk=>ab hk;have kB:Fo Y w ((W.setCell ⟨b9,0,none⟩ (.int .u64 ik)).setCell ⟨b9,1,none⟩ (.int .u64 iv)):=HA.c.trans ⟨rfl,rfl,rfl,by simp,fun k hk=>oB k (by have:=HG.f k hk;have:=HA.e;omega)⟩;have P7:tn w ((W.setCell ⟨b9,0,none⟩ (.int .u64 ik)).setCell ⟨b9,1,none⟩ (.int .u64 iv)) px ps ty kv kind td root S' Y b9 ik iv:=⟨(oB px ad).trans HA.a,sB,kB,qB,HA.e⟩;have ap:=If HA.f;clear c0 c1 f0 f1 HA qB oB sB kB ad;have H7:=If P7;clear P7;generalize ((W.setCell ⟨b9,0,none⟩ (.int .u64 ik)).setCell ⟨b9,1,none⟩ (.int .u64 iv))=W7 at*
  try go_simp
  refine hK.out _ _ (HI.out _ H7.out.t q5) ?_;clear hK K
  try simp only[pu]
  refine pD fun K hK=>?_;go_simp
  try go_simp
  refine hK.out _ _ (HI.out _ H7.out.t q5) ?_;clear hK K
  try simp only[pu]
  refine pD fun K hK=>?_;go_simp
  try go_simp
  refine hK.out _ _ (HI.out _ H7.out.t q5) ?_;clear hK K
  try simp only[pu]
  refine eP ?_;clear q4 q5 w3 nb
 all_goals
  clear m0 m1 m2 m3 m4 n0 n1 HI I;have t7:=H7.out.t;simp only[FF] at t7;obtain⟨c0,c1,c2,c3,c4⟩:=ld t7;obtain⟨f0,f1,f2,f3,f4⟩:=G2 t7;have ad:px≠b9:=by have:=HG.f px HG.e;have:=H7.out.l;omega
  have t8:FF (W7.setCell ⟨px,4,none⟩ (.int .u64 x)) px ps ty kv kind td x:=heap_setCell t7;have q8:=(FB (w:=W7) (b:=px) (i:=4) (v:=.int .u64 x) ad.symm).trans H7.out.q;have s8:Ig (W7.setCell ⟨px,4,none⟩ (.int .u64 x)) ps S' Y:=H7.out.st.write HG.e t7 ⟨by decide,by decide⟩ (by simp) (by simp) fun k _ hk=>FB hk;have k8:Fo (fun k=>Y k/\k≠px) w (W7.setCell ⟨px,4,none⟩ (.int .u64 x)):=(H7.out.k.mono fun k hk=>hk.1).trans ⟨rfl,rfl,rfl,by simp,fun k hk=>FB hk.2⟩;obtain⟨e0,e1⟩:=Fp q8;have H8:=kq3 t8 s8 k8;clear t7 t8 s8 k8 ad q8;go_wp2_with fail;refine(HG.d x ik iv S' ap.out _ _ H8.b H8.a HG.e).mono ?_;rintro e w9 ⟨S3,rfl,s9,k9,r9⟩;have a1:Ig w9 ps S3 Y/\Fo (fun k=>Y k/\k≠px) w w9/\FF w9 px ps ty kv kind td x/\R2 x S3:=⟨s9,H8.c.trans (k9.mono fun k hk=>hk.1),FF.keep H8.a k9 HG.e,r9⟩;have HF:=If a1;clear a1 s9 k9 H8 c0 c1 c2 c3 c4 f0 f1 f2 f3 f4 e0 e1;go_wp2_with fail;go_ret3;exact⟨x,S3,rfl,HF.out⟩
end
section
open Go.RowKit Tryz Go.BigFrame Go.Maps Go.WideMaps Lf Tr
variable{S:St}{Y:Nat->Prop}{k:List UInt8}{n:BN}{ps:Nat}{t:Nat}{w:World}
def FH(ps t:Nat):Value:=.agg #[PV ps,.int .i64 t]
theorem zK(h:Ig w ps S Y)(hi:Fv S)(t hh:Nat)(hl:hh<2^64)(hg:fz S hh=(k,0)):
 Cb 162 #[FH ps t,.int .u64 hh] w (SV k):=by
 have ad:Below w.heap.size w (w.alloc (.cells #[PV ps,.int .i64 t] 254)):=(aa _ w).alloc Ih _;have ai:=hg;have hg:=iz (h.below ad) hi hh hl (by rw[hg];show (0:Nat)≠8;decide);rw[ai] at hg;unfold FH;have HG:=kq2 hg ad;clear hg ad h hi ai;go_enter func162,ntmps162;go_wp2_with fail;refine HG.a.mono ?_;rintro e w1 ⟨rfl,hb⟩;have HB:=If (HG.b.trans (hb.mono HG.b.size));clear hb;go_wp2_with fail;go_ret;exact⟨rfl,HB.out⟩
theorem zP(h:Ig w ps S Y)(hi:Fv S)(t hh:Nat)(hl:hh<2^64)(hg:fz S hh=(k,0))(key:List UInt8){b:Nat}(hb:w.heap[b]?=some (.cells #[PV ps,.int .i64 t] 254 (0,0))):
 Cb 338 #[.int .u64 hh,SV key,PV b] w (.int .i64 (Fu k key)):=by
 have hk:=zK h hi t hh hl hg;unfold FH at hk;obtain⟨c0,c1⟩:=Fp hb;have HG:=If hk;have HC:=fun W=>If (sT k key W);clear hk h hi hg hb;go_enter func338,ntmps338;go_wp2_with fail;refine HG.out.mono ?_;rintro e w1 ⟨rfl,hb⟩;have HB:=If hb;clear hb;go_wp2_with fail;refine(HC _).out.mono ?_;rintro e w2 ⟨rfl,rfl⟩;go_wp2_with fail;go_ret;exact⟨rfl,HB.out⟩
def fo(key:List UInt8)(es:List It):Bool:=match es[Fr key es]? with | some e=>decide (e.k=key) | none=>false
theorem yY{key:List UInt8}{es:List It}{k:Nat}(h1:∀(j:Nat) (h:j<es.length),j<k->Fu es[j].k key<0)(h2:∀(j:Nat) (h:j<es.length),k<=j->0<=Fu es[j].k key)(hk:k<=es.length):Fr key es=k:=by
 conv=>lhs;rw[<-aX k es]
 rw[lJ,lI,lK,ay]
 ·omega
 ·intro d hd;obtain⟨j,hj,rfl⟩:=co.1 hd;rw[List.getElem_drop];have:=h2 (k+j) (by rw[aN] at hj;omega) (by omega);omega
 ·intro d hd;obtain⟨j,hj,rfl⟩:=co.1 hd;rw[dR];rw[ay] at hj;exact h1 _ _ (by omega)
theorem G3{v:Value}{es:List It}(h:FD w v (es.map (·.kh)))(hl:es.length<=100000)(hs:es.Pairwise eU)(key:List UInt8){f b:Nat}(hen:∀(args:Array Value) (w:World),(callFunc f args).run prog w=.ok (.enter f args) w)
 (hcall:∀W,Below w.heap.size w W->∀(j:Nat) (hj:j<es.length),Ct f #[.int .u64 (es[j].kh:Nat),SV key,PV b] W fun e w'=>e=.returned (.int .i64 (Fu es[j].k key))/\Below W.heap.size W w'):
 Cb 336 #[v,SV key,.func (.func f) #[] #[PV b]] w (.tuple #[.int .i64 (Fr key es:Nat),.bool (fo key es)]):=by
 obtain⟨A,c,rfl,hc⟩:=h;have hc:∀(i:Nat) (h:i<es.length),∃g o,A=some ⟨g,o,none⟩/\w.cell? ⟨g,o+i,none⟩=some (.int .u64 (es[i].kh:Nat)):=fun i h=>by
  obtain⟨g,o,e1,e2⟩:=hc i (by simpa using h);rw[bq] at e2;exact⟨g,o,e1,e2⟩
 rw[aq];obtain⟨n,hn⟩:=Ii es.length;have au:∀(i j:Nat) (hi:i<es.length) (hj:j<es.length),i<=j->Fu es[j].k key<0->Fu es[i].k key<0:=fun i j hi hj hij hlt=>by
  rcases cg i j with h | h
  ·exact ig (cL.1 hs i j hi hj h) hlt
  ·obtain rfl:i=j:=by omega
   exact hlt
 rw[hn] at hl⊢;have H:=kq4 hc hcall au hn;clear hc hcall au hs;go_enter func336,ntmps336;go_wp2_with fail;go_loopw [9,10] (fun s9 s10 wr=>∃lo hi:Nat,lo<=hi/\hi<=n/\s9=.int .i64 lo/\s10=.int .i64 hi/\Hid (Below w.heap.size w wr/\(∀(j:Nat) (h:j<es.length),j<lo->Fu es[j].k key<0)/\(∀(j:Nat) (h:j<es.length),hi<=j->0<=Fu es[j].k key))) (fun s9 s10 _=>(intOf s10).toNat-(intOf s9).toNat)
 case atStart=>exact⟨0,n,by omega,by omega,rfl,rfl,aa _ _,fun _ _ h=>absurd h (by omega),fun j h1 h2=>absurd h1 (by omega)⟩
 case round=>
  obtain⟨lo,hi,a3,ar,rfl,rfl,I⟩:=hrel;by_cases hlt:lo<hi
  ·obtain⟨m,hm⟩:=Ii ((lo+hi) / 2);have ao:m<es.length:=by omega
   have a2:(lo:Int)<hi:=by omega
   have q1:IntKind.i64.wrap ((lo:Int)+hi)=(lo:Int)+hi:=aD _ (by omega);obtain⟨g,o,rfl,c1⟩:=H.a m ao;have c2:=(I.out.1.cell (p:=⟨g,o+m,none⟩) (fK c1)).trans c1;have al:=H.b wr I.out.1 m ao;have a4:((lo:Int)+hi) / 2=(m:Nat):=by omega
   have a5:(m:Int)<n:=by omega
   have HK:=kq2 al hm;obtain⟨e,he⟩:=Ii es[m];have HE:=If he;rw[he] at c2 HK;clear al he c1 hm;by_cases hcp:Fu e.k key<0
   ·go_wp2_with fail;refine HK.a.mono ?_;rintro e w' ⟨rfl,hb⟩;have ai:Below w.heap.size w w'/\(∀(j:Nat) (h:j<es.length),j<m+1->Fu es[j].k key<0)/\(∀(j:Nat) (h:j<es.length),hi<=j->0<=Fu es[j].k key):=
     ⟨I.out.1.trans (hb.mono I.out.1.size),fun j h1 h2=>H.c j m h1 ao (by omega) (by rw[HE.out];exact hcp),I.out.2.2⟩
    have HI:=If ai;clear ai hb;go_wp2_with fail;go_roundw
    case rel=>exact⟨m+1,hi,by have:=HK.b;omega,ar,by simp,rfl,HI⟩
    case measure=>have:=HK.b;simp[intOf];omega
   ·go_wp2_with fail;refine HK.a.mono ?_;rintro e w' ⟨rfl,hb⟩;have ai:Below w.heap.size w w'/\(∀(j:Nat) (h:j<es.length),j<lo->Fu es[j].k key<0)/\(∀(j:Nat) (h:j<es.length),m<=j->0<=Fu es[j].k key):=
     ⟨I.out.1.trans (hb.mono I.out.1.size),I.out.2.1,fun j h1 h2=>Int.not_lt.1 fun hx=>by have:=H.c m j ao h1 h2 hx;rw[HE.out] at this;omega⟩
    have HI:=If ai;clear ai hb;go_wp2_with fail;go_roundw
    case rel=>exact⟨lo,m,by have:=HK.b;omega,by omega,rfl,rfl,HI⟩
    case measure=>have:=HK.b;simp[intOf];omega
  ·obtain rfl:lo=hi:=by omega
   have a2:¬(lo:Int)<lo:=by omega
   have ad:=yY I.out.2.1 I.out.2.2 (by rw[H.d];exact ar);by_cases hln:lo<n
   ·have ap:lo<es.length:=by omega
    have a1:(lo:Int)<n:=by omega
    obtain⟨g,o,rfl,c1⟩:=H.a lo ap;have c2:=(I.out.1.cell (p:=⟨g,o+lo,none⟩) (fK c1)).trans c1;have al:=H.b wr I.out.1 lo ap;have an:fo key es=decide (Fu es[lo].k key=0):=by
     unfold fo;rw[ad,af ap];exact decide_eq_decide.2 ⟨fun e=>by rw[e,fX],jL⟩
    have HK:=kq3 al ad an;obtain⟨e,he⟩:=Ii es[lo];rw[he] at c2 HK;clear al he c1 ad an;generalize a0:Fu e.k key=q at*;clear a0;by_cases hq0:q=0
    ·subst hq0;go_wp2_with fail;refine HK.a.mono ?_;rintro e' w' ⟨rfl,hb⟩;have HI:=If (I.out.1.trans (hb.mono I.out.1.size));clear hb;go_wp2_with fail;go_ret2;exact⟨by rw[HK.b,HK.c];rfl,HI.out⟩
    ·have a6:(q==0)=false:=by simp;exact hq0
     go_wp2_with fail;refine HK.a.mono ?_;rintro e' w' ⟨rfl,hb⟩;have HI:=If (I.out.1.trans (hb.mono I.out.1.size));clear hb;go_wp2_with fail;go_ret2;exact⟨by rw[HK.b,HK.c,decide_eq_false hq0];rfl,HI.out⟩
   ·have a1:¬(lo:Int)<n:=by omega
    have an:fo key es=false:=by
     unfold fo;rw[ad,aH (by omega)]
    have HK:=kq2 ad an;clear ad an;go_wp2_with fail;go_ret2;exact⟨by rw[HK.a,HK.b];rfl,I.out.1⟩
structure pv (S:St) (es:List It):Prop where
 lt:∀e∈es,e.kh<2^64
 get:∀e∈es,fz S e.kh=(e.k,0)
theorem nR(h:Ig w ps S Y)(hi:Fv S)(t:Nat){es:List It}{vk vv vc:Value}{sz:Nat}(hk:FD w vk (es.map (·.kh)))(hl:es.length<=100000)(hs:es.Pairwise eU)(he:pv S es)(key:List UInt8):
 Cb 328 #[FH ps t,eC vk vv vc sz,SV key] w (.tuple #[.int .i64 (Fr key es:Nat),.bool (fo key es)]):=by
 have B0:=((aa w.heap.size w).alloc Ih (.cells #[PV ps,.int .i64 t] 254)).alloc (by simp) (.cells #[vk,vv,vc,.int .u64 sz] 286);have z1:(w.alloc (.cells #[PV ps,.int .i64 t] 254)).heap.size=w.heap.size+1:=by simp
 have q1:=heap_alloc_new w (.cells #[PV ps,.int .i64 t] 254);have q2:=heap_alloc_new (w.alloc (.cells #[PV ps,.int .i64 t] 254)) (.cells #[vk,vv,vc,.int .u64 sz] 286);have q3:=(((aa (w.alloc (.cells #[PV ps,.int .i64 t] 254)).heap.size (w.alloc (.cells #[PV ps,.int .i64 t] 254))).alloc Ih (.cells #[vk,vv,vc,.int .u64 sz] 286)).block w.heap.size (by simp)).trans q1;rw[z1] at q2;have ad:∀(args:Array Value) (w:World),(callFunc 338 args).run prog w=.ok (.enter 338 args) w:=fun args w=>by go_simp
 generalize hW:(w.alloc (.cells #[PV ps,.int .i64 t] 254)).alloc (.cells #[vk,vv,vc,.int .u64 sz] 286)=W0 at*;have ai:=G3 (hk.below B0) hl hs key (f:=338) (b:=w.heap.size) ad fun W hW j hj=>zP (h.below (B0.trans (hW.mono B0.size))) hi t _ (he.lt _ (aG hj)) (he.get _ (aG hj)) key ((hW.block w.heap.size (gl q3)).trans q3);obtain⟨c0,c1,c2,c3⟩:=Fy q2;unfold FH eC;have HG:=kq3 ai B0 hW;clear ai B0 h hi hk he q1 q2 q3 ad hs;go_enter func328,ntmps328;have hW:=HG.c;go_wp2_with fail;refine HG.a.mono ?_;rintro e w1 ⟨rfl,hb⟩;have HB:=If (HG.b.trans (hb.mono HG.b.size));clear hb;go_wp2_with fail;go_ret2;exact⟨rfl,HB.out⟩
theorem kI(h:Ig w ps S Y)(hi:Fv S){t hh:Nat}(hb:jg S t hh n):
 Ct 182 #[FH ps t,.int .u64 hh] w fun e w'=>∃vk vv vc,e=.returned (.tuple #[eC vk vv vc n.size,.bool true])/\fN w' w.heap.size vk vv vc n.keys n.vals n.kids/\Below w.heap.size w w':=by
 have B0:=((aa w.heap.size w).alloc Ih (.cells #[PV ps,.int .i64 t] 254)).alloc (by simp) (.cells #[.slice none 0 0,.slice none 0 0,.slice none 0 0,.int .u64 0] 286);have z1:(w.alloc (.cells #[PV ps,.int .i64 t] 254)).heap.size=w.heap.size+1:=by simp
 have q1:=heap_alloc_new w (.cells #[PV ps,.int .i64 t] 254);have q2:=heap_alloc_new (w.alloc (.cells #[PV ps,.int .i64 t] 254)) (.cells #[.slice none 0 0,.slice none 0 0,.slice none 0 0,.int .u64 0] 286);have q3:=(((aa (w.alloc (.cells #[PV ps,.int .i64 t] 254)).heap.size (w.alloc (.cells #[PV ps,.int .i64 t] 254))).alloc Ih (.cells #[.slice none 0 0,.slice none 0 0,.slice none 0 0,.int .u64 0] 286)).block w.heap.size (by simp)).trans q1;rw[z1] at q2;generalize hW:(w.alloc (.cells #[PV ps,.int .i64 t] 254)).alloc (.cells #[.slice none 0 0,.slice none 0 0,.slice none 0 0,.int .u64 0] 286)=W0 at*;obtain⟨sz,ao⟩:=Ii n.size;have hg:=zE (h.below B0) hi hb.ok hh hb.lt hb.len hb.get hb.words;unfold eC at hg;rw[ao] at hg;obtain⟨c0,c1⟩:=Fp q3;have hz:w.heap.size+2<=W0.heap.size:=by rw[<-hW];simp
 unfold FH;have HG:=kq5 hg B0 q2 hW hz;clear hg B0 h hi hb q1 q2 q3 z1 hz;go_enter func182,ntmps182;go_wp2_with fail;refine HG.a.mono ?_;rintro e w1 ⟨vk,vv,vc,rfl,rows,hb⟩;obtain⟨Ak,ck,rfl⟩:=rows.k.slice2;obtain⟨Av,cv,rfl⟩:=rows.v.slice2;obtain⟨Ac,cc,rfl⟩:=rows.c.slice2;obtain⟨ks,ai⟩:∃l,n.keys=l:=⟨_,rfl⟩;obtain⟨vs,al⟩:∃l,n.vals=l:=⟨_,rfl⟩;obtain⟨cs,ad⟩:∃l,n.kids=l:=⟨_,rfl⟩;rw[ai,al,ad] at rows⊢;rw[ai,al,ad] at HG;generalize a0:ks.length=lk at rows⊢;generalize a1:vs.length=lv at rows⊢;generalize au:cs.length=lc at rows⊢;have A1:=(aa w1.heap.size w1).alloc Ih (.cells #[(.slice Ak lk ck),(.slice Av lv cv),(.slice Ac lc cc),.int .u64 sz] 286);have p1:=heap_alloc_new w1 (.cells #[(.slice Ak lk ck),(.slice Av lv cv),(.slice Ac lc cc),.int .u64 sz] 286);have r2:=(A1.block (w.heap.size+1) (by have:=hb.size;have:=HG.e;omega)).trans ((hb.block (w.heap.size+1) (by have:=HG.e;omega)).trans HG.c);have an:w.heap.size+1≠w1.heap.size:=by have:=hb.size;have:=HG.e;omega
 have BA:=HG.b.trans ((hb.trans (A1.mono hb.size)).mono HG.b.size);have ap:=rows.lift (W':=w1.alloc (.cells #[(.slice Ak lk ck),(.slice Av lv cv),(.slice Ac lc cc),.int .u64 sz] 286)) (D':=W0.heap.size) Ih fun g _ hg=>A1.block g hg;have r1:=(hb.block (w.heap.size+1) (by have:=HG.e;omega)).trans HG.c;have HB:=kq6 ap BA r2 p1 r1 an;clear rows hb A1 p1 r2 BA ap an r1;obtain⟨W1,ar⟩:=Ii (w1.alloc (.cells #[(.slice Ak lk ck),(.slice Av lv cv),(.slice Ac lc cc),.int .u64 sz] 286));rw[ar] at HB;have r2:=HB.c;have p1:=HB.d;obtain⟨x0,x1,x2,x3⟩:=Fy p1;obtain⟨y0,y1,y2,y3⟩:=Fy r2;obtain⟨f0,f1,f2,f3⟩:=fO r2;clear r2 p1;go_wp2_with fail;have e5:=oZ (u0:=(.slice Ak lk ck)) (u1:=(.slice Av lv cv)) (u2:=(.slice Ac lc cc)) (u3:=.int .u64 sz) HB.c;have B5:=oY (u0:=(.slice Ak lk ck)) (u1:=(.slice Av lv cv)) (u2:=(.slice Ac lc cc)) (u3:=.int .u64 sz) (b:=w.heap.size+1) HB.b (by omega);have R5:=HB.a.lift (W':=((((W1.setCell ⟨w.heap.size+1,0,none⟩ ((.slice Ak lk ck))).setCell ⟨w.heap.size+1,1,none⟩ ((.slice Av lv cv))).setCell ⟨w.heap.size+1,2,none⟩ ((.slice Ac lc cc))).setCell ⟨w.heap.size+1,3,none⟩ (.int .u64 sz))) (D':=w.heap.size) (by have:=HG.e;omega) fun g hg _=>sy (by have:=HG.e;omega);generalize ((((W1.setCell ⟨w.heap.size+1,0,none⟩ ((.slice Ak lk ck))).setCell ⟨w.heap.size+1,1,none⟩ ((.slice Av lv cv))).setCell ⟨w.heap.size+1,2,none⟩ ((.slice Ac lc cc))).setCell ⟨w.heap.size+1,3,none⟩ (.int .u64 sz))=W9 at*;obtain⟨e0,e1,e2,e3⟩:=Fy e5;exact bodyPost_ret (v:=.tuple #[.agg #[(.slice Ak lk ck),(.slice Av lv cv),(.slice Ac lc cc),.int .u64 sz],.bool true]) (by simp[results,f182,go_sem,e0,e1,e2,e3]) rfl ⟨.slice Ak lk ck,.slice Av lv cv,.slice Ac lc cc,by rw[ao];rfl,by rw[ai,al,ad];exact R5,B5⟩
theorem nS(h:Ig w ps S Y)(hi:Fv S){t hh:Nat}(hb:jg S t hh n)(hz:n.size<2^62):
 Cb 163 #[FH ps t,.int .u64 hh] w (.int .i64 n.size):=by
 have B0:=(aa w.heap.size w).alloc Ih (.cells #[PV ps,.int .i64 t] 254);have hg:=kI (h.below B0) hi hb;obtain⟨sz,ad⟩:=Ii n.size;unfold FH eC at hg;unfold FH;rw[ad] at hz hg⊢;have hw:IntKind.i64.wrap (sz:Int)=(sz:Int):=aD _ (by omega);have HG:=kq2 hg B0;clear hg B0 h hi hb;go_enter func163,ntmps163;go_wp2_with fail;refine HG.a.mono ?_;rintro e w1 ⟨vk,vv,vc,rfl,rows,hb⟩;obtain⟨Ak,ck,rfl⟩:=rows.k.slice2;obtain⟨Av,cv,rfl⟩:=rows.v.slice2;obtain⟨Ac,cc,rfl⟩:=rows.c.slice2;generalize n.keys.length=lk at*;generalize n.vals.length=lv at*;generalize n.kids.length=lc at*;clear rows;have HB:=If ((HG.b.trans (hb.mono HG.b.size)).alloc (aO HG.b.size hb.size) (.cells #[.slice Ak lk ck,.slice Av lv cv,.slice Ac lc cc,.int .u64 sz] 286));clear hb;go_wp2_with fail;go_ret;exact⟨rfl,HB.out⟩
theorem zF(h:Ig w ps S Y)(hi:Fv S)(t1:2<=t)(t2:t<=16)(hh:Nat)(hl:hh<2^64)(hlen:S.len hh=(0,7)):
 Cb 195 #[PV ps,.int .i64 t,.int .u64 hh] w (.tuple #[eC (.slice none 0 0) (.slice none 0 0) (.slice none 0 0) 0,.int .i64 7]):=by
 have ad:=fun W (hW:Below w.heap.size w W)=>fB (h.below hW) hi 0 (by omega);have ai:=fun W (hW:Below w.heap.size w W)=>fB (h.below hW) hi hh hl;rw[fU] at ad;rw[hlen] at ai;have al:=fun W=>om t1 t2▸nP (t:Int) W;have six:=uz w ps hh;have HG:=kq3 ad ai al;clear ad ai al h hi hlen;unfold eC;generalize an:((((w.alloc (.cells #[PV ps] 25)).alloc (.cells #[.int .u64 hh] 83)).alloc (.cells #[.slice none 0 0,.slice none 0 0,.slice none 0 0,.int .u64 0] 286)).alloc (.cells #[.int .i64 0] 30))=w4 at*;have e3:=six.b3;have e5:=six.b5;have e6:=six.b6;have e7:=six.b7;have x0:(w4).cell? ⟨w.heap.size,0,none⟩=some (PV ps):=by rw[Fs e3];rfl
 have y0:(w4).cell? ⟨w.heap.size+1,0,none⟩=some (.int .u64 hh):=by rw[Fs e5];rfl
 obtain⟨z0,z1,z2,z3⟩:=Fy e6;obtain⟨f0,f1,f2,f3⟩:=fO e6;have c0:(w4).cell? ⟨w.heap.size+1+1+1,0,none⟩=some (.int .i64 0):=by rw[Fs e7];rfl
 have g0:(w4).frozen? ⟨w.heap.size+1+1+1,0,none⟩=false:=AT e7;have S4:=If six;clear e3 e5 e6 e7 six;go_enter func195,ntmps195;go_wp2_with fail;refine(HG.a _ S4.out.below).mono ?_;rintro e w5 ⟨rfl,rfl⟩;go_wp2_with fail;refine(HG.c _).mono ?_;rintro e w5 ⟨rfl,rfl⟩;go_wp2_with fail;refine(HG.b _ S4.out.below).mono ?_;rintro e w5 ⟨rfl,rfl⟩;go_wp2_with fail;have p6:=oZ (u0:=.slice none 0 0) (u1:=.slice none 0 0) (u2:=.slice none 0 0) (u3:=.int .u64 0) S4.out.b6;have B6:=oY (u0:=.slice none 0 0) (u1:=.slice none 0 0) (u2:=.slice none 0 0) (u3:=.int .u64 0) (b:=w.heap.size+1+1) S4.out.below (by omega);have p7:=(sy (w:=w4) (b:=w.heap.size+1+1) (k:=w.heap.size+1+1+1) (u0:=.slice none 0 0) (u1:=.slice none 0 0) (u2:=.slice none 0 0) (u3:=.int .u64 0) (by omega)).trans S4.out.b7;generalize ((((w4.setCell ⟨w.heap.size+1+1,0,none⟩ (.slice none 0 0)).setCell ⟨w.heap.size+1+1,1,none⟩ (.slice none 0 0)).setCell ⟨w.heap.size+1+1,2,none⟩ (.slice none 0 0)).setCell ⟨w.heap.size+1+1,3,none⟩ (.int .u64 0))=W5 at*;have r7:=heap_setCell (i:=0) (v:=.int .i64 7) p7;have r6:=(FB (w:=W5) (b:=w.heap.size+1+1+1) (i:=0) (v:=.int .i64 7) (k:=w.heap.size+1+1) (by omega)).trans p6;have B7:=B6.setCell (p:=⟨w.heap.size+1+1+1,0,none⟩) (by show w.heap.size<=w.heap.size+1+1+1;omega) (.int .i64 7);generalize W5.setCell ⟨w.heap.size+1+1+1,0,none⟩ (.int .i64 7)=W6 at*;obtain⟨e0,e1,e2,e3⟩:=Fy r6;have d0:W6.cell? ⟨w.heap.size+1+1+1,0,none⟩=some (.int .i64 7):=by rw[Fs r7];rfl
 exact bodyPost_ret (v:=.tuple #[.agg #[.slice none 0 0,.slice none 0 0,.slice none 0 0,.int .u64 0],.int .i64 7]) (by simp[results,f195,go_sem,e0,e1,e2,e3,d0]) rfl ⟨rfl,B7⟩
theorem nQ(h:Ig w ps S Y)(hi:Fv S)(t1:2<=t)(t2:t<=16)(hh:Nat)(hl:hh<2^64)(hlen:S.len hh=(0,7)):
 Cb 182 #[FH ps t,.int .u64 hh] w (.tuple #[eC (.slice none 0 0) (.slice none 0 0) (.slice none 0 0) 0,.bool false]):=by
 have B0:=((aa w.heap.size w).alloc Ih (.cells #[PV ps,.int .i64 t] 254)).alloc (by simp) (.cells #[.slice none 0 0,.slice none 0 0,.slice none 0 0,.int .u64 0] 286);have z1:(w.alloc (.cells #[PV ps,.int .i64 t] 254)).heap.size=w.heap.size+1:=by simp
 have q1:=heap_alloc_new w (.cells #[PV ps,.int .i64 t] 254);have q2:=heap_alloc_new (w.alloc (.cells #[PV ps,.int .i64 t] 254)) (.cells #[.slice none 0 0,.slice none 0 0,.slice none 0 0,.int .u64 0] 286);have q3:=(((aa (w.alloc (.cells #[PV ps,.int .i64 t] 254)).heap.size (w.alloc (.cells #[PV ps,.int .i64 t] 254))).alloc Ih (.cells #[.slice none 0 0,.slice none 0 0,.slice none 0 0,.int .u64 0] 286)).block w.heap.size (by simp)).trans q1;rw[z1] at q2;generalize hW:(w.alloc (.cells #[PV ps,.int .i64 t] 254)).alloc (.cells #[.slice none 0 0,.slice none 0 0,.slice none 0 0,.int .u64 0] 286)=W0 at*;have hg:=zF (h.below B0) hi t1 t2 hh hl hlen;obtain⟨x0,x1⟩:=Fp q3;have hz:w.heap.size+2<=W0.heap.size:=by rw[<-hW];simp
 unfold FH;unfold eC at hg⊢;have HG:=kq5 hg B0 q2 hW hz;clear hg B0 h hi q1 q2 q3 z1 hz hlen;go_enter func182,ntmps182;go_wp2_with fail;refine HG.a.mono ?_;rintro e w1 ⟨rfl,hb⟩;have A1:=(aa w1.heap.size w1).alloc Ih (.cells #[.slice none 0 0,.slice none 0 0,.slice none 0 0,.int .u64 0] 286);have p1:=heap_alloc_new w1 (.cells #[.slice none 0 0,.slice none 0 0,.slice none 0 0,.int .u64 0] 286);have r2:=(A1.block (w.heap.size+1) (by have:=hb.size;have:=HG.e;omega)).trans ((hb.block (w.heap.size+1) (by have:=HG.e;omega)).trans HG.c);have BA:=HG.b.trans ((hb.trans (A1.mono hb.size)).mono HG.b.size);have HB:=kq3 BA r2 p1;clear hb A1 p1 r2 BA;have r2:=HB.b;have p1:=HB.c;obtain⟨x0,x1,x2,x3⟩:=Fy p1;obtain⟨y0,y1,y2,y3⟩:=Fy r2;obtain⟨f0,f1,f2,f3⟩:=fO r2;clear r2 p1 hW;go_wp2_with fail;generalize w1.alloc (.cells #[.slice none 0 0,.slice none 0 0,.slice none 0 0,.int .u64 0] 286)=W1 at*;have e5:=oZ (u0:=.slice none 0 0) (u1:=.slice none 0 0) (u2:=.slice none 0 0) (u3:=.int .u64 0) HB.b;have B5:=oY (u0:=.slice none 0 0) (u1:=.slice none 0 0) (u2:=.slice none 0 0) (u3:=.int .u64 0) (b:=w.heap.size+1) HB.a (by omega);generalize ((((W1.setCell ⟨w.heap.size+1,0,none⟩ (.slice none 0 0)).setCell ⟨w.heap.size+1,1,none⟩ (.slice none 0 0)).setCell ⟨w.heap.size+1,2,none⟩ (.slice none 0 0)).setCell ⟨w.heap.size+1,3,none⟩ (.int .u64 0))=W9 at*;obtain⟨e0,e1,e2,e3⟩:=Fy e5;exact bodyPost_ret (v:=.tuple #[.agg #[.slice none 0 0,.slice none 0 0,.slice none 0 0,.int .u64 0],.bool false]) (by simp[results,f182,go_sem,e0,e1,e2,e3]) rfl ⟨rfl,B5⟩
theorem zQ(h:Ig w ps S Y)(hi:Fv S)(t1:2<=t)(t2:t<=16)(hh:Nat)(hl:hh<2^64)(hlen:S.len hh=(0,7)):
 Cb 163 #[FH ps t,.int .u64 hh] w (.int .i64 0):=by
 have B0:=(aa w.heap.size w).alloc Ih (.cells #[PV ps,.int .i64 t] 254);have hg:=nQ (h.below B0) hi t1 t2 hh hl hlen;unfold FH eC at hg;unfold FH;have HG:=kq2 hg B0;clear hg B0 h hi hlen;go_enter func163,ntmps163;go_wp2_with fail;refine HG.a.mono ?_;rintro e w1 ⟨rfl,hb⟩;have HB:=If ((HG.b.trans (hb.mono HG.b.size)).alloc (aO HG.b.size hb.size) (.cells #[.slice none 0 0,.slice none 0 0,.slice none 0 0,.int .u64 0] 286));clear hb;go_wp2_with fail;go_ret;exact⟨rfl,HB.out⟩
theorem kZ(h:Ig w ps S Y)(hi:Fv S)(t1:2<=t)(t2:t<=16):
 Ct 156 #[PV ps,.int .i64 t] w fun e w'=>e=.returned (.int .i64 0)/\w=w':=by
 have ad:=fB h hi 0 (by omega);rw[fU] at ad;have ai:=fun W=>pW t t1 t2 W;have hq:((6*(t:Int))==0)=false:=by simp;omega
 have al:¬(t:Int)=0:=by omega
 have HG:=kq2 ad ai;clear ad ai h hi;go_enter func156,ntmps156;go_wp2_with fail;refine HG.a.mono ?_;rintro e w1 ⟨rfl,rfl⟩;go_wp2_with fail;refine(HG.b _).mono ?_;rintro e w1 ⟨rfl,rfl⟩;go_wp2_with fail;go_ret;exact⟨rfl,rfl⟩
theorem zX{ps t hh z:Nat}(hs:Cb 163 #[FH ps t,.int .u64 hh] w (.int .i64 z)):
 Cb 319 #[PV ps,.int .i64 t,.int .u64 hh] w (.int .i64 z):=by
 unfold FH at hs;have HG:=If hs;clear hs;go_enter func319,ntmps319;go_wp2_with fail;refine HG.out.mono ?_;rintro e w1 ⟨rfl,hb⟩;have HB:=If hb;clear hb;go_wp2_with fail;go_ret;exact⟨rfl,HB.out⟩
end
section
open Lf Tr
namespace Bt
variable{S:St}{U:List Nat}{d:Nat}{e:It}{i:Nat}{k:Nat}{o:Nat->Nat}
theorem vW{A K B Y U:List Nat}(h:(A++(K++B)).Nodup)(hy:Y.Nodup)(hs:∀z∈Y,z∈K\/z∈U)(hu:∀z∈U,z∉A/\z∉B):(A++(Y++B)).Nodup:=by
 obtain⟨h1,h2,h3⟩:=aw.1 h;obtain⟨h4,h5,h6⟩:=aw.1 h2;refine aw.2 ⟨h1,aw.2 ⟨hy,h5,fun a ha b hb e=>?_⟩,fun a ha b hb e=>?_⟩
 ·subst e
  rcases hs a ha with h | h
  ·exact h6 a h a hb rfl
  ·exact(hu a h).2 hb
 ·subst e
  rcases am.1 hb with hb | hb
  ·rcases hs a hb with h | h
   ·exact h3 a ha a (az _ h) rfl
   ·exact(hu a h).1 ha
  ·exact h3 a ha a (ax _ hb) rfl
theorem nodes_parts{x:Bt (d+1)}(h:k<(Bn.ks x).length):nodes x=(Bn.h x::(((Bn.ks x).take k).map nodes).flatten)++(nodes (Bn.ks x)[k]++(((Bn.ks x).drop (k+1)).map nodes).flatten):=by
 have e:(Bn.ks x).map nodes=((Bn.ks x).take k).map nodes++nodes (Bn.ks x)[k]::((Bn.ks x).drop (k+1)).map nodes:=by rw[<-aM,<-aL,<-oW h]
 rw[jQ,e,dH,dA]
 rfl
theorem ve{x:Bt (d+1)}(h:k<(Bn.ks x).length)(y:Bt d):nodes (ju x k y)=(Bn.h x::(((Bn.ks x).take k).map nodes).flatten)++(nodes y++(((Bn.ks x).drop (k+1)).map nodes).flatten):=by
 rw[jQ]
 show Bn.h x::(((Bn.ks x).set k y).map nodes).flatten=_
 rw[dd,if_pos h,aL,aM,dH,dA]
 rfl
theorem vf(x:Bt (d+1))(k:Nat)(y1:Bt d)(m:It)(y2:Bt d):nodes (ja x k y1 m y2)=(Bn.h x::(((Bn.ks x).take k).map nodes).flatten)++((nodes y1++nodes y2)++(((Bn.ks x).drop (k+1)).map nodes).flatten):=by
 rw[jQ]
 show Bn.h x::(((Bn.ks x).take k++y1::y2::(Bn.ks x).drop (k+1)).map nodes).flatten=_
 rw[aL,aM,aM,dH,dA,dA,<-bW (nodes y1)]
 rfl
theorem put_node(hf:Fw S o){t d:Nat}{x:Bt (d+1)}(hk:∀k∈Bn.ks x,At S t k)(hn:∀k∈Bn.ks x,hd x∉nodes k){ws:List Nat}(hr:reco S (hd x)=some ws)(hw:ws.length=6*t)(hl:iT (bn x))(he:(Bn.es x).length<1000):
 Fw (FC S (hd x) 0 (bnWords t (bn x))) o/\At (FC S (hd x) 0 (bnWords t (bn x))) t x/\(∀h,h≠hd x->reco (FC S (hd x) 0 (bnWords t (bn x))) h=reco S h)/\ej S (FC S (hd x) 0 (bnWords t (bn x))) 0 0:=by
 obtain⟨q1,q2,q3,q4⟩:=mR hf hr (l:=bnWords t (bn x)) (by rw[jJ,hw]) (kX hl (by unfold bn;rw[aq];omega));refine⟨q1,⟨q2,fun k hkm=>(hk k hkm).frame fun h hm=>q3 h fun e=>hn k hkm (e▸hm)⟩,q3,q4⟩
theorem hd_kids{x:Bt (d+1)}(h:(nodes x).Nodup):∀k∈Bn.ks x,hd x∉nodes k:=fun k hk hm=>by
 rw[jQ] at h;exact(aF.1 h).1 (cM.2 ⟨_,aC.2 ⟨k,hk,rfl⟩,hm⟩)
structure Mid (S S':St) (o:Nat->Nat) (t:Nat) {d:Nat} (x:Bt (d+1)) (e:It) (U:List Nat) (x':Bt (d+1)):Prop where
 fit:Fw S' o
 grew:ej S S' 0 0
 fr:∀h,h∉nodes x->h∉U->reco S' h=reco S h
 hd:Bn.h x'=Bn.h x
 okN:gY t x'
 its:Bt.its x'=insB e (Bt.its x)
 kids:∀k∈Bn.ks x',At S' t k
 nd:(nodes x').Nodup
 sub:∀h∈nodes x',h∈nodes x\/h∈U
 own:∃ws,reco S' (Bn.h x)=some ws/\ws.length=6*t
 grow:(Bn.es x).length<=(Bn.es x').length
 lt:iT (bn x')
structure Put (S S':St) (o:Nat->Nat) (t:Nat) {d:Nat} (x:Bt (d+1)) (e:It) (U:List Nat) (r:Option (It×Nat)):Prop where
 fit:Fw S' o
 grew:ej S S' 0 0
 fr:∀h,h∉nodes x->h∉U->reco S' h=reco S h
 res:match r with
  | none=>∃y:Bt (d+1),Bn.h y=Bn.h x/\At S' t y/\Ok t y/\nk x<=nk y/\Bt.its y=insB e (Bt.its x)/\(nodes y).Nodup/\(∀h∈nodes y,h∈nodes x\/h∈U)
  | some (m,g)=>∃y1 y2:Bt (d+1),Bn.h y1=Bn.h x/\Bn.h y2=g/\At S' t y1/\At S' t y2/\Ok t y1/\Ok t y2/\nk y1=t/\nk y2+1=t/\Bt.its y1++m::Bt.its y2=insB e (Bt.its x)/\(nodes y1++nodes y2).Nodup/\(∀h∈nodes y1++nodes y2,h∈nodes x\/h∈U)
theorem mid_leaf(hf:Fw S o){t:Nat}(t1:1<=t){x:Bt 1}(ha:At S t x)(ok:Ok t x)(hnd:(nodes x).Nodup)(hb:∀d∈its x,d.kh<2^64/\d.vh<2^64)(he:e.kh<2^64/\e.vh<2^64)(hl:(its x).length<1000000):Mid S S o t x e [] (leafPut x e):=by
 have hi:=Ch x e;refine⟨hf,ej.refl S,fun _ _ _=>rfl,rfl,vj t1 ok e,hi,ha.2,hnd,fun h hh=>ab hh,⟨_,ha.1,jJ _ _⟩,?_,?_⟩
 ·show _<=((Bn.es x).take (Fr e.k (Bn.es x))++e::(Bn.es x).drop (Fr e.k (Bn.es x))).length
  rw[lg (k:=Fr e.k (Bn.es x)) cf];omega
 ·refine bnLt_of hf (fun d hd=>?_) ha.2 ?_
  ·have ad:d∈insB e (its x):=by rw[<-hi];exact lN (vj t1 ok e) hd
   rcases kg.1 ad with rfl | ad
   ·exact he
   ·exact hb d ad
  ·rw[hi,insB_length];omega
theorem vg{S S':St}{t d:Nat}{x:Bt (d+1)}(ha:At S t x)(hnd:(nodes x).Nodup)(hU:∀h∈U,h∉nodes x)(hi:i<(Bn.ks x).length)(fr:∀h,h∉nodes (Bn.ks x)[i]->h∉U->reco S' h=reco S h):
 (∀k∈(Bn.ks x).take i++(Bn.ks x).drop (i+1),At S' t k)/\reco S' (Bn.h x)=reco S (Bn.h x):=by
 rw[nodes_parts hi] at hnd hU;obtain⟨h1,h2,h3⟩:=aw.1 hnd;obtain⟨h4,h5,h6⟩:=aw.1 h2;refine⟨fun k hk=>?_,fr _ (fun hm=>h3 _ (av ..) _ (az _ hm) rfl) fun hm=>hU _ hm (az _ (av ..))⟩
 rcases am.1 hk with hk | hk
 ·refine(ha.2 k (bI hk)).frame fun h hh=>?_;have hm:h∈(((Bn.ks x).take i).map nodes).flatten:=cM.2 ⟨_,aC.2 ⟨k,hk,rfl⟩,hh⟩;exact fr h (fun q=>h3 h (ah _ hm) h (az _ q) rfl) fun q=>hU h q (az _ (ah _ hm))
 ·refine(ha.2 k (bB hk)).frame fun h hh=>?_;have hm:h∈(((Bn.ks x).drop (i+1)).map nodes).flatten:=cM.2 ⟨_,aC.2 ⟨k,hk,rfl⟩,hh⟩;exact fr h (fun q=>h6 h q h hm rfl) fun q=>hU h q (ax _ (ax _ hm))
theorem tw{x:Bt (d+1)}(hi:i<(Bn.ks x).length)(hU:∀h∈U,h∉nodes x):∀z∈U,z∉(Bn.h x::(((Bn.ks x).take i).map nodes).flatten)/\z∉(((Bn.ks x).drop (i+1)).map nodes).flatten:=fun z hz=>by
 have:=hU z hz;rw[nodes_parts hi] at this;exact⟨fun q=>this (az _ q),fun q=>this (ax _ (ax _ q))⟩
abbrev ItLt(l:List It):Prop:=∀d∈l,d.kh<2^64/\d.vh<2^64
theorem mid_kid{S S':St}{t d:Nat}(t1:1<=t){x:Bt (d+2)}(ha:At S t x)(ok:Ok t x)(hnd:(nodes x).Nodup)(hs:(its x).Pairwise eU)(hb:ItLt (its x))(he:ItLt [e])(hl:(its x).length<1000000)(hU:∀h∈U,h∉nodes x)
 (hi:Fr e.k (Bn.es x)<(Bn.ks x).length) (hp:Put S S' o t (Bn.ks x)[Fr e.k (Bn.es x)] e U none):∃y,Bn.h y=hd (Bn.ks x)[Fr e.k (Bn.es x)]/\Mid S S' o t x e U (ju x (Fr e.k (Bn.es x)) y):=by
 obtain⟨y,y1,y2,y3,y4,y5,y6,y7⟩:=hp.res;obtain⟨ks,hr⟩:=vg ha hnd hU hi hp.fr;have hk:=ok.2.2 _ (aG hi);have ao:Fr e.k (Bn.es x)<=(Bn.es x).length:=cf;have an:=BP t1 ok (Fr e.k (Bn.es x)) y3 (by omega);have ai:its (ju x (Fr e.k (Bn.es x)) y)=insB e (its x):=by
  have ho:=l7 (key:=e.k) ok.rows (by rw[<-el];exact hs);have:=ho.insert;rw[jN hi,<-el] at this;rw[BO ok _ ao,y5,this]
 have al:∀k∈(Bn.ks x).set (Fr e.k (Bn.es x)) y,At S' t k:=fun k hk=>by
  rw[dd,if_pos hi] at hk;rcases am.1 hk with hk | hk
  ·exact ks k (az _ hk)
  ·rcases ag.1 hk with rfl | hk
   ·exact y2
   ·exact ks k (ax _ hk)
 refine⟨y,y1,hp.fit,hp.grew,fun h h1 h2=>hp.fr h (fun q=>h1 (mem_nodes_kid (aG hi) q)) h2,rfl,an,ai,al,?_,fun h hh=>?_,⟨_,hr.trans ha.1,jJ _ _⟩,Nat.le_refl _,?_⟩
 ·rw[ve hi];rw[nodes_parts hi] at hnd;exact vW hnd y6 y7 (tw hi hU)
 ·rw[ve hi] at hh;rw[nodes_parts hi];rcases am.1 hh with hh | hh
  ·exact ab (az _ hh)
  ·rcases am.1 hh with hh | hh
   ·exact(y7 h hh).imp (fun q=>ax _ (az _ q)) id
   ·exact ab (ax _ (ax _ hh))
 ·refine bnLt_of hp.fit (fun d hd=>?_) al ?_
  ·have ad:d∈insB e (its x):=by rw[<-ai];exact lN an hd
   rcases kg.1 ad with rfl | ad
   ·exact he _ (av ..)
   ·exact hb d ad
  ·rw[ai,insB_length];omega
theorem mid_split{S S':St}{t d:Nat}(t1:1<=t){x:Bt (d+2)}(ha:At S t x)(ok:Ok t x)(hnd:(nodes x).Nodup)(hs:(its x).Pairwise eU)(hb:ItLt (its x))(he:ItLt [e])(hl:(its x).length<1000000)(hU:∀h∈U,h∉nodes x)
 (hi:Fr e.k (Bn.es x)<(Bn.ks x).length) {m:It} {g:Nat} (hp:Put S S' o t (Bn.ks x)[Fr e.k (Bn.es x)] e U (some (m,g))):∃y1 y2,Bn.h y1=hd (Bn.ks x)[Fr e.k (Bn.es x)]/\Bn.h y2=g/\Mid S S' o t x e U (ja x (Fr e.k (Bn.es x)) y1 m y2):=by
 obtain⟨y1,y2,a1,a2,a3,a4,a5,a6,a7,a8,a9,ar,an⟩:=hp.res;obtain⟨ks,hr⟩:=vg ha hnd hU hi hp.fr;have hk:=ok.2.2 _ (aG hi);have al:Fr e.k (Bn.es x)<=(Bn.es x).length:=cf;have ap:=BS t1 ok (Fr e.k (Bn.es x)) al m a5 (by omega) a6 (by omega);have ai:its (ja x (Fr e.k (Bn.es x)) y1 m y2)=insB e (its x):=by
  have ho:=l7 (key:=e.k) ok.rows (by rw[<-el];exact hs);have:=ho.insert;rw[jN hi,<-el,<-a9] at this;rw[BQ ok _ al,this];simp[List.append_assoc]
 have ao:∀k∈(Bn.ks x).take (Fr e.k (Bn.es x))++y1::y2::(Bn.ks x).drop (Fr e.k (Bn.es x)+1),At S' t k:=fun k hk=>by
  rcases am.1 hk with hk | hk
  ·exact ks k (az _ hk)
  ·rcases ag.1 hk with rfl | hk
   ·exact a3
   ·rcases ag.1 hk with rfl | hk
    ·exact a4
    ·exact ks k (ax _ hk)
 refine⟨y1,y2,a1,a2,hp.fit,hp.grew,fun h h1 h2=>hp.fr h (fun q=>h1 (mem_nodes_kid (aG hi) q)) h2,rfl,ap,ai,ao,?_,fun h hh=>?_,⟨_,hr.trans ha.1,jJ _ _⟩,?_,?_⟩
 ·rw[vf];rw[nodes_parts hi] at hnd;exact vW hnd ar an (tw hi hU)
 ·rw[vf] at hh;rw[nodes_parts hi];rcases am.1 hh with hh | hh
  ·exact ab (az _ hh)
  ·rcases am.1 hh with hh | hh
   ·exact(an h hh).imp (fun q=>ax _ (az _ q)) id
   ·exact ab (ax _ (ax _ hh))
 ·show (Bn.es x).length<=((Bn.es x).take (Fr e.k (Bn.es x))++m::(Bn.es x).drop (Fr e.k (Bn.es x))).length
  rw[lg al];omega
 ·refine bnLt_of hp.fit (fun d hd=>?_) ao ?_
  ·have ad:d∈insB e (its x):=by rw[<-ai];exact lN ap hd
   rcases kg.1 ad with rfl | ad
   ·exact he _ (av ..)
   ·exact hb d ad
  ·rw[ai,insB_length];omega
theorem Mid.put{S S':St}{t d:Nat}{x:Bt (d+1)}{x':Bt (d+1)}(h:Mid S S' o t x e U x')(t2:t<=16)(hl:(Bn.es x').length<2*t):Put S (FC S' (Bn.h x) 0 (bnWords t (bn x'))) o t x e U none:=by
 obtain⟨ws,hr,hw⟩:=h.own;have hh:Bt.hd x'=Bn.h x:=h.hd;have hp:=put_node h.fit h.kids (hd_kids h.nd) (by rw[hh];exact hr) hw h.lt (by omega);rw[hh] at hp;obtain⟨p1,p2,p3,p4⟩:=hp;refine⟨p1,(h.grew.trans p4).mono (by omega) (by omega),fun y h1 h2=>(p3 y fun q=>h1 (q▸hd_mem x)).trans (h.fr y h1 h2),⟨x',h.hd,p2,h.okN.ok hl,h.grow,h.its,h.nd,h.sub⟩⟩
theorem Mid.cut{S S':St}{t d:Nat}(t1:1<=t)(t2:t<=16){x:Bt (d+1)}{x':Bt (d+1)}(h:Mid S S' o t x e U x')(hl:(Bn.es x').length=2*t){g:Nat}(hg1:g∉U)(hg2:g∉nodes x){wg:List Nat}(hg3:reco S g=some wg)(hg4:wg.length=6*t):
 Put S (FC (FC S' (Bn.h x) 0 (bnWords t (bn (leftOf t x')))) g 0 (bnWords t (bn (rightOf t x' g)))) o t x e (U++[g]) (some ((Bn.es x')[t]'(by omega),g)):=by
 obtain⟨ws,hr,hw⟩:=h.own;obtain⟨c1,c2,c3,c4,c5⟩:=h.okN.split t1 hl g;have ar:=h.nd;rw[jQ] at ar;obtain⟨n1,n2⟩:=aF.1 ar;have ad:g∉nodes x':=fun q=>(h.sub g q).elim hg2 hg1;have an:∀k∈Bn.ks (leftOf t x'),k∈Bn.ks x':=fun k hk=>bI hk;have al:∀k∈Bn.ks (rightOf t x' g),k∈Bn.ks x':=fun k hk=>bB hk;have hh:Bt.hd (leftOf t x')=Bn.h x:=h.hd;have eN:((Bn.ks x').map nodes).flatten=(((Bn.ks x').take (t+1)).map nodes).flatten++(((Bn.ks x').drop (t+1)).map nodes).flatten:=by
  conv=>lhs;rw[<-aX (t+1) (Bn.ks x'),aL,dH]
 have ap:∀q∈Bn.es x',q.kh<2^64/\q.vh<2^64:=fun q hq=>⟨h.lt.keys _ (aC.2 ⟨q,hq,rfl⟩),h.lt.vals _ (aC.2 ⟨q,hq,rfl⟩)⟩;have ao:=h.lt.size;have ao:(Bt.its x').length<2^64:=ao;rw[c1,aE,ak] at ao;have ai:=h.kids;have a3:iT (bn (leftOf t x')):=bnLt_of h.fit (fun q hq=>ap q (bI hq)) (fun k hk=>ai k (an k hk)) (by omega);have a4:iT (bn (rightOf t x' g)):=bnLt_of h.fit (fun q hq=>ap q (bB hq)) (fun k hk=>ai k (al k hk)) (by omega);have hp:=put_node (x:=leftOf t x') h.fit (fun k hk=>ai k (an k hk)) (fun k hk=>by
  show Bn.h x'∉_
  exact hd_kids h.nd k (an k hk)) (by rw[hh];exact hr) hw a3 (by show ((Bn.es x').take t).length<1000;rw[ay];omega)
 rw[hh] at hp;obtain⟨p1,p2,p3,p4⟩:=hp;have au:g≠Bn.h x:=fun q=>hg2 (q▸hd_mem x);have a1:reco (FC S' (Bn.h x) 0 (bnWords t (bn (leftOf t x')))) g=some wg:=(p3 g au).trans ((h.fr g hg2 hg1).trans hg3);have a0:∀k∈Bn.ks (rightOf t x' g),At (FC S' (Bn.h x) 0 (bnWords t (bn (leftOf t x')))) t k:=fun k hk=>(ai k (al k hk)).frame fun y hy=>p3 y fun q=>hd_kids h.nd k (al k hk) (by
  show Bn.h x'∈nodes k
  rw[h.hd,<-q];exact hy)
 obtain⟨r1,r2,r3,r4⟩:=put_node (x:=rightOf t x' g) p1 a0 (fun k hk q=>ad (mem_nodes_kid (al k hk) q)) (ws:=wg) a1 hg4 a4 (by show ((Bn.es x').drop (t+1)).length<1000;rw[aN];omega);have r3:∀y,y≠g->_:=r3;have hL:At (FC (FC S' (Bn.h x) 0 (bnWords t (bn (leftOf t x')))) g 0 (bnWords t (bn (rightOf t x' g)))) t (leftOf t x'):=p2.frame fun y hy=>r3 y fun q=>by
  subst q;refine ad ?_;rw[jQ] at hy⊢
  rcases ag.1 hy with hy | hy
  ·exact hy▸av ..
  ·refine ah _ ?_;rw[eN];exact az _ hy
 have a2:∀y∈nodes (leftOf t x')++nodes (rightOf t x' g),y∈nodes x'\/y=g:=fun y hy=>by
  rw[jQ x',eN]
  rcases am.1 hy with hy | hy
  ·rcases ag.1 hy with hy | hy
   ·exact ab (hy▸av ..)
   ·exact ab (ah _ (az _ hy))
  ·rcases ag.1 hy with hy | hy
   ·exact ae hy
   ·exact ab (ah _ (ax _ hy))
 refine⟨r1,((h.grew.trans p4).trans r4).mono (by omega) (by omega),fun y h1 h2=>?_,⟨leftOf t x',rightOf t x' g,h.hd,rfl,hL,r2,c2,c3,c4,c5,?_,?_,fun y hy=>?_⟩⟩
 ·have h3:y∉U/\y≠g:=⟨fun q=>h2 (az _ q),fun q=>h2 (ax _ (q▸av ..))⟩;exact(r3 y h3.2).trans ((p3 y fun q=>h1 (q▸hd_mem x)).trans (h.fr y h1 h3.1))
 ·rw[<-h.its,c1]
 ·rw[eN] at n1 n2;obtain⟨m1,m2,m3⟩:=aw.1 n2;rw[jQ x',eN] at ad
  show ((Bn.h x'::(((Bn.ks x').take (t+1)).map nodes).flatten)++(g::(((Bn.ks x').drop (t+1)).map nodes).flatten)).Nodup
  refine aw.2 ⟨aF.2 ⟨fun q=>n1 (az _ q),m1⟩,aF.2 ⟨fun q=>ad (ah _ (ax _ q)),m2⟩,fun a ha b hb q=>?_⟩;subst q
  rcases ag.1 ha with rfl | ha
  ·rcases ag.1 hb with hb | hb
   ·exact ad (hb▸av ..)
   ·exact n1 (ax _ hb)
  ·rcases ag.1 hb with rfl | hb
   ·exact ad (ah _ (az _ ha))
   ·exact m3 a ha a hb rfl
 ·rcases a2 y hy with hy | rfl
  ·exact(h.sub y hy).imp id fun q=>az _ q
  ·exact ae (ax _ (av ..))
end Bt
