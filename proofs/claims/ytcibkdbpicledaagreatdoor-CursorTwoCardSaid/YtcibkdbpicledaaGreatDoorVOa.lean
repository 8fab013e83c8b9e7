/- Nodes and items let go: the walks. -/
import Derived.Test.YtcibkdbpicledaaGreatDoorVVb
import Derived.Test.YtcibkdbpicledaaGreatDoorVFa
set_option maxRecDepth 100000
set_option maxHeartbeats 12800000
namespace Go.Proofs.YtcibkdbpicledaaGreatDoor
section
open Go.RowKit Tryz Go.BigFrame Go.Maps Go.WideMaps Lf
variable{S:St}{Y:Nat->Prop}{kind:Nat}{kv:Value}{p:Nat×Nat}{ps:Nat}{ty:TypeId}{w:World}
theorem Di(h:Ig w ps S Y)(hi:Fv S)(hh:Nat)(hl:hh<2^64):
 Ct 303 #[PV ps,Xu hh] w fun e w'=>e=.returned (Xi ((jr S hh).1:Nat))/\Ig w' ps (jr S hh).2 Y/\Fo Y w w':=by
 by_cases ha:fZ S hh=0
 ·have has:=oG h hi hh hl;have ad:=sE h hi hh hl;have hR:jr S hh=S.drop hh:=by unfold jr;rw[ha];rfl
  rw[hR];rw[ha] at has;have HG:=kq2 has ad;clear has ad hR ha h hi;go_enter func303,ntmps303;go_wp2_with fail;refine Jc HG.a ?_;go_wp2_with fail;refine wx HG.b fun w1 hb=>?_;have H1:=If hb;clear hb;go_wp2_with fail;go_ret;exact⟨rfl,H1.out⟩
 ·have hR:jr S hh=(fZ S hh,S):=by unfold jr;split<;>simp_all
  rw[hR];refine Jc (vT h hi hh hl ha) ?_;exact⟨rfl,h,Fo.refl _ _⟩
theorem zi{S S':St}(h:Ig w ps S Y)(hi:Fv S)(kind o:Nat)(hl:o<2^64)(hd:jr S o=(0,S')):
 Ct 297 #[fE ps kind,Xu o] w fun e w'=>e=.returned (.tuple #[Id (getNode S o).1.key (getNode S o).1.val,.bool true])/\Ig w' ps S' Y/\Fo Y w w':=by
 have B1:=(aa w.heap.size w).alloc Ih (Xf ps kind);have q1:=heap_alloc_new w (Xf ps kind);have B0:=B1.alloc B1.size (.cells #[Xu 0,Xu 0] 137);have z1:=heap_alloc_new (w.alloc (Xf ps kind)) (.cells #[Xu 0,Xu 0] 137);have q1:=(((aa (w.alloc (Xf ps kind)).heap.size (w.alloc (Xf ps kind))).alloc Ih (.cells #[Xu 0,Xu 0] 137)).block w.heap.size (by simp)).trans q1;simp only[World.size_alloc] at z1;have ar:=my (h.below B0) hi kind o hl;have ap:=fun W Z (hW:Ig W ps S Z)=>Di hW hi o hl;rw[hd] at ap;simp only[Id,fE] at ar⊢;generalize (getNode S o).1.key=a0 at*;generalize (getNode S o).1.val=a1 at*;have HG:=kq6 ar ap B0 z1 q1 h;have a2:=h.yl;clear ar ap B0 B1 h hi z1 q1 hd;go_enter func297,ntmps297;go_wp2_with fail;refine wx HG.a fun w1 hb1=>?_;have ad:=hb1.alloc hb1.size (Xe a0 a1);have y1:=heap_alloc_new w1 (Xe a0 a1);have z1:=(ad.block (w.heap.size+1) (by simp)).trans HG.d;have q1:=(ad.block w.heap.size (by simp;omega)).trans HG.e;have B2:=HG.c.trans (ad.mono HG.c.size);have S2:=HG.f.wide B2;have sz:w.heap.size+2<=w1.heap.size:=by have:=hb1.size;simp at this;omega
 have sw:(w1.alloc (Xe a0 a1)).heap.size=w1.heap.size+1:=by simp
 go_wp2_with fail;rw[sw] at S2;generalize w1.alloc (Xe a0 a1)=W at*;obtain⟨I,ai,al⟩:∃I:World->Prop,(∀w',I w'->w'.heap[w.heap.size]?=some (Xf ps kind)/\w'.heap[w1.heap.size]?=some (Xe a0 a1))/\(∀w',w'.heap[w.heap.size]?=some (Xf ps kind)->w'.heap[w1.heap.size]?=some (Xe a0 a1)->I w'):=⟨fun w'=>w'.heap[w.heap.size]?=some (Xf ps kind)/\w'.heap[w1.heap.size]?=some (Xe a0 a1),fun _ h=>h,fun _ a b=>⟨a,b⟩⟩;have au:=fun x:Fq I=>(ai _ x.ok).1;have a3:=fun x:Fq I=>(ai _ x.ok).2;obtain⟨a7,a8⟩:=fw au;obtain⟨a9,a'⟩:=fw a3;have a6:w1.heap.size≠w.heap.size+1:=by omega
 have HW:=kq5 B2 z1 q1 y1 S2;have HI:=If al;have a5:I W.drew:=al _ q1 y1;clear B2 z1 q1 y1 hb1 ad au a3 ai al S2;refine fh I (.take 0 (.take 1 (.take 2 (.take 3 (.go 4 (.take 5 (.go 6 (.go 7 .nil)))))))) (by kernel_rfl) (by kernel_rfl) a5 ?_
 iterate 4
  refine' pT ?_ ?_;rotate_left
  ·intro x;go_simp
   try rfl
  try simp only[pu]
 refine pD fun K hK=>?_;go_simp;refine(HG.b _ _ (HW.e.drewN 1)).mono ?_;rintro e w3 ⟨rfl,s3,k3⟩;have e3:=fun k (hk:w.heap.size<=k/\k<w1.heap.size+1)=>k3.block k (ae hk);have q3:=(e3 w.heap.size ⟨Nat.le_refl _,by omega⟩).trans HW.c;have y3:=(e3 w1.heap.size ⟨by omega,by omega⟩).trans HW.d;have z3:=(e3 (w.heap.size+1) ⟨by omega,by omega⟩).trans HW.b;have a4:Fo Y w w3:=(Fo.of_below HW.a a2).trans ((Fo.drewN Y W 1).trans (k3.mono fun k hk=>ab hk));have H3:=kq5 s3 a4 q3 y3 z3;clear e3 s3 k3 a4 q3 y3 z3
 try go_simp
 refine hK.out _ _ (HI.out _ H3.c H3.d) ?_;clear hK K
 try simp only[pu]
 refine' pT ?_ ?_;rotate_left
 ·intro x;go_simp
  try rfl
 try simp only[pu]
 have z3:=H3.e;obtain⟨e0,e1⟩:=Fp z3;obtain⟨f0,f1⟩:=ef z3;clear z3;refine pD fun K hK=>?_;go_simp;have q4:((w3.setCell ⟨(w.heap.size+1),0,none⟩ (Xu a0)).setCell ⟨(w.heap.size+1),1,none⟩ (Xu a1)).heap[w.heap.size+1]?=_:=ew H3.e (Xu a0) (Xu a1);have o4:∀k,k≠w.heap.size+1->((w3.setCell ⟨(w.heap.size+1),0,none⟩ (Xu a0)).setCell ⟨(w.heap.size+1),1,none⟩ (Xu a1)).heap[k]?=w3.heap[k]?:=fun k hk=>fA hk _ _;have s4:Ig ((w3.setCell ⟨(w.heap.size+1),0,none⟩ (Xu a0)).setCell ⟨(w.heap.size+1),1,none⟩ (Xu a1)) ps S' Y:=(H3.a.write (b:=w.heap.size+1) (ae ⟨by omega,by omega⟩) H3.e ⟨by decide,by decide⟩ (by simp) (by simp) fun k _ hk=>o4 k hk).mono fun k hk=>ab hk;have k4:Fo Y w ((w3.setCell ⟨(w.heap.size+1),0,none⟩ (Xu a0)).setCell ⟨(w.heap.size+1),1,none⟩ (Xu a1)):=H3.b.trans ⟨rfl,rfl,rfl,by simp,fun k hk=>o4 k (by have:=a2 k hk;omega)⟩;have r4:=(o4 w.heap.size (by omega)).trans H3.c;have y4:=(o4 w1.heap.size a6).trans H3.d;have H4:=kq5 s4 k4 q4 r4 y4;clear o4 s4 k4 q4 r4 y4 e0 e1 f0 f1;generalize ((w3.setCell ⟨(w.heap.size+1),0,none⟩ (Xu a0)).setCell ⟨(w.heap.size+1),1,none⟩ (Xu a1))=W4 at*
 try go_simp
 refine hK.out _ _ (HI.out _ H4.d H4.e) ?_;clear hK K
 try simp only[pu]
 refine pD fun K hK=>?_;go_simp
 try go_simp
 refine hK.out _ _ (HI.out _ H4.d H4.e) ?_;clear hK K
 try simp only[pu]
 refine eP ?_;have q5:=H4.c;obtain⟨g0,g1⟩:=Fp q5;clear q5;go_wp2_with fail;exact bodyPost_ret (v:=.tuple #[.agg #[Xu a0,Xu a1],.bool true]) (by simp[results,f297,go_sem,g0,g1]) rfl ⟨rfl,H4.a,H4.b⟩
def Lf.deleteM(jn:Jn)(S:St)(root:Nat)(key:List UInt8):Option ((Nat×Nat)×St):=
 if isT S root=false\/1000<key.length then none
 else match kr jn key 200 S root with
  | none=>none
  | some ((l,old,r),S1)=>(concatM S1 l r).map fun x=>((x.1,old),x.2)
theorem IS{S S':St}(h:Ig w ps S Y)(hi:Fv S){j c:FuncId}{jn:Jn}(hjn:kW j jn)(hk:j6 kind j c)(root:Nat)(hl:root<2^64)(key:List UInt8){R:Nat×Nat}(hR:deleteM jn S root key=some (R,S')):
 Ct 299 #[PV ps,Xi kind,Xu root,SV key] w fun e w'=>e=.returned (.tuple #[Xu R.1,Xu R.2,Xi 0])/\Ig w' ps S' Y/\Fo Y w w'/\Fv S'/\R.1<2^64/\R.2<2^64:=by
 unfold deleteM at hR
 split at hR
 ·cases hR
 rename_i hc;simp only[not_or,dQ] at hc;obtain⟨t1,a4⟩:=hc
 split at hR
 ·cases hR
 rename_i l old r S1 hs;obtain⟨⟨x,S2⟩,ai,he⟩:=aC.1 hR
 injection he with e1 e2
 simp only at e1 e2 ai;subst e1 e2;obtain⟨-,au,a3,hold,a0⟩:=uf (c:=c) hjn _ 200 0 rfl h hi hl hs;have al:=fun W Z (hW:Ig W ps S Z)=>(uf (c:=c) hjn _ 200 0 rfl hW hi hl hs).1;have ad:=fun W Z (hW:Ig W ps S1 Z)=>II (j:=j) (c:=c) hW au l r a0 ai;have q0:=heap_alloc_new w (Xh root);have B0:=(aa w.heap.size w).alloc Ih (Xh root);have hw:=Iv (h.below B0) hi hk key (by omega) [root] (by simp) (fun a ha=>by simp only[aQ] at ha;subst ha;exact⟨hl,t1⟩) w.heap.size q0;simp only[gS,eL,av,aL,Nat.reduceAdd] at hw al ad⊢;have HG:=kq6 hw al ad B0 h hold;clear hw al ad h hi hjn hk hR t1 hs ai au a3 hold a0 q0 B0;go_enter func299,ntmps299;go_wp2_with fail;refine wx HG.a fun w1 hb1=>?_;have B1:=HG.d.trans (hb1.mono HG.d.size);have q1:=heap_alloc_new w1 (.cells #[PV ps,.func (.func j) #[] #[],.func (.func c) #[] #[]] 265);have ar:=B1.alloc B1.size (.cells #[PV ps,.func (.func j) #[] #[],.func (.func c) #[] #[]] 265);have z1:=B1.size;obtain⟨e0,e1,e2⟩:=fq q1;have a2:=(gl q1);have H3:=kq4 ar q1 z1 a2;clear hb1 B1 q1 ar z1 a2;go_wp2_with fail;generalize w1.alloc (.cells #[PV ps,.func (.func j) #[] #[],.func (.func c) #[] #[]] 265)=W1 at*;generalize w1.heap.size=b11 at*;refine(HG.b _ _ (HG.e.wide H3.a)).mono ?_;rintro e w4 ⟨rfl,h4,ap⟩;have r4:=(ap.block b11 (ae ⟨H3.c,H3.d⟩)).trans H3.b;obtain⟨f0,f1,f2⟩:=fq r4;have H4:=kq2 h4 ap;clear h4 ap r4 e0 e1 e2;go_wp2_with fail;refine(HG.c _ _ H4.a).1.mono ?_;rintro e w5 ⟨rfl,h5,a1⟩;have H5:=kq5 (h5.mono (Z:=Y) fun k hk=>ab hk) ((Fo.of_below H3.a HG.e.yl).trans ((H4.b.trans a1).mono fun k hk=>ab hk)) (HG.c _ _ H4.a).2.1 (HG.c _ _ H4.a).2.2 HG.f;clear h5 a1 f0 f1 f2;go_wp2_with fail;go_ret3;exact⟨rfl,H5.out⟩
def Lf.binDelM(jn:Jn)(S:St)(root:Nat)(key:List UInt8):Option ((Nat×Nat×Nat)×St):=
 match deleteM jn S root key with
 | none=>none
 | some ((now,o),S1)=>match jr S1 o with
  | (0,S2)=>some ((now,(getNode S1 o).1.key,(getNode S1 o).1.val),S2)
  | _=>none
theorem Ix{jn:Jn}{S S':St}{root:Nat}{key:List UInt8}{R:Nat×Nat×Nat}(h:binDelM jn S root key=some (R,S')):
 ∃o S1,deleteM jn S root key=some ((R.1,o),S1)/\jr S1 o=(0,S')/\R.2.1=(getNode S1 o).1.key/\R.2.2=(getNode S1 o).1.val:=by
 unfold binDelM at h
 split at h
 ·cases h
 rename_i now o S1 h1
 split at h
 ·rename_i S2 h2;have h:=Option.some.inj h
  injection h with e1 e2
  subst e1 e2;exact⟨o,S1,h1,h2,rfl,rfl⟩
 ·cases h
theorem qOaab{P:Prop}(h:P:=by
 exact⟨(s8.1.trans s7.1).trans ad.os,(s8.2.1.trans s7.2.1).trans ad.tape,(s8.2.2.trans s7.2.2).trans ad.output,by have:=ad.size;omega,fun k hk=>(hw k (by have:=hY k hk;omega)).trans (ad.block k hk)⟩):P:=h
theorem Iz{S S':St}(h:Ig w ps S Y)(hi:Fv S){j c:FuncId}{jn:Jn}(hk:jD kind j c jn)(root:Nat)(hl:root<2^64)(key:List UInt8){R:Nat×Nat×Nat}(hR:binDelM jn S root key=some (R,S')):
 Ct 290 #[fE ps kind,Xu root,SV key] w fun e w'=>e=.returned (.tuple #[Xu R.1,Id R.2.1 R.2.2,.bool true])/\Ig w' ps S' Y/\Fo Y w w'/\R.1<2^64:=by
 obtain⟨o,S1,h1,h2,e1,e2⟩:=Ix hR;obtain⟨a4,ik,iv⟩:=R;simp only at h1 e1 e2⊢;have a0:=fun W Z (hW:Ig W ps S Z)=>IS hW hi hk.joins hk.way root hl key h1;have ai:=fun W Z (hi2:Fv S1) (ho:o<2^64) (hW:Ig W ps S1 Z)=>zi hW hi2 kind o ho h2;rw[<-e1,<-e2] at ai;simp only[fE,Id] at ai⊢;have B1:=(aa w.heap.size w).alloc Ih (Xf ps kind);have q1:=heap_alloc_new w (Xf ps kind);have z1:(w.alloc (Xf ps kind)).heap.size=w.heap.size+1:=by simp
 have A2:=(aa _ (w.alloc (Xf ps kind))).alloc Ih (.cells #[Xu 0,Xu 0] 137);have q2:=(A2.block w.heap.size (by omega)).trans q1;have y2:=heap_alloc_new (w.alloc (Xf ps kind)) (.cells #[Xu 0,Xu 0] 137);rw[z1] at y2;have B2:=B1.alloc B1.size (.cells #[Xu 0,Xu 0] 137);have z2:((w.alloc (Xf ps kind)).alloc (.cells #[Xu 0,Xu 0] 137)).heap.size=w.heap.size+2:=by simp
 have s2:=h.wide B2;rw[z2] at s2;have hY:=h.yl;obtain⟨b0,b1⟩:=Fp q2;have HG:=kq7 a0 ai s2 q2 y2 B2 hY;clear a0 ai s2 q1 q2 y2 A2 B1 B2 z1 z2 h hi hk hR h1 h2 e1 e2 hY;go_enter func290,ntmps290;go_wp2_with fail;refine(HG.a _ _ HG.c).mono ?_;rintro e w4 ⟨rfl,h4,k4,i4,l4,a3⟩;have q4:=(k4.block w.heap.size (ae ⟨Nat.le_refl _,by omega⟩)).trans HG.d;have y4:=(k4.block (w.heap.size+1) (ae ⟨by omega,by omega⟩)).trans HG.e;obtain⟨c0,c1⟩:=Fp q4;have H4:=kq7 h4 k4 q4 y4 i4 l4 a3;clear h4 k4 q4 y4 i4 l4 a3 b0 b1;go_wp2_with fail;refine(HG.b _ _ H4.e H4.g H4.a).mono ?_;rintro e w6 ⟨rfl,h6,ap⟩;have y6:=(ap.block (w.heap.size+1) (ae ⟨by omega,by omega⟩)).trans H4.d;obtain⟨e0,e1⟩:=Fp y6;obtain⟨f0,f1⟩:=ef y6;have q7:((w6.setCell ⟨(w.heap.size+1),0,none⟩ (Xu ik)).setCell ⟨(w.heap.size+1),1,none⟩ (Xu iv)).heap[w.heap.size+1]?=_:=ew y6 (Xu ik) (Xu iv);have o7:∀k,k≠w.heap.size+1->((w6.setCell ⟨(w.heap.size+1),0,none⟩ (Xu ik)).setCell ⟨(w.heap.size+1),1,none⟩ (Xu iv)).heap[k]?=w6.heap[k]?:=fun k hk=>fA hk _ _;have z7:((w6.setCell ⟨(w.heap.size+1),0,none⟩ (Xu ik)).setCell ⟨(w.heap.size+1),1,none⟩ (Xu iv)).heap.size=w6.heap.size:=by simp
 have s7:((w6.setCell ⟨(w.heap.size+1),0,none⟩ (Xu ik)).setCell ⟨(w.heap.size+1),1,none⟩ (Xu iv)).os=w6.os/\((w6.setCell ⟨(w.heap.size+1),0,none⟩ (Xu ik)).setCell ⟨(w.heap.size+1),1,none⟩ (Xu iv)).tape=w6.tape/\((w6.setCell ⟨(w.heap.size+1),0,none⟩ (Xu ik)).setCell ⟨(w.heap.size+1),1,none⟩ (Xu iv)).output=w6.output:=⟨rfl,rfl,rfl⟩;have k6:=H4.b.trans ap;have H6:=kq7 h6 k6 y6 q7 o7 z7 s7;clear y6 c0 c1 h6 k6 ap o7 z7 s7 q7;go_wp2_with fail;generalize ((w6.setCell ⟨(w.heap.size+1),0,none⟩ (Xu ik)).setCell ⟨(w.heap.size+1),1,none⟩ (Xu iv))=w7 at*;have q7:=H6.d;obtain⟨I,au,al⟩:∃I:World->Prop,(∀w',I w'->w'.heap[w.heap.size+1]?=some (Xe ik iv))/\(∀w',w'.heap[w.heap.size+1]?=some (Xe ik iv)->I w'):=⟨fun w'=>w'.heap[w.heap.size+1]?=some (Xe ik iv),fun _ h=>h,fun _ a=>a⟩;have a2:=fun x:Fq I=>au _ x.ok;obtain⟨m0,m1⟩:=fw a2;obtain⟨g0,g1⟩:=Fp q7;obtain⟨h0,h1⟩:=ef q7;have HI:=If al;have ar:I w7.drew:=al _ q7;have HQ:=If q7;clear e0 e1 f0 f1 q7 au al a2;refine fh I (.take 0 (.take 1 (.take 2 (.go 3 (.go 4 (.go 5 .nil)))))) (by kernel_rfl) (by kernel_rfl) ar ?_
 iterate 3
  refine' pT ?_ ?_;rotate_left
  ·intro x;go_simp
   try rfl
  try simp only[pu]
 refine pD fun K hK=>?_;go_simp
 try go_simp
 refine hK.out _ _ (HI.out _ HQ.out) ?_;clear hK K
 try simp only[pu]
 refine pD fun K hK=>?_;go_simp;have q8:((w7.setCell ⟨(w.heap.size+1),0,none⟩ (Xu ik)).setCell ⟨(w.heap.size+1),1,none⟩ (Xu iv)).drew.heap[w.heap.size+1]?=_:=ew HQ.out (Xu ik) (Xu iv);have o8:∀k,k≠w.heap.size+1->((w7.setCell ⟨(w.heap.size+1),0,none⟩ (Xu ik)).setCell ⟨(w.heap.size+1),1,none⟩ (Xu iv)).drew.heap[k]?=w7.heap[k]?:=fun k hk=>fA hk _ _;have z8:((w7.setCell ⟨(w.heap.size+1),0,none⟩ (Xu ik)).setCell ⟨(w.heap.size+1),1,none⟩ (Xu iv)).drew.heap.size=w7.heap.size:=by show ((w7.setCell ⟨(w.heap.size+1),0,none⟩ (Xu ik)).setCell ⟨(w.heap.size+1),1,none⟩ (Xu iv)).heap.size=_;simp
 have s8:((w7.setCell ⟨(w.heap.size+1),0,none⟩ (Xu ik)).setCell ⟨(w.heap.size+1),1,none⟩ (Xu iv)).drew.os=w7.os/\((w7.setCell ⟨(w.heap.size+1),0,none⟩ (Xu ik)).setCell ⟨(w.heap.size+1),1,none⟩ (Xu iv)).drew.tape=w7.tape/\((w7.setCell ⟨(w.heap.size+1),0,none⟩ (Xu ik)).setCell ⟨(w.heap.size+1),1,none⟩ (Xu iv)).drew.output=w7.output:=⟨rfl,rfl,rfl⟩;generalize ((w7.setCell ⟨(w.heap.size+1),0,none⟩ (Xu ik)).setCell ⟨(w.heap.size+1),1,none⟩ (Xu iv)).drew=w8 at*
 try go_simp
 refine hK.out _ _ (HI.out _ q8) ?_;clear hK K
 try simp only[pu]
 refine pD fun K hK=>?_;go_simp
 try go_simp
 refine hK.out _ _ (HI.out _ q8) ?_;clear hK K
 try simp only[pu]
 refine eP ?_;obtain⟨e0,e1⟩:=Fp q8;have a1:Ig w8 ps S' Y/\Fo Y w w8:=by
  obtain⟨h6,k6,y6,-,o7,z7,s7⟩:=H6.out;have hY:=HG.g;have hw:∀k,k≠w.heap.size+1->w8.heap[k]?=w6.heap[k]?:=fun k hk=>(o8 k hk).trans (o7 k hk);refine⟨(h6.write (ae ⟨by omega,by omega⟩) y6 ⟨by decide,by decide⟩ (by simp) (by omega) fun k _ hk=>hw k hk).mono fun k hk=>ab hk,?_⟩;have ad:=(Fo.of_below HG.f hY).trans (k6.mono fun k hk=>ab hk);exact qOaab
 have HF:=If a1;clear a1 q8 o8 z8 s8 g0 g1 h0 h1 m0 m1 HI HQ ar;go_wp2_with fail;exact bodyPost_ret (v:=.tuple #[Xu a4,.agg #[Xu ik,Xu iv],.bool true]) (by simp[results,f290,go_sem,e0,e1]) rfl ⟨rfl,HF.out.1,HF.out.2,H4.f⟩
def Lf.binRepM(jn:Jn)(S:St)(root k v:Nat):Option ((Nat×Nat×Nat)×St):=
 if(ft S ⟨k,v,0,0,0,1⟩).1.2≠0 then none
 else match insertOkM jn (ft S ⟨k,v,0,0,0,1⟩).2 root (ft S ⟨k,v,0,0,0,1⟩).1.1 with
  | none=>none
  | some ((now,o),S1)=>match jr S1 o with
   | (0,S2)=>some ((now,(getNode S1 o).1.key,(getNode S1 o).1.val),S2)
   | _=>none
theorem y9{jn:Jn}{S S':St}{root k v:Nat}{R:Nat×Nat×Nat}(h:binRepM jn S root k v=some (R,S')):
 ∃o S1,(ft S ⟨k,v,0,0,0,1⟩).1.2=0/\insertOkM jn (ft S ⟨k,v,0,0,0,1⟩).2 root (ft S ⟨k,v,0,0,0,1⟩).1.1=some ((R.1,o),S1)/\jr S1 o=(0,S')/\R.2.1=(getNode S1 o).1.key/\R.2.2=(getNode S1 o).1.val:=by
 unfold binRepM at h
 split at h
 ·cases h
 ·rename_i h0
  split at h
  ·cases h
  ·rename_i now o S1 h1
   split at h
   ·rename_i S2 h2;have h:=Option.some.inj h
    injection h with e1 e2
    subst e1 e2;exact⟨o,S1,da.1 h0,h1,h2,rfl,rfl⟩
   ·cases h
theorem zd{S S':St}(h:Ig w ps S Y)(hm:iw S 6){j c:FuncId}{jn:Jn}(hk:jD kind j c jn)(root k v:Nat)(hl:root<2^64)(hkl:k<2^64)(hvl:v<2^64){R:Nat×Nat×Nat}(hx:binRepM jn S root k v=some (R,S'))(hi':Fv S'):
 Ct 288 #[fE ps kind,Xu root,Id k v] w fun e w'=>e=.returned (.tuple #[Xu R.1,Id R.2.1 R.2.2,.bool true,Xi 0])/\Ig w' ps S' Y/\Fo Y w w'/\Fv S'/\R.1<2^64:=by
 obtain⟨o,S2,h0,h1,h2,e1,e2⟩:=y9 hx;obtain⟨x,ik,iv⟩:=R;simp only at h1 e1 e2⊢;have ar:=vz hm ⟨k,v,0,0,0,1⟩;have a4:=vA h.tabwf ⟨k,v,0,0,0,1⟩;have ai:=fun W Z (hW:Ig W ps S Z)=>vU hW hm ⟨k,v,0,0,0,1⟩ ⟨hkl,hvl,by simp,by simp,by simp,by simp⟩;generalize ft S ⟨k,v,0,0,0,1⟩=M at*;obtain⟨⟨m,em⟩,S1⟩:=M;simp only at h0 h1 ar a4 ai;subst h0;have a3:=fun W Z (hW:Ig W ps S1 Z)=>In hW ar hk.joins hk.way root m hl a4 h1;have al:=fun W Z (hi2:Fv S2) (ho:o<2^64) (hW:Ig W ps S2 Z)=>zi hW hi2 kind o ho h2;rw[<-e1,<-e2] at al;simp only[fE,Id,eS] at ai al⊢;have B1:=(aa w.heap.size w).alloc Ih (Xf ps kind);have q1:=heap_alloc_new w (Xf ps kind);generalize a6:w.alloc (Xf ps kind)=w1 at*;have z1:w1.heap.size=w.heap.size+1:=by rw[<-a6];simp
 have A2:=(aa w1.heap.size w1).alloc Ih (Xe k v);have B2:=B1.alloc B1.size (Xe k v);have q2:=(A2.block w.heap.size (by omega)).trans q1;have z2:(w1.alloc (Xe k v)).heap.size=w.heap.size+2:=by simp[z1]
 generalize a':w1.alloc (Xe k v)=w2 at*;have A3:=(aa w2.heap.size w2).alloc Ih (.cells #[Xu 0,Xu 0] 137);have q3:=(A3.block w.heap.size (by omega)).trans q2;have B3:=B2.alloc B2.size (.cells #[Xu 0,Xu 0] 137);have y3:=heap_alloc_new w2 (.cells #[Xu 0,Xu 0] 137);rw[z2] at y3;have z3:(w2.alloc (.cells #[Xu 0,Xu 0] 137)).heap.size=w.heap.size+3:=by simp[z2]
 subst a' a6;have hY:=h.yl;have HG:=kq9 ai a3 al (h.wide B3) q3 y3 z3 B3 hY;clear ai a3 al h q1 q2 q3 y3 A2 A3 B1 B2 B3 z1 z2 z3 ar h1 h2 e1 e2 hm hk hY hx;go_enter func288,ntmps288;go_wp2_with fail;refine(HG.a _ _ HG.d).mono ?_;rintro e w4 ⟨rfl,h4,k4⟩;have q4:=(k4.block w.heap.size (ae ⟨Nat.le_refl _,by have:=HG.g;omega⟩)).trans HG.e;have y4:=(k4.block (w.heap.size+2) (ae ⟨by omega,by have:=HG.g;omega⟩)).trans HG.f;obtain⟨c0,c1⟩:=Fp q4;have H4:=kq4 h4 k4 q4 y4;clear h4 k4 q4 y4;go_wp2_with fail;obtain⟨hp,a2,a7,a5⟩:=HG.b _ _ H4.a;refine hp.mono ?_;rintro e w5 ⟨rfl,h5,k5⟩;have q5:=(k5.block w.heap.size (ae ⟨Nat.le_refl _,by have:=HG.g;omega⟩)).trans H4.c;have y5:=(k5.block (w.heap.size+2) (ae ⟨by omega,by have:=HG.g;omega⟩)).trans H4.d;obtain⟨d0,d1⟩:=Fp q5;have H5:=kq6 h5 (H4.b.trans k5) a2 a7 y5 a5;clear h5 k5 q5 y5 hp a2 a7 a5 c0 c1;go_wp2_with fail;refine(HG.c _ _ H5.c H5.f H5.a).mono ?_;rintro e w6 ⟨rfl,h6,au⟩;have y6:=(au.block (w.heap.size+2) (ae ⟨by omega,by have:=HG.g;omega⟩)).trans H5.e;obtain⟨e0,e1⟩:=Fp y6;obtain⟨f0,f1⟩:=ef y6;have q7:((w6.setCell ⟨(w.heap.size+2),0,none⟩ (Xu ik)).setCell ⟨(w.heap.size+2),1,none⟩ (Xu iv)).heap[w.heap.size+2]?=_:=ew y6 (Xu ik) (Xu iv);have o7:∀k,k≠w.heap.size+2->((w6.setCell ⟨(w.heap.size+2),0,none⟩ (Xu ik)).setCell ⟨(w.heap.size+2),1,none⟩ (Xu iv)).heap[k]?=w6.heap[k]?:=fun k hk=>fA hk _ _;have z7:((w6.setCell ⟨(w.heap.size+2),0,none⟩ (Xu ik)).setCell ⟨(w.heap.size+2),1,none⟩ (Xu iv)).heap.size=w6.heap.size:=by simp
 have s7:((w6.setCell ⟨(w.heap.size+2),0,none⟩ (Xu ik)).setCell ⟨(w.heap.size+2),1,none⟩ (Xu iv)).os=w6.os/\((w6.setCell ⟨(w.heap.size+2),0,none⟩ (Xu ik)).setCell ⟨(w.heap.size+2),1,none⟩ (Xu iv)).tape=w6.tape/\((w6.setCell ⟨(w.heap.size+2),0,none⟩ (Xu ik)).setCell ⟨(w.heap.size+2),1,none⟩ (Xu iv)).output=w6.output:=⟨rfl,rfl,rfl⟩;have ba:∀k,Y k->k<w.heap.size:=HG.i;have k6:=H5.b.trans au;have H6:=kq9 h6 k6 H5.c H5.d y6 q7 o7 z7 s7;clear y6 d0 d1 h6 k6 au o7 z7 s7 q7;go_wp2_with fail;generalize ((w6.setCell ⟨(w.heap.size+2),0,none⟩ (Xu ik)).setCell ⟨(w.heap.size+2),1,none⟩ (Xu iv))=w7 at*;have q7:=H6.f;obtain⟨I,a0,ap⟩:∃I:World->Prop,(∀w',I w'->w'.heap[w.heap.size+2]?=some (Xe ik iv))/\(∀w',w'.heap[w.heap.size+2]?=some (Xe ik iv)->I w'):=⟨fun w'=>w'.heap[w.heap.size+2]?=some (Xe ik iv),fun _ h=>h,fun _ a=>a⟩;have a8:=fun x:Fq I=>a0 _ x.ok;obtain⟨m0,m1⟩:=fw a8;obtain⟨g0,g1⟩:=Fp q7;obtain⟨h0,h1⟩:=ef q7;have HI:=If ap;have a9:I w7.drew:=ap _ q7;have HQ:=If q7;clear e0 e1 f0 f1 q7 a0 ap a8;refine nF I [(true,0),(true,1),(true,2),(true,3),(false,4),(false,5),(false,6),(false,7)] (by kernel_rfl) (by kernel_rfl) a9 ?_
 iterate 4
  refine' mT ?_ ?_;rotate_left
  ·intro x;go_simp
   try rfl
  try simp only[pu]
 refine mD fun K hK=>?_;go_simp
 try go_simp
 refine hK.out _ _ (HI.out _ HQ.out) ?_;clear hK K
 try simp only[pu]
 refine mD fun K hK=>?_;go_simp;have q8:((w7.setCell ⟨(w.heap.size+2),0,none⟩ (Xu ik)).setCell ⟨(w.heap.size+2),1,none⟩ (Xu iv)).drew.heap[w.heap.size+2]?=_:=ew HQ.out (Xu ik) (Xu iv);have o8:∀k,k≠w.heap.size+2->((w7.setCell ⟨(w.heap.size+2),0,none⟩ (Xu ik)).setCell ⟨(w.heap.size+2),1,none⟩ (Xu iv)).drew.heap[k]?=w7.heap[k]?:=fun k hk=>fA hk _ _;have z8:((w7.setCell ⟨(w.heap.size+2),0,none⟩ (Xu ik)).setCell ⟨(w.heap.size+2),1,none⟩ (Xu iv)).drew.heap.size=w7.heap.size:=by show ((w7.setCell ⟨(w.heap.size+2),0,none⟩ (Xu ik)).setCell ⟨(w.heap.size+2),1,none⟩ (Xu iv)).heap.size=_;simp
 have s8:((w7.setCell ⟨(w.heap.size+2),0,none⟩ (Xu ik)).setCell ⟨(w.heap.size+2),1,none⟩ (Xu iv)).drew.os=w7.os/\((w7.setCell ⟨(w.heap.size+2),0,none⟩ (Xu ik)).setCell ⟨(w.heap.size+2),1,none⟩ (Xu iv)).drew.tape=w7.tape/\((w7.setCell ⟨(w.heap.size+2),0,none⟩ (Xu ik)).setCell ⟨(w.heap.size+2),1,none⟩ (Xu iv)).drew.output=w7.output:=⟨rfl,rfl,rfl⟩;generalize ((w7.setCell ⟨(w.heap.size+2),0,none⟩ (Xu ik)).setCell ⟨(w.heap.size+2),1,none⟩ (Xu iv)).drew=w8 at*
 try go_simp
 refine hK.out _ _ (HI.out _ q8) ?_;clear hK K
 try simp only[pu]
 refine mD fun K hK=>?_;go_simp
 try go_simp
 refine hK.out _ _ (HI.out _ q8) ?_;clear hK K
 try simp only[pu]
 refine mD fun K hK=>?_;go_simp
 try go_simp
 refine hK.out _ _ (HI.out _ q8) ?_;clear hK K
 try simp only[pu]
 refine mX ?_;obtain⟨e0,e1⟩:=Fp q8;have a1:Ig w8 ps S' Y/\Fo Y w w8:=by
  obtain⟨h6,k6,-,-,y6,-,o7,z7,s7⟩:=H6.out;have hY:=HG.i;have hz:=HG.g;have hw:∀k,k≠w.heap.size+2->w8.heap[k]?=w6.heap[k]?:=fun k hk=>(o8 k hk).trans (o7 k hk);refine⟨(h6.write (ae ⟨by omega,by omega⟩) y6 ⟨by decide,by decide⟩ (by simp) (by omega) fun k _ hk=>hw k hk).mono fun k hk=>ab hk,?_⟩;have ad:=(Fo.of_below HG.h hY).trans (k6.mono fun k hk=>ab hk);exact qOaab
 have HF:=If a1;clear a1 q8 o8 z8 s8 g0 g1 h0 h1 m0 m1;go_wp2_with fail;exact bodyPost_ret (v:=.tuple #[Xu x,.agg #[Xu ik,Xu iv],.bool true,Xi 0]) (by simp[results,f288,go_sem,e0,e1]) rfl ⟨rfl,HF.out.1,HF.out.2,hi',H6.d⟩
theorem qOaaa{P:Prop}(h:P:=by
 have q4:=(k4.block w.heap.size (ae ⟨Nat.le_refl _,aJ _⟩)).trans H3.c;have H4:=kq2 (s4.mono (Z:=Y) fun k hk=>ab hk) (H3.d.trans ((Fo.drewN Y w3 1).trans (k4.mono fun k hk=>ab hk)))
 try go_simp
 refine hK.out _ _ (HI.out _ T4 q4) ?_;clear hK K
 try simp only[pu]
 clear s4 k4 ar T4 q4;refine eP ?_;go_wp2_with fail;go_ret;exact⟨rfl,H4.out⟩):P:=h
theorem I2{px ps kind root:Nat}(h:Ig w ps S Y)(hi:Fv S)(hT:tt w px ps kind root)(hpx:Y px)(k v:Nat)(hk:k<2^64)(hv:v<2^64)(hg:(fz S v).2≠8)(hi1:Fv (S.drop k).2):
 Ct 83 #[PV px,Id k v,.bool true] w fun e w'=>e=.returned (SV (fz S v).1)/\Ig w' ps ((S.drop k).2.drop v).2 Y/\Fo Y w w':=by
 have B1:=(aa w.heap.size w).alloc Ih (Xe k v);have q1:=heap_alloc_new w (Xe k v);have S1:=h.wide B1;have T1:=hT.below B1;have a4:=h.yl;have sw:(w.alloc (Xe k v)).heap.size=w.heap.size+1:=by simp
 rw[sw] at S1;have au:=fun W Z (hW:Ig W ps S Z)=>iz hW hi v hv hg;have a0:=fun W Z (hW:Ig W ps S Z)=>sE hW hi k hk;have a1:=fun W Z (hW:Ig W ps (S.drop k).2 Z)=>sE hW hi1 v hv;simp only[Id];generalize (fz S v).1=t at*;generalize (fz S v).2=er at*;generalize (S.drop k).1=e1 at*;generalize (S.drop k).2=S2 at*;generalize (S2.drop v).1=e2 at*;generalize (S2.drop v).2=S3 at*;have HG:=kq4 au a0 a1 (Fo.of_below B1 a4);clear au a0 a1 h hi hi1 hg;go_enter func83,ntmps83;go_wp2_with fail;generalize w.alloc (Xe k v)=W at*;obtain⟨I,ad,ai⟩:=lB (fun w'=>tt w' px ps kind root) (fun w'=>w'.heap[w.heap.size]?=some (Xe k v));have al:=fun x:Fq I=>(ad _ x.ok).1;have a2:=fun x:Fq I=>(ad _ x.ok).2;simp only[tt] at al;obtain⟨m0,m1,m2,m3,m4⟩:=iK al;obtain⟨n0,n1⟩:=fw a2;have a3:I W.drew:=ai _ T1 q1;have HI:=If ai;have HW:=kq3 S1 T1 q1;clear S1 T1 q1 B1 ad ai al a2;refine fh I (.take 0 (.take 1 (.take 2 (.take 3 (.take 4 (.take 5 (.go 6 (.take 7 (.take 8 (.take 9 (.take 10 (.take 11 .nil)))))))))))) (by kernel_rfl) (by kernel_rfl) a3 ?_
 iterate 6
  refine' pT ?_ ?_;rotate_left
  ·intro x;go_simp
   try rfl
  try simp only[pu]
 refine pD fun K hK=>?_;go_simp;refine wx (HG.a _ _ (HW.a.drewN 1)) fun w2 hb2=>?_;have T2:tt w2 px ps kind root:=tt.below (w:=W.drew) HW.b hb2;have q2:w2.heap[w.heap.size]?=_:=(hb2.block w.heap.size (gl HW.c)).trans HW.c;have s2:=(HW.a.drewN 1).below hb2;have k2:Fo Y W w2:=(Fo.drewN Y W 1).trans ((HW.a.drewN 1).keep hb2 |>.mono fun k hk=>ab hk);have H2:=kq4 s2 T2 q2 (HG.d.trans k2);clear s2 T2 q2 hb2 k2
 try go_simp
 refine hK.out _ _ (HI.out _ H2.b H2.c) ?_;clear hK K
 try simp only[pu]
 iterate 5
  refine' pT ?_ ?_;rotate_left
  ·intro x;go_simp
   try rfl
  try simp only[pu]
 refine eP ?_;go_wp2_with fail;have ap:I w2.drew:=HI.out _ H2.b H2.c;refine fh I (.take 0 (.take 1 (.take 2 (.take 3 (.take 4 (.take 5 (.go 6 .nil))))))) (by kernel_rfl) (by kernel_rfl) ap ?_
 iterate 6
  refine' pT ?_ ?_;rotate_left
  ·intro x;go_simp
   try rfl
  try simp only[pu]
 refine pD fun K hK=>?_;go_simp;refine(HG.b _ _ (H2.a.drewN 1)).mono ?_;rintro e w3 ⟨rfl,s3,k3⟩;have T3:tt w3 px ps kind root:=tt.keep (w:=w2.drew) H2.b k3 (ab hpx);have q3:=(k3.block w.heap.size (ae ⟨Nat.le_refl _,aJ _⟩)).trans H2.c;have H3:=kq4 s3 T3 q3 (H2.d.trans ((Fo.drewN Y w2 1).trans (k3.mono fun k hk=>ab hk)));clear s3 T3 q3 k3 ap
 try go_simp
 refine hK.out _ _ (HI.out _ H3.b H3.c) ?_;clear hK K
 try simp only[pu]
 refine eP ?_;go_wp2_with fail;have ar:I w3.drew:=HI.out _ H3.b H3.c;refine fh I (.take 0 (.take 1 (.take 2 (.take 3 (.take 4 (.take 5 (.go 6 .nil))))))) (by kernel_rfl) (by kernel_rfl) ar ?_
 iterate 6
  refine' pT ?_ ?_;rotate_left
  ·intro x;go_simp
   try rfl
  try simp only[pu]
 refine pD fun K hK=>?_;go_simp;refine(HG.c _ _ (H3.a.drewN 1)).mono ?_;rintro e w4 ⟨rfl,s4,k4⟩;have T4:tt w4 px ps kind root:=tt.keep (w:=w3.drew) H3.b k4 (ab hpx);exact qOaaa
theorem IR(f:Nat)(v:Value)(w:World):(method (f+1) 185 v "loft/backend.remove").run prog w=.ok (290,v) w:=by kernel_rfl
structure Au (w W:World) (px ps kind root:Nat) (S:St) (Y:Nat->Prop) (b9 ik iv:Nat):Prop where
 t:tt W px ps kind root
 st:Ig W ps S Y
 k:Fo Y w W
 q:W.heap[b9]?=some (Xe ik iv)
 l:w.heap.size<=b9
theorem IZ{px ps kind root:Nat}{S S1:St}(h:Ig w ps S Y)(hi:Fv S)(hT:tt w px ps kind root)(hpx:Y px)(hl:root<2^64){j c:FuncId}{jn:Jn}(hk:jD kind j c jn)(key:List UInt8){F:Nat×Nat}(hF:ij S key (Lf.limit S) root 0=some F)(hF0:F.1≠0)(hF1:F.1<2^64){now ik iv:Nat}(hR:binDelM jn S root key=some ((now,ik,iv),S1))(hik:ik<2^64)(hiv:iv<2^64)(hi1:Fv S1)(hg:(fz S1 iv).2≠8)(hi2:Fv (S1.drop ik).2):
 Ct 89 #[PV px,SV key] w fun e w'=>e=.returned (.tuple #[SV (fz S1 iv).1,.bool true,Xi 0])/\Ig w' ps ((S1.drop ik).2.drop iv).2 Y/\Fo (fun k=>Y k/\k≠px) w w'/\tt w' px ps kind now/\now<2^64:=by
 have hn:=I3 hT;have ap:=fun W (hW:Below w.heap.size w W)=>tL (h.below hW) hi kind root hl key hF hF1;have a8:decide (F.1≠0)=true:=decide_eq_true hF0;rw[a8] at ap;have a0:=fun W Z (hW:Ig W ps S Z)=>Iz hW hi hk root hl key hR;have au:=fun W Z (hW:Ig W ps S1 Z) (hT:tt W px ps kind now) (hy:Z px)=>I2 hW hi1 hT hy ik iv hik hiv hg hi2;generalize (getNode S F.1).1.key=k0 at*;generalize (getNode S F.1).1.val=k1 at*;generalize (fz S1 iv).1=tv at*;simp only[Id] at ap a0 au⊢;have hY:=h.yl;obtain⟨I,a6,ar⟩:=IY px ps kind root;have a1:=fun x:Fq I=>a6 _ x.ok;simp only[tt] at a1;obtain⟨m0,m1,m2,m3,m4⟩:=iK a1;have a4:I w.drew:=ar _ (hT.below (aa _ _).drew);have a9:=vP;have HI:=If ar;have HG:=kq8 hn ap a0 au hpx hY hT h;clear hn ap a0 au hT a6 ar a1 h hi hi1 hi2 hg hk hR hF hF0 hF1 a8 hY hl;go_enter func89,ntmps89;go_wp2_with fail;refine Jc HG.a ?_;go_wp2_with fail;refine fh I (.take 0 (.take 1 (.take 2 (.take 3 (.take 4 (.take 5 (.take 6 (.take 7 (.take 8 (.take 9 (.take 10 (.two 11 15 (.take 12 (.take 13 (.take 14 (.go 15 (.go 16 (.go 17 .nil)))))) (.go 11 (.take 12 (.take 13 (.take 14 (.go 16 (.go 17 .nil)))))))))))))))))) (by kernel_rfl) (by kernel_rfl) a4 ?_
 iterate 11
  refine' pT ?_ ?_;rotate_left
  ·intro x;go_simp
   try rfl
  try simp only[pu]
 refine gL ?h1 ?h2
 case' h1=>
  refine pD fun K hK=>?_;go_simp;refine wx (HG.b _ (aa _ w).drew) fun w2 hb2=>?_;have T2:=tt.below (w:=w.drew) (HG.g.below (aa _ _).drew) hb2;have a2:=(aa w.heap.size w).drew.trans (hb2.mono (aa w.heap.size w).drew.size);have B2:=kq2 T2 a2;clear T2 hb2 a2
  try go_simp
  refine hK.out _ _ (HI.out _ B2.a) ?_;clear hK K
  try simp only[pu]
  iterate 3
   refine' pT ?_ ?_;rotate_left
   ·intro x;go_simp
    try rfl
   try simp only[pu]
  refine pD fun K hK=>?_;go_simp;have A2:=(aa w2.heap.size w2).alloc Ih (.cells #[Xu 0,Xu 0] 137);have TA:=B2.a.below A2;have BA:=B2.b.trans (A2.mono B2.b.size);have qA:=heap_alloc_new w2 (.cells #[Xu 0,Xu 0] 137);have al:w.heap.size<=w2.heap.size:=B2.b.size;clear A2 B2;generalize w2.alloc (.cells #[Xu 0,Xu 0] 137)=W at*;generalize w2.heap.size=b6 at*
  try go_simp
  refine hK.out _ _ (HI.out _ TA) ?_;clear hK K
  try simp only[pu]
  obtain⟨c0,c1⟩:=Fp qA;obtain⟨f0,f1⟩:=ef qA;have HA:=kq4 TA BA qA al;clear TA BA qA al;refine pD fun K hK=>?_;go_simp;have BB:=eT HA.b (HA.d) (Xu k0) (Xu k1);have TB:tt ((W.setCell ⟨b6,0,none⟩ (Xu k0)).setCell ⟨b6,1,none⟩ (Xu k1)) px ps kind root:=HG.g.below BB;clear c0 c1 f0 f1 HA;generalize ((W.setCell ⟨b6,0,none⟩ (Xu k0)).setCell ⟨b6,1,none⟩ (Xu k1))=W7 at*
  try go_simp
  refine hK.out _ _ (HI.out _ TB) ?_;clear hK K
  try simp only[pu]
  refine pD fun K hK=>?_;go_simp
  try go_simp
  refine hK.out _ _ (HI.out _ TB) ?_;clear hK K
  try simp only[pu]
  refine eP ?_;have H7:=kq2 TB BB;clear TB BB;clear w2
 case' h2=>
  refine pD fun K hK=>?_;go_simp;have BA:=((aa w.heap.size w).alloc Ih (.cells #[Xu 0,Xu 0] 137)).drew;have qA:(w.alloc (.cells #[Xu 0,Xu 0] 137)).drew.heap[w.heap.size]?=_:=heap_alloc_new w (.cells #[Xu 0,Xu 0] 137);have TA:=HG.g.below BA;generalize (w.alloc (.cells #[Xu 0,Xu 0] 137)).drew=w1 at*
  try go_simp
  refine hK.out _ _ (HI.out _ TA) ?_;clear hK K
  try simp only[pu]
  have ai:=kq3 TA BA qA;clear TA BA qA;refine pD fun K hK=>?_;go_simp;refine wx (HG.b _ ai.b) fun W hb2=>?_;have TA:=ai.a.below hb2;have BA:=ai.b.trans (hb2.mono ai.b.size);have qA:=(hb2.block w.heap.size (gl ai.c)).trans ai.c;obtain⟨b6,a7⟩:=Ii w.heap.size;have al:w.heap.size<=b6:=by omega
  rw[a7] at qA;simp only[a7];clear hb2 ai
  try go_simp
  refine hK.out _ _ (HI.out _ TA) ?_;clear hK K
  try simp only[pu]
  iterate 3
   refine' pT ?_ ?_;rotate_left
   ·intro x;go_simp
    try rfl
   try simp only[pu]
  obtain⟨c0,c1⟩:=Fp qA;obtain⟨f0,f1⟩:=ef qA;have HA:=kq4 TA BA qA al;clear TA BA qA al;refine pD fun K hK=>?_;go_simp;have BB:=eT HA.b (HA.d) (Xu k0) (Xu k1);have TB:tt ((W.setCell ⟨b6,0,none⟩ (Xu k0)).setCell ⟨b6,1,none⟩ (Xu k1)) px ps kind root:=HG.g.below BB;clear c0 c1 f0 f1 HA;generalize ((W.setCell ⟨b6,0,none⟩ (Xu k0)).setCell ⟨b6,1,none⟩ (Xu k1))=W7 at*
  try go_simp
  refine hK.out _ _ (HI.out _ TB) ?_;clear hK K
  try simp only[pu]
  refine pD fun K hK=>?_;go_simp
  try go_simp
  refine hK.out _ _ (HI.out _ TB) ?_;clear hK K
  try simp only[pu]
  refine eP ?_;have H7:=kq2 TB BB;clear TB BB;clear w1
 all_goals
  clear a4 a9;have a9:=IR;have z7:=H7.b.size;have s7:=HG.h.below H7.b;have a5:I W7.drew:=HI.out _ (H7.a.below (aa _ _).drew);have H2:=kq3 H7.a s7 (Fo.of_below H7.b HG.f);clear s7 H7;go_wp2_with fail;refine fh I (.take 0 (.take 1 (.take 2 (.take 3 (.take 4 (.take 5 (.take 6 (.take 7 (.take 8 (.take 9 (.take 10 (.two 11 16 (.take 12 (.take 13 (.take 14 (.take 15 (.go 16 (.go 17 (.go 18 (.go 19 .nil)))))))) (.go 11 (.take 12 (.take 13 (.take 14 (.take 15 (.go 17 (.go 18 (.go 19 .nil)))))))))))))))))))) (by kernel_rfl) (by kernel_rfl) a5 ?_;clear a5
  iterate 11
   refine' pT ?_ ?_;rotate_left
   ·intro x;go_simp
    try rfl
   try simp only[pu]
  refine gL ?_ ?_
  case' _=>
   refine pD fun K hK=>?_;go_simp;refine(HG.c _ _ (H2.b.drewN 1)).mono ?_;rintro e w3 ⟨rfl,s3,k3,x3⟩;have T3:=tt.keep (w:=W7.drew) H2.a k3 HG.e;have H3:=kq4 T3 s3 k3 x3;clear T3 s3 k3 x3
   try go_simp
   refine hK.out _ _ (HI.out _ H3.a) ?_;clear hK K
   try simp only[pu]
   iterate 4
    refine' pT ?_ ?_;rotate_left
    ·intro x;go_simp
     try rfl
    try simp only[pu]
   refine pD fun K hK=>?_;go_simp;have A4:=(aa w3.heap.size w3).alloc Ih (.cells #[Xu 0,Xu 0] 137);have TA:=H3.a.below A4;have sA:=(H3.b.wide A4).mono (Z:=fun k=>Y k\/k=w3.heap.size) (fun k hk=>hk.imp id fun e=>⟨by omega,by simp;omega⟩);have kA:=(H2.c.trans (Fo.drewN Y W7 1)).trans (H3.c.trans (H3.b.keep A4));have qA:=heap_alloc_new w3 (.cells #[Xu 0,Xu 0] 137);have lA:w.heap.size<=w3.heap.size:=((H2.c.trans (Fo.drewN Y W7 1)).trans H3.c).size;have xA:=H3.d;clear A4 H3;generalize w3.alloc (.cells #[Xu 0,Xu 0] 137)=W at*;generalize w3.heap.size=b9 at*
   try go_simp
   refine hK.out _ _ (HI.out _ TA) ?_;clear hK K
   try simp only[pu]
   refine pD fun K hK=>?_;go_simp
   try go_simp
   refine hK.out _ _ (HI.out _ TA) ?_;clear hK K
   try simp only[pu]
   obtain⟨c0,c1⟩:=Fp qA;obtain⟨f0,f1⟩:=ef qA;have HA:=kq5 TA sA kA qA lA;have a3:=If xA;clear TA sA kA qA lA xA;refine pD fun K hK=>?_;go_simp;have ad:px≠b9:=by have:=HG.f px HG.e;have:=HA.e;omega
   have qB:=ew HA.d (Xu ik) (Xu iv);have oB:∀k,k≠b9->((W.setCell ⟨b9,0,none⟩ (Xu ik)).setCell ⟨b9,1,none⟩ (Xu iv)).heap[k]?=W.heap[k]?:=fun k hk=>fA hk _ _;have sB:Ig ((W.setCell ⟨b9,0,none⟩ (Xu ik)).setCell ⟨b9,1,none⟩ (Xu iv)) ps S1 Y:=(HA.b.write (ae rfl) HA.d ⟨by decide,by decide⟩ (by simp) (by simp) fun k _ hk=>oB k hk).mono fun k hk=>ab hk;have kB:Fo Y w ((W.setCell ⟨b9,0,none⟩ (Xu ik)).setCell ⟨b9,1,none⟩ (Xu iv)):=HA.c.trans ⟨rfl,rfl,rfl,by simp,fun k hk=>oB k (by have:=HG.f k hk;have:=HA.e;omega)⟩;have P9:Au w ((W.setCell ⟨b9,0,none⟩ (Xu ik)).setCell ⟨b9,1,none⟩ (Xu iv)) px ps kind root S1 Y b9 ik iv:=⟨(oB px ad).trans HA.a,sB,kB,qB,HA.e⟩;clear c0 c1 f0 f1 HA qB oB sB kB ad;have H9:=If P9;clear P9;generalize ((W.setCell ⟨b9,0,none⟩ (Xu ik)).setCell ⟨b9,1,none⟩ (Xu iv))=W9 at*
   try go_simp
   refine hK.out _ _ (HI.out _ H9.out.t) ?_;clear hK K
   try simp only[pu]
   refine pD fun K hK=>?_;go_simp
   try go_simp
   refine hK.out _ _ (HI.out _ H9.out.t) ?_;clear hK K
   try simp only[pu]
   refine eP ?_;clear w3
  rotate_left
  case' _=>
   refine pD fun K hK=>?_;go_simp;have A3:=((aa W7.heap.size W7).alloc Ih (.cells #[Xu 0,Xu 0] 137)).drew;have T3:=H2.a.below A3;have qz:(W7.alloc (.cells #[Xu 0,Xu 0] 137)).drew.heap[W7.heap.size]?=_:=heap_alloc_new W7 (.cells #[Xu 0,Xu 0] 137);have s3:=H2.b.wide A3;have z3:(W7.alloc (.cells #[Xu 0,Xu 0] 137)).drew.heap.size=W7.heap.size+1:=by show (W7.alloc _).heap.size=_;simp
   have k3:=H2.c.trans (H2.b.keep A3);rw[z3] at s3;clear A3 z3;generalize (W7.alloc (.cells #[Xu 0,Xu 0] 137)).drew=w3 at*;generalize W7.heap.size=b9 at*
   try go_simp
   refine hK.out _ _ (HI.out _ T3) ?_;clear hK K
   try simp only[pu]
   have H3:=kq4 T3 s3 k3 qz;clear T3 s3 k3 qz;refine pD fun K hK=>?_;go_simp;refine(HG.c _ _ H3.b).mono ?_;rintro e W ⟨rfl,s4,k4,x4⟩;have TA:=tt.keep (w:=w3) H3.a k4 (ab HG.e);have sA:=s4.mono (Z:=fun k=>Y k\/k=b9) (fun k hk=>hk.imp id fun e=>⟨by omega,by omega⟩);have kA:=H3.c.trans (k4.mono (Z:=Y) fun k hk=>ab hk);have qA:W.heap[b9]?=some (.cells #[Xu 0,Xu 0] 137):=(k4.block b9 (ae ⟨Nat.le_refl _,aJ _⟩)).trans H3.d;have lA:=z7;have xA:=x4;clear s4 k4 x4 H3
   try go_simp
   refine hK.out _ _ (HI.out _ TA) ?_;clear hK K
   try simp only[pu]
   iterate 4
    refine' pT ?_ ?_;rotate_left
    ·intro x;go_simp
     try rfl
    try simp only[pu]
   refine pD fun K hK=>?_;go_simp
   try go_simp
   refine hK.out _ _ (HI.out _ TA) ?_;clear hK K
   try simp only[pu]
   obtain⟨c0,c1⟩:=Fp qA;obtain⟨f0,f1⟩:=ef qA;have HA:=kq5 TA sA kA qA lA;have a3:=If xA;clear TA sA kA qA lA xA;refine pD fun K hK=>?_;go_simp;have ad:px≠b9:=by have:=HG.f px HG.e;have:=HA.e;omega
   have qB:=ew HA.d (Xu ik) (Xu iv);have oB:∀k,k≠b9->((W.setCell ⟨b9,0,none⟩ (Xu ik)).setCell ⟨b9,1,none⟩ (Xu iv)).heap[k]?=W.heap[k]?:=fun k hk=>fA hk _ _;have sB:Ig ((W.setCell ⟨b9,0,none⟩ (Xu ik)).setCell ⟨b9,1,none⟩ (Xu iv)) ps S1 Y:=(HA.b.write (ae rfl) HA.d ⟨by decide,by decide⟩ (by simp) (by simp) fun k _ hk=>oB k hk).mono fun k hk=>ab hk;have kB:Fo Y w ((W.setCell ⟨b9,0,none⟩ (Xu ik)).setCell ⟨b9,1,none⟩ (Xu iv)):=HA.c.trans ⟨rfl,rfl,rfl,by simp,fun k hk=>oB k (by have:=HG.f k hk;have:=HA.e;omega)⟩;have P9:Au w ((W.setCell ⟨b9,0,none⟩ (Xu ik)).setCell ⟨b9,1,none⟩ (Xu iv)) px ps kind root S1 Y b9 ik iv:=⟨(oB px ad).trans HA.a,sB,kB,qB,HA.e⟩;clear c0 c1 f0 f1 HA qB oB sB kB ad;have H9:=If P9;clear P9;generalize ((W.setCell ⟨b9,0,none⟩ (Xu ik)).setCell ⟨b9,1,none⟩ (Xu iv))=W9 at*
   try go_simp
   refine hK.out _ _ (HI.out _ H9.out.t) ?_;clear hK K
   try simp only[pu]
   refine pD fun K hK=>?_;go_simp
   try go_simp
   refine hK.out _ _ (HI.out _ H9.out.t) ?_;clear hK K
   try simp only[pu]
   refine eP ?_;clear w3
  all_goals
   clear m0 m1 m2 m3 m4 HI;have t7:=H9.out.t;simp only[tt] at t7;obtain⟨c0,c1,c2,c3,c4⟩:=ld t7;obtain⟨f0,f1,f2,f3,f4⟩:=G2 t7;have ad:px≠b9:=by have:=HG.f px HG.e;have:=H9.out.l;omega
   have t8:tt (W9.setCell ⟨px,4,none⟩ (Xu now)) px ps kind now:=heap_setCell t7;have q8:=(FB (w:=W9) (b:=px) (i:=4) (v:=Xu now) ad.symm).trans H9.out.q;have s8:Ig (W9.setCell ⟨px,4,none⟩ (Xu now)) ps S1 Y:=H9.out.st.write HG.e t7 ⟨by decide,by decide⟩ (by simp) (by simp) fun k _ hk=>FB hk;have k8:Fo (fun k=>Y k/\k≠px) w (W9.setCell ⟨px,4,none⟩ (Xu now)):=(H9.out.k.mono fun k hk=>hk.1).trans ⟨rfl,rfl,rfl,by simp,fun k hk=>FB hk.2⟩;obtain⟨e0,e1⟩:=Fp q8;have H8:=kq3 t8 s8 k8;clear t7 t8 s8 k8 ad q8;go_wp2_with fail;refine(HG.d _ _ H8.b H8.a HG.e).mono ?_;rintro e w9 ⟨rfl,s9,k9⟩;have HF:=kq3 s9 (H8.c.trans (k9.mono fun k hk=>hk.1)) (H8.a.keep k9 HG.e);clear s9 k9 H8 c0 c1 c2 c3 c4 f0 f1 f2 f3 f4 e0 e1;go_wp2_with fail;go_ret3;exact⟨rfl,HF.a,HF.b,HF.c,a3.out⟩
def Lf.treeRepM(jn:Jn)(S:St)(root:Nat)(a b:List UInt8):Option ((Nat×Nat×Nat)×St):=
 match itemsM S a b with
 | none=>none
 | some (p,S1)=>binRepM jn S1 root p.1 p.2
structure jC (w W:World) (px ps:Nat) (ty:TypeId) (kv:Value) (kind td root:Nat) (a b:List UInt8) (S:St) (Y:Nat->Prop) (q0 q1:Value):Prop where
 t:FF W px ps ty kv kind td root
 y:W.heap[w.heap.size]?=some (Xj a b)
 q:W.heap[w.heap.size+1]?=some (.cells #[q0,q1] 137)
 st:Ig W ps S (fun k=>Y k\/(w.heap.size<=k/\k<w.heap.size+2))
 k:Fo Y w W
theorem jC.drew{w W:World}{px ps kind td root:Nat}{a b:List UInt8}{q0 q1:Value}(h:jC w W px ps ty kv kind td root a b S Y q0 q1):jC w W.drew px ps ty kv kind td root a b S Y q0 q1:=
 ⟨h.t,h.y,h.q,h.st.below (aa _ _).drew,h.k.trans (Fo.drewN Y W 1)⟩
theorem jC.call{w W W':World}{px ps kind td root:Nat}{a b:List UInt8}{S S':St}{q0 q1:Value}(h:jC w W px ps ty kv kind td root a b S Y q0 q1)(hpx:Y px)(hs:Ig W' ps S' (fun k=>Y k\/(w.heap.size<=k/\k<w.heap.size+2)))(hk:Fo (fun k=>Y k\/(w.heap.size<=k/\k<w.heap.size+2)) W W'):jC w W' px ps ty kv kind td root a b S' Y q0 q1:=
 ⟨h.t.keep hk (ab hpx),(hk.block _ (ae ⟨by omega,by omega⟩)).trans h.y,(hk.block _ (ae ⟨by omega,by omega⟩)).trans h.q,hs,h.k.trans (hk.mono fun _ hk=>ab hk)⟩
theorem jC.write{w W W':World}{px ps kind td root:Nat}{a b:List UInt8}{q0 q1 r0 r1:Value}(h:jC w W px ps ty kv kind td root a b S Y q0 q1)(hpx:Y px)(hY:∀k,Y k->k<w.heap.size)(hz:W'.heap.size=W.heap.size)(ho:W'.os=W.os/\W'.tape=W.tape/\W'.output=W.output)(hw:∀k,k≠w.heap.size+1->W'.heap[k]?=W.heap[k]?)(hq:W'.heap[w.heap.size+1]?=some (.cells #[r0,r1] 137)):jC w W' px ps ty kv kind td root a b S Y r0 r1:=by
 have h1:=hY px hpx;refine⟨(hw px (by omega)).trans h.t,(hw _ (by omega)).trans h.y,hq,h.st.write (ae ⟨by omega,by omega⟩) h.q ⟨by decide,by decide⟩ (by simp) (by omega) fun k _ hk=>hw k hk,?_⟩;refine h.k.trans ⟨ho.1,ho.2.1,ho.2.2,by omega,fun k hk=>hw k ?_⟩;have:=hY k hk;omega
theorem ER{px ps kind td root:Nat}{S S':St}(h:Ig w ps S Y)(hi:Fv S)(hT:FF w px ps ty kv kind td root)(hpx:Y px)(a b:List UInt8)(hm:nJ S a b)(hp:itemsM S a b=some (p,S')):
 Ct 82 #[PV px,eu (a,b)] w fun e w'=>e=.returned (.tuple #[Id p.1 p.2,Xi 0])/\Ig w' ps S' Y/\Fo Y w w'/\Fv S'/\p.1<2^64/\p.2<2^64:=by
 obtain⟨e1,e2,e3⟩:=BI hp;have a2:=wu hm.2.2.1 hi;have a3:=wu hm.2.2.2 a2;have l1:=wv h.tabwf a;have a0:=fun W Z (hW:Ig W ps S Z)=>tP hW hi a hm.1 hm.2.2.1;have au:=fun W Z (hW:Ig W ps (fx S a).2 Z)=>And.intro (tP hW a2 b hm.2.1 hm.2.2.2) (wv hW.tabwf b);rw[e1] at a0 l1;rw[e2] at au;rw[<-e3] at a3 au;generalize (fx S a).2=S1 at*;obtain⟨p1,p2⟩:=p;simp only[eu,Id] at a0 au l1⊢;have B1:=(aa w.heap.size w).alloc Ih (Xj a b);have y1:=heap_alloc_new w (Xj a b);have z1:(w.alloc (Xj a b)).heap.size=w.heap.size+1:=by simp
 generalize a9:w.alloc (Xj a b)=w1 at*;have A2:=(aa w1.heap.size w1).alloc Ih (.cells #[Xu 0,Xu 0] 137);have B2:=B1.trans (A2.mono B1.size);have y2:=(A2.block w.heap.size (by omega)).trans y1;have q2:=heap_alloc_new w1 (.cells #[Xu 0,Xu 0] 137);have z2:(w1.alloc (.cells #[Xu 0,Xu 0] 137)).heap.size=w.heap.size+2:=by simp[z1]
 rw[z1] at q2;subst a9;have hY:=h.yl;have hA:jC w ((w.alloc (Xj a b)).alloc (.cells #[Xu 0,Xu 0] 137)) px ps ty kv kind td root a b S Y (Xu 0) (Xu 0):=⟨hT.below B2,y2,q2,by have:=h.wide B2;rwa[z2] at this,Fo.of_below B2 hY⟩;have HG:=kq4 a0 au hpx hY;have HL:=kq2 a3 l1;have HA:=If hA;clear a0 au hA B1 B2 y1 y2 q2 A2 z1 z2 hY h hi a2 a3 l1 hm hp e1 e2 e3 hT;go_enter func82,ntmps82;go_wp2_with fail;generalize ((w.alloc (Xj a b)).alloc (.cells #[Xu 0,Xu 0] 137))=W0 at*;obtain⟨I,a1,a5⟩:=lB (fun w'=>FF w' px ps ty kv kind td root) (fun w'=>w'.heap[w.heap.size]?=some (Xj a b));have a4:=fun x:Fq I=>(a1 _ x.ok).1;have a7:=fun x:Fq I=>(a1 _ x.ok).2;simp only[FF] at a4;obtain⟨m0,m1,m2,m3,m4⟩:=iK a4;obtain⟨n0,n1⟩:=fw a7;have HI:=If a5;clear a1 a5 a4 a7;have ar:I W0.drew:=HI.out _ HA.out.drew.t HA.out.drew.y;refine fh I (.take 0 (.take 1 (.take 2 (.take 3 (.take 4 (.take 5 (.go 6 (.take 7 (.take 8 (.take 9 (.take 10 (.go 11 (.go 12 .nil))))))))))))) (by kernel_rfl) (by kernel_rfl) ar ?_;clear ar
 iterate 6
  refine' pT ?_ ?_;rotate_left
  ·intro x;go_simp
   try rfl
  try simp only[pu]
 refine pD fun K hK=>?_;go_simp;refine(HG.a _ _ HA.out.drew.st).mono ?_;rintro e w3 ⟨rfl,h3,k3⟩;have al:=If (HA.out.drew.call HG.c h3 k3);clear h3 k3;have q:=al.out.q;obtain⟨c0,c1⟩:=Fp q;obtain⟨f0,f1⟩:=ef q;clear q
 try go_simp
 refine hK.out _ _ (HI.out _ al.out.t al.out.y) ?_;clear hK K
 try simp only[pu]
 iterate 4
  refine' pT ?_ ?_;rotate_left
  ·intro x;go_simp
   try rfl
  try simp only[pu]
 refine pD fun K hK=>?_;go_simp;have ad:=If (al.out.write (W':=w3.setCell ⟨w.heap.size+1,0,none⟩ (Xu p1)) HG.c HG.d (by simp) ⟨rfl,rfl,rfl⟩ (fun k hk=>FB hk) (heap_setCell al.out.q));clear c0 c1 f0 f1;generalize w3.setCell ⟨w.heap.size+1,0,none⟩ (Xu p1)=w4 at*
 try go_simp
 refine hK.out _ _ (HI.out _ ad.out.t ad.out.y) ?_;clear hK K
 try simp only[pu]
 refine pD fun K hK=>?_;go_simp
 try go_simp
 refine hK.out _ _ (HI.out _ ad.out.t ad.out.y) ?_;clear hK K
 try simp only[pu]
 refine eP ?_;go_wp2_with fail;have ar:I w4.drew:=HI.out _ ad.out.drew.t ad.out.drew.y;refine fh I (.take 0 (.take 1 (.take 2 (.take 3 (.take 4 (.take 5 (.go 6 (.take 7 (.take 8 (.take 9 (.take 10 (.go 11 (.go 12 .nil))))))))))))) (by kernel_rfl) (by kernel_rfl) ar ?_;clear ar
 iterate 6
  refine' pT ?_ ?_;rotate_left
  ·intro x;go_simp
   try rfl
  try simp only[pu]
 refine pD fun K hK=>?_;go_simp;obtain⟨a6,l2⟩:=HG.b _ _ ad.out.drew.st;refine a6.mono ?_;rintro e w5 ⟨rfl,h3,k3⟩;have ap:=If (ad.out.drew.call HG.c h3 k3);have a8:=If l2;clear h3 k3 a6 l2;have q:=ap.out.q;obtain⟨c0,c1⟩:=Fp q;obtain⟨f0,f1⟩:=ef q;clear q
 try go_simp
 refine hK.out _ _ (HI.out _ ap.out.t ap.out.y) ?_;clear hK K
 try simp only[pu]
 iterate 4
  refine' pT ?_ ?_;rotate_left
  ·intro x;go_simp
   try rfl
  try simp only[pu]
 refine pD fun K hK=>?_;go_simp;have ai:=If (ap.out.write (W':=w5.setCell ⟨w.heap.size+1,1,none⟩ (Xu p2)) HG.c HG.d (by simp) ⟨rfl,rfl,rfl⟩ (fun k hk=>FB hk) (heap_setCell ap.out.q));clear c0 c1 f0 f1;generalize w5.setCell ⟨w.heap.size+1,1,none⟩ (Xu p2)=w6 at*
 try go_simp
 refine hK.out _ _ (HI.out _ ai.out.t ai.out.y) ?_;clear hK K
 try simp only[pu]
 refine pD fun K hK=>?_;go_simp
 try go_simp
 refine hK.out _ _ (HI.out _ ai.out.t ai.out.y) ?_;clear hK K
 try simp only[pu]
 refine eP ?_;have q:=ai.out.q;obtain⟨c0,c1⟩:=Fp q;obtain⟨f0,f1⟩:=ef q;have HF:=If (ai.out.write (W':=((w6.setCell ⟨(w.heap.size+1),0,none⟩ (Xu p1)).setCell ⟨(w.heap.size+1),1,none⟩ (Xu p2))) HG.c HG.d (by simp) ⟨rfl,rfl,rfl⟩ (fun k hk=>fA hk _ _) (ew q _ _));clear q;go_wp2_with fail;generalize ((w6.setCell ⟨(w.heap.size+1),0,none⟩ (Xu p1)).setCell ⟨(w.heap.size+1),1,none⟩ (Xu p2))=w7 at*;have q:=HF.out.q;obtain⟨e0,e1⟩:=Fp q;exact bodyPost_ret (v:=.tuple #[.agg #[Xu p1,Xu p2],Xi 0]) (by simp[results,f82,go_sem,e0,e1]) rfl ⟨rfl,HF.out.st.mono fun k hk=>ab hk,HF.out.k,HL.a,HL.b,a8.out⟩
theorem xL{px ps kind td root:Nat}(h:Ig w ps S Y)(hi:Fv S)(hT:FF w px ps ty kv kind td root)(hpx:Y px)(k v:Nat)(hk:k<2^64)(hv:v<2^64)(hg:(fz S v).2≠8)(hi1:Fv (S.drop k).2):
 Ct 83 #[PV px,Id k v,.bool true] w fun e w'=>e=.returned (SV (fz S v).1)/\Ig w' ps ((S.drop k).2.drop v).2 Y/\Fo Y w w':=by
 have B1:=(aa w.heap.size w).alloc Ih (Xe k v);have q1:=heap_alloc_new w (Xe k v);have S1:=h.wide B1;have T1:=hT.below B1;have a4:=h.yl;have sw:(w.alloc (Xe k v)).heap.size=w.heap.size+1:=by simp
 rw[sw] at S1;have au:=fun W Z (hW:Ig W ps S Z)=>iz hW hi v hv hg;have a0:=fun W Z (hW:Ig W ps S Z)=>sE hW hi k hk;have a1:=fun W Z (hW:Ig W ps (S.drop k).2 Z)=>sE hW hi1 v hv;simp only[Id];generalize (fz S v).1=t at*;generalize (fz S v).2=er at*;generalize (S.drop k).1=e1 at*;generalize (S.drop k).2=S2 at*;generalize (S2.drop v).1=e2 at*;generalize (S2.drop v).2=S3 at*;have HG:=kq4 au a0 a1 (Fo.of_below B1 a4);clear au a0 a1 h hi hi1 hg;go_enter func83,ntmps83;go_wp2_with fail;generalize w.alloc (Xe k v)=W at*;obtain⟨I,ad,ai⟩:=lB (fun w'=>FF w' px ps ty kv kind td root) (fun w'=>w'.heap[w.heap.size]?=some (Xe k v));have al:=fun x:Fq I=>(ad _ x.ok).1;have a2:=fun x:Fq I=>(ad _ x.ok).2;simp only[FF] at al;obtain⟨m0,m1,m2,m3,m4⟩:=iK al;obtain⟨n0,n1⟩:=fw a2;have a3:I W.drew:=ai _ T1 q1;have HI:=If ai;have HW:=kq3 S1 T1 q1;clear S1 T1 q1 B1 ad ai al a2;refine fh I (.take 0 (.take 1 (.take 2 (.take 3 (.take 4 (.take 5 (.go 6 (.take 7 (.take 8 (.take 9 (.take 10 (.take 11 .nil)))))))))))) (by kernel_rfl) (by kernel_rfl) a3 ?_
 iterate 6
  refine' pT ?_ ?_;rotate_left
  ·intro x;go_simp
   try rfl
  try simp only[pu]
 refine pD fun K hK=>?_;go_simp;refine wx (HG.a _ _ (HW.a.drewN 1)) fun w2 hb2=>?_;have T2:FF w2 px ps ty kv kind td root:=FF.below (w:=W.drew) HW.b hb2;have q2:w2.heap[w.heap.size]?=_:=(hb2.block w.heap.size (gl HW.c)).trans HW.c;have s2:=(HW.a.drewN 1).below hb2;have k2:Fo Y W w2:=(Fo.drewN Y W 1).trans ((HW.a.drewN 1).keep hb2 |>.mono fun k hk=>ab hk);have H2:=kq4 s2 T2 q2 (HG.d.trans k2);clear s2 T2 q2 hb2 k2
 try go_simp
 refine hK.out _ _ (HI.out _ H2.b H2.c) ?_;clear hK K
 try simp only[pu]
 iterate 5
  refine' pT ?_ ?_;rotate_left
  ·intro x;go_simp
   try rfl
  try simp only[pu]
 refine eP ?_;go_wp2_with fail;have ap:I w2.drew:=HI.out _ H2.b H2.c;refine fh I (.take 0 (.take 1 (.take 2 (.take 3 (.take 4 (.take 5 (.go 6 .nil))))))) (by kernel_rfl) (by kernel_rfl) ap ?_
 iterate 6
  refine' pT ?_ ?_;rotate_left
  ·intro x;go_simp
   try rfl
  try simp only[pu]
 refine pD fun K hK=>?_;go_simp;refine(HG.b _ _ (H2.a.drewN 1)).mono ?_;rintro e w3 ⟨rfl,s3,k3⟩;have T3:FF w3 px ps ty kv kind td root:=FF.keep (w:=w2.drew) H2.b k3 (ab hpx);have q3:=(k3.block w.heap.size (ae ⟨Nat.le_refl _,aJ _⟩)).trans H2.c;have H3:=kq4 s3 T3 q3 (H2.d.trans ((Fo.drewN Y w2 1).trans (k3.mono fun k hk=>ab hk)));clear s3 T3 q3 k3 ap
 try go_simp
 refine hK.out _ _ (HI.out _ H3.b H3.c) ?_;clear hK K
 try simp only[pu]
 refine eP ?_;go_wp2_with fail;have ar:I w3.drew:=HI.out _ H3.b H3.c;refine fh I (.take 0 (.take 1 (.take 2 (.take 3 (.take 4 (.take 5 (.go 6 .nil))))))) (by kernel_rfl) (by kernel_rfl) ar ?_
 iterate 6
  refine' pT ?_ ?_;rotate_left
  ·intro x;go_simp
   try rfl
  try simp only[pu]
 refine pD fun K hK=>?_;go_simp;refine(HG.c _ _ (H3.a.drewN 1)).mono ?_;rintro e w4 ⟨rfl,s4,k4⟩;have T4:FF w4 px ps ty kv kind td root:=FF.keep (w:=w3.drew) H3.b k4 (ab hpx);exact qOaaa
structure tn (w W:World) (px ps:Nat) (ty:TypeId) (kv:Value) (kind td root:Nat) (S:St) (Y:Nat->Prop) (b9 ik iv:Nat):Prop where
 t:FF W px ps ty kv kind td root
 st:Ig W ps S Y
 k:Fo Y w W
 q:W.heap[b9]?=some (Xe ik iv)
 l:w.heap.size<=b9
theorem ny{px ps kind td root:Nat}(h:Ig w ps S Y)(hi:Fv S)(hT:FF w px ps ty kv kind td root)(hpx:Y px)(a b:List UInt8)(hm:nJ S a b){S1:St}(hp:itemsM S a b=some (p,S1))(was:Bool)(tv:List UInt8){R:Nat->Nat->Nat->St->Prop}{R2:Nat->St->Prop}{fm:FuncId}(hme:∀(f:Nat) (v:Value) (w:World),(method (f+1) ty v "loft/backend.insert").run prog w=.ok (fm,v) w)(hen:∀(args:Array Value) (w:World),(callFunc fm args).run prog w=.ok (.enter fm args) w)(hin:∀W Z,Ig W ps S1 Z->p.1<2^64->p.2<2^64->Ct fm #[kv,Xu root,Id p.1 p.2] W fun e w'=>∃(x ik iv:Nat) (S':St),e=.returned (.tuple #[Xu x,Id ik iv,.bool was,Xi 0])/\Ig w' ps S' Z/\Fo Z W w'/\R x ik iv S')(hgo:∀x ik iv S',R x ik iv S'->∀W Z,Ig W ps S' Z->FF W px ps ty kv kind td x->Z px->Ct 83 #[PV px,Id ik iv,.bool was] W fun e w'=>∃S3,e=.returned (SV tv)/\Ig w' ps S3 Z/\Fo Z W w'/\R2 x S3):
 Ct 58 #[PV px,eu (a,b)] w fun e w'=>∃(x:Nat) (S3:St),e=.returned (.tuple #[SV tv,.bool was,Xi 0])/\Ig w' ps S3 Y/\Fo (fun k=>Y k/\k≠px) w w'/\FF w' px ps ty kv kind td x/\R2 x S3:=by
 have a8:(1000<(a.length:Int))=False:=eq_false (by have:=hm.1;omega);have a9:(1000<(b.length:Int))=False:=eq_false (by have:=hm.2.1;omega);have B0:=(aa w.heap.size w).alloc Ih (Xj a b);have hn:=kw (hT.below B0);have ap:=ER (h.below B0) hi (hT.below B0) hpx a b hm hp;have hY:=h.yl;have a2:=hT.below B0;have a1:=Fo.of_below B0 hY;obtain⟨p1,p2⟩:=p;simp only[eu,Id] at ap hin hgo⊢;have HG:=kq8 hn ap hin hgo hpx hY a2 a1;clear hn ap hin hgo B0 h hi hT hm hp hY a2 a1;go_enter func58,ntmps58;go_wp2_with fail;refine Jc HG.a ?_;go_wp2_with fail;refine HG.b.mono ?_;rintro e w1 ⟨rfl,s1,k1,i1,l1,l2⟩;have A2:=(aa w1.heap.size w1).alloc Ih (Xe p1 p2);have q2:=heap_alloc_new w1 (Xe p1 p2);have s2:=s1.wide A2;have z2:(w1.alloc (Xe p1 p2)).heap.size=w1.heap.size+1:=by simp
 have K2:=HG.h.trans (k1.trans (s1.keep A2));have T2:FF (w1.alloc (Xe p1 p2)) px ps ty kv kind td root:=HG.g.keep (k1.trans (s1.keep A2)) HG.e;have ins:=fun W Z hW=>HG.c W Z hW l1 l2;have a5:w.heap.size<=w1.heap.size:=by have:=(HG.h.trans k1).size;exact this
 rw[z2] at s2;clear s1 k1 i1 A2;go_wp2_with fail;generalize a7:w1.alloc (Xe p1 p2)=w2 at*;generalize a6:w1.heap.size=b7 at*;clear a7 a6 w1;have H2:=kq7 T2 s2 K2 q2 ins a5 z2;obtain⟨I,ai,al⟩:=lB (fun w'=>FF w' px ps ty kv kind td root) (fun w'=>w'.heap[b7]?=some (Xe p1 p2));have ar:=fun x:Fq I=>(ai _ x.ok).1;have a4:=fun x:Fq I=>(ai _ x.ok).2;simp only[FF] at ar;obtain⟨m0,m1,m2,m3,m4⟩:=iK ar;obtain⟨n0,n1⟩:=fw a4;have a0:I w2.drew:=al _ T2 q2;have HI:=If al;clear ai al ar a4 T2 s2 K2 q2 ins a5 z2;refine fh I (.take 0 (.take 1 (.take 2 (.take 3 (.take 4 (.take 5 (.take 6 (.take 7 (.take 8 (.take 9 (.take 10 (.two 11 17 (.take 12 (.take 13 (.take 14 (.take 15 (.take 16 (.go 17 (.go 18 (.go 19 (.go 20 (.go 21 .nil)))))))))) (.go 11 (.take 12 (.take 13 (.take 14 (.take 15 (.take 16 (.go 18 (.go 19 (.go 20 (.go 21 .nil)))))))))))))))))))))) (by kernel_rfl) (by kernel_rfl) a0 ?_;clear a0
 iterate 11
  refine' pT ?_ ?_;rotate_left
  ·intro x;go_simp
   try rfl
  try simp only[pu]
 refine gL ?h1 ?h2
 case' h1=>
  refine pD fun K hK=>?_;go_simp;refine(H2.e _ _ (H2.b.below (aa _ _).drew)).mono ?_;rintro e w3 ⟨x,ik,iv,S',rfl,s3,k3,i3⟩;have T3:=FF.keep (w:=w2.drew) H2.a k3 (ab HG.e);have q3:w3.heap[b7]?=some (Xe p1 p2):=(k3.block b7 (ae ⟨Nat.le_refl _,aJ _⟩)).trans H2.d;have H3:=kq5 T3 q3 s3 (k3.mono (Z:=Y) fun k hk=>ab hk) i3;clear T3 q3 s3 k3 i3
  try go_simp
  refine hK.out _ _ (HI.out _ H3.a H3.b) ?_;clear hK K
  try simp only[pu]
  iterate 5
   refine' pT ?_ ?_;rotate_left
   ·intro x;go_simp
    try rfl
   try simp only[pu]
  refine pD fun K hK=>?_;go_simp;have A4:=(aa w3.heap.size w3).alloc Ih (.cells #[Xu 0,Xu 0] 137);have TA:=H3.a.below A4;have q4:=(A4.block b7 (gl H3.b)).trans H3.b;have sA:=((H3.c.mono (Z:=Y) fun k hk=>ab hk).wide A4).mono (Z:=fun k=>Y k\/k=w3.heap.size) (fun k hk=>hk.imp id fun e=>⟨by omega,by simp;omega⟩);have kA:=(H2.c.trans (Fo.drewN Y w2 1)).trans (H3.d.trans ((H3.c.mono (Z:=Y) fun k hk=>ab hk).keep A4));have qA:=heap_alloc_new w3 (.cells #[Xu 0,Xu 0] 137);have lA:w.heap.size<=w3.heap.size:=((H2.c.trans (Fo.drewN Y w2 1)).trans H3.d).size;have iA:=H3.e;have nb:b7≠w3.heap.size:=dg (gl H3.b);clear A4 H3;generalize w3.alloc (.cells #[Xu 0,Xu 0] 137)=W at*;generalize w3.heap.size=b9 at*
  try go_simp
  refine hK.out _ _ (HI.out _ TA q4) ?_;clear hK K
  try simp only[pu]
  refine pD fun K hK=>?_;go_simp
  try go_simp
  refine hK.out _ _ (HI.out _ TA q4) ?_;clear hK K
  try simp only[pu]
  obtain⟨c0,c1⟩:=Fp qA;obtain⟨f0,f1⟩:=ef qA;have HA:=kq6 TA sA kA qA lA iA;clear TA sA kA qA lA iA;refine pD fun K hK=>?_;go_simp;have q5:((W.setCell ⟨b9,0,none⟩ (Xu ik)).setCell ⟨b9,1,none⟩ (Xu iv)).heap[b7]?=some (Xe p1 p2):=(fA nb _ _).trans q4;have ad:px≠b9:=by have:=HG.f px HG.e;have:=HA.e;omega
  have qB:=ew HA.d (Xu ik) (Xu iv);have oB:∀k,k≠b9->((W.setCell ⟨b9,0,none⟩ (Xu ik)).setCell ⟨b9,1,none⟩ (Xu iv)).heap[k]?=W.heap[k]?:=fun k hk=>fA hk _ _;have sB:Ig ((W.setCell ⟨b9,0,none⟩ (Xu ik)).setCell ⟨b9,1,none⟩ (Xu iv)) ps S' Y:=(HA.b.write (ae rfl) HA.d ⟨by decide,by decide⟩ (by simp) (by simp) fun k _ hk=>oB k hk).mono fun k hk=>ab hk;have kB:Fo Y w ((W.setCell ⟨b9,0,none⟩ (Xu ik)).setCell ⟨b9,1,none⟩ (Xu iv)):=HA.c.trans ⟨rfl,rfl,rfl,by simp,fun k hk=>oB k (by have:=HG.f k hk;have:=HA.e;omega)⟩;have P7:tn w ((W.setCell ⟨b9,0,none⟩ (Xu ik)).setCell ⟨b9,1,none⟩ (Xu iv)) px ps ty kv kind td root S' Y b9 ik iv:=⟨(oB px ad).trans HA.a,sB,kB,qB,HA.e⟩;have au:=If HA.f;clear c0 c1 f0 f1 HA qB oB sB kB ad;have H7:=If P7;clear P7;generalize ((W.setCell ⟨b9,0,none⟩ (Xu ik)).setCell ⟨b9,1,none⟩ (Xu iv))=W7 at*
  try go_simp
  refine hK.out _ _ (HI.out _ H7.out.t q5) ?_;clear hK K
  try simp only[pu]
  refine pD fun K hK=>?_;go_simp
  try go_simp
  refine hK.out _ _ (HI.out _ H7.out.t q5) ?_;clear hK K
  try simp only[pu]
  refine pD fun K hK=>?_;go_simp
  try go_simp
  refine hK.out _ _ (HI.out _ H7.out.t q5) ?_;clear hK K
  try simp only[pu]
  refine eP ?_;clear q4 q5 w3 nb
 case' h2=>
  refine pD fun K hK=>?_;go_simp;have A3:=((aa w2.heap.size w2).alloc Ih (.cells #[Xu 0,Xu 0] 137)).drew;have T3:=H2.a.below A3;have q3:=(A3.block b7 (gl H2.d)).trans H2.d;have qz:(w2.alloc (.cells #[Xu 0,Xu 0] 137)).drew.heap[w2.heap.size]?=_:=heap_alloc_new w2 (.cells #[Xu 0,Xu 0] 137);have s3:=H2.b.wide A3;have z3:(w2.alloc (.cells #[Xu 0,Xu 0] 137)).drew.heap.size=w2.heap.size+1:=by show (w2.alloc _).heap.size=_;simp
  have k3:=H2.c.trans ((H2.b.mono (Z:=Y) fun k hk=>ab hk).keep A3);have nb:b7≠w2.heap.size:=by have:=H2.g;omega
  have lz:w.heap.size<=w2.heap.size:=H2.c.size;rw[z3] at s3;clear A3 z3;generalize (w2.alloc (.cells #[Xu 0,Xu 0] 137)).drew=w3 at*;generalize w2.heap.size=b9 at*
  try go_simp
  refine hK.out _ _ (HI.out _ T3 q3) ?_;clear hK K
  try simp only[pu]
  have H3:=kq6 T3 q3 s3 k3 qz lz;clear T3 q3 s3 k3 qz lz;refine pD fun K hK=>?_;go_simp;refine(H2.e _ _ H3.c).mono ?_;rintro e W ⟨x,ik,iv,S',rfl,s4,k4,i4⟩;have TA:=FF.keep (w:=w3) H3.a k4 (ab (ab HG.e));have q4:W.heap[b7]?=some (Xe p1 p2):=(k4.block b7 (ab (ae ⟨Nat.le_refl _,aJ _⟩))).trans H3.b;have sA:=s4.mono (Z:=fun k=>Y k\/k=b9) (fun k hk=>hk.elim (fun h=>ab (ab h)) fun e=>ae ⟨by omega,by omega⟩);have kA:=H3.d.trans (k4.mono (Z:=Y) fun k hk=>ab (ab hk));have qA:W.heap[b9]?=some (.cells #[Xu 0,Xu 0] 137):=(k4.block b9 (ae ⟨Nat.le_refl _,aJ _⟩)).trans H3.e;have lA:=H3.f;have iA:=i4;clear s4 k4 i4 H3
  try go_simp
  refine hK.out _ _ (HI.out _ TA q4) ?_;clear hK K
  try simp only[pu]
  iterate 5
   refine' pT ?_ ?_;rotate_left
   ·intro x;go_simp
    try rfl
   try simp only[pu]
  refine pD fun K hK=>?_;go_simp
  try go_simp
  refine hK.out _ _ (HI.out _ TA q4) ?_;clear hK K
  try simp only[pu]
  obtain⟨c0,c1⟩:=Fp qA;obtain⟨f0,f1⟩:=ef qA;have HA:=kq6 TA sA kA qA lA iA;clear TA sA kA qA lA iA;refine pD fun K hK=>?_;go_simp;have q5:((W.setCell ⟨b9,0,none⟩ (Xu ik)).setCell ⟨b9,1,none⟩ (Xu iv)).heap[b7]?=some (Xe p1 p2):=(fA nb _ _).trans q4;have ad:px≠b9:=by have:=HG.f px HG.e;have:=HA.e;omega
  have qB:=ew HA.d (Xu ik) (Xu iv);have oB:∀k,k≠b9->((W.setCell ⟨b9,0,none⟩ (Xu ik)).setCell ⟨b9,1,none⟩ (Xu iv)).heap[k]?=W.heap[k]?:=fun k hk=>fA hk _ _;have sB:Ig ((W.setCell ⟨b9,0,none⟩ (Xu ik)).setCell ⟨b9,1,none⟩ (Xu iv)) ps S' Y:=(HA.b.write (ae rfl) HA.d ⟨by decide,by decide⟩ (by simp) (by simp) fun k _ hk=>oB k hk).mono fun k hk=>ab hk;have kB:Fo Y w ((W.setCell ⟨b9,0,none⟩ (Xu ik)).setCell ⟨b9,1,none⟩ (Xu iv)):=HA.c.trans ⟨rfl,rfl,rfl,by simp,fun k hk=>oB k (by have:=HG.f k hk;have:=HA.e;omega)⟩;have P7:tn w ((W.setCell ⟨b9,0,none⟩ (Xu ik)).setCell ⟨b9,1,none⟩ (Xu iv)) px ps ty kv kind td root S' Y b9 ik iv:=⟨(oB px ad).trans HA.a,sB,kB,qB,HA.e⟩;have au:=If HA.f;clear c0 c1 f0 f1 HA qB oB sB kB ad;have H7:=If P7;clear P7;generalize ((W.setCell ⟨b9,0,none⟩ (Xu ik)).setCell ⟨b9,1,none⟩ (Xu iv))=W7 at*
  try go_simp
  refine hK.out _ _ (HI.out _ H7.out.t q5) ?_;clear hK K
  try simp only[pu]
  refine pD fun K hK=>?_;go_simp
  try go_simp
  refine hK.out _ _ (HI.out _ H7.out.t q5) ?_;clear hK K
  try simp only[pu]
  refine pD fun K hK=>?_;go_simp
  try go_simp
  refine hK.out _ _ (HI.out _ H7.out.t q5) ?_;clear hK K
  try simp only[pu]
  refine eP ?_;clear q4 q5 w3 nb
 all_goals
  clear m0 m1 m2 m3 m4 n0 n1 HI I;have t7:=H7.out.t;simp only[FF] at t7;obtain⟨c0,c1,c2,c3,c4⟩:=ld t7;obtain⟨f0,f1,f2,f3,f4⟩:=G2 t7;have ad:px≠b9:=by have:=HG.f px HG.e;have:=H7.out.l;omega
  have t8:FF (W7.setCell ⟨px,4,none⟩ (Xu x)) px ps ty kv kind td x:=heap_setCell t7;have q8:=(FB (w:=W7) (b:=px) (i:=4) (v:=Xu x) ad.symm).trans H7.out.q;have s8:Ig (W7.setCell ⟨px,4,none⟩ (Xu x)) ps S' Y:=H7.out.st.write HG.e t7 ⟨by decide,by decide⟩ (by simp) (by simp) fun k _ hk=>FB hk;have k8:Fo (fun k=>Y k/\k≠px) w (W7.setCell ⟨px,4,none⟩ (Xu x)):=(H7.out.k.mono fun k hk=>hk.1).trans ⟨rfl,rfl,rfl,by simp,fun k hk=>FB hk.2⟩;obtain⟨e0,e1⟩:=Fp q8;have H8:=kq3 t8 s8 k8;clear t7 t8 s8 k8 ad q8;go_wp2_with fail;refine(HG.d x ik iv S' au.out _ _ H8.b H8.a HG.e).mono ?_;rintro e w9 ⟨S3,rfl,s9,k9,r9⟩;have a3:Ig w9 ps S3 Y/\Fo (fun k=>Y k/\k≠px) w w9/\FF w9 px ps ty kv kind td x/\R2 x S3:=⟨s9,H8.c.trans (k9.mono fun k hk=>hk.1),FF.keep H8.a k9 HG.e,r9⟩;have HF:=If a3;clear a3 s9 k9 H8 c0 c1 c2 c3 c4 f0 f1 f2 f3 f4 e0 e1;go_wp2_with fail;go_ret3;exact⟨x,S3,rfl,HF.out⟩
end
section
open Lf
def Lf.leftM(S:St)(h:Nat):Option (Nat×St):=
 match fu S (getNode S h).1 h (getNode S h).1.left (getNode S (getNode S h).1.right).1.left with
 | none=>none
 | some S1=>(fu S1 (getNode S (getNode S h).1.right).1 (getNode S h).1.right h (getNode S (getNode S h).1.right).1.right).map fun S2=>((getNode S h).1.right,S2)
def Lf.rightM(S:St)(h:Nat):Option (Nat×St):=
 match fu S (getNode S h).1 h (getNode S (getNode S h).1.left).1.right (getNode S h).1.right with
 | none=>none
 | some S1=>(fu S1 (getNode S (getNode S h).1.left).1 (getNode S h).1.left (getNode S (getNode S h).1.left).1.left h).map fun S2=>((getNode S h).1.left,S2)
def Lf.balM(S:St)(h:Nat):Option (Nat×St):=
 match eE S (getNode S h).1.left,eE S (getNode S h).1.right with
 | some a,some b=>
  if b+1<a then
   match eE S (getNode S (getNode S h).1.left).1.left,eE S (getNode S (getNode S h).1.left).1.right with
   | some c,some d=>
    if c<d then
     match leftM S (getNode S h).1.left with
     | none=>none
     | some (x,S1)=>match fu S1 (getNode S h).1 h x (getNode S h).1.right with
      | none=>none
      | some S2=>rightM S2 h
    else rightM S h
   | _,_=>none
  else if a+1<b then
   match eE S (getNode S (getNode S h).1.right).1.left,eE S (getNode S (getNode S h).1.right).1.right with
   | some c,some d=>
    if d<c then
     match rightM S (getNode S h).1.right with
     | none=>none
     | some (x,S1)=>match fu S1 (getNode S h).1 h (getNode S h).1.left x with
      | none=>none
      | some S2=>leftM S2 h
    else leftM S h
   | _,_=>none
  else some (h,S)
 | _,_=>none
def Lf.chk(o:Option (Nat×St)):Option (Nat×St):=
 match o with
 | none=>none
 | some (x,S)=>if x<2^64 then some (x,S) else none
theorem lM {o:Option (Nat×St)}{x:Nat}{S:St}(h:chk o=some (x,S)):o=some (x,S)/\x<2^64:=by
 unfold chk at h
 split at h
 ·cases h
 ·split at h
  ·rename_i hc
   injection h with h
   injection h with e1 e2
   subst e1 e2;exact⟨rfl,hc⟩
  ·cases h
theorem nU {x:Nat}{S:St}(h:x<2^64):chk (some (x,S))=some (x,S):=by
 unfold chk;simp only;rw[if_pos h]
def Lf.joinB(n:Nd)(m:Nat):Nat->St->Nat->Nat->Option (Nat×St)
 | 0,S,l,r=>(fu S n m l r).map fun S'=>(m,S')
 | f+1,S,l,r=>
  match eE S l,eE S r with
  | some a,some b=>
   if b+1<a then
    match joinB n m f S (getNode S l).1.right r with
    | none=>none
    | some (x,S1)=>
     match fu S1 (getNode S l).1 l (getNode S l).1.left x with
     | none=>none
     | some S2=>chk (balM S2 l)
   else if a+1<b then
    match joinB n m f S l (getNode S r).1.left with
    | none=>none
    | some (x,S1)=>
     match fu S1 (getNode S r).1 r x (getNode S r).1.right with
     | none=>none
     | some S2=>chk (balM S2 r)
   else(fu S n m l r).map fun S'=>(m,S')
  | _,_=>none
theorem qY(n:Nd)(m:Nat)(S:St)(l r:Nat):joinB n m 0 S l r=(fu S n m l r).map fun S'=>(m,S'):=rfl
theorem qX(n:Nd)(m f:Nat)(S:St)(l r:Nat):joinB n m (f+1) S l r=
 match eE S l,eE S r with
 | some a,some b=>
  if b+1<a then
   match joinB n m f S (getNode S l).1.right r with
   | none=>none
   | some (x,S1)=>
    match fu S1 (getNode S l).1 l (getNode S l).1.left x with
    | none=>none
    | some S2=>chk (balM S2 l)
  else if a+1<b then
   match joinB n m f S l (getNode S r).1.left with
   | none=>none
   | some (x,S1)=>
    match fu S1 (getNode S r).1 r x (getNode S r).1.right with
    | none=>none
    | some S2=>chk (balM S2 r)
  else(fu S n m l r).map fun S'=>(m,S')
 | _,_=>none:=rfl
def Lf.avlJ(S:St)(l m r:Nat):Option ((Nat×Nat)×St):=
 if m=0\/isT S l=false\/isT S m=false\/isT S r=false then none
 else(joinB (getNode S m).1 m 100 S l r).map fun x=>((x.1,0),x.2)
structure It where
 h:Nat
 kh:Nat
 vh:Nat
 k:List UInt8
 v:List UInt8
inductive Tr where
 | nil:Tr
 | node (l:Tr) (d:It) (m:Nat) (r:Tr):Tr
namespace Tr
variable{S:St}{o:Nat->Nat}
def root:Tr->Nat
 | nil=>0
 | node _ d _ _=>d.h
def mark:Tr->Nat
 | nil=>0
 | node _ _ m _=>m
def its:Tr->List It
 | nil=>[]
 | node l d _ r=>l.its++d::r.its
def hs(t:Tr):List Nat:=t.its.map (·.h)
def nd(l:Tr)(d:It)(m:Nat)(r:Tr):Nd:=⟨d.kh,d.vh,l.root,r.root,m,(node l d m r).its.length⟩
def At(S:St):Tr->Prop
 | nil=>True
 | node l d m r=>reco S d.h=some (eM (nd l d m r))/\At S l/\At S r
def mk(l:Tr)(d:It)(r:Tr):Tr:=node l d (max l.mark r.mark+1) r
theorem el(l:Tr)(d:It)(r:Tr):(mk l d r).its=l.its++d::r.its:=rfl
theorem eY(l:Tr)(d:It)(m:Nat)(r:Tr):(node l d m r).hs=l.hs++d.h::r.hs:=by
 show (l.its++d::r.its).map (·.h)=_
 simp[hs]
theorem At.frame {S S':St}:∀{t:Tr},At S t->(∀h∈t.hs,reco S' h=reco S h)->At S' t
 | nil,_,_=>trivial
 | node l d m r,⟨h1,h2,h3⟩,hf=>by
  rw[eY] at hf;refine⟨(hf d.h (by simp)).trans h1,h2.frame fun h hm=>hf h (by simp[hm]),h3.frame fun h hm=>hf h (by simp[hm])⟩
theorem At.getNode(hf:Fw S o){l:Tr}{d:It}{m:Nat}{r:Tr}(h:At S (node l d m r)):Lf.getNode S d.h=(nd l d m r,0):=gw hf h.1
theorem At.root_lt(hf:Fw S o):∀{t:Tr},At S t->t.root<2^64
 | nil,_=>by unfold root;decide
 | node _ _ _ _,h=>(fL hf h.1).2.1
theorem At.mark_eq(hf:Fw S o):∀{t:Tr},At S t->mU S t.root=t.mark/\sj S t.root=t.its.length
 | nil,_=>by
  show (Lf.getNode S 0).1.mark=0/\(Lf.getNode S 0).1.size=0
  rw[Bc];exact⟨rfl,rfl⟩
 | node l d m r,h=>by
  show (Lf.getNode S d.h).1.mark=m/\(Lf.getNode S d.h).1.size=_
  rw[h.getNode hf];exact⟨rfl,rfl⟩
theorem At.isT {S:St}{o:Nat->Nat}(hf:Fw S o):∀{t:Tr},At S t->Lf.isT S t.root=true
 | nil,_=>rfl
 | node l d m r,h=>by
  show Lf.isT S d.h=true
  unfold Lf.isT;rw[h.getNode hf];simp
theorem oI{x:Nat}(h:x<2^62):num x=some x:=by
 unfold num;rw[Nat.div_eq_of_lt h]
theorem At.height(hf:Fw S o){t:Tr}(h:At S t)(hm:t.mark<1000000):eE S t.root=some t.mark:=by
 unfold eE;rw[(h.mark_eq hf).1];exact oI (by omega)
theorem At.size(hf:Fw S o){t:Tr}(h:At S t)(hm:t.its.length<1000000):fY S t.root=some t.its.length:=by
 unfold fY;rw[(h.mark_eq hf).2];exact oI (by omega)
theorem jZ(hf:Fw S o){l r:Tr}{d:It}{n n0:Nd}(hl:At S l)(hr:At S r)(hd:reco S d.h=some (eM n0))(hk0:n0.key=d.kh)(hv0:n0.val=d.vh)(hk:n.key=d.kh)(hv:n.val=d.vh)
 (hnl:d.h∉l.hs) (hnr:d.h∉r.hs) (ml:l.mark<100000) (mr:r.mark<100000) (cl:l.its.length<100000) (cr:r.its.length<100000):
 ∃S',fu S n d.h l.root r.root=some S'/\Fw S' o/\At S' (mk l d r)/\(∀h',h'≠d.h->reco S' h'=reco S h')/\ej S S' 0 0:=by
 have hw:=(fL hf hd).2.2.2;have ai:d.kh<2^64:=by rw[<-hk0];exact hw _ (by simp[eM])
 have ar:d.vh<2^64:=by rw[<-hv0];exact hw _ (by simp[eM])
 have ap:ji (nd l d (max l.mark r.mark+1) r):=by
  have:(node l d (max l.mark r.mark+1) r).its.length=l.its.length+(r.its.length+1):=by simp[its]
  refine⟨ai,ar,hl.root_lt hf,hr.root_lt hf,?_,?_⟩
  ·show max l.mark r.mark+1<_;omega
  ·show (node l d (max l.mark r.mark+1) r).its.length<_;omega
 obtain⟨S',e,ad,al,ho,hg⟩:=ww hf hd ap;refine⟨S',?_,ad,?_,ho,hg⟩
 ·unfold fu;rw[hl.height hf (by omega),hr.height hf (by omega),hl.size hf (by omega),hr.size hf (by omega)];simp only;have:({ n with left:=l.root,right:=r.root,mark:=max l.mark r.mark+1,size:=l.its.length+r.its.length+1 }:Nd)=nd l d (max l.mark r.mark+1) r:=by
   unfold nd;rw[hk,hv];simp[its]
   omega
  rw[this,e]
 ·exact⟨al,hl.frame fun h hm=>ho h fun e=>hnl (e▸hm),hr.frame fun h hm=>ho h fun e=>hnr (e▸hm)⟩
def Sm(t:Tr):Prop:=t.mark<50000/\t.its.length<10000
theorem qOaae{P:Prop}(h:P:=by
 rw[g1];simp only[nd,root];rw[g2];simp only[nd,root] at e1 e2⊢;rw[e1];simp only[mk] at e2⊢;rw[e2]
 rfl):P:=h
theorem rq(hf:Fw S o){l a b:Tr}{d e:It}{m m':Nat}(h:At S (node l d m (node a e m' b)))(hd:(node l d m (node a e m' b)).hs.Nodup)(sl:Sm l)(sa:Sm a)(sb:Sm b):
 ∃S',leftM S d.h=some (e.h,S')/\Fw S' o/\At S' (mk (mk l d a) e b)/\(∀h',h'≠d.h->h'≠e.h->reco S' h'=reco S h')/\ej S S' 0 0:=by
 obtain⟨h1,h2,h3⟩:=h;have g1:=gw hf h1;have g2:=gw hf h3.1;simp only[eY,aw,aE,ak,ah,not_or] at hd;obtain⟨a6,⟨ad,a7,ar,au⟩,ai⟩:=hd;have nl:d.h∉l.hs:=fun hm=>ai _ hm _ (ab rfl) rfl;have na:d.h∉a.hs:=ad.1;have al:d.h≠e.h:=ad.2.1;have a0:d.h∉b.hs:=ad.2.2;have a5:e.h∉l.hs:=fun hm=>ai _ hm _ (ae (ae (ab rfl))) rfl;have a3:e.h∉a.hs:=fun hm=>au _ hm _ (ab rfl) rfl;have a4:e.h∉b.hs:=ar.1;obtain⟨S1,e1,f1,a1,o1,w1⟩:=jZ hf (n:=nd l d m (node a e m' b)) h2 h3.2.1 h1 rfl rfl rfl rfl nl na (by have:=sl.1;omega) (by have:=sa.1;omega) (by have:=sl.2;omega) (by have:=sa.2;omega);have ap:At S1 b:=h3.2.2.frame fun h hm=>o1 h fun e=>a0 (e▸hm);obtain⟨S2,e2,f2,a2,o2,w2⟩:=jZ f1 (n:=nd a e m' b) (d:=e) a1 ap ((o1 _ fun e=>al e.symm).trans h3.1) rfl rfl rfl rfl
  (by rw[show (mk l d a).hs=l.hs++d.h::a.hs from eY ..];simp only[ak,ah,not_or];exact⟨a5,fun e=>al e.symm,a3⟩) a4
  (by show max l.mark a.mark+1<_;have:=sl.1;have:=sa.1;omega) (by have:=sb.1;omega) (by rw[el];simp;have:=sl.2;have:=sa.2;omega) (by have:=sb.2;omega)
 refine⟨S2,?_,f2,a2,fun h' q1 q2=>(o2 h' q2).trans (o1 h' q1),w1.trans w2⟩;unfold leftM;exact qOaae
theorem sf(hf:Fw S o){a b r:Tr}{d e:It}{m m':Nat}(h:At S (node (node a e m' b) d m r))(hd:(node (node a e m' b) d m r).hs.Nodup)(sa:Sm a)(sb:Sm b)(sr:Sm r):
 ∃S',rightM S d.h=some (e.h,S')/\Fw S' o/\At S' (mk a e (mk b d r))/\(∀h',h'≠d.h->h'≠e.h->reco S' h'=reco S h')/\ej S S' 0 0:=by
 obtain⟨h1,h2,h3⟩:=h;have g1:=gw hf h1;have g2:=gw hf h2.1;simp only[eY,aw,aE,ak,ah] at hd;obtain⟨⟨a5,⟨ap,a6⟩,ar⟩,⟨au,a7⟩,ad⟩:=hd;have nr:d.h∉r.hs:=au;have nb:d.h∉b.hs:=fun hm=>ad _ (ae (ae hm)) _ (ab rfl) rfl;have na:d.h∉a.hs:=fun hm=>ad _ (ab hm) _ (ab rfl) rfl;have ai:d.h≠e.h:=fun hm=>ad _ (ae (ab hm)) _ (ab rfl) rfl;have a0:e.h∉a.hs:=fun hm=>ar _ hm _ (ab rfl) rfl;have a3:e.h∉b.hs:=ap;have a4:e.h∉r.hs:=fun hm=>ad _ (ae (ab rfl)) _ (ae hm) rfl;obtain⟨S1,e1,f1,a1,o1,w1⟩:=jZ hf (n:=nd (node a e m' b) d m r) (d:=d) h2.2.2 h3 h1 rfl rfl rfl rfl nb nr (by have:=sb.1;omega) (by have:=sr.1;omega) (by have:=sb.2;omega) (by have:=sr.2;omega);have al:At S1 a:=h2.2.1.frame fun h hm=>o1 h fun e=>na (e▸hm);obtain⟨S2,e2,f2,a2,o2,w2⟩:=jZ f1 (n:=nd a e m' b) (d:=e) al a1 ((o1 _ fun e=>ai e.symm).trans h2.1) rfl rfl rfl rfl a0
  (by rw[show (mk b d r).hs=b.hs++d.h::r.hs from eY ..];simp only[ak,ah,not_or];exact⟨a3,fun e=>ai e.symm,a4⟩)
  (by have:=sa.1;omega) (by show max b.mark r.mark+1<_;have:=sb.1;have:=sr.1;omega) (by have:=sa.2;omega) (by rw[el];simp;have:=sb.2;have:=sr.2;omega)
 refine⟨S2,?_,f2,a2,fun h' q1 q2=>(o2 h' q2).trans (o1 h' q1),w1.trans w2⟩;unfold rightM;exact qOaae
def eZ:Tr->Prop
 | nil=>True
 | node l _ m r=>eZ l/\eZ r/\m=max l.mark r.mark+1/\l.mark<=r.mark+1/\r.mark<=l.mark+1
theorem eZ.mark_le:∀{t:Tr},eZ t->t.mark<=t.its.length
 | nil,_=>Nat.le_refl _
 | node l d m r,⟨h1,h2,h3,_,_⟩=>by
  have:=h1.mark_le;have:=h2.mark_le;show m<=(l.its++d::r.its).length
  simp only[aG,av];omega
theorem eZ.sm{t:Tr}(h:eZ t)(hl:t.its.length<10000):Sm t:=⟨by have:=h.mark_le;omega,hl⟩
theorem eZ.mk{l r:Tr}(d:It)(hl:eZ l)(hr:eZ r)(h1:l.mark<=r.mark+1)(h2:r.mark<=l.mark+1):eZ (Tr.mk l d r):=⟨hl,hr,rfl,h1,h2⟩
theorem ey(l:Tr)(d:It)(r:Tr):(mk l d r).mark=max l.mark r.mark+1:=rfl
theorem eZ.pos {t:Tr}(h:eZ t)(hm:0<t.mark):∃l d r,t=Tr.mk l d r/\eZ l/\eZ r/\l.mark<=r.mark+1/\r.mark<=l.mark+1:=by
 cases t with
 | nil=>exact absurd hm (by simp[mark])
 | node l d m r=>
  obtain⟨h1,h2,h3,h4,h5⟩:=h;exact⟨l,d,r,by unfold Tr.mk;rw[h3],h1,h2,h4,h5⟩
structure lF (S S':St) (o:Nat->Nat) (hs:List Nat) (t:Tr):Prop where
 fit:Fw S' o
 at':At S' t
 other:∀h',h'∉hs->reco S' h'=reco S h'
 grew:ej S S' 0 0
theorem qOaaf{P:Prop}(h:P:=by
 rw[show (mk a e b).root=e.h from rfl,g2];simp only[nd];rw[k3,k4];simp only;rw[if_neg c2,e1]
 rfl):P:=h
theorem qOaad{P:Prop}(h:P:=by
 ·intro z1 z2;simp only[ey] at z1 z2;omega):P:=h
theorem qOaac{P:Prop}(h:P:=by
 intro y hy;have y1:y≠d.h:=fun e=>hy (e▸a5);have y2:y≠e.h:=fun e=>hy (e▸a6);have y3:y≠x.h:=fun e=>hy (e▸bj);exact(o3 y y1 y3).trans ((o2 y y1).trans (o1 y y2 y3))):P:=h
theorem tJ(hf:Fw S o){l r:Tr}{d:It}(h:At S (mk l d r))(hd:(mk l d r).hs.Nodup)(bl:eZ l)(br:eZ r)(hc:(mk l d r).its.length<10000)(q1:l.mark<=r.mark+2)(q2:r.mark<=l.mark+2):
 ∃t S',balM S d.h=some (t.root,S')/\lF S S' o (mk l d r).hs t/\eZ t/\t.its=(mk l d r).its/\t.mark<=max l.mark r.mark+1/\max l.mark r.mark<=t.mark/\(l.mark<=r.mark+1->r.mark<=l.mark+1->t.mark=max l.mark r.mark+1):=by
 have ai:l.its.length<10000/\r.its.length<10000:=by rw[el] at hc;simp at hc;omega
 have sl:=bl.sm ai.1;have sr:=br.sm ai.2;have g1:=gw hf h.1;have k1:=h.2.1.height hf (by have:=sl.1;omega);have k2:=h.2.2.height hf (by have:=sr.1;omega)
 by_cases c1:r.mark+1<l.mark
 ·obtain⟨a,e,b,rfl,ba,bb,a8,a9⟩:=bl.pos (by omega);rw[ey] at c1 q1 q2;have al:a.its.length<10000/\b.its.length<10000:=by rw[el] at ai;simp at ai;omega
  have sa:=ba.sm al.1;have sb:=bb.sm al.2;have hl:=h.2.1;have g2:=gw hf hl.1;have k3:=hl.2.1.height hf (by have:=sa.1;omega);have k4:=hl.2.2.height hf (by have:=sb.1;omega);have a5:d.h∈(mk (mk a e b) d r).hs:=by rw[show (mk (mk a e b) d r).hs=(mk a e b).hs++d.h::r.hs from eY ..];simp
  have a6:e.h∈(mk (mk a e b) d r).hs:=by rw[show (mk (mk a e b) d r).hs=(mk a e b).hs++d.h::r.hs from eY ..,show (mk a e b).hs=a.hs++e.h::b.hs from eY ..];simp
  by_cases c2:a.mark<b.mark
  ·obtain⟨b1,x,b2,rfl,ap,ar,bv,b0⟩:=bb.pos (by omega);rw[ey] at c1 c2 a8 a9 q1 q2;have au:b1.its.length<10000/\b2.its.length<10000:=by have:=al.2;rw[el] at this;simp at this;omega
   have s1:=ap.sm au.1;have s2:=ar.sm au.2;have bj:x.h∈(mk (mk a e (mk b1 x b2)) d r).hs:=by
    rw[show (mk (mk a e (mk b1 x b2)) d r).hs=(mk a e (mk b1 x b2)).hs++d.h::r.hs from eY ..,show (mk a e (mk b1 x b2)).hs=a.hs++e.h::(mk b1 x b2).hs from eY ..,show (mk b1 x b2).hs=b1.hs++x.h::b2.hs from eY ..]
    simp
   have b':(mk a e (mk b1 x b2)).hs.Nodup:=by
    have:=hd;rw[show (mk (mk a e (mk b1 x b2)) d r).hs=(mk a e (mk b1 x b2)).hs++d.h::r.hs from eY ..] at this;exact(aw.1 this).1
   obtain⟨S1,e1,f1,a1,o1,w1⟩:=rq hf hl b' sa s1 s2;have bm:d.h∉(mk a e (mk b1 x b2)).hs:=by
    have:=hd;rw[show (mk (mk a e (mk b1 x b2)) d r).hs=(mk a e (mk b1 x b2)).hs++d.h::r.hs from eY ..] at this;exact fun hm=>(aw.1 this).2.2 _ hm _ (ag ..) rfl
   have a0:(mk (mk a e b1) x b2).hs=(mk a e (mk b1 x b2)).hs:=by unfold hs;simp[el]
   have b8:d.h∉r.hs:=by
    have:=hd;rw[show (mk (mk a e (mk b1 x b2)) d r).hs=(mk a e (mk b1 x b2)).hs++d.h::r.hs from eY ..] at this;exact(aE.1 (aw.1 this).2.1).1
   have bu:∀y,y∈(mk a e (mk b1 x b2)).hs->y≠d.h:=fun y hy e=>bm (e▸hy);have a4:e.h∈(mk a e (mk b1 x b2)).hs:=by rw[show (mk a e (mk b1 x b2)).hs=a.hs++e.h::(mk b1 x b2).hs from eY ..];simp
   have a7:x.h∈(mk a e (mk b1 x b2)).hs:=by rw[show (mk a e (mk b1 x b2)).hs=a.hs++e.h::(mk b1 x b2).hs from eY ..,show (mk b1 x b2).hs=b1.hs++x.h::b2.hs from eY ..];simp
   have bs:∀y∈r.hs,y∉(mk a e (mk b1 x b2)).hs:=by
    have:=hd;rw[show (mk (mk a e (mk b1 x b2)) d r).hs=(mk a e (mk b1 x b2)).hs++d.h::r.hs from eY ..] at this;exact fun y hy hm=>(aw.1 this).2.2 _ hm _ (aj _ hy) rfl
   have ca:At S1 r:=h.2.2.frame fun y hy=>o1 y (fun e=>bs y hy (e▸a4)) (fun e=>bs y hy (e▸a7));obtain⟨S2,e2,f2,a2,o2,w2⟩:=jZ f1 (n:=nd (mk a e (mk b1 x b2)) d (max (mk a e (mk b1 x b2)).mark r.mark+1) r) (d:=d) a1 ca ((o1 _ (fun e=>bu _ a4 e.symm) (fun e=>bu _ a7 e.symm)).trans h.1) rfl rfl rfl rfl
    (by rw[a0];exact bm) b8 (by rw[ey,ey];have:=sa.1;have:=s1.1;have:=s2.1;omega) (by have:=sr.1;omega)
    (by have:(mk (mk a e b1) x b2).its.length=(mk a e (mk b1 x b2)).its.length:=(by simp[el]);omega) (by omega)
   have bc:Sm (mk a e b1):=⟨by rw[ey];have:=(ba.mark_le);have:=ap.mark_le;omega,by have:=ai.1;simp[el] at this⊢;omega⟩;have a':(mk (mk (mk a e b1) x b2) d r).hs.Nodup:=by
    rw[show (mk (mk (mk a e b1) x b2) d r).hs=(mk (mk a e b1) x b2).hs++d.h::r.hs from eY ..,a0,<-show (mk (mk a e (mk b1 x b2)) d r).hs=(mk a e (mk b1 x b2)).hs++d.h::r.hs from eY ..];exact hd
   obtain⟨S3,e3,f3,a3,o3,w3⟩:=sf f2 a2 a' bc s2 sr;refine⟨mk (mk a e b1) x (mk b2 d r),S3,?_,⟨f3,a3,?_,(w1.trans w2).trans w3⟩,?_,?_,?_,?_,?_⟩
   ·unfold balM;rw[g1];simp only[nd];rw[k1,k2];simp only;rw[if_pos (by rw[ey,ey];omega)];rw[show (mk a e (mk b1 x b2)).root=e.h from rfl,g2];simp only[nd];rw[k3,k4];simp only;rw[if_pos (by rw[ey];omega),e1];simp only;have ad:=e2;rw[show (mk (mk a e b1) x b2).root=x.h from rfl] at ad;simp only[nd] at ad;rw[show (mk a e (mk b1 x b2)).root=e.h from rfl] at ad;rw[ad];exact e3
   ·exact qOaac
   ·refine eZ.mk _ (eZ.mk _ ba ap ?_ ?_) (eZ.mk _ ar br ?_ ?_) ?_ ?_<;>(try simp only[ey])<;>omega
   ·simp[el]
   ·simp only[ey];omega
   ·simp only[ey];omega
   exact qOaad
  ·obtain⟨S1,e1,f1,a1,o1,w1⟩:=sf hf h hd sa sb sr;refine⟨mk a e (mk b d r),S1,?_,⟨f1,a1,fun y hy=>o1 y (fun e=>hy (e▸a5)) (fun e=>hy (e▸a6)),w1⟩,?_,?_,?_,?_,?_⟩
   ·unfold balM;rw[g1];simp only[nd];rw[k1,k2];simp only;rw[if_pos (by rw[ey];omega)];exact qOaaf
   ·refine eZ.mk _ ba (eZ.mk _ bb br ?_ ?_) ?_ ?_<;>(try simp only[ey])<;>omega
   ·simp[el]
   ·simp only[ey];omega
   ·simp only[ey];omega
   exact qOaad
 ·by_cases c1':l.mark+1<r.mark
  ·obtain⟨a,e,b,rfl,ba,bb,a8,a9⟩:=br.pos (by omega);rw[ey] at c1 c1' q1 q2;have al:a.its.length<10000/\b.its.length<10000:=by rw[el] at ai;simp at ai;omega
   have sa:=ba.sm al.1;have sb:=bb.sm al.2;have hr:=h.2.2;have g2:=gw hf hr.1;have k3:=hr.2.1.height hf (by have:=sa.1;omega);have k4:=hr.2.2.height hf (by have:=sb.1;omega);have a5:d.h∈(mk l d (mk a e b)).hs:=by rw[show (mk l d (mk a e b)).hs=l.hs++d.h::(mk a e b).hs from eY ..];simp
   have a6:e.h∈(mk l d (mk a e b)).hs:=by rw[show (mk l d (mk a e b)).hs=l.hs++d.h::(mk a e b).hs from eY ..,show (mk a e b).hs=a.hs++e.h::b.hs from eY ..];simp
   by_cases c2:b.mark<a.mark
   ·obtain⟨b1,x,b2,rfl,ap,ar,bv,b0⟩:=ba.pos (by omega);rw[ey] at c1 c1' c2 a8 a9 q1 q2;have au:b1.its.length<10000/\b2.its.length<10000:=by have:=al.1;rw[el] at this;simp at this;omega
    have s1:=ap.sm au.1;have s2:=ar.sm au.2;have bd:(mk l d (mk (mk b1 x b2) e b)).hs=l.hs++d.h::(mk (mk b1 x b2) e b).hs:=eY ..;have bf:(mk (mk b1 x b2) e b).hs=(mk b1 x b2).hs++e.h::b.hs:=eY ..;have bt:(mk b1 x b2).hs=b1.hs++x.h::b2.hs:=eY ..;have bk:=hd;rw[bd] at bk;obtain⟨n1,n2,n3⟩:=aw.1 bk;obtain⟨n4,n5⟩:=aE.1 n2;have bj:x.h∈(mk l d (mk (mk b1 x b2) e b)).hs:=by rw[bd,bf,bt];simp
    have a4:e.h∈(mk (mk b1 x b2) e b).hs:=by rw[bf];simp
    have a7:x.h∈(mk (mk b1 x b2) e b).hs:=by rw[bf,bt];simp
    obtain⟨S1,e1,f1,a1,o1,w1⟩:=sf hf hr n5 s1 s2 sb;have a0:(mk b1 x (mk b2 e b)).hs=(mk (mk b1 x b2) e b).hs:=by unfold hs;simp[el]
    have b4:d.h∉l.hs:=fun hm=>n3 _ hm _ (ag ..) rfl;have bo:∀y∈l.hs,y∉(mk (mk b1 x b2) e b).hs:=fun y hy hm=>n3 _ hy _ (aj _ hm) rfl;have b9:At S1 l:=h.2.1.frame fun y hy=>o1 y (fun e=>bo y hy (e▸a4)) (fun e=>bo y hy (e▸a7));obtain⟨S2,e2,f2,a2,o2,w2⟩:=jZ f1 (n:=nd l d (max l.mark (mk (mk b1 x b2) e b).mark+1) (mk (mk b1 x b2) e b)) (d:=d) b9 a1 ((o1 d.h (fun q=>n4 (q.symm▸a4)) (fun q=>n4 (q.symm▸a7))).trans h.1) rfl rfl rfl rfl
     b4 (by rw[a0];exact n4) (by have:=sl.1;omega) (by rw[ey,ey];have:=sb.1;have:=s1.1;have:=s2.1;omega) (by omega)
     (by have:(mk b1 x (mk b2 e b)).its.length=(mk (mk b1 x b2) e b).its.length:=(by simp[el]);omega)
    have bc:Sm (mk b2 e b):=⟨by rw[ey];have:=ar.mark_le;have:=bb.mark_le;omega,by have:=ai.2;simp[el] at this⊢;omega⟩;have a':(mk l d (mk b1 x (mk b2 e b))).hs.Nodup:=by
     rw[show (mk l d (mk b1 x (mk b2 e b))).hs=l.hs++d.h::(mk b1 x (mk b2 e b)).hs from eY ..,a0,<-bd];exact hd
    obtain⟨S3,e3,f3,a3,o3,w3⟩:=rq f2 a2 a' sl s1 bc;refine⟨mk (mk l d b1) x (mk b2 e b),S3,?_,⟨f3,a3,?_,(w1.trans w2).trans w3⟩,?_,?_,?_,?_,?_⟩
    ·unfold balM;rw[g1];simp only[nd];rw[k1,k2];simp only;rw[if_neg (by rw[ey,ey];omega),if_pos (by rw[ey,ey];omega)];rw[show (mk (mk b1 x b2) e b).root=e.h from rfl,g2];simp only[nd];rw[k3,k4];simp only;rw[if_pos (by rw[ey];omega),e1];simp only;have ad:=e2;rw[show (mk b1 x (mk b2 e b)).root=x.h from rfl] at ad;simp only[nd] at ad;rw[show (mk (mk b1 x b2) e b).root=e.h from rfl] at ad;rw[ad];exact e3
    ·exact qOaac
    ·refine eZ.mk _ (eZ.mk _ bl ap ?_ ?_) (eZ.mk _ ar bb ?_ ?_) ?_ ?_<;>(try simp only[ey])<;>omega
    ·simp[el]
    ·simp only[ey];omega
    ·simp only[ey];omega
    exact qOaad
   ·obtain⟨S1,e1,f1,a1,o1,w1⟩:=rq hf h hd sl sa sb;refine⟨mk (mk l d a) e b,S1,?_,⟨f1,a1,fun y hy=>o1 y (fun e=>hy (e▸a5)) (fun e=>hy (e▸a6)),w1⟩,?_,?_,?_,?_,?_⟩
    ·unfold balM;rw[g1];simp only[nd];rw[k1,k2];simp only;rw[if_neg (by rw[ey];omega),if_pos (by rw[ey];omega)];exact qOaaf
    ·refine eZ.mk _ (eZ.mk _ bl ba ?_ ?_) bb ?_ ?_<;>(try simp only[ey])<;>omega
    ·simp[el]
    ·simp only[ey];omega
    ·simp only[ey];omega
    exact qOaad
  ·refine⟨mk l d r,S,?_,⟨hf,h,fun _ _=>rfl,ej.refl S⟩,eZ.mk _ bl br (by omega) (by omega),rfl,by rw[ey];exact Nat.le_refl _,by rw[ey];omega,fun _ _=>rfl⟩;unfold balM;rw[g1];simp only[nd];rw[k1,k2];simp only;rw[if_neg c1,if_neg c1']
   rfl
end Tr
namespace Tr
theorem eZ.nil_of {t:Tr}(h:eZ t)(hm:t.mark=0):t=nil:=by
 cases t with
 | nil=>rfl
 | node l d m r=>
  obtain⟨_,_,h3,_,_⟩:=h;have h3:m=max l.mark r.mark+1:=h3;have hm:m=0:=hm;omega
theorem rg {d:It}{n:Nd}(hk:n.key=d.kh)(hv:n.val=d.vh):∀(f:Nat) {S:St} {o:Nat->Nat} {l r:Tr} {n0:Nd},Fw S o->At S l->At S r->eZ l->eZ r->reco S d.h=some (eM n0)->n0.key=d.kh->n0.val=d.vh->
 (l.hs++d.h::r.hs).Nodup->l.its.length+r.its.length<9000->max l.mark r.mark<=f->
 ∃t S',joinB n d.h f S l.root r.root=some (t.root,S')/\lF S S' o (l.hs++d.h::r.hs) t/\eZ t/\t.its=l.its++d::r.its/\max l.mark r.mark<=t.mark/\t.mark<=max l.mark r.mark+1
 | 0,S,o,l,r,n0,hf,hl,hr,bl,br,hd,hk0,hv0,hnd,hlen,hm=>by
  obtain rfl:=bl.nil_of (by omega);obtain rfl:=br.nil_of (by omega);obtain⟨S1,e1,f1,a1,o1,w1⟩:=jZ hf hl hr hd hk0 hv0 hk hv (by simp[hs,its]) (by simp[hs,its]) (by decide) (by decide) (by simp[its]) (by simp[its]);refine⟨mk nil d nil,S1,?_,⟨f1,a1,fun y hy=>o1 y fun e=>hy (by rw[e];simp),w1⟩,eZ.mk d trivial trivial (cD _) (cD _),rfl,by rw[ey];omega,by rw[ey];exact Nat.le_refl _⟩;rw[qY,e1];rfl
 | f+1,S,o,l,r,n0,hf,hl,hr,bl,br,hd,hk0,hv0,hnd,hlen,hm=>by
  have sl:=bl.sm (by omega);have sr:=br.sm (by omega);have k1:=hl.height hf (by have:=sl.1;omega);have k2:=hr.height hf (by have:=sr.1;omega);obtain⟨n1,n2,n3⟩:=aw.1 hnd;obtain⟨n4,n5⟩:=aE.1 n2;have a6:d.h∉l.hs:=fun hm=>n3 _ hm _ (ag ..) rfl;rw[qX,k1,k2];simp only;by_cases c1:r.mark+1<l.mark
  ·rw[if_pos c1];obtain⟨a,e,b,rfl,ba,bb,a7,a8⟩:=bl.pos (by omega);rw[ey] at c1 hm;have a4:(mk a e b).hs=a.hs++e.h::b.hs:=eY ..;have au:a.its.length<9000/\b.its.length+r.its.length<9000:=by rw[el] at hlen;simp at hlen;omega
   rw[a4] at n1 n3 a6;obtain⟨m1,m2,m3⟩:=aw.1 n1;obtain⟨m4,m5⟩:=aE.1 m2;simp only[ak,ah,not_or] at a6;have a0:(b.hs++d.h::r.hs).Nodup:=aw.2 ⟨m5,n2,fun x hx y hy=>n3 x (by simp[hx]) y hy⟩;have g1:=gw hf hl.1;obtain⟨t,S1,e1,D1,bt,it,bf,bj⟩:=rg hk hv f hf hl.2.2 hr bb br hd hk0 hv0 a0 au.2 (by omega);have ar:t.hs=b.hs++d.h::r.hs:=by unfold hs;rw[it];simp
   have a':∀y∈a.hs,y∉b.hs++d.h::r.hs:=fun y hy hm=>by
    rcases ak.1 hm with hm | hm
    ·exact m3 _ hy _ (aj _ hm) rfl
    ·exact n3 y (by simp[hy]) y hm rfl
   have ai:e.h∉b.hs++d.h::r.hs:=fun hm=>by
    rcases ak.1 hm with hm | hm
    ·exact m4 hm
    ·exact n3 e.h (by simp) e.h hm rfl
   have a9:e.h∉a.hs:=fun hm=>m3 _ hm _ (ag ..) rfl;have a1:At S1 a:=hl.2.1.frame fun y hy=>D1.other y (a' y hy);have bd:t.its.length<9000:=by rw[it];rw[el] at hlen;simp at hlen⊢;omega
   obtain⟨S2,e2,f2,a2,o2,w2⟩:=jZ D1.fit (n:=nd a e (max a.mark b.mark+1) b) (d:=e) a1 D1.at' ((D1.other _ ai).trans hl.1) rfl rfl rfl rfl a9 (by rw[ar];exact ai)
    (by have:=(ba.sm (by omega)).1;omega) (by have:=(bt.sm (by omega)).1;omega) (by omega) (by omega)
   have al:(mk a e t).hs=(a.hs++e.h::b.hs)++d.h::r.hs:=by rw[show (mk a e t).hs=a.hs++e.h::t.hs from eY ..,ar];simp
   have ap:(mk a e t).its=(a.its++e::b.its)++d::r.its:=by rw[el,it];simp
   have a3:(mk a e t).hs.Nodup:=by rw[al,<-a4];exact hnd
   obtain⟨u,S3,e3,D3,bu,iu,bk,bm,bo⟩:=tJ f2 a2 a3 ba bt (by rw[ap];rw[el] at hlen;simp at hlen⊢;omega) (by omega) (by omega);refine⟨u,S3,?_,⟨D3.fit,D3.at',?_,(D1.grew.trans w2).trans D3.grew⟩,bu,?_,?_,?_⟩
   ·rw[show (mk a e b).root=e.h from rfl,g1];simp only[nd];rw[e1];simp only;have ad:=e2;simp only[nd] at ad;rw[ad];simp only;rw[e3];exact nU (D3.at'.root_lt D3.fit)
   ·intro y hy;rw[a4] at hy;rw[al] at D3;have y1:y≠e.h:=fun e=>hy (by rw[e];simp);refine(D3.other y hy).trans ((o2 y y1).trans (D1.other y fun hm=>hy ?_));rcases ak.1 hm with hm | hm
    ·simp[hm]
    ·rcases ah.1 hm with hm | hm<;>simp[hm]
   ·rw[iu,ap];rfl
   ·rw[ey];omega
   ·rw[ey];omega
  ·rw[if_neg c1];by_cases c2:l.mark+1<r.mark
   ·rw[if_pos c2];obtain⟨a,e,b,rfl,ba,bb,a7,a8⟩:=br.pos (by omega);rw[ey] at c2 hm;have a5:(mk a e b).hs=a.hs++e.h::b.hs:=eY ..;have au:l.its.length+a.its.length<9000/\b.its.length<9000:=by rw[el] at hlen;simp at hlen;omega
    rw[a5] at n5 n4 n3;obtain⟨m1,m2,m3⟩:=aw.1 n5;obtain⟨m4,m5⟩:=aE.1 m2;simp only[ak,ah,not_or] at n4;have a0:(l.hs++d.h::a.hs).Nodup:=aw.2 ⟨n1,aE.2 ⟨n4.1,m1⟩,fun x hx y hy=>n3 x hx y (by rcases ah.1 hy with hy | hy<;>simp[hy])⟩;have g1:=gw hf hr.1;obtain⟨t,S1,e1,D1,bt,it,bf,bj⟩:=rg hk hv f hf hl hr.2.1 bl ba hd hk0 hv0 a0 au.1 (by omega);have ar:t.hs=l.hs++d.h::a.hs:=by unfold hs;rw[it];simp
    have bc:∀y∈b.hs,y∉l.hs++d.h::a.hs:=fun y hy hm=>by
     rcases ak.1 hm with hm | hm
     ·exact n3 y hm y (by simp[hy]) rfl
     ·rcases ah.1 hm with hm | hm
      ·subst hm;exact n4.2.2 hy
      ·exact m3 _ hm _ (aj _ hy) rfl
    have ai:e.h∉l.hs++d.h::a.hs:=fun hm=>by
     rcases ak.1 hm with hm | hm
     ·exact n3 e.h hm e.h (by simp) rfl
     ·rcases ah.1 hm with hm | hm
      ·exact n4.2.1 hm.symm
      ·exact m3 _ hm _ (ag ..) rfl
    have b1:At S1 b:=hr.2.2.frame fun y hy=>D1.other y (bc y hy);have bd:t.its.length<9000:=by rw[it];rw[el] at hlen;simp at hlen⊢;omega
    obtain⟨S2,e2,f2,a2,o2,w2⟩:=jZ D1.fit (n:=nd a e (max a.mark b.mark+1) b) (d:=e) D1.at' b1 ((D1.other _ ai).trans hr.1) rfl rfl rfl rfl (by rw[ar];exact ai) m4
     (by have:=(bt.sm (by omega)).1;omega) (by have:=(bb.sm (by omega)).1;omega) (by omega) (by omega)
    have al:(mk t e b).hs=l.hs++d.h::(a.hs++e.h::b.hs):=by rw[show (mk t e b).hs=t.hs++e.h::b.hs from eY ..,ar];simp
    have ap:(mk t e b).its=l.its++d::(a.its++e::b.its):=by rw[el,it];simp
    have a3:(mk t e b).hs.Nodup:=by rw[al,<-a5];exact hnd
    obtain⟨u,S3,e3,D3,bu,iu,bk,bm,bo⟩:=tJ f2 a2 a3 bt bb (by rw[ap];rw[el] at hlen;simp at hlen⊢;omega) (by omega) (by omega);refine⟨u,S3,?_,⟨D3.fit,D3.at',?_,(D1.grew.trans w2).trans D3.grew⟩,bu,?_,?_,?_⟩
    ·rw[show (mk a e b).root=e.h from rfl,g1];simp only[nd];rw[e1];simp only;have ad:=e2;simp only[nd] at ad;rw[ad];simp only;rw[e3];exact nU (D3.at'.root_lt D3.fit)
    ·intro y hy;rw[a5] at hy;rw[al] at D3;have y1:y≠e.h:=fun e=>hy (by rw[e];simp);refine(D3.other y hy).trans ((o2 y y1).trans (D1.other y fun hm=>hy ?_));rcases ak.1 hm with hm | hm
     ·simp[hm]
     ·rcases ah.1 hm with hm | hm<;>simp[hm]
    ·rw[iu,ap];rfl
    ·rw[ey];omega
    ·rw[ey];omega
   ·rw[if_neg c2];obtain⟨S1,e1,f1,a1,o1,w1⟩:=jZ hf hl hr hd hk0 hv0 hk hv a6 n4 (by have:=sl.1;omega) (by have:=sr.1;omega) (by omega) (by omega);refine⟨mk l d r,S1,by rw[e1];rfl,⟨f1,a1,fun y hy=>o1 y fun e=>hy (by rw[e];simp),w1⟩,eZ.mk d bl br (by omega) (by omega),rfl,by rw[ey];omega,by rw[ey];omega⟩
structure kV (jn:Jn) (Ok:Tr->Prop):Prop where
 nil:Ok nil
 sub:∀{l d m r},Ok (node l d m r)->Ok l/\Ok r
 join:∀{S:St} {o:Nat->Nat} {l r:Tr} {d:It} {n0:Nd},Fw S o->At S l->At S r->Ok l->Ok r->reco S d.h=some (eM n0)->n0.key=d.kh->n0.val=d.vh->
  (l.hs++d.h::r.hs).Nodup->l.its.length+r.its.length<99->
  ∃t S',jn S l.root d.h r.root=some ((t.root,0),S')/\lF S S' o (l.hs++d.h::r.hs) t/\Ok t/\t.its=l.its++d::r.its
theorem va:kV avlJ eZ where
 nil:=trivial
 sub h:=⟨h.1,h.2.1⟩
 join:=by
  intro S o l r d n0 hf hl hr bl br hd hk0 hv0 hnd hlen;obtain⟨t,S',e,D,bt,it,_⟩:=rg (n:=n0) hk0 hv0 100 hf hl hr bl br hd hk0 hv0 hnd (by omega) (by have:=bl.mark_le;have:=br.mark_le;omega);refine⟨t,S',?_,D,bt,it⟩;have ad:=(fL hf hd).1;unfold avlJ;rw[if_neg]
  ·rw[gw hf hd,e];rfl
  ·rw[hl.isT hf,hr.isT hf];have:isT S d.h=true:=by unfold isT;rw[gw hf hd];simp
   rw[this];simp;omega
theorem fX:∀a:List UInt8,Fu a a=0
 | []=>rfl
 | x::a=>by unfold Fu;rw[if_neg (UInt8.lt_irrefl x),if_neg (UInt8.lt_irrefl x)];exact fX a
theorem jL:∀{a b:List UInt8},Fu a b=0->a=b
 | [],[],_=>rfl
 | [],_::_,h=>by unfold Fu at h;omega
 | _::_,[],h=>by unfold Fu at h;omega
 | x::a,y::b,h=>by
  unfold Fu at h;split at h
  ·omega
  ·rename_i h1;split at h
   ·omega
   ·rename_i h2;have:x=y:=UInt8.le_antisymm (dU.1 h2) (dU.1 h1);rw[this,jL h]
theorem ie:∀a b:List UInt8,Fu b a= -Fu a b
 | [],[]=>rfl
 | [],_::_=>rfl
 | _::_,[]=>rfl
 | x::a,y::b=>by
  unfold Fu;by_cases h1:x<y
  ·rw[if_pos h1,if_neg (UInt8.lt_asymm h1),if_pos h1];rfl
  ·by_cases h2:y<x
   ·rw[if_pos h2,if_neg h1,if_pos h2]
   ·rw[if_neg h1,if_neg h2,if_neg h2,if_neg h1];exact ie a b
theorem ig:∀{a b c:List UInt8},Fu a b<0->Fu b c<0->Fu a c<0
 | [],[],_,h,_=>by unfold Fu at h;omega
 | [],_::_,[],_,h=>by unfold Fu at h;omega
 | [],_::_,_::_,_,_=>by unfold Fu;omega
 | _::_,[],_,h,_=>by unfold Fu at h;omega
 | _::_,_::_,[],_,h=>by unfold Fu at h;omega
 | x::a,y::b,z::c,h1,h2=>by
  unfold Fu at h1 h2⊢;by_cases p:x<y
  ·by_cases q:y<z
   ·rw[if_pos (UInt8.lt_trans p q)];omega
   ·rw[if_neg q] at h2;by_cases q':z<y
    ·rw[if_pos q'] at h2;omega
    ·have:y=z:=UInt8.le_antisymm (dU.1 q') (dU.1 q);subst this;rw[if_pos p];omega
  ·rw[if_neg p] at h1;by_cases p':y<x
   ·rw[if_pos p'] at h1;omega
   ·have:x=y:=UInt8.le_antisymm (dU.1 p') (dU.1 p);subst this;rw[if_neg p'] at h1;by_cases q:x<z
    ·rw[if_pos q];omega
    ·rw[if_neg q] at h2⊢;by_cases q':z<x
     ·rw[if_pos q'] at h2;omega
     ·rw[if_neg q'] at h2⊢;exact ig h1 h2
def eU(a b:It):Prop:=Fu a.k b.k<0
structure gu (S:St) (d:It):Prop where
 k:reco S d.kh=some (FK d.k)
 v:reco S d.vh=some (FK d.v)
 lk:d.k.length<=1000
 lv:d.v.length<=1000
theorem At.blob {S:St}{o:Nat->Nat}(hf:Fw S o){t:List UInt8}(ht:t.length<=1000){h:Nat}(hl:reco S h=some (FK t)):gD S h=some t:=by
 unfold gD;rw[jt hf ht hl];rfl
theorem sn {jn:Jn}{Ok:Tr->Prop}(J:kV jn Ok)(key:List UInt8):∀(f:Nat) {S:St} {o:Nat->Nat} {t:Tr},Fw S o->At S t->Ok t->t.hs.Nodup->(∀d∈t.its,gu S d/\d.kh∉t.hs)->t.its.Pairwise eU->t.its.length<=f->t.its.length<99->
 ∃tl m tr S',kr jn key f S t.root=some ((tl.root,m,tr.root),S')/\Fw S' o/\At S' tl/\At S' tr/\Ok tl/\Ok tr/\(∀h',h'∉t.hs->reco S' h'=reco S h')/\ej S S' 0 0/\
  ((m=0/\t.its=tl.its++tr.its)\/(∃d n0,m=d.h/\d.k=key/\t.its=tl.its++d::tr.its/\reco S' d.h=some (eM n0)/\n0.key=d.kh/\n0.val=d.vh))/\(∀d∈tl.its,Fu d.k key<0)/\(∀d∈tr.its,Fu key d.k<0)
 | 0,S,o,t,hf,ht,hok,hnd,hb,hs,hl,hl2=>by
  cases t with
  | nil=>exact⟨nil,0,nil,S,wZ ..,hf,trivial,trivial,J.nil,J.nil,fun _ _=>rfl,ej.refl S,ab ⟨rfl,rfl⟩,by simp[its],by simp[its]⟩
  | node l d m r=>simp[its] at hl
 | f+1,S,o,t,hf,ht,hok,hnd,hb,hs,hl,hl2=>by
  cases t with
  | nil=>exact⟨nil,0,nil,S,by rw[sk];rfl,hf,trivial,trivial,J.nil,J.nil,fun _ _=>rfl,ej.refl S,ab ⟨rfl,rfl⟩,by simp[its],by simp[its]⟩
  | node l d m r=>
   obtain⟨h1,h2,h3⟩:=ht;obtain⟨a9,a'⟩:=J.sub hok;have g1:=gw hf h1;have bt:=(fL hf h1).1;rw[eY] at hnd hb⊢;have bf:=(hb d (by simp[its])).1;have bj:=At.blob hf bf.lk bf.k;have ai:(node l d m r).its=l.its++d::r.its:=rfl;rw[ai] at hs hl hl2⊢;obtain⟨n1,n2,n3⟩:=aw.1 hnd;obtain⟨n4,n5⟩:=aE.1 n2;have bs:d.h∉l.hs:=fun hm=>n3 _ hm _ (ag ..) rfl;obtain⟨s1,s2,s3⟩:=bi.1 hs;obtain⟨s4,s5⟩:=aK.1 s2;simp only[aG,av] at hl hl2;have er:(node l d m r).root=d.h:=rfl;rw[er,sk,if_neg (by omega),g1];simp only[nd];rw[bj];simp only;by_cases c1:Fu key d.k<0
   ·rw[if_pos c1];obtain⟨tl,m',tr,S1,e1,f1,al,ar,ba,bb,o1,w1,hm,a4,a1⟩:=sn J key f hf h2 a9 n1 (fun x hx=>⟨(hb x (by simp[ai,hx])).1,fun hm=>(hb x (by simp[ai,hx])).2 (by simp[hm])⟩) s1 (by omega) (by omega);have a7:∀x∈tr.its,x∈l.its:=fun x hx=>by
     rcases hm with⟨_,e⟩ | ⟨d',_,_,_,e,_⟩<;>rw[e]<;>simp[hx]
    have a8:∀x∈tl.its,x∈l.its:=fun x hx=>by
     rcases hm with⟨_,e⟩ | ⟨d',_,_,_,e,_⟩<;>rw[e]<;>simp[hx]
    have au:∀y∈tr.hs,y∈l.hs:=fun y hy=>by
     obtain⟨x,hx,rfl⟩:=ay.1 hy;exact ay.2 ⟨x,a7 x hx,rfl⟩
    have ap:∀y∈tl.hs,y∈l.hs:=fun y hy=>by
     obtain⟨x,hx,rfl⟩:=ay.1 hy;exact ay.2 ⟨x,a8 x hx,rfl⟩
    have a3:l.hs=tl.hs++tr.hs\/∃x:It,m'=x.h/\l.hs=tl.hs++x.h::tr.hs:=by
     rcases hm with⟨_,e⟩ | ⟨d',_,e0,_,e,_⟩
     ·left;unfold Tr.hs;rw[e];simp
     ·right;exact⟨d',e0,by unfold Tr.hs;rw[e];simp⟩
    have a0:tr.hs.Nodup/\∀y∈tl.hs,y∉tr.hs:=by
     rcases a3 with e | ⟨x,_,e⟩
     ·rw[e] at n1;exact⟨(aw.1 n1).2.1,fun y hy hm=>(aw.1 n1).2.2 _ hy _ hm rfl⟩
     ·rw[e] at n1;exact⟨(aE.1 (aw.1 n1).2.1).2,fun y hy hm=>(aw.1 n1).2.2 _ hy _ (aj _ hm) rfl⟩
    have a5:(tr.hs++d.h::r.hs).Nodup:=aw.2 ⟨a0.1,n2,fun x hx y hy=>n3 x (au x hx) y hy⟩;have bm:At S1 r:=h3.frame fun y hy=>o1 y fun hm=>n3 _ hm _ (aj _ hy) rfl;have bo:tr.its.length<=l.its.length:=by
     rcases hm with⟨_,e⟩ | ⟨d',_,_,_,e,_⟩<;>rw[e]<;>simp<;>omega
    obtain⟨u,S2,e2,D2,bc,iu⟩:=J.join f1 ar bm bb a' ((o1 _ bs).trans h1) rfl rfl a5 (by omega);have a6:∀y∈tl.hs,y∉tr.hs++d.h::r.hs:=fun y hy hm=>by
     rcases ak.1 hm with hm | hm
     ·exact a0.2 y hy hm
     ·exact n3 _ (ap y hy) _ hm rfl
    refine⟨tl,m',u,S2,?_,D2.fit,al.frame fun y hy=>D2.other y (a6 y hy),D2.at',ba,bc,?_,w1.trans D2.grew,?_,a4,?_⟩
    ·rw[e1];simp only;unfold jq;rw[e2];rfl
    ·intro y hy;simp only[ak,ah,not_or] at hy;refine(D2.other y fun hm=>?_).trans (o1 y hy.1);rcases ak.1 hm with hm | hm
     ·exact hy.1 (au y hm)
     ·rcases ah.1 hm with hm | hm
      ·exact hy.2.1 hm
      ·exact hy.2.2 hm
    ·rcases hm with⟨e0,e⟩ | ⟨d',n0,e0,ek,e,q1,q2,q3⟩
     ·left;exact⟨e0,by rw[iu,e];simp⟩
     ·right
      refine⟨d',n0,e0,ek,by rw[iu,e];simp,(D2.other _ fun hm=>?_).trans q1,q2,q3⟩;have ad:d'.h∈l.hs:=ay.2 ⟨d',by rw[e];simp,rfl⟩;rcases ak.1 hm with hm | hm
      ·have:l.hs=tl.hs++d'.h::tr.hs:=by unfold Tr.hs;rw[e];simp
       rw[this] at n1;exact(aE.1 (aw.1 n1).2.1).1 hm
      ·exact n3 _ ad _ hm rfl
    ·intro x hx;rw[iu] at hx;rcases ak.1 hx with hx | hx
     ·exact a1 x hx
     ·rcases ah.1 hx with hx | hx
      ·rw[hx];exact c1
      ·exact ig c1 (s4 x hx)
   ·rw[if_neg c1];by_cases c2:0<Fu key d.k
    ·rw[if_pos c2];have bd:Fu d.k key<0:=by rw[ie];omega
     obtain⟨tl,m',tr,S1,e1,f1,al,ar,ba,bb,o1,w1,hm,a4,a1⟩:=sn J key f hf h3 a' n5 (fun x hx=>⟨(hb x (by simp[ai,hx])).1,fun hm=>(hb x (by simp[ai,hx])).2 (by simp[hm])⟩) s5 (by omega) (by omega);have a7:∀x∈tr.its,x∈r.its:=fun x hx=>by
      rcases hm with⟨_,e⟩ | ⟨d',_,_,_,e,_⟩<;>rw[e]<;>simp[hx]
     have a8:∀x∈tl.its,x∈r.its:=fun x hx=>by
      rcases hm with⟨_,e⟩ | ⟨d',_,_,_,e,_⟩<;>rw[e]<;>simp[hx]
     have au:∀y∈tr.hs,y∈r.hs:=fun y hy=>by
      obtain⟨x,hx,rfl⟩:=ay.1 hy;exact ay.2 ⟨x,a7 x hx,rfl⟩
     have ap:∀y∈tl.hs,y∈r.hs:=fun y hy=>by
      obtain⟨x,hx,rfl⟩:=ay.1 hy;exact ay.2 ⟨x,a8 x hx,rfl⟩
     have a3:r.hs=tl.hs++tr.hs\/∃x:It,m'=x.h/\r.hs=tl.hs++x.h::tr.hs:=by
      rcases hm with⟨_,e⟩ | ⟨d',_,e0,_,e,_⟩
      ·left;unfold Tr.hs;rw[e];simp
      ·right;exact⟨d',e0,by unfold Tr.hs;rw[e];simp⟩
     have a0:tl.hs.Nodup/\∀y∈tl.hs,y∉tr.hs:=by
      rcases a3 with e | ⟨x,_,e⟩
      ·rw[e] at n5;exact⟨(aw.1 n5).1,fun y hy hm=>(aw.1 n5).2.2 _ hy _ hm rfl⟩
      ·rw[e] at n5;exact⟨(aw.1 n5).1,fun y hy hm=>(aw.1 n5).2.2 _ hy _ (aj _ hm) rfl⟩
     have a5:(l.hs++d.h::tl.hs).Nodup:=aw.2 ⟨n1,aE.2 ⟨fun hm=>n4 (ap _ hm),a0.1⟩,fun x hx y hy=>n3 x hx y (by
      rcases ah.1 hy with hy | hy
      ·rw[hy];simp
      ·exact aj _ (ap y hy))⟩
     have bk:At S1 l:=h2.frame fun y hy=>o1 y fun hm=>n3 _ hy _ (aj _ hm) rfl;have bo:tl.its.length<=r.its.length:=by
      rcases hm with⟨_,e⟩ | ⟨d',_,_,_,e,_⟩<;>rw[e]<;>simp
     obtain⟨u,S2,e2,D2,bc,iu⟩:=J.join f1 bk al a9 ba ((o1 _ n4).trans h1) rfl rfl a5 (by omega);have a6:∀y∈tr.hs,y∉l.hs++d.h::tl.hs:=fun y hy hm=>by
      rcases ak.1 hm with hm | hm
      ·exact n3 _ hm _ (aj _ (au y hy)) rfl
      ·rcases ah.1 hm with hm | hm
       ·subst hm;exact n4 (au _ hy)
       ·exact a0.2 y hm hy
     refine⟨u,m',tr,S2,?_,D2.fit,D2.at',ar.frame fun y hy=>D2.other y (a6 y hy),bc,bb,?_,w1.trans D2.grew,?_,?_,a1⟩
     ·rw[e1];simp only;unfold jq;rw[e2];rfl
     ·intro y hy;simp only[ak,ah,not_or] at hy;refine(D2.other y fun hm=>?_).trans (o1 y hy.2.2);rcases ak.1 hm with hm | hm
      ·exact hy.1 hm
      ·rcases ah.1 hm with hm | hm
       ·exact hy.2.1 hm
       ·exact hy.2.2 (ap y hm)
     ·rcases hm with⟨e0,e⟩ | ⟨d',n0,e0,ek,e,q1,q2,q3⟩
      ·left;exact⟨e0,by rw[iu,e];simp⟩
      ·right
       refine⟨d',n0,e0,ek,by rw[iu,e];simp,(D2.other _ fun hm=>?_).trans q1,q2,q3⟩;have ad:d'.h∈r.hs:=ay.2 ⟨d',by rw[e];simp,rfl⟩;rcases ak.1 hm with hm | hm
       ·exact n3 _ hm _ (aj _ ad) rfl
       ·rcases ah.1 hm with hm | hm
        ·rw[hm] at ad;exact n4 ad
        ·have:r.hs=tl.hs++d'.h::tr.hs:=by unfold Tr.hs;rw[e];simp
         rw[this] at n5;exact(aw.1 n5).2.2 _ hm _ (ag ..) rfl
     ·intro x hx;rw[iu] at hx;rcases ak.1 hx with hx | hx
      ·exact ig (s3 x hx d (ag ..)) bd
      ·rcases ah.1 hx with hx | hx
       ·rw[hx];exact bd
       ·exact a4 x hx
    ·rw[if_neg c2];have a2:key=d.k:=jL (by omega);refine⟨l,d.h,r,S,rfl,hf,h2,h3,a9,a',fun _ _=>rfl,ej.refl S,ae ⟨d,_,rfl,a2.symm,rfl,h1,rfl,rfl⟩,?_,?_⟩
     ·intro x hx;rw[a2];exact s3 x hx d (ag ..)
     ·intro x hx;rw[a2];exact s4 x hx
end Tr
