/- Trees balanced by their heights: with: the walk. -/
import Derived.Test.YtcibkdbpicledaaGreatDoorVJe
import Derived.Laws.EntriesVeiled
import Derived.Test.YtcibkdbpicledaaGreatDoorVQx
set_option maxRecDepth 100000
set_option maxHeartbeats 6400000
namespace Go.Proofs.YtcibkdbpicledaaGreatDoor
section
open Go.RowKit Tryz Go.BigFrame Go.Maps Go.WideMaps Lf
variable{S:St}{W:World}{Y:Nat->Prop}{b:Nat}{fr:Nat×Nat}{kind:Nat}{ps:Nat}{t:TypeId}{w:World}
theorem rT(hi:Fv S)(hh:Nat)(n:Nd):Fv (gM S hh n).2:=by
 unfold gM
 split
 ·exact(rV hh _ S 0 hi).1
 ·exact hi
theorem Ht{S S':St}{n:Nd}{h l r:Nat}(hw:fu S n h l r=some S'):∃a b x y,eE S l=some a/\eE S r=some b/\fY S l=some x/\fY S r=some y/\S'=(gM S h { n with left:=l,right:=r,mark:=max a b+1,size:=x+y+1 }).2:=by
 unfold fu at hw
 split at hw
 ·rename_i a b x y h1 h2 h3 h4;exact⟨a,b,x,y,h1,h2,h3,h4,(Option.some.inj hw).symm⟩
 ·cases hw
theorem gX{S S':St}{n:Nd}{h l r:Nat}(hi:Fv S)(hw:fu S n h l r=some S'):Fv S':=by
 obtain⟨_,_,_,_,_,_,_,_,rfl⟩:=Ht hw;exact rT hi _ _
theorem jG{S S':St}(h:Ig w ps S Y)(hi:Fv S)(n:Nd)(hn:ji n)(hh l r:Nat)(hl:hh<2^64)(hll:l<2^64)(hrl:r<2^64)(hw:fu S n hh l r=some S'):
 Ct 247 #[gP n hh,PV ps,Xu l,Xu r] w fun e w'=>e=.returned (Xu hh)/\Ig w' ps S' Y/\Fo Y w w':=by
 obtain⟨a,b,x,y,h1,h2,h3,h4,rfl⟩:=Ht hw;have ha:a<2^62:=by have:=num_some h1;omega
 have hb:b<2^62:=by have:=num_some h2;omega
 have hx:x<2^62:=by have:=num_some h3;omega
 have hy:y<2^62:=by have:=num_some h4;omega
 obtain⟨m,hm⟩:=Ii (max a b);have a3:m<2^62:=by omega
 have a2:max (a:Int) (b:Int)=(m:Int):=by omega
 rw[hm];obtain⟨k0,k1,k2,k3,k4,k5⟩:=n;obtain⟨n0,n1,n2,n3,n4,n5⟩:=hn;simp only at n0 n1 n2 n3 n4 n5;simp only[gP];have ad:=fun W Z (hW:Ig W ps S Z)=>rM hW hi hh hl ⟨k0,k1,l,r,m+1,x+y+1⟩ ⟨n0,n1,hll,hrl,by simp only;omega,by simp only;omega⟩;have a0:eS ⟨k0,k1,l,r,m+1,x+y+1⟩=.agg #[Xu k0,Xu k1,Xu l,Xu r,Xu ((m:Int)+1),Xu ((x:Int)+y+1)]:=by simp[eS]
 rw[a0] at ad;have q0:=heap_alloc_new w (Xa k0 k1 l r k4 k5 hh);have qb:Below w.heap.size w (w.alloc (Xa k0 k1 l r k4 k5 hh)):=(aa _ w).alloc Ih _;have ai:=fun W (hW:Below w.heap.size w W)=>fJ (h.below hW) hi l hll h1;have al:=fun W (hW:Below w.heap.size w W)=>fJ (h.below hW) hi r hrl h2;have ap:=fun W (hW:Below w.heap.size w W)=>kP (h.below hW) hi l hll h3;have ar:=fun W (hW:Below w.heap.size w W)=>kP (h.below hW) hi r hrl h4;have HG:=kq8 ai al ap ar ad h q0 qb;clear ai al ap ar ad h q0 qb h1 h2 h3 h4 hw hm hi a0;go_enter func247,ntmps247;go_wp2_with fail;refine wx (HG.a _ HG.h) fun w1 hb1=>?_;have r1:=(hb1.block w.heap.size (by simp)).trans HG.g;have H1:=kq2 (HG.h.trans (hb1.mono (by simp))) r1;clear hb1 r1;go_wp2_with fail;refine wx (HG.b _ H1.a) fun w2 hb2=>?_;have r2:=(hb2.block w.heap.size (gl H1.b)).trans H1.b;obtain⟨c0,c1,c2,c3,c4,c5,c6⟩:=gG r2;obtain⟨f0,f1,f2,f3,f4,f5,f6⟩:=qI r2;have H2:=kq2 (H1.a.trans (hb2.mono H1.a.size)) r2;clear hb2 r2;go_wp2_with fail;have r3:(w2.setCell ⟨w.heap.size,4,none⟩ (Xu ((m:Int)+1))).heap[w.heap.size]?=some (.cells #[Xu k0,Xu k1,Xu l,Xu r,Xu ((m:Int)+1),Xu k5,Xu hh] 319 (0,0)):=by rw[heap_setCell H2.b];rfl
 have B3:=H2.a.setCell (p:=⟨w.heap.size,4,none⟩) (Nat.le_refl w.heap.size) (Xu ((m:Int)+1));generalize w2.setCell ⟨w.heap.size,4,none⟩ (Xu ((m:Int)+1))=w3 at*;refine wx (HG.c _ B3) fun w4 hb4=>?_;have H4:=kq2 (B3.trans (hb4.mono B3.size)) ((hb4.block w.heap.size (gl r3)).trans r3);clear hb4 r3 B3 c0 c1 c2 c3 c4 c5 c6 f0 f1 f2 f3 f4 f5 f6;go_wp2_with fail;refine wx (HG.d _ H4.a) fun w5 hb5=>?_;have r5:=(hb5.block w.heap.size (gl H4.b)).trans H4.b;obtain⟨c0,c1,c2,c3,c4,c5,c6⟩:=gG r5;obtain⟨f0,f1,f2,f3,f4,f5,f6⟩:=qI r5;have H5:=kq2 (H4.a.trans (hb5.mono H4.a.size)) r5;clear hb5 r5;go_wp2_with fail;have r6:(w5.setCell ⟨w.heap.size,5,none⟩ (Xu ((x:Int)+y+1))).heap[w.heap.size]?=some (.cells #[Xu k0,Xu k1,Xu l,Xu r,Xu ((m:Int)+1),Xu ((x:Int)+y+1),Xu hh] 319 (0,0)):=by rw[heap_setCell H5.b];rfl
 have B6:=H5.a.setCell (p:=⟨w.heap.size,5,none⟩) (Nat.le_refl w.heap.size) (Xu ((x:Int)+y+1));have au:w.heap.size<(w5.setCell ⟨w.heap.size,5,none⟩ (Xu ((x:Int)+y+1))).heap.size:=(gl r6);refine(HG.e _ _ (HG.f.wide B6)).mono ?_;rintro e w7 ⟨rfl,h7,k7⟩;have r7:=(k7.block w.heap.size (ae ⟨Nat.le_refl _,au⟩)).trans r6;have a1:w7.cell? ⟨w.heap.size,6,none⟩=some (Xu hh):=by rw[cell_of_block r7];rfl
 have H7:=kq2 (h7.mono (Z:=Y) fun k hk=>ab hk) ((Fo.of_below B6 HG.f.yl).trans (k7.mono fun k hk=>ab hk));clear h7 k7 r7 r6 B6 au c0 c1 c2 c3 c4 c5 c6 f0 f1 f2 f3 f4 f5 f6;go_wp2_with fail;go_ret;exact⟨rfl,H7.out⟩
def eL(f:FuncId):Value:=.func (.func f) #[] #[]
def j6(kind:Nat)(j c:FuncId):Prop:=∀W,Cb 184 #[Xi kind] W (.tuple #[.agg #[eL j,eL c],.bool true])
def gS(ps:Nat)(j c:FuncId):Value:=.agg #[PV ps,eL j,eL c]
theorem ew{u0 u1:Value}(h:W.heap[b]?=some (.cells #[u0,u1] t fr))(v0 v1:Value):((W.setCell ⟨b,0,none⟩ (v0)).setCell ⟨b,1,none⟩ (v1)).heap[b]?=some (.cells #[v0,v1] t fr):=by
 rw[heap_setCell (heap_setCell h)];rfl
theorem eT{w W:World}(h:Below w.heap.size w W)(hb:w.heap.size<=b)(v0 v1:Value):Below w.heap.size w ((W.setCell ⟨b,0,none⟩ (v0)).setCell ⟨b,1,none⟩ (v1)):=
 (h.setCell (p:=⟨b,0,none⟩) hb _).setCell (p:=⟨b,1,none⟩) hb _
theorem xf{u0 u1 u2:Value}(h:W.heap[b]?=some (.cells #[u0,u1,u2] t fr))(v0 v1 v2:Value):(((W.setCell ⟨b,0,none⟩ (v0)).setCell ⟨b,1,none⟩ (v1)).setCell ⟨b,2,none⟩ (v2)).heap[b]?=some (.cells #[v0,v1,v2] t fr):=by
 rw[heap_setCell (heap_setCell (heap_setCell h))];rfl
theorem xe{w W:World}(h:Below w.heap.size w W)(hb:w.heap.size<=b)(v0 v1 v2:Value):Below w.heap.size w (((W.setCell ⟨b,0,none⟩ (v0)).setCell ⟨b,1,none⟩ (v1)).setCell ⟨b,2,none⟩ (v2)):=
 ((h.setCell (p:=⟨b,0,none⟩) hb _).setCell (p:=⟨b,1,none⟩) hb _).setCell (p:=⟨b,2,none⟩) hb _
theorem E2:j6 1 197 198:=by
 intro W;simp only[eL];go_enter func184,ntmps184;go_wp2_with fail;exact bodyPost_ret (v:=.tuple #[.agg #[.func (.func 197) #[] #[],.func (.func 198) #[] #[]],.bool true]) (by simp[results,f184,go_sem]) rfl ⟨rfl,(aa _ _).alloc Ih _⟩
theorem qVbaa{P:Prop}(h:P:=by
 obtain⟨c0,c1,c2⟩:=fq r2;obtain⟨f0,f1,f2⟩:=uA r2;obtain⟨d0,d1⟩:=Fp q2;have HX:=kq2 r2 B2;clear r2 B2 q2;go_wp2_with fail;have q3:=xf HX.a (PV ps) (.func (.func j) #[] #[]) (.func (.func c) #[] #[]);have B3:=xe HX.b (Nat.le_refl w.heap.size) (PV ps) (.func (.func j) #[] #[]) (.func (.func c) #[] #[]);generalize (((wr.setCell ⟨w.heap.size,0,none⟩ (PV ps)).setCell ⟨w.heap.size,1,none⟩ (.func (.func j) #[] #[])).setCell ⟨w.heap.size,2,none⟩ (.func (.func c) #[] #[]))=W3 at*;obtain⟨e0,e1,e2⟩:=fq q3;exact bodyPost_ret (v:=.tuple #[.agg #[PV ps,.func (.func j) #[] #[],.func (.func c) #[] #[]],Xi 0]) (by simp[results,f164,go_sem,e0,e1,e2]) rfl ⟨rfl,B3⟩):P:=h
theorem yG(h:Ig w ps S Y)(hi:Fv S){j c:FuncId}(hk:j6 kind j c):
 Cb 164 #[PV ps,Xi kind,.string ⟨#[]⟩,.slice none 0 0] w (.tuple #[gS ps j c,Xi 0]):=by
 have q0:=heap_alloc_new w (.cells #[.pointer none,.nilFunc,.nilFunc] 265);have B0:=(aa w.heap.size w).alloc Ih (.cells #[.pointer none,.nilFunc,.nilFunc] 265);have ai:=fB (h.below B0) hi 0 (by omega);rw[fU] at ai;simp only[gS,j6,eL] at hk⊢;have HG:=kq4 ai hk q0 B0;clear ai hk h hi q0 B0;go_enter func164,ntmps164;go_wp2_with fail;refine Jc HG.a ?_;go_wp2_with fail;refine wx (HG.b _) fun w2 hb2=>?_;have ad:=hb2.alloc hb2.size (.cells #[.func (.func j) #[] #[],.func (.func c) #[] #[]] 263);have r2:=(ad.block w.heap.size (by simp)).trans HG.c;have q2:=heap_alloc_new w2 (.cells #[.func (.func j) #[] #[],.func (.func c) #[] #[]] 263);have B2:=HG.d.trans (ad.mono HG.d.size);go_wp2_with fail;generalize w2.alloc (.cells #[.func (.func j) #[] #[],.func (.func c) #[] #[]] 263)=W at*;generalize w2.heap.size=bt at*;have HR:=kq3 r2 B2 q2;clear r2 B2 hb2 ad q2
 go_loopw [15,16,17,40] (fun _ _ _ i wr=>i=Xi 0/\wr=W) (fun _ _ _ _ _=>0)
 case atStart=>exact⟨rfl,rfl⟩
 case round=>
  obtain⟨rfl,rfl⟩:=hrel;obtain⟨r2,B2,q2⟩:=HR.out;exact qVbaa
theorem qVbac{P:Prop}(h:P:=by
 obtain⟨r2,B2,q2,-⟩:=HR.out
 replace B2:=B2.trans (hW.mono B2.size)
 replace r2:=(hW.block _ (gl r2)).trans r2
 replace q2:=(hW.block _ (gl q2)).trans q2
 exact qVbaa):P:=h
theorem yH(h:Ig w ps S Y)(hi:Fv S){j c:FuncId}(hk:j6 kind j c)(a b:Nat)(ha:a<2^64)(hb:b<2^64)(hta:isT S a=true)(htb:isT S b=true)(rb:Nat)(hr:w.heap[rb]?=some (.cells #[Xu a,Xu b] t fr)):
 Cb 164 #[PV ps,Xi kind,.string ⟨#[]⟩,.slice (some ⟨rb,0,none⟩) 2 2] w (.tuple #[gS ps j c,Xi 0]):=by
 have q0:=heap_alloc_new w (.cells #[.pointer none,.nilFunc,.nilFunc] 265);have B0:=(aa w.heap.size w).alloc Ih (.cells #[.pointer none,.nilFunc,.nilFunc] 265);have a6:=fB (h.below B0) hi 0 (by omega);rw[fU] at a6;have ap:=fun W (hW:Below w.heap.size w W)=>iO (h.below hW) hi a ha;have ar:=fun W (hW:Below w.heap.size w W)=>iO (h.below hW) hi b hb;have ai:∀er:Nat,(getNode S a).2=er->(((a:Int) !=0) && ((er:Int) !=0))=false:=fun er he=>by
  unfold isT at hta;simp only[he,Bool.or_eq_true,decide_eq_true_eq] at hta
  rcases hta with e | e<;>simp[e]
 have al:∀er:Nat,(getNode S b).2=er->(((b:Int) !=0) && ((er:Int) !=0))=false:=fun er he=>by
  unfold isT at htb;simp only[he,Bool.or_eq_true,decide_eq_true_eq] at htb
  rcases htb with e | e<;>simp[e]
 obtain⟨⟨⟨a0,a1,a2,a3,a4,a5⟩,ea⟩,a7⟩:∃q,getNode S a=q:=⟨_,rfl⟩;obtain⟨⟨⟨b0,b1,b2,b3,b4,b5⟩,eb⟩,a8⟩:∃q,getNode S b=q:=⟨_,rfl⟩;rw[a7] at ap ai;rw[a8] at ar al;have ai:=ai ea rfl;have al:=al eb rfl;simp only[gS,j6,eL,eS] at hk ap ar⊢;have HG:=kq7 a6 hk q0 B0 ap ar hr;clear a6 hk h hi q0 B0 ap ar hta htb a7 a8 hr;have HZ:=kq2 ai al;clear ai al;go_enter func164,ntmps164;go_wp2_with fail;refine Jc HG.a ?_;go_wp2_with fail;refine wx (HG.b _) fun w2 hb2=>?_;have au:=hb2.alloc hb2.size (.cells #[.func (.func j) #[] #[],.func (.func c) #[] #[]] 263);have r2:=(au.block w.heap.size (by simp)).trans HG.c;have q2:=heap_alloc_new w2 (.cells #[.func (.func j) #[] #[],.func (.func c) #[] #[]] 263);have B2:=HG.d.trans (au.mono HG.d.size);have a9:w.heap.size<w2.heap.size:=by have:=hb2.size;simp at this;omega
 go_wp2_with fail;generalize w2.alloc (.cells #[.func (.func j) #[] #[],.func (.func c) #[] #[]] 263)=W at*;generalize w2.heap.size=bt at*;have HR:=kq4 r2 B2 q2 a9;clear r2 B2 hb2 au q2 a9
 go_loopw [15,16,17,40] (fun _ _ _ i wr=>(i=Xi 0/\Below W.heap.size W wr)\/(i=Xi 1/\Below W.heap.size W wr)\/(i=Xi 2/\Below W.heap.size W wr)) (fun _ _ _ i _=>2-(intOf i).toNat)
 case atStart=>exact ab ⟨rfl,aa _ _⟩
 case round=>
  obtain⟨rfl,hW⟩ | ⟨rfl,hW⟩ | ⟨rfl,hW⟩:=hrel
  ·have ad:=((HR.b.trans (hW.mono HR.b.size)).block rb (gl HG.g)).trans HG.g;obtain⟨c0,c1⟩:=Fp ad;have HW:=If hW;clear hW ad;go_wp2_with fail;refine wx (HG.e _ (HR.b.trans (HW.out.mono HR.b.size))) fun w5 hb5=>?_;have H5:=If ((HW.out.trans (hb5.mono HW.out.size)).alloc (HW.out.trans (hb5.mono HW.out.size)).size (Xd a0 a1 a2 a3 a4 a5));clear hb5;have hz:=HZ.a;go_wp2_with fail
   all_goals exact⟨ae (ab ⟨rfl,H5.out⟩),by simp[intOf]⟩
  ·have ad:=((HR.b.trans (hW.mono HR.b.size)).block rb (gl HG.g)).trans HG.g;obtain⟨c0,c1⟩:=Fp ad;have HW:=If hW;clear hW ad;go_wp2_with fail;refine wx (HG.f _ (HR.b.trans (HW.out.mono HR.b.size))) fun w5 hb5=>?_;have H5:=If ((HW.out.trans (hb5.mono HW.out.size)).alloc (HW.out.trans (hb5.mono HW.out.size)).size (Xd b0 b1 b2 b3 b4 b5));clear hb5;have hz:=HZ.b;go_wp2_with fail
   all_goals exact⟨ae (ae ⟨rfl,H5.out⟩),by simp[intOf]⟩
  ·exact qVbac
theorem xj{u0 u1 u2 u3 u4 u5:Value}(h:W.heap[b]?=some (.cells #[u0,u1,u2,u3,u4,u5] t fr))(v0 v1 v2 v3 v4 v5:Value):((((((W.setCell ⟨b,0,none⟩ (v0)).setCell ⟨b,1,none⟩ (v1)).setCell ⟨b,2,none⟩ (v2)).setCell ⟨b,3,none⟩ (v3)).setCell ⟨b,4,none⟩ (v4)).setCell ⟨b,5,none⟩ (v5)).heap[b]?=some (.cells #[v0,v1,v2,v3,v4,v5] t fr):=by
 rw[heap_setCell (heap_setCell (heap_setCell (heap_setCell (heap_setCell (heap_setCell h)))))];rfl
theorem xh{w W:World}(h:Below w.heap.size w W)(hb:w.heap.size<=b)(v0 v1 v2 v3 v4 v5:Value):Below w.heap.size w ((((((W.setCell ⟨b,0,none⟩ (v0)).setCell ⟨b,1,none⟩ (v1)).setCell ⟨b,2,none⟩ (v2)).setCell ⟨b,3,none⟩ (v3)).setCell ⟨b,4,none⟩ (v4)).setCell ⟨b,5,none⟩ (v5)):=
 (((((h.setCell (p:=⟨b,0,none⟩) hb _).setCell (p:=⟨b,1,none⟩) hb _).setCell (p:=⟨b,2,none⟩) hb _).setCell (p:=⟨b,3,none⟩) hb _).setCell (p:=⟨b,4,none⟩) hb _).setCell (p:=⟨b,5,none⟩) hb _
structure kW (j:FuncId) (jn:Jn):Prop where
 enter:∀(args:Array Value) (w:World),(callFunc j args).run prog w=.ok (.enter j args) w
 inv:∀{S S':St} {l m r:Nat} {R:Nat×Nat},Fv S->jn S l m r=some (R,S')->Fv S'
 lt:∀{S S':St} {l m r:Nat} {R:Nat×Nat},Fv S->l<2^64->m<2^64->r<2^64->jn S l m r=some (R,S')->R.1<2^64
 ok:∀{S S':St} {l m r:Nat} {R:Nat×Nat},jn S l m r=some (R,S')->R.2=0
 call:∀{w:World} {ps:Nat} {S S':St} {Y:Nat->Prop} {l m r:Nat} {R:Nat×Nat},Ig w ps S Y->Fv S->l<2^64->m<2^64->r<2^64->jn S l m r=some (R,S')->
  Ct j #[PV ps,Xu l,Xu m,Xu r] w fun e w'=>e=.returned (.tuple #[Xu R.1,Xi R.2])/\Ig w' ps S' Y/\Fo Y w w'
theorem nW{j:FuncId}{jn:Jn}(hj:kW j jn){S S':St}{l m r x:Nat}(h:jq jn S l m r=some (x,S')):jn S l m r=some ((x,0),S'):=by
 unfold jq at h;obtain⟨⟨⟨a,b⟩,S1⟩,h1,h2⟩:=aC.1 h;have:=hj.ok h1;simp only at this;subst this;simp only[if_true] at h2
 injection h2 with e1 e2
 rw[h1,e1,e2]
theorem qn{S S':St}(h:Ig w ps S Y)(hi:Fv S){j c:FuncId}{jn:Jn}(hj:kW j jn)(l m r:Nat)(hl:l<2^64)(hm:m<2^64)(hr:r<2^64){x:Nat}(hx:jq jn S l m r=some (x,S')):
 Ct 302 #[gS ps j c,Xu l,Xu m,Xu r] w fun e w'=>e=.returned (Xu x)/\Ig w' ps S' Y/\Fo Y w w':=by
 have h1:=nW hj hx;have q0:=heap_alloc_new w (.cells #[PV ps,eL j,eL c] 265);have B0:=(aa w.heap.size w).alloc Ih (.cells #[PV ps,eL j,eL c] 265);have hc:=hj.call (h.below B0) hi hl hm hr h1;simp only[gS,eL] at q0 B0 hc⊢;have ad:=hj.enter;have HG:=kq4 hc B0 q0 h;clear hc q0 B0 h hi hj hx h1;go_enter func302,ntmps302;go_wp2_with fail;refine HG.a.mono ?_;rintro e w1 ⟨rfl,h1,k1⟩;have H1:=kq2 h1 ((Fo.of_below HG.b HG.d.yl).trans k1);clear h1 k1;go_wp2_with fail;go_ret;exact⟨rfl,H1.out⟩
theorem AD(h:Ig w ps S Y)(hi:Fv S){j c:FuncId}(hh:Nat)(hl:hh<2^64){t:List UInt8}(ht:gD S (getNode S hh).1.key=some t):
 Cb 306 #[gS ps j c,Xu hh] w (.tuple #[SV t,eS (getNode S hh).1]):=by
 have ai:=fs h hh;have hg:=fun W (hW:Below w.heap.size w W)=>iO (h.below hW) hi hh hl;obtain⟨⟨⟨k0,k1,k2,k3,k4,k5⟩,er⟩,hE⟩:∃q,getNode S hh=q:=⟨_,rfl⟩;rw[hE] at hg ai ht⊢;unfold gD at ht
 split at ht
 ·cases ht
 rename_i h8;have ht:=Option.some.inj ht;have hb:=fun W (hW:Below w.heap.size w W)=>iz (h.below hW) hi k0 ai.key h8;simp only at hb ht;rw[ht] at hb;generalize (fz S k0).2=eb at*;have q0:=heap_alloc_new w (.cells #[PV ps,eL j,eL c] 265);have B1:=(aa w.heap.size w).alloc Ih (.cells #[PV ps,eL j,eL c] 265);have Bz:=(aa (w.alloc (.cells #[PV ps,eL j,eL c] 265)).heap.size (w.alloc (.cells #[PV ps,eL j,eL c] 265))).alloc Ih (.cells #[Xu 0,Xu 0,Xu 0,Xu 0,Xu 0,Xu 0] 232);have q1:=(Bz.block w.heap.size (by simp)).trans q0;have z1:=heap_alloc_new (w.alloc (.cells #[PV ps,eL j,eL c] 265)) (.cells #[Xu 0,Xu 0,Xu 0,Xu 0,Xu 0,Xu 0] 232);have B0:=B1.trans (Bz.mono B1.size);simp only[World.size_alloc] at z1;simp only[gS,eL,eS] at B0 hg q1 z1⊢;have HG:=kq5 hg hb B0 q1 z1;clear hg hb B0 h hi ai hE ht h8 q0 q1 B1 Bz z1;go_enter func306,ntmps306;go_wp2_with fail;refine wx (HG.a _ HG.c) fun w1 hb1=>?_;have ad:=hb1.alloc hb1.size (Xd k0 k1 k2 k3 k4 k5);have q2:=heap_alloc_new w1 (Xd k0 k1 k2 k3 k4 k5);have r2:=(ad.block w.heap.size (by simp;omega)).trans HG.d;have z2:=(ad.block (w.heap.size+1) (by simp)).trans HG.e;obtain⟨c0,c1,c2⟩:=fq r2;have H2:=kq3 (HG.c.trans (ad.mono HG.c.size)) q2 z2;clear hb1 ad q2 r2 z2;go_wp2_with fail;refine wx (HG.b _ H2.a) fun w3 hb3=>?_;have q3:=(hb3.block _ (gl H2.b)).trans H2.b;have z3:=(hb3.block _ (gl H2.c)).trans H2.c;obtain⟨d0,d1,d2,d3,d4,d5⟩:=ia q3;obtain⟨e0,e1,e2,e3,e4,e5⟩:=ia z3;obtain⟨f0,f1,f2,f3,f4,f5⟩:=lP z3;have H3:=kq2 (H2.a.trans (hb3.mono H2.a.size)) z3;clear hb3 q3 z3;go_wp2_with fail
 go_region
 go_wp2_with fail;have q6:((((((w3.setCell ⟨(w.heap.size+1),0,none⟩ (Xu k0)).setCell ⟨(w.heap.size+1),1,none⟩ (Xu k1)).setCell ⟨(w.heap.size+1),2,none⟩ (Xu k2)).setCell ⟨(w.heap.size+1),3,none⟩ (Xu k3)).setCell ⟨(w.heap.size+1),4,none⟩ (Xu k4)).setCell ⟨(w.heap.size+1),5,none⟩ (Xu k5)).drew.heap[w.heap.size+1]?=_:=xj H3.b (Xu k0) (Xu k1) (Xu k2) (Xu k3) (Xu k4) (Xu k5);have B6:=(xh H3.a (bJ w.heap.size) (Xu k0) (Xu k1) (Xu k2) (Xu k3) (Xu k4) (Xu k5)).drew;generalize ((((((w3.setCell ⟨(w.heap.size+1),0,none⟩ (Xu k0)).setCell ⟨(w.heap.size+1),1,none⟩ (Xu k1)).setCell ⟨(w.heap.size+1),2,none⟩ (Xu k2)).setCell ⟨(w.heap.size+1),3,none⟩ (Xu k3)).setCell ⟨(w.heap.size+1),4,none⟩ (Xu k4)).setCell ⟨(w.heap.size+1),5,none⟩ (Xu k5)).drew=W6 at*;obtain⟨g0,g1,g2,g3,g4,g5⟩:=ia q6;exact bodyPost_ret (v:=.tuple #[SV t,.agg #[Xu k0,Xu k1,Xu k2,Xu k3,Xu k4,Xu k5]]) (by simp[results,f306,go_sem,g0,g1,g2,g3,g4,g5]) rfl ⟨rfl,B6⟩
theorem uf{j c:FuncId}{jn:Jn}(hjn:kW j jn)(key:List UInt8):∀(f d:Nat),d+f=200->∀{w:World} {S S':St} {Y:Nat->Prop} {root l m r:Nat},Ig w ps S Y->Fv S->root<2^64->
 kr jn key f S root=some ((l,m,r),S')->
 (Ct 301 #[gS ps j c,Xu root,SV key,Xi d] w fun e w'=>e=.returned (.tuple #[Xu l,Xu m,Xu r])/\Ig w' ps S' Y/\Fo Y w w')/\Fv S'/\l<2^64/\m<2^64/\r<2^64:=by
 intro f;induction f with
 | zero=>
  intro d hd w S S' Y root l m r h hi hl hs;obtain rfl:d=200:=by omega
  rw[wZ] at hs;have hs:=Option.some.inj hs;injection hs with e1 e2
  injection e1 with e1 e3
  injection e3 with e3 e4
  subst e1 e2 e3 e4;refine⟨?_,hi,by decide,by decide,by decide⟩;have HG:=kq2 (h.below ((aa w.heap.size w).alloc Ih (.cells #[PV ps,.func (.func j) #[] #[],.func (.func c) #[] #[]] 265))) (h.keep ((aa w.heap.size w).alloc Ih (.cells #[PV ps,.func (.func j) #[] #[],.func (.func c) #[] #[]] 265)));simp only[gS,eL];clear h hi hd hjn;go_enter func301,ntmps301;go_wp2_with fail;all_goals (go_ret3;exact⟨rfl,HG.out⟩)
 | succ f ih=>
  intro d hd w S S' Y root l m r h hi hl hs;rw[sk] at hs;split at hs
  ·rename_i h0;subst h0;have hs:=Option.some.inj hs;injection hs with e1 e2
   injection e1 with e1 e3
   injection e3 with e3 e4
   subst e1 e2 e3 e4;refine⟨?_,hi,by decide,by decide,by decide⟩;have HG:=kq2 (h.below ((aa w.heap.size w).alloc Ih (.cells #[PV ps,.func (.func j) #[] #[],.func (.func c) #[] #[]] 265))) (h.keep ((aa w.heap.size w).alloc Ih (.cells #[PV ps,.func (.func j) #[] #[],.func (.func c) #[] #[]] 265)));simp only[gS,eL];clear h hi hd hjn ih;go_enter func301,ntmps301;go_wp2_with fail;all_goals (go_ret3;exact⟨rfl,HG.out⟩)
  ·rename_i h0;split at hs
   ·cases hs
   rename_i k hk;have hq:((root:Int)==0)=false:=by simp;omega
   have bc:((d:Int)==200)=false:=by simp;omega
   have bd:IntKind.i64.wrap ((d:Int)+1)=(d:Int)+1:=aD _ (by omega);have ad:=fs h root;have q0:=heap_alloc_new w (.cells #[PV ps,eL j,eL c] 265);have B0:=(aa w.heap.size w).alloc Ih (.cells #[PV ps,eL j,eL c] 265);have ap:=fun W (hW:Below w.heap.size w W)=>AD (j:=j) (c:=c) (h.below hW) hi root hl hk;have a6:=fun W=>sT key k W;split at hs
   ·rename_i hc;have ba:(Fu key k<0)=True:=eq_true hc;split at hs
    ·cases hs
    rename_i l1 m1 r1 S1 h1;obtain⟨⟨x,S2⟩,a0,he⟩:=aC.1 hs;injection he with e1 e2
    injection e1 with e1 e3
    injection e3 with e3 e4
    simp only at e1 e3 e4 a0;subst e1 e2 e3 e4;have al:=fun W Z (hW:Ig W ps S Z)=>(ih (d+1) (by omega) hW hi ad.left h1).1;obtain⟨-,au,a2,a7,a4⟩:=ih (d+1) (by omega) h hi ad.left h1;have a5:=nW hjn a0;have ai:=fun W Z (hW:Ig W ps S1 Z)=>qn (c:=c) hW au hjn r1 root (getNode S root).1.right a4 hl ad.right a0;refine⟨?_,hjn.inv au a5,a2,a7,(by have q:=hjn.lt au (by first | exact hl | exact a4 | exact ad.right) (by first | exact hl | exact a4 | exact ad.right) (by first | exact hl | exact a4 | exact ad.right) a5;exact q)⟩;obtain⟨⟨⟨k0,k1,k2,k3,k4,k5⟩,er⟩,hE⟩:∃q,getNode S root=q:=⟨_,rfl⟩;rw[hE] at ap ad al ai;simp only at ad al ai;simp only[gS,eL,eS] at q0 B0 ap al ai⊢;have HG:=kq7 ap a6 q0 B0 al ai h;clear ap a6 q0 B0 al ai h hi hE hk h1 hs a0 au hjn ih hd h0 ad a2 a7 a4 a5 hl;go_enter func301,ntmps301;go_wp2_with fail;refine wx (HG.a _ HG.d) fun w1 hb1=>?_;have ar:=hb1.alloc hb1.size (Xd k0 k1 k2 k3 k4 k5);have q2:=heap_alloc_new w1 (Xd k0 k1 k2 k3 k4 k5);have r2:=(ar.block w.heap.size (by simp)).trans HG.c;have a3:w.heap.size<=w1.heap.size:=by have:=hb1.size;simp at this;omega
    have B2:=HG.d.trans (ar.mono HG.d.size);go_wp2_with fail;generalize w1.alloc (Xd k0 k1 k2 k3 k4 k5)=W at*;generalize w1.heap.size=b12 at*;refine Jc (HG.b _) ?_;obtain⟨c0,c1,c2⟩:=fq r2;obtain⟨d0,d1,d2,d3,d4,d5⟩:=ia q2;have l8:=(gl r2);have a':=(gl q2);have H2:=kq3 B2 r2 q2;have a9:=If a3;clear hb1 ar q2 r2 B2 a3;go_wp2_with fail;refine(HG.e _ _ (HG.g.wide H2.a)).mono ?_;rintro e w3 ⟨rfl,h3,a1⟩;have r3:=(a1.block w.heap.size (ae ⟨Nat.le_refl _,l8⟩)).trans H2.b;have q3:=(a1.block b12 (ae ⟨a9.out,a'⟩)).trans H2.c;obtain⟨e0,e1,e2⟩:=fq r3;obtain⟨g0,g1,g2,g3,g4,g5⟩:=ia q3;have H3:=kq2 h3 a1;clear h3 a1 r3 q3 c0 c1 c2 d0 d1 d2 d3 d4 d5;go_wp2_with fail;refine(HG.f _ _ H3.a).mono ?_;rintro e w4 ⟨rfl,h4,a8⟩;have H4:=kq2 (h4.mono (Z:=Y) fun k hk=>ab hk) ((Fo.of_below H2.a HG.g.yl).trans ((H3.b.trans a8).mono fun k hk=>ab hk));clear h4 a8 e0 e1 e2 g0 g1 g2 g3 g4 g5;go_wp2_with fail;go_ret3;exact⟨rfl,H4.out⟩
   ·rename_i hc;split at hs
    ·rename_i hc2;have ba:(Fu key k<0)=False:=eq_false hc;have bb:(0<Fu key k)=True:=eq_true hc2;split at hs
     ·cases hs
     rename_i l1 m1 r1 S1 h1;obtain⟨⟨x,S2⟩,a0,he⟩:=aC.1 hs;injection he with e1 e2
     injection e1 with e1 e3
     injection e3 with e3 e4
     simp only at e1 e3 e4 a0;subst e1 e2 e3 e4;have al:=fun W Z (hW:Ig W ps S Z)=>(ih (d+1) (by omega) hW hi ad.right h1).1;obtain⟨-,au,a2,a7,a4⟩:=ih (d+1) (by omega) h hi ad.right h1;have a5:=nW hjn a0;have ai:=fun W Z (hW:Ig W ps S1 Z)=>qn (c:=c) hW au hjn (getNode S root).1.left root l1 ad.left hl a2 a0;refine⟨?_,hjn.inv au a5,(by have q:=hjn.lt au (by first | exact hl | exact a2 | exact ad.left) (by first | exact hl | exact a2 | exact ad.left) (by first | exact hl | exact a2 | exact ad.left) a5;exact q),a7,a4⟩;obtain⟨⟨⟨k0,k1,k2,k3,k4,k5⟩,er⟩,hE⟩:∃q,getNode S root=q:=⟨_,rfl⟩;rw[hE] at ap ad al ai;simp only at ad al ai;simp only[gS,eL,eS] at q0 B0 ap al ai⊢;have HG:=kq7 ap a6 q0 B0 al ai h;clear ap a6 q0 B0 al ai h hi hE hk h1 hs a0 au hjn ih hd h0 ad a2 a7 a4 a5 hl;go_enter func301,ntmps301;go_wp2_with fail;refine wx (HG.a _ HG.d) fun w1 hb1=>?_;have ar:=hb1.alloc hb1.size (Xd k0 k1 k2 k3 k4 k5);have q2:=heap_alloc_new w1 (Xd k0 k1 k2 k3 k4 k5);have r2:=(ar.block w.heap.size (by simp)).trans HG.c;have a3:w.heap.size<=w1.heap.size:=by have:=hb1.size;simp at this;omega
     have B2:=HG.d.trans (ar.mono HG.d.size);go_wp2_with fail;generalize w1.alloc (Xd k0 k1 k2 k3 k4 k5)=W at*;generalize w1.heap.size=b12 at*;refine Jc (HG.b _) ?_;obtain⟨c0,c1,c2⟩:=fq r2;obtain⟨d0,d1,d2,d3,d4,d5⟩:=ia q2;have l8:=(gl r2);have a':=(gl q2);have H2:=kq3 B2 r2 q2;have a9:=If a3;clear hb1 ar q2 r2 B2 a3;go_wp2_with fail;refine(HG.e _ _ (HG.g.wide H2.a)).mono ?_;rintro e w3 ⟨rfl,h3,a1⟩;have r3:=(a1.block w.heap.size (ae ⟨Nat.le_refl _,l8⟩)).trans H2.b;have q3:=(a1.block b12 (ae ⟨a9.out,a'⟩)).trans H2.c;obtain⟨e0,e1,e2⟩:=fq r3;obtain⟨g0,g1,g2,g3,g4,g5⟩:=ia q3;have H3:=kq2 h3 a1;clear h3 a1 r3 q3 c0 c1 c2 d0 d1 d2 d3 d4 d5;go_wp2_with fail;refine(HG.f _ _ H3.a).mono ?_;rintro e w4 ⟨rfl,h4,a8⟩;have H4:=kq2 (h4.mono (Z:=Y) fun k hk=>ab hk) ((Fo.of_below H2.a HG.g.yl).trans ((H3.b.trans a8).mono fun k hk=>ab hk));clear h4 a8 e0 e1 e2 g0 g1 g2 g3 g4 g5;go_wp2_with fail;go_ret3;exact⟨rfl,H4.out⟩
    ·rename_i hc2;have ba:(Fu key k<0)=False:=eq_false hc;have bb:(0<Fu key k)=False:=eq_false hc2;have hs:=Option.some.inj hs;injection hs with e1 e2
     injection e1 with e1 e3
     injection e3 with e3 e4
     subst e1 e2 e3 e4;refine⟨?_,hi,ad.left,hl,ad.right⟩;have al:=True.intro;have ai:=True.intro;obtain⟨⟨⟨k0,k1,k2,k3,k4,k5⟩,er⟩,hE⟩:∃q,getNode S root=q:=⟨_,rfl⟩;rw[hE] at ap ad⊢;simp only at ad⊢;simp only[gS,eL,eS] at q0 B0 ap⊢;have HG:=kq5 ap a6 q0 B0 h;clear ap a6 q0 B0 al ai h hi hE hk hjn ih hd h0 ad hl;go_enter func301,ntmps301;go_wp2_with fail;refine wx (HG.a _ HG.d) fun w1 hb1=>?_;have ar:=hb1.alloc hb1.size (Xd k0 k1 k2 k3 k4 k5);have q2:=heap_alloc_new w1 (Xd k0 k1 k2 k3 k4 k5);have r2:=(ar.block w.heap.size (by simp)).trans HG.c;have a3:w.heap.size<=w1.heap.size:=by have:=hb1.size;simp at this;omega
     have B2:=HG.d.trans (ar.mono HG.d.size);go_wp2_with fail;generalize w1.alloc (Xd k0 k1 k2 k3 k4 k5)=W at*;generalize w1.heap.size=b12 at*;refine Jc (HG.b _) ?_;obtain⟨c0,c1,c2⟩:=fq r2;obtain⟨d0,d1,d2,d3,d4,d5⟩:=ia q2;have l8:=(gl r2);have a':=(gl q2);have H2:=kq3 B2 r2 q2;have a9:=If a3;clear hb1 ar q2 r2 B2 a3;go_wp2_with fail;go_quiet (fail)
     go_wp2_with fail;go_ret3;exact⟨rfl,HG.e.below (H2.a.trans ⟨rfl,rfl,rfl,Nat.le_refl _,fun _ _=>rfl⟩),HG.e.keep (H2.a.trans ⟨rfl,rfl,rfl,Nat.le_refl _,fun _ _=>rfl⟩)⟩
def Lf.insertOkM(jn:Jn)(S:St)(root m:Nat):Option ((Nat×Nat)×St):=
 if isT S root=false\/isT S m=false\/m=0\/(fz S (getNode S m).1.key).2≠0 then none
 else match kr jn (fz S (getNode S m).1.key).1 200 S root with
  | none=>none
  | some ((l,old,r),S1)=>(jq jn S1 l m r).map fun x=>((x.1,old),x.2)
theorem In{S S':St}(h:Ig w ps S Y)(hi:Fv S){j c:FuncId}{jn:Jn}(hjn:kW j jn)(hk:j6 kind j c)(root m:Nat)(hl:root<2^64)(hm:m<2^64){R:Nat×Nat}(hR:insertOkM jn S root m=some (R,S')):
 (Ct 296 #[PV ps,Xi kind,Xu root,Xu m] w fun e w'=>e=.returned (.tuple #[Xu R.1,Xu R.2,Xi 0])/\Ig w' ps S' Y/\Fo Y w w')/\Fv S'/\R.1<2^64/\R.2<2^64:=by
 unfold insertOkM at hR
 split at hR
 ·cases hR
 rename_i hc;simp only[not_or,dQ,da] at hc;obtain⟨t1,t2,m0,a0⟩:=hc
 split at hR
 ·cases hR
 rename_i l old r S1 hs;obtain⟨⟨x,S2⟩,ar,he⟩:=aC.1 hR
 injection he with e1 e2
 simp only at e1 e2 ar;subst e1 e2;have a5:=fs h m;obtain⟨-,ap,ad,hold,ai⟩:=uf (c:=c) hjn _ 200 0 rfl h hi hl hs;have a3:=fun W Z (hW:Ig W ps S Z)=>(uf (c:=c) hjn _ 200 0 rfl hW hi hl hs).1;have a2:=nW hjn ar;have a1:=fun W Z (hW:Ig W ps S1 Z)=>qn (c:=c) hW ap hjn l m r ad hm ai ar;refine⟨?_,hjn.inv ap a2,(by have q:=hjn.lt ap (by first | exact hm | exact ad | exact ai) (by first | exact hm | exact ad | exact ai) (by first | exact hm | exact ad | exact ai) a2;exact q),hold⟩;have hg:=fun W (hW:Below w.heap.size w W)=>iO (h.below hW) hi m hm;have hb:=fun W (hW:Below w.heap.size w W)=>iz (h.below hW) hi (getNode S m).1.key a5.key (by rw[a0];decide);have hw:=fun W (hW:Below w.heap.size w W) rb t fr hrb=>yH (t:=t) (fr:=fr) (h.below hW) hi hk root m hl hm t1 t2 rb hrb;rw[a0] at hb;generalize (fz S (getNode S m).1.key).1=key at*;obtain⟨⟨⟨k0,k1,k2,k3,k4,k5⟩,er⟩,hE⟩:∃q,getNode S m=q:=⟨_,rfl⟩;rw[hE] at hg hb;simp only[gS,eL,eS] at hg hb hw a3 a1⊢;have a8:((m:Int)==0)=false:=by simp;omega
 have HG:=kq6 hg hb hw a3 a1 h;clear hg hb hw a3 a1 h hi hE hjn hk hR t1 t2 m0 a0 hs ar a5 ap ad hold ai a2;go_enter func296,ntmps296;go_wp2_with fail;refine wx (HG.c _ ((aa _ w).alloc Ih _) _ _ _ (heap_alloc_new w _)) fun w1 hb1=>?_;have B1:=((aa w.heap.size w).alloc Ih (.cells #[Xu root,Xu m] 83)).trans (hb1.mono (by simp));have q1:=heap_alloc_new w1 (.cells #[PV ps,.func (.func j) #[] #[],.func (.func c) #[] #[]] 265);have al:=B1.alloc B1.size (.cells #[PV ps,.func (.func j) #[] #[],.func (.func c) #[] #[]] 265);have z1:=B1.size;clear hb1 B1;go_wp2_with fail;generalize w1.alloc (.cells #[PV ps,.func (.func j) #[] #[],.func (.func c) #[] #[]] 265)=W1 at*;generalize w1.heap.size=b11 at*;refine wx (HG.a _ al) fun w2 hb2=>?_;have au:=hb2.alloc hb2.size (Xd k0 k1 k2 k3 k4 k5);have q2:=heap_alloc_new w2 (Xd k0 k1 k2 k3 k4 k5);have r2:=(au.block b11 (gl q1)).trans q1;have B2:=al.trans (au.mono al.size);obtain⟨d0,d1,d2,d3,d4,d5⟩:=ia q2;have H2:=kq3 B2 r2 z1;clear hb2 au q2 r2 B2 al q1 z1;go_wp2_with fail;refine wx (HG.b _ H2.a) fun w3 hb3=>?_;have r3:=(hb3.block b11 (gl H2.b)).trans H2.b;obtain⟨e0,e1,e2⟩:=fq r3;have a7:=(gl r3);have H3:=kq2 (H2.a.trans (hb3.mono H2.a.size)) r3;clear hb3 r3 d0 d1 d2 d3 d4 d5;go_wp2_with fail;refine(HG.d _ _ (HG.f.wide H3.a)).mono ?_;rintro e w4 ⟨rfl,h4,a4⟩;have r4:=(a4.block b11 (ae ⟨H2.c,a7⟩)).trans H3.b;obtain⟨f0,f1,f2⟩:=fq r4;have H4:=kq2 h4 a4;clear h4 a4 r4 e0 e1 e2;go_wp2_with fail;refine(HG.e _ _ H4.a).mono ?_;rintro e w5 ⟨rfl,h5,a6⟩;have H5:=kq2 (h5.mono (Z:=Y) fun k hk=>ab hk) ((Fo.of_below H3.a HG.f.yl).trans ((H4.b.trans a6).mono fun k hk=>ab hk));clear h5 a6 f0 f1 f2;go_wp2_with fail;go_ret3;exact⟨rfl,H5.out⟩
end
section
open Go.RowKit Tryz Go.BigFrame Go.Maps Go.WideMaps Lf
open Go.Shelf
variable{S:St}{Y:Nat->Prop}{ps:Nat}{w:World}
attribute [local go_sem] Oper.semAt_some
theorem xS(h:Ig w ps S Y)(hi:Fv S):
 Cb 221 #[PV ps,Xu 0] w (Xi 0):=by
 have B0:=(aa w.heap.size w).alloc Ih (Xk ps);have B1:=B0.alloc B0.size (.cells #[Xi 0] 30);have ad:=fB (h.below B1) hi 0 (by omega);rw[fU] at ad;have HG:=kq2 ad B1;clear ad h hi B0 B1;go_enter func221,ntmps221;go_wp2_with fail;refine Jc HG.a ?_;go_wp2_with fail;exact bodyPost_ret (v:=Xi 0) (by simp[results,f221,go_sem]) rfl ⟨rfl,HG.b⟩
theorem EY(ps root:Nat)(w:World):
 Ct 167 #[PV ps,Xu root] w fun e w'=>e=.returned (.func (.func 186) #[] #[PV w.heap.size,PV (w.heap.size+1)])/\w'=(w.alloc (Xk ps)).alloc (Xh root):=by
 go_enter func167,ntmps167
 go_wp2
 go_ret;exact⟨rfl,rfl⟩
def AJ(x:Empty):Array Value:=nomatch x
theorem BC(h:Ig w ps S Y)(Bs Br:Nat)(hBs:Bs<w.heap.size/\w.cell? ⟨Bs,0,none⟩=some (PV ps))(hBr:Br<w.heap.size/\w.cell? ⟨Br,0,none⟩=some (Xu 0)):
 SeqStopsK Fence.wide 6 prog 186 #[PV Bs,PV Br] AJ (Below w.heap.size) (fun xs=>xs=[]) (fun _=>True) 0 w:=fun l J Jx W hW hJ hJx hY h0=>by
 have ar:Fence.wide.fn 187:=trivial;have al:CallsIn Fence.wide 5 prog 187 #[PV ps] W _:=callsIn_wide.2 (sX (h.below hW));have hL:1<=limit S/\limit S<=40000:=by have:=nB h;unfold limit;omega
 generalize limit S=L at*;have cs:=(hW.cell (p:=⟨Bs,0,none⟩) hBs.1).trans hBs.2;have cr:=(hW.cell (p:=⟨Br,0,none⟩) hBr.1).trans hBr.2;have HL:=If al;have HJ:=kq5 hJ h0 hW hBs hBr;have ai:=If hW;clear al hW hJ hJx hY h0 hBs hBr h;refine callsIn_of_wp func186 rfl trivial ?_ rfl;simp only[ntmps186,bq,av,aL,Nat.reduceAdd,Nat.reduceSub,aX,aY,bw,bg,aW,aP];gi_wp2_with fail;refine HL.out.mono ?_;rintro e w1 ⟨rfl,ad⟩;have j1:=HJ.a _ _ _ none HJ.b (lf ad) (fun r e=>by cases e);have cs:=(ad.cell (p:=⟨Bs,0,none⟩) (bz HJ.d.1 ai.out.size)).trans cs;have cr:=(ad.cell (p:=⟨Br,0,none⟩) (bz HJ.e.1 ai.out.size)).trans cr;have H1:=If j1;clear HL ad j1;have ap:(0:Int)<L:=by omega
 gi_wp2_with fail;gi_loopw [4,6,7,8,9,10,11] (fun l0 k _ _ _ _ _ wr=>l0=.slice none 0 0/\k=Xi 0/\wr=w1) (fun _ _ _ _ _ _ _ _=>0)
 case atStart=>exact⟨rfl,rfl,rfl⟩
 case round=>
  obtain⟨rfl,rfl,rfl⟩:=hrel;gi_wp2_with fail;gi_loopw [4,6,7,8] (fun l0 k _ _ wr'=>l0=.slice none 0 0/\k=Xi 0/\wr'=wr) (fun _ _ _ _ _=>0)
  case atStart=>exact⟨rfl,rfl,rfl⟩
  case round=>
   obtain⟨rfl,rfl,rfl⟩:=hrel;gi_wp2_with fail;refine bodyPost_ret (results_none rfl _ _ _) rfl ?_;exact⟨⟨_,rfl⟩,.inl ⟨[],rfl,H1.out⟩⟩
theorem E0(h:Ig w ps S Y):
 CallsIn Fence.wide 7 prog 139 #[PV ps,Xu 0] w fun e w'=>e=.returned (.slice none 0 0)/\Below w.heap.size w w':=by
 have h1:1<=7:=by omega
 have ap:Fence.wide.fn 167:=trivial;have ai:∀W,CallsIn Fence.wide 6 prog 167 #[PV ps,Xu 0] W _:=fun W=>callsIn_wide.2 (EY ps 0 W);have HR:=If h;clear h;refine callsIn_of_wp_marks func139 rfl trivial ?_ rfl;simp only[ntmps139,bq,av,aL,Nat.reduceAdd,Nat.reduceSub,aX,aY,bw,bg,aW,aP];gi_wp2_with fail;refine(ai _).mono ?_;rintro e w4 ⟨rfl,rfl⟩;gi_wp2_with fail;have k0:=((Bx.new w (.slice none 0 0) 229).alloc (Xk ps)).alloc (.cells #[Xu 0] 83);have k1:=(Bx.new (w.alloc (.cells #[.slice none 0 0] 229)) (PV ps) 25).alloc (.cells #[Xu 0] 83);have k2:=Bx.new ((w.alloc (.cells #[.slice none 0 0] 229)).alloc (Xk ps)) (Xu 0) 83;have hb:=(((aa w.heap.size w).alloc Ih (.cells #[.slice none 0 0] 229)).alloc (by simp) (Xk ps)).alloc (by simp;omega) (.cells #[Xu 0] 83);simp only[World.size_alloc] at k0 k1 k2;generalize (((w.alloc (.cells #[.slice none 0 0] 229)).alloc (Xk ps)).alloc (.cells #[Xu 0] 83))=W0 at*;refine wpIn_rangeFunc_ownH rfl h1 (gf:=186) (lb:=#[PV (w.heap.size+1),PV (w.heap.size+1+1)]) rfl trivial (enters_of func186 (by kernel_rfl) rfl)
  (BC (HR.out.below hb) _ _ ⟨Cx.lt (show Cx W0 _ 0 _ from k1),k1.1⟩ ⟨Cx.lt (show Cx W0 _ 0 _ from k2),k2.1⟩) (fun h k=>h.trans k) (fun W l o o' h1 h2 h3 h4=>nN W l o o' (by omega) h2 h3 h4) (aa _ _) (fun x=>nomatch x)
  (fun _ W=>Bx W w.heap.size (.slice none 0 0)/\Below w.heap.size w W)
  (fun _ _ _=>False)
  (OwnFrom.and (Own.from (fun s A B row hs hg hr=>hs.kept hg hr) _) (ownFrom_below Ih hb.size))
  (fun cd=>Own.from (fun s A B row hs hg hr=>hs) _)
  ⟨k0,hb⟩
  (fun x _ _=>nomatch x)
  (fun x=>nomatch x)
  ?assign ?body ?done ?stop
 case assign=>exact fun l ad x=>nomatch x
 case body=>exact fun l ad x=>nomatch x
 case done=>
  rintro D ys W hD _ ⟨k0,hB⟩ hK;obtain⟨c1,f1⟩:=id k0;have al:w.heap.size<=D:=aO hb.size hD;have HI:=kq2 hB k0;clear hB k0 k1 k2 hb
  gi_wp2
  refine⟨by simp,.inl ⟨_,_,rfl,run_takeDeferred hK,?_⟩⟩;refine⟨.slice none 0 0,by simp[results,f139,go_sem],rfl,HI.a.trans (nN W D _ _ al hK rfl rfl)⟩
 case stop=>
  rintro D cd ad W hD ar hF;exact hF.elim
theorem sY(h:Ig w ps S Y):
 Cb 139 #[PV ps,Xu 0] w (.slice none 0 0):=callsIn_wide.1 (E0 h)
end
section
open Go.RowKit Tryz Go.BigFrame Go.Maps Go.WideMaps Lf
variable{R:Nat×Nat}{S:St}{Y:Nat->Prop}{fm:FuncId}{fr:Nat×Nat}{kind:Nat}{kv:Value}{ps:Nat}{t:TypeId}{ty:TypeId}{w:World}{x:Nat}{z:Nat}
theorem yT(h:Ig w ps S Y)(hi:Fv S):
 Cb 198 #[PV ps,Xu 0] w (Xi 0):=by
 have hc:=xS h hi;have hl:=fun W (hW:Below w.heap.size w W)=>sY (h.below hW);have HG:=kq2 hc hl;clear hc hl h hi;go_enter func198,ntmps198;go_wp2_with fail;refine wx HG.a fun w1 hb1=>?_;have H1:=If hb1;clear hb1;go_wp2_with fail;refine wx (HG.b _ H1.out) fun w2 hb2=>?_;have H2:=If (H1.out.trans (hb2.mono H1.out.size));clear hb2;go_wp2_with fail
 go_loopw [7,8,9,10,21] (fun _ _ _ _ k wr=>k=Xi 0/\wr=w2) (fun _ _ _ _ _ _=>0)
 case atStart=>exact⟨rfl,rfl⟩
 case round=>
  obtain⟨rfl,rfl⟩:=hrel;go_wp2_with fail;go_ret;exact⟨rfl,H2.out⟩
structure nI (c:FuncId):Prop where
 enter:∀(args:Array Value) (w:World),(callFunc c args).run prog w=.ok (.enter c args) w
 call:∀{w:World} {ps:Nat} {S:St} {Y:Nat->Prop},Ig w ps S Y->Fv S->Ct c #[PV ps,Xu 0] w fun e w'=>e=.returned (Xi 0)/\Below w.heap.size w w'
theorem Ai:nI 198 where
 enter args w:=by go_simp
 call h hi:=yT h hi
theorem Dr(h:Ig w ps S Y)(hi:Fv S){j c:FuncId}(hk:j6 kind j c)(hc:nI c):
 Cb 137 #[PV ps,Xi kind,Xu 0] w (Xi 0):=by
 have ha:=yG h hi hk;have ai:=hc.enter;have ad:=fun W (hW:Below w.heap.size w W)=>hc.call (h.below hW) hi;simp only[gS,eL] at ha;have HG:=kq2 ha ad;clear ha ad h hi hk hc;go_enter func137,ntmps137;go_wp2_with fail;refine wx HG.a fun w1 hb1=>?_;have H1:=If (hb1.alloc hb1.size (.cells #[PV ps,.func (.func j) #[] #[],.func (.func c) #[] #[]] 265));clear hb1;go_wp2_with fail;refine wx (HG.b _ H1.out) fun w2 hb2=>?_;have H2:=If (H1.out.trans (hb2.mono H1.out.size));clear hb2;go_wp2_with fail;go_ret;exact⟨rfl,H2.out⟩
theorem zY(h:Ig w ps S Y)(hi:Fv S)(hk:kind=1\/kind=2)(t:Int):
 Ct 135 #[PV ps,Xi kind,Xi t] w fun e w'=>e=.returned (Xi 0)/\w=w':=by
 have ad:=fB h hi 0 (by omega);rw[fU] at ad;have HG:=If ad;clear ad h hi
 rcases hk with rfl | rfl
 all_goals
  go_enter func135,ntmps135;go_wp2_with fail;refine Jc HG.out ?_;go_wp2_with fail;go_ret;exact⟨rfl,rfl⟩
structure jD (kind:Nat) (j c:FuncId) (jn:Jn):Prop where
 is:kind=1\/kind=2
 way:j6 kind j c
 joins:kW j jn
 checks:nI c
theorem JF(h:Ig w ps S Y)(hi:Fv S){j c:FuncId}{jn:Jn}(hk:jD kind j c jn)(t:Int):
 Cb 107 #[PV ps,Xi kind,Xi t,Xu 0] w (Xi 0):=by
 have ha:=zY h hi hk.is t;have hc:=Dr h hi hk.way hk.checks;have hq:((kind:Int)==3)=false:=by have:=hk.is;simp;omega
 have HG:=kq2 ha hc;clear ha hc h hi hk;go_enter func107,ntmps107;go_wp2_with fail;refine Jc HG.a ?_;go_wp2_with fail;refine wx HG.b fun w2 hb2=>?_;have H2:=If hb2;clear hb2;go_wp2_with fail;go_ret;exact⟨rfl,H2.out⟩
theorem Aa(h:Ig w ps S Y)(hi:Fv S){j c:FuncId}{jn:Jn}(hk:jD kind j c jn)(t:Int):
 Cb 108 #[PV ps,Xi kind,Xi t,Xu 0] w (.tuple #[.slice none 0 0,Xi 0]):=by
 have hc:=JF h hi hk t;have hl:=fun W (hW:Below w.heap.size w W)=>sY (h.below hW);have hq:((kind:Int)==3)=false:=by have:=hk.is;simp;omega
 have HG:=kq2 hc hl;clear hc hl h hi hk;go_enter func108,ntmps108;go_wp2_with fail;refine wx HG.a fun w1 hb1=>?_;have H1:=If hb1;clear hb1;go_wp2_with fail;refine wx (HG.b _ H1.out) fun w2 hb2=>?_;have H2:=If (H1.out.trans (hb2.mono H1.out.size));clear hb2;go_wp2_with fail
 go_loopw [11,13,14,15,41] (fun l0 _ _ _ k wr=>l0=.slice none 0 0/\k=Xi 0/\wr=w2) (fun _ _ _ _ _ _=>0)
 case atStart=>exact⟨rfl,rfl,rfl⟩
 case round=>
  obtain⟨rfl,rfl,rfl⟩:=hrel;go_wp2_with fail
  go_loopw [16,18,19,20,21,22,62] (fun l1 _ _ _ _ _ k wr'=>l1=.slice none 0 0/\k=Xi 0/\wr'=wr) (fun _ _ _ _ _ _ _ _=>0)
  case atStart=>exact⟨rfl,rfl,rfl⟩
  case round=>
   obtain⟨rfl,rfl,rfl⟩:=hrel;go_wp2_with fail;go_ret2;exact⟨rfl,H2.out⟩
theorem EW(h:Ig w ps S Y)(hi:Fv S)(root:Nat)(k:Int)(hk:k<0):
 Ct 292 #[PV ps,Xu root,Xi k] w fun e w'=>e=.returned (.tuple #[Xu 0,Xi 2])/\w=w':=by
 have ad:=fB h hi 0 (by omega);rw[fU] at ad;have HG:=If ad;clear ad h hi;go_enter func292,ntmps292;go_wp2_with fail;refine Jc HG.out ?_;go_wp2_with fail;go_ret2;exact⟨rfl,rfl⟩
theorem EV(h:Ig w ps S Y)(hi:Fv S)(root:Nat)(hl:root<2^64)(k:Nat)(hk:k<2^62)(hR:kD S root k=some R):
 Cb 292 #[PV ps,Xu root,Xi k] w (.tuple #[Xu R.1,Xi R.2]):=by
 have al:=fB h hi 0 (by omega);rw[fU] at al;unfold kD at hR
 cases hz:fY S root with
 | none=>rw[hz] at hR;cases hR
 | some z=>
 rw[hz] at hR;simp only at hR;have bt:z<2^62:=by have:=num_some hz;omega
 have ai:=kP h hi root hl hz
 by_cases hzk:z<=k
 ·rw[if_pos hzk] at hR;have hR:=Option.some.inj hR;have bs:(z:Int)<=k:=by omega
  have HG:=kq3 al ai hR;clear al ai hR h hi hz hzk;go_enter func292,ntmps292;go_wp2_with fail;refine Jc HG.a ?_;go_wp2_with fail;refine wx HG.b fun w1 hb=>?_;have HB:=If hb;clear hb;go_wp2_with fail;go_ret2;obtain rfl:=HG.c;exact⟨rfl,HB.out⟩
 rw[if_neg hzk] at hR;have bs:(k:Int)<z:=by omega
 have bk:=nB h;have hL:limit S<=40000:=by unfold limit;omega
 obtain⟨L,a8⟩:=Ii (limit S);have a1:=fun W (hW:Below w.heap.size w W)=>sX (h.below hW);rw[a8] at a1 hL hR;have bb:=fun hh=>fs h hh;have HG:=kq7 al h hi hR bb ai a1;clear al h hi hR bk a8 bb a1 ai hz hzk;go_enter func292,ntmps292;go_wp2_with fail;refine Jc HG.a ?_;go_wp2_with fail;refine wx HG.f fun w0 hb0=>?_;have ap:=If hb0;clear hb0;go_wp2_with fail;refine wx (HG.g _ ap.out) fun w1 hb1=>?_;have bc:=If (ap.out.trans (hb1.mono ap.out.size));clear hb1;go_wp2_with fail
 go_loopw [1,2,11,12,13,14] (fun r b i _ _ _ wr=>∃f root kk ii:Nat,r=Xu root/\b=Xi kk/\i=Xi ii/\f+ii=L/\root<2^64/\kk<2^62/\Hid (j8 S f root kk=some R/\Below w.heap.size w wr)) (fun _ _ i _ _ _ _=>L-(intOf i).toNat)
 case atStart=>exact⟨L,root,k,0,rfl,rfl,rfl,by omega,hl,hk,HG.d,bc.out⟩
 case round=>
  obtain⟨f,root,kk,ii,rfl,rfl,rfl,hf,bo,bj,ad⟩:=hrel;have bv:ii<=40000:=by omega
  cases f with
  | zero=>
   have b0:ii=L:=by omega
   have a9:R=(0,2):=by have h9:=ad.out.1;rw[yK] at h9;exact(Option.some.inj h9).symm
   have HE:=kq2 a9 ad.out.2;have bu:(L:Int)<=ii:=by omega
   clear a9 ad;go_wp2_with fail;go_ret2;obtain rfl:=HE.a;exact⟨rfl,HE.b⟩
  | succ f=>
   have b1:(ii:Int)<L:=by omega
   have hd:=ad.out.1;rw[tF] at hd;have a0:=HG.b.below ad.out.2;have hg:=iO a0 HG.c root bo;have a5:=HG.e root;obtain⟨⟨nd,er⟩,hE⟩:∃r,getNode S root=r:=⟨_,rfl⟩;rw[hE] at hg a5 hd;simp only at hg a5 hd;obtain⟨k0,k1,k2,k3,k4,k5⟩:=nd;obtain⟨n0,n1,n2,n3,n4,n5⟩:=a5;simp only at n0 n1 n2 n3 n4 n5;have a4:eS ⟨k0,k1,k2,k3,k4,k5⟩=.agg #[Xu k0,Xu k1,Xu k2,Xu k3,Xu k4,Xu k5]:=rfl;rw[a4] at hg
   cases er with
   | succ er=>
    rw[if_pos (by omega)] at hd;have hd:=Option.some.inj hd;have bm:(((er+1:Nat):Int) !=0)=true:=by simp;omega
    obtain⟨g1,a'⟩:=Ii (er+1);rw[a'] at hg bm;have HE:=kq3 hg hd ad.out.2;clear hg hd ad a0 hE a' a4;go_wp2_with fail;refine wx HE.a fun w2 hb2=>?_;have bd:=If ((HE.c.trans (hb2.mono HE.c.size)).alloc (aO HE.c.size hb2.size) (Xd k0 k1 k2 k3 k4 k5));clear hb2;go_wp2_with fail;go_ret2;obtain rfl:=HE.b;exact⟨rfl,bd.out⟩
   | zero=>
    rw[if_neg (by omega)] at hd
    cases hz:fY S k2 with
    | none=>rw[hz] at hd;cases hd
    | some z=>
     rw[hz] at hd;simp only at hd;have bt:z<2^62:=by have:=num_some hz;omega
     have HE:=kq3 hg ad.out.2 hz;clear hg ad a0 hE hz;go_wp2_with fail;refine wx HE.a fun w2 hb2=>?_;have au:=(HE.b.trans (hb2.mono HE.b.size)).alloc (aO HE.b.size hb2.size) (Xd k0 k1 k2 k3 k4 k5);have ai:=kP (HG.b.below au) HG.c k2 n2 HE.c;have hx:=heap_alloc_new w2 (Xd k0 k1 k2 k3 k4 k5);have ba:w2.heap.size<(w2.alloc (Xd k0 k1 k2 k3 k4 k5)).heap.size:=by simp
     have HK:=kq4 ai au hx ba;clear hb2 au ai hx ba a4;go_wp2_with fail;refine wx HK.a fun w3 hb3=>?_;have a7:=HK.b.trans (hb3.mono HK.b.size);have a6:=(hb3.block _ HK.d).trans HK.c;have a2:w3.cell? ⟨w2.heap.size,2,none⟩=some (Xu k2):=by rw[cell_of_block a6];rfl
     have a3:w3.cell? ⟨w2.heap.size,3,none⟩=some (Xu k3):=by rw[cell_of_block a6];rfl
     have ar:=If a7;clear hb3 a7 a6
     by_cases hc:kk<z
     ·rw[if_pos hc] at hd;have bf:(kk:Int)<z:=by omega
      have HD:=If hd;clear hd;go_wp2_with fail;go_roundw
      case rel=>exact⟨f,k2,kk,ii+1,rfl,rfl,by simp,by omega,n2,bj,HD.out,ar.out⟩
      case measure=>simp[intOf];omega
     ·rw[if_neg hc] at hd
      by_cases hc2:z<kk
      ·rw[if_pos hc2] at hd;have bf:(z:Int)<kk:=by omega
       have HD:=If hd;clear hd;go_wp2_with fail;go_roundw
       case rel=>exact⟨f,k3,kk-(z+1),ii+1,rfl,by rw[show ((kk-(z+1):Nat):Int)=(kk:Int)-((z:Int)+1) by omega],by simp,by omega,n3,by omega,HD.out,ar.out⟩
       case measure=>simp[intOf];omega
      ·rw[if_neg hc2] at hd;obtain rfl:kk=z:=by omega
       have hd:=Option.some.inj hd;have HD:=If hd;clear hd;go_wp2_with fail;go_ret2;obtain rfl:=HD.out;exact⟨rfl,ar.out⟩
theorem fA{W:World}{b c:Nat}(h:c≠b)(v0 v1:Value):((W.setCell ⟨b,0,none⟩ (v0)).setCell ⟨b,1,none⟩ (v1)).heap[c]?=W.heap[c]?:=by rw[FB h,FB h]
def fE(ps kind:Nat):Value:=.agg #[PV ps,Xi kind]
def Id(k v:Nat):Value:=.agg #[Xu k,Xu v]
theorem zh(h:Ig w ps S Y)(hi:Fv S)(kind root:Nat)(hl:root<2^64)(hz:fY S root=some z):
 Cb 291 #[fE ps kind,Xu root] w (Xi z):=by
 have B0:=(aa w.heap.size w).alloc Ih (Xf ps kind);have hs:=kP (h.below B0) hi root hl hz;have HG:=kq2 hs B0;clear hs B0 h hi hz;simp only[fE];go_enter func291,ntmps291;go_wp2_with fail;refine wx HG.a fun w1 hb1=>?_;have H1:=If (HG.b.trans (hb1.mono HG.b.size));clear hb1;go_wp2_with fail;go_ret;exact⟨rfl,H1.out⟩
theorem zf(h:Ig w ps S Y)(hi:Fv S)(kind root:Nat)(hl:root<2^64)(k:List UInt8)(hz:oP S root k=some z):
 Cb 289 #[fE ps kind,Xu root,SV k] w (Xi z):=by
 have B0:=(aa w.heap.size w).alloc Ih (Xf ps kind);have hs:=E1 (h.below B0) hi root hl k hz;have HG:=kq2 hs B0;clear hs B0 h hi hz;simp only[fE];go_enter func289,ntmps289;go_wp2_with fail;refine wx HG.a fun w1 hb1=>?_;have H1:=If (HG.b.trans (hb1.mono HG.b.size));clear hb1;go_wp2_with fail;go_ret;exact⟨rfl,H1.out⟩
theorem my(h:Ig w ps S Y)(hi:Fv S)(kind hh:Nat)(hl:hh<2^64):
 Cb 293 #[fE ps kind,Xu hh] w (Id (getNode S hh).1.key (getNode S hh).1.val):=by
 have B1:=(aa w.heap.size w).alloc Ih (Xf ps kind);have B0:=B1.alloc B1.size (.cells #[Xu 0,Xu 0] 137);have z1:=heap_alloc_new (w.alloc (Xf ps kind)) (.cells #[Xu 0,Xu 0] 137);simp only[World.size_alloc] at z1;have hg:=iO (h.below B0) hi hh hl;obtain⟨⟨⟨k0,k1,k2,k3,k4,k5⟩,er⟩,hE⟩:∃q,getNode S hh=q:=⟨_,rfl⟩;rw[hE] at hg⊢;simp only[eS] at hg;have HG:=kq3 hg B0 z1;clear hg B0 B1 h hi hE z1;simp only[fE,Id];go_enter func293,ntmps293;go_wp2_with fail;refine wx HG.a fun w1 hb1=>?_;have ad:=hb1.alloc hb1.size (Xd k0 k1 k2 k3 k4 k5);have q1:=heap_alloc_new w1 (Xd k0 k1 k2 k3 k4 k5);have z1:=(ad.block (w.heap.size+1) (by simp)).trans HG.c;have B1:=HG.b.trans (ad.mono HG.b.size);clear hb1 ad;obtain⟨c0,c1⟩:=Fp z1;obtain⟨f0,f1⟩:=ef z1;have HW:=kq2 B1 z1;clear B1 z1 q1;go_wp2_with fail;have q3:=ew HW.b (Xu k0) (Xu k1);have B3:=eT HW.a (bJ w.heap.size) (Xu k0) (Xu k1);generalize (((w1.alloc (Xd k0 k1 k2 k3 k4 k5)).setCell ⟨(w.heap.size+1),0,none⟩ (Xu k0)).setCell ⟨(w.heap.size+1),1,none⟩ (Xu k1))=W3 at*;obtain⟨e0,e1⟩:=Fp q3;exact bodyPost_ret (v:=.agg #[Xu k0,Xu k1]) (by simp[results,f293,go_sem,e0,e1]) rfl ⟨rfl,B3⟩
theorem tK(h:Ig w ps S Y)(hi:Fv S)(kind root:Nat)(hl:root<2^64)(k:Nat)(hk:k<2^62)(hR:kD S root k=some R)(hR1:R.1<2^64):
 Cb 286 #[fE ps kind,Xu root,Xi k] w (.tuple #[Id (getNode S R.1).1.key (getNode S R.1).1.val,Xi R.2]):=by
 have B1:=(aa w.heap.size w).alloc Ih (Xf ps kind);have q1:=heap_alloc_new w (Xf ps kind);have B0:=B1.alloc B1.size (.cells #[Xu 0,Xu 0] 137);have z1:=heap_alloc_new (w.alloc (Xf ps kind)) (.cells #[Xu 0,Xu 0] 137);have q1:=(((aa (w.alloc (Xf ps kind)).heap.size (w.alloc (Xf ps kind))).alloc Ih (.cells #[Xu 0,Xu 0] 137)).block w.heap.size (by simp)).trans q1;simp only[World.size_alloc] at z1;have ha:=EV (h.below B0) hi root hl k hk hR;have ad:=fun W (hW:Below w.heap.size w W)=>my (h.below hW) hi kind R.1 hR1;simp only[Id,fE] at ad⊢;generalize (getNode S R.1).1.key=k0 at*;generalize (getNode S R.1).1.val=k1 at*;obtain⟨r,er⟩:=R;simp only at ha ad⊢;have HG:=kq5 ha ad B0 z1 q1;clear ha ad B0 B1 h hi hR z1 q1 hR1;go_enter func286,ntmps286;go_wp2_with fail;refine wx HG.a fun w1 hb1=>?_;have z1:=(hb1.block (w.heap.size+1) (by simp)).trans HG.d;have q1:=(hb1.block w.heap.size (by simp;omega)).trans HG.e;obtain⟨c0,c1⟩:=Fp q1;have H1:=kq2 (HG.c.trans (hb1.mono HG.c.size)) z1;clear hb1 z1 q1;go_wp2_with fail;refine wx (HG.b _ H1.a) fun w2 hb2=>?_;have z2:=(hb2.block (w.heap.size+1) (gl H1.b)).trans H1.b;obtain⟨d0,d1⟩:=Fp z2;obtain⟨f0,f1⟩:=ef z2;have HW:=kq2 (H1.a.trans (hb2.mono H1.a.size)) z2;clear hb2 z2 c0 c1;go_wp2_with fail;have q3:=ew HW.b (Xu k0) (Xu k1);have B3:=eT HW.a (bJ w.heap.size) (Xu k0) (Xu k1);generalize ((w2.setCell ⟨(w.heap.size+1),0,none⟩ (Xu k0)).setCell ⟨(w.heap.size+1),1,none⟩ (Xu k1))=W3 at*;obtain⟨e0,e1⟩:=Fp q3;exact bodyPost_ret (v:=.tuple #[.agg #[Xu k0,Xu k1],Xi er]) (by simp[results,f286,go_sem,e0,e1]) rfl ⟨rfl,B3⟩
theorem pO(S:St):fZ S 0=7:=by
 unfold fZ;rw[fU];rfl
theorem qM(S:St):getNode S 0=(Nd.zero,7):=by
 unfold getNode;rw[pO];rfl
theorem zk(h:Ig w ps S Y)(hi:Fv S)(kind:Nat):
 Cb 297 #[fE ps kind,Xu 0] w (.tuple #[Id 0 0,.bool false]):=by
 have B1:=(aa w.heap.size w).alloc Ih (Xf ps kind);have q1:=heap_alloc_new w (Xf ps kind);have B0:=B1.alloc B1.size (.cells #[Xu 0,Xu 0] 137);have z1:=heap_alloc_new (w.alloc (Xf ps kind)) (.cells #[Xu 0,Xu 0] 137);have q1:=(((aa (w.alloc (Xf ps kind)).heap.size (w.alloc (Xf ps kind))).alloc Ih (.cells #[Xu 0,Xu 0] 137)).block w.heap.size (by simp)).trans q1;simp only[World.size_alloc] at z1;have ai:=my (h.below B0) hi kind 0 (by decide);have ar:=fun W (hW:Below w.heap.size w W)=>vT (h.below hW) hi 0 (by decide) (by rw[pO];decide);rw[qM] at ai;rw[pO] at ar;simp only[Id,fE,Nd.zero] at ai⊢;have HG:=kq5 ai ar B0 z1 q1;clear ai ar B0 B1 h hi z1 q1;go_enter func297,ntmps297;go_wp2_with fail;refine wx HG.a fun w1 hb1=>?_;have ad:=hb1.alloc hb1.size (.cells #[Xu 0,Xu 0] 137);have y1:=heap_alloc_new w1 (.cells #[Xu 0,Xu 0] 137);have z1:=(ad.block (w.heap.size+1) (by simp)).trans HG.d;have q1:=(ad.block w.heap.size (by simp;omega)).trans HG.e;have B2:=HG.c.trans (ad.mono HG.c.size);go_wp2_with fail;generalize w1.alloc (.cells #[Xu 0,Xu 0] 137)=W at*;obtain⟨I,al,ap⟩:∃I:World->Prop,(∀w',I w'->w'.heap[w.heap.size]?=some (Xf ps kind)/\w'.heap[w1.heap.size]?=some (.cells #[Xu 0,Xu 0] 137))/\(∀w',w'.heap[w.heap.size]?=some (Xf ps kind)->w'.heap[w1.heap.size]?=some (.cells #[Xu 0,Xu 0] 137)->I w'):=⟨fun w'=>w'.heap[w.heap.size]?=some (Xf ps kind)/\w'.heap[w1.heap.size]?=some (.cells #[Xu 0,Xu 0] 137),fun _ h=>h,fun _ a b=>⟨a,b⟩⟩;have au:=fun x:Fq I=>(al _ x.ok).1;have a0:=fun x:Fq I=>(al _ x.ok).2;obtain⟨a3,a4⟩:=fw au;obtain⟨a5,a6⟩:=fw a0;obtain⟨e0,e1⟩:=Fp z1;obtain⟨f0,f1⟩:=ef z1;have a2:w1.heap.size≠w.heap.size+1:=by have:=hb1.size;simp at this;omega
 have HW:=kq4 B2 z1 q1 y1;have HI:=If ap;have a1:I W.drew:=ap _ q1 y1;clear B2 z1 q1 y1 hb1 ad au a0 al ap;refine nF I [(true,0),(true,1),(true,2),(true,3),(false,4),(true,5),(false,6),(false,7)] (by kernel_rfl) (by kernel_rfl) a1 ?_
 iterate 4
  refine' mT ?_ ?_;rotate_left
  ·intro x;go_simp
   try rfl
  try simp only[pu]
 refine mD fun K hK=>?_;go_simp;refine Jc (HG.b _ HW.a.drew) ?_
 try go_simp
 refine hK.out _ _ (HI.out _ HW.c HW.d) ?_;clear hK K
 try simp only[pu]
 refine' mT ?_ ?_;rotate_left
 ·intro x;go_simp
  try rfl
 try simp only[pu]
 refine mD fun K hK=>?_;go_simp;have q3:((W.setCell ⟨(w.heap.size+1),0,none⟩ (Xu 0)).setCell ⟨(w.heap.size+1),1,none⟩ (Xu 0)).drew.heap[w.heap.size+1]?=_:=ew HW.b (Xu 0) (Xu 0);have B3:=(eT HW.a (bJ w.heap.size) (Xu 0) (Xu 0)).drew;have r3:((W.setCell ⟨(w.heap.size+1),0,none⟩ (Xu 0)).setCell ⟨(w.heap.size+1),1,none⟩ (Xu 0)).drew.heap[w.heap.size]?=_:=(fA (by omega) (Xu 0) (Xu 0)).trans HW.c;have y3:((W.setCell ⟨(w.heap.size+1),0,none⟩ (Xu 0)).setCell ⟨(w.heap.size+1),1,none⟩ (Xu 0)).drew.heap[w1.heap.size]?=_:=(fA a2 (Xu 0) (Xu 0)).trans HW.d;generalize ((W.setCell ⟨(w.heap.size+1),0,none⟩ (Xu 0)).setCell ⟨(w.heap.size+1),1,none⟩ (Xu 0)).drew=W3 at*
 try go_simp
 refine hK.out _ _ (HI.out _ r3 y3) ?_;clear hK K
 try simp only[pu]
 refine mD fun K hK=>?_;go_simp
 try go_simp
 refine hK.out _ _ (HI.out _ r3 y3) ?_;clear hK K
 try simp only[pu]
 refine mX ?_;obtain⟨g0,g1⟩:=Fp q3;clear e0 e1 f0 f1 q3 r3 y3;have HB:=If B3;clear B3;go_wp2_with fail;exact bodyPost_ret (v:=.tuple #[.agg #[Xu 0,Xu 0],.bool false]) (by simp[results,f297,go_sem,g0,g1]) rfl ⟨rfl,HB.out⟩
theorem Ig.write{w w':World}{b:Nat}{cs:Array Value}(h:Ig w ps S Y)(hy:Y b)(hb:w.heap[b]?=some (.cells cs t fr))(ht:t≠130/\t≠177)(hz:cs.size<64)
 (hs:w.heap.size<=w'.heap.size) (hw:∀k,k<w.heap.size->k≠b->w'.heap[k]?=w.heap[k]?):Ig w' ps S Y:=by
 obtain⟨pa,pm,ph,pt,v,h⟩:=h;refine⟨pa,pm,ph,pt,v,h.of_keep hs fun k hk hc=>hw k hk ?_⟩;rintro rfl;rcases hc with hc | rfl | rfl | rfl
 ·exact hc hy
 ·have:=h.hd;rw[hb] at this;injection this with this
  injection this with _ this
  exact ht.1 this
 ·have:=h.heap.hp;rw[hb] at this;injection this with this
  injection this with _ this
  exact ht.2 this
 ·have:=h.heap.tab 63 (by decide);rw[cell_of_block hb,cP (by omega)] at this;cases this
def Lf.binInsM(jn:Jn)(S:St)(root k v:Nat):Option (Nat×St):=
 if(ft S ⟨k,v,0,0,0,1⟩).1.2≠0 then none
 else match insertOkM jn (ft S ⟨k,v,0,0,0,1⟩).2 root (ft S ⟨k,v,0,0,0,1⟩).1.1 with
  | none=>none
  | some ((now,old),S1)=>if old=0 then some (now,S1) else none
theorem y8{jn:Jn}{S S':St}{root k v x:Nat}(h:binInsM jn S root k v=some (x,S')):
 (ft S ⟨k,v,0,0,0,1⟩).1.2=0/\insertOkM jn (ft S ⟨k,v,0,0,0,1⟩).2 root (ft S ⟨k,v,0,0,0,1⟩).1.1=some ((x,0),S'):=by
 unfold binInsM at h
 split at h
 ·cases h
 ·rename_i h0
  split at h
  ·cases h
  ·rename_i now old S1 h1
   split at h
   ·rename_i h2;have h:=Option.some.inj h
    injection h with e1 e2
    subst e1 e2 h2;exact⟨da.1 h0,h1⟩
   ·cases h
theorem Cr(S:St)(n:Nd):(ft S n).1.1=(S.make 6).1.1\/(ft S n).1.1=0:=by
 unfold ft
 split
 ·rename_i h s1 e
  left;rw[e]
 ·right;rfl
theorem vA(hw:iW S.t)(n:Nd):(ft S n).1.1<2^64:=by
 rcases Cr S n with e | e
 ·rw[e];exact oA hw 6
 ·rw[e];decide
theorem vz(hm:iw S 6)(n:Nd):Fv (ft S n).2:=by
 have h2:=hm.2;unfold ft
 split
 ·rename_i h s1 e;rw[e] at h2;exact rT h2 _ _
 ·rename_i e0 h er s1 e;rw[e] at h2;exact h2
theorem zc{S S':St}(h:Ig w ps S Y)(hm:iw S 6){j c:FuncId}{jn:Jn}(hk:jD kind j c jn)(root k v:Nat)(hl:root<2^64)(hkl:k<2^64)(hvl:v<2^64)(hx:binInsM jn S root k v=some (x,S')):
 Ct 288 #[fE ps kind,Xu root,Id k v] w fun e w'=>e=.returned (.tuple #[Xu x,Id 0 0,.bool false,Xi 0])/\Ig w' ps S' Y/\Fo Y w w'/\Fv S'/\x<2^64:=by
 obtain⟨h0,h1⟩:=y8 hx;have ap:=vz hm ⟨k,v,0,0,0,1⟩;have a3:=vA h.tabwf ⟨k,v,0,0,0,1⟩;have ai:=fun W Z (hW:Ig W ps S Z)=>vU hW hm ⟨k,v,0,0,0,1⟩ ⟨hkl,hvl,by simp,by simp,by simp,by simp⟩;generalize ft S ⟨k,v,0,0,0,1⟩=M at*;obtain⟨⟨m,em⟩,S1⟩:=M;simp only at h0 h1 ap a3 ai;subst h0;have a2:=fun W Z (hW:Ig W ps S1 Z)=>In hW ap hk.joins hk.way root m hl a3 h1;have ar:=fun W Z (hi2:Fv S') (hW:Ig W ps S' Z)=>zk hW hi2 kind;simp only[fE,Id,eS] at ai ar⊢;have B1:=(aa w.heap.size w).alloc Ih (Xf ps kind);have q1:=heap_alloc_new w (Xf ps kind);generalize a4:w.alloc (Xf ps kind)=w1 at*;have z1:w1.heap.size=w.heap.size+1:=by rw[<-a4];simp
 have A2:=(aa w1.heap.size w1).alloc Ih (Xe k v);have B2:=B1.alloc B1.size (Xe k v);have q2:=(A2.block w.heap.size (by omega)).trans q1;have z2:(w1.alloc (Xe k v)).heap.size=w.heap.size+2:=by simp[z1]
 generalize a8:w1.alloc (Xe k v)=w2 at*;have A3:=(aa w2.heap.size w2).alloc Ih (.cells #[Xu 0,Xu 0] 137);have q3:=(A3.block w.heap.size (by omega)).trans q2;have B3:=B2.alloc B2.size (.cells #[Xu 0,Xu 0] 137);have y3:=heap_alloc_new w2 (.cells #[Xu 0,Xu 0] 137);rw[z2] at y3;have z3:(w2.alloc (.cells #[Xu 0,Xu 0] 137)).heap.size=w.heap.size+3:=by simp[z2]
 subst a8 a4;have hY:=h.yl;have HG:=kq9 ai a2 ar (h.wide B3) q3 y3 z3 B3 hY;clear ai a2 ar h q1 q2 q3 y3 A2 A3 B1 B2 B3 z1 z2 z3 ap h1 hm hk hY hx;go_enter func288,ntmps288;go_wp2_with fail;refine(HG.a _ _ HG.d).mono ?_;rintro e w4 ⟨rfl,h4,k4⟩;have q4:=(k4.block w.heap.size (ae ⟨Nat.le_refl _,by have:=HG.g;omega⟩)).trans HG.e;have y4:=(k4.block (w.heap.size+2) (ae ⟨by omega,by have:=HG.g;omega⟩)).trans HG.f;obtain⟨c0,c1⟩:=Fp q4;have H4:=kq4 h4 k4 q4 y4;clear h4 k4 q4 y4;go_wp2_with fail;obtain⟨hp,a1,a5,-⟩:=HG.b _ _ H4.a;refine hp.mono ?_;rintro e w5 ⟨rfl,h5,k5⟩;have q5:=(k5.block w.heap.size (ae ⟨Nat.le_refl _,by have:=HG.g;omega⟩)).trans H4.c;have y5:=(k5.block (w.heap.size+2) (ae ⟨by omega,by have:=HG.g;omega⟩)).trans H4.d;obtain⟨d0,d1⟩:=Fp q5;have H5:=kq5 h5 (H4.b.trans k5) a1 a5 y5;clear h5 k5 q5 y5 hp a1 a5 c0 c1;go_wp2_with fail;refine wx (HG.c _ _ H5.c H5.a) fun w6 hb6=>?_;have y6:=(hb6.block (w.heap.size+2) (gl H5.e)).trans H5.e;obtain⟨e0,e1⟩:=Fp y6;obtain⟨f0,f1⟩:=ef y6;have q7:((w6.setCell ⟨(w.heap.size+2),0,none⟩ (Xu 0)).setCell ⟨(w.heap.size+2),1,none⟩ (Xu 0)).heap[w.heap.size+2]?=_:=ew y6 (Xu 0) (Xu 0);have o7:∀k,k≠w.heap.size+2->((w6.setCell ⟨(w.heap.size+2),0,none⟩ (Xu 0)).setCell ⟨(w.heap.size+2),1,none⟩ (Xu 0)).heap[k]?=w6.heap[k]?:=fun k hk=>fA hk _ _;have z7:((w6.setCell ⟨(w.heap.size+2),0,none⟩ (Xu 0)).setCell ⟨(w.heap.size+2),1,none⟩ (Xu 0)).heap.size=w6.heap.size:=by simp
 have s7:((w6.setCell ⟨(w.heap.size+2),0,none⟩ (Xu 0)).setCell ⟨(w.heap.size+2),1,none⟩ (Xu 0)).os=w6.os/\((w6.setCell ⟨(w.heap.size+2),0,none⟩ (Xu 0)).setCell ⟨(w.heap.size+2),1,none⟩ (Xu 0)).tape=w6.tape/\((w6.setCell ⟨(w.heap.size+2),0,none⟩ (Xu 0)).setCell ⟨(w.heap.size+2),1,none⟩ (Xu 0)).output=w6.output:=⟨rfl,rfl,rfl⟩;have a9:∀k,Y k->k<w.heap.size:=HG.i;have h6:=H5.a.below hb6;have k6:=H5.b.trans (H5.a.keep hb6);have H6:=kq9 h6 k6 H5.c H5.d y6 q7 o7 z7 s7;clear hb6 y6 d0 d1 h6 k6 o7 z7 s7 q7;go_wp2_with fail;generalize ((w6.setCell ⟨(w.heap.size+2),0,none⟩ (Xu 0)).setCell ⟨(w.heap.size+2),1,none⟩ (Xu 0))=w7 at*;have q7:=H6.f;obtain⟨I,au,al⟩:∃I:World->Prop,(∀w',I w'->w'.heap[w.heap.size+2]?=some (.cells #[Xu 0,Xu 0] 137))/\(∀w',w'.heap[w.heap.size+2]?=some (.cells #[Xu 0,Xu 0] 137)->I w'):=⟨fun w'=>w'.heap[w.heap.size+2]?=some (.cells #[Xu 0,Xu 0] 137),fun _ h=>h,fun _ a=>a⟩;have a6:=fun x:Fq I=>au _ x.ok;obtain⟨m0,m1⟩:=fw a6;obtain⟨g0,g1⟩:=Fp q7;obtain⟨h0,h1⟩:=ef q7;have HI:=If al;have a7:I w7.drew:=al _ q7;have HQ:=If q7;clear e0 e1 f0 f1 q7 au al a6;refine nF I [(true,0),(true,1),(true,2),(true,3),(false,4),(false,5),(false,6),(false,7)] (by kernel_rfl) (by kernel_rfl) a7 ?_
 iterate 4
  refine' mT ?_ ?_;rotate_left
  ·intro x;go_simp
   try rfl
  try simp only[pu]
 refine mD fun K hK=>?_;go_simp
 try go_simp
 refine hK.out _ _ (HI.out _ HQ.out) ?_;clear hK K
 try simp only[pu]
 refine mD fun K hK=>?_;go_simp;have q8:((w7.setCell ⟨(w.heap.size+2),0,none⟩ (Xu 0)).setCell ⟨(w.heap.size+2),1,none⟩ (Xu 0)).drew.heap[w.heap.size+2]?=_:=ew HQ.out (Xu 0) (Xu 0);have o8:∀k,k≠w.heap.size+2->((w7.setCell ⟨(w.heap.size+2),0,none⟩ (Xu 0)).setCell ⟨(w.heap.size+2),1,none⟩ (Xu 0)).drew.heap[k]?=w7.heap[k]?:=fun k hk=>fA hk _ _;have z8:((w7.setCell ⟨(w.heap.size+2),0,none⟩ (Xu 0)).setCell ⟨(w.heap.size+2),1,none⟩ (Xu 0)).drew.heap.size=w7.heap.size:=by show ((w7.setCell ⟨(w.heap.size+2),0,none⟩ (Xu 0)).setCell ⟨(w.heap.size+2),1,none⟩ (Xu 0)).heap.size=_;simp
 have s8:((w7.setCell ⟨(w.heap.size+2),0,none⟩ (Xu 0)).setCell ⟨(w.heap.size+2),1,none⟩ (Xu 0)).drew.os=w7.os/\((w7.setCell ⟨(w.heap.size+2),0,none⟩ (Xu 0)).setCell ⟨(w.heap.size+2),1,none⟩ (Xu 0)).drew.tape=w7.tape/\((w7.setCell ⟨(w.heap.size+2),0,none⟩ (Xu 0)).setCell ⟨(w.heap.size+2),1,none⟩ (Xu 0)).drew.output=w7.output:=⟨rfl,rfl,rfl⟩;generalize ((w7.setCell ⟨(w.heap.size+2),0,none⟩ (Xu 0)).setCell ⟨(w.heap.size+2),1,none⟩ (Xu 0)).drew=w8 at*
 try go_simp
 refine hK.out _ _ (HI.out _ q8) ?_;clear hK K
 try simp only[pu]
 refine mD fun K hK=>?_;go_simp
 try go_simp
 refine hK.out _ _ (HI.out _ q8) ?_;clear hK K
 try simp only[pu]
 refine mD fun K hK=>?_;go_simp
 try go_simp
 refine hK.out _ _ (HI.out _ q8) ?_;clear hK K
 try simp only[pu]
 refine mX ?_;obtain⟨e0,e1⟩:=Fp q8;have a0:Ig w8 ps S' Y/\Fo Y w w8:=by
  obtain⟨h6,k6,-,-,y6,-,o7,z7,s7⟩:=H6.out;have hY:=HG.i;have hz:=HG.g;have hw:∀k,k≠w.heap.size+2->w8.heap[k]?=w6.heap[k]?:=fun k hk=>(o8 k hk).trans (o7 k hk);refine⟨(h6.write (ae ⟨by omega,by omega⟩) y6 ⟨by decide,by decide⟩ (by simp) (by omega) fun k _ hk=>hw k hk).mono fun k hk=>ab hk,?_⟩;have ad:=(Fo.of_below HG.h hY).trans (k6.mono fun k hk=>ab hk);exact⟨(s8.1.trans s7.1).trans ad.os,(s8.2.1.trans s7.2.1).trans ad.tape,(s8.2.2.trans s7.2.2).trans ad.output,by have:=ad.size;omega,fun k hk=>(hw k (by have:=hY k hk;omega)).trans (ad.block k hk)⟩
 have HF:=If a0;clear a0 q8 o8 z8 s8 g0 g1 h0 h1 m0 m1;go_wp2_with fail;exact bodyPost_ret (v:=.tuple #[Xu x,.agg #[Xu 0,Xu 0],.bool false,Xi 0]) (by simp[results,f288,go_sem,e0,e1]) rfl ⟨rfl,HF.out.1,HF.out.2,H6.c,H6.d⟩
def tt(w:World)(px ps kind root:Nat):Prop:=w.heap[px]?=some (.cells #[PV ps,Xi kind,Xi 0,.iface 185 (fE ps kind),Xu root] 134)
theorem tt.below{w w':World}{px ps kind root:Nat}(h:tt w px ps kind root)(hb:Below w.heap.size w w'):tt w' px ps kind root:=(hb.block px (gl h)).trans h
theorem tt.keep{w w':World}{px ps kind root:Nat}(h:tt w px ps kind root)(hk:Fo Y w w')(hy:Y px):tt w' px ps kind root:=(hk.block px hy).trans h
theorem I3{px ps kind root:Nat}(hT:tt w px ps kind root):
 Ct 79 #[PV px] w fun e w'=>e=.returned (.bool false)/\w=w':=by
 unfold tt at hT;obtain⟨c0,c1,c2,c3,c4⟩:=ld hT;clear hT;go_enter func79,ntmps79;go_wp2_with fail;go_ret;exact⟨rfl,rfl⟩
theorem Da(f:Nat)(v:Value)(w:World):(method (f+1) 185 v "loft/backend.size").run prog w=.ok (291,v) w:=by kernel_rfl
theorem C9(f:Nat)(v:Value)(w:World):(method (f+1) 185 v "loft/backend.rank").run prog w=.ok (289,v) w:=by kernel_rfl
theorem rI(f:Nat)(v:Value)(w:World):(method (f+1) 185 v "loft/backend.at").run prog w=.ok (286,v) w:=by kernel_rfl
theorem vQ(f:Nat)(v:Value)(w:World):(method (f+1) 185 v "loft/backend.insert").run prog w=.ok (288,v) w:=by kernel_rfl
theorem IY(px ps kind root:Nat):∃I:World->Prop,(∀w',I w'->tt w' px ps kind root)/\(∀w',tt w' px ps kind root->I w'):=⟨fun w'=>tt w' px ps kind root,fun _ h=>h,fun _ a=>a⟩
theorem lB(A B:World->Prop):∃I:World->Prop,(∀w',I w'->A w'/\B w')/\(∀w',A w'->B w'->I w'):=⟨fun w'=>A w'/\B w',fun _ h=>h,fun _ a b=>⟨a,b⟩⟩
def Lf.treeAtM(S:St)(root k:Nat):Option (List UInt8×List UInt8):=
 match kD S root k with
 | none=>none
 | some (h,e)=>if e≠0\/18446744073709551616<=h then none else
  match gD S (getNode S h).1.key,gD S (getNode S h).1.val with
  | some a,some b=>some (a,b)
  | _,_=>none
theorem EQ{root k:Nat}{p:List UInt8×List UInt8}(h:treeAtM S root k=some p):∃hh,hh<2^64/\kD S root k=some (hh,0)/\gD S (getNode S hh).1.key=some p.1/\gD S (getNode S hh).1.val=some p.2:=by
 unfold treeAtM at h
 split at h
 ·cases h
 rename_i hh e h1
 split at h
 ·cases h
 rename_i hc;simp only[not_or,da,Nat.not_le] at hc
 split at h
 ·rename_i a b h2 h3;have h:=Option.some.inj h;subst h;exact⟨hh,hc.2,by rw[h1,hc.1],h2,h3⟩
 ·cases h
def eu(p:List UInt8×List UInt8):Value:=.agg #[SV p.1,SV p.2]
theorem sS{hh:Nat}{t:List UInt8}(h:gD S hh=some t):(fz S hh).2≠8/\(fz S hh).1=t:=by
 unfold gD at h
 split at h
 ·cases h
 ·rename_i h8;exact⟨h8,Option.some.inj h⟩
theorem sV(px k v:Nat)(w:World):
 Cb 83 #[PV px,Id k v,.bool false] w (.string ⟨#[]⟩):=by
 simp only[Id];go_enter func83,ntmps83;go_wp2_with fail;go_ret;exact⟨rfl,(aa _ w).alloc Ih _⟩
def Lf.itemsM(S:St)(a b:List UInt8):Option ((Nat×Nat)×St):=
 if(fx S a).1.2≠0\/(fx (fx S a).2 b).1.2≠0 then none
 else some (((fx S a).1.1,(fx (fx S a).2 b).1.1),(fx (fx S a).2 b).2)
def nJ(S:St)(a b:List UInt8):Prop:=a.length<=1000/\b.length<=1000/\iw S (many a.length)/\iw (fx S a).2 (many b.length)
theorem wu{a:List UInt8}(hm:iw S (many a.length))(hi:Fv S):Fv (fx S a).2:=by
 have h2:=hm.2;unfold fx
 split
 ·exact hi
 ·split
  ·rename_i e;rw[e] at h2;exact(rV _ _ _ 0 h2).1
  ·rename_i e;rw[e] at h2;exact h2
theorem wv(hw:iW S.t)(a:List UInt8):(fx S a).1.1<2^64:=by
 have:=oA hw (many a.length);unfold fx
 split
 ·simp
 ·split
  ·rename_i e;rw[e] at this;exact this
  ·simp
theorem BI{S S':St}{a b:List UInt8}{p:Nat×Nat}(h:itemsM S a b=some (p,S')):(fx S a).1=(p.1,0)/\(fx (fx S a).2 b).1=(p.2,0)/\S'=(fx (fx S a).2 b).2:=by
 unfold itemsM at h
 split at h
 ·cases h
 ·rename_i hc;simp only[not_or,da] at hc;have h:=Option.some.inj h
  injection h with e1 e2
  subst e1 e2;exact⟨Prod.ext rfl hc.1,Prod.ext rfl hc.2,rfl⟩
def Lf.treePutM(jn:Jn)(S:St)(root:Nat)(a b:List UInt8):Option (Nat×St):=
 match itemsM S a b with
 | none=>none
 | some (p,S1)=>binInsM jn S1 root p.1 p.2
def pJ(S:St)(a b:List UInt8):Prop:=nJ S a b/\∀p S1,itemsM S a b=some (p,S1)->iw S1 6
theorem ET(h:Ig w ps S Y)(hi:Fv S){j c:FuncId}{jn:Jn}(hk:jD kind j c jn)(t:Int):
 Ct 84 #[PV ps,Xi kind,Xi t,Xu 0] w fun e w'=>∃px,e=.returned (.tuple #[PV px,Xi 0])/\tt w' px ps kind 0/\Below w.heap.size w w'/\w.heap.size<=px:=by
 have hc:=JF h hi hk t;have hq:((kind:Int)==3)=false:=by have:=hk.is;simp;omega
 have HG:=If hc;clear hc h hi hk;go_enter func84,ntmps84;go_wp2_with fail;refine wx HG.out fun w1 hb1=>?_;have q:=heap_alloc_new w1 (.cells #[PV ps,Xi kind,Xi 0,.iface 185 (fE ps kind),Xu 0] 134);have B:=hb1.alloc hb1.size (.cells #[PV ps,Xi kind,Xi 0,.iface 185 (fE ps kind),Xu 0] 134);simp only[fE] at q B;have HB:=kq3 q B hb1.size;clear q B hb1;go_wp2_with fail;go_ret2;exact⟨w1.heap.size,rfl,HB.a,HB.b,HB.c⟩
theorem ES(h:Ig w ps S Y)(hi:Fv S){j c:FuncId}{jn:Jn}(hk:jD kind j c jn)(t:Int):
 Ct 59 #[PV ps,Xi kind,Xi t] w fun e w'=>∃px,e=.returned (.tuple #[PV px,Xi 0])/\tt w' px ps kind 0/\Below w.heap.size w w'/\w.heap.size<=px:=by
 have HG:=If (ET h hi hk t);clear h hi hk;go_enter func59,ntmps59;go_wp2_with fail;refine HG.out.mono ?_;rintro e w1 ⟨px,rfl,hr⟩;have HB:=If hr;clear hr;go_wp2_with fail;go_ret2;exact⟨px,rfl,HB.out⟩
def Ic(w:World)(pm px ps limit:Nat):Prop:=w.heap[pm]?=some (.cells #[PV ps,PV px,Xi limit] 92)
theorem Ic.below{w w':World}{pm px ps limit:Nat}(h:Ic w pm px ps limit)(hb:Below w.heap.size w w'):Ic w' pm px ps limit:=(hb.block pm (gl h)).trans h
theorem ki{pm px ps limit:Nat}(hM:Ic w pm px ps limit):
 Ct 48 #[PV pm] w fun e w'=>e=.returned (.bool false)/\w=w':=by
 unfold Ic at hM;obtain⟨c0,c1,c2⟩:=fq hM;clear hM;go_enter func48,ntmps48;go_wp2_with fail;go_ret;exact⟨rfl,rfl⟩
theorem vH{pm px ps limit:Nat}(hM:Ic w pm px ps limit)(a b:List UInt8)(ha:a.length<=limit)(hb:b.length<=limit):
 Ct 57 #[PV pm,SV a,SV b] w fun e w'=>e=.returned (Xi 0)/\w=w':=by
 have HG:=If (ki hM);unfold Ic at hM;obtain⟨c0,c1,c2⟩:=fq hM;have ad:((limit:Int)<(a.length:Int))=False:=eq_false (by omega);have ai:((limit:Int)<(b.length:Int))=False:=eq_false (by omega);clear hM ha hb;go_enter func57,ntmps57;go_wp2_with fail;refine Jc HG.out ?_;go_wp2_with fail;go_ret;exact⟨rfl,rfl⟩
theorem EX(h:Ig w ps S Y)(hi:Fv S)(root:Nat)(hl:root<2^64)(k:List UInt8)(hR:ij S k (limit S) root 0=some R):
 Cb 294 #[PV ps,Xu root,SV k] w (.tuple #[Xu R.1,.bool (decide (R.1≠0))]):=by
 have HG:=If (xT h hi root hl k hR);obtain⟨a,b⟩:=R;simp only at HG⊢;clear hR h hi;go_enter func294,ntmps294;go_wp2_with fail;refine wx HG.out fun w1 hb=>?_;have HB:=If hb;clear hb;go_wp2_with fail;go_ret2;refine⟨?_,HB.out⟩;have:((a:Int) !=0)=decide (a≠0):=by by_cases e:a=0<;>simp[e]<;>omega
 rw[<-this]
 rfl
theorem tL(h:Ig w ps S Y)(hi:Fv S)(kind root:Nat)(hl:root<2^64)(k:List UInt8)(hR:ij S k (limit S) root 0=some R)(hR1:R.1<2^64):
 Cb 287 #[fE ps kind,Xu root,SV k] w (.tuple #[Id (getNode S R.1).1.key (getNode S R.1).1.val,.bool (decide (R.1≠0))]):=by
 have B1:=(aa w.heap.size w).alloc Ih (Xf ps kind);have q1:=heap_alloc_new w (Xf ps kind);have B0:=B1.alloc B1.size (.cells #[Xu 0,Xu 0] 137);have z1:=heap_alloc_new (w.alloc (Xf ps kind)) (.cells #[Xu 0,Xu 0] 137);have q1:=(((aa (w.alloc (Xf ps kind)).heap.size (w.alloc (Xf ps kind))).alloc Ih (.cells #[Xu 0,Xu 0] 137)).block w.heap.size (by simp)).trans q1;simp only[World.size_alloc] at z1;have ha:=EX (h.below B0) hi root hl k hR;have ad:=fun W (hW:Below w.heap.size w W)=>my (h.below hW) hi kind R.1 hR1;simp only[Id,fE] at ad⊢;generalize (getNode S R.1).1.key=k0 at*;generalize (getNode S R.1).1.val=k1 at*;generalize decide (R.1≠0)=z at*;have HG:=kq5 ha ad B0 z1 q1;clear ha ad B0 B1 h hi z1 q1;go_enter func287,ntmps287;go_wp2_with fail;refine wx HG.a fun w1 hb1=>?_;have z1:=(hb1.block (w.heap.size+1) (by simp)).trans HG.d;have q1:=(hb1.block w.heap.size (by simp;omega)).trans HG.e;obtain⟨c0,c1⟩:=Fp q1;have H1:=kq2 (HG.c.trans (hb1.mono HG.c.size)) z1;clear hb1 z1 q1;go_wp2_with fail;refine wx (HG.b _ H1.a) fun w2 hb2=>?_;have z2:=(hb2.block (w.heap.size+1) (gl H1.b)).trans H1.b;obtain⟨d0,d1⟩:=Fp z2;obtain⟨f0,f1⟩:=ef z2;have HW:=kq2 (H1.a.trans (hb2.mono H1.a.size)) z2;clear hb2 z2 c0 c1;go_wp2_with fail;have q3:=ew HW.b (Xu k0) (Xu k1);have B3:=eT HW.a (bJ w.heap.size) (Xu k0) (Xu k1);generalize ((w2.setCell ⟨(w.heap.size+1),0,none⟩ (Xu k0)).setCell ⟨(w.heap.size+1),1,none⟩ (Xu k1))=W3 at*;obtain⟨e0,e1⟩:=Fp q3;exact bodyPost_ret (v:=.tuple #[.agg #[Xu k0,Xu k1],.bool z]) (by simp[results,f287,go_sem,e0,e1]) rfl ⟨rfl,B3⟩
theorem za(h:Ig w ps S Y)(hi:Fv S)(kind root:Nat)(k:Int)(hk:k<0):
 Cb 286 #[fE ps kind,Xu root,Xi k] w (.tuple #[Id (getNode S 0).1.key (getNode S 0).1.val,Xi 2]):=by
 have B1:=(aa w.heap.size w).alloc Ih (Xf ps kind);have q1:=heap_alloc_new w (Xf ps kind);have B0:=B1.alloc B1.size (.cells #[Xu 0,Xu 0] 137);have z1:=heap_alloc_new (w.alloc (Xf ps kind)) (.cells #[Xu 0,Xu 0] 137);have q1:=(((aa (w.alloc (Xf ps kind)).heap.size (w.alloc (Xf ps kind))).alloc Ih (.cells #[Xu 0,Xu 0] 137)).block w.heap.size (by simp)).trans q1;simp only[World.size_alloc] at z1;have ha:=EW (h.below B0) hi root k hk;have ai:=fun W (hW:Below w.heap.size w W)=>my (h.below hW) hi kind 0 (by decide);simp only[Id,fE] at ai⊢;generalize (getNode S 0).1.key=k0 at*;generalize (getNode S 0).1.val=k1 at*;have HG:=kq5 ha ai B0 z1 q1;clear ha ai B0 B1 h hi z1 q1;go_enter func286,ntmps286;go_wp2_with fail;refine Jc HG.a ?_;have ad:=aa ((w.alloc (Xf ps kind)).alloc (.cells #[Xu 0,Xu 0] 137)).heap.size ((w.alloc (Xf ps kind)).alloc (.cells #[Xu 0,Xu 0] 137));generalize al:(w.alloc (Xf ps kind)).alloc (.cells #[Xu 0,Xu 0] 137)=w1 at*;have z1:=(ad.block (w.heap.size+1) (by rw[<-al];simp)).trans HG.d;have q1:=(ad.block w.heap.size (by rw[<-al];simp;omega)).trans HG.e;obtain⟨c0,c1⟩:=Fp q1;have H1:=kq2 (HG.c.trans (ad.mono HG.c.size)) z1;clear ad z1 q1 al;go_wp2_with fail;refine wx (HG.b _ H1.a) fun w2 hb2=>?_;have z2:=(hb2.block (w.heap.size+1) (gl H1.b)).trans H1.b;obtain⟨d0,d1⟩:=Fp z2;obtain⟨f0,f1⟩:=ef z2;have HW:=kq2 (H1.a.trans (hb2.mono H1.a.size)) z2;clear hb2 z2 c0 c1;go_wp2_with fail;have q3:=ew HW.b (Xu k0) (Xu k1);have B3:=eT HW.a (bJ w.heap.size) (Xu k0) (Xu k1);generalize ((w2.setCell ⟨(w.heap.size+1),0,none⟩ (Xu k0)).setCell ⟨(w.heap.size+1),1,none⟩ (Xu k1))=W3 at*;obtain⟨e0,e1⟩:=Fp q3;exact bodyPost_ret (v:=.tuple #[.agg #[Xu k0,Xu k1],Xi 2]) (by simp[results,f286,go_sem,e0,e1]) rfl ⟨rfl,B3⟩
theorem vP(f:Nat)(v:Value)(w:World):(method (f+1) 185 v "loft/backend.find").run prog w=.ok (287,v) w:=by kernel_rfl
def FF(w:World)(px ps:Nat)(ty:TypeId)(kv:Value)(kind td root:Nat):Prop:=w.heap[px]?=some (.cells #[PV ps,Xi kind,Xi td,.iface ty kv,Xu root] 134)
theorem FF.below{w w':World}{px ps kind td root:Nat}(h:FF w px ps ty kv kind td root)(hb:Below w.heap.size w w'):FF w' px ps ty kv kind td root:=(hb.block px (gl h)).trans h
theorem FF.keep{w w':World}{px ps kind td root:Nat}(h:FF w px ps ty kv kind td root)(hk:Fo Y w w')(hy:Y px):FF w' px ps ty kv kind td root:=(hk.block px hy).trans h
theorem kw{px ps kind td root:Nat}(hT:FF w px ps ty kv kind td root):
 Ct 79 #[PV px] w fun e w'=>e=.returned (.bool false)/\w=w':=by
 unfold FF at hT;obtain⟨c0,c1,c2,c3,c4⟩:=ld hT;clear hT;go_enter func79,ntmps79;go_wp2_with fail;go_ret;exact⟨rfl,rfl⟩
theorem kN(px ps:Nat)(ty:TypeId)(kv:Value)(kind td root:Nat):∃I:World->Prop,(∀w',I w'->FF w' px ps ty kv kind td root)/\(∀w',FF w' px ps ty kv kind td root->I w'):=⟨fun w'=>FF w' px ps ty kv kind td root,fun _ h=>h,fun _ a=>a⟩
theorem qVbab{P:Prop}(h:P:=by
 refine mD fun K hK=>?_;go_simp;refine wx HG.b fun w2 hb2=>?_;have T2:=FF.below (w:=w.drew) HG.c hb2;have B2:=kq2 T2 ((aa w.heap.size w).drew.trans hb2);clear T2 hb2
 try go_simp
 refine hK.out _ _ (HG.d _ B2.a) ?_;clear hK K
 try simp only[pu]
 refine mD fun K hK=>?_;go_simp
 try go_simp
 refine hK.out _ _ (HG.d _ B2.a) ?_;clear hK K
 try simp only[pu]
 refine mX ?_;go_wp2_with fail;go_ret;exact⟨rfl,B2.b⟩):P:=h
theorem xM{px ps kind td root:Nat}(hT:FF w px ps ty kv kind td root)(hme:∀(f:Nat) (v:Value) (w:World),(method (f+1) ty v "loft/backend.size").run prog w=.ok (fm,v) w)(hen:∀(args:Array Value) (w:World),(callFunc fm args).run prog w=.ok (.enter fm args) w)(hs:∀W,Below w.heap.size w W->Ct fm #[kv,Xu root] W fun e w'=>e=.returned (Xi z)/\Below W.heap.size W w'):
 Cb 56 #[PV px] w (Xi z):=by
 have hn:=kw hT;have hs:=hs _ (aa _ w).drew;obtain⟨I,al,ad⟩:=kN px ps ty kv kind td root;have ai:=fun x:Fq I=>al _ x.ok;simp only[FF] at ai;obtain⟨m0,m1,m2,m3,m4⟩:=iK ai;have ap:I w.drew:=ad _ hT;have HG:=kq4 hn hs hT ad;clear hn hs hT al ad ai;go_enter func56,ntmps56;go_wp2_with fail;refine Jc HG.a ?_;go_wp2_with fail;refine nF I [(true,0),(true,1),(true,2),(true,3),(true,4),(true,5),(true,6),(true,7),(true,8),(true,9),(false,10),(false,11)] (by kernel_rfl) (by kernel_rfl) ap ?_
 iterate 10
  refine' mT ?_ ?_;rotate_left
  ·intro x;go_simp
   try rfl
  try simp only[pu]
 exact qVbab
theorem xO{px ps kind td root:Nat}(hT:FF w px ps ty kv kind td root)(k:List UInt8)(hme:∀(f:Nat) (v:Value) (w:World),(method (f+1) ty v "loft/backend.rank").run prog w=.ok (fm,v) w)(hen:∀(args:Array Value) (w:World),(callFunc fm args).run prog w=.ok (.enter fm args) w)(hs:∀W,Below w.heap.size w W->Ct fm #[kv,Xu root,SV k] W fun e w'=>e=.returned (Xi z)/\Below W.heap.size W w'):
 Cb 49 #[PV px,SV k] w (Xi z):=by
 have hn:=kw hT;have hs:=hs _ (aa _ w).drew;obtain⟨I,al,ad⟩:=kN px ps ty kv kind td root;have ai:=fun x:Fq I=>al _ x.ok;simp only[FF] at ai;obtain⟨m0,m1,m2,m3,m4⟩:=iK ai;have ap:I w.drew:=ad _ hT;have HG:=kq4 hn hs hT ad;clear hn hs hT al ad ai;go_enter func49,ntmps49;go_wp2_with fail;refine Jc HG.a ?_;go_wp2_with fail;refine nF I [(true,0),(true,1),(true,2),(true,3),(true,4),(true,5),(true,6),(true,7),(true,8),(true,9),(true,10),(false,11),(false,12)] (by kernel_rfl) (by kernel_rfl) ap ?_
 iterate 11
  refine' mT ?_ ?_;rotate_left
  ·intro x;go_simp
   try rfl
  try simp only[pu]
 exact qVbab
theorem xH{px ps kind td root:Nat}(hT:FF w px ps ty kv kind td root)(k:Int)(p:List UInt8×List UInt8)(k0 k1 e1 e2:Nat)(er:Int)(her:er=0\/er=2/\p=([],[]))(hme:∀(f:Nat) (v:Value) (w:World),(method (f+1) ty v "loft/backend.at").run prog w=.ok (fm,v) w)(hen:∀(args:Array Value) (w:World),(callFunc fm args).run prog w=.ok (.enter fm args) w)(hs:∀W,Below w.heap.size w W->Ct fm #[kv,Xu root,Xi k] W fun e w'=>e=.returned (.tuple #[.agg #[Xu k0,Xu k1],Xi er])/\Below W.heap.size W w')(hg1:er=0->∀W,Below w.heap.size w W->Cb 80 #[PV ps,Xu k0] W (.tuple #[SV p.1,Xi e1]))(hg2:er=0->∀W,Below w.heap.size w W->Cb 80 #[PV ps,Xu k1] W (.tuple #[SV p.2,Xi e2])):
 Cb 53 #[PV px,Xi k] w (.tuple #[eu p,Xi er]):=by
 have B0:=(aa w.heap.size w).alloc Ih (.cells #[.string ⟨#[]⟩,.string ⟨#[]⟩] 34);have y0:=heap_alloc_new w (.cells #[.string ⟨#[]⟩,.string ⟨#[]⟩] 34);have hn:=kw (hT.below B0);obtain⟨p1,p2⟩:=p;simp only[eu] at hg1 hg2⊢;obtain⟨I,au,a0⟩:=kN px ps ty kv kind td root;have ar:=fun x:Fq I=>au _ x.ok;simp only[FF] at ar;obtain⟨m0,m1,m2,m3,m4⟩:=iK ar;have ap:I ((w.alloc (.cells #[.string ⟨#[]⟩,.string ⟨#[]⟩] 34)).drew):=a0 _ (hT.below B0.drew);have HG:=kq9 hn hs hT a0 B0 y0 hg1 hg2 her;clear hn hs hT au a0 ar B0 y0 hg1 hg2 her;go_enter func53,ntmps53;go_wp2_with fail;refine Jc HG.a ?_;go_wp2_with fail;have HU:=kq3 HG.g HG.h HG.i;refine fh I (.take 0 (.take 1 (.take 2 (.take 3 (.take 4 (.take 5 (.take 6 (.take 7 (.take 8 (.take 9 (.take 10 (.two 11 15 (.take 12 (.take 13 (.take 14 (.go 15 (.go 16 (.go 17 .nil)))))) (.go 11 (.take 12 (.take 13 (.take 14 (.go 16 (.go 17 .nil)))))))))))))))))) (by kernel_rfl) (by kernel_rfl) ap ?_
 iterate 11
  refine' pT ?_ ?_;rotate_left
  ·intro x;go_simp
   try rfl
  try simp only[pu]
 refine gL ?h1 ?h2
 case' h1=>
  refine pD fun K hK=>?_;go_simp;refine wx (HG.b _ HG.e.drew) fun w2 hb2=>?_;have T2:=FF.below (w:=(w.alloc (.cells #[.string ⟨#[]⟩,.string ⟨#[]⟩] 34)).drew) (HG.c.below HG.e.drew) hb2;have y2:=(hb2.block w.heap.size (by show w.heap.size<(w.alloc _).heap.size;simp)).trans HG.f;have B2:=kq3 T2 (HG.e.drew.trans (hb2.mono HG.e.drew.size)) y2;clear T2 hb2 y2
  try go_simp
  refine hK.out _ _ (HG.d _ B2.a) ?_;clear hK K
  try simp only[pu]
  iterate 3
   refine' pT ?_ ?_;rotate_left
   ·intro x;go_simp
    try rfl
   try simp only[pu]
  refine pD fun K hK=>?_;go_simp;have A2:=(aa w2.heap.size w2).alloc Ih (.cells #[Xu 0,Xu 0] 137);have TA:=B2.a.below A2;have BA:=B2.b.trans (A2.mono B2.b.size);have yA:=(A2.block w.heap.size (gl B2.c)).trans B2.c;have qA:=heap_alloc_new w2 (.cells #[Xu 0,Xu 0] 137);have a2:w.heap.size<w2.heap.size:=(gl B2.c);clear A2 B2;generalize w2.alloc (.cells #[Xu 0,Xu 0] 137)=W at*;generalize w2.heap.size=b6 at*
  try go_simp
  refine hK.out _ _ (HG.d _ TA) ?_;clear hK K
  try simp only[pu]
  obtain⟨c0,c1⟩:=Fp qA;obtain⟨f0,f1⟩:=ef qA;have HA:=kq5 TA BA yA qA a2;clear TA BA yA qA a2;refine pD fun K hK=>?_;go_simp;have qB:=ew HA.d (Xu k0) (Xu k1);have BB:=eT HA.b (dt HA.e) (Xu k0) (Xu k1);have yB:=(fA (dg HA.e) (Xu k0) (Xu k1)).trans HA.c;have TB:FF ((W.setCell ⟨b6,0,none⟩ (Xu k0)).setCell ⟨b6,1,none⟩ (Xu k1)) px ps ty kv kind td root:=HG.c.below BB;have a3:=HA.e;clear c0 c1 f0 f1 HA;generalize ((W.setCell ⟨b6,0,none⟩ (Xu k0)).setCell ⟨b6,1,none⟩ (Xu k1))=W7 at*
  try go_simp
  refine hK.out _ _ (HG.d _ TB) ?_;clear hK K
  try simp only[pu]
  refine pD fun K hK=>?_;go_simp
  try go_simp
  refine hK.out _ _ (HG.d _ TB) ?_;clear hK K
  try simp only[pu]
  refine eP ?_;have H7:=kq5 TB BB yB qB a3;clear TB BB yB qB a3;clear w2
 case' h2=>
  refine pD fun K hK=>?_;go_simp;have A2:=(aa (w.alloc (.cells #[.string ⟨#[]⟩,.string ⟨#[]⟩] 34)).heap.size (w.alloc (.cells #[.string ⟨#[]⟩,.string ⟨#[]⟩] 34))).alloc Ih (.cells #[Xu 0,Xu 0] 137);have BA:=(HG.e.trans (A2.mono HG.e.size)).drew;have qA:((w.alloc (.cells #[.string ⟨#[]⟩,.string ⟨#[]⟩] 34)).alloc (.cells #[Xu 0,Xu 0] 137)).drew.heap[(w.alloc (.cells #[.string ⟨#[]⟩,.string ⟨#[]⟩] 34)).heap.size]?=_:=heap_alloc_new (w.alloc (.cells #[.string ⟨#[]⟩,.string ⟨#[]⟩] 34)) (.cells #[Xu 0,Xu 0] 137);have yA:((w.alloc (.cells #[.string ⟨#[]⟩,.string ⟨#[]⟩] 34)).alloc (.cells #[Xu 0,Xu 0] 137)).drew.heap[w.heap.size]?=_:=(A2.block w.heap.size (by simp)).trans HG.f;have TA:=HG.c.below BA;simp only[World.size_alloc] at qA;clear A2;generalize ((w.alloc (.cells #[.string ⟨#[]⟩,.string ⟨#[]⟩] 34)).alloc (.cells #[Xu 0,Xu 0] 137)).drew=w1 at*
  try go_simp
  refine hK.out _ _ (HG.d _ TA) ?_;clear hK K
  try simp only[pu]
  have al:=kq4 TA BA yA qA;clear TA BA yA qA;refine pD fun K hK=>?_;go_simp;refine wx (HG.b _ al.b) fun W hb2=>?_;have TA:=al.a.below hb2;have BA:=al.b.trans (hb2.mono al.b.size);have yA:=(hb2.block w.heap.size (gl al.c)).trans al.c;have qA:=(hb2.block (w.heap.size+1) (gl al.d)).trans al.d;have a2:w.heap.size<w.heap.size+1:=by omega
  clear hb2 al;generalize w.heap.size+1=b6 at*
  try go_simp
  refine hK.out _ _ (HG.d _ TA) ?_;clear hK K
  try simp only[pu]
  iterate 3
   refine' pT ?_ ?_;rotate_left
   ·intro x;go_simp
    try rfl
   try simp only[pu]
  obtain⟨c0,c1⟩:=Fp qA;obtain⟨f0,f1⟩:=ef qA;have HA:=kq5 TA BA yA qA a2;clear TA BA yA qA a2;refine pD fun K hK=>?_;go_simp;have qB:=ew HA.d (Xu k0) (Xu k1);have BB:=eT HA.b (dt HA.e) (Xu k0) (Xu k1);have yB:=(fA (dg HA.e) (Xu k0) (Xu k1)).trans HA.c;have TB:FF ((W.setCell ⟨b6,0,none⟩ (Xu k0)).setCell ⟨b6,1,none⟩ (Xu k1)) px ps ty kv kind td root:=HG.c.below BB;have a3:=HA.e;clear c0 c1 f0 f1 HA;generalize ((W.setCell ⟨b6,0,none⟩ (Xu k0)).setCell ⟨b6,1,none⟩ (Xu k1))=W7 at*
  try go_simp
  refine hK.out _ _ (HG.d _ TB) ?_;clear hK K
  try simp only[pu]
  refine pD fun K hK=>?_;go_simp
  try go_simp
  refine hK.out _ _ (HG.d _ TB) ?_;clear hK K
  try simp only[pu]
  refine eP ?_;have H7:=kq5 TB BB yB qB a3;clear TB BB yB qB a3;clear w1
 all_goals
  rcases HU.c with rfl | ⟨rfl,e⟩
  ·have HT:=If HG.c;clear ap HG m0 m1 m2 m3 m4 I;obtain⟨I,au,a0⟩:=lB (fun w'=>FF w' px ps ty kv kind td root) (fun w'=>w'.heap[b6]?=some (Xe k0 k1));have ar:=fun x:Fq I=>(au _ x.ok).1;have a5:=fun x:Fq I=>(au _ x.ok).2;simp only[FF] at ar;obtain⟨m0,m1,m2,m3,m4⟩:=iK ar;obtain⟨n0,n1⟩:=fw a5;have HI:=If a0;clear au a0 ar a5;have ad:=H7;clear H7;have ap:I W7.drew:=HI.out _ ad.out.1 ad.out.2.2.2.1;go_wp2_with fail;refine fh I (.take 0 (.take 1 (.take 2 (.take 3 (.take 4 (.take 5 (.go 6 (.take 7 (.take 8 (.take 9 (.take 10 (.go 11 .nil)))))))))))) (by kernel_rfl) (by kernel_rfl) ap ?_;clear ap
   iterate 6
    refine' pT ?_ ?_;rotate_left
    ·intro x;go_simp
     try rfl
    try simp only[pu]
   refine pD fun K hK=>?_;go_simp;refine wx (HU.a (by trivial) _ ad.out.2.1.drew) fun w8 hb=>?_;have T2:=FF.below (w:=W7.drew) (ad.out.1.below (aa _ _).drew) hb;have B2:=ad.out.2.1.drew.trans (hb.mono ad.out.2.1.drew.size);have y2:=(hb.block w.heap.size (gl ad.out.2.2.1)).trans ad.out.2.2.1;have q2:=(hb.block b6 (gl ad.out.2.2.2.1)).trans ad.out.2.2.2.1;clear hb;obtain⟨c0,c1⟩:=Fp y2;obtain⟨f0,f1⟩:=ef y2;have HX:=kq5 T2 B2 y2 q2 ad.out.2.2.2.2;clear T2 B2 y2 q2
   try go_simp
   refine hK.out _ _ (HI.out _ HX.a HX.d) ?_;clear hK K
   try simp only[pu]
   iterate 4
    refine' pT ?_ ?_;rotate_left
    ·intro x;go_simp
     try rfl
    try simp only[pu]
   refine pD fun K hK=>?_;go_simp;have y3:=heap_setCell HX.c (v:=SV p1) (i:=0);have B3:=HX.b.setCell (p:=⟨w.heap.size,0,none⟩) Ih (SV p1);have q3:=(FB (w:=w8) (b:=w.heap.size) (i:=0) (v:=SV p1) (Nat.ne_of_gt HX.e)).trans HX.d;have T3:FF (w8.setCell ⟨w.heap.size,0,none⟩ (SV p1)) px ps ty kv kind td root:=HT.out.below B3;have a1:=HX.e;clear c0 c1 f0 f1 HX;generalize w8.setCell ⟨w.heap.size,0,none⟩ (SV p1)=w8s at*
   try go_simp
   refine hK.out _ _ (HI.out _ T3 q3) ?_;clear hK K
   try simp only[pu]
   refine eP ?_;have ai:=kq5 T3 B3 y3 q3 a1;clear T3 B3 y3 q3 a1;have ap:I w8s.drew:=HI.out _ ai.a ai.d;go_wp2_with fail;refine fh I (.take 0 (.take 1 (.take 2 (.take 3 (.take 4 (.take 5 (.go 6 (.take 7 (.take 8 (.take 9 (.take 10 (.go 11 .nil)))))))))))) (by kernel_rfl) (by kernel_rfl) ap ?_;clear ap
   iterate 6
    refine' pT ?_ ?_;rotate_left
    ·intro x;go_simp
     try rfl
    try simp only[pu]
   refine pD fun K hK=>?_;go_simp;refine wx (HU.b (by trivial) _ ai.b.drew) fun w9 hb=>?_;have T2:=FF.below (w:=w8s.drew) (ai.a.below (aa _ _).drew) hb;have B2:=ai.b.drew.trans (hb.mono ai.b.drew.size);have y2:=(hb.block w.heap.size (gl ai.c)).trans ai.c;have q2:=(hb.block b6 (gl ai.d)).trans ai.d;clear hb;obtain⟨c0,c1⟩:=Fp y2;obtain⟨f0,f1⟩:=ef y2;have HX:=kq5 T2 B2 y2 q2 ai.e;clear T2 B2 y2 q2
   try go_simp
   refine hK.out _ _ (HI.out _ HX.a HX.d) ?_;clear hK K
   try simp only[pu]
   iterate 4
    refine' pT ?_ ?_;rotate_left
    ·intro x;go_simp
     try rfl
    try simp only[pu]
   refine pD fun K hK=>?_;go_simp;have y3:=heap_setCell HX.c (v:=SV p2) (i:=1);have B3:=HX.b.setCell (p:=⟨w.heap.size,1,none⟩) Ih (SV p2);have q3:=(FB (w:=w9) (b:=w.heap.size) (i:=1) (v:=SV p2) (Nat.ne_of_gt HX.e)).trans HX.d;have T3:FF (w9.setCell ⟨w.heap.size,1,none⟩ (SV p2)) px ps ty kv kind td root:=HT.out.below B3;have a1:=HX.e;clear c0 c1 f0 f1 HX;generalize w9.setCell ⟨w.heap.size,1,none⟩ (SV p2)=w9s at*
   try go_simp
   refine hK.out _ _ (HI.out _ T3 q3) ?_;clear hK K
   try simp only[pu]
   refine eP ?_;have a4:=kq5 T3 B3 y3 q3 a1;clear T3 B3 y3 q3 a1;have y:=a4.c;have y':w9s.heap[w.heap.size]?=some (Xj p1 p2):=y;obtain⟨c0,c1⟩:=Fp y';obtain⟨f0,f1⟩:=ef y';have q5:=ew y' (SV p1) (SV p2);have B5:=eT a4.b Ih (SV p1) (SV p2);have HB:=kq2 q5 B5;clear y y' q5 B5;go_wp2_with fail;obtain⟨q5,B5⟩:=HB.out;generalize ((w9s.setCell ⟨w.heap.size,0,none⟩ (SV p1)).setCell ⟨w.heap.size,1,none⟩ (SV p2))=wF at*;obtain⟨e0,e1⟩:=Fp q5;exact bodyPost_ret (v:=.tuple #[.agg #[SV p1,SV p2],Xi 0]) (by simp[results,f53,go_sem,e0,e1]) rfl ⟨rfl,B5⟩
  ·obtain⟨rfl,rfl⟩:=Prod.mk.inj e;clear HU;have y:=H7.c;obtain⟨c0,c1⟩:=Fp y;obtain⟨f0,f1⟩:=ef y;have q5:=ew y (.string ⟨#[]⟩) (.string ⟨#[]⟩);have B5:=eT H7.b Ih (.string ⟨#[]⟩) (.string ⟨#[]⟩);have HB:=kq2 q5 B5;clear y q5 B5;go_wp2_with fail;obtain⟨q5,B5⟩:=HB.out;generalize ((W7.setCell ⟨w.heap.size,0,none⟩ (.string ⟨#[]⟩)).setCell ⟨w.heap.size,1,none⟩ (.string ⟨#[]⟩))=wF at*;obtain⟨e0,e1⟩:=Fp q5;exact bodyPost_ret (v:=.tuple #[.agg #[.string ⟨#[]⟩,.string ⟨#[]⟩],Xi 2]) (by simp[results,f53,go_sem,e0,e1]) rfl ⟨rfl,B5⟩
theorem nu{px ps kind td root:Nat}(hT:FF w px ps ty kv kind td root)(k:List UInt8)(k0 k1:Nat)(is:Bool)(t:List UInt8)(e1:Nat)(ht:is=false->t=[])(hg:is=true->∀W,Below w.heap.size w W->Cb 80 #[PV ps,Xu k1] W (.tuple #[SV t,Xi e1]))(hme:∀(f:Nat) (v:Value) (w:World),(method (f+1) ty v "loft/backend.find").run prog w=.ok (fm,v) w)(hen:∀(args:Array Value) (w:World),(callFunc fm args).run prog w=.ok (.enter fm args) w)(hs:∀W,Below w.heap.size w W->Ct fm #[kv,Xu root,SV k] W fun e w'=>e=.returned (.tuple #[.agg #[Xu k0,Xu k1],.bool is])/\Below W.heap.size W w'):
 Cb 50 #[PV px,SV k] w (.tuple #[SV t,.bool is]):=by
 have B0:=aa w.heap.size w;have hn:=kw (hT.below B0);obtain⟨I,ap,ai⟩:=kN px ps ty kv kind td root;have al:=fun x:Fq I=>ap _ x.ok;simp only[FF] at al;obtain⟨m0,m1,m2,m3,m4⟩:=iK al;have ar:I w.drew:=ai _ (hT.below B0.drew);have a4:=True.intro;have HI:=If ai;have HG:=kq4 hn hs hT B0;have HU:=kq2 hg ht;clear hn hs hT ap ai al B0 hg ht;go_enter func50,ntmps50;go_wp2_with fail;refine Jc HG.a ?_;go_wp2_with fail;refine fh I (.take 0 (.take 1 (.take 2 (.take 3 (.take 4 (.take 5 (.take 6 (.take 7 (.take 8 (.take 9 (.take 10 (.two 11 15 (.take 12 (.take 13 (.take 14 (.go 15 (.go 16 (.go 17 .nil)))))) (.go 11 (.take 12 (.take 13 (.take 14 (.go 16 (.go 17 .nil)))))))))))))))))) (by kernel_rfl) (by kernel_rfl) ar ?_
 iterate 11
  refine' pT ?_ ?_;rotate_left
  ·intro x;go_simp
   try rfl
  try simp only[pu]
 refine gL ?h1 ?h2
 case' h1=>
  refine pD fun K hK=>?_;go_simp;refine wx (HG.b _ HG.d.drew) fun w2 hb2=>?_;have T2:=FF.below (w:=w.drew) (HG.c.below HG.d.drew) hb2;have a1:=HG.d.drew.trans (hb2.mono HG.d.drew.size);have B2:=kq2 T2 a1;clear T2 hb2 a1
  try go_simp
  refine hK.out _ _ (HI.out _ B2.a) ?_;clear hK K
  try simp only[pu]
  iterate 3
   refine' pT ?_ ?_;rotate_left
   ·intro x;go_simp
    try rfl
   try simp only[pu]
  refine pD fun K hK=>?_;go_simp;have A2:=(aa w2.heap.size w2).alloc Ih (.cells #[Xu 0,Xu 0] 137);have TA:=B2.a.below A2;have BA:=B2.b.trans (A2.mono B2.b.size);have qA:=heap_alloc_new w2 (.cells #[Xu 0,Xu 0] 137);have au:w.heap.size<=w2.heap.size:=B2.b.size;clear A2 B2;generalize w2.alloc (.cells #[Xu 0,Xu 0] 137)=W at*;generalize w2.heap.size=b6 at*
  try go_simp
  refine hK.out _ _ (HI.out _ TA) ?_;clear hK K
  try simp only[pu]
  obtain⟨c0,c1⟩:=Fp qA;obtain⟨f0,f1⟩:=ef qA;have HA:=kq4 TA BA qA au;clear TA BA qA au;refine pD fun K hK=>?_;go_simp;have qB:=ew HA.c (Xu k0) (Xu k1);have BB:=eT HA.b (HA.d) (Xu k0) (Xu k1);have TB:FF ((W.setCell ⟨b6,0,none⟩ (Xu k0)).setCell ⟨b6,1,none⟩ (Xu k1)) px ps ty kv kind td root:=HG.c.below BB;have a0:=HA.d;clear c0 c1 f0 f1 HA;generalize ((W.setCell ⟨b6,0,none⟩ (Xu k0)).setCell ⟨b6,1,none⟩ (Xu k1))=W7 at*
  try go_simp
  refine hK.out _ _ (HI.out _ TB) ?_;clear hK K
  try simp only[pu]
  refine pD fun K hK=>?_;go_simp
  try go_simp
  refine hK.out _ _ (HI.out _ TB) ?_;clear hK K
  try simp only[pu]
  refine eP ?_;have H7:=kq4 TB BB qB a0;clear TB BB qB a0;clear w2
 case' h2=>
  refine pD fun K hK=>?_;go_simp;have A2:=(aa w.heap.size w).alloc Ih (.cells #[Xu 0,Xu 0] 137);have BA:=(HG.d.trans (A2.mono HG.d.size)).drew;have qA:(w.alloc (.cells #[Xu 0,Xu 0] 137)).drew.heap[w.heap.size]?=_:=heap_alloc_new w (.cells #[Xu 0,Xu 0] 137);have TA:=HG.c.below BA;clear A2;generalize (w.alloc (.cells #[Xu 0,Xu 0] 137)).drew=w1 at*
  try go_simp
  refine hK.out _ _ (HI.out _ TA) ?_;clear hK K
  try simp only[pu]
  have ad:=kq3 TA BA qA;clear TA BA qA;refine pD fun K hK=>?_;go_simp;refine wx (HG.b _ ad.b) fun W hb2=>?_;have TA:=ad.a.below hb2;have BA:=ad.b.trans (hb2.mono ad.b.size);have qA:=(hb2.block w.heap.size (gl ad.c)).trans ad.c;obtain⟨b6,a2⟩:=Ii w.heap.size;have au:w.heap.size<=b6:=by omega
  rw[a2] at qA;simp only[a2];clear hb2 ad
  try go_simp
  refine hK.out _ _ (HI.out _ TA) ?_;clear hK K
  try simp only[pu]
  iterate 3
   refine' pT ?_ ?_;rotate_left
   ·intro x;go_simp
    try rfl
   try simp only[pu]
  obtain⟨c0,c1⟩:=Fp qA;obtain⟨f0,f1⟩:=ef qA;have HA:=kq4 TA BA qA au;clear TA BA qA au;refine pD fun K hK=>?_;go_simp;have qB:=ew HA.c (Xu k0) (Xu k1);have BB:=eT HA.b (HA.d) (Xu k0) (Xu k1);have TB:FF ((W.setCell ⟨b6,0,none⟩ (Xu k0)).setCell ⟨b6,1,none⟩ (Xu k1)) px ps ty kv kind td root:=HG.c.below BB;have a0:=HA.d;clear c0 c1 f0 f1 HA;generalize ((W.setCell ⟨b6,0,none⟩ (Xu k0)).setCell ⟨b6,1,none⟩ (Xu k1))=W7 at*
  try go_simp
  refine hK.out _ _ (HI.out _ TB) ?_;clear hK K
  try simp only[pu]
  refine pD fun K hK=>?_;go_simp
  try go_simp
  refine hK.out _ _ (HI.out _ TB) ?_;clear hK K
  try simp only[pu]
  refine eP ?_;have H7:=kq4 TB BB qB a0;clear TB BB qB a0;clear w1
 all_goals
  cases is
  ·have ht:=HU.b rfl;clear HU;subst ht;go_wp2_with fail;go_ret2;exact⟨rfl,H7.b⟩
  ·clear HI ar a4 m0 m1 m2 m3 m4 I;obtain⟨I,ap,ai⟩:=lB (fun w'=>FF w' px ps ty kv kind td root) (fun w'=>w'.heap[b6]?=some (Xe k0 k1));have al:=fun x:Fq I=>(ap _ x.ok).1;have a3:=fun x:Fq I=>(ap _ x.ok).2;simp only[FF] at al;obtain⟨m0,m1,m2,m3,m4⟩:=iK al;obtain⟨n0,n1⟩:=fw a3;have HI:=If ai;have ar:I W7.drew:=ai _ H7.a H7.c;clear ap ai al a3;go_wp2_with fail;refine fh I (.take 0 (.take 1 (.take 2 (.take 3 (.take 4 (.take 5 (.go 6 (.take 7 (.take 8 (.take 9 (.go 10 (.go 11 .nil)))))))))))) (by kernel_rfl) (by kernel_rfl) ar ?_;clear ar
   iterate 6
    refine' pT ?_ ?_;rotate_left
    ·intro x;go_simp
     try rfl
    try simp only[pu]
   refine pD fun K hK=>?_;go_simp;refine wx (HU.a (by trivial) _ H7.b.drew) fun w8 hb=>?_;have T2:=FF.below (w:=W7.drew) (H7.a.below (aa _ _).drew) hb;have q2:=(hb.block b6 (gl H7.c)).trans H7.c;have HX:=kq3 T2 q2 (H7.b.drew.trans (hb.mono H7.b.drew.size));clear hb T2 q2
   try go_simp
   refine hK.out _ _ (HI.out _ HX.a HX.b) ?_;clear hK K
   try simp only[pu]
   iterate 3
    refine' pT ?_ ?_;rotate_left
    ·intro x;go_simp
     try rfl
    try simp only[pu]
   refine pD fun K hK=>?_;go_simp
   try go_simp
   refine hK.out _ _ (HI.out _ HX.a HX.b) ?_;clear hK K
   try simp only[pu]
   refine pD fun K hK=>?_;go_simp
   try go_simp
   refine hK.out _ _ (HI.out _ HX.a HX.b) ?_;clear hK K
   try simp only[pu]
   refine eP ?_;go_wp2_with fail;go_ret2;exact⟨rfl,HX.c⟩
def Lf.concatM(S:St)(l r:Nat):Option (Nat×St):=if l=0 then some (r,S) else none
theorem II{S S':St}(h:Ig w ps S Y)(hi:Fv S){j c:FuncId}(l r:Nat)(hr:r<2^64)(hx:concatM S l r=some (x,S')):
 (Ct 304 #[gS ps j c,Xu l,Xu r] w fun e w'=>e=.returned (Xu x)/\Ig w' ps S' Y/\Fo Y w w')/\Fv S'/\x<2^64:=by
 have B0:=(aa w.heap.size w).alloc Ih (.cells #[PV ps,eL j,eL c] 265);unfold concatM at hx
 split at hx
 ·rename_i h0;subst h0;have hx:=Option.some.inj hx
  injection hx with e1 e2
  subst e1 e2;refine⟨?_,hi,hr⟩;simp only[gS,eL] at B0⊢;have HG:=kq2 (h.below B0) (h.keep B0);clear B0 h hi;go_enter func304,ntmps304;go_wp2_with fail;go_ret;exact⟨rfl,HG.out⟩
 ·cases hx
theorem Iv(h:Ig w ps S Y)(hi:Fv S){j c:FuncId}(hk:j6 kind j c)(key:List UInt8)(hkey:key.length<=1000)(rs:List Nat)(hrn:rs.length<=1000)(hrs:∀a∈rs,a<2^64/\isT S a=true)(rb:Nat)(hr:w.heap[rb]?=some (.cells (rs.map fun a:Nat=>Value.int .u64 (a:Int)).toArray t fr)):
 Cb 164 #[PV ps,Xi kind,SV key,.slice (some ⟨rb,0,none⟩) rs.length rs.length] w (.tuple #[gS ps j c,Xi 0]):=by
 have q0:=heap_alloc_new w (.cells #[.pointer none,.nilFunc,.nilFunc] 265);have B0:=(aa w.heap.size w).alloc Ih (.cells #[.pointer none,.nilFunc,.nilFunc] 265);have ar:=fB (h.below B0) hi 0 (by omega);rw[fU] at ar;have hg:=fun W (hW:Below w.heap.size w W) a (ha:a<2^64)=>iO (h.below hW) hi a ha;have hz:∀a er:Nat,isT S a=true->(getNode S a).2=er->(((a:Int) !=0) && ((er:Int) !=0))=false:=fun a er ad he=>by
  unfold isT at ad;simp only[he,Bool.or_eq_true,decide_eq_true_eq] at ad
  rcases ad with e | e<;>simp[e]
 have a9:(1000<(key.length:Int))=False:=eq_false (by omega);obtain⟨n,hn⟩:=Ii rs.length;rw[hn] at hrn⊢;simp only[gS,j6,eL,eS] at hk hg⊢;have HG:=kq9 ar hk q0 B0 hg hr hz hrs hn;clear ar hk h hi q0 B0 hg hr hz hrs hn;go_enter func164,ntmps164;go_wp2_with fail;refine Jc HG.a ?_;go_wp2_with fail;refine wx (HG.b _) fun w2 hb2=>?_;have ap:=hb2.alloc hb2.size (.cells #[.func (.func j) #[] #[],.func (.func c) #[] #[]] 263);have r2:=(ap.block w.heap.size (by simp)).trans HG.c;have q2:=heap_alloc_new w2 (.cells #[.func (.func j) #[] #[],.func (.func c) #[] #[]] 263);have B2:=HG.d.trans (ap.mono HG.d.size);have a8:w.heap.size<w2.heap.size:=by have:=hb2.size;simp at this;omega
 go_wp2_with fail;generalize w2.alloc (.cells #[.func (.func j) #[] #[],.func (.func c) #[] #[]] 263)=W at*;generalize w2.heap.size=bt at*;have HR:=kq4 r2 B2 q2 a8;clear r2 B2 hb2 ap q2 a8
 go_loopw [15,16,17,40] (fun _ _ _ i wr=>∃k:Nat,k<=n/\i=Xi k/\Below W.heap.size W wr) (fun _ _ _ i _=>n-(intOf i).toNat)
 case atStart=>exact⟨0,by omega,rfl,aa _ _⟩
 case round=>
  obtain⟨k,a',rfl,hW⟩:=hrel
  by_cases hlt:k<n
  ·have ba:(k:Int)<n:=by omega
   have a7:k<rs.length:=by rw[HG.i];exact hlt
   have a6:=((HR.b.trans (hW.mono HR.b.size)).block rb (gl HG.f)).trans HG.f;obtain⟨ha,ad⟩:=HG.h rs[k] (aF a7);have c0:wr.cell? ⟨rb,k,none⟩=some (Xu (rs[k]:Nat)):=by rw[cell_of_block a6];simp[a7]
   have al:=fun W hW=>HG.e W hW rs[k] ha;have ai:=fun er=>HG.g rs[k] er ad;generalize rs[k]=a at*;obtain⟨⟨⟨a0,a1,a2,a3,a4,a5⟩,ea⟩,au⟩:∃q,getNode S a=q:=⟨_,rfl⟩;rw[au] at al ai;have ai:=ai ea rfl;simp only at al;have HW:=kq3 hW al ai;clear hW a6 al ai au ad ha;go_wp2_with fail;refine wx (HW.b _ (HR.b.trans (HW.a.mono HR.b.size))) fun w5 hb5=>?_;have H5:=If ((HW.a.trans (hb5.mono HW.a.size)).alloc (HW.a.trans (hb5.mono HW.a.size)).size (Xd a0 a1 a2 a3 a4 a5));clear hb5;have hz:=HW.c;go_wp2_with fail
   all_goals exact⟨⟨k+1,by omega,by simp,H5.out⟩,by simp[intOf];omega⟩
  ·obtain rfl:k=n:=by omega
   exact qVbac
theorem Ax(t:Hs)(hh:Nat):(t.close hh).2.most=t.most/\(t.close hh).2.last=t.last:=by
 unfold Hs.close;split<;>exact⟨rfl,rfl⟩
theorem sE(h:Ig w ps S Y)(hi:Fv S)(hh:Nat)(hl:hh<2^64):
 Ct 75 #[PV ps,Xu hh] w fun e w'=>e=.returned (Xi ((S.drop hh).1:Nat))/\Ig w' ps (S.drop hh).2 Y/\Fo Y w w':=by
 have ad:=sD h hi hh hl;have a1:=hi.addr_le hh
 rcases S.at_cases hh with⟨addr,n,h1,h2,_⟩ | ⟨h1,h2⟩
 ·have hR:S.drop hh=((S.t.close hh).1,⟨(iM S.a addr).2,(S.t.close hh).2⟩):=by unfold St.drop;rw[h1];rfl
  rw[hR];rw[h1] at ad a1;simp only at ad a1;have HG:=kq2 ad h;clear ad hR h1 h2 h;go_enter func75,ntmps75;go_wp2_with fail;refine Jc HG.a ?_;have hS:=HG.b;have a0:=Fo.refl Y w;obtain⟨pa,pm,ph,pt,v,hS⟩:=hS;obtain⟨_,_,_,c3,c4⟩:=hS.cells;have H1:=kq2 hS a0;clear hS a0;go_wp2_with fail;refine(Bu H1.a.heap addr (by omega)).mono ?_;rintro e w2 ⟨rfl,ar,al⟩;have ai:=H1.a.arena ar al;obtain⟨_,_,_,_,a3⟩:=ai.cells;have H2:=kq2 ai (H1.b.trans (al.mono fun k hk=>ab hk));clear c3 c4 ar al ai;go_wp2_with fail;refine(EI H2.a.tab hh hl (fun k=>k<w2.heap.size/\k≠pt/\v.ownBlock≠some k) (fun b hb e=>hb.2.2 e.symm)).mono ?_;rintro e w3 ⟨rfl,a2,ap⟩;have au:=H2.a.table a2 (Ax _ _) _ (fun k h1 h2 h3=>⟨h1,h2,h3⟩) ap (fun b hb=>hb.2.2);have H3:=kq2 au (H2.b.trans (ap.mono fun k hk=>⟨H2.a.yl k hk,(H2.a.off k (ab hk)).1,(H2.a.off k (ab hk)).2⟩));clear a2 ap au;go_wp2_with fail;go_ret;exact⟨rfl,⟨_,_,_,_,_,H3.a⟩,H3.b⟩
 ·have hR:S.drop hh=(7,S):=by unfold St.drop;rw[h1];rfl
  rw[hR];rw[h1] at ad;have HG:=kq2 ad h;clear ad hR h1 h2 h;go_enter func75,ntmps75;go_wp2_with fail;refine Jc HG.a ?_;have H1:=kq2 HG.b (Fo.refl Y w);go_wp2_with fail;go_ret;exact⟨rfl,H1.out⟩