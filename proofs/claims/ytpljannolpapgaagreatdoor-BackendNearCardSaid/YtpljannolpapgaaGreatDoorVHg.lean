/- The heap: find: the walk. -/
import Derived.Test.YtpljannolpapgaaGreatDoorVFb
import Derived.Test.YtpljannolpapgaaGreatDoorVLh
import Derived.Test.YtpljannolpapgaaGreatDoorVCl
set_option maxRecDepth 100000
set_option maxHeartbeats 1600000
namespace Go.Proofs.YtpljannolpapgaaGreatDoor
section
open Go.RowKit Tryz Go.BigFrame Go.Maps Go.WideMaps Lf
open Go.Shelf
attribute [local go_sem] Oper.semAt_some
theorem yX(w:World)(a b c d e:Obj):Below w.heap.size w (((((w.alloc a).alloc b).alloc c).alloc d).alloc e):=
 (nM w a b c d).alloc (by simp;omega) _
theorem Hx.drew {W:World}{B:Nat}{x:Hr}(h:Hx W B x):Hx W.drew B x:=h
theorem Cx.drew {W:World}{B i:Nat}{v:Value}(h:Cx W B i v):Cx W.drew B i v:=h
theorem us {W w:World}{b1 b2 b3 b4 n:Nat}{v1 v2 v4:Value}{y:Hr}(p k:Nat)(x:Hr)(h1:Cx W b1 0 v1)(h2:Cx W b2 0 v2)(h3:Hx W b3 y)(h4:Cx W b4 0 v4)(hb:Below w.heap.size w W)(m1:¬b1=b2)(m2:¬b1=b3)(m3:¬b2=b3)(m4:¬b1=b4)(m5:¬b2=b4)(m6:¬b3=b4)(hw:w.heap.size<=b1/\w.heap.size<=b2/\w.heap.size<=b3/\w.heap.size<=b4):
 KeepsFrom n W ((((((W.setCell ⟨b1,0,none⟩ (Xi p)).setCell ⟨b2,0,none⟩ (Xi k)).setCell ⟨b3,0,none⟩ (Xi x.kind)).setCell ⟨b3,1,none⟩ (Xi x.n)).setCell ⟨b3,2,none⟩ (Xu x.w)).setCell ⟨b4,0,none⟩ (.bool true)).drew/\
 (Cx ((((((W.setCell ⟨b1,0,none⟩ (Xi p)).setCell ⟨b2,0,none⟩ (Xi k)).setCell ⟨b3,0,none⟩ (Xi x.kind)).setCell ⟨b3,1,none⟩ (Xi x.n)).setCell ⟨b3,2,none⟩ (Xu x.w)).setCell ⟨b4,0,none⟩ (.bool true)).drew b1 0 (Xi p)/\
  Cx ((((((W.setCell ⟨b1,0,none⟩ (Xi p)).setCell ⟨b2,0,none⟩ (Xi k)).setCell ⟨b3,0,none⟩ (Xi x.kind)).setCell ⟨b3,1,none⟩ (Xi x.n)).setCell ⟨b3,2,none⟩ (Xu x.w)).setCell ⟨b4,0,none⟩ (.bool true)).drew b2 0 (Xi k)/\
  Hx ((((((W.setCell ⟨b1,0,none⟩ (Xi p)).setCell ⟨b2,0,none⟩ (Xi k)).setCell ⟨b3,0,none⟩ (Xi x.kind)).setCell ⟨b3,1,none⟩ (Xi x.n)).setCell ⟨b3,2,none⟩ (Xu x.w)).setCell ⟨b4,0,none⟩ (.bool true)).drew b3 x/\
  Cx ((((((W.setCell ⟨b1,0,none⟩ (Xi p)).setCell ⟨b2,0,none⟩ (Xi k)).setCell ⟨b3,0,none⟩ (Xi x.kind)).setCell ⟨b3,1,none⟩ (Xi x.n)).setCell ⟨b3,2,none⟩ (Xu x.w)).setCell ⟨b4,0,none⟩ (.bool true)).drew b4 0 (.bool true))/\
 Below w.heap.size w ((((((W.setCell ⟨b1,0,none⟩ (Xi p)).setCell ⟨b2,0,none⟩ (Xi k)).setCell ⟨b3,0,none⟩ (Xi x.kind)).setCell ⟨b3,1,none⟩ (Xi x.n)).setCell ⟨b3,2,none⟩ (Xu x.w)).setCell ⟨b4,0,none⟩ (.bool true)).drew:=by
 have hx:=((h3.other (C:=b1) (j:=0) (Xi p) (Ne.symm m2)).other (C:=b2) (j:=0) (Xi k) (Ne.symm m3)).set x;have hK:=((((((KeepsOthers.setCell W ⟨b1,0,none⟩ (Xi p)).trans (KeepsOthers.setCell _ ⟨b2,0,none⟩ (Xi k))).trans (KeepsOthers.setCell _ ⟨b3,0,none⟩ (Xi x.kind))).trans (KeepsOthers.setCell _ ⟨b3,1,none⟩ (Xi x.n))).trans (KeepsOthers.setCell _ ⟨b3,2,none⟩ (Xu x.w))).trans (KeepsOthers.setCell _ ⟨b4,0,none⟩ (.bool true))).trans (KeepsOthers.drew _);refine⟨hK.from n,⟨?_,?_,?_,?_⟩,?_⟩
 ·exact Cx.drew ((((((h1.set (Xi p)).other _ m1).other _ m2).other _ m2).other _ m2).other _ m4)
 ·exact Cx.drew ((((((h2.other _ (Ne.symm m1)).set (Xi k)).other _ m3).other _ m3).other _ m3).other _ m5)
 ·exact(hx.other _ m6).drew
 ·exact Cx.drew ((((((h4.other _ (Ne.symm m4)).other _ (Ne.symm m5)).other _ (Ne.symm m6)).other _ (Ne.symm m6)).other _ (Ne.symm m6)).set (.bool true))
 ·exact((((((hb.setCell (p:=⟨b1,0,none⟩) hw.1 _).setCell (p:=⟨b2,0,none⟩) hw.2.1 _).setCell (p:=⟨b3,0,none⟩) hw.2.2.1 _).setCell (p:=⟨b3,1,none⟩) hw.2.2.1 _).setCell (p:=⟨b3,2,none⟩) hw.2.2.1 _).setCell (p:=⟨b4,0,none⟩) hw.2.2.2 _).drew
theorem uO(B:Nat)(y:Hr):∃I:World->Prop,(∀W,Hx W B y->I W)/\(∀W,I W->Hx W B y):=⟨fun W=>Hx W B y,fun _ h=>h,fun _ h=>h⟩
theorem Bq {w:World}{ph pa pm:Nat}{s:Slab}{Y:Nat->Prop}(h:Fz w ph pa pm s Y)(addr:Nat)(ha:addr<=4611686018427387903):
 Cb 108 #[PV ph,Xi addr] w (od (kb s addr)):=by
 refine(callsIn_wide (n:=7)).1 ?_;have h1:1<=7:=by omega
 have d0:Fence.wide.fn 117:=trivial;have ds:Fence.wide.fn 116:=trivial;have dp:Fence.wide.fn 118:=trivial;have dv:Fence.wide.fn 119:=trivial;have c':∀W,CallsIn Fence.wide 6 prog 116 #[PV ph] W _:=fun W=>callsIn_wide.2 (qQ ph W);obtain⟨R,hR⟩:=Ii (od (kb s addr));rw[hR];have HR:=kq2 hR h;clear hR h;refine callsIn_of_wp_marks func108 rfl trivial ?_ rfl;simp only[ntmps108,bp,ak,aM,Nat.reduceAdd,Nat.reduceSub,aV,aW,bx,bg,aY,aR];obtain⟨W5,an⟩:=Ii (((((w.alloc (Xk addr)).alloc (.cells #[Xi 0] 3)).alloc (.cells #[Xi 0] 3)).alloc (.cells #[Xi 0,Xi 0,Xu 0] 188)).alloc (.cells #[.bool false] 4));have a6:Below w.heap.size w W5:=by rw[<-an];exact yX w _ _ _ _ _
 have c0:Cx W5 w.heap.size 0 (Xi addr):=by rw[<-an];exact((((Bx.new w (Xi addr) 3).alloc _).alloc _).alloc _).alloc _
 have c1:Cx W5 (w.heap.size+1) 0 (Xi 0):=by
  have:=(((Bx.new (w.alloc (Xk addr)) (Xi 0) 3).alloc (.cells #[Xi 0] 3)).alloc (.cells #[Xi 0,Xi 0,Xu 0] 188)).alloc (.cells #[.bool false] 4);rw[World.size_alloc,an] at this;exact this
 have c2:Cx W5 (w.heap.size+1+1) 0 (Xi 0):=by
  have:=((Bx.new ((w.alloc (Xk addr)).alloc (.cells #[Xi 0] 3)) (Xi 0) 3).alloc (.cells #[Xi 0,Xi 0,Xu 0] 188)).alloc (.cells #[.bool false] 4);rw[World.size_alloc,World.size_alloc,an] at this;exact this
 have c3:Hx W5 (w.heap.size+1+1+1) ⟨0,0,0⟩:=by
  have:=(Hx.new (((w.alloc (Xk addr)).alloc (.cells #[Xi 0] 3)).alloc (.cells #[Xi 0] 3)) ⟨0,0,0⟩).alloc (.cells #[.bool false] 4);rw[World.size_alloc,World.size_alloc,World.size_alloc] at this;rw[<-an];exact this
 have c4:Cx W5 (w.heap.size+1+1+1+1) 0 (.bool false):=by
  have:=Bx.new ((((w.alloc (Xk addr)).alloc (.cells #[Xi 0] 3)).alloc (.cells #[Xi 0] 3)).alloc (.cells #[Xi 0,Xi 0,Xu 0] 188)) (.bool false) 4;rw[World.size_alloc,World.size_alloc,World.size_alloc,World.size_alloc,an] at this;exact this
 have a4:W5.heap.size=w.heap.size+1+1+1+1+1:=by rw[<-an];simp
 have HC:=kq7 a4 a6 c0 c1 c2 c3 c4;clear a4 a6 c0 c1 c2 c3 c4;gi_wp2_with fail
 try rw[an]
 clear an;have HC:=HC.out;obtain⟨b5,e5⟩:=Ii (w.heap.size+1+1+1+1+1)
 try rw[e5]
 rw[e5] at HC;obtain⟨b4,e4⟩:=Ii (w.heap.size+1+1+1+1);rw[e4];rw[e4] at HC;obtain⟨b3,e3⟩:=Ii (w.heap.size+1+1+1);rw[e3];rw[e3] at HC;obtain⟨b2,e2⟩:=Ii (w.heap.size+1+1);rw[e2];rw[e2] at HC;obtain⟨b1,e1⟩:=Ii (w.heap.size+1);rw[e1];rw[e1] at HC;obtain⟨b0,e0⟩:=Ii w.heap.size;obtain⟨a4,a6,c0,c1,c2,c3,c4⟩:=HC;rw[e0];rw[e0] at c0;have HB:=If (show w.heap.size=b0/\b1=b0+1/\b2=b0+2/\b3=b0+3/\b4=b0+4/\b5=b0+5/\W5.heap.size=b5 from⟨e0,by omega,by omega,by omega,by omega,by omega,a4⟩);have H5:=kq6 a6 c0 c1 c2 c3 c4;clear a6 c0 c1 c2 c3 c4 e0 e1 e2 e3 e4 e5;refine(c' _).mono ?_;rintro e w7 ⟨rfl,rfl⟩;rw[a4];clear a4;gi_wp2_with fail;obtain⟨W0,al⟩:=Ii (W5.alloc (.cells #[PV ph] 90));rw[al];have d3:W0.heap.size=b5+1:=by rw[<-al,World.size_alloc,HB.out.2.2.2.2.2.2]
 have c5:W0.cell? ⟨b5,0,none⟩=some (PV ph):=by
  have:=(Bx.new W5 (PV ph) 90).1;rw[HB.out.2.2.2.2.2.2,al] at this;exact this
 have cl:Below w.heap.size w W0:=by rw[<-al];exact H5.a.alloc H5.a.size _
 have C0:Cx W0 b0 0 (Xi addr):=by rw[<-al];exact H5.b.alloc _
 have C1:Cx W0 b1 0 (Xi 0):=by rw[<-al];exact H5.c.alloc _
 have C2:Cx W0 b2 0 (Xi 0):=by rw[<-al];exact H5.d.alloc _
 have C3:Hx W0 b3 ⟨0,0,0⟩:=by rw[<-al];exact H5.e.alloc _
 have C4:Cx W0 b4 0 (.bool false):=by rw[<-al];exact H5.f.alloc _
 clear al H5;have hW:=HR.b.wide cl;refine wpIn_rangeFunc_ownH rfl h1 (gf:=159) (lb:=#[PV b5]) rfl trivial (enters_of func159 (by kernel_rfl) rfl)
  (qR hW (Z:=fun k=>k=b1\/k=b2\/k=b3\/k=b4) (fun k hk=>by
   have h1:=HR.b.slab;obtain⟨dk,h1⟩:=h1;have h1:=h1.yl _ HR.b.yh;have h3:=HR.b.tab.lt;have hb:=HB.out;refine⟨ae (by omega),by omega,?_⟩
   show k≠1
   omega) b5 c5 (by have hb:=HB.out;omega)) fe.trans (fun W l o o' h1 h2 h3 h4=>fe.put W l o o' h1 h2 h3 h4) (ab _ _) (fun _=>rfl)
  (fun ad W=>(fS addr (gt ad)=none/\Cx W b0 0 (Xi addr)/\Cx W b1 0 (Xi 0)/\Cx W b2 0 (Xi 0)/\Hx W b3 ⟨0,0,0⟩/\Cx W b4 0 (.bool false))/\Below w.heap.size w W)
  (fun cd ad W=>(cd=.ret/\(∃p k x,fS addr (gt ad)=some (p,k,x)/\Cx W b1 0 (Xi p)/\Cx W b2 0 (Xi k)/\Hx W b3 x)/\Cx W b4 0 (.bool true))/\Below w.heap.size w W)
  (OwnFrom.and (Own.from (fun s A B row hs hg hr=>⟨hs.1,hs.2.1.kept hg hr,hs.2.2.1.kept hg hr,hs.2.2.2.1.kept hg hr,hs.2.2.2.2.1.kept hg hr,hs.2.2.2.2.2.kept hg hr⟩) _) (ownFrom_below Ih (by have hb:=HB.out;omega)))
  (fun cd=>OwnFrom.and (Own.from (fun s A B row hs hg hr=>⟨hs.1,(let ⟨p,k,x,k1,k2,k3,k4⟩:=hs.2.1;⟨p,k,x,k1,k2.kept hg hr,k3.kept hg hr,k4.kept hg hr⟩),hs.2.2.kept hg hr⟩) _) (ownFrom_below Ih (by have hb:=HB.out;omega)))
  ⟨⟨rfl,C0,C1,C2,C3,C4⟩,cl⟩
  (fun x a' W=>∃B,b4<B/\Hx W B x.1.2/\a'= { tmps:=#[PV ph,Xi addr,undef,PV b0,PV b1,PV b2,PV b3,PV b4,Xi x.1.1,PV B,undef,undef,undef,PV ph,.func (.func 159) #[] #[PV b5],Xi x.1.1,fT x.1.2,undef,undef,undef,undef,undef,undef,undef,undef,undef,undef,undef,undef,undef,undef,undef,undef,undef,undef,undef,undef,undef,undef,undef,undef,undef,undef,undef,undef,undef,undef,undef,undef,undef,undef,undef,undef,undef,undef,undef,undef,undef,undef,undef,undef,undef,undef,undef,undef,undef],defers:=[] })
  (fun x a' _ X W' row hs hg hr=>by
   obtain⟨B,k1,k2,k3⟩:=hs;exact⟨B,k1,k2.kept hg (fun r e=>(hr r e).2),k3⟩)
  ?assign ?body ?done ?stop
 case assign=>
  rintro l ad ⟨⟨p,kd,xn,xw⟩,hx⟩ W K ⟨⟨i0,i1,i2,i3,i4,i5⟩,hB⟩ hK;have HH:=kq7 i0 i1 i2 i3 i4 i5 hB;have HK:=If hK;clear i0 i1 i2 i3 i4 i5 hB hK;simp only[mF,fT]
  gi_wp2
  have bo:=HH.g;refine HK.out _ _ ((KeepsOthers.alloc _ _).from _) (fe.of_below ((ab _ W).alloc Ih _)) ⟨⟨HH.a,HH.b.alloc _,HH.c.alloc _,HH.d.alloc _,HH.e.alloc _,HH.f.alloc _⟩,bo.alloc bo.size _⟩ ⟨W.heap.size,?_,Hx.new W ⟨kd,xn,xw⟩,rfl⟩;exact HH.f.lt
 case body=>
  rintro l ad ⟨⟨p,kd,xn,xw⟩,hx⟩ a' W hl cp ⟨⟨i0,i1,i2,i3,i4,i5⟩,hB⟩ ⟨B,bo,a3,rfl⟩ cr;simp only at hx a3;obtain⟨bf,bj,bk,bm⟩:=hx;have hv:∀(hx:_),gt (ad++[(⟨(p,⟨kd,xn,xw⟩),hx⟩:iH)])=gt ad++[(p,⟨kd,xn,xw⟩)]:=fun hx=>by
   show (ad++[(⟨(p,⟨kd,xn,xw⟩),hx⟩:iH)]).map (·.1)=_
   rw[aJ]
   rfl
  have b':=qx addr (p,⟨kd,xn,xw⟩) (gt ad) i0;have cs:=lO addr p ⟨kd,xn,xw⟩ [];rw[<- @hv ⟨bf,bj,bk,bm⟩] at b';have hf:=b'.trans cs;clear b' cs hv;have a0:=i1.1;obtain⟨q1,g1⟩:=id i2;obtain⟨q2,g2⟩:=id i3;obtain⟨q3,g3⟩:=i4.c0;obtain⟨q4,g4⟩:=i4.c1;obtain⟨q5,g5⟩:=i4.c2;obtain⟨q6,g6⟩:=id i5;have x0:=a3.c0.1;have x1:=a3.c1.1;have x2:=a3.c2.1;have HH:=kq10 i0 i1 i2 i3 i4 i5 hB a3 hl cp;have HF:=If hf;clear i0 i1 i2 i3 i4 i5 hB hf a3 hl cp
  by_cases h2:kd=2/\addr=p*64+2
  ·obtain⟨rfl,rfl⟩:=h2;gi_wp2_with fail;have hb:=HB.out;have n1:¬B=b1:=by omega
   have n2:¬B=b2:=by omega
   have n3:¬B=b3:=by omega
   have n4:¬B=b4:=by omega
   have m1:¬b1=b2:=by omega
   have m2:¬b1=b3:=by omega
   have m3:¬b2=b3:=by omega
   have m4:¬b1=b4:=by omega
   have m5:¬b2=b4:=by omega
   have m6:¬b3=b4:=by omega
   clear hb;obtain⟨I,ai,au⟩:=uO B ⟨2,xn,xw⟩;have ca:∀x:Fq I,x.to.cell? ⟨B,0,none⟩=some (Xi 2):=fun x=>(au _ x.ok).c0.1;have cb:∀x:Fq I,x.to.cell? ⟨B,1,none⟩=some (Xi xn):=fun x=>(au _ x.ok).c1.1;have cc:∀x:Fq I,x.to.cell? ⟨B,2,none⟩=some (Xu xw):=fun x=>(au _ x.ok).c2.1;have bs:I W.drew:=ai _ HH.h;refine yg I (.take 0 (.take 1 (.go 2 (.go 3 (.go 4 (.go 5 .nil)))))) (by kernel_rfl) (by kernel_rfl) (by kernel_rfl) bs ?_
   iterate 2
    refine' pT ?_ ?_;rotate_left
    ·intro x;go_simp
     try rfl
    try simp only[pu]
   have a1:=HH.h;have HI:=kq2 a1 (a1.other (j:=0) (Xi p) n1);have HJ:=kq2 (HI.b.other (j:=0) (Xi 0) n2) True.intro;have HK:=If (((HJ.a.other (j:=0) (Xi 2) n3).other (j:=1) (Xi xn) n3).other (j:=2) (Xu xw) n3);have HL:=If (HK.out.other (j:=0) (.bool true) n4);clear a1;refine pD fun K hK=>?_;go_simp
   try go_simp
   refine hK.out _ _ (ai _ (by exact Hx.drew HI.b)) ?_;clear hK K
   try simp only[pu]
   refine pD fun K hK=>?_;go_simp
   try go_simp
   refine hK.out _ _ (ai _ (by exact Hx.drew HJ.a)) ?_;clear hK K
   try simp only[pu]
   refine pD fun K hK=>?_;go_simp
   try go_simp
   refine hK.out _ _ (ai _ (by exact Hx.drew HK.out)) ?_;clear hK K
   try simp only[pu]
   refine pD fun K hK=>?_;go_simp
   try go_simp
   refine hK.out _ _ (ai _ (by exact Hx.drew HL.out)) ?_;clear hK K
   try simp only[pu]
   refine jy ?_;gi_wp2_with fail;obtain⟨r1,r2,r3⟩:=us (n:=W0.heap.size) p 0 ⟨2,xn,xw⟩ HH.c HH.d HH.e HH.f HH.g m1 m2 m3 m4 m5 m6 (by have hb:=HB.out;omega);refine⟨r1,⟨rfl,⟨p,0,⟨2,xn,xw⟩,?_,r2.1,r2.2.1,r2.2.2.1⟩,r2.2.2.2⟩,r3⟩;rw[HF.out,if_pos (by simp)]
  ·have hd:((kd:Int)==2)=false\/(((kd:Int)==2)=true/\((addr:Int)==(p:Int)*64+2)=false):=by
    by_cases e:kd=2
    ·refine ae ⟨by rw[e];rfl,?_⟩;have:¬addr=p*64+2:=fun e2=>h2 ⟨e,e2⟩
     simp
     omega
    ·exact aa (by simp;omega)
   rw[if_neg h2] at HF;have HD:=If hd;clear hd h2
   by_cases h3:kd≠1\/addr / 64≠p
   ·rw[if_pos h3] at HF;have he:((kd:Int) !=1)=true\/(((kd:Int) !=1)=false/\((addr:Int) / 64 !=(p:Int))=true):=by
     by_cases e:kd=1
     ·refine ae ⟨by rw[e];rfl,?_⟩;have:¬addr / 64=p:=fun e2=>by rcases h3 with h3 | h3<;>exact h3 (by assumption)
      simp
      omega
     ·exact aa (by simp;omega)
    have HE:=If he;clear he h3;have cm:fS addr (gt (ad++[(⟨(p,⟨kd,xn,xw⟩),⟨bf,bj,bk,bm⟩⟩:iH)]))=none:=HF.out;have HN:=If cm;clear cm
    rcases HD.out with hd | ⟨hd,dn⟩<;>rcases HE.out with he | ⟨he,c8⟩
    all_goals
     gi_wp2_with fail;exact⟨KeepsFrom.refl _ _,fe.refl _ _ _,⟨HN.out,HH.b,HH.c,HH.d,HH.e,HH.f⟩,HH.g⟩
   ·rw[if_neg h3] at HF;have c6:kd=1/\addr / 64=p:=⟨by omega,by omega⟩;obtain⟨rfl,hp⟩:=c6;have hd:(((1:Nat):Int)==2)=false:=rfl;have he:(((1:Nat):Int) !=1)=false:=rfl;have c8:((addr:Int) / 64 !=(p:Int))=false:=by simp;omega
    clear h3;obtain⟨er,cw⟩:=wW xn;have bc:CallsIn Fence.wide 4 prog 117 #[Xi xn] W _:=callsIn_wide.2 (qa xn W);rw[cw] at bc;have c7:=nX xn;obtain⟨m,hm⟩:=Ii (eJ xn);rw[hm] at bc c7;have HS:=kq2 bc hm;clear bc cw hm;gi_wp2_with fail;refine(CallsIn.inRound l HS.a).mono ?_;rintro e w2 ⟨rfl,a5⟩;have HW:=If a5;clear a5;gi_wp2_with fail;clear a0 x0 x1 x2 q1 q2 q3 q4 q5 q6 g1 g2 g3 g4 g5 g6
    gi_loopw [12,45] (fun _ i wr=>∃k:Nat,k<=m/\i=Xi k/\Hid (Below W.heap.size W wr/\∀j,j<k->(decide (fF p xn j=addr) && jI xw j)=false)) (fun _ i _=>m-(intOf i).toNat)
    case atStart=>exact⟨0,by omega,rfl,If ⟨HW.out,fun j hj=>by omega⟩⟩
    case round=>
     obtain⟨k,hk,rfl,hr⟩:=hrel
     by_cases cr:k<m
     ·have d1:(k:Int)<m:=by omega
      have ba:=HH.h;have a8:=ba.below hr.out.1 ba.lt;have b9:=HH.b.below hr.out.1 HH.b.lt;have ca:∀x:Fq (Below wr.heap.size wr),x.to.cell? ⟨b0,0,none⟩=some (Xi addr):=fun x=>(b9.below x.ok b9.lt).1;have cb:∀x:Fq (Below wr.heap.size wr),x.to.cell? ⟨B,1,none⟩=some (Xi xn):=fun x=>(a8.below x.ok a8.lt).c1.1;have cc:∀x:Fq (Below wr.heap.size wr),x.to.cell? ⟨B,2,none⟩=some (Xu xw):=fun x=>(a8.below x.ok a8.lt).c2.1;have a9:∀x:Fq (Below wr.heap.size wr),CallsIn Fence.wide 4 prog 119 #[Xi p,Xi xn,Xi k] x.to _:=fun x=>CallsIn.keeps_below (callsIn_wide.2 (uJ p xn k x.to (by omega) (by omega) (by omega)));have a7:∀x:Fq (Below wr.heap.size wr),CallsIn Fence.wide 4 prog 118 #[Xu xw,Xi k] x.to _:=fun x=>CallsIn.keeps_same (callsIn_wide.2 (zx xw k x.to (by omega) (by omega)));obtain⟨P,hP⟩:=Ii (fF p xn k);obtain⟨bt,bv⟩:=Ii (jI xw k);rw[hP] at a9;rw[bv] at a7;have HP:=kq5 hP bv hr.out.1 hr.out.2 ba;have bd:=hr.out.1.size;clear hP bv hr ba a8 b9
      by_cases hpa:P=addr
      ·obtain rfl:=hpa
       cases bt with
       | true=>
        gi_wp2_with fail;refine pq (Below wr.heap.size wr) (by kernel_rfl) (by kernel_rfl) (by kernel_rfl) ⟨rfl,rfl,rfl,Nat.le_refl _,fun _ _=>rfl⟩ fun⟨x0⟩=>?_
        repeat (first | gi_big_quiet_skip | (gi_big_quiet_want;gi_big_quiet_op;first | go_big_quiet_on | (apply Exists.intro;refine⟨fun x=>?_,?_⟩;(· first | exact CallsIn.inRound l (a9 x) | exact CallsIn.inRound l (a7 x));go_big_quiet_on)))
        refine wpQuietIn_nil ?_;rintro _ ⟨x,rfl⟩;have hx:=x.ok;have i2:=(HH.c.below HP.c HH.c.lt);have i3:=(HH.d.below HP.c HH.d.lt);have i4:=(HH.e.below HP.c HH.e.lt);have i5:=(HH.f.below HP.c HH.f.lt);have ib:=HP.e.below HP.c HP.e.lt;have bl:=HH.g.trans ((HP.c.trans (hx.mono bd)).mono HH.g.size)
        replace i2:=i2.below hx i2.lt
        replace i3:=i3.below hx i3.lt
        replace i4:=i4.below hx i4.lt
        replace i5:=i5.below hx i5.lt
        replace ib:=ib.below hx ib.lt
        have cn:KeepsFrom W0.heap.size W x.to:=KeepsFrom.of_grownBy (lf (HP.c.trans (hx.mono bd))) (fun j e=>by cases e);generalize x.to=V at*;clear ca cb cc a9 a7 x x0 hx;obtain⟨q1,g1⟩:=id i2;obtain⟨q2,g2⟩:=id i3;obtain⟨q3,g3⟩:=i4.c0;obtain⟨q4,g4⟩:=i4.c1;obtain⟨q5,g5⟩:=i4.c2;obtain⟨q6,g6⟩:=id i5;have HV:=kq7 i2 i3 i4 i5 bl cn ib;clear i2 i3 i4 i5 bl cn ib;gi_wp2_with fail;have hb:=HB.out;have n1:¬B=b1:=by omega
        have n2:¬B=b2:=by omega
        have n3:¬B=b3:=by omega
        have n4:¬B=b4:=by omega
        have m1:¬b1=b2:=by omega
        have m2:¬b1=b3:=by omega
        have m3:¬b2=b3:=by omega
        have m4:¬b1=b4:=by omega
        have m5:¬b2=b4:=by omega
        have m6:¬b3=b4:=by omega
        clear hb;obtain⟨I,ai,au⟩:=uO B ⟨1,xn,xw⟩;have ca:∀x:Fq I,x.to.cell? ⟨B,0,none⟩=some (Xi 1):=fun x=>(au _ x.ok).c0.1;have cb:∀x:Fq I,x.to.cell? ⟨B,1,none⟩=some (Xi xn):=fun x=>(au _ x.ok).c1.1;have cc:∀x:Fq I,x.to.cell? ⟨B,2,none⟩=some (Xu xw):=fun x=>(au _ x.ok).c2.1;have bs:I V.drew:=ai _ HV.g;refine yg I (.take 0 (.take 1 (.take 2 (.go 3 (.go 4 (.go 5 (.go 6 .nil))))))) (by kernel_rfl) (by kernel_rfl) (by kernel_rfl) bs ?_
        iterate 3
         refine' pT ?_ ?_;rotate_left
         ·intro x;go_simp
          try rfl
         try simp only[pu]
        have a1:=HV.g;have HI:=kq2 a1 (a1.other (j:=0) (Xi p) n1);have HJ:=kq2 (HI.b.other (j:=0) (Xi k) n2) True.intro;have HK:=If (((HJ.a.other (j:=0) (Xi 1) n3).other (j:=1) (Xi xn) n3).other (j:=2) (Xu xw) n3);have HL:=If (HK.out.other (j:=0) (.bool true) n4);clear a1;refine pD fun K hK=>?_;go_simp
        try go_simp
        refine hK.out _ _ (ai _ (by exact Hx.drew HI.b)) ?_;clear hK K
        try simp only[pu]
        refine pD fun K hK=>?_;go_simp
        try go_simp
        refine hK.out _ _ (ai _ (by exact Hx.drew HJ.a)) ?_;clear hK K
        try simp only[pu]
        refine pD fun K hK=>?_;go_simp
        try go_simp
        refine hK.out _ _ (ai _ (by exact Hx.drew HK.out)) ?_;clear hK K
        try simp only[pu]
        refine pD fun K hK=>?_;go_simp
        try go_simp
        refine hK.out _ _ (ai _ (by exact Hx.drew HL.out)) ?_;clear hK K
        try simp only[pu]
        refine jy ?_;gi_wp2_with fail;obtain⟨r1,r2,r3⟩:=us (n:=W0.heap.size) p k ⟨1,xn,xw⟩ HV.a HV.b HV.c HV.d HV.e m1 m2 m3 m4 m5 m6 (by have hb:=HB.out;omega);have bb:fS P (gt (ad++[(⟨(p,⟨1,xn,xw⟩),⟨bf,bj,bk,bm⟩⟩:iH)]))=some (p,k,⟨1,xn,xw⟩):=by
         rw[HF.out];have hs:mB P p ⟨1,xn,xw⟩=some k:=by
          unfold mB;exact AV (by rw[HS.b];exact cr) (by simp[HP.a,HP.b]) HP.d
         rw[hs]
        exact⟨HV.f.trans r1,⟨rfl,⟨p,k,⟨1,xn,xw⟩,bb,r2.1,r2.2.1,r2.2.2.1⟩,r2.2.2.2⟩,r3⟩
       | false=>
        gi_wp2_with fail;refine pq (Below wr.heap.size wr) (by kernel_rfl) (by kernel_rfl) (by kernel_rfl) ⟨rfl,rfl,rfl,Nat.le_refl _,fun _ _=>rfl⟩ fun⟨x0⟩=>?_
        repeat (first | gi_big_quiet_skip | (gi_big_quiet_want;gi_big_quiet_op;first | go_big_quiet_on | (apply Exists.intro;refine⟨fun x=>?_,?_⟩;(· first | exact CallsIn.inRound l (a9 x) | exact CallsIn.inRound l (a7 x));go_big_quiet_on)))
        refine wpQuietIn_nil ?_;rintro _ ⟨x,rfl⟩;have hx:=HP.c.trans (x.ok.mono bd);generalize x.to=V at*;gi_wp2_with fail;exact⟨⟨k+1,by omega,by simp,If ⟨hx,fun j hj=>by
         by_cases hjk:j<k
         ·exact HP.d j hjk
         ·obtain rfl:j=k:=by omega
          rw[HP.b]
          simp⟩⟩,by simp[intOf];omega⟩
      ·have d2:((P:Int)==addr)=false:=by simp;omega
       gi_wp2_with fail;refine pq (Below wr.heap.size wr) (by kernel_rfl) (by kernel_rfl) (by kernel_rfl) ⟨rfl,rfl,rfl,Nat.le_refl _,fun _ _=>rfl⟩ fun⟨x0⟩=>?_
       repeat (first | gi_big_quiet_skip | (gi_big_quiet_want;gi_big_quiet_op;first | go_big_quiet_on | (apply Exists.intro;refine⟨fun x=>?_,?_⟩;(· first | exact CallsIn.inRound l (a9 x) | exact CallsIn.inRound l (a7 x));go_big_quiet_on)))
       refine wpQuietIn_nil ?_;rintro _ ⟨x,rfl⟩;have hx:=HP.c.trans (x.ok.mono bd);generalize x.to=V at*;gi_wp2_with fail;exact⟨⟨k+1,by omega,by simp,If ⟨hx,fun j hj=>by
        by_cases hjk:j<k
        ·exact HP.d j hjk
        ·obtain rfl:j=k:=by omega
         rw[HP.a]
         simp[hpa]⟩⟩,by simp[intOf];omega⟩
     ·obtain rfl:k=m:=by omega
      have bb:fS addr (gt (ad++[(⟨(p,⟨1,xn,xw⟩),⟨bf,bj,bk,bm⟩⟩:iH)]))=none:=by
       rw[HF.out];have hs:mB addr p ⟨1,xn,xw⟩=none:=by
        unfold mB;exact AU (fun j hj=>hr.out.2 j (by rw[HS.b] at hj;exact hj))
       rw[hs]
       rfl
      have HN:=kq2 bb hr.out.1;clear bb hr;gi_wp2_with fail;exact⟨KeepsFrom.of_grownBy (lf HN.b) (fun j e=>by cases e),fe.of_below HN.b,⟨HN.a,HH.b.below HN.b HH.b.lt,HH.c.below HN.b HH.c.lt,HH.d.below HN.b HH.d.lt,HH.e.below HN.b HH.e.lt,HH.f.below HN.b HH.f.lt⟩,HH.g.trans (HN.b.mono HH.g.size)⟩
 case done=>
  rintro D ys W hD hS ⟨⟨i0,i1,i2,i3,i4,i5⟩,hB⟩ hK;obtain⟨k1,f1⟩:=id i2;obtain⟨k2,f2⟩:=id i3;obtain⟨k3,f3⟩:=i4.c0;obtain⟨k4,f4⟩:=i4.c1;obtain⟨k5,f5⟩:=i4.c2;obtain⟨k6,f6⟩:=id i5;have hb:=HB.out;have m1:¬b1=b2:=by omega
  have m2:¬b1=b3:=by omega
  have m3:¬b2=b3:=by omega
  have m4:¬b1=b4:=by omega
  have m5:¬b2=b4:=by omega
  have m6:¬b3=b4:=by omega
  have hw:w.heap.size<=b1/\w.heap.size<=b2/\w.heap.size<=b3/\w.heap.size<=b4:=by omega
  clear hb;have HH:=kq5 i2 i3 i4 i5 hB;rw[hS] at i0;have bu:R=.tuple #[Xi 0,Xi 0,.agg #[Xi 0,Xi 0,Xu 0],.bool false]:=by
   rw[<-HR.a];unfold kb;rw[i0]
   rfl
  clear i0 i1 i2 i3 i4 i5 hB hS
  gi_wp2
  have a2:=((((((KeepsOthers.setCell W ⟨b1,0,none⟩ (Xi 0)).trans (KeepsOthers.setCell _ ⟨b2,0,none⟩ (Xi 0))).trans (KeepsOthers.setCell _ ⟨b3,0,none⟩ (Xi 0))).trans (KeepsOthers.setCell _ ⟨b3,1,none⟩ (Xi 0))).trans (KeepsOthers.setCell _ ⟨b3,2,none⟩ (Xu 0))).trans (KeepsOthers.setCell _ ⟨b4,0,none⟩ (.bool false))).same D _ hK rfl;refine⟨by simp,.inl ⟨_,_,rfl,run_takeDeferred a2,?_⟩⟩;have r1:=(((((((HH.a.set (Xi 0)).other (Xi 0) m1).other (j:=0) (Xi 0) m2).other (j:=1) (Xi 0) m2).other (j:=2) (Xu 0) m2).other (j:=0) (.bool false) m4).put (o':=.deferred none) a2 rfl).1;have r2:=(((((((HH.b.other (j:=0) (Xi 0) (Ne.symm m1)).set (Xi 0)).other (j:=0) (Xi 0) m3).other (j:=1) (Xi 0) m3).other (j:=2) (Xu 0) m3).other (j:=0) (.bool false) m5).put (o':=.deferred none) a2 rfl).1;have cx:=((((HH.c.other (C:=b1) (j:=0) (Xi 0) (Ne.symm m2)).other (C:=b2) (j:=0) (Xi 0) (Ne.symm m3)).set ⟨0,0,0⟩).other (C:=b4) (j:=0) (.bool false) m6);have ar:=cx.put (o':=.deferred none) a2 rfl;have r3:=ar.c0.1;have r4:=ar.c1.1;have r5:=ar.c2.1;have r6:=(((((((HH.d.other (j:=0) (Xi 0) (Ne.symm m4)).other (j:=0) (Xi 0) (Ne.symm m5)).other (j:=0) (Xi 0) (Ne.symm m6)).other (j:=1) (Xi 0) (Ne.symm m6)).other (j:=2) (Xu 0) (Ne.symm m6)).set (.bool false)).put (o':=.deferred none) a2 rfl).1;clear cx ar
  dsimp only at r3 r4 r5
  rw[show ((0:Nat):Int)=0 from rfl] at r3 r4 r5;subst bu;refine⟨.tuple #[Xi 0,Xi 0,.agg #[Xi 0,Xi 0,Xu 0],.bool false],?_,rfl,((((((HH.e.setCell (p:=⟨b1,0,none⟩) hw.1 _).setCell (p:=⟨b2,0,none⟩) hw.2.1 _).setCell (p:=⟨b3,0,none⟩) hw.2.2.1 _).setCell (p:=⟨b3,1,none⟩) hw.2.2.1 _).setCell (p:=⟨b3,2,none⟩) hw.2.2.1 _).setCell (p:=⟨b4,0,none⟩) hw.2.2.2 _).trans (belowK_b (w:=w) Ih _ D _ _ (by have hb:=HB.out;omega) a2 rfl rfl)⟩
  simp[results,f108,go_sem,r1,r2,r3,r4,r5,r6]
 case stop=>
  rintro D cd ad W hD dc ⟨⟨rfl,⟨p,k,x,cv,ch,a5,cj⟩,ck⟩,hB⟩ hK;obtain⟨t,ht⟩:=dc;have bu:R=.tuple #[Xi p,Xi k,.agg #[Xi x.kind,Xi x.n,Xu x.w],.bool true]:=by
   rw[<-HR.a];unfold kb;rw[<-ht,qy addr (p,k,x) _ t cv]
   rfl
  have HH:=If hB;have r1:=(ch.put (o':=.deferred none) hK rfl).1;have r2:=(a5.put (o':=.deferred none) hK rfl).1;have ar:=cj.put (o':=.deferred none) hK rfl;have r3:=ar.c0.1;have r4:=ar.c1.1;have r5:=ar.c2.1;have r6:=(ck.put (o':=.deferred none) hK rfl).1;clear cv ht ch a5 cj ck hB ar;subst bu
  gi_wp2
  refine⟨by simp,.inl ⟨_,_,rfl,run_takeDeferred hK,?_⟩⟩;refine⟨.tuple #[Xi p,Xi k,.agg #[Xi x.kind,Xi x.n,Xu x.w],.bool true],?_,rfl,HH.out.trans (belowK_b (w:=w) Ih W D _ _ (by have hb:=HB.out;omega) hK rfl rfl)⟩
  simp[results,f108,go_sem,r1,r2,r3,r4,r5,r6]
end
section
open Go.RowKit Tryz Go.BigFrame Go.Maps Go.WideMaps Lf
variable{Y:Nat->Prop}{s:Slab}{w:World}
theorem Eo{pa pm:Nat}{blk:Nat->Nat}(h:b8 w pa pm s Y blk)(p n:Nat)(hg:4096<n):
 Ct 109 #[PV pa,Xi p,Xi n] w fun e w'=>e=.returned (Xi ((s.release p n).1:Nat))/\b8 w' pa pm (s.release p n).2 Y blk/\Fo Y w w':=by
 have ad:=If (ly h);have he:s.release p n=(2,s):=by unfold Slab.release;rw[if_pos (by omega)]
 rw[he];have H:=If h;have ai:1<=n:=by omega
 clear h he;go_enter func109,ntmps109;go_wp2_with fail;refine Jc ad.out ?_;go_wp2_with fail;go_ret;exact⟨rfl,H.out,Fo.refl _ _⟩
theorem Fz.release{ph pa pm:Nat}(h:Fz w ph pa pm s Y)(p n:Nat)(hp:p<=1048575):
 Ct 109 #[PV pa,Xi p,Xi n] w fun e w'=>e=.returned (Xi ((s.release p n).1:Nat))/\Fz w' ph pa pm (s.release p n).2 Y/\Fo Y w w':=by
 obtain⟨ad,hs⟩:=h.slab
 by_cases hn:n<=100000000
 ·refine(En hs p n hp hn).mono ?_;rintro e w' ⟨he,h1,h2⟩;exact⟨he,h.step ⟨ad,h1⟩ h2,h2⟩
 ·refine(Eo hs p n (by omega)).mono ?_;rintro e w' ⟨he,h1,h2⟩;exact⟨he,h.step ⟨ad,h1⟩ h2,h2⟩
theorem G4(a b c d e f:Int)(W:World):(binOp .eql 188 (.agg #[Xi a,Xi b,Xu c]) (.agg #[Xi d,Xi e,Xu f])).run prog W=.ok (.bool (decide (a=d/\b=e/\c=f))) W:=by
 go_simp;by_cases h1:a=d<;>by_cases h2:b=e<;>by_cases h3:c=f<;>simp[h1,h2,h3]
theorem zm{w k:Nat}(hw:w<2^64):iy w k<2^64:=cV Nat.and_le_left hw
theorem Bv{ph pa pm:Nat}(h:Fz w ph pa pm s Y)(p k:Nat)(hp:p<=1048575)(hk:k<64):
 Ct 110 #[PV ph,Xi p,Xi k] w fun e w'=>e=.returned (.tuple #[])/\Fz w' ph pa pm (li s p k) Y/\Fo Y w w':=by
 have au:=getH_lt h p;have ad:=qU h p (by omega);have ht:li s p k=if(⟨(FA s p).kind,(FA s p).n,iy (FA s p).w k⟩:Hr)=⟨1,(FA s p).n,0⟩ then((Ie s p ⟨(FA s p).kind,(FA s p).n,iy (FA s p).w k⟩).release p 1).2 else Ie s p ⟨(FA s p).kind,(FA s p).n,iy (FA s p).w k⟩:=rfl
 rw[ht];clear ht;generalize FA s p=x at*;obtain⟨kd,xn,xw⟩:=x;simp only at au ad⊢;obtain⟨a6,a7,ar⟩:=au;have a4:=fun W=>zo xw k W ar hk;have a5:=zm (k:=k) ar;have al:∀W,Fz W ph pa pm s Y->_:=fun W hW=>oh (hW.own (Xm kd xn (iy xw k:Nat))) p ⟨kd,xn,iy xw k⟩ (by omega) a6 a7 a5;simp only[fT] at ad al;generalize iy xw k=bs at*;generalize Ie s p ⟨kd,xn,bs⟩=s1 at*;have a3:=fun W (hW:Fz W ph pa pm s1 Y)=>hW.release p 1 hp;obtain⟨B,hB⟩:=Ii (decide ((kd:Int)=1/\(xn:Int)=xn/\(bs:Int)=0));have a8:=fun W=>G4 kd xn bs 1 xn 0 W;rw[hB] at a8;have an:((⟨kd,xn,bs⟩:Hr)=⟨1,xn,0⟩)=(B=true):=by
  rw[<-hB]
  simp
  omega
 simp only[an];have hc:=h.cell;have HG:=kq5 ad a4 al a3 h;clear ad a4 al a3 h hB an;go_enter func110,ntmps110;go_wp2_with fail;refine wx HG.a fun w1 hb1=>?_;have H1:=kq2 (HG.e.below hb1) (HG.e.keep hb1);clear hb1;go_wp2_with fail;refine Jc (HG.b _) ?_;go_wp2_with fail;refine(HG.c w1 H1.a).mono ?_;rintro e w3 ⟨rfl,h3,k3⟩;have a2:(w1.alloc (Xm kd xn (bs:Nat))).heap[w1.heap.size]?=some (.cells #[Xi kd,Xi xn,Xu (bs:Nat)] 188 (0,0)):=by
  show (w1.heap.push _)[w1.heap.size]?=_;simp
 have a1:=(k3.block w1.heap.size (ae rfl)).trans a2;obtain⟨b0,b1,b2⟩:=fq a1;have a0:Fo Y w1 (w1.alloc (Xm kd xn (bs:Nat))):=H1.a.keep ((ab _ w1).alloc Ih _);have ai:=h3.mono (fun k hk=>aa hk) HG.e.yh HG.e.yt;have c3:=ai.cell;have H3:=kq2 ai (H1.b.trans (a0.trans (k3.mono fun k hk=>aa hk)));clear h3 k3 a2 a0 a1 ai
 cases B with
 | true=>
  go_wp2_with fail;refine(HG.d _ H3.a).mono ?_;rintro e w4 ⟨rfl,h4,k4⟩;have H4:=kq2 h4 (H3.b.trans k4);clear h4 k4;go_wp2_with fail
  go_end0
  exact⟨rfl,H4.out⟩
 | false=>
  go_wp2_with fail
  go_end0
  exact⟨rfl,H3.out⟩
theorem mH(addr:Nat){p k:Nat}{x:Hr}:∀l:List (Nat×Hr),fS addr l=some (p,k,x)->(p,x)∈l/\k<64
 | (q,y)::l,h=>by
  rw[lO] at h;split at h
  ·injection h with h
   injection h with h1 h2
   injection h2 with h2 h3
   subst h1 h2 h3;exact⟨by simp,by omega⟩
  ·split at h
   ·exact⟨ah _ (mH addr l h).1,(mH addr l h).2⟩
   ·split at h
    ·rename_i j hj;injection h with h
     injection h with h1 h2
     injection h2 with h2 h3
     subst h1 h2 h3;refine⟨by simp,?_⟩;unfold mB at hj;have h4:=bI hj;have h5:=nX y.n;have h6:=bw.1 h4;omega
    ·exact⟨ah _ (mH addr l h).1,(mH addr l h).2⟩
theorem AS{ph pa pm:Nat}(h:Fz w ph pa pm s Y){addr p k:Nat}{x:Hr}(hf:kb s addr=some (p,k,x)):p<=1048575/\k<64/\x.kind<256/\x.n<2^56/\x.w<2^64:=by
 obtain⟨h1,h2⟩:=mH addr _ hf;obtain⟨h3,h4⟩:=oD _ _ h1;have h5:=getH_lt h p;simp only at h3 h4;rw[<-h4] at h5;exact⟨h.wf.top p h3,h2,h5⟩
theorem Bu{ph pa pm:Nat}(h:Fz w ph pa pm s Y)(addr:Nat)(ha:addr<=4611686018427387903):
 Ct 64 #[PV ph,Xi addr] w fun e w'=>e=.returned (Xi ((iM s addr).1:Nat))/\Fz w' ph pa pm (iM s addr).2 Y/\Fo Y w w':=by
 have a1:=qV h;have an:=Bq h addr ha;obtain⟨R,hR⟩:=Ii (iM s addr);rw[hR]
 cases hf:kb s addr with
 | none=>
  rw[hf] at an;have ai:R=(5,s):=by rw[<-hR];unfold iM;rw[hf]
  simp only[od,fT] at an;have HG:=kq4 a1 an ai h;clear a1 an ai h hR hf;go_enter func64,ntmps64;go_wp2_with fail;refine Jc HG.a ?_;go_wp2_with fail;refine wx HG.b fun w1 ad=>?_;have al:=ad.alloc ad.size (Xm (0:Nat) (0:Nat) (0:Nat));have H1:=kq2 (HG.d.below al) (HG.d.keep al);clear ad al;go_wp2_with fail;go_ret;obtain rfl:=HG.c;exact⟨rfl,H1.out⟩
 | some r=>
  obtain⟨p,k,x⟩:=r;have a5:=AS h hf;rw[hf] at an;have ai:R=if x.kind=2 then s.release p x.n else(0,li s p k):=by rw[<-hR];unfold iM;rw[hf]
  obtain⟨kd,xn,xw⟩:=x;simp only[od,fT] at an a5 ai;obtain⟨h1,h2,h3,h4,h5⟩:=a5;have a8:=fun W Z (hW:Fz W ph pa pm s Z)=>hW.release p xn h1;have a6:=fun W (hW:Fz W ph pa pm s Y)=>Bv hW p k h1 h2;have HG:=kq6 a1 an ai h a8 a6;clear a1 an ai h a8 a6 hR hf
  by_cases ar:kd=2
  ·obtain rfl:=ar;go_enter func64,ntmps64;go_wp2_with fail;refine Jc HG.a ?_;go_wp2_with fail;refine wx HG.b fun w1 ad=>?_;have ho:=(HG.d.below ad).own (Xm (2:Nat) xn (xw:Nat));have al:=ad.alloc ad.size (Xm (2:Nat) xn (xw:Nat));have a2:=heap_alloc_new w1 (Xm (2:Nat) xn (xw:Nat));have ba:=ad.size;have H1:=kq3 ho (HG.d.keep al) a2;clear ad al ho;go_wp2_with fail;generalize w1.alloc (Xm (2:Nat) xn (xw:Nat))=W at*;obtain⟨I,a3,a4⟩:∃I:World->Prop,(∀W',Fz W' ph pa pm s (lE Y w1.heap.size)\/Fz W' ph pa pm (s.release p xn).2 (lE Y w1.heap.size)->W'.heap[w1.heap.size]?=some (.cells #[Xi (2:Nat),Xi xn,Xu (xw:Nat)] 188 (0,0))->I W')/\(∀W',I W'->W'.cell? ⟨ph,0,none⟩=some (PV pa)/\W'.heap[w1.heap.size]?=some (.cells #[Xi (2:Nat),Xi xn,Xu (xw:Nat)] 188 (0,0))):=
    ⟨fun W'=>W'.cell? ⟨ph,0,none⟩=some (PV pa)/\W'.heap[w1.heap.size]?=some (.cells #[Xi (2:Nat),Xi xn,Xu (xw:Nat)] 188 (0,0)),fun W' h1 h2=>⟨h1.elim (·.cell) (·.cell),h2⟩,fun W' h=>h⟩
   have bc:∀x:Fq I,x.to.cell? ⟨ph,0,none⟩=some (PV pa):=fun x=>(a4 _ x.ok).1;have hq:=fun x:Fq I=>(a4 _ x.ok).2;obtain⟨a',ad,al⟩:=qf hq;have a9:I W.drew:=a3 _ (aa (H1.a.drewN 1)) a2;clear a2;refine fh I (.take 0 (.take 1 (.take 2 (.take 3 (.take 4 (.take 5 (.take 6 (.go 7 (.take 8 .nil))))))))) (by kernel_rfl) (by kernel_rfl) a9 ?_
   iterate 7
    refine' pT ?_ ?_;rotate_left
    ·intro x;go_simp
     try rfl
    try simp only[pu]
   refine pD fun K hK=>?_;go_simp;refine(HG.e _ _ (H1.a.drewN 1)).mono ?_;rintro e w2 ⟨rfl,au,ar⟩;have a7:=(ar.block w1.heap.size (ae rfl)).trans H1.c;have a0:Fo Y w w2:=H1.b.trans ((H1.a.keep (ab _ _).drew).trans ar |>.mono fun k hk=>aa hk);have H2:=kq2 (au.mono (fun k hk=>aa hk) HG.d.yh HG.d.yt) a0
   try go_simp
   refine hK.out _ _ (a3 _ (ae au) a7) ?_;clear hK K
   try simp only[pu]
   clear ar au a7 a0;refine' pT ?_ ?_;rotate_left
   ·intro x;go_simp
    try rfl
   try simp only[pu]
   refine eP ?_;go_wp2_with fail;go_ret;have ai:=HG.c;rw[if_pos trivial] at ai;subst ai;exact⟨rfl,H2.out⟩
  ·have bb:((kd:Int)==2)=false:=by simp;omega
   go_enter func64,ntmps64;go_wp2_with fail;refine Jc HG.a ?_;go_wp2_with fail;refine wx HG.b fun w1 ad=>?_;have al:=ad.alloc ad.size (Xm kd xn xw);have H1:=kq2 (HG.d.below al) (HG.d.keep al);clear ad al;go_wp2_with fail;refine(HG.f _ H1.a).mono ?_;rintro e w2 ⟨rfl,au,a0⟩;have H2:=kq2 au (H1.b.trans a0);clear au a0;go_wp2_with fail;go_ret;have ai:=HG.c;rw[if_neg ar] at ai;subst ai;exact⟨rfl,H2.out⟩
theorem Ax(t:Hs)(hh:Nat):(t.close hh).2.most=t.most/\(t.close hh).2.last=t.last:=by
 unfold Hs.close;split<;>exact⟨rfl,rfl⟩
theorem sE{ps:Nat}{S:St}(h:Ig w ps S Y)(hi:Fv S)(hh:Nat)(hl:hh<2^64):
 Ct 78 #[PV ps,Xu hh] w fun e w'=>e=.returned (Xi ((S.drop hh).1:Nat))/\Ig w' ps (S.drop hh).2 Y/\Fo Y w w':=by
 have ad:=sD h hi hh hl;have a1:=hi.addr_le hh
 rcases S.at_cases hh with⟨addr,n,h1,h2,_⟩ | ⟨h1,h2⟩
 ·have hR:S.drop hh=((S.t.close hh).1,⟨(iM S.a addr).2,(S.t.close hh).2⟩):=by unfold St.drop;rw[h1];rfl
  rw[hR];rw[h1] at ad a1;simp only at ad a1;have HG:=kq2 ad h;clear ad hR h1 h2 h;go_enter func78,ntmps78;go_wp2_with fail;refine Jc HG.a ?_;have hS:=HG.b;have a0:=Fo.refl Y w;obtain⟨pa,pm,ph,pt,v,hS⟩:=hS;obtain⟨_,_,_,c3,c4⟩:=hS.cells;have H1:=kq2 hS a0;clear hS a0;go_wp2_with fail;refine(Bu H1.a.heap addr (by omega)).mono ?_;rintro e w2 ⟨rfl,ar,al⟩;have ai:=H1.a.arena ar al;obtain⟨_,_,_,_,a3⟩:=ai.cells;have H2:=kq2 ai (H1.b.trans (al.mono fun k hk=>aa hk));clear c3 c4 ar al ai;go_wp2_with fail;refine(EI H2.a.tab hh hl (fun k=>k<w2.heap.size/\k≠pt/\v.ownBlock≠some k) (fun b hb e=>hb.2.2 e.symm)).mono ?_;rintro e w3 ⟨rfl,a2,an⟩;have au:=H2.a.table a2 (Ax _ _) _ (fun k h1 h2 h3=>⟨h1,h2,h3⟩) an (fun b hb=>hb.2.2);have H3:=kq2 au (H2.b.trans (an.mono fun k hk=>⟨H2.a.yl k hk,(H2.a.off k (aa hk)).1,(H2.a.off k (aa hk)).2⟩));clear a2 an au;go_wp2_with fail;go_ret;exact⟨rfl,⟨_,_,_,_,_,H3.a⟩,H3.b⟩
 ·have hR:S.drop hh=(7,S):=by unfold St.drop;rw[h1];rfl
  rw[hR];rw[h1] at ad;have HG:=kq2 ad h;clear ad hR h1 h2 h;go_enter func78,ntmps78;go_wp2_with fail;refine Jc HG.a ?_;have H1:=kq2 HG.b (Fo.refl Y w);go_wp2_with fail;go_ret;exact⟨rfl,H1.out⟩