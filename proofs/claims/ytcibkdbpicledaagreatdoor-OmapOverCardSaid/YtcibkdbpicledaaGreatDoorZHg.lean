/- The heap: find: the walk. -/
import Derived.Test.YtcibkdbpicledaaGreatDoorZHd
set_option maxRecDepth 100000
set_option maxHeartbeats 1600000
namespace Go.Proofs.YtcibkdbpicledaaGreatDoor
section
open Go.RowKit Tryz Go.BigFrame Go.Maps Go.WideMaps Lf
open Go.Shelf
attribute [local go_sem] Oper.semAt_some
theorem yX(w:World)(a b c d e:Obj):Below w.heap.size w (((((w.alloc a).alloc b).alloc c).alloc d).alloc e):=
 (nM w a b c d).alloc (by simp;omega) _
theorem Hx.drew {W:World}{B:Nat}{x:Hr}(h:Hx W B x):Hx W.drew B x:=h
theorem Cx.drew {W:World}{B i:Nat}{v:Value}(h:Cx W B i v):Cx W.drew B i v:=h
theorem us {W w:World}{b1 b2 b3 b4 n:Nat}{v1 v2 v4:Value}{y:Hr}(p k:Nat)(x:Hr)(h1:Cx W b1 0 v1)(h2:Cx W b2 0 v2)(h3:Hx W b3 y)(h4:Cx W b4 0 v4)(hb:Below w.heap.size w W)(m1:¬b1=b2)(m2:¬b1=b3)(m3:¬b2=b3)(m4:¬b1=b4)(m5:¬b2=b4)(m6:¬b3=b4)(hw:w.heap.size<=b1/\w.heap.size<=b2/\w.heap.size<=b3/\w.heap.size<=b4):
 KeepsFrom n W ((((((W.setCell ⟨b1,0,none⟩ (.int .i64 p)).setCell ⟨b2,0,none⟩ (.int .i64 k)).setCell ⟨b3,0,none⟩ (.int .i64 x.kind)).setCell ⟨b3,1,none⟩ (.int .i64 x.n)).setCell ⟨b3,2,none⟩ (.int .u64 x.w)).setCell ⟨b4,0,none⟩ (.bool true)).drew/\
 (Cx ((((((W.setCell ⟨b1,0,none⟩ (.int .i64 p)).setCell ⟨b2,0,none⟩ (.int .i64 k)).setCell ⟨b3,0,none⟩ (.int .i64 x.kind)).setCell ⟨b3,1,none⟩ (.int .i64 x.n)).setCell ⟨b3,2,none⟩ (.int .u64 x.w)).setCell ⟨b4,0,none⟩ (.bool true)).drew b1 0 (.int .i64 p)/\
  Cx ((((((W.setCell ⟨b1,0,none⟩ (.int .i64 p)).setCell ⟨b2,0,none⟩ (.int .i64 k)).setCell ⟨b3,0,none⟩ (.int .i64 x.kind)).setCell ⟨b3,1,none⟩ (.int .i64 x.n)).setCell ⟨b3,2,none⟩ (.int .u64 x.w)).setCell ⟨b4,0,none⟩ (.bool true)).drew b2 0 (.int .i64 k)/\
  Hx ((((((W.setCell ⟨b1,0,none⟩ (.int .i64 p)).setCell ⟨b2,0,none⟩ (.int .i64 k)).setCell ⟨b3,0,none⟩ (.int .i64 x.kind)).setCell ⟨b3,1,none⟩ (.int .i64 x.n)).setCell ⟨b3,2,none⟩ (.int .u64 x.w)).setCell ⟨b4,0,none⟩ (.bool true)).drew b3 x/\
  Cx ((((((W.setCell ⟨b1,0,none⟩ (.int .i64 p)).setCell ⟨b2,0,none⟩ (.int .i64 k)).setCell ⟨b3,0,none⟩ (.int .i64 x.kind)).setCell ⟨b3,1,none⟩ (.int .i64 x.n)).setCell ⟨b3,2,none⟩ (.int .u64 x.w)).setCell ⟨b4,0,none⟩ (.bool true)).drew b4 0 (.bool true))/\
 Below w.heap.size w ((((((W.setCell ⟨b1,0,none⟩ (.int .i64 p)).setCell ⟨b2,0,none⟩ (.int .i64 k)).setCell ⟨b3,0,none⟩ (.int .i64 x.kind)).setCell ⟨b3,1,none⟩ (.int .i64 x.n)).setCell ⟨b3,2,none⟩ (.int .u64 x.w)).setCell ⟨b4,0,none⟩ (.bool true)).drew:=by
 have hx:=((h3.other (C:=b1) (j:=0) (.int .i64 p) (Ne.symm m2)).other (C:=b2) (j:=0) (.int .i64 k) (Ne.symm m3)).set x;have hK:=((((((KeepsOthers.setCell W ⟨b1,0,none⟩ (.int .i64 p)).trans (KeepsOthers.setCell _ ⟨b2,0,none⟩ (.int .i64 k))).trans (KeepsOthers.setCell _ ⟨b3,0,none⟩ (.int .i64 x.kind))).trans (KeepsOthers.setCell _ ⟨b3,1,none⟩ (.int .i64 x.n))).trans (KeepsOthers.setCell _ ⟨b3,2,none⟩ (.int .u64 x.w))).trans (KeepsOthers.setCell _ ⟨b4,0,none⟩ (.bool true))).trans (KeepsOthers.drew _);refine⟨hK.from n,⟨?_,?_,?_,?_⟩,?_⟩
 ·exact Cx.drew ((((((h1.set (.int .i64 p)).other _ m1).other _ m2).other _ m2).other _ m2).other _ m4)
 ·exact Cx.drew ((((((h2.other _ (Ne.symm m1)).set (.int .i64 k)).other _ m3).other _ m3).other _ m3).other _ m5)
 ·exact(hx.other _ m6).drew
 ·exact Cx.drew ((((((h4.other _ (Ne.symm m4)).other _ (Ne.symm m5)).other _ (Ne.symm m6)).other _ (Ne.symm m6)).other _ (Ne.symm m6)).set (.bool true))
 ·exact((((((hb.setCell (p:=⟨b1,0,none⟩) hw.1 _).setCell (p:=⟨b2,0,none⟩) hw.2.1 _).setCell (p:=⟨b3,0,none⟩) hw.2.2.1 _).setCell (p:=⟨b3,1,none⟩) hw.2.2.1 _).setCell (p:=⟨b3,2,none⟩) hw.2.2.1 _).setCell (p:=⟨b4,0,none⟩) hw.2.2.2 _).drew
theorem uO(B:Nat)(y:Hr):∃I:World->Prop,(∀W,Hx W B y->I W)/\(∀W,I W->Hx W B y):=⟨fun W=>Hx W B y,fun _ h=>h,fun _ h=>h⟩
theorem Bq {w:World}{ph pa pm:Nat}{s:Slab}{Y:Nat->Prop}(h:Fz w ph pa pm s Y)(addr:Nat)(ha:addr<=4611686018427387903):
 Cb 117 #[PV ph,.int .i64 addr] w (od (kb s addr)):=by
 refine(callsIn_wide (n:=7)).1 ?_;have h1:1<=7:=by omega
 have ds:Fence.wide.fn 129:=trivial;have dk:Fence.wide.fn 128:=trivial;have dc:Fence.wide.fn 149:=trivial;have dn:Fence.wide.fn 147:=trivial;have cx:∀W,CallsIn Fence.wide 6 prog 128 #[PV ph] W _:=fun W=>callsIn_wide.2 (qQ ph W);obtain⟨R,hR⟩:=Ii (od (kb s addr));rw[hR];have HR:=kq2 hR h;clear hR h;refine callsIn_of_wp_marks func117 rfl trivial ?_ rfl;simp only[ntmps117,bp,ak,aK,Nat.reduceAdd,Nat.reduceSub,aV,aW,bw,aZ,aU,aP];obtain⟨W5,an⟩:=Ii (((((w.alloc (.cells #[.int .i64 addr] 3)).alloc (.cells #[.int .i64 0] 3)).alloc (.cells #[.int .i64 0] 3)).alloc (.cells #[.int .i64 0,.int .i64 0,.int .u64 0] 196)).alloc (.cells #[.bool false] 4));have a4:Below w.heap.size w W5:=by rw[<-an];exact yX w _ _ _ _ _
 have c0:Cx W5 w.heap.size 0 (.int .i64 addr):=by rw[<-an];exact((((Bx.new w (.int .i64 addr) 3).alloc _).alloc _).alloc _).alloc _
 have c1:Cx W5 (w.heap.size+1) 0 (.int .i64 0):=by
  have:=(((Bx.new (w.alloc (.cells #[.int .i64 addr] 3)) (.int .i64 0) 3).alloc (.cells #[.int .i64 0] 3)).alloc (.cells #[.int .i64 0,.int .i64 0,.int .u64 0] 196)).alloc (.cells #[.bool false] 4);rw[World.size_alloc,an] at this;exact this
 have c2:Cx W5 (w.heap.size+1+1) 0 (.int .i64 0):=by
  have:=((Bx.new ((w.alloc (.cells #[.int .i64 addr] 3)).alloc (.cells #[.int .i64 0] 3)) (.int .i64 0) 3).alloc (.cells #[.int .i64 0,.int .i64 0,.int .u64 0] 196)).alloc (.cells #[.bool false] 4);rw[World.size_alloc,World.size_alloc,an] at this;exact this
 have c3:Hx W5 (w.heap.size+1+1+1) ⟨0,0,0⟩:=by
  have:=(Hx.new (((w.alloc (.cells #[.int .i64 addr] 3)).alloc (.cells #[.int .i64 0] 3)).alloc (.cells #[.int .i64 0] 3)) ⟨0,0,0⟩).alloc (.cells #[.bool false] 4);rw[World.size_alloc,World.size_alloc,World.size_alloc] at this;rw[<-an];exact this
 have c4:Cx W5 (w.heap.size+1+1+1+1) 0 (.bool false):=by
  have:=Bx.new ((((w.alloc (.cells #[.int .i64 addr] 3)).alloc (.cells #[.int .i64 0] 3)).alloc (.cells #[.int .i64 0] 3)).alloc (.cells #[.int .i64 0,.int .i64 0,.int .u64 0] 196)) (.bool false) 4;rw[World.size_alloc,World.size_alloc,World.size_alloc,World.size_alloc,an] at this;exact this
 have a2:W5.heap.size=w.heap.size+1+1+1+1+1:=by rw[<-an];simp
 have HC:=kq7 a2 a4 c0 c1 c2 c3 c4;clear a2 a4 c0 c1 c2 c3 c4;gi_wp2_with fail
 try rw[an]
 clear an;have HC:=HC.out;obtain⟨b5,e5⟩:=Ii (w.heap.size+1+1+1+1+1)
 try rw[e5]
 rw[e5] at HC;obtain⟨b4,e4⟩:=Ii (w.heap.size+1+1+1+1);rw[e4];rw[e4] at HC;obtain⟨b3,e3⟩:=Ii (w.heap.size+1+1+1);rw[e3];rw[e3] at HC;obtain⟨b2,e2⟩:=Ii (w.heap.size+1+1);rw[e2];rw[e2] at HC;obtain⟨b1,e1⟩:=Ii (w.heap.size+1);rw[e1];rw[e1] at HC;obtain⟨b0,e0⟩:=Ii w.heap.size;obtain⟨a2,a4,c0,c1,c2,c3,c4⟩:=HC;rw[e0];rw[e0] at c0;have HB:=If (show w.heap.size=b0/\b1=b0+1/\b2=b0+2/\b3=b0+3/\b4=b0+4/\b5=b0+5/\W5.heap.size=b5 from⟨e0,by omega,by omega,by omega,by omega,by omega,a2⟩);have H5:=kq6 a4 c0 c1 c2 c3 c4;clear a4 c0 c1 c2 c3 c4 e0 e1 e2 e3 e4 e5;refine(cx _).mono ?_;rintro e w7 ⟨rfl,rfl⟩;rw[a2];clear a2;gi_wp2_with fail;obtain⟨W0,al⟩:=Ii (W5.alloc (.cells #[PV ph] 126));rw[al];have d1:W0.heap.size=b5+1:=by rw[<-al,World.size_alloc,HB.out.2.2.2.2.2.2]
 have c5:W0.cell? ⟨b5,0,none⟩=some (PV ph):=by
  have:=(Bx.new W5 (PV ph) 126).1;rw[HB.out.2.2.2.2.2.2,al] at this;exact this
 have ch:Below w.heap.size w W0:=by rw[<-al];exact H5.a.alloc H5.a.size _
 have C0:Cx W0 b0 0 (.int .i64 addr):=by rw[<-al];exact H5.b.alloc _
 have C1:Cx W0 b1 0 (.int .i64 0):=by rw[<-al];exact H5.c.alloc _
 have C2:Cx W0 b2 0 (.int .i64 0):=by rw[<-al];exact H5.d.alloc _
 have C3:Hx W0 b3 ⟨0,0,0⟩:=by rw[<-al];exact H5.e.alloc _
 have C4:Cx W0 b4 0 (.bool false):=by rw[<-al];exact H5.f.alloc _
 clear al H5;have hW:=HR.b.wide ch;refine wpIn_rangeFunc_ownH rfl h1 (gf:=151) (lb:=#[PV b5]) rfl trivial (enters_of func151 (by kernel_rfl) rfl)
  (qR hW (Z:=fun k=>k=b1\/k=b2\/k=b3\/k=b4) (fun k hk=>by
   have h1:=HR.b.slab;obtain⟨c7,h1⟩:=h1;have h1:=h1.yl _ HR.b.yh;have h3:=HR.b.tab.lt;have hb:=HB.out;refine⟨ae (by omega),by omega,?_⟩
   show k≠0
   omega) b5 c5 (by have hb:=HB.out;omega)) fe.trans (fun W l o o' h1 h2 h3 h4=>fe.put W l o o' h1 h2 h3 h4) (aa _ _) (fun _=>rfl)
  (fun ad W=>(fS addr (gt ad)=none/\Cx W b0 0 (.int .i64 addr)/\Cx W b1 0 (.int .i64 0)/\Cx W b2 0 (.int .i64 0)/\Hx W b3 ⟨0,0,0⟩/\Cx W b4 0 (.bool false))/\Below w.heap.size w W)
  (fun cd ad W=>(cd=.ret/\(∃p k x,fS addr (gt ad)=some (p,k,x)/\Cx W b1 0 (.int .i64 p)/\Cx W b2 0 (.int .i64 k)/\Hx W b3 x)/\Cx W b4 0 (.bool true))/\Below w.heap.size w W)
  (OwnFrom.and (Own.from (fun s A B row hs hg hr=>⟨hs.1,hs.2.1.kept hg hr,hs.2.2.1.kept hg hr,hs.2.2.2.1.kept hg hr,hs.2.2.2.2.1.kept hg hr,hs.2.2.2.2.2.kept hg hr⟩) _) (ownFrom_below Ih (by have hb:=HB.out;omega)))
  (fun cd=>OwnFrom.and (Own.from (fun s A B row hs hg hr=>⟨hs.1,(let ⟨p,k,x,k1,k2,k3,k4⟩:=hs.2.1;⟨p,k,x,k1,k2.kept hg hr,k3.kept hg hr,k4.kept hg hr⟩),hs.2.2.kept hg hr⟩) _) (ownFrom_below Ih (by have hb:=HB.out;omega)))
  ⟨⟨rfl,C0,C1,C2,C3,C4⟩,ch⟩
  (fun x a' W=>∃B,b4<B/\Hx W B x.1.2/\a'= { tmps:=#[PV ph,.int .i64 addr,undef,PV b0,PV b1,PV b2,PV b3,PV b4,.int .i64 x.1.1,PV B,undef,undef,undef,PV ph,.func (.func 151) #[] #[PV b5],.int .i64 x.1.1,fT x.1.2,undef,undef,undef,undef,undef,undef,undef,undef,undef,undef,undef,undef,undef,undef,undef,undef,undef,undef,undef,undef,undef,undef,undef,undef,undef,undef,undef,undef,undef,undef,undef,undef,undef,undef,undef,undef,undef,undef,undef,undef,undef,undef,undef,undef,undef,undef,undef,undef,undef],defers:=[] })
  (fun x a' _ X W' row hs hg hr=>by
   obtain⟨B,k1,k2,k3⟩:=hs;exact⟨B,k1,k2.kept hg (fun r e=>(hr r e).2),k3⟩)
  ?assign ?body ?done ?stop
 case assign=>
  rintro l ad ⟨⟨p,kd,xn,xw⟩,hx⟩ W K ⟨⟨i0,i1,i2,i3,i4,i5⟩,hB⟩ hK;have HH:=kq7 i0 i1 i2 i3 i4 i5 hB;have HK:=If hK;clear i0 i1 i2 i3 i4 i5 hB hK;simp only[mF,fT]
  gi_wp2
  have bk:=HH.g;refine HK.out _ _ ((KeepsOthers.alloc _ _).from _) (fe.of_below ((aa _ W).alloc Ih _)) ⟨⟨HH.a,HH.b.alloc _,HH.c.alloc _,HH.d.alloc _,HH.e.alloc _,HH.f.alloc _⟩,bk.alloc bk.size _⟩ ⟨W.heap.size,?_,Hx.new W ⟨kd,xn,xw⟩,rfl⟩;exact HH.f.lt
 case body=>
  rintro l ad ⟨⟨p,kd,xn,xw⟩,hx⟩ a' W hl cl ⟨⟨i0,i1,i2,i3,i4,i5⟩,hB⟩ ⟨B,bk,a1,rfl⟩ cm;simp only at hx a1;obtain⟨bc,bd,bf,bj⟩:=hx;have hv:∀(hx:_),gt (ad++[(⟨(p,⟨kd,xn,xw⟩),hx⟩:iH)])=gt ad++[(p,⟨kd,xn,xw⟩)]:=fun hx=>by
   show (ad++[(⟨(p,⟨kd,xn,xw⟩),hx⟩:iH)]).map (·.1)=_
   rw[aL]
   rfl
  have bv:=qx addr (p,⟨kd,xn,xw⟩) (gt ad) i0;have cn:=lO addr p ⟨kd,xn,xw⟩ [];rw[<- @hv ⟨bc,bd,bf,bj⟩] at bv;have hf:=bv.trans cn;clear bv cn hv;have a0:=i1.1;obtain⟨q1,g1⟩:=id i2;obtain⟨q2,g2⟩:=id i3;obtain⟨q3,g3⟩:=i4.c0;obtain⟨q4,g4⟩:=i4.c1;obtain⟨q5,g5⟩:=i4.c2;obtain⟨q6,g6⟩:=id i5;have x0:=a1.c0.1;have x1:=a1.c1.1;have x2:=a1.c2.1;have HH:=kq10 i0 i1 i2 i3 i4 i5 hB a1 hl cl;have HF:=If hf;clear i0 i1 i2 i3 i4 i5 hB hf a1 hl cl
  by_cases h2:kd=2/\addr=p*64+2
  ·obtain⟨rfl,rfl⟩:=h2;gi_wp2_with fail;have hb:=HB.out;have n1:¬B=b1:=by omega
   have n2:¬B=b2:=by omega
   have n3:¬B=b3:=by omega
   have n4:¬B=b4:=by omega
   have m1:¬b1=b2:=by omega
   have m2:¬b1=b3:=by omega
   have m3:¬b2=b3:=by omega
   have m4:¬b1=b4:=by omega
   have m5:¬b2=b4:=by omega
   have m6:¬b3=b4:=by omega
   clear hb;obtain⟨I,ai,ap⟩:=uO B ⟨2,xn,xw⟩;have b8:∀x:Fq I,x.to.cell? ⟨B,0,none⟩=some (.int .i64 2):=fun x=>(ap _ x.ok).c0.1;have b9:∀x:Fq I,x.to.cell? ⟨B,1,none⟩=some (.int .i64 xn):=fun x=>(ap _ x.ok).c1.1;have b':∀x:Fq I,x.to.cell? ⟨B,2,none⟩=some (.int .u64 xw):=fun x=>(ap _ x.ok).c2.1;have bm:I W.drew:=ai _ HH.h;refine yg I (.take 0 (.take 1 (.go 2 (.go 3 (.go 4 (.go 5 .nil)))))) (by kernel_rfl) (by kernel_rfl) (by kernel_rfl) bm ?_
   iterate 2
    refine' pT ?_ ?_;rotate_left
    ·intro x;go_simp
     try rfl
    try simp only[pu]
   have ar:=HH.h;have HI:=kq2 ar (ar.other (j:=0) (.int .i64 p) n1);have HJ:=kq2 (HI.b.other (j:=0) (.int .i64 0) n2) True.intro;have HK:=If (((HJ.a.other (j:=0) (.int .i64 2) n3).other (j:=1) (.int .i64 xn) n3).other (j:=2) (.int .u64 xw) n3);have HL:=If (HK.out.other (j:=0) (.bool true) n4);clear ar;refine pD fun K hK=>?_;go_simp
   try go_simp
   refine hK.out _ _ (ai _ (by exact Hx.drew HI.b)) ?_;clear hK K
   try simp only[pu]
   refine pD fun K hK=>?_;go_simp
   try go_simp
   refine hK.out _ _ (ai _ (by exact Hx.drew HJ.a)) ?_;clear hK K
   try simp only[pu]
   refine pD fun K hK=>?_;go_simp
   try go_simp
   refine hK.out _ _ (ai _ (by exact Hx.drew HK.out)) ?_;clear hK K
   try simp only[pu]
   refine pD fun K hK=>?_;go_simp
   try go_simp
   refine hK.out _ _ (ai _ (by exact Hx.drew HL.out)) ?_;clear hK K
   try simp only[pu]
   refine jy ?_;gi_wp2_with fail;obtain⟨r1,r2,r3⟩:=us (n:=W0.heap.size) p 0 ⟨2,xn,xw⟩ HH.c HH.d HH.e HH.f HH.g m1 m2 m3 m4 m5 m6 (by have hb:=HB.out;omega);refine⟨r1,⟨rfl,⟨p,0,⟨2,xn,xw⟩,?_,r2.1,r2.2.1,r2.2.2.1⟩,r2.2.2.2⟩,r3⟩;rw[HF.out,if_pos (by simp)]
  ·have hd:((kd:Int)==2)=false\/(((kd:Int)==2)=true/\((addr:Int)==(p:Int)*64+2)=false):=by
    by_cases e:kd=2
    ·refine ae ⟨by rw[e];rfl,?_⟩;have:¬addr=p*64+2:=fun e2=>h2 ⟨e,e2⟩
     simp
     omega
    ·exact ab (by simp;omega)
   rw[if_neg h2] at HF;have HD:=If hd;clear hd h2
   by_cases h3:kd≠1\/addr / 64≠p
   ·rw[if_pos h3] at HF;have he:((kd:Int) !=1)=true\/(((kd:Int) !=1)=false/\((addr:Int) / 64 !=(p:Int))=true):=by
     by_cases e:kd=1
     ·refine ae ⟨by rw[e];rfl,?_⟩;have:¬addr / 64=p:=fun e2=>by rcases h3 with h3 | h3<;>exact h3 (by assumption)
      simp
      omega
     ·exact ab (by simp;omega)
    have HE:=If he;clear he h3;have cj:fS addr (gt (ad++[(⟨(p,⟨kd,xn,xw⟩),⟨bc,bd,bf,bj⟩⟩:iH)]))=none:=HF.out;have HN:=If cj;clear cj
    rcases HD.out with hd | ⟨hd,c'⟩<;>rcases HE.out with he | ⟨he,cw⟩
    all_goals
     gi_wp2_with fail;exact⟨KeepsFrom.refl _ _,fe.refl _ _ _,⟨HN.out,HH.b,HH.c,HH.d,HH.e,HH.f⟩,HH.g⟩
   ·rw[if_neg h3] at HF;have cu:kd=1/\addr / 64=p:=⟨by omega,by omega⟩;obtain⟨rfl,hp⟩:=cu;have hd:(((1:Nat):Int)==2)=false:=rfl;have he:(((1:Nat):Int) !=1)=false:=rfl;have cw:((addr:Int) / 64 !=(p:Int))=false:=by simp;omega
    clear h3;obtain⟨er,cr⟩:=wW xn;have ba:CallsIn Fence.wide 4 prog 129 #[.int .i64 xn] W _:=callsIn_wide.2 (qk xn W);rw[cr] at ba;have cv:=nX xn;obtain⟨m,hm⟩:=Ii (eJ xn);rw[hm] at ba cv;have HS:=kq2 ba hm;clear ba cr hm;gi_wp2_with fail;refine(CallsIn.inRound l HS.a).mono ?_;rintro e w2 ⟨rfl,a3⟩;have HW:=If a3;clear a3;gi_wp2_with fail;clear a0 x0 x1 x2 q1 q2 q3 q4 q5 q6 g1 g2 g3 g4 g5 g6
    gi_loopw [12,45] (fun _ i wr=>∃k:Nat,k<=m/\i=.int .i64 k/\Hid (Below W.heap.size W wr/\∀j,j<k->(decide (fF p xn j=addr) && jI xw j)=false)) (fun _ i _=>m-(intOf i).toNat)
    case atStart=>exact⟨0,by omega,rfl,If ⟨HW.out,fun j hj=>by omega⟩⟩
    case round=>
     obtain⟨k,hk,rfl,hr⟩:=hrel
     by_cases cm:k<m
     ·have dv:(k:Int)<m:=by omega
      have a8:=HH.h;have a6:=a8.below hr.out.1 a8.lt;have bu:=HH.b.below hr.out.1 HH.b.lt;have b8:∀x:Fq (Below wr.heap.size wr),x.to.cell? ⟨b0,0,none⟩=some (.int .i64 addr):=fun x=>(bu.below x.ok bu.lt).1;have b9:∀x:Fq (Below wr.heap.size wr),x.to.cell? ⟨B,1,none⟩=some (.int .i64 xn):=fun x=>(a6.below x.ok a6.lt).c1.1;have b':∀x:Fq (Below wr.heap.size wr),x.to.cell? ⟨B,2,none⟩=some (.int .u64 xw):=fun x=>(a6.below x.ok a6.lt).c2.1;have a7:∀x:Fq (Below wr.heap.size wr),CallsIn Fence.wide 4 prog 147 #[.int .i64 p,.int .i64 xn,.int .i64 k] x.to _:=fun x=>CallsIn.keeps_below (callsIn_wide.2 (uJ p xn k x.to (by omega) (by omega) (by omega)));have a5:∀x:Fq (Below wr.heap.size wr),CallsIn Fence.wide 4 prog 149 #[.int .u64 xw,.int .i64 k] x.to _:=fun x=>CallsIn.keeps_same (callsIn_wide.2 (zx xw k x.to (by omega) (by omega)));obtain⟨P,hP⟩:=Ii (fF p xn k);obtain⟨bt,bs⟩:=Ii (jI xw k);rw[hP] at a7;rw[bs] at a5;have HP:=kq5 hP bs hr.out.1 hr.out.2 a8;have bb:=hr.out.1.size;clear hP bs hr a8 a6 bu
      by_cases hpa:P=addr
      ·obtain rfl:=hpa
       cases bt with
       | true=>
        gi_wp2_with fail;refine pq (Below wr.heap.size wr) (by kernel_rfl) (by kernel_rfl) (by kernel_rfl) ⟨rfl,rfl,rfl,Nat.le_refl _,fun _ _=>rfl⟩ fun⟨x0⟩=>?_
        repeat (first | gi_big_quiet_skip | (gi_big_quiet_want;gi_big_quiet_op;first | go_big_quiet_on | (apply Exists.intro;refine⟨fun x=>?_,?_⟩;(· first | exact CallsIn.inRound l (a7 x) | exact CallsIn.inRound l (a5 x));go_big_quiet_on)))
        refine wpQuietIn_nil ?_;rintro _ ⟨x,rfl⟩;have hx:=x.ok;have i2:=(HH.c.below HP.c HH.c.lt);have i3:=(HH.d.below HP.c HH.d.lt);have i4:=(HH.e.below HP.c HH.e.lt);have i5:=(HH.f.below HP.c HH.f.lt);have ib:=HP.e.below HP.c HP.e.lt;have bl:=HH.g.trans ((HP.c.trans (hx.mono bb)).mono HH.g.size)
        replace i2:=i2.below hx i2.lt
        replace i3:=i3.below hx i3.lt
        replace i4:=i4.below hx i4.lt
        replace i5:=i5.below hx i5.lt
        replace ib:=ib.below hx ib.lt
        have ck:KeepsFrom W0.heap.size W x.to:=KeepsFrom.of_grownBy (lf (HP.c.trans (hx.mono bb))) (fun j e=>by cases e);generalize x.to=V at*;clear b8 b9 b' a7 a5 x x0 hx;obtain⟨q1,g1⟩:=id i2;obtain⟨q2,g2⟩:=id i3;obtain⟨q3,g3⟩:=i4.c0;obtain⟨q4,g4⟩:=i4.c1;obtain⟨q5,g5⟩:=i4.c2;obtain⟨q6,g6⟩:=id i5;have HV:=kq7 i2 i3 i4 i5 bl ck ib;clear i2 i3 i4 i5 bl ck ib;gi_wp2_with fail;have hb:=HB.out;have n1:¬B=b1:=by omega
        have n2:¬B=b2:=by omega
        have n3:¬B=b3:=by omega
        have n4:¬B=b4:=by omega
        have m1:¬b1=b2:=by omega
        have m2:¬b1=b3:=by omega
        have m3:¬b2=b3:=by omega
        have m4:¬b1=b4:=by omega
        have m5:¬b2=b4:=by omega
        have m6:¬b3=b4:=by omega
        clear hb;obtain⟨I,ai,ap⟩:=uO B ⟨1,xn,xw⟩;have b8:∀x:Fq I,x.to.cell? ⟨B,0,none⟩=some (.int .i64 1):=fun x=>(ap _ x.ok).c0.1;have b9:∀x:Fq I,x.to.cell? ⟨B,1,none⟩=some (.int .i64 xn):=fun x=>(ap _ x.ok).c1.1;have b':∀x:Fq I,x.to.cell? ⟨B,2,none⟩=some (.int .u64 xw):=fun x=>(ap _ x.ok).c2.1;have bm:I V.drew:=ai _ HV.g;refine yg I (.take 0 (.take 1 (.take 2 (.go 3 (.go 4 (.go 5 (.go 6 .nil))))))) (by kernel_rfl) (by kernel_rfl) (by kernel_rfl) bm ?_
        iterate 3
         refine' pT ?_ ?_;rotate_left
         ·intro x;go_simp
          try rfl
         try simp only[pu]
        have ar:=HV.g;have HI:=kq2 ar (ar.other (j:=0) (.int .i64 p) n1);have HJ:=kq2 (HI.b.other (j:=0) (.int .i64 k) n2) True.intro;have HK:=If (((HJ.a.other (j:=0) (.int .i64 1) n3).other (j:=1) (.int .i64 xn) n3).other (j:=2) (.int .u64 xw) n3);have HL:=If (HK.out.other (j:=0) (.bool true) n4);clear ar;refine pD fun K hK=>?_;go_simp
        try go_simp
        refine hK.out _ _ (ai _ (by exact Hx.drew HI.b)) ?_;clear hK K
        try simp only[pu]
        refine pD fun K hK=>?_;go_simp
        try go_simp
        refine hK.out _ _ (ai _ (by exact Hx.drew HJ.a)) ?_;clear hK K
        try simp only[pu]
        refine pD fun K hK=>?_;go_simp
        try go_simp
        refine hK.out _ _ (ai _ (by exact Hx.drew HK.out)) ?_;clear hK K
        try simp only[pu]
        refine pD fun K hK=>?_;go_simp
        try go_simp
        refine hK.out _ _ (ai _ (by exact Hx.drew HL.out)) ?_;clear hK K
        try simp only[pu]
        refine jy ?_;gi_wp2_with fail;obtain⟨r1,r2,r3⟩:=us (n:=W0.heap.size) p k ⟨1,xn,xw⟩ HV.a HV.b HV.c HV.d HV.e m1 m2 m3 m4 m5 m6 (by have hb:=HB.out;omega);have a9:fS P (gt (ad++[(⟨(p,⟨1,xn,xw⟩),⟨bc,bd,bf,bj⟩⟩:iH)]))=some (p,k,⟨1,xn,xw⟩):=by
         rw[HF.out];have hs:km P p ⟨1,xn,xw⟩=some k:=by
          unfold km;exact AV (by rw[HS.b];exact cm) (by simp[HP.a,HP.b]) HP.d
         rw[hs]
        exact⟨HV.f.trans r1,⟨rfl,⟨p,k,⟨1,xn,xw⟩,a9,r2.1,r2.2.1,r2.2.2.1⟩,r2.2.2.2⟩,r3⟩
       | false=>
        gi_wp2_with fail;refine pq (Below wr.heap.size wr) (by kernel_rfl) (by kernel_rfl) (by kernel_rfl) ⟨rfl,rfl,rfl,Nat.le_refl _,fun _ _=>rfl⟩ fun⟨x0⟩=>?_
        repeat (first | gi_big_quiet_skip | (gi_big_quiet_want;gi_big_quiet_op;first | go_big_quiet_on | (apply Exists.intro;refine⟨fun x=>?_,?_⟩;(· first | exact CallsIn.inRound l (a7 x) | exact CallsIn.inRound l (a5 x));go_big_quiet_on)))
        refine wpQuietIn_nil ?_;rintro _ ⟨x,rfl⟩;have hx:=HP.c.trans (x.ok.mono bb);generalize x.to=V at*;gi_wp2_with fail;exact⟨⟨k+1,by omega,by simp,If ⟨hx,fun j hj=>by
         by_cases hjk:j<k
         ·exact HP.d j hjk
         ·obtain rfl:j=k:=by omega
          rw[HP.b]
          simp⟩⟩,by simp[intOf];omega⟩
      ·have d0:((P:Int)==addr)=false:=by simp;omega
       gi_wp2_with fail;refine pq (Below wr.heap.size wr) (by kernel_rfl) (by kernel_rfl) (by kernel_rfl) ⟨rfl,rfl,rfl,Nat.le_refl _,fun _ _=>rfl⟩ fun⟨x0⟩=>?_
       repeat (first | gi_big_quiet_skip | (gi_big_quiet_want;gi_big_quiet_op;first | go_big_quiet_on | (apply Exists.intro;refine⟨fun x=>?_,?_⟩;(· first | exact CallsIn.inRound l (a7 x) | exact CallsIn.inRound l (a5 x));go_big_quiet_on)))
       refine wpQuietIn_nil ?_;rintro _ ⟨x,rfl⟩;have hx:=HP.c.trans (x.ok.mono bb);generalize x.to=V at*;gi_wp2_with fail;exact⟨⟨k+1,by omega,by simp,If ⟨hx,fun j hj=>by
        by_cases hjk:j<k
        ·exact HP.d j hjk
        ·obtain rfl:j=k:=by omega
         rw[HP.a]
         simp[hpa]⟩⟩,by simp[intOf];omega⟩
     ·obtain rfl:k=m:=by omega
      have a9:fS addr (gt (ad++[(⟨(p,⟨1,xn,xw⟩),⟨bc,bd,bf,bj⟩⟩:iH)]))=none:=by
       rw[HF.out];have hs:km addr p ⟨1,xn,xw⟩=none:=by
        unfold km;exact AU (fun j hj=>hr.out.2 j (by rw[HS.b] at hj;exact hj))
       rw[hs]
       rfl
      have HN:=kq2 a9 hr.out.1;clear a9 hr;gi_wp2_with fail;exact⟨KeepsFrom.of_grownBy (lf HN.b) (fun j e=>by cases e),fe.of_below HN.b,⟨HN.a,HH.b.below HN.b HH.b.lt,HH.c.below HN.b HH.c.lt,HH.d.below HN.b HH.d.lt,HH.e.below HN.b HH.e.lt,HH.f.below HN.b HH.f.lt⟩,HH.g.trans (HN.b.mono HH.g.size)⟩
 case done=>
  rintro D ys W hD hS ⟨⟨i0,i1,i2,i3,i4,i5⟩,hB⟩ hK;obtain⟨k1,f1⟩:=id i2;obtain⟨k2,f2⟩:=id i3;obtain⟨k3,f3⟩:=i4.c0;obtain⟨k4,f4⟩:=i4.c1;obtain⟨k5,f5⟩:=i4.c2;obtain⟨k6,f6⟩:=id i5;have hb:=HB.out;have m1:¬b1=b2:=by omega
  have m2:¬b1=b3:=by omega
  have m3:¬b2=b3:=by omega
  have m4:¬b1=b4:=by omega
  have m5:¬b2=b4:=by omega
  have m6:¬b3=b4:=by omega
  have hw:w.heap.size<=b1/\w.heap.size<=b2/\w.heap.size<=b3/\w.heap.size<=b4:=by omega
  clear hb;have HH:=kq5 i2 i3 i4 i5 hB;rw[hS] at i0;have bo:R=.tuple #[.int .i64 0,.int .i64 0,.agg #[.int .i64 0,.int .i64 0,.int .u64 0],.bool false]:=by
   rw[<-HR.a];unfold kb;rw[i0]
   rfl
  clear i0 i1 i2 i3 i4 i5 hB hS
  gi_wp2
  have au:=((((((KeepsOthers.setCell W ⟨b1,0,none⟩ (.int .i64 0)).trans (KeepsOthers.setCell _ ⟨b2,0,none⟩ (.int .i64 0))).trans (KeepsOthers.setCell _ ⟨b3,0,none⟩ (.int .i64 0))).trans (KeepsOthers.setCell _ ⟨b3,1,none⟩ (.int .i64 0))).trans (KeepsOthers.setCell _ ⟨b3,2,none⟩ (.int .u64 0))).trans (KeepsOthers.setCell _ ⟨b4,0,none⟩ (.bool false))).same D _ hK rfl;refine⟨by simp,.inl ⟨_,_,rfl,run_takeDeferred au,?_⟩⟩;have r1:=(((((((HH.a.set (.int .i64 0)).other (.int .i64 0) m1).other (j:=0) (.int .i64 0) m2).other (j:=1) (.int .i64 0) m2).other (j:=2) (.int .u64 0) m2).other (j:=0) (.bool false) m4).put (o':=.deferred none) au rfl).1;have r2:=(((((((HH.b.other (j:=0) (.int .i64 0) (Ne.symm m1)).set (.int .i64 0)).other (j:=0) (.int .i64 0) m3).other (j:=1) (.int .i64 0) m3).other (j:=2) (.int .u64 0) m3).other (j:=0) (.bool false) m5).put (o':=.deferred none) au rfl).1;have cs:=((((HH.c.other (C:=b1) (j:=0) (.int .i64 0) (Ne.symm m2)).other (C:=b2) (j:=0) (.int .i64 0) (Ne.symm m3)).set ⟨0,0,0⟩).other (C:=b4) (j:=0) (.bool false) m6);have ao:=cs.put (o':=.deferred none) au rfl;have r3:=ao.c0.1;have r4:=ao.c1.1;have r5:=ao.c2.1;have r6:=(((((((HH.d.other (j:=0) (.int .i64 0) (Ne.symm m4)).other (j:=0) (.int .i64 0) (Ne.symm m5)).other (j:=0) (.int .i64 0) (Ne.symm m6)).other (j:=1) (.int .i64 0) (Ne.symm m6)).other (j:=2) (.int .u64 0) (Ne.symm m6)).set (.bool false)).put (o':=.deferred none) au rfl).1;clear cs ao
  dsimp only at r3 r4 r5
  rw[show ((0:Nat):Int)=0 from rfl] at r3 r4 r5;subst bo;refine⟨.tuple #[.int .i64 0,.int .i64 0,.agg #[.int .i64 0,.int .i64 0,.int .u64 0],.bool false],?_,rfl,((((((HH.e.setCell (p:=⟨b1,0,none⟩) hw.1 _).setCell (p:=⟨b2,0,none⟩) hw.2.1 _).setCell (p:=⟨b3,0,none⟩) hw.2.2.1 _).setCell (p:=⟨b3,1,none⟩) hw.2.2.1 _).setCell (p:=⟨b3,2,none⟩) hw.2.2.1 _).setCell (p:=⟨b4,0,none⟩) hw.2.2.2 _).trans (belowK_b (w:=w) Ih _ D _ _ (by have hb:=HB.out;omega) au rfl rfl)⟩
  simp[results,f117,go_sem,r1,r2,r3,r4,r5,r6]
 case stop=>
  rintro D cd ad W hD c6 ⟨⟨rfl,⟨p,k,x,cp,ca,a3,cb⟩,cc⟩,hB⟩ hK;obtain⟨t,ht⟩:=c6;have bo:R=.tuple #[.int .i64 p,.int .i64 k,.agg #[.int .i64 x.kind,.int .i64 x.n,.int .u64 x.w],.bool true]:=by
   rw[<-HR.a];unfold kb;rw[<-ht,qy addr (p,k,x) _ t cp]
   rfl
  have HH:=If hB;have r1:=(ca.put (o':=.deferred none) hK rfl).1;have r2:=(a3.put (o':=.deferred none) hK rfl).1;have ao:=cb.put (o':=.deferred none) hK rfl;have r3:=ao.c0.1;have r4:=ao.c1.1;have r5:=ao.c2.1;have r6:=(cc.put (o':=.deferred none) hK rfl).1;clear cp ht ca a3 cb cc hB ao;subst bo
  gi_wp2
  refine⟨by simp,.inl ⟨_,_,rfl,run_takeDeferred hK,?_⟩⟩;refine⟨.tuple #[.int .i64 p,.int .i64 k,.agg #[.int .i64 x.kind,.int .i64 x.n,.int .u64 x.w],.bool true],?_,rfl,HH.out.trans (belowK_b (w:=w) Ih W D _ _ (by have hb:=HB.out;omega) hK rfl rfl)⟩
  simp[results,f117,go_sem,r1,r2,r3,r4,r5,r6]
end
section
open Go.RowKit Tryz Go.BigFrame Go.Maps Go.WideMaps Lf
variable{Y:Nat->Prop}{s:Slab}{w:World}
theorem Eo{pa pm:Nat}{blk:Nat->Nat}(h:eh w pa pm s Y blk)(p n:Nat)(hg:4096<n):
 Ct 118 #[PV pa,.int .i64 p,.int .i64 n] w fun e w'=>e=.returned (.int .i64 ((s.release p n).1:Nat))/\eh w' pa pm (s.release p n).2 Y blk/\Fo Y w w':=by
 have ad:=If (ly h);have he:s.release p n=(2,s):=by unfold Slab.release;rw[if_pos (by omega)]
 rw[he];have H:=If h;have ai:1<=n:=by omega
 clear h he;go_enter func118,ntmps118;go_wp2_with fail;refine ad.out.mono ?_;rintro e w' ⟨rfl,rfl⟩;go_wp2_with fail;go_ret;exact⟨rfl,H.out,Fo.refl _ _⟩
theorem Fz.release{ph pa pm:Nat}(h:Fz w ph pa pm s Y)(p n:Nat)(hp:p<=1048575):
 Ct 118 #[PV pa,.int .i64 p,.int .i64 n] w fun e w'=>e=.returned (.int .i64 ((s.release p n).1:Nat))/\Fz w' ph pa pm (s.release p n).2 Y/\Fo Y w w':=by
 obtain⟨ad,hs⟩:=h.slab
 by_cases hn:n<=100000000
 ·refine(En hs p n hp hn).mono ?_;rintro e w' ⟨he,h1,h2⟩;exact⟨he,h.step ⟨ad,h1⟩ h2,h2⟩
 ·refine(Eo hs p n (by omega)).mono ?_;rintro e w' ⟨he,h1,h2⟩;exact⟨he,h.step ⟨ad,h1⟩ h2,h2⟩
theorem G4(a b c d e f:Int)(W:World):(binOp .eql 196 (.agg #[.int .i64 a,.int .i64 b,.int .u64 c]) (.agg #[.int .i64 d,.int .i64 e,.int .u64 f])).run prog W=.ok (.bool (decide (a=d/\b=e/\c=f))) W:=by
 go_simp;by_cases h1:a=d<;>by_cases h2:b=e<;>by_cases h3:c=f<;>simp[h1,h2,h3]
theorem zm{w k:Nat}(hw:w<2^64):iy w k<2^64:=da Nat.and_le_left hw
theorem Bv{ph pa pm:Nat}(h:Fz w ph pa pm s Y)(p k:Nat)(hp:p<=1048575)(hk:k<64):
 Ct 119 #[PV ph,.int .i64 p,.int .i64 k] w fun e w'=>e=.returned (.tuple #[])/\Fz w' ph pa pm (li s p k) Y/\Fo Y w w':=by
 have ar:=getH_lt h p;have ad:=qU h p (by omega);have ht:li s p k=if(⟨(FA s p).kind,(FA s p).n,iy (FA s p).w k⟩:Hr)=⟨1,(FA s p).n,0⟩ then((Ie s p ⟨(FA s p).kind,(FA s p).n,iy (FA s p).w k⟩).release p 1).2 else Ie s p ⟨(FA s p).kind,(FA s p).n,iy (FA s p).w k⟩:=rfl
 rw[ht];clear ht;generalize FA s p=x at*;obtain⟨kd,xn,xw⟩:=x;simp only at ar ad⊢;obtain⟨a5,a6,ap⟩:=ar;have a3:=fun W=>zo xw k W ap hk;have a4:=zm (k:=k) ap;have an:∀W,Fz W ph pa pm s Y->_:=fun W hW=>oh (hW.own (.cells #[.int .i64 kd,.int .i64 xn,.int .u64 (iy xw k:Nat)] 196)) p ⟨kd,xn,iy xw k⟩ (by omega) a5 a6 a4;simp only[fT] at ad an;generalize iy xw k=bs at*;generalize Ie s p ⟨kd,xn,bs⟩=s1 at*;have a2:=fun W (hW:Fz W ph pa pm s1 Y)=>hW.release p 1 hp;obtain⟨B,hB⟩:=Ii (decide ((kd:Int)=1/\(xn:Int)=xn/\(bs:Int)=0));have a7:=fun W=>G4 kd xn bs 1 xn 0 W;rw[hB] at a7;have ao:((⟨kd,xn,bs⟩:Hr)=⟨1,xn,0⟩)=(B=true):=by
  rw[<-hB]
  simp
  omega
 simp only[ao];have hc:=h.cell;have HG:=kq5 ad a3 an a2 h;clear ad a3 an a2 h hB ao;go_enter func119,ntmps119;go_wp2_with fail;refine HG.a.mono ?_;rintro e w1 ⟨rfl,al⟩;have H1:=kq2 (HG.e.below al) (HG.e.keep al);clear al;go_wp2_with fail;refine(HG.b _).mono ?_;rintro e w2 ⟨rfl,rfl⟩;go_wp2_with fail;refine(HG.c w1 H1.a).mono ?_;rintro e w3 ⟨rfl,h3,k3⟩;have a1:(w1.alloc (.cells #[.int .i64 kd,.int .i64 xn,.int .u64 (bs:Nat)] 196)).heap[w1.heap.size]?=some (.cells #[.int .i64 kd,.int .i64 xn,.int .u64 (bs:Nat)] 196 (0,0)):=by
  show (w1.heap.push _)[w1.heap.size]?=_;simp
 have a0:=(k3.block w1.heap.size (ae rfl)).trans a1;obtain⟨b0,b1,b2⟩:=fq a0;have au:Fo Y w1 (w1.alloc (.cells #[.int .i64 kd,.int .i64 xn,.int .u64 (bs:Nat)] 196)):=H1.a.keep ((aa _ w1).alloc Ih _);have ai:=h3.mono (fun k hk=>ab hk) HG.e.yh HG.e.yt;have c3:=ai.cell;have H3:=kq2 ai (H1.b.trans (au.trans (k3.mono fun k hk=>ab hk)));clear h3 k3 a1 au a0 ai
 cases B with
 | true=>
  go_wp2_with fail;refine(HG.d _ H3.a).mono ?_;rintro e w4 ⟨rfl,h4,k4⟩;have H4:=kq2 h4 (H3.b.trans k4);clear h4 k4;go_wp2_with fail
  go_end0
  exact⟨rfl,H4.out⟩
 | false=>
  go_wp2_with fail
  go_end0
  exact⟨rfl,H3.out⟩
theorem mH(addr:Nat){p k:Nat}{x:Hr}:∀l:List (Nat×Hr),fS addr l=some (p,k,x)->(p,x)∈l/\k<64
 | (q,y)::l,h=>by
  rw[lO] at h;split at h
  ·injection h with h
   injection h with h1 h2
   injection h2 with h2 h3
   subst h1 h2 h3;exact⟨by simp,by omega⟩
  ·split at h
   ·exact⟨ah _ (mH addr l h).1,(mH addr l h).2⟩
   ·split at h
    ·rename_i j hj;injection h with h
     injection h with h1 h2
     injection h2 with h2 h3
     subst h1 h2 h3;refine⟨by simp,?_⟩;unfold km at hj;have h4:=bP hj;have h5:=nX y.n;have h6:=bJ.1 h4;omega
    ·exact⟨ah _ (mH addr l h).1,(mH addr l h).2⟩
theorem AS{ph pa pm:Nat}(h:Fz w ph pa pm s Y){addr p k:Nat}{x:Hr}(hf:kb s addr=some (p,k,x)):p<=1048575/\k<64/\x.kind<256/\x.n<2^56/\x.w<2^64:=by
 obtain⟨h1,h2⟩:=mH addr _ hf;obtain⟨h3,h4⟩:=oD _ _ h1;have h5:=getH_lt h p;simp only at h3 h4;rw[<-h4] at h5;exact⟨h.wf.top p h3,h2,h5⟩
theorem Bu{ph pa pm:Nat}(h:Fz w ph pa pm s Y)(addr:Nat)(ha:addr<=4611686018427387903):
 Ct 93 #[PV ph,.int .i64 addr] w fun e w'=>e=.returned (.int .i64 ((iM s addr).1:Nat))/\Fz w' ph pa pm (iM s addr).2 Y/\Fo Y w w':=by
 have au:=qV h;have an:=Bq h addr ha;obtain⟨R,hR⟩:=Ii (iM s addr);rw[hR]
 cases hf:kb s addr with
 | none=>
  rw[hf] at an;have ai:R=(5,s):=by rw[<-hR];unfold iM;rw[hf]
  simp only[od,fT] at an;have HG:=kq4 au an ai h;clear au an ai h hR hf;go_enter func93,ntmps93;go_wp2_with fail;refine HG.a.mono ?_;rintro e w1 ⟨rfl,rfl⟩;go_wp2_with fail;refine HG.b.mono ?_;rintro e w1 ⟨rfl,ad⟩;have al:=ad.alloc ad.size (.cells #[.int .i64 (0:Nat),.int .i64 (0:Nat),.int .u64 (0:Nat)] 196);have H1:=kq2 (HG.d.below al) (HG.d.keep al);clear ad al;go_wp2_with fail;go_ret;obtain rfl:=HG.c;exact⟨rfl,H1.out⟩
 | some r=>
  obtain⟨p,k,x⟩:=r;have a3:=AS h hf;rw[hf] at an;have ai:R=if x.kind=2 then s.release p x.n else(0,li s p k):=by rw[<-hR];unfold iM;rw[hf]
  obtain⟨kd,xn,xw⟩:=x;simp only[od,fT] at an a3 ai;obtain⟨h1,h2,h3,h4,h5⟩:=a3;have a6:=fun W Z (hW:Fz W ph pa pm s Z)=>hW.release p xn h1;have a4:=fun W (hW:Fz W ph pa pm s Y)=>Bv hW p k h1 h2;have HG:=kq6 au an ai h a6 a4;clear au an ai h a6 a4 hR hf
  by_cases ao:kd=2
  ·obtain rfl:=ao;go_enter func93,ntmps93;go_wp2_with fail;refine HG.a.mono ?_;rintro e w1 ⟨rfl,rfl⟩;go_wp2_with fail;refine HG.b.mono ?_;rintro e w1 ⟨rfl,ad⟩;have ho:=(HG.d.below ad).own (.cells #[.int .i64 (2:Nat),.int .i64 xn,.int .u64 (xw:Nat)] 196);have al:=ad.alloc ad.size (.cells #[.int .i64 (2:Nat),.int .i64 xn,.int .u64 (xw:Nat)] 196);have a0:=heap_alloc_new w1 (.cells #[.int .i64 (2:Nat),.int .i64 xn,.int .u64 (xw:Nat)] 196);have a9:=ad.size;have H1:=kq3 ho (HG.d.keep al) a0;clear ad al ho;go_wp2_with fail;generalize w1.alloc (.cells #[.int .i64 (2:Nat),.int .i64 xn,.int .u64 (xw:Nat)] 196)=W at*;obtain⟨I,a1,a2⟩:∃I:World->Prop,(∀W',Fz W' ph pa pm s (lE Y w1.heap.size)\/Fz W' ph pa pm (s.release p xn).2 (lE Y w1.heap.size)->W'.heap[w1.heap.size]?=some (.cells #[.int .i64 (2:Nat),.int .i64 xn,.int .u64 (xw:Nat)] 196 (0,0))->I W')/\(∀W',I W'->W'.cell? ⟨ph,0,none⟩=some (PV pa)/\W'.heap[w1.heap.size]?=some (.cells #[.int .i64 (2:Nat),.int .i64 xn,.int .u64 (xw:Nat)] 196 (0,0))):=
    ⟨fun W'=>W'.cell? ⟨ph,0,none⟩=some (PV pa)/\W'.heap[w1.heap.size]?=some (.cells #[.int .i64 (2:Nat),.int .i64 xn,.int .u64 (xw:Nat)] 196 (0,0)),fun W' h1 h2=>⟨h1.elim (·.cell) (·.cell),h2⟩,fun W' h=>h⟩
   have ba:∀x:Fq I,x.to.cell? ⟨ph,0,none⟩=some (PV pa):=fun x=>(a2 _ x.ok).1;have hq:=fun x:Fq I=>(a2 _ x.ok).2;obtain⟨a8,ad,al⟩:=qf hq;have a7:I W.drew:=a1 _ (ab (H1.a.drewN 1)) a0;clear a0;refine fh I (.take 0 (.take 1 (.take 2 (.take 3 (.take 4 (.take 5 (.take 6 (.go 7 (.take 8 .nil))))))))) (by kernel_rfl) (by kernel_rfl) a7 ?_
   iterate 7
    refine' pT ?_ ?_;rotate_left
    ·intro x;go_simp
     try rfl
    try simp only[pu]
   refine pD fun K hK=>?_;go_simp;refine(HG.e _ _ (H1.a.drewN 1)).mono ?_;rintro e w2 ⟨rfl,ap,ao⟩;have a5:=(ao.block w1.heap.size (ae rfl)).trans H1.c;have ar:Fo Y w w2:=H1.b.trans ((H1.a.keep (aa _ _).drew).trans ao |>.mono fun k hk=>ab hk);have H2:=kq2 (ap.mono (fun k hk=>ab hk) HG.d.yh HG.d.yt) ar
   try go_simp
   refine hK.out _ _ (a1 _ (ae ap) a5) ?_;clear hK K
   try simp only[pu]
   clear ao ap a5 ar;refine' pT ?_ ?_;rotate_left
   ·intro x;go_simp
    try rfl
   try simp only[pu]
   refine eP ?_;go_wp2_with fail;go_ret;have ai:=HG.c;rw[if_pos trivial] at ai;subst ai;exact⟨rfl,H2.out⟩
  ·have a':((kd:Int)==2)=false:=by simp;omega
   go_enter func93,ntmps93;go_wp2_with fail;refine HG.a.mono ?_;rintro e w1 ⟨rfl,rfl⟩;go_wp2_with fail;refine HG.b.mono ?_;rintro e w1 ⟨rfl,ad⟩;have al:=ad.alloc ad.size (.cells #[.int .i64 kd,.int .i64 xn,.int .u64 xw] 196);have H1:=kq2 (HG.d.below al) (HG.d.keep al);clear ad al;go_wp2_with fail;refine(HG.f _ H1.a).mono ?_;rintro e w2 ⟨rfl,ap,ar⟩;have H2:=kq2 ap (H1.b.trans ar);clear ap ar;go_wp2_with fail;go_ret;have ai:=HG.c;rw[if_neg ao] at ai;subst ai;exact⟨rfl,H2.out⟩
end
section
open Lf
variable{o:Nat->Nat}{p:Nat}{s:Slab}
theorem oS(hw:eQ s){a:Nat}(hp:a / 64∈s.keys)(x:Nat):(s.wr a x).rd a=x:=by
 obtain⟨l,h1,h2⟩:=kK hp;have hl:=hw.len _ h2;unfold Slab.rd;rw[Lf.Slab.page?_wr,h1];simp only[dw,if_true];rw[aj,cy (by simp only at hl;omega)];rfl
theorem oM(s:Slab)(p:Nat)(x:Hr):(Ie s p x).keys=s.keys:=by unfold Ie;rw[i9,i9]
theorem nf(s:Slab)(p:Nat)(x:Hr):(Ie s p x).pages.length=s.pages.length:=by unfold Ie;rw[kL,kL]
theorem ng(s:Slab)(p:Nat)(x:Hr):(Ie s p x).quota=s.quota:=rfl
theorem rS(hw:eQ s)(p:Nat){x:Hr}(h1:x.kind<256)(h2:x.n<256)(h3:x.w<2^64):eQ (Ie s p x):=
 (hw.wr _ _ (by omega)).wr _ _ h3
theorem oN(p:Nat)(x:Hr){b:Nat}(h1:b≠p*64)(h2:b≠p*64+1):(Ie s p x).rd b=s.rd b:=by
 unfold Ie;rw[Slab.rd_wr_ne _ _ _ _ h2,Slab.rd_wr_ne _ _ _ _ h1]
theorem rR(hw:eQ s)(hp:p∈s.keys){x:Hr}(h1:x.kind<256)(h2:x.n<256):FA (Ie s p x) p=x:=by
 have e1:(p*64+1) / 64=p:=by omega
 have e0:p*64 / 64=p:=by omega
 have ad:eQ (s.wr (p*64) (x.kind+x.n*256)):=hw.wr _ _ (by omega);have r1:(Ie s p x).rd (p*64+1)=x.w:=oS ad (by rw[e1,i9];exact hp) _;have r0:(Ie s p x).rd (p*64)=x.kind+x.n*256:=by
  unfold Ie;rw[Slab.rd_wr_ne _ _ _ _ (by omega)];exact oS hw (by rw[e0];exact hp) _
 unfold FA;rw[r0,r1];obtain⟨a,b,c⟩:=x;simp only at h1 h2⊢
 congr 1<;>omega
theorem lQ{s s':Slab}(h:∀b,b / 64=p->b % 64<2->s'.rd b=s.rd b):FA s' p=FA s p:=by
 unfold FA;rw[h (p*64) (by omega) (by omega),h (p*64+1) (by omega) (by omega)]
theorem yi(s:Slab)(a:Nat):∀n,(s.zero a n).keys=s.keys
 | 0=>rfl
 | n+1=>by show (Slab.wr _ _ _).keys=_;rw[i9,yi s a n]
theorem yj(s:Slab)(a:Nat):∀n,(s.zero a n).pages.length=s.pages.length
 | 0=>rfl
 | n+1=>by show (Slab.wr _ _ _).pages.length=_;rw[kL,yj s a n]
theorem yn(s:Slab)(a:Nat):∀n,(s.zero a n).quota=s.quota
 | 0=>rfl
 | n+1=>by show (Slab.wr _ _ _).quota=_;exact yn s a n
theorem yo {s:Slab}(hw:eQ s)(a:Nat):∀n,eQ (s.zero a n)
 | 0=>hw
 | n+1=>(yo hw a n).wr _ _ (by omega)
theorem tj(s:Slab)(a:Nat){b:Nat}:∀n,(b<a\/a+n<=b)->(s.zero a n).rd b=s.rd b
 | 0,_=>rfl
 | n+1,h=>by
  show (Slab.wr _ _ _).rd b=_
  rw[Slab.rd_wr_ne _ _ _ _ (by omega)];exact tj s a n (by omega)
theorem lj(a q:Nat)(b:fQ)(r:List (Nat×fQ)):((a,b)::r).lookup q=if q=a then some b else r.lookup q:=by
 rw[dp]
 by_cases e:q=a
 ·subst e
  simp
 ·have:(q==a)=false:=by simp[e]
  rw[this,if_neg e]
theorem vx(p q:Nat)(l:fQ):∀r:List (Nat×fQ),(ins p l r).lookup q=if q=p then some l else r.lookup q
 | []=>by
  unfold ins;rw[lj]
 | x::r=>by
  obtain⟨a,b⟩:=x;unfold ins;simp only;split
  ·rename_i h;rw[lj,vx p q l r,lj];by_cases e:q=a
   ·rw[if_pos e,if_neg (by omega),if_pos e]
   ·rw[if_neg e,if_neg e]
  ·rw[lj]
theorem page?_add(s:Slab)(p q:Nat):(s.add p).page? q=if q=p then some jB else s.page? q:=vx p q jB s.pages
theorem tx(s:Slab)(p:Nat){b:Nat}:∀n,(b / 64<p\/p+n<=b / 64)->(s.addRun p n).rd b=s.rd b
 | 0,_=>rfl
 | n+1,h=>by
  rw[<-tx s p n (by omega)];show ((s.addRun p n).add (p+n)).rd b=_
  unfold Slab.rd;rw[page?_add,if_neg (by omega)]
theorem tz {s:Slab}(hw:eQ s){p:Nat}:∀n,(∀k,k<n->p+k∉s.keys)->p+n<=1048576->(s.pages.length+n)*64<=s.quota->eQ (s.addRun p n)
 | 0,_,_,_=>hw
 | n+1,h1,h2,h3=>by
  refine(tz hw n (fun k hk=>h1 k (by omega)) (by omega) (by omega)).add ?_ (by omega) ?_
  ·rw[nK];rintro(h | h)
   ·exact h1 n (by omega) h
   ·omega
  ·rw[mu,mw];omega
theorem ry(p q:Nat):∀r:List (Nat×fQ),q≠p->(r.filter fun x=>x.1≠p).lookup q=r.lookup q
 | [],_=>rfl
 | x::r,h=>by
  obtain⟨a,b⟩:=x;rw[List.filter_cons];split
  ·rw[lj,lj,ry p q r h]
  ·rename_i h1;have:a=p:=by simpa using h1
   subst this;rw[ry a q r h,lj,if_neg h]
theorem AE(s:Slab){p b:Nat}(h:b / 64≠p):(s.del p).rd b=s.rd b:=by
 unfold Slab.rd;have:(s.del p).page? (b / 64)=s.page? (b / 64):=ry p _ s.pages h;rw[this]
theorem qr(s:Slab)(p:Nat){b:Nat}:∀n,(b / 64<p\/p+n<=b / 64)->(s.delRun p n).rd b=s.rd b
 | 0,_=>rfl
 | n+1,h=>by
  rw[<-qr s p n (by omega)];exact AE _ (by omega)
theorem ug {s:Slab}(hw:eQ s)(p:Nat):∀n,eQ (s.delRun p n)
 | 0=>hw
 | n+1=>(ug hw p n).del _
theorem qp(s:Slab)(p:Nat):∀n,(s.delRun p n).quota=s.quota
 | 0=>rfl
 | n+1=>qp s p n
theorem qo(s:Slab)(p:Nat):∀n,(s.delRun p n).pages.length<=s.pages.length
 | 0=>Nat.le_refl _
 | n+1=>aO (List.length_filter_le _ _) (qo s p n)
def gr(x:Hr):Nat:=if x.kind=2 then x.n else 1
def kT(x:Hr):Prop:=(x.kind=1/\x.n<8)\/(x.kind=2/\1<=x.n/\x.n<=64)
structure Own (s:Slab) (o:Nat->Nat):Prop where
 wf:eQ s
 up:∀p∈s.keys,o p∈s.keys/\o (o p)=o p/\o p<=p/\p<o p+gr (FA s (o p))
 down:∀h∈s.keys,o h=h->kT (FA s h)/\∀k,k<gr (FA s h)->h+k∈s.keys/\o (h+k)=h
theorem kT.small{x:Hr}(h:kT x):x.kind<256/\x.n<256:=by rcases h with h | h<;>omega
theorem rD {s:Slab}{o:Nat->Nat}(h:Own s o):∀(ks:List Nat) (nx:Nat),ks.Pairwise (·<·)->(∀q∈ks,q∈s.keys)->(∀q∈ks,o q∈ks->nx<=q)->(∀q∈ks,o q∉ks->q<nx)->∀y,y∈gC s nx ks↔(y.1∈ks/\o y.1=y.1/\y.2=FA s y.1)
 | [],nx,_,_,_,_,y=>by simp[gC]
 | p::r,nx,hs,hk,h1,h2,y=>by
  have ai:=(aQ.1 hs).1;have ao:=(aQ.1 hs).2;have an:=hk p (av ..);have up:=h.up p an;unfold gC;by_cases hlt:p<nx
  ·rw[if_pos hlt];have ad:o p∉p::r:=fun hm=>by have:=h1 p (av ..) hm;omega
   have al:o p≠p:=fun e=>ad (by rw[e];exact av ..);have ar:∀q∈r,o q∈p::r->o q∈r:=fun q hq hm=>by
    rcases ag.1 hm with e | e
    ·exfalso
     have:=(h.up q (hk q (ah _ hq))).2.1;rw[e] at this;exact al this
    ·exact e
   rw[rD h r nx ao (fun q hq=>hk q (ah _ hq)) (fun q hq hm=>h1 q (ah _ hq) (ah _ hm))
    (fun q hq hm=>h2 q (ah _ hq) fun hm2=>hm (ar q hq hm2)) y]
   constructor
   ·rintro⟨a,b,c⟩;exact⟨ah _ a,b,c⟩
   ·rintro⟨a,b,c⟩;rcases ag.1 a with e | e
    ·exfalso;rw[e] at b;exact al b
    ·exact⟨e,b,c⟩
  ·rw[if_neg hlt];have ap:o p∈p::r:=Classical.byContradiction fun hn=>hlt (h2 p (av ..) hn);have ad:o p=p:=by
    rcases ag.1 ap with e | e
    ·exact e
    ·have:=ai _ e;omega
   have dn:=h.down p an ad;have sp:p<p+gr (FA s p):=by have:=up.2.2.2;rw[ad] at this;exact this
   rw[ag,rD h r _ ao (fun q hq=>hk q (ah _ hq)) ?_ ?_ y]
   ·constructor
    ·rintro(e | ⟨a,b,c⟩)
     ·subst e;exact⟨av ..,ad,rfl⟩
     ·exact⟨ah _ a,b,c⟩
    ·rintro⟨a,b,c⟩;rcases ag.1 a with e | e
     ·left;obtain⟨y1,y2⟩:=y;simp only at e c⊢;rw[c,e]
     ·exact ae ⟨e,b,c⟩
   ·intro q hq hm;have a0:=ai q hq;have au:=h1 q (ah _ hq) (ah _ hm);split
    ·rename_i hk2;refine Classical.byContradiction fun hn=>?_;have a1:gr (FA s p)=(FA s p).n:=by unfold gr;rw[if_pos hk2]
     have:=(dn.2 (q-p) (by rw[a1];omega)).2;rw[show p+(q-p)=q by omega] at this;rw[this] at hm;have:=ai p hm;omega
    ·exact au
   ·intro q hq hm;have a0:=ai q hq;by_cases e:o q=p
    ·have hu:=(h.up q (hk q (ah _ hq))).2.2.2;rw[e] at hu;unfold gr at hu;split
     ·rename_i hk2;rw[if_pos hk2] at hu;exact hu
     ·rename_i hk2;rw[if_neg hk2] at hu;omega
    ·have:=h2 q (ah _ hq) (fun h3=>by
      rcases ag.1 h3 with e2 | e2
      ·exact e e2
      ·exact hm e2)
     omega
theorem Own.mem_heads(h:Own s o)(y:Nat×Hr):y∈kf s↔(y.1∈s.keys/\o y.1=y.1/\y.2=FA s y.1):=
 rD h s.keys 0 h.wf.sorted (fun _ hq=>hq) (fun _ _ _=>cH _) (fun q hq hn=>absurd (h.up q hq).1 hn) y
theorem kq{c k:Nat}(hc:c<8)(hk:k<eJ c)(h:Nat):fF h c k=h*64+2+k*et c/\k*et c+et c<=62/\2<=et c:=by
 have e:fF h c k=h*64+2+k*et c:=by unfold fF iL;rw[if_pos ⟨hc,hk⟩];omega
 refine⟨e,?_⟩;have:c=0\/c=1\/c=2\/c=3\/c=4\/c=5\/c=6\/c=7:=by omega
 rcases this with rfl | rfl | rfl | rfl | rfl | rfl | rfl | rfl<;>simp[eJ,et,iP] at hk⊢ <;>omega
theorem wV{c k k':Nat}(h:k≠k'):k*et c+et c<=k'*et c\/k'*et c+et c<=k*et c:=by
 rcases Nat.lt_or_gt_of_ne h with h | h
 ·left
  have:=dh (et c) (show k+1<=k' from h);rw[Nat.add_mul] at this;omega
 ·right
  have:=dh (et c) (show k'+1<=k from h);rw[Nat.add_mul] at this;omega
theorem jA{c k:Nat}(h:k<eJ c):c<8/\k<31:=by
 have hc:c<8:=by
  unfold eJ at h
  split at h
  ·assumption
  ·omega
 refine⟨hc,?_⟩;have:c=0\/c=1\/c=2\/c=3\/c=4\/c=5\/c=6\/c=7:=by omega
 rcases this with rfl | rfl | rfl | rfl | rfl | rfl | rfl | rfl<;>simp[eJ,iP] at h<;>omega
def nH(x:Hr)(h a r:Nat):Prop:=(x.kind=1/\∃k,k<eJ x.n/\x.w.testBit k=true/\a=fF h x.n k/\r=et x.n)\/(x.kind=2/\a=h*64+2/\r+2=x.n*64)
def gZ(s:Slab)(o:Nat->Nat)(h a r:Nat):Prop:=h∈s.keys/\o h=h/\nH (FA s h) h a r
def eO(s:Slab)(o:Nat->Nat)(a r:Nat):Prop:=∃h,gZ s o h a r
theorem nH.pos{x:Hr}{h a r:Nat}(hx:kT x)(hb:nH x h a r):2<=r/\a / 64=h/\2<=a % 64:=by
 rcases hb with⟨h1,k,h2,h3,h4,h5⟩ | ⟨h1,h2,h3⟩
 ·obtain⟨e1,e2,e3⟩:=kq (jA h2).1 h2 h;rw[h5,h4,e1];omega
 ·rcases hx with hx | hx
  ·omega
  ·refine⟨by omega,by omega,by omega⟩
theorem gZ.word(ho:Own s o){h a r b:Nat}(hp:gZ s o h a r)(hb:b<r):(a+b) / 64∈s.keys/\o ((a+b) / 64)=h/\((a+b) / 64=h->2<=(a+b) % 64):=by
 obtain⟨h1,h2,h3⟩:=hp;obtain⟨hd,dn⟩:=ho.down h h1 h2
 rcases h3 with⟨g1,k,g2,g3,g4,g5⟩ | ⟨g1,g2,g3⟩
 ·obtain⟨e1,e2,e3⟩:=kq (jA g2).1 g2 h;have e4:(a+b) / 64=h:=by omega
  rw[e4];exact⟨h1,h2,fun _=>by omega⟩
 ·have hs:gr (FA s h)=(FA s h).n:=by unfold gr;rw[if_pos g1]
  have:=dn ((a+b) / 64-h) (by rw[hs];omega);rw[show h+((a+b) / 64-h)=(a+b) / 64 by omega] at this;exact⟨this.1,this.2,fun _=>by omega⟩
theorem gZ.not_head(ho:Own s o){h a r b h':Nat}(hp:gZ s o h a r)(hb:b<r)(hh:o h'=h')(e:(a+b) / 64=h'):2<=(a+b) % 64:=by
 obtain⟨_,h2,h3⟩:=hp.word ho hb;rw[e,hh] at h2;exact h3 (e.trans h2)
theorem gZ.pos(ho:Own s o){h a r:Nat}(hp:gZ s o h a r):2<=r/\a / 64=h/\2<=a % 64:=hp.2.2.pos (ho.down h hp.1 hp.2.1).1
theorem gZ.apart(ho:Own s o){h a r h' a' r':Nat}(hp:gZ s o h a r)(hp':gZ s o h' a' r'):(a=a'/\r=r')\/a+r<=a'\/a'+r'<=a:=by
 by_cases e:h=h'
 ·subst e
  rcases hp.2.2 with⟨g1,k,g2,g3,g4,g5⟩ | ⟨g1,g2,g3⟩
  ·rcases hp'.2.2 with⟨f1,k',f2,f3,f4,f5⟩ | ⟨f1,f2,f3⟩
   ·by_cases ek:k=k'
    ·subst ek
     left;exact⟨g4.trans f4.symm,g5.trans f5.symm⟩
    ·right
     have hc:=(jA g2).1;rw[(kq hc g2 h).1] at g4;rw[(kq hc f2 h).1] at f4;have:=wV (c:=(FA s h).n) ek;omega
   ·omega
  ·rcases hp'.2.2 with⟨f1,k',f2,f3,f4,f5⟩ | ⟨f1,f2,f3⟩
   ·omega
   ·left;omega
 ·right
  refine Classical.byContradiction fun hn=>e ?_;have p1:=(hp.pos ho).1;have p2:=(hp'.pos ho).1
  rcases Nat.le_total a a' with hl | hl
  ·have w1:=(hp.word ho (b:=a'-a) (by omega)).2.1;have w2:=(hp'.word ho (b:=0) (by omega)).2.1;rw[show a+(a'-a)=a'+0 by omega] at w1;rw[<-w1,<-w2]
  ·have w1:=(hp'.word ho (b:=a-a') (by omega)).2.1;have w2:=(hp.word ho (b:=0) (by omega)).2.1;rw[show a'+(a-a')=a+0 by omega] at w1;rw[<-w1,<-w2]
theorem eO.apart(ho:Own s o){a r a' r':Nat}(hp:eO s o a r)(hp':eO s o a' r'):(a=a'/\r=r')\/a+r<=a'\/a'+r'<=a:=by
 obtain⟨h,hp⟩:=hp;obtain⟨h',hp'⟩:=hp';exact hp.apart ho hp'
theorem eO.ok(ho:Own s o){a r b:Nat}(hp:eO s o a r)(hb:b<r):s.err (a+b)=0/\a+b<=gK/\(a+b) / 64∈s.keys:=by
 obtain⟨h,hp⟩:=hp;have hk:=(hp.word ho hb).1;have:=ho.wf.top _ hk;have hl:a+b<=gK:=by unfold gK;omega
 exact⟨Gt hl hk,hl,hk⟩
theorem Own.same{s s':Slab}(h:Own s o)(hw:eQ s')(hk:s'.keys=s.keys)(hg:∀p∈s.keys,o p=p->FA s' p=FA s p):Own s' o where
 wf:=hw
 up p hp:=by
  rw[hk] at hp⊢;have:=h.up p hp;rw[hg _ this.1 this.2.1];exact this
 down p hp ho:=by
  rw[hk] at hp⊢;rw[hg p hp ho];exact h.down p hp ho
theorem gZ.same{s s':Slab}(hk:s'.keys=s.keys)(hg:∀p∈s.keys,o p=p->FA s' p=FA s p){h a r:Nat}(hp:gZ s o h a r):gZ s' o h a r:=
 ⟨by rw[hk];exact hp.1,hp.2.1,by rw[hg h hp.1 hp.2.1];exact hp.2.2⟩
theorem Own.wr(h:Own s o){a r b x:Nat}(hp:eO s o a r)(hb:b<r)(hx:x<2^64):Own (s.wr (a+b) x) o/\(∀a0 r0,eO s o a0 r0->eO (s.wr (a+b) x) o a0 r0):=by
 obtain⟨h0,hp⟩:=hp;have hg:∀p∈s.keys,o p=p->FA (s.wr (a+b) x) p=FA s p:=fun p _ ho=>lQ fun c e1 e2=>Slab.rd_wr_ne _ _ _ _ (by
  rintro rfl;have:=hp.not_head h hb ho e1;omega)
 exact⟨h.same (h.wf.wr _ _ hx) (i9 _ _ _) hg,fun a0 r0 ⟨h1,q⟩=>⟨h1,q.same (i9 _ _ _) hg⟩⟩