/- A region that draws its order, inside a round of the wide fence, walked by a plan: it leaves by its end alone. -/
import Derived.Test.YtpljannolpapgaaGreatDoorVKa
import Derived.Test.YtpljannolpapgaaGreatDoorVTa
import Derived.Test.YtpljannolpapgaaGreatDoorVCl
import Derived.BigRegion
import Derived.RegionTactic
import Derived.ChangeAlike
set_option maxRecDepth 100000
set_option maxHeartbeats 3200000
namespace Go.Proofs.YtpljannolpapgaaGreatDoor.Qx
open Go Go.RowKit Qw Qu
def iI(Q:Exit->Act->World->Prop):Exit->Act->World->Prop
 | .normal,a,w=>Q .normal a w
 | _,_,_=>False
theorem iI.imp {Q:Exit->Act->World->Prop}:∀(e:Exit) (a:Act) (w:World),iI Q e a w->Q e a w:=fun e a w h=>by
 cases e<;>first | exact h | exact(h:False).elim
theorem iI.shut {Q:Exit->Act->World->Prop}:¬LetsOut (iI Q):=fun⟨_,_,h⟩=>h
theorem wM {n:Nat}{P:Program}{row:String}{args:Array Value}{w:World}{R:Value->World->Prop}(h:Rows P row args w R):RowsIn Fence.wide n P row args w R:=
 fun c cs _=>let ⟨v,w',r,s⟩:=h c cs;⟨v,w',r,stepsIn_wide.2 s⟩
section
variable {P:Program}{ops:Array Oper}{md:Region.Mode}{S:World->Prop}{Q:Exit->Act->World->Prop}{l n:Nat}
theorem Ff {o:Oper}{a:Act}{w:World}{K:Act->World->Prop}(hnd:∀c,o.op≠ .defer c)(h:o.wp P a w K Q):o.wpIn (Fence.wide.inRound l) n P a w K Q:=by
 refine⟨fun _ _=>trivial,?_⟩;rw[Oper.semAt_eq _ _ _ hnd];unfold Oper.wp at h;generalize (execOp a.eval o).run P w=r at h⊢
 cases r with
 | ok x w'=>
  cases x with
  | value v=>exact h
  | skip=>exact h
  | defer d=>exact h
  | enter f args=>exact⟨fun hd=>(by cases hd),(callsIn_wide.2 h:CallsIn Fence.wide (n-1) P f args w' _)⟩
  | row row args=>exact⟨fun hd=>(by cases hd),wM h⟩
  | _=>exact(h:False).elim
 | halt x w'=>
  cases x<;>first | exact h | exact(h:False).elim
theorem JE(hnd:kl ops=true)(hl:¬LetsOut Q):∀(fuel:Nat) (listed:Array Bool) (a:Act) (w:World),wpAnyH P md ops Q S fuel listed a w->wpAnyIn (Fence.wide.inRound l) n P md ops Q fuel listed a w
 | 0,_,_,_,h=>h
 | fuel+1,listed,a,w,h=>by
  refine⟨h.1,fun i hi=>?_⟩;have h2:=h.2 i hi;unfold wpOp at h2;unfold wpOpIn;split
  ·rename_i ho;simp only[ho] at h2;exact JE hnd hl fuel _ _ _ h2.2
  ·rename_i o ho;simp only[ho] at h2;split
   ·rename_i hw;simp only[hw,if_true] at h2;rcases h2 with h2 | h2
    ·exact Ff (rL hnd ho) (Oper.wp_mono (fun a' w' h'=>JE hnd hl fuel _ _ _ h'.2) h2)
    ·exact absurd h2.2 hl
   ·rename_i hw;simp only[hw] at h2;exact⟨fun _ _=>trivial,JE hnd hl fuel _ _ _ h2.2⟩
end
end Qx
open Qw Qu Qx
theorem yg {P:Program}{id r n:Nat}{Q:Exit->Act->World->Prop}{a:Act}{w:World}{l:List Oper}(I:World->Prop)(p:Plan)(hnd:kl l.toArray=true)(hm:P.follows .mixedOrders=true)(hB:lexPlanB .any l.toArray p=true)
 (hI:I w.drew) (h:wpPlan P l (iI Q) (FG I) p a w.drew):(Code.region id l.toArray true).wpIn (Fence.wide.inRound r) n P Q a w:=by
 simp only[lexPlanB,aI,decide_eq_true_eq] at hB;obtain⟨⟨ai,hn⟩,ad⟩:=hB;have hS:FG I w.drew:=⟨⟨_,hI⟩,rfl⟩;have:=wpAnyH_plan (md:=.any) (Q:=iI Q) ai (fun _ _ _ _ _ h=>(h:False).elim) p _ a w.drew ad hS h;rw[hn] at this;exact Code.wpIn_mono iI.imp (wpIn_region_any hm (JE hnd iI.shut _ _ _ _ this))
theorem jy {P:Program}{l:List Oper}{Q:Exit->Act->World->Prop}{S:World->Prop}{a:Act}{w:World}(h:Q .normal a w):wpPlan P l (iI Q) S .nil a w:=h
end Go.Proofs.YtpljannolpapgaaGreatDoor
namespace Go.Proofs.YtpljannolpapgaaGreatDoor
open Go.RowKit Tryz Go.BigFrame Go.Maps Go.WideMaps Lf
open Go.Shelf
attribute [local go_sem] Oper.semAt_some
theorem yX(w:World)(a b c d e:Obj):Below w.heap.size w (((((w.alloc a).alloc b).alloc c).alloc d).alloc e):=
 (nM w a b c d).alloc (by simp;omega) _
theorem Hx.drew {W:World}{B:Nat}{x:Hr}(h:Hx W B x):Hx W.drew B x:=h
theorem Cx.drew {W:World}{B i:Nat}{v:Value}(h:Cx W B i v):Cx W.drew B i v:=h
theorem us {W w:World}{b1 b2 b3 b4 n:Nat}{v1 v2 v4:Value}{y:Hr}(p k:Nat)(x:Hr)(h1:Cx W b1 0 v1)(h2:Cx W b2 0 v2)(h3:Hx W b3 y)(h4:Cx W b4 0 v4)(hb:Below w.heap.size w W)(m1:¬b1=b2)(m2:¬b1=b3)(m3:¬b2=b3)(m4:¬b1=b4)(m5:¬b2=b4)(m6:¬b3=b4)(hw:w.heap.size<=b1/\w.heap.size<=b2/\w.heap.size<=b3/\w.heap.size<=b4):
 KeepsFrom n W ((((((W.setCell ⟨b1,0,none⟩ (Xi p)).setCell ⟨b2,0,none⟩ (Xi k)).setCell ⟨b3,0,none⟩ (Xi x.kind)).setCell ⟨b3,1,none⟩ (Xi x.n)).setCell ⟨b3,2,none⟩ (Xu x.w)).setCell ⟨b4,0,none⟩ (.bool true)).drew/\
 (Cx ((((((W.setCell ⟨b1,0,none⟩ (Xi p)).setCell ⟨b2,0,none⟩ (Xi k)).setCell ⟨b3,0,none⟩ (Xi x.kind)).setCell ⟨b3,1,none⟩ (Xi x.n)).setCell ⟨b3,2,none⟩ (Xu x.w)).setCell ⟨b4,0,none⟩ (.bool true)).drew b1 0 (Xi p)/\
  Cx ((((((W.setCell ⟨b1,0,none⟩ (Xi p)).setCell ⟨b2,0,none⟩ (Xi k)).setCell ⟨b3,0,none⟩ (Xi x.kind)).setCell ⟨b3,1,none⟩ (Xi x.n)).setCell ⟨b3,2,none⟩ (Xu x.w)).setCell ⟨b4,0,none⟩ (.bool true)).drew b2 0 (Xi k)/\
  Hx ((((((W.setCell ⟨b1,0,none⟩ (Xi p)).setCell ⟨b2,0,none⟩ (Xi k)).setCell ⟨b3,0,none⟩ (Xi x.kind)).setCell ⟨b3,1,none⟩ (Xi x.n)).setCell ⟨b3,2,none⟩ (Xu x.w)).setCell ⟨b4,0,none⟩ (.bool true)).drew b3 x/\
  Cx ((((((W.setCell ⟨b1,0,none⟩ (Xi p)).setCell ⟨b2,0,none⟩ (Xi k)).setCell ⟨b3,0,none⟩ (Xi x.kind)).setCell ⟨b3,1,none⟩ (Xi x.n)).setCell ⟨b3,2,none⟩ (Xu x.w)).setCell ⟨b4,0,none⟩ (.bool true)).drew b4 0 (.bool true))/\
 Below w.heap.size w ((((((W.setCell ⟨b1,0,none⟩ (Xi p)).setCell ⟨b2,0,none⟩ (Xi k)).setCell ⟨b3,0,none⟩ (Xi x.kind)).setCell ⟨b3,1,none⟩ (Xi x.n)).setCell ⟨b3,2,none⟩ (Xu x.w)).setCell ⟨b4,0,none⟩ (.bool true)).drew:=by
 have hx:=((h3.other (C:=b1) (j:=0) (Xi p) (Ne.symm m2)).other (C:=b2) (j:=0) (Xi k) (Ne.symm m3)).set x;have hK:=((((((KeepsOthers.setCell W ⟨b1,0,none⟩ (Xi p)).trans (KeepsOthers.setCell _ ⟨b2,0,none⟩ (Xi k))).trans (KeepsOthers.setCell _ ⟨b3,0,none⟩ (Xi x.kind))).trans (KeepsOthers.setCell _ ⟨b3,1,none⟩ (Xi x.n))).trans (KeepsOthers.setCell _ ⟨b3,2,none⟩ (Xu x.w))).trans (KeepsOthers.setCell _ ⟨b4,0,none⟩ (.bool true))).trans (KeepsOthers.drew _);refine⟨hK.from n,⟨?_,?_,?_,?_⟩,?_⟩
 ·exact Cx.drew ((((((h1.set (Xi p)).other _ m1).other _ m2).other _ m2).other _ m2).other _ m4)
 ·exact Cx.drew ((((((h2.other _ (Ne.symm m1)).set (Xi k)).other _ m3).other _ m3).other _ m3).other _ m5)
 ·exact(hx.other _ m6).drew
 ·exact Cx.drew ((((((h4.other _ (Ne.symm m4)).other _ (Ne.symm m5)).other _ (Ne.symm m6)).other _ (Ne.symm m6)).other _ (Ne.symm m6)).set (.bool true))
 ·exact((((((hb.setCell (p:=⟨b1,0,none⟩) hw.1 _).setCell (p:=⟨b2,0,none⟩) hw.2.1 _).setCell (p:=⟨b3,0,none⟩) hw.2.2.1 _).setCell (p:=⟨b3,1,none⟩) hw.2.2.1 _).setCell (p:=⟨b3,2,none⟩) hw.2.2.1 _).setCell (p:=⟨b4,0,none⟩) hw.2.2.2 _).drew
theorem uO(B:Nat)(y:Hr):∃I:World->Prop,(∀W,Hx W B y->I W)/\(∀W,I W->Hx W B y):=⟨fun W=>Hx W B y,fun _ h=>h,fun _ h=>h⟩
theorem Bq {w:World}{ph pa pm:Nat}{s:Slab}{Y:Nat->Prop}(h:Fz w ph pa pm s Y)(addr:Nat)(ha:addr<=4611686018427387903):
 Cb 108 #[PV ph,Xi addr] w (od (kb s addr)):=by
 refine(callsIn_wide (n:=7)).1 ?_;have h1:1<=7:=by omega
 have dp:Fence.wide.fn 117:=trivial;have dk:Fence.wide.fn 116:=trivial;have dd:Fence.wide.fn 118:=trivial;have dn:Fence.wide.fn 119:=trivial;have c8:∀W,CallsIn Fence.wide 6 prog 116 #[PV ph] W _:=fun W=>callsIn_wide.2 (qQ ph W);obtain⟨R,hR⟩:=Ii (od (kb s addr));rw[hR];have HR:=kq2 hR h;clear hR h;refine callsIn_of_wp_marks func108 rfl trivial ?_ rfl;simp only[ntmps108,aR,ag,aM,Nat.reduceAdd,Nat.reduceSub,aN,aO,aU,aQ,aY,aK];obtain⟨W5,ap⟩:=Ii (((((w.alloc (Xj addr)).alloc (.cells #[Xi 0] 3)).alloc (.cells #[Xi 0] 3)).alloc (.cells #[Xi 0,Xi 0,Xu 0] 188)).alloc (.cells #[.bool false] 4));have a6:Below w.heap.size w W5:=by rw[<-ap];exact yX w _ _ _ _ _
 have c0:Cx W5 w.heap.size 0 (Xi addr):=by rw[<-ap];exact((((Bx.new w (Xi addr) 3).alloc _).alloc _).alloc _).alloc _
 have c1:Cx W5 (w.heap.size+1) 0 (Xi 0):=by
  have:=(((Bx.new (w.alloc (Xj addr)) (Xi 0) 3).alloc (.cells #[Xi 0] 3)).alloc (.cells #[Xi 0,Xi 0,Xu 0] 188)).alloc (.cells #[.bool false] 4);rw[World.size_alloc,ap] at this;exact this
 have c2:Cx W5 (w.heap.size+1+1) 0 (Xi 0):=by
  have:=((Bx.new ((w.alloc (Xj addr)).alloc (.cells #[Xi 0] 3)) (Xi 0) 3).alloc (.cells #[Xi 0,Xi 0,Xu 0] 188)).alloc (.cells #[.bool false] 4);rw[World.size_alloc,World.size_alloc,ap] at this;exact this
 have c3:Hx W5 (w.heap.size+1+1+1) ⟨0,0,0⟩:=by
  have:=(Hx.new (((w.alloc (Xj addr)).alloc (.cells #[Xi 0] 3)).alloc (.cells #[Xi 0] 3)) ⟨0,0,0⟩).alloc (.cells #[.bool false] 4);rw[World.size_alloc,World.size_alloc,World.size_alloc] at this;rw[<-ap];exact this
 have c4:Cx W5 (w.heap.size+1+1+1+1) 0 (.bool false):=by
  have:=Bx.new ((((w.alloc (Xj addr)).alloc (.cells #[Xi 0] 3)).alloc (.cells #[Xi 0] 3)).alloc (.cells #[Xi 0,Xi 0,Xu 0] 188)) (.bool false) 4;rw[World.size_alloc,World.size_alloc,World.size_alloc,World.size_alloc,ap] at this;exact this
 have a4:W5.heap.size=w.heap.size+1+1+1+1+1:=by rw[<-ap];simp
 have HC:=kq7 a4 a6 c0 c1 c2 c3 c4;clear a4 a6 c0 c1 c2 c3 c4;gi_wp2_with fail
 try rw[ap]
 clear ap;have HC:=HC.out;obtain⟨b5,e5⟩:=Ii (w.heap.size+1+1+1+1+1)
 try rw[e5]
 rw[e5] at HC;obtain⟨b4,e4⟩:=Ii (w.heap.size+1+1+1+1);rw[e4];rw[e4] at HC;obtain⟨b3,e3⟩:=Ii (w.heap.size+1+1+1);rw[e3];rw[e3] at HC;obtain⟨b2,e2⟩:=Ii (w.heap.size+1+1);rw[e2];rw[e2] at HC;obtain⟨b1,e1⟩:=Ii (w.heap.size+1);rw[e1];rw[e1] at HC;obtain⟨b0,e0⟩:=Ii w.heap.size;obtain⟨a4,a6,c0,c1,c2,c3,c4⟩:=HC;rw[e0];rw[e0] at c0;have HB:=If (show w.heap.size=b0/\b1=b0+1/\b2=b0+2/\b3=b0+3/\b4=b0+4/\b5=b0+5/\W5.heap.size=b5 from⟨e0,by omega,by omega,by omega,by omega,by omega,a4⟩);have H5:=kq6 a6 c0 c1 c2 c3 c4;clear a6 c0 c1 c2 c3 c4 e0 e1 e2 e3 e4 e5;refine(c8 _).mono ?_;rintro e w7 ⟨rfl,rfl⟩;rw[a4];clear a4;gi_wp2_with fail;obtain⟨W0,an⟩:=Ii (W5.alloc (Xm ph));rw[an];have d0:W0.heap.size=b5+1:=by rw[<-an,World.size_alloc,HB.out.2.2.2.2.2.2]
 have c5:W0.cell? ⟨b5,0,none⟩=some (PV ph):=by
  have:=(Bx.new W5 (PV ph) 90).1;rw[HB.out.2.2.2.2.2.2,an] at this;exact this
 have cj:Below w.heap.size w W0:=by rw[<-an];exact H5.a.alloc H5.a.size _
 have C0:Cx W0 b0 0 (Xi addr):=by rw[<-an];exact H5.b.alloc _
 have C1:Cx W0 b1 0 (Xi 0):=by rw[<-an];exact H5.c.alloc _
 have C2:Cx W0 b2 0 (Xi 0):=by rw[<-an];exact H5.d.alloc _
 have C3:Hx W0 b3 ⟨0,0,0⟩:=by rw[<-an];exact H5.e.alloc _
 have C4:Cx W0 b4 0 (.bool false):=by rw[<-an];exact H5.f.alloc _
 clear an H5;have hW:=HR.b.wide cj;refine wpIn_rangeFunc_ownH rfl h1 (gf:=159) (lb:=#[PV b5]) rfl trivial (enters_of func159 (by kernel_rfl) rfl)
  (qR hW (Z:=fun k=>k=b1\/k=b2\/k=b3\/k=b4) (fun k hk=>by
   have h1:=HR.b.slab;obtain⟨c',h1⟩:=h1;have h1:=h1.yl _ HR.b.yh;have h3:=HR.b.tab.lt;have hb:=HB.out;refine⟨ae (by omega),by omega,?_⟩
   show k≠1
   omega) b5 c5 (by have hb:=HB.out;omega)) fe.trans (fun W l o o' h1 h2 h3 h4=>fe.put W l o o' h1 h2 h3 h4) (aa _ _) (fun _=>rfl)
  (fun ad W=>(fS addr (gt ad)=none/\Cx W b0 0 (Xi addr)/\Cx W b1 0 (Xi 0)/\Cx W b2 0 (Xi 0)/\Hx W b3 ⟨0,0,0⟩/\Cx W b4 0 (.bool false))/\Below w.heap.size w W)
  (fun cd ad W=>(cd=.ret/\(∃p k x,fS addr (gt ad)=some (p,k,x)/\Cx W b1 0 (Xi p)/\Cx W b2 0 (Xi k)/\Hx W b3 x)/\Cx W b4 0 (.bool true))/\Below w.heap.size w W)
  (OwnFrom.and (Own.from (fun s A B row hs hg hr=>⟨hs.1,hs.2.1.kept hg hr,hs.2.2.1.kept hg hr,hs.2.2.2.1.kept hg hr,hs.2.2.2.2.1.kept hg hr,hs.2.2.2.2.2.kept hg hr⟩) _) (ownFrom_below Ih (by have hb:=HB.out;omega)))
  (fun cd=>OwnFrom.and (Own.from (fun s A B row hs hg hr=>⟨hs.1,(let ⟨p,k,x,k1,k2,k3,k4⟩:=hs.2.1;⟨p,k,x,k1,k2.kept hg hr,k3.kept hg hr,k4.kept hg hr⟩),hs.2.2.kept hg hr⟩) _) (ownFrom_below Ih (by have hb:=HB.out;omega)))
  ⟨⟨rfl,C0,C1,C2,C3,C4⟩,cj⟩
  (fun x a' W=>∃B,b4<B/\Hx W B x.1.2/\a'= { tmps:=#[PV ph,Xi addr,undef,PV b0,PV b1,PV b2,PV b3,PV b4,Xi x.1.1,PV B,undef,undef,undef,PV ph,.func (.func 159) #[] #[PV b5],Xi x.1.1,fT x.1.2,undef,undef,undef,undef,undef,undef,undef,undef,undef,undef,undef,undef,undef,undef,undef,undef,undef,undef,undef,undef,undef,undef,undef,undef,undef,undef,undef,undef,undef,undef,undef,undef,undef,undef,undef,undef,undef,undef,undef,undef,undef,undef,undef,undef,undef,undef,undef,undef,undef],defers:=[] })
  (fun x a' _ X W' row hs hg hr=>by
   obtain⟨B,k1,k2,k3⟩:=hs;exact⟨B,k1,k2.kept hg (fun r e=>(hr r e).2),k3⟩)
  ?assign ?body ?done ?stop
 case assign=>
  rintro l ad ⟨⟨p,kd,xn,xw⟩,hx⟩ W K ⟨⟨i0,i1,i2,i3,i4,i5⟩,hB⟩ hK;have HH:=kq7 i0 i1 i2 i3 i4 i5 hB;have HK:=If hK;clear i0 i1 i2 i3 i4 i5 hB hK;simp only[mF,fT]
  gi_wp2
  have bo:=HH.g;refine HK.out _ _ ((KeepsOthers.alloc _ _).from _) (fe.of_below ((aa _ W).alloc Ih _)) ⟨⟨HH.a,HH.b.alloc _,HH.c.alloc _,HH.d.alloc _,HH.e.alloc _,HH.f.alloc _⟩,bo.alloc bo.size _⟩ ⟨W.heap.size,?_,Hx.new W ⟨kd,xn,xw⟩,rfl⟩;exact HH.f.lt
 case body=>
  rintro l ad ⟨⟨p,kd,xn,xw⟩,hx⟩ a' W hl cp ⟨⟨i0,i1,i2,i3,i4,i5⟩,hB⟩ ⟨B,bo,a3,rfl⟩ hlt;simp only at hx a3;obtain⟨bf,bj,bk,bm⟩:=hx;have hv:∀(hx:_),gt (ad++[(⟨(p,⟨kd,xn,xw⟩),hx⟩:iH)])=gt ad++[(p,⟨kd,xn,xw⟩)]:=fun hx=>by
   show (ad++[(⟨(p,⟨kd,xn,xw⟩),hx⟩:iH)]).map (·.1)=_
   rw[aP]
   rfl
  have bx:=qx addr (p,⟨kd,xn,xw⟩) (gt ad) i0;have cq:=lO addr p ⟨kd,xn,xw⟩ [];rw[<- @hv ⟨bf,bj,bk,bm⟩] at bx;have hf:=bx.trans cq;clear bx cq hv;have a0:=i1.1;obtain⟨q1,g1⟩:=id i2;obtain⟨q2,g2⟩:=id i3;obtain⟨q3,g3⟩:=i4.c0;obtain⟨q4,g4⟩:=i4.c1;obtain⟨q5,g5⟩:=i4.c2;obtain⟨q6,g6⟩:=id i5;have x0:=a3.c0.1;have x1:=a3.c1.1;have x2:=a3.c2.1;have HH:=kq10 i0 i1 i2 i3 i4 i5 hB a3 hl cp;have HF:=If hf;clear i0 i1 i2 i3 i4 i5 hB hf a3 hl cp
  by_cases h2:kd=2/\addr=p*64+2
  ·obtain⟨rfl,rfl⟩:=h2;gi_wp2_with fail;have hb:=HB.out;have n1:¬B=b1:=by omega
   have n2:¬B=b2:=by omega
   have n3:¬B=b3:=by omega
   have n4:¬B=b4:=by omega
   have m1:¬b1=b2:=by omega
   have m2:¬b1=b3:=by omega
   have m3:¬b2=b3:=by omega
   have m4:¬b1=b4:=by omega
   have m5:¬b2=b4:=by omega
   have m6:¬b3=b4:=by omega
   clear hb;obtain⟨I,ai,au⟩:=uO B ⟨2,xn,xw⟩;have b9:∀x:Fq I,x.to.cell? ⟨B,0,none⟩=some (Xi 2):=fun x=>(au _ x.ok).c0.1;have b':∀x:Fq I,x.to.cell? ⟨B,1,none⟩=some (Xi xn):=fun x=>(au _ x.ok).c1.1;have ca:∀x:Fq I,x.to.cell? ⟨B,2,none⟩=some (Xu xw):=fun x=>(au _ x.ok).c2.1;have bq:I W.drew:=ai _ HH.h;refine yg I (.take 0 (.take 1 (.go 2 (.go 3 (.go 4 (.go 5 .nil)))))) (by kernel_rfl) (by kernel_rfl) (by kernel_rfl) bq ?_
   iterate 2
    refine' pT ?_ ?_;rotate_left
    ·intro x;go_simp
     try rfl
    try simp only[pu]
   have a1:=HH.h;have HI:=kq2 a1 (a1.other (j:=0) (Xi p) n1);have HJ:=kq2 (HI.b.other (j:=0) (Xi 0) n2) True.intro;have HK:=If (((HJ.a.other (j:=0) (Xi 2) n3).other (j:=1) (Xi xn) n3).other (j:=2) (Xu xw) n3);have HL:=If (HK.out.other (j:=0) (.bool true) n4);clear a1;refine pD fun K hK=>?_;go_simp
   try go_simp
   refine hK.out _ _ (ai _ (by exact Hx.drew HI.b)) ?_;clear hK K
   try simp only[pu]
   refine pD fun K hK=>?_;go_simp
   try go_simp
   refine hK.out _ _ (ai _ (by exact Hx.drew HJ.a)) ?_;clear hK K
   try simp only[pu]
   refine pD fun K hK=>?_;go_simp
   try go_simp
   refine hK.out _ _ (ai _ (by exact Hx.drew HK.out)) ?_;clear hK K
   try simp only[pu]
   refine pD fun K hK=>?_;go_simp
   try go_simp
   refine hK.out _ _ (ai _ (by exact Hx.drew HL.out)) ?_;clear hK K
   try simp only[pu]
   refine jy ?_;gi_wp2_with fail;obtain⟨r1,r2,r3⟩:=us (n:=W0.heap.size) p 0 ⟨2,xn,xw⟩ HH.c HH.d HH.e HH.f HH.g m1 m2 m3 m4 m5 m6 (by have hb:=HB.out;omega);refine⟨r1,⟨rfl,⟨p,0,⟨2,xn,xw⟩,?_,r2.1,r2.2.1,r2.2.2.1⟩,r2.2.2.2⟩,r3⟩;rw[HF.out,if_pos (by simp)]
  ·have hd:((kd:Int)==2)=false\/(((kd:Int)==2)=true/\((addr:Int)==(p:Int)*64+2)=false):=by
    by_cases e:kd=2
    ·refine ae ⟨by rw[e];rfl,?_⟩;have:¬addr=p*64+2:=fun e2=>h2 ⟨e,e2⟩
     simp
     omega
    ·exact ab (by simp;omega)
   rw[if_neg h2] at HF;have HD:=If hd;clear hd h2
   by_cases h3:kd≠1\/addr / 64≠p
   ·rw[if_pos h3] at HF;have he:((kd:Int) !=1)=true\/(((kd:Int) !=1)=false/\((addr:Int) / 64 !=(p:Int))=true):=by
     by_cases e:kd=1
     ·refine ae ⟨by rw[e];rfl,?_⟩;have:¬addr / 64=p:=fun e2=>by rcases h3 with h3 | h3<;>exact h3 (by assumption)
      simp
      omega
     ·exact ab (by simp;omega)
    have HE:=If he;clear he h3;have ck:fS addr (gt (ad++[(⟨(p,⟨kd,xn,xw⟩),⟨bf,bj,bk,bm⟩⟩:iH)]))=none:=HF.out;have HN:=If ck;clear ck
    rcases HD.out with hd | ⟨hd,dc⟩<;>rcases HE.out with he | ⟨he,c7⟩
    all_goals
     gi_wp2_with fail;exact⟨KeepsFrom.refl _ _,fe.refl _ _ _,⟨HN.out,HH.b,HH.c,HH.d,HH.e,HH.f⟩,HH.g⟩
   ·rw[if_neg h3] at HF;have cx:kd=1/\addr / 64=p:=⟨by omega,by omega⟩;obtain⟨rfl,hp⟩:=cx;have hd:(((1:Nat):Int)==2)=false:=rfl;have he:(((1:Nat):Int) !=1)=false:=rfl;have c7:((addr:Int) / 64 !=(p:Int))=false:=by simp;omega
    clear h3;obtain⟨er,cv⟩:=wW xn;have bc:CallsIn Fence.wide 4 prog 117 #[Xi xn] W _:=callsIn_wide.2 (qk xn W);rw[cv] at bc;have c6:=nX xn;obtain⟨m,hm⟩:=Ii (eJ xn);rw[hm] at bc c6;have HS:=kq2 bc hm;clear bc cv hm;gi_wp2_with fail;refine(CallsIn.inRound l HS.a).mono ?_;rintro e w2 ⟨rfl,a5⟩;have HW:=If a5;clear a5;gi_wp2_with fail;clear a0 x0 x1 x2 q1 q2 q3 q4 q5 q6 g1 g2 g3 g4 g5 g6
    gi_loopw [12,45] (fun _ i wr=>∃k:Nat,k<=m/\i=Xi k/\Hid (Below W.heap.size W wr/\∀j,j<k->(decide (fF p xn j=addr) && jI xw j)=false)) (fun _ i _=>m-(intOf i).toNat)
    case atStart=>exact⟨0,by omega,rfl,If ⟨HW.out,fun j hj=>by omega⟩⟩
    case round=>
     obtain⟨k,hk,rfl,hr⟩:=hrel
     by_cases hlt:k<m
     ·have ds:(k:Int)<m:=by omega
      have ba:=HH.h;have a8:=ba.below hr.out.1 ba.lt;have bv:=HH.b.below hr.out.1 HH.b.lt;have b9:∀x:Fq (Below wr.heap.size wr),x.to.cell? ⟨b0,0,none⟩=some (Xi addr):=fun x=>(bv.below x.ok bv.lt).1;have b':∀x:Fq (Below wr.heap.size wr),x.to.cell? ⟨B,1,none⟩=some (Xi xn):=fun x=>(a8.below x.ok a8.lt).c1.1;have ca:∀x:Fq (Below wr.heap.size wr),x.to.cell? ⟨B,2,none⟩=some (Xu xw):=fun x=>(a8.below x.ok a8.lt).c2.1;have a9:∀x:Fq (Below wr.heap.size wr),CallsIn Fence.wide 4 prog 119 #[Xi p,Xi xn,Xi k] x.to _:=fun x=>CallsIn.keeps_below (callsIn_wide.2 (uJ p xn k x.to (by omega) (by omega) (by omega)));have a7:∀x:Fq (Below wr.heap.size wr),CallsIn Fence.wide 4 prog 118 #[Xu xw,Xi k] x.to _:=fun x=>CallsIn.keeps_same (callsIn_wide.2 (zx xw k x.to (by omega) (by omega)));obtain⟨P,hP⟩:=Ii (fF p xn k);obtain⟨bt,bu⟩:=Ii (jI xw k);rw[hP] at a9;rw[bu] at a7;have HP:=kq5 hP bu hr.out.1 hr.out.2 ba;have bd:=hr.out.1.size;clear hP bu hr ba a8 bv
      by_cases hpa:P=addr
      ·obtain rfl:=hpa
       cases bt with
       | true=>
        gi_wp2_with fail;refine pq (Below wr.heap.size wr) (by kernel_rfl) (by kernel_rfl) (by kernel_rfl) ⟨rfl,rfl,rfl,Nat.le_refl _,fun _ _=>rfl⟩ fun⟨x0⟩=>?_
        repeat (first | gi_big_quiet_skip | (gi_big_quiet_want;gi_big_quiet_op;first | go_big_quiet_on | (apply Exists.intro;refine⟨fun x=>?_,?_⟩;(· first | exact CallsIn.inRound l (a9 x) | exact CallsIn.inRound l (a7 x));go_big_quiet_on)))
        refine wpQuietIn_nil ?_;rintro _ ⟨x,rfl⟩;have hx:=x.ok;have i2:=(HH.c.below HP.c HH.c.lt);have i3:=(HH.d.below HP.c HH.d.lt);have i4:=(HH.e.below HP.c HH.e.lt);have i5:=(HH.f.below HP.c HH.f.lt);have ib:=HP.e.below HP.c HP.e.lt;have bl:=HH.g.trans ((HP.c.trans (hx.mono bd)).mono HH.g.size)
        replace i2:=i2.below hx i2.lt
        replace i3:=i3.below hx i3.lt
        replace i4:=i4.below hx i4.lt
        replace i5:=i5.below hx i5.lt
        replace ib:=ib.below hx ib.lt
        have cn:KeepsFrom W0.heap.size W x.to:=KeepsFrom.of_grownBy (lf (HP.c.trans (hx.mono bd))) (fun j e=>by cases e);generalize x.to=V at*;clear b9 b' ca a9 a7 x x0 hx;obtain⟨q1,g1⟩:=id i2;obtain⟨q2,g2⟩:=id i3;obtain⟨q3,g3⟩:=i4.c0;obtain⟨q4,g4⟩:=i4.c1;obtain⟨q5,g5⟩:=i4.c2;obtain⟨q6,g6⟩:=id i5;have HV:=kq7 i2 i3 i4 i5 bl cn ib;clear i2 i3 i4 i5 bl cn ib;gi_wp2_with fail;have hb:=HB.out;have n1:¬B=b1:=by omega
        have n2:¬B=b2:=by omega
        have n3:¬B=b3:=by omega
        have n4:¬B=b4:=by omega
        have m1:¬b1=b2:=by omega
        have m2:¬b1=b3:=by omega
        have m3:¬b2=b3:=by omega
        have m4:¬b1=b4:=by omega
        have m5:¬b2=b4:=by omega
        have m6:¬b3=b4:=by omega
        clear hb;obtain⟨I,ai,au⟩:=uO B ⟨1,xn,xw⟩;have b9:∀x:Fq I,x.to.cell? ⟨B,0,none⟩=some (Xi 1):=fun x=>(au _ x.ok).c0.1;have b':∀x:Fq I,x.to.cell? ⟨B,1,none⟩=some (Xi xn):=fun x=>(au _ x.ok).c1.1;have ca:∀x:Fq I,x.to.cell? ⟨B,2,none⟩=some (Xu xw):=fun x=>(au _ x.ok).c2.1;have bq:I V.drew:=ai _ HV.g;refine yg I (.take 0 (.take 1 (.take 2 (.go 3 (.go 4 (.go 5 (.go 6 .nil))))))) (by kernel_rfl) (by kernel_rfl) (by kernel_rfl) bq ?_
        iterate 3
         refine' pT ?_ ?_;rotate_left
         ·intro x;go_simp
          try rfl
         try simp only[pu]
        have a1:=HV.g;have HI:=kq2 a1 (a1.other (j:=0) (Xi p) n1);have HJ:=kq2 (HI.b.other (j:=0) (Xi k) n2) True.intro;have HK:=If (((HJ.a.other (j:=0) (Xi 1) n3).other (j:=1) (Xi xn) n3).other (j:=2) (Xu xw) n3);have HL:=If (HK.out.other (j:=0) (.bool true) n4);clear a1;refine pD fun K hK=>?_;go_simp
        try go_simp
        refine hK.out _ _ (ai _ (by exact Hx.drew HI.b)) ?_;clear hK K
        try simp only[pu]
        refine pD fun K hK=>?_;go_simp
        try go_simp
        refine hK.out _ _ (ai _ (by exact Hx.drew HJ.a)) ?_;clear hK K
        try simp only[pu]
        refine pD fun K hK=>?_;go_simp
        try go_simp
        refine hK.out _ _ (ai _ (by exact Hx.drew HK.out)) ?_;clear hK K
        try simp only[pu]
        refine pD fun K hK=>?_;go_simp
        try go_simp
        refine hK.out _ _ (ai _ (by exact Hx.drew HL.out)) ?_;clear hK K
        try simp only[pu]
        refine jy ?_;gi_wp2_with fail;obtain⟨r1,r2,r3⟩:=us (n:=W0.heap.size) p k ⟨1,xn,xw⟩ HV.a HV.b HV.c HV.d HV.e m1 m2 m3 m4 m5 m6 (by have hb:=HB.out;omega);have bb:fS P (gt (ad++[(⟨(p,⟨1,xn,xw⟩),⟨bf,bj,bk,bm⟩⟩:iH)]))=some (p,k,⟨1,xn,xw⟩):=by
         rw[HF.out];have hs:qp P p ⟨1,xn,xw⟩=some k:=by
          unfold qp;exact AV (by rw[HS.b];exact hlt) (by simp[HP.a,HP.b]) HP.d
         rw[hs]
        exact⟨HV.f.trans r1,⟨rfl,⟨p,k,⟨1,xn,xw⟩,bb,r2.1,r2.2.1,r2.2.2.1⟩,r2.2.2.2⟩,r3⟩
       | false=>
        gi_wp2_with fail;refine pq (Below wr.heap.size wr) (by kernel_rfl) (by kernel_rfl) (by kernel_rfl) ⟨rfl,rfl,rfl,Nat.le_refl _,fun _ _=>rfl⟩ fun⟨x0⟩=>?_
        repeat (first | gi_big_quiet_skip | (gi_big_quiet_want;gi_big_quiet_op;first | go_big_quiet_on | (apply Exists.intro;refine⟨fun x=>?_,?_⟩;(· first | exact CallsIn.inRound l (a9 x) | exact CallsIn.inRound l (a7 x));go_big_quiet_on)))
        refine wpQuietIn_nil ?_;rintro _ ⟨x,rfl⟩;have hx:=HP.c.trans (x.ok.mono bd);generalize x.to=V at*;gi_wp2_with fail;exact⟨⟨k+1,by omega,by simp,If ⟨hx,fun j hj=>by
         by_cases hjk:j<k
         ·exact HP.d j hjk
         ·obtain rfl:j=k:=by omega
          rw[HP.b]
          simp⟩⟩,by simp[intOf];omega⟩
      ·have dv:((P:Int)==addr)=false:=by simp;omega
       gi_wp2_with fail;refine pq (Below wr.heap.size wr) (by kernel_rfl) (by kernel_rfl) (by kernel_rfl) ⟨rfl,rfl,rfl,Nat.le_refl _,fun _ _=>rfl⟩ fun⟨x0⟩=>?_
       repeat (first | gi_big_quiet_skip | (gi_big_quiet_want;gi_big_quiet_op;first | go_big_quiet_on | (apply Exists.intro;refine⟨fun x=>?_,?_⟩;(· first | exact CallsIn.inRound l (a9 x) | exact CallsIn.inRound l (a7 x));go_big_quiet_on)))
       refine wpQuietIn_nil ?_;rintro _ ⟨x,rfl⟩;have hx:=HP.c.trans (x.ok.mono bd);generalize x.to=V at*;gi_wp2_with fail;exact⟨⟨k+1,by omega,by simp,If ⟨hx,fun j hj=>by
        by_cases hjk:j<k
        ·exact HP.d j hjk
        ·obtain rfl:j=k:=by omega
         rw[HP.a]
         simp[hpa]⟩⟩,by simp[intOf];omega⟩
     ·obtain rfl:k=m:=by omega
      have bb:fS addr (gt (ad++[(⟨(p,⟨1,xn,xw⟩),⟨bf,bj,bk,bm⟩⟩:iH)]))=none:=by
       rw[HF.out];have hs:qp addr p ⟨1,xn,xw⟩=none:=by
        unfold qp;exact AU (fun j hj=>hr.out.2 j (by rw[HS.b] at hj;exact hj))
       rw[hs]
       rfl
      have HN:=kq2 bb hr.out.1;clear bb hr;gi_wp2_with fail;exact⟨KeepsFrom.of_grownBy (lf HN.b) (fun j e=>by cases e),fe.of_below HN.b,⟨HN.a,HH.b.below HN.b HH.b.lt,HH.c.below HN.b HH.c.lt,HH.d.below HN.b HH.d.lt,HH.e.below HN.b HH.e.lt,HH.f.below HN.b HH.f.lt⟩,HH.g.trans (HN.b.mono HH.g.size)⟩
 case done=>
  rintro D ys W hD hS ⟨⟨i0,i1,i2,i3,i4,i5⟩,hB⟩ hK;obtain⟨k1,f1⟩:=id i2;obtain⟨k2,f2⟩:=id i3;obtain⟨k3,f3⟩:=i4.c0;obtain⟨k4,f4⟩:=i4.c1;obtain⟨k5,f5⟩:=i4.c2;obtain⟨k6,f6⟩:=id i5;have hb:=HB.out;have m1:¬b1=b2:=by omega
  have m2:¬b1=b3:=by omega
  have m3:¬b2=b3:=by omega
  have m4:¬b1=b4:=by omega
  have m5:¬b2=b4:=by omega
  have m6:¬b3=b4:=by omega
  have hw:w.heap.size<=b1/\w.heap.size<=b2/\w.heap.size<=b3/\w.heap.size<=b4:=by omega
  clear hb;have HH:=kq5 i2 i3 i4 i5 hB;rw[hS] at i0;have bs:R=.tuple #[Xi 0,Xi 0,.agg #[Xi 0,Xi 0,Xu 0],.bool false]:=by
   rw[<-HR.a];unfold kb;rw[i0]
   rfl
  clear i0 i1 i2 i3 i4 i5 hB hS
  gi_wp2
  have a2:=((((((KeepsOthers.setCell W ⟨b1,0,none⟩ (Xi 0)).trans (KeepsOthers.setCell _ ⟨b2,0,none⟩ (Xi 0))).trans (KeepsOthers.setCell _ ⟨b3,0,none⟩ (Xi 0))).trans (KeepsOthers.setCell _ ⟨b3,1,none⟩ (Xi 0))).trans (KeepsOthers.setCell _ ⟨b3,2,none⟩ (Xu 0))).trans (KeepsOthers.setCell _ ⟨b4,0,none⟩ (.bool false))).same D _ hK rfl;refine⟨by simp,.inl ⟨_,_,rfl,run_takeDeferred a2,?_⟩⟩;have r1:=(((((((HH.a.set (Xi 0)).other (Xi 0) m1).other (j:=0) (Xi 0) m2).other (j:=1) (Xi 0) m2).other (j:=2) (Xu 0) m2).other (j:=0) (.bool false) m4).put (o':=.deferred none) a2 rfl).1;have r2:=(((((((HH.b.other (j:=0) (Xi 0) (Ne.symm m1)).set (Xi 0)).other (j:=0) (Xi 0) m3).other (j:=1) (Xi 0) m3).other (j:=2) (Xu 0) m3).other (j:=0) (.bool false) m5).put (o':=.deferred none) a2 rfl).1;have cw:=((((HH.c.other (C:=b1) (j:=0) (Xi 0) (Ne.symm m2)).other (C:=b2) (j:=0) (Xi 0) (Ne.symm m3)).set ⟨0,0,0⟩).other (C:=b4) (j:=0) (.bool false) m6);have ar:=cw.put (o':=.deferred none) a2 rfl;have r3:=ar.c0.1;have r4:=ar.c1.1;have r5:=ar.c2.1;have r6:=(((((((HH.d.other (j:=0) (Xi 0) (Ne.symm m4)).other (j:=0) (Xi 0) (Ne.symm m5)).other (j:=0) (Xi 0) (Ne.symm m6)).other (j:=1) (Xi 0) (Ne.symm m6)).other (j:=2) (Xu 0) (Ne.symm m6)).set (.bool false)).put (o':=.deferred none) a2 rfl).1;clear cw ar
  dsimp only at r3 r4 r5
  rw[show ((0:Nat):Int)=0 from rfl] at r3 r4 r5;subst bs;refine⟨.tuple #[Xi 0,Xi 0,.agg #[Xi 0,Xi 0,Xu 0],.bool false],?_,rfl,((((((HH.e.setCell (p:=⟨b1,0,none⟩) hw.1 _).setCell (p:=⟨b2,0,none⟩) hw.2.1 _).setCell (p:=⟨b3,0,none⟩) hw.2.2.1 _).setCell (p:=⟨b3,1,none⟩) hw.2.2.1 _).setCell (p:=⟨b3,2,none⟩) hw.2.2.1 _).setCell (p:=⟨b4,0,none⟩) hw.2.2.2 _).trans (belowK_b (w:=w) Ih _ D _ _ (by have hb:=HB.out;omega) a2 rfl rfl)⟩
  simp[results,f108,go_sem,r1,r2,r3,r4,r5,r6]
 case stop=>
  rintro D cd ad W hD c9 ⟨⟨rfl,⟨p,k,x,cu,cb,a5,cc⟩,ch⟩,hB⟩ hK;obtain⟨t,ht⟩:=c9;have bs:R=.tuple #[Xi p,Xi k,.agg #[Xi x.kind,Xi x.n,Xu x.w],.bool true]:=by
   rw[<-HR.a];unfold kb;rw[<-ht,qy addr (p,k,x) _ t cu]
   rfl
  have HH:=If hB;have r1:=(cb.put (o':=.deferred none) hK rfl).1;have r2:=(a5.put (o':=.deferred none) hK rfl).1;have ar:=cc.put (o':=.deferred none) hK rfl;have r3:=ar.c0.1;have r4:=ar.c1.1;have r5:=ar.c2.1;have r6:=(ch.put (o':=.deferred none) hK rfl).1;clear cu ht cb a5 cc ch hB ar;subst bs
  gi_wp2
  refine⟨by simp,.inl ⟨_,_,rfl,run_takeDeferred hK,?_⟩⟩;refine⟨.tuple #[Xi p,Xi k,.agg #[Xi x.kind,Xi x.n,Xu x.w],.bool true],?_,rfl,HH.out.trans (belowK_b (w:=w) Ih W D _ _ (by have hb:=HB.out;omega) hK rfl rfl)⟩
  simp[results,f108,go_sem,r1,r2,r3,r4,r5,r6]
end Go.Proofs.YtpljannolpapgaaGreatDoor
namespace Go.Proofs.YtpljannolpapgaaGreatDoor
open Go.RowKit Tryz Go.BigFrame Go.Maps Go.WideMaps Lf
variable{Y:Nat->Prop}{s:Slab}{w:World}
theorem Eo{pa pm:Nat}{blk:Nat->Nat}(h:eh w pa pm s Y blk)(p n:Nat)(hg:4096<n):
 Ct 109 #[PV pa,Xi p,Xi n] w fun e w'=>e=.returned (Xi ((s.release p n).1:Nat))/\eh w' pa pm (s.release p n).2 Y blk/\Fo Y w w':=by
 have ad:=If (ly h);have he:s.release p n=(2,s):=by unfold Slab.release;rw[if_pos (by omega)]
 rw[he];have H:=If h;have ai:1<=n:=by omega
 clear h he;go_enter func109,ntmps109;go_wp2_with fail;refine Jc ad.out ?_;go_wp2_with fail;go_ret;exact⟨rfl,H.out,Fo.refl _ _⟩
theorem Fz.release{ph pa pm:Nat}(h:Fz w ph pa pm s Y)(p n:Nat)(hp:p<=1048575):
 Ct 109 #[PV pa,Xi p,Xi n] w fun e w'=>e=.returned (Xi ((s.release p n).1:Nat))/\Fz w' ph pa pm (s.release p n).2 Y/\Fo Y w w':=by
 obtain⟨ad,hs⟩:=h.slab
 by_cases hn:n<=100000000
 ·refine(En hs p n hp hn).mono ?_;rintro e w' ⟨he,h1,h2⟩;exact⟨he,h.step ⟨ad,h1⟩ h2,h2⟩
 ·refine(Eo hs p n (by omega)).mono ?_;rintro e w' ⟨he,h1,h2⟩;exact⟨he,h.step ⟨ad,h1⟩ h2,h2⟩
theorem G4(a b c d e f:Int)(W:World):(binOp .eql 188 (.agg #[Xi a,Xi b,Xu c]) (.agg #[Xi d,Xi e,Xu f])).run prog W=.ok (.bool (decide (a=d/\b=e/\c=f))) W:=by
 go_simp;by_cases h1:a=d<;>by_cases h2:b=e<;>by_cases h3:c=f<;>simp[h1,h2,h3]
theorem zm{w k:Nat}(hw:w<2^64):iy w k<2^64:=cV Nat.and_le_left hw
theorem Bv{ph pa pm:Nat}(h:Fz w ph pa pm s Y)(p k:Nat)(hp:p<=1048575)(hk:k<64):
 Ct 110 #[PV ph,Xi p,Xi k] w fun e w'=>e=.returned (.tuple #[])/\Fz w' ph pa pm (li s p k) Y/\Fo Y w w':=by
 have au:=getH_lt h p;have ad:=qU h p (by omega);have ht:li s p k=if(⟨(FA s p).kind,(FA s p).n,iy (FA s p).w k⟩:Hr)=⟨1,(FA s p).n,0⟩ then((Ie s p ⟨(FA s p).kind,(FA s p).n,iy (FA s p).w k⟩).release p 1).2 else Ie s p ⟨(FA s p).kind,(FA s p).n,iy (FA s p).w k⟩:=rfl
 rw[ht];clear ht;generalize FA s p=x at*;obtain⟨kd,xn,xw⟩:=x;simp only at au ad⊢;obtain⟨a6,a7,ar⟩:=au;have a4:=fun W=>zo xw k W ar hk;have a5:=zm (k:=k) ar;have an:∀W,Fz W ph pa pm s Y->_:=fun W hW=>oh (hW.own (Xk kd xn (iy xw k:Nat))) p ⟨kd,xn,iy xw k⟩ (by omega) a6 a7 a5;simp only[fT] at ad an;generalize iy xw k=bs at*;generalize Ie s p ⟨kd,xn,bs⟩=s1 at*;have a3:=fun W (hW:Fz W ph pa pm s1 Y)=>hW.release p 1 hp;obtain⟨B,hB⟩:=Ii (decide ((kd:Int)=1/\(xn:Int)=xn/\(bs:Int)=0));have a8:=fun W=>G4 kd xn bs 1 xn 0 W;rw[hB] at a8;have ap:((⟨kd,xn,bs⟩:Hr)=⟨1,xn,0⟩)=(B=true):=by
  rw[<-hB]
  simp
  omega
 simp only[ap];have hc:=h.cell;have HG:=kq5 ad a4 an a3 h;clear ad a4 an a3 h hB ap;go_enter func110,ntmps110;go_wp2_with fail;refine b8 HG.a fun w1 hb1=>?_;have H1:=kq2 (HG.e.below hb1) (HG.e.keep hb1);clear hb1;go_wp2_with fail;refine Jc (HG.b _) ?_;go_wp2_with fail;refine(HG.c w1 H1.a).mono ?_;rintro e w3 ⟨rfl,h3,k3⟩;have a2:(w1.alloc (Xk kd xn (bs:Nat))).heap[w1.heap.size]?=some (.cells #[Xi kd,Xi xn,Xu (bs:Nat)] 188 (0,0)):=by
  show (w1.heap.push _)[w1.heap.size]?=_;simp
 have a1:=(k3.block w1.heap.size (ae rfl)).trans a2;obtain⟨b0,b1,b2⟩:=fq a1;have a0:Fo Y w1 (w1.alloc (Xk kd xn (bs:Nat))):=H1.a.keep ((aa _ w1).alloc Ih _);have ai:=h3.mono (fun k hk=>ab hk) HG.e.yh HG.e.yt;have c3:=ai.cell;have H3:=kq2 ai (H1.b.trans (a0.trans (k3.mono fun k hk=>ab hk)));clear h3 k3 a2 a0 a1 ai
 cases B with
 | true=>
  go_wp2_with fail;refine(HG.d _ H3.a).mono ?_;rintro e w4 ⟨rfl,h4,k4⟩;have H4:=kq2 h4 (H3.b.trans k4);clear h4 k4;go_wp2_with fail
  go_end0
  exact⟨rfl,H4.out⟩
 | false=>
  go_wp2_with fail
  go_end0
  exact⟨rfl,H3.out⟩
theorem mH(addr:Nat){p k:Nat}{x:Hr}:∀l:List (Nat×Hr),fS addr l=some (p,k,x)->(p,x)∈l/\k<64
 | (q,y)::l,h=>by
  rw[lO] at h;split at h
  ·injection h with h
   injection h with h1 h2
   injection h2 with h2 h3
   subst h1 h2 h3;exact⟨by simp,by omega⟩
  ·split at h
   ·exact⟨ak _ (mH addr l h).1,(mH addr l h).2⟩
   ·split at h
    ·rename_i j hj;injection h with h
     injection h with h1 h2
     injection h2 with h2 h3
     subst h1 h2 h3;refine⟨by simp,?_⟩;unfold qp at hj;have h4:=bT hj;have h5:=nX y.n;have h6:=aZ.1 h4;omega
    ·exact⟨ak _ (mH addr l h).1,(mH addr l h).2⟩
theorem AS{ph pa pm:Nat}(h:Fz w ph pa pm s Y){addr p k:Nat}{x:Hr}(hf:kb s addr=some (p,k,x)):p<=1048575/\k<64/\x.kind<256/\x.n<2^56/\x.w<2^64:=by
 obtain⟨h1,h2⟩:=mH addr _ hf;obtain⟨h3,h4⟩:=oD _ _ h1;have h5:=getH_lt h p;simp only at h3 h4;rw[<-h4] at h5;exact⟨h.wf.top p h3,h2,h5⟩
theorem Bu{ph pa pm:Nat}(h:Fz w ph pa pm s Y)(addr:Nat)(ha:addr<=4611686018427387903):
 Ct 64 #[PV ph,Xi addr] w fun e w'=>e=.returned (Xi ((iM s addr).1:Nat))/\Fz w' ph pa pm (iM s addr).2 Y/\Fo Y w w':=by
 have a1:=qV h;have ap:=Bq h addr ha;obtain⟨R,hR⟩:=Ii (iM s addr);rw[hR]
 cases hf:kb s addr with
 | none=>
  rw[hf] at ap;have ai:R=(5,s):=by rw[<-hR];unfold iM;rw[hf]
  simp only[od,fT] at ap;have HG:=kq4 a1 ap ai h;clear a1 ap ai h hR hf;go_enter func64,ntmps64;go_wp2_with fail;refine Jc HG.a ?_;go_wp2_with fail;refine b8 HG.b fun w1 ad=>?_;have an:=ad.alloc ad.size (Xk (0:Nat) (0:Nat) (0:Nat));have H1:=kq2 (HG.d.below an) (HG.d.keep an);clear ad an;go_wp2_with fail;go_ret;obtain rfl:=HG.c;exact⟨rfl,H1.out⟩
 | some r=>
  obtain⟨p,k,x⟩:=r;have a5:=AS h hf;rw[hf] at ap;have ai:R=if x.kind=2 then s.release p x.n else(0,li s p k):=by rw[<-hR];unfold iM;rw[hf]
  obtain⟨kd,xn,xw⟩:=x;simp only[od,fT] at ap a5 ai;obtain⟨h1,h2,h3,h4,h5⟩:=a5;have a8:=fun W Z (hW:Fz W ph pa pm s Z)=>hW.release p xn h1;have a6:=fun W (hW:Fz W ph pa pm s Y)=>Bv hW p k h1 h2;have HG:=kq6 a1 ap ai h a8 a6;clear a1 ap ai h a8 a6 hR hf
  by_cases ar:kd=2
  ·obtain rfl:=ar;go_enter func64,ntmps64;go_wp2_with fail;refine Jc HG.a ?_;go_wp2_with fail;refine b8 HG.b fun w1 ad=>?_;have ho:=(HG.d.below ad).own (Xk (2:Nat) xn (xw:Nat));have an:=ad.alloc ad.size (Xk (2:Nat) xn (xw:Nat));have a2:=heap_alloc_new w1 (Xk (2:Nat) xn (xw:Nat));have hlt:=ad.size;have H1:=kq3 ho (HG.d.keep an) a2;clear ad an ho;go_wp2_with fail;generalize w1.alloc (Xk (2:Nat) xn (xw:Nat))=W at*;obtain⟨I,a3,a4⟩:∃I:World->Prop,(∀W',Fz W' ph pa pm s (lE Y w1.heap.size)\/Fz W' ph pa pm (s.release p xn).2 (lE Y w1.heap.size)->W'.heap[w1.heap.size]?=some (.cells #[Xi (2:Nat),Xi xn,Xu (xw:Nat)] 188 (0,0))->I W')/\(∀W',I W'->W'.cell? ⟨ph,0,none⟩=some (PV pa)/\W'.heap[w1.heap.size]?=some (.cells #[Xi (2:Nat),Xi xn,Xu (xw:Nat)] 188 (0,0))):=
    ⟨fun W'=>W'.cell? ⟨ph,0,none⟩=some (PV pa)/\W'.heap[w1.heap.size]?=some (.cells #[Xi (2:Nat),Xi xn,Xu (xw:Nat)] 188 (0,0)),fun W' h1 h2=>⟨h1.elim (·.cell) (·.cell),h2⟩,fun W' h=>h⟩
   have bb:∀x:Fq I,x.to.cell? ⟨ph,0,none⟩=some (PV pa):=fun x=>(a4 _ x.ok).1;have hq:=fun x:Fq I=>(a4 _ x.ok).2;obtain⟨a',ad,an⟩:=qf hq;have a9:I W.drew:=a3 _ (ab (H1.a.drewN 1)) a2;clear a2;refine fh I (.take 0 (.take 1 (.take 2 (.take 3 (.take 4 (.take 5 (.take 6 (.go 7 (.take 8 .nil))))))))) (by kernel_rfl) (by kernel_rfl) a9 ?_
   iterate 7
    refine' pT ?_ ?_;rotate_left
    ·intro x;go_simp
     try rfl
    try simp only[pu]
   refine pD fun K hK=>?_;go_simp;refine(HG.e _ _ (H1.a.drewN 1)).mono ?_;rintro e w2 ⟨rfl,au,ar⟩;have a7:=(ar.block w1.heap.size (ae rfl)).trans H1.c;have a0:Fo Y w w2:=H1.b.trans ((H1.a.keep (aa _ _).drew).trans ar |>.mono fun k hk=>ab hk);have H2:=kq2 (au.mono (fun k hk=>ab hk) HG.d.yh HG.d.yt) a0
   try go_simp
   refine hK.out _ _ (a3 _ (ae au) a7) ?_;clear hK K
   try simp only[pu]
   clear ar au a7 a0;refine' pT ?_ ?_;rotate_left
   ·intro x;go_simp
    try rfl
   try simp only[pu]
   refine eP ?_;go_wp2_with fail;go_ret;have ai:=HG.c;rw[if_pos trivial] at ai;subst ai;exact⟨rfl,H2.out⟩
  ·have ba:((kd:Int)==2)=false:=by simp;omega
   go_enter func64,ntmps64;go_wp2_with fail;refine Jc HG.a ?_;go_wp2_with fail;refine b8 HG.b fun w1 ad=>?_;have an:=ad.alloc ad.size (Xk kd xn xw);have H1:=kq2 (HG.d.below an) (HG.d.keep an);clear ad an;go_wp2_with fail;refine(HG.f _ H1.a).mono ?_;rintro e w2 ⟨rfl,au,a0⟩;have H2:=kq2 au (H1.b.trans a0);clear au a0;go_wp2_with fail;go_ret;have ai:=HG.c;rw[if_neg ar] at ai;subst ai;exact⟨rfl,H2.out⟩
end Go.Proofs.YtpljannolpapgaaGreatDoor
namespace Go.Proofs.YtpljannolpapgaaGreatDoor
open Lf
variable{n:Nat}{o:Nat->Nat}{p:Nat}{s:Slab}
theorem oS(hw:eQ s){a:Nat}(hp:a / 64∈s.keys)(x:Nat):(s.wr a x).rd a=x:=by
 obtain⟨l,h1,h2⟩:=kK hp;have hl:=hw.len _ h2;unfold Slab.rd;rw[Lf.Slab.page?_wr,h1];grind
theorem oM(s:Slab)(p:Nat)(x:Hr):(Ie s p x).keys=s.keys:=by unfold Ie;rw[i9,i9]
theorem I1(s:Slab)(p:Nat)(x:Hr):(Ie s p x).pages.length=s.pages.length:=by unfold Ie;rw[kL,kL]
theorem ng(s:Slab)(p:Nat)(x:Hr):(Ie s p x).quota=s.quota:=rfl
theorem rS(hw:eQ s)(p:Nat){x:Hr}(h1:x.kind<256)(h2:x.n<256)(h3:x.w<2^64):eQ (Ie s p x):=
 (hw.wr _ _ (by omega)).wr _ _ h3
theorem oN(p:Nat)(x:Hr){b:Nat}(h1:b≠p*64)(h2:b≠p*64+1):(Ie s p x).rd b=s.rd b:=by
 unfold Ie;rw[Slab.rd_wr_ne _ _ _ _ h2,Slab.rd_wr_ne _ _ _ _ h1]
theorem rR(hw:eQ s)(hp:p∈s.keys){x:Hr}(h1:x.kind<256)(h2:x.n<256):FA (Ie s p x) p=x:=by
 have e1:(p*64+1) / 64=p:=by omega
 have e0:p*64 / 64=p:=by omega
 have ad:eQ (s.wr (p*64) (x.kind+x.n*256)):=hw.wr _ _ (by omega);have r1:(Ie s p x).rd (p*64+1)=x.w:=oS ad (by rw[e1,i9];exact hp) _;have r0:(Ie s p x).rd (p*64)=x.kind+x.n*256:=by
  unfold Ie;rw[Slab.rd_wr_ne _ _ _ _ (by omega)];exact oS hw (by rw[e0];exact hp) _
 unfold FA;obtain⟨a,b,c⟩:=x
 grind
theorem lQ{s s':Slab}(h:∀b,b / 64=p->b % 64<2->s'.rd b=s.rd b):FA s' p=FA s p:=by
 grind [FA]
theorem yi(s:Slab)(a:Nat):∀n,(s.zero a n).keys=s.keys
 | 0=>rfl
 | n+1=>by show (Slab.wr _ _ _).keys=_;rw[i9,yi s a n]
theorem yj(s:Slab)(a:Nat):∀n,(s.zero a n).pages.length=s.pages.length
 | 0=>rfl
 | n+1=>by show (Slab.wr _ _ _).pages.length=_;rw[kL,yj s a n]
theorem yn(s:Slab)(a:Nat):∀n,(s.zero a n).quota=s.quota
 | 0=>rfl
 | n+1=>by show (Slab.wr _ _ _).quota=_;exact yn s a n
theorem yo {s:Slab}(hw:eQ s)(a:Nat):∀n,eQ (s.zero a n)
 | 0=>hw
 | n+1=>(yo hw a n).wr _ _ (by omega)
theorem tj(s:Slab)(a:Nat){b:Nat}:∀n,(b<a\/a+n<=b)->(s.zero a n).rd b=s.rd b
 | 0,_=>rfl
 | n+1,h=>by
  show (Slab.wr _ _ _).rd b=_
  rw[Slab.rd_wr_ne _ _ _ _ (by omega)];exact tj s a n (by omega)
theorem lj(a q:Nat)(b:fQ)(r:List (Nat×fQ)):((a,b)::r).lookup q=if q=a then some b else r.lookup q:=by
 grind
theorem KB(p q:Nat)(l:fQ):∀r:List (Nat×fQ),(ins p l r).lookup q=if q=p then some l else r.lookup q
 | []=>by
  unfold ins;rw[lj]
 | x::r=>by
  obtain⟨a,b⟩:=x;unfold ins;simp only;split
  ·rename_i h;rw[lj,KB p q l r,lj];by_cases e:q=a
   ·rw[if_pos e,if_neg (by omega),if_pos e]
   ·rw[if_neg e,if_neg e]
  ·rw[lj]
theorem page?_add(s:Slab)(p q:Nat):(s.add p).page? q=if q=p then some jB else s.page? q:=KB p q jB s.pages
theorem tx(s:Slab)(p:Nat){b:Nat}:∀n,(b / 64<p\/p+n<=b / 64)->(s.addRun p n).rd b=s.rd b
 | 0,_=>rfl
 | n+1,h=>by
  rw[<-tx s p n (by omega)];show ((s.addRun p n).add (p+n)).rd b=_
  unfold Slab.rd;rw[page?_add,if_neg (by omega)]
theorem tz {s:Slab}(hw:eQ s){p:Nat}:∀n,(∀k,k<n->p+k∉s.keys)->p+n<=1048576->(s.pages.length+n)*64<=s.quota->eQ (s.addRun p n)
 | 0,_,_,_=>hw
 | n+1,h1,h2,h3=>by
  refine(tz hw n (fun k hk=>h1 k (by omega)) (by omega) (by omega)).add ?_ (by omega) ?_
  ·rw[nK];rintro(h | h)
   ·exact h1 n (by omega) h
   ·omega
  ·rw[mu,mw];omega
theorem ry(p q:Nat):∀r:List (Nat×fQ),q≠p->(r.filter fun x=>x.1≠p).lookup q=r.lookup q
 | [],_=>rfl
 | x::r,h=>by
  obtain⟨a,b⟩:=x;rw[List.filter_cons];split
  ·rw[lj,lj,ry p q r h]
  ·rename_i h1;have:a=p:=by grind
   subst this;rw[ry a q r h,lj,if_neg h]
theorem AE(s:Slab){p b:Nat}(h:b / 64≠p):(s.del p).rd b=s.rd b:=by
 unfold Slab.rd;have:(s.del p).page? (b / 64)=s.page? (b / 64):=ry p _ s.pages h;grind
theorem qr(s:Slab)(p:Nat){b:Nat}:∀n,(b / 64<p\/p+n<=b / 64)->(s.delRun p n).rd b=s.rd b
 | 0,_=>rfl
 | n+1,h=>by
  rw[<-qr s p n (by omega)];exact AE _ (by omega)
theorem ug {s:Slab}(hw:eQ s)(p:Nat):∀n,eQ (s.delRun p n)
 | 0=>hw
 | n+1=>(ug hw p n).del _
theorem Jk(s:Slab)(p:Nat):∀n,(s.delRun p n).quota=s.quota
 | 0=>rfl
 | n+1=>Jk s p n
theorem qo(s:Slab)(p:Nat):∀n,(s.delRun p n).pages.length<=s.pages.length
 | 0=>Nat.le_refl _
 | n+1=>aB (List.length_filter_le _ _) (qo s p n)
def gr(x:Hr):Nat:=if x.kind=2 then x.n else 1
def kT(x:Hr):Prop:=(x.kind=1/\x.n<8)\/(x.kind=2/\1<=x.n/\x.n<=64)
structure Own (s:Slab) (o:Nat->Nat):Prop where
 wf:eQ s
 up:∀p∈s.keys,o p∈s.keys/\o (o p)=o p/\o p<=p/\p<o p+gr (FA s (o p))
 down:∀h∈s.keys,o h=h->kT (FA s h)/\∀k,k<gr (FA s h)->h+k∈s.keys/\o (h+k)=h
theorem kT.small{x:Hr}(h:kT x):x.kind<256/\x.n<256:=by rcases h with h | h<;>omega
theorem rD {s:Slab}{o:Nat->Nat}(h:Own s o):∀(ks:List Nat) (nx:Nat),ks.Pairwise (·<·)->(∀q∈ks,q∈s.keys)->(∀q∈ks,o q∈ks->nx<=q)->(∀q∈ks,o q∉ks->q<nx)->∀y,y∈gC s nx ks↔(y.1∈ks/\o y.1=y.1/\y.2=FA s y.1)
 | [],nx,_,_,_,_,y=>by simp[gC]
 | p::r,nx,hs,hk,h1,h2,y=>by
  have ai:=(bp.1 hs).1;have ar:=(bp.1 hs).2;have ap:=hk p (am ..);have up:=h.up p ap;unfold gC;by_cases hlt:p<nx
  ·rw[if_pos hlt];have ad:o p∉p::r:=fun hm=>by have:=h1 p (am ..) hm;omega
   have an:o p≠p:=fun e=>ad (by rw[e];exact am ..);have au:∀q∈r,o q∈p::r->o q∈r:=fun q hq hm=>by
    rcases aj.1 hm with e | e
    ·exfalso
     have:=(h.up q (hk q (ak _ hq))).2.1;rw[e] at this;exact an this
    ·exact e
   rw[rD h r nx ar (fun q hq=>hk q (ak _ hq)) (fun q hq hm=>h1 q (ak _ hq) (ak _ hm))
    (fun q hq hm=>h2 q (ak _ hq) fun hm2=>hm (au q hq hm2)) y]
   constructor
   ·rintro⟨a,b,c⟩;exact⟨ak _ a,b,c⟩
   ·rintro⟨a,b,c⟩;rcases aj.1 a with e | e
    ·exfalso;rw[e] at b;exact an b
    ·exact⟨e,b,c⟩
  ·rw[if_neg hlt];have a2:o p∈p::r:=Classical.byContradiction fun hn=>hlt (h2 p (am ..) hn);have ad:o p=p:=by
    grind
   have sp:p<p+gr (FA s p):=by grind
   rw[aj,rD h r _ ar (fun q hq=>hk q (ak _ hq)) ?_ ?_ y]
   ·grind
   ·intro q hq hm;have a0:=ai q hq;have a3:=h1 q (ak _ hq) (ak _ hm);split
    ·rename_i hk2;refine Classical.byContradiction fun hn=>?_;have a1:gr (FA s p)=(FA s p).n:=by unfold gr;rw[if_pos hk2]
     have:=((h.down p ap ad).2 (q-p) (by rw[a1];omega)).2;rw[show p+(q-p)=q by omega] at this;rw[this] at hm;have:=ai p hm;omega
    omega
   ·intro q hq hm;have a0:=ai q hq;by_cases e:o q=p
    ·have hu:=(h.up q (hk q (ak _ hq))).2.2.2;rw[e] at hu;unfold gr at hu;split
     ·rename_i hk2;rw[if_pos hk2] at hu;exact hu
     ·rename_i hk2;rw[if_neg hk2] at hu;omega
    grind
theorem Own.mem_heads(h:Own s o)(y:Nat×Hr):y∈kf s↔(y.1∈s.keys/\o y.1=y.1/\y.2=FA s y.1):=
 rD h s.keys 0 h.wf.sorted (fun _ hq=>hq) (fun _ _ _=>bY _) (fun q hq hn=>absurd (h.up q hq).1 hn) y
theorem qd{c k:Nat}(hc:c<8)(hk:k<eJ c)(h:Nat):fF h c k=h*64+2+k*et c/\k*et c+et c<=62/\2<=et c:=by
 have e:fF h c k=h*64+2+k*et c:=by unfold fF iL;grind
 refine⟨e,?_⟩;have:c=0\/c=1\/c=2\/c=3\/c=4\/c=5\/c=6\/c=7:=by omega
 rcases this with rfl | rfl | rfl | rfl | rfl | rfl | rfl | rfl<;>simp[eJ,et,iP] at hk⊢ <;>omega
theorem wV{c k k':Nat}(h:k≠k'):k*et c+et c<=k'*et c\/k'*et c+et c<=k*et c:=by
 rcases Nat.lt_or_gt_of_ne h with h | h
 ·left
  have:=dz (et c) (show k+1<=k' from h)
  grind
 ·right
  have:=dz (et c) (show k'+1<=k from h)
  grind
theorem jA{c k:Nat}(h:k<eJ c):c<8/\k<31:=by
 have hc:c<8:=by
  unfold eJ at h
  grind
 refine⟨hc,?_⟩;have:c=0\/c=1\/c=2\/c=3\/c=4\/c=5\/c=6\/c=7:=by omega
 rcases this with rfl | rfl | rfl | rfl | rfl | rfl | rfl | rfl<;>simp[eJ,iP] at h<;>omega
def nH(x:Hr)(h a r:Nat):Prop:=(x.kind=1/\∃k,k<eJ x.n/\x.w.testBit k=true/\a=fF h x.n k/\r=et x.n)\/(x.kind=2/\a=h*64+2/\r+2=x.n*64)
def gZ(s:Slab)(o:Nat->Nat)(h a r:Nat):Prop:=h∈s.keys/\o h=h/\nH (FA s h) h a r
def eO(s:Slab)(o:Nat->Nat)(a r:Nat):Prop:=∃h,gZ s o h a r
theorem nH.pos{x:Hr}{h a r:Nat}(_:kT x)(hb:nH x h a r):2<=r/\a / 64=h/\2<=a % 64:=by
 rcases hb with⟨h1,k,h2,h3,h4,h5⟩ | ⟨h1,h2,h3⟩
 ·obtain⟨e1,e2,e3⟩:=qd (jA h2).1 h2 h;omega
 omega
theorem gZ.word(ho:Own s o){h a r b:Nat}(hp:gZ s o h a r)(hb:b<r):(a+b) / 64∈s.keys/\o ((a+b) / 64)=h/\((a+b) / 64=h->2<=(a+b) % 64):=by
 obtain⟨h1,h2,h3⟩:=hp;obtain⟨hd,dn⟩:=ho.down h h1 h2
 rcases h3 with⟨g1,k,g2,g3,g4,g5⟩ | ⟨g1,g2,g3⟩
 ·obtain⟨e1,e2,e3⟩:=qd (jA g2).1 g2 h
  grind
 ·have hs:gr (FA s h)=(FA s h).n:=by unfold gr;rw[if_pos g1]
  have:=dn ((a+b) / 64-h) (by rw[hs];omega)
  grind
theorem gZ.not_head(ho:Own s o){h a r b h':Nat}(hp:gZ s o h a r)(hb:b<r)(hh:o h'=h')(e:(a+b) / 64=h'):2<=(a+b) % 64:=by
 obtain⟨_,h2,h3⟩:=hp.word ho hb;grind
theorem gZ.pos(ho:Own s o){h a r:Nat}(hp:gZ s o h a r):2<=r/\a / 64=h/\2<=a % 64:=hp.2.2.pos (ho.down h hp.1 hp.2.1).1
theorem gZ.apart(ho:Own s o){h a r h' a' r':Nat}(hp:gZ s o h a r)(hp':gZ s o h' a' r'):(a=a'/\r=r')\/a+r<=a'\/a'+r'<=a:=by
 by_cases e:h=h'
 ·subst e
  rcases hp.2.2 with⟨g1,k,g2,g3,g4,g5⟩ | ⟨g1,g2,g3⟩
  ·rcases hp'.2.2 with⟨f1,k',f2,f3,f4,f5⟩ | ⟨f1,f2,f3⟩
   ·by_cases ek:k=k'
    ·subst ek
     left;exact⟨g4.trans f4.symm,g5.trans f5.symm⟩
    ·right
     have hc:=(jA g2).1;rw[(qd hc g2 h).1] at g4;rw[(qd hc f2 h).1] at f4;have:=wV (c:=(FA s h).n) ek;omega
   omega
  ·rcases hp'.2.2 with⟨f1,k',f2,f3,f4,f5⟩ | ⟨f1,f2,f3⟩
   ·omega
   omega
 ·right
  refine Classical.byContradiction fun hn=>e ?_;have p1:=(hp.pos ho).1;have p2:=(hp'.pos ho).1
  rcases Nat.le_total a a' with hl | hl
  ·have w1:=(hp.word ho (b:=a'-a) (by omega)).2.1;have w2:=(hp'.word ho (b:=0) (by omega)).2.1
   grind
  ·have w1:=(hp'.word ho (b:=a-a') (by omega)).2.1;have w2:=(hp.word ho (b:=0) (by omega)).2.1
   grind
theorem eO.apart(ho:Own s o){a r a' r':Nat}(hp:eO s o a r)(hp':eO s o a' r'):(a=a'/\r=r')\/a+r<=a'\/a'+r'<=a:=by
 obtain⟨h,hp⟩:=hp;obtain⟨h',hp'⟩:=hp';exact hp.apart ho hp'
theorem eO.ok(ho:Own s o){a r b:Nat}(hp:eO s o a r)(hb:b<r):s.err (a+b)=0/\a+b<=gK/\(a+b) / 64∈s.keys:=by
 obtain⟨h,hp⟩:=hp;have hk:=(hp.word ho hb).1;have:=ho.wf.top _ hk;grind [gK,Gt]
theorem Own.same{s s':Slab}(h:Own s o)(hw:eQ s')(hk:s'.keys=s.keys)(hg:∀p∈s.keys,o p=p->FA s' p=FA s p):Own s' o where
 wf:=hw
 up p hp:=by
  rw[hk] at hp⊢;have:=h.up p hp;grind
 down p hp ho:=by
  rw[hk] at hp⊢;rw[hg p hp ho];exact h.down p hp ho
theorem gZ.same{s s':Slab}(hk:s'.keys=s.keys)(hg:∀p∈s.keys,o p=p->FA s' p=FA s p){h a r:Nat}(hp:gZ s o h a r):gZ s' o h a r:=
 ⟨by rw[hk];exact hp.1,hp.2.1,by rw[hg h hp.1 hp.2.1];exact hp.2.2⟩
theorem Own.wr(h:Own s o){a r b x:Nat}(hp:eO s o a r)(hb:b<r)(hx:x<2^64):Own (s.wr (a+b) x) o/\(∀a0 r0,eO s o a0 r0->eO (s.wr (a+b) x) o a0 r0):=by
 obtain⟨h0,hp⟩:=hp;have hg:∀p∈s.keys,o p=p->FA (s.wr (a+b) x) p=FA s p:=fun p _ ho=>lQ fun c e1 e2=>Slab.rd_wr_ne _ _ _ _ (by
  rintro rfl;have:=hp.not_head h hb ho e1;omega)
 exact⟨h.same (h.wf.wr _ _ hx) (i9 _ _ _) hg,fun a0 r0 ⟨h1,q⟩=>⟨h1,q.same (i9 _ _ _) hg⟩⟩
theorem eQ.rd_lt(hw:eQ s)(a:Nat):s.rd a<2^64:=by
 by_cases hp:a / 64∈s.keys
 ·obtain⟨l,h1,h2⟩:=kK hp;rw[rY h1];have hl:=hw.len _ h2;have hi:a % 64<l.length:=by grind
  rw[av,af hi];exact hw.word _ h2 _ (aw hi)
 ·rw[oR hp];decide
theorem eQ.getH_lt(hw:eQ s)(p:Nat):(FA s p).w<2^64:=hw.rd_lt _
theorem sR{w k j:Nat}:(iY w k).testBit j=(w.testBit j || decide (k=j)):=by
 unfold iY;grind
theorem xC{w k j:Nat}(hk:k<64)(hj:j<64):(iy w k).testBit j=(w.testBit j && !decide (k=j)):=by
 unfold iy;have h2:(2:Nat)^k<2^64:=Nat.pow_lt_pow_right (by decide) hk;have h1:(18446744073709551615-2^k:Nat)=2^64-(2^k+1):=by
  have:(2:Nat)^64=2^64:=by decide
  omega
 rw[Nat.testBit_and,h1,dw h2,Nat.testBit_two_pow]
 grind
structure Hu (s s':Slab) (o o':Nat->Nat) (a r:Nat):Prop where
 own:Own s' o'
 pl:∀a0 r0,eO s' o' a0 r0↔eO s o a0 r0\/(a0=a/\r0=r)
 fresh:∀r0,¬eO s o a r0
 rd:∀a0 r0 b,eO s o a0 r0->b<r0->s'.rd (a0+b)=s.rd (a0+b)
 quota:s'.quota=s.quota
theorem Ip{c k k' h:Nat}(hk:k<eJ c)(hk':k'<eJ c)(e:fF h c k=fF h c k'):k=k':=by
 have hc:=(jA hk).1;have h1:=qd hc hk h;have h2:=qd hc hk' h;refine Classical.byContradiction fun hn=>?_;have:=wV (c:=c) hn;omega
theorem we(h:Own s o){p k:Nat}(hp:p∈s.keys)(ho:o p=p)(hk1:(FA s p).kind=1)(hk:k<eJ (FA s p).n)(hb:(FA s p).w.testBit k=false):
 Hu s (fP s p k).2 o o (fF p (FA s p).n k) (et (FA s p).n)/\(fP s p k).2.pages.length=s.pages.length:=by
 obtain⟨x,hx⟩:=Ii (FA s p);have hd:=(h.down p hp ho).1;have a4:=h.wf.getH_lt p;have hc:=jA hk;rw[hx] at hk1 hk hb hd a4 hc⊢;obtain⟨e1,e2,e3⟩:=qd hc.1 hk p;obtain⟨a,ha⟩:=Ii (fF p x.n k);obtain⟨r,hr⟩:=Ii (et x.n);obtain⟨y,hy⟩:∃y:Hr,{ x with w:=iY x.w k } =y:=⟨_,rfl⟩;have ai:y.kind=1:=by grind
 have an:y.n=x.n:=by grind
 have au:y.w=iY x.w k:=by grind
 have ar:y.kind<256/\y.n<256:=by omega
 have a9:y.w<2^64:=by rw[au];exact tO a4 (by omega)
 have hs:(fP s p k).2=(Ie s p y).zero a r:=by
  unfold fP nY
  grind
 rw[ha,hr,hs];rw[ha] at e1;rw[hr] at e1 e2 e3;have a8:eQ (Ie s p y):=rS h.wf p ar.1 ar.2 a9;have a7:eQ ((Ie s p y).zero a r):=yo a8 a r;have ap:((Ie s p y).zero a r).keys=s.keys:=by rw[yi,oM]
 have a6:∀b,(b<a\/a+r<=b)->b≠p*64->b≠p*64+1->((Ie s p y).zero a r).rd b=s.rd b:=fun b h1 h2 h3=>by rw[tj _ _ _ h1,oN p y h2 h3]
 have ad:FA ((Ie s p y).zero a r) p=y:=by
  rw[lQ (s:=Ie s p y) (fun b h1 h2=>tj _ _ _ (by omega))];exact rR h.wf hp ar.1 ar.2
 have a5:∀q,q≠p->FA ((Ie s p y).zero a r) q=FA s q:=fun q hq=>lQ fun b h1 h2=>a6 b (by omega) (by omega) (by omega);have a3:Own ((Ie s p y).zero a r) o:=by
  refine⟨a7,?_,?_⟩
  ·intro q hq;rw[ap] at hq⊢;have:=h.up q hq
   by_cases e:o q=p
   ·rw[e,ad];rw[e,hx] at this;refine⟨this.1,this.2.1,this.2.2.1,?_⟩;have h4:=this.2.2.2;unfold gr at h4⊢;rw[ai];rw[hk1] at h4;exact h4
   grind
  ·intro q hq hoq;rw[ap] at hq⊢;have:=h.down q hq hoq
   by_cases e:q=p
   ·subst e;rw[ad];rw[hx] at this;refine⟨ab ⟨ai,by rw[an];exact hc.1⟩,fun j hj=>this.2 j ?_⟩;unfold gr at hj⊢;rw[ai] at hj;rw[hk1];exact hj
   grind
 have a1:∀a0 r0,eO ((Ie s p y).zero a r) o a0 r0↔eO s o a0 r0\/(a0=a/\r0=r):=by
  intro a0 r0
  constructor
  ·rintro⟨h0,g1,g2,g3⟩;rw[ap] at g1
   by_cases e:h0=p
   ·subst e;rw[ad] at g3
    rcases g3 with⟨f1,k',f2,f3,f4,f5⟩ | ⟨f1,_⟩
    ·rw[au,sR] at f3;rw[an] at f2 f4 f5
     by_cases ek:k=k'
     ·subst ek
      right;exact⟨f4.trans ha,f5.trans hr⟩
     ·left
      refine⟨h0,g1,g2,ab ⟨by rw[hx];exact hk1,k',by rw[hx];exact f2,?_,by rw[hx];exact f4,by rw[hx];exact f5⟩⟩;rw[hx]
      simpa[ek] using f3
    omega
   ·rw[a5 _ e] at g3;exact ab ⟨h0,g1,g2,g3⟩
  ·rintro(⟨h0,g1,g2,g3⟩ | ⟨rfl,rfl⟩)
   ·refine⟨h0,by rw[ap];exact g1,g2,?_⟩
    by_cases e:h0=p
    ·subst e;rw[ad];rw[hx] at g3
     rcases g3 with⟨f1,k',f2,f3,f4,f5⟩ | ⟨f1,_⟩
     ·exact ab ⟨ai,k',by rw[an];exact f2,by rw[au,sR,f3];rfl,by rw[an];exact f4,by rw[an];exact f5⟩
     ·omega
    grind
   ·refine⟨p,by grind,ho,?_⟩;rw[ad];exact ab ⟨ai,k,by grind,by rw[au,sR];simp,by grind,by grind⟩
 have a2:∀r0,¬eO s o a r0:=by
  rintro r0 ⟨h0,hq⟩;have ba:=(hq.pos h).2.1;have:h0=p:=by omega
  subst this;have g3:=hq.2.2;rw[hx] at g3
  rcases g3 with⟨f1,k',f2,f3,f4,f5⟩ | ⟨f1,_⟩
  ·have:=Ip hk f2 (ha.trans f4);subst this;rw[hb] at f3
   cases f3
  omega
 refine⟨⟨a3,a1,a2,?_,?_⟩,?_⟩
 ·intro a0 r0 b hq hbr;have a':=eO.apart a3 ((a1 a0 r0).2 (ab hq)) ((a1 a r).2 (ae ⟨rfl,rfl⟩));have bb:¬a0=a:=by rintro rfl;exact a2 _ hq
  obtain⟨h0,hq⟩:=hq;have hh:=fun e=>hq.not_head h (b:=b) hbr ho e
  grind
 ·rw[yn,ng]
 ·rw[yj,I1]
theorem uD(hw:eQ s)(h1:1<=n)(h2:n<=100)(h3:(s.pages.length+n)*64<=s.quota):∃p,s.grant n=((p,0),s.addRun p n)/\p<=409601/\∀k,k<n->p+k∉s.keys:=by
 obtain⟨t,_,ht,hf⟩:=qH n s.pages.length s.keys (by rw[i8];omega) 0;have ai:s.run n t=true:=mi.2 hf;obtain⟨t',h4,h5,h6⟩:=vn t ai;have he:=qE h5 (s.pages.length*n+1) 0 (bY _) (by omega) fun g _ hg=>h6 g hg;have hg:s.grant n=((t',0),s.addRun t' n):=by
  unfold Slab.grant
  grind
 have ad:=mJ hw h2;rw[hg] at ad;exact⟨t',hg,ad,mi.1 h5⟩
theorem Il(h:Own s o){p n:Nat}{x:Hr}(hx:kT x)(hxn:gr x=n)(hxw:x.w<2^64)(hfree:∀k,k<n->p+k∉s.keys)(hp:p+n<=1048576)(hr:(s.pages.length+n)*64<=s.quota):
 ∃o',Own (Ie (s.addRun p n) p x) o'/\o' p=p/\p∈(Ie (s.addRun p n) p x).keys/\FA (Ie (s.addRun p n) p x) p=x/\
  (∀a r,eO (Ie (s.addRun p n) p x) o' a r↔eO s o a r\/nH x p a r)/\(∀a r b,eO s o a r->b<r->(Ie (s.addRun p n) p x).rd (a+b)=s.rd (a+b)):=by
 have a6:1<=n:=by
  rw[<-hxn];unfold gr;rcases hx with hx | hx
  ·rw[if_neg (by omega)];exact Nat.le_refl _
  grind
 have a1:eQ (s.addRun p n):=tz h.wf n hfree hp hr;obtain⟨au,a0⟩:=hx.small;have a5:eQ (Ie (s.addRun p n) p x):=rS a1 p au a0 hxw;have ad:∀q,q∈(Ie (s.addRun p n) p x).keys↔q∈s.keys\/(p<=q/\q<p+n):=fun q=>by rw[oM,nK]
 have ap:p∈(Ie (s.addRun p n) p x).keys:=(ad p).2 (ae (by omega));have a2:FA (Ie (s.addRun p n) p x) p=x:=rR a1 (by rw[<-oM (s.addRun p n) p x];omega) au a0;have ar:∀b,(b / 64<p\/p+n<=b / 64)->(Ie (s.addRun p n) p x).rd b=s.rd b:=fun b hb=>by
  rw[oN p x (by omega) (by omega),tx s p n hb]
 have a3:∀q,q∈s.keys->q<p\/p+n<=q:=fun q hq=>by
  refine Classical.byContradiction fun hc=>?_;have:=hfree (q-p) (by omega);grind
 have an:∀q,q∈s.keys->FA (Ie (s.addRun p n) p x) q=FA s q:=fun q hq=>lQ fun b h1 h2=>ar b (by grind);have ai:∀q,q∈s.keys->(if p<=q/\q<p+n then p else o q)=o q:=fun q hq=>if_neg (by grind);have a4:Own (Ie (s.addRun p n) p x) (fun q=>if p<=q/\q<p+n then p else o q):=by
  refine⟨a5,?_,?_⟩
  ·intro q hq;rcases(ad q).1 hq with hq | hq
   ·have:=h.up q hq;simp only[ai q hq,ai _ this.1];rw[an _ this.1];exact⟨(ad _).2 (ab this.1),this.2⟩
   grind
  ·intro q hq hoq;rcases(ad q).1 hq with hq | hq
   ·rw[ai q hq] at hoq;rw[an q hq];have:=h.down q hq hoq;refine⟨this.1,fun k hk=>?_⟩;have h3:=this.2 k hk;simp only[ai _ h3.1];exact⟨(ad _).2 (ab h3.1),h3.2⟩
   grind
 refine⟨_,a4,if_pos (by omega),ap,a2,?_,?_⟩
 ·intro a r;constructor
  ·rintro⟨q,g1,g2,g3⟩;dsimp only at g2
   rcases(ad q).1 g1 with hq | hq
   ·rw[ai q hq] at g2;rw[an q hq] at g3;exact ab ⟨q,hq,g2,g3⟩
   grind
  ·rintro(⟨q,g1,g2,g3⟩ | hb)
   ·exact⟨q,(ad q).2 (ab g1),by grind,by grind⟩
   ·exact⟨p,ap,by grind,by grind⟩
 ·rintro a r b ⟨q,hq⟩ hb;exact ar _ (a3 _ (hq.word h hb).1)
theorem Hy{n c:Nat}(h:gd n=some c):n<=et c/\c<8:=by
 refine⟨?_,tZ h⟩;have:=List.find?_some h;unfold et;grind
theorem Am(h:gd n=none):28<n:=by
 have:=bE.1 h 7 (by simp)
 simp[iP] at this
 omega
theorem zn{w n k:Nat}(h:fW w n=some k):w.testBit k=false:=by
 unfold fW at h;grind
theorem yE(h:Own s o)(h1:1<=n)(h2:n<=4000)(hr:(s.pages.length+fa n)*64<=s.quota):
 ∃a s' o' r,fR s n=((a,0),s')/\Hu s s' o o' a r/\n<=r/\s'.pages.length<=s.pages.length+fa n:=by
 cases hc:gd n with
 | none=>
  have ar:=Am hc;have ad:fa n=(n+65) / 64:=by unfold fa;grind
  obtain⟨p,hg,hp,hf⟩:=uD h.wf (n:=fa n) (by omega) (by omega) hr;have hx:kT ⟨2,fa n,n⟩:=ae ⟨rfl,by grind,by grind⟩;have ai:gr ⟨2,fa n,n⟩=fa n:=rfl;obtain⟨o',q1,q2,q3,q4,q5,q6⟩:=Il h hx ai (by grind) hf (by omega) hr;refine⟨p*64+2,Ie (s.addRun p (fa n)) p ⟨2,fa n,n⟩,o',fa n*64-2,?_,⟨q1,?_,?_,q6,?_⟩,by omega,?_⟩
  ·unfold fR
   grind
  ·intro a0 r0;rw[q5]
   constructor
   ·rintro(hq | ⟨f1,_⟩ | ⟨f1,f2,f3⟩)
    ·exact ab hq
    ·cases f1
    grind
   ·rintro(hq | ⟨rfl,rfl⟩)
    ·grind
    ·exact ae (ae ⟨rfl,rfl,by grind⟩)
  ·rintro r0 ⟨q,hq⟩;have e:=(hq.pos h).2.1;have e2:q=p:=by omega
   subst e2;exact hf 0 (by omega) hq.1
  ·rw[ng,mw]
  ·rw[I1,mu];omega
 | some c=>
  obtain⟨au,ap⟩:=Hy hc;have ad:fa n=1:=by unfold fa;grind
  cases hs:kt s c with
  | some pk=>
   obtain⟨p,k⟩:=pk;obtain⟨x,hm,g1,g2,g3⟩:=oX _ hs;obtain⟨m1,m2,m3⟩:=(h.mem_heads _).1 hm;simp only at m1 m2 m3;subst m3;obtain⟨T,hl⟩:=we h m1 m2 g1 (by rw[g2];exact tN g3) (zn g3);refine⟨(fP s p k).1,(fP s p k).2,o,et (FA s p).n,?_,T,by grind,by omega⟩;unfold fR;rw[if_neg (by omega),hc];simp only[hs]
  | none=>
   rw[ad] at hr;obtain⟨p,hg,hp,hf⟩:=uD h.wf (n:=1) (by omega) (by omega) hr;have hx:kT ⟨1,c,0⟩:=ab ⟨rfl,ap⟩;have ai:gr ⟨1,c,0⟩=1:=rfl;obtain⟨o',q1,q2,q3,q4,q5,q6⟩:=Il h hx ai (by grind) hf (by omega) hr;have a1:0<eJ c:=by
    have:c=0\/c=1\/c=2\/c=3\/c=4\/c=5\/c=6\/c=7:=by omega
    rcases this with rfl | rfl | rfl | rfl | rfl | rfl | rfl | rfl<;>simp[eJ,iP]
   obtain⟨T,hl⟩:=we q1 (k:=0) q3 q2 (by rw[q4]) (by grind) (by grind);have an:∀a r,eO (Ie (s.addRun p 1) p ⟨1,c,0⟩) o' a r↔eO s o a r:=fun a r=>by
    rw[q5]
    constructor
    ·rintro(hq | ⟨_,k,_,f,_⟩ | ⟨f,_⟩)
     ·exact hq
     ·simp at f
     ·cases f
    grind
   refine⟨(fP (Ie (s.addRun p 1) p ⟨1,c,0⟩) p 0).1,(fP (Ie (s.addRun p 1) p ⟨1,c,0⟩) p 0).2,o',et (FA (Ie (s.addRun p 1) p ⟨1,c,0⟩) p).n,?_,⟨T.own,?_,?_,?_,?_⟩,?_,?_⟩
   ·unfold fR
    grind
   ·intro a0 r0;rw[T.pl,an]
    rfl
   ·intro r0 hq;exact T.fresh r0 ((an _ _).2 hq)
   ·intro a0 r0 b hq hb;rw[T.rd a0 r0 b ((an _ _).2 hq) hb]
    grind
   ·rw[T.quota,ng,mw]
   ·grind
   ·rw[hl,I1,mu,ad];omega
structure yu (s s':Slab) (o:Nat->Nat) (a:Nat):Prop where
 own:Own s' o
 pl:∀a0 r0,eO s' o a0 r0↔eO s o a0 r0/\a0≠a
 rd:∀a0 r0 b,eO s' o a0 r0->b<r0->s'.rd (a0+b)=s.rd (a0+b)
 quota:s'.quota=s.quota
 len:s'.pages.length<=s.pages.length
theorem GC(h:Own s o){p n:Nat}(hp:p∈s.keys)(ho:o p=p)(hn:gr (FA s p)=n):
 Own (s.delRun p n) o/\(∀a r,eO (s.delRun p n) o a r↔eO s o a r/\a / 64≠p)/\(∀a r b,eO (s.delRun p n) o a r->b<r->(s.delRun p n).rd (a+b)=s.rd (a+b)):=by
 have dn:=(h.down p hp ho).2;have ad:∀q,q∈(s.delRun p n).keys↔q∈s.keys/\¬(p<=q/\q<p+n):=fun q=>vL;have ai:∀q,q∈(s.delRun p n).keys->FA (s.delRun p n) q=FA s q:=fun q hq=>lQ fun b h1 h2=>qr s p n (by grind);have au:∀q,q∈s.keys->(o q=p↔p<=q/\q<p+n):=fun q hq=>by
  constructor
  ·intro e;have:=h.up q hq
   grind
  ·intro e;have:=(dn (q-p) (by omega)).2
   grind
 have ap:Own (s.delRun p n) o:=by
  refine⟨ug h.wf p n,?_,?_⟩
  ·intro q hq;obtain⟨g1,g2⟩:=(ad q).1 hq;have:=h.up q g1
   grind
  ·intro q hq hoq;obtain⟨g1,g2⟩:=(ad q).1 hq;have:=h.down q g1 hoq
   grind
 have ar:∀a r,eO (s.delRun p n) o a r↔eO s o a r/\a / 64≠p:=by
  intro a r
  constructor
  ·rintro⟨q,g1,g2,g3⟩;rw[ai q g1] at g3;have hq:gZ s o q a r:=⟨((ad q).1 g1).1,g2,g3⟩;refine⟨⟨q,hq⟩,?_⟩;rw[(hq.pos h).2.1]
   grind
  ·rintro⟨⟨q,hq⟩,an⟩;rw[(hq.pos h).2.1] at an;have hk:q∈(s.delRun p n).keys:=(ad q).2 ⟨hq.1,fun hc=>an (by rw[<-hq.2.1];exact(au q hq.1).2 hc)⟩;exact⟨q,hk,hq.2.1,by rw[ai q hk];exact hq.2.2⟩
 refine⟨ap,ar,?_⟩;rintro a r b ⟨q,hq⟩ hb;have hk:=((ad _).1 (hq.word ap hb).1).2;exact qr s p n (by omega)
theorem wH(hw:eQ s){p n:Nat}(h1:1<=n)(h2:n<=64)(hk:∀k,k<n->p+k∈s.keys):s.release p n=(0,s.delRun p n):=by
 have ad:=hw.top _ (hk (n-1) (by omega));unfold Slab.release;rw[if_neg (by omega),if_pos (si.2 hk)]
theorem qv(a:Nat):∀(l:List (Nat×Hr)) {p k:Nat} {x:Hr},fS a l=some (p,k,x)->(p,x)∈l/\((x.kind=2/\a=p*64+2)\/(x.kind=1/\k<eJ x.n/\fF p x.n k=a/\x.w.testBit k=true))
 | [],p,k,x,h=>by unfold fS at h;cases h
 | (q,y)::r,p,k,x,h=>by
  unfold fS at h;split at h
  ·rename_i hc;have h:=Option.some.inj h;injection h with e1 e2
   injection e2 with e2 e3
   subst e1 e2 e3;exact⟨am ..,ab hc⟩
  ·split at h
   ·have:=qv a r h;exact⟨ak _ this.1,this.2⟩
   ·rename_i hc;split at h
    ·rename_i k' hk';have h:=Option.some.inj h;injection h with e1 e2
     injection e2 with e2 e3
     subst e1 e2 e3;unfold qp at hk';have hm:=bT hk';have hp:=List.find?_some hk';simp only[aZ] at hm;simp only[aI,decide_eq_true_eq,jI] at hp;have ad:¬(y.kind≠1):=fun e=>hc (ab e);exact⟨am ..,ae ⟨da.1 ad,hm,hp.1,hp.2.2⟩⟩
    ·have:=qv a r h;exact⟨ak _ this.1,this.2⟩
theorem qw(a:Nat):∀(l:List (Nat×Hr)),fS a l=none->∀p x,(p,x)∈l->¬(x.kind=2/\a=p*64+2)/\(x.kind=1->a / 64=p->∀k,k<eJ x.n->fF p x.n k=a->x.w.testBit k=false)
 | [],_,p,x,hm=>by cases hm
 | (q,y)::r,h,p,x,hm=>by
  unfold fS at h;split at h
  ·cases h
  ·rename_i hc1;split at h
   ·rename_i hc;rcases aj.1 hm with e | e
    ·injection e with e1 e2
     subst e1 e2;refine⟨hc1,fun g1 g2=>?_⟩;rcases hc with hc | hc
     ·exact absurd g1 hc
     ·exact absurd g2 hc
    ·exact qw a r h p x e
   ·split at h
    ·cases h
    ·rename_i hs;rcases aj.1 hm with e | e
     ·injection e with e1 e2
      subst e1 e2;refine⟨hc1,fun _ _ k hk he=>?_⟩;unfold qp at hs;have:=bE.1 hs k (aZ.2 hk);have ad:=(jA hk).2;simpa[he,jI,show k<64 by omega] using this
     ·exact qw a r h p x e
theorem GY(h:Own s o){a r:Nat}(hp:eO s o a r):∃p k,kb s a=some (p,k,FA s p)/\p∈s.keys/\o p=p/\a / 64=p/\(((FA s p).kind=2/\a=p*64+2)\/((FA s p).kind=1/\k<eJ (FA s p).n/\fF p (FA s p).n k=a/\(FA s p).w.testBit k=true)):=by
 obtain⟨q,hq⟩:=hp;have ai:=(hq.pos h).2.1;have ad:(q,FA s q)∈kf s:=(h.mem_heads _).2 ⟨hq.1,hq.2.1,rfl⟩
 cases hf:kb s a with
 | none=>
  exfalso
  have:=qw a _ hf q _ ad
  rcases hq.2.2 with⟨f1,k,f2,f3,f4,f5⟩ | ⟨f1,f2,f3⟩
  ·grind
  ·omega
 | some t=>
  obtain⟨p,k,x⟩:=t;obtain⟨hm,hx⟩:=qv a _ hf;obtain⟨m1,m2,m3⟩:=(h.mem_heads _).1 hm;simp only at m1 m2 m3;subst m3;refine⟨p,k,rfl,m1,m2,?_,hx⟩
  rcases hx with hx | hx
  ·omega
  ·obtain⟨e1,e2,e3⟩:=qd (jA hx.2.1).1 hx.2.1 p;omega
theorem Lc(h:Own s o){a r:Nat}(hp:eO s o a r):∃s',iM s a=(0,s')/\yu s s' o a:=by
 obtain⟨p,k,hf,m1,m2,m3,hx⟩:=GY h hp;have hd:=h.down p m1 m2;obtain⟨x,ai⟩:=Ii (FA s p);have a':=h.wf.getH_lt p;rw[ai] at hf hx hd a'
 rcases hx with⟨x1,x2⟩ | ⟨x1,x2,x3,x4⟩
 ·have a4:gr x=x.n:=by unfold gr;grind
  obtain⟨ba,dn⟩:=hd;rw[a4] at dn;have hn:1<=x.n/\x.n<=64:=by rcases ba with g | g<;>omega
  have bc:=wH h.wf hn.1 hn.2 fun j hj=>(dn j hj).1;obtain⟨q1,q2,q3⟩:=GC (n:=x.n) h m1 m2 (by grind);refine⟨s.delRun p x.n,?_,q1,?_,q3,Jk s p _,qo s p _⟩
  ·unfold iM
   grind
  ·intro a0 r0;rw[q2]
   constructor
   ·grind
   ·rintro⟨g,a2⟩;refine⟨g,fun e=>a2 ?_⟩;obtain⟨q,hq⟩:=g;have:=(hq.pos h).2.1;have e2:q=p:=by omega
    subst e2;have g3:=hq.2.2;rw[ai] at g3
    rcases g3 with⟨f1,_⟩ | ⟨f1,f2,f3⟩
    ·omega
    omega
 ·have a6:=(jA x2).1;have bf:=(jA x2).2;obtain⟨e1,e2,e3⟩:=qd a6 x2 p;obtain⟨y,hy⟩:∃y:Hr,{ x with w:=iy x.w k } =y:=⟨_,rfl⟩;have au:y.kind=1:=by grind
  have an:y.n=x.n:=by grind
  have a5:y.w=iy x.w k:=by grind
  have a1:y.kind<256/\y.n<256:=by omega
  have bd:y.w<2^64:=by rw[a5];exact cV Nat.and_le_left a'
  have a9:eQ (Ie s p y):=rS h.wf p a1.1 a1.2 bd;have ad:FA (Ie s p y) p=y:=rR h.wf m1 a1.1 a1.2;have a8:∀q,q≠p->FA (Ie s p y) q=FA s q:=fun q hq=>lQ fun b h1 h2=>oN p y (by omega) (by omega);have ap:=oM s p y;have a3:Own (Ie s p y) o:=by
   refine⟨a9,?_,?_⟩
   ·intro q hq;rw[ap] at hq⊢;have:=h.up q hq
    by_cases e:o q=p
    ·rw[e,ad];rw[e,ai] at this;refine⟨this.1,this.2.1,this.2.2.1,?_⟩;have h4:=this.2.2.2;unfold gr at h4⊢;rw[au];rw[x1] at h4;exact h4
    grind
   ·intro q hq hoq;rw[ap] at hq⊢;have:=h.down q hq hoq
    by_cases e:q=p
    ·subst e;rw[ad];rw[ai] at this;refine⟨ab ⟨au,by rw[an];exact a6⟩,fun j hj=>this.2 j ?_⟩;unfold gr at hj⊢;rw[au] at hj;rw[x1];exact hj
    grind
  have ar:∀a0 r0,eO (Ie s p y) o a0 r0↔eO s o a0 r0/\a0≠a:=by
   intro a0 r0
   constructor
   ·rintro⟨q,g1,g2,g3⟩;rw[ap] at g1
    by_cases e:q=p
    ·subst e;rw[ad] at g3
     rcases g3 with⟨f1,k',f2,f3,f4,f5⟩ | ⟨f1,_⟩
     ·rw[an] at f2 f4 f5;rw[a5,xC (by omega) (by have:=(jA f2).2;omega)] at f3;simp only[aI,Bool.not_eq_true',decide_eq_false_iff_not] at f3;refine⟨⟨q,g1,g2,by rw[ai];exact ab ⟨x1,k',f2,f3.1,f4,f5⟩⟩,?_⟩;intro e;exact f3.2 (Ip x2 f2 (x3.trans (e.symm.trans f4)))
     omega
    ·rw[a8 _ e] at g3;have hq:gZ s o q a0 r0:=⟨g1,g2,g3⟩;refine⟨⟨q,hq⟩,?_⟩;have:=(hq.pos h).2.1;omega
   ·rintro⟨⟨q,hq⟩,a2⟩;refine⟨q,by rw[ap];exact hq.1,hq.2.1,?_⟩
    by_cases e:q=p
    ·subst e;rw[ad];have g3:=hq.2.2;rw[ai] at g3
     rcases g3 with⟨f1,k',f2,f3,f4,f5⟩ | ⟨f1,_⟩
     ·refine ab ⟨au,k',by rw[an];exact f2,?_,by rw[an];exact f4,by rw[an];exact f5⟩;rw[a5,xC (by omega) (by have:=(jA f2).2;omega),f3];have:k≠k':=by rintro rfl;exact a2 (f4.trans x3)
      simp[this]
     omega
    ·rw[a8 _ e];exact hq.2.2
  have bb:∀a0 r0 b,eO (Ie s p y) o a0 r0->b<r0->(Ie s p y).rd (a0+b)=s.rd (a0+b):=by
   intro a0 r0 b hq hb;obtain⟨q,hq⟩:=((ar a0 r0).1 hq).1;have hh:=fun e=>hq.not_head h (b:=b) hb m2 e;refine oN p y ?_ ?_
   ·intro e;have:=hh (by omega);omega
   omega
  have a7:iM s a=(0,li s p k):=by
   unfold iM
   grind
  by_cases hz:y=⟨1,x.n,0⟩
  ·have a4:gr (FA (Ie s p y) p)=1:=by rw[ad,hz];rfl
   obtain⟨q1,q2,q3⟩:=GC a3 (p:=p) (n:=1) (by grind) m2 a4;have bc:=wH a9 (p:=p) (n:=1) (by omega) (by omega) fun j hj=>by
    grind
   refine⟨(Ie s p y).delRun p 1,?_,q1,?_,?_,?_,?_⟩
   ·rw[a7];unfold li
    grind
   ·intro a0 r0;rw[q2,ar]
    constructor
    ·grind
    ·intro g;refine⟨g,fun e=>?_⟩;obtain⟨q,hq⟩:=(ar a0 r0).2 g;have:=(hq.pos a3).2.1;have e2:q=p:=by omega
     subst e2;have g3:=hq.2.2;rw[ad,hz] at g3
     rcases g3 with⟨_,k',_,f,_⟩ | ⟨f,_⟩
     ·simp at f
     grind
   ·grind
   ·rw[Jk,ng]
   ·exact aB (qo _ _ _) (by rw[I1];omega)
  ·refine⟨Ie s p y,?_,a3,ar,bb,ng s p y,by rw[I1];exact Nat.le_refl _⟩;rw[a7];unfold li
   grind
end Go.Proofs.YtpljannolpapgaaGreatDoor
namespace Go.Proofs.YtpljannolpapgaaGreatDoor
open Go.RowKit Tryz Go.BigFrame Go.Maps Go.WideMaps Lf
variable{n:BN}{t:Nat}{w:World}
def eC(vk vv vc:Value)(s:Nat):Value:=.agg #[vk,vv,vc,Xu s]
structure iU (t:Nat) (n:BN):Prop where
 lo:2<=t
 hi:t<=16
 many:n.keys.length<=2*t-1
 vals:n.vals.length=n.keys.length
 kids:n.kids.length=0\/(n.kids.length=n.keys.length+1/\n.kids.contains 0=false)
theorem om(h1:2<=t)(h2:t<=16):isDeg (t:Int)=true:=by unfold isDeg;rw[decide_eq_true (by omega),decide_eq_true (by omega)];rfl
theorem pW(t:Nat)(h1:2<=t)(h2:t<=16)(w:World):
 Ct 125 #[Xi t] w fun e w'=>e=.returned (Xi (6*(t:Int)))/\w=w':=by
 have HG:=If (om h1 h2▸nP (t:Int) w);go_enter func125,ntmps125;go_wp2_with fail;refine Jc HG.out ?_;go_wp2_with fail;go_ret;exact⟨rfl,rfl⟩
theorem qQxaa{P:Prop}(h:P:=by
 go_wp2_with fail;refine Jc (HG.a _) ?_;go_wp2_with fail;go_ret;exact⟨rfl,HG.b⟩):P:=h
theorem pV{vk vv vc:Value}(hn:iU t n)(hk:FD w vk n.keys)(hv:FD w vv n.vals)(hc:FD w vc n.kids):
 Cb 199 #[Xi t,eC vk vv vc n.size] w (.bool true):=by
 obtain⟨h1,h2,h3,h4,h5⟩:=hn;unfold eC;have ad:=fun W (hW:Below w.heap.size w W)=>Bg (hc.below hW) (by omega);have ai:=fun W=>om h1 h2▸nP (t:Int) W;obtain⟨Ak,ck,rfl,-⟩:=hk;obtain⟨Av,cv,rfl,-⟩:=hv;obtain⟨Ac,cc,rfl,-⟩:=hc;rw[h4];obtain⟨k,an⟩:=Ii n.keys.length;rw[an] at h3 h5⊢;generalize n.size=sz at*;have ap:(k:Int)<=2*(t:Int)-1:=by omega
 have ar:decide ((k:Int)<=2*(t:Int)-1)=true:=decide_eq_true ap
 rcases h5 with h5 | ⟨h5,h6⟩
 ·rw[h5] at ad⊢;have B0:=(aa w.heap.size w).alloc Ih (.cells #[.slice Ak k ck,.slice Av k cv,.slice Ac 0 cc,Xu sz] 215);have q0:=heap_alloc_new w (.cells #[.slice Ak k ck,.slice Av k cv,.slice Ac 0 cc,Xu sz] 215);obtain⟨c0,c1,c2,c3⟩:=Fy q0;have HG:=kq2 ai B0;clear ai B0 ad q0 an h4 h5;go_enter func199,ntmps199;exact qQxaa
 ·rw[h6] at ad;rw[h5] at ad⊢;have hq:(((k+1:Nat):Int)==0)=false:=by simp;omega
  have au:((k+1:Nat):Int)=(k:Int)+1:=by omega
  have a0:¬((k:Int)+1=0):=by omega
  have B0:=(aa w.heap.size w).alloc Ih (.cells #[.slice Ak k ck,.slice Av k cv,.slice Ac (k+1) cc,Xu sz] 215);have q0:=heap_alloc_new w (.cells #[.slice Ak k ck,.slice Av k cv,.slice Ac (k+1) cc,Xu sz] 215);obtain⟨c0,c1,c2,c3⟩:=Fy q0;have HG:=kq3 ai B0 ad;clear ai B0 ad q0 an h4 h5 h6;go_enter func199,ntmps199;go_wp2_with fail;refine Jc (HG.c _ HG.b) ?_;exact qQxaa
def Lf.wAt(t:Nat)(n:BN)(a b j:Nat):Nat:=
 if j=0 then n.keys.length else if j=1 then n.size
 else if j<2+2*a then(if j % 2=0 then n.keys.getD ((j-2) / 2) 0 else n.vals.getD ((j-2) / 2) 0)
 else if 4*t<=j/\j<4*t+b then n.kids.getD (j-4*t) 0 else 0
def Lf.bnWords(t:Nat)(n:BN):List Nat:=(List.range (6*t)).map (wAt t n n.keys.length n.kids.length)
theorem jJ(t:Nat)(n:BN):(bnWords t n).length=6*t:=by simp[bnWords]
def gO(N:Nat)(f:Nat->Nat):Array Value:=((List.range N).map fun j=>Value.int .u64 (f j)).toArray
theorem mh{N j:Nat}(f:Nat->Nat)(h:j<N):(gO N f)[j]?=some (Xu (f j)):=by
 unfold gO;rw[bG,bJ,bP h];rfl
theorem ni{N i:Nat}(f:Nat->Nat)(v:Nat):(gO N f).setIfInBounds i (Xu v)=gO N (fun j=>if j=i then v else f j):=by
 unfold gO;refine Array.ext_getElem? fun j=>?_;rw[List.setIfInBounds_toArray,bG,bG]
 by_cases hj:j<N
 ·by_cases e:i=j
  ·subst e;rw[ci (by simpa using hj),bJ,bP hj]
   simp
  ·rw[cE e,bJ,bJ,bP hj]
   simp[show ¬j=i from fun q=>e q.symm]
 ·rw[aS (by simp;omega),aS (by simp;omega)]
theorem sh{N:Nat}{f g:Nat->Nat}(h:∀j,j<N->f j=g j):gO N f=gO N g:=by
 unfold gO
 congr 1
 refine aW fun j hj=>?_;rw[h j (aZ.1 hj)]
theorem Ec(N:Nat):((List.replicate N 0).map fun x:Nat=>Value.int .u64 x).toArray=gO N fun _=>0:=by
 unfold gO
 congr 1
 refine dx fun j=>?_
 by_cases hj:j<N
 ·rw[bJ,bJ,bP hj,List.getElem?_replicate,if_pos hj]
  rfl
 ·rw[aS (by simp;omega),aS (by simp;omega)]
theorem yC(A:Option Addr)(n c:Nat)(w:World):
 Ct 227 #[.slice A n c] w fun e w'=>e=.returned (.func (.func 244) #[] #[PV w.heap.size])/\w'=w.alloc (.cells #[.slice A n c] 177):=by
 go_enter func227,ntmps227
 go_wp2
 go_ret;exact⟨rfl,rfl⟩
structure j7 (t:Nat) (n:BN) (a b:Nat) (w W:World) (vk vv vc:Value):Prop where
 row:W.heap[w.heap.size+1]?=some (.cells (gO (6*t) (wAt t n a b)) 60 (0,0))
 box:W.heap[w.heap.size]?=some (.cells #[vk,vv,vc,Xu n.size] 215 (0,0))
 below:Below w.heap.size w W
theorem j7.two{a b i j x y:Nat}{w W W':World}{vk vv vc:Value}(h:j7 t n a b w W vk vv vc)(a' b':Nat)(hW:W'.heap=((W.setCell ⟨w.heap.size+1,i,none⟩ (Xu x)).setCell ⟨w.heap.size+1,j,none⟩ (Xu y)).heap)(ho:W'.os=W.os)(ht:W'.tape=W.tape)(hu:W'.output=W.output)
 (hr:∀q,q<6*t->wAt t n a' b' q=if q=j then y else if q=i then x else wAt t n a b q):j7 t n a' b' w W' vk vv vc:=by
 have hB:=(h.below.setCell (p:=⟨w.heap.size+1,i,none⟩) (ct _) (Xu x)).setCell (p:=⟨w.heap.size+1,j,none⟩) (ct _) (Xu y);refine⟨?_,?_,⟨ho.trans h.below.os,ht.trans h.below.tape,hu.trans h.below.output,by rw[hW];exact hB.size,fun k hk=>by rw[hW];exact hB.block k hk⟩⟩
 ·rw[hW,heap_setCell (heap_setCell h.row),ni,ni,sh hr]
 ·rw[hW,FB (by omega),FB (by omega)];exact h.box
theorem j7.one{a b i x:Nat}{w W W':World}{vk vv vc:Value}(h:j7 t n a b w W vk vv vc)(a' b':Nat)(hW:W'.heap=(W.setCell ⟨w.heap.size+1,i,none⟩ (Xu x)).heap)(ho:W'.os=W.os)(ht:W'.tape=W.tape)(hu:W'.output=W.output)
 (hr:∀q,q<6*t->wAt t n a' b' q=if q=i then x else wAt t n a b q):j7 t n a' b' w W' vk vv vc:=by
 have hB:=h.below.setCell (p:=⟨w.heap.size+1,i,none⟩) (ct _) (Xu x);refine⟨?_,?_,⟨ho.trans h.below.os,ht.trans h.below.tape,hu.trans h.below.output,by rw[hW];exact hB.size,fun k hk=>by rw[hW];exact hB.block k hk⟩⟩
 ·rw[hW,heap_setCell h.row,ni,sh hr]
 ·rw[hW,FB (by omega)];exact h.box
theorem tS{vk vv vc:Value}(hn:iU t n)(hk:FD w vk n.keys)(hv:FD w vv n.vals)(hc:FD w vc n.kids):
 Ct 200 #[Xi t,eC vk vv vc n.size] w fun e w'=>∃B,e=.returned (.func (.func 244) #[] #[PV B])/\w.heap.size<=B/\w'.heap[B]?=some (.cells #[.slice (some ⟨w.heap.size+1,0,none⟩) (6*t) (6*t)] 177 (0,0))/\
  w'.heap[w.heap.size+1]?=some (.cells (gO (6*t) (wAt t n n.keys.length n.kids.length)) 60 (0,0))/\Below w.heap.size w w':=by
 obtain⟨h1,h2,h3,h4,h5⟩:=hn;unfold eC;have a3:=vB (6*t) (by omega);rw[Ec] at a3;obtain⟨Ak,ck,rfl,hk⟩:=hk;obtain⟨Av,cv,rfl,hv⟩:=hv;obtain⟨Ac,cc,rfl,hc⟩:=hc;obtain⟨k,a0⟩:=Ii n.keys.length;obtain⟨c,au⟩:=Ii n.kids.length;rw[a0] at h3 h4 h5;rw[au] at h5;have bf:c<=2*t:=by rcases h5 with g | ⟨g,_⟩<;>omega
 have HB:=kq6 a0 h4 au hk hv hc;rw[h4,a0,au];clear hk hv hc a0 h4 au h5;generalize a8:n.size=sz;have HS:=If a8;clear a8;have q0:=heap_alloc_new w (.cells #[.slice Ak k ck,.slice Av k cv,.slice Ac c cc,Xu sz] 215);have B0:=(aa w.heap.size w).alloc Ih (.cells #[.slice Ak k ck,.slice Av k cv,.slice Ac c cc,Xu sz] 215);have z0:(w.alloc (.cells #[.slice Ak k ck,.slice Av k cv,.slice Ac c cc,Xu sz] 215)).heap.size=w.heap.size+1:=by simp
 have q1:=heap_alloc_new (w.alloc (.cells #[.slice Ak k ck,.slice Av k cv,.slice Ac c cc,Xu sz] 215)) (.cells (gO (6*t) fun _=>0) 60);have B1:=B0.alloc B0.size (.cells (gO (6*t) fun _=>0) 60);have a6:=(((aa (w.alloc (.cells #[.slice Ak k ck,.slice Av k cv,.slice Ac c cc,Xu sz] 215)).heap.size (w.alloc (.cells #[.slice Ak k ck,.slice Av k cv,.slice Ac c cc,Xu sz] 215))).alloc Ih (.cells (gO (6*t) fun _=>0) 60)).block w.heap.size (by omega)).trans q0;rw[z0] at q1;have a4:=a3 (w.alloc (.cells #[.slice Ak k ck,.slice Av k cv,.slice Ac c cc,Xu sz] 215));rw[z0] at a4;have bj:IntKind.i64.wrap (6*(t:Int))=6*(t:Int):=az _ (by omega);have ba:((6*t:Nat):Int)=6*(t:Int):=by omega
 rw[ba] at a4;have bk:(0:Int)<6*(t:Int):=by omega
 have bm:(1:Int)<6*(t:Int):=by omega
 clear a3 q0 B0;go_enter func200,ntmps200;go_wp2_with fail;clear a4;generalize a9:(w.alloc (.cells #[.slice Ak k ck,.slice Av k cv,.slice Ac c cc,Xu sz] 215)).alloc (.cells (gO (6*t) fun _=>0) 60)=W1 at*;obtain⟨c0,c1,c2,c3⟩:=Fy a6;have r0:W1.cell? ⟨w.heap.size+1,0,none⟩=some (Xu 0):=by rw[cell_of_block q1,mh _ (by omega)];rfl
 have r1:W1.cell? ⟨w.heap.size+1,1,none⟩=some (Xu 0):=by rw[cell_of_block q1,mh _ (by omega)];rfl
 have f0:W1.frozen? ⟨w.heap.size+1,0,none⟩=false:=AT q1;have f1:W1.frozen? ⟨w.heap.size+1,1,none⟩=false:=AT q1;have bc:¬(w.heap.size=w.heap.size+1):=by omega
 go_region
 go_wp2_with fail;go_name_world W HW
 have hW:j7 t n 0 0 w W (.slice Ak k ck) (.slice Av k cv) (.slice Ac c cc):=by
  refine⟨?_,?_,?_⟩
  ·rw[<-HW];show ((W1.setCell ⟨w.heap.size+1,0,none⟩ (Xu k)).setCell ⟨w.heap.size+1,1,none⟩ (Xu sz)).heap[w.heap.size+1]?=_
   rw[heap_setCell (heap_setCell q1),ni,ni];congr 2
   refine sh fun q hq=>?_;unfold wAt;rw[HB.a,HS.out];by_cases e1:q=1
   ·rw[if_pos e1,if_neg (by omega),if_pos e1]
   ·rw[if_neg e1];by_cases e0:q=0
    ·rw[if_pos e0,if_pos e0]
    ·rw[if_neg e0,if_neg e0,if_neg e1,if_neg (by omega),if_neg (by omega)]
  ·rw[<-HW];show ((W1.setCell ⟨w.heap.size+1,0,none⟩ (Xu k)).setCell ⟨w.heap.size+1,1,none⟩ (Xu sz)).heap[w.heap.size]?=_
   rw[FB (by omega),FB (by omega),HS.out];exact a6
  ·rw[<-HW];have h:=(B1.setCell (p:=⟨w.heap.size+1,0,none⟩) (ct _) (Xu k)).setCell (p:=⟨w.heap.size+1,1,none⟩) (ct _) (Xu sz);exact⟨h.os,h.tape,h.output,h.size,h.block⟩
 clear HW;have HA:=If hW;clear hW r0 r1 f0 f1 bc c0 c1 c2 c3 a6 q1 a9 B1;go_loopw [6,25] (fun _ i wr=>∃j:Nat,j<=k/\i=Xi j/\j7 t n j 0 w wr (.slice Ak k ck) (.slice Av k cv) (.slice Ac c cc)) (fun _ i _=>k-(intOf i).toNat)
 case atStart=>exact⟨0,by omega,rfl,HA.out⟩
 case round=>
  obtain⟨j,hj,rfl,hA⟩:=hrel;by_cases hlt:j<k
  ·have bb:(j:Int)<k:=by omega
   have ad:=hA.box;rw[HS.out] at ad;obtain⟨c0,c1,c2,c3⟩:=Fy ad;have ik:j<n.keys.length:=by rw[HB.a];exact hlt
   have iv:j<n.vals.length:=by rw[HB.b];exact hlt
   obtain⟨gk,ok,rfl,ai⟩:=HB.d j ik;obtain⟨gv,ov,rfl,a2⟩:=HB.e j iv;have lk:=fK ai;have lv:=fK a2;have dk:=(hA.below.cell (p:=⟨gk,ok+j,none⟩) lk).trans ai;have dv:=(hA.below.cell (p:=⟨gv,ov+j,none⟩) lv).trans a2;obtain⟨xk,an⟩:∃x,n.keys[j]=x:=⟨_,rfl⟩;obtain⟨xv,a5⟩:∃x,n.vals[j]=x:=⟨_,rfl⟩;rw[an] at dk;rw[a5] at dv;have ar:n.keys.getD j 0=xk:=by rw[av,af ik,<-an];rfl
   have a7:n.vals.getD j 0=xv:=by rw[av,af iv,<-a5];rfl
   have z2:∀q,2+2*j<=q->q<4*t->wAt t n j 0 q=0:=fun q h1 h2=>by
    unfold wAt;rw[if_neg (by omega),if_neg (by omega),if_neg (by omega),if_neg (by omega)]
   have r0:wr.cell? ⟨w.heap.size+1,2+2*j,none⟩=some (Xu 0):=by
    rw[cell_of_block hA.row,mh _ (by omega),z2 _ (by omega) (by omega)];rfl
   have r1:wr.cell? ⟨w.heap.size+1,2+2*j+1,none⟩=some (Xu 0):=by
    rw[cell_of_block hA.row,mh _ (by omega),z2 _ (by omega) (by omega)];rfl
   have f0:wr.frozen? ⟨w.heap.size+1,2+2*j,none⟩=false:=AT hA.row;have f1:wr.frozen? ⟨w.heap.size+1,2+2*j+1,none⟩=false:=AT hA.row;have n1:¬(w.heap.size=w.heap.size+1):=by omega
   have n2:¬(gk=w.heap.size+1):=by omega
   have n3:¬(gv=w.heap.size+1):=by omega
   have a':2+2*(j:Int)<6*(t:Int):=by omega
   have bd:2+2*(j:Int)+1<6*(t:Int):=by omega
   have HK:=kq4 hA ar a7 hlt;clear hA ad ai a2 z2 an a5 ar a7 lk lv;go_wp2_with fail;go_region
   have HN:=fun W' h1 h2 h3 h4=>HK.a.two (i:=2+2*j) (j:=2+2*j+1) (x:=xk) (y:=xv) (W':=W') (j+1) 0 h1 h2 h3 h4 (fun q hq=>by
    unfold wAt;by_cases e1:q=2+2*j+1
    ·rw[if_pos e1,if_neg (by omega),if_neg (by omega),if_pos (by omega),if_neg (by omega),show (q-2) / 2=j by omega];exact HK.c
    ·rw[if_neg e1];by_cases e0:q=2+2*j
     ·rw[if_pos e0,if_neg (by omega),if_neg (by omega),if_pos (by omega),if_pos (by omega),show (q-2) / 2=j by omega];exact HK.b
     ·rw[if_neg e0];by_cases g0:q=0
      ·rw[if_pos g0,if_pos g0]
      ·rw[if_neg g0,if_neg g0];by_cases g1:q=1
       ·rw[if_pos g1,if_pos g1]
       ·rw[if_neg g1,if_neg g1];by_cases g2:q<2+2*j
        ·rw[if_pos (by omega),if_pos g2]
        ·rw[if_neg (by omega),if_neg g2])
   have a1:=If HN;clear HN r0 r1 f0 f1 n1 n2 n3 c0 c1 c2 c3 dk dv;go_wp2_with fail;go_roundw
   case rel=>exact⟨j+1,HK.d,by simp,a1.out _ rfl rfl rfl rfl⟩
   case measure=>have:=HK.d;simp[intOf];omega
  ·obtain rfl:j=k:=by omega
   have ad:=hA.box;rw[HS.out] at ad;obtain⟨c0,c1,c2,c3⟩:=Fy ad;have HK:=If hA;clear hA ad;go_wp2_with fail;clear c0 c1 c2 c3;go_loopw [7,8,53] (fun _ _ i wr=>∃q:Nat,q<=c/\i=Xi q/\j7 t n j q w wr (.slice Ak j ck) (.slice Av j cv) (.slice Ac c cc)) (fun _ _ i _=>c-(intOf i).toNat)
   case atStart=>exact⟨0,by omega,rfl,HK.out⟩
   case round=>
    obtain⟨q,hq,rfl,hA⟩:=hrel;by_cases hlt:q<c
    ·have bb:(q:Int)<c:=by omega
     have ik:q<n.kids.length:=by rw[HB.c];exact hlt
     obtain⟨gk,ok,rfl,ai⟩:=HB.f q ik;have lk:=fK ai;have dk:=(hA.below.cell (p:=⟨gk,ok+q,none⟩) lk).trans ai;obtain⟨xk,an⟩:∃x,n.kids[q]=x:=⟨_,rfl⟩;rw[an] at dk;have ar:n.kids.getD q 0=xk:=by rw[av,af ik,<-an];rfl
     have r0:wr.cell? ⟨w.heap.size+1,4*t+q,none⟩=some (Xu 0):=by
      rw[cell_of_block hA.row,mh _ (by omega)];unfold wAt;rw[if_neg (by omega),if_neg (by omega),if_neg (by omega),if_neg (by omega)];rfl
     have f0:wr.frozen? ⟨w.heap.size+1,4*t+q,none⟩=false:=AT hA.row;have a':4*(t:Int)+q<6*(t:Int):=by omega
     have ap:=kq3 hA ar hlt;clear hA ai an ar lk;go_wp2_with fail;have HN:=fun W' h1 h2 h3 h4=>ap.a.one (i:=4*t+q) (x:=xk) (W':=W') j (q+1) h1 h2 h3 h4 (fun p hp=>by
      unfold wAt;by_cases e1:p=4*t+q
      ·rw[if_pos e1,if_neg (by omega),if_neg (by omega),if_neg (by omega),if_pos (by omega),show p-4*t=q by omega];exact ap.b
      ·rw[if_neg e1];by_cases g0:p=0
       ·rw[if_pos g0,if_pos g0]
       ·rw[if_neg g0,if_neg g0];by_cases g1:p=1
        ·rw[if_pos g1,if_pos g1]
        ·rw[if_neg g1,if_neg g1];by_cases g2:p<2+2*j
         ·rw[if_pos g2,if_pos g2]
         ·rw[if_neg g2,if_neg g2];by_cases g3:4*t<=p/\p<4*t+q
          ·rw[if_pos (by omega),if_pos g3]
          ·rw[if_neg (by omega),if_neg g3])
     have a1:=If HN;clear HN r0 f0 dk;go_roundw
     case rel=>exact⟨q+1,ap.c,by simp,a1.out _ rfl rfl rfl rfl⟩
     case measure=>have:=ap.c;simp[intOf];omega
    ·obtain rfl:q=c:=by omega
     have ap:=If hA;clear hA;go_wp2_with fail;refine Jc (yC _ _ _ wr) ?_;go_wp2_with fail;go_ret;have hA:=ap.out;have hB:=(aa wr.heap.size wr).alloc Ih (.cells #[.slice (some ⟨w.heap.size+1,0,none⟩) (6*t) (6*t)] 177);refine⟨_,rfl,hA.below.size,heap_alloc_new _ _,?_,hA.below.trans (hB.mono hA.below.size)⟩;exact(hB.block _ (gl hA.row)).trans hA.row
end Go.Proofs.YtpljannolpapgaaGreatDoor
namespace Go.Proofs.YtpljannolpapgaaGreatDoor
open Go.RowKit Tryz Go.BigFrame Go.Maps Go.WideMaps Lf
open Go.Shelf
attribute [local go_sem] Oper.semAt_some
structure ir (R:Nat->Prop) (W W':World):Prop where
 size:W.heap.size<=W'.heap.size
 block:∀k,R k->W'.heap[k]?=W.heap[k]?
theorem ir.refl(R:Nat->Prop)(W:World):ir R W W:=⟨Nat.le_refl _,fun _ _=>rfl⟩
theorem ir.trans {R:Nat->Prop}{A B C:World}(h:ir R A B)(k:ir R B C):ir R A C:=⟨aB h.size k.size,fun i hi=>(k.block i hi).trans (h.block i hi)⟩
abbrev lH:= { x:Nat×Nat // x.1<=1000/\x.2<2^64 }
abbrev n9(x:lH):Array Value:=#[Xi x.1.1,Xu x.1.2]
abbrev kO(l:List lH):List (Nat×Nat):=l.map (·.1)
def gN(f:Nat->Nat)(n:Nat):List (Nat×Nat):=(List.range n).map fun j=>(j,f j)
theorem sg(f:Nat->Nat)(n:Nat):gN f (n+1)=gN f n++[(n,f n)]:=by unfold gN;rw[du,aP];rfl
theorem Ea(f:Nat->Nat)(n:Nat):(gN f n).length=n:=by simp[gN]
theorem wK(f:Nat->Nat)(k:Nat):∀d,gN f k<+:gN f (k+d)
 | 0=>List.prefix_refl _
 | d+1=>by
  refine(wK f k d).trans ?_;show gN f (k+d)<+:gN f (k+d+1)
  rw[sg];exact List.prefix_append _ _
theorem tC {w:World}{B G c N:Nat}{f:Nat->Nat}{fr fr':Nat×Nat}(hN:N<=1000)(hf:∀j,j<N->f j<2^64)(hB:w.heap[B]?=some (.cells #[.slice (some ⟨G,0,none⟩) N c] 177 fr))(hG:w.heap[G]?=some (.cells (gO N f) 60 fr'))(R:Nat->Prop)(hRG:R G):
 SeqStopsK Fence.wide 6 prog 244 #[PV B] n9 (ir R) (fun xs=>kO xs=gN f N) (fun pre=>kO pre<+:gN f N) N w:=fun l J Jx W hW hJ hJx hY h0=>by
 have a0:=(gl hB);have a2:=(gl hG);have bb:W.cell? ⟨B,0,none⟩=some (.slice (some ⟨G,0,none⟩) N c):=by rw[cell_of_block ((hW.block B a0).trans hB)];rfl
 have a1:=(hW.block G a2).trans hG;have HY:=If hY;have HJ:=kq2 hJ hJx;have H0:=kq4 h0 a1 hf hRG;clear hY hJ hJx h0 hB hG a1 hW hf hRG a0 a2;refine callsIn_of_wp func244 rfl trivial ?_ rfl;simp only[ntmps244,aR,ag,aM,Nat.reduceAdd,Nat.reduceSub,aN,aO,aU,aQ,aY,aK];gi_wp2_with fail;gi_loopw [3,4,7] (fun _ _ i wr=>∃k:Nat,k<=N/\i=Xi k/\Hid (ir R W wr/\∃pX,kO pX=gN f k/\J pX wr)) (fun _ _ i _=>N-(intOf i).toNat)
 case atStart=>exact⟨0,by omega,rfl,ir.refl _ _,[],rfl,H0.a⟩
 case round=>
  obtain⟨k,hk,rfl,ap⟩:=hrel;by_cases hlt:k<N
  ·have bc:(k:Int)<N:=by omega
   have hrow:=(ap.out.1.block G H0.d).trans H0.b;have hc:wr.cell? ⟨G,k,none⟩=some (Xu (f k)):=by rw[cell_of_block hrow,mh f hlt]
   have a5:=H0.c k hlt;obtain⟨pX,ai,an⟩:=ap.out.2;obtain⟨xX,au⟩:∃xX:lH,xX.1=(k,f k):=⟨⟨(k,f k),by omega,a5⟩,rfl⟩;have a8:pX.length=k:=by
    have:=congrArg List.length ai;rw[Ea] at this;simpa using this
   obtain⟨fn,bd,a',ba,hy,ar⟩:=HY.out pX xX wr an (by omega);have a7:kO (pX++[xX])=gN f (k+1):=by rw[sg,<-ai];show (pX++[xX]).map (·.1)=_;rw[aP];simp[au]
   have ad:=kq2 a7 hlt;dsimp only[n9] at hy
   rw[au] at hy;clear a7 ai a8 an au hrow a5;generalize f k=x at*;gi_wp2_with fail;refine ar.mono ?_;rintro e w4 (⟨rfl,a3,a6⟩ | ⟨rfl,a4⟩)
   ·have H4:=kq2 (ap.out.1.trans a6) a3;clear a3 a6 hy ar hc;gi_wp2_with fail;go_roundw
    case rel=>exact⟨k+1,ad.b,by go_num,H4.a,_,ad.a,H4.b⟩
    case measure=>have:=ad.b;simp[intOf];omega
   ·have H4:=If a4;have a9:gN f (k+1)<+:gN f N:=by
     obtain⟨d,hd⟩:∃d,N=k+1+d:=⟨N-(k+1),by have:=ad.b;omega⟩;rw[hd];exact wK f (k+1) d
    clear a4 hy ar hc;gi_wp2_with fail;refine bodyPost_ret (results_none rfl _ _ _) rfl ?_;exact⟨⟨_,rfl⟩,.inr ⟨_,by rw[ad.a];exact a9,H4.out⟩⟩
  ·obtain rfl:k=N:=by omega
   gi_wp2
   go_end0
   obtain⟨pX,ai,an⟩:=ap.out.2;exact⟨⟨_,rfl⟩,.inl ⟨_,ai,an⟩⟩
end Go.Proofs.YtpljannolpapgaaGreatDoor
namespace Go.Proofs.YtpljannolpapgaaGreatDoor.Qy
open Go Go.RowKit Qw Qu Qx Qz
section
variable {P:Program}{ops:Array Oper}{md:Region.Mode}{S:World->Prop}{Q:Exit->Act->World->Prop}{n:Nat}{late:Nat->Bool}
theorem Fd {o:Oper}{a:Act}{w:World}{K:Act->World->Prop}(hnd:∀c,o.op≠ .defer c)(h:o.wp P a w K Q):o.wpIn Fence.wide n P a w K Q:=by
 refine⟨fun _ _=>trivial,?_⟩;rw[Oper.semAt_eq _ _ _ hnd];unfold Oper.wp at h;generalize (execOp a.eval o).run P w=r at h⊢
 cases r with
 | ok x w'=>
  cases x with
  | value v=>exact h
  | skip=>exact h
  | defer d=>exact h
  | enter f args=>exact⟨fun hd=>(by cases hd),(callsIn_wide.2 h:CallsIn Fence.wide (n-1) P f args w' _)⟩
  | row row args=>exact⟨fun hd=>(by cases hd),wM h⟩
  | _=>exact(h:False).elim
 | halt x w'=>
  cases x<;>first | exact h | exact(h:False).elim
theorem I8(hnd:kl ops=true)(hl:¬LetsOut Q):∀(fuel:Nat) (listed:Array Bool) (a:Act) (w:World),Qz.wpAnyL P md ops Q S late fuel listed a w->wpAnyIn Fence.wide n P md ops Q fuel listed a w
 | 0,_,_,_,h=>h
 | fuel+1,listed,a,w,h=>by
  refine⟨h.1,fun i hi=>?_⟩;have h2:=h.2 i hi;unfold wpOp at h2;unfold wpOpIn;split
  ·rename_i ho;simp only[ho] at h2;exact I8 hnd hl fuel _ _ _ h2.2
  ·rename_i o ho;simp only[ho] at h2;split
   ·rename_i hw;simp only[hw,if_true] at h2;rcases h2 with h2 | h2
    ·exact Fd (rL hnd ho) (Oper.wp_mono (fun a' w' h'=>I8 hnd hl fuel _ _ _ h'.2) h2)
    ·exact absurd h2.2 hl
   ·rename_i hw;simp only[hw] at h2;exact⟨fun _ _=>trivial,I8 hnd hl fuel _ _ _ h2.2⟩
end
end Qy
open Qw Qu Qx Qz Qy
theorem Jb {P:Program}{id n:Nat}{Q:Exit->Act->World->Prop}{a:Act}{w:World}{l:List Oper}(I:World->Prop)(late:Nat->Bool)(p:Plan)(hnd:kl l.toArray=true)(hm:P.follows .mixedOrders=true)(hB:wl .any l.toArray late p=true)
 (hI:I w.drew) (h:fI P l (iI Q) (FG I) late p a w.drew):(Code.region id l.toArray true).wpIn Fence.wide n P Q a w:=by
 simp only[wl,aI,decide_eq_true_eq] at hB;obtain⟨⟨ai,hn⟩,ad⟩:=hB;have hS:FG I w.drew:=⟨⟨_,hI⟩,rfl⟩;have:=Qz.wpAnyL_plan (md:=.any) (Q:=iI Q) ai (fun _ _ _ _ _ h=>(h:False).elim) p true _ a w.drew (Ay _) ad (fun _=>hS) h;rw[hn] at this;exact Code.wpIn_mono iI.imp (wpIn_region_any hm (I8 hnd iI.shut _ _ _ _ this))
theorem I9(A B:World->Prop):∃I:World->Prop,(∀w',I w'->A w'/\B w')/\(∀w',A w'->B w'->I w'):=⟨fun w'=>A w'/\B w',fun _ h=>h,fun _ a b=>⟨a,b⟩⟩
theorem Ja {P:Program}{l:List Oper}{Q:Exit->Act->World->Prop}{S:World->Prop}{late:Nat->Bool}{a:Act}{w:World}(h:Q .normal a w):fI P l (iI Q) S late .nil a w:=h
end Go.Proofs.YtpljannolpapgaaGreatDoor
namespace Go.Proofs.YtpljannolpapgaaGreatDoor.Yw
open Go Go.RowKit Qw Qu Qx Qz
section
variable {P:Program}{ops:Array Oper}{md:Region.Mode}{S:World->Prop}{Q:Exit->Act->World->Prop}{n r:Nat}{late:Nat->Bool}
theorem JS(hnd:kl ops=true)(hl:¬LetsOut Q):∀(fuel:Nat) (listed:Array Bool) (a:Act) (w:World),Qz.wpAnyL P md ops Q S late fuel listed a w->wpAnyIn (Fence.wide.inRound r) n P md ops Q fuel listed a w
 | 0,_,_,_,h=>h
 | fuel+1,listed,a,w,h=>by
  refine⟨h.1,fun i hi=>?_⟩;have h2:=h.2 i hi;unfold wpOp at h2;unfold wpOpIn;split
  ·rename_i ho;simp only[ho] at h2;exact JS hnd hl fuel _ _ _ h2.2
  ·rename_i o ho;simp only[ho] at h2;split
   ·rename_i hw;simp only[hw,if_true] at h2;rcases h2 with h2 | h2
    ·exact Ff (rL hnd ho) (Oper.wp_mono (fun a' w' h'=>JS hnd hl fuel _ _ _ h'.2) h2)
    ·exact absurd h2.2 hl
   ·rename_i hw;simp only[hw] at h2;exact⟨fun _ _=>trivial,JS hnd hl fuel _ _ _ h2.2⟩
end
end Yw
open Qw Qu Qx Qz Yw
theorem LY {P:Program}{id n r:Nat}{Q:Exit->Act->World->Prop}{a:Act}{w:World}{l:List Oper}(I:World->Prop)(late:Nat->Bool)(p:Plan)(hnd:kl l.toArray=true)(hm:P.follows .mixedOrders=true)(hB:wl .any l.toArray late p=true)
 (hI:I w.drew) (h:fI P l (iI Q) (FG I) late p a w.drew):(Code.region id l.toArray true).wpIn (Fence.wide.inRound r) n P Q a w:=by
 simp only[wl,aI,decide_eq_true_eq] at hB;obtain⟨⟨ai,hn⟩,ad⟩:=hB;have hS:FG I w.drew:=⟨⟨_,hI⟩,rfl⟩;have:=Qz.wpAnyL_plan (md:=.any) (Q:=iI Q) ai (fun _ _ _ _ _ h=>(h:False).elim) p true _ a w.drew (Ay _) ad (fun _=>hS) h;rw[hn] at this;exact Code.wpIn_mono iI.imp (wpIn_region_any hm (JS hnd iI.shut _ _ _ _ this))
