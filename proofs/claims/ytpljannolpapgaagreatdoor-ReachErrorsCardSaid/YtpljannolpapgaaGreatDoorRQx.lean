/- A region that draws its order, inside a round of the wide fence, walked by a plan: it leaves by its end alone. -/
import Derived.Test.YtpljannolpapgaaGreatDoorRKa
import Derived.Test.YtpljannolpapgaaGreatDoorRTa
import Derived.Test.YtpljannolpapgaaGreatDoorRCl
set_option maxRecDepth 100000
set_option maxHeartbeats 1600000
namespace Go.Proofs.YtpljannolpapgaaGreatDoor.Qx
open Go Go.RowKit Qw Qu
def iI(Q:Exit->Act->World->Prop):Exit->Act->World->Prop
 | .normal,a,w=>Q .normal a w
 | _,_,_=>False
theorem iI.imp {Q:Exit->Act->World->Prop}:∀(e:Exit) (a:Act) (w:World),iI Q e a w->Q e a w:=fun e a w h=>by
 cases e<;>first | exact h | exact(h:False).elim
theorem iI.shut {Q:Exit->Act->World->Prop}:¬LetsOut (iI Q):=fun⟨_,_,h⟩=>h
theorem wM {n:Nat}{P:Program}{row:String}{args:Array Value}{w:World}{R:Value->World->Prop}(h:Rows P row args w R):RowsIn Fence.wide n P row args w R:=
 fun c cs _=>let ⟨v,w',r,s⟩:=h c cs;⟨v,w',r,stepsIn_wide.2 s⟩
section
variable {P:Program}{ops:Array Oper}{md:Region.Mode}{S:World->Prop}{Q:Exit->Act->World->Prop}{l n:Nat}
theorem Ff {o:Oper}{a:Act}{w:World}{K:Act->World->Prop}(hnd:∀c,o.op≠ .defer c)(h:o.wp P a w K Q):o.wpIn (Fence.wide.inRound l) n P a w K Q:=by
 refine⟨fun _ _=>trivial,?_⟩;rw[Oper.semAt_eq _ _ _ hnd];unfold Oper.wp at h;generalize (execOp a.eval o).run P w=r at h⊢
 cases r with
 | ok x w'=>
  cases x with
  | value v=>exact h
  | skip=>exact h
  | defer d=>exact h
  | enter f args=>exact⟨fun hd=>(by cases hd),(callsIn_wide.2 h:CallsIn Fence.wide (n-1) P f args w' _)⟩
  | row row args=>exact⟨fun hd=>(by cases hd),wM h⟩
  | _=>exact(h:False).elim
 | halt x w'=>
  cases x<;>first | exact h | exact(h:False).elim
theorem JE(hnd:yZ ops=true)(hl:¬LetsOut Q):∀(fuel:Nat) (listed:Array Bool) (a:Act) (w:World),wpAnyH P md ops Q S fuel listed a w->wpAnyIn (Fence.wide.inRound l) n P md ops Q fuel listed a w
 | 0,_,_,_,h=>h
 | fuel+1,listed,a,w,h=>by
  refine⟨h.1,fun i hi=>?_⟩;have h2:=h.2 i hi;unfold wpOp at h2;unfold wpOpIn;split
  ·rename_i ho;simp only[ho] at h2;exact JE hnd hl fuel _ _ _ h2.2
  ·rename_i o ho;simp only[ho] at h2;split
   ·rename_i hw;simp only[hw,if_true] at h2;rcases h2 with h2 | h2
    ·exact Ff (rL hnd ho) (Oper.wp_mono (fun a' w' h'=>JE hnd hl fuel _ _ _ h'.2) h2)
    ·exact absurd h2.2 hl
   ·rename_i hw;simp only[hw] at h2;exact⟨fun _ _=>trivial,JE hnd hl fuel _ _ _ h2.2⟩
end
end Qx
open Qw Qu Qx
theorem yg {P:Program}{id r n:Nat}{Q:Exit->Act->World->Prop}{a:Act}{w:World}{l:List Oper}(I:World->Prop)(p:Plan)(hnd:yZ l.toArray=true)(hm:P.follows .mixedOrders=true)(hB:lexPlanB .any l.toArray p=true)
 (hI:I w.drew) (h:C8 P l (iI Q) (FG I) p a w.drew):(Code.region id l.toArray true).wpIn (Fence.wide.inRound r) n P Q a w:=by
 simp only[lexPlanB,aM,decide_eq_true_eq] at hB;obtain⟨⟨ai,hn⟩,ad⟩:=hB;have hS:FG I w.drew:=⟨⟨_,hI⟩,rfl⟩;have:=wpAnyH_plan (md:=.any) (Q:=iI Q) ai (fun _ _ _ _ _ h=>(h:False).elim) p _ a w.drew ad hS h;rw[hn] at this;exact Code.wpIn_mono iI.imp (wpIn_region_any hm (JE hnd iI.shut _ _ _ _ this))
theorem jy {P:Program}{l:List Oper}{Q:Exit->Act->World->Prop}{S:World->Prop}{a:Act}{w:World}(h:Q .normal a w):C8 P l (iI Q) S .nil a w:=h
end Go.Proofs.YtpljannolpapgaaGreatDoor
namespace Go.Proofs.YtpljannolpapgaaGreatDoor.Qy
open Go Go.RowKit Qw Qu Qx Qz
section
variable {P:Program}{ops:Array Oper}{md:Region.Mode}{S:World->Prop}{Q:Exit->Act->World->Prop}{n:Nat}{late:Nat->Bool}
theorem Fd {o:Oper}{a:Act}{w:World}{K:Act->World->Prop}(hnd:∀c,o.op≠ .defer c)(h:o.wp P a w K Q):o.wpIn Fence.wide n P a w K Q:=by
 refine⟨fun _ _=>trivial,?_⟩;rw[Oper.semAt_eq _ _ _ hnd];unfold Oper.wp at h;generalize (execOp a.eval o).run P w=r at h⊢
 cases r with
 | ok x w'=>
  cases x with
  | value v=>exact h
  | skip=>exact h
  | defer d=>exact h
  | enter f args=>exact⟨fun hd=>(by cases hd),(callsIn_wide.2 h:CallsIn Fence.wide (n-1) P f args w' _)⟩
  | row row args=>exact⟨fun hd=>(by cases hd),wM h⟩
  | _=>exact(h:False).elim
 | halt x w'=>
  cases x<;>first | exact h | exact(h:False).elim
theorem Ku(hnd:yZ ops=true)(hl:¬LetsOut Q):∀(fuel:Nat) (listed:Array Bool) (a:Act) (w:World),Qz.wpAnyL P md ops Q S late fuel listed a w->wpAnyIn Fence.wide n P md ops Q fuel listed a w
 | 0,_,_,_,h=>h
 | fuel+1,listed,a,w,h=>by
  refine⟨h.1,fun i hi=>?_⟩;have h2:=h.2 i hi;unfold wpOp at h2;unfold wpOpIn;split
  ·rename_i ho;simp only[ho] at h2;exact Ku hnd hl fuel _ _ _ h2.2
  ·rename_i o ho;simp only[ho] at h2;split
   ·rename_i hw;simp only[hw,if_true] at h2;rcases h2 with h2 | h2
    ·exact Fd (rL hnd ho) (Oper.wp_mono (fun a' w' h'=>Ku hnd hl fuel _ _ _ h'.2) h2)
    ·exact absurd h2.2 hl
   ·rename_i hw;simp only[hw] at h2;exact⟨fun _ _=>trivial,Ku hnd hl fuel _ _ _ h2.2⟩
end
end Qy
open Qw Qu Qx Qz Qy
theorem Jb {P:Program}{id n:Nat}{Q:Exit->Act->World->Prop}{a:Act}{w:World}{l:List Oper}(I:World->Prop)(late:Nat->Bool)(p:Plan)(hnd:yZ l.toArray=true)(hm:P.follows .mixedOrders=true)(hB:J4 .any l.toArray late p=true)
 (hI:I w.drew) (h:fI P l (iI Q) (FG I) late p a w.drew):(Code.region id l.toArray true).wpIn Fence.wide n P Q a w:=by
 simp only[J4,aM,decide_eq_true_eq] at hB;obtain⟨⟨ai,hn⟩,ad⟩:=hB;have hS:FG I w.drew:=⟨⟨_,hI⟩,rfl⟩;have:=Qz.wpAnyL_plan (md:=.any) (Q:=iI Q) ai (fun _ _ _ _ _ h=>(h:False).elim) p true _ a w.drew (N5 _) ad (fun _=>hS) h;rw[hn] at this;exact Code.wpIn_mono iI.imp (wpIn_region_any hm (Ku hnd iI.shut _ _ _ _ this))
theorem KA(A B:World->Prop):∃I:World->Prop,(∀w',I w'->A w'/\B w')/\(∀w',A w'->B w'->I w'):=⟨fun w'=>A w'/\B w',fun _ h=>h,fun _ a b=>⟨a,b⟩⟩
theorem Ja {P:Program}{l:List Oper}{Q:Exit->Act->World->Prop}{S:World->Prop}{late:Nat->Bool}{a:Act}{w:World}(h:Q .normal a w):fI P l (iI Q) S late .nil a w:=h
end Go.Proofs.YtpljannolpapgaaGreatDoor
namespace Go.Proofs.YtpljannolpapgaaGreatDoor.Yw
open Go Go.RowKit Qw Qu Qx Qz
section
variable {P:Program}{ops:Array Oper}{md:Region.Mode}{S:World->Prop}{Q:Exit->Act->World->Prop}{n r:Nat}{late:Nat->Bool}
theorem Kt(hnd:yZ ops=true)(hl:¬LetsOut Q):∀(fuel:Nat) (listed:Array Bool) (a:Act) (w:World),Qz.wpAnyL P md ops Q S late fuel listed a w->wpAnyIn (Fence.wide.inRound r) n P md ops Q fuel listed a w
 | 0,_,_,_,h=>h
 | fuel+1,listed,a,w,h=>by
  refine⟨h.1,fun i hi=>?_⟩;have h2:=h.2 i hi;unfold wpOp at h2;unfold wpOpIn;split
  ·rename_i ho;simp only[ho] at h2;exact Kt hnd hl fuel _ _ _ h2.2
  ·rename_i o ho;simp only[ho] at h2;split
   ·rename_i hw;simp only[hw,if_true] at h2;rcases h2 with h2 | h2
    ·exact Ff (rL hnd ho) (Oper.wp_mono (fun a' w' h'=>Kt hnd hl fuel _ _ _ h'.2) h2)
    ·exact absurd h2.2 hl
   ·rename_i hw;simp only[hw] at h2;exact⟨fun _ _=>trivial,Kt hnd hl fuel _ _ _ h2.2⟩
end
end Yw
open Qw Qu Qx Qz Yw
theorem NI {P:Program}{id n r:Nat}{Q:Exit->Act->World->Prop}{a:Act}{w:World}{l:List Oper}(I:World->Prop)(late:Nat->Bool)(p:Plan)(hnd:yZ l.toArray=true)(hm:P.follows .mixedOrders=true)(hB:J4 .any l.toArray late p=true)
 (hI:I w.drew) (h:fI P l (iI Q) (FG I) late p a w.drew):(Code.region id l.toArray true).wpIn (Fence.wide.inRound r) n P Q a w:=by
 simp only[J4,aM,decide_eq_true_eq] at hB;obtain⟨⟨ai,hn⟩,ad⟩:=hB;have hS:FG I w.drew:=⟨⟨_,hI⟩,rfl⟩;have:=Qz.wpAnyL_plan (md:=.any) (Q:=iI Q) ai (fun _ _ _ _ _ h=>(h:False).elim) p true _ a w.drew (N5 _) ad (fun _=>hS) h;rw[hn] at this;exact Code.wpIn_mono iI.imp (wpIn_region_any hm (Kt hnd iI.shut _ _ _ _ this))
end Go.Proofs.YtpljannolpapgaaGreatDoor
namespace Go.Proofs.YtpljannolpapgaaGreatDoor
open Go.RowKit Tryz Go.BigFrame Go.Maps Go.WideMaps Lf
open Go.Shelf
attribute [local go_sem] Oper.semAt_some
theorem yX(w:World)(a b c d e:Obj):D_ w (((((w.alloc a).alloc b).alloc c).alloc d).alloc e):=
 (nM w a b c d).alloc m_ _
theorem Hx.drew {W:World}{B:Nat}{x:Hr}(h:Hx W B x):Hx W.drew B x:=h
theorem Cx.drew {W:World}{B i:Nat}{v:Value}(h:Cx W B i v):Cx W.drew B i v:=h
theorem us {W w:World}{b1 b2 b3 b4 n:Nat}{v1 v2 v4:Value}{y:Hr}(p k:Nat)(x:Hr)(h1:Cx W b1 0 v1)(h2:Cx W b2 0 v2)(h3:Hx W b3 y)(h4:Cx W b4 0 v4)(hb:D_ w W)(m1:¬b1=b2)(m2:¬b1=b3)(m3:¬b2=b3)(m4:¬b1=b4)(m5:¬b2=b4)(m6:¬b3=b4)(hw:w.1.size<=b1/\w.1.size<=b2/\w.1.size<=b3/\w.1.size<=b4):
 KeepsFrom n W ((((((W.setCell (y_ b1) (Xi p)).setCell (y_ b2) (Xi k)).setCell (y_ b3) (Xi x.l_)).setCell (x_ b3 1) (Xi x.n)).setCell (x_ b3 2) (Xu x.w)).setCell (y_ b4) (.bool true)).drew/\
 (Cx ((((((W.setCell (y_ b1) (Xi p)).setCell (y_ b2) (Xi k)).setCell (y_ b3) (Xi x.l_)).setCell (x_ b3 1) (Xi x.n)).setCell (x_ b3 2) (Xu x.w)).setCell (y_ b4) (.bool true)).drew b1 0 (Xi p)/\
  Cx ((((((W.setCell (y_ b1) (Xi p)).setCell (y_ b2) (Xi k)).setCell (y_ b3) (Xi x.l_)).setCell (x_ b3 1) (Xi x.n)).setCell (x_ b3 2) (Xu x.w)).setCell (y_ b4) (.bool true)).drew b2 0 (Xi k)/\
  Hx ((((((W.setCell (y_ b1) (Xi p)).setCell (y_ b2) (Xi k)).setCell (y_ b3) (Xi x.l_)).setCell (x_ b3 1) (Xi x.n)).setCell (x_ b3 2) (Xu x.w)).setCell (y_ b4) (.bool true)).drew b3 x/\
  Cx ((((((W.setCell (y_ b1) (Xi p)).setCell (y_ b2) (Xi k)).setCell (y_ b3) (Xi x.l_)).setCell (x_ b3 1) (Xi x.n)).setCell (x_ b3 2) (Xu x.w)).setCell (y_ b4) (.bool true)).drew b4 0 (.bool true))/\
 D_ w ((((((W.setCell (y_ b1) (Xi p)).setCell (y_ b2) (Xi k)).setCell (y_ b3) (Xi x.l_)).setCell (x_ b3 1) (Xi x.n)).setCell (x_ b3 2) (Xu x.w)).setCell (y_ b4) (.bool true)).drew:=by
 have hx:=((h3.u_ (C:=b1) (j:=0) (Xi p) (Ne.S m2)).u_ (C:=b2) (j:=0) (Xi k) (Ne.S m3)).set x;have hK:=((((((KeepsOthers.setCell W (y_ b1) (Xi p)).T (KeepsOthers.setCell _ (y_ b2) (Xi k))).T (KeepsOthers.setCell _ (y_ b3) (Xi x.l_))).T (KeepsOthers.setCell _ (x_ b3 1) (Xi x.n))).T (KeepsOthers.setCell _ (x_ b3 2) (Xu x.w))).T (KeepsOthers.setCell _ (y_ b4) (.bool true))).T (KeepsOthers.drew _);refine⟨hK.from n,⟨?_,?_,?_,?_⟩,?_⟩
 ·exact Cx.drew ((((((h1.set (Xi p)).u_ _ m1).u_ _ m2).u_ _ m2).u_ _ m2).u_ _ m4)
 ·exact Cx.drew ((((((h2.u_ _ (Ne.S m1)).set (Xi k)).u_ _ m3).u_ _ m3).u_ _ m3).u_ _ m5)
 ·exact(hx.u_ _ m6).drew
 ·exact Cx.drew ((((((h4.u_ _ (Ne.S m4)).u_ _ (Ne.S m5)).u_ _ (Ne.S m6)).u_ _ (Ne.S m6)).u_ _ (Ne.S m6)).set (.bool true))
 ·exact((((((hb.setCell (p:=y_ b1) hw.1 _).setCell (p:=y_ b2) hw.2.1 _).setCell (p:=y_ b3) hw.2.2.1 _).setCell (p:=x_ b3 1) hw.2.2.1 _).setCell (p:=x_ b3 2) hw.2.2.1 _).setCell (p:=y_ b4) hw.2.2.2 _).drew
theorem uO(B:Nat)(y:Hr):∃I:World->Prop,(∀W,Hx W B y->I W)/\(∀W,I W->Hx W B y):=⟨fun W=>Hx W B y,fun _ h=>h,fun _ h=>h⟩
theorem Bq {w:World}{ph pa pm:Nat}{s:r_}{Y:Nat->Prop}(h:Fz w ph pa pm s Y)(t_:Nat)(ha:t_<=4611686018427387903):
 Cb 108 #[PV ph,Xi t_] w (od (kb s t_)):=by
 refine(callsIn_wide (n:=7)).1 ?_;have h1:1<=7:=o_
 have dv:Fence.wide.fn 117:=trivial;have dp:Fence.wide.fn 116:=trivial;have dn:Fence.wide.fn 118:=trivial;have ds:Fence.wide.fn 119:=trivial;have c':∀W,CallsIn Fence.wide 6 prog 116 #[PV ph] W _:=fun W=>callsIn_wide.2 (qQ ph W);obtain⟨R,hR⟩:=Ii (od (kb s t_));rw[hR];have HR:=kq2 hR h;clear hR h;refine callsIn_of_wp_marks func108 rfl trivial ?_ rfl;simp only[ntmps108,aS,aj,aL,Nat.reduceAdd,Nat.reduceSub,aO,aP,aT,aR,aX,aJ];obtain⟨W5,ap⟩:=Ii (((((w.alloc (Xh t_)).alloc (.cells #[Xi 0] 3)).alloc (.cells #[Xi 0] 3)).alloc (.cells #[Xi 0,Xi 0,Xu 0] 188)).alloc (.cells #[.bool false] 4));have a6:D_ w W5:=by rw[<-ap];exact yX w _ _ _ _ _
 have c0:Cx W5 w.1.size 0 (Xi t_):=by rw[<-ap];exact((((Bx.new w (Xi t_) 3).alloc _).alloc _).alloc _).alloc _
 have c1:Cx W5 (w.1.size+1) 0 (Xi 0):=by
  have:=(((Bx.new (w.alloc (Xh t_)) (Xi 0) 3).alloc (.cells #[Xi 0] 3)).alloc (.cells #[Xi 0,Xi 0,Xu 0] 188)).alloc (.cells #[.bool false] 4);rw[World.size_alloc,ap] at this;exact this
 have c2:Cx W5 (w.1.size+1+1) 0 (Xi 0):=by
  have:=((Bx.new ((w.alloc (Xh t_)).alloc (.cells #[Xi 0] 3)) (Xi 0) 3).alloc (.cells #[Xi 0,Xi 0,Xu 0] 188)).alloc (.cells #[.bool false] 4);rw[World.size_alloc,World.size_alloc,ap] at this;exact this
 have c3:Hx W5 (w.1.size+1+1+1) ⟨0,0,0⟩:=by
  have:=(Hx.new (((w.alloc (Xh t_)).alloc (.cells #[Xi 0] 3)).alloc (.cells #[Xi 0] 3)) ⟨0,0,0⟩).alloc (.cells #[.bool false] 4);rw[World.size_alloc,World.size_alloc,World.size_alloc] at this;rw[<-ap];exact this
 have c4:Cx W5 (w.1.size+1+1+1+1) 0 (.bool false):=by
  have:=Bx.new ((((w.alloc (Xh t_)).alloc (.cells #[Xi 0] 3)).alloc (.cells #[Xi 0] 3)).alloc (.cells #[Xi 0,Xi 0,Xu 0] 188)) (.bool false) 4;rw[World.size_alloc,World.size_alloc,World.size_alloc,World.size_alloc,ap] at this;exact this
 have a4:W5.1.size=w.1.size+1+1+1+1+1:=by rw[<-ap];simp
 have HC:=kq7 a4 a6 c0 c1 c2 c3 c4;clear a4 a6 c0 c1 c2 c3 c4;gi_wp2_with fail
 try rw[ap]
 clear ap;have HC:=HC.O;obtain⟨b5,e5⟩:=Ii (w.1.size+1+1+1+1+1)
 try rw[e5]
 rw[e5] at HC;obtain⟨b4,e4⟩:=Ii (w.1.size+1+1+1+1);rw[e4];rw[e4] at HC;obtain⟨b3,e3⟩:=Ii (w.1.size+1+1+1);rw[e3];rw[e3] at HC;obtain⟨b2,e2⟩:=Ii (w.1.size+1+1);rw[e2];rw[e2] at HC;obtain⟨b1,e1⟩:=Ii (w.1.size+1);rw[e1];rw[e1] at HC;obtain⟨b0,e0⟩:=Ii w.1.size;obtain⟨a4,a6,c0,c1,c2,c3,c4⟩:=HC;rw[e0];rw[e0] at c0;have HB:=If (show w.1.size=b0/\b1=b0+1/\b2=b0+2/\b3=b0+3/\b4=b0+4/\b5=b0+5/\W5.1.size=b5 from⟨e0,o_,o_,o_,o_,o_,a4⟩);have H5:=kq6 a6 c0 c1 c2 c3 c4;clear a6 c0 c1 c2 c3 c4 e0 e1 e2 e3 e4 e5;refine(c' _).M ?_;rintro e w7 ⟨rfl,rfl⟩;rw[a4];clear a4;gi_wp2_with fail;obtain⟨W0,an⟩:=Ii (W5.alloc (Xm ph));rw[an];have d2:W0.1.size=b5+1:=by rw[<-an,World.size_alloc,HB.O.2.2.2.2.2.2]
 have c5:W0.cell? (y_ b5)=some (PV ph):=by
  have:=(Bx.new W5 (PV ph) 90).1;rw[HB.O.2.2.2.2.2.2,an] at this;exact this
 have cj:D_ w W0:=by rw[<-an];exact H5.a.alloc H5.a.size _
 have C0:Cx W0 b0 0 (Xi t_):=by rw[<-an];exact H5.b.alloc _
 have C1:Cx W0 b1 0 (Xi 0):=by rw[<-an];exact H5.c.alloc _
 have C2:Cx W0 b2 0 (Xi 0):=by rw[<-an];exact H5.d.alloc _
 have C3:Hx W0 b3 ⟨0,0,0⟩:=by rw[<-an];exact H5.e.alloc _
 have C4:Cx W0 b4 0 (.bool false):=by rw[<-an];exact H5.f.alloc _
 clear an H5;have hW:=HR.b.wide cj;refine wpIn_rangeFunc_ownH rfl h1 (gf:=159) (lb:=#[PV b5]) rfl trivial (enters_of func159 k_ rfl)
  (qR hW (Z:=fun k=>k=b1\/k=b2\/k=b3\/k=b4) (fun k hk=>by
   have h1:=HR.b.slab;obtain⟨dd,h1⟩:=h1;have h1:=h1.yl _ HR.b.yh;have h3:=HR.b.tab.lt;have hb:=HB.O;refine⟨ae o_,o_,?_⟩
   show k≠1
   omega) b5 c5 (by have hb:=HB.O;omega)) fe.T (fun W l o o' h1 h2 h3 h4=>fe.put W l o o' h1 h2 h3 h4) (aa _ _) (fun _=>rfl)
  (fun ad W=>(fS t_ (gt ad)=none/\Cx W b0 0 (Xi t_)/\Cx W b1 0 (Xi 0)/\Cx W b2 0 (Xi 0)/\Hx W b3 ⟨0,0,0⟩/\Cx W b4 0 (.bool false))/\D_ w W)
  (fun cd ad W=>(cd=.ret/\(∃p k x,fS t_ (gt ad)=some (p,k,x)/\Cx W b1 0 (Xi p)/\Cx W b2 0 (Xi k)/\Hx W b3 x)/\Cx W b4 0 (.bool true))/\D_ w W)
  (OwnFrom.and (Own.from (fun s A B row hs hg hr=>⟨hs.1,hs.2.1.kept hg hr,hs.2.2.1.kept hg hr,hs.2.2.2.1.kept hg hr,hs.2.2.2.2.1.kept hg hr,hs.2.2.2.2.2.kept hg hr⟩) _) (ownFrom_below Ih (by have hb:=HB.O;omega)))
  (fun cd=>OwnFrom.and (Own.from (fun s A B row hs hg hr=>⟨hs.1,(let ⟨p,k,x,k1,k2,k3,k4⟩:=hs.2.1;⟨p,k,x,k1,k2.kept hg hr,k3.kept hg hr,k4.kept hg hr⟩),hs.2.2.kept hg hr⟩) _) (ownFrom_below Ih (by have hb:=HB.O;omega)))
  ⟨⟨rfl,C0,C1,C2,C3,C4⟩,cj⟩
  (fun x a' W=>∃B,b4<B/\Hx W B x.1.2/\a'= { tmps:=#[PV ph,Xi t_,undef,PV b0,PV b1,PV b2,PV b3,PV b4,Xi x.1.1,PV B,undef,undef,undef,PV ph,.func (.func 159) #[] #[PV b5],Xi x.1.1,fT x.1.2,undef,undef,undef,undef,undef,undef,undef,undef,undef,undef,undef,undef,undef,undef,undef,undef,undef,undef,undef,undef,undef,undef,undef,undef,undef,undef,undef,undef,undef,undef,undef,undef,undef,undef,undef,undef,undef,undef,undef,undef,undef,undef,undef,undef,undef,undef,undef,undef,undef],defers:=[] })
  (fun x a' _ X W' row hs hg hr=>by
   obtain⟨B,k1,k2,k3⟩:=hs;exact⟨B,k1,k2.kept hg (fun r e=>(hr r e).2),k3⟩)
  ?assign ?body ?done ?stop
 case assign=>
  rintro l ad ⟨⟨p,kd,xn,xw⟩,hx⟩ W K ⟨⟨i0,i1,i2,i3,i4,i5⟩,hB⟩ hK;have HH:=kq7 i0 i1 i2 i3 i4 i5 hB;have HK:=If hK;clear i0 i1 i2 i3 i4 i5 hB hK;simp only[mF,fT]
  gi_wp2
  have bo:=HH.g;refine HK.O _ _ ((KeepsOthers.alloc _ _).from _) (fe.v_ ((aa _ W).alloc Ih _)) ⟨⟨HH.a,HH.b.alloc _,HH.c.alloc _,HH.d.alloc _,HH.e.alloc _,HH.f.alloc _⟩,bo.alloc bo.size _⟩ ⟨W.1.size,?_,Hx.new W ⟨kd,xn,xw⟩,rfl⟩;exact HH.f.lt
 case body=>
  rintro l ad ⟨⟨p,kd,xn,xw⟩,hx⟩ a' W hl cp ⟨⟨i0,i1,i2,i3,i4,i5⟩,hB⟩ ⟨B,bo,a3,rfl⟩ hlt;simp only at hx a3;obtain⟨bf,bj,bk,bm⟩:=hx;have hv:∀(hx:_),gt (ad++[(⟨(p,⟨kd,xn,xw⟩),hx⟩:iH)])=gt ad++[(p,⟨kd,xn,xw⟩)]:=fun hx=>by
   show (ad++[(⟨(p,⟨kd,xn,xw⟩),hx⟩:iH)]).map (·.1)=_
   rw[aN]
   rfl
  have bx:=qx t_ (p,⟨kd,xn,xw⟩) (gt ad) i0;have cq:=JX t_ p ⟨kd,xn,xw⟩ [];rw[<- @hv ⟨bf,bj,bk,bm⟩] at bx;have hf:=bx.T cq;clear bx cq hv;have a0:=i1.1;obtain⟨q1,g1⟩:=id i2;obtain⟨q2,g2⟩:=id i3;obtain⟨q3,g3⟩:=i4.c0;obtain⟨q4,g4⟩:=i4.c1;obtain⟨q5,g5⟩:=i4.c2;obtain⟨q6,g6⟩:=id i5;have x0:=a3.c0.1;have x1:=a3.c1.1;have x2:=a3.c2.1;have HH:=kq10 i0 i1 i2 i3 i4 i5 hB a3 hl cp;have HF:=If hf;clear i0 i1 i2 i3 i4 i5 hB hf a3 hl cp
  by_cases h2:kd=2/\t_=p*64+2
  ·obtain⟨rfl,rfl⟩:=h2;gi_wp2_with fail;have hb:=HB.O;have n1:¬B=b1:=o_
   have n2:¬B=b2:=o_
   have n3:¬B=b3:=o_
   have n4:¬B=b4:=o_
   have m1:¬b1=b2:=o_
   have m2:¬b1=b3:=o_
   have m3:¬b2=b3:=o_
   have m4:¬b1=b4:=o_
   have m5:¬b2=b4:=o_
   have m6:¬b3=b4:=o_
   clear hb;obtain⟨I,ai,au⟩:=uO B ⟨2,xn,xw⟩;have b9:∀x:Fq I,x.to.cell? (y_ B)=some (Xi 2):=fun x=>(au _ x.ok).c0.1;have b':∀x:Fq I,x.to.cell? (x_ B 1)=some (Xi xn):=fun x=>(au _ x.ok).c1.1;have ca:∀x:Fq I,x.to.cell? (x_ B 2)=some (Xu xw):=fun x=>(au _ x.ok).c2.1;have bq:I W.drew:=ai _ HH.h;refine yg I (.take 0 (.take 1 (.go 2 (.go 3 (.go 4 (.go 5 .nil)))))) k_ k_ k_ bq ?_
   iterate 2
    refine pT_ ?_
    try simp only[pu]
   have a1:=HH.h;have HI:=kq2 a1 (a1.u_ (j:=0) (Xi p) n1);have HJ:=kq2 (HI.b.u_ (j:=0) (Xi 0) n2) True.intro;have HK:=If (((HJ.a.u_ (j:=0) (Xi 2) n3).u_ (j:=1) (Xi xn) n3).u_ (j:=2) (Xu xw) n3);have HL:=If (HK.O.u_ (j:=0) (.bool true) n4);clear a1;refine pD fun K hK=>?_;go_simp
   try go_simp
   refine hK.O _ _ (ai _ (by exact Hx.drew HI.b)) ?_;clear hK K
   try simp only[pu]
   refine pD fun K hK=>?_;go_simp
   try go_simp
   refine hK.O _ _ (ai _ (by exact Hx.drew HJ.a)) ?_;clear hK K
   try simp only[pu]
   refine pD fun K hK=>?_;go_simp
   try go_simp
   refine hK.O _ _ (ai _ (by exact Hx.drew HK.O)) ?_;clear hK K
   try simp only[pu]
   refine pD fun K hK=>?_;go_simp
   try go_simp
   refine hK.O _ _ (ai _ (by exact Hx.drew HL.O)) ?_;clear hK K
   try simp only[pu]
   refine jy ?_;gi_wp2_with fail;obtain⟨r1,r2,r3⟩:=us (n:=W0.1.size) p 0 ⟨2,xn,xw⟩ HH.c HH.d HH.e HH.f HH.g m1 m2 m3 m4 m5 m6 (by have hb:=HB.O;omega);refine⟨r1,⟨rfl,⟨p,0,⟨2,xn,xw⟩,?_,r2.1,r2.2.1,r2.2.2.1⟩,r2.2.2.2⟩,r3⟩;rw[HF.O,if_pos s_]
  ·have hd:((kd:Int)==2)=false\/(((kd:Int)==2)=true/\((t_:Int)==(p:Int)*64+2)=false):=by
    by_cases e:kd=2
    ·refine ae ⟨by rw[e];rfl,?_⟩;have:¬t_=p*64+2:=fun e2=>h2 ⟨e,e2⟩
     simp
     omega
    ·exact ab m_
   rw[if_neg h2] at HF;have HD:=If hd;clear hd h2
   by_cases h3:kd≠1\/t_ / 64≠p
   ·rw[if_pos h3] at HF;have he:((kd:Int) !=1)=true\/(((kd:Int) !=1)=false/\((t_:Int) / 64 !=(p:Int))=true):=by
     by_cases e:kd=1
     ·refine ae ⟨by rw[e];rfl,?_⟩;have:¬t_ / 64=p:=fun e2=>by rcases h3 with h3 | h3<;>exact h3 (by assumption)
      simp
      omega
     ·exact ab m_
    have HE:=If he;clear he h3;have ck:fS t_ (gt (ad++[(⟨(p,⟨kd,xn,xw⟩),⟨bf,bj,bk,bm⟩⟩:iH)]))=none:=HF.O;have HN:=If ck;clear ck
    rcases HD.O with hd | ⟨hd,dk⟩<;>rcases HE.O with he | ⟨he,c9⟩
    all_goals
     gi_wp2_with fail;exact⟨KeepsFrom.refl _ _,fe.refl _ _ _,⟨HN.O,HH.b,HH.c,HH.d,HH.e,HH.f⟩,HH.g⟩
   ·rw[if_neg h3] at HF;have c6:kd=1/\t_ / 64=p:=⟨o_,o_⟩;obtain⟨rfl,hp⟩:=c6;have hd:(((1:Nat):Int)==2)=false:=rfl;have he:(((1:Nat):Int) !=1)=false:=rfl;have c9:((t_:Int) / 64 !=(p:Int))=false:=m_
    clear h3;obtain⟨er,cw⟩:=wW xn;have bc:CallsIn Fence.wide 4 prog 117 #[Xi xn] W _:=callsIn_wide.2 (qk xn W);rw[cw] at bc;have c7:=nX xn;obtain⟨m,hm⟩:=Ii (eJ xn);rw[hm] at bc c7;have HS:=kq2 bc hm;clear bc cw hm;gi_wp2_with fail;refine(CallsIn.inRound l HS.a).M ?_;rintro e w2 ⟨rfl,a5⟩;have HW:=If a5;clear a5;gi_wp2_with fail;clear a0 x0 x1 x2 q1 q2 q3 q4 q5 q6 g1 g2 g3 g4 g5 g6
    gi_loopw [12,45] (fun _ i wr=>∃k:Nat,k<=m/\i=Xi k/\Hid (D_ W wr/\∀j,j<k->(decide (fF p xn j=t_) && jI xw j)=false)) (fun _ i _=>m-(intOf i).toNat)
    case atStart=>exact⟨0,o_,rfl,If ⟨HW.O,fun j hj=>by omega⟩⟩
    case round=>
     obtain⟨k,hk,rfl,hr⟩:=hrel
     by_cases hlt:k<m
     ·have d0:(k:Int)<m:=o_
      have ba:=HH.h;have a8:=ba.a_ hr.O.1 ba.lt;have bv:=HH.b.a_ hr.O.1 HH.b.lt;have b9:∀x:Fq (D_ wr),x.to.cell? (y_ b0)=some (Xi t_):=fun x=>(bv.a_ x.ok bv.lt).1;have b':∀x:Fq (D_ wr),x.to.cell? (x_ B 1)=some (Xi xn):=fun x=>(a8.a_ x.ok a8.lt).c1.1;have ca:∀x:Fq (D_ wr),x.to.cell? (x_ B 2)=some (Xu xw):=fun x=>(a8.a_ x.ok a8.lt).c2.1;have a9:∀x:Fq (D_ wr),CallsIn Fence.wide 4 prog 119 #[Xi p,Xi xn,Xi k] x.to _:=fun x=>CallsIn.C6 (callsIn_wide.2 (uJ p xn k x.to o_ o_ o_));have a7:∀x:Fq (D_ wr),CallsIn Fence.wide 4 prog 118 #[Xu xw,Xi k] x.to _:=fun x=>CallsIn.keeps_same (callsIn_wide.2 (zx xw k x.to o_ o_));obtain⟨P,hP⟩:=Ii (fF p xn k);obtain⟨bt,bu⟩:=Ii (jI xw k);rw[hP] at a9;rw[bu] at a7;have HP:=kq5 hP bu hr.O.1 hr.O.2 ba;have bd:=hr.O.1.size;clear hP bu hr ba a8 bv
      by_cases hpa:P=t_
      ·obtain rfl:=hpa
       cases bt with
       | true=>
        gi_wp2_with fail;refine pq (D_ wr) k_ k_ k_ ⟨rfl,rfl,rfl,Nat.le_refl _,fun _ _=>rfl⟩ fun⟨x0⟩=>?_
        repeat (first | gi_big_quiet_skip | (gi_big_quiet_want;gi_big_quiet_op;first | go_big_quiet_on | (apply Exists.intro;refine⟨fun x=>?_,?_⟩;(· first | exact CallsIn.inRound l (a9 x) | exact CallsIn.inRound l (a7 x));go_big_quiet_on)))
        refine wpQuietIn_nil ?_;rintro _ ⟨x,rfl⟩;have hx:=x.ok;have i2:=(HH.c.a_ HP.c HH.c.lt);have i3:=(HH.d.a_ HP.c HH.d.lt);have i4:=(HH.e.a_ HP.c HH.e.lt);have i5:=(HH.f.a_ HP.c HH.f.lt);have ib:=HP.e.a_ HP.c HP.e.lt;have bl:=HH.g.T ((HP.c.T (hx.M bd)).M HH.g.size)
        replace i2:=i2.a_ hx i2.lt
        replace i3:=i3.a_ hx i3.lt
        replace i4:=i4.a_ hx i4.lt
        replace i5:=i5.a_ hx i5.lt
        replace ib:=ib.a_ hx ib.lt
        have cn:KeepsFrom W0.1.size W x.to:=KeepsFrom.of_grownBy (lf (HP.c.T (hx.M bd))) (fun j e=>by cases e);generalize x.to=V at*;clear b9 b' ca a9 a7 x x0 hx;obtain⟨q1,g1⟩:=id i2;obtain⟨q2,g2⟩:=id i3;obtain⟨q3,g3⟩:=i4.c0;obtain⟨q4,g4⟩:=i4.c1;obtain⟨q5,g5⟩:=i4.c2;obtain⟨q6,g6⟩:=id i5;have HV:=kq7 i2 i3 i4 i5 bl cn ib;clear i2 i3 i4 i5 bl cn ib;gi_wp2_with fail;have hb:=HB.O;have n1:¬B=b1:=o_
        have n2:¬B=b2:=o_
        have n3:¬B=b3:=o_
        have n4:¬B=b4:=o_
        have m1:¬b1=b2:=o_
        have m2:¬b1=b3:=o_
        have m3:¬b2=b3:=o_
        have m4:¬b1=b4:=o_
        have m5:¬b2=b4:=o_
        have m6:¬b3=b4:=o_
        clear hb;obtain⟨I,ai,au⟩:=uO B ⟨1,xn,xw⟩;have b9:∀x:Fq I,x.to.cell? (y_ B)=some (Xi 1):=fun x=>(au _ x.ok).c0.1;have b':∀x:Fq I,x.to.cell? (x_ B 1)=some (Xi xn):=fun x=>(au _ x.ok).c1.1;have ca:∀x:Fq I,x.to.cell? (x_ B 2)=some (Xu xw):=fun x=>(au _ x.ok).c2.1;have bq:I V.drew:=ai _ HV.g;refine yg I (.take 0 (.take 1 (.take 2 (.go 3 (.go 4 (.go 5 (.go 6 .nil))))))) k_ k_ k_ bq ?_
        iterate 3
         refine pT_ ?_
         try simp only[pu]
        have a1:=HV.g;have HI:=kq2 a1 (a1.u_ (j:=0) (Xi p) n1);have HJ:=kq2 (HI.b.u_ (j:=0) (Xi k) n2) True.intro;have HK:=If (((HJ.a.u_ (j:=0) (Xi 1) n3).u_ (j:=1) (Xi xn) n3).u_ (j:=2) (Xu xw) n3);have HL:=If (HK.O.u_ (j:=0) (.bool true) n4);clear a1;refine pD fun K hK=>?_;go_simp
        try go_simp
        refine hK.O _ _ (ai _ (by exact Hx.drew HI.b)) ?_;clear hK K
        try simp only[pu]
        refine pD fun K hK=>?_;go_simp
        try go_simp
        refine hK.O _ _ (ai _ (by exact Hx.drew HJ.a)) ?_;clear hK K
        try simp only[pu]
        refine pD fun K hK=>?_;go_simp
        try go_simp
        refine hK.O _ _ (ai _ (by exact Hx.drew HK.O)) ?_;clear hK K
        try simp only[pu]
        refine pD fun K hK=>?_;go_simp
        try go_simp
        refine hK.O _ _ (ai _ (by exact Hx.drew HL.O)) ?_;clear hK K
        try simp only[pu]
        refine jy ?_;gi_wp2_with fail;obtain⟨r1,r2,r3⟩:=us (n:=W0.1.size) p k ⟨1,xn,xw⟩ HV.a HV.b HV.c HV.d HV.e m1 m2 m3 m4 m5 m6 (by have hb:=HB.O;omega);have bb:fS P (gt (ad++[(⟨(p,⟨1,xn,xw⟩),⟨bf,bj,bk,bm⟩⟩:iH)]))=some (p,k,⟨1,xn,xw⟩):=by
         rw[HF.O];have hs:JL P p ⟨1,xn,xw⟩=some k:=by
          unfold JL;exact AV (by rw[HS.b];exact hlt) (by simp[HP.a,HP.b]) HP.d
         rw[hs]
        exact⟨HV.f.T r1,⟨rfl,⟨p,k,⟨1,xn,xw⟩,bb,r2.1,r2.2.1,r2.2.2.1⟩,r2.2.2.2⟩,r3⟩
       | false=>
        gi_wp2_with fail;refine pq (D_ wr) k_ k_ k_ ⟨rfl,rfl,rfl,Nat.le_refl _,fun _ _=>rfl⟩ fun⟨x0⟩=>?_
        repeat (first | gi_big_quiet_skip | (gi_big_quiet_want;gi_big_quiet_op;first | go_big_quiet_on | (apply Exists.intro;refine⟨fun x=>?_,?_⟩;(· first | exact CallsIn.inRound l (a9 x) | exact CallsIn.inRound l (a7 x));go_big_quiet_on)))
        refine wpQuietIn_nil ?_;rintro _ ⟨x,rfl⟩;have hx:=HP.c.T (x.ok.M bd);generalize x.to=V at*;gi_wp2_with fail;exact⟨⟨k+1,o_,s_,If ⟨hx,fun j hj=>by
         by_cases hjk:j<k
         ·exact HP.d j hjk
         ·obtain rfl:j=k:=o_
          rw[HP.b]
          simp⟩⟩,by simp[intOf];omega⟩
      ·have d1:((P:Int)==t_)=false:=m_
       gi_wp2_with fail;refine pq (D_ wr) k_ k_ k_ ⟨rfl,rfl,rfl,Nat.le_refl _,fun _ _=>rfl⟩ fun⟨x0⟩=>?_
       repeat (first | gi_big_quiet_skip | (gi_big_quiet_want;gi_big_quiet_op;first | go_big_quiet_on | (apply Exists.intro;refine⟨fun x=>?_,?_⟩;(· first | exact CallsIn.inRound l (a9 x) | exact CallsIn.inRound l (a7 x));go_big_quiet_on)))
       refine wpQuietIn_nil ?_;rintro _ ⟨x,rfl⟩;have hx:=HP.c.T (x.ok.M bd);generalize x.to=V at*;gi_wp2_with fail;exact⟨⟨k+1,o_,s_,If ⟨hx,fun j hj=>by
        by_cases hjk:j<k
        ·exact HP.d j hjk
        ·obtain rfl:j=k:=o_
         rw[HP.a]
         simp[hpa]⟩⟩,by simp[intOf];omega⟩
     ·obtain rfl:k=m:=o_
      have bb:fS t_ (gt (ad++[(⟨(p,⟨1,xn,xw⟩),⟨bf,bj,bk,bm⟩⟩:iH)]))=none:=by
       rw[HF.O];have hs:JL t_ p ⟨1,xn,xw⟩=none:=by
        unfold JL;exact AU (fun j hj=>hr.O.2 j (by rw[HS.b] at hj;exact hj))
       rw[hs]
       rfl
      have HN:=kq2 bb hr.O.1;clear bb hr;gi_wp2_with fail;exact⟨KeepsFrom.of_grownBy (lf HN.b) (fun j e=>by cases e),fe.v_ HN.b,⟨HN.a,HH.b.a_ HN.b HH.b.lt,HH.c.a_ HN.b HH.c.lt,HH.d.a_ HN.b HH.d.lt,HH.e.a_ HN.b HH.e.lt,HH.f.a_ HN.b HH.f.lt⟩,b_ HH.g HN.b⟩
 case done=>
  rintro D ys W hD hS ⟨⟨i0,i1,i2,i3,i4,i5⟩,hB⟩ hK;obtain⟨k1,f1⟩:=id i2;obtain⟨k2,f2⟩:=id i3;obtain⟨k3,f3⟩:=i4.c0;obtain⟨k4,f4⟩:=i4.c1;obtain⟨k5,f5⟩:=i4.c2;obtain⟨k6,f6⟩:=id i5;have hb:=HB.O;have m1:¬b1=b2:=o_
  have m2:¬b1=b3:=o_
  have m3:¬b2=b3:=o_
  have m4:¬b1=b4:=o_
  have m5:¬b2=b4:=o_
  have m6:¬b3=b4:=o_
  have hw:w.1.size<=b1/\w.1.size<=b2/\w.1.size<=b3/\w.1.size<=b4:=o_
  clear hb;have HH:=kq5 i2 i3 i4 i5 hB;rw[hS] at i0;have bs:R=.tuple #[Xi 0,Xi 0,.agg #[Xi 0,Xi 0,Xu 0],.bool false]:=by
   rw[<-HR.a];unfold kb;rw[i0]
   rfl
  clear i0 i1 i2 i3 i4 i5 hB hS
  gi_wp2
  have a2:=((((((KeepsOthers.setCell W (y_ b1) (Xi 0)).T (KeepsOthers.setCell _ (y_ b2) (Xi 0))).T (KeepsOthers.setCell _ (y_ b3) (Xi 0))).T (KeepsOthers.setCell _ (x_ b3 1) (Xi 0))).T (KeepsOthers.setCell _ (x_ b3 2) (Xu 0))).T (KeepsOthers.setCell _ (y_ b4) (.bool false))).same D _ hK rfl;refine⟨s_,.inl ⟨_,_,rfl,run_takeDeferred a2,?_⟩⟩;have r1:=(((((((HH.a.set (Xi 0)).u_ (Xi 0) m1).u_ (j:=0) (Xi 0) m2).u_ (j:=1) (Xi 0) m2).u_ (j:=2) (Xu 0) m2).u_ (j:=0) (.bool false) m4).put (o':=.deferred none) a2 rfl).1;have r2:=(((((((HH.b.u_ (j:=0) (Xi 0) (Ne.S m1)).set (Xi 0)).u_ (j:=0) (Xi 0) m3).u_ (j:=1) (Xi 0) m3).u_ (j:=2) (Xu 0) m3).u_ (j:=0) (.bool false) m5).put (o':=.deferred none) a2 rfl).1;have cx:=((((HH.c.u_ (C:=b1) (j:=0) (Xi 0) (Ne.S m2)).u_ (C:=b2) (j:=0) (Xi 0) (Ne.S m3)).set ⟨0,0,0⟩).u_ (C:=b4) (j:=0) (.bool false) m6);have ar:=cx.put (o':=.deferred none) a2 rfl;have r3:=ar.c0.1;have r4:=ar.c1.1;have r5:=ar.c2.1;have r6:=(((((((HH.d.u_ (j:=0) (Xi 0) (Ne.S m4)).u_ (j:=0) (Xi 0) (Ne.S m5)).u_ (j:=0) (Xi 0) (Ne.S m6)).u_ (j:=1) (Xi 0) (Ne.S m6)).u_ (j:=2) (Xu 0) (Ne.S m6)).set (.bool false)).put (o':=.deferred none) a2 rfl).1;clear cx ar
  dsimp only at r3 r4 r5
  rw[show ((0:Nat):Int)=0 from rfl] at r3 r4 r5;subst bs;refine⟨.tuple #[Xi 0,Xi 0,.agg #[Xi 0,Xi 0,Xu 0],.bool false],?_,rfl,((((((HH.e.setCell (p:=y_ b1) hw.1 _).setCell (p:=y_ b2) hw.2.1 _).setCell (p:=y_ b3) hw.2.2.1 _).setCell (p:=x_ b3 1) hw.2.2.1 _).setCell (p:=x_ b3 2) hw.2.2.1 _).setCell (p:=y_ b4) hw.2.2.2 _).T (belowK_b (w:=w) Ih _ D _ _ (by have hb:=HB.O;omega) a2 rfl rfl)⟩
  simp[results,f108,go_sem,r1,r2,r3,r4,r5,r6]
 case stop=>
  rintro D cd ad W hD dc ⟨⟨rfl,⟨p,k,x,cv,cb,a5,cc⟩,ch⟩,hB⟩ hK;obtain⟨t,ht⟩:=dc;have bs:R=.tuple #[Xi p,Xi k,.agg #[Xi x.l_,Xi x.n,Xu x.w],.bool true]:=by
   rw[<-HR.a];unfold kb;rw[<-ht,qy t_ (p,k,x) _ t cv]
   rfl
  have HH:=If hB;have r1:=(cb.put (o':=.deferred none) hK rfl).1;have r2:=(a5.put (o':=.deferred none) hK rfl).1;have ar:=cc.put (o':=.deferred none) hK rfl;have r3:=ar.c0.1;have r4:=ar.c1.1;have r5:=ar.c2.1;have r6:=(ch.put (o':=.deferred none) hK rfl).1;clear cv ht cb a5 cc ch hB ar;subst bs
  gi_wp2
  refine⟨s_,.inl ⟨_,_,rfl,run_takeDeferred hK,?_⟩⟩;refine⟨.tuple #[Xi p,Xi k,.agg #[Xi x.l_,Xi x.n,Xu x.w],.bool true],?_,rfl,HH.O.T (belowK_b (w:=w) Ih W D _ _ (by have hb:=HB.O;omega) hK rfl rfl)⟩
  simp[results,f108,go_sem,r1,r2,r3,r4,r5,r6]
end Go.Proofs.YtpljannolpapgaaGreatDoor
namespace Go.Proofs.YtpljannolpapgaaGreatDoor
open Go.RowKit Tryz Go.BigFrame Go.Maps Go.WideMaps Lf
variable{Y:Nat->Prop}{s:r_}{w:World}
theorem Eo{pa pm:Nat}{blk:Nat->Nat}(h:eh w pa pm s Y blk)(p n:Nat)(hg:4096<n):
 Ct 109 #[PV pa,Xi p,Xi n] w fun e w'=>e=.returned (Xi ((s.release p n).1:Nat))/\eh w' pa pm (s.release p n).2 Y blk/\Fo Y w w':=by
 have ad:=If (ly h);have he:s.release p n=(2,s):=by unfold r_.release;rw[if_pos o_]
 rw[he];have H:=If h;have ai:1<=n:=o_
 clear h he;go_enter func109,ntmps109;go_wp2_with fail;refine Jc ad.O ?_;go_wp2_with fail;go_ret;exact⟨rfl,H.O,Fo.refl _ _⟩
theorem Fz.release{ph pa pm:Nat}(h:Fz w ph pa pm s Y)(p n:Nat)(hp:p<=1048575):
 Ct 109 #[PV pa,Xi p,Xi n] w fun e w'=>e=.returned (Xi ((s.release p n).1:Nat))/\Fz w' ph pa pm (s.release p n).2 Y/\Fo Y w w':=by
 obtain⟨ad,hs⟩:=h.slab
 by_cases hn:n<=100000000
 ·refine(En hs p n hp hn).M ?_;rintro e w' ⟨he,h1,h2⟩;exact⟨he,h.step ⟨ad,h1⟩ h2,h2⟩
 ·refine(Eo hs p n o_).M ?_;rintro e w' ⟨he,h1,h2⟩;exact⟨he,h.step ⟨ad,h1⟩ h2,h2⟩
theorem G4(a b c d e f:Int)(W:World):(binOp .eql 188 (.agg #[Xi a,Xi b,Xu c]) (.agg #[Xi d,Xi e,Xu f])).run prog W=.ok (.bool (decide (a=d/\b=e/\c=f))) W:=by
 go_simp;by_cases h1:a=d<;>by_cases h2:b=e<;>by_cases h3:c=f<;>simp[h1,h2,h3]
theorem zm{w k:Nat}(hw:w<2^64):iy w k<2^64:=cO Nat.and_le_left hw
theorem Bv{ph pa pm:Nat}(h:Fz w ph pa pm s Y)(p k:Nat)(hp:p<=1048575)(hk:k<64):
 Ct 110 #[PV ph,Xi p,Xi k] w fun e w'=>e=.returned (.tuple #[])/\Fz w' ph pa pm (li s p k) Y/\Fo Y w w':=by
 have au:=getH_lt h p;have ad:=qU h p o_;have ht:li s p k=if(⟨(FA s p).l_,(FA s p).n,iy (FA s p).w k⟩:Hr)=⟨1,(FA s p).n,0⟩ then((Ie s p ⟨(FA s p).l_,(FA s p).n,iy (FA s p).w k⟩).release p 1).2 else Ie s p ⟨(FA s p).l_,(FA s p).n,iy (FA s p).w k⟩:=rfl
 rw[ht];clear ht;generalize FA s p=x at*;obtain⟨kd,xn,xw⟩:=x;simp only at au ad⊢;obtain⟨a6,a7,ar⟩:=au;have a4:=fun W=>zo xw k W ar hk;have a5:=zm (k:=k) ar;have an:∀W,Fz W ph pa pm s Y->_:=fun W hW=>oh (hW.own (Xj kd xn (iy xw k:Nat))) p ⟨kd,xn,iy xw k⟩ o_ a6 a7 a5;simp only[fT] at ad an;generalize iy xw k=bs at*;generalize Ie s p ⟨kd,xn,bs⟩=s1 at*;have a3:=fun W (hW:Fz W ph pa pm s1 Y)=>hW.release p 1 hp;obtain⟨B,hB⟩:=Ii (decide ((kd:Int)=1/\(xn:Int)=xn/\(bs:Int)=0));have a8:=fun W=>G4 kd xn bs 1 xn 0 W;rw[hB] at a8;have ap:((⟨kd,xn,bs⟩:Hr)=⟨1,xn,0⟩)=(B=true):=by
  rw[<-hB]
  simp
  omega
 simp only[ap];have hc:=h.cell;have HG:=kq5 ad a4 an a3 h;clear ad a4 an a3 h hB ap;go_enter func110,ntmps110;go_wp2_with fail;refine dR HG.a fun w1 hb1=>?_;have H1:=kq2 (HG.e.a_ hb1) (HG.e.w_ hb1);clear hb1;go_wp2_with fail;refine Jc (HG.b _) ?_;go_wp2_with fail;refine(HG.c w1 H1.a).M ?_;rintro e w3 ⟨rfl,h3,k3⟩;have a2:(w1.alloc (Xj kd xn (bs:Nat))).1[w1.1.size]?=some (.cells #[Xi kd,Xi xn,Xu (bs:Nat)] 188 (0,0)):=by
  show (w1.1.push _)[w1.1.size]?=_;simp
 have a1:=(k3.block w1.1.size (ae rfl)).T a2;obtain⟨b0,b1,b2⟩:=fq a1;have a0:Fo Y w1 (w1.alloc (Xj kd xn (bs:Nat))):=H1.a.w_ ((aa _ w1).alloc Ih _);have ai:=h3.M (fun k hk=>ab hk) HG.e.yh HG.e.yt;have c3:=ai.cell;have H3:=kq2 ai (H1.b.T (a0.T (k3.M fun k hk=>ab hk)));clear h3 k3 a2 a0 a1 ai
 cases B with
 | true=>
  go_wp2_with fail;refine(HG.d _ H3.a).M ?_;rintro e w4 ⟨rfl,h4,k4⟩;have H4:=kq2 h4 (H3.b.T k4);clear h4 k4;go_wp2_with fail
  go_end0
  exact⟨rfl,H4.O⟩
 | false=>
  go_wp2_with fail
  go_end0
  exact⟨rfl,H3.O⟩
theorem mH(t_:Nat){p k:Nat}{x:Hr}:∀l:List (Nat×Hr),fS t_ l=some (p,k,x)->(p,x)∈l/\k<64
 | (q,y)::l,h=>by
  rw[JX] at h;split at h
  ·injection h with h
   injection h with h1 h2
   injection h2 with h2 h3
   subst h1 h2 h3;exact⟨s_,o_⟩
  ·split at h
   ·exact⟨ak _ (mH t_ l h).1,(mH t_ l h).2⟩
   ·split at h
    ·rename_i j hj;injection h with h
     injection h with h1 h2
     injection h2 with h2 h3
     subst h1 h2 h3;refine⟨s_,?_⟩;unfold JL at hj;have h4:=cI hj;have h5:=nX y.n;have h6:=bw.1 h4;omega
    ·exact⟨ak _ (mH t_ l h).1,(mH t_ l h).2⟩
theorem AS{ph pa pm:Nat}(h:Fz w ph pa pm s Y){t_ p k:Nat}{x:Hr}(hf:kb s t_=some (p,k,x)):p<=1048575/\k<64/\x.l_<256/\x.n<2^56/\x.w<2^64:=by
 obtain⟨h1,h2⟩:=mH t_ _ hf;obtain⟨h3,h4⟩:=oD _ _ h1;have h5:=getH_lt h p;simp only at h3 h4;rw[<-h4] at h5;exact⟨h.wf.top p h3,h2,h5⟩
theorem Bu{ph pa pm:Nat}(h:Fz w ph pa pm s Y)(t_:Nat)(ha:t_<=4611686018427387903):
 Ct 64 #[PV ph,Xi t_] w fun e w'=>e=.returned (Xi ((iM s t_).1:Nat))/\Fz w' ph pa pm (iM s t_).2 Y/\Fo Y w w':=by
 have a1:=dQ h;have ap:=Bq h t_ ha;obtain⟨R,hR⟩:=Ii (iM s t_);rw[hR]
 cases hf:kb s t_ with
 | none=>
  rw[hf] at ap;have ai:R=(5,s):=by rw[<-hR];unfold iM;rw[hf]
  simp only[od,fT] at ap;have HG:=kq4 a1 ap ai h;clear a1 ap ai h hR hf;go_enter func64,ntmps64;go_wp2_with fail;refine Jc HG.a ?_;go_wp2_with fail;refine dR HG.b fun w1 ad=>?_;have an:=ad.alloc ad.size (Xj (0:Nat) (0:Nat) (0:Nat));have H1:=kq2 (HG.d.a_ an) (HG.d.w_ an);clear ad an;go_wp2_with fail;go_ret;obtain rfl:=HG.c;exact⟨rfl,H1.O⟩
 | some r=>
  obtain⟨p,k,x⟩:=r;have a5:=AS h hf;rw[hf] at ap;have ai:R=if x.l_=2 then s.release p x.n else(0,li s p k):=by rw[<-hR];unfold iM;rw[hf]
  obtain⟨kd,xn,xw⟩:=x;simp only[od,fT] at ap a5 ai;obtain⟨h1,h2,h3,h4,h5⟩:=a5;have a8:=fun W Z (hW:Fz W ph pa pm s Z)=>hW.release p xn h1;have a6:=fun W (hW:Fz W ph pa pm s Y)=>Bv hW p k h1 h2;have HG:=kq6 a1 ap ai h a8 a6;clear a1 ap ai h a8 a6 hR hf
  by_cases ar:kd=2
  ·obtain rfl:=ar;go_enter func64,ntmps64;go_wp2_with fail;refine Jc HG.a ?_;go_wp2_with fail;refine dR HG.b fun w1 ad=>?_;have ho:=(HG.d.a_ ad).own (Xj (2:Nat) xn (xw:Nat));have an:=ad.alloc ad.size (Xj (2:Nat) xn (xw:Nat));have a2:=heap_alloc_new w1 (Xj (2:Nat) xn (xw:Nat));have hlt:=ad.size;have H1:=kq3 ho (HG.d.w_ an) a2;clear ad an ho;go_wp2_with fail;generalize w1.alloc (Xj (2:Nat) xn (xw:Nat))=W at*;obtain⟨I,a3,a4⟩:∃I:World->Prop,(∀W',Fz W' ph pa pm s (lE Y w1.1.size)\/Fz W' ph pa pm (s.release p xn).2 (lE Y w1.1.size)->W'.1[w1.1.size]?=some (.cells #[Xi (2:Nat),Xi xn,Xu (xw:Nat)] 188 (0,0))->I W')/\(∀W',I W'->W'.cell? (y_ ph)=some (PV pa)/\W'.1[w1.1.size]?=some (.cells #[Xi (2:Nat),Xi xn,Xu (xw:Nat)] 188 (0,0))):=
    ⟨fun W'=>W'.cell? (y_ ph)=some (PV pa)/\W'.1[w1.1.size]?=some (.cells #[Xi (2:Nat),Xi xn,Xu (xw:Nat)] 188 (0,0)),fun W' h1 h2=>⟨h1.elim (·.cell) (·.cell),h2⟩,fun W' h=>h⟩
   have bb:∀x:Fq I,x.to.cell? (y_ ph)=some (PV pa):=fun x=>(a4 _ x.ok).1;have hq:=fun x:Fq I=>(a4 _ x.ok).2;obtain⟨a',ad,an⟩:=qf hq;have a9:I W.drew:=a3 _ (ab (H1.a.drewN 1)) a2;clear a2;refine fh I (.take 0 (.take 1 (.take 2 (.take 3 (.take 4 (.take 5 (.take 6 (.go 7 (.take 8 .nil))))))))) k_ k_ a9 ?_
   iterate 7
    refine pT_ ?_
    try simp only[pu]
   refine pD fun K hK=>?_;go_simp;refine(HG.e _ _ (H1.a.drewN 1)).M ?_;rintro e w2 ⟨rfl,au,ar⟩;have a7:=(ar.block w1.1.size (ae rfl)).T H1.c;have a0:Fo Y w w2:=H1.b.T ((H1.a.w_ (aa _ _).drew).T ar |>.M fun k hk=>ab hk);have H2:=kq2 (au.M (fun k hk=>ab hk) HG.d.yh HG.d.yt) a0
   try go_simp
   refine hK.O _ _ (a3 _ (ae au) a7) ?_;clear hK K
   try simp only[pu]
   clear ar au a7 a0;refine pT_ ?_
   try simp only[pu]
   refine eP ?_;go_wp2_with fail;go_ret;have ai:=HG.c;rw[if_pos trivial] at ai;subst ai;exact⟨rfl,H2.O⟩
  ·have ba:((kd:Int)==2)=false:=m_
   go_enter func64,ntmps64;go_wp2_with fail;refine Jc HG.a ?_;go_wp2_with fail;refine dR HG.b fun w1 ad=>?_;have an:=ad.alloc ad.size (Xj kd xn xw);have H1:=kq2 (HG.d.a_ an) (HG.d.w_ an);clear ad an;go_wp2_with fail;refine(HG.f _ H1.a).M ?_;rintro e w2 ⟨rfl,au,a0⟩;have H2:=kq2 au (H1.b.T a0);clear au a0;go_wp2_with fail;go_ret;have ai:=HG.c;rw[if_neg ar] at ai;subst ai;exact⟨rfl,H2.O⟩