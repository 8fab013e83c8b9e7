/- Ranges of maps of any kind: some, Scan, Back, Count: the walks. -/
import Derived.Test.YtcibkdbpicledaaGreatDoorXIk
set_option maxRecDepth 100000
set_option maxHeartbeats 6400000
namespace Go.Proofs.YtcibkdbpicledaaGreatDoor
open Go.RowKit Tryz Go.BigFrame Go.Maps Go.WideMaps Lf Tr
open Go.Shelf
variable{S:St}{Y:Nat->Prop}
attribute [local go_sem] Oper.semAt_some
theorem Gy:(prog.info? 34).map (fun i=>(i.zero,i.size,i.bytes))=some (some (.agg #[.string ⟨#[]⟩,.string ⟨#[]⟩]),2,32):=by kernel_rfl
def FJ(l:List Pr):List Value:=l.flatMap fun p=>[SV p.1,SV p.2]
theorem Hc(l:List Pr)(p:Pr):FJ (l++[p])=FJ l++[SV p.1,SV p.2]:=by simp[FJ]
theorem GE(l:List Pr):(FJ l).length=l.length*2:=by
 unfold FJ
 induction l with
 | nil=>rfl
 | cons a l ih=>simp only[dN,aE,aj,aL,ih];omega
def F8(bo n:Nat)(pre:List Pr)(W:World):Prop:=∃v,W.heap[bo]?=some (.cells #[v] 22 (0,0))/\W.ownsRow n 34 2 v pre.length (FJ pre)
theorem Gi(bo n:Nat):_root_.Go.Own (fun(pre:List Pr) W=>F8 bo n pre W):=fun s A B row hs hg hr=>by
 obtain⟨v,hv,hrow⟩:=hs;refine⟨v,(hg.block _ (gl hv) (fun e=>?_)).trans hv,wi hrow hg hr⟩;obtain⟨o,ho,hc⟩:=hr _ e.symm;rw[hv] at ho;injection ho with ho
 subst ho;cases hc
theorem GR(W:World)(u v:Value)(t:TypeId):∀(j:Nat) (x:Value),[u,v][j]?=some x->(W.alloc (.cells #[u,v] t)).cell? ((⟨W.heap.size,0,none⟩:Addr).add j)=some x:=fun j x hx=>by
 have ad:(⟨W.heap.size,0,none⟩:Addr).add j=⟨W.heap.size,j,none⟩:=by unfold Addr.add;split<;>simp_all
 rw[ad,Fs (heap_alloc_new W _),<-hx];simp
theorem Gj{w:World}{B B':Nat}{e:TypeId}{size:Nat}{v:Value}{n:Nat}{xs:List Value}(h:w.ownsRow B e size v n xs)(hB:B'<=B):w.ownsRow B' e size v n xs:=
 ⟨h.1,h.2.imp id fun⟨g,cap,cur,h1,h2,h3⟩=>⟨g,cap,cur,h1,aH hB h2,h3⟩⟩
theorem GA(n bo:Nat)(W0:World)(hn:n<=W0.heap.size):OwnFrom n (fun(_:List Pr) W=>FL n bo W0 W):=fun s A B row hs hg hr=>
 hs.trans ⟨hg.size,fun k hk _=>hg.block k (aW (aW hk hn) hs.size) (fun e=>by have:=(hr k e.symm).1;omega)⟩
theorem qIlaa{P:Prop}(h:P:=by
 exact Gj (wi HI.a (grownBy_putObj' W D _) (fun r e=>by cases e;exact⟨_,hK,rfl⟩)) H3.c.size):P:=h
theorem GH{P:List (List UInt8×List UInt8)->Prop}{K:jo}(ok:gB K P){w0 w:World}{ps pm px limit root:Nat}{L:List (List UInt8×List UInt8)}(h:fi K w0 w ps pm px limit root S Y L)(hc:L.length<98)(fr to:List UInt8)(op back:Bool)(most:Nat)(hmost:most<2^63){q:List Pr}(hq:FM L (FI L fr to op).1 (FI L fr to op).2 back=q):
 CallsIn Fence.wide 7 prog 61 #[PV pm,SV fr,SV to,.bool op,.bool back,.int .i64 most] w fun e w'=>∃v,e=.returned (.tuple #[v,.int .i64 0])/\w'.ownsRow w.heap.size 34 2 v (q.take most).length (FJ (q.take most))/\Below w.heap.size w w':=by
 have h1:1<=7:=by omega
 obtain⟨i0,ch,cn,cp,cr⟩:=info_parts Gy;obtain⟨a8,a0⟩:=FX L fr to op;have bc:q.length=(FI L fr to op).2-(FI L fr to op).1:=by rw[<-hq];exact F1 a0
 have a5:∀i p,q[i]?=some p->fj L ((if back then(FI L fr to op).2-1-i else(FI L fr to op).1+i:Nat):Int)=some p:=fun i p e=>by rw[<-hq] at e;exact Hh a0 e
 have c':Fence.wide.fn 62:=trivial;have c7:Fence.wide.fn 63:=trivial;have c6:Fence.wide.fn 88:=trivial;have b4:∀W,Below w.heap.size w W->CallsIn Fence.wide 6 prog 62 #[PV pm] W _:=fun W hW=>callsIn_wide.2 (Gh (h.map.below hW));have a4:∀W,Below w.heap.size w W->CallsIn Fence.wide 6 prog 63 #[PV pm,SV fr,SV to,.bool op] W _:=fun W hW=>callsIn_wide.2 (GD ok (h.below ok hW) hc fr to op);obtain⟨⟨a,b⟩,bj⟩:∃p,FI L fr to op=p:=⟨_,rfl⟩;rw[bj] at a4 bc a5 a8 a0 hq;simp only at a4 bc a5 a8 a0;have cv:b<2^62:=by omega
 have ds:q.length<=100000:=by omega
 have bk:∀W,CallsIn Fence.wide 6 prog 88 #[PV pm,.int .i64 a,.int .i64 b,.bool back] W _:=fun W=>callsIn_wide.2 (Ho pm a b back W);have dc:((most:Int)<0)=False:=eq_false (by omega);have k0:=(Bx.new w (.int .i64 most) 3);have B0:=(aa w.heap.size w).alloc Ih (.cells #[.int .i64 most] 3);have z0:(w.alloc (.cells #[.int .i64 most] 3)).heap.size=w.heap.size+1:=by simp
 have HG:=kq5 b4 a4 bk h a5;have HC:=If hc;clear b4 a4 bk h a5 hq bj hc a0;refine callsIn_of_wp_marks func61 rfl trivial ?_ rfl;simp only[ntmps61,bg,aj,aL,Nat.reduceAdd,Nat.reduceSub,aT,aU,bq,aX,aS,aP];gi_wp2_with fail;generalize w.alloc (.cells #[.int .i64 most] 3)=w0 at*;refine(HG.a _ B0).mono ?_;rintro e w1 ⟨rfl,rfl⟩;have cs:=k0.1;have k1:=k0.alloc (.cells #[.slice none 0 0] 22);have q1:=heap_alloc_new w0 (.cells #[.slice none 0 0] 22);have B1:=B0.alloc B0.size (.cells #[.slice none 0 0] 22);have z1:(w0.alloc (.cells #[.slice none 0 0] 22)).heap.size=w.heap.size+2:=by simp[z0]
 rw[z0] at q1;have H0:=kq4 k1 q1 B1 z1;clear k0 B0 k1 q1 B1 z1;gi_wp2_with fail;generalize w0.alloc (.cells #[.slice none 0 0] 22)=w1 at*;refine(HG.b _ H0.c).mono ?_;rintro e w2 ⟨rfl,ar⟩;have H2:=kq4 (H0.a.below ar (by have:=H0.d;omega)) ((ar.block (w.heap.size+1) (by have:=H0.d;omega)).trans H0.b) (H0.c.trans (ar.mono H0.c.size)) (show w.heap.size+2<=w2.heap.size by have:=ar.size;have:=H0.d;omega);clear ar cs;gi_wp2_with fail;refine(HG.c _).mono ?_;rintro e w3 ⟨rfl,rfl⟩;gi_wp2_with fail;have y0:=(((Bx.new w2 (PV pm) 26).alloc (.cells #[.int .i64 a] 3)).alloc (.cells #[.int .i64 b] 3)).alloc (.cells #[.bool back] 4);have y1:=((Bx.new (w2.alloc (.cells #[PV pm] 26)) (.int .i64 a) 3).alloc (.cells #[.int .i64 b] 3)).alloc (.cells #[.bool back] 4);have y2:=(Bx.new ((w2.alloc (.cells #[PV pm] 26)).alloc (.cells #[.int .i64 a] 3)) (.int .i64 b) 3).alloc (.cells #[.bool back] 4);have y3:=Bx.new (((w2.alloc (.cells #[PV pm] 26)).alloc (.cells #[.int .i64 a] 3)).alloc (.cells #[.int .i64 b] 3)) (.bool back) 4;have A3:=((((aa w2.heap.size w2).alloc Ih (.cells #[PV pm] 26)).alloc (by simp) (.cells #[.int .i64 a] 3)).alloc (by simp;omega) (.cells #[.int .i64 b] 3)).alloc (by simp;omega) (.cells #[.bool back] 4);have z3:((((w2.alloc (.cells #[PV pm] 26)).alloc (.cells #[.int .i64 a] 3)).alloc (.cells #[.int .i64 b] 3)).alloc (.cells #[.bool back] 4)).heap.size=w2.heap.size+4:=by simp
 simp only[World.size_alloc] at y1 y2 y3;generalize ((((w2.alloc (.cells #[PV pm] 26)).alloc (.cells #[.int .i64 a] 3)).alloc (.cells #[.int .i64 b] 3)).alloc (.cells #[.bool back] 4))=W0 at*;have H3:=kq3 (H2.a.below A3 (by have:=H2.d;omega)) ((A3.block (w.heap.size+1) (by have:=H2.d;omega)).trans H2.b) (H2.c.trans (A3.mono H2.c.size));have a1:=If H2.d;clear A3 H2;generalize w2.heap.size=s2 at*;have ca:=HG.d.wide ok H3.c;have cb:∀(W':World) (i:Nat) (p:Pr),FL W0.heap.size (w.heap.size+1) W0 W'->q[i]?=some p->Ct 18 #[PV pm,.int .i64 ((if back then b-1-i else a+i:Nat):Int)] W' fun e w2=>e=.returned (.tuple #[eu p,.int .i64 0])/\Below W'.heap.size W' w2:=fun W' i p hk hp=>by
  have hl:=(aB.1 hp).1;have:=(ca.kp ok (ae ⟨by omega,by have:=a1.out;omega⟩) H3.b (by have:=(gl HG.d.map);omega) (by have:=ok.onLt HG.d.on;omega) hk).select ok HC.out ((if back then b-1-i else a+i:Nat):Int) (by split<;>omega) _ (HG.e i p hp);exact this
 have a2:∀(B:Nat) (v:Value),Bx W0 B v->s2<=B->B<W0.heap.size/\B≠w.heap.size+1/\W0.cell? ⟨B,0,none⟩=some v:=fun B v hx hB=>⟨Cx.lt (show Cx W0 _ 0 _ from hx),by have:=a1.out;omega,hx.1⟩;refine wpIn_rangeFunc_ownH rfl h1 (gf:=109) (lb:=#[PV (s2+1),PV (s2+1+1),PV (s2+1+1+1),PV s2]) rfl trivial (enters_of func109 (by kernel_rfl) rfl)
  (GP a b cv back q bc a8 cb _ _ _ _ (a2 _ _ y1 (by omega)) (a2 _ _ y2 (by omega)) (a2 _ _ y3 (by omega)) (a2 _ _ y0 Ih)) FL.trans (fun W l o o' h1 h2 h3 h4=>FL.put W l o' h1) (aa _ _) (fun _=>rfl)
  (fun ad W=>F8 (w.heap.size+1) W0.heap.size ad W/\(FL W0.heap.size (w.heap.size+1) W0 W/\Below w.heap.size w W)/\ad.length<=most)
  (fun c xs W=>c=.exit 1/\∃ad x,xs=ad++[x]/\ad.length=most/\F8 (w.heap.size+1) W0.heap.size ad W/\(FL W0.heap.size (w.heap.size+1) W0 W/\Below w.heap.size w W))
  ?o1 ?o2 ?o3
  (fun x a' W=>∃al,W0.heap.size<=al/\W.heap[al]?=some (.cells #[SV x.1,SV x.2] 34)/\a'= { tmps:=#[PV pm,SV fr,SV to,.bool op,.bool back,.int .i64 most,undef,undef,undef,undef,undef,.pointer (some ⟨w.heap.size,0,none⟩),.slice none 0 0,.int .i64 0,.pointer (some ⟨w.heap.size+1,0,none⟩),.int .i64 a,.int .i64 b,PV al,.bool false,PV pm,PV px,.bool false,.bool false,.int .i64 most,.bool false,.tuple #[.int .i64 a,.int .i64 b],PV pm,SV fr,SV to,.bool op,.tuple #[.int .i64 a,.int .i64 b],.int .i64 a,.int .i64 b,PV pm,.int .i64 a,.int .i64 b,.bool back,.func (.func 109) #[] #[PV (s2+1),PV (s2+1+1),PV (s2+1+1+1),PV s2],.agg #[SV x.1,SV x.2],undef,undef,undef,undef,undef,undef,undef,undef,undef],defers:=[] })
  ?o4 ?assign ?body ?done ?stop
 case o1=>exact OwnFrom.and (Own.from (Gi _ _) _) (OwnFrom.and (OwnFrom.and (GA _ _ _ Ih) (ownFrom_below Ih H3.c.size)) (fun s A B row hs hg hr=>hs))
 case o2=>
  rintro c s A B row ⟨hc,ad,x,e,hl,ho,hk,hb⟩ hg hr;exact⟨hc,ad,x,e,hl,Gi _ _ ad A B row ho hg (fun r e=>(hr r e).2),GA _ _ _ Ih ad A B row hk hg hr,ownFrom_below (β:=List Pr) Ih H3.c.size ad A B row hb hg hr⟩
 case o3=>exact⟨⟨_,H3.b,rfl,ab ⟨rfl,rfl⟩⟩,⟨FL.refl _ _ _,H3.c⟩,cC _⟩
 case o4=>
  rintro x a' _ A B row ⟨al,hl,hb,e⟩ hg hr;refine⟨al,hl,(hg.block _ (gl hb) (fun e=>?_)).trans hb,e⟩;obtain⟨-,o,ho,hc⟩:=hr _ e.symm;rw[hb] at ho
  injection ho with ho
  subst ho
  cases hc
 case assign=>
  rintro l ad x W K hI hK;have HK:=If hK;have HI:=If hI;clear hK hI;simp only[F4,eu]
  gi_wp2
  have au:=(aa W.heap.size W).alloc Ih (.cells #[SV x.1,SV x.2] 34);refine HK.out _ _ ((KeepsOthers.alloc _ _).from _) (FL.below (au.mono HI.out.2.1.1.size)) ⟨?_,⟨HI.out.2.1.1.trans (FL.below (au.mono HI.out.2.1.1.size)),HI.out.2.1.2.trans (au.mono HI.out.2.1.2.size)⟩,HI.out.2.2⟩ ⟨W.heap.size,HI.out.2.1.1.size,heap_alloc_new _ _,rfl⟩;exact Gi _ _ ad W _ none HI.out.1 (World.grownBy_alloc W _ none) (fun r e=>by cases e)
 case body=>
  rintro l ad ⟨x1,x2⟩ a' W hl _ ⟨⟨v,hv,hrow⟩,⟨hk,hB⟩,ai⟩ ⟨al,cx,bf,rfl⟩ a3;simp only at bf;obtain⟨m,hm⟩:=Ii ad.length;have dk:m<=100000:=by omega
  obtain⟨ao,an,rfl⟩:∃ao an,v=.slice ao ad.length an:=by
   rcases hrow.2 with⟨rfl,h0⟩ | ⟨g,an,cw,rfl,_⟩
   ·exact⟨none,0,by rw[h0]⟩
   ·exact⟨_,_,rfl⟩
  rw[hm] at hv hrow ai;obtain⟨c1,f1⟩:=qS hv;have cm:W.cell? ⟨w.heap.size,0,none⟩=some (.int .i64 most):=(World.cell?_of_block (hk.block w.heap.size (by have:=a1.out;have:=Cx.lt (show Cx W0 s2 0 _ from y0);omega) (by omega))).trans H3.a.1;obtain⟨d0,d1⟩:=Fp bf;have HI:=kq6 hv hrow hB hk a3 hl;have HM:=If hm;clear hv hrow hB hk a3 hl bf hm
  by_cases hmm:m=most
  ·subst hmm;gi_wp2_with fail;refine⟨KeepsFrom.refl _ _,rfl,ad,(x1,x2),rfl,HM.out,⟨_,HI.a,?_⟩,HI.d,HI.c⟩;rw[HM.out];exact HI.b
  ·have dn:((m:Int)==most)=false:=by simp;omega
   gi_wp2_with (gi_at_builtin;refine wpListIn_append_own_at _ rfl _ _ 22 rfl W0.heap.size 34 i0 (.agg #[.string ⟨#[]⟩,.string ⟨#[]⟩]) 2 32 underlying22 ch cn cp cr rfl (by decide) _ _ _ rfl (HI.b.alloc _) ⟨W.heap.size,0,none⟩ 1 1 [SV x1,SV x2] rfl rfl (GR _ _ _ _) ?c2 ?c3 ?c4 ?c5 ?_)
   case c2=>simp[Value.oneCell',SV]
   case c3=>unfold maxLen;omega
   case c4=>omega
   case c5=>have:=HI.d.size;simp;omega
   intro v' w1 hown hgrow _ hat;obtain⟨g',a6,b',rfl,bm,bt,bv,b0,b1,b2⟩:=hown.2.resolve_left (by rintro⟨_,h⟩;exact absurd h (by simp));obtain⟨hv,hrow,hB,hk,a3,hl⟩:=HI.out;have a7:=hB.size;have cj:=hk.size;have au:=(gl hv);have bo:w.heap.size+1<W0.heap.size:=by have:=a1.out;have:=Cx.lt (show Cx W0 s2 0 _ from y0);omega
   have bb:∀k,(Value.slice ao m an).ownBlock=some k->W0.heap.size<=k:=fun k e=>(hrow.lt k e).1;have hold:∀k,k<W0.heap.size->w1.heap[k]?=W.heap[k]?:=fun k ba=>by
    rw[hgrow.block k (by simp;omega) (fun e=>by have:=bb k e.symm;omega),heap_alloc_old W _ (by omega)]
   have bd:w1.heap[w.heap.size+1]?=some (.cells #[.slice ao m an] 22 (0,0)):=(hold _ bo).trans hv;have bs:g'≠w.heap.size+1:=by omega
   have a9:Below w.heap.size W w1:=((aa _ W).mono a7 |>.alloc a7 (.cells #[SV x1,SV x2] 34)).grown hgrow (by simp;omega) (fun k e=>by have:=bb k e;have:=H3.c.size;omega);have ba:KeepsFrom W0.heap.size W w1:=((KeepsOthers.alloc W (.cells #[SV x1,SV x2] 34)).from _).trans (BL (hrow.alloc _) hgrow);have b8:FL W0.heap.size (w.heap.size+1) W w1:=⟨a9.size,fun k h1 _=>hold k h1⟩;obtain⟨d1,e1⟩:=qS bd;have HW:=kq12 bd bt bs a9 ba hown bm b8 bv b0 b1 b2;clear bd bt bs a9 ba hown bm bv b0 b1 b2 hgrow hat bb au a7 hv hrow hB a3 hl hk b8 hold cj bo;gi_wp2_with fail;have b9:FL W0.heap.size (w.heap.size+1) W (w1.setCell ⟨w.heap.size+1,0,none⟩ (.slice (some ⟨g',0,none⟩) (m+1) a6)):=HW.h.trans ⟨by simp,fun k _ h2=>FB h2⟩;have cc:=HW.d.setCell (p:=⟨w.heap.size+1,0,none⟩) (bF w.heap.size) (.slice (some ⟨g',0,none⟩) (m+1) a6);refine⟨HW.e.trans ((KeepsOthers.setCell _ _ _).from _),b9,⟨_,heap_setCell HW.a,?_⟩,⟨HI.d.trans b9,HI.c.trans cc⟩,by simp only[aE,aj,aL,HM.out];omega⟩;have ck:(ad++[((x1,x2):Pr)]).length=m+1:=by simp[HM.out]
   rw[ck,Hc];exact⟨HW.f.1,ae ⟨g',a6,b',rfl,by have:=HW.g;omega,(FB HW.c).trans HW.b,HW.out.2.2.2.2.2.2.2.2⟩⟩
 case done=>
  rintro D ys W hD hS ⟨⟨v,hv,hrow⟩,⟨hk,hB⟩,ai⟩ hK;subst hS;obtain⟨c1,f1⟩:=qS hv;have ap:w.heap.size<=D:=aH H3.c.size hD;have HI:=kq5 hrow hB hv ai ap;clear hrow hB hv ai hk f1 ap
  gi_wp2
  refine⟨by simp,.inl ⟨_,_,rfl,run_takeDeferred hK,?_⟩⟩;refine⟨.tuple #[v,.int .i64 0],by simp[results,f61,go_sem],v,rfl,?_,HI.b.trans (nN W D _ _ HI.e hK rfl rfl)⟩;rw[aG HI.d];exact qIlaa
 case stop=>
  rintro D cd dv W hD cl ⟨rfl,ad,x,rfl,ai,⟨v,hv,hrow⟩,hk,hB⟩ hK;obtain⟨c1,f1⟩:=qS hv;have ap:w.heap.size<=D:=aH H3.c.size hD;have bu:q.take most=ad:=by
   obtain⟨r,hr⟩:=cl;rw[<-hr,<-ai]
   simp
  have HI:=kq5 hrow hB hv bu ap;clear hrow hB hv ai hk f1 ap bu
  gi_wp2
  refine⟨by simp,.inl ⟨_,_,rfl,run_takeDeferred hK,?_⟩⟩;refine⟨.tuple #[v,.int .i64 0],by simp[results,f61,go_sem],v,rfl,?_,HI.b.trans (nN W D _ _ HI.e hK rfl rfl)⟩;rw[HI.d];exact qIlaa
theorem FY{P:List (List UInt8×List UInt8)->Prop}{K:jo}(ok:gB K P){w0 w:World}{ps pm px limit root:Nat}{L:List (List UInt8×List UInt8)}(h:fi K w0 w ps pm px limit root S Y L)(hc:L.length<98)(fr to:List UInt8)(op:Bool)(most:Nat)(hmost:most<2^63){q:List Pr}(hq:(FM L (FI L fr to op).1 (FI L fr to op).2 false).take most=q):
 Ct 30 #[PV pm,SV fr,SV to,.bool op,.int .i64 most] w fun e w'=>∃v,e=.returned (.tuple #[v,.int .i64 0])/\w'.ownsRow w.heap.size 34 2 v q.length (FJ q)/\Below w.heap.size w w':=by
 subst hq;have HG:=If (callsIn_wide.1 (GH ok h hc fr to op false most hmost rfl));clear h hc;generalize (FM L (FI L fr to op).1 (FI L fr to op).2 false).take most=q at*;go_enter func30,ntmps30;go_wp2_with fail;refine HG.out.mono ?_;rintro e w1 ⟨v,rfl,hr,hb⟩;have HB:=kq2 hr hb;clear hr hb;go_wp2_with fail;go_ret2;exact⟨v,rfl,HB.out⟩
theorem F3{P:List (List UInt8×List UInt8)->Prop}{K:jo}(ok:gB K P){w0 w:World}{ps pm px limit root:Nat}{L:List (List UInt8×List UInt8)}(h:fi K w0 w ps pm px limit root S Y L)(hc:L.length<98)(fr to:List UInt8)(op:Bool)(most:Nat)(hmost:most<2^63){q:List Pr}(hq:(FM L (FI L fr to op).1 (FI L fr to op).2 true).take most=q):
 Ct 31 #[PV pm,SV fr,SV to,.bool op,.int .i64 most] w fun e w'=>∃v,e=.returned (.tuple #[v,.int .i64 0])/\w'.ownsRow w.heap.size 34 2 v q.length (FJ q)/\Below w.heap.size w w':=by
 subst hq;have HG:=If (callsIn_wide.1 (GH ok h hc fr to op true most hmost rfl));clear h hc;generalize (FM L (FI L fr to op).1 (FI L fr to op).2 true).take most=q at*;go_enter func31,ntmps31;go_wp2_with fail;refine HG.out.mono ?_;rintro e w1 ⟨v,rfl,hr,hb⟩;have HB:=kq2 hr hb;clear hr hb;go_wp2_with fail;go_ret2;exact⟨v,rfl,HB.out⟩
theorem Gc{P:List (List UInt8×List UInt8)->Prop}{K:jo}(ok:gB K P){w0 w:World}{ps pm px limit root:Nat}{L:List (List UInt8×List UInt8)}(h:fi K w0 w ps pm px limit root S Y L)(hc:L.length<98)(fr to:List UInt8)(op:Bool):
 Cb 32 #[PV pm,SV fr,SV to,.bool op] w (.tuple #[.int .i64 (((FI L fr to op).2-(FI L fr to op).1:Nat):Int),.int .i64 0]):=by
 obtain⟨h1,h2⟩:=FX L fr to op;have HG:=kq2 (Gh h.map) (GD ok h hc fr to op);obtain⟨⟨a,b⟩,ad⟩:∃p,FI L fr to op=p:=⟨_,rfl⟩;rw[ad] at HG h1 h2⊢;simp only at HG h1 h2⊢;have hw:IntKind.i64.wrap ((b:Int)-a)=((b-a:Nat):Int):=(az _ (by omega)).trans (by omega);clear h hc ad h1 h2;go_enter func32,ntmps32;go_wp2_with fail;refine HG.a.mono ?_;rintro e w1 ⟨rfl,rfl⟩;go_wp2_with fail;refine HG.b.mono ?_;rintro e w2 ⟨rfl,hb⟩;have HB:=If hb;clear hb;go_wp2_with fail;go_ret2;exact⟨rfl,HB.out⟩