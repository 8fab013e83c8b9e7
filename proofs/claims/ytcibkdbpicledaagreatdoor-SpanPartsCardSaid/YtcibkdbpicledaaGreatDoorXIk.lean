/- Ranges of maps of any kind: places, along, its iterator's contract: the walks. -/
import Derived.Test.YtcibkdbpicledaaGreatDoorXDg
set_option maxRecDepth 100000
set_option maxHeartbeats 3200000
namespace Go.Proofs.YtcibkdbpicledaaGreatDoor
open Go.RowKit Tryz Go.BigFrame Go.Maps Go.WideMaps Lf Tr
open Go.Shelf
variable{S:St}{Y:Nat->Prop}
attribute [local go_sem] Oper.semAt_some
abbrev Pr:=List UInt8×List UInt8
abbrev F4(p:Pr):Array Value:=#[eu p]
structure FL (n bo:Nat) (W W':World):Prop where
 size:W.heap.size<=W'.heap.size
 block:∀k,k<n->k≠bo->W'.heap[k]?=W.heap[k]?
theorem FL.refl(n bo:Nat)(W:World):FL n bo W W:=⟨Nat.le_refl _,fun _ _ _=>rfl⟩
theorem FL.trans{n bo:Nat}{A B C:World}(h:FL n bo A B)(k:FL n bo B C):FL n bo A C:=
 ⟨aH h.size k.size,fun i h1 h2=>(k.block i h1 h2).trans (h.block i h1 h2)⟩
theorem FL.below{n bo:Nat}{A B:World}(h:Below n A B):FL n bo A B:=⟨h.size,fun k hk _=>h.block k hk⟩
theorem FL.put{n bo:Nat}(W:World)(l:Nat)(o':Obj)(hl:n<=l):FL n bo W (W.putObj l o'):=
 ⟨by simp,fun k hk _=>World.putObj_heap_other (by omega)⟩
theorem fi.kp{P:List (List UInt8×List UInt8)->Prop}{K:jo}(ok:gB K P){w W W':World}{ps pm px limit root:Nat}{L:List (List UInt8×List UInt8)}(h:fi K w W ps pm px limit root S Y L){bo:Nat}{v:Value}{fr:Nat×Nat}(hy:Y bo)(hb:W.heap[bo]?=some (.cells #[v] 22 fr))(nm:pm≠bo)(nx:px≠bo)(hk:FL W.heap.size bo W W'):fi K { W' with heap:=#[] } W' ps pm px limit root S Y L:=
 ⟨h.st.write hy hb ⟨by decide,by decide⟩ (by simp) hk.size hk.block,h.hold,ok.onAt h.on (hk.block px (ok.onLt h.on) nx),(hk.block pm (gl h.map) nm).trans h.map,⟨rfl,rfl,rfl,cC _,fun k hk=>absurd hk (by simp)⟩,fun k hk=>absurd hk (by simp),h.yx,h.ym,cC _,cC _,h.ne⟩
def FI(L:List Pr)(fr to:List UInt8)(op:Bool):Nat×Nat:=(eK L fr,max (eK L fr) (if op then L.length else eK L to))
def FM(L:List Pr)(a b:Nat)(back:Bool):List Pr:=if back then((L.take b).drop a).reverse else(L.take b).drop a
theorem FX(L:List Pr)(fr to:List UInt8)(op:Bool):(FI L fr to op).1<=(FI L fr to op).2/\(FI L fr to op).2<=L.length:=by
 have h1:=nZ L fr;have h2:=nZ L to;unfold FI;refine⟨Nat.le_max_left _ _,Nat.max_le.2 ⟨h1,?_⟩⟩;split<;>omega
theorem F1{L:List Pr}{a b:Nat}{back:Bool}(hb:b<=L.length):(FM L a b back).length=b-a:=by
 unfold FM;split<;>simp<;>omega
theorem Hh{L:List Pr}{a b:Nat}{back:Bool}(hb:b<=L.length){i:Nat}{p:Pr}(h:(FM L a b back)[i]?=some p):fj L ((if back then b-1-i else a+i:Nat):Int)=some p:=by
 have hl:=(aB.1 h).1;rw[F1 hb] at hl;unfold fj;rw[if_neg (by omega),cf];unfold FM at h
 cases back with
 | true=>
  simp only[if_true] at h⊢;rw[List.getElem?_reverse (by simp;omega),cX,bY] at h;simp only[aV,am] at h;rw[if_pos (by omega),show a+(min b L.length-a-1-i)=b-1-i by omega] at h;exact h
 | false=>
  simp only[bC,if_false] at h⊢;rw[cX,bY,if_pos (by omega)] at h;exact h
theorem GD{P:List (List UInt8×List UInt8)->Prop}{K:jo}(ok:gB K P){w0 w:World}{ps pm px limit root:Nat}{L:List (List UInt8×List UInt8)}(h:fi K w0 w ps pm px limit root S Y L)(hc:L.length<98)(fr to:List UInt8)(op:Bool):
 Cb 63 #[PV pm,SV fr,SV to,.bool op] w (.tuple #[.int .i64 (FI L fr to op).1,.int .i64 (FI L fr to op).2]):=by
 have ao:=h.rank ok hc fr;have an:=fun W (hW:Below w.heap.size w W)=>(h.below ok hW).len ok hc;have ap:=fun W (hW:Below w.heap.size w W)=>(h.below ok hW).rank ok hc to;unfold FI;simp only;generalize eK L fr=a at*;generalize eK L to=r at*;generalize L.length=n at*;have HG:=kq3 ao an ap;clear ao an ap h
 cases op with
 | true=>
  simp only[if_true];have ar:max (a:Int) (n:Int)=((max a n:Nat):Int):=by omega
  generalize max a n=m at*;go_enter func63,ntmps63;go_wp2_with fail;refine HG.a.mono ?_;rintro e w1 ⟨rfl,ad⟩;have H1:=If ad;clear ad;go_wp2_with fail;refine(HG.b _ H1.out).mono ?_;rintro e w2 ⟨rfl,ai⟩;have H2:=If (H1.out.trans (ai.mono H1.out.size));clear ai;go_wp2_with fail;go_ret2;exact⟨rfl,H2.out⟩
 | false=>
  simp only[bC,if_false];have ar:max (a:Int) (r:Int)=((max a r:Nat):Int):=by omega
  generalize max a r=m at*;go_enter func63,ntmps63;go_wp2_with fail;refine HG.a.mono ?_;rintro e w1 ⟨rfl,ad⟩;have H1:=If ad;clear ad;go_wp2_with fail;refine(HG.b _ H1.out).mono ?_;rintro e w2 ⟨rfl,ai⟩;have H2:=If (H1.out.trans (ai.mono H1.out.size));clear ai;go_wp2_with fail;refine(HG.c _ H2.out).mono ?_;rintro e w3 ⟨rfl,al⟩;have H3:=If (H2.out.trans (al.mono H2.out.size));clear al;go_wp2_with fail;go_ret2;exact⟨rfl,H3.out⟩
theorem Ho(pm:Nat)(a b:Int)(back:Bool)(w:World):
 Ct 88 #[PV pm,.int .i64 a,.int .i64 b,.bool back] w fun e w'=>e=.returned (.func (.func 109) #[] #[PV (w.heap.size+1),PV (w.heap.size+1+1),PV (w.heap.size+1+1+1),PV w.heap.size])/\w'=(((w.alloc (.cells #[PV pm] 26)).alloc (.cells #[.int .i64 a] 3)).alloc (.cells #[.int .i64 b] 3)).alloc (.cells #[.bool back] 4):=by
 go_enter func88,ntmps88
 go_wp2
 go_ret;exact⟨rfl,rfl⟩
theorem GP{w:World}{pm bo:Nat}(a b:Nat)(hb:b<2^62)(back:Bool)(q:List Pr)(hn:q.length=b-a)(hab:a<=b)
 (hq:∀(W':World) (i:Nat) (p:Pr),FL w.heap.size bo w W'->q[i]?=some p->Ct 18 #[PV pm,.int .i64 ((if back then b-1-i else a+i:Nat):Int)] W' fun e w2=>e=.returned (.tuple #[eu p,.int .i64 0])/\Below W'.heap.size W' w2) (Ba Bb Bk Bm:Nat)
 (hBa:Ba<w.heap.size/\Ba≠bo/\w.cell? ⟨Ba,0,none⟩=some (.int .i64 a)) (hBb:Bb<w.heap.size/\Bb≠bo/\w.cell? ⟨Bb,0,none⟩=some (.int .i64 b)) (hBk:Bk<w.heap.size/\Bk≠bo/\w.cell? ⟨Bk,0,none⟩=some (.bool back)) (hBm:Bm<w.heap.size/\Bm≠bo/\w.cell? ⟨Bm,0,none⟩=some (PV pm)):
 SeqStopsK Fence.wide 6 prog 109 #[PV Ba,PV Bb,PV Bk,PV Bm] F4 (FL w.heap.size bo) (fun xs=>xs=q) (fun pre=>pre<+:q) q.length w:=fun l J Jx W hW hJ hJx hY h0=>by
 have bm:Fence.wide.fn 18:=trivial;have a4:∀(W':World) (B:Nat) (v:Value),B<w.heap.size/\B≠bo/\w.cell? ⟨B,0,none⟩=some v->FL w.heap.size bo w W'->W'.cell? ⟨B,0,none⟩=some v:=fun W' B v h hk=>(World.cell?_of_block (hk.block B h.1 h.2.1)).trans h.2.2;have a9:∀(W':World) (i:Nat) (p:Pr),FL w.heap.size bo w W'->q[i]?=some p->CallsIn Fence.wide 5 prog 18 #[PV pm,.int .i64 ((if back then b-1-i else a+i:Nat):Int)] W' _:=fun W' i p hk hp=>callsIn_wide.2 (hq W' i p hk hp);have k0:FL w.heap.size bo w W:=FL.below hW;have ca:=a4 W Ba _ hBa k0;have cb:=a4 W Bb _ hBb k0;have HG:=kq6 a4 a9 hBa hBb hBk hBm;have HJ:=kq6 hJ hJx hY h0 k0 hW;clear a4 a9 hBa hBb hBk hBm hJ hJx hY h0 k0 hW hq;obtain⟨n,a7⟩:=Ii q.length;have a8:∀k p,q[k]?=some p->q.take (k+1)=q.take k++[p]:=fun k p hp=>by rw[List.take_add_one,hp];rfl
 have HQ:=kq2 a8 a7;have a6:=If (show b=a+n by omega);clear a8 a7 hn hab;refine callsIn_of_wp func109 rfl trivial ?_ rfl;simp only[ntmps109,bg,aj,aL,Nat.reduceAdd,Nat.reduceSub,aT,aU,bq,aX,aS,aP];gi_wp2_with fail;gi_loopw [6,7,8,9] (fun k _ _ _ wr=>∃i:Nat,i<=n/\k=.int .i64 ((a:Int)+i)/\Hid (FL w.heap.size bo w wr/\W.heap.size<=wr.heap.size/\J (q.take i) wr)) (fun k _ _ _ _=>b-(intOf k).toNat)
 case atStart=>exact⟨0,by omega,by simp,HJ.e,Nat.le_refl _,HJ.d⟩
 case round=>
  obtain⟨i,hi,rfl,ad⟩:=hrel;have a2:=a6.out;by_cases hlt:i<n
  ·have cb:=HG.a wr Bb _ HG.d ad.out.1;have ca:=HG.a wr Ba _ HG.c ad.out.1;have ck:=HG.a wr Bk _ HG.e ad.out.1;have cm:=HG.a wr Bm _ HG.f ad.out.1;obtain⟨p,hp⟩:∃p,q[i]?=some p:=⟨q[i]'(by rw[HQ.b];exact hlt),af _⟩;have ar:=HG.b wr i p ad.out.1 hp;have ar:∀z:Int,z=((if back then b-1-i else a+i:Nat):Int)->CallsIn Fence.wide 5 prog 18 #[PV pm,.int .i64 z] wr _:=fun z hz=>by rw[hz];exact ar
   have a5:(q.take i).length=i:=by rw[am,HQ.b];omega
   have al:=ad.out.2.2;have bb:((a:Int)+i<(b:Int))=True:=eq_true (by omega);have bd:IntKind.i64.wrap ((a:Int)+i+1)=(a:Int)+i+1:=az _ (by omega);have bf:IntKind.i64.wrap ((a:Int)+b)=(a:Int)+b:=az _ (by omega);have bj:IntKind.i64.wrap ((a:Int)+b-1)=(a:Int)+b-1:=az _ (by omega);have bk:IntKind.i64.wrap ((a:Int)+b-1-((a:Int)+i))=(a:Int)+b-1-((a:Int)+i):=az _ (by omega);have HV:=If (HQ.a i p hp);obtain⟨p1,p2⟩:=p;simp only[eu] at ar;cases back with
   | true=>
    have a3:=ar ((a:Int)+b-1-((a:Int)+i)) (by simp only[if_true];omega);have HS:=kq3 a3 al a5;clear ar a3 al a5 hp a2;gi_wp2_with fail;refine HS.a.mono ?_;rintro e w2 ⟨rfl,ao⟩;have ai:=ao.alloc ao.size (.cells #[SV p1,SV p2] 34);have au:=HJ.a _ _ _ none HS.b (lf ai) (fun r e=>by cases e);obtain⟨fn,bc,a',ba,hy,an⟩:=HJ.c (q.take i) (p1,p2) _ au (by rw[HS.c,HQ.b];exact hlt);dsimp only[F4,eu] at hy
    have k3:FL w.heap.size bo w (w2.alloc (.cells #[SV p1,SV p2] 34)):=ad.out.1.trans (FL.below (ai.mono (aH HJ.f.size ad.out.2.1)));have s3:=ai.size;have H3:=kq2 k3 s3;clear ao ai au k3 s3;gi_wp2_with fail;refine an.mono ?_;rintro e w4 (⟨rfl,a0,ap⟩ | ⟨rfl,a1⟩)
    ·have H4:=kq3 (H3.a.trans ap) (aH H3.b ap.size) a0;clear a0 ap hy an;gi_wp2_with fail;go_roundw
     case rel=>exact⟨i+1,by omega,by simp;omega,H4.a,aH ad.out.2.1 H4.b,by rw[HV.out];exact H4.c⟩
     case measure=>have a2:=a6.out;simp[intOf];omega
    ·have H4:=If a1;clear a1 hy an;gi_wp2_with fail;refine bodyPost_ret (results_none rfl _ _ _) rfl ?_;exact⟨⟨_,rfl⟩,.inr ⟨_,⟨q.drop (i+1),by rw[<-HV.out];exact aN _ _⟩,H4.out⟩⟩
   | false=>
    have a3:=ar ((a:Int)+i) (by simp);have HS:=kq3 a3 al a5;clear ar a3 al a5 hp a2;gi_wp2_with fail;refine HS.a.mono ?_;rintro e w2 ⟨rfl,ao⟩;have ai:=ao.alloc ao.size (.cells #[SV p1,SV p2] 34);have au:=HJ.a _ _ _ none HS.b (lf ai) (fun r e=>by cases e);obtain⟨fn,bc,a',ba,hy,an⟩:=HJ.c (q.take i) (p1,p2) _ au (by rw[HS.c,HQ.b];exact hlt);dsimp only[F4,eu] at hy
    have k3:FL w.heap.size bo w (w2.alloc (.cells #[SV p1,SV p2] 34)):=ad.out.1.trans (FL.below (ai.mono (aH HJ.f.size ad.out.2.1)));have s3:=ai.size;have H3:=kq2 k3 s3;clear ao ai au k3 s3;gi_wp2_with fail;refine an.mono ?_;rintro e w4 (⟨rfl,a0,ap⟩ | ⟨rfl,a1⟩)
    ·have H4:=kq3 (H3.a.trans ap) (aH H3.b ap.size) a0;clear a0 ap hy an;gi_wp2_with fail;go_roundw
     case rel=>exact⟨i+1,by omega,by simp;omega,H4.a,aH ad.out.2.1 H4.b,by rw[HV.out];exact H4.c⟩
     case measure=>have a2:=a6.out;simp[intOf];omega
    ·have H4:=If a1;clear a1 hy an;gi_wp2_with fail;refine bodyPost_ret (results_none rfl _ _ _) rfl ?_;exact⟨⟨_,rfl⟩,.inr ⟨_,⟨q.drop (i+1),by rw[<-HV.out];exact aN _ _⟩,H4.out⟩⟩
  ·obtain rfl:i=n:=by omega
   have cb:=HG.a wr Bb _ HG.d ad.out.1;have bb:((a:Int)+i<(b:Int))=False:=eq_false (by omega);clear a2;gi_wp2
   go_end0
   have al:=ad.out.2.2;rw[aG (by rw[HQ.b];exact Nat.le_refl _)] at al;exact⟨⟨_,rfl⟩,.inl ⟨_,rfl,al⟩⟩
