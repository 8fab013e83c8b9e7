/- SpanMost: the walk. -/
import Derived.Test.YtcibkdbpicledaaGreatDoorXIm
set_option maxRecDepth 100000
set_option maxHeartbeats 12800000
namespace Go.Proofs.YtcibkdbpicledaaGreatDoor
open Go.RowKit Tryz Go.BigFrame Go.Maps Go.WideMaps Lf Tr
variable{v:Value}{w:World}
theorem jj.of_owns2{B:Nat}{l:List Pr}(h:w.ownsRow B 34 2 v l.length (FJ l)):∃A c,v=.slice A l.length c/\l.length<=c/\((A=none/\l=[]/\c=0)\/∃g,A=some ⟨g,0,none⟩)/\jj w v l:=by
 have hp:=jj.of_owns h
 rcases h.2 with⟨rfl,hx⟩ | ⟨g,ad,ai,hv,hb,hg,h1,h2,h3,h4⟩
 ·obtain rfl:=bS.1 hx;exact⟨none,0,rfl,Nat.le_refl _,ab ⟨rfl,rfl,rfl⟩,hp⟩
 ·exact⟨_,ad,hv,h1,ae ⟨g,rfl⟩,hp⟩
theorem Gq(L:List Pr):eK L []=0:=by
 unfold eK;refine cP.2 fun p _=>?_;cases p.1<;>simp[Fu]
theorem GZ{kind t:Int}(h:FO kind t=true):kind=1\/kind=2\/kind=3/\2<=t/\t<=16:=of_decide_eq_true h
theorem qInab{P:Prop}(h:P:=by
 go_wp2_with fail;refine(HG.a _ H2.c).mono ?_;rintro e w3 ⟨rfl,ad⟩;have H3:=If (H2.c.trans (ad.mono H2.c.size));clear ad;go_wp2_with fail;go_ret;exact⟨rfl,H3.out⟩):P:=h
theorem qInaa{P:Prop}(h:P:=by
 clear hz bk bm bc bj bs;go_wp2_with fail;refine HM.a.mono ?_;rintro e w7 ⟨rfl,an⟩;have M7:=H6.a.below ai.out an;have H7:=kq2 (HM.b M7) (H6.b.trans (an.mono H6.b.size));clear an M7;go_wp2_with fail;refine H7.a.mono ?_;rintro e w8 ⟨rfl,a4⟩;have H8:=If (H7.b.trans (a4.mono H7.b.size));clear a4;go_wp2_with fail;refine(HG.a _ H8.out).mono ?_;rintro e w9 ⟨rfl,a5⟩;have H9:=If (H8.out.trans (a5.mono H8.out.size));clear a5;go_wp2_with fail;go_ret;exact⟨rfl,H9.out⟩):P:=h
theorem spanMost_walk(kind t:Int){l:List Pr}(fr to:List UInt8)(op:Bool)(most a b:Int)(ht:gA w)(hv:jj w v l)(hwf:(Lit.int .i64 b).wf=true):
 Cb 8 #[.int .i64 kind,.int .i64 t,v,.agg #[SV fr,SV to,.bool op,.int .i64 most],.int .i64 a,.int .i64 b] w (.bool true):=by
 have hb:b<2^63:=by
  simp[Lit.wf,IntKind.min,IntKind.max,IntKind.signed,IntKind.bits] at hwf
  omega
 clear hwf;have a':=fun W (hW:Below w.heap.size w W)=>Ga (ht.of_block (hW.block _ ht.lt));have B0:=(aa w.heap.size w).alloc Ih (.cells #[SV fr,SV to,.bool op,.int .i64 most] 53);have q0:=heap_alloc_new w (.cells #[SV fr,SV to,.bool op,.int .i64 most] 53);have z0:w.heap.size<(w.alloc (.cells #[SV fr,SV to,.bool op,.int .i64 most] 53)).heap.size:=by simp
 have t0:=ht.of_block (B0.block _ ht.lt);have v0:=hv.below B0
 by_cases hok:FO kind t=true/\l.length<=60/\jb l=false
 ·obtain⟨K,hK⟩:=BU uS kind t (GZ hok.1);have a8:=F5 hK hok.1 t0 v0 hok.2.1 hok.2.2 (fun _ _=>trivial);have bd:=wt l;have cb:=hok.2.1;have ai:=If hK.ok;have HG:=kq5 a' a8 B0 q0 z0;clear a' a8 B0 q0 z0 t0 v0 hK hok ht hv;go_enter func8,ntmps8;go_wp2_with fail;generalize w.alloc (.cells #[SV fr,SV to,.bool op,.int .i64 most] 53)=W0 at*;refine HG.b.mono ?_;rintro e w1 ⟨ps,pm,px,root,S,Y,rfl,hM,-⟩;obtain⟨L,hL⟩:=Ii (im l);rw[hL] at hM bd;have hc:L.length<98:=by omega
  have k1:=(hM.bl.block _ HG.e).trans HG.d;have a7:=Gf fr to op most w1;have H1:=kq4 hM k1 (HG.c.trans (hM.bl.mono HG.c.size)) a7;obtain⟨x0,x1,x2,x3⟩:=Fy k1;clear hM k1 a7 hL;go_wp2_with fail;refine H1.d.mono ?_;rintro e w2 ⟨rfl,al⟩;have k2:=(al.block _ (aW HG.e H1.a.bl.size)).trans H1.b;have H2:=kq3 (H1.a.below ai.out al) k2 (H1.c.trans (al.mono H1.c.size));clear al k2 x0 x1 x2 x3;obtain⟨lr,a7⟩:=Ii (FR fr to);rw[a7];clear a7
  cases lr with
  | true=>
   exact qInab
  | false=>
   by_cases ha:a<0
   ·have b9:(a<0)=True:=eq_true ha;clear ha;exact qInab
   have b9:(a<0)=False:=eq_false ha
   by_cases hba:b<a
   ·have ca:(b<a)=True:=eq_true hba;clear ha hba;exact qInab
   have ca:(b<a)=False:=eq_false hba;obtain⟨a,rfl⟩:∃n:Nat,a=n:=⟨a.toNat,by omega⟩;obtain⟨b,rfl⟩:∃n:Nat,b=n:=⟨b.toNat,by omega⟩;obtain⟨Q,hQ⟩:=Ii (FM L (FI L fr to op).1 (FI L fr to op).2 false);have cd:Q.length<=60:=by
    have h1:=FX L fr to op;rw[<-hQ,F1 h1.2];omega
   have b1:=FY ai.out H2.a hc fr to op a (by omega) (q:=Q.take a) (by rw[hQ]);have a9:=fun {W:World} (hM:fi K W0 W ps pm px 1000 root S Y L)=>FY ai.out hM hc fr to op b (by omega) (q:=Q.take b) (by rw[hQ]);have hR:(FM L (FI L [] [] true).1 (FI L [] [] true).2 true).take 1000=L.reverse:=by
    unfold FI FM;simp only[Gq,if_true,Nat.zero_max,dl,ci];exact aG (by rw[cR];omega)
   have a1:=fun {W:World} (hM:fi K W0 W ps pm px 1000 root S Y L)=>F3 ai.out hM hc [] [] true 1000 (by omega) hR;have ao:=fun {W:World} (hM:fi K W0 W ps pm px 1000 root S Y L)=>Gc ai.out hM hc [] [] true;rw[show ((FI L [] [] true).2-(FI L [] [] true).1:Nat)=L.length by unfold FI;simp[Gq]] at ao;have a6:=fun {W:World} (hM:fi K W0 W ps pm px 1000 root S Y L)=>hM.len ai.out hc;obtain⟨N,hN⟩:=Ii L.length;have b0:L.reverse.length=N:=by rw[cR];exact hN
   have cc:N<=97:=by rw[<-hN];omega
   rw[hN] at ao a6;have HH:=kq4 (@a9) (@a1) (@ao) (@a6);have k2:=H2.b;have b':a<=b:=by omega
   have HS:=If b1;obtain⟨x0,x1,x2,x3⟩:=Fy k2;clear b1 a9 a1 ao a6 hR hQ k2 ha hba hN bd;go_wp2_with fail;refine HS.out.mono ?_;rintro e w3 ⟨v1,rfl,bt,ad⟩;have M3:=H2.a.below ai.out ad;have k3:=(ad.block _ (aW HG.e H2.a.bl.size)).trans H2.b;have a9:=HH.a M3;have H3:=kq5 M3 k3 (H2.c.trans (ad.mono H2.c.size)) (jj.of_owns bt) a9;clear x0 x1 x2 x3;obtain⟨x0,x1,x2,x3⟩:=Fy k3;clear bt ad M3 k3 a9;go_wp2_with fail;refine H3.e.mono ?_;rintro e w4 ⟨v2,rfl,bu,ba⟩;obtain⟨A2,c2,rfl,au,a0,bf⟩:=jj.of_owns2 bu;have M4:=H3.a.below ai.out ba;have P3:=H3.d.below ba;have a1:=HH.b M4;have H4:=kq7 M4 (H3.c.trans (ba.mono H3.c.size)) P3 bf a1 a0 au;clear x0 x1 x2 x3 bu ba M4 P3 a1 bf a0 au;go_wp2_with fail;refine H4.e.mono ?_;rintro e w5 ⟨v3,rfl,bv,a2⟩;obtain⟨A3,c3,rfl,-⟩:=jj.of_owns bv;have M5:=H4.a.below ai.out a2;have ao:=HH.c M5;have H5:=kq5 M5 (H4.b.trans (a2.mono H4.b.size)) (H4.c.below a2) (H4.d.below a2) ao;rw[b0];clear bv a2 M5 ao b0;go_wp2_with fail;refine H5.e.mono ?_;rintro e w6 ⟨rfl,a3⟩;have M6:=H5.a.below ai.out a3;have a6:=HH.d M6;have H6:=kq4 M6 (H5.b.trans (a3.mono H5.b.size)) (H5.c.below a3) (H5.d.below a3);clear a3 M6 a6;obtain⟨A1,c1,rfl,b4⟩:=H3.d;clear b4;obtain⟨pl,ap⟩:=Ii (Q.take a).length;obtain⟨ql,ar⟩:=Ii (Q.take b).length;have bo:(Q.take b).take pl=Q.take a:=by
    rw[<-ap,am,List.take_take]
    by_cases h:a<=Q.length
    ·rw[cu h,cu b']
    ·rw[Nat.min_eq_right (show Q.length<=a by omega),cu (show Q.length<=b by omega),dl,aG (show Q.length<=a by omega)]
   have bk:pl<=a:=by rw[<-ap,am];omega
   have bm:pl<=ql:=by rw[<-ap,<-ar,am,am];omega
   have bc:pl<a->pl=ql:=by rw[<-ap,<-ar,am,am];omega
   have bj:pl<=60:=by rw[<-ap,am];omega
   have bs:ql<=60:=by rw[<-ar,am];omega
   have au:=H4.g;have a0:=H4.f;rw[ar] at au;have e1:((a:Int)<(pl:Int))=False:=eq_false (by omega);have e2:((ql:Int)<(pl:Int))=False:=eq_false (by omega);have b2:jj w6 (.slice A2 pl c2) (Q.take a):=by rw[<-bo];exact jj.first H6.d pl (by omega) c2
   have bb:=F0 H6.c b2 (by omega) (by omega);rw[show FQ (Q.take a) (Q.take a)=true from decide_eq_true rfl] at bb;rw[ap] at bb⊢;rw[show min b Q.length=ql by rw[<-ar,am,Nat.min_comm]];have b8:(A2=none/\ql=0/\c2=0)\/∃g,A2=some ⟨g,0,none⟩:=by
    rcases a0 with⟨h1,h2,h3⟩ | h
    ·exact ab ⟨h1,by rw[<-ar,h2];rfl,h3⟩
    ·exact ae h
   have HM:=kq2 bb (fun {W:World} (hM:fi K W0 W ps pm px 1000 root S Y L)=>HH.d hM);have HC:=If au;clear b2 bb ap ar bo a0 au;have hN:N<=9223372036854775807:=by omega
   rcases b8 with⟨rfl,-,-⟩ | ⟨g,rfl⟩
   all_goals
    have ch:(pl:Int)<=(c2:Int):=by have:=HC.out;omega
    have h0:(0:Int)<=(pl:Int):=by omega
    by_cases hz:(pl:Int)<(a:Int)
    ·have e3:((pl:Int)<(a:Int))=True:=eq_true hz;obtain rfl:pl=ql:=bc (by omega);exact qInaa
    ·have e3:((pl:Int)<(a:Int))=False:=eq_false hz;exact qInaa
 ·have a8:=Gg v0 hok;have HG:=kq3 (a' _ B0) a8 B0;clear a' a8 B0 q0 z0 t0 v0 hok ht hv;go_enter func8,ntmps8;go_wp2_with fail;refine HG.b.mono ?_;rintro e w1 ⟨rfl,rfl⟩;go_wp2_with fail;refine HG.a.mono ?_;rintro e w2 ⟨rfl,al⟩;have H2:=If (HG.c.trans (al.mono HG.c.size));clear al;go_wp2_with fail;go_ret;exact⟨rfl,H2.out⟩