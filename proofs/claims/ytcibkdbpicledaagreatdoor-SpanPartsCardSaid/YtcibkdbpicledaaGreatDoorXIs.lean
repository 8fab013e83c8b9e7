/- SpanTells: the walk. -/
import Derived.Test.YtcibkdbpicledaaGreatDoorXRh
set_option maxRecDepth 100000
set_option maxHeartbeats 12800000
namespace Go.Proofs.YtcibkdbpicledaaGreatDoor
open Go.RowKit Tryz Go.BigFrame Go.Maps Go.WideMaps Lf Tr
variable{S:St}{Y:Nat->Prop}{w:World}
theorem Gw{kind t:Int}(h:FO kind t=true):kind=1\/kind=2\/kind=3/\2<=t/\t<=16:=of_decide_eq_true h
theorem GI{pm px ps limit:Nat}(hM:Ic w pm px ps limit)(fr to:List UInt8)(op back:Bool)(most:Int)(hmost:most<0):
 Cb 61 #[PV pm,SV fr,SV to,.bool op,.bool back,.int .i64 most] w (.tuple #[.slice none 0 0,.int .i64 2]):=by
 have B0:=(aa w.heap.size w).alloc Ih (.cells #[.int .i64 most] 3);have q0:=heap_alloc_new w (.cells #[.int .i64 most] 3);have c0:(w.alloc (.cells #[.int .i64 most] 3)).cell? ⟨w.heap.size,0,none⟩=some (.int .i64 most):=by rw[Fs q0];rfl
 have HG:=kq2 (Gh (hM.below B0)) B0;have hm:=eq_true hmost;clear hM B0 q0 hmost;go_enter func61,ntmps61;go_wp2_with fail;refine HG.a.mono ?_;rintro e w1 ⟨rfl,rfl⟩;go_wp2_with fail;go_ret2;exact⟨rfl,HG.b⟩
def FU(most:Int)(q:List Pr):List Pr:=if most<0 then[] else q.take most.toNat
def FZ(most:Int):Int:=if most<0 then 2 else 0
theorem qIsaa{P:Prop}(h:P:=by
 go_wp2_with fail;refine HG.out.mono ?_;rintro e w1 ⟨rfl,hb⟩;have HB:=If hb;clear hb;go_wp2_with fail;go_ret2;exact⟨_,rfl,World.ownsRow_nil _ _ _ _,HB.out⟩):P:=h
theorem Hn{P:List (List UInt8×List UInt8)->Prop}{K:jo}(ok:gB K P){w0 w:World}{ps pm px limit root:Nat}{L:List (List UInt8×List UInt8)}(h:fi K w0 w ps pm px limit root S Y L)(hc:L.length<98)(fr to:List UInt8)(op:Bool)(most:Int)(hmost:most<2^63){q:List Pr}(hq:FM L (FI L fr to op).1 (FI L fr to op).2 false=q):
 Ct 30 #[PV pm,SV fr,SV to,.bool op,.int .i64 most] w fun e w'=>∃v,e=.returned (.tuple #[v,.int .i64 (FZ most)])/\w'.ownsRow w.heap.size 34 2 v (FU most q).length (FJ (FU most q))/\Below w.heap.size w w':=by
 unfold FU FZ
 by_cases hm:most<0
 ·rw[if_pos hm,if_pos hm];have HG:=If (GI h.map fr to op false most hm);clear h hq hm hc;go_enter func30,ntmps30;exact qIsaa
 ·obtain⟨n,rfl⟩:∃n:Nat,most=n:=⟨most.toNat,by omega⟩;rw[if_neg hm,if_neg hm,cf];exact FY ok h hc fr to op n (by omega) (by rw[hq])
theorem GQ{P:List (List UInt8×List UInt8)->Prop}{K:jo}(ok:gB K P){w0 w:World}{ps pm px limit root:Nat}{L:List (List UInt8×List UInt8)}(h:fi K w0 w ps pm px limit root S Y L)(hc:L.length<98)(fr to:List UInt8)(op:Bool)(most:Int)(hmost:most<2^63){q:List Pr}(hq:FM L (FI L fr to op).1 (FI L fr to op).2 true=q):
 Ct 31 #[PV pm,SV fr,SV to,.bool op,.int .i64 most] w fun e w'=>∃v,e=.returned (.tuple #[v,.int .i64 (FZ most)])/\w'.ownsRow w.heap.size 34 2 v (FU most q).length (FJ (FU most q))/\Below w.heap.size w w':=by
 unfold FU FZ
 by_cases hm:most<0
 ·rw[if_pos hm,if_pos hm];have HG:=If (GI h.map fr to op true most hm);clear h hq hm hc;go_enter func31,ntmps31;exact qIsaa
 ·obtain⟨n,rfl⟩:∃n:Nat,most=n:=⟨most.toNat,by omega⟩;rw[if_neg hm,if_neg hm,cf];exact F3 ok h hc fr to op n (by omega) (by rw[hq])
theorem G7{fr to:List UInt8}(h:FR fr to=false):fr.length<=2000/\to.length<=2000:=by
 unfold FR at h
 simp at h
 omega
theorem spanTells_walk(kind t:Int){v:Value}{l:List Pr}(fr to:List UInt8)(op:Bool)(most:Int)(ht:gA w)(hv:jj w v l)(hwf:(Lit.int .i64 most).wf=true):
 Cb 6 #[.int .i64 kind,.int .i64 t,v,.agg #[SV fr,SV to,.bool op,.int .i64 most]] w (.bool true):=by
 have bo:most<2^63:=by
  simp[Lit.wf,IntKind.min,IntKind.max,IntKind.signed,IntKind.bits] at hwf
  omega
 clear hwf;have a4:=fun W (hW:Below w.heap.size w W)=>Ga (ht.of_block (hW.block _ ht.lt));have B0:=(aa w.heap.size w).alloc Ih (.cells #[SV fr,SV to,.bool op,.int .i64 most] 53);have q0:=heap_alloc_new w (.cells #[SV fr,SV to,.bool op,.int .i64 most] 53);have z0:w.heap.size<(w.alloc (.cells #[SV fr,SV to,.bool op,.int .i64 most] 53)).heap.size:=by simp
 have t0:=ht.of_block (B0.block _ ht.lt);have v0:=hv.below B0
 by_cases hok:FO kind t=true/\l.length<=60/\jb l=false
 ·obtain⟨K,hK⟩:=BU uS kind t (Gw hok.1);have a3:=F5 hK hok.1 t0 v0 hok.2.1 hok.2.2 (fun _ _=>trivial);have b8:=fun W (hW:Below w.heap.size w W)=>Hv (hv.below hW) (by have:=hok.2.1;omega) (Cl hok.2.2);have bm:=wt l;have a':=GF l;have b':=hok.2.1;have ai:=If hK.ok;have HG:=kq6 a4 a3 B0 q0 z0 b8;clear a4 a3 B0 q0 z0 t0 v0 hK hok ht hv b8;go_enter func6,ntmps6;go_wp2_with fail;generalize w.alloc (.cells #[SV fr,SV to,.bool op,.int .i64 most] 53)=W0 at*;refine HG.b.mono ?_;rintro e w1 ⟨ps,pm,px,root,S,Y,rfl,hM,-⟩;have bc:=If HG.f;obtain⟨L,hL⟩:=Ii (im l);rw[hL] at hM bm a' bc;have hc:L.length<98:=by omega
  have k1:=(hM.bl.block _ HG.e).trans HG.d;have ao:=Gf fr to op most w1;have H1:=kq4 hM k1 (HG.c.trans (hM.bl.mono HG.c.size)) ao;obtain⟨x0,x1,x2,x3⟩:=Fy k1;clear hM k1 ao hL;go_wp2_with fail;refine H1.d.mono ?_;rintro e w2 ⟨rfl,al⟩;have H2:=kq2 (H1.a.below ai.out al) (H1.c.trans (al.mono H1.c.size));have k2:=(al.block _ (aW HG.e H1.a.bl.size)).trans H1.b;have bb:=If k2;clear al x0 x1 x2 x3 k2;obtain⟨lr,ao⟩:=Ii (FR fr to);rw[ao]
  cases lr with
  | true=>
   clear ao;go_wp2_with fail;refine(HG.a _ H2.b).mono ?_;rintro e w3 ⟨rfl,an⟩;have H3:=If (H2.b.trans (an.mono H2.b.size));clear an;go_wp2_with fail;go_ret;exact⟨rfl,H3.out⟩
  | false=>
   obtain⟨hf,cd⟩:=G7 ao;obtain⟨Q,hQ⟩:=Ii (FM L (FI L fr to op).1 (FI L fr to op).2 false);have bd:FM L (FI L fr to op).1 (FI L fr to op).2 true=Q.reverse:=by rw[<-hQ];rfl
   have a6:FP L fr to op=Q:=by rw[GO a'];exact hQ
   have cb:Q.length=(FI L fr to op).2-(FI L fr to op).1:=by rw[<-hQ];exact F1 (FX L fr to op).2
   have ca:Q.length<=60:=by have:=(FX L fr to op).2;omega
   have b2:=fun {W:World} (hM:fi K W0 W ps pm px 1000 root S Y L)=>Hn ai.out hM hc fr to op most bo hQ;have bk:=fun {W:World} (hM:fi K W0 W ps pm px 1000 root S Y L)=>GQ ai.out hM hc fr to op most bo bd;have a9:=fun {W:World} (hM:fi K W0 W ps pm px 1000 root S Y L)=>Gc ai.out hM hc fr to op;rw[<-cb] at a9;have a7:=fun {W:World} {u:Value} (hu:jj W u L)=>GG hu (by omega) fr to op (by omega) (by omega);rw[a6] at a7;have b4:=fun {W:World} {u:Value} (hu:jj W u L) (back:Bool) (n:Nat)=>Hm hu (by omega) fr to op back n (by omega) (by omega) a6;have HH:=kq6 (@b2) (@bk) (@a9) (@a7) (@b4) ca;clear ao hf cd hQ bd a6 b2 bk a9 a7 b4 bm a' b' hc;go_wp2_with fail;refine(bc.out _ H2.b).mono ?_;rintro e w3 ⟨v3,rfl,bt,an⟩;have k3:=(an.block _ (gl bb.out)).trans bb.out;have M3:=H2.a.below ai.out an;have HS:=If (HH.a M3);have H3:=kq4 M3 k3 (H2.b.trans (an.mono H2.b.size)) (jj.of_owns bt);obtain⟨x0,x1,x2,x3⟩:=Fy k3;clear an k3 M3 bt;go_wp2_with fail;refine HS.out.mono ?_;rintro e w4 ⟨v4,rfl,bu,a1⟩;have k4:=(a1.block _ (gl H3.b)).trans H3.b;have M4:=H3.a.below ai.out a1;have HS:=If (HH.b M4);have H4:=kq5 M4 k4 (H3.c.trans (a1.mono H3.c.size)) (H3.d.below a1) (jj.of_owns bu);clear x0 x1 x2 x3;obtain⟨x0,x1,x2,x3⟩:=Fy k4;clear a1 k4 M4 bu;go_wp2_with fail;refine HS.out.mono ?_;rintro e w5 ⟨v5,rfl,bv,ar⟩;have k5:=(ar.block _ (gl H4.b)).trans H4.b;have M5:=H4.a.below ai.out ar;have HS:=If (HH.c M5);have H5:=kq6 M5 k5 (H4.c.trans (ar.mono H4.c.size)) (H4.d.below ar) (H4.e.below ar) (jj.of_owns bv);clear x0 x1 x2 x3;obtain⟨x0,x1,x2,x3⟩:=Fy k5;clear ar k5 M5 bv;go_wp2_with fail;refine HS.out.mono ?_;rintro e w6 ⟨rfl,au⟩;have k6:=(au.block _ (gl H5.b)).trans H5.b;have P6:=H5.d.below au;have HS:=If (HH.d P6);have H6:=kq5 k6 (H5.c.trans (au.mono H5.c.size)) P6 (H5.e.below au) (H5.f.below au);clear x0 x1 x2 x3;obtain⟨x0,x1,x2,x3⟩:=Fy k6;clear au k6 P6;go_wp2_with fail;refine HS.out.mono ?_;rintro e w7 ⟨v7,rfl,b0,a0⟩;obtain⟨A7,c7,rfl,-⟩:=jj.of_owns b0;have k7:=(a0.block _ (gl H6.a)).trans H6.a;have P7:=H6.c.below a0;have H7:=kq5 k7 (H6.b.trans (a0.mono H6.b.size)) P7 (H6.d.below a0) (H6.e.below a0);clear x0 x1 x2 x3;obtain⟨x0,x1,x2,x3⟩:=Fy k7;clear a0 k7 P7 b0
   by_cases hm:most<0
   ·have h4:=H7.d;have h5:=H7.e;unfold FU at h4 h5;rw[if_pos hm] at h4 h5;obtain⟨A4,c4,rfl,-⟩:=h4;obtain⟨A5,c5,rfl,-⟩:=h5;have he:FZ most=2:=if_pos hm;rw[he];have cc:=eq_true hm;clear hm he;go_wp2_with fail;refine(HG.a _ H7.b).mono ?_;rintro e w8 ⟨rfl,ad⟩;have H8:=If (H7.b.trans (ad.mono H7.b.size));clear ad;go_wp2_with fail;go_ret;exact⟨rfl,H8.out⟩
   ·obtain⟨n,rfl⟩:∃n:Nat,most=n:=⟨most.toNat,by omega⟩;have h4:=H7.d;have h5:=H7.e;unfold FU at h4 h5;rw[if_neg hm,cf] at h4 h5;have he:FZ n=0:=if_neg hm;rw[he];have cc:=eq_false hm;have HS:=If (HH.e H7.c false n);have HP:=kq2 h4 h5;clear hm he h4 h5;go_wp2_with fail;refine HS.out.mono ?_;rintro e w8 ⟨v8,rfl,b1,ad⟩;have k8:=(ad.block _ (gl H7.a)).trans H7.a;have ap:=F0 (HP.a.below ad) (jj.of_owns b1) (by rw[am];have:=HH.f;omega) (by rw[am];have:=HH.f;simp;omega);rw[if_neg (by simp),show FQ (Q.take n) (Q.take n)=true from decide_eq_true rfl] at ap;have H8:=kq4 k8 (H7.b.trans (ad.mono H7.b.size)) (H7.c.below ad) (HP.b.below ad);have HS:=If ap;clear ad k8 b1 ap x0 x1 x2 x3;go_wp2_with fail;refine HS.out.mono ?_;rintro e w9 ⟨rfl,a2⟩;have k9:=(a2.block _ (gl H8.a)).trans H8.a;have P9:=H8.c.below a2;have HS:=If (HH.e P9 true n);have H9:=kq2 (H8.b.trans (a2.mono H8.b.size)) (H8.d.below a2);obtain⟨x0,x1,x2,x3⟩:=Fy k9;clear a2 k9 P9;go_wp2_with fail;refine HS.out.mono ?_;rintro e cj ⟨ch,rfl,bs,a8⟩;have ap:=F0 (H9.b.below a8) (jj.of_owns bs) (by rw[am];have:=HH.f;simp;omega) (by rw[am];have:=HH.f;simp;omega);rw[if_pos trivial,show FQ (Q.reverse.take n) (Q.reverse.take n)=true from decide_eq_true rfl] at ap;have ba:=If (H9.a.trans (a8.mono H9.a.size));have HS:=If ap;clear a8 bs ap x0 x1 x2 x3;go_wp2_with fail;refine HS.out.mono ?_;rintro e ck ⟨rfl,bf⟩;have a5:=If (ba.out.trans (bf.mono ba.out.size));clear bf;go_wp2_with fail;refine(HG.a _ a5.out).mono ?_;rintro e cl ⟨rfl,bj⟩;have b9:=If (a5.out.trans (bj.mono a5.out.size));clear bj;go_wp2_with fail;go_ret;exact⟨rfl,b9.out⟩
 ·have a3:=Gg v0 hok;have HG:=kq3 (a4 _ B0) a3 B0;clear a4 a3 B0 q0 z0 t0 v0 hok ht hv;go_enter func6,ntmps6;go_wp2_with fail;refine HG.b.mono ?_;rintro e w1 ⟨rfl,rfl⟩;go_wp2_with fail;refine HG.a.mono ?_;rintro e w2 ⟨rfl,al⟩;have H2:=If (HG.c.trans (al.mono HG.c.size));clear al;go_wp2_with fail;go_ret;exact⟨rfl,H2.out⟩