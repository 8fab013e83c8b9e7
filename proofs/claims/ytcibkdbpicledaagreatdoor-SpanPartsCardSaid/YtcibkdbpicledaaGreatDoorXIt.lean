/- SpanParts: plain laws and the walk. -/
import Derived.Test.YtcibkdbpicledaaGreatDoorXIs
set_option maxRecDepth 100000
set_option maxHeartbeats 12800000
namespace Go.Proofs.YtcibkdbpicledaaGreatDoor
open Go.RowKit Tryz Go.BigFrame Go.Maps Go.WideMaps Lf Tr
theorem Gp(L:List Pr){a b:List UInt8}(h:¬Fu b a<0):eK L a<=eK L b:=by
 unfold eK;refine List.countP_mono_left fun p _ hp=>?_;simp only[decide_eq_true_eq] at hp⊢
 rcases cN (Fu a b) 0 with g | g | g
 ·exact ig hp g
 ·rw[<-jL g];exact hp
 ·exact absurd (by rw[ie];omega) h
theorem Hi(L:List Pr){fr to cut:List UInt8}{op:Bool}(h1:¬Fu cut fr<0)(h2:op=false->¬Fu to cut<0):
 FM L (FI L fr to op).1 (FI L fr to op).2 false=FM L (FI L fr cut false).1 (FI L fr cut false).2 false++FM L (FI L cut to op).1 (FI L cut to op).2 false:=by
 have a1:=Gp L h1;have a2:=nZ L cut;unfold FM FI;simp only[bC,if_false];rw[Nat.max_eq_right a1];have a3:eK L cut<=(if op=true then L.length else eK L to):=by
  cases op with
  | true=>exact a2
  | false=>exact Gp L (h2 rfl)
 generalize (if op=true then L.length else eK L to)=e at a3⊢;rw[Nat.max_eq_right a3,Nat.max_eq_right (aH a1 a3)]
 conv=>lhs;rw[show L.take e=L.take (eK L cut)++(L.take e).drop (eK L cut) by
  conv=>lhs;rw[<-aN (eK L cut) (L.take e),List.take_take,cu a3]]
 rw[List.drop_append_of_le_length (by rw[am];omega)]
theorem spanParts_walk(kind t:Int){v:Value}{l:List Pr}(fr to:List UInt8)(op:Bool)(most:Int)(cut:List UInt8){w:World}(ht:gA w)(hv:jj w v l):
 Cb 7 #[.int .i64 kind,.int .i64 t,v,.agg #[SV fr,SV to,.bool op,.int .i64 most],SV cut] w (.bool true):=by
 have a1:=fun W (hW:Below w.heap.size w W)=>Ga (ht.of_block (hW.block _ ht.lt));have B0:=(aa w.heap.size w).alloc Ih (.cells #[SV fr,SV to,.bool op,.int .i64 most] 53);have q0:=heap_alloc_new w (.cells #[SV fr,SV to,.bool op,.int .i64 most] 53);have z0:w.heap.size<(w.alloc (.cells #[SV fr,SV to,.bool op,.int .i64 most] 53)).heap.size:=by simp
 have t0:=ht.of_block (B0.block _ ht.lt);have v0:=hv.below B0
 by_cases hok:FO kind t=true/\l.length<=60/\jb l=false
 ·obtain⟨K,hK⟩:=BU uS kind t (Gw hok.1);have a0:=F5 hK hok.1 t0 v0 hok.2.1 hok.2.2 (fun _ _=>trivial);have a8:=wt l;have ba:=hok.2.1;have ad:=If hK.ok;have HG:=kq5 a1 a0 B0 q0 z0;clear a1 a0 B0 q0 z0 t0 v0 hK hok ht hv;go_enter func7,ntmps7;go_wp2_with fail;generalize w.alloc (.cells #[SV fr,SV to,.bool op,.int .i64 most] 53)=W0 at*;refine HG.b.mono ?_;rintro e w1 ⟨ps,pm,px,root,S,Y,rfl,hM,-⟩;obtain⟨L,hL⟩:=Ii (im l);rw[hL] at hM a8;have hc:L.length<98:=by omega
  have k1:=(hM.bl.block _ HG.e).trans HG.d;have ao:=Gf fr to op most w1;have H1:=kq4 hM k1 (HG.c.trans (hM.bl.mono HG.c.size)) ao;obtain⟨x0,x1,x2,x3⟩:=Fy k1;clear hM k1 ao hL;go_wp2_with fail;refine H1.d.mono ?_;rintro e w2 ⟨rfl,ai⟩;have H2:=kq2 (H1.a.below ad.out ai) (H1.c.trans (ai.mono H1.c.size));have k2:=(ai.block _ (aW HG.e H1.a.bl.size)).trans H1.b;have a':=If k2;clear ai x0 x1 x2 x3;obtain⟨x0,x1,x2,x3⟩:=Fy k2;clear k2;obtain⟨lr,ao⟩:=Ii (FR fr to);rw[ao];have e1:=qe cut fr;have e2:=Ey cut to
  by_cases hg:lr=true\/2000<cut.length\/Fu cut fr<0\/op=false/\0<Fu cut to
  ·have b9:(lr=true)\/(lr=false/\(2000<(cut.length:Int))=True)\/(lr=false/\(2000<(cut.length:Int))=False/\Fu cut fr<0)\/(lr=false/\(2000<(cut.length:Int))=False/\¬Fu cut fr<0/\op=false/\0<Fu cut to):=by
    cases lr with
    | true=>exact ab rfl
    | false=>
     refine ae ?_
     by_cases h1:2000<cut.length
     ·exact ab ⟨rfl,eq_true (by omega)⟩
     ·by_cases h2:Fu cut fr<0
      ·exact ae (ab ⟨rfl,eq_false (by omega),h2⟩)
      ·exact ae (ae ⟨rfl,eq_false (by omega),h2,by simpa[h1,h2] using hg⟩)
   clear hg ao a8 ba hc
   rcases b9 with rfl | ⟨rfl,g1⟩ | ⟨rfl,g1,g2⟩ | ⟨rfl,g1,g2,rfl,g3⟩
   case' inl=>skip
   case' inr.inr.inl=>rw[decide_eq_true g2] at e1
   case' inr.inr.inr=>rw[decide_eq_false g2] at e1;rw[decide_eq_true g3] at e2
   all_goals
    go_wp2_with fail;refine(HG.a _ H2.b).mono ?_;rintro e w3 ⟨rfl,bf⟩;have H3:=If (H2.b.trans (bf.mono H2.b.size));clear bf;go_wp2_with fail;go_ret;exact⟨rfl,H3.out⟩
  ·have ca:lr=false:=by
    cases lr with
    | true=>exact absurd (ab rfl) hg
    | false=>rfl
   subst ca;have g1:(2000<(cut.length:Int))=False:=eq_false fun h=>hg (ae (ab (by omega)));have g2:¬Fu cut fr<0:=fun h=>hg (ae (ae (ab h)));have g3:op=false->¬0<Fu cut to:=fun h1 h2=>hg (ae (ae (ae ⟨h1,h2⟩)));obtain⟨Qa,ar⟩:∃Q,FM L (FI L fr to op).1 (FI L fr to op).2 false=Q:=⟨_,rfl⟩;obtain⟨Qb,a6⟩:∃Q,FM L (FI L fr cut false).1 (FI L fr cut false).2 false=Q:=⟨_,rfl⟩;obtain⟨Qc,a7⟩:∃Q,FM L (FI L cut to op).1 (FI L cut to op).2 false=Q:=⟨_,rfl⟩;have a3:=Hi (to:=to) (op:=op) L g2 (fun h=>by have q:=ie cut to;have:=g3 h;omega);rw[ar,a6,a7] at a3;have b':Qa.length<=60:=by rw[<-ar,F1 (FX L fr to op).2];have:=(FX L fr to op).2;omega
   have bm:Qb.length+Qc.length=Qa.length:=by rw[a3,aE]
   have ap:=fun {W:World} (hM:fi K W0 W ps pm px 1000 root S Y L)=>FY ad.out hM hc fr to op 100 (by omega) (q:=Qa) (by rw[ar];exact aG (by omega));have b1:=fun {W:World} (hM:fi K W0 W ps pm px 1000 root S Y L)=>FY ad.out hM hc fr cut false 100 (by omega) (q:=Qb) (by rw[a6];exact aG (by omega));have b2:=fun {W:World} (hM:fi K W0 W ps pm px 1000 root S Y L)=>FY ad.out hM hc cut to op 100 (by omega) (q:=Qc) (by rw[a7];exact aG (by omega));have b4:=fun {W:World} (hM:fi K W0 W ps pm px 1000 root S Y L)=>F3 ad.out hM hc fr to op 100 (by omega) (q:=Qa.reverse) (by rw[show FM L (FI L fr to op).1 (FI L fr to op).2 true=Qa.reverse by rw[<-ar];rfl];exact aG (by rw[cR];omega));obtain⟨n,hn⟩:=Ii Qa.length;have HH:=kq6 (@b1) (@b2) (@b4) a3 hn bm;have HS:=If (ap H2.a);rw[decide_eq_false g2] at e1;rw[hn] at b';clear ao ar a6 a7 ap b1 b2 b4 bm hn a3 a8 ba hc hg g2
   cases op
   case' false=>rw[decide_eq_false (g3 rfl)] at e2
   all_goals
    clear g3;go_wp2_with fail;refine HS.out.mono ?_;rintro e w4 ⟨v4,rfl,bs,a2⟩;have k4:=(a2.block _ (gl a'.out)).trans a'.out;have M4:=H2.a.below ad.out a2;have HS:=If (HH.a M4);have H4:=kq4 M4 k4 (H2.b.trans (a2.mono H2.b.size)) (jj.of_owns bs);clear x0 x1 x2 x3 e1 e2 g1;obtain⟨x0,x1,x2,x3⟩:=Fy k4;clear a2 k4 M4 bs;go_wp2_with fail;refine HS.out.mono ?_;rintro e w5 ⟨v5,rfl,bt,au⟩;have k5:=(au.block _ (gl H4.b)).trans H4.b;have M5:=H4.a.below ad.out au;have HS:=If (HH.b M5);have H5:=kq5 M5 k5 (H4.c.trans (au.mono H4.c.size)) (H4.d.below au) (jj.of_owns bt);clear x0 x1 x2 x3;obtain⟨x0,x1,x2,x3⟩:=Fy k5;clear au k5 M5 bt;go_wp2_with fail;refine HS.out.mono ?_;rintro e w6 ⟨v6,rfl,bu,al⟩;have k6:=(al.block _ (gl H5.b)).trans H5.b;have M6:=H5.a.below ad.out al;have HS:=If (HH.c M6);have H6:=kq5 k6 (H5.c.trans (al.mono H5.c.size)) (H5.d.below al) (H5.e.below al) (jj.of_owns bu);clear x0 x1 x2 x3;obtain⟨x0,x1,x2,x3⟩:=Fy k6;clear al k6 M6 bu;go_wp2_with fail;refine HS.out.mono ?_;rintro e w7 ⟨v7,rfl,bv,an⟩;obtain⟨A7,c7,rfl,r7⟩:=jj.of_owns bv;obtain⟨A4,c4,rfl,r4⟩:=H6.c.below an;have H7:=kq6 (H6.b.trans (an.mono H6.b.size)) (H6.c.below an) (H6.d.below an) (H6.e.below an) r4 r7;rw[cR,HH.e];clear x0 x1 x2 x3 an bv r4 r7;go_wp2_with fail
    go_loopw [22] (fun s22 wr=>∃i:Nat,s22=.int .i64 i/\i<=n/\Hid (Below w7.heap.size w7 wr)) (fun s22 _=>n-(intOf s22).toNat)
    case atStart=>exact⟨0,rfl,by omega,If (aa _ _)⟩
    case round=>
     obtain⟨i,rfl,cj,I0⟩:=hrel
     by_cases hi:i<n
     ·have cb:(i:Int)<n:=by omega
      have bj:i<Qa.length:=by rw[HH.e];exact hi
      obtain⟨g,o,rfl,c0,c1⟩:=H7.e i bj;obtain⟨g',o',rfl,d0,d1⟩:=H7.f (n-1-i) (by rw[cR,HH.e];omega);have b0:Qa.reverse[n-1-i]'(by rw[cR,HH.e];omega)=Qa[i]:=by
       rw[List.getElem_reverse]
       congr 1
       rw[HH.e];omega
      rw[b0] at d0 d1;obtain⟨⟨a,b⟩,hp⟩:∃p,Qa[i]=p:=⟨_,rfl⟩;rw[hp] at c0 c1 d0 d1
      replace c0:=(I0.out.cell (p:=⟨g,_,none⟩) (jK c0)).trans c0
      replace c1:=(I0.out.cell (p:=⟨g,_,none⟩) (jK c1)).trans c1
      replace d0:=(I0.out.cell (p:=⟨g',_,none⟩) (jK d0)).trans d0
      replace d1:=(I0.out.cell (p:=⟨g',_,none⟩) (jK d1)).trans d1
      obtain⟨j,bk⟩:=Ii (n-1-i);rw[bk] at d0 d1;have hz:(n:Int)-1-i=j:=by omega
      have cl:IntKind.i64.wrap ((n:Int)-1)=(n:Int)-1:=az _ (by omega);have cm:IntKind.i64.wrap (j:Int)=j:=az _ (by omega);have ck:j<n:=by omega
      have cc:=DE a b a b;rw[show (!(a==a && b==b))=false by simp] at cc;clear bj b0 hp bk;go_wp2_with fail
      go_quiet (fail)
      go_wp2_with fail;go_roundw
      case rel=>exact⟨i+1,by simp,by omega,If (I0.out.trans ⟨rfl,rfl,rfl,Nat.le_refl _,fun _ _=>rfl⟩)⟩
      case measure=>simp[intOf];omega
     ·obtain rfl:i=n:=by omega
      have cb:¬(i:Int)<i:=by omega
      have C1:=H7.a.trans (I0.out.mono H7.a.size);have A1:=(aa wr.heap.size wr).alloc Ih (.cells #[] 34);have C2:=I0.out.trans (A1.mono I0.out.size);obtain⟨x2,w8,cd,a9,a5⟩:=F9 (G9 wr (B:=wr.heap.size) Ih) (H7.c.below C2) (by have:=HH.f;have:=HH.e;simp;omega) (by simp) 22;rw[aS] at a9;have C3:=C2.trans (a5.mono I0.out.size);obtain⟨x3,w9,ch,bo,bb⟩:=F9 a9 (H7.d.below C3) (by have:=HH.f;have:=HH.e;omega) (aH (by simp) a5.size) 22;have C4:=C3.trans (bb.mono I0.out.size);have ap:=F0 (H7.b.below C4) (jj.of_owns bo) (by rw[HH.e];omega) (by rw[aE];have:=HH.f;have:=HH.e;omega);rw[show FQ Qa (Qb++Qc)=true from decide_eq_true HH.d,HH.e] at ap;have HS:=kq2 ap (H7.a.trans (C4.mono H7.a.size));clear C1 C2 C3 C4 A1 ap a9 bo a5 bb
      go_wp2_with (first | (at_builtin;refine Lib.wpList_append_run _ rfl _ _ _ _ rfl _ _ rfl rfl _ _ cd ?_) | (at_builtin;refine Lib.wpList_append_run _ rfl _ _ _ _ rfl _ _ rfl rfl _ _ ch ?_))
      refine HS.a.mono ?_;rintro e cn ⟨rfl,bc⟩;have a4:=If (HS.b.trans (bc.mono HS.b.size));clear bc;go_wp2_with fail;refine(HG.a _ a4.out).mono ?_;rintro e cp ⟨rfl,bd⟩;have b8:=If (a4.out.trans (bd.mono a4.out.size));clear bd;go_wp2_with fail;go_ret;exact⟨rfl,b8.out⟩
 ·have a0:=Gg v0 hok;have HG:=kq3 (a1 _ B0) a0 B0;clear a1 a0 B0 q0 z0 t0 v0 hok ht hv;go_enter func7,ntmps7;go_wp2_with fail;refine HG.b.mono ?_;rintro e w1 ⟨rfl,rfl⟩;go_wp2_with fail;refine HG.a.mono ?_;rintro e w2 ⟨rfl,ai⟩;have H2:=If (HG.c.trans (ai.mono HG.c.size));clear ai;go_wp2_with fail;go_ret;exact⟨rfl,H2.out⟩