/- Trees balanced by two colours: join, top, Join: plain. -/
import Derived.Test.YtpljannolpapgaaGreatDoorVMa
import Derived.Test.YtpljannolpapgaaGreatDoorVBf
set_option maxRecDepth 100000
set_option maxHeartbeats 800000
namespace Go.Proofs.YtpljannolpapgaaGreatDoor
section
open Lf
namespace Tr
structure yw (tu:Bool) (t low u:Tr):Prop where
 bh:u.mark / 2=t.mark / 2
 all:Rb u\/kR tu u
 stop:t.mark % 2=0->low.mark / 2=t.mark / 2->iS tu u
 go:t.mark % 2=0->low.mark / 2<t.mark / 2->Rb u
 red:t.mark % 2=1->low.mark / 2<t.mark / 2->iS tu u
theorem uZ(tu:Bool){d:It}:∀(f:Nat) {S:St} {o:Nat->Nat} {t low:Tr} {n0:Nd},Fw S o->At S t->At S low->Rb t->Rb low->reco S d.h=some (eM n0)->n0.key=d.kh->n0.val=d.vh->
 (t.hs++d.h::low.hs).Nodup->t.its.length+low.its.length<9000->t.its.length<=f->low.mark / 2<=t.mark / 2->
 ∃u S',joinR tu d.h f S t.root low.root=some (u.root,S')/\lF S S' o (t.hs++d.h::low.hs) u/\u.its=jO tu t.its d low.its/\yw tu t low u
 | 0,S,o,t,low,n0,hf,ht,hlo,rt,rl,hd,hk0,hv0,hnd,hlen,hfu,hb=>by
  have bk:t=nil:=by
   cases t with
   | nil=>rfl
   | node l d m r=>simp[its] at hfu
  subst bk;obtain⟨h1,h2,h3,h4,h5⟩:=jf hnd;obtain⟨S1,e1,f1,a1,o1,g1⟩:=lu hf tu true ht hlo hd hk0 hv0 h3 h4 (rt.sr (by simp[its])) (rl.sr (by omega)) (by have:nil.mark=0:=rfl;omega);refine⟨_,S1,?_,⟨f1,a1,fun y hy=>o1 y fun e=>hy (by rw[e];simp),g1⟩,?_,?_⟩
  ·rw[rf,e1,il];rfl
  ·rw[jR];rfl
  ·have h0:nil.mark=0:=rfl;have ai:iS tu (nt tu nil d (nil.mark / 2*2+(if true then 1 else 2)) low):=⟨nil,d,_,low,rfl,rt,rl,rfl,by omega,rfl⟩;exact⟨by rw[fg];rfl,ae ai.two,fun _ _=>ai,fun _ q=>by omega,fun q=>by omega⟩
 | f+1,S,o,t,low,n0,hf,ht,hlo,rt,rl,hd,hk0,hv0,hnd,hlen,hfu,hb=>by
  have q1:=ht.red hf;have q2:=ht.black hf;have q3:=hlo.black hf;rw[re,q1,q2,q3];obtain⟨h1,h2,h3,h4,h5⟩:=jf hnd;by_cases c1:t.mark % 2=0/\t.mark / 2=low.mark / 2
  ·rw[if_pos (by simp;omega)];obtain⟨S1,e1,f1,a1,o1,g1⟩:=lu hf tu true ht hlo hd hk0 hv0 h3 h4 (rt.sr (by omega)) (rl.sr (by omega)) c1.2;refine⟨_,S1,?_,⟨f1,a1,fun y hy=>o1 y fun e=>hy (by rw[e];simp),g1⟩,?_,?_⟩
   ·rw[e1,il];rfl
   ·rw[jR];rfl
   ·have ai:iS tu (nt tu t d (t.mark / 2*2+(if true then 1 else 2)) low):=⟨t,d,_,low,rfl,rt,rl,c1.1,c1.2,rfl⟩;exact⟨by rw[fg];simp;omega,ae ai.two,fun _ _=>ai,fun _ q=>by omega,fun q=>by omega⟩
  ·rw[if_neg (by simp;omega)];have a7:t.mark≠0:=by omega
   obtain⟨ad,e,m,own,rfl,ro,a8,al,ar⟩:=rt.node_nt tu a7;rw[fg] at hb c1 a7;have hs:=oH hf ht;obtain⟨a',bb,n1,bj,bf,bm⟩:=lY ht;rw[lZ] at h1;obtain⟨d1,d2,d3,d4,d5⟩:=jf h1;simp only[jS,not_or] at h3 h5;rw[kJ] at hlen hfu;have a0:(own.hs++d.h::low.hs).Nodup:=lh d2 h2 h3.2.2 h4 fun y hy=>h5 y (ae (ae hy));obtain⟨x,S1,e1,D1,i1,J1⟩:=uZ tu f hf bb hlo a8 rl hd hk0 hv0 a0 (by omega) (by omega) (by rcases ar with g | g<;>omega);have a3:∀y,y∈x.hs↔y∈own.hs\/y=d.h\/y∈low.hs:=fun y=>by
    unfold Tr.hs;rw[i1];unfold jO;cases tu<;>simp<;>constructor<;>rintro(g | g | g)<;>simp_all
   have bs:x.its.length=own.its.length+low.its.length+1:=by rw[i1];unfold jO;cases tu<;>simp<;>omega
   have bo:x.hs.Nodup:=by
    have e:x.hs=if tu=true then low.hs++d.h::own.hs else own.hs++d.h::low.hs:=by
     unfold Tr.hs;rw[i1];unfold jO;cases tu<;>simp
    rw[e];cases tu
    ·exact a0
    ·obtain⟨g1,g2,g3,g4,g5⟩:=jf a0;exact lh g2 g1 g4 g3 fun y hy hm=>g5 y hm hy
   have ba:At S1 ad:=a'.frame fun y hy=>D1.other y fun hm=>by
    rcases aj.1 hm with hm | hm
    ·exact d5 y hy hm
    ·rcases ag.1 hm with hm | hm
     ·exact h3.1 (hm▸hy)
     ·exact h5 y (aa hy) hm
   have a4:d.h≠e.h:=h3.2.1;have a5:e.h∉low.hs:=h5 _ (ae (aa rfl));have bd:reco S1 e.h=some (eM n1):=(D1.other _ fun hm=>by
    rcases aj.1 hm with hm | hm
    ·exact d4 hm
    ·rcases ag.1 hm with hm | hm
     ·exact a4 hm.symm
     ·exact a5 hm).trans bj
   have a6:e.h∉x.hs:=by
    rw[a3];simp only[not_or];exact⟨d4,fun q=>a4 q.symm,a5⟩
   have sx:Sr x:=by
    refine⟨?_,by omega⟩;have:=J1.bh;have:=a8.mark_le;omega
   obtain⟨S2,e2,f2,a2,o2,g2⟩:=lu D1.fit tu (decide (m % 2=1)) ba D1.at' bd bf bm d3 a6 (ro.sr (by omega)) sx (by rw[J1.bh];exact al);have bc:∀y∈ad.hs,y∉x.hs:=fun y hy hm=>by
    rcases(a3 y).1 hm with hm | hm | hm
    ·exact d5 y hy hm
    ·exact h3.1 (hm▸hy)
    ·exact h5 y (aa hy) hm
   rw[il,hs];simp only;rw[e1];simp only;rw[fg,e2];simp only;have an:∀y,y∉(nt tu ad e m own).hs++d.h::low.hs->y≠e.h/\y∉own.hs++d.h::low.hs:=fun y hy=>by
    simp only[aj,ag,jS,not_or] at hy⊢;exact⟨hy.1.2.1,hy.1.2.2,hy.2⟩
   by_cases c2:m % 2=1
   ·have hm:m=ad.mark / 2*2+1/\ad.mark % 2=0/\own.mark % 2=0:=by rcases ar with g | g<;>omega
    have au:decide (m % 2=1)=true:=decide_eq_true c2;rw[au] at a2⊢;refine⟨nt tu ad e (ad.mark / 2*2+(if true then 1 else 2)) x,S2,?_,⟨f2,a2,fun y hy=>(o2 y (an y hy).1).trans (D1.other y (an y hy).2),D1.grew.trans g2⟩,?_,?_⟩
    ·unfold fixR;rw[if_pos (aa rfl),il];exact nU (fL f2 (lY a2).2.2.choose_spec.1).2.1
    ·rw[jR,i1,jR];unfold jO;cases tu<;>simp
    ·refine⟨by rw[fg,fg];simp;omega,?_,?_,?_,?_⟩
     ·right
      refine⟨ad,e,_,x,rfl,ro,?_,hm.2.1,by rw[J1.bh];exact al,rfl⟩;rcases bW (low.mark / 2) (own.mark / 2) with g | g
      ·exact aa (J1.go hm.2.2 g)
      ·exact ae (J1.stop hm.2.2 (by omega))
     ·intro q;rw[fg] at q;omega
     ·intro q;rw[fg] at q;omega
     ·intro _ q;rw[fg] at q;exact⟨ad,e,_,x,rfl,ro,J1.go hm.2.2 (by omega),hm.2.1,by rw[J1.bh];exact al,rfl⟩
   ·have hm:m=ad.mark / 2*2+2:=by rcases ar with g | g<;>omega
    have au:decide (m % 2=1)=false:=decide_eq_false c2;rw[au] at a2⊢;have a9:At S2 (nt tu ad e (ad.mark / 2*2+2) x):=a2;obtain⟨u,S3,e3,D3,i3,r3,b3⟩:=AY f2 a9 (by rw[lZ];exact lh d1 bo d3 a6 bc) (by rw[kJ];omega) ro J1.all (by rw[J1.bh];exact al);refine⟨u,S3,?_,⟨D3.fit,D3.at',fun y hy=>?_,(D1.grew.trans g2).trans D3.grew⟩,?_,?_⟩
    ·rw[e3];exact nU (D3.at'.root_lt D3.fit)
    ·refine(D3.other y ?_).trans ((o2 y (an y hy).1).trans (D1.other y (an y hy).2));rw[jS];simp only[aj,ag,jS,not_or] at hy⊢;refine⟨hy.1.1,hy.1.2.1,?_⟩;rw[a3];simp only[not_or];exact⟨hy.1.2.2,hy.2⟩
    ·rw[i3,jR,i1,jR];unfold jO;cases tu<;>simp
    ·refine⟨by rw[b3,fg];omega,aa r3,fun _ q=>?_,fun _ _=>r3,fun q=>?_⟩
     ·rw[fg] at q;omega
     ·rw[fg] at q;omega
theorem xG(tu:Bool){d:It}{S:St}{o:Nat->Nat}{t low:Tr}{n0:Nd}(hf:Fw S o)(ht:At S t)(hlo:At S low)(rt:Rb t)(rl:Rb low)(hd:reco S d.h=some (eM n0))(hk0:n0.key=d.kh)(hv0:n0.val=d.vh)
 (hnd:(t.hs++d.h::low.hs).Nodup) (hlen:t.its.length+low.its.length<99) (hb:low.mark / 2<t.mark / 2):
 ∃u S',topR tu S t.root d.h low.root=some (u.root,S')/\lF S S' o (t.hs++d.h::low.hs) u/\Rb u/\u.its=jO tu t.its d low.its:=by
 obtain⟨u,S1,e1,D1,i1,J1⟩:=uZ tu 200 hf ht hlo rt rl hd hk0 hv0 hnd (by omega) (by omega) (by omega);have q1:=D1.at'.red D1.fit;unfold topR;rw[e1];simp only;rw[q1];by_cases c1:u.mark % 2=1
 ·have al:iS tu u:=by
   by_cases c0:t.mark % 2=0
   ·exact tA (aa (J1.go c0 hb)) c1
   ·exact J1.red (by omega) hb
  obtain⟨a,e,m,b,rfl,ra,rb,ea,eb,em⟩:=al;have hs:=oH D1.fit D1.at';obtain⟨ha,ad,n1,au,an,a1⟩:=lY D1.at';rw[il,hs];simp only;rw[ad.red D1.fit];by_cases c2:b.mark % 2=1
  ·have ai:(nt tu a e m b).hs.Nodup:=by
    have q:(nt tu a e m b).hs=if tu=true then low.hs++d.h::t.hs else t.hs++d.h::low.hs:=by
     unfold Tr.hs;rw[i1];unfold jO;cases tu<;>simp
    rw[q];cases tu
    ·exact hnd
    ·obtain⟨g1,g2,g3,g4,g5⟩:=jf hnd;exact lh g2 g1 g4 g3 fun y hy hm=>g5 y hm hy
   have a0:(nt tu a e m b).its.length<200:=by rw[i1];unfold jO;cases tu<;>simp<;>omega
   rw[kJ] at a0;rw[lZ] at ai;obtain⟨_,_,g3,g4,g5⟩:=jf ai;obtain⟨S2,e2,f2,a2,o2,w2⟩:=lu D1.fit tu false ha ad au an a1 g3 g4 (ra.sr (by omega)) (rb.sr (by omega)) eb;have ar:∀y,y∉t.hs++d.h::low.hs->y≠e.h:=fun y hy q=>by
    have:e.h∈(nt tu a e m b).hs:=by rw[jS];exact ae (aa rfl)
    have q2:(nt tu a e m b).hs=if tu=true then low.hs++d.h::t.hs else t.hs++d.h::low.hs:=by
     unfold Tr.hs;rw[i1];unfold jO;cases tu<;>simp
    rw[q2,<-q] at this;cases tu
    ·exact hy this
    ·refine hy ?_;have this:y∈low.hs++d.h::t.hs:=this;simp only[aj,ag] at this⊢;rcases this with h | h | h
     ·exact ae (ae h)
     ·exact ae (aa h)
     ·exact aa h
   refine⟨nt tu a e (a.mark / 2*2+(if false then 1 else 2)) b,S2,?_,⟨f2,a2,fun y hy=>(o2 y (ar y hy)).trans (D1.other y hy),D1.grew.trans w2⟩,jl.nt ⟨ra,rb,eb,ae rfl⟩,?_⟩
   ·rw[fg,if_pos (by simp;omega),e2,il];rfl
   ·rw[<-i1,jR,jR]
  ·refine⟨nt tu a e m b,S1,?_,D1,jl.nt ⟨ra,rb,eb,aa ⟨em,ea,by omega⟩⟩,i1⟩;rw[if_neg (by simp;omega),il]
 ·refine⟨u,S1,?_,D1,?_,i1⟩
  ·rw[if_neg (by simp;omega)]
  ·rcases J1.all with h | h
   ·exact h
   ·have:=h.odd;omega
theorem oq:kV redJ Rb where
 nil:=trivial
 sub h:=⟨h.1,h.2.1⟩
 join:=by
  intro S o l r d n0 hf hl hr bl br hd hk0 hv0 hnd hlen;have ad:=(fL hf hd).1;have q1:=hl.black hf;have q2:=hr.black hf;have h0:¬(d.h=0\/isT S l.root=false\/isT S d.h=false\/isT S r.root=false):=by
   rw[hl.isT hf,hr.isT hf];have:isT S d.h=true:=by unfold isT;rw[gw hf hd];simp
   rw[this];simp;omega
  unfold redJ;rw[if_neg h0,q1,q2];obtain⟨g1,g2,g3,g4,g5⟩:=jf hnd;by_cases c1:r.mark / 2<l.mark / 2
  ·rw[if_pos c1];obtain⟨u,S1,e1,D1,r1,i1⟩:=xG false hf hl hr bl br hd hk0 hv0 hnd hlen c1;exact⟨u,S1,by rw[e1];rfl,D1,r1,i1⟩
  ·rw[if_neg c1];by_cases c2:l.mark / 2<r.mark / 2
   ·rw[if_pos c2];obtain⟨u,S1,e1,D1,r1,i1⟩:=xG true hf hr hl br bl hd hk0 hv0 (lh g2 g1 g4 g3 fun y hy hm=>g5 y hm hy) (by omega) c2;refine⟨u,S1,by rw[e1];rfl,⟨D1.fit,D1.at',fun y hy=>D1.other y fun hm=>hy ?_,D1.grew⟩,r1,i1⟩;simp only[aj,ag] at hm⊢;rcases hm with h | h | h
    ·exact ae (ae h)
    ·exact ae (aa h)
    ·exact aa h
   ·rw[if_neg c2,hl.red hf,hr.red hf];obtain⟨S1,e1,f1,a1,o1,w1⟩:=rW hf (!decide (l.mark % 2=1) && !decide (r.mark % 2=1)) hl hr hd hk0 hv0 g3 g4 (bl.sr (by omega)) (br.sr (by omega));refine⟨_,S1,by rw[e1];rfl,⟨f1,a1,fun y hy=>o1 y fun e=>hy (by rw[e];simp),w1⟩,⟨bl,br,by omega,?_⟩,rfl⟩;by_cases a1:l.mark % 2=1
    ·right;simp[a1]
    ·by_cases a2:r.mark % 2=1
     ·right;simp[a2]
     ·left
      have b1:l.mark % 2=0:=by omega
      have b2:r.mark % 2=0:=by omega
      simp[b1,b2]
end Tr
end
section
open Go.RowKit Tryz Go.BigFrame Go.Maps Go.WideMaps Lf
variable{w:World}{z:Nat}
theorem CQ{pm px ps limit:Nat}(hM:Ic w pm px ps limit)(ht:Cb 19 #[PV px] w (Xi z)):
 Cb 39 #[PV pm] w (Xi z):=by
 have HG:=kq2 (ki hM) ht;unfold Ic at hM;obtain⟨c0,c1,c2⟩:=fq hM;clear hM ht;go_enter func39,ntmps39;go_wp2_with fail;refine Jc HG.a ?_;go_wp2_with fail;refine wx HG.b fun w2 hb=>?_;have HB:=If hb;clear hb;go_wp2_with fail;go_ret;exact⟨rfl,HB.out⟩
theorem CU{pm px ps limit:Nat}(hM:Ic w pm px ps limit)(k:List UInt8)(ht:Cb 16 #[PV px,SV k] w (Xi z)):
 Cb 99 #[PV pm,SV k] w (Xi z):=by
 have HG:=kq2 (ki hM) ht;unfold Ic at hM;obtain⟨c0,c1,c2⟩:=fq hM;clear hM ht;go_enter func99,ntmps99;go_wp2_with fail;refine Jc HG.a ?_;go_wp2_with fail;refine wx HG.b fun w2 hb=>?_;have HB:=If hb;clear hb;go_wp2_with fail;go_ret;exact⟨rfl,HB.out⟩
theorem CL{pm px ps limit:Nat}(hM:Ic w pm px ps limit)(a:List UInt8){n:Nat}(hn:n<2^62)(is:Bool)(v:List UInt8)(h1:Cb 16 #[PV px,SV a] w (Xi n))(h2:∀W,Below w.heap.size w W->Cb 17 #[PV px,SV a] W (.tuple #[SV v,.bool is])):
 Cb 98 #[PV pm,SV a] w (Xi (if is=true then(n:Int) else(n:Int)-1)):=by
 have hw:IntKind.i64.wrap ((n:Int)-1)=(n:Int)-1:=aB _ (by omega);have HG:=kq3 h1 h2 hM;unfold Ic at hM;obtain⟨c0,c1,c2⟩:=fq hM;clear h1 h2 hM
 cases is
 all_goals
  go_enter func98,ntmps98;go_wp2_with fail;refine wx HG.a fun w1 hb1=>?_;have ad:=HG.c.below hb1;unfold Ic at ad;obtain⟨d0,d1,d2⟩:=fq ad;have H1:=If hb1;clear hb1 ad;go_wp2_with fail;refine wx (HG.b _ H1.out) fun w2 hb2=>?_;have H2:=If (H1.out.trans (hb2.mono H1.out.size));clear hb2;go_wp2_with fail;go_ret;exact⟨rfl,H2.out⟩
theorem CS{pm px ps limit:Nat}(hM:Ic w pm px ps limit)(a b t:List UInt8)(was:Bool)(ha:a.length<=limit)(hb:b.length<=limit){Q:World->Prop}(ht:Ct 43 #[PV px,.agg #[SV a,SV b]] w fun e w'=>e=.returned (.tuple #[SV t,.bool was,Xi 0])/\Q w'):
 Ct 24 #[PV pm,SV a,SV b] w fun e w'=>e=.returned (.tuple #[SV t,.bool was,Xi 0])/\Q w':=by
 have HG:=kq2 (vH hM a b ha hb) ht;unfold Ic at hM;obtain⟨c0,c1,c2⟩:=fq hM;clear hM ha hb ht;go_enter func24,ntmps24;go_wp2_with fail;refine Jc HG.a ?_;go_wp2_with fail;refine wx HG.b fun w2 hr=>?_;have HR:=If hr;clear hr;go_wp2_with fail;go_ret3;exact⟨rfl,HR.out⟩