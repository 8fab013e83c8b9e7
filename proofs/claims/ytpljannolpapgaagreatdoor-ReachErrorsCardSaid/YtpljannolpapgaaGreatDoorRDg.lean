/- B-trees of any height, as rows of F_: what a put makes of one: plain. -/
import Derived.Test.YtpljannolpapgaaGreatDoorRBy
import Derived.LaidEqlPtr
import Derived.Test.YtpljannolpapgaaGreatDoorRPr
import Derived.Deep.CutRange
import Derived.Deep.CutBlock
import Derived.Test.YtpljannolpapgaaGreatDoorRBv
set_option maxRecDepth 100000
set_option maxHeartbeats 8000000
namespace Go.Proofs.YtpljannolpapgaaGreatDoor
section
open Lf Tr
namespace Bt
variable{R:List Nat}{S:St}{o:Nat->Nat}
theorem two_fit(hf:Fw S o){a b:List UInt8}(ha:a.length<=1000)(hb:b.length<=1000)(hr:fc S 6 2):
 ∃ka vb S2 o2,itemsM S a b=some ((ka,vb),S2)/\nJ S a b/\Fw S2 o2/\i_ S ka=none/\i_ S vb=none/\ka≠vb/\i_ S2 ka=some (FK a)/\i_ S2 vb=some (FK b)/\(∀h',h'≠ka->h'≠vb->i_ S2 h'=i_ S h')/\ej S S2 6 2:=by
 obtain⟨ka,S1,o1,e1,f1,n1,l1,q1,g1,k1⟩:=oL hf ha (hr.M o_ o_);obtain⟨vb,S2,o2,e2,f2,n2,l2,q2,g2,k2⟩:=oL f1 hb (fc.grew (hr.M (p':=3+3) (q':=1+1) o_ o_) g1);have ad:ka≠vb:=by grind
 have ai:itemsM S a b=some ((ka,vb),S2):=by
  unfold itemsM
  grind
 exact⟨ka,vb,S2,o2,ai,⟨ha,hb,k1,by grind⟩,f2,n1,(q1 _ ad.S).S.T n2,ad,(q2 _ ad).T l1,l2,fun h' w1 w2=>(q2 h' w2).T (q1 h' w1),(g1.T g2).M o_ o_⟩
def getL(L:List (List UInt8×List UInt8))(a:List UInt8):Option (List UInt8):=(L.find? fun p=>p.1==a).map (·.2)
theorem getL_pairs(l:List It)(a:List UInt8):getL (F_ l) a=(G7 a l).map (·.v):=by
 unfold getL F_ G7;rw[List.find?_map,Option.map_map];rfl
theorem xu{l:List It}(hs:l.Pairwise eU){e e0:It}(hf:G7 e.k l=some e0):
 ∃A B,l=A++e0::B/\l.map (rep e)=A++e::B/\e0.k=e.k/\(∀x∈A,Fu x.k e.k<0)/\∀x∈B,Fu e.k x.k<0:=by
 unfold G7 at hf;have hk:e0.k=e.k:=by grind
 obtain⟨A,B,rfl⟩:=List.append_of_mem (cI hf);obtain⟨p1,p2,p3⟩:=bE.1 hs;obtain⟨p4,p5⟩:=bC.1 p2;have hA:∀x∈A,Fu x.k e.k<0:=fun x hx=>by
  grind [List.mem_cons_self,eU]
 have hB:∀x∈B,Fu e.k x.k<0:=fun x hx=>by
  have:=p4 x hx;unfold eU at this
  grind
 have e1:A.map (rep e)=A:=(bg fun x hx=>(mg (ne_of_lt (hA x hx)):rep e x=id x)).T (dJ _);have e2:B.map (rep e)=B:=(bg fun x hx=>(mg (fun q=>by have:=hB x hx;rw[q,fX] at this;omega):rep e x=id x)).T (dJ _);refine⟨A,B,rfl,?_,hk,hA,hB⟩;rw[aN,bi,e1,e2]
 congr 2
 exact if_pos hk
theorem pairs_ins{e:It}{l:List It}(hs:l.Pairwise eU)(hn:∀d∈l,d.k≠e.k):F_ (insB e l)=gV (F_ l) e.k e.v:=by
 obtain⟨b1,b2,b3⟩:=lL (key:=e.k) hs;have ad:∀d∈l.drop (belowB e.k l),Fu e.k d.k<0:=fun d hd=>by
  have h1:=b2 d hd;have h2:=hn d (bB hd)
  grind [ie,Int.lt_trichotomy,Fu,absurd,jL]
 have h:=oO (a:=e.k) (b:=e.v) (d:=e) (tl:=l.take (belowB e.k l)) (tr:=l.drop (belowB e.k l)) (mid:=[]) ⟨rfl,rfl⟩ (fun x hx=>by grind) b1 ad;rw[aW,aU] at h;exact h
theorem Dq{e e0:It}{l:List It}(hs:l.Pairwise eU)(hf:G7 e.k l=some e0):F_ (l.map (rep e))=gV (F_ l) e.k e.v:=by
 obtain⟨A,B,h1,h2,h3,h4,h5⟩:=xu hs hf;have h:=oO (a:=e.k) (b:=e.v) (d:=e) (tl:=A) (tr:=B) (mid:=[e0]) ⟨rfl,rfl⟩ (fun x hx=>by rw[aE.1 hx];exact h3) h4 h5;grind
theorem qDgai{P:Prop}(h:P:=by
 exact(h.F4 a hx).frame (hS _ (an _ (gh.2 ⟨a,hx,ab rfl⟩))) (hS _ (an _ (gh.2 ⟨a,hx,ae rfl⟩)))):P:=h
theorem Tree.swap{t d:Nat}{x:Bt (d+1)}(h:Tree S o t x){e e0:It}(hb:gu S e)(ne:e.kh≠e.vh)(off:e.kh∉recs x/\e.vh∉recs x){g:Nat}{n:BN}{k:Nat}(r:RepAt S o t x e e0 g n k){S1:St}(hS1:S1=FC S g 0 (v8 t (setN n k e))):
 Fw S1 o/\fz S1 e0.vh=(e0.v,0)/\e0.kh<2^64/\e0.vh<2^64/\Fv (S1.drop e0.kh).2/\∃S3,S3=((S1.drop e0.kh).2.drop e0.vh).2/\Tree S3 o t (mapB (rep e) x)/\F_ (its (mapB (rep e) x))=gV (F_ (its x)) e.k e.v/\ej S S3 0 0/\(∀y,y∉recs x->i_ S3 y=i_ S y)/\(∀y∈recs (mapB (rep e) x),y∈recs x\/y=e.kh\/y=e.vh)/\∀y,i_ S3 y≠none->y∈recs (mapB (rep e) x)\/i_ S y≠none/\y∉recs x/\y≠e.kh/\y≠e.vh:=by
 obtain⟨A,B,h1,h2,h3,h4,h5⟩:=xu h.F1 r.find;have a1:e0∈its x:=by rw[h1];simp
 have ap:=h.F4 e0 a1;have k0:e0.kh∈ff (its x):=gh.2 ⟨e0,a1,ab rfl⟩;have v0:e0.vh∈ff (its x):=gh.2 ⟨e0,a1,ae rfl⟩;have an:∀y∈ff (its x),y≠g:=fun y hy q=>h.apart g r.mem (q▸hy);have a4:e.kh≠g/\e.vh≠g:=⟨fun q=>off.1 (q▸aD _ r.mem),fun q=>off.2 (q▸aD _ r.mem)⟩;have a2:=h.texts;rw[h1,nO] at a2;have ec:∀(z:It) (l:List It),ff (z::l)=z.kh::z.vh::ff l:=fun _ _=>rfl;rw[ec] at a2;obtain⟨t1,t2,t3⟩:=aF.1 a2;obtain⟨t4,t5⟩:=aI.1 t2;obtain⟨t6,t7⟩:=aI.1 t5;have oe:∀y,y=e.kh\/y=e.vh->y∉ff (its x)/\y∉Bt.h_ x:=fun y hy=>by
  rcases hy with rfl | rfl
  ·exact⟨fun q=>off.1 (aA _ q),fun q=>off.1 (aD _ q)⟩
  ·exact⟨fun q=>off.2 (aA _ q),fun q=>off.2 (aD _ q)⟩
 have ad:∀y,y∈ff A\/y∈ff B->y∈ff (its x):=fun y hy=>by
  rw[h1,nO,ec]
  rcases hy with hy | hy
  ·exact aD _ hy
  ·exact aA _ (ak _ (ak _ hy))
 have a0:its (mapB (rep e) x)=A++e::B:=by rw[ln,h2]
 have ai:∀y,y∈ff (its (mapB (rep e) x))↔y∈ff A\/y=e.kh\/y=e.vh\/y∈ff B:=fun y=>by
  rw[a0,nO,ec,aq,ah,ah]
 have ar:Tree S1 o t (mapB (rep e) x):=by
  subst hS1;refine⟨r.fit,h.t1,h.t2,r.at',vF _ h.ok,?_,?_,?_,by rw[lW];exact h.h_,?_,?_,by rw[vE];exact h.pos⟩
  ·rw[ln];refine dM.2 (h.F1.imp fun {a b} q=>?_);unfold eU at q⊢;rw[wI,wI];exact q
  ·intro a ha;have hS:∀y,y≠g->i_ (FC S g 0 (v8 t (setN n k e))) y=i_ S y:=r.fr;rw[a0] at ha
   rcases aq.1 ha with ha | ha
   ·have hx:a∈its x:=by rw[h1];exact aD _ ha
    exact qDgai
   ·rcases ah.1 ha with rfl | ha
    ·exact hb.frame (hS _ a4.1) (hS _ a4.2)
    ·have hx:a∈its x:=by rw[h1];exact aA _ (ak _ ha)
     exact qDgai
  ·rw[ln,am];exact h.few
  ·rw[a0,nO,ec];refine aF.2 ⟨t1,aI.2 ⟨fun q=>?_,aI.2 ⟨fun q=>(oe _ (ae rfl)).1 (ad _ (ae q)),t7⟩⟩,fun y hy z hz=>?_⟩
   ·rcases ah.1 q with q | q
    ·exact ne q
    ·exact(oe _ (ab rfl)).1 (ad _ (ae q))
   ·rintro rfl
    rcases ah.1 hz with q | hz
    ·exact(oe y (ab q)).1 (ad _ (ab hy))
    ·rcases ah.1 hz with q | hz
     ·exact(oe y (ae q)).1 (ad _ (ab hy))
     ·exact t3 y hy y (ak _ (ak _ hz)) rfl
  ·intro y hy hb1;rw[lW] at hy
   rcases(ai y).1 hb1 with q | q | q | q
   ·exact h.apart y hy (ad _ (ab q))
   ·exact(oe y (ab q)).2 hy
   ·exact(oe y (ae q)).2 hy
   ·exact h.apart y hy (ad _ (ae q))
 have au:∀y,y≠g->i_ S1 y=i_ S y:=by rw[hS1];exact r.fr
 have a8:ej S S1 0 0:=by rw[hS1];exact r.grew
 have kk:i_ S1 e0.kh=some (FK e0.k):=(au _ (an _ k0)).T ap.k;have vv:i_ S1 e0.vh=some (FK e0.v):=(au _ (an _ v0)).T ap.v;have a7:e0.kh≠e0.vh:=fun q=>t4 (by rw[q];exact av ..);obtain⟨S2,e2,f2,m2,o2,g2⟩:=mQ ar.fit kk;obtain⟨S3,e3,f3,m3,o3,g3⟩:=mQ f2 ((o2 _ a7.S).T vv);have a5:e0.kh∉recs (mapB (rep e) x)/\e0.vh∉recs (mapB (rep e) x):=by
  have a6:∀y,y=e0.kh\/y=e0.vh->y∉ff A/\y∉ff B:=fun y hy=>by
   rcases hy with rfl | rfl
   ·exact⟨fun q=>t3 _ q _ (av ..) rfl,fun q=>t4 (ak _ q)⟩
   ·exact⟨fun q=>t3 _ q _ (ak _ (av ..)) rfl,t6⟩
  have a3:∀y,y=e0.kh\/y=e0.vh->y∈ff (its x)->y∉recs (mapB (rep e) x):=fun y hy hyx q=>by
   unfold recs at q
   rcases aq.1 q with q | q
   ·rw[lW] at q;exact h.apart y q hyx
   ·rcases(ai y).1 q with q | q | q | q
    ·exact(a6 y hy).1 q
    ·exact(oe y (ab q)).1 hyx
    ·exact(oe y (ae q)).1 hyx
    ·exact(a6 y hy).2 q
  exact⟨a3 _ (ab rfl) k0,a3 _ (ae rfl) v0⟩
 refine⟨ar.fit,jt ar.fit ap.lv vv,(blobs_lt h.fit ap).1,(blobs_lt h.fit ap).2,by rw[e2];exact f2.inv,S3,by rw[e2,e3],ar.frame f3 (fun y hy=>(o3 y fun q=>a5.2 (q▸hy)).T (o2 y fun q=>a5.1 (q▸hy))),?_,((a8.T g2).T g3),fun y hy=>?_,fun y hy=>?_,fun y hy=>?_⟩
 ·rw[ln];exact Dq h.F1 r.find
 ·have w1:y≠e0.kh:=fun q=>hy (q▸aA _ k0);have w2:y≠e0.vh:=fun q=>hy (q▸aA _ v0);have w3:y≠g:=fun q=>hy (q▸aD _ r.mem);exact(o3 y w2).T ((o2 y w1).T (au y w3))
 ·unfold recs at hy⊢
  rcases aq.1 hy with q | q
  ·rw[lW] at q;exact ab (aD _ q)
  ·rcases(ai y).1 q with q | q | q | q
   ·exact ab (aA _ (ad _ (ab q)))
   ·exact ae (ab q)
   ·exact ae (ae q)
   ·exact ab (aA _ (ad _ (ae q)))
 ·by_cases hm:y∈recs (mapB (rep e) x)
  ·exact ab hm
  ·have w1:y≠e0.kh:=by
    rintro rfl;exact hy ((o3 _ a7).T m2)
   have w2:y≠e0.vh:=by
    rintro rfl;exact hy m3
   have hx:y∉recs x:=fun q=>by
    unfold recs at q hm
    rcases aq.1 q with q | q
    ·exact hm (aD _ (by rw[lW];exact q))
    ·rw[h1,nO,ec] at q
     rcases aq.1 q with q | q
     ·exact hm (aA _ ((ai y).2 (.inl q)))
     ·rcases ah.1 q with q | q
      ·exact w1 q
      ·rcases ah.1 q with q | q
       ·exact w2 q
       ·exact hm (aA _ ((ai y).2 (.inr (.inr (.inr q)))))
   have w3:y≠g:=fun q=>hx (q▸aD _ r.mem);exact ae ⟨fun q=>hy ((o3 y w2).T ((o2 y w1).T ((au y w3).T q))),hx,fun q=>hm (aA _ ((ai y).2 (.inr (.inl q)))),fun q=>hm (aA _ ((ai y).2 (.inr (.inr (.inl q)))))⟩
def Holds(S:St)(o:Nat->Nat)(t f9:Nat)(L:List (List UInt8×List UInt8))(R:List Nat):Prop:=
 (Empty S o t/\f9=0/\L=[]/\R=[])\/∃(d:Nat) (x:Bt (d+1)),Tree S o t x/\f9=hd x/\L=F_ (its x)/\R=recs x
theorem Holds.fit{t f9:Nat}{L:List (List UInt8×List UInt8)}(h:Holds S o t f9 L R):Fw S o:=by
 rcases h with⟨h,_⟩ | ⟨_,_,h,_⟩
 ·exact h.fit
 ·exact h.fit
theorem Holds.deg{t f9:Nat}{L:List (List UInt8×List UInt8)}(h:Holds S o t f9 L R):2<=t/\t<=16:=by
 rcases h with⟨h,_⟩ | ⟨_,_,h,_⟩
 ·exact⟨h.t1,h.t2⟩
 ·exact⟨h.t1,h.t2⟩
theorem Holds.has{t f9:Nat}{L:List (List UInt8×List UInt8)}(h:Holds S o t f9 L R):∀y∈R,i_ S y≠none:=by
 rcases h with⟨_,_,_,rfl⟩ | ⟨_,_,h,_,_,rfl⟩
 ·grind
 ·exact h.has
theorem Holds.frame{S S':St}{o o':Nat->Nat}{t f9:Nat}{L:List (List UInt8×List UInt8)}(h:Holds S o t f9 L R)(hf:Fw S' o')(hs:∀y∈R,i_ S' y=i_ S y):Holds S' o' t f9 L R:=by
 rcases h with⟨h,h1,h2,h3⟩ | ⟨d,x,h,h1,h2,h3⟩
 ·exact ab ⟨⟨hf,h.t1,h.t2⟩,h1,h2,h3⟩
 ·refine ae ⟨d,x,h.frame hf (by grind),h1,h2,h3⟩
end Bt
end
section
open Go.RowKit Tryz Go.BigFrame Go.Maps Go.WideMaps Lf Tr
abbrev jE(w:World)(px ps t f9:Nat):Prop:=FF w px ps 164 (jx ps t) 3 t f9
theorem rZ {S:St}{o:Nat->Nat}(hf:Fw S o):i_ S 0=none:=by
 cases h:i_ S 0 with
 | none=>rfl
 | some ws=>have:=(fL hf h).1;omega
theorem jT(l:List It):(F_ l).length=l.length:=by unfold F_;grind
def eK(L:List (List UInt8×List UInt8))(a:List UInt8):Nat:=L.countP fun p=>decide (Fu p.1 a<0)
section
variable {w:World}{px ps t f9:Nat}{S:St}{o:Nat->Nat}{Y:Nat->Prop}{L:List (List UInt8×List UInt8)}{R:List Nat}
structure iV (S:St) (L:List (List UInt8×List UInt8)) (R:List Nat) (Hold:St->(Nat->Nat)->Nat->List (List UInt8×List UInt8)->List Nat->Prop) (a b:List UInt8) (p q:Nat) (x:Nat) (S3:St):Prop where
 holds:∃o3 R3,Hold S3 o3 x (gV L a b) R3/\(∀y∈R3,y∈R\/i_ S y=none)/\∀y,i_ S3 y≠none->y∈R3\/i_ S y≠none/\y∉R
 grew:ej S S3 p q
 apart:∀y,y∉R->i_ S y≠none->i_ S3 y=i_ S y
theorem qDgah{P:Prop}(h:P:=by
 obtain⟨rfl,rfl,hR⟩:=hR;refine dR (sV px 0 0 W) fun w' hb=>?_;exact⟨S',rfl,hW.a_ hb,hW.w_ hb,hR⟩):P:=h
theorem CG {a:List UInt8}(hins:Bt.getL L a=none->L≠[]->∀d,j4 d)(h:Ig w ps S Y)(hH:Bt.Holds S o t f9 L R)(hT:jE w px ps t f9)(hpx:Y px)(b:List UInt8)(ha:a.length<=1000)(hb:b.length<=1000)(hc:L.length<126)(hr:fc S 20 9):
 Ct 43 #[PV px,eu (a,b)] w fun e w'=>∃(x:Nat) (S3:St),e=.returned (.tuple #[SV ((Bt.getL L a).getD []),.bool (Bt.getL L a).isSome,Xi 0])/\Ig w' ps S3 Y/\Fo (fun k=>Y k/\k≠px) w w'/\jE w' px ps t x/\iV S L R (fun S o x L R=>Bt.Holds S o t x L R) a b 20 9 x S3:=by
 obtain⟨ka,vb,S1,o1,a0,au,f1,n1,n2,a2,l1,l2,q1,g1⟩:=Bt.two_fit hH.fit ha hb (hr.M o_ o_);have ad:∀y,i_ S y≠none->i_ S1 y=i_ S y:=fun y hy=>q1 y (by rintro rfl;exact hy n1) (by rintro rfl;exact hy n2);have a9:fc S1 14 7:=fc.grew (hr.M (p':=6+14) (q':=2+7) o_ o_) g1;have an:gu S1 ⟨0,ka,vb,a,b⟩:=⟨l1,l2,ha,hb⟩
 rcases hH with⟨hE,rfl,rfl,rfl⟩ | ⟨d,x,hx,rfl,rfl,rfl⟩
 ·--the first key
  refine(ny h hE.fit.inv hT hpx a b au a0 false [] (R:=fun x ik iv S'=>ik=0/\iv=0/\iV S [] [] (fun S o x L R=>Bt.Holds S o t x L R) a b 20 9 x S') (R2:=fun x S'=>iV S [] [] (fun S o x L R=>Bt.Holds S o t x L R) a b 20 9 x S') rH qu (fun W Z hW _ _=>rA hW false fun V Z' hV=>?_) fun x ik iv S' hR W Z hW _ _=>?_).M ?_
  ·refine(zH hV ⟨f1,hE.t1,hE.t2⟩ (e:=⟨0,ka,vb,a,b⟩) ⟨an,a2⟩ (a9.M o_ o_)).M ?_;rintro e w' ⟨y,S',o',rfl,hs,hk,ht,hi,hn,ar,hg,a1⟩;refine⟨_,_,_,S',rfl,hs,hk,rfl,rfl,⟨⟨o',Bt.recs y,ae ⟨0,y,ht,rfl,?_,rfl⟩,fun z hzm=>?_,fun z hz=>?_⟩,(g1.T hg).M o_ o_,fun z _ hz=>(ar z (by rw[ad z hz];exact hz)).T (ad z hz)⟩⟩
   ·rw[hi]
    rfl
   ·refine ae ?_
    cases q:i_ S z with
    | none=>rfl
    | some ws=>
     exfalso
     have a':=ad z (by rw[q];simp);unfold Bt.recs at hzm
     rcases aq.1 hzm with hm | hm
     ·rw[hn z hm,q] at a'
      cases a'
     ·rw[hi] at hm;have hm:z∈ [ka,vb]:=hm
      rcases ah.1 hm with rfl | hm
      ·rw[n1] at q
       cases q
      ·rw[aE.1 hm,n2] at q
       cases q
   ·have a5:∀u∈ [ka,vb],u∈Bt.recs y:=fun u hu=>aA _ (by rw[hi];exact hu)
    rcases a1 z hz with q | q
    ·exact ab (aD _ q)
    ·by_cases e1:z=ka
     ·exact ab (a5 z (by simp[e1]))
     ·by_cases e2:z=vb
      ·exact ab (a5 z (by simp[e2]))
      ·exact ae ⟨fun p=>q ((q1 z e1 e2).T p),bX⟩
  ·exact qDgah
  ·rintro e w' ⟨x,S3,rfl,h1,h2,h3,h4⟩;exact⟨x,S3,rfl,h1,h2,h3,h4⟩
 ·have ai:Bt.Tree S1 o1 t x:=hx.frame f1 fun y hy=>ad y (hx.has y hy);have bq:(Bt.its x).length<126:=by rw[jT] at hc;exact hc
  have a8:ka∉Bt.recs x/\vb∉Bt.recs x:=⟨fun q=>hx.has _ q n1,fun q=>hx.has _ q n2⟩;have bs:d<=5:=by
   have h1:=Bt.pow_le t hx.t1 hx.ok hx.pos
   rcases cE 5 d with h3 | h3
   ·have:2^7<=2^(d+1):=cU d_ o_;have e:2^7=128:=d_
    omega
   ·exact h3
  cases hf:Bt.G7 a (Bt.its x) with
  | none=>
   have ap:Bt.getL (F_ (Bt.its x)) a=none:=by rw[Bt.getL_pairs,hf];rfl
   rw[ap];have a7:∀z∈Bt.its x,z.k≠a:=fun z hz q=>by
    unfold Bt.G7 at hf;have:=bS.1 hf z hz;rw[q] at this
    simp at this
   have bb:F_ (Bt.its x)≠[]:=fun q=>by
    have h1:=Bt.pow_le t hx.t1 hx.ok hx.pos;have h2:=congrArg List.length q;rw[jT] at h2;have h3:2^1<=2^(d+1):=cU d_ o_;have h2:(Bt.its x).length=0:=h2;omega
   have hq:=(oE t a x).2;have bf:fc S1 (2*iD t a x) (iD t a x):=a9.M o_ o_;refine(ny h hx.fit.inv hT hpx a b au a0 false [] (R:=fun x' ik iv S'=>ik=0/\iv=0/\iV S (F_ (Bt.its x)) (Bt.recs x) (fun S o x L R=>Bt.Holds S o t x L R) a b 20 9 x' S') (R2:=fun x' S'=>iV S (F_ (Bt.its x)) (Bt.recs x) (fun S o x L R=>Bt.Holds S o t x L R) a b 20 9 x' S') rH qu (fun W Z hW _ _=>rA hW false fun V Z' hV=>?_) fun x' ik iv S' hR W Z hW _ _=>?_).M ?_
   ·refine(zI (hins ap bb) hV ai (e:=⟨0,ka,vb,a,b⟩) ⟨an,a2,a8,a7,o_⟩ bf).M ?_;rintro e w' ⟨d',y,S',o',rfl,hs,hk,ht,hi,hn,ar,hg,a1⟩;have hg:ej S1 S' (2*iD t a x) (iD t a x):=hg;refine⟨_,_,_,S',rfl,hs,hk,rfl,rfl,⟨⟨o',Bt.recs y,ae ⟨d',y,ht,rfl,?_,rfl⟩,fun z hzm=>?_,fun z hz=>?_⟩,(g1.T hg).M o_ o_,fun z hzx hz=>(ar z (fun q=>hzx (aD _ q)) (by rw[ad z hz];exact hz)).T (ad z hz)⟩⟩
    ·rw[hi];exact(Bt.pairs_ins (e:=⟨0,ka,vb,a,b⟩) hx.F1 a7).S
    ·unfold Bt.recs at hzm
     rcases aq.1 hzm with hm | hm
     ·rcases hn z hm with q | q
      ·exact ab (aD _ q)
      ·refine ae ?_
       cases q2:i_ S z with
       | none=>rfl
       | some ws=>
        have:=ad z (by rw[q2];simp);rw[q,q2] at this
        cases this
     ·rw[hi] at hm
      rcases(Bt.blobH_ins z).1 hm with rfl | rfl | q
      ·exact ae n1
      ·exact ae n2
      ·exact ab (aA _ q)
    ·rcases a1 z hz with q | ⟨q,q2⟩
     ·exact ab (aD _ q)
     ·by_cases hb:z∈ff (Bt.its y)
      ·exact ab (aA _ hb)
      ·rw[hi,Bt.blobH_ins z] at hb;refine ae ⟨fun p=>q ((q1 z (fun e=>hb (.inl e)) fun e=>hb (.inr (.inl e))).T p),fun p=>?_⟩
       rcases aq.1 p with p | p
       ·exact q2 p
       ·exact hb (.inr (.inr p))
   ·exact qDgah
   ·rintro e w' ⟨x',S3,rfl,h1,h2,h3,h4⟩;exact⟨x',S3,rfl,h1,h2,h3,h4⟩
  | some e0=>
   have ap:Bt.getL (F_ (Bt.its x)) a=some e0.v:=by rw[Bt.getL_pairs,hf];rfl
   rw[ap];obtain⟨⟨g,n0,k0⟩,a6⟩:=Bt.nodeB_some (key:=a) ai.walk (by rw[hf];rfl);obtain⟨e1,a3⟩:=Bt.rep_at (e:=⟨0,ka,vb,a,b⟩) (Bt.blobs_lt f1 an) ai.walk ai.h_ ai.lts a6;obtain rfl:e1=e0:=Option.some.inj (a3.find.S.T hf);obtain⟨S2,a4⟩:∃S2,S2=FC S1 g 0 (v8 t (Bt.setN n0 k0 ⟨0,ka,vb,a,b⟩)):=⟨_,rfl⟩;obtain⟨i2,b2,lk,lv,d2,S3,bc,bo,bk,g3,ba,bm,bj⟩:=ai.swap an a2 a8 a3 a4;have bd:iV S (F_ (Bt.its x)) (Bt.recs x) (fun S o x L R=>Bt.Holds S o t x L R) a b 20 9 (Bt.hd x) S3:=by
    refine⟨⟨o1,_,ae ⟨d,_,bo,(Bt.mapB_hd _ x).S,bk.S,rfl⟩,fun y hy=>?_,fun y hy=>?_⟩,(g1.T g3).M o_ o_,fun y hy hz=>(ba y hy).T (ad y hz)⟩
    ·rcases bm y hy with q | rfl | rfl
     ·exact ab q
     ·exact ae n1
     ·exact ae n2
    ·by_cases hm:y∈Bt.recs (Bt.mapB (Bt.rep ⟨0,ka,vb,a,b⟩) x)
     ·exact ab hm
     ·rcases bj y hy with q | ⟨q,q2,e1,e2⟩
      ·exact ab q
      ·exact ae ⟨fun p=>q ((q1 y e1 e2).T p),q2⟩
   refine(ny h hx.fit.inv hT hpx a b au a0 true e1.v (R:=fun x' ik iv S'=>x'=Bt.hd x/\ik=e1.kh/\iv=e1.vh/\S'=S2) (R2:=fun x' S'=>iV S (F_ (Bt.its x)) (Bt.recs x) (fun S o x L R=>Bt.Holds S o t x L R) a b 20 9 x' S') rH qu (fun W Z hW _ _=>rA hW true fun V Z' hV=>?_) fun x' ik iv S' hR W Z hW hTW hZ=>?_).M ?_
   ·refine(zJ hV ai (e:=⟨0,ka,vb,a,b⟩) an a6 a3).M ?_;rintro e w' ⟨rfl,hs,hk⟩;rw[<-a4] at hs;exact⟨_,_,_,S2,rfl,hs,hk,rfl,rfl,rfl,rfl⟩
   ·obtain⟨rfl,rfl,rfl,rfl⟩:=hR;refine(xL hW i2.inv hTW hZ e1.kh e1.vh lk lv (by rw[b2];simp) d2).M ?_;rintro e w' ⟨rfl,hs,hk⟩;rw[b2];rw[<-bc] at hs;exact⟨S3,rfl,hs,hk,bd⟩
   ·rintro e w' ⟨x',S4,rfl,h1,h2,h3,h4⟩;exact⟨x',S4,rfl,h1,h2,h3,h4⟩
end
def e9(ps:Nat)(ms:List (Nat×Nat×List Nat)):List Nat:=ms.flatMap fun m=>if m.2.1=ps then m.2.2 else[]
theorem Mn(ps:Nat)(ms:List (Nat×Nat×List Nat)){j:Nat}(hj:j<ms.length):e9 ps (ms.take (j+1))=e9 ps (ms.take j)++(if ms[j].2.1=ps then ms[j].2.2 else[]):=by
 unfold e9;rw[aw hj,dD];simp
theorem Mm(ps:Nat)(ms:List (Nat×Nat×List Nat))(j:Nat):(e9 ps (ms.take j)).length<=(e9 ps ms).length:=by
 have:e9 ps ms=e9 ps (ms.take j)++e9 ps (ms.drop j):=by
  unfold e9;rw[<-dD,aU]
 rw[this,ag];omega
theorem OH:∃j,prog.info? 94=some j/\j.size≠0:=by
 have e:(prog.info? 94).map (·.size)=some 5:=k_
 cases hj:prog.info? 94 with
 | none=>rw[hj] at e;cases e
 | some j=>
  rw[hj] at e;exact⟨j,rfl,by have:j.size=5:=Option.some.inj e;omega⟩
theorem LW {a b:Nat}{ca cb:Array Value}{ta tb:TypeId}(w:World)(ha:w.1[a]?=some (.cells ca ta (0,0)))(hb:w.1[b]?=some (.cells cb tb (0,0))):
 (binOp .neq 26 (PV a) (PV b)).run prog w=.ok (.bool (decide (a≠b))) w:=by
 obtain⟨j,hj,hz⟩:=OH;have hp:=underlying26;have h:∀d:Nat,(Op.equalIn (d+1) 26 (.pointer (some (y_ a))) (.pointer (some (y_ b)))).run prog w=.ok (decide (a=b)) w:=fun d=>by
  by_cases e:a=b
  ·subst e
   simp[Op.equalIn,run_underlying hp,sizeOf,typeInfo,hj,run_sameAddr_same]
  ·have ad:((y_ a):Addr)≠(y_ b):=fun q=>e (by injection q)
   simp[Op.equalIn,run_underlying hp,sizeOf,typeInfo,hj,hz,run_sameAddr_other w ad ha hb,e]
 show (binOp .neq 26 (.pointer (some (y_ a))) (.pointer (some (y_ b)))).run prog w=_
 simp only[binOp];have h9:=h 9999
 by_cases e:a=b
 ·subst e
  simp[Op.equal,Op.maxDepth,h9]
 ·simp[Op.equal,Op.maxDepth,h9,e]
structure JM (w:World) (ps bm:Nat) (ms:List (Nat×Nat×List Nat)):Prop where
 cell:∀i (hi:i<ms.length),w.cell? (x_ bm i)=some (PV ms[i].1)
 lt:bm<w.1.size
 st:∀m∈ms,∀W,D_ w W->Ct 70 #[PV m.1] W fun e w'=>e=.returned (PV m.2.1)/\W=w'
 of:∀m∈ms,m.2.1=ps->∀W,D_ w W->Ct 36 #[PV m.1] W fun e w'=>∃v,e=.returned v/\FE w' W.1.size v m.2.2/\D_ W w'
 own:∀m∈ms,∃cs ty,w.1[m.2.1]?=some (.cells cs ty (0,0))
 hlt:∀m∈ms,∀x∈m.2.2,x<2^64
 len:(e9 ps ms).length<=10000/\ms.length<=1000
theorem JM.a_ {w W:World}{ps bm:Nat}{ms:List (Nat×Nat×List Nat)}(h:JM w ps bm ms)(hb:D_ w W):JM W ps bm ms where
 cell i hi:=(xA (hb.block bm h.lt)).T (h.cell i hi)
 lt:=aB h.lt hb.size
 st m hm V hV:=h.st m hm V (b_ hb hV)
 of m hm e V hV:=h.of m hm e V (b_ hb hV)
 own m hm:=by
  obtain⟨cs,ty,e⟩:=h.own m hm;exact⟨cs,ty,(hb.block _ (gl e)).T e⟩
 hlt:=h.hlt
 len:=h.len
theorem OG {a b:Nat}{ca cb:Array Value}{ta tb:TypeId}(w:World)(ha:w.1[a]?=some (.cells ca ta (0,0)))(hb:w.1[b]?=some (.cells cb tb (0,0))):
 (binOp .eql 26 (PV a) (PV b)).run prog w=.ok (.bool (decide (a=b))) w:=by
 obtain⟨j,hj,hz⟩:=OH;have hp:=underlying26;have h:∀d:Nat,(Op.equalIn (d+1) 26 (.pointer (some (y_ a))) (.pointer (some (y_ b)))).run prog w=.ok (decide (a=b)) w:=fun d=>by
  by_cases e:a=b
  ·subst e
   simp[Op.equalIn,run_underlying hp,sizeOf,typeInfo,hj,run_sameAddr_same]
  ·have ad:((y_ a):Addr)≠(y_ b):=fun q=>e (by injection q)
   simp[Op.equalIn,run_underlying hp,sizeOf,typeInfo,hj,hz,run_sameAddr_other w ad ha hb,e]
 show (binOp .eql 26 (.pointer (some (y_ a))) (.pointer (some (y_ b)))).run prog w=_
 simp only[binOp];have h9:=h 9999
 by_cases e:a=b
 ·subst e
  simp[Op.equal,Op.maxDepth,h9]
 ·simp[Op.equal,Op.maxDepth,h9,e]
structure Cu where
 v:Value
 h:Nat
 s:Option Nat
def NZ:Option Nat->Value
 | none=> .pointer none
 | some p=>PV p
structure NV (w:World) (c:Cu):Prop where
 key:∀W,D_ w W->Ct 114 #[c.v] W fun e w'=>∃(t:ByteArray) (g:Nat),e=.returned (.tuple #[.string t,Xi g])/\g≠1/\W=w'
 handle:∀W,D_ w W->Ct 115 #[c.v] W fun e w'=>e=.returned (Xu c.h)/\W=w'
 store:∀W,D_ w W->Ct 71 #[c.v] W fun e w'=>e=.returned (NZ c.s)/\W=w'
 own:∀p,c.s=some p->∃cs ty,w.1[p]?=some (.cells cs ty (0,0))
 has:c.h≠0->c.s≠none
 hlt:c.h<2^64
theorem NV.a_ {w W:World}{c:Cu}(h:NV w c)(hb:D_ w W):NV W c where
 key V hV:=h.key V (b_ hb hV)
 handle V hV:=h.handle V (b_ hb hV)
 store V hV:=h.store V (b_ hb hV)
 own p e:=by
  obtain⟨cs,ty,e⟩:=h.own p e;exact⟨cs,ty,(hb.block _ (gl e)).T e⟩
 has:=h.has
 hlt:=h.hlt
structure NT (w:World) (A:Option Addr) (cs:List Cu):Prop where
 cell:∀i (hi:i<cs.length),∃b o,A=some (x_ b o)/\w.cell? ⟨b,o+i,none⟩=some cs[i].v
 is:∀c∈cs,NV w c
 len:cs.length<=1000
theorem NT.nil(w:World)(A:Option Addr):NT w A []:=⟨fun i hi=>absurd hi (Nat.not_lt_zero i),fun _ h=>(nomatch h),cC _⟩
theorem NT.a_ {w W:World}{A:Option Addr}{cs:List Cu}(h:NT w A cs)(hb:D_ w W):NT W A cs where
 cell i hi:=by
  obtain⟨b,o,e,hc⟩:=h.cell i hi;exact⟨b,o,e,(hb.cell (p:=⟨b,o+i,none⟩) (cell_lt hc)).T hc⟩
 is c hc:=(h.is c hc).a_ hb
 len:=h.len
def dS(ps:Nat)(cs:List Cu):List Nat:=cs.flatMap fun c=>if c.h≠0/\c.s=some ps then[c.h] else[]
theorem Ow(ps:Nat)(cs:List Cu){j:Nat}(hj:j<cs.length):dS ps (cs.take (j+1))=dS ps (cs.take j)++(if cs[j].h≠0/\cs[j].s=some ps then[cs[j].h] else[]):=by
 unfold dS;rw[aw hj,dD];simp
theorem Oa(ps:Nat):∀cs:List Cu,(dS ps cs).length<=cs.length
 | []=>Nat.le_refl _
 | c::cs=>by
  have ih:=Oa ps cs;have h1:(if c.h≠0/\c.s=some ps then[c.h] else[]).length<=1:=by split<;>simp
  show ((if c.h≠0/\c.s=some ps then[c.h] else[])++dS ps cs).length<=_
  rw[ag,aj];omega
theorem qDgak{P:Prop}(h:P:=by
 go_wp2_with fail;refine Jc HJ.a ?_;go_wp2_with fail;refine Jc HS.O ?_;exact qDgac):P:=h
theorem qDgae{P:Prop}(h:P:=by
 go_wp2_with fail;go_roundw
 case rel=>exact⟨i+1,o_,s_,HE⟩
 case measure=>simp[intOf];omega):P:=h
theorem qDgac{P:Prop}(h:P:=by
 go_wp2_with fail;go_roundw
 case rel=>exact⟨k+1,o_,s_,HE⟩
 case measure=>simp[intOf];omega):P:=h
theorem Og {w:World}{A:Option Addr}{cs:List Cu}{ps bm cm cc:Nat}{S:St}{o:Nat->Nat}{Y:Nat->Prop}{ms:List (Nat×Nat×List Nat)}(h:Ig w ps S Y)(hf:Fw S o)(hm:JM w ps bm ms)(hcs:NT w A cs):
 Ct 67 #[PV ps,.slice (some (y_ bm)) ms.length cm,.slice A cs.length cc] w fun e w'=>e=.returned (.tuple #[.map (some w.1.size),Xi 0])/\mq w' w.1.size (e9 ps ms++dS ps cs)/\D_ w w':=by
 have bt:=fB h hf.inv 0 o_;rw[oy (rZ hf)] at bt;generalize hn:ms.length=n at*;have d6:n<=1000:=by rw[<-hn];exact hm.len.2
 obtain⟨b1,cp⟩:∃b1,w.1[ps]?=some (.cells b1 94 (0,0)):=by
  obtain⟨_,_,_,_,_,hI⟩:=id h;exact⟨_,hI.hd⟩
 have HP:=If cp;obtain⟨nc,bd⟩:=Ii cs.length;have d8:nc<=1000:=by rw[<-bd];exact hcs.len
 have HR:=kq3 bt hm hn;have HC:=kq2 hcs bd;rw[bd];clear cp bt hm hn h hf hcs bd;go_enter func67,ntmps67;go_wp2_with fail;refine Jc HR.a ?_;go_wp2_with fail
 go_loopw [11,34] (fun _ s34 wr=>∃j:Nat,j<=n/\s34=Xi j/\wr=w) (fun _ s34 _=>n-(intOf s34).toNat)
 case atStart=>exact⟨0,o_,rfl,rfl⟩
 case round=>
  obtain⟨j,d5,rfl,hw⟩:=hrel;have hw:=hw.S;subst hw
  by_cases hlt:j<n
  ·have bu:(j:Int)<n:=o_
   have cb:j<ms.length:=by rw[HR.c];exact hlt
   have d0:=HR.b.cell j cb;have cq:=HR.b.st ms[j] (ao _) _ (aa _ _);generalize ms[j].1=pj at*;generalize ms[j].2.1=qj at*;have HS:=If cq;clear cq cb;go_wp2_with fail;refine Jc HS.O ?_;go_wp2_with fail;go_roundw
   case rel=>exact⟨j+1,o_,s_,s_⟩
   case measure=>simp[intOf];omega
  ·obtain rfl:j=n:=o_
   have bu:¬(j:Int)<j:=o_
   go_wp2_with fail
   go_loopw [13,14,15,44] (fun _ _ _ s44 wq=>∃i:Nat,i<=nc/\s44=Xi i/\wq=w) (fun _ _ _ s44 _=>nc-(intOf s44).toNat)
   case atStart=>exact⟨0,o_,rfl,rfl⟩
   obtain⟨i,d4,rfl,hw⟩:=hrel;have hw:=hw.S;subst hw
   by_cases hic:i<nc
   ·have d2:(i:Int)<nc:=o_
    have au:i<cs.length:=by rw[HC.b];exact hic
    obtain⟨bc,oc,rfl,bo⟩:=HC.a.cell i au;have cj:=(HC.a.is cs[i] (ao _)).key _ (aa _ _);generalize cs[i].v=vc at*;have HS:=If cj;clear cj au;go_wp2_with fail;refine HS.O.M ?_;rintro e w1 ⟨t,g,rfl,hg,rfl⟩;have d1:¬((g:Int)=1):=o_
    go_wp2_with fail;go_roundw
    case rel=>exact⟨i+1,o_,s_,s_⟩
    case measure=>simp[intOf];omega
   have c4:i=nc:=o_
   subst c4;obtain⟨nz,c'⟩:∃nz,nz=i:=⟨_,rfl⟩;subst c';have ds:¬(nz:Int)<nz:=o_
   clear hic;have c9:= @run_makeMap prog;go_wp2_with fail;clear c9;have c0:=mq.made w;have B0:D_ w (w.alloc (.map #[] 0)):=(aa _ _).alloc Ih _;generalize cw:w.alloc (.map #[] 0)=W0 at*;have H0:=kq2 c0 B0;clear c0 B0 cw
   go_loopw [18,20,60,69,70,71] (fun _ _ s60 _ _ _ wx=>∃i:Nat,i<=j/\s60=Xi i/\Hid (mq wx w.1.size (e9 ps (ms.take i))/\D_ w wx)) (fun _ _ s60 _ _ _ _=>j-(intOf s60).toNat)
   case atStart=>exact⟨0,o_,rfl,H0.a,H0.b⟩
   case round=>
    obtain⟨i,d3,rfl,I⟩:=hrel;obtain⟨wx,dk⟩:∃wx,wx=wr:=⟨_,rfl⟩;subst dk
    by_cases hlt:i<j
    ·have bu:(i:Int)<j:=o_
     have au:i<ms.length:=by rw[HR.c];exact hlt
     have hM:=HR.b.a_ I.O.2;have b4:=hM.cell i au;have a7:=ao au;obtain⟨dp,dn,a2⟩:=hM.own ms[i] a7;have a1:=(I.O.2.block ps (gl HP.O)).T HP.O;have a8:=LW wx a2 a1;have bj:=hM.st ms[i] a7 _ (aa _ _);have bf:=hM.of ms[i] a7;have bb:=hM.hlt ms[i] a7;have a':=Mn ps ms au;have cx:=Mm ps ms (i+1);have c3:=hM.len.1;obtain⟨⟨pi,qi,Li⟩,ck⟩:∃x,ms[i]=x:=⟨_,rfl⟩;rw[ck] at b4 bj bf bb a' a8;simp only at b4 bj bf bb a' a8;have HS:=kq5 bj bf bb a' (by omega:(e9 ps (ms.take (i+1))).length<=10000);clear bj bf bb a' cx c3 hM a7 au ck a2 a1
     by_cases hq:qi=ps
     ·subst hq;rw[decide_eq_false s_] at a8;go_wp2_with fail;refine Jc HS.a ?_;go_wp2_with fail;clear a8;refine(HS.b trivial _ (aa _ _)).M ?_;rintro e w2 ⟨v0,rfl,bv,bk⟩;obtain⟨A0,c0,rfl⟩:=bv.E_;have ch:mq w2 w.1.size (e9 qi (ms.take i)):=I.O.1.kept (bk.block _ I.O.1.lt);have B2:=b_ I.O.2 bk;have cv:=I.O.1.lt;generalize hL:Li.length=n at*;have d7:n<=10000:=by
       have:=HS.e;rw[HS.d,if_pos trivial,ag] at this;omega
      have HV:=kq5 bv ch B2 hL cv;clear bv bk ch B2 hL cv I;go_wp2_with fail
      go_loopw [20,71] (fun _ s71 wz=>∃k:Nat,k<=n/\s71=Xi k/\Hid (mq wz w.1.size (e9 qi (ms.take i)++Li.take k)/\D_ w wz/\FE wz wx.1.size (.slice A0 n c0) Li)) (fun _ s71 _=>n-(intOf s71).toNat)
      case atStart=>exact⟨0,o_,rfl,by rw[bW,aW];exact HV.b,HV.c,HV.a⟩
      case round=>
       obtain⟨k,c5,rfl,J⟩:=hrel;obtain⟨wz,bx⟩:∃wz,wz=wr:=⟨_,rfl⟩;subst bx
       by_cases hkl:k<n
       ·have bs:(k:Int)<n:=o_
        have ai:k<Li.length:=by rw[HV.d];exact hkl
        obtain⟨b,c,e,hb,hc⟩:=J.O.2.2.cell_at ai
        injection e with e1 e2 e3
        subst e1;have b0:=HS.c _ (ao ai);have b9:e9 qi (ms.take i)++Li.take (k+1)=(e9 qi (ms.take i)++Li.take k)++[Li[k]]:=by rw[aw ai,aV]
        have a0:(e9 qi (ms.take i)++Li.take k).length<=10000:=by
         have:=HS.e;rw[HS.d,if_pos trivial,ag] at this;rw[ag,aK];omega
        generalize Li[k]=x at*;have c7:=J.O.1.look x b0;obtain⟨w3,dc,a6,ad⟩:=J.O.1.store x b0 o_;have bq:(e9 qi (ms.take i)++Li.take k).count x<=(e9 qi (ms.take i)++Li.take k).length:=List.count_le_length;generalize (e9 qi (ms.take i)++Li.take k).count x=cn at*;have dd:IntKind.i64.wrap ((cn:Int)+1)=(cn:Int)+1:=ax _ o_;have a3:D_ w w3:=J.O.2.1.T ⟨ad.os,ad.tape,ad.output,ad.size,fun k hk=>ad.block k (aB hk J.O.2.1.size) fun e=>by
         have e:k=w.1.size:=Option.some.inj e;omega⟩
        have b2:FE w3 wx.1.size (.slice (some (y_ b)) n c0) Li:=J.O.2.2.at fun g e=>ad.block g (J.O.2.2.ge g e).2 fun q=>by
         have q:g=w.1.size:=Option.some.inj q;have:=(J.O.2.2.ge g e).1;have:=HV.e;omega
        have HE:Hid (mq w3 w.1.size (e9 qi (ms.take i)++Li.take (k+1))/\D_ w w3/\FE w3 wx.1.size (.slice (some (y_ b)) n c0) Li):=⟨by rw[b9];exact a6,a3,b2⟩;clear a6 ad a3 b2 b9 a0 bq b0 hb e2 e3 J ai;exact qDgac
       ·obtain rfl:k=n:=o_
        have bs:¬(k:Int)<k:=o_
        have HE:Hid (mq wz w.1.size (e9 qi (ms.take (i+1)))/\D_ w wz):=⟨by
         rw[HS.d,if_pos trivial];have ht:Li.take k=Li:=aQ (by rw[HV.d];exact Nat.le_refl _);rw[<-ht];exact J.O.1,J.O.2.1⟩
        clear J;exact qDgae
     ·have HE:Hid (mq wx w.1.size (e9 ps (ms.take (i+1)))/\D_ w wx):=⟨by
       rw[HS.d,if_neg hq,aW];exact I.O.1,I.O.2⟩
      clear I;rw[decide_eq_true hq] at a8;go_wp2_with fail;refine Jc HS.a ?_;exact qDgae
    ·obtain rfl:i=j:=o_
     have bu:¬(i:Int)<i:=o_
     have HE:Hid (mq wx w.1.size (e9 ps ms)/\D_ w wx):=⟨by
      have:=I.O.1;rwa[aQ (by rw[HR.c];exact Nat.le_refl _)] at this,I.O.2⟩
     clear I;go_wp2_with fail
     go_loopw [22,23,83] (fun _ _ s83 wq=>∃k:Nat,k<=nz/\s83=Xi k/\Hid (mq wq w.1.size (e9 ps ms++dS ps (cs.take k))/\D_ w wq)) (fun _ _ s83 _=>nz-(intOf s83).toNat)
     case atStart=>exact⟨0,o_,rfl,by rw[bW];show mq _ _ (e9 ps ms++[]);rw[aW];exact HE.O.1,HE.O.2⟩
     case round=>
      obtain⟨k,c5,rfl,J⟩:=hrel;obtain⟨wz,bx⟩:∃wz,wz=wr:=⟨_,rfl⟩;subst bx
      by_cases hkl:k<nz
      ·have bs:(k:Int)<nz:=o_
       have ai:k<cs.length:=by rw[HC.b];exact hkl
       have hC:=HC.a.a_ J.O.2;obtain⟨bc,oc,rfl,bo⟩:=hC.cell k ai;have an:=hC.is cs[k] (ao _);have ap:=Ow ps cs ai;have a0:(e9 ps ms++dS ps (cs.take k)).length<100000:=by
        have h1:=HR.b.len.1;have h2:=Oa ps (cs.take k);rw[aK] at h2;rw[ag];omega
       obtain⟨⟨vc,hh,st⟩,ba⟩:∃x,cs[k]=x:=⟨_,rfl⟩;rw[ba] at bo an ap;simp only at bo ap;have a5:=an.handle _ (aa _ _);have ar:=an.store _ (aa _ _);have hlt:=an.hlt;have a4:=an.has;have a9:=an.own;simp only at a5 ar hlt a4 a9;have HJ:=kq3 a5 ar J.O
       by_cases h0:hh=0
       ·subst h0;have HE:Hid (mq wz w.1.size (e9 ps ms++dS ps (cs.take (k+1)))/\D_ w wz):=⟨by
         rw[ap,if_neg (fun q=>q.1 rfl),aW];exact J.O.1,J.O.2⟩
        clear a5 ar hlt a4 a9 an ap a0 ba hC J ai;go_wp2_with fail;refine Jc HJ.a ?_;exact qDgac
       ·have dv:¬((hh:Int)=0):=o_
        obtain⟨q,rfl⟩:=bH.1 (a4 h0);obtain⟨ca,dn,a2⟩:=a9 q rfl;have a1:=(J.O.2.block ps (gl HP.O)).T HP.O;have b':=OG wz a2 a1;simp only[NZ] at ar
        by_cases hq:q=ps
        ·subst hq;rw[decide_eq_true rfl] at b';have c7:=J.O.1.look hh hlt;obtain⟨w3,dc,a6,ad⟩:=J.O.1.store hh hlt a0;have bq:(e9 q ms++dS q (cs.take k)).count hh<=(e9 q ms++dS q (cs.take k)).length:=List.count_le_length;generalize (e9 q ms++dS q (cs.take k)).count hh=cn at*;have dd:IntKind.i64.wrap ((cn:Int)+1)=(cn:Int)+1:=ax _ o_;have a3:D_ w w3:=J.O.2.T ⟨ad.os,ad.tape,ad.output,ad.size,fun k hk=>ad.block k (aB hk J.O.2.size) fun e=>by
          have e:k=w.1.size:=Option.some.inj e;omega⟩
         have HE:Hid (mq w3 w.1.size (e9 q ms++dS q (cs.take (k+1)))/\D_ w w3):=⟨by
          rw[ap,if_pos ⟨h0,rfl⟩,<-aV];exact a6,a3⟩
         have HS:=If ar;clear a5 ar hlt a4 a9 an ap a0 ba hC J ai a6 ad a3 bq a2 a1;exact qDgak
        ·rw[decide_eq_false hq] at b';have HE:Hid (mq wz w.1.size (e9 ps ms++dS ps (cs.take (k+1)))/\D_ w wz):=⟨by
          rw[ap,if_neg (fun z=>hq (Option.some.inj z.2)),aW];exact J.O.1,J.O.2⟩
         have HS:=If ar;clear a5 ar hlt a4 a9 an ap a0 ba hC J ai a2 a1;exact qDgak
      ·have c6:k=nz:=o_
       subst c6;have bs:¬(k:Int)<k:=o_
       have HF:Hid (mq wz w.1.size (e9 ps ms++dS ps cs)/\D_ w wz):=⟨by
        have:=J.O.1;rwa[aQ (by rw[HC.b];exact Nat.le_refl _)] at this,J.O.2⟩
       clear J;go_wp2_with fail;go_ret2;exact⟨rfl,HF.O.1,HF.O.2⟩
theorem Fw.all_lt {S:St}{o:Nat->Nat}(hf:Fw S o){x:Nat}(hx:x∈S.all):x<2^64:=by
 obtain⟨ws,hw⟩:=bH.1 ((hf.mem_all x).1 hx);exact(fL hf hw).2.1
def mn(ks l:List Nat):List Nat:=l.filter fun x=>decide (x∉ks)
theorem LM(ks l:List Nat){j:Nat}(hj:j<l.length):mn ks (l.take (j+1))=if l[j]∈ks then mn ks (l.take j) else mn ks (l.take j)++[l[j]]:=by
 unfold mn;rw[aw hj,List.filter_append]
 by_cases h:l[j]∈ks
 ·rw[if_pos h,List.filter_cons_of_neg (by simp[h])]
  simp
 ·rw[if_neg h,List.filter_cons_of_pos (by simp[h])]
  simp
theorem qDgaj{P:Prop}(h:P:=by
 go_roundw
 case rel=>exact⟨j+1,o_,s_,HE⟩
 case measure=>simp[intOf];omega):P:=h
theorem Oh {w:World}{A:Option Addr}{cs:List Cu}{ps bm cm cc:Nat}{S:St}{o:Nat->Nat}{Y:Nat->Prop}{ms:List (Nat×Nat×List Nat)}(h:Ig w ps S Y)(hf:Fw S o)(hm:JM w ps bm ms)(hcs:NT w A cs):
 Ct 32 #[PV ps,.slice (some (y_ bm)) ms.length cm,.slice A cs.length cc] w fun e w'=>∃v,e=.returned v/\FE w' w.1.size v (mn (e9 ps ms++dS ps cs) S.all)/\D_ w w':=by
 have a3:=Og (cm:=cm) (cc:=cc) h hf hm hcs;have au:∀W,D_ w W->Ct 33 #[PV ps] W _:=fun W hW=>KQ (h.a_ hW) hf;have bk:S.all.length<=65536:=by rw[Kc];exact aH hf.live_le (aH hf.tab.len hf.tab.most.2)
 have hlt:=fun x (hx:x∈S.all)=>hf.all_lt hx;generalize hn:S.all.length=n at*;generalize ms.length=m at*;generalize cs.length=mc at*;have HR:=kq4 a3 au hlt hn;clear a3 au hlt hn h hf hm hcs;go_enter func32,ntmps32;go_wp2_with fail;refine HR.a.M ?_;rintro e w1 ⟨rfl,a4,a0⟩;have H1:=kq2 a4 a0;clear a4 a0;go_wp2_with fail;refine(HR.b _ H1.b).M ?_;rintro e w2 ⟨v0,rfl,ar,ai⟩;obtain⟨A0,c0,rfl⟩:=ar.E_;have a5:mq w2 w.1.size (e9 ps ms++dS ps cs):=H1.a.kept (ai.block _ H1.a.lt);have HV:=kq5 ar (b_ H1.b ai) a5 H1.b.size ai.size;clear ar ai a5 H1;have hn:=HR.d;rw[hn];have HN:=If hn;clear hn;go_wp2_with fail
 go_loopw [9,11,24] (fun s9 _ s24 wr=>∃j:Nat,j<=n/\s24=Xi j/\Hid (FE wr w2.1.size s9 (mn (e9 ps ms++dS ps cs) (S.all.take j))/\D_ w2 wr)) (fun _ _ s24 _=>n-(intOf s24).toNat)
 case atStart=>exact⟨0,o_,rfl,World.ownsRow_nil _ _ _ _,aa _ _⟩
 case round=>
  obtain⟨j,bf,rfl,I⟩:=hrel
  by_cases hjl:j<n
  ·have bb:(j:Int)<n:=o_
   have ap:j<S.all.length:=by rw[HN.O];exact hjl
   have a9:FE wr w1.1.size (.slice A0 S.all.length c0) S.all:=HV.a.at fun g e=>I.O.2.block g (HV.a.ge g e).2;obtain⟨b,c,e,hb,hc⟩:=a9.cell_at ap
   injection e with e1 e2 e3
   subst e1;have a':=HR.c _ (ao ap);have a2:=LM (e9 ps ms++dS ps cs) S.all ap;have a7:(mn (e9 ps ms++dS ps cs) (S.all.take j)).length<=100000:=by
    have:=List.length_filter_le (fun x=>decide (x∉(e9 ps ms++dS ps cs))) (S.all.take j);rw[aK] at this;unfold mn;omega
   have a6:mq wr w.1.size (e9 ps ms++dS ps cs):=HV.c.kept (I.O.2.block _ HV.c.lt);have bj:=a6.look _ a';have an:(e9 ps ms++dS ps cs).count S.all[j]=0↔S.all[j]∉(e9 ps ms++dS ps cs):=dI;generalize S.all[j]=x at*;generalize ba:(e9 ps ms++dS ps cs).count x=cn at*;clear ba;have HM:=kq4 a2 a7 I.O.1 I.O.2;clear a2 a7 a9 hb e2 e3 I a6 a' ap
   by_cases hx:x∈(e9 ps ms++dS ps cs)
   ·have a1:¬((cn:Int)=0):=fun q=>(an.1 o_) hx;have HE:Hid (FE wr w2.1.size u9 (mn (e9 ps ms++dS ps cs) (S.all.take (j+1)))/\D_ w2 wr):=⟨by rw[HM.a,if_pos hx];exact HM.c,HM.d⟩;clear HM an hx;go_wp2_with fail;exact qDgaj
   ·have a1:cn=0:=an.2 hx;subst a1;obtain⟨v2,w3,bc,a8,ad,bd⟩:=jF HM.c HM.b x HM.d.size 59;have HE:Hid (FE w3 w2.1.size v2 (mn (e9 ps ms++dS ps cs) (S.all.take (j+1)))/\D_ w2 w3):=⟨by rw[HM.a,if_neg hx];exact a8,HM.d.T ⟨ad.os,ad.tape,ad.output,ad.size,fun k hk=>ad.block k (aB hk HM.d.size) fun e=>by
     have:=(HM.c.ge k e.S).1;omega⟩⟩
    clear a8 ad bd an hx
    go_wp2_with (at_builtin;refine Lib.wpList_append_run _ rfl _ _ _ _ rfl _ _ rfl rfl _ _ bc ?_)
    exact qDgaj
  ·obtain rfl:j=n:=o_
   have bb:¬(j:Int)<j:=o_
   have hs:=HV.b.size;have HE:Hid (FE wr w.1.size u9 (mn (e9 ps ms++dS ps cs) S.all)/\D_ w wr):=⟨by
    have e:S.all.take j=S.all:=aQ (by rw[HN.O];exact Nat.le_refl _);rw[<-e];exact FE.base2 I.O.1 hs,HV.b.T (I.O.2.M hs)⟩
   clear I;go_wp2_with fail;go_ret;exact⟨_,rfl,HE.O.1,HE.O.2⟩
def NU(w:World)(ps:Nat)(S:St)(ms:List (Nat×Nat×List Nat))(cs:List Cu)(r:Nat):Prop:=
 (r=2/\((∃m∈ms,m.2.1≠ps)\/∃c∈cs,∃q,c.s=some q/\q≠ps))\/
 ((∀m∈ms,m.2.1=ps)/\(∀c∈cs,∀q,c.s=some q->q=ps)/\
  (∀m∈ms,∃px:Nat,(∀W,D_ w W->Ct 23 #[PV m.1] W fun e w'=>e=.returned (PV px)/\W=w')/\∀W,D_ w W->Ct 56 #[PV px] W fun e w'=>e=.returned (Xi 0)/\D_ W w')/\
  ((r=0/\(∀x∈S.all,(e9 ps ms++dS ps cs).count x=1)/\∀x∈e9 ps ms++dS ps cs,x∈S.all)\/(r=8/\∃x∈S.all,(e9 ps ms++dS ps cs).count x≠1)))
theorem qDgan{P:Prop}(h:P:=by
 go_wp2_with fail;refine Jc HS.a ?_;go_wp2_with fail;go_ret;exact⟨rfl,H1.a⟩):P:=h
theorem Oe {w:World}{A:Option Addr}{cs:List Cu}{ps bm cm cc:Nat}{S:St}{o:Nat->Nat}{Y:Nat->Prop}{ms:List (Nat×Nat×List Nat)}(h:Ig w ps S Y)(hf:Fw S o)(hm:JM w ps bm ms)(hcs:NT w A cs){r:Nat}(hr:NU w ps S ms cs r):
 Cb 34 #[PV ps,.slice (some (y_ bm)) ms.length cm,.slice A cs.length cc] w (Xi r):=by
 have ba:=Og (cm:=cm) (cc:=cc) h hf hm hcs;have bs:∀W,D_ w W->Ct 33 #[PV ps] W _:=fun W hW=>KQ (h.a_ hW) hf;have hlt:=fun x (hx:x∈S.all)=>hf.all_lt hx;have dc:S.all.length<=65536:=by rw[Kc];exact aH hf.live_le (aH hf.tab.len hf.tab.most.2)
 have b0:=hf.all_nodup;obtain⟨bo,b1⟩:∃bo,w.1[ps]?=some (.cells bo 94 (0,0)):=by
  obtain⟨_,_,_,_,_,hI⟩:=id h;exact⟨_,hI.hd⟩
 have dd:ms.length<=1000:=hm.len.2;generalize hn:ms.length=n at*;generalize hk:S.all.length=nk at*;obtain⟨nc,a3⟩:=Ii cs.length;rw[a3] at ba;have HC:=kq2 hcs a3;rw[a3];have dk:nc<=1000:=by rw[<-a3];exact hcs.len
 have HR:=kq4 ba hm hn b1;have HA:=kq5 hr bs hlt b0 hk;clear ba hn h hf hm b1 hr bs hlt b0 hk hcs a3;go_enter func34,ntmps34;go_wp2_with fail;refine HR.a.M ?_;rintro e w1 ⟨rfl,bv,bt⟩;have H1:=kq2 bt bv;clear bt bv;go_wp2_with fail
 go_loopw [10,31] (fun _ s31 wr=>∃j:Nat,j<=n/\s31=Xi j/\Hid ((∀i (hi:i<ms.length),i<j->ms[i].2.1=ps)/\wr=w1)) (fun _ s31 _=>n-(intOf s31).toNat)
 case atStart=>exact⟨0,o_,rfl,fun i _ q=>absurd q o_,rfl⟩
 case round=>
  obtain⟨j,c7,rfl,I⟩:=hrel;have hw:=I.O.2.S;subst hw
  by_cases hlt:j<n
  ·have cj:(j:Int)<n:=o_
   have a5:j<ms.length:=by rw[HR.c];exact hlt
   have hM:=HR.b.a_ H1.a;have c4:=hM.cell j a5;have ad:=ao a5;have bj:=hM.st ms[j] ad _ (aa _ _);obtain⟨cv,cq,a0⟩:=hM.own ms[j] ad;have au:=(H1.a.block ps (gl HR.d)).T HR.d;have a4:=LW w1 a0 au;have a':ms[j].2.1=ps->∀i (hi:i<ms.length),i<j+1->ms[i].2.1=ps:=fun q i hi b9=>by
    by_cases e:i=j
    ·subst e;exact q
    ·exact I.O.1 i hi o_
   have ap:ms[j].2.1≠ps->r=2:=fun q=>by
    rcases HA.a with z | z
    ·exact z.1
    ·exact absurd (z.1 _ ad) q
   clear I;generalize ms[j].1=pj at*;generalize ms[j].2.1=qj at*;have HS:=kq2 bj a'
   by_cases hq:qj=ps
   ·subst hq;rw[decide_eq_false s_] at a4;clear bj a' a5 hM ad a0 au ap;go_wp2_with fail;refine Jc HS.a ?_;go_wp2_with fail;go_roundw
    case rel=>exact⟨j+1,o_,s_,HS.b trivial,s_⟩
    case measure=>simp[intOf];omega
   ·rw[decide_eq_true hq] at a4;have ap:=ap hq;subst ap;clear bj a' a5 hM ad a0 au;exact qDgan
  ·obtain rfl:j=n:=o_
   have cj:¬(j:Int)<j:=o_
   have bx:∀m∈ms,m.2.1=ps:=fun m hm=>by
    obtain⟨i,hi,e⟩:=bK.1 hm;have:=HR.c;exact e▸I.O.1 i hi o_
   have b2:=If bx;clear bx I;go_wp2_with fail
   go_loopw [12,13,42] (fun _ _ s42 wq=>∃i:Nat,i<=nc/\s42=Xi i/\Hid ((∀k (hk:k<cs.length),k<i->∀q,cs[k].s=some q->q=ps)/\wq=w1)) (fun _ _ s42 _=>nc-(intOf s42).toNat)
   case atStart=>exact⟨0,o_,rfl,fun i _ q=>absurd q o_,rfl⟩
   obtain⟨i,c6,rfl,J⟩:=hrel;have hw:=J.O.2.S;subst hw
   by_cases hic:i<nc
   ·have c5:(i:Int)<nc:=o_
    have an:i<cs.length:=by rw[HC.b];exact hic
    have hC:=HC.a.a_ H1.a;obtain⟨bc,oc,rfl,cx⟩:=hC.cell i an;have ad:=ao an;have a2:=hC.is cs[i] ad;have ar:=a2.store _ (aa _ _);have a7:=a2.own;have ai:(∀q,cs[i].s=some q->q=ps)->∀k (hk:k<cs.length),k<i+1->∀q,cs[k].s=some q->q=ps:=fun z k hk hki=>by
     by_cases e:k=i
     ·subst e;exact z
     ·exact J.O.1 k hk o_
    have bf:∀q,cs[i].s=some q->q≠ps->r=2:=fun q e z=>by
     rcases HA.a with y | y
     ·exact y.1
     ·exact absurd (y.2.1 _ ad q e) z
    have au:=(H1.a.block ps (gl HR.d)).T HR.d;clear J;generalize cs[i].v=vc at*
    cases hse:cs[i].s with
    | none=>
     rw[hse] at ar ai;simp only[NZ] at ar;have HS:=kq2 ar (ai fun q e=>nomatch e);clear ar a7 bf ai a2 ad hC an au hse;go_wp2_with fail;refine Jc HS.a ?_;go_wp2_with fail;go_roundw
     case rel=>exact⟨i+1,o_,s_,HS.b,s_⟩
     case measure=>simp[intOf];omega
    | some q=>
     obtain⟨ca,cq,a0⟩:=a7 q hse;have a4:=LW w1 a0 au;have ap:=bf q hse;clear bf;rw[hse] at ar ai;simp only[NZ] at ar;have HS:=kq2 ar ai
     by_cases hq:q=ps
     ·subst hq;rw[decide_eq_false s_] at a4;clear ar a7 ap ai a2 ad hC an au hse a0;go_wp2_with fail;refine Jc HS.a ?_;go_wp2_with fail;go_roundw
      case rel=>exact⟨i+1,o_,s_,HS.b fun z e=>(Option.some.inj e).S,s_⟩
      case measure=>simp[intOf];omega
     ·rw[decide_eq_true hq] at a4;have ap:=ap hq;subst ap;clear ar a7 ai a2 ad hC an au hse a0;exact qDgan
   have b':i=nc:=o_
   subst b';obtain⟨nz,ck⟩:∃nz,nz=i:=⟨_,rfl⟩;subst ck;have cw:¬(nz:Int)<nz:=o_
   have bq:(∀m∈ms,∃px:Nat,(∀W,D_ w W->Ct 23 #[PV m.1] W fun e w'=>e=.returned (PV px)/\W=w')/\∀W,D_ w W->Ct 56 #[PV px] W fun e w'=>e=.returned (Xi 0)/\D_ W w')/\((r=0/\(∀x∈S.all,(e9 ps ms++dS ps cs).count x=1)/\∀x∈e9 ps ms++dS ps cs,x∈S.all)\/(r=8/\∃x∈S.all,(e9 ps ms++dS ps cs).count x≠1)):=by
    rcases HA.a with⟨_,⟨m,hm,bd⟩ | ⟨c,hc,q,e,bd⟩⟩ | ⟨_,_,z⟩
    ·exact absurd (b2.O m hm) bd
    ·obtain⟨k,hk,e2⟩:=bK.1 hc;have:=HC.b;exact absurd (J.O.1 k hk o_ q (e2▸e)) bd
    ·exact z
   have a9:=If bq;clear hic J bq;go_wp2_with fail
   go_loopw [15,58] (fun _ s58 wq=>∃i:Nat,i<=j/\s58=Xi i/\Hid (D_ w1 wq)) (fun _ s58 _=>j-(intOf s58).toNat)
   case atStart=>exact⟨0,o_,rfl,aa _ _⟩
   case round=>
    obtain⟨i,b9,rfl,I⟩:=hrel
    by_cases hli:i<j
    ·have ch:(i:Int)<j:=o_
     have an:i<ms.length:=by rw[HR.c];exact hli
     have hB:=b_ H1.a I.O;have c3:=(HR.b.a_ hB).cell i an;obtain⟨px,ht,hc⟩:=a9.O.1 ms[i] (ao an);have ht:=ht _ hB;have hc:=hc _ hB;generalize ms[i].1=pi at*;have HS:=kq3 ht hc I.O;clear ht hc I hB an;go_wp2_with fail;refine Jc HS.a ?_;go_wp2_with fail;refine dR HS.b fun w2 a1=>?_;have HE:=If (b_ HS.c a1);clear a1 HS;exact qDgae
    ·obtain rfl:i=j:=o_
     have ch:¬(i:Int)<i:=o_
     have HB:=If (b_ H1.a I.O);have HC:Hid (mq wr w.1.size (e9 ps ms++dS ps cs)):=If (H1.b.kept (I.O.block _ H1.b.lt));clear I;go_wp2_with fail;refine(HA.b _ HB.O).M ?_;rintro e w2 ⟨v0,rfl,bk,a1⟩;obtain⟨A0,c0,rfl⟩:=bk.E_;have bb:mq w2 w.1.size (e9 ps ms++dS ps cs):=HC.O.kept (a1.block _ HC.O.lt);have bu:=b_ HB.O a1;obtain⟨ds,d1,d2,d3⟩:=bb.len 3;have hn:=HA.e;have HV:=kq5 bk bb bu d1 d2;clear bk a1 bb bu HB HC d1 d2;rw[hn];have HN:=If hn;clear hn;go_wp2_with fail
     go_loopw [18,71] (fun _ s71 wq=>∃k:Nat,k<=nk/\s71=Xi k/\Hid ((∀z (hz:z<S.all.length),z<k->(e9 ps ms++dS ps cs).count S.all[z]=1)/\wq=w2)) (fun _ s71 _=>nk-(intOf s71).toNat)
     case atStart=>exact⟨0,o_,rfl,fun z _ q=>absurd q o_,rfl⟩
     case round=>
      obtain⟨k,c9,rfl,J⟩:=hrel;have hw:=J.O.2.S;subst hw
      by_cases hkl:k<nk
      ·have cb:(k:Int)<nk:=o_
       have a6:k<S.all.length:=by rw[HN.O];exact hkl
       obtain⟨b,c,e,hb,hc⟩:=HV.a.cell_at a6
       injection e with e1 e2 e3
       subst e1;have c':=HV.b.look _ (HA.c _ (ao a6));have ai:(e9 ps ms++dS ps cs).count S.all[k]=1->∀z (hz:z<S.all.length),z<k+1->(e9 ps ms++dS ps cs).count S.all[z]=1:=fun q z hz hzk=>by
        by_cases e:z=k
        ·subst e;exact q
        ·exact J.O.1 z hz o_
       have ad:=ao a6;have a8:(e9 ps ms++dS ps cs).count S.all[k]≠1->r=8:=fun q=>by
        rcases a9.O.2 with⟨_,q2,_⟩ | ⟨q2,_⟩
        ·exact absurd (q2 _ ad) q
        ·exact q2
       clear J hb e2 e3;generalize S.all[k]=x at*;generalize (e9 ps ms++dS ps cs).count x=cn at*;have HJ:=kq2 ai a8;clear ai a8 ad a6
       by_cases hx:cn=1
       ·subst hx;go_wp2_with fail;go_roundw
        case rel=>exact⟨k+1,o_,s_,HJ.a rfl,s_⟩
        case measure=>simp[intOf];omega
       ·have dn:¬((cn:Int)=1):=o_
        have a8:=HJ.b hx;subst a8;go_wp2_with fail;go_ret;exact⟨rfl,HV.c⟩
      ·obtain rfl:k=nk:=o_
       have cb:¬(k:Int)<k:=o_
       have cp:r=0/\ds.length=k:=by
        rcases a9.O.2 with⟨q1,q2,q3⟩ | ⟨_,x,hx,q⟩
        ·refine⟨q1,?_⟩;have l1:=HV.d.length_le_of_subset (l₂:=S.all) fun z hz=>q3 z ((HV.e z).1 hz);have l2:=HA.d.length_le_of_subset (l₂:=ds) fun z hz=>(HV.e z).2 (by
          have:=q2 z hz;exact List.count_pos_iff.1 o_)
         rw[HN.O] at l1 l2;omega
        ·exfalso
         obtain⟨i,hi,e⟩:=bK.1 hx;have:=HN.O;exact q (e▸J.O.1 i hi o_)
       obtain⟨rfl,b4⟩:=cp;rw[b4] at d3;clear J;go_wp2_with fail;go_ret;exact⟨rfl,HV.c⟩
theorem qDgal{P:Prop}(h:P:=by
 go_wp2_with fail
 go_end0
 exact⟨rfl,I.O⟩):P:=h
theorem MM {p:SP}{w:World}(h:PX p w){a z:Nat}(hz:z<=p.n)(haz:a<z):Ct 269 #[b8 p,Xi a,Xi z] w fun e w'=>e=.returned (.tuple #[])/\PX p w':=by
 have H:=If h;have big:=p.big;unfold b8;clear h;go_enter func269,ntmps269;go_wp2_with fail
 go_loopw [6,7] (fun s6 s7 wr=>∃i j:Nat,s6=Xi i/\s7=Xi j/\j<z/\i<=z/\Hid (PX p wr)) (fun s6 _ _=>z-(intOf s6).toNat)
 case atStart=>exact⟨a,z-1,rfl,by congr 1;omega,o_,o_,H⟩
 case round=>
  obtain⟨i,j,rfl,rfl,hj,hi,I⟩:=hrel
  by_cases hlt:(i:Int)<j
  ·obtain⟨k,rfl⟩:∃k,j=k+1:=⟨j-1,o_⟩;obtain⟨g,cw,fw,hs⟩:=PX.open (I.O);have ad:=If (hs i (k+1) o_ o_);clear hs;go_wp2_with fail
   go_region
   go_wp2_with fail;go_roundw
   case rel=>exact⟨i+1,k,s_,s_,o_,o_,ad.O _⟩
   case measure=>simp[intOf];omega
  ·exact qDgal
theorem Ln {p:SP}{w:World}(h:PX p w){lo hi first:Nat}(hl:lo<=hi)(hf:first+hi<=p.n):Ct 276 #[b8 p,Xi lo,Xi hi,Xi first] w fun e w'=>e=.returned (.tuple #[])/\PX p w':=by
 have H:=If h;have big:=p.big;unfold b8;clear h;go_enter func276,ntmps276;go_wp2_with fail
 go_loopg [8,9] (hi-lo) (fun k s8 _ wr=>∃r:Nat,s8=Xi r/\r<=hi/\hi-r<=k/\Hid (PX p wr))
 case atStart=>exact⟨lo,rfl,hl,Nat.le_refl _,H⟩
 case round=>
  obtain⟨r,rfl,hr,ap,I⟩:=hrel
  by_cases h0:(hi:Int)<=2*r+1
  ·exact qDgal
  ·obtain⟨g,cw,fw,hs⟩:=PX.open (I.O);clear hs
   go_upto_region 3 with fail
   go_cut [36] from 11 to 75 (fun s36 wx=>∃b:Bool,s36=.bool b/\(b=true->2*r+1+1<hi)/\Hid (PX p wx))
   case first=>
    by_cases h1:2*(r:Int)+1+1<hi
    ·go_quiet (exact mW _ _ _ _)
     go_wp2_with fail
     go_meet
     exact⟨_,rfl,fun _=>by omega,I.O.draws _⟩
    ·have hz:decide (2*(r:Int)+1+1<hi)=false:=decide_eq_false h1
     go_quiet (exact mW _ _ _ _)
     go_wp2_with fail
     go_meet
     exact⟨_,rfl,(fun h=>nomatch h),I.O.draws _⟩
   case rest=>
    obtain⟨b,rfl,hb,J⟩:=hcut;clear cw fw I
    go_upto_if 36 with fail
    go_cut [9] from 11 to 75 (fun s9 wx=>∃ch:Nat,s9=Xi ch/\r<ch/\ch<hi/\Hid (PX p wx))
    case first=>
     cases b
     ·go_wp2_with fail
      go_meet
      exact⟨2*r+1,s_,o_,o_,J⟩
     ·have hb:=hb rfl;go_wp2_with fail
      go_meet
      exact⟨2*r+1+1,s_,o_,o_,J⟩
    case rest=>
     clear J hb;obtain⟨ch,rfl,ai,an,J⟩:=hcut;obtain⟨g,cw,fw,hs⟩:=PX.open (J.O);have ad:=If (hs (first+r) (first+ch) o_ o_);clear hs;go_wp2_with fail
     go_quiet (exact mW _ _ _ _)
     go_wp2_with fail
     ·refine bodyPost_ret (results_none rfl _ _ _) rfl ?_;exact⟨rfl,J.O.draws _⟩
     ·go_region
      go_wp2_with fail
      go_roundg (hi-ch)
      case rel=>exact⟨ch,rfl,o_,Nat.le_refl _,ad.O _⟩
      case measure=>omega
theorem qDgad{P:Prop}(h:P:=by
 go_region
 go_wp2_with fail
 go_meet
 exact ad.O _):P:=h
theorem MD {p:SP}{w:World}(h:PX p w){a m:Nat}(hz:a+m+1<=p.n):Ct 266 #[b8 p,Xi a,Xi ((a:Int)+m+1)] w fun e w'=>e=.returned (.tuple #[])/\PX p w':=by
 have H:=If h;have big:=p.big;unfold b8;clear h;have ez:(a:Int)+m+1-a=m+1:=o_
 go_enter func266,ntmps266;go_wp2_with fail
 go_loopw [9] (fun s9 wr=>∃k:Nat,s9=Xi ((k:Int)-1)/\k<=m+1/\Hid (PX p wr)) (fun s9 _=>(intOf s9+1).toNat)
 case atStart=>exact⟨m / 2+1,s_,o_,H⟩
 case round=>
  obtain⟨k,rfl,hk,I⟩:=hrel
  cases k with
  | zero=>
   go_wp2_with fail
   go_loopg [10] (m+1) (fun k s10 wr=>s10=Xi ((k:Int)-1)/\k<=m+1/\Hid (PX p wr))
   case atStart=>exact⟨s_,o_,I⟩
   case round=>
    obtain⟨rfl,hk,I⟩:=hrel
    cases gk with
    | zero=>
     exact qDgal
    | succ k=>
     go_upto_region 10 with fail
     go_cut [] from 29 to 55 (fun wx=>Hid (PX p wx))
     case first=>
      obtain⟨g,cw,fw,hs⟩:=PX.open (I.O);have ad:=If (hs a (a+k) o_ o_);clear hs
      rcases Nat.eq_zero_or_pos k with rfl | ai
      all_goals
       exact qDgad
     case rest=>
      go_wp2_with fail;refine dR (Ln hcut.O (lo:=0) (hi:=k) (first:=a) o_ o_) fun w1 J=>?_;go_wp2_with fail
      go_roundg k
      case rel=>exact⟨s_,o_,J⟩
      case measure=>omega
  | succ k=>
   go_wp2_with fail;refine dR (Ln I.O (lo:=k) (hi:=m+1) (first:=a) o_ o_) fun w1 J=>?_;go_wp2_with fail;go_roundw
   case rel=>exact⟨k,s_,o_,J⟩
   case measure=>simp[intOf]
theorem qDgaf{P:Prop}(h:P:=by
 go_wp2_with fail
 go_roundg (j-1+2-(i+1))
 case rel=>exact⟨i+1,j-1,s_,by congr 1;omega,o_,o_,o_,o_,o_,Nat.le_refl _,hcut⟩
 case measure=>omega):P:=h
theorem qDgab{P:Prop}(h:P:=by
 obtain⟨i,rfl,q1,q2,q3,I⟩:=hrel;obtain⟨f,cw,fw,hs⟩:=PX.open I.O
 by_cases hc:i<=j0
 ·go_wp2_with fail
  go_quiet (exact mW _ _ _ _)
  go_wp2_with fail
  ·go_roundw
   case rel=>exact⟨i+1,s_,o_,o_,o_,I.O.draws _⟩
   case measure=>simp[intOf];omega
  ·go_meet
   exact⟨i,rfl,q1,q2,q3,I.O.draws _⟩
 ·have ai:decide (i<=j0)=false:=decide_eq_false hc;go_wp2_with fail
  go_quiet (exact mW _ _ _ _)
  go_wp2_with fail
  go_meet
  exact⟨i,rfl,q1,q2,q3,I.O.draws _⟩):P:=h
theorem qDgaa{P:Prop}(h:P:=by
 obtain⟨j,rfl,r1,r2,r3,I⟩:=hrel;obtain⟨f,cw,fw,hs⟩:=PX.open I.O
 by_cases hc:i<=j
 ·go_wp2_with fail
  go_quiet (exact mW _ _ _ _)
  go_wp2_with fail
  ·go_roundw
   case rel=>exact⟨j-1,by congr 1;omega,o_,o_,o_,I.O.draws _⟩
   case measure=>simp[intOf];omega
  ·go_meet
   exact⟨j,rfl,r1,r2,r3,I.O.draws _⟩
 ·have ai:decide (i<=j)=false:=decide_eq_false hc;go_wp2_with fail
  go_quiet (exact mW _ _ _ _)
  go_wp2_with fail
  go_meet
  exact⟨j,rfl,r1,r2,r3,I.O.draws _⟩):P:=h
theorem MC {p:SP}{w:World}(h:PX p w){a z v:Nat}(hz:z<=p.n)(hv:a<=v/\v<z):Ct 272 #[b8 p,Xi a,Xi z,Xi v] w fun e w'=>∃x:Nat,e=.returned (Xi (x:Nat))/\(a<x/\x<=z)/\PX p w':=by
 have big:=p.big;have H:=If h;obtain⟨f,cw,fw,hs⟩:=PX.open h;have ad:=If (hs a v o_ o_);go_enter func272,ntmps272
 go_upto_region 1 with fail
 go_cut [] from 11 (fun wx=>Hid (PX p wx))
 case first=>
  rcases cN hv.1 with rfl | an
  all_goals
   exact qDgad
 case rest=>
  go_wp2_with fail
  go_loopg [9,10] (z+1) (fun k s9 s10 wr=>∃i j:Nat,s9=Xi i/\s10=Xi j/\a<i/\i<=z/\i<=j+2/\a<=j/\j<z/\j+2-i<=k/\Hid (PX p wr))
  case atStart=>exact⟨a+1,z-1,s_,by congr 1;omega,o_,o_,o_,o_,o_,o_,hcut⟩
  case round=>
   obtain⟨i0,j0,rfl,rfl,hi,au,ar,hj,a0,ap,I⟩:=hrel
   go_upto_block 2 with fail
   go_cut [9] from 29 to 82 (fun s9 wx=>∃i:Nat,s9=Xi i/\i0<=i/\i<=z/\i<=j0+2/\Hid (PX p wx))
   case first=>
    go_wp2_with fail
    go_loopw [9] (fun s9 wr=>∃i:Nat,s9=Xi i/\i0<=i/\i<=z/\i<=j0+2/\Hid (PX p wr)) (fun s9 _=>j0+2-(intOf s9).toNat)
    case atStart=>exact⟨i0,rfl,o_,o_,o_,I⟩
    case round=>
     exact qDgab
   case rest=>
    obtain⟨i,rfl,q1,q2,q3,I⟩:=hcut
    go_upto_block 4 with fail
    go_cut [10] from 29 to 82 (fun s10 wx=>∃j:Nat,s10=Xi j/\j<=j0/\a<=j/\i<=j+2/\Hid (PX p wx))
    case first=>
     go_wp2_with fail
     go_loopw [10] (fun s10 wr=>∃j:Nat,s10=Xi j/\j<=j0/\a<=j/\i<=j+2/\Hid (PX p wr)) (fun s10 _=>(intOf s10).toNat)
     case atStart=>exact⟨j0,rfl,o_,o_,o_,I⟩
     case round=>
      exact qDgaa
    case rest=>
     obtain⟨j,rfl,r1,r2,r3,I⟩:=hcut
     by_cases hc:(j:Int)<i
     ·go_wp2_with fail;go_ret;exact⟨i,rfl,o_,I.O⟩
     ·obtain⟨f,cw,fw,hs⟩:=PX.open I.O;have ad:=If (hs i j o_ o_)
      go_upto_region 8 with fail
      go_cut [] from 29 to 82 (fun wx=>Hid (PX p wx))
      case first=>
       rcases cN (show i<=j by omega) with rfl | hlt
       all_goals
        exact qDgad
      case rest=>
       exact qDgaf
theorem MJ {p:SP}{w:World}(h:PX p w){a z v:Nat}(hz:z<=p.n)(hv:a<=v/\v<z):Ct 273 #[b8 p,Xi a,Xi z,Xi v] w fun e w'=>∃(x:Nat) (b:Bool),e=.returned (.tuple #[Xi (x:Nat),.bool b])/\(a<=x/\x<z)/\PX p w':=by
 have big:=p.big;have H:=If h;obtain⟨f,cw,fw,hs⟩:=PX.open h;have ad:=If (hs a v o_ o_);go_enter func273,ntmps273
 go_upto_region 1 with fail
 go_cut [] from 12 (fun wx=>Hid (PX p wx))
 case first=>
  rcases cN hv.1 with rfl | a0
  all_goals
   exact qDgad
 case rest=>
  go_upto_region 2 with fail
  go_cut [10,11] from 26 (fun s10 s11 wx=>∃i j:Nat,s10=Xi i/\s11=Xi j/\a<i/\i<=z/\i<=j+2/\a<=j/\j<z/\Hid (PX p wx))
  case first=>
   go_wp2_with fail
   go_meet
   exact⟨a+1,z-1,s_,by congr 1;omega,o_,o_,o_,o_,o_,hcut⟩
  case rest=>
   obtain⟨i0,j0,rfl,rfl,hi,ar,ap,hj,au,I⟩:=hcut
   go_upto_block 0 with fail
   go_cut [10] from 30 (fun s10 wx=>∃i:Nat,s10=Xi i/\i0<=i/\i<=z/\i<=j0+2/\Hid (PX p wx))
   case first=>
    go_wp2_with fail
    go_loopw [10] (fun s10 wr=>∃i:Nat,s10=Xi i/\i0<=i/\i<=z/\i<=j0+2/\Hid (PX p wr)) (fun s10 _=>j0+2-(intOf s10).toNat)
    case atStart=>exact⟨i0,rfl,o_,o_,o_,I⟩
    case round=>
     exact qDgab
   case rest=>
    obtain⟨i,rfl,q1,q2,q3,I⟩:=hcut
    go_upto_block 2 with fail
    go_cut [11] from 46 (fun s11 wx=>∃j:Nat,s11=Xi j/\j<=j0/\a<=j/\i<=j+2/\Hid (PX p wx))
    case first=>
     go_wp2_with fail
     go_loopw [11] (fun s11 wr=>∃j:Nat,s11=Xi j/\j<=j0/\a<=j/\i<=j+2/\Hid (PX p wr)) (fun s11 _=>(intOf s11).toNat)
     case atStart=>exact⟨j0,rfl,o_,o_,o_,I⟩
     case round=>
      exact qDgaa
    case rest=>
     obtain⟨j,rfl,r1,r2,r3,I⟩:=hcut;obtain⟨f,cw,fw,hs⟩:=PX.open I.O;have an:=If (hs j a o_ o_)
     by_cases hc:(j:Int)<i
     ·clear hs
      rcases cN r2 with rfl | hlt
      all_goals
       go_wp2_with fail
       go_region
       go_wp2_with fail;go_ret2;exact⟨_,true,rfl,⟨r2,o_⟩,an.O _⟩
     ·have ad:=If (hs i j o_ o_)
      go_upto_region 10 with fail
      go_cut [] from 66 (fun wx=>Hid (PX p wx))
      case first=>
       rcases cN (show i<=j by omega) with rfl | hlt
       all_goals
        exact qDgad
      case rest=>
       have I:=hcut;go_wp2_with fail
       go_loopg [10,11] (z+1) (fun k s10 s11 wr=>∃i j:Nat,s10=Xi i/\s11=Xi j/\a<i/\i<=z/\i<=j+2/\a<=j/\j<z/\j+2-i<=k/\Hid (PX p wr))
       case atStart=>exact⟨i+1,j-1,s_,by congr 1;omega,o_,o_,o_,o_,o_,o_,I⟩
       case round=>
        obtain⟨i0,j0,rfl,rfl,hi,ar,ap,hj,au,a1,I⟩:=hrel
        go_upto_block 6 with fail
        go_cut [10] from 99 to 152 (fun s10 wx=>∃i:Nat,s10=Xi i/\i0<=i/\i<=z/\i<=j0+2/\Hid (PX p wx))
        case first=>
         go_wp2_with fail
         go_loopw [10] (fun s10 wr=>∃i:Nat,s10=Xi i/\i0<=i/\i<=z/\i<=j0+2/\Hid (PX p wr)) (fun s10 _=>j0+2-(intOf s10).toNat)
         case atStart=>exact⟨i0,rfl,o_,o_,o_,I⟩
         case round=>
          exact qDgab
        case rest=>
         obtain⟨i,rfl,q1,q2,q3,I⟩:=hcut
         go_upto_block 8 with fail
         go_cut [11] from 99 to 152 (fun s11 wx=>∃j:Nat,s11=Xi j/\j<=j0/\a<=j/\i<=j+2/\Hid (PX p wx))
         case first=>
          go_wp2_with fail
          go_loopw [11] (fun s11 wr=>∃j:Nat,s11=Xi j/\j<=j0/\a<=j/\i<=j+2/\Hid (PX p wr)) (fun s11 _=>(intOf s11).toNat)
          case atStart=>exact⟨j0,rfl,o_,o_,o_,I⟩
          case round=>
           exact qDgaa
         case rest=>
          obtain⟨j,rfl,r1,r2,r3,I⟩:=hcut;obtain⟨f,cw,fw,hs⟩:=PX.open I.O;have an:=If (hs j a o_ o_)
          by_cases hc:(j:Int)<i
          ·clear hs
           rcases cN r2 with rfl | hlt
           all_goals
            go_wp2_with fail
            go_region
            go_wp2_with fail;go_ret2;exact⟨_,false,rfl,⟨r2,o_⟩,an.O _⟩
          ·have ad:=If (hs i j o_ o_)
           go_upto_region 18 with fail
           go_cut [] from 99 to 152 (fun wx=>Hid (PX p wx))
           case first=>
            rcases cN (show i<=j by omega) with rfl | hlt
            all_goals
             exact qDgad
           case rest=>
            exact qDgaf
structure PW (p:SP) (g s:Nat) (w:World):Prop where
 x:PX p w
 d:p.D<=g
 ne:g≠p.b
 box:w.1[g]?=some (.cells #[Xi s] 3 (0,0))
theorem PX.set {p:SP}{w:World}(h:PX p w){a:Addr}(hd:p.D<=a.block)(hn:a.block≠p.b)(v:Value):PX p (w.setCell a v):=by
 obtain⟨l,h⟩:=h;refine⟨l,h.a_.setCell hd v,h.perm,h.own.at fun k hk=>?_,h.len⟩
 cases hk
 exact cy w a v p.b fun e=>hn e.S
theorem PW.draws {p:SP}{g s:Nat}{w:World}(h:PW p g s w)(q:Nat):PW p g s (w.drewN q):=⟨h.x.draws q,h.d,h.ne,h.box⟩
theorem MH {p:SP}{g s:Nat}{w:World}(h:PW p g s w){lo up i j:Nat}(hs:s<=100)(hh:up<=p.n)(hi:lo<=i/\i<up)(hj:lo<=j/\j<up):
 Ct 280 #[b8 p,Xi i,Xi j,PV g] w fun e w'=>∃x y s',e=.returned (.tuple #[Xi (x:Nat),Xi (y:Nat)])/\(lo<=x/\x<up)/\(lo<=y/\y<up)/\s'<=s+1/\PW p g s' w':=by
 have H:=If h;obtain⟨f,cw,fw,hx⟩:=PX.open h.x;have hb:=h.box;obtain⟨k0,kf⟩:=qS hb;go_enter func280,ntmps280;go_wp2_with fail
 go_quiet (exact mW _ _ _ _)
 go_wp2_with fail
 ·go_ret2;refine⟨j,i,s+1,rfl,hj,hi,Nat.le_refl _,(H.O.x.draws _).set H.O.d H.O.ne _,H.O.d,H.O.ne,?_⟩;rw[heap_setCell (H.O.draws _).box]
  simp
 ·go_ret2;exact⟨i,j,s,rfl,hi,hj,o_,H.O.draws _⟩
theorem Lm {p:SP}{g s:Nat}{w:World}(h:PW p g s w){lo up i j k:Nat}(hs:s<=90)(hh:up<=p.n)(hi:lo<=i/\i<up)(hj:lo<=j/\j<up)(hk:lo<=k/\k<up):
 Ct 278 #[b8 p,Xi i,Xi j,Xi k,PV g] w fun e w'=>∃x s',e=.returned (Xi (x:Nat))/\(lo<=x/\x<up)/\s'<=s+3/\PW p g s' w':=by
 have ad:=fun(W:World) (r:Nat) (h:PW p g r W) {i j:Nat} =>MH (lo:=lo) (up:=up) (i:=i) (j:=j) h;unfold b8 at*;have H:=kq2 h ad;clear h ad;go_enter func278,ntmps278;go_wp2_with fail;refine(H.b _ _ H.a o_ hh hi hj).M ?_;rintro e w1 ⟨x1,y1,s1,rfl,ai,ap,au,h1⟩;go_wp2_with fail;refine(H.b _ _ h1 o_ hh ap hk).M ?_;rintro e w2 ⟨x2,y2,s2,rfl,an,a3,a0,h2⟩;go_wp2_with fail;refine(H.b _ _ h2 o_ hh ai an).M ?_;rintro e w3 ⟨x3,y3,s3,rfl,a2,ar,a1,h3⟩;go_wp2_with fail;go_ret;exact⟨y3,s3,rfl,ar,o_,h3⟩
theorem Mw {p:SP}{g s:Nat}{w:World}(h:PW p g s w){lo up i:Nat}(hs:s<=90)(hh:up<=p.n)(h1:lo<i)(h2:i+1<up):
 Ct 277 #[b8 p,Xi i,PV g] w fun e w'=>∃x s',e=.returned (Xi (x:Nat))/\(lo<=x/\x<up)/\s'<=s+3/\PW p g s' w':=by
 obtain⟨k,rfl⟩:∃k,i=k+1:=⟨i-1,o_⟩;have big:=p.big;have H:=If (Lm h (lo:=lo) (up:=up) (i:=k) (j:=k+1) (k:=k+1+1) hs hh ⟨o_,o_⟩ ⟨o_,o_⟩ ⟨o_,o_⟩);go_enter func277,ntmps277;go_wp2_with fail;refine H.O.M ?_;rintro e w1 ⟨x1,s1,rfl,ai,ad,h1⟩;go_wp2_with fail;go_ret;exact⟨x1,s1,rfl,ai,ad,h1⟩
theorem ML {p:SP}{w:World}(h:PX p w){a L:Nat}(hL:12<L)(hz:a+L<=p.n):
 Ct 268 #[b8 p,Xi a,Xi ((a:Int)+L)] w fun e w'=>∃x t:Nat,e=.returned (.tuple #[Xi (x:Nat),Xi (t:Nat)])/\(a<=x/\x<a+L)/\PX p w':=by
 have big:=p.big;have ez:(a:Int)+L-a=L:=o_
 obtain⟨Q,hQ⟩:=Ii (L / 4);have a0:(L:Int) / 4=Q:=o_
 have h8:(8:Int)<=L:=o_
 have hq:4*Q<=L/\L<4*Q+4:=o_
 have P0:PW p w.1.size 0 (w.alloc (.cells #[Xi 0] 3)):=by
  obtain⟨l,h⟩:=h;have:=h.d;exact⟨PX.grow ⟨l,h⟩ ((aa _ _).alloc Ih _),o_,o_,heap_alloc_new w _⟩
 have ai:=fun(W:World) (r:Nat) (h:PW p w.1.size r W) {i:Nat} =>Mw (lo:=a) (up:=a+L) (i:=i) h;have an:=fun(W:World) (r:Nat) (h:PW p w.1.size r W) {i j k:Nat} =>Lm (lo:=a) (up:=a+L) (i:=i) (j:=j) (k:=k) h;unfold b8 at*;obtain⟨W,hW⟩:=Ii (w.alloc (.cells #[Xi 0] 3));rw[hW] at P0;have H:=kq3 P0 ai an;clear h ai an P0 hQ;go_enter func268,ntmps268
 go_upto_if 34 with fail
 go_cut [10,11,12] from 33 (fun s10 s11 s12 wx=>∃i j k s:Nat,s10=Xi i/\s11=Xi j/\s12=Xi k/\(a<=i/\i<a+L)/\(a<=j/\j<a+L)/\(a<=k/\k<a+L)/\s<=9/\Hid (PW p w.1.size s wx))
 case first=>
  by_cases h50:(50:Int)<=L
  ·go_wp2_with fail;refine(H.b _ _ H.a (i:=a+Q) o_ hz o_ o_).M ?_;rintro e w1 ⟨x1,s1,rfl,ad,ap,h1⟩;go_wp2_with fail;refine(H.b _ _ h1 (i:=a+Q*2) o_ hz o_ o_).M ?_;rintro e w2 ⟨x2,s2,rfl,ar,a1,h2⟩;go_wp2_with fail;refine(H.b _ _ h2 (i:=a+Q*3) o_ hz o_ o_).M ?_;rintro e w3 ⟨x3,s3,rfl,au,a2,h3⟩;go_wp2_with fail
   go_meet
   exact⟨x1,x2,x3,s3,rfl,rfl,rfl,ad,ar,au,o_,h3⟩
  ·go_wp2_with fail
   go_meet
   exact⟨a+Q,a+Q*2,a+Q*3,0,s_,s_,s_,o_,o_,o_,o_,H.a⟩
 case rest=>
  obtain⟨i,j,k,s,rfl,rfl,rfl,hi,hj,hk,hs,J⟩:=hcut;go_wp2_with fail;refine(H.c _ _ J.O o_ hz hi hj hk).M ?_;rintro e w1 ⟨x1,s1,rfl,ad,ap,h1⟩;have hb:=h1.box;have c0:(w1).cell? (y_ w.1.size)=some (Xi s1):=e_ hb
  have J1:=If h1.x;clear h1 hb;go_wp2_with fail
  all_goals
   go_ret2;exact⟨_,_,rfl,ad,J1.O⟩
end
section
open Go.RowKit Tryz Go.BigFrame Go.Maps Go.WideMaps Lf Tr
open Go.Sort Go.Shelf
variable{w:World}
structure XB (p:SP) (B:Nat) (w:World):Prop where
 x:PX p w
 d:p.D<=B
 ne:B≠p.b
 box:∃X:Nat,X<2^64/\w.1[B]?=some (.cells #[Xu X] 347 (0,0))
theorem XB.next{p:SP}{B:Nat}(h:XB p B w){R:Nat}(hR:R<2^64):XB p B ((w.setCell (y_ B) (Xu (R:Nat))).drewN 3):=by
 obtain⟨X,_,hb⟩:=h.box;exact⟨(h.x.set h.d h.ne _).draws 3,h.d,h.ne,R,hR,heap_setCell hb⟩
theorem XB.step{p:SP}{B i j:Nat}{u v:Value}(h:XB p B w)(hx:∀q,PX p (((w.drewN q).setCell (x_ p.b i) u).setCell (x_ p.b j) v))(q:Nat):XB p B (((w.drewN q).setCell (x_ p.b i) u).setCell (x_ p.b j) v):=by
 obtain⟨X,h1,hb⟩:=h.box;exact⟨hx q,h.d,h.ne,X,h1,(cy _ _ _ B h.ne).T ((cy _ _ _ B h.ne).T hb)⟩
theorem My{p:SP}(h:PX p w){a L:Nat}(hL:12<L)(hz:a+L<=p.n):Ct 267 #[b8 p,Xi a,Xi ((a:Int)+L)] w fun e w'=>e=.returned (.tuple #[])/\PX p w':=by
 have big:=p.big;have ez:(a:Int)+L-a=L:=o_
 obtain⟨Q,hQ⟩:=Ii (L / 4);have a2:(L:Int) / 4=Q:=o_
 have hq:4*Q<=L/\L<4*Q+4:=o_
 obtain⟨M,hM⟩:∃M:Nat,M=1<<<bitsLen L:=⟨_,rfl⟩;have a3:1<=M:=by rw[hM,Nat.one_shiftLeft];exact Nat.two_pow_pos _
 have a4:M<=2*L:=by rw[hM,Nat.one_shiftLeft];exact two_pow_bitsLen_le o_
 have ai:∀w,Ct 260 #[Xi (L:Int)] w fun e w'=>e=.returned (Xu (M:Int))/\w'=w:=by rw[hM];exact fun w=>calls_of_every_depth fun D=>AnySM.nextPowerOfTwoIn { sortA with } D L o_ w
 have ap:∀(X:Nat) (w:World),X<2^64->∀g,w.cell? (y_ g)=some (Xu X)->w.frozen? (y_ g)=false->Ct 261 #[.pointer (some (y_ g))] w fun e w'=>e=.returned (Xu (xorNextN X:Nat))/\w'=(w.setCell (y_ g) (Xu (xorNextN X:Nat))).drewN 3:=fun X w hX g hc hf=>calls_of_every_depth fun D=>AnySM.xorshift_NextIn { sortA with } D g 0 X hX w hc hf;have K0:XB p w.1.size (w.alloc (.cells #[Xu (L:Nat)] 347)):=by
  obtain⟨l,h⟩:=h;have:=h.d;exact⟨PX.grow ⟨l,h⟩ ((aa _ _).alloc Ih _),o_,o_,L,o_,heap_alloc_new w _⟩
 have K:=If K0;obtain⟨B,hB⟩:=Ii w.1.size;rw[hB] at K;have a0:=If ap;have au:=If ai;unfold b8;clear h hQ hM ap ai K0;have h8:(8:Int)<=L:=o_
 go_enter func267,ntmps267;go_wp2_with fail;refine Jc (au.O _) ?_;go_wp2_with fail
 go_loopg [9,10] 3 (fun k s9 _ wr=>∃t i:Nat,s9=Xi i/\i+1<=a+Q*2+t/\a+Q*2+t<=i+1/\t<=3/\3-t<=k/\Hid (XB p B wr))
 case atStart=>exact⟨0,a+Q*2-1,by congr 1;omega,o_,o_,o_,o_,K⟩
 case round=>
  obtain⟨t,i,rfl,h1,h2,ht,a5,I⟩:=hrel
  by_cases h3:(i:Int)<=a+Q*2+1
  ·obtain⟨X,hX,hB⟩:=I.O.box;have ad:=a0.O X wr hX B (q_ hB) (AT hB);obtain⟨R,hR⟩:∃R:Nat,xorNextN X=R:=⟨_,rfl⟩;have lR:R<2^64:=by rw[<-hR];exact xorNextN_lt X hX
   rw[hR] at ad;have HN:=If ad;obtain⟨O,hO⟩:∃O:Nat,O=R &&& (M-1):=⟨_,rfl⟩;have lO:O<=M-1:=by rw[hO];exact Nat.and_le_right
   have a1:bits .and .u64 (R:Int) ((M:Int)-1)=(O:Int):=by
    rw[show ((M:Int)-1)=((M-1:Nat):Int) by omega,bits_and_u64_nat _ _ lR o_,hO]
   clear hO ad hB hR;go_wp2_with fail;refine Jc HN.O ?_;have J:XB p B ((wr.setCell (y_ B) (Xu (R:Nat))).drewN 3):=I.O.next lR;obtain⟨W2,an⟩:=Ii ((wr.setCell (y_ B) (Xu (R:Nat))).drewN 3);rw[an] at J⊢;have J:=If J;clear an HN I
   go_upto_if 43 with fail
   go_cut [10] from 26 to 64 (fun s10 wx=>∃o:Nat,s10=Xi o/\o<L/\wx=W2)
   case first=>
    by_cases hlo:(L:Int)<=O
    ·go_wp2_with fail
     go_meet
     exact⟨O-L,by congr 1;omega,o_,rfl⟩
    ·go_wp2_with fail
     go_meet
     exact⟨O,rfl,o_,rfl⟩
   case rest=>
    obtain⟨o,rfl,ho,rfl⟩:=hcut;obtain⟨f,cw,fw,hs⟩:=PX.open J.O.x;have ar:=If (J.O.step (hs i (a+o) o_ o_));clear hs a1 lO lR
    by_cases heq:i=a+o
    ·subst heq;go_wp2_with fail
     go_region
     go_wp2_with fail
     go_roundg (2-t)
     case rel=>exact⟨t+1,a+o+1,s_,o_,o_,o_,o_,ar.O _⟩
     case measure=>omega
    ·go_wp2_with fail
     go_region
     go_wp2_with fail
     go_roundg (2-t)
     case rel=>exact⟨t+1,i+1,s_,o_,o_,o_,o_,ar.O _⟩
     case measure=>omega
  ·go_wp2_with fail
   go_end0
   exact⟨rfl,I.O.x⟩
end
section
open Go.RowKit Tryz Go.BigFrame Go.Maps Go.WideMaps Lf Tr
theorem MI {p:SP}{w:World}(h:PX p w){a z:Nat}(hz:z<=p.n)(haz:a<z):Ct 270 #[b8 p,Xi a,Xi z] w fun e w'=>∃b:Bool,e=.returned (.bool b)/\PX p w':=by
 have big:=p.big;have H:=If h;go_enter func270,ntmps270;go_wp2_with fail
 go_loopg [7,8,9,10] 5 (fun k s7 s8 _ _ wr=>∃i j:Nat,s7=Xi i/\s8=Xi j/\a<i/\i<=z/\j<=5/\5-j<=k/\Hid (PX p wr))
 case atStart=>exact⟨a+1,0,s_,rfl,o_,o_,o_,o_,H⟩
 case round=>
  obtain⟨i0,j0,rfl,rfl,hi,ai,hj,ap,I⟩:=hrel
  by_cases hj5:(j0:Int)<5
  ·go_upto_block 2 with fail
   go_cut [7] from 13 to 132 (fun s7 wx=>∃i:Nat,s7=Xi i/\a<i/\i<=z/\Hid (PX p wx))
   case first=>
    go_wp2_with fail
    go_loopw [7] (fun s7 wr=>∃i:Nat,s7=Xi i/\a<i/\i<=z/\Hid (PX p wr)) (fun s7 _=>z-(intOf s7).toNat)
    case atStart=>exact⟨i0,rfl,hi,ai,I⟩
    case round=>
     obtain⟨i,rfl,q1,q2,I⟩:=hrel;obtain⟨k,rfl⟩:∃k,i=k+1:=⟨i-1,o_⟩;obtain⟨f,cw,fw,hs⟩:=PX.open I.O
     by_cases hc:(k:Int)+1<z
     ·go_wp2_with fail
      go_quiet (exact mW _ _ _ _)
      go_wp2_with fail
      ·go_roundw
       case rel=>exact⟨k+1+1,s_,o_,o_,I.O.draws _⟩
       case measure=>simp[intOf];omega
      ·go_meet
       exact⟨k+1,s_,q1,q2,I.O.draws _⟩
     ·have an:decide ((k:Int)+1<z)=false:=decide_eq_false hc;go_wp2_with fail
      go_quiet (exact mW _ _ _ _)
      go_wp2_with fail
      go_meet
      exact⟨k+1,s_,q1,q2,I.O.draws _⟩
   case rest=>
    obtain⟨i,rfl,q1,q2,I⟩:=hcut;obtain⟨k,rfl⟩:∃k,i=k+1:=⟨i-1,o_⟩
    by_cases ai:(k:Int)+1=z
    ·go_wp2_with fail;go_ret;exact⟨_,rfl,I.O⟩
    ·by_cases h50:(z:Int)-a<50
     ·go_wp2_with fail;go_ret;exact⟨_,rfl,I.O⟩
     ·go_upto_region 11 with fail
      go_cut [] from 13 to 132 (fun wx=>Hid (PX p wx))
      case first=>
       obtain⟨f,cw,fw,hs⟩:=PX.open I.O;have ad:=If (hs (k+1) k o_ o_);exact qDgad
      case rest=>
       go_upto_if 61 with fail
       go_cut [9] from 13 to 132 (fun _ wx=>Hid (PX p wx))
       case first=>
        by_cases h2:(2:Int)<=k+1-a
        ·go_wp2_with fail
         go_loopw [9] (fun s9 wr=>∃j:Nat,s9=Xi j/\j<=k/\Hid (PX p wr)) (fun s9 _=>(intOf s9).toNat)
         case atStart=>exact⟨k,s_,o_,hcut⟩
         case round=>
          obtain⟨j,rfl,r1,I⟩:=hrel
          by_cases hj1:(1:Int)<=j
          ·obtain⟨m,rfl⟩:∃m,j=m+1:=⟨j-1,o_⟩;obtain⟨f,cw,fw,hs⟩:=PX.open I.O;have ad:=If (hs (m+1) m o_ o_);go_wp2_with fail
           go_quiet (exact mW _ _ _ _)
           go_wp2_with fail
           ·go_meet
            exact I.O.draws _
           ·go_region
            go_wp2_with fail;go_roundw
            case rel=>exact⟨m,s_,o_,ad.O _⟩
            case measure=>simp[intOf]
          ·go_wp2_with fail
           go_meet
           omega
        ·go_wp2_with fail
         go_meet
         omega
       case rest=>
        have I:=hcut
        by_cases h2:(2:Int)<=z-(k+1)
        ·go_wp2_with fail
         go_loopw [10] (fun s9 wr=>∃j:Nat,s9=Xi ((j:Int)+1)/\j<z/\Hid (PX p wr)) (fun s9 _=>z-(intOf s9).toNat)
         case atStart=>exact⟨k+1,s_,o_,I⟩
         case round=>
          obtain⟨j,rfl,r1,I⟩:=hrel
          by_cases hj1:(j:Int)+1<z
          ·obtain⟨f,cw,fw,hs⟩:=PX.open I.O;have ad:=If (hs (j+1) j o_ o_);go_wp2_with fail
           go_quiet (exact mW _ _ _ _)
           go_wp2_with fail
           ·go_roundg (4-j0)
            case rel=>exact⟨k+1,j0+1,s_,s_,o_,o_,o_,o_,I.O.draws _⟩
            omega
           ·go_region
            go_wp2_with fail;go_roundw
            case rel=>exact⟨j+1,s_,o_,ad.O _⟩
            case measure=>simp[intOf];omega
          ·go_wp2_with fail
           go_roundg (4-j0)
           case rel=>exact⟨k+1,j0+1,s_,s_,o_,o_,o_,o_,I.O⟩
           omega
        ·go_wp2_with fail
         go_roundg (4-j0)
         case rel=>exact⟨k+1,j0+1,s_,s_,o_,o_,o_,o_,I⟩
         omega
  ·go_wp2_with fail;go_ret;exact⟨.inl rfl,I.O⟩
end
section
open Go.Sort Go.RowKit Go.BigFrame Go.Maps Go.WideMaps Lf Tr
theorem qDgam{P:Prop}(h:P:=by
 go_quiet (exact mW _ _ _ _)
 go_wp2_with fail
 go_meet
 exact⟨_,rfl,I.O.draws _⟩):P:=h
theorem qDgag{P:Prop}(h:P:=by
 go_wp2_with fail;refine bodyPost_ret (results_none rfl _ _ _) rfl ?_;exact⟨rfl,J⟩):P:=h
theorem MK {p:SP}:∀(N:Nat) {w:World} {a z lim:Nat},PX p w->z-a<N->a<=z->z<=p.n->lim<=100->Ct 257 #[b8 p,Xi a,Xi z,Xi lim] w fun e w'=>e=.returned (.tuple #[])/\PX p w':=by
 intro N
 induction N with
 | zero=>exact fun _ h=>absurd h o_
 | succ N ih=>
  intro w a z lim h hN ai hz ad;have big:=p.big;have H:=kq2 h (fun(w:World) (a z lim:Nat)=> @ih w a z lim);go_enter Tryz.func257,Tryz.ntmps257;go_wp2_with fail
  go_loopg [1,2,3,8,9,10,11,12,13,14,15,16,17,18] (z-a) (fun k s1 s2 s3 s8 s9 _ _ _ _ _ _ _ _ _ wr=>∃(a z lim:Nat) (b c:Bool),s1=Xi a/\s2=Xi z/\s3=Xi lim/\s8=.bool b/\s9=.bool c/\a<=z/\z<=p.n/\lim<=100/\z-a<=N/\z-a<=k/\Hid (PX p wr))
  case atStart=>exact⟨a,z,lim,true,true,rfl,rfl,rfl,rfl,rfl,ai,hz,ad,o_,o_,H.a⟩
  case round=>
   obtain⟨a,z,lim,b,c,rfl,rfl,rfl,rfl,rfl,ai,hz,ad,hN,au,I⟩:=hrel;obtain⟨L,rfl⟩:∃L,z=a+L:=⟨z-a,o_⟩;have ez:(a:Int)+L-a=L:=o_
   by_cases h12:(L:Int)<=12
   ·go_wp2_with fail;refine dR (ME I.O (a:=a) (z:=a+L) hz o_) fun w1 J=>?_;exact qDgag
   ·by_cases hl0:(lim:Int)=0
    ·obtain⟨m,rfl⟩:∃m,L=m+1:=⟨L-1,o_⟩;go_wp2_with fail;refine dR (MD I.O (a:=a) (m:=m) o_) fun w1 J=>?_;exact qDgag
    ·go_upto_if 35 with fail
     go_cut [3] from 19 to 133 (fun s3 wx=>∃lim:Nat,s3=Xi lim/\lim<=100/\Hid (PX p wx))
     case first=>
      cases b
      ·go_wp2_with fail;refine dR (My I.O (a:=a) (L:=L) o_ o_) fun w1 J=>?_;go_wp2_with fail
       go_meet
       exact⟨lim-1,by congr 1;omega,o_,J⟩
      ·go_wp2_with fail
       go_meet
       exact⟨lim,rfl,ad,I⟩
     case rest=>
      obtain⟨lim,rfl,ad,I⟩:=hcut;go_wp2_with fail;refine(ML I.O (a:=a) (L:=L) o_ o_).M ?_;rintro e w1 ⟨x,t,rfl,hx,J⟩;have J:=If J
      go_upto_if 50 with fail
      go_cut [11,12] from 19 to 133 (fun s11 s12 wx=>∃x t:Nat,s11=Xi x/\s12=Xi t/\a<=x/\x<a+L/\Hid (PX p wx))
      case first=>
       by_cases h2:(t:Int)=2
       ·go_wp2_with fail;refine dR (MM J.O (a:=a) (z:=a+L) hz o_) fun w2 J2=>?_;go_wp2_with fail
        go_meet
        exact⟨a+L-1-(x-a),1,by congr 1;omega,rfl,o_,o_,J2⟩
       ·go_wp2_with fail
        go_meet
        exact⟨x,t,rfl,rfl,hx.1,hx.2,J⟩
      case rest=>
       obtain⟨x,t,rfl,rfl,an,ap,I⟩:=hcut
       go_upto_region 15 with fail
       go_cut [68] from 19 to 133 (fun s68 wx=>∃q:Bool,s68=.bool q/\Hid (PX p wx))
       case first=>
        by_cases h1:(t:Int)=1
        all_goals
         cases b
         all_goals
          cases c
          all_goals
           go_wp2_with fail
           go_meet
           exact⟨_,rfl,I⟩
       case rest=>
       obtain⟨q,rfl,I⟩:=hcut
       go_upto_if 68 with fail
       go_cut [] from 19 to 133 (fun wx=>Hid (PX p wx))
       case first=>
        cases q
        ·go_wp2_with fail
         go_meet
         exact I
        ·go_wp2_with fail;refine(MI I.O (a:=a) (z:=a+L) hz o_).M ?_;rintro e w2 ⟨bb,rfl,J⟩
         cases bb
         ·go_wp2_with fail
          go_meet
          exact J
         ·exact qDgag
       case rest=>
        have I:=hcut
        go_upto_region 17 with fail
        go_cut [87] from 19 to 133 (fun s87 wx=>∃q:Bool,s87=.bool q/\Hid (PX p wx))
        case first=>
         by_cases ha:0<a
         ·obtain⟨k,rfl⟩:∃k,a=k+1:=⟨a-1,o_⟩;obtain⟨f,cw,fw,hs⟩:=PX.open I.O;exact qDgam
         ·have ar:decide (0<a)=false:=decide_eq_false ha;exact qDgam
        case rest=>
         obtain⟨q,rfl,I⟩:=hcut
         cases q
         case true=>
          go_wp2_with fail;refine(MC I.O (a:=a) (z:=a+L) (v:=x) hz ⟨an,ap⟩).M ?_;rintro e w2 ⟨y,rfl,hy,J⟩;go_wp2_with fail
          go_roundg (a+L-y)
          case rel=>exact⟨y,a+L,lim,b,c,rfl,s_,rfl,rfl,rfl,hy.2,hz,ad,o_,o_,J⟩
          omega
         go_wp2_with fail;refine(MJ I.O (a:=a) (z:=a+L) (v:=x) hz ⟨an,ap⟩).M ?_;rintro e w2 ⟨y,b2,rfl,hy,J⟩
         by_cases hlt:(y:Int)-a<a+L-y
         ·go_wp2_with fail;refine dR (H.b _ a y lim J o_ hy.1 o_ ad) fun w3 J=>?_;go_wp2_with fail
          go_roundg (a+L-(y+1))
          case rel=>exact⟨y+1,a+L,lim,_,b2,s_,s_,rfl,rfl,rfl,o_,hz,ad,o_,o_,J⟩
          omega
         ·go_wp2_with fail;refine dR (H.b _ (y+1) (a+L) lim J o_ o_ o_ ad) fun w3 J=>?_;go_wp2_with fail
          go_roundg (y-a)
          case rel=>exact⟨a,y,lim,_,b2,rfl,rfl,rfl,rfl,rfl,hy.1,o_,ad,o_,o_,J⟩
          omega
theorem MN {p:SP}{w:World}(h:PX p w):Ct 232 #[b8 p] w fun e w'=>e=.returned (.tuple #[])/\PX p w':=by
 have big:=p.big;have hk:Go.Sort.bitsLen p.n<=62:=(Go.Sort.bitsLen_le_iff p.n 62).2 o_;have ad:∀w,Ct 230 #[Xu (p.n:Int)] w fun e w'=>e=.returned (Xi (Go.Sort.bitsLen p.n:Nat))/\w'=w:=fun w=>by
  have h:=calls_of_every_depth fun D=>AnySM.bits_LenIn { Tryz.sortA with } D (p.n:Int) w o_ o_;rwa[cW,bitLen_eq _ o_] at h
 obtain⟨q,hq⟩:=Ii (Go.Sort.bitsLen p.n);have H:=kq2 h ad;go_enter Tryz.func232,Tryz.ntmps232;go_wp2_with fail;refine Jc (H.b _) ?_;go_wp2_with fail;refine dR (MK (p.n+1) H.a (a:=0) (z:=p.n) (lim:=q) o_ o_ o_ o_) fun w2 J=>?_;go_wp2_with fail
 go_end0
 grind
end
section
open Go.RowKit Tryz Go.BigFrame Go.Maps Go.WideMaps Lf Tr
open Go.Shelf
variable{D:Nat}{N:Nat}{fr:Nat×Nat}{g:Nat}{l:List Nat}{lb:Array Value}{q:List Nat}{v:Value}{w:World}
attribute [local go_sem] Oper.semAt_some
theorem MQ(w:World)(A:Option Addr)(m c:Nat):Ct 205 #[.slice A m c] w fun e w'=>e=.returned (.func (.func 233) #[] #[PV w.1.size])/\w'=w.alloc (.cells #[.slice A m c] 59):=by
 go_enter func205,ntmps205
 go_wp2
 go_ret;exact⟨rfl,rfl⟩
theorem MP{B G c:Nat}(hN:l.length<=100000)(hl:∀x∈l,x<2^64)(hB:w.1[B]?=some (.cells #[.slice (some (y_ G)) l.length c] 59 fr))(hG:∀(j:Nat) (h:j<l.length),w.cell? (x_ G j)=some (Xu (l[j]:Nat)))(hGl:G<w.1.size):
 SeqStopsK Fence.wide 6 prog 233 #[PV B] mG (Below w.1.size) (fun xs=>iR xs=l) (fun _=>True) l.length w:=fun L J Jx W hW hJ hJx hY h0=>by
 have a3:=(gl hB);have a8:W.cell? (y_ B)=some (.slice (some (y_ G)) l.length c):=e_ ((hW.block B a3).T hB)
 obtain⟨n,hn⟩:=Ii l.length;rw[hn] at a8 hN hY;have HY:=If hY;have HJ:=kq2 hJ hJx;have H0:=kq6 h0 hG hGl hl hn hW;clear hY hJ hJx h0 hB hG hW hl hGl a3 hn;refine callsIn_of_wp func233 rfl trivial ?_ rfl;simp only[ntmps233,aS,aj,aL,Nat.reduceAdd,Nat.reduceSub,aO,aP,aT,aR,aX,aJ];gi_wp2_with fail;gi_loopw [4,7] (fun _ i wr=>∃k:Nat,k<=n/\i=Xi k/\Hid (D_ w wr/\∃pX,iR pX=l.take k/\J pX wr)) (fun _ i _=>n-(intOf i).toNat)
 case atStart=>exact⟨0,o_,rfl,H0.f,[],rfl,H0.a⟩
 case round=>
  obtain⟨k,hk,rfl,an⟩:=hrel;by_cases hlt:k<n
  ·have bb:(k:Int)<n:=o_
   have ap:k<l.length:=by have:=H0.e;omega
   have hc:wr.cell? (x_ G k)=some (Xu (l[k]:Nat)):=(an.O.1.cell (p:=x_ G k) H0.c).T (H0.b k ap);have a0:=H0.d l[k] (ao ap);have a1:l.take (k+1)=l.take k++[l[k]]:=(List.take_append_getElem ap).S;obtain⟨x,hx⟩:=Ii l[k];rw[hx] at hc a0 a1;obtain⟨pX,ad,ai⟩:=an.O.2;obtain⟨xX,a2⟩:∃xX:Jf,xX.1=x:=⟨⟨x,a0⟩,rfl⟩;have a9:pX.length=k:=by
    have:=congrArg List.length ad;rw[aK] at this;simp[iR] at this
    omega
   obtain⟨fn,bc,a',ba,hy,au⟩:=HY.O pX xX wr ai o_;have a7:iR (pX++[xX])=l.take (k+1):=by rw[a1,<-ad,<-a2];simp[iR]
   have ar:=kq2 a7 hlt;unfold mG at hy;rw[a2] at hy;clear a7 ad a9 ai a2 a0 a1 ap hx;gi_wp2_with fail;refine au.M ?_;rintro e w4 (⟨rfl,a4,a6⟩ | ⟨rfl,a5⟩)
   ·have H4:=kq2 (an.O.1.T a6) a4;clear a4 a6 hy au hc;gi_wp2_with fail;go_roundw
    case rel=>exact⟨k+1,ar.b,by go_num,H4.a,_,ar.a,H4.b⟩
    case measure=>have:=ar.b;simp[intOf];omega
   ·have H4:=If a5;clear a5 hy au hc;gi_wp2_with fail;refine bodyPost_ret (results_none rfl _ _ _) rfl ?_;exact⟨⟨_,rfl⟩,.inr ⟨_,trivial,H4.O⟩⟩
  ·obtain rfl:k=n:=o_
   gi_wp2
   go_end0
   obtain⟨pX,ad,ai⟩:=an.O.2;exact⟨⟨_,rfl⟩,.inl ⟨_,by rw[ad,aQ (by rw[H0.e];exact Nat.le_refl _)],ai⟩⟩
theorem Mx(hN:N<=100000)(eg:∀args w,(callFunc g args).run prog w=.ok (.enter g args) w)
 (hseq:SeqStopsK Fence.wide 6 prog g lb mG (Below w.1.size) (fun xs=>iR xs=q) (fun _=>True) N w):
 CallsIn Fence.wide 7 prog 256 #[n_,.func (.func g) #[] lb] w fun e w'=>∃v,e=.returned v/\w'.ownsRow w.1.size 61 1 v q.length (uV q)/\D_ w w':=by
 have h1:1<=7:=o_
 obtain⟨i0,hi,bm,bo,bq⟩:=info_parts uP;refine callsIn_of_wp_marks func256 rfl trivial ?_ rfl;simp only[ntmps256,aS,aj,aL,Nat.reduceAdd,Nat.reduceSub,aO,aP,aT,aR,aX,aJ];gi_wp2_with fail;have k0:(w.alloc (.cells #[n_] 59)).1[w.1.size]?=some (.cells #[n_] 59 (0,0)):=heap_alloc_new w _;have a0:D_ w (w.alloc (.cells #[n_] 59)):=(aa _ w).alloc Ih _;have bc:(w.alloc (.cells #[n_] 59)).1.size=w.1.size+1:=s_
 generalize w.alloc (.cells #[n_] 59)=W0 at*;refine wpIn_rangeFunc_ownH rfl h1 (gf:=g) (lb:=lb) rfl trivial eg hseq (fun h k=>h.T k) (fun W l o o' h1 h2 h3 h4=>nN W l o o' o_ h2 h3 h4) a0 (fun _=>rfl)
  (fun ai W=>(∃v,W.1[w.1.size]?=some (.cells #[v] 59 (0,0))/\W.ownsRow w.1.size 61 1 v ai.length (uV (iR ai)))/\D_ w W)
  (fun _ _ _=>False)
  (OwnFrom.and (Own.from (fun s A B row hs hg hr=>by
   obtain⟨v,hv,C_⟩:=hs;refine⟨v,(hg.block _ (gl hv) (fun e=>?_)).T hv,wi C_ hg hr⟩;obtain⟨o,ho,hc⟩:=hr _ e.S;rw[hv] at ho;injection ho with ho
   subst ho;cases hc) _) (ownFrom_below Ih o_))
  (fun cd=>Own.from (fun s A B row hs hg hr=>hs) _)
  ⟨⟨_,k0,rfl,ab ⟨rfl,rfl⟩⟩,a0⟩
  (fun x a' _=>a'= { tmps:=#[n_,.func (.func g) #[] lb,PV w.1.size,undef,n_,Xu (x.1:Nat),.func (.func g) #[] lb,Xu (x.1:Nat),undef,undef,undef,undef,undef],defers:=[] })
  (fun x a' _ X W' row hs hg hr=>hs)
  ?assign ?body ?done ?stop
 case assign=>
  rintro l ai ⟨x,hx⟩ W K hI hK;have HK:=If hK;have HI:=If hI;clear hK hI;simp only[mG];gi_wp2
  exact HK.O _ _ (KeepsFrom.refl _ _) (aa _ _) HI.O rfl
 case body=>
  rintro l ai ⟨x,hx⟩ a' W hl _ ⟨⟨v,hv,C_⟩,hB⟩ rfl hlt;obtain⟨c1,f1⟩:=qS hv;have HI:=kq6 hv C_ hB hlt bc hl;obtain⟨m,hm⟩:=Ii ai.length;have bu:m<=100000:=o_
  rw[hm] at HI;clear hv C_ hB hlt hm;gi_wp2_with (gi_at_builtin;refine wpListIn_append_own_at _ rfl _ _ 59 rfl w.1.size 61 i0 (Xu 0) 1 8 underlying59 hi bm bo bq rfl d_ _ _ _ rfl (HI.b.alloc _) (y_ W.1.size) 1 1 [Xu x] rfl rfl (cell_one_new _ _ _) ?c2 ?c3 ?c4 ?c5 ?_)
  case c2=>simp[Value.oneCell']
  case c3=>unfold maxLen;omega
  case c4=>omega
  case c5=>have:=HI.c.size;simp;omega
  intro v' w1 hown hgrow _ hat;obtain⟨g',au,bd,rfl,a3,ap,a8,a9,ba,bb⟩:=hown.2.resolve_left (by rintro⟨_,h⟩;exact absurd h s_);obtain⟨hv,C_,hB,hlt,bc,hl⟩:=HI.O;have an:=hB.size;have a4:=(gl hv);have a7:v.ownBlock≠some w.1.size:=fun e'=>by
   rcases C_.2 with⟨rfl,_⟩ | ⟨g0,bs,bt,rfl,_,bf,_⟩
   ·cases e'
   ·have:g0=w.1.size:=by simpa[Value.ownBlock] using e'
    subst this;rw[bf] at hv;injection hv with hv
    injection hv with _ hv
    exact absurd hv d_
  have ad:w1.1[w.1.size]?=some (.cells #[v] 59 (0,0)):=by
   rw[hgrow.block _ m_ (fun e=>a7 e.S),heap_alloc_old W _ a4];exact hv
  have a5:g'≠w.1.size:=fun e=>by
   subst e;rw[ap] at ad;injection ad with ad
   injection ad with _ ad
   exact absurd ad d_
  have a1:Below w.1.size W w1:=((aa _ W).M an |>.alloc an (Xf x)).grown hgrow m_ (fun k e=>(C_.lt k e).1);have a6:KeepsFrom W0.1.size W w1:=((KeepsOthers.alloc W (Xf x)).from _).T (BL (C_.alloc _) hgrow);obtain⟨d1,e1⟩:=qS ad;have HW:=kq11 ad ap a5 a1 a6 hown a3 a8 a9 ba bb;clear ad ap a5 a1 a6 hown a3 a8 a9 ba bb hgrow hat a7 a4 an hv C_ hB hlt hl;gi_wp2_with fail;have a2:=HW.d.setCell (p:=y_ w.1.size) (Nat.le_refl w.1.size) (.slice (some (y_ g')) (m+1) au);refine⟨HW.e.T ((KeepsOthers.setCell _ _ _).from _),a2,⟨_,heap_setCell HW.a,?_⟩,HI.c.T a2⟩;have bj:(ai++[(⟨x,hx⟩:Jf)]).length=m+1:=by have:=HW.f.1;simp[uV,iR] at this⊢;omega
  have bk:uV (iR (ai++[(⟨x,hx⟩:Jf)]))=uV (iR ai)++[Xu x]:=by simp[uV,iR]
  rw[bj,bk];exact⟨HW.f.1,ae ⟨g',au,bd,rfl,HW.g,(FB HW.c).T HW.b,HW.O.2.2.2.2.2.2.2⟩⟩
 case done=>
  rintro D ys W hD hS ⟨⟨v,hv,C_⟩,hB⟩ hK;obtain⟨c1,f1⟩:=qS hv;have ar:ys.length=q.length:=by rw[<-hS];simp[iR]
  rw[hS,ar] at C_;have HI:=kq5 C_ hB hv ar hS;clear C_ hB hv ar hS f1;gi_wp2
  refine⟨s_,.inl ⟨_,_,rfl,run_takeDeferred hK,?_⟩⟩;refine⟨v,by simp[results,f256,go_sem],v,rfl,?_,HI.b.T (nN W D _ _ o_ hK rfl rfl)⟩;exact wi HI.a (grownBy_putObj' W D _) (fun r e=>by cases e;exact⟨_,hK,rfl⟩)
 case stop=>
  rintro D cd ai W hD bv hF;exact hF.elim
theorem MA(hN:N<=100000)(eg:∀args w,(callFunc g args).run prog w=.ok (.enter g args) w)
 (hseq:SeqStopsK Fence.wide 6 prog g lb mG (Below w.1.size) (fun xs=>iR xs=q) (fun _=>True) N w):
 Ct 231 #[.func (.func g) #[] lb] w fun e w'=>∃v,e=.returned v/\FE w' w.1.size v q/\D_ w w':=by
 have hc:=callsIn_wide.1 (Mx hN eg hseq);have H:=If hc;clear hc hseq;go_enter func231,ntmps231;go_wp2_with fail;refine H.O.M ?_;rintro e w1 ⟨v,rfl,h1,h2⟩;have J:=kq2 h1 h2;clear h1 h2;go_wp2_with fail;go_ret;exact⟨v,rfl,J.a,J.b⟩
theorem MO{B G c:Nat}(hN:l.length<=100000)(hl:∀x∈l,x<2^64)(h0:l≠[])(hB:w.1[B]?=some (.cells #[.slice (some (y_ G)) l.length c] 59 fr))(hG:∀(j:Nat) (h:j<l.length),w.cell? (x_ G j)=some (Xu (l[j]:Nat)))(hGl:G<w.1.size):
 Ct 204 #[.func (.func 233) #[] #[PV B]] w fun e w'=>∃v l',e=.returned v/\l'.Perm l/\FE w' w.1.size v l'/\D_ w w':=by
 have hc:=MA hN (enters_of func233 k_ rfl) (MP hN hl hB hG hGl);have H:=If hc;go_enter func204,ntmps204;go_wp2_with fail;refine H.O.M ?_;rintro e w1 ⟨v,rfl,ho,hb⟩;obtain⟨b,c,rfl,hc⟩:=ho.some (di.2 h0);have hp:PX ⟨w.1.size,b,0,l.length,c,w1,l,rfl,hN⟩ w1:=⟨l,aa _ _,List.Perm.refl _,ho,rfl⟩;have hs:=MN hp;have J:=kq2 hs hb;go_wp2_with fail;refine J.a.M ?_;rintro e w2 ⟨rfl,l2,P⟩;have K:=If P;go_wp2_with fail;go_ret;have hq:=K.O.len;have ho:=K.O.own;rw[hq] at ho;have hz:l.length=l2.length:=hq.S;refine⟨_,l2,rfl,K.O.perm,?_,J.b.T K.O.a_⟩;exact ho
theorem Mz(h:FE w D v l)(hl:l.length<=100000)(h0:l≠[]):Ct 207 #[v] w fun e w'=>∃v',e=.returned v'/\FE w' w.1.size v' l/\D_ w w':=by
 obtain⟨b,c,rfl,hc⟩:=h.some (di.2 h0);have hz:=(FE.ge h b rfl).2;have O:FE (w.alloc (.cells #[] 61)) w.1.size (.slice (some (y_ w.1.size)) 0 0) []:=⟨rfl,.inr ⟨w.1.size,0,#[],rfl,Nat.le_refl _,heap_alloc_new w _,s_,s_,s_,rfl⟩⟩;have ad:∀j u,(hV l)[j]?=some u->(w.alloc (.cells #[] 61)).cell? (((y_ b):Addr).add j)=some u:=fun j u hu=>by
  have:=World.ownsRow.cells h (g:=b) rfl j u hu;exact(((aa _ w).alloc Ih _).cell (p:=((y_ b):Addr).add j) (by rw[Addr.add_lit];omega)).T this
 obtain⟨v2,w2,ap,an,ai,ar⟩:=Ky O (xs:=l) (by grind) (y_ b) c ad s_ 59;have J:=kq2 an ai;have qs:∀(w:World) (a:Option Addr) (n c n' c':Nat),(binOp .eql 59 (.slice a n c) (.slice none n' c')).run prog w=.ok (.bool a.isNone) w:=fun w a n c n' c'=>Lib.run_eql_slice_nil w _ _ a n c n' c' underlying59;obtain⟨n,hn⟩:=Ii l.length;go_enter func207,ntmps207
 go_wp2_with (at_builtin;refine Lib.wpList_append_run _ rfl _ _ _ _ rfl _ _ rfl rfl _ _ ap ?_)
 go_ret;exact⟨v2,rfl,J.a,((aa _ w).alloc Ih _).grown J.b s_ (fun k e=>by cases e;grind)⟩
theorem MB(h:FE w D v l)(hl:l.length<=100000)(hn:l.Nodup):Ct 206 #[v] w fun e w'=>e=.returned v/\∃q,w'=w.drewN q:=by
 by_cases h0:l=[]
 ·subst h0;obtain⟨A,c,rfl⟩:=h.E_;go_enter func206,ntmps206;go_wp2_with fail;go_ret;exact⟨rfl,0,rfl⟩
 obtain⟨b,c,rfl,hc⟩:=h.some (di.2 h0);obtain⟨n,hq⟩:=Ii l.length;have H:=kq3 (fun(j:Nat) (hj:j<l.length)=>(mY h (af hj)).1) hn hq;go_enter func206,ntmps206
 by_cases h2:(n:Int)<2
 ·go_wp2_with fail;go_ret;exact⟨rfl,0,rfl⟩
 ·go_wp2_with fail
  go_loopg [3,4,5] n (fun t s3 _ _ wr=>∃k:Nat,s3=Xi ((k:Int)+1)/\k<n/\n-k<=t/\∃q,wr=w.drewN q)
  case atStart=>exact⟨0,s_,o_,o_,0,rfl⟩
  case round=>
   obtain⟨k,rfl,hk,ap,q,rfl⟩:=hrel
   by_cases hlt:(k:Int)+1<n
   ·have ad:k<l.length:=by have:=H.c;omega
    have ai:k+1<l.length:=by have:=H.c;omega
    have c1:=H.a k ad;have c2:=H.a (k+1) ai;have an:¬l[k+1]=l[k]:=fun e=>absurd ((List.getElem_inj (h₀:=ai) (h₁:=ad) H.b).1 e) o_;generalize l[k+1]=x at*;generalize l[k]=y at*;have hb:(x==y)=false:=by simp[an]
    go_wp2_with fail
    go_quiet (fail)
    go_wp2_with fail
    go_roundg (n-(k+1))
    case rel=>exact⟨k+1,s_,o_,o_,_,rfl⟩
    omega
   ·go_wp2_with fail;go_ret;exact⟨rfl,q,rfl⟩
theorem Lo(h:FE w D v l)(hl:l.length<=100000)(h0:l≠[])(hn:l.Nodup)(hx:∀x∈l,x<2^64):Cb 171 #[v] w (.bool false):=by
 obtain⟨b,c,rfl,hc⟩:=h.some (di.2 h0);have hz:=(FE.ge h b rfl).2;have B1:=c_ w (.cells #[.slice (some (y_ b)) l.length c] 59);have hs:=MO hl hx h0 (heap_alloc_new w (.cells #[.slice (some (y_ b)) l.length c] 59)) (fun j hj=>by
  obtain⟨b',c',e,_,q⟩:=h.cell_at hj
  injection e with e _ _
  injection e with e
  injection e with e
  subst e;exact(B1.cell (p:=x_ b j) hz).T q) m_
 have H:=kq4 hs B1 hn h0;obtain⟨n,hq⟩:=Ii l.length;rw[hq] at H hl;have HQ:=If hq;rw[hq];go_enter func171,ntmps171;go_wp2_with fail;refine Jc (MQ _ _ _ _) ?_;go_wp2_with fail;refine H.a.M ?_;rintro e w2 ⟨v2,l2,rfl,hp,ho,hb⟩;obtain⟨A2,c2,rfl⟩:=ho.E_;have ad:l2.length=n:=hp.length_eq.T HQ.O;have hc:=Mz ho o_ (fun e=>H.d (by simp_all));rw[ad] at hc;rw[ad];have J:=kq4 hc (hp.nodup_iff.2 H.c) hb ad;go_wp2_with fail;refine J.a.M ?_;rintro e w3 ⟨v3,rfl,ai,an⟩;obtain⟨A3,c3,rfl⟩:=ai.E_;have hc:=MB ai (by rw[J.d];omega) J.b;rw[J.d] at hc⊢;have K:=kq2 hc an;go_wp2_with fail;refine K.a.M ?_;rintro e w4 ⟨rfl,q,rfl⟩;go_wp2_with fail;go_ret;refine⟨s_,?_⟩;have b1:=H.b;have b2:=b_ b1 J.c;have b3:=b_ b2 K.b;exact⟨b3.os,b3.tape,b3.output,b3.size,b3.block⟩
end
section
open Go.RowKit Tryz Go.BigFrame Go.Maps Go.WideMaps Lf Tr
variable{S:St}{Y:Nat->Prop}{ps:Nat}{t:Nat}{w:World}
theorem zZ(h:Ig w ps S Y)(hi:Fv S)(t1:2<=t)(t2:t<=16):
 Ct 87 #[PV ps,Xi 3,Xi t] w fun e w'=>e=.returned (Xi 0)/\w=w':=by
 have ad:=fB h hi 0 o_;rw[fU] at ad;have ai:=fun W=>pW t t1 t2 W;have h6:((6*(t:Int))==0)=false:=m_
 have HG:=kq2 ad ai;clear ad h hi ai;go_enter func87,ntmps87;go_wp2_with fail;refine Jc HG.a ?_;go_wp2_with fail;refine Jc (HG.b _) ?_;go_wp2_with fail;go_ret;exact⟨rfl,rfl⟩
theorem zU(h:Ig w ps S Y)(hi:Fv S)(t1:2<=t)(t2:t<=16):
 Ct 133 #[PV ps,Xi t,Xu 0] w fun e w'=>e=.returned (Xi 0)/\w=w':=by
 have HG:=If (kZ h hi t1 t2);clear h hi;go_enter func133,ntmps133;go_wp2_with fail;refine Jc HG.O ?_;go_wp2_with fail;go_ret;exact⟨rfl,rfl⟩
theorem qc(h:Ig w ps S Y)(hi:Fv S)(t1:2<=t)(t2:t<=16):
 Ct 86 #[PV ps,Xi 3,Xi t,Xu 0] w fun e w'=>e=.returned (Xi 0)/\w=w':=by
 have HG:=kq2 (zZ h hi t1 t2) (zU h hi t1 t2);clear h hi;go_enter func86,ntmps86;go_wp2_with fail;refine Jc HG.a ?_;go_wp2_with fail;refine Jc HG.b ?_;go_wp2_with fail;go_ret;exact⟨rfl,rfl⟩
theorem Cy(h:Ig w ps S Y)(hi:Fv S)(t1:2<=t)(t2:t<=16):
 Ct 47 #[PV ps,Xi 3,Xi t,Xu 0] w fun e w'=>∃px,e=.returned (.tuple #[PV px,Xi 0])/\jE w' px ps t 0/\D_ w w'/\w.1.size<=px:=by
 have HG:=If (qc h hi t1 t2);have q:=heap_alloc_new w (.cells #[PV ps,Xi 3,Xi t,.iface 164 (.agg #[PV ps,Xi t]),Xu 0] 100);have B:=c_ w (.cells #[PV ps,Xi 3,Xi t,.iface 164 (.agg #[PV ps,Xi t]),Xu 0] 100);have HB:=kq2 q B;clear h hi q B;go_enter func47,ntmps47;go_wp2_with fail;refine Jc HG.O ?_;go_wp2_with fail;go_ret2;exact⟨w.1.size,rfl,HB.a,HB.b,Nat.le_refl _⟩
theorem Cv(h:Ig w ps S Y)(hi:Fv S)(t1:2<=t)(t2:t<=16):
 Ct 13 #[PV ps,Xi 3,Xi t] w fun e w'=>∃px,e=.returned (.tuple #[PV px,Xi 0])/\jE w' px ps t 0/\D_ w w'/\w.1.size<=px:=by
 have HG:=If (Cy h hi t1 t2);clear h hi;go_enter func13,ntmps13;go_wp2_with fail;refine HG.O.M ?_;rintro e w1 ⟨px,rfl,hr⟩;have HB:=If hr;clear hr;go_wp2_with fail;go_ret2;exact⟨px,rfl,HB.O⟩
theorem Am(m c:Value)(w:World):
 Ct 67 #[.pointer none,m,c] w fun e w'=>e=.returned (.tuple #[.map none,Xi 1])/\w=w':=by
 have HG:=If (OV 0 w);go_enter func67,ntmps67;go_wp2_with fail;refine Jc HG.O ?_;go_wp2_with fail;go_ret2;exact⟨rfl,rfl⟩
theorem pV{s m c:Value}(h:Ct 67 #[s,m,c] w fun e w'=>e=.returned (.tuple #[.map none,Xi 1])/\w=w'):
 Ct 34 #[s,m,c] w fun e w'=>e=.returned (Xi 1)/\w=w':=by
 have HG:=If h;clear h;go_enter func34,ntmps34;go_wp2_with fail;refine Jc HG.O ?_;go_wp2_with fail;go_ret;exact⟨rfl,rfl⟩
theorem OR{s m c:Value}(h:Ct 67 #[s,m,c] w fun e w'=>e=.returned (.tuple #[.map none,Xi 1])/\w=w'):
 Ct 32 #[s,m,c] w fun e w'=>e=.returned n_/\w=w':=by
 have HG:=If h;clear h;go_enter func32,ntmps32;go_wp2_with fail;refine Jc HG.O ?_;go_wp2_with fail;go_ret;exact⟨rfl,rfl⟩
theorem OZ(w:World):Ct 36 #[.pointer none] w fun e w'=>e=.returned n_/\w=w':=by
 have HG:=If (OJ (w:=w) (v:=.pointer none) (ab rfl));go_enter func36,ntmps36;go_wp2_with fail;refine Jc HG.O ?_;go_wp2_with fail;go_ret;exact⟨rfl,rfl⟩
structure OK (w:World) (bm:Nat) (A:Option Addr) (ms:List (Value×Option Nat)) (cs:List (Value×Nat)):Prop where
 cell:∀i (hi:i<ms.length),w.cell? (x_ bm i)=some ms[i].1
 st:∀m∈ms,Ct 70 #[m.1] w fun e w'=>e=.returned (NZ m.2)/\w=w'
 cellC:∀i (hi:i<cs.length),∃b o,A=some (x_ b o)/\w.cell? ⟨b,o+i,none⟩=some cs[i].1
 key:∀c∈cs,Ct 114 #[c.1] w fun e w'=>∃t:ByteArray,e=.returned (.tuple #[.string t,Xi c.2])/\w=w'
 no:(∃m∈ms,m.2=none)\/((∀m∈ms,m.2≠none)/\∃c∈cs,c.2=1)
 len:ms.length<=1000/\cs.length<=1000
theorem Ay{ps bm cm cc:Nat}{A:Option Addr}{o:Nat->Nat}{ms:List (Value×Option Nat)}{cs:List (Value×Nat)}(h:Ig w ps S Y)(hf:Fw S o)(hn:OK w bm A ms cs):
 Ct 67 #[PV ps,.slice (some (y_ bm)) ms.length cm,.slice A cs.length cc] w fun e w'=>e=.returned (.tuple #[.map none,Xi 1])/\w=w':=by
 have a1:=fB h hf.inv 0 o_;rw[oy (rZ hf)] at a1;obtain⟨n,au⟩:=Ii ms.length;obtain⟨nc,ar⟩:=Ii cs.length;have bf:n<=1000:=by rw[<-au];exact hn.len.1
 have a9:nc<=1000:=by rw[<-ar];exact hn.len.2
 have HR:=kq4 a1 hn au ar;rw[au,ar];clear a1 hn au ar h hf;go_enter func67,ntmps67;go_wp2_with fail;refine Jc HR.a ?_;go_wp2_with fail
 go_loopw [11,34] (fun _ s34 wr=>∃j:Nat,j<=n/\s34=Xi j/\Hid ((∀i (hi:i<ms.length),i<j->ms[i].2≠none)/\wr=w)) (fun _ s34 _=>n-(intOf s34).toNat)
 case atStart=>exact⟨0,o_,rfl,fun i _ q=>absurd q o_,rfl⟩
 case round=>
  obtain⟨j,bd,rfl,I⟩:=hrel;have hw:=I.O.2.S;subst hw
  by_cases hlt:j<n
  ·have a8:(j:Int)<n:=o_
   have a0:j<ms.length:=by rw[HR.c];exact hlt
   have a5:=HR.b.cell j a0;have ad:=HR.b.st ms[j] (ao _);have ai:ms[j].2≠none->∀i (hi:i<ms.length),i<j+1->ms[i].2≠none:=fun q i hi hij=>by
    by_cases e:i=j
    ·subst e;exact q
    ·exact I.O.1 i hi o_
   clear I;obtain⟨⟨vj,qj⟩,a2⟩:∃x,ms[j]=x:=⟨_,rfl⟩;rw[a2] at a5 ad ai;simp only at a5 ad ai
   cases qj with
   | none=>
    simp only[NZ] at ad;have HS:=If ad;clear ad ai a0 a2;go_wp2_with fail;refine Jc HS.O ?_;go_wp2_with fail;go_ret2;exact⟨rfl,rfl⟩
   | some q=>
    simp only[NZ] at ad;have HS:=kq2 ad (ai fun e=>nomatch e);clear ad ai a0 a2;go_wp2_with fail;refine Jc HS.a ?_;go_wp2_with fail;go_roundw
    case rel=>exact⟨j+1,o_,s_,HS.b,s_⟩
    case measure=>simp[intOf];omega
  ·obtain rfl:j=n:=o_
   have a8:¬(j:Int)<j:=o_
   have a6:∃c∈cs,c.2=1:=by
    rcases HR.b.no with⟨x,hx,e⟩ | ⟨_,q⟩
    ·obtain⟨i,hi,e2⟩:=bK.1 hx;have:=HR.c;exact absurd (e2▸e) (I.O.1 i hi o_)
    ·exact q
   have HC:=If a6;clear a6 I;go_wp2_with fail
   go_loopw [13,14,15,44] (fun _ _ _ s44 wq=>∃i:Nat,i<=nc/\s44=Xi i/\Hid ((∀k (hk:k<cs.length),k<i->cs[k].2≠1)/\wq=w)) (fun _ _ _ s44 _=>nc-(intOf s44).toNat)
   case atStart=>exact⟨0,o_,rfl,fun i _ q=>absurd q o_,rfl⟩
   obtain⟨i,bb,rfl,J⟩:=hrel;have hw:=J.O.2.S;subst hw
   by_cases hic:i<nc
   ·have ba:(i:Int)<nc:=o_
    have a7:i<cs.length:=by rw[HR.d];exact hic
    obtain⟨bc,oc,rfl,a3⟩:=HR.b.cellC i a7;have ap:=HR.b.key cs[i] (ao _);have an:cs[i].2≠1->∀k (hk:k<cs.length),k<i+1->cs[k].2≠1:=fun q k hk hki=>by
     by_cases e:k=i
     ·subst e;exact q
     ·exact J.O.1 k hk o_
    clear J;obtain⟨⟨vc,g⟩,a4⟩:∃x,cs[i]=x:=⟨_,rfl⟩;rw[a4] at a3 ap an;simp only at a3 ap an;have HS:=kq2 ap an;clear ap an a7 a4
    by_cases hg:g=1
    ·subst hg;go_wp2_with fail;refine HS.a.M ?_;rintro e w1 ⟨t,rfl,rfl⟩;go_wp2_with fail;go_ret2;exact⟨rfl,rfl⟩
    ·have a':¬((g:Int)=1):=o_
     go_wp2_with fail;refine HS.a.M ?_;rintro e w1 ⟨t,rfl,rfl⟩;go_wp2_with fail;go_roundw
     case rel=>exact⟨i+1,o_,s_,HS.b hg,s_⟩
     case measure=>simp[intOf];omega
   ·exfalso
    obtain⟨c,hc,e⟩:=HC.O;obtain⟨k,hk,e2⟩:=bK.1 hc;have:=HR.d;exact J.O.1 k hk o_ (e2▸e)
theorem uS:∀d,j4 d
 | 0=>uU 0 fun _ h=>absurd h o_
 | d+1=>uU (d+1) fun d0 h=>by
  have h:d=d0:=o_
  subst h;exact @uS d
