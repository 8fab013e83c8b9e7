/- Trees of the face of B-trees: Len, Rank, Get, At, Put: what they answer of a row of F0. -/
import Derived.Test.YtpljannolpapgaaGreatDoorTDd
import Derived.Test.YtpljannolpapgaaGreatDoorTXu
import Derived.Test.YtpljannolpapgaaGreatDoorTYt
import Derived.Test.YtpljannolpapgaaGreatDoorTPr
set_option maxRecDepth 100000
set_option maxHeartbeats 6400000
namespace Go.Proofs.YtpljannolpapgaaGreatDoor
section
open Go.RowKit Tryz Go.BigFrame Go.Maps Go.WideMaps Lf Tr
abbrev jE(w:World)(px ps t f9:Nat):Prop:=FF w px ps 164 (jx ps t) 3 t f9
theorem rZ {S:St}{o:Nat->Nat}(hf:Fw S o):i_ S 0=none:=by
 cases h:i_ S 0 with
 | none=>rfl
 | some ws=>have:=(fL hf h).1;omega
theorem jT(l:List It):(F0 l).length=l.length:=by unfold F0;grind
def eK(L:List (List UInt8×List UInt8))(a:List UInt8):Nat:=L.countP fun p=>decide (Fu p.1 a<0)
section
variable {w:World}{px ps t f9:Nat}{S:St}{o:Nat->Nat}{Y:Nat->Prop}{L:List (List UInt8×List UInt8)}{R:List Nat}
structure iV (S:St) (L:List (List UInt8×List UInt8)) (R:List Nat) (Hold:St->(Nat->Nat)->Nat->List (List UInt8×List UInt8)->List Nat->Prop) (a b:List UInt8) (p q:Nat) (x:Nat) (S3:St):Prop where
 holds:∃o3 R3,Hold S3 o3 x (gV L a b) R3/\(∀y∈R3,y∈R\/i_ S y=none)/\∀y,i_ S3 y≠none->y∈R3\/i_ S y≠none/\y∉R
 grew:ej S S3 p q
 apart:∀y,y∉R->i_ S y≠none->i_ S3 y=i_ S y
theorem qDhac{P:Prop}(h:P:=by
 obtain⟨rfl,rfl,hR⟩:=hR;refine b8 (sV px 0 0 W) fun w' hb=>?_;exact⟨S',rfl,hW.a_ hb,hW.A_ hb,hR⟩):P:=h
theorem CG {a:List UInt8}(hins:Bt.getL L a=none->L≠[]->∀d,j4 d)(h:Ig w ps S Y)(hH:Bt.Holds S o t f9 L R)(hT:jE w px ps t f9)(hpx:Y px)(b:List UInt8)(ha:a.length<=1000)(hb:b.length<=1000)(hc:L.length<126)(hr:fc S 20 9):
 Ct 43 #[PV px,eu (a,b)] w fun e w'=>∃(x:Nat) (S3:St),e=.returned (.tuple #[SV ((Bt.getL L a).getD []),.bool (Bt.getL L a).isSome,Xi 0])/\Ig w' ps S3 Y/\Fo (fun k=>Y k/\k≠px) w w'/\jE w' px ps t x/\iV S L R (fun S o x L R=>Bt.Holds S o t x L R) a b 20 9 x S3:=by
 obtain⟨ka,vb,S1,o1,a0,au,f1,n1,n2,a2,l1,l2,q1,g1⟩:=Bt.two_fit hH.fit ha hb (hr.M o_ o_);have ad:∀y,i_ S y≠none->i_ S1 y=i_ S y:=fun y hy=>q1 y (by rintro rfl;exact hy n1) (by rintro rfl;exact hy n2);have a9:fc S1 14 7:=fc.grew (hr.M (p':=6+14) (q':=2+7) o_ o_) g1;have an:gu S1 ⟨0,ka,vb,a,b⟩:=⟨l1,l2,ha,hb⟩
 rcases hH with⟨hE,rfl,rfl,rfl⟩ | ⟨d,x,hx,rfl,rfl,rfl⟩
 ·--the first key
  refine(ny h hE.fit.inv hT hpx a b au a0 false [] (R:=fun x ik iv S'=>ik=0/\iv=0/\iV S [] [] (fun S o x L R=>Bt.Holds S o t x L R) a b 20 9 x S') (R2:=fun x S'=>iV S [] [] (fun S o x L R=>Bt.Holds S o t x L R) a b 20 9 x S') rH qu (fun W Z hW _ _=>rA hW false fun V Z' hV=>?_) fun x ik iv S' hR W Z hW _ _=>?_).M ?_
  ·refine(zH hV ⟨f1,hE.t1,hE.t2⟩ (e:=⟨0,ka,vb,a,b⟩) ⟨an,a2⟩ (a9.M o_ o_)).M ?_;rintro e w' ⟨y,S',o',rfl,hs,hk,ht,hi,hn,ar,hg,a1⟩;refine⟨_,_,_,S',rfl,hs,hk,rfl,rfl,⟨⟨o',Bt.recs y,ae ⟨0,y,ht,rfl,?_,rfl⟩,fun z hzm=>?_,fun z hz=>?_⟩,(g1.T hg).M o_ o_,fun z _ hz=>(ar z (by rw[ad z hz];exact hz)).T (ad z hz)⟩⟩
   ·rw[hi]
    rfl
   ·refine ae ?_
    cases q:i_ S z with
    | none=>rfl
    | some ws=>
     exfalso
     have a':=ad z (by rw[q];simp);unfold Bt.recs at hzm
     rcases ao.1 hzm with hm | hm
     ·rw[hn z hm,q] at a'
      cases a'
     ·rw[hi] at hm;have hm:z∈ [ka,vb]:=hm
      rcases ah.1 hm with rfl | hm
      ·rw[n1] at q
       cases q
      ·rw[aH.1 hm,n2] at q
       cases q
   ·have a5:∀u∈ [ka,vb],u∈Bt.recs y:=fun u hu=>aA _ (by rw[hi];exact hu)
    rcases a1 z hz with q | q
    ·exact ab (aB _ q)
    ·by_cases e1:z=ka
     ·exact ab (a5 z (by simp[e1]))
     ·by_cases e2:z=vb
      ·exact ab (a5 z (by simp[e2]))
      ·exact ae ⟨fun p=>q ((q1 z e1 e2).T p),bT⟩
  ·exact qDhac
  ·rintro e w' ⟨x,S3,rfl,h1,h2,h3,h4⟩;exact⟨x,S3,rfl,h1,h2,h3,h4⟩
 ·have ai:Bt.Tree S1 o1 t x:=hx.frame f1 fun y hy=>ad y (hx.has y hy);have bq:(Bt.its x).length<126:=by rw[jT] at hc;exact hc
  have a8:ka∉Bt.recs x/\vb∉Bt.recs x:=⟨fun q=>hx.has _ q n1,fun q=>hx.has _ q n2⟩;have bs:d<=5:=by
   have h1:=Bt.pow_le t hx.t1 hx.ok hx.pos
   rcases cB 5 d with h3 | h3
   ·have:2^7<=2^(d+1):=cT d_ o_;have e:2^7=128:=d_
    omega
   ·exact h3
  cases hf:Bt.G7 a (Bt.its x) with
  | none=>
   have ap:Bt.getL (F0 (Bt.its x)) a=none:=by rw[Bt.getL_pairs,hf];rfl
   rw[ap];have a7:∀z∈Bt.its x,z.k≠a:=fun z hz q=>by
    unfold Bt.G7 at hf;have:=bP.1 hf z hz;rw[q] at this
    simp at this
   have bb:F0 (Bt.its x)≠[]:=fun q=>by
    have h1:=Bt.pow_le t hx.t1 hx.ok hx.pos;have h2:=congrArg List.length q;rw[jT] at h2;have h3:2^1<=2^(d+1):=cT d_ o_;have h2:(Bt.its x).length=0:=h2;omega
   have hq:=(oE t a x).2;have bf:fc S1 (2*iD t a x) (iD t a x):=a9.M o_ o_;refine(ny h hx.fit.inv hT hpx a b au a0 false [] (R:=fun x' ik iv S'=>ik=0/\iv=0/\iV S (F0 (Bt.its x)) (Bt.recs x) (fun S o x L R=>Bt.Holds S o t x L R) a b 20 9 x' S') (R2:=fun x' S'=>iV S (F0 (Bt.its x)) (Bt.recs x) (fun S o x L R=>Bt.Holds S o t x L R) a b 20 9 x' S') rH qu (fun W Z hW _ _=>rA hW false fun V Z' hV=>?_) fun x' ik iv S' hR W Z hW _ _=>?_).M ?_
   ·refine(zI (hins ap bb) hV ai (e:=⟨0,ka,vb,a,b⟩) ⟨an,a2,a8,a7,o_⟩ bf).M ?_;rintro e w' ⟨d',y,S',o',rfl,hs,hk,ht,hi,hn,ar,hg,a1⟩;have hg:ej S1 S' (2*iD t a x) (iD t a x):=hg;refine⟨_,_,_,S',rfl,hs,hk,rfl,rfl,⟨⟨o',Bt.recs y,ae ⟨d',y,ht,rfl,?_,rfl⟩,fun z hzm=>?_,fun z hz=>?_⟩,(g1.T hg).M o_ o_,fun z hzx hz=>(ar z (fun q=>hzx (aB _ q)) (by rw[ad z hz];exact hz)).T (ad z hz)⟩⟩
    ·rw[hi];exact(Bt.pairs_ins (e:=⟨0,ka,vb,a,b⟩) hx.F3 a7).S
    ·unfold Bt.recs at hzm
     rcases ao.1 hzm with hm | hm
     ·rcases hn z hm with q | q
      ·exact ab (aB _ q)
      ·refine ae ?_
       cases q2:i_ S z with
       | none=>rfl
       | some ws=>
        have:=ad z (by rw[q2];simp);rw[q,q2] at this
        cases this
     ·rw[hi] at hm
      rcases(Bt.blobH_ins z).1 hm with rfl | rfl | q
      ·exact ae n1
      ·exact ae n2
      ·exact ab (aA _ q)
    ·rcases a1 z hz with q | ⟨q,q2⟩
     ·exact ab (aB _ q)
     ·by_cases hb:z∈ff (Bt.its y)
      ·exact ab (aA _ hb)
      ·rw[hi,Bt.blobH_ins z] at hb;refine ae ⟨fun p=>q ((q1 z (fun e=>hb (.inl e)) fun e=>hb (.inr (.inl e))).T p),fun p=>?_⟩
       rcases ao.1 p with p | p
       ·exact q2 p
       ·exact hb (.inr (.inr p))
   ·exact qDhac
   ·rintro e w' ⟨x',S3,rfl,h1,h2,h3,h4⟩;exact⟨x',S3,rfl,h1,h2,h3,h4⟩
  | some e0=>
   have ap:Bt.getL (F0 (Bt.its x)) a=some e0.v:=by rw[Bt.getL_pairs,hf];rfl
   rw[ap];obtain⟨⟨g,n0,k0⟩,a6⟩:=Bt.nodeB_some (key:=a) ai.walk (by rw[hf];rfl);obtain⟨e1,a3⟩:=Bt.rep_at (e:=⟨0,ka,vb,a,b⟩) (Bt.blobs_lt f1 an) ai.walk ai.h_ ai.lts a6;obtain rfl:e1=e0:=Option.some.inj (a3.find.S.T hf);obtain⟨S2,a4⟩:∃S2,S2=FC S1 g 0 (w_ t (Bt.setN n0 k0 ⟨0,ka,vb,a,b⟩)):=⟨_,rfl⟩;obtain⟨i2,b2,lk,lv,d2,S3,bc,bo,bk,g3,ba,bm,bj⟩:=ai.swap an a2 a8 a3 a4;have bd:iV S (F0 (Bt.its x)) (Bt.recs x) (fun S o x L R=>Bt.Holds S o t x L R) a b 20 9 (Bt.hd x) S3:=by
    refine⟨⟨o1,_,ae ⟨d,_,bo,(Bt.mapB_hd _ x).S,bk.S,rfl⟩,fun y hy=>?_,fun y hy=>?_⟩,(g1.T g3).M o_ o_,fun y hy hz=>(ba y hy).T (ad y hz)⟩
    ·rcases bm y hy with q | rfl | rfl
     ·exact ab q
     ·exact ae n1
     ·exact ae n2
    ·by_cases hm:y∈Bt.recs (Bt.mapB (Bt.rep ⟨0,ka,vb,a,b⟩) x)
     ·exact ab hm
     ·rcases bj y hy with q | ⟨q,q2,e1,e2⟩
      ·exact ab q
      ·exact ae ⟨fun p=>q ((q1 y e1 e2).T p),q2⟩
   refine(ny h hx.fit.inv hT hpx a b au a0 true e1.v (R:=fun x' ik iv S'=>x'=Bt.hd x/\ik=e1.kh/\iv=e1.vh/\S'=S2) (R2:=fun x' S'=>iV S (F0 (Bt.its x)) (Bt.recs x) (fun S o x L R=>Bt.Holds S o t x L R) a b 20 9 x' S') rH qu (fun W Z hW _ _=>rA hW true fun V Z' hV=>?_) fun x' ik iv S' hR W Z hW hTW hZ=>?_).M ?_
   ·refine(zJ hV ai (e:=⟨0,ka,vb,a,b⟩) an a6 a3).M ?_;rintro e w' ⟨rfl,hs,hk⟩;rw[<-a4] at hs;exact⟨_,_,_,S2,rfl,hs,hk,rfl,rfl,rfl,rfl⟩
   ·obtain⟨rfl,rfl,rfl,rfl⟩:=hR;refine(xL hW i2.inv hTW hZ e1.kh e1.vh lk lv (by rw[b2];simp) d2).M ?_;rintro e w' ⟨rfl,hs,hk⟩;rw[b2];rw[<-bc] at hs;exact⟨S3,rfl,hs,hk,bd⟩
   ·rintro e w' ⟨x',S4,rfl,h1,h2,h3,h4⟩;exact⟨x',S4,rfl,h1,h2,h3,h4⟩
end
theorem zZ {w:World}{ps:Nat}{S:St}{Y:Nat->Prop}(h:Ig w ps S Y)(hi:Fv S){t:Nat}(t1:2<=t)(t2:t<=16):
 Ct 87 #[PV ps,Xi 3,Xi t] w fun e w'=>e=.returned (Xi 0)/\w=w':=by
 have ad:=fB h hi 0 o_;rw[fU] at ad;have ai:=fun W=>pW t t1 t2 W;have h6:((6*(t:Int))==0)=false:=m_
 have HG:=kq2 ad ai;clear ad h hi ai;go_enter func87,ntmps87;go_wp2_with fail;refine Jc HG.a ?_;go_wp2_with fail;refine Jc (HG.b _) ?_;go_wp2_with fail;go_ret;exact⟨rfl,rfl⟩
theorem zU {w:World}{ps:Nat}{S:St}{Y:Nat->Prop}(h:Ig w ps S Y)(hi:Fv S){t:Nat}(t1:2<=t)(t2:t<=16):
 Ct 133 #[PV ps,Xi t,Xu 0] w fun e w'=>e=.returned (Xi 0)/\w=w':=by
 have HG:=If (kZ h hi t1 t2);clear h hi;go_enter func133,ntmps133;go_wp2_with fail;refine Jc HG.O ?_;go_wp2_with fail;go_ret;exact⟨rfl,rfl⟩
theorem qc {w:World}{ps:Nat}{S:St}{Y:Nat->Prop}(h:Ig w ps S Y)(hi:Fv S){t:Nat}(t1:2<=t)(t2:t<=16):
 Ct 86 #[PV ps,Xi 3,Xi t,Xu 0] w fun e w'=>e=.returned (Xi 0)/\w=w':=by
 have HG:=kq2 (zZ h hi t1 t2) (zU h hi t1 t2);clear h hi;go_enter func86,ntmps86;go_wp2_with fail;refine Jc HG.a ?_;go_wp2_with fail;refine Jc HG.b ?_;go_wp2_with fail;go_ret;exact⟨rfl,rfl⟩
theorem Cy {w:World}{ps:Nat}{S:St}{Y:Nat->Prop}(h:Ig w ps S Y)(hi:Fv S){t:Nat}(t1:2<=t)(t2:t<=16):
 Ct 47 #[PV ps,Xi 3,Xi t,Xu 0] w fun e w'=>∃px,e=.returned (.tuple #[PV px,Xi 0])/\jE w' px ps t 0/\D_ w w'/\w.1.size<=px:=by
 have HG:=If (qc h hi t1 t2);have q:=heap_alloc_new w (.cells #[PV ps,Xi 3,Xi t,.iface 164 (.agg #[PV ps,Xi t]),Xu 0] 100);have B:=c_ w (.cells #[PV ps,Xi 3,Xi t,.iface 164 (.agg #[PV ps,Xi t]),Xu 0] 100);have HB:=kq2 q B;clear h hi q B;go_enter func47,ntmps47;go_wp2_with fail;refine Jc HG.O ?_;go_wp2_with fail;go_ret2;exact⟨w.1.size,rfl,HB.a,HB.b,Nat.le_refl _⟩
theorem Cv {w:World}{ps:Nat}{S:St}{Y:Nat->Prop}(h:Ig w ps S Y)(hi:Fv S){t:Nat}(t1:2<=t)(t2:t<=16):
 Ct 13 #[PV ps,Xi 3,Xi t] w fun e w'=>∃px,e=.returned (.tuple #[PV px,Xi 0])/\jE w' px ps t 0/\D_ w w'/\w.1.size<=px:=by
 have HG:=If (Cy h hi t1 t2);clear h hi;go_enter func13,ntmps13;go_wp2_with fail;refine HG.O.M ?_;rintro e w1 ⟨px,rfl,hr⟩;have HB:=If hr;clear hr;go_wp2_with fail;go_ret2;exact⟨px,rfl,HB.O⟩
structure jo where
 On:World->Nat->Nat->Nat->Prop
 Hold:St->(Nat->Nat)->Nat->List (List UInt8×List UInt8)->List Nat->Prop
structure dU (K:jo):Prop where
 onBelow:∀{w w':World} {px ps f9:Nat},K.On w px ps f9->D_ w w'->K.On w' px ps f9
 onKeep:∀{w w':World} {px ps f9:Nat} {Y:Nat->Prop},K.On w px ps f9->Fo Y w w'->Y px->K.On w' px ps f9
 onLt:∀{w:World} {px ps f9:Nat},K.On w px ps f9->px<w.1.size
 onAt:∀{w w':World} {px ps f9:Nat},K.On w px ps f9->w'.1[px]?=w.1[px]?->K.On w' px ps f9
 fit:∀{S:St} {o:Nat->Nat} {f9:Nat} {L:List (List UInt8×List UInt8)} {R:List Nat},K.Hold S o f9 L R->Fw S o
 has:∀{S:St} {o:Nat->Nat} {f9:Nat} {L:List (List UInt8×List UInt8)} {R:List Nat},K.Hold S o f9 L R->∀y∈R,i_ S y≠none
 frame:∀{S S':St} {o o':Nat->Nat} {f9:Nat} {L:List (List UInt8×List UInt8)} {R:List Nat},K.Hold S o f9 L R->Fw S' o'->(∀y∈R,i_ S' y=i_ S y)->K.Hold S' o' f9 L R
 F3:∀{S:St} {o:Nat->Nat} {f9:Nat} {L:List (List UInt8×List UInt8)} {R:List Nat},K.Hold S o f9 L R->L.Pairwise fun p q=>Fu p.1 q.1<0
structure pL (K:jo):Prop extends dU K where
 len:∀{w:World} {px ps f9:Nat} {S:St} {o:Nat->Nat} {Y:Nat->Prop} {L:List (List UInt8×List UInt8)} {R:List Nat},Ig w ps S Y->K.Hold S o f9 L R->L.length<98->K.On w px ps f9->
  Cb 19 #[PV px] w (Xi (L.length:Nat))
 rank:∀{w:World} {px ps f9:Nat} {S:St} {o:Nat->Nat} {Y:Nat->Prop} {L:List (List UInt8×List UInt8)} {R:List Nat},Ig w ps S Y->K.Hold S o f9 L R->L.length<98->K.On w px ps f9->∀k:List UInt8,
  Cb 16 #[PV px,SV k] w (Xi (eK L k:Nat))
 get:∀{w:World} {px ps f9:Nat} {S:St} {o:Nat->Nat} {Y:Nat->Prop} {L:List (List UInt8×List UInt8)} {R:List Nat},Ig w ps S Y->K.Hold S o f9 L R->L.length<98->K.On w px ps f9->∀k:List UInt8,
  Cb 17 #[PV px,SV k] w (.tuple #[SV ((Bt.getL L k).getD []),.bool (Bt.getL L k).isSome])
 at':∀{w:World} {px ps f9:Nat} {S:St} {o:Nat->Nat} {Y:Nat->Prop} {L:List (List UInt8×List UInt8)} {R:List Nat},Ig w ps S Y->K.Hold S o f9 L R->L.length<98->K.On w px ps f9->∀(k:Nat) (p:List UInt8×List UInt8),L[k]?=some p->
  Cb 18 #[PV px,Xi k] w (.tuple #[eu p,Xi 0])
 atRef:∀{w:World} {px ps f9:Nat} {S:St} {o:Nat->Nat} {Y:Nat->Prop} {L:List (List UInt8×List UInt8)} {R:List Nat},Ig w ps S Y->K.Hold S o f9 L R->L.length<98->K.On w px ps f9->∀k:Int,k<2^62->(k<0\/(L.length:Int)<=k)->
  Cb 18 #[PV px,Xi k] w (.tuple #[eu ([],[]),Xi 2])
structure dT (K:jo) (P:List (List UInt8×List UInt8)->Prop):Prop extends dU K where
 put:∀{w:World} {px ps f9:Nat} {S:St} {o:Nat->Nat} {Y:Nat->Prop} {L:List (List UInt8×List UInt8)} {R:List Nat},Ig w ps S Y->K.Hold S o f9 L R->L.length<98->K.On w px ps f9->Y px->P L->∀a b:List UInt8,a.length<=1000->b.length<=1000->fc S 20 9->
  Ct 43 #[PV px,eu (a,b)] w fun e w'=>∃(x:Nat) (S3:St),e=.returned (.tuple #[SV ((Bt.getL L a).getD []),.bool (Bt.getL L a).isSome,Xi 0])/\Ig w' ps S3 Y/\Fo (fun k=>Y k/\k≠px) w w'/\K.On w' px ps x/\iV S L R K.Hold a b 20 9 x S3
structure gB (K:jo) (P:List (List UInt8×List UInt8)->Prop):Prop extends pL K,dT K P
def mS(t:Nat):jo:=⟨fun w px ps f9=>jE w px ps t f9,fun S o f9 L R=>Bt.Holds S o t f9 L R⟩
theorem uY {l:List It}(h:l.Pairwise eU):(F0 l).Pairwise fun p q=>Fu p.1 q.1<0:=by
 exact dR.2 (h.imp fun {a b} q=>q)
theorem NO(t:Nat):dU (mS t) where
 onBelow h hb:=FF.a_ h hb
 onKeep h hk hy:=FF.A_ h hk hy
 onLt h:=(gl h)
 onAt h e:=e.T h
 fit h:=Bt.Holds.fit h
 has h:=Bt.Holds.has h
 frame h:=Bt.Holds.frame h
 F3 h:=by
  rcases h with⟨_,_,rfl,_⟩ | ⟨_,_,h,_,rfl,_⟩
  ·exact List.Pairwise.nil
  ·exact uY h.F3
theorem NQ(hins:∀d,j4 d)(t:Nat){P:List (List UInt8×List UInt8)->Prop}:dT (mS t) P:=
 { NO t with put:=fun h hH hc hT hpx _ _ b ha hb hr=>CG (fun _ _=>hins) h hH hT hpx b ha hb o_ hr }
def jH(l_:Nat)(Ok:Tr->Prop):jo:=⟨fun w px ps f9=>FF w px ps 162 (fE ps l_) l_ 0 f9,fun S o f9 L R=>∃t:Tr,fC Ok S o t/\f9=t.f9/\L=F0 t.its/\R=eB t.its⟩
theorem At.item {S:St}:∀{t:Tr},Tr.At S t->∀d∈t.its,∃n0:Nd,i_ S d.h=some (eM n0)/\n0.key=d.kh/\n0.val=d.vh
 | .nil,_,d,hd=>by cases hd
 | .node l e m r,ha,d,hd=>by
  obtain⟨h1,h2,h3⟩:=ha;rcases ao.1 (show d∈l.its++e::r.its from hd) with hd | hd
  ·exact At.item h2 d hd
  ·rcases ah.1 hd with rfl | hd
   ·exact⟨_,h1,rfl,rfl⟩
   ·exact At.item h3 d hd
theorem nZ(L:List (List UInt8×List UInt8))(a:List UInt8):eK L a<=L.length:=bY
theorem uj(args:Array Value)(w:World):(callFunc 301 args).run prog w=.ok (.enter 301 args) w:=by simp_all
theorem NL(l_:Nat)(Ok:Tr->Prop):dU (jH l_ Ok) where
 onBelow h hb:=FF.a_ h hb
 onKeep h hk hy:=FF.A_ h hk hy
 onLt h:=(gl h)
 onAt h e:=e.T h
 fit h:=by obtain⟨t,h,_⟩:=h;exact h.fit
 has h:=by obtain⟨t,h,_,_,rfl⟩:=h;exact h.some
 frame h hf hs:=by obtain⟨t,h,h1,h2,rfl⟩:=h;exact⟨t,h.frame hf hs,h1,h2,rfl⟩
 F3 h:=by obtain⟨t,h,_,rfl,_⟩:=h;exact uY h.F3
theorem NK {l_:Nat}{j c:FuncId}{jn:Jn}{Ok:Tr->Prop}(hk:jD l_ j c jn)(J:kV jn Ok){P:List (List UInt8×List UInt8)->Prop}:dT (jH l_ Ok) P where
 todU:=NL l_ Ok
 put {w px ps f9 S o Y L R} h hH hc hT hpx _ a b ha hb' hr:=by
  obtain⟨t,hb,rfl,rfl,rfl⟩:=hH;rw[jT] at hc;have a0:=hr.M (p':=7) (q':=3) o_ o_;have hl:=hb.at'.root_lt hb.fit;cases hf:Bt.G7 a t.its with
  | none=>
   have ap:Bt.getL (F0 t.its) a=none:=by rw[Bt.getL_pairs,hf];rfl
   have a2:∀z∈t.its,z.k≠a:=fun z hz q=>by
    unfold Bt.G7 at hf;have:=bP.1 hf z hz;rw[q] at this;simp at this
   rw[ap];obtain⟨u,S',o',po,ad,hB,ar,_,hg,an,au⟩:=DI J hb hc ha hb' a0 a2;unfold treePutM at ad;split at ad
   ·cases ad
   rename_i p S1 hit;have ai:iV S (F0 t.its) (eB t.its) (jH l_ Ok).Hold a b 20 9 u.f9 S':=⟨⟨o',eB u.its,⟨u,hB,rfl,ar.S,rfl⟩,au⟩,hg.M o_ o_,an⟩;refine ny h hb.fit.inv hT hpx a b po.1 hit false [] (R:=fun x ik iv S2=>x=u.f9/\ik=0/\iv=0/\S2=S') (R2:=fun x S2=>iV S (F0 t.its) (eB t.its) (jH l_ Ok).Hold a b 20 9 x S2) vQ uj (fun W Z hW hp1 hp2=>?_) fun x ik iv S2 hR W Z hW _ _=>?_
   ·refine(zc hW (po.2 _ _ hit) hk t.f9 p.1 p.2 hl hp1 hp2 ad).M ?_;rintro e w' ⟨rfl,h1,h2,_,_⟩;exact⟨_,_,_,S',rfl,h1,h2,rfl,rfl,rfl,rfl⟩
   ·obtain⟨rfl,rfl,rfl,rfl⟩:=hR;refine b8 (sV px 0 0 W) fun w' hb=>?_;exact⟨_,rfl,hW.a_ hb,hW.A_ hb,ai⟩
  | some d=>
   have ap:Bt.getL (F0 t.its) a=some d.v:=by rw[Bt.getL_pairs,hf];rfl
   rw[ap];have hd:d∈t.its:=by unfold Bt.G7 at hf;exact cD hf
   have a1:d.k=a:=by unfold Bt.G7 at hf;simpa using List.find?_some hf
   have hlt:=Bt.blobs_lt hb.fit (hb.F5 d hd);obtain⟨u,S6,S8,o',po,ad,f6,b6,i6,e8,hB,ar,_,hg,an,au⟩:=DJ J hb hc ha hb' a0 hd a1;unfold treeRepM at ad;split at ad
   ·cases ad
   rename_i p S1 hit;have ai:iV S (F0 t.its) (eB t.its) (jH l_ Ok).Hold a b 20 9 u.f9 S8:=⟨⟨o',eB u.its,⟨u,hB,rfl,ar.S,rfl⟩,au⟩,hg.M o_ o_,an⟩;refine ny h hb.fit.inv hT hpx a b po.1 hit true d.v (R:=fun x ik iv S2=>x=u.f9/\ik=d.kh/\iv=d.vh/\S2=S6) (R2:=fun x S2=>iV S (F0 t.its) (eB t.its) (jH l_ Ok).Hold a b 20 9 x S2) vQ uj (fun W Z hW hp1 hp2=>?_) fun x ik iv S2 hR W Z hW hTW hZ=>?_
   ·refine(zd hW (po.2 _ _ hit) hk t.f9 p.1 p.2 hl hp1 hp2 ad f6.inv).M ?_;rintro e w' ⟨rfl,h1,h2,_,_⟩;exact⟨_,_,_,S6,rfl,h1,h2,rfl,rfl,rfl,rfl⟩
   ·obtain⟨rfl,rfl,rfl,rfl⟩:=hR;refine(xL hW f6.inv hTW hZ d.kh d.vh hlt.1 hlt.2 (by rw[b6];simp) i6).M ?_;rintro e w' ⟨rfl,h1,h2⟩;rw[b6];rw[<-e8] at h1;exact⟨S8,rfl,h1,h2,ai⟩
theorem KB {w:World}{ps:Nat}{S:St}{Y:Nat->Prop}(h:Ig w ps S Y){t:Nat}(t1:2<=t)(t2:t<=16):
 Cb 81 #[FH ps t] w (Xi (S.words / (6*t)+1:Nat)):=by
 have B0:=c_ w (Xc ps t);have q0:=heap_alloc_new w (Xc ps t);have an:=fun W (hW:D_ w W)=>xo (h.a_ hW);have au:=fun W=>pW t t1 t2 W;have a4:=nB h;obtain⟨wd,ap⟩:=Ii S.words;rw[ap] at a4 an;have hq:((wd:Int)).tdiv (6*(t:Int))=((wd / (6*t):Nat):Int):=by
  rw[show (6*(t:Int))=((6*t:Nat):Int) by omega];exact(Int.ofNat_tdiv wd (6*t)).S
 have a3:wd / (6*t)<=wd:=Nat.div_le_self _ _;obtain⟨qq,ai⟩:=Ii (wd / (6*t));rw[ai] at hq a3;have h6:((6*(t:Int))==0)=false:=m_
 have a5:(6*(t:Int))≠0:=o_
 have a6:IntKind.i64.wrap ((qq:Int))=(qq:Int):=ax _ o_;have a7:IntKind.i64.wrap ((qq:Int)+1)=(qq:Int)+1:=ax _ o_;have HG:=kq4 an au B0 q0;obtain⟨W0,a2⟩:=Ii (w.alloc (Xc ps t));rw[a2] at HG;obtain⟨I,ar,ad⟩:=ic fun w'=>w'.1[w.1.size]?=some (Xc ps t);have a0:=fun x:Fq I=>ar _ x.ok;obtain⟨m0,m1⟩:=mt a0;have a1:I W0.drew:=ad _ HG.d;have HI:=If ad;have HQ:=kq2 ap ai;clear ar ad a0 an au B0 q0 h ap ai;unfold FH;go_enter func81,ntmps81;go_wp2_with fail;refine fh I (.take 0 (.take 1 (.take 3 (.take 4 (.go 2 (.go 5 (.take 6 (.take 7 (.go 8 .nil))))))))) k_ k_ a1 ?_
 iterate 4
  refine pT_ ?_
  try simp only[pu]
 refine pD fun K hK=>?_;go_simp;refine b8 (HG.a _ (HG.c.drew)) fun w1 hb1=>?_;have H1:=kq2 (b_ HG.c.drew hb1) (HI.O _ ((hb1.block w.1.size (gl HG.d)).T HG.d));clear hb1
 try go_simp
 refine hK.O _ _ (H1.b) ?_;clear hK K
 try simp only[pu]
 refine pD fun K hK=>?_;go_simp;refine Jc (HG.b w1) ?_
 try go_simp
 refine hK.O _ _ (H1.b) ?_;clear hK K
 try simp only[pu]
 iterate 2
  refine pT_ ?_
  try simp only[pu]
 refine pD fun K hK=>?_;go_simp
 try go_simp
 refine hK.O _ _ (H1.b) ?_;clear hK K
 try simp only[pu]
 refine eP ?_;go_wp2_with fail;go_ret;exact⟨by rw[HQ.a,HQ.b];first | rfl | simp,H1.a⟩
theorem zM {w:World}{ps:Nat}{S:St}{Y:Nat->Prop}(h:Ig w ps S Y){t:Nat}(t1:2<=t)(t2:t<=16):
 Ct 81 #[FH ps t] w fun e w'=>(∃z:Nat,e=.returned (Xi z)/\1<=z)/\D_ w w':=
 (KB h t1 t2).M fun _ _ ⟨h1,h2⟩=>⟨⟨_,h1,Nat.le_add_left ..⟩,h2⟩
theorem zL {w:World}{ps:Nat}{S:St}{o:Nat->Nat}{Y:Nat->Prop}(h:Ig w ps S Y)(hf:Fw S o){t:Nat}(t1:2<=t)(t2:t<=16)(bl:Nat):
 Cb 120 #[FH ps t,n_,Xu 0,.pointer (some (y_ bl)),Xi 0] w n_:=by
 have B0:=c_ w (Xc ps t);have hg:=nQ (h.a_ B0) hf.inv t1 t2 0 o_ (oy (rZ hf));unfold FH eC at hg;have HG:=kq2 hg B0;clear hg B0 h hf;unfold FH;go_enter func120,ntmps120;go_wp2_with fail;refine b8 HG.a fun w1 hb1=>?_;have B1:=b_ HG.b hb1;have H1:=If (B1.alloc B1.size (.cells #[n_,n_,n_,Xu 0] 215));clear hb1 B1;go_wp2_with fail;go_ret;exact⟨rfl,H1.O⟩
theorem zV {w:World}{ps:Nat}{S:St}{o:Nat->Nat}{Y:Nat->Prop}(h:Ig w ps S Y)(hf:Fw S o){t:Nat}(t1:2<=t)(t2:t<=16):
 Cb 74 #[PV ps,Xi t,Xu 0] w n_:=by
 have ar:=kZ h hf.inv t1 t2;have B0:=c_ w (Xc ps t);have q0:=heap_alloc_new w (Xc ps t);have ad:=zM (h.a_ B0) t1 t2;have an:=fun W (hW:D_ w W) bl=>zL (h.a_ hW) hf t1 t2 bl;unfold FH at ad an;obtain⟨W0,ap⟩:=Ii (w.alloc (Xc ps t));rw[ap] at B0 q0 ad;obtain⟨x0,x1⟩:=Fp q0;have HG:=kq5 ar ad an B0 q0;clear ar ad an B0 q0 h hf;go_enter func74,ntmps74;go_wp2_with fail;refine Jc HG.a ?_;go_wp2_with fail;refine HG.b.M ?_;rintro e w1 ⟨⟨z,rfl,hz⟩,ai⟩;have q1:=(ai.block w.1.size (gl HG.e)).T HG.e;have B1:=b_ HG.d ai;have A2:=c_ w1 (Xh z);have q2:=(A2.block w.1.size (gl q1)).T q1;have B2:=b_ B1 A2;clear ap x0 x1;obtain⟨W1,au⟩:=Ii (w1.alloc (Xh z));rw[au] at q2 B2;obtain⟨x0,x1⟩:=Fp q2;have H2:=If B2;clear ai q1 B1 A2 q2 B2;go_wp2_with fail;refine b8 (HG.c _ H2.O _) fun w3 hb3=>?_;have H3:=If (b_ H2.O hb3);clear hb3;go_wp2_with fail;go_ret;exact⟨rfl,H3.O⟩
theorem Ab {w:World}{ps:Nat}{S:St}{o:Nat->Nat}{Y:Nat->Prop}(h:Ig w ps S Y)(hf:Fw S o){t:Nat}(t1:2<=t)(t2:t<=16):
 Cb 59 #[PV ps,Xi 3,Xi t,Xu 0] w (.tuple #[n_,Xi 0]):=by
 have hc:=qc h hf.inv t1 t2;have hl:=fun W (hW:D_ w W)=>zV (h.a_ hW) hf t1 t2;have HG:=kq2 hc hl;clear hc hl h hf;go_enter func59,ntmps59;go_wp2_with fail;refine Jc HG.a ?_;have H1:=If (aa w.1.size w);go_wp2_with fail;refine b8 (HG.b _ H1.O) fun w2 hb2=>?_;have H2:=If (b_ H1.O hb2);clear hb2;go_wp2_with fail
 go_loopw [16,18,19,20,21,22,62] (fun l1 _ _ _ _ _ k wr=>l1=.slice none 0 0/\k=Xi 0/\wr=w2) (fun _ _ _ _ _ _ _ _=>0)
 case atStart=>exact⟨rfl,rfl,rfl⟩
 case round=>
  obtain⟨rfl,rfl,rfl⟩:=hrel;go_wp2_with fail;go_ret2;exact⟨rfl,H2.O⟩
theorem CR {w:World}{ps:Nat}{S:St}{Y:Nat->Prop}(h:Ig w ps S Y)(l_ t:Int)(A6:Nat)(K:jo)(hlt:∀{w px ps f9},K.On w px ps f9->px<w.1.size)(hbl:∀{w w' px ps f9},K.On w px ps f9->D_ w w'->K.On w' px ps f9)(hn:Ct 13 #[PV ps,Xi l_,Xi t] w fun e w'=>∃px,e=.returned (.tuple #[PV px,Xi 0])/\K.On w' px ps 0/\D_ w w'/\w.1.size<=px)(ho:∀W px,Ig W ps S Y->K.On W px ps 0->Ct 22 #[PV ps,PV px,Xi A6] W fun e w'=>∃pm,e=.returned (.tuple #[PV pm,Xi 0])/\Ic w' pm px ps A6/\D_ W w'/\W.1.size<=pm):
 Ct 52 #[PV ps,Xi l_,Xi t,Xi A6] w fun e w'=>∃pm px,e=.returned (.tuple #[PV pm,Xi 0])/\Ic w' pm px ps A6/\K.On w' px ps 0/\D_ w w'/\w.1.size<=pm/\w.1.size<=px/\pm≠px:=by
 have ho:=fun W px (hW:D_ w W) (hT:K.On W px ps 0)=>ho W px (h.a_ hW) hT;have HG:=kq2 hn ho;clear hn ho h;go_enter func52,ntmps52;go_wp2_with fail;refine HG.a.M ?_;rintro e w1 ⟨px,rfl,hT,ad,lx⟩;have H1:=kq3 hT ad lx;clear hT ad lx;go_wp2_with fail;refine(HG.b _ px H1.b H1.a).M ?_;rintro e w2 ⟨pm,rfl,hM,ai,lm⟩;have H2:=kq3 hM ai lm;clear hM ai lm;go_wp2_with fail;go_ret2;have hlt:=hlt H1.a;exact⟨pm,px,rfl,H2.a,hbl H1.a H2.b,b_ H1.b H2.b,aG H1.b.size H2.c,H1.c,by have:=H2.c;omega⟩
structure yA (l_ t:Int) (K:jo) (T:Prop):Prop where
 ok:T
 zero:∀{S:St} {o:Nat->Nat},Fw S o->K.Hold S o 0 [] []
 new:∀{w:World} {ps:Nat} {S:St} {o:Nat->Nat} {Y:Nat->Prop},Ig w ps S Y->Fw S o->Ct 13 #[PV ps,Xi l_,Xi t] w fun e w'=>∃px,e=.returned (.tuple #[PV px,Xi 0])/\K.On w' px ps 0/\D_ w w'/\w.1.size<=px
 of:∀{w:World} {ps px:Nat} {S:St} {o:Nat->Nat} {Y:Nat->Prop},Ig w ps S Y->Fw S o->K.On w px ps 0->∀A6:Nat,A6<=1000->Ct 22 #[PV ps,PV px,Xi A6] w fun e w'=>∃pm,e=.returned (.tuple #[PV pm,Xi 0])/\Ic w' pm px ps A6/\D_ w w'/\w.1.size<=pm
abbrev yB(l_ t:Int)(K:jo):Prop:=yA l_ t K (dT K fun _=>True)
theorem Mj {ps t d:Nat}{S:St}{o:Nat->Nat}{x:Bt (d+1)}(hx:Bt.Walk S o t x){w:World}{Y:Nat->Prop}(h:Ig w ps S Y)(hd:d<40):
 Cb 173 #[PV ps,Xi t,Xu (Bt.hd x)] w (Xi ((d+1:Nat):Int)):=by
 have a2:=kZ h hx.fit.inv hx.t1 hx.t2;have an:=fun W (hW:D_ w W) (d':Nat) (y:Bt (d'+1)) (hy:Bt.Walk S o t y)=>kI (h.a_ hW) hy.fit.inv hy.read;unfold FH at an;have HG:=kq3 a2 an hx;clear a2 an hx h;go_enter func173,ntmps173;go_wp2_with fail;refine Jc HG.a ?_;go_wp2_with fail
 go_loopw [2,6,7,8,9,24,32] (fun s2 _ s7 _ _ _ _ wr=>∃(j d':Nat) (y:Bt (d'+1)),s2=Xu (Bt.hd y)/\s7=Xi j/\j<=d/\Hid (j+d'=d/\Bt.Walk S o t y/\D_ w wr)) (fun _ _ s7 _ _ _ _ _=>40-(intOf s7).toNat)
 case atStart=>exact⟨0,d,x,rfl,rfl,o_,o_,HG.c,aa _ _⟩
 case round=>
  obtain⟨j,d',y,rfl,rfl,hj,J0⟩:=hrel;have a9:((j:Int)==40)=false:=m_
  have hg:=HG.b wr J0.O.2.2 d' y J0.O.2.1;have HE:=If hg;obtain⟨hy,ar⟩:=Ii (Bt.hd y);rw[ar] at HE;rw[ar];clear hg ar;go_wp2_with fail;refine HE.O.M ?_;rintro e w2 ⟨vk,vv,vc,rfl,hr,hb⟩;obtain⟨kA,kc,rfl⟩:=hr.k.E_;obtain⟨vA,vC,rfl⟩:=hr.v.E_;obtain⟨cA,cc,rfl⟩:=hr.c.E_;unfold eC;have ad:=J0.O.2.1.ok.2.1;obtain⟨m,hm⟩:=Ii (Bn.ks y).length;have lc:(Bt.bn y).B_.length=m:=by rw[<-hm];exact am _
  have a6:=J0.O.2.1.es.2.2;rw[hm] at ad;rw[lc];have A1:=b_ J0.O.2.2 hb;obtain⟨nk,a4⟩:=Ii (Bt.bn y).j_.length;obtain⟨nv,a5⟩:=Ii (Bt.bn y).E1.length;obtain⟨z,hz⟩:=Ii (Bt.bn y).size;rw[a4,a5,hz];have N1:=c_ w2 (.cells #[.slice kA nk kc,.slice vA nv vC,.slice cA m cc,Xu z] 215);have q1:=heap_alloc_new w2 (.cells #[.slice kA nk kc,.slice vA nv vC,.slice cA m cc,Xu z] 215);obtain⟨W2,a8⟩:=Ii (w2.alloc (.cells #[.slice kA nk kc,.slice vA nv vC,.slice cA m cc,Xu z] 215));rw[a8] at N1 q1;have B1:=b_ A1 N1;have ai:=hr.c.at (w':=W2) fun g e=>N1.block g (hr.c.ge g e).2;clear a4 a5 hz N1 A1 hb hr
  rcases(show d'=0\/∃d2,d'=d2+1 by rcases d' with _ | d2<;>simp) with rfl | ⟨d2,rfl⟩
  ·rw[if_pos rfl] at ad;have f1:((m:Int)==0)=true:=by rw[ad];rfl
   have f2:(m==0)=true:=by rw[ad];rfl
   have a1:j=d:=by have:=J0.O.1;omega
   have HB:=kq2 B1 a1;obtain⟨y0,y1,y2,y3⟩:=Fy q1;clear B1 lc ad a1 ai q1 hm a6;go_wp2_with fail;go_ret;exact⟨by rw[HB.b];rfl,HB.a⟩
  ·rw[if_neg o_] at ad;have au:0<(Bn.ks y).length:=o_
   have f1:((m:Int)==0)=false:=m_
   have f2:(m==0)=false:=m_
   have f3:(0:Int)<m:=o_
   obtain⟨bc,c3,e3,_,a7⟩:=ai.cell_at (j:=0) (by rw[lc];omega);obtain⟨rfl,rfl⟩:cA=some (y_ bc)/\cc=c3:=by cases e3;exact⟨rfl,rfl⟩
   obtain⟨kid,a0⟩:=Ii ((Bn.ks y)[0]'(au));have rc:W2.cell? (y_ bc)=some (Xu (Bt.hd kid)):=by rw[a7,<-a0];simp[Bt.bn]
   have a3:kid∈Bn.ks y:=a0▸aq au;have HB:=kq2 B1 (J0.O.2.1.kid a3);obtain⟨y0,y1,y2,y3⟩:=Fy q1;have a':j+(d2+1)=d:=J0.O.1;clear B1 lc ad ai q1 hm a6 e3 a7 a0 a3 au;obtain⟨ba,ap⟩:=Ii (Bt.hd kid);rw[ap] at rc;have HQ:=If ap;clear ap;go_wp2_with fail;go_roundw
   case rel=>exact⟨j+1,d2,kid,by rw[HQ.O],s_,o_,o_,HB.b,HB.a⟩
   case measure=>simp[intOf];omega
theorem KC {ps t d:Nat}{S:St}{o:Nat->Nat}{x:Bt (d+1)}(hx:Bt.Walk S o t x){w:World}{Y:Nat->Prop}(h:Ig w ps S Y)(hd:d<40)(hn:(Bt.h_ x).length<=S.words / (6*t)+1)(hl:(Bt.its x).length<=5000):
 Ct 74 #[PV ps,Xi t,Xu (Bt.hd x)] w fun e w'=>∃v,e=.returned v/\py w' w.1.size v (Bt.its x)/\D_ w w':=by
 have ap:=kZ h hx.fit.inv hx.t1 hx.t2;have B0:=c_ w (Xc ps t);have q0:=heap_alloc_new w (Xc ps t);have ad:=KB (h.a_ B0) hx.t1 hx.t2;obtain⟨W0,an⟩:=Ii (w.alloc (Xc ps t));rw[an] at B0 q0 ad;obtain⟨N,hN⟩:=Ii (S.words / (6*t)+1);rw[hN] at ad hn;have ar:N<=100000:=by
  have:=nB h;have:S.words / (6*t)<=S.words / 12:=Nat.div_le_div_left (by have:=hx.t1;omega) o_;omega
 have ai:=fun(w1:World) (v:Value) (bl:Nat) (hL:qa w bl w1 v [] N)=>Mf (d+1) x hx (dp:=0) h hL o_ hn ar (by simpa using hl);unfold FH at ad ai;obtain⟨x0,x1⟩:=Fp q0;have HG:=kq5 ap ad ai B0 q0;clear ap ad ai B0 q0 h hN hn hl hx;go_enter func74,ntmps74;go_wp2_with fail;refine Jc HG.a ?_;go_wp2_with fail;refine b8 HG.b fun w1 hb1=>?_;have q1:=(hb1.block w.1.size (gl HG.e)).T HG.e;have B1:=b_ HG.d hb1;have A2:=c_ w1 (Xh N);have q2:=(A2.block w.1.size (gl q1)).T q1;have B2:=b_ B1 A2;have b2:=heap_alloc_new w1 (Xh N);clear an x0 x1;obtain⟨W1,au⟩:=Ii (w1.alloc (Xh N));rw[au] at q2 B2 b2;obtain⟨x0,x1⟩:=Fp q2;have H2:=If (show qa w w1.1.size W1 n_ [] N from⟨B2,World.ownsRow_nil _ _ _ _,b2,B1.size⟩);clear hb1 q1 B1 A2 q2 B2 b2;go_wp2_with fail;refine(HG.c W1 _ _ H2.O).M ?_;rintro e w3 ⟨v3,rfl,h3,k3⟩;have H3:=kq2 h3.own h3.bel;clear h3 k3;go_wp2_with fail;go_ret;exact⟨_,rfl,H3.O⟩
structure qW (w:World) (ps:Nat) (S:St) (Y:Nat->Prop) (D:Nat) (v:Value) (L:List Nat):Prop where
 st:Ig w ps S (fun k=>Y k\/v.ownBlock=some k)
 own:FE w D v L
 lo:fy<D/\D<=w.1.size
 off:∀g,v.ownBlock=some g->¬Y g
section
variable {w w':World}{ps D:Nat}{S:St}{Y Z:Nat->Prop}{v:Value}{L:List Nat}
theorem qW.wide(h:qW w ps S Y D v L)(hb:D_ w w'):qW w' ps S (fun k=>Y k\/(w.1.size<=k/\k<w'.1.size)) D v L:=by
 refine⟨(h.st.wide hb).M fun k hk=>?_,h.own.at fun g e=>hb.block g (h.own.ge g e).2,⟨h.lo.1,aG h.lo.2 hb.size⟩,fun g e hk=>?_⟩
 ·rcases hk with (hk | hk) | hk
  ·exact ab (ab hk)
  ·exact ae hk
  ·exact ab (ae hk)
 ·rcases hk with hk | hk
  ·exact h.off g e hk
  ·have:=(h.own.ge g e).2;omega
theorem qW.M(h:qW w ps S Y D v L)(hz:∀k,Z k->Y k):qW w ps S Z D v L:=⟨h.st.M fun k hk=>hk.imp (hz k) id,h.own,h.lo,fun g e hk=>h.off g e (hz g hk)⟩
theorem qW.a_(h:qW w ps S Y D v L)(hb:D_ w w'):qW w' ps S Y D v L:=(h.wide hb).M fun _ hk=>ab hk
theorem qW.append(h:qW w ps S Y D v L)(hl:L.length<=100000)(x:Nat)(ty:TypeId):
 ∃v' w',(Builtin.append_ #[59,59] ty #[v,.slice (some (y_ w.1.size)) 1 1]).run prog (w.alloc (Xf x))=.ok v' w'/\qW w' ps S Y D v' (L++[x])/\Fo Y w w'/\Below D w w':=by
 obtain⟨v2,w2,ar,ai,ad,an⟩:=jF h.own hl x h.lo.2 ty;have ap:∀k,Y k->k<w.1.size:=fun k hk=>h.st.yl k (ab hk);refine⟨v2,w2,ar,⟨h.st.row h.lo.1 h.own ai ad an,ai,⟨h.lo.1,aG h.lo.2 ad.size⟩,fun g e hk=>?_⟩,⟨ad.os,ad.tape,ad.output,ad.size,fun k hk=>ad.block k (ap k hk) fun e=>h.off k e.S hk⟩,ad.os,ad.tape,ad.output,ad.size,fun k hk=>ad.block k (aE hk h.lo.2) fun e=>by have:=(h.own.ge k e.S).1;omega⟩
 rcases an with q | ⟨g',q,hg⟩
 ·rw[q] at e;exact h.off g e hk
 ·rw[q] at e;obtain rfl:g'=g:=Option.some.inj e;have:=ap _ hk;omega
end
theorem Mg {ps t:Nat}{S:St}{o:Nat->Nat}:∀(d:Nat) (x:Bt d),Bt.Walk S o t x->∀{w:World} {Y:Nat->Prop} {D most dp:Nat} {v:Value} {L:List Nat},qW w ps S Y D v L->dp+d<=40->L.length+(Bt.h_ x).length<=most->most<=100000->
 Ct 80 #[FH ps t,v,Xu (Bt.hd x:Nat),Xi most,Xi dp] w fun e w'=>∃v',e=.returned v'/\qW w' ps S Y D v' (L++Bt.h_ x)/\Fo Y w w'/\Below D w w':=by
 intro d;induction d with
 | zero=>exact fun x=>nomatch x
 | succ d ih=>
  intro x hx w Y D most dp v L h hd hl hm;have hn:(Bt.h_ x).length=1+((Bn.ks x).map fun k=>Bt.h_ k).flatten.length:=by
   show (Bn.h x::((Bn.ks x).map fun k=>Bt.h_ k).flatten).length=_
   rw[aj,Nat.add_comm]
  have B0:=c_ w (Xc ps t);have q0:=heap_alloc_new w (Xc ps t);have z0:(w.alloc (Xc ps t)).1.size=w.1.size+1:=s_
  have hg:=kI ((h.a_ B0).st) hx.fit.inv hx.read;obtain⟨A,c,rfl⟩:=h.own.E_;have a5:((most:Int)<=(L.length:Int))=False:=eq_false o_;have a3:((dp:Int)==40)=false:=m_
  have HG:=kq7 hg h B0 q0 ih hx hl;unfold FH;obtain⟨c0,c1⟩:=Fp q0;clear hg h B0 q0 ih hl hx;go_enter func80,ntmps80;go_wp2_with fail;refine HG.a.M ?_;rintro e w1 ⟨vk,vv,vc,rfl,hr,hb⟩;obtain⟨kA,km,kc,rfl⟩:=hr.k.slice;obtain⟨vA,vm,vC,rfl⟩:=hr.v.slice;obtain⟨cA,cc,rfl⟩:=hr.c.E_;unfold eC;obtain⟨n,au⟩:=Ii (Bt.bn x).size;obtain⟨m,ai⟩:=Ii (Bt.bn x).B_.length;have an:m=(Bn.ks x).length:=by rw[<-ai];exact am _
  have a6:m<=100:=by
   have h1:=HG.f.ok.1;have h2:=HG.f.ok.2.1;have:=HG.f.t2;rw[an];split at h2<;>omega
  rw[au,ai];have A1:=c_ w1 (.cells #[.slice kA km kc,.slice vA vm vC,.slice cA m cc,Xu n] 215);have q1:=heap_alloc_new w1 (.cells #[.slice kA km kc,.slice vA vm vC,.slice cA m cc,Xu n] 215);have C1:=b_ HG.c hb;have C2:=b_ C1 A1;have o2:=HG.b.wide C2;have z2:(w1.alloc (.cells #[.slice kA km kc,.slice vA vm vC,.slice cA m cc,Xu n] 215)).1.size=w1.1.size+1:=s_
  have s1:=C1.size;obtain⟨v3,w3,ap,o3,k3,e3⟩:=o2.append (by have:=HG.g;omega) (Bt.hd x) 59;have bl:∀k,w.1.size<=k->k<w1.1.size+1->w3.1[k]?=(w1.alloc (.cells #[.slice kA km kc,.slice vA vm vC,.slice cA m cc,Xu n] 215)).1[k]?:=fun k h1 h2=>k3.block k (ae ⟨h1,by rw[z2];exact h2⟩);have q3:=(bl w1.1.size s1 o_).T q1;have t3:=(bl w.1.size Ih o_).T ((A1.block _ (by have:=hb.size;omega)).T ((hb.block _ o_).T HG.d));obtain⟨b0,b1,b2,b3⟩:=Fy q3;rw[z2] at o3 k3 ap;have C6:∀W,Fo (fun k=>Y k\/(w.1.size<=k/\k<w1.1.size+1)) w3 W->FD W (.slice cA m cc) ((Bn.ks x).map Bt.hd):=fun W hW=>by
   have hw:=hr.c;rw[ai] at hw;refine hw.C6.keeps fun g e _=>?_;have ar:=hw.ge g e;rw[z0] at ar;exact(hW.block g (ae ⟨o_,o_⟩)).T ((bl g o_ o_).T (A1.block g ar.2))
  have o3:qW w3 ps S (fun k=>Y k\/(w.1.size<=k/\k<w1.1.size+1)) D v3 (L++Bt.hd x::(((Bn.ks x).take 0).map fun k=>Bt.h_ k).flatten):=o3;have H3:=kq4 o3 C6 t3 (k3.M (Z:=Y) fun k hk=>ab hk);have a1:=If (Fo.v_ C2 fun k hk=>HG.b.st.yl k (ab hk):Fo Y w _);have HE:=If ((C2.M HG.b.lo.2).T e3);have HB:=kq4 s1 hn an hm;clear e3 hn au ai an hm o3 C6 t3 k3 q3 bl q1 C1 C2 o2 A1 hr hb s1 z0 z2;go_wp2_with (at_builtin;refine Lib.wpList_append_run _ rfl _ _ _ _ rfl _ _ rfl rfl _ _ ap ?_)
  clear b0 b1 b2 b3 c0 c1 ap;go_loopw [1,14,41] (fun s1 _ s41 wr=>∃j:Nat,s41=Xi j/\j<=m/\Hid (qW wr ps S (fun k=>Y k\/(w.1.size<=k/\k<w1.1.size+1)) D s1 (L++Bt.hd x::(((Bn.ks x).take j).map fun k=>Bt.h_ k).flatten)/\Fo (fun k=>Y k\/(w.1.size<=k/\k<w1.1.size+1)) w3 wr/\Below D w3 wr)) (fun _ _ s41 _=>m-(intOf s41).toNat)
  case atStart=>exact⟨0,rfl,o_,H3.a,Fo.refl _ _,aa _ _⟩
  case round=>
   obtain⟨j,rfl,a4,J0⟩:=hrel;by_cases hj:j<m
   ·have a2:(j:Int)<m:=o_
    have ad:j<(Bn.ks x).length:=by have:=HB.c;omega
    obtain⟨g,o5,rfl,r0⟩:=(H3.b _ J0.O.2.1).at (af ad);have t5:=(J0.O.2.1.block w.1.size (ae ⟨Nat.le_refl _,by have:=HB.a;omega⟩)).T H3.c;obtain⟨c0,c1⟩:=Fp t5;have a0:(L++Bt.hd x::(((Bn.ks x).take j).map fun k=>Bt.h_ k).flatten).length+(Bt.h_ (Bn.ks x)[j]).length<=most:=by
     have h1:=HG.g;rw[HB.b] at h1;have h2:(((Bn.ks x).take (j+1)).map fun k=>Bt.h_ k).flatten.length<=((Bn.ks x).map fun k=>Bt.h_ k).flatten.length:=by
      conv=>rhs;rw[<-aS (j+1) (Bn.ks x),aQ,bW,ag]
      omega
     rw[aw ad,aQ,bW,ag] at h2;simp only[bg,List.map_nil,dB,List.flatten_nil,bw] at h2;simp only[ag,aj];omega
    have hi:=HG.e (Bn.ks x)[j] (HG.f.kid (aq ad)) (dp:=dp+1) (most:=most) J0.O.1 o_ a0 HB.d;have HI:=If hi;clear hi a0 t5;unfold FH at HI;go_wp2_with fail;refine HI.O.M ?_;rintro e w5 ⟨v5,rfl,o5,k5,e5⟩;have H5:=kq3 o5 (J0.O.2.1.T k5) (J0.O.2.2.T e5);clear o5 k5 e5 c0 c1 r0;go_wp2_with fail;go_roundw
    case rel=>
     refine⟨j+1,s_,o_,?_,H5.O.2⟩;have:=H5.a;rw[aY] at this;rw[aw ad,aQ,bW,bg,List.map_nil,dB,List.flatten_nil,bw];exact this
    case measure=>simp[intOf];omega
   ·obtain rfl:j=m:=o_
    have a2:¬(j:Int)<j:=o_
    have h1:=J0.O.1;rw[aN (Nat.le_of_eq HB.c.S)] at h1;have H5:=kq2 (h1.M (Z:=Y) fun k hk=>ab hk) (H3.d.T (J0.O.2.1.M fun k hk=>ab hk));clear h1;go_wp2_with fail;go_ret;exact⟨_,rfl,H5.a,(a1.O).T H5.b,HE.O.T J0.O.2.2⟩
theorem FE.base {w:World}{B B':Nat}{v:Value}{l:List Nat}(h:FE w B v l)(hB:B'<=B):FE w B' v l:=
 ⟨h.1,h.2.imp id fun⟨g,cap,cur,a,b,c⟩=>⟨g,cap,cur,a,aG hB b,c⟩⟩
def Bt.NodesOf(S:St)(o:Nat->Nat)(t f9:Nat)(L:List (List UInt8×List UInt8))(R N:List Nat):Prop:=
 (Empty S o t/\f9=0/\L=[]/\R=[]/\N=[])\/∃(d:Nat) (x:Bt (d+1)),Tree S o t x/\f9=hd x/\L=F0 (its x)/\R=recs x/\N=Bt.h_ x
theorem Bt.Tree.many {S:St}{o:Nat->Nat}{t d:Nat}{x:Bt (d+1)}(h:Tree S o t x):(Bt.h_ x).length<=S.words / (6*t):=by
 have t1:=h.t1;have:=Nv h.fit (n:=6*t) o_ h.h_ fun y hy=>by
  obtain⟨n,hn⟩:=h.at'.rec y hy;exact⟨_,hn,by rw[jJ];omega⟩
 unfold St.words;rw[Nat.le_div_iff_mul_le o_,Nat.mul_comm _ 64];exact this
theorem Mh {w:World}{ps:Nat}{S:St}{o:Nat->Nat}{Y:Nat->Prop}(h:Ig w ps S Y)(hf:Fw S o){t:Nat}(t1:2<=t)(t2:t<=16)(z:Nat):
 Cb 80 #[FH ps t,n_,Xu 0,Xi z,Xi 0] w n_:=by
 have B0:=c_ w (Xc ps t);have q0:=heap_alloc_new w (Xc ps t);have hg:=nQ (h.a_ B0) hf.inv t1 t2 0 o_ (oy (rZ hf));unfold FH eC at hg;obtain⟨c0,c1⟩:=Fp q0;have HG:=kq2 hg B0;clear hg B0 h hf q0;unfold FH;go_enter func80,ntmps80;go_wp2_with fail;refine b8 HG.a fun w1 hb1=>?_;have B1:=b_ HG.b hb1;have H1:=If (B1.alloc B1.size (.cells #[n_,n_,n_,Xu 0] 215));clear hb1 B1 c0 c1;go_wp2_with fail;go_ret;exact⟨rfl,H1.O⟩
theorem KD {w:World}{ps t f9:Nat}{S:St}{o:Nat->Nat}{Y:Nat->Prop}{L:List (List UInt8×List UInt8)}{R:List Nat}(h:Ig w ps S Y)(hH:Bt.Holds S o t f9 L R):
 Ct 40 #[PV ps,Xi t,Xu f9] w fun e w'=>∃v N,e=.returned v/\FE w' w.1.size v N/\D_ w w'/\N.length<=50000/\Bt.NodesOf S o t f9 L R N:=by
 obtain⟨t1,t2⟩:=hH.deg;have hf:=hH.fit;have ar:=kZ h hf.inv t1 t2;have B0:=c_ w (Xc ps t);have q0:=heap_alloc_new w (Xc ps t);have ai:=KB (h.a_ B0.drew) t1 t2;have a2:=nB h;have au:=J8 h;have an:∀W,D_ w W->Ct 80 #[FH ps t,n_,Xu f9,Xi (S.words / (6*t)+1:Nat),Xi 0] W fun e w'=>∃v N,e=.returned v/\FE w' W.1.size v N/\D_ W w'/\N.length<=50000/\Bt.NodesOf S o t f9 L R N:=fun W hW=>by
  have a3:S.words / (6*t)<=22000:=by
   rw[<-Nat.lt_succ_iff,Nat.div_lt_iff_lt_mul o_];omega
  have hO:qW W ps S Y W.1.size n_ []:=⟨(h.a_ hW).M (fun k hk=>hk.elim id (fun e=>nomatch e)),World.ownsRow_nil _ _ _ _,⟨aE au hW.size,Nat.le_refl _⟩,(fun g e=>nomatch e)⟩
  rcases hH with⟨hE,rfl,rfl,rfl⟩ | ⟨d,x,hx,rfl,rfl,rfl⟩
  ·refine(Mh (h.a_ hW) hE.fit t1 t2 _).M ?_;rintro e w' ⟨rfl,hb⟩;exact⟨_,[],rfl,World.ownsRow_nil _ _ _ _,hb,cC _,ab ⟨hE,rfl,rfl,rfl,rfl⟩⟩
  ·refine(Mg (d+1) x hx.walk (dp:=0) hO (by have:=hx.low;omega) (by have:=hx.many;simp;omega) o_).M ?_;rintro e w' ⟨v',rfl,h1,h2,h3⟩;exact⟨v',_,rfl,h1.own,h3,by have:=hx.many;simp;omega,ae ⟨d,x,hx,rfl,rfl,rfl,rfl⟩⟩
 unfold FH at ai an;generalize S.words / (6*t)+1=z at*;have HG:=kq5 ar ai an B0 q0;obtain⟨I,ap,ad⟩:=ic fun w'=>w'.1[w.1.size]?=some (Xc ps t);have a0:=fun x:Fq I=>ap _ x.ok;obtain⟨m0,m1⟩:=mt a0;have a1:I (w.alloc (Xc ps t)).drew:=ad _ q0;have HI:=If ad;clear ar ai an B0 q0 h hH hf ap ad a0 a2 au;go_enter func40,ntmps40;go_wp2_with fail;refine Jc HG.a ?_;go_wp2_with fail;refine fh I (.take 0 (.take 1 (.take 2 (.go 3 (.go 4 (.go 5 .nil)))))) k_ k_ a1 ?_
 iterate 3
  refine pT_ ?_
  try simp only[pu]
 refine pD fun K hK=>?_;go_simp;refine b8 HG.b fun w1 hb1=>?_;have B1:=b_ HG.d.drew hb1;have q1:=(hb1.block w.1.size (gl HG.e)).T HG.e;have H1:=kq2 B1 q1;clear hb1 B1 q1
 try go_simp
 refine hK.O _ _ (HI.O _ H1.b) ?_;clear hK K
 try simp only[pu]
 refine pD fun K hK=>?_;go_simp;refine(HG.c _ H1.a).M ?_;rintro e w2 ⟨v,N,rfl,h2,h3,h4⟩;have H2:=kq4 (FE.base h2 H1.a.size) (b_ H1.a h3) h4 ((h3.block w.1.size (gl H1.b)).T H1.b);clear h2 h3 h4
 try go_simp
 refine hK.O _ _ (HI.O _ H2.d) ?_;clear hK K
 try simp only[pu]
 refine pD fun K hK=>?_;go_simp
 try go_simp
 refine hK.O _ _ (HI.O _ H2.d) ?_;clear hK K
 try simp only[pu]
 refine eP ?_;go_wp2_with fail;go_ret;exact⟨_,N,rfl,H2.a,H2.b,H2.c⟩
structure JJ (W0 w2:World) (b:Nat) (N:List Nat) (L:List It) (v:Value) (j:Nat) (W:World):Prop where
 bel:D_ W0 W
 own:FE W W0.1.size v (N++ff (L.take j))
 it:W.1[b]?=w2.1[b]?
 ne:v.ownBlock≠some b
 lt:b<W.1.size
theorem JJ.a_ {W0 w2 W W':World}{b j:Nat}{N:List Nat}{L:List It}{v:Value}(h:JJ W0 w2 b N L v j W)(hb:D_ W W'):JJ W0 w2 b N L v j W':=
 ⟨b_ h.bel hb,oJ h.own hb,(hb.block _ h.lt).T h.it,h.ne,aE h.lt hb.size⟩
theorem Le {L:List It}{j:Nat}(hj:j<L.length):ff (L.take (j+1))=ff (L.take j)++[L[j].kh,L[j].vh]:=by
 rw[aw hj,nO];rfl
theorem Kd(L:List It):(ff L).length=2*L.length:=by
 induction L with
 | nil=>rfl
 | cons d L ih=>
  have:ff (d::L)=[d.kh,d.vh]++ff L:=rfl;rw[this,ag,ih]
  simp
  omega
theorem Bt.NodesOf.of {S:St}{o:Nat->Nat}{t d:Nat}{x:Bt (d+1)}{N:List Nat}{r:Nat}(h:Bt.NodesOf S o t r (F0 (Bt.its x)) (Bt.recs x) N):N=Bt.h_ x:=by
 rcases h with⟨_,_,_,h,_⟩ | ⟨d',x',ad,_,h2,h3,rfl⟩
 ·have:(Bt.recs x).length=0:=by rw[h];rfl
  unfold Bt.recs at this;rw[ag] at this;have:=dQ (Bt.hd_mem x);omega
 ·have hl:(Bt.its x').length=(Bt.its x).length:=by
   have:=congrArg List.length h2
   simpa[F0] using this.S
  unfold Bt.recs at h3;exact((List.append_inj' h3 (by rw[Kd,Kd,hl])).1).S
theorem qDhad{P:Prop}(h:P:=by
 injection e with e _ _
 injection e with e
 injection e with e
 subst e;exact⟨h1,h2⟩):P:=h
theorem Mi {ps t d:Nat}{S:St}{o:Nat->Nat}{x:Bt (d+1)}(hT:Bt.Tree S o t x){w:World}{Y:Nat->Prop}(h:Ig w ps S Y)(hl:(Bt.its x).length<=1000):
 Cb 133 #[PV ps,Xi t,Xu (Bt.hd x)] w (Xi 0):=by
 have hx:=hT.walk;have hf:=hT.fit;have hd:d<40:=Nat.lt_trans hT.low d_;have b4:=kZ h hf.inv hx.t1 hx.t2;have B0:=c_ w (Xc ps t);have q0:=heap_alloc_new w (Xc ps t);obtain⟨W0,bc⟩:=Ii (w.alloc (Xc ps t));have a0:w.1.size<W0.1.size:=by rw[<-bc];simp
 rw[bc] at B0 q0;have ck:=KD (h.a_ B0) (ae ⟨d,x,hT,rfl,rfl,rfl⟩);have b2:=fun(W:World) (hW:D_ w W)=>Mj hx (h.a_ hW) hd;have bk:=fun(W:World) (hW:D_ w W)=>Me (d+1) x hx (h.a_ hW) (top:=true) hT.pos o_ o_;rw[show ((d+1:Nat):Int)-1=(d:Int) by omega] at bk;have cb:=fun(W:World) (hW:D_ w W)=>KC hx (h.a_ hW) hd (Nat.le_succ_of_le hT.many) o_;have cp:=fun(W:World) (hW:D_ w W)=>Lg (h.a_ hW) x hx;have bx:=fun(W:World) (hW:D_ w W) (a:It) (ha:a∈Bt.its x)=>And.intro (JV (h.a_ hW) hf (hT.F5 a ha).lk (hT.F5 a ha).k) (JV (h.a_ hW) hf (hT.F5 a ha).lv (hT.F5 a ha).v);have b9:=fun(W:World) (hW:D_ w W) (a:It) (ha:a∈Bt.its x)=>zK (h.a_ hW) hf.inv t a.kh (Bt.blobs_lt hf (hT.F5 a ha)).1 (jt hf (hT.F5 a ha).lk (hT.F5 a ha).k);have co:¬Bt.hd x=0:=fun e=>by
  obtain⟨n,q⟩:=hT.at'.rec _ (Bt.hd_mem x);rw[e,rZ hf] at q
  cases q
 have hlt:∀y∈Bt.recs x,y<2^64:=fun y hy=>by
  cases e:i_ S y with
  | none=>exact absurd e (hT.has y hy)
  | some r=>exact(fL hf e).2.1
 have cj:(Bt.recs x).Nodup:=aD.2 ⟨hT.h_,hT.texts,fun a ha b hb e=>hT.apart a ha (e▸hb)⟩;have HR:=kq4 hlt cj hT B0;have HC:=kq6 b2 bk cb cp bx b9;have HN:=kq3 ck b4 q0;obtain⟨r,hr⟩:=Ii (Bt.hd x);rw[hr] at HC HN co⊢;obtain⟨n,hn⟩:=Ii (Bt.its x).length;rw[hn] at hl;have HE:=If hn;unfold FH at HC;clear ck b2 bk cb cp bx b9 hlt cj b4 q0 B0 hx hf h hr hn;have c6:IntKind.i64.wrap (d:Int)=(d:Int):=ax _ o_;have dd:(r==0)=false:=by simp[co]
 go_enter func133,ntmps133;go_wp2_with fail;refine Jc HN.b ?_;go_wp2_with fail;refine HN.a.M ?_;rintro e w1 ⟨v1,N,rfl,ho,ar,cw,bt⟩;obtain rfl:=Bt.NodesOf.of bt;have ai:Bt.h_ x≠[]:=List.ne_nil_of_mem (Bt.hd_mem x);obtain⟨b1,c1,rfl,_⟩:=ho.some (dl.2 ai);have au:=fun(W:World) (hW:D_ w1 W)=>Lo (oJ ho hW) o_ ai hT.h_ fun y hy=>HR.a y (aB _ hy);obtain⟨nn,bm⟩:=Ii (Bt.h_ x).length;rw[bm] at au⊢;have dc:nn<=50000:=o_
 have cu:∀W,D_ w1 W->D_ w W:=fun W hW=>HR.d.T ((b_ ar hW).M (Nat.le_of_lt a0));have H1:=kq6 au ho ar cu ai bm;obtain⟨I,ap,ad⟩:=ic fun w'=>∀k,k<w1.1.size->w'.1[k]?=w1.1[k]?;have a2:=fun x:Fq I=>(ap _ x.ok w.1.size (aE a0 ar.size)).T ((ar.block _ a0).T HN.c);obtain⟨m0,m1⟩:=mt a2;have a5:I w1.drew:=ad _ fun _ _=>rfl;have HI:=If ad;clear au ho ar cw ai bm ap ad a2 bt bc cu;go_wp2_with fail;refine fh I (.take 0 (.go 1 (.take 2 (.take 3 (.take 4 (.take 5 (.take 6 (.take 7 (.go 8 (.take 9 (.go 10 (.take 11 (.take 12 .nil))))))))))))) k_ k_ a5 ?_;refine pT_ ?_
 try simp only[pu]
 refine pD fun K hK=>?_;go_simp;refine b8 (H1.a _ (aa _ w1).drew) fun w3 hb3=>?_;have B3:D_ w1 w3:=(aa _ w1).drew.T hb3;have a3:=If B3;clear hb3 B3
 try go_simp
 refine hK.O _ _ (HI.O _ a3.O.block) ?_;clear hK K
 try simp only[pu]
 iterate 6
  refine pT_ ?_
  try simp only[pu]
 refine pD fun K hK=>?_;go_simp;refine b8 (HC.a _ (H1.d _ a3.O)) fun w4 hb4=>?_;have a4:=If (b_ a3.O hb4);clear hb4
 try go_simp
 refine hK.O _ _ (HI.O _ a4.O.block) ?_;clear hK K
 try simp only[pu]
 refine pT_ ?_
 try simp only[pu]
 refine pD fun K hK=>?_;go_simp;refine b8 (HC.b _ (H1.d _ a4.O)) fun w5 hb5=>?_;have a1:=If (b_ a4.O hb5);clear hb5
 try go_simp
 refine hK.O _ _ (HI.O _ a1.O.block) ?_;clear hK K
 try simp only[pu]
 iterate 2
  refine pT_ ?_
  try simp only[pu]
 refine eP ?_;clear a5;go_wp2_with fail;refine(HC.c _ (H1.d _ a1.O)).M ?_;rintro e w6 ⟨v6,rfl,a7,bj⟩;have bo:0<(Bt.its x).length:=by
  have h1:=Bt.pow_le t HR.c.t1 HR.c.ok HR.c.pos;have h2:=Nat.two_pow_pos d;rw[Nat.pow_succ] at h1;omega
 obtain⟨b,c,rfl,-,-,-⟩:=a7.cell_at bo;have b0:∀(j:Nat) (hj:j<(Bt.its x).length),w6.cell? ⟨b,j*2,none⟩=some (Xu (Bt.its x)[j].kh)/\w6.cell? ⟨b,j*2+1,none⟩=some (Xu (Bt.its x)[j].vh):=fun j hj=>by
  obtain⟨b',c',e,_,h1,h2⟩:=a7.cell_at hj;exact qDhad
 have bv:w5.1.size<=b/\b<w6.1.size:=World.ownsRow.lt a7 b rfl;have bq:=a1.O.size;have K0:JJ W0 w6 b (Bt.h_ x) (Bt.its x) (.slice (some (y_ b1)) nn c1) 0 w6:=by
  have o:=oJ H1.b (a1.O.T (bj.M bq));have hg:=(FE.ge H1.b b1 rfl).2;rw[H1.f] at o;refine⟨H1.c.T ((a1.O.T (bj.M bq)).M H1.c.size),?_,rfl,fun e=>?_,bv.2⟩
  ·rw[bZ]
   show FE w6 W0.1.size _ (Bt.h_ x++[])
   rw[bw];exact o
  ·have e:b1=b:=by simpa[Value.ownBlock] using e
   omega
 have HK:=kq3 K0 b0 bo;clear K0 b0 bo a7 bj bq bv;rw[HE.O];go_wp2_with fail
 go_loopg [9,11,12,13,14,15,16,51] n (fun k s9 _ _ _ _ _ _ s51 wr=>∃j:Nat,s51=Xi j/\j<=n/\n-j<=k/\Hid (JJ W0 w6 b (Bt.h_ x) (Bt.its x) s9 j wr))
 case atStart=>exact⟨0,rfl,o_,o_,HK.a⟩
 case round=>
  obtain⟨j,rfl,hj,c7,I1⟩:=hrel
  by_cases hlt:j<n
  ·have cx:(j:Int)<n:=o_
   have a8:j<(Bt.its x).length:=by have:=HE.O;omega
   have hc:=HK.b j a8;have ha:=aq a8;have o1:=(xA (o:=j*2) I1.O.it).T hc.1;have o2:=(xA (o:=j*2+1) I1.O.it).T hc.2;have an:D_ w wr:=HR.d.T (I1.O.bel.M o_);obtain⟨a,bf⟩:=Ii ((Bt.its x)[j]);rw[bf] at o1 o2 ha;have HA:=kq2 bf ha;have A1:=c_ wr (Xe a.kh a.vh);have p1:=heap_alloc_new wr (Xe a.kh a.vh);obtain⟨W1,bu⟩:=Ii (wr.alloc (Xe a.kh a.vh));rw[bu] at A1 p1;have I2:=kq3 (I1.O.a_ A1) (b_ an A1) p1;clear hc ha bf A1 an;obtain⟨f0,f1⟩:=Fp p1;clear p1;go_wp2_with fail;refine b8 (HC.e W1 I2.b a HA.b).1 fun w7 hb7=>?_;have p7:=(hb7.block _ (gl I2.c)).T I2.c;have I7:=kq3 (I2.a.a_ hb7) (b_ I2.b hb7) p7;clear hb7 f0 f1 bu o1 o2;obtain⟨f0,f1⟩:=Fp p7;clear p7;go_wp2_with fail;refine b8 (HC.e w7 I7.b a HA.b).2 fun w8 hb8=>?_;have p8:=(hb8.block _ (gl I7.c)).T I7.c;have I8:=kq3 (I7.a.a_ hb8) (b_ I7.b hb8) p8;clear hb8 f0 f1 p8
   go_upto_region 16 with fail
   go_cut [92] from 52 to 100 (fun s92 wx=>s92=.bool false/\Hid (D_ w8 wx))
   case first=>
    cases j with
    | zero=>
     go_quiet (fail)
     go_wp2_with fail
     go_meet
     exact⟨rfl,rfl,rfl,rfl,Nat.le_refl _,fun _ _=>rfl⟩
    | succ k=>
     have a9:k<(Bt.its x).length:=o_
     have ba:=cE.1 HR.c.F3 k (k+1) a9 a8 (aX k);rw[HA.a] at ba;obtain⟨a',bd⟩:=Ii ((Bt.its x)[k]);have ch:a'∈Bt.its x:=bd▸aq a9;have hc:=(xA (o:=k*2) I8.a.it).T (HK.b k a9).1;rw[bd] at ba hc;have c5:Fu a'.k a.k<0:=ba;have c9:IntKind.i64.wrap (k:Int)=(k:Int):=ax _ o_;have c8:(k:Int)<n:=o_
     have c4:decide (0<=Fu a'.k a.k)=false:=m_
     have ca:=fun(W:World) (hW:D_ w8 W)=>HC.f W (b_ I8.b hW) a' ch;obtain⟨I,ap,ad⟩:=ic fun w'=>∀k,k<w8.1.size->w'.1[k]?=w8.1[k]?;have a2:=fun x:Fq I=>(ap _ x.ok w.1.size (aE a0 I8.a.bel.size)).T ((I8.a.bel.block _ a0).T HN.c);obtain⟨m0,m1⟩:=mt a2;have o0:∀x:Fq I,x.to.cell? ⟨b,k*2,none⟩=some (Xu (a'.kh:Nat)):=fun x=>(j9 (ap _ x.ok b I8.a.lt)).T hc;have a5:I w8.drew:=ad _ fun _ _=>rfl;have HJ:=kq2 ad ca;clear ap ad a2 hc ca ba ch bd a9;refine fh I (.take 0 (.take 1 (.take 2 (.take 3 (.take 4 (.take 5 (.take 6 (.take 7 (.take 8 (.take 9 (.take 10 (.take 11 (.take 12 (.take 13 (.take 14 (.take 15 (.take 16 (.take 18 (.go 17 (.go 19 (.take 20 (.take 21 (.take 22 .nil))))))))))))))))))))))) k_ k_ a5 ?_
     iterate 18
      refine pT_ ?_
      try simp only[pu]
     refine pD fun K hK=>?_;go_simp;refine b8 (HJ.b _ (aa _ w8).drew) fun w9 hb9=>?_;have bb:Hid (D_ w8 w9):=(aa _ w8).drew.T hb9;clear hb9
     try go_simp
     refine hK.O _ _ (HJ.a _ bb.O.block) ?_;clear hK K
     try simp only[pu]
     refine pD fun K hK=>?_;go_simp;refine Jc (sT _ _ _) ?_
     try go_simp
     refine hK.O _ _ (HJ.a _ bb.O.block) ?_;clear hK K
     try simp only[pu]
     iterate 3
      refine pT_ ?_
      try simp only[pu]
     refine eP ?_;go_wp2_with fail
     go_meet
     exact⟨rfl,bb⟩
   case rest=>
    obtain⟨rfl,J⟩:=hcut;have I9:=I8.a.a_ J.O;have p9:=(J.O.block _ (gl I8.c)).T I8.c;have bs:=I9.bel.size;have cc:(Bt.h_ x++ff ((Bt.its x).take j)).length<=90000:=by
     rw[ag,Kd,aM,H1.f];omega
    obtain⟨v2,w9,c3,cn,a6,cv⟩:=Kz I9.own cc a.kh a.vh bs 59;have K9:Hid (JJ W0 w6 b (Bt.h_ x) (Bt.its x) v2 (j+1) w9):=by
     refine⟨I9.bel.grown a6 bs fun k e=>(FE.ge I9.own k e).1,?_,(a6.block b I9.lt fun e=>I9.ne e.S).T I9.it,fun e=>?_,aE I9.lt a6.size⟩
     ·rw[Le a8,HA.a,<-aY];exact cn
     ·rcases cv with q | ⟨g,q,hq⟩
      ·exact I9.ne (q▸e)
      ·rw[q] at e
       injection e with e
       have:=I9.lt;omega
    clear I9 bs cc cn a6 cv;obtain⟨f0,f1⟩:=Fp p9;clear p9
    go_wp2_with (at_builtin;refine Lib.wpList_append_run _ rfl _ _ _ _ rfl _ _ rfl rfl _ _ c3 ?_)
    go_roundg (n-(j+1))
    case rel=>exact⟨j+1,s_,o_,o_,K9⟩
    case measure=>omega
  ·obtain rfl:j=n:=o_
   have cx:¬(j:Int)<j:=o_
   have cq:(Bt.its x).take j=Bt.its x:=by rw[<-HE.O,ct]
   have ho:=I1.O.own;rw[cq] at ho;have ai:Bt.h_ x++ff (Bt.its x)≠[]:=fun e=>H1.e (List.append_eq_nil_iff.1 e).1;have au:=Lo ho (by rw[ag,Kd,HE.O,H1.f];omega) ai HR.b HR.a;have an:D_ w wr:=HR.d.T (I1.O.bel.M o_);have p:=(I1.O.bel.block _ a0).T HN.c;have H9:=kq3 au an p;clear au ho cq ai an p;go_wp2_with fail;refine b8 H9.a fun w7 hb7=>?_;have p:=(hb7.block _ (gl H9.c)).T H9.c;have hs:=HC.d w7 (b_ H9.b hb7);rw[HE.O] at hs;have H7:=kq2 hs (b_ H9.b hb7);clear hs hb7;obtain⟨f0,f1⟩:=Fp p;clear p;go_wp2_with fail;refine b8 H7.a fun w8 hb8=>?_;have H8:=If (b_ H7.b hb8);clear hb8;go_wp2_with fail;go_ret;exact⟨rfl,H8.O⟩
end
section
open Go.RowKit Tryz Go.BigFrame Go.Maps Go.WideMaps Lf
variable{B:Nat}{D:Nat}{l:List Nat}{v:Value}{w:World}
def nV(l:List Nat):List Value:=l.map fun x:Nat=>Value.int .i64 x
theorem M4:(prog.info? 3).map (fun i=>(i.zero,i.size,i.bytes))=some (some (Xi 0),1,8):=k_
abbrev pc(w:World)(B:Nat)(v:Value)(l:List Nat):Prop:=w.ownsRow B 3 1 v l.length (nV l)
theorem L8(h:pc w B v l)(hl:l.length<=100000)(x:Nat)(hB:B<=w.1.size)(ty:TypeId):
 ∃v' w',(Builtin.append_ #[57,57] ty #[v,.slice (some (y_ w.1.size)) 1 1]).run prog (w.alloc (Xh x))=.ok v' w'/\pc w' B v' (l++[x])/\w.grownBy w' v.ownBlock/\(v'.ownBlock=v.ownBlock\/∃g,v'.ownBlock=some g/\w.1.size<=g):=by
 obtain⟨i,hi,ad,ai,an⟩:=info_parts M4;obtain⟨v',w',h1,h2,h3,_,h4⟩:=run_append_own_at (P:=prog) (w:=w.alloc (Xh x)) B 57 ty 3 i (Xi 0) 1 8 underlying57 hi ad ai an rfl d_ v l.length (nV l) (h.alloc _) (y_ w.1.size) 1 1 [Xi x] rfl (cell_one_new _ _ _) (by simp[Value.oneCell']) (by unfold maxLen;omega) o_ m_;refine⟨v',w',h1,?_,(World.grownBy_alloc w _ _).T h3,?_⟩
 ·have e:nV (l++[x])=nV l++[Xi x]:=by simp[nV]
  unfold pc;rw[e,ag];exact h2
 ·rcases h4 with h4 | h4
  ·exact ab h4
  ·exact ae ⟨_,h4,s_⟩
theorem pc.at{w w':World}(h:pc w D v l)(e:∀g,v.ownBlock=some g->w'.1[g]?=w.1[g]?):pc w' D v l:=by
 refine⟨h.1,?_⟩
 rcases h.2 with hn | ⟨g,ad,ai,rfl,hb,an,ap⟩
 ·exact .inl hn
 ·exact .inr ⟨g,ad,ai,rfl,hb,(e g rfl).T an,ap⟩
theorem pc.ge(h:pc w D v l):∀g,v.ownBlock=some g->D<=g/\g<w.1.size:=World.ownsRow.lt h
theorem pc.E_(h:pc w D v l):∃A c,v=.slice A l.length c:=by
 rcases h.2 with⟨rfl,e⟩ | ⟨g,ad,ai,rfl,_⟩
 ·exact⟨none,0,by rw[e]⟩
 ·exact⟨_,_,rfl⟩
theorem pc.block(h:pc w B v l){g:Nat}(hg:v.ownBlock=some g):B<=g/\g<w.1.size/\∃cs fr,w.1[g]?=some (.cells cs 3 fr):=by
 rcases h.2 with⟨e,_⟩ | ⟨b,c,ai,e,hb,ad,ar,an,ap,ht⟩
 ·rw[e] at hg
  cases hg
 ·rw[e] at hg
  cases hg
  exact⟨hb,(gl ad),_,_,ad⟩
structure qZ (w:World) (Bo D:Nat) (X:Nat->Prop) (L:List Nat) (W:World):Prop where
 lo:w.1.size<=Bo/\Bo<D/\D<=W.1.size
 bl:D_ w W
 xl:∀k,X k->w.1.size<=k/\k≠Bo/\k<W.1.size
 ex:∃A c,W.1[Bo]?=some (.cells #[.slice A L.length c] 57)/\pc W D (.slice A L.length c) L/\∀g,(Value.slice A L.length c).ownBlock=some g->¬X g
section
variable {w W W':World}{Bo D B:Nat}{X X':Nat->Prop}{L:List Nat}{row:Option Nat}
theorem qZ.grown(h:qZ w Bo D X L W)(hB:w.1.size<=B)(hg:W.grownBy W' row)(hr:∀r,row=some r->X r\/B<=r/\∃o:Obj,W.1[r]?=some o/\o.isCells=false)(hx:∀k,X' k->X k\/W.1.size<=k/\k<W'.1.size):qZ w Bo D X' L W':=by
 obtain⟨A,c,h1,h2,h3⟩:=h.ex;have ap:=hg.size;have ar:=h.lo;have au:=h.bl.size;have an:=(gl h1);have ad:∀k cs ty fr,W.1[k]?=some (.cells cs ty fr)->¬X k->row≠some k:=fun k cs ty fr e hx e2=>by
  rcases hr k e2 with q | ⟨_,o,q,q2⟩
  ·exact hx q
  ·rw[e] at q
   cases q
   cases q2
 have ai:¬X Bo:=fun q=>(h.xl _ q).2.1 rfl;refine⟨o_,h.bl.T ⟨hg.os,hg.tape,hg.output,ap,fun k hk=>hg.block k o_ fun e=>?_⟩,fun k hk=>?_,A,c,(hg.block _ an fun e=>ad _ _ _ _ h1 ai e.S).T h1,h2.at fun g e=>hg.block g (h2.ge g e).2 fun q=>?_,fun g e q=>?_⟩
 ·rcases hr k e.S with q | ⟨q,_⟩
  ·have:=(h.xl _ q).1;omega
  ·omega
 ·rcases hx k hk with q | q
  ·have:=h.xl _ q;omega
  ·omega
 ·obtain⟨_,_,cs,fr,e3⟩:=h2.block e;exact ad _ _ _ _ e3 (h3 g e) q.S
 ·have:=(h2.ge g e).2
  rcases hx g q with q | q
  ·exact h3 g e q
  ·omega
theorem qZ.own {α:Type}(f:List α->List Nat)(hB:w.1.size<=B):JT B (fun X xs W=>qZ w Bo D X (f xs) W):=fun _ _ _ _ _ _ h hg hr hx=>h.grown hB hg hr hx
theorem qZ.append(h:qZ w Bo D X L W)(hl:L.length<=100000)(x:Nat)(ty:TypeId)(n0:Nat)(hn:n0<=Bo):
 ∃A c,W.1[Bo]?=some (.cells #[.slice A L.length c] 57)/\∃A2 c2 W2,(Builtin.append_ #[57,57] ty #[.slice A L.length c,.slice (some (y_ W.1.size)) 1 1]).run prog (W.alloc (Xh x))=.ok (.slice A2 (L.length+1) c2) W2/\(∃v,W2.1[Bo]?=some (.cells #[v] 57))/\
  qZ w Bo D X (L++[x]) (W2.setCell (y_ Bo) (.slice A2 (L.length+1) c2))/\KeepsFrom D W (W2.setCell (y_ Bo) (.slice A2 (L.length+1) c2))/\mA n0 X W (W2.setCell (y_ Bo) (.slice A2 (L.length+1) c2))/\∀k o,W.1[k]?=some o->k≠Bo->(∀cs fr,o≠ .cells cs 3 fr)->(W2.setCell (y_ Bo) (.slice A2 (L.length+1) c2)).1[k]?=some o:=by
 obtain⟨A,c,h1,h2,h3⟩:=h.ex;have ar:=h.lo;have a3:=(gl h1);obtain⟨v2,W2,a1,ai,ad,a2⟩:=L8 h2 hl x ar.2.2 ty;obtain⟨A2,c2,rfl⟩:=ai.E_;have an:=ad.size;rw[ag,bi] at a1 ai a2;have au:∀k,k<W.1.size->(k<D\/X k)->W2.1[k]?=W.1[k]?:=fun k hk q=>ad.block k hk fun e=>by
  rcases q with q | q
  ·have:=(h2.ge k e.S).1;omega
  ·exact h3 k e.S q
 have ap:=(au Bo a3 (.inl ar.2.1)).T h1;have hs:∀k,k≠Bo->(W2.setCell (y_ Bo) (.slice A2 (L.length+1) c2)).1[k]?=W2.1[k]?:=fun k hk=>FB hk;have a0:=ai;have key:∀k,k<W.1.size->(k<D\/X k)->k≠Bo->(W2.setCell (y_ Bo) (.slice A2 (L.length+1) c2)).1[k]?=W.1[k]?:=fun k hk q q2=>(hs k q2).T (au k hk q);refine⟨A,c,h1,A2,c2,W2,a1,⟨_,ap⟩,⟨by rw[size_setCell];omega,h.bl.T ⟨ad.os,ad.tape,ad.output,by rw[size_setCell];exact an,fun k hk=>key k (by have:=h.bl.size;omega) (.inl o_) o_⟩,(fun k hk=>by have:=h.xl k hk;rw[size_setCell];omega),A2,c2,?_,?_,fun g e q=>?_⟩,⟨by rw[size_setCell];exact an,fun k o hk e hc=>?_⟩,⟨⟨ad.os,ad.tape,ad.output,by rw[size_setCell];exact an,fun k hk=>key k (by have:=h.lo;omega) (.inl o_) o_⟩,fun k o hk e=>(key k (gl e) (.inr hk) (h.xl k hk).2.1).T e⟩,fun k o e hk ht=>(hs k hk).T ((ad.block k (gl e) fun q=>by
  obtain⟨_,_,cs,fr,e3⟩:=h2.block q.S;rw[e] at e3;exact ht _ _ (Option.some.inj e3)).T e)⟩
 ·rw[ag,bi];exact heap_setCell (i:=0) (v:=.slice A2 (L.length+1) c2) ap
 ·rw[ag,bi];exact a0.at fun g e=>hs g (by have:=(a0.ge g e).1;omega)
 ·rw[ag,bi] at e;rcases a2 with q2 | ⟨g',q2,hg⟩
  ·exact h3 g (q2▸e) q
  ·rw[e] at q2;cases q2
   have:=h.xl g q;omega
 ·have a4:=(gl e);refine(hs k o_).T ((ad.block k a4 fun q=>?_).T e);obtain⟨_,_,cs,fr,e3⟩:=h2.block q.S;rw[e] at e3;cases e3
  cases hc
end
end
section
open Go.RowKit Tryz Go.BigFrame Go.Maps Go.WideMaps Lf
open Go.Shelf
variable{X:Nat->Prop}{w:World}
attribute [local go_sem] Oper.semAt_some
theorem KL(l m:List (Nat×Hr)):GB (l++m)=GB l++GB m:=by
 induction l with
 | nil=>rfl
 | cons x l ih=>obtain⟨p,y⟩:=x;simp only[aJ,GB,ih,aY]
theorem mA.put{n0:Nat}{W:World}{l:Nat}{o o':Obj}(hn:n0<=l)(hx:¬X l)(h:W.1[l]?=some o)(h1:o.isCells=false)(h2:o.isWalk=false):mA n0 X W (W.putObj l o'):=
 ⟨nN W l o o' hn h h1 h2,fun k o2 hk e=>(World.putObj_heap_other (by intro q;subst q;exact hx hk)).T e⟩
theorem qZ.a_{w W W':World}{Bo D:Nat}{L:List Nat}(h:qZ w Bo D X L W)(hb:D_ W W'):qZ w Bo D X L W'/\Kx D w.1.size X W W':=
 ⟨h.grown (B:=w.1.size) Ih (lf hb) (fun r e=>by cases e) (fun _ hk=> .inl hk),⟨hb.size,fun k o _ e _=>(hb.block k (gl e)).T e⟩,mA.v_ hb h.bl.size⟩
theorem pc.base{B B':Nat}{v:Value}{l:List Nat}(h:pc w B v l)(hB:B'<=B):pc w B' v l:=
 ⟨h.1,h.2.imp id fun⟨g,cap,cur,h1,h2,h3⟩=>⟨g,cap,cur,h1,aG hB h2,h3⟩⟩
def yW(p n w k:Nat):List Nat:=((List.range k).filter fun j=>jI w j).map (fF p n)
theorem LD(p n w k:Nat):yW p n w (k+1)=if jI w k=true then yW p n w k++[fF p n k] else yW p n w k:=by
 unfold yW;rw[dw,List.filter_append]
 by_cases h:jI w k=true
 ·rw[if_pos h,dN h]
  simp
 ·rw[if_neg h,List.filter_cons_of_neg h]
  simp
theorem Nb(p n w k m:Nat)(h:k<=m):(yW p n w k).length<=(yW p n w m).length:=by
 induction m with
 | zero=>rw[show k=0 by omega];exact Nat.le_refl _
 | succ m ih=>
  by_cases q:k=m+1
  ·rw[q];exact Nat.le_refl _
  ·have:=ih o_;rw[LD]
   split
   ·rw[ag];omega
   ·exact this
theorem MV{ph pa pm:Nat}{s:q_}{Y:Nat->Prop}(h:Fz w ph pa pm s Y)(hn:(G6 s).length<=90000):
 Ct 68 #[PV ph] w fun e w'=>∃v,e=.returned v/\pc w' w.1.size v (G6 s)/\D_ w w':=by
 refine(callsIn_wide (n:=7)).1 ?_;have h1:1<=7:=o_
 have dc:Fence.wide.fn 117:=trivial;have c8:Fence.wide.fn 116:=trivial;have c7:Fence.wide.fn 118:=trivial;have c':Fence.wide.fn 119:=trivial;have c9:Fence.wide.fn 101:=trivial;have ca:=(callsIn_wide (n:=6)).2 (qV h);have b':∀W,CallsIn Fence.wide 6 prog 116 #[PV ph] W _:=fun W=>callsIn_wide.2 (qQ ph W);have HR:=kq3 h hn ca;clear h hn ca;refine callsIn_of_wp_marks func68 rfl trivial ?_ rfl;simp only[ntmps68,aT,aj,aK,Nat.reduceAdd,Nat.reduceSub,aO,aP,aU,aR,aV,aJ];gi_wp2_with fail;refine HR.c.M ?_;rintro e w1 ⟨rfl,rfl⟩;gi_wp2_with fail;refine(b' _).M ?_;rintro e w4 ⟨rfl,rfl⟩;gi_wp2_with fail;have hb:D_ w ((w.alloc (.cells #[n_] 57)).alloc (Xm ph)):=((aa _ _).alloc Ih _).alloc s_ _;have g0:((w.alloc (.cells #[n_] 57)).alloc (Xm ph)).1[w.1.size]?=some (.cells #[n_] 57):=by
  rw[cI _ _ _ s_];exact World.alloc_heap_new _ _
 have g1:((w.alloc (.cells #[n_] 57)).alloc (Xm ph)).1[w.1.size+1]?=some (Xm ph):=by
  have:=World.alloc_heap_new (w.alloc (.cells #[n_] 57)) (Xm ph);rw[World.size_alloc] at this;exact this
 have z0:((w.alloc (.cells #[n_] 57)).alloc (Xm ph)).1.size=w.1.size+2:=s_
 generalize ((w.alloc (.cells #[n_] 57)).alloc (Xm ph))=W0 at*;have a4:qZ w w.1.size (w.1.size+2) (fun k=>k=w.1.size+1) (GB (gt [])) W0:=⟨o_,hb,fun k hk=>by omega,none,0,g0,World.ownsRow_nil _ _ _ _,fun g e=>nomatch e⟩;clear b';refine KW rfl h1 (gf:=159) (lb:=#[PV (w.1.size+1)]) rfl trivial (enters_of func159 k_ rfl)
  (MS HR.a hb (w.1.size+1) o_ (e_ g1)) (fun k hk=>by omega) mA.T
  (fun X W l o o' h1 h2 h3 h4 h5=>mA.put o_ h2 h3 h4 h5) (aa _ _) (fun _=>rfl)
  (fun X ad W=>qZ w w.1.size (w.1.size+2) X (GB (gt ad)) W)
  (qZ.own (B:=W0.1.size) (fun l:List iH=>GB (gt l)) o_)
  a4
  (fun x a' W=>∃bx,a'= { tmps:=#[PV ph,undef,n_,PV w.1.size,Xi x.1.1,PV bx,undef,undef,undef,PV ph,.bool false,PV ph,.func (.func 159) #[] #[PV (w.1.size+1)],Xi x.1.1,fT x.1.2,undef,undef,undef,undef,undef,undef,undef,undef,undef,undef,undef,undef,undef,undef,undef,undef,undef,undef,undef,undef,undef,undef,undef,undef,undef,undef,undef,undef,undef,undef,undef,undef,undef],defers:=[] } /\w.1.size+2<=bx/\W.1[bx]?=some (Xj x.1.2.l_ x.1.2.n x.1.2.w))
  (fun x a' _ W W' row hs hg hr=>by
   obtain⟨bn,e1,e2,e3⟩:=hs;refine⟨bn,e1,e2,(hg.block _ (gl e3) fun q=>?_).T e3⟩;obtain⟨_,o,q1,q2⟩:=hr bn q.S;rw[e3] at q1
   cases q1
   cases q2)
  ?assign ?body ?done
 case assign=>
  rintro l X ad x W K hI hK;have HK:=If hK;have HI:=If hI;clear hK hI;simp only[mF,fT]
  gi_wp2
  obtain⟨i1,i2,i3⟩:=HI.O.a_ (W':=W.alloc (Xj x.1.2.l_ x.1.2.n x.1.2.w)) ((aa _ _).alloc Ih _);exact HK.O _ _ ⟨i2.size,fun k o hk=>i2.same k o o_⟩ i3 i1 ⟨W.1.size,rfl,HI.O.lo.2.2,World.alloc_heap_new _ _⟩
 case body=>
  rintro l X ad ⟨⟨p,kd,xn,xw⟩,hx⟩ a' W dd dk hI ⟨bx,rfl,bu,a1⟩ ⟨rr,bo⟩;simp only at hx a1;obtain⟨cj,a2,ck,cn⟩:=hx;have au:(GB (gt ad)).length+(GB [(p,⟨kd,xn,xw⟩)]).length<=90000:=by
   have h2:=HR.b;unfold G6 at h2;rw[<-bo] at h2;have e:gt (ad++⟨(p,⟨kd,xn,xw⟩),cj,a2,ck,cn⟩::rr)=gt ad++((p,⟨kd,xn,xw⟩)::gt rr):=by
    show (ad++_::rr).map (·.1)=_
    rw[aQ]
    rfl
   rw[e,KL,show ((p,(⟨kd,xn,xw⟩:Hr))::gt rr)=[(p,⟨kd,xn,xw⟩)]++gt rr from rfl,KL,ag,ag] at h2;omega
  have an:GB (gt (ad++[(⟨(p,⟨kd,xn,xw⟩),cj,a2,ck,cn⟩:iH)]))=GB (gt ad)++GB [(p,⟨kd,xn,xw⟩)]:=by
   rw[<-KL]
   show GB ((ad++_).map (·.1))=_
   rw[aQ]
   rfl
  obtain⟨b0,b1,b2⟩:=fq a1;simp only[fT]
  by_cases hk2:kd=2
  ·subst hk2;have e1:GB [(p,(⟨2,xn,xw⟩:Hr))]=[p*64+2]:=by simp[GB]
   rw[e1] at au an;obtain⟨A,c,ai,A2,c2,W2,cb,⟨v2,bb⟩,a0,ap,ar,_⟩:=hI.append o_ (p*64+2) 57 w.1.size Ih;rw[show ((p*64+2:Nat):Int)=(p:Int)*64+2 by omega] at cb;generalize (GB (gt ad)).length=n at*;have c0:(W).cell? (y_ w.1.size)=some (.slice A n c):=e_ ai
   have d0:(W2).cell? (y_ w.1.size)=some (v2):=e_ bb
   have f0:(W2).frozen? (y_ w.1.size)=false:=AT bb;have HI:=kq4 a0 ap ar an;clear hI a0 ap ar ai bb bo au an a1 e1
   gi_wp2_with (gi_at_builtin;refine Kg _ rfl _ _ _ _ rfl _ _ rfl rfl _ _ cb ?_)
   refine⟨by rw[z0];exact HI.b,HI.c,?_⟩
   show qZ w w.1.size (w.1.size+2) X (GB (gt (ad++_))) _
   rw[HI.d];exact HI.a
  ·have cw:((kd:Int)==2)=false:=m_
   have e1:GB [(p,(⟨kd,xn,xw⟩:Hr))]=yW p xn xw (eJ xn):=by simp[GB,hk2,yW]
   rw[e1] at au an;obtain⟨er,ch⟩:=wW xn;have a7:CallsIn Fence.wide 4 prog 117 #[Xi xn] W _:=callsIn_wide.2 (qk xn W);rw[ch] at a7;have cv:=nX xn;obtain⟨m,hm⟩:=Ii (eJ xn);rw[hm] at a7 cv au an;have HS:=kq5 a7 hI a1 au an;clear a7 ch hm hI a1 au an e1 hk2 bo;gi_wp2_with fail;refine(CallsIn.inRound l HS.a).M ?_;rintro e w2 ⟨rfl,ai⟩;obtain⟨a0,a2⟩:=HS.b.a_ ai;have b9:=(ai.block _ (gl HS.c)).T HS.c;have H2:=kq3 a0 a2 b9;clear ai a0 a2 b9 b0 b1 b2 cw;gi_wp2_with fail
   gi_loopw [8,31] (fun _ i wr=>∃k:Nat,i=Xi k/\k<=m/\Hid (qZ w w.1.size (w.1.size+2) X (GB (gt ad)++yW p xn xw k) wr/\Kx (w.1.size+2) w.1.size X W wr/\wr.1[bx]?=some (Xj kd xn xw))) (fun _ i _=>m-(intOf i).toNat)
   case atStart=>exact⟨0,rfl,o_,by rw[show yW p xn xw 0=[] from rfl,bw];exact H2.O⟩
   case round=>
    obtain⟨k,rfl,hk,J0⟩:=hrel
    by_cases hkm:k<m
    ·have cx:(k:Int)<m:=o_
     have bv:=J0.O.2.2;obtain⟨b0,b1,b2⟩:=fq bv;have bf:CallsIn Fence.wide 4 prog 118 #[Xu xw,Xi k] wr _:=callsIn_wide.2 (zx xw k wr o_ o_);have bm:=fun W=>uJ p xn k W o_ o_ o_;have a6:=LD p xn xw k;have c3:=Nb p xn xw k m hk;obtain⟨bt,b4⟩:=Ii (jI xw k);obtain⟨P,hP⟩:=Ii (fF p xn k);rw[b4] at bf a6;rw[hP] at bm a6;have HE:=kq4 bf bm a6 (by rw[ag];have:=HS.d;omega:(GB (gt ad)++yW p xn xw k).length<=100000);clear bf bm a6 c3 b4 hP bv;gi_wp2_with fail;refine(CallsIn.inRound l HE.a).M ?_;rintro e w3 ⟨rfl,h3⟩;rw[<-h3];clear h3
     cases bt with
     | false=>
      gi_wp2_with fail;go_roundw
      case rel=>exact⟨k+1,s_,o_,by rw[HE.c,if_neg s_];exact J0.O⟩
      case measure=>simp[intOf];omega
     | true=>
      obtain⟨A,c,ai,c6,_⟩:=J0.O.1.ex;have J1:=J0.O.1.a_ (aa wr.1.size wr).drew;obtain⟨nl,bj⟩:=Ii (GB (gt ad)++yW p xn xw k).length;rw[bj] at ai;obtain⟨I,a9,ba⟩:=ic fun w'=>w'.1[bx]?=some (Xj kd xn xw)/\w'.1[w.1.size]?=some (.cells #[.slice A nl c] 57);have cp:=fun x:Fq I=>(a9 _ x.ok).1;have cq:=fun x:Fq I=>(a9 _ x.ok).2;have a4:I wr.drew:=ba _ ⟨J0.O.2.2,ai⟩;have HI:=kq4 ba J1 (show wr.drew.1[bx]?=_/\wr.drew.1[w.1.size]?=_ from⟨J0.O.2.2,ai⟩) bj;clear a9 ba J1 ai c6 b0 b1 b2 bj
      gi_upto_region 14 with fail
      obtain⟨b0,b1,b2⟩:=qf cp;have c0:∀x:Fq I,x.to.cell? (y_ w.1.size)=some (.slice A nl c):=fun x=>by rw[r_ (cq x)];rfl
      refine NI I (fun i=>[7,8].contains i) (.take 0 (.take 1 (.take 2 (.take 3 (.take 4 (.go 5 (.go 6 (.go 7 (.go 8 .nil))))))))) k_ k_ k_ a4 ?_;clear a4 cp cq;generalize wr.drew=Wd at*
      iterate 5
       refine qT_ ?_
       try simp only[pu]
      refine qD fun K hK=>?_;go_simp;refine(HE.b Wd).M ?_;rintro e w5 ⟨rfl,a5⟩;obtain⟨bq,co⟩:=HI.b.1.a_ a5;have q5:=(a5.block _ (gl HI.c.1)).T HI.c.1;have r5:=(a5.block _ (gl HI.c.2)).T HI.c.2
      try go_simp
      refine hK.O _ _ (HI.a _ ⟨q5,r5⟩) ?_;clear hK K
      try simp only[pu]
      obtain⟨A5,c5,bs,A2,c2,W6,cc,⟨v6,bc⟩,a8,ap,ar,bk⟩:=bq.append HE.d P 57 w.1.size Ih;have a3:=bs.S.T r5;rw[HI.d] at a3 cc a8 ap ar bk;obtain⟨rfl,rfl⟩:A5=A/\c5=c:=by simp at a3;exact a3
      have bd:D_ w5 (w5.alloc (Xh P)):=(aa _ _).alloc Ih _;have q6:=(bd.block _ (gl q5)).T q5;have r6:=(bd.block _ (gl r5)).T r5;have q9:=bk bx _ q5 o_ (fun cs fr e=>by cases e);have H9:=kq3 a8 (J0.O.2.1.T (HI.b.2.T (co.T ⟨ap,ar⟩))) q9;clear b0 b1 b2 c0;have d0:(W6).cell? (y_ w.1.size)=some (v6):=e_ bc
      have f0:(W6).frozen? (y_ w.1.size)=false:=AT bc;refine qD fun K hK=>?_;go_simp
      try go_simp
      refine hK.O _ _ (HI.a _ ⟨q6,r6⟩) ?_;clear hK K
      try simp only[pu]
      refine qL (fun K hK=>kE _ _ _ rfl rfl rfl cc ?_)
      try go_simp
      refine hK.O _ _ trivial ?_;clear hK K
      try simp only[pu]
      clear bq co q5 r5 bs bc a8 ap ar bk a3 bd q6 r6 q9 a5 HI;refine qL fun K hK=>?_;go_simp
      try go_simp
      refine hK.O _ _ trivial ?_;clear hK K
      try simp only[pu]
      refine Ja ?_;gi_wp2_with fail;go_roundw
      case rel=>exact⟨k+1,s_,o_,by rw[HE.c,if_pos trivial,<-aY];exact H9.O⟩
      case measure=>simp[intOf];omega
    ·obtain rfl:k=m:=o_
     have cx:¬(k:Int)<k:=o_
     gi_wp2_with fail;refine⟨J0.O.2.1.1,J0.O.2.1.2,?_⟩
     show qZ w w.1.size (w.1.size+2) X (GB (gt (ad++_))) _
     rw[HS.e];exact J0.O.1
 case done=>
  rintro D X xs W hD hS hI hK;obtain⟨A,c,ai,ho,_⟩:=hI.ex;have cu:GB (gt xs)=G6 s:=by rw[hS];rfl
  rw[cu] at ai ho;have HI:=kq2 ho hI.bl;generalize (G6 s).length=n at*;have c0:(W).cell? (y_ w.1.size)=some (.slice A n c):=e_ ai
  clear hI ai ho
  gi_wp2
  refine⟨s_,.inl ⟨_,_,rfl,run_takeDeferred hK,?_⟩⟩;obtain⟨ho,bu⟩:=HI.O;have c4:∀g,(Value.slice A n c).ownBlock=some g->g≠D:=fun g e q=>by
   subst q;obtain⟨_,_,cs,fr,e3⟩:=ho.block e;rw[hK] at e3
   cases e3
  refine⟨.slice A n c,by simp[results,f68,go_sem],_,rfl,?_,bu.T (nN W D _ _ o_ hK rfl rfl)⟩;exact(ho.at fun g e=>World.putObj_heap_other (c4 g e)).base o_
end
section
open Go.RowKit Tryz Go.BigFrame Go.Maps Go.WideMaps Lf
variable{l:List Nat}{v:Value}{w:World}
theorem FE.base2{B B':Nat}(h:FE w B v l)(hB:B'<=B):FE w B' v l:=
 ⟨h.1,h.2.imp id fun⟨g,cap,cur,h1,h2,h3⟩=>⟨g,cap,cur,h1,aG hB h2,h3⟩⟩
theorem pc.cell_at{D:Nat}(h:pc w D v l){j:Nat}(hj:j<l.length):∃b c,v=.slice (some (y_ b)) l.length c/\D<=b/\w.cell? (x_ b j)=some (Xi (l[j]:Nat)):=by
 rcases id h.2 with⟨_,e0⟩ | ⟨b,c,ad,e,_⟩
 ·rw[e0] at hj
  simp at hj
 ·have e2:=World.ownsRow.cells h (g:=b) (by rw[e];rfl) j (Xi (l[j]:Nat)) (by simp[nV,hj]);rw[Addr.add_lit,bC] at e2;exact⟨b,c,e,(h.ge b (by rw[e];rfl)).1,e2⟩
theorem qDhab{P:Prop}(h:P:=by
 go_wp2_with (at_builtin;refine Lib.wpList_append_run _ rfl _ _ _ _ rfl _ _ rfl rfl _ _ a7 ?_)
 go_roundw
 case rel=>exact⟨j+1,o_,s_,HE⟩
 case measure=>simp[intOf];omega):P:=h
theorem KQ{ps:Nat}{S:St}{o:Nat->Nat}{Y:Nat->Prop}(h:Ig w ps S Y)(hf:Fw S o):
 Ct 33 #[PV ps] w fun e w'=>∃v,e=.returned v/\FE w' w.1.size v S.all/\D_ w w':=by
 have a2:=sI h;obtain⟨pa,pm,ph,pt,vt,hI⟩:=h;have a0:(G6 S.a).length<=65536:=aG hf.live_le (aG hf.tab.len hf.tab.most.2);have a1:=MV hI.heap o_;obtain⟨_,_,_,c3,_⟩:=hI.cells;have HR:=kq5 hI hf a2 a1 a0;clear hI hf a2 a1 a0;go_enter func33,ntmps33;go_wp2_with fail;refine Jc HR.c ?_;go_wp2_with fail;refine HR.d.M ?_;rintro e w1 ⟨v0,rfl,an,ap⟩;obtain⟨A0,c0,rfl⟩:=an.E_;have a9:(G6 S.a).length<=65536:=HR.e;have HV:=kq2 an ap;clear an ap c3;generalize hn:(G6 S.a).length=n at*;have HN:=If hn;clear hn;go_wp2_with fail
 go_loopw [3,5,6,7,16] (fun s3 _ _ _ s16 wr=>∃j:Nat,j<=n/\s16=Xi j/\Hid (FE wr w1.1.size s3 (S.all.take j)/\D_ w1 wr)) (fun _ _ _ _ s16 _=>n-(intOf s16).toNat)
 case atStart=>exact⟨0,o_,rfl,World.ownsRow_nil _ _ _ _,aa _ _⟩
 case round=>
  obtain⟨j,a',rfl,I⟩:=hrel
  by_cases hlt:j<n
  ·have a6:(j:Int)<n:=o_
   have ai:D_ w wr:=b_ HV.b I.O.2;have a5:pc wr w.1.size (.slice A0 n c0) (G6 S.a):=HV.a.at fun g e=>I.O.2.block g (HV.a.ge g e).2;obtain⟨b,c,e,hb,hc⟩:=a5.cell_at (j:=j) (by rw[HN.O];exact hlt)
   injection e with e1 e2 e3
   subst e1;have hm:(G6 S.a)[j]'(by rw[HN.O];exact hlt)∈G6 S.a:=aq _;obtain⟨x,hx⟩:∃x,(G6 S.a)[j]'(by rw[HN.O];exact hlt)=x:=⟨_,rfl⟩;rw[hx] at hc hm;have a4:=(HR.a.heap.a_ ai).read x (HR.b.addr_le hm);obtain⟨_,_,c2,_,_⟩:=(HR.a.a_ ai).cells;have ar:S.all.take (j+1)=S.all.take j++[S.a.rd x]:=by
    unfold St.all;rw[aw (by rw[am,HN.O];exact hlt),bG,hx]
   have au:(S.all.take j).length<=100000:=by rw[aM];omega
   have HM:=kq5 a4 ar au I.O.1 I.O.2;clear a4 ar au ai a5 hb hm e2 e3 I hx;go_wp2_with fail;refine Jc HM.a ?_;obtain⟨v2,w2,a7,a3,ad,a8⟩:=jF HM.d HM.c (S.a.rd x) HM.e.size 59;have HE:Hid (FE w2 w1.1.size v2 (S.all.take (j+1))/\D_ w1 w2):=⟨by rw[HM.b];exact a3,HM.e.T ⟨ad.os,ad.tape,ad.output,ad.size,fun k hk=>ad.block k (aE hk HM.e.size) fun e=>by
    have:=(HM.d.ge k e.S).1;omega⟩⟩
   clear a3 ad a8;exact qDhab
  ·obtain rfl:j=n:=o_
   have a6:¬(j:Int)<j:=o_
   go_wp2_with fail;go_ret;refine⟨_,rfl,?_,b_ HV.b I.O.2⟩;have e:S.all.take j=S.all:=by
    rw[aN];rw[Kc,HN.O];exact Nat.le_refl _
   rw[<-e];exact FE.base2 I.O.1 HV.b.size
end
section
open Go.RowKit Tryz Go.BigFrame Go.Maps Go.WideMaps Lf Tr
variable{S:St}{Y:Nat->Prop}{kv:Value}{o:Nat->Nat}{ty:TypeId}{w:World}
theorem KU{px ps l_ td f9:Nat}(hT:FF w px ps ty kv l_ td f9):
 Ct 41 #[PV px] w fun e w'=>e=.returned (Xu f9)/\w=w':=by
 have HG:=If (kw hT);unfold FF at hT;obtain⟨c0,c1,c2,c3,c4⟩:=ld hT;clear hT;go_enter func41,ntmps41;go_wp2_with fail;refine Jc HG.O ?_;go_wp2_with fail;go_ret;exact⟨rfl,rfl⟩
theorem KR{px ps l_ td f9:Nat}(hT:FF w px ps ty kv l_ td f9):
 Cb 73 #[PV px] w (.tuple #[Xi l_,Xi td]):=by
 have HG:=If (kw hT);unfold FF at hT;obtain⟨c0,c1,c2,c3,c4⟩:=ld hT;clear hT;go_enter func73,ntmps73;go_wp2_with fail;refine Jc HG.O ?_;go_wp2_with fail
 go_region
 go_wp2_with fail;go_ret2;exact⟨rfl,(aa _ _).drew⟩
def wl(l:List (It×Nd)):List Nat:=l.flatMap fun x=>[x.1.h,x.2.key,x.2.val]
theorem No(l:List (It×Nd)):(wl l).length=3*l.length:=by
 unfold wl
 induction l with
 | nil=>rfl
 | cons x r ih=>rw[cy,ag,ih];simp;omega
theorem L9{B:Nat}{v:Value}{l:List Nat}(h:FE w B v l)(hl:l.length<=10000)(x y z:Nat)(hB:B<=w.1.size)(ty:TypeId):
 ∃v' w',(Builtin.append_ #[59,59] ty #[v,.slice (some (y_ w.1.size)) 3 3]).run prog (w.alloc (.cells #[Xu x,Xu y,Xu z] 61))=.ok v' w'/\FE w' B v' (l++[x,y,z])/\w.grownBy w' v.ownBlock/\(v'.ownBlock=v.ownBlock\/∃g,v'.ownBlock=some g/\w.1.size<=g):=by
 obtain⟨v',w',h1,h2,h3,h4⟩:=Ky (xs:=[x,y,z]) (w:=w.alloc (.cells #[Xu x,Xu y,Xu z] 61)) (h.alloc _) m_ (y_ w.1.size) 3 (fun j u hu=>by
  have hn:=World.alloc_heap_new w (.cells #[Xu x,Xu y,Xu z] 61);rw[Addr.add_lit,bC,r_ hn]
  rcases j with _ | _ | _ | j
  ·exact hu
  ·exact hu
  ·exact hu
  ·simp[hV] at hu) m_ ty
 exact⟨v',w',h1,h2,(World.grownBy_alloc w _ _).T h3,h4.imp id fun⟨g,e,hg⟩=>⟨g,e,by simp at hg;omega⟩⟩
theorem LN{pm px ps lim l_ td:Nat}{t:Tr}(h:Ig w ps S Y)(hf:Fw S o)(hM:Ic w pm px ps lim)(hT:FF w px ps ty kv l_ td t.f9)(hk:l_=1\/l_=2)(ha:Tr.At S t)(hN:t.h_.length<A6 S)(hN2:t.h_.length<=1000):
 Ct 36 #[PV pm] w fun e w'=>∃v,e=.returned v/\FE w' w.1.size v (wl t.h_)/\D_ w w':=by
 have ba:¬((l_:Int)=3):=o_
 have HR:=kq7 h hf hM hT ha hN hN2;clear h hf hM hT ha hN hN2 hk;go_enter func36,ntmps36;go_wp2_with fail;refine Jc (IQ HR.c) ?_;go_wp2_with fail;refine Jc (Gh HR.c) ?_;go_wp2_with fail;refine Jc (KU HR.d) ?_;go_wp2_with fail;refine Jc (Gh HR.c) ?_;go_wp2_with fail;refine b8 (KR HR.d) fun w1 hb1=>?_;have H1:=If hb1;clear hb1;go_wp2_with fail;refine(Kr (HR.a.a_ H1.O) HR.b HR.e HR.f HR.g).M ?_;rintro e w2 ⟨v0,rfl,an,ai⟩;obtain⟨A0,c0,rfl⟩:=an.E_;have HV:=kq2 an (b_ H1.O ai);have HS:=kq2 H1.O.size ai.size;clear an ai H1;generalize hn:t.hs.length=n at*;have HN:=If hn;clear hn;have bb:n<=1000:=by rw[<-HN.O,<-nodes_h,am];exact HR.g
 go_wp2_with fail
 go_loopw [7,11,12,13,55] (fun s7 _ _ _ s55 wr=>∃j:Nat,j<=n/\s55=Xi j/\Hid (FE wr w2.1.size s7 (wl (t.h_.take j))/\D_ w2 wr)) (fun _ _ _ _ s55 _=>n-(intOf s55).toNat)
 case atStart=>exact⟨0,o_,rfl,World.ownsRow_nil _ _ _ _,aa _ _⟩
 case round=>
  obtain⟨j,a',rfl,I⟩:=hrel
  by_cases hlt:j<n
  ·have a6:(j:Int)<n:=o_
   have ap:D_ w wr:=b_ HV.b I.O.2;have au:j<t.h_.length:=by rw[<-am (f:=fun x:It×Nd=>x.1.h),nodes_h,HN.O];exact hlt
   have a3:FE wr (w1.1.size+3) (.slice A0 n c0) t.hs:=HV.a.at fun g e=>I.O.2.block g (HV.a.ge g e).2;obtain⟨b,c,e,hb,hc⟩:=a3.cell_at (j:=j) (by rw[HN.O];exact hlt)
   injection e with e1 e2 e3
   subst e1;obtain⟨x,hx⟩:=Ii t.h_[j];have a4:t.hs[j]'(by rw[HN.O];exact hlt)=x.1.h:=by
    rw[<-hx];have:t.hs=t.h_.map (·.1.h):=(nodes_h t).S;simp only[this,bG]
   rw[a4] at hc;obtain⟨l',m',r',x1,x2,_⟩:=nodes_at HR.e x (by rw[<-hx];exact aq _);have a5:i_ S x.1.h=some (eM x.2):=by rw[x1];exact x2.1
   have a2:=J6 (HR.a.a_ ap) HR.b a5;have ar:wl (t.h_.take (j+1))=wl (t.h_.take j)++[x.1.h,x.2.key,x.2.val]:=by
    rw[aw au,hx];unfold wl
    simp
   have a0:(wl (t.h_.take j)).length<=10000:=by rw[No,aM];omega
   have HM:=kq5 a2 ar a0 I.O.1 I.O.2;clear a2 ar a0 ap a3 hb e2 e3 I hx a4 a5 x1 x2 au;generalize x.1.h=xh at*;generalize bc:x.2=xn at*;obtain⟨n1,n2,n3,n4,n5,n6⟩:=xn;unfold eS at HM;simp only at HM;go_wp2_with fail;refine b8 HM.a fun w3 hb3=>?_;have q3:(w3.alloc (Xb n1 n2 n3 n4 n5 n6)).1[w3.1.size]?=some (Xb n1 n2 n3 n4 n5 n6):=World.alloc_heap_new _ _;have B4:D_ w2 (w3.alloc (Xb n1 n2 n3 n4 n5 n6)):=(b_ HM.e hb3).alloc (aG HM.e.size hb3.size) _;have O4:FE (w3.alloc (Xb n1 n2 n3 n4 n5 n6)) w2.1.size u7 (wl (t.h_.take j)):=(HM.d.at fun g e=>hb3.block g (HM.d.ge g e).2).alloc _;generalize a9:w3.alloc (Xb n1 n2 n3 n4 n5 n6)=W4 at*;obtain⟨k0,k1,k2,k3,k4,k5⟩:=ia q3;obtain⟨v2,w5,a7,a1,ad,a8⟩:=L9 O4 HM.c xh n1 n2 B4.size 59;have HE:Hid (FE w5 w2.1.size v2 (wl (t.h_.take (j+1)))/\D_ w2 w5):=⟨by rw[HM.b];exact a1,B4.T ⟨ad.os,ad.tape,ad.output,ad.size,fun k hk=>ad.block k (aE hk B4.size) fun e=>by
    have:=(O4.ge k e.S).1;omega⟩⟩
   clear a1 ad a8 q3 B4 O4 hb3;exact qDhab
  ·obtain rfl:j=n:=o_
   have a6:¬(j:Int)<j:=o_
   go_wp2_with fail;go_ret;have hs:=HV.b.size;refine⟨_,rfl,?_,HV.b.T (I.O.2.M hs)⟩;have e:t.h_.take j=t.h_:=by
    rw[aN];rw[<-am (f:=fun x:It×Nd=>x.1.h),nodes_h,HN.O];exact Nat.le_refl _
   rw[e] at I;exact FE.base2 I.O.1 hs
theorem Nq{pm px ps lim t:Nat}(h:Ig w ps S Y)(hf:Fw S o)(hM:Ic w pm px ps lim)(hT:jE w px ps t 0)(t1:2<=t)(t2:t<=16):
 Ct 36 #[PV pm] w fun e w'=>∃v,e=.returned v/\FE w' w.1.size v []/\D_ w w':=by
 have an:∀W,D_ w W->Ct 40 #[PV ps,Xi t,Xu 0] W fun e w'=>∃v,e=.returned v/\FE w' W.1.size v []/\D_ W w':=fun W hW=>by
  refine(KD (f9:=0) (L:=[]) (R:=[]) (h.a_ hW) (ab ⟨⟨hf,t1,t2⟩,rfl,rfl,rfl⟩)).M ?_;rintro e w' ⟨v,N,rfl,h1,h2,_,h3⟩
  rcases h3 with⟨_,_,_,_,rfl⟩ | ⟨d,x,hx,h0,_⟩
  ·exact⟨v,rfl,h1,h2⟩
  ·exact absurd h0.S (Bt.At.hd_ok hx.fit hx.at').1
 have ai:=fun W (hW:D_ w W)=>zV (h.a_ hW) hf t1 t2;have HR:=kq4 hM hT an ai;clear h hf hM hT an ai t1 t2;unfold jE at HR;have ap:¬(0:Int)<0:=o_
 go_enter func36,ntmps36;go_wp2_with fail;refine Jc (IQ HR.a) ?_;go_wp2_with fail;refine Jc (Gh HR.a) ?_;go_wp2_with fail;refine Jc (KU HR.b) ?_;go_wp2_with fail;refine Jc (Gh HR.a) ?_;go_wp2_with fail;refine b8 (KR HR.b) fun w1 hb1=>?_;have H1:=If hb1;clear hb1;go_wp2_with fail;refine(HR.c _ H1.O).M ?_;rintro e w2 ⟨v,rfl,hv,ad⟩;have H2:=kq3 hv (b_ H1.O ad) H1.O.size;clear hv ad;go_wp2_with fail;refine b8 (HR.d _ H2.b) fun w3 hb3=>?_;have H3:=kq2 (FE.base2 (H2.a.at fun g e=>hb3.block g (H2.a.ge g e).2) H2.c) (b_ H2.b hb3);clear hb3;go_wp2_with fail
 go_loopw [7,9,38] (fun s7 _ s38 wq=>s7=v/\s38=Xi 0/\wq=w3) (fun _ _ _ _=>0)
 case atStart=>exact⟨rfl,rfl,rfl⟩
 obtain⟨rfl,rfl,hw⟩:=hrel;have hw:=hw.S;subst hw;go_wp2_with fail;go_ret;exact⟨_,rfl,H3.a,H3.b⟩
theorem Nz{ps:Nat}(h:Ig w ps S Y)(n:Int)(hn:n<0\/3998<n):
 Cb 31 #[PV ps,Xi n] w (.tuple #[Xu 0,Xi 2]):=by
 have hb:=((aa _ w).alloc Ih (Xg ps)).alloc s_ (.cells #[Xi 0] 27);have ad:=sI (h.a_ hb);have HG:=kq2 ad hb;clear ad hb h
 by_cases h0:n<0
 ·go_enter_defers func31,ntmps31
  go_wp2_with fail;refine Jc HG.a ?_;go_wp2_with fail;refine⟨.tuple #[Xu 0,Xi 2],?_,rfl,((aa _ w).alloc Ih _).alloc s_ _⟩
  simp[results,f31,go_sem]
 ·have ai:(3998:Int)<n:=o_
  go_enter_defers func31,ntmps31
  go_wp2_with fail;refine Jc HG.a ?_;go_wp2_with fail;refine⟨.tuple #[Xu 0,Xi 2],?_,rfl,((aa _ w).alloc Ih _).alloc s_ _⟩
  simp[results,f31,go_sem]
theorem Np{pm px ps lim t d:Nat}{x:Bt (d+1)}(h:Ig w ps S Y)(hT:Bt.Tree S o t x)(hM:Ic w pm px ps lim)(hP:jE w px ps t (Bt.hd x))(hl:(Bt.its x).length<=1000):
 Ct 36 #[PV pm] w fun e w'=>∃v,e=.returned v/\FE w' w.1.size v (Bt.h_ x++ff (Bt.its x))/\D_ w w':=by
 have hx:=hT.walk;have hd:d<40:=Nat.lt_trans hT.low d_;have au:=fun(W:World) (hW:D_ w W)=>KD (h.a_ hW) (ae ⟨d,x,hT,rfl,rfl,rfl⟩);have ar:=fun(W:World) (hW:D_ w W)=>KC hx (h.a_ hW) hd (Nat.le_succ_of_le hT.many) o_;have a':0<(Bt.its x).length:=by
  have h1:=Bt.pow_le t hx.t1 hx.ok hT.pos;have h2:=Nat.two_pow_pos d;rw[Nat.pow_succ] at h1;omega
 obtain⟨r,hr⟩:=Ii (Bt.hd x);rw[hr] at au ar hP;obtain⟨n,hn⟩:=Ii (Bt.its x).length;have HE:=kq3 hn a' hl;have HR:=kq4 hM hP au ar;clear h hT hM hP au ar hx hd a' hn hl hr;unfold jE at HR;go_enter func36,ntmps36;go_wp2_with fail;refine Jc (IQ HR.a) ?_;go_wp2_with fail;refine Jc (Gh HR.a) ?_;go_wp2_with fail;refine Jc (KU HR.b) ?_;go_wp2_with fail;refine Jc (Gh HR.a) ?_;go_wp2_with fail;refine b8 (KR HR.b) fun w1 hb1=>?_;have H1:=If hb1;clear hb1;go_wp2_with fail;refine(HR.c _ H1.O).M ?_;rintro e w2 ⟨v,N,rfl,hv,a3,a1,a2⟩;obtain rfl:=Bt.NodesOf.of a2;obtain⟨nn,a8⟩:=Ii (Bt.h_ x).length;have H2:=kq5 hv (b_ H1.O a3) H1.O.size a1 a8;clear hv a3 a1 a2 a8;go_wp2_with fail;refine(HR.d _ H2.b).M ?_;rintro e w3 ⟨v3,rfl,ai,ap⟩;obtain⟨b,c,rfl,-,-,-⟩:=ai.cell_at HE.b;have a5:∀(j:Nat) (hj:j<(Bt.its x).length),w3.cell? ⟨b,j*2,none⟩=some (Xu (Bt.its x)[j].kh)/\w3.cell? ⟨b,j*2+1,none⟩=some (Xu (Bt.its x)[j].vh):=fun j hj=>by
  obtain⟨b',c',e,_,h1,h2⟩:=ai.cell_at hj;exact qDhad
 have a4:w2.1.size<=b/\b<w3.1.size:=World.ownsRow.lt ai b rfl;have K0:JJ w w3 b (Bt.h_ x) (Bt.its x) v 0 w3:=by
  have hB:=b_ H2.b ap;refine⟨hB,?_,rfl,fun e=>?_,a4.2⟩
  ·rw[bZ]
   show FE w3 w.1.size _ (Bt.h_ x++[])
   rw[bw];exact FE.base2 (H2.a.at fun g e=>ap.block g (H2.a.ge g e).2) H2.c
  ·have:=(H2.a.ge b e).2;omega
 have HK:=kq2 K0 a5;clear K0 a5 ai ap a4;have bf:n<=1000:=by rw[<-HE.a];exact HE.c
 rw[HE.a];go_wp2_with fail
 go_loopw [7,9,38] (fun s7 _ s38 wr=>∃j:Nat,j<=n/\s38=Xi j/\Hid (JJ w w3 b (Bt.h_ x) (Bt.its x) s7 j wr)) (fun _ _ s38 _=>n-(intOf s38).toNat)
 case atStart=>exact⟨0,o_,rfl,HK.a⟩
 case round=>
  obtain⟨j,hj,rfl,I1⟩:=hrel
  by_cases hlt:j<n
  ·have bc:(j:Int)<n:=o_
   have a6:j<(Bt.its x).length:=by have:=HE.a;omega
   have hc:=HK.b j a6;have o1:=(xA (o:=j*2) I1.O.it).T hc.1;have o2:=(xA (o:=j*2+1) I1.O.it).T hc.2;obtain⟨a,an⟩:=Ii ((Bt.its x)[j]);rw[an] at o1 o2;have HA:=If an;have A1:=c_ wr (Xe a.kh a.vh);have p1:=heap_alloc_new wr (Xe a.kh a.vh);obtain⟨W1,bb⟩:=Ii (wr.alloc (Xe a.kh a.vh));rw[bb] at A1 p1;have I9:=I1.O.a_ A1;have a0:=I9.bel.size;have a7:(Bt.h_ x++ff ((Bt.its x).take j)).length<=90000:=by
    have h1:=H2.d;have h2:=HE.c;rw[ag,Kd,aM];omega
   obtain⟨v2,w9,bd,a9,ad,ba⟩:=Kz I9.own a7 a.kh a.vh a0 59;have K9:Hid (JJ w w3 b (Bt.h_ x) (Bt.its x) v2 (j+1) w9):=by
    refine⟨I9.bel.grown ad a0 fun k e=>(FE.ge I9.own k e).1,?_,(ad.block b I9.lt fun e=>I9.ne e.S).T I9.it,fun e=>?_,aE I9.lt ad.size⟩
    ·rw[Le a6,HA.O,<-aY];exact a9
    ·rcases ba with q | ⟨g,q,hq⟩
     ·exact I9.ne (q▸e)
     ·rw[q] at e
      injection e with e
      have:=I9.lt;omega
   clear I9 a0 a7 a9 ad ba hc an A1;obtain⟨f0,f1⟩:=Fp p1;clear p1
   go_wp2_with (at_builtin;refine Lib.wpList_append_run _ rfl _ _ _ _ rfl _ _ rfl rfl _ _ bd ?_)
   go_roundw
   case rel=>exact⟨j+1,o_,s_,K9⟩
   case measure=>simp[intOf];omega
  ·obtain rfl:j=n:=o_
   have bc:¬(j:Int)<j:=o_
   go_wp2_with fail;go_ret;have ho:=I1.O.own;rw[show (Bt.its x).take j=Bt.its x by rw[<-HE.a,ct]] at ho;exact⟨_,rfl,ho,I1.O.bel⟩
def gI(L:List (List UInt8×List UInt8))(a:List UInt8):Int:=if(Bt.getL L a).isSome=true then(eK L a:Int) else(eK L a:Int)-1
structure fi (K:jo) (w W:World) (ps pm px A6 f9:Nat) (S:St) (Y:Nat->Prop) (L:List (List UInt8×List UInt8)):Prop where
 st:Ig W ps S Y
 hold:∃o R,K.Hold S o f9 L R
 on:K.On W px ps f9
 map:Ic W pm px ps A6
 bl:D_ w W
 own:∀k,k<w.1.size->Y k
 yx:Y px
 ym:Y pm
 lx:w.1.size<=px
 lm:w.1.size<=pm
 ne:pm≠px
section
variable {P:List (List UInt8×List UInt8)->Prop}{K:jo}{w W:World}{ps pm px A6 f9:Nat}{S:St}{Y:Nat->Prop}{L:List (List UInt8×List UInt8)}
theorem fi.a_(ok:gB K P)(h:fi K w W ps pm px A6 f9 S Y L){W':World}(hb:D_ W W'):fi K w W' ps pm px A6 f9 S Y L:=
 ⟨h.st.a_ hb,h.hold,ok.onBelow h.on hb,h.map.a_ hb,b_ h.bl hb,h.own,h.yx,h.ym,h.lx,h.lm,h.ne⟩
theorem fi.len(ok:gB K P)(h:fi K w W ps pm px A6 f9 S Y L)(hc:L.length<98):
 Cb 39 #[PV pm] W (Xi (L.length:Nat)):=by
 obtain⟨o,R,hH⟩:=h.hold;exact CQ h.map (ok.len h.st hH hc h.on)
theorem fi.rank(ok:gB K P)(h:fi K w W ps pm px A6 f9 S Y L)(hc:L.length<98)(a:List UInt8):
 Cb 99 #[PV pm,SV a] W (Xi (eK L a:Nat)):=by
 obtain⟨o,R,hH⟩:=h.hold;exact CU h.map a (ok.rank h.st hH hc h.on a)
theorem fi.place(ok:gB K P)(h:fi K w W ps pm px A6 f9 S Y L)(hc:L.length<98)(a:List UInt8):
 ∀V,D_ W V->Cb 98 #[PV pm,SV a] V (Xi (gI L a)):=fun V hV=>by
 obtain⟨o,R,hH⟩:=h.hold;have h':=h.a_ ok hV;exact CL h'.map a (n:=eK L a) (by have:=nZ L a;omega) (Bt.getL L a).isSome ((Bt.getL L a).getD []) (ok.rank h'.st hH hc h'.on a) fun U hU=>ok.get (h'.a_ ok hU).st hH hc (h'.a_ ok hU).on a
theorem fi.put {p q:Nat}(ok:gB K P)(h:fi K w W ps pm px A6 f9 S Y L)(hs:fc S (20+p) (9+q))(a b:List UInt8)(ha:a.length<=A6)(hb:b.length<=A6)(hl:A6<=1000)(hc:L.length<98)(hP:P L):
 Ct 24 #[PV pm,SV a,SV b] W fun e w'=>e=.returned (.tuple #[SV ((Bt.getL L a).getD []),.bool (Bt.getL L a).isSome,Xi 0])/\∃(x:Nat) (S3:St),fi K w w' ps pm px A6 x S3 Y (gV L a b)/\fc S3 p q:=by
 obtain⟨o,R,hH⟩:=h.hold;refine CS h.map a b _ _ ha hb ((ok.put h.st hH hc h.on h.yx hP a b o_ o_ (hs.M o_ o_)).M ?_);rintro e w' ⟨x,S3,rfl,h1,h2,h3,h4⟩;obtain⟨o3,R3,h5,_⟩:=h4.holds;exact⟨rfl,x,S3,⟨h1,⟨o3,R3,h5⟩,h3,(h2.block pm ⟨h.ym,h.ne⟩).T h.map,h.bl.T (Fo.a_ (h2.M fun k hk=>⟨h.own k hk,fun q=>by have:=h.lx;omega⟩)),h.own,h.yx,h.ym,h.lx,h.lm,h.ne⟩,fc.grew hs h4.grew⟩
end
theorem fi.wide {P:List (List UInt8×List UInt8)->Prop}{K:jo}(ok:gB K P){w W W':World}{ps pm px A6 f9:Nat}{S:St}{Y:Nat->Prop}{L:List (List UInt8×List UInt8)}(h:fi K w W ps pm px A6 f9 S Y L)(hb:D_ W W'):
 fi K w W' ps pm px A6 f9 S (fun k=>Y k\/(W.1.size<=k/\k<W'.1.size)) L:=
 ⟨h.st.wide hb,h.hold,ok.onBelow h.on hb,h.map.a_ hb,b_ h.bl hb,fun k hk=>ab (h.own k hk),ab h.yx,ab h.ym,h.lx,h.lm,h.ne⟩
def im(l:List (List UInt8×List UInt8)):List (List UInt8×List UInt8):=l.foldl (fun L p=>gV L p.1 p.2) []
theorem DF(l:List (List UInt8×List UInt8))(p:List UInt8×List UInt8):im (l++[p])=gV (im l) p.1 p.2:=by
 unfold im;rw[List.foldl_append];rfl
theorem xQ(p q:List UInt8×List UInt8->Bool)(h:∀x,¬(p x=true/\q x=true)):∀L:List (List UInt8×List UInt8),(L.filter p).length+(L.filter q).length<=L.length
 | []=>Nat.le_refl _
 | x::L=>by
  have ih:=xQ p q h L;have hx:=h x;rw[List.filter_cons,List.filter_cons,aj];split<;>split<;>(try simp only[aj])<;>first | omega | (exfalso;exact hx ⟨by assumption,by assumption⟩)
theorem DG(L:List (List UInt8×List UInt8))(a b:List UInt8):(gV L a b).length<=L.length+1:=by
 unfold gV;rw[ag,aj];have:=xQ (fun p=>decide (Fu p.1 a<0)) (fun p=>decide (0<Fu p.1 a)) (fun x ⟨h1,h2⟩=>by simp at h1 h2;omega) L;omega
theorem wo:∀(l L:List (List UInt8×List UInt8)),(l.foldl (fun L p=>gV L p.1 p.2) L).length<=L.length+l.length
 | [],_=>Nat.le_refl _
 | p::l,L=>by
  have h1:=wo l (gV L p.1 p.2);have h2:=DG L p.1 p.2;rw[List.foldl_cons,aj];omega
theorem wt(l:List (List UInt8×List UInt8)):(im l).length<=l.length:=by
 have h:=wo l [];rwa[aK,bC] at h
theorem xB {α:Type}{l:List α}{i:Nat}(h:i<l.length):l.take (i+1)=l.take i++[l[i]]:=by
 rw[List.take_add_one,af h];rfl
def FO(l_ t:Int):Bool:=decide (l_=1\/l_=2\/l_=3/\2<=t/\t<=16)
theorem qDhaa{P:Prop}(h:P:=by
 go_enter func9,ntmps9;go_wp2_with fail;go_ret;exact⟨rfl,rfl⟩):P:=h
theorem Gd(l_ t:Int)(w:World):
 Ct 9 #[Xi l_,Xi t] w fun e w'=>e=.returned (.bool (FO l_ t))/\w=w':=by
 by_cases h1:l_=1
 ·rw[show FO l_ t=true from decide_eq_true (ab h1)];subst h1;exact qDhaa
 by_cases h2:l_=2
 ·rw[show FO l_ t=true from decide_eq_true (ae (ab h2))];subst h2;exact qDhaa
 by_cases h3:l_=3
 ·subst h3
  by_cases h4:2<=t
  ·by_cases h5:t<=16
   ·rw[show FO 3 t=true from decide_eq_true (ae (ae ⟨rfl,h4,h5⟩))];exact qDhaa
   ·rw[show FO 3 t=false from decide_eq_false o_];exact qDhaa
  ·rw[show FO 3 t=false from decide_eq_false o_];exact qDhaa
 ·rw[show FO l_ t=false from decide_eq_false o_];have e1:(l_==1)=false:=by simpa using h1
  have e2:(l_==2)=false:=by simpa using h2
  have e3:(l_==3)=false:=by simpa using h3
  exact qDhaa
def pK(l:List (List UInt8×List UInt8)):Prop:=∀p∈l,p.1.length<=1000/\p.2.length<=1000
theorem LR {l_ t:Int}{w:World}{ps:Nat}{v:Value}{l:List (List UInt8×List UInt8)}(hv:PRow w v l)(hn:l.length<=60)(M:Nat->Nat->World->Prop)
 (hnew:Ct 52 #[PV ps,Xi l_,Xi t,Xi 1000] w fun e w'=>∃pm,e=.returned (.tuple #[PV pm,Xi 0])/\M pm 0 w')
 (hbl:∀pm i W,M pm i W->PRow W v l) (hdr:∀pm i W,M pm i W->M pm i W.drew)
 (hput:∀pm i W (hi:i<l.length),M pm i W->Ct 24 #[PV pm,SV l[i].1,SV l[i].2] W fun e w'=>∃(r:List UInt8) (b:Bool) (g:Nat),e=.returned (.tuple #[SV r,.bool b,Xi g])/\M pm (i+1) w'):
 Ct 30 #[PV ps,Xi l_,Xi t,v] w fun e w'=>∃pm,e=.returned (PV pm)/\M pm l.length w':=by
 obtain⟨A,c,rfl,hc⟩:=hv;have HG:=kq5 hnew hbl hdr hput hc;obtain⟨n,au⟩:=Ii l.length;have HN:=If au;rw[au] at hn⊢;clear hnew hbl hdr hput hc au;go_enter func30,ntmps30;go_wp2_with fail;refine HG.a.M ?_;rintro e w1 ⟨pm,rfl,hm⟩;have H1:=If hm;clear hm;go_wp2_with fail;go_loopw [11] (fun s11 wr=>∃i:Nat,s11=Xi i/\i<=n/\Hid (M pm i wr)) (fun s11 _=>n-(intOf s11).toNat)
 case atStart=>exact⟨0,rfl,o_,H1.O⟩
 case round=>
  obtain⟨i,rfl,a4,I0⟩:=hrel;by_cases hi:i<n
  ·have hlt:(i:Int)<n:=o_
   have ar:i<l.length:=by rw[HN.O];exact hi
   have hM:=I0.O;obtain⟨A',c',e',ai⟩:=HG.b _ _ _ hM;injection e' with e1 e2 e3
   subst e1;obtain⟨g,o,rfl,d0,d1⟩:=ai i ar;clear ai e2 e3;have hp:=HG.d pm i wr.drew ar (HG.c _ _ _ hM);obtain⟨⟨a,b⟩,a1⟩:∃pk,l[i]=pk:=⟨_,rfl⟩;rw[a1] at hp d0 d1;obtain⟨I,an,ap⟩:=lB (fun w'=>w'.cell? ⟨g,o+i*2,none⟩=some (SV a)) (fun w'=>w'.cell? ⟨g,o+i*2+1,none⟩=some (SV b));have o0:=fun x:Fq I=>(an _ x.ok).1;have o1:=fun x:Fq I=>(an _ x.ok).2;have a2:I wr.drew:=ap _ d0 d1;have a0:∀W,M pm (i+1) W->W.cell? ⟨g,o+i*2,none⟩=some (SV a)/\W.cell? ⟨g,o+i*2+1,none⟩=some (SV b):=fun W h=>by
    obtain⟨A',c',e',ai⟩:=HG.b _ _ _ h;injection e' with e1 e2 e3
    obtain⟨g2,o2,e4,k0,k1⟩:=ai i ar;rw[<-e1] at e4;injection e4 with e4
    injection e4 with e5 e6
    subst e5 e6;rw[a1] at k0 k1;exact⟨k0,k1⟩
   have HP:=kq3 hp ap a0;clear an ap hM d0 d1 hp a0;go_wp2_with fail;refine fh I (.take 0 (.take 1 (.take 2 (.take 3 (.take 4 (.take 5 (.take 6 (.take 7 (.take 8 (.take 9 (.take 10 (.go 11 .nil)))))))))))) k_ k_ a2 ?_;iterate 11
    refine' pT ?_ ?_;rotate_left
    ·intro x;go_simp;try rfl
    try simp only[pu]
   refine pD fun K hK=>?_;go_simp;refine HP.a.M ?_;rintro e w3 ⟨r,q,g2,rfl,ad⟩;have a3:I w3:=HP.b _ (HP.c _ ad).1 (HP.c _ ad).2;have H3:=If ad;clear ad;try go_simp
   refine hK.O _ _ a3 ?_;clear hK K;try simp only[pu]
   refine eP ?_;go_wp2_with fail;go_roundw
   case rel=>exact⟨i+1,s_,o_,H3.O⟩
   case measure=>simp[intOf];omega
  ·obtain rfl:i=n:=o_
   have hlt:¬(i:Int)<i:=o_
   go_wp2_with fail;go_ret;exact⟨pm,rfl,I0.O⟩
