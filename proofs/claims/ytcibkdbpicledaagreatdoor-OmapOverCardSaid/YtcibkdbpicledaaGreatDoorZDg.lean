/- B-trees of any height, as rows of pairs: what a put makes of one: plain. -/
import Derived.Test.YtcibkdbpicledaaGreatDoorZBz
import Derived.Test.YtcibkdbpicledaaGreatDoorZFi
import Derived.Test.YtcibkdbpicledaaGreatDoorZFl
import Derived.Test.YtcibkdbpicledaaGreatDoorZFn
set_option maxRecDepth 100000
set_option maxHeartbeats 800000
namespace Go.Proofs.YtcibkdbpicledaaGreatDoor
section
open Lf Tr
namespace Bt
variable{R:List Nat}{S:St}{o:Nat->Nat}
theorem two_fit(hf:Fw S o){a b:List UInt8}(ha:a.length<=1000)(hb:b.length<=1000)(hr:fc S 6 2):
 ∃ka vb S2 o2,itemsM S a b=some ((ka,vb),S2)/\nJ S a b/\Fw S2 o2/\reco S ka=none/\reco S vb=none/\ka≠vb/\reco S2 ka=some (FK a)/\reco S2 vb=some (FK b)/\(∀h',h'≠ka->h'≠vb->reco S2 h'=reco S h')/\ej S S2 6 2:=by
 obtain⟨ka,S1,o1,e1,f1,n1,l1,q1,g1,k1⟩:=oL hf ha (hr.mono (by omega) (by omega));obtain⟨vb,S2,o2,e2,f2,n2,l2,q2,g2,k2⟩:=oL f1 hb (fc.grew (hr.mono (p':=3+3) (q':=1+1) (by omega) (by omega)) g1);have ad:ka≠vb:=by rintro rfl;rw[l1] at n2;cases n2
 have ai:itemsM S a b=some ((ka,vb),S2):=by
  unfold itemsM;rw[e1];simp only;rw[e2]
  simp
 exact⟨ka,vb,S2,o2,ai,⟨ha,hb,k1,by rw[e1];exact k2⟩,f2,n1,(q1 _ ad.symm).symm.trans n2,ad,(q2 _ ad).trans l1,l2,fun h' w1 w2=>(q2 h' w2).trans (q1 h' w1),(g1.trans g2).mono (by omega) (by omega)⟩
def getL(L:List (List UInt8×List UInt8))(a:List UInt8):Option (List UInt8):=(L.find? fun p=>p.1==a).map (·.2)
theorem getL_pairs(l:List It)(a:List UInt8):getL (ep l) a=(findB a l).map (·.v):=by
 unfold getL ep findB;rw[List.find?_map,Option.map_map];rfl
theorem xu{l:List It}(hs:l.Pairwise eU){e e0:It}(hf:findB e.k l=some e0):
 ∃A B,l=A++e0::B/\l.map (eD e)=A++e::B/\e0.k=e.k/\(∀x∈A,Fu x.k e.k<0)/\∀x∈B,Fu e.k x.k<0:=by
 unfold findB at hf;have hm:=bP hf;have hk:e0.k=e.k:=by simpa using cG hf
 obtain⟨A,B,rfl⟩:=List.append_of_mem hm;obtain⟨p1,p2,p3⟩:=bC.1 hs;obtain⟨p4,p5⟩:=aQ.1 p2;have hA:∀x∈A,Fu x.k e.k<0:=fun x hx=>by
  have:=p3 x hx e0 (av ..);unfold eU at this;rwa[hk] at this
 have hB:∀x∈B,Fu e.k x.k<0:=fun x hx=>by
  have:=p4 x hx;unfold eU at this;rwa[hk] at this
 have e1:A.map (eD e)=A:=(aR fun x hx=>(mg (ne_of_lt (hA x hx)):eD e x=id x)).trans (dO _);have e2:B.map (eD e)=B:=(aR fun x hx=>(mg (fun q=>by have:=hB x hx;rw[q,fX] at this;omega):eD e x=id x)).trans (dO _);refine⟨A,B,rfl,?_,hk,hA,hB⟩;rw[aL,aM,e1,e2]
 congr 2
 exact if_pos hk
theorem pairs_ins{e:It}{l:List It}(hs:l.Pairwise eU)(hn:∀d∈l,d.k≠e.k):ep (insB e l)=gV (ep l) e.k e.v:=by
 obtain⟨b1,b2,b3⟩:=lL (key:=e.k) hs;have ad:∀d∈l.drop (Fr e.k l),Fu e.k d.k<0:=fun d hd=>by
  have h1:=b2 d hd;have h2:=hn d (bB hd);rw[ie]
  rcases cV (Fu d.k e.k) 0 with g | g | g
  ·exact absurd g h1
  ·exact absurd (jL g) h2
  ·omega
 have h:=oO (a:=e.k) (b:=e.v) (d:=e) (tl:=l.take (Fr e.k l)) (tr:=l.drop (Fr e.k l)) (mid:=[]) ⟨rfl,rfl⟩ (fun x hx=>by cases hx) b1 ad;rw[bZ,aX] at h;exact h
theorem Dq{e e0:It}{l:List It}(hs:l.Pairwise eU)(hf:findB e.k l=some e0):ep (l.map (eD e))=gV (ep l) e.k e.v:=by
 obtain⟨A,B,h1,h2,h3,h4,h5⟩:=xu hs hf;rw[h2,h1];have h:=oO (a:=e.k) (b:=e.v) (d:=e) (tl:=A) (tr:=B) (mid:=[e0]) ⟨rfl,rfl⟩ (fun x hx=>by rw[aT.1 hx];exact h3) h4 h5;rw[h]
 congr 2
 simp
theorem qDgac{P:Prop}(h:P:=by
 exact(h.blobs a hx).frame (hS _ (ai _ (gh.2 ⟨a,hx,ab rfl⟩))) (hS _ (ai _ (gh.2 ⟨a,hx,ae rfl⟩)))):P:=h
theorem Tree.swap{t d:Nat}{x:Bt (d+1)}(h:Tree S o t x){e e0:It}(hb:gu S e)(ne:e.kh≠e.vh)(off:e.kh∉recs x/\e.vh∉recs x){g:Nat}{n:BN}{k:Nat}(r:RepAt S o t x e e0 g n k){S1:St}(hS1:S1=FC S g 0 (bnWords t (setN n k e))):
 Fw S1 o/\fz S1 e0.vh=(e0.v,0)/\e0.kh<2^64/\e0.vh<2^64/\Fv (S1.drop e0.kh).2/\∃S3,S3=((S1.drop e0.kh).2.drop e0.vh).2/\Tree S3 o t (eA (eD e) x)/\ep (its (eA (eD e) x))=gV (ep (its x)) e.k e.v/\ej S S3 0 0/\(∀y,y∉recs x->reco S3 y=reco S y)/\∀y∈recs (eA (eD e) x),y∈recs x\/y=e.kh\/y=e.vh:=by
 obtain⟨A,B,h1,h2,h3,h4,h5⟩:=xu h.sorted r.find;have au:e0∈its x:=by rw[h1];simp
 have al:=h.blobs e0 au;have k0:e0.kh∈ff (its x):=gh.2 ⟨e0,au,ab rfl⟩;have v0:e0.vh∈ff (its x):=gh.2 ⟨e0,au,ae rfl⟩;have ai:∀y∈ff (its x),y≠g:=fun y hy q=>h.apart g r.mem (q▸hy);have a2:e.kh≠g/\e.vh≠g:=⟨fun q=>off.1 (q▸az _ r.mem),fun q=>off.2 (q▸az _ r.mem)⟩;have a0:=h.texts;rw[h1,nO] at a0;have ec:∀(z:It) (l:List It),ff (z::l)=z.kh::z.vh::ff l:=fun _ _=>rfl;rw[ec] at a0;obtain⟨t1,t2,t3⟩:=aw.1 a0;obtain⟨t4,t5⟩:=aF.1 t2;obtain⟨t6,t7⟩:=aF.1 t5;have oe:∀y,y=e.kh\/y=e.vh->y∉ff (its x)/\y∉Bt.nodes x:=fun y hy=>by
  rcases hy with rfl | rfl
  ·exact⟨fun q=>off.1 (ax _ q),fun q=>off.1 (az _ q)⟩
  ·exact⟨fun q=>off.2 (ax _ q),fun q=>off.2 (az _ q)⟩
 have ad:∀y,y∈ff A\/y∈ff B->y∈ff (its x):=fun y hy=>by
  rw[h1,nO,ec]
  rcases hy with hy | hy
  ·exact az _ hy
  ·exact ax _ (ah _ (ah _ hy))
 have ar:its (eA (eD e) x)=A++e::B:=by rw[ln,h2]
 have ao:∀y,y∈ff (its (eA (eD e) x))↔y∈ff A\/y=e.kh\/y=e.vh\/y∈ff B:=fun y=>by
  rw[ar,nO,ec,am,ag,ag]
 have an:Tree S1 o t (eA (eD e) x):=by
  subst hS1;refine⟨r.fit,h.t1,h.t2,r.at',vF _ h.ok,?_,?_,?_,by rw[lW];exact h.nodes,?_,?_,by rw[vE];exact h.pos⟩
  ·rw[ln];refine List.pairwise_map.2 (h.sorted.imp fun {a b} q=>?_);unfold eU at q⊢;rw[wI,wI];exact q
  ·intro a ha;have hS:∀y,y≠g->reco (FC S g 0 (bnWords t (setN n k e))) y=reco S y:=r.fr;rw[ar] at ha
   rcases am.1 ha with ha | ha
   ·have hx:a∈its x:=by rw[h1];exact az _ ha
    exact qDgac
   ·rcases ag.1 ha with rfl | ha
    ·exact hb.frame (hS _ a2.1) (hS _ a2.2)
    ·have hx:a∈its x:=by rw[h1];exact ax _ (ah _ ha)
     exact qDgac
  ·rw[ln,aq];exact h.few
  ·rw[ar,nO,ec];refine aw.2 ⟨t1,aF.2 ⟨fun q=>?_,aF.2 ⟨fun q=>(oe _ (ae rfl)).1 (ad _ (ae q)),t7⟩⟩,fun y hy z hz=>?_⟩
   ·rcases ag.1 q with q | q
    ·exact ne q
    ·exact(oe _ (ab rfl)).1 (ad _ (ae q))
   ·rintro rfl
    rcases ag.1 hz with q | hz
    ·exact(oe y (ab q)).1 (ad _ (ab hy))
    ·rcases ag.1 hz with q | hz
     ·exact(oe y (ae q)).1 (ad _ (ab hy))
     ·exact t3 y hy y (ah _ (ah _ hz)) rfl
  ·intro y hy hb1;rw[lW] at hy
   rcases(ao y).1 hb1 with q | q | q | q
   ·exact h.apart y hy (ad _ (ab q))
   ·exact(oe y (ab q)).2 hy
   ·exact(oe y (ae q)).2 hy
   ·exact h.apart y hy (ad _ (ae q))
 have ap:∀y,y≠g->reco S1 y=reco S y:=by rw[hS1];exact r.fr
 have a5:ej S S1 0 0:=by rw[hS1];exact r.grew
 have kk:reco S1 e0.kh=some (FK e0.k):=(ap _ (ai _ k0)).trans al.k;have vv:reco S1 e0.vh=some (FK e0.v):=(ap _ (ai _ v0)).trans al.v;have a6:e0.kh≠e0.vh:=fun q=>t4 (by rw[q];exact av ..);obtain⟨S2,e2,f2,m2,o2,g2⟩:=mQ an.fit kk;obtain⟨S3,e3,f3,m3,o3,g3⟩:=mQ f2 ((o2 _ a6.symm).trans vv);have a3:e0.kh∉recs (eA (eD e) x)/\e0.vh∉recs (eA (eD e) x):=by
  have a4:∀y,y=e0.kh\/y=e0.vh->y∉ff A/\y∉ff B:=fun y hy=>by
   rcases hy with rfl | rfl
   ·exact⟨fun q=>t3 _ q _ (av ..) rfl,fun q=>t4 (ah _ q)⟩
   ·exact⟨fun q=>t3 _ q _ (ah _ (av ..)) rfl,t6⟩
  have a1:∀y,y=e0.kh\/y=e0.vh->y∈ff (its x)->y∉recs (eA (eD e) x):=fun y hy hyx q=>by
   unfold recs at q
   rcases am.1 q with q | q
   ·rw[lW] at q;exact h.apart y q hyx
   ·rcases(ao y).1 q with q | q | q | q
    ·exact(a4 y hy).1 q
    ·exact(oe y (ab q)).1 hyx
    ·exact(oe y (ae q)).1 hyx
    ·exact(a4 y hy).2 q
  exact⟨a1 _ (ab rfl) k0,a1 _ (ae rfl) v0⟩
 refine⟨an.fit,jt an.fit al.lv vv,(blobs_lt h.fit al).1,(blobs_lt h.fit al).2,by rw[e2];exact f2.inv,S3,by rw[e2,e3],an.frame f3 (fun y hy=>(o3 y fun q=>a3.2 (q▸hy)).trans (o2 y fun q=>a3.1 (q▸hy))),?_,((a5.trans g2).trans g3),fun y hy=>?_,fun y hy=>?_⟩
 ·rw[ln];exact Dq h.sorted r.find
 ·have w1:y≠e0.kh:=fun q=>hy (q▸ax _ k0);have w2:y≠e0.vh:=fun q=>hy (q▸ax _ v0);have w3:y≠g:=fun q=>hy (q▸az _ r.mem);exact(o3 y w2).trans ((o2 y w1).trans (ap y w3))
 ·unfold recs at hy⊢
  rcases am.1 hy with q | q
  ·rw[lW] at q;exact ab (az _ q)
  ·rcases(ao y).1 q with q | q | q | q
   ·exact ab (ax _ (ad _ (ab q)))
   ·exact ae (ab q)
   ·exact ae (ae q)
   ·exact ab (ax _ (ad _ (ae q)))
def Holds(S:St)(o:Nat->Nat)(t root:Nat)(L:List (List UInt8×List UInt8))(R:List Nat):Prop:=
 (Empty S o t/\root=0/\L=[]/\R=[])\/∃(d:Nat) (x:Bt (d+1)),Tree S o t x/\root=hd x/\L=ep (its x)/\R=recs x
theorem Holds.fit{t root:Nat}{L:List (List UInt8×List UInt8)}(h:Holds S o t root L R):Fw S o:=by
 rcases h with⟨h,_⟩ | ⟨_,_,h,_⟩
 ·exact h.fit
 ·exact h.fit
theorem Holds.deg{t root:Nat}{L:List (List UInt8×List UInt8)}(h:Holds S o t root L R):2<=t/\t<=16:=by
 rcases h with⟨h,_⟩ | ⟨_,_,h,_⟩
 ·exact⟨h.t1,h.t2⟩
 ·exact⟨h.t1,h.t2⟩
theorem Holds.has{t root:Nat}{L:List (List UInt8×List UInt8)}(h:Holds S o t root L R):∀y∈R,reco S y≠none:=by
 rcases h with⟨_,_,_,rfl⟩ | ⟨_,_,h,_,_,rfl⟩
 ·intro y hy
  cases hy
 ·exact h.has
theorem Holds.frame{S S':St}{o o':Nat->Nat}{t root:Nat}{L:List (List UInt8×List UInt8)}(h:Holds S o t root L R)(hf:Fw S' o')(hs:∀y∈R,reco S' y=reco S y):Holds S' o' t root L R:=by
 rcases h with⟨h,h1,h2,h3⟩ | ⟨d,x,h,h1,h2,h3⟩
 ·exact ab ⟨⟨hf,h.t1,h.t2⟩,h1,h2,h3⟩
 ·refine ae ⟨d,x,h.frame hf (by rw[<-h3];exact hs),h1,h2,h3⟩
end Bt
end
section
open Go.RowKit Tryz Go.BigFrame Go.Maps Go.WideMaps Lf Tr
variable{S:St}{o:Nat->Nat}
abbrev jE(w:World)(px ps t root:Nat):Prop:=FF w px ps 187 (jx ps t) 3 t root
theorem rZ(hf:Fw S o):reco S 0=none:=by
 cases h:reco S 0 with
 | none=>rfl
 | some ws=>have:=(fL hf h).1;omega
theorem jT(l:List It):(ep l).length=l.length:=by unfold ep;exact aq _
def eK(L:List (List UInt8×List UInt8))(a:List UInt8):Nat:=L.countP fun p=>decide (Fu p.1 a<0)
theorem ue(l:List It)(a:List UInt8):eK (ep l) a=Fr a l:=by
 unfold eK ep Fr;rw[List.countP_map];rfl
theorem Bt.Tree.low40{t d:Nat}{x:Bt (d+1)}(h:Bt.Tree S o t x):d<40:=by have:=h.low;omega
section
variable {w:World}{px ps t root:Nat}{S:St}{o:Nat->Nat}{Y:Nat->Prop}{L:List (List UInt8×List UInt8)}{R:List Nat}
theorem uN(h:Ig w ps S Y)(hH:Bt.Holds S o t root L R):Cb 163 #[FH ps t,.int .u64 root] w (.int .i64 (L.length:Nat)):=by
 rcases hH with⟨hE,rfl,rfl,rfl⟩ | ⟨d,x,hx,rfl,rfl,rfl⟩
 ·exact zQ h hE.fit.inv hE.t1 hE.t2 0 (by omega) (oy (rZ hE.fit))
 ·have:=nS h hx.fit.inv hx.walk.read hx.walk.size.2;rw[hx.walk.size.1] at this;rw[jT];exact this
theorem uM(h:Ig w ps S Y)(hH:Bt.Holds S o t root L R)(key:List UInt8):∃E:Option It,(∀W,Below w.heap.size w W->Cb 320 #[FH ps t,.int .u64 root,SV key] W (.tuple #[i7 E,.bool E.isSome,.int .i64 (eK L key:Nat)]))/\Bt.getL L key=E.map (fun a:It=>a.v)/\∀a,E=some a->a.k=key/\gu S a:=by
 rcases hH with⟨hE,rfl,rfl,rfl⟩ | ⟨d,x,hx,rfl,rfl,rfl⟩
 ·exact⟨none,fun W hW=>tT (h.below hW) hE.fit.inv hE.t1 hE.t2 0 (by omega) (oy (rZ hE.fit)) key,rfl,fun _ q=>by cases q⟩
 ·refine⟨Bt.findB key (Bt.its x),fun W hW=>?_,Bt.getL_pairs _ _,fun a q=>?_⟩
  ·rw[ue];exact pY (h.below hW) hx.walk hx.low40 key
  ·unfold Bt.findB at q;exact⟨by simpa using cG q,hx.blobs a (bP q)⟩
theorem CF(h:Ig w ps S Y)(hH:Bt.Holds S o t root L R)(hT:jE w px ps t root):
 Cb 56 #[PV px] w (.int .i64 (L.length:Nat)):=
 xM hT C8 AN fun _ hW=>CB fun _ hV=>zX (uN (h.below (hW.trans (hV.mono hW.size))) hH)
theorem CH(h:Ig w ps S Y)(hH:Bt.Holds S o t root L R)(hT:jE w px ps t root)(k:List UInt8):
 Cb 49 #[PV px,SV k] w (.int .i64 (eK L k:Nat)):=by
 obtain⟨E,hd,_⟩:=uM h hH k;exact xO hT k C7 AM fun _ hW=>Cz k fun _ hV=>zW (hd _ (hW.trans (hV.mono hW.size)))
theorem CE(h:Ig w ps S Y)(hH:Bt.Holds S o t root L R)(hT:jE w px ps t root)(k:List UInt8):
 Cb 50 #[PV px,SV k] w (.tuple #[SV ((Bt.getL L k).getD []),.bool (Bt.getL L k).isSome]):=by
 have hf:=hH.fit;obtain⟨E,hd,hE,hb⟩:=uM h hH k;have ai:=fun W (hW:Below w.heap.size w W) V (hV:Below W.heap.size W V)=>nT (hd V (hW.trans (hV.mono hW.size))) fun V' hV'=>hd V' (by rw[hV'];exact(hW.trans (hV.mono hW.size)).alloc (hW.trans (hV.mono hW.size)).size _);rw[hE]
 cases E with
 | none=>exact xJ hT k 0 0 vO um fun _ hW=>vD k 0 0 false fun _ hV=>ai _ hW _ hV
 | some a=>
  have ad:=(hb a rfl).2;have hl:=Bt.blobs_lt hf ad;have hg:=jt hf ad.lv ad.v;exact xK hT k a.kh a.vh a.v 0 (fun W hW=>by
   have:=iz (h.below hW) hf.inv a.vh hl.2 (by rw[hg];simp);rw[hg] at this;exact this) vO um fun _ hW=>vD k a.kh a.vh true fun _ hV=>ai _ hW _ hV
theorem CC(h:Ig w ps S Y)(hH:Bt.Holds S o t root L R)(hT:jE w px ps t root)(k:Nat){p:List UInt8×List UInt8}(hk:L[k]?=some p):
 Cb 53 #[PV px,.int .i64 k] w (.tuple #[eu p,.int .i64 0]):=by
 rcases hH with⟨hE,rfl,rfl,rfl⟩ | ⟨d,x,hx,rfl,rfl,rfl⟩
 ·cases hk
 ·have hf:=hx.fit;have ai:∃e,(Bt.its x)[k]?=some e/\p=(e.k,e.v):=by
   unfold ep at hk;rw[bg] at hk
   cases q:(Bt.its x)[k]? with
   | none=>rw[q] at hk;cases hk
   | some e=>
    rw[q] at hk
    cases hk
    exact⟨e,rfl,rfl⟩
  obtain⟨e,ai,rfl⟩:=ai;have ad:=hx.blobs e (cq ai);have hl:=Bt.blobs_lt hf ad;have hg:=jt hf ad.lv ad.v;have al:=jt hf ad.lk ad.k;exact xH hT k (e.k,e.v) e.kh e.vh 0 0 vN ul (fun _ hW=>vC k e.kh e.vh 0 fun _ hV=>zS (h.below (hW.trans (hV.mono hW.size))) hx.walk hx.low40 ai) (fun W hW=>by
   have:=iz (h.below hW) hf.inv e.kh hl.1 (by rw[al];simp);rw[al] at this;exact this) (fun W hW=>by
   have:=iz (h.below hW) hf.inv e.vh hl.2 (by rw[hg];simp);rw[hg] at this;exact this)
theorem CD(h:Ig w ps S Y)(hH:Bt.Holds S o t root L R)(hT:jE w px ps t root)(k:Int)(hk:k<0\/(L.length:Int)<=k):
 Cb 53 #[PV px,.int .i64 k] w (.tuple #[eu ([],[]),.int .i64 2]):=
 sU hT k 0 0 vN ul fun _ hW=>vC k 0 0 2 fun _ hV=>zT (h.below (hW.trans (hV.mono hW.size))) hH.fit.inv hH.deg.1 hH.deg.2 (fun _ hU=>uN (h.below ((hW.trans (hV.mono hW.size)).trans (hU.mono (hW.trans (hV.mono hW.size)).size))) hH) hk
structure iV (S:St) (L:List (List UInt8×List UInt8)) (R:List Nat) (Hold:St->(Nat->Nat)->Nat->List (List UInt8×List UInt8)->List Nat->Prop) (a b:List UInt8) (p q:Nat) (x:Nat) (S3:St):Prop where
 holds:∃o3 R3,Hold S3 o3 x (gV L a b) R3/\∀y∈R3,y∈R\/reco S y=none
 grew:ej S S3 p q
 apart:∀y,y∉R->reco S y≠none->reco S3 y=reco S y
theorem qDgab{P:Prop}(h:P:=by
 obtain⟨rfl,rfl,hR⟩:=hR;refine(sV px 0 0 W).mono ?_;rintro e w' ⟨rfl,hb⟩;exact⟨S',rfl,hW.below hb,hW.keep hb,hR⟩):P:=h
theorem CG {a:List UInt8}(hins:Bt.getL L a=none->L≠[]->∀d,j4 d)(h:Ig w ps S Y)(hH:Bt.Holds S o t root L R)(hT:jE w px ps t root)(hpx:Y px)(b:List UInt8)(ha:a.length<=1000)(hb:b.length<=1000)(hc:L.length<126)(hr:fc S 20 9):
 Ct 58 #[PV px,eu (a,b)] w fun e w'=>∃(x:Nat) (S3:St),e=.returned (.tuple #[SV ((Bt.getL L a).getD []),.bool (Bt.getL L a).isSome,.int .i64 0])/\Ig w' ps S3 Y/\Fo (fun k=>Y k/\k≠px) w w'/\jE w' px ps t x/\iV S L R (fun S o x L R=>Bt.Holds S o t x L R) a b 20 9 x S3:=by
 obtain⟨ka,vb,S1,o1,ar,ap,f1,n1,n2,au,l1,l2,q1,g1⟩:=Bt.two_fit hH.fit ha hb (hr.mono (by omega) (by omega));have ad:∀y,reco S y≠none->reco S1 y=reco S y:=fun y hy=>q1 y (by rintro rfl;exact hy n1) (by rintro rfl;exact hy n2);have a5:fc S1 14 7:=fc.grew (hr.mono (p':=6+14) (q':=2+7) (by omega) (by omega)) g1;have al:gu S1 ⟨0,ka,vb,a,b⟩:=⟨l1,l2,ha,hb⟩
 rcases hH with⟨hE,rfl,rfl,rfl⟩ | ⟨d,x,hx,rfl,rfl,rfl⟩
 ·--the first key
  refine(ny h hE.fit.inv hT hpx a b ap ar false [] (R:=fun x ik iv S'=>ik=0/\iv=0/\iV S [] [] (fun S o x L R=>Bt.Holds S o t x L R) a b 20 9 x S') (R2:=fun x S'=>iV S [] [] (fun S o x L R=>Bt.Holds S o t x L R) a b 20 9 x S') rH qu (fun W Z hW _ _=>rA hW false fun V Z' hV=>?_) fun x ik iv S' hR W Z hW _ _=>?_).mono ?_
  ·refine(zH hV ⟨f1,hE.t1,hE.t2⟩ (e:=⟨0,ka,vb,a,b⟩) ⟨al,au⟩ (a5.mono (by omega) (by omega))).mono ?_;rintro e w' ⟨y,S',o',rfl,hs,hk,ht,hi,hn,ao,hg⟩;refine⟨_,_,_,S',rfl,hs,hk,rfl,rfl,⟨⟨o',Bt.recs y,ae ⟨0,y,ht,rfl,?_,rfl⟩,fun z hzm=>?_⟩,(g1.trans hg).mono (by omega) (by omega),fun z _ hz=>(ao z (by rw[ad z hz];exact hz)).trans (ad z hz)⟩⟩
   ·rw[hi]
    rfl
   ·refine ae ?_
    cases q:reco S z with
    | none=>rfl
    | some ws=>
     exfalso
     have a6:=ad z (by rw[q];simp);unfold Bt.recs at hzm
     rcases am.1 hzm with hm | hm
     ·rw[hn z hm,q] at a6
      cases a6
     ·rw[hi] at hm;have hm:z∈ [ka,vb]:=hm
      rcases ag.1 hm with rfl | hm
      ·rw[n1] at q
       cases q
      ·rw[aT.1 hm,n2] at q
       cases q
  ·exact qDgab
  ·rintro e w' ⟨x,S3,rfl,h1,h2,h3,h4⟩;exact⟨x,S3,rfl,h1,h2,h3,h4⟩
 ·have ai:Bt.Tree S1 o1 t x:=hx.frame f1 fun y hy=>ad y (hx.has y hy);have bf:(Bt.its x).length<126:=by rw[jT] at hc;exact hc
  have a4:ka∉Bt.recs x/\vb∉Bt.recs x:=⟨fun q=>hx.has _ q n1,fun q=>hx.has _ q n2⟩;have bj:d<=5:=by
   have h1:=Bt.pow_le t hx.t1 hx.ok hx.pos
   rcases cg 5 d with h3 | h3
   ·have:2^7<=2^(d+1):=cT (by decide) (by omega);have e:2^7=128:=by decide
    omega
   ·exact h3
  cases hf:Bt.findB a (Bt.its x) with
  | none=>
   have an:Bt.getL (ep (Bt.its x)) a=none:=by rw[Bt.getL_pairs,hf];rfl
   rw[an];have a3:∀z∈Bt.its x,z.k≠a:=fun z hz q=>by
    unfold Bt.findB at hf;have:=bF.1 hf z hz;rw[q] at this
    simp at this
   have a8:ep (Bt.its x)≠[]:=fun q=>by
    have h1:=Bt.pow_le t hx.t1 hx.ok hx.pos;have h2:=congrArg List.length q;rw[jT] at h2;have h3:2^1<=2^(d+1):=cT (by decide) (by omega);have h2:(Bt.its x).length=0:=h2;omega
   have hq:=(oE t a x).2;have ba:fc S1 (2*iD t a x) (iD t a x):=a5.mono (by omega) (by omega);refine(ny h hx.fit.inv hT hpx a b ap ar false [] (R:=fun x' ik iv S'=>ik=0/\iv=0/\iV S (ep (Bt.its x)) (Bt.recs x) (fun S o x L R=>Bt.Holds S o t x L R) a b 20 9 x' S') (R2:=fun x' S'=>iV S (ep (Bt.its x)) (Bt.recs x) (fun S o x L R=>Bt.Holds S o t x L R) a b 20 9 x' S') rH qu (fun W Z hW _ _=>rA hW false fun V Z' hV=>?_) fun x' ik iv S' hR W Z hW _ _=>?_).mono ?_
   ·refine(zI (hins an a8) hV ai (e:=⟨0,ka,vb,a,b⟩) ⟨al,au,a4,a3,by omega⟩ ba).mono ?_;rintro e w' ⟨d',y,S',o',rfl,hs,hk,ht,hi,hn,ao,hg⟩;have hg:ej S1 S' (2*iD t a x) (iD t a x):=hg;refine⟨_,_,_,S',rfl,hs,hk,rfl,rfl,⟨⟨o',Bt.recs y,ae ⟨d',y,ht,rfl,?_,rfl⟩,fun z hzm=>?_⟩,(g1.trans hg).mono (by omega) (by omega),fun z hzx hz=>(ao z (fun q=>hzx (az _ q)) (by rw[ad z hz];exact hz)).trans (ad z hz)⟩⟩
    ·rw[hi];exact(Bt.pairs_ins (e:=⟨0,ka,vb,a,b⟩) hx.sorted a3).symm
    ·unfold Bt.recs at hzm
     rcases am.1 hzm with hm | hm
     ·rcases hn z hm with q | q
      ·exact ab (az _ q)
      ·refine ae ?_
       cases q2:reco S z with
       | none=>rfl
       | some ws=>
        have:=ad z (by rw[q2];simp);rw[q,q2] at this
        cases this
     ·rw[hi] at hm
      rcases(Bt.blobH_ins z).1 hm with rfl | rfl | q
      ·exact ae n1
      ·exact ae n2
      ·exact ab (ax _ q)
   ·exact qDgab
   ·rintro e w' ⟨x',S3,rfl,h1,h2,h3,h4⟩;exact⟨x',S3,rfl,h1,h2,h3,h4⟩
  | some e0=>
   have an:Bt.getL (ep (Bt.its x)) a=some e0.v:=by rw[Bt.getL_pairs,hf];rfl
   rw[an];obtain⟨⟨g,n0,k0⟩,a2⟩:=Bt.nodeB_some (key:=a) ai.walk (by rw[hf];rfl);obtain⟨e1,a0⟩:=Bt.rep_at (e:=⟨0,ka,vb,a,b⟩) (Bt.blobs_lt f1 al) ai.walk ai.nodes ai.lts a2;obtain rfl:e1=e0:=Option.some.inj (a0.find.symm.trans hf);obtain⟨S2,a1⟩:∃S2,S2=FC S1 g 0 (bnWords t (Bt.setN n0 k0 ⟨0,ka,vb,a,b⟩)):=⟨_,rfl⟩;obtain⟨i2,b2,lk,lv,d2,S3,a9,bd,bb,g3,a7,bc⟩:=ai.swap al au a4 a0 a1;have a':iV S (ep (Bt.its x)) (Bt.recs x) (fun S o x L R=>Bt.Holds S o t x L R) a b 20 9 (Bt.hd x) S3:=by
    refine⟨⟨o1,_,ae ⟨d,_,bd,(Bt.mapB_hd _ x).symm,bb.symm,rfl⟩,fun y hy=>?_⟩,(g1.trans g3).mono (by omega) (by omega),fun y hy hz=>(a7 y hy).trans (ad y hz)⟩
    rcases bc y hy with q | rfl | rfl
    ·exact ab q
    ·exact ae n1
    ·exact ae n2
   refine(ny h hx.fit.inv hT hpx a b ap ar true e1.v (R:=fun x' ik iv S'=>x'=Bt.hd x/\ik=e1.kh/\iv=e1.vh/\S'=S2) (R2:=fun x' S'=>iV S (ep (Bt.its x)) (Bt.recs x) (fun S o x L R=>Bt.Holds S o t x L R) a b 20 9 x' S') rH qu (fun W Z hW _ _=>rA hW true fun V Z' hV=>?_) fun x' ik iv S' hR W Z hW hTW hZ=>?_).mono ?_
   ·refine(zJ hV ai (e:=⟨0,ka,vb,a,b⟩) al a2 a0).mono ?_;rintro e w' ⟨rfl,hs,hk⟩;rw[<-a1] at hs;exact⟨_,_,_,S2,rfl,hs,hk,rfl,rfl,rfl,rfl⟩
   ·obtain⟨rfl,rfl,rfl,rfl⟩:=hR;refine(xL hW i2.inv hTW hZ e1.kh e1.vh lk lv (by rw[b2];simp) d2).mono ?_;rintro e w' ⟨rfl,hs,hk⟩;rw[b2];rw[<-a9] at hs;exact⟨S3,rfl,hs,hk,a'⟩
   ·rintro e w' ⟨x',S4,rfl,h1,h2,h3,h4⟩;exact⟨x',S4,rfl,h1,h2,h3,h4⟩
end
theorem zZ {w:World}{ps:Nat}{S:St}{Y:Nat->Prop}(h:Ig w ps S Y)(hi:Fv S){t:Nat}(t1:2<=t)(t2:t<=16):
 Ct 135 #[PV ps,.int .i64 3,.int .i64 t] w fun e w'=>e=.returned (.int .i64 0)/\w=w':=by
 have ad:=fB h hi 0 (by omega);rw[fU] at ad;have ai:=fun W=>pW t t1 t2 W;have h6:((6*(t:Int))==0)=false:=by simp;omega
 have HG:=kq2 ad ai;clear ad h hi ai;go_enter func135,ntmps135;go_wp2_with fail;refine HG.a.mono ?_;rintro e w1 ⟨rfl,rfl⟩;go_wp2_with fail;refine(HG.b _).mono ?_;rintro e w1 ⟨rfl,rfl⟩;go_wp2_with fail;go_ret;exact⟨rfl,rfl⟩
theorem zU {w:World}{ps:Nat}{S:St}{Y:Nat->Prop}(h:Ig w ps S Y)(hi:Fv S){t:Nat}(t1:2<=t)(t2:t<=16):
 Ct 136 #[PV ps,.int .i64 t,.int .u64 0] w fun e w'=>e=.returned (.int .i64 0)/\w=w':=by
 have HG:=If (kZ h hi t1 t2);clear h hi;go_enter func136,ntmps136;go_wp2_with fail;refine HG.out.mono ?_;rintro e w1 ⟨rfl,rfl⟩;go_wp2_with fail;go_ret;exact⟨rfl,rfl⟩
theorem qc {w:World}{ps:Nat}{S:St}{Y:Nat->Prop}(h:Ig w ps S Y)(hi:Fv S){t:Nat}(t1:2<=t)(t2:t<=16):
 Ct 107 #[PV ps,.int .i64 3,.int .i64 t,.int .u64 0] w fun e w'=>e=.returned (.int .i64 0)/\w=w':=by
 have HG:=kq2 (zZ h hi t1 t2) (zU h hi t1 t2);clear h hi;go_enter func107,ntmps107;go_wp2_with fail;refine HG.a.mono ?_;rintro e w1 ⟨rfl,rfl⟩;go_wp2_with fail;refine HG.b.mono ?_;rintro e w1 ⟨rfl,rfl⟩;go_wp2_with fail;go_ret;exact⟨rfl,rfl⟩
theorem Cy {w:World}{ps:Nat}{S:St}{Y:Nat->Prop}(h:Ig w ps S Y)(hi:Fv S){t:Nat}(t1:2<=t)(t2:t<=16):
 Ct 84 #[PV ps,.int .i64 3,.int .i64 t,.int .u64 0] w fun e w'=>∃px,e=.returned (.tuple #[PV px,.int .i64 0])/\jE w' px ps t 0/\Below w.heap.size w w'/\w.heap.size<=px:=by
 have HG:=If (qc h hi t1 t2);have q:=heap_alloc_new w (.cells #[PV ps,.int .i64 3,.int .i64 t,.iface 187 (.agg #[PV ps,.int .i64 t]),.int .u64 0] 134);have B:=(aa w.heap.size w).alloc Ih (.cells #[PV ps,.int .i64 3,.int .i64 t,.iface 187 (.agg #[PV ps,.int .i64 t]),.int .u64 0] 134);have HB:=kq2 q B;clear h hi q B;go_enter func84,ntmps84;go_wp2_with fail;refine HG.out.mono ?_;rintro e w1 ⟨rfl,rfl⟩;go_wp2_with fail;go_ret2;exact⟨w.heap.size,rfl,HB.a,HB.b,Nat.le_refl _⟩
theorem Cv {w:World}{ps:Nat}{S:St}{Y:Nat->Prop}(h:Ig w ps S Y)(hi:Fv S){t:Nat}(t1:2<=t)(t2:t<=16):
 Ct 59 #[PV ps,.int .i64 3,.int .i64 t] w fun e w'=>∃px,e=.returned (.tuple #[PV px,.int .i64 0])/\jE w' px ps t 0/\Below w.heap.size w w'/\w.heap.size<=px:=by
 have HG:=If (Cy h hi t1 t2);clear h hi;go_enter func59,ntmps59;go_wp2_with fail;refine HG.out.mono ?_;rintro e w1 ⟨px,rfl,hr⟩;have HB:=If hr;clear hr;go_wp2_with fail;go_ret2;exact⟨px,rfl,HB.out⟩
structure jo where
 On:World->Nat->Nat->Nat->Prop
 Hold:St->(Nat->Nat)->Nat->List (List UInt8×List UInt8)->List Nat->Prop
structure pL (K:jo):Prop where
 onBelow:∀{w w':World} {px ps root:Nat},K.On w px ps root->Below w.heap.size w w'->K.On w' px ps root
 onKeep:∀{w w':World} {px ps root:Nat} {Y:Nat->Prop},K.On w px ps root->Fo Y w w'->Y px->K.On w' px ps root
 onLt:∀{w:World} {px ps root:Nat},K.On w px ps root->px<w.heap.size
 onAt:∀{w w':World} {px ps root:Nat},K.On w px ps root->w'.heap[px]?=w.heap[px]?->K.On w' px ps root
 fit:∀{S:St} {o:Nat->Nat} {root:Nat} {L:List (List UInt8×List UInt8)} {R:List Nat},K.Hold S o root L R->Fw S o
 has:∀{S:St} {o:Nat->Nat} {root:Nat} {L:List (List UInt8×List UInt8)} {R:List Nat},K.Hold S o root L R->∀y∈R,reco S y≠none
 frame:∀{S S':St} {o o':Nat->Nat} {root:Nat} {L:List (List UInt8×List UInt8)} {R:List Nat},K.Hold S o root L R->Fw S' o'->(∀y∈R,reco S' y=reco S y)->K.Hold S' o' root L R
 sorted:∀{S:St} {o:Nat->Nat} {root:Nat} {L:List (List UInt8×List UInt8)} {R:List Nat},K.Hold S o root L R->L.Pairwise fun p q=>Fu p.1 q.1<0
 len:∀{w:World} {px ps root:Nat} {S:St} {o:Nat->Nat} {Y:Nat->Prop} {L:List (List UInt8×List UInt8)} {R:List Nat},Ig w ps S Y->K.Hold S o root L R->L.length<98->K.On w px ps root->
  Cb 56 #[PV px] w (.int .i64 (L.length:Nat))
 rank:∀{w:World} {px ps root:Nat} {S:St} {o:Nat->Nat} {Y:Nat->Prop} {L:List (List UInt8×List UInt8)} {R:List Nat},Ig w ps S Y->K.Hold S o root L R->L.length<98->K.On w px ps root->∀k:List UInt8,
  Cb 49 #[PV px,SV k] w (.int .i64 (eK L k:Nat))
 get:∀{w:World} {px ps root:Nat} {S:St} {o:Nat->Nat} {Y:Nat->Prop} {L:List (List UInt8×List UInt8)} {R:List Nat},Ig w ps S Y->K.Hold S o root L R->L.length<98->K.On w px ps root->∀k:List UInt8,
  Cb 50 #[PV px,SV k] w (.tuple #[SV ((Bt.getL L k).getD []),.bool (Bt.getL L k).isSome])
 at':∀{w:World} {px ps root:Nat} {S:St} {o:Nat->Nat} {Y:Nat->Prop} {L:List (List UInt8×List UInt8)} {R:List Nat},Ig w ps S Y->K.Hold S o root L R->L.length<98->K.On w px ps root->∀(k:Nat) (p:List UInt8×List UInt8),L[k]?=some p->
  Cb 53 #[PV px,.int .i64 k] w (.tuple #[eu p,.int .i64 0])
 atRef:∀{w:World} {px ps root:Nat} {S:St} {o:Nat->Nat} {Y:Nat->Prop} {L:List (List UInt8×List UInt8)} {R:List Nat},Ig w ps S Y->K.Hold S o root L R->L.length<98->K.On w px ps root->∀k:Int,k<2^62->(k<0\/(L.length:Int)<=k)->
  Cb 53 #[PV px,.int .i64 k] w (.tuple #[eu ([],[]),.int .i64 2])
structure gB (K:jo) (P:List (List UInt8×List UInt8)->Prop):Prop extends pL K where
 put:∀{w:World} {px ps root:Nat} {S:St} {o:Nat->Nat} {Y:Nat->Prop} {L:List (List UInt8×List UInt8)} {R:List Nat},Ig w ps S Y->K.Hold S o root L R->L.length<98->K.On w px ps root->Y px->P L->∀a b:List UInt8,a.length<=1000->b.length<=1000->fc S 20 9->
  Ct 58 #[PV px,eu (a,b)] w fun e w'=>∃(x:Nat) (S3:St),e=.returned (.tuple #[SV ((Bt.getL L a).getD []),.bool (Bt.getL L a).isSome,.int .i64 0])/\Ig w' ps S3 Y/\Fo (fun k=>Y k/\k≠px) w w'/\K.On w' px ps x/\iV S L R K.Hold a b 20 9 x S3
def mS(t:Nat):jo:=⟨fun w px ps root=>jE w px ps t root,fun S o root L R=>Bt.Holds S o t root L R⟩
theorem uY {l:List It}(h:l.Pairwise eU):(ep l).Pairwise fun p q=>Fu p.1 q.1<0:=by
 unfold ep;exact List.pairwise_map.2 (h.imp fun {a b} q=>q)
theorem CA(t:Nat):pL (mS t) where
 onBelow h hb:=FF.below h hb
 onKeep h hk hy:=FF.keep h hk hy
 onLt h:=(gl h)
 onAt h e:=e.trans h
 fit h:=Bt.Holds.fit h
 has h:=Bt.Holds.has h
 frame h:=Bt.Holds.frame h
 sorted h:=by
  rcases h with⟨_,_,rfl,_⟩ | ⟨_,_,h,_,rfl,_⟩
  ·exact List.Pairwise.nil
  ·exact uY h.sorted
 len h hH _ hT:=CF h hH hT
 rank h hH _ hT k:=CH h hH hT k
 get h hH _ hT k:=CE h hH hT k
 at' h hH _ hT k p hk:=CC h hH hT k hk
 atRef h hH _ hT k _ hk:=CD h hH hT k hk
theorem Cw(hins:∀d,j4 d)(t:Nat){P:List (List UInt8×List UInt8)->Prop}:gB (mS t) P:=
 { CA t with put:=fun h hH hc hT hpx _ _ b ha hb hr=>CG (fun _ _=>hins) h hH hT hpx b ha hb (by omega) hr }
def jH(kind:Nat)(Ok:Tr->Prop):jo:=⟨fun w px ps root=>FF w px ps 185 (fE ps kind) kind 0 root,fun S o root L R=>∃t:Tr,fC Ok S o t/\root=t.root/\L=ep t.its/\R=eB t.its⟩
theorem At.item {S:St}:∀{t:Tr},Tr.At S t->∀d∈t.its,∃n0:Nd,reco S d.h=some (eM n0)/\n0.key=d.kh/\n0.val=d.vh
 | .nil,_,d,hd=>by cases hd
 | .node l e m r,ha,d,hd=>by
  obtain⟨h1,h2,h3⟩:=ha;rcases am.1 (show d∈l.its++e::r.its from hd) with hd | hd
  ·exact At.item h2 d hd
  ·rcases ag.1 hd with rfl | hd
   ·exact⟨_,h1,rfl,rfl⟩
   ·exact At.item h3 d hd
theorem tM {Ok:Tr->Prop}{S:St}{o:Nat->Nat}{t:Tr}(h:fC Ok S o t)(hc:t.its.length<98)(key:List UInt8):∃hh,ij S key (Lf.limit S) t.root 0=some (hh,eK (ep t.its) key)/\((hh=0/\Bt.getL (ep t.its) key=none)\/∃d:It,hh=d.h/\d.h≠0/\d.h<2^64/\Bt.getL (ep t.its) key=some d.v/\gD S (getNode S d.h).1.val=some d.v):=by
 obtain⟨hh,e,q⟩:=h.down (by omega) key;rw[<-ue] at e;refine⟨hh,e,?_⟩;rw[Bt.getL_pairs]
 rcases q with⟨rfl,q⟩ | ⟨d,hd,hk,rfl⟩
 ·rw[Bt.findB_none q];exact ab ⟨rfl,rfl⟩
 ·obtain⟨n0,e1,e2,e3⟩:=At.item h.at' d hd;have hf:Bt.findB key t.its=some d:=by
   cases hf:Bt.findB key t.its with
   | none=>
    unfold Bt.findB at hf;have:=bF.1 hf d hd;rw[hk] at this
    simp at this
   | some d'=>
    unfold Bt.findB at hf;have hm:=bP hf;have ad:d'.k=key:=by simpa using cG hf
    have hp:=h.sorted;rw[cL] at hp;obtain⟨i,hi,rfl⟩:=co.1 hd;obtain⟨j,hj,rfl⟩:=co.1 hm;have ai:∀i j (hi:i<t.its.length) (hj:j<t.its.length),i<j->t.its[i].k≠t.its[j].k:=fun i j hi hj hij q=>by
     have:=hp i j hi hj hij;unfold eU at this;rw[q,fX] at this;omega
    rcases Nat.lt_trichotomy i j with q | q | q
    ·exact absurd (hk.trans ad.symm) (ai i j hi hj q)
    ·subst q
     rfl
    ·exact absurd (ad.trans hk.symm) (ai j i hj hi q)
  have ho:=fL h.fit e1;have hb:=h.blobs d hd;rw[hf];refine ae ⟨d,rfl,by omega,ho.2.1,rfl,?_⟩;rw[gw h.fit e1,e3];exact At.blob h.fit hb.lv hb.v
theorem nZ(L:List (List UInt8×List UInt8))(a:List UInt8):eK L a<=L.length:=cf
theorem AL(args:Array Value)(w:World):(callFunc 291 args).run prog w=.ok (.enter 291 args) w:=by kernel_rfl
theorem AK(args:Array Value)(w:World):(callFunc 289 args).run prog w=.ok (.enter 289 args) w:=by kernel_rfl
theorem qt(args:Array Value)(w:World):(callFunc 286 args).run prog w=.ok (.enter 286 args) w:=by kernel_rfl
theorem ui(args:Array Value)(w:World):(callFunc 287 args).run prog w=.ok (.enter 287 args) w:=by kernel_rfl
theorem uj(args:Array Value)(w:World):(callFunc 288 args).run prog w=.ok (.enter 288 args) w:=by kernel_rfl
theorem zg(kind:Nat)(Ok:Tr->Prop):pL (jH kind Ok) where
 onBelow h hb:=FF.below h hb
 onKeep h hk hy:=FF.keep h hk hy
 onLt h:=(gl h)
 onAt h e:=e.trans h
 fit h:=by obtain⟨t,h,_⟩:=h;exact h.fit
 has h:=by obtain⟨t,h,_,_,rfl⟩:=h;exact h.some
 frame h hf hs:=by obtain⟨t,h,h1,h2,rfl⟩:=h;exact⟨t,h.frame hf hs,h1,h2,rfl⟩
 sorted h:=by obtain⟨t,h,_,rfl,_⟩:=h;exact uY h.sorted
 len h hH hc hT:=by
  obtain⟨t,hb,rfl,rfl,rfl⟩:=hH;rw[jT] at hc⊢;exact xM hT Da AL fun _ hW=>zh (h.below hW) hb.fit.inv kind _ (hb.at'.root_lt hb.fit) (hb.at'.size hb.fit (by omega))
 rank h hH hc hT k:=by
  obtain⟨t,hb,rfl,rfl,rfl⟩:=hH;rw[jT] at hc;obtain⟨hh,e,_⟩:=tM hb hc k;exact xO hT k C9 AK fun _ hW=>zf (h.below hW) hb.fit.inv kind _ (hb.at'.root_lt hb.fit) k (by unfold oP;rw[e];rfl)
 get {w px ps root S o Y L R} h hH hc hT k:=by
  obtain⟨t,hb,rfl,rfl,rfl⟩:=hH;rw[jT] at hc;have hl:=hb.at'.root_lt hb.fit;obtain⟨hh,e,⟨rfl,q⟩ | ⟨d,rfl,q1,q2,q,q3⟩⟩:=tM hb hc k
  ·rw[q];refine xJ hT k 0 0 vP ui fun W hW=>?_;have:=tL (h.below hW) hb.fit.inv kind t.root hl k e (by simp);simpa[Id,qM,Nd.zero] using this
  ·rw[q];obtain⟨b1,b2⟩:=sS q3;refine xK hT k (getNode S d.h).1.key (getNode S d.h).1.val d.v (fz S (getNode S d.h).1.val).2 (fun W hW=>?_) vP ui fun W hW=>?_
   ·have:=iz (h.below hW) hb.fit.inv _ (fs h d.h).val b1;rwa[b2] at this
   ·have:=tL (h.below hW) hb.fit.inv kind t.root hl k e q2;simpa[Id,q1] using this
 at' h hH hc hT k p hp:=by
  obtain⟨t,hb,rfl,rfl,rfl⟩:=hH;rw[jT] at hc;obtain⟨ad,ao⟩:=aA.1 hp;rw[jT] at ad;have al:=hb.place (by omega) ad;have hq:(ep t.its)[k]?=some (t.its[k].k,t.its[k].v):=by unfold ep;rw[bg,af ad];rfl
  have:p=(t.its[k].k,t.its[k].v):=Option.some.inj (hp.symm.trans hq);rw[<-this] at al;have hl:=hb.at'.root_lt hb.fit;obtain⟨hh,an,h1,h2,h3⟩:=EQ al;obtain⟨b1,b2⟩:=sS h2;obtain⟨b3,b4⟩:=sS h3;have ai:=fs h hh;exact xH hT (k:Int) p _ _ _ _ rI qt (fun W hW=>tK (h.below hW) hb.fit.inv kind t.root hl k (by omega) h1 an)
   (fun W hW=>by have:=iz (h.below hW) hb.fit.inv _ ai.key b1;rwa[b2] at this) (fun W hW=>by have:=iz (h.below hW) hb.fit.inv _ ai.val b3;rwa[b4] at this)
 atRef {w px ps root S o Y L R} h hH hc hT k hk2 hk:=by
  obtain⟨t,hb,rfl,rfl,rfl⟩:=hH;rw[jT] at hc hk;have hl:=hb.at'.root_lt hb.fit;by_cases h0:k<0
  ·refine sU hT k 0 0 rI qt fun W hW=>?_;have:=za (h.below hW) hb.fit.inv kind t.root k h0;simpa[Id,qM,Nd.zero] using this
  ·obtain⟨n,rfl⟩:∃n:Nat,k=n:=⟨k.toNat,by omega⟩;exact sU hT (n:Int) (getNode S 0).1.key (getNode S 0).1.val rI qt fun W hW=>tK (h.below hW) hb.fit.inv kind t.root hl n (by omega) (hb.over (by omega) (by omega)) (by decide)
theorem pU {kind:Nat}{j c:FuncId}{jn:Jn}{Ok:Tr->Prop}(hk:jD kind j c jn)(J:kV jn Ok){P:List (List UInt8×List UInt8)->Prop}:gB (jH kind Ok) P where
 topL:=zg kind Ok
 put {w px ps root S o Y L R} h hH hc hT hpx _ a b ha hb' hr:=by
  obtain⟨t,hb,rfl,rfl,rfl⟩:=hH;rw[jT] at hc;have au:=hr.mono (p':=7) (q':=3) (by omega) (by omega);have hl:=hb.at'.root_lt hb.fit;cases hf:Bt.findB a t.its with
  | none=>
   have an:Bt.getL (ep t.its) a=none:=by rw[Bt.getL_pairs,hf];rfl
   have a1:∀z∈t.its,z.k≠a:=fun z hz q=>by
    unfold Bt.findB at hf;have:=bF.1 hf z hz;rw[q] at this;simp at this
   rw[an];obtain⟨u,S',o',po,ad,hB,ao,_,hg,al,ap⟩:=DI J hb hc ha hb' au a1;unfold treePutM at ad;split at ad
   ·cases ad
   rename_i p S1 hit;have ai:iV S (ep t.its) (eB t.its) (jH kind Ok).Hold a b 20 9 u.root S':=⟨⟨o',eB u.its,⟨u,hB,rfl,ao.symm,rfl⟩,ap⟩,hg.mono (by omega) (by omega),al⟩;refine ny h hb.fit.inv hT hpx a b po.1 hit false [] (R:=fun x ik iv S2=>x=u.root/\ik=0/\iv=0/\S2=S') (R2:=fun x S2=>iV S (ep t.its) (eB t.its) (jH kind Ok).Hold a b 20 9 x S2) vQ uj (fun W Z hW hp1 hp2=>?_) fun x ik iv S2 hR W Z hW _ _=>?_
   ·refine(zc hW (po.2 _ _ hit) hk t.root p.1 p.2 hl hp1 hp2 ad).mono ?_;rintro e w' ⟨rfl,h1,h2,_,_⟩;exact⟨_,_,_,S',rfl,h1,h2,rfl,rfl,rfl,rfl⟩
   ·obtain⟨rfl,rfl,rfl,rfl⟩:=hR;refine(sV px 0 0 W).mono ?_;rintro e w' ⟨rfl,hb⟩;exact⟨_,rfl,hW.below hb,hW.keep hb,ai⟩
  | some d=>
   have an:Bt.getL (ep t.its) a=some d.v:=by rw[Bt.getL_pairs,hf];rfl
   rw[an];have hd:d∈t.its:=by unfold Bt.findB at hf;exact bP hf
   have a0:d.k=a:=by unfold Bt.findB at hf;simpa using cG hf
   have ar:=Bt.blobs_lt hb.fit (hb.blobs d hd);obtain⟨u,S6,S8,o',po,ad,f6,b6,i6,e8,hB,ao,_,hg,al,ap⟩:=DJ J hb hc ha hb' au hd a0;unfold treeRepM at ad;split at ad
   ·cases ad
   rename_i p S1 hit;have ai:iV S (ep t.its) (eB t.its) (jH kind Ok).Hold a b 20 9 u.root S8:=⟨⟨o',eB u.its,⟨u,hB,rfl,ao.symm,rfl⟩,ap⟩,hg.mono (by omega) (by omega),al⟩;refine ny h hb.fit.inv hT hpx a b po.1 hit true d.v (R:=fun x ik iv S2=>x=u.root/\ik=d.kh/\iv=d.vh/\S2=S6) (R2:=fun x S2=>iV S (ep t.its) (eB t.its) (jH kind Ok).Hold a b 20 9 x S2) vQ uj (fun W Z hW hp1 hp2=>?_) fun x ik iv S2 hR W Z hW hTW hZ=>?_
   ·refine(zd hW (po.2 _ _ hit) hk t.root p.1 p.2 hl hp1 hp2 ad f6.inv).mono ?_;rintro e w' ⟨rfl,h1,h2,_,_⟩;exact⟨_,_,_,S6,rfl,h1,h2,rfl,rfl,rfl,rfl⟩
   ·obtain⟨rfl,rfl,rfl,rfl⟩:=hR;refine(xL hW f6.inv hTW hZ d.kh d.vh ar.1 ar.2 (by rw[b6];simp) i6).mono ?_;rintro e w' ⟨rfl,h1,h2⟩;rw[b6];rw[<-e8] at h1;exact⟨S8,rfl,h1,h2,ai⟩
theorem zM {w:World}{ps:Nat}{S:St}{Y:Nat->Prop}(h:Ig w ps S Y){t:Nat}(t1:2<=t)(t2:t<=16):
 Ct 165 #[FH ps t] w fun e w'=>(∃z:Nat,e=.returned (.int .i64 z)/\1<=z)/\Below w.heap.size w w':=by
 have B0:=(aa w.heap.size w).alloc Ih (.cells #[PV ps,.int .i64 t] 254);have q0:=heap_alloc_new w (.cells #[PV ps,.int .i64 t] 254);have al:=fun W (hW:Below w.heap.size w W)=>xo (h.below hW);have ao:=fun W=>pW t t1 t2 W;have a3:=nB h;obtain⟨wd,ar⟩:=Ii S.words;rw[ar] at a3 al;have hq:((wd:Int)).tdiv (6*(t:Int))=((wd / (6*t):Nat):Int):=by
  rw[show (6*(t:Int))=((6*t:Nat):Int) by omega];exact(Int.ofNat_tdiv wd (6*t)).symm
 have a2:wd / (6*t)<=wd:=Nat.div_le_self _ _;obtain⟨qq,ap⟩:=Ii (wd / (6*t));rw[ap] at hq a2;have h6:((6*(t:Int))==0)=false:=by simp;omega
 have a4:(6*(t:Int))≠0:=by omega
 have a5:IntKind.i64.wrap ((qq:Int))=(qq:Int):=aD _ (by omega);have a6:IntKind.i64.wrap ((qq:Int)+1)=(qq:Int)+1:=aD _ (by omega);have HG:=kq4 al ao B0 q0;obtain⟨W0,a1⟩:=Ii (w.alloc (.cells #[PV ps,.int .i64 t] 254));rw[a1] at HG;obtain⟨I,an,ad⟩:=ic fun w'=>w'.heap[w.heap.size]?=some (.cells #[PV ps,.int .i64 t] 254);have au:=fun x:Fq I=>an _ x.ok;obtain⟨m0,m1⟩:=fw au;have a0:I W0.drew:=ad _ HG.d;have HI:=If ad;clear an ad au al ao B0 q0 h ar ap;unfold FH;go_enter func165,ntmps165;go_wp2_with fail;refine fh I (.take 0 (.take 1 (.take 3 (.take 4 (.go 2 (.go 5 (.take 6 (.take 7 (.go 8 .nil))))))))) (by kernel_rfl) (by kernel_rfl) a0 ?_
 iterate 4
  refine' pT ?_ ?_;rotate_left
  ·intro x;go_simp
   try rfl
  try simp only[pu]
 refine pD fun K hK=>?_;go_simp;refine(HG.a _ (HG.c.drew)).mono ?_;rintro e w1 ⟨rfl,ai⟩;have H1:=kq2 (HG.c.drew.trans (ai.mono HG.c.drew.size)) (HI.out _ ((ai.block w.heap.size (gl HG.d)).trans HG.d));clear ai
 try go_simp
 refine hK.out _ _ (H1.b) ?_;clear hK K
 try simp only[pu]
 refine pD fun K hK=>?_;go_simp;refine(HG.b w1).mono ?_;rintro e wx ⟨rfl,rfl⟩
 try go_simp
 refine hK.out _ _ (H1.b) ?_;clear hK K
 try simp only[pu]
 iterate 2
  refine' pT ?_ ?_;rotate_left
  ·intro x;go_simp
   try rfl
  try simp only[pu]
 refine pD fun K hK=>?_;go_simp
 try go_simp
 refine hK.out _ _ (H1.b) ?_;clear hK K
 try simp only[pu]
 refine eP ?_;go_wp2_with fail;go_ret;exact⟨⟨qq+1,by first | rfl | simp,by omega⟩,H1.a⟩
theorem zL {w:World}{ps:Nat}{S:St}{o:Nat->Nat}{Y:Nat->Prop}(h:Ig w ps S Y)(hf:Fw S o){t:Nat}(t1:2<=t)(t2:t<=16)(bl:Nat):
 Cb 166 #[FH ps t,.slice none 0 0,.int .u64 0,.pointer (some ⟨bl,0,none⟩),.int .i64 0] w (.slice none 0 0):=by
 have B0:=(aa w.heap.size w).alloc Ih (.cells #[PV ps,.int .i64 t] 254);have hg:=nQ (h.below B0) hf.inv t1 t2 0 (by omega) (oy (rZ hf));unfold FH eC at hg;have HG:=kq2 hg B0;clear hg B0 h hf;unfold FH;go_enter func166,ntmps166;go_wp2_with fail;refine HG.a.mono ?_;rintro e w1 ⟨rfl,ad⟩;have B1:=HG.b.trans (ad.mono HG.b.size);have H1:=If (B1.alloc B1.size (.cells #[.slice none 0 0,.slice none 0 0,.slice none 0 0,.int .u64 0] 286));clear ad B1;go_wp2_with fail;go_ret;exact⟨rfl,H1.out⟩
theorem zV {w:World}{ps:Nat}{S:St}{o:Nat->Nat}{Y:Nat->Prop}(h:Ig w ps S Y)(hf:Fw S o){t:Nat}(t1:2<=t)(t2:t<=16):
 Cb 138 #[PV ps,.int .i64 t,.int .u64 0] w (.slice none 0 0):=by
 have ap:=kZ h hf.inv t1 t2;have B0:=(aa w.heap.size w).alloc Ih (.cells #[PV ps,.int .i64 t] 254);have q0:=heap_alloc_new w (.cells #[PV ps,.int .i64 t] 254);have ad:=zM (h.below B0) t1 t2;have al:=fun W (hW:Below w.heap.size w W) bl=>zL (h.below hW) hf t1 t2 bl;unfold FH at ad al;obtain⟨W0,an⟩:=Ii (w.alloc (.cells #[PV ps,.int .i64 t] 254));rw[an] at B0 q0 ad;obtain⟨x0,x1⟩:=Fp q0;have HG:=kq5 ap ad al B0 q0;clear ap ad al B0 q0 h hf;go_enter func138,ntmps138;go_wp2_with fail;refine HG.a.mono ?_;rintro e w1 ⟨rfl,rfl⟩;go_wp2_with fail;refine HG.b.mono ?_;rintro e w1 ⟨⟨z,rfl,hz⟩,ai⟩;have q1:=(ai.block w.heap.size (gl HG.e)).trans HG.e;have B1:=HG.d.trans (ai.mono HG.d.size);have A2:=(aa w1.heap.size w1).alloc Ih (.cells #[.int .i64 z] 3);have q2:=(A2.block w.heap.size (gl q1)).trans q1;have B2:=B1.trans (A2.mono B1.size);clear an x0 x1;obtain⟨W1,ar⟩:=Ii (w1.alloc (.cells #[.int .i64 z] 3));rw[ar] at q2 B2;obtain⟨x0,x1⟩:=Fp q2;have H2:=If B2;clear ai q1 B1 A2 q2 B2;go_wp2_with fail;refine(HG.c _ H2.out _).mono ?_;rintro e w3 ⟨rfl,ao⟩;have H3:=If (H2.out.trans (ao.mono H2.out.size));clear ao;go_wp2_with fail;go_ret;exact⟨rfl,H3.out⟩
theorem Ab {w:World}{ps:Nat}{S:St}{o:Nat->Nat}{Y:Nat->Prop}(h:Ig w ps S Y)(hf:Fw S o){t:Nat}(t1:2<=t)(t2:t<=16):
 Cb 108 #[PV ps,.int .i64 3,.int .i64 t,.int .u64 0] w (.tuple #[.slice none 0 0,.int .i64 0]):=by
 have hc:=qc h hf.inv t1 t2;have hl:=fun W (hW:Below w.heap.size w W)=>zV (h.below hW) hf t1 t2;have HG:=kq2 hc hl;clear hc hl h hf;go_enter func108,ntmps108;go_wp2_with fail;refine HG.a.mono ?_;rintro e w1 ⟨rfl,rfl⟩;have H1:=If (aa w.heap.size w);go_wp2_with fail;refine(HG.b _ H1.out).mono ?_;rintro e w2 ⟨rfl,ad⟩;have H2:=If (H1.out.trans (ad.mono H1.out.size));clear ad;go_wp2_with fail
 go_loopw [16,18,19,20,21,22,62] (fun l1 _ _ _ _ _ k wr=>l1=.slice none 0 0/\k=.int .i64 0/\wr=w2) (fun _ _ _ _ _ _ _ _=>0)
 case atStart=>exact⟨rfl,rfl,rfl⟩
 case round=>
  obtain⟨rfl,rfl,rfl⟩:=hrel;go_wp2_with fail;go_ret2;exact⟨rfl,H2.out⟩
theorem qDgaa{P:Prop}(h:P:=by
 try go_simp
 refine hK.out _ _ (HG.d _ B2.a) ?_;clear hK K
 try simp only[pu]
 refine pD fun K hK=>?_;go_simp
 try go_simp
 refine hK.out _ _ (HG.d _ B2.a) ?_;clear hK K
 try simp only[pu]
 refine eP ?_;go_wp2_with fail;go_ret;exact⟨rfl,B2.b⟩):P:=h
theorem xI {w:World}{px ps kind td:Nat}{ty:TypeId}{kv:Value}(hT:FF w px ps ty kv kind td 0)(hs:∀W,Below w.heap.size w W->Cb 107 #[PV ps,.int .i64 kind,.int .i64 td,.int .u64 0] W (.int .i64 0)):
 Cb 86 #[PV px] w (.int .i64 0):=by
 have hn:=kw hT;have hs:=hs _ (aa _ w).drew;obtain⟨I,an,ad⟩:=kN px ps ty kv kind td 0;have al:=fun x:Fq I=>an _ x.ok;simp only[FF] at al;obtain⟨m0,m1,m2,m3,m4⟩:=iK al;have ao:I w.drew:=ad _ hT;have HG:=kq4 hn hs hT ad;clear hn hs hT an ad al;go_enter func86,ntmps86;go_wp2_with fail;refine HG.a.mono ?_;rintro e w1 ⟨rfl,rfl⟩;go_wp2_with fail;refine fh I (.take 0 (.take 1 (.take 2 (.take 3 (.take 4 (.take 5 (.take 6 (.take 7 (.take 8 (.take 9 (.take 10 (.take 11 (.take 12 (.take 13 (.take 14 (.take 15 (.go 16 (.go 17 .nil)))))))))))))))))) (by kernel_rfl) (by kernel_rfl) ao ?_
 iterate 16
  refine' pT ?_ ?_;rotate_left
  ·intro x;go_simp
   try rfl
  try simp only[pu]
 refine pD fun K hK=>?_;go_simp;refine HG.b.mono ?_;rintro e w2 ⟨rfl,ai⟩;have T2:=FF.below (w:=w.drew) HG.c ai;have B2:=kq2 T2 ((aa w.heap.size w).drew.trans ai);clear T2 ai;exact qDgaa
theorem xN {w:World}{px ps kind td:Nat}{ty:TypeId}{kv:Value}(hT:FF w px ps ty kv kind td 0)(hs:∀W,Below w.heap.size w W->Cb 108 #[PV ps,.int .i64 kind,.int .i64 td,.int .u64 0] W (.tuple #[.slice none 0 0,.int .i64 0])):
 Cb 87 #[PV px] w (.slice none 0 0):=by
 have hn:=kw hT;have hs:=hs _ (aa _ w).drew;obtain⟨I,an,ad⟩:=kN px ps ty kv kind td 0;have al:=fun x:Fq I=>an _ x.ok;simp only[FF] at al;obtain⟨m0,m1,m2,m3,m4⟩:=iK al;have ao:I w.drew:=ad _ hT;have HG:=kq4 hn hs hT ad;clear hn hs hT an ad al;go_enter func87,ntmps87;go_wp2_with fail;refine HG.a.mono ?_;rintro e w1 ⟨rfl,rfl⟩;go_wp2_with fail;refine fh I (.take 0 (.take 1 (.take 2 (.take 3 (.take 4 (.take 5 (.take 6 (.take 7 (.take 8 (.take 9 (.take 10 (.take 11 (.take 12 (.take 13 (.take 14 (.take 15 (.go 16 (.take 17 (.take 18 (.take 19 (.go 20 (.go 21 .nil)))))))))))))))))))))) (by kernel_rfl) (by kernel_rfl) ao ?_
 iterate 16
  refine' pT ?_ ?_;rotate_left
  ·intro x;go_simp
   try rfl
  try simp only[pu]
 refine pD fun K hK=>?_;go_simp;refine HG.b.mono ?_;rintro e w2 ⟨rfl,ai⟩;have T2:=FF.below (w:=w.drew) HG.c ai;have B2:=kq2 T2 ((aa w.heap.size w).drew.trans ai);clear T2 ai
 try go_simp
 refine hK.out _ _ (HG.d _ B2.a) ?_;clear hK K
 try simp only[pu]
 iterate 3
  refine' pT ?_ ?_;rotate_left
  ·intro x;go_simp
   try rfl
  try simp only[pu]
 refine pD fun K hK=>?_;go_simp;exact qDgaa
theorem vG {w:World}{ps px:Nat}{S:St}{Y:Nat->Prop}(h:Ig w ps S Y)(hi:Fv S)(hc:Cb 86 #[PV px] w (.int .i64 0))(hls:∀W,Below w.heap.size w W->Cb 87 #[PV px] W (.slice none 0 0))(limit:Nat)(hl:limit<=1000):
 Ct 60 #[PV ps,PV px,.int .i64 limit] w fun e w'=>∃pm,e=.returned (.tuple #[PV pm,.int .i64 0])/\Ic w' pm px ps limit/\Below w.heap.size w w'/\w.heap.size<=pm:=by
 have ad:=fB h hi 0 (by omega);rw[fU] at ad;have h1:((limit:Int)<0)=False:=eq_false (by omega);have h2:(1000<(limit:Int))=False:=eq_false (by omega);have HG:=kq3 ad hc hls;clear ad hc hls h hi hl;go_enter func60,ntmps60;go_wp2_with fail;refine HG.a.mono ?_;rintro e w1 ⟨rfl,rfl⟩;go_wp2_with fail;refine HG.b.mono ?_;rintro e w1 ⟨rfl,ai⟩;have H1:=If ai;clear ai;go_wp2_with fail;refine(HG.c _ H1.out).mono ?_;rintro e w2 ⟨rfl,al⟩;have H2:=If (H1.out.trans (al.mono H1.out.size));clear al;go_wp2_with fail
 go_loopw [11,33] (fun _ k wr=>k=.int .i64 0/\wr=w2) (fun _ _ _=>0)
 case atStart=>exact⟨rfl,rfl⟩
 case round=>
  obtain⟨rfl,rfl⟩:=hrel;have q:=heap_alloc_new wr (.cells #[PV ps,PV px,.int .i64 limit] 92);have HB:=kq2 q (H2.out.alloc H2.out.size (.cells #[PV ps,PV px,.int .i64 limit] 92));clear q;go_wp2_with fail;go_ret2;exact⟨wr.heap.size,rfl,HB.a,HB.b,H2.out.size⟩
theorem CR {w:World}{ps:Nat}{S:St}{Y:Nat->Prop}(h:Ig w ps S Y)(kind t:Int)(limit:Nat)(K:jo)(hlt:∀{w px ps root},K.On w px ps root->px<w.heap.size)(hbl:∀{w w' px ps root},K.On w px ps root->Below w.heap.size w w'->K.On w' px ps root)(hn:Ct 59 #[PV ps,.int .i64 kind,.int .i64 t] w fun e w'=>∃px,e=.returned (.tuple #[PV px,.int .i64 0])/\K.On w' px ps 0/\Below w.heap.size w w'/\w.heap.size<=px)(ho:∀W px,Ig W ps S Y->K.On W px ps 0->Ct 60 #[PV ps,PV px,.int .i64 limit] W fun e w'=>∃pm,e=.returned (.tuple #[PV pm,.int .i64 0])/\Ic w' pm px ps limit/\Below W.heap.size W w'/\W.heap.size<=pm):
 Ct 24 #[PV ps,.int .i64 kind,.int .i64 t,.int .i64 limit] w fun e w'=>∃pm px,e=.returned (.tuple #[PV pm,.int .i64 0])/\Ic w' pm px ps limit/\K.On w' px ps 0/\Below w.heap.size w w'/\w.heap.size<=pm/\w.heap.size<=px/\pm≠px:=by
 have ho:=fun W px (hW:Below w.heap.size w W) (hT:K.On W px ps 0)=>ho W px (h.below hW) hT;have HG:=kq2 hn ho;clear hn ho h;go_enter func24,ntmps24;go_wp2_with fail;refine HG.a.mono ?_;rintro e w1 ⟨px,rfl,hT,ad,lx⟩;have H1:=kq3 hT ad lx;clear hT ad lx;go_wp2_with fail;refine(HG.b _ px H1.b H1.a).mono ?_;rintro e w2 ⟨pm,rfl,hM,ai,lm⟩;have H2:=kq3 hM ai lm;clear hM ai lm;go_wp2_with fail;go_ret2;have hlt:=hlt H1.a;exact⟨pm,px,rfl,H2.a,hbl H1.a H2.b,H1.b.trans (H2.b.mono H1.b.size),aO H1.b.size H2.c,H1.c,by have:=H2.c;omega⟩
structure j5 (kind t:Int) (K:jo) (P:List (List UInt8×List UInt8)->Prop):Prop where
 ok:gB K P
 zero:∀{S:St} {o:Nat->Nat},Fw S o->K.Hold S o 0 [] []
 new:∀{w:World} {ps:Nat} {S:St} {o:Nat->Nat} {Y:Nat->Prop},Ig w ps S Y->Fw S o->Ct 59 #[PV ps,.int .i64 kind,.int .i64 t] w fun e w'=>∃px,e=.returned (.tuple #[PV px,.int .i64 0])/\K.On w' px ps 0/\Below w.heap.size w w'/\w.heap.size<=px
 of:∀{w:World} {ps px:Nat} {S:St} {o:Nat->Nat} {Y:Nat->Prop},Ig w ps S Y->Fw S o->K.On w px ps 0->∀limit:Nat,limit<=1000->Ct 60 #[PV ps,PV px,.int .i64 limit] w fun e w'=>∃pm,e=.returned (.tuple #[PV pm,.int .i64 0])/\Ic w' pm px ps limit/\Below w.heap.size w w'/\w.heap.size<=pm
abbrev tp(kind t:Int)(K:jo):Prop:=j5 kind t K fun _=>True
theorem rj {P:List (List UInt8×List UInt8)->Prop}{kind:Nat}{j c:FuncId}{jn:Jn}{Ok:Tr->Prop}(hk:jD kind j c jn)(hok:gB (jH kind Ok) P)(hnil:Ok .nil)(t:Int):j5 kind t (jH kind Ok) P where
 ok:=hok
 zero hf:=⟨.nil,⟨hf,trivial,hnil,List.nodup_nil,fun _ h=>(List.not_mem_nil h).elim,List.Pairwise.nil⟩,rfl,rfl,rfl⟩
 new h hf:=ES h hf.inv hk t
 of h hf hT limit hl:=vG h hf.inv (xI hT fun _ hW=>qa (h.below hW) hf.inv hk 0) (fun _ hW=>xN (FF.below hT hW) fun _ hW'=>Aa (h.below (hW.trans (hW'.mono hW.size))) hf.inv hk 0) limit hl
theorem BT {P:List (List UInt8×List UInt8)->Prop}{t:Nat}(hok:gB (mS t) P)(t1:2<=t)(t2:t<=16):j5 3 t (mS t) P where
 ok:=hok
 zero hf:=ab ⟨⟨hf,t1,t2⟩,rfl,rfl,rfl⟩
 new h hf:=Cv h hf.inv t1 t2
 of h hf hT limit hl:=vG h hf.inv (xI hT fun _ hW=>((qc (h.below hW) hf.inv t1 t2).mono fun _ _ ⟨q1,q2⟩=>⟨q1,q2▸aa _ _⟩)) (fun _ hW=>xN (FF.below hT hW) fun _ hW'=>Ab (h.below (hW.trans (hW'.mono hW.size))) hf t1 t2) limit hl
theorem BV {P:List (List UInt8×List UInt8)->Prop}(h1:∃K,∀t,j5 1 t K P)(h2:∃K,∀t,j5 2 t K P)(hok:∀t,gB (mS t) P)(kind t:Int)(h:kind=1\/kind=2\/kind=3/\2<=t/\t<=16):∃K,j5 kind t K P:=by
 rcases h with rfl | rfl | ⟨rfl,q1,q2⟩
 ·exact h1.imp fun _ h=>h t
 ·exact h2.imp fun _ h=>h t
 ·obtain⟨n,rfl⟩:∃n:Nat,t=n:=⟨t.toNat,by omega⟩;exact⟨_,BT (hok n) (by omega) (by omega)⟩
theorem BX {P:List (List UInt8×List UInt8)->Prop}:∃K,∀t,j5 2 t K P:=⟨_,rj ot (pU ot oq) oq.nil⟩
theorem BU(hins:∀d,j4 d)(kind t:Int)(h:kind=1\/kind=2\/kind=3/\2<=t/\t<=16):∃K,tp kind t K:=BV ⟨_,rj vi (pU vi va) va.nil⟩ BX (fun t=>Cw hins t) kind t h
def fj(L:List (List UInt8×List UInt8))(k:Int):Option (List UInt8×List UInt8):=if k<0 then none else L[k.toNat]?
def gI(L:List (List UInt8×List UInt8))(a:List UInt8):Int:=if(Bt.getL L a).isSome=true then(eK L a:Int) else(eK L a:Int)-1
structure fi (K:jo) (w W:World) (ps pm px limit root:Nat) (S:St) (Y:Nat->Prop) (L:List (List UInt8×List UInt8)):Prop where
 st:Ig W ps S Y
 hold:∃o R,K.Hold S o root L R
 on:K.On W px ps root
 map:Ic W pm px ps limit
 bl:Below w.heap.size w W
 own:∀k,k<w.heap.size->Y k
 yx:Y px
 ym:Y pm
 lx:w.heap.size<=px
 lm:w.heap.size<=pm
 ne:pm≠px
theorem yJ {L:List (List UInt8×List UInt8)}{k:Int}(h:fj L k=none):k<0\/(L.length:Int)<=k:=by
 unfold fj at h
 split at h
 ·exact ab ‹_›
 ·have:=List.getElem?_eq_none_iff.1 h;omega
theorem tE {L:List (List UInt8×List UInt8)}{k:Int}{p:List UInt8×List UInt8}(h:fj L k=some p):∃n:Nat,k=n/\L[n]?=some p:=by
 unfold fj at h
 split at h
 ·cases h
 ·exact⟨k.toNat,by omega,h⟩
section
variable {P:List (List UInt8×List UInt8)->Prop}{K:jo}{w W:World}{ps pm px limit root:Nat}{S:St}{Y:Nat->Prop}{L:List (List UInt8×List UInt8)}
theorem fi.below(ok:gB K P)(h:fi K w W ps pm px limit root S Y L){W':World}(hb:Below W.heap.size W W'):fi K w W' ps pm px limit root S Y L:=
 ⟨h.st.below hb,h.hold,ok.onBelow h.on hb,h.map.below hb,h.bl.trans (hb.mono h.bl.size),h.own,h.yx,h.ym,h.lx,h.lm,h.ne⟩
theorem fi.treeAt(ok:gB K P)(h:fi K w W ps pm px limit root S Y L)(hc:L.length<98)(k:Int)(hk:k<2^62)(q:Option (List UInt8×List UInt8))(hq:fj L k=q):
 ∀V,Below W.heap.size W V->Cb 53 #[PV px,.int .i64 k] V (.tuple #[eu (q.getD ([],[])),.int .i64 ((if q.isSome=true then 0 else 2:Nat):Nat)]):=fun V hV=>by
 obtain⟨o,R,hH⟩:=h.hold;have h':=h.below ok hV;cases q with
 | none=>exact ok.atRef h'.st hH hc h'.on k hk (yJ hq)
 | some p=>
  obtain⟨n,rfl,hn⟩:=tE hq;exact ok.at' h'.st hH hc h'.on n p hn
theorem fi.len(ok:gB K P)(h:fi K w W ps pm px limit root S Y L)(hc:L.length<98):
 Cb 22 #[PV pm] W (.int .i64 (L.length:Nat)):=by
 obtain⟨o,R,hH⟩:=h.hold;exact CQ h.map (ok.len h.st hH hc h.on)
theorem fi.rank(ok:gB K P)(h:fi K w W ps pm px limit root S Y L)(hc:L.length<98)(a:List UInt8):
 Cb 14 #[PV pm,SV a] W (.int .i64 (eK L a:Nat)):=by
 obtain⟨o,R,hH⟩:=h.hold;exact CU h.map a (ok.rank h.st hH hc h.on a)
theorem fi.get(ok:gB K P)(h:fi K w W ps pm px limit root S Y L)(hc:L.length<98)(a:List UInt8):
 Cb 15 #[PV pm,SV a] W (.tuple #[SV ((Bt.getL L a).getD []),.int .i64 ((if(Bt.getL L a).isSome=true then 0 else 5:Nat):Nat)]):=by
 obtain⟨o,R,hH⟩:=h.hold;have hg:=ok.get h.st hH hc h.on a
 cases q:Bt.getL L a with
 | none=>
  rw[q] at hg;exact CW h.map a hg
 | some v=>
  rw[q] at hg;exact CX h.map a v hg
theorem fi.select(ok:gB K P)(h:fi K w W ps pm px limit root S Y L)(hc:L.length<98)(k:Int)(hk:k<2^62)(q:Option (List UInt8×List UInt8))(hq:fj L k=q):
 Cb 18 #[PV pm,.int .i64 k] W (.tuple #[eu (q.getD ([],[])),.int .i64 ((if q.isSome=true then 0 else 2:Nat):Nat)]):=
 CV h.map k _ _ (h.treeAt ok hc k hk q hq)
theorem fi.place(ok:gB K P)(h:fi K w W ps pm px limit root S Y L)(hc:L.length<98)(a:List UInt8):
 ∀V,Below W.heap.size W V->Cb 52 #[PV pm,SV a] V (.int .i64 (gI L a)):=fun V hV=>by
 obtain⟨o,R,hH⟩:=h.hold;have h':=h.below ok hV;exact CL h'.map a (n:=eK L a) (by have:=nZ L a;omega) (Bt.getL L a).isSome ((Bt.getL L a).getD []) (ok.rank h'.st hH hc h'.on a) fun U hU=>ok.get (h'.below ok hU).st hH hc (h'.below ok hU).on a
theorem AZ(hc:L.length<98)(a:List UInt8):gI L a<2^62:=by
 have:=nZ L a;unfold gI;split<;>omega
theorem fi.floor(ok:gB K P)(h:fi K w W ps pm px limit root S Y L)(hc:L.length<98)(a:List UInt8)(q:Option (List UInt8×List UInt8))(hq:fj L (gI L a)=q):
 Cb 16 #[PV pm,SV a] W (.tuple #[eu (q.getD ([],[])),.int .i64 ((if q.isSome=true then 0 else 5:Nat):Nat)]):=by
 have ht:=h.treeAt ok hc (gI L a) (AZ hc a) q hq
 cases q with
 | none=>exact CP h.map a (gI L a) (h.place ok hc a) [] [] ht
 | some p=>exact CO h.map a (gI L a) (h.place ok hc a) p ht
theorem fi.ceiling(ok:gB K P)(h:fi K w W ps pm px limit root S Y L)(hc:L.length<98)(a:List UInt8)(q:Option (List UInt8×List UInt8))(hq:fj L (eK L a:Nat)=q):
 Cb 17 #[PV pm,SV a] W (.tuple #[eu (q.getD ([],[])),.int .i64 ((if q.isSome=true then 0 else 5:Nat):Nat)]):=by
 have hl:=nZ L a;have ht:=h.treeAt ok hc (eK L a:Nat) (by omega) q hq;have hr:=fun V (hV:Below W.heap.size W V)=>(h.below ok hV).rank ok hc a
 cases q with
 | none=>exact CN h.map a (eK L a:Nat) hr [] [] ht
 | some p=>exact CM h.map a (eK L a:Nat) hr p ht
theorem fi.absent_there(ok:gB K P)(h:fi K w W ps pm px limit root S Y L)(hc:L.length<98)(a b:List UInt8)(ha:a.length<=limit)(hb:b.length<=limit){v:List UInt8}(hv:Bt.getL L a=some v):
 Cb 25 #[PV pm,SV a,SV b] W (.int .i64 6):=by
 obtain⟨o,R,hH⟩:=h.hold;have hg:=ok.get h.st hH hc h.on a;rw[hv] at hg;exact CJ h.map a b ha hb hg
theorem fi.put {p q:Nat}(ok:gB K P)(h:fi K w W ps pm px limit root S Y L)(hs:fc S (20+p) (9+q))(a b:List UInt8)(ha:a.length<=limit)(hb:b.length<=limit)(hl:limit<=1000)(hc:L.length<98)(hP:P L):
 Ct 23 #[PV pm,SV a,SV b] W fun e w'=>e=.returned (.tuple #[SV ((Bt.getL L a).getD []),.bool (Bt.getL L a).isSome,.int .i64 0])/\∃(x:Nat) (S3:St),fi K w w' ps pm px limit x S3 Y (gV L a b)/\fc S3 p q:=by
 obtain⟨o,R,hH⟩:=h.hold;refine CS h.map a b _ _ ha hb ((ok.put h.st hH hc h.on h.yx hP a b (by omega) (by omega) (hs.mono (by omega) (by omega))).mono ?_);rintro e w' ⟨x,S3,rfl,h1,h2,h3,h4⟩;obtain⟨o3,R3,h5,_⟩:=h4.holds;exact⟨rfl,x,S3,⟨h1,⟨o3,R3,h5⟩,h3,(h2.block pm ⟨h.ym,h.ne⟩).trans h.map,h.bl.trans (Fo.below (h2.mono fun k hk=>⟨h.own k hk,fun q=>by have:=h.lx;omega⟩)),h.own,h.yx,h.ym,h.lx,h.lm,h.ne⟩,fc.grew hs h4.grew⟩
theorem vK {kind t:Int}(hk:j5 kind t K P){o:Nat->Nat}(h:Ig W ps S Y)(hf:Fw S o)(hb:Below w.heap.size w W)(hown:∀k,k<w.heap.size->Y k)(limit:Nat)(hl:limit<=1000):
 Ct 24 #[PV ps,.int .i64 kind,.int .i64 t,.int .i64 limit] W fun e w'=>∃(pm px:Nat) (Z:Nat->Prop),e=.returned (.tuple #[PV pm,.int .i64 0])/\fi K w w' ps pm px limit 0 S Z []/\(∀k,Y k->Z k)/\Below W.heap.size W w':=by
 refine(CR h kind t limit K hk.ok.onLt hk.ok.onBelow (hk.new h hf) fun V px hV hT=>hk.of hV hf hT limit hl).mono ?_;rintro e w' ⟨pm,px,rfl,hM,hT,ad,lm,lx,ne⟩;exact⟨pm,px,fun k=>Y k\/(W.heap.size<=k/\k<w'.heap.size),rfl,⟨h.wide ad,⟨o,[],hk.zero hf⟩,hT,hM,hb.trans (ad.mono hb.size),fun k hk=>ab (hown k hk),ae ⟨lx,hk.ok.onLt hT⟩,ae ⟨lm,(gl hM)⟩,aO hb.size lx,aO hb.size lm,ne⟩,fun k hk=>ab hk,ad⟩
end
theorem fi.wide {P:List (List UInt8×List UInt8)->Prop}{K:jo}(ok:gB K P){w W W':World}{ps pm px limit root:Nat}{S:St}{Y:Nat->Prop}{L:List (List UInt8×List UInt8)}(h:fi K w W ps pm px limit root S Y L)(hb:Below W.heap.size W W'):
 fi K w W' ps pm px limit root S (fun k=>Y k\/(W.heap.size<=k/\k<W'.heap.size)) L:=
 ⟨h.st.wide hb,h.hold,ok.onBelow h.on hb,h.map.below hb,h.bl.trans (hb.mono h.bl.size),fun k hk=>ab (h.own k hk),ab h.yx,ab h.ym,h.lx,h.lm,h.ne⟩
