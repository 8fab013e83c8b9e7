/- B-trees of any height, as rows of pairs: what a put makes of one: plain. -/
import Derived.Test.YtcibkdbpicledaaGreatDoorVBy
import Derived.Test.YtcibkdbpicledaaGreatDoorVPr
import Derived.Test.YtcibkdbpicledaaGreatDoorVBv
set_option maxRecDepth 100000
set_option maxHeartbeats 3200000
namespace Go.Proofs.YtcibkdbpicledaaGreatDoor
section
open Lf Tr
namespace Bt
variable{R:List Nat}{S:St}{o:Nat->Nat}
theorem two_fit(hf:Fw S o){a b:List UInt8}(ha:a.length<=1000)(hb:b.length<=1000)(hr:fc S 6 2):
 ∃ka vb S2 o2,itemsM S a b=some ((ka,vb),S2)/\nJ S a b/\Fw S2 o2/\reco S ka=none/\reco S vb=none/\ka≠vb/\reco S2 ka=some (FK a)/\reco S2 vb=some (FK b)/\(∀h',h'≠ka->h'≠vb->reco S2 h'=reco S h')/\ej S S2 6 2:=by
 obtain⟨ka,S1,o1,e1,f1,n1,l1,q1,g1,k1⟩:=oL hf ha (hr.mono (by omega) (by omega));obtain⟨vb,S2,o2,e2,f2,n2,l2,q2,g2,k2⟩:=oL f1 hb (fc.grew (hr.mono (p':=3+3) (q':=1+1) (by omega) (by omega)) g1);have ad:ka≠vb:=by rintro rfl;rw[l1] at n2;cases n2
 have ai:itemsM S a b=some ((ka,vb),S2):=by
  unfold itemsM;rw[e1];simp only;rw[e2]
  simp
 exact⟨ka,vb,S2,o2,ai,⟨ha,hb,k1,by rw[e1];exact k2⟩,f2,n1,(q1 _ ad.symm).symm.trans n2,ad,(q2 _ ad).trans l1,l2,fun h' w1 w2=>(q2 h' w2).trans (q1 h' w1),(g1.trans g2).mono (by omega) (by omega)⟩
def getL(L:List (List UInt8×List UInt8))(a:List UInt8):Option (List UInt8):=(L.find? fun p=>p.1==a).map (·.2)
theorem getL_pairs(l:List It)(a:List UInt8):getL (pairs l) a=(findB a l).map (·.v):=by
 unfold getL pairs findB;rw[List.find?_map,Option.map_map];rfl
theorem xu{l:List It}(hs:l.Pairwise eU){e e0:It}(hf:findB e.k l=some e0):
 ∃A B,l=A++e0::B/\l.map (eD e)=A++e::B/\e0.k=e.k/\(∀x∈A,Fu x.k e.k<0)/\∀x∈B,Fu e.k x.k<0:=by
 unfold findB at hf;have hm:=bK hf;have hk:e0.k=e.k:=by simpa using cC hf
 obtain⟨A,B,rfl⟩:=List.append_of_mem hm;obtain⟨p1,p2,p3⟩:=bi.1 hs;obtain⟨p4,p5⟩:=aK.1 p2;have hA:∀x∈A,Fu x.k e.k<0:=fun x hx=>by
  have:=p3 x hx e0 (ag ..);unfold eU at this;rwa[hk] at this
 have hB:∀x∈B,Fu e.k x.k<0:=fun x hx=>by
  have:=p4 x hx;unfold eU at this;rwa[hk] at this
 have e1:A.map (eD e)=A:=(aS fun x hx=>(mg (ne_of_lt (hA x hx)):eD e x=id x)).trans (dO _);have e2:B.map (eD e)=B:=(aS fun x hx=>(mg (fun q=>by have:=hB x hx;rw[q,fX] at this;omega):eD e x=id x)).trans (dO _);refine⟨A,B,rfl,?_,hk,hA,hB⟩;rw[aM,aN,e1,e2]
 congr 2
 exact if_pos hk
theorem pairs_ins{e:It}{l:List It}(hs:l.Pairwise eU)(hn:∀d∈l,d.k≠e.k):pairs (insB e l)=gV (pairs l) e.k e.v:=by
 obtain⟨b1,b2,b3⟩:=lL (key:=e.k) hs;have ad:∀d∈l.drop (Fr e.k l),Fu e.k d.k<0:=fun d hd=>by
  have h1:=b2 d hd;have h2:=hn d (bB hd);rw[ie]
  rcases db (Fu d.k e.k) 0 with g | g | g
  ·exact absurd g h1
  ·exact absurd (jL g) h2
  ·omega
 have h:=oO (a:=e.k) (b:=e.v) (d:=e) (tl:=l.take (Fr e.k l)) (tr:=l.drop (Fr e.k l)) (mid:=[]) ⟨rfl,rfl⟩ (fun x hx=>by cases hx) b1 ad;rw[bW,aZ] at h;exact h
theorem Dq{e e0:It}{l:List It}(hs:l.Pairwise eU)(hf:findB e.k l=some e0):pairs (l.map (eD e))=gV (pairs l) e.k e.v:=by
 obtain⟨A,B,h1,h2,h3,h4,h5⟩:=xu hs hf;rw[h2,h1];have h:=oO (a:=e.k) (b:=e.v) (d:=e) (tl:=A) (tr:=B) (mid:=[e0]) ⟨rfl,rfl⟩ (fun x hx=>by rw[aQ.1 hx];exact h3) h4 h5;rw[h]
 congr 2
 simp
theorem qDgaf{P:Prop}(h:P:=by
 exact(h.blobs a hx).frame (hS _ (ai _ (gh.2 ⟨a,hx,ab rfl⟩))) (hS _ (ai _ (gh.2 ⟨a,hx,ae rfl⟩)))):P:=h
theorem Tree.swap{t d:Nat}{x:Bt (d+1)}(h:Tree S o t x){e e0:It}(hb:gu S e)(ne:e.kh≠e.vh)(off:e.kh∉recs x/\e.vh∉recs x){g:Nat}{n:BN}{k:Nat}(r:RepAt S o t x e e0 g n k){S1:St}(hS1:S1=FC S g 0 (bnWords t (setN n k e))):
 Fw S1 o/\fz S1 e0.vh=(e0.v,0)/\e0.kh<2^64/\e0.vh<2^64/\Fv (S1.drop e0.kh).2/\∃S3,S3=((S1.drop e0.kh).2.drop e0.vh).2/\Tree S3 o t (eA (eD e) x)/\pairs (its (eA (eD e) x))=gV (pairs (its x)) e.k e.v/\ej S S3 0 0/\(∀y,y∉recs x->reco S3 y=reco S y)/\∀y∈recs (eA (eD e) x),y∈recs x\/y=e.kh\/y=e.vh:=by
 obtain⟨A,B,h1,h2,h3,h4,h5⟩:=xu h.sorted r.find;have a1:e0∈its x:=by rw[h1];simp
 have al:=h.blobs e0 a1;have k0:e0.kh∈ff (its x):=gh.2 ⟨e0,a1,ab rfl⟩;have v0:e0.vh∈ff (its x):=gh.2 ⟨e0,a1,ae rfl⟩;have ai:∀y∈ff (its x),y≠g:=fun y hy q=>h.apart g r.mem (q▸hy);have a4:e.kh≠g/\e.vh≠g:=⟨fun q=>off.1 (q▸az _ r.mem),fun q=>off.2 (q▸az _ r.mem)⟩;have a2:=h.texts;rw[h1,nO] at a2;have ec:∀(z:It) (l:List It),ff (z::l)=z.kh::z.vh::ff l:=fun _ _=>rfl;rw[ec] at a2;obtain⟨t1,t2,t3⟩:=aw.1 a2;obtain⟨t4,t5⟩:=aE.1 t2;obtain⟨t6,t7⟩:=aE.1 t5;have oe:∀y,y=e.kh\/y=e.vh->y∉ff (its x)/\y∉Bt.nodes x:=fun y hy=>by
  rcases hy with rfl | rfl
  ·exact⟨fun q=>off.1 (ax _ q),fun q=>off.1 (az _ q)⟩
  ·exact⟨fun q=>off.2 (ax _ q),fun q=>off.2 (az _ q)⟩
 have ad:∀y,y∈ff A\/y∈ff B->y∈ff (its x):=fun y hy=>by
  rw[h1,nO,ec]
  rcases hy with hy | hy
  ·exact az _ hy
  ·exact ax _ (aj _ (aj _ hy))
 have a0:its (eA (eD e) x)=A++e::B:=by rw[ln,h2]
 have ar:∀y,y∈ff (its (eA (eD e) x))↔y∈ff A\/y=e.kh\/y=e.vh\/y∈ff B:=fun y=>by
  rw[a0,nO,ec,ak,ah,ah]
 have ap:Tree S1 o t (eA (eD e) x):=by
  subst hS1;refine⟨r.fit,h.t1,h.t2,r.at',vF _ h.ok,?_,?_,?_,by rw[lW];exact h.nodes,?_,?_,by rw[vE];exact h.pos⟩
  ·rw[ln];refine List.pairwise_map.2 (h.sorted.imp fun {a b} q=>?_);unfold eU at q⊢;rw[wI,wI];exact q
  ·intro a ha;have hS:∀y,y≠g->reco (FC S g 0 (bnWords t (setN n k e))) y=reco S y:=r.fr;rw[a0] at ha
   rcases ak.1 ha with ha | ha
   ·have hx:a∈its x:=by rw[h1];exact az _ ha
    exact qDgaf
   ·rcases ah.1 ha with rfl | ha
    ·exact hb.frame (hS _ a4.1) (hS _ a4.2)
    ·have hx:a∈its x:=by rw[h1];exact ax _ (aj _ ha)
     exact qDgaf
  ·rw[ln,aq];exact h.few
  ·rw[a0,nO,ec];refine aw.2 ⟨t1,aE.2 ⟨fun q=>?_,aE.2 ⟨fun q=>(oe _ (ae rfl)).1 (ad _ (ae q)),t7⟩⟩,fun y hy z hz=>?_⟩
   ·rcases ah.1 q with q | q
    ·exact ne q
    ·exact(oe _ (ab rfl)).1 (ad _ (ae q))
   ·rintro rfl
    rcases ah.1 hz with q | hz
    ·exact(oe y (ab q)).1 (ad _ (ab hy))
    ·rcases ah.1 hz with q | hz
     ·exact(oe y (ae q)).1 (ad _ (ab hy))
     ·exact t3 y hy y (aj _ (aj _ hz)) rfl
  ·intro y hy hb1;rw[lW] at hy
   rcases(ar y).1 hb1 with q | q | q | q
   ·exact h.apart y hy (ad _ (ab q))
   ·exact(oe y (ab q)).2 hy
   ·exact(oe y (ae q)).2 hy
   ·exact h.apart y hy (ad _ (ae q))
 have au:∀y,y≠g->reco S1 y=reco S y:=by rw[hS1];exact r.fr
 have a7:ej S S1 0 0:=by rw[hS1];exact r.grew
 have kk:reco S1 e0.kh=some (FK e0.k):=(au _ (ai _ k0)).trans al.k;have vv:reco S1 e0.vh=some (FK e0.v):=(au _ (ai _ v0)).trans al.v;have a8:e0.kh≠e0.vh:=fun q=>t4 (by rw[q];exact ag ..);obtain⟨S2,e2,f2,m2,o2,g2⟩:=mQ ap.fit kk;obtain⟨S3,e3,f3,m3,o3,g3⟩:=mQ f2 ((o2 _ a8.symm).trans vv);have a5:e0.kh∉recs (eA (eD e) x)/\e0.vh∉recs (eA (eD e) x):=by
  have a6:∀y,y=e0.kh\/y=e0.vh->y∉ff A/\y∉ff B:=fun y hy=>by
   rcases hy with rfl | rfl
   ·exact⟨fun q=>t3 _ q _ (ag ..) rfl,fun q=>t4 (aj _ q)⟩
   ·exact⟨fun q=>t3 _ q _ (aj _ (ag ..)) rfl,t6⟩
  have a3:∀y,y=e0.kh\/y=e0.vh->y∈ff (its x)->y∉recs (eA (eD e) x):=fun y hy hyx q=>by
   unfold recs at q
   rcases ak.1 q with q | q
   ·rw[lW] at q;exact h.apart y q hyx
   ·rcases(ar y).1 q with q | q | q | q
    ·exact(a6 y hy).1 q
    ·exact(oe y (ab q)).1 hyx
    ·exact(oe y (ae q)).1 hyx
    ·exact(a6 y hy).2 q
  exact⟨a3 _ (ab rfl) k0,a3 _ (ae rfl) v0⟩
 refine⟨ap.fit,jt ap.fit al.lv vv,(blobs_lt h.fit al).1,(blobs_lt h.fit al).2,by rw[e2];exact f2.inv,S3,by rw[e2,e3],ap.frame f3 (fun y hy=>(o3 y fun q=>a5.2 (q▸hy)).trans (o2 y fun q=>a5.1 (q▸hy))),?_,((a7.trans g2).trans g3),fun y hy=>?_,fun y hy=>?_⟩
 ·rw[ln];exact Dq h.sorted r.find
 ·have w1:y≠e0.kh:=fun q=>hy (q▸ax _ k0);have w2:y≠e0.vh:=fun q=>hy (q▸ax _ v0);have w3:y≠g:=fun q=>hy (q▸az _ r.mem);exact(o3 y w2).trans ((o2 y w1).trans (au y w3))
 ·unfold recs at hy⊢
  rcases ak.1 hy with q | q
  ·rw[lW] at q;exact ab (az _ q)
  ·rcases(ar y).1 q with q | q | q | q
   ·exact ab (ax _ (ad _ (ab q)))
   ·exact ae (ab q)
   ·exact ae (ae q)
   ·exact ab (ax _ (ad _ (ae q)))
def Holds(S:St)(o:Nat->Nat)(t root:Nat)(L:List (List UInt8×List UInt8))(R:List Nat):Prop:=
 (Empty S o t/\root=0/\L=[]/\R=[])\/∃(d:Nat) (x:Bt (d+1)),Tree S o t x/\root=hd x/\L=pairs (its x)/\R=recs x
theorem Holds.fit{t root:Nat}{L:List (List UInt8×List UInt8)}(h:Holds S o t root L R):Fw S o:=by
 rcases h with⟨h,_⟩ | ⟨_,_,h,_⟩
 ·exact h.fit
 ·exact h.fit
theorem Holds.deg{t root:Nat}{L:List (List UInt8×List UInt8)}(h:Holds S o t root L R):2<=t/\t<=16:=by
 rcases h with⟨h,_⟩ | ⟨_,_,h,_⟩
 ·exact⟨h.t1,h.t2⟩
 ·exact⟨h.t1,h.t2⟩
theorem Holds.has{t root:Nat}{L:List (List UInt8×List UInt8)}(h:Holds S o t root L R):∀y∈R,reco S y≠none:=by
 rcases h with⟨_,_,_,rfl⟩ | ⟨_,_,h,_,_,rfl⟩
 ·intro y hy
  cases hy
 ·exact h.has
theorem Holds.frame{S S':St}{o o':Nat->Nat}{t root:Nat}{L:List (List UInt8×List UInt8)}(h:Holds S o t root L R)(hf:Fw S' o')(hs:∀y∈R,reco S' y=reco S y):Holds S' o' t root L R:=by
 rcases h with⟨h,h1,h2,h3⟩ | ⟨d,x,h,h1,h2,h3⟩
 ·exact ab ⟨⟨hf,h.t1,h.t2⟩,h1,h2,h3⟩
 ·refine ae ⟨d,x,h.frame hf (by rw[<-h3];exact hs),h1,h2,h3⟩
end Bt
end
section
open Go.RowKit Tryz Go.BigFrame Go.Maps Go.WideMaps Lf Tr
variable{S:St}{o:Nat->Nat}
abbrev jE(w:World)(px ps t root:Nat):Prop:=FF w px ps 187 (jx ps t) 3 t root
theorem rZ(hf:Fw S o):reco S 0=none:=by
 cases h:reco S 0 with
 | none=>rfl
 | some ws=>have:=(fL hf h).1;omega
theorem jT(l:List It):(pairs l).length=l.length:=by unfold pairs;exact aq _
def eK(L:List (List UInt8×List UInt8))(a:List UInt8):Nat:=L.countP fun p=>decide (Fu p.1 a<0)
theorem ue(l:List It)(a:List UInt8):eK (pairs l) a=Fr a l:=by
 unfold eK pairs Fr;rw[List.countP_map];rfl
theorem Bt.Tree.low40{t d:Nat}{x:Bt (d+1)}(h:Bt.Tree S o t x):d<40:=by have:=h.low;omega
section
variable {w:World}{px ps t root:Nat}{S:St}{o:Nat->Nat}{Y:Nat->Prop}{L:List (List UInt8×List UInt8)}{R:List Nat}
theorem uN(h:Ig w ps S Y)(hH:Bt.Holds S o t root L R):Cb 163 #[FH ps t,Xu root] w (Xi (L.length:Nat)):=by
 rcases hH with⟨hE,rfl,rfl,rfl⟩ | ⟨d,x,hx,rfl,rfl,rfl⟩
 ·exact zQ h hE.fit.inv hE.t1 hE.t2 0 (by omega) (oy (rZ hE.fit))
 ·have:=nS h hx.fit.inv hx.walk.read hx.walk.size.2;rw[hx.walk.size.1] at this;rw[jT];exact this
theorem uM(h:Ig w ps S Y)(hH:Bt.Holds S o t root L R)(key:List UInt8):∃E:Option It,(∀W,Below w.heap.size w W->Cb 320 #[FH ps t,Xu root,SV key] W (.tuple #[i7 E,.bool E.isSome,Xi (eK L key:Nat)]))/\Bt.getL L key=E.map (fun a:It=>a.v)/\∀a,E=some a->a.k=key/\gu S a:=by
 rcases hH with⟨hE,rfl,rfl,rfl⟩ | ⟨d,x,hx,rfl,rfl,rfl⟩
 ·exact⟨none,fun W hW=>tT (h.below hW) hE.fit.inv hE.t1 hE.t2 0 (by omega) (oy (rZ hE.fit)) key,rfl,fun _ q=>by cases q⟩
 ·refine⟨Bt.findB key (Bt.its x),fun W hW=>?_,Bt.getL_pairs _ _,fun a q=>?_⟩
  ·rw[ue];exact pY (h.below hW) hx.walk hx.low40 key
  ·unfold Bt.findB at q;exact⟨by simpa using cC q,hx.blobs a (bK q)⟩
theorem CF(h:Ig w ps S Y)(hH:Bt.Holds S o t root L R)(hT:jE w px ps t root):
 Cb 56 #[PV px] w (Xi (L.length:Nat)):=
 xM hT C8 AN fun _ hW=>CB fun _ hV=>zX (uN (h.below (hW.trans (hV.mono hW.size))) hH)
theorem CH(h:Ig w ps S Y)(hH:Bt.Holds S o t root L R)(hT:jE w px ps t root)(k:List UInt8):
 Cb 49 #[PV px,SV k] w (Xi (eK L k:Nat)):=by
 obtain⟨E,hd,_⟩:=uM h hH k;exact xO hT k C7 AM fun _ hW=>Cz k fun _ hV=>zW (hd _ (hW.trans (hV.mono hW.size)))
theorem CE(h:Ig w ps S Y)(hH:Bt.Holds S o t root L R)(hT:jE w px ps t root)(k:List UInt8):
 Cb 50 #[PV px,SV k] w (.tuple #[SV ((Bt.getL L k).getD []),.bool (Bt.getL L k).isSome]):=by
 have hf:=hH.fit;obtain⟨E,hd,hE,hb⟩:=uM h hH k;have ai:=fun W (hW:Below w.heap.size w W) V (hV:Below W.heap.size W V)=>nT (hd V (hW.trans (hV.mono hW.size))) fun V' hV'=>hd V' (by rw[hV'];exact(hW.trans (hV.mono hW.size)).alloc (hW.trans (hV.mono hW.size)).size _);rw[hE]
 cases E with
 | none=>exact nu (t:=[]) (e1:=0) hT k 0 0 false (fun _=>rfl) (fun e=>nomatch e) vO um fun _ hW=>vD k 0 0 false fun _ hV=>ai _ hW _ hV
 | some a=>
  have ad:=(hb a rfl).2;have hl:=Bt.blobs_lt hf ad;have hg:=jt hf ad.lv ad.v;exact nu hT k a.kh a.vh true a.v 0 (fun e=>nomatch e) (fun _ W hW=>by
   have:=iz (h.below hW) hf.inv a.vh hl.2 (by rw[hg];simp);rw[hg] at this;exact this) vO um fun _ hW=>vD k a.kh a.vh true fun _ hV=>ai _ hW _ hV
theorem CC(h:Ig w ps S Y)(hH:Bt.Holds S o t root L R)(hT:jE w px ps t root)(k:Nat){p:List UInt8×List UInt8}(hk:L[k]?=some p):
 Cb 53 #[PV px,Xi k] w (.tuple #[eu p,Xi 0]):=by
 rcases hH with⟨hE,rfl,rfl,rfl⟩ | ⟨d,x,hx,rfl,rfl,rfl⟩
 ·cases hk
 ·have hf:=hx.fit;have ai:∃e,(Bt.its x)[k]?=some e/\p=(e.k,e.v):=by
   unfold pairs at hk;rw[aT] at hk
   cases q:(Bt.its x)[k]? with
   | none=>rw[q] at hk;cases hk
   | some e=>
    rw[q] at hk
    cases hk
    exact⟨e,rfl,rfl⟩
  obtain⟨e,ai,rfl⟩:=ai;have ad:=hx.blobs e (bA ai);have hl:=Bt.blobs_lt hf ad;have hg:=jt hf ad.lv ad.v;have al:=jt hf ad.lk ad.k;exact xH hT k (e.k,e.v) e.kh e.vh 0 0 0 (ab rfl) vN ul (fun _ hW=>vC k e.kh e.vh 0 fun _ hV=>zS (h.below (hW.trans (hV.mono hW.size))) hx.walk hx.low40 ai) (fun _ W hW=>by
   have:=iz (h.below hW) hf.inv e.kh hl.1 (by rw[al];simp);rw[al] at this;exact this) (fun _ W hW=>by
   have:=iz (h.below hW) hf.inv e.vh hl.2 (by rw[hg];simp);rw[hg] at this;exact this)
theorem CD(h:Ig w ps S Y)(hH:Bt.Holds S o t root L R)(hT:jE w px ps t root)(k:Int)(hk:k<0\/(L.length:Int)<=k):
 Cb 53 #[PV px,Xi k] w (.tuple #[eu ([],[]),Xi 2]):=
 xH hT k ([],[]) 0 0 0 0 2 (ae ⟨rfl,rfl⟩) vN ul (fun _ hW=>vC k 0 0 2 fun _ hV=>zT (h.below (hW.trans (hV.mono hW.size))) hH.fit.inv hH.deg.1 hH.deg.2 (fun _ hU=>uN (h.below ((hW.trans (hV.mono hW.size)).trans (hU.mono (hW.trans (hV.mono hW.size)).size))) hH) hk) (fun e=>nomatch e) fun e=>nomatch e
structure iV (S:St) (L:List (List UInt8×List UInt8)) (R:List Nat) (Hold:St->(Nat->Nat)->Nat->List (List UInt8×List UInt8)->List Nat->Prop) (a b:List UInt8) (p q:Nat) (x:Nat) (S3:St):Prop where
 holds:∃o3 R3,Hold S3 o3 x (gV L a b) R3/\∀y∈R3,y∈R\/reco S y=none
 grew:ej S S3 p q
 apart:∀y,y∉R->reco S y≠none->reco S3 y=reco S y
theorem qDgae{P:Prop}(h:P:=by
 obtain⟨rfl,rfl,hR⟩:=hR;refine wx (sV px 0 0 W) fun w' hb=>?_;exact⟨S',rfl,hW.below hb,hW.keep hb,hR⟩):P:=h
theorem CG {a:List UInt8}(hins:Bt.getL L a=none->L≠[]->∀d,j4 d)(h:Ig w ps S Y)(hH:Bt.Holds S o t root L R)(hT:jE w px ps t root)(hpx:Y px)(b:List UInt8)(ha:a.length<=1000)(hb:b.length<=1000)(hc:L.length<126)(hr:fc S 20 9):
 Ct 58 #[PV px,eu (a,b)] w fun e w'=>∃(x:Nat) (S3:St),e=.returned (.tuple #[SV ((Bt.getL L a).getD []),.bool (Bt.getL L a).isSome,Xi 0])/\Ig w' ps S3 Y/\Fo (fun k=>Y k/\k≠px) w w'/\jE w' px ps t x/\iV S L R (fun S o x L R=>Bt.Holds S o t x L R) a b 20 9 x S3:=by
 obtain⟨ka,vb,S1,o1,a0,au,f1,n1,n2,a1,l1,l2,q1,g1⟩:=Bt.two_fit hH.fit ha hb (hr.mono (by omega) (by omega));have ad:∀y,reco S y≠none->reco S1 y=reco S y:=fun y hy=>q1 y (by rintro rfl;exact hy n1) (by rintro rfl;exact hy n2);have a7:fc S1 14 7:=fc.grew (hr.mono (p':=6+14) (q':=2+7) (by omega) (by omega)) g1;have al:gu S1 ⟨0,ka,vb,a,b⟩:=⟨l1,l2,ha,hb⟩
 rcases hH with⟨hE,rfl,rfl,rfl⟩ | ⟨d,x,hx,rfl,rfl,rfl⟩
 ·--the first key
  refine(ny h hE.fit.inv hT hpx a b au a0 false [] (R:=fun x ik iv S'=>ik=0/\iv=0/\iV S [] [] (fun S o x L R=>Bt.Holds S o t x L R) a b 20 9 x S') (R2:=fun x S'=>iV S [] [] (fun S o x L R=>Bt.Holds S o t x L R) a b 20 9 x S') rH qu (fun W Z hW _ _=>rA hW false fun V Z' hV=>?_) fun x ik iv S' hR W Z hW _ _=>?_).mono ?_
  ·refine(zH hV ⟨f1,hE.t1,hE.t2⟩ (e:=⟨0,ka,vb,a,b⟩) ⟨al,a1⟩ (a7.mono (by omega) (by omega))).mono ?_;rintro e w' ⟨y,S',o',rfl,hs,hk,ht,hi,hn,ar,hg⟩;refine⟨_,_,_,S',rfl,hs,hk,rfl,rfl,⟨⟨o',Bt.recs y,ae ⟨0,y,ht,rfl,?_,rfl⟩,fun z hzm=>?_⟩,(g1.trans hg).mono (by omega) (by omega),fun z _ hz=>(ar z (by rw[ad z hz];exact hz)).trans (ad z hz)⟩⟩
   ·rw[hi]
    rfl
   ·refine ae ?_
    cases q:reco S z with
    | none=>rfl
    | some ws=>
     exfalso
     have a8:=ad z (by rw[q];simp);unfold Bt.recs at hzm
     rcases ak.1 hzm with hm | hm
     ·rw[hn z hm,q] at a8
      cases a8
     ·rw[hi] at hm;have hm:z∈ [ka,vb]:=hm
      rcases ah.1 hm with rfl | hm
      ·rw[n1] at q
       cases q
      ·rw[aQ.1 hm,n2] at q
       cases q
  ·exact qDgae
  ·rintro e w' ⟨x,S3,rfl,h1,h2,h3,h4⟩;exact⟨x,S3,rfl,h1,h2,h3,h4⟩
 ·have ai:Bt.Tree S1 o1 t x:=hx.frame f1 fun y hy=>ad y (hx.has y hy);have bk:(Bt.its x).length<126:=by rw[jT] at hc;exact hc
  have a6:ka∉Bt.recs x/\vb∉Bt.recs x:=⟨fun q=>hx.has _ q n1,fun q=>hx.has _ q n2⟩;have bm:d<=5:=by
   have h1:=Bt.pow_le t hx.t1 hx.ok hx.pos
   rcases bZ 5 d with h3 | h3
   ·have:2^7<=2^(d+1):=cM (by decide) (by omega);have e:2^7=128:=by decide
    omega
   ·exact h3
  cases hf:Bt.findB a (Bt.its x) with
  | none=>
   have ap:Bt.getL (pairs (Bt.its x)) a=none:=by rw[Bt.getL_pairs,hf];rfl
   rw[ap];have a5:∀z∈Bt.its x,z.k≠a:=fun z hz q=>by
    unfold Bt.findB at hf;have:=bG.1 hf z hz;rw[q] at this
    simp at this
   have a':pairs (Bt.its x)≠[]:=fun q=>by
    have h1:=Bt.pow_le t hx.t1 hx.ok hx.pos;have h2:=congrArg List.length q;rw[jT] at h2;have h3:2^1<=2^(d+1):=cM (by decide) (by omega);have h2:(Bt.its x).length=0:=h2;omega
   have hq:=(oE t a x).2;have bc:fc S1 (2*iD t a x) (iD t a x):=a7.mono (by omega) (by omega);refine(ny h hx.fit.inv hT hpx a b au a0 false [] (R:=fun x' ik iv S'=>ik=0/\iv=0/\iV S (pairs (Bt.its x)) (Bt.recs x) (fun S o x L R=>Bt.Holds S o t x L R) a b 20 9 x' S') (R2:=fun x' S'=>iV S (pairs (Bt.its x)) (Bt.recs x) (fun S o x L R=>Bt.Holds S o t x L R) a b 20 9 x' S') rH qu (fun W Z hW _ _=>rA hW false fun V Z' hV=>?_) fun x' ik iv S' hR W Z hW _ _=>?_).mono ?_
   ·refine(zI (hins ap a') hV ai (e:=⟨0,ka,vb,a,b⟩) ⟨al,a1,a6,a5,by omega⟩ bc).mono ?_;rintro e w' ⟨d',y,S',o',rfl,hs,hk,ht,hi,hn,ar,hg⟩;have hg:ej S1 S' (2*iD t a x) (iD t a x):=hg;refine⟨_,_,_,S',rfl,hs,hk,rfl,rfl,⟨⟨o',Bt.recs y,ae ⟨d',y,ht,rfl,?_,rfl⟩,fun z hzm=>?_⟩,(g1.trans hg).mono (by omega) (by omega),fun z hzx hz=>(ar z (fun q=>hzx (az _ q)) (by rw[ad z hz];exact hz)).trans (ad z hz)⟩⟩
    ·rw[hi];exact(Bt.pairs_ins (e:=⟨0,ka,vb,a,b⟩) hx.sorted a5).symm
    ·unfold Bt.recs at hzm
     rcases ak.1 hzm with hm | hm
     ·rcases hn z hm with q | q
      ·exact ab (az _ q)
      ·refine ae ?_
       cases q2:reco S z with
       | none=>rfl
       | some ws=>
        have:=ad z (by rw[q2];simp);rw[q,q2] at this
        cases this
     ·rw[hi] at hm
      rcases(Bt.blobH_ins z).1 hm with rfl | rfl | q
      ·exact ae n1
      ·exact ae n2
      ·exact ab (ax _ q)
   ·exact qDgae
   ·rintro e w' ⟨x',S3,rfl,h1,h2,h3,h4⟩;exact⟨x',S3,rfl,h1,h2,h3,h4⟩
  | some e0=>
   have ap:Bt.getL (pairs (Bt.its x)) a=some e0.v:=by rw[Bt.getL_pairs,hf];rfl
   rw[ap];obtain⟨⟨g,n0,k0⟩,a4⟩:=Bt.nodeB_some (key:=a) ai.walk (by rw[hf];rfl);obtain⟨e1,a2⟩:=Bt.rep_at (e:=⟨0,ka,vb,a,b⟩) (Bt.blobs_lt f1 al) ai.walk ai.nodes ai.lts a4;obtain rfl:e1=e0:=Option.some.inj (a2.find.symm.trans hf);obtain⟨S2,a3⟩:∃S2,S2=FC S1 g 0 (bnWords t (Bt.setN n0 k0 ⟨0,ka,vb,a,b⟩)):=⟨_,rfl⟩;obtain⟨i2,b2,lk,lv,d2,S3,ba,bj,bd,g3,a9,bf⟩:=ai.swap al a1 a6 a2 a3;have bb:iV S (pairs (Bt.its x)) (Bt.recs x) (fun S o x L R=>Bt.Holds S o t x L R) a b 20 9 (Bt.hd x) S3:=by
    refine⟨⟨o1,_,ae ⟨d,_,bj,(Bt.mapB_hd _ x).symm,bd.symm,rfl⟩,fun y hy=>?_⟩,(g1.trans g3).mono (by omega) (by omega),fun y hy hz=>(a9 y hy).trans (ad y hz)⟩
    rcases bf y hy with q | rfl | rfl
    ·exact ab q
    ·exact ae n1
    ·exact ae n2
   refine(ny h hx.fit.inv hT hpx a b au a0 true e1.v (R:=fun x' ik iv S'=>x'=Bt.hd x/\ik=e1.kh/\iv=e1.vh/\S'=S2) (R2:=fun x' S'=>iV S (pairs (Bt.its x)) (Bt.recs x) (fun S o x L R=>Bt.Holds S o t x L R) a b 20 9 x' S') rH qu (fun W Z hW _ _=>rA hW true fun V Z' hV=>?_) fun x' ik iv S' hR W Z hW hTW hZ=>?_).mono ?_
   ·refine(zJ hV ai (e:=⟨0,ka,vb,a,b⟩) al a4 a2).mono ?_;rintro e w' ⟨rfl,hs,hk⟩;rw[<-a3] at hs;exact⟨_,_,_,S2,rfl,hs,hk,rfl,rfl,rfl,rfl⟩
   ·obtain⟨rfl,rfl,rfl,rfl⟩:=hR;refine(xL hW i2.inv hTW hZ e1.kh e1.vh lk lv (by rw[b2];simp) d2).mono ?_;rintro e w' ⟨rfl,hs,hk⟩;rw[b2];rw[<-ba] at hs;exact⟨S3,rfl,hs,hk,bb⟩
   ·rintro e w' ⟨x',S4,rfl,h1,h2,h3,h4⟩;exact⟨x',S4,rfl,h1,h2,h3,h4⟩
end
theorem zZ {w:World}{ps:Nat}{S:St}{Y:Nat->Prop}(h:Ig w ps S Y)(hi:Fv S){t:Nat}(t1:2<=t)(t2:t<=16):
 Ct 135 #[PV ps,Xi 3,Xi t] w fun e w'=>e=.returned (Xi 0)/\w=w':=by
 have ad:=fB h hi 0 (by omega);rw[fU] at ad;have ai:=fun W=>pW t t1 t2 W;have h6:((6*(t:Int))==0)=false:=by simp;omega
 have HG:=kq2 ad ai;clear ad h hi ai;go_enter func135,ntmps135;go_wp2_with fail;refine Jc HG.a ?_;go_wp2_with fail;refine Jc (HG.b _) ?_;go_wp2_with fail;go_ret;exact⟨rfl,rfl⟩
theorem zU {w:World}{ps:Nat}{S:St}{Y:Nat->Prop}(h:Ig w ps S Y)(hi:Fv S){t:Nat}(t1:2<=t)(t2:t<=16):
 Ct 136 #[PV ps,Xi t,Xu 0] w fun e w'=>e=.returned (Xi 0)/\w=w':=by
 have HG:=If (kZ h hi t1 t2);clear h hi;go_enter func136,ntmps136;go_wp2_with fail;refine Jc HG.out ?_;go_wp2_with fail;go_ret;exact⟨rfl,rfl⟩
theorem qc {w:World}{ps:Nat}{S:St}{Y:Nat->Prop}(h:Ig w ps S Y)(hi:Fv S){t:Nat}(t1:2<=t)(t2:t<=16):
 Ct 107 #[PV ps,Xi 3,Xi t,Xu 0] w fun e w'=>e=.returned (Xi 0)/\w=w':=by
 have HG:=kq2 (zZ h hi t1 t2) (zU h hi t1 t2);clear h hi;go_enter func107,ntmps107;go_wp2_with fail;refine Jc HG.a ?_;go_wp2_with fail;refine Jc HG.b ?_;go_wp2_with fail;go_ret;exact⟨rfl,rfl⟩
theorem Cy {w:World}{ps:Nat}{S:St}{Y:Nat->Prop}(h:Ig w ps S Y)(hi:Fv S){t:Nat}(t1:2<=t)(t2:t<=16):
 Ct 84 #[PV ps,Xi 3,Xi t,Xu 0] w fun e w'=>∃px,e=.returned (.tuple #[PV px,Xi 0])/\jE w' px ps t 0/\Below w.heap.size w w'/\w.heap.size<=px:=by
 have HG:=If (qc h hi t1 t2);have q:=heap_alloc_new w (.cells #[PV ps,Xi 3,Xi t,.iface 187 (.agg #[PV ps,Xi t]),Xu 0] 134);have B:=(aa w.heap.size w).alloc Ih (.cells #[PV ps,Xi 3,Xi t,.iface 187 (.agg #[PV ps,Xi t]),Xu 0] 134);have HB:=kq2 q B;clear h hi q B;go_enter func84,ntmps84;go_wp2_with fail;refine Jc HG.out ?_;go_wp2_with fail;go_ret2;exact⟨w.heap.size,rfl,HB.a,HB.b,Nat.le_refl _⟩
theorem Cv {w:World}{ps:Nat}{S:St}{Y:Nat->Prop}(h:Ig w ps S Y)(hi:Fv S){t:Nat}(t1:2<=t)(t2:t<=16):
 Ct 59 #[PV ps,Xi 3,Xi t] w fun e w'=>∃px,e=.returned (.tuple #[PV px,Xi 0])/\jE w' px ps t 0/\Below w.heap.size w w'/\w.heap.size<=px:=by
 have HG:=If (Cy h hi t1 t2);clear h hi;go_enter func59,ntmps59;go_wp2_with fail;refine HG.out.mono ?_;rintro e w1 ⟨px,rfl,hr⟩;have HB:=If hr;clear hr;go_wp2_with fail;go_ret2;exact⟨px,rfl,HB.out⟩
structure jo where
 On:World->Nat->Nat->Nat->Prop
 Hold:St->(Nat->Nat)->Nat->List (List UInt8×List UInt8)->List Nat->Prop
structure pL (K:jo):Prop where
 onBelow:∀{w w':World} {px ps root:Nat},K.On w px ps root->Below w.heap.size w w'->K.On w' px ps root
 onKeep:∀{w w':World} {px ps root:Nat} {Y:Nat->Prop},K.On w px ps root->Fo Y w w'->Y px->K.On w' px ps root
 onLt:∀{w:World} {px ps root:Nat},K.On w px ps root->px<w.heap.size
 onAt:∀{w w':World} {px ps root:Nat},K.On w px ps root->w'.heap[px]?=w.heap[px]?->K.On w' px ps root
 fit:∀{S:St} {o:Nat->Nat} {root:Nat} {L:List (List UInt8×List UInt8)} {R:List Nat},K.Hold S o root L R->Fw S o
 has:∀{S:St} {o:Nat->Nat} {root:Nat} {L:List (List UInt8×List UInt8)} {R:List Nat},K.Hold S o root L R->∀y∈R,reco S y≠none
 frame:∀{S S':St} {o o':Nat->Nat} {root:Nat} {L:List (List UInt8×List UInt8)} {R:List Nat},K.Hold S o root L R->Fw S' o'->(∀y∈R,reco S' y=reco S y)->K.Hold S' o' root L R
 sorted:∀{S:St} {o:Nat->Nat} {root:Nat} {L:List (List UInt8×List UInt8)} {R:List Nat},K.Hold S o root L R->L.Pairwise fun p q=>Fu p.1 q.1<0
 len:∀{w:World} {px ps root:Nat} {S:St} {o:Nat->Nat} {Y:Nat->Prop} {L:List (List UInt8×List UInt8)} {R:List Nat},Ig w ps S Y->K.Hold S o root L R->L.length<98->K.On w px ps root->
  Cb 56 #[PV px] w (Xi (L.length:Nat))
 rank:∀{w:World} {px ps root:Nat} {S:St} {o:Nat->Nat} {Y:Nat->Prop} {L:List (List UInt8×List UInt8)} {R:List Nat},Ig w ps S Y->K.Hold S o root L R->L.length<98->K.On w px ps root->∀k:List UInt8,
  Cb 49 #[PV px,SV k] w (Xi (eK L k:Nat))
 get:∀{w:World} {px ps root:Nat} {S:St} {o:Nat->Nat} {Y:Nat->Prop} {L:List (List UInt8×List UInt8)} {R:List Nat},Ig w ps S Y->K.Hold S o root L R->L.length<98->K.On w px ps root->∀k:List UInt8,
  Cb 50 #[PV px,SV k] w (.tuple #[SV ((Bt.getL L k).getD []),.bool (Bt.getL L k).isSome])
 at':∀{w:World} {px ps root:Nat} {S:St} {o:Nat->Nat} {Y:Nat->Prop} {L:List (List UInt8×List UInt8)} {R:List Nat},Ig w ps S Y->K.Hold S o root L R->L.length<98->K.On w px ps root->∀(k:Nat) (p:List UInt8×List UInt8),L[k]?=some p->
  Cb 53 #[PV px,Xi k] w (.tuple #[eu p,Xi 0])
 atRef:∀{w:World} {px ps root:Nat} {S:St} {o:Nat->Nat} {Y:Nat->Prop} {L:List (List UInt8×List UInt8)} {R:List Nat},Ig w ps S Y->K.Hold S o root L R->L.length<98->K.On w px ps root->∀k:Int,k<2^62->(k<0\/(L.length:Int)<=k)->
  Cb 53 #[PV px,Xi k] w (.tuple #[eu ([],[]),Xi 2])
structure gB (K:jo) (P:List (List UInt8×List UInt8)->Prop):Prop extends pL K where
 put:∀{w:World} {px ps root:Nat} {S:St} {o:Nat->Nat} {Y:Nat->Prop} {L:List (List UInt8×List UInt8)} {R:List Nat},Ig w ps S Y->K.Hold S o root L R->L.length<98->K.On w px ps root->Y px->P L->∀a b:List UInt8,a.length<=1000->b.length<=1000->fc S 20 9->
  Ct 58 #[PV px,eu (a,b)] w fun e w'=>∃(x:Nat) (S3:St),e=.returned (.tuple #[SV ((Bt.getL L a).getD []),.bool (Bt.getL L a).isSome,Xi 0])/\Ig w' ps S3 Y/\Fo (fun k=>Y k/\k≠px) w w'/\K.On w' px ps x/\iV S L R K.Hold a b 20 9 x S3
def mS(t:Nat):jo:=⟨fun w px ps root=>jE w px ps t root,fun S o root L R=>Bt.Holds S o t root L R⟩
theorem uY {l:List It}(h:l.Pairwise eU):(pairs l).Pairwise fun p q=>Fu p.1 q.1<0:=by
 unfold pairs;exact List.pairwise_map.2 (h.imp fun {a b} q=>q)
theorem CA(t:Nat):pL (mS t) where
 onBelow h hb:=FF.below h hb
 onKeep h hk hy:=FF.keep h hk hy
 onLt h:=(gl h)
 onAt h e:=e.trans h
 fit h:=Bt.Holds.fit h
 has h:=Bt.Holds.has h
 frame h:=Bt.Holds.frame h
 sorted h:=by
  rcases h with⟨_,_,rfl,_⟩ | ⟨_,_,h,_,rfl,_⟩
  ·exact List.Pairwise.nil
  ·exact uY h.sorted
 len h hH _ hT:=CF h hH hT
 rank h hH _ hT k:=CH h hH hT k
 get h hH _ hT k:=CE h hH hT k
 at' h hH _ hT k p hk:=CC h hH hT k hk
 atRef h hH _ hT k _ hk:=CD h hH hT k hk
theorem Cw(hins:∀d,j4 d)(t:Nat){P:List (List UInt8×List UInt8)->Prop}:gB (mS t) P:=
 { CA t with put:=fun h hH hc hT hpx _ _ b ha hb hr=>CG (fun _ _=>hins) h hH hT hpx b ha hb (by omega) hr }
def jH(kind:Nat)(Ok:Tr->Prop):jo:=⟨fun w px ps root=>FF w px ps 185 (fE ps kind) kind 0 root,fun S o root L R=>∃t:Tr,fC Ok S o t/\root=t.root/\L=pairs t.its/\R=eB t.its⟩
theorem At.item {S:St}:∀{t:Tr},Tr.At S t->∀d∈t.its,∃n0:Nd,reco S d.h=some (eM n0)/\n0.key=d.kh/\n0.val=d.vh
 | .nil,_,d,hd=>by cases hd
 | .node l e m r,ha,d,hd=>by
  obtain⟨h1,h2,h3⟩:=ha;rcases ak.1 (show d∈l.its++e::r.its from hd) with hd | hd
  ·exact At.item h2 d hd
  ·rcases ah.1 hd with rfl | hd
   ·exact⟨_,h1,rfl,rfl⟩
   ·exact At.item h3 d hd
theorem tM {Ok:Tr->Prop}{S:St}{o:Nat->Nat}{t:Tr}(h:fC Ok S o t)(hc:t.its.length<98)(key:List UInt8):∃hh,ij S key (Lf.limit S) t.root 0=some (hh,eK (pairs t.its) key)/\((hh=0/\Bt.getL (pairs t.its) key=none)\/∃d:It,hh=d.h/\d.h≠0/\d.h<2^64/\Bt.getL (pairs t.its) key=some d.v/\gD S (getNode S d.h).1.val=some d.v):=by
 obtain⟨hh,e,q⟩:=h.down (by omega) key;rw[<-ue] at e;refine⟨hh,e,?_⟩;rw[Bt.getL_pairs]
 rcases q with⟨rfl,q⟩ | ⟨d,hd,hk,rfl⟩
 ·rw[Bt.findB_none q];exact ab ⟨rfl,rfl⟩
 ·obtain⟨n0,e1,e2,e3⟩:=At.item h.at' d hd;have hf:Bt.findB key t.its=some d:=by
   cases hf:Bt.findB key t.its with
   | none=>
    unfold Bt.findB at hf;have:=bG.1 hf d hd;rw[hk] at this
    simp at this
   | some d'=>
    unfold Bt.findB at hf;have hm:=bK hf;have ad:d'.k=key:=by simpa using cC hf
    have hp:=h.sorted;rw[co] at hp;obtain⟨i,hi,rfl⟩:=cf.1 hd;obtain⟨j,hj,rfl⟩:=cf.1 hm;have ai:∀i j (hi:i<t.its.length) (hj:j<t.its.length),i<j->t.its[i].k≠t.its[j].k:=fun i j hi hj hij q=>by
     have:=hp i j hi hj hij;unfold eU at this;rw[q,fX] at this;omega
    rcases Nat.lt_trichotomy i j with q | q | q
    ·exact absurd (hk.trans ad.symm) (ai i j hi hj q)
    ·subst q
     rfl
    ·exact absurd (ad.trans hk.symm) (ai j i hj hi q)
  have ho:=fL h.fit e1;have hb:=h.blobs d hd;rw[hf];refine ae ⟨d,rfl,by omega,ho.2.1,rfl,?_⟩;rw[gw h.fit e1,e3];exact At.blob h.fit hb.lv hb.v
theorem nZ(L:List (List UInt8×List UInt8))(a:List UInt8):eK L a<=L.length:=bY
theorem AL(args:Array Value)(w:World):(callFunc 291 args).run prog w=.ok (.enter 291 args) w:=by kernel_rfl
theorem AK(args:Array Value)(w:World):(callFunc 289 args).run prog w=.ok (.enter 289 args) w:=by kernel_rfl
theorem qt(args:Array Value)(w:World):(callFunc 286 args).run prog w=.ok (.enter 286 args) w:=by kernel_rfl
theorem ui(args:Array Value)(w:World):(callFunc 287 args).run prog w=.ok (.enter 287 args) w:=by kernel_rfl
theorem uj(args:Array Value)(w:World):(callFunc 288 args).run prog w=.ok (.enter 288 args) w:=by kernel_rfl
theorem zg(kind:Nat)(Ok:Tr->Prop):pL (jH kind Ok) where
 onBelow h hb:=FF.below h hb
 onKeep h hk hy:=FF.keep h hk hy
 onLt h:=(gl h)
 onAt h e:=e.trans h
 fit h:=by obtain⟨t,h,_⟩:=h;exact h.fit
 has h:=by obtain⟨t,h,_,_,rfl⟩:=h;exact h.some
 frame h hf hs:=by obtain⟨t,h,h1,h2,rfl⟩:=h;exact⟨t,h.frame hf hs,h1,h2,rfl⟩
 sorted h:=by obtain⟨t,h,_,rfl,_⟩:=h;exact uY h.sorted
 len h hH hc hT:=by
  obtain⟨t,hb,rfl,rfl,rfl⟩:=hH;rw[jT] at hc⊢;exact xM hT Da AL fun _ hW=>zh (h.below hW) hb.fit.inv kind _ (hb.at'.root_lt hb.fit) (hb.at'.size hb.fit (by omega))
 rank h hH hc hT k:=by
  obtain⟨t,hb,rfl,rfl,rfl⟩:=hH;rw[jT] at hc;obtain⟨hh,e,_⟩:=tM hb hc k;exact xO hT k C9 AK fun _ hW=>zf (h.below hW) hb.fit.inv kind _ (hb.at'.root_lt hb.fit) k (by unfold oP;rw[e];rfl)
 get {w px ps root S o Y L R} h hH hc hT k:=by
  obtain⟨t,hb,rfl,rfl,rfl⟩:=hH;rw[jT] at hc;have hl:=hb.at'.root_lt hb.fit;obtain⟨hh,e,⟨rfl,q⟩ | ⟨d,rfl,q1,q2,q,q3⟩⟩:=tM hb hc k
  ·rw[q];refine nu (t:=[]) (e1:=0) hT k 0 0 false (fun _=>rfl) (fun e=>nomatch e) vP ui fun W hW=>?_;have:=tL (h.below hW) hb.fit.inv kind t.root hl k e (by simp);simpa[Id,qM,Nd.zero] using this
  ·rw[q];obtain⟨b1,b2⟩:=sS q3;refine nu hT k (getNode S d.h).1.key (getNode S d.h).1.val true d.v (fz S (getNode S d.h).1.val).2 (fun e=>nomatch e) (fun _ W hW=>?_) vP ui fun W hW=>?_
   ·have:=iz (h.below hW) hb.fit.inv _ (fs h d.h).val b1;rwa[b2] at this
   ·have:=tL (h.below hW) hb.fit.inv kind t.root hl k e q2;simpa[Id,q1] using this
 at' h hH hc hT k p hp:=by
  obtain⟨t,hb,rfl,rfl,rfl⟩:=hH;rw[jT] at hc;obtain⟨ad,ar⟩:=aA.1 hp;rw[jT] at ad;have al:=hb.place (by omega) ad;have hq:(pairs t.its)[k]?=some (t.its[k].k,t.its[k].v):=by unfold pairs;rw[aT,af ad];rfl
  have:p=(t.its[k].k,t.its[k].v):=Option.some.inj (hp.symm.trans hq);rw[<-this] at al;have hl:=hb.at'.root_lt hb.fit;obtain⟨hh,ap,h1,h2,h3⟩:=EQ al;obtain⟨b1,b2⟩:=sS h2;obtain⟨b3,b4⟩:=sS h3;have ai:=fs h hh;exact xH hT (k:Int) p _ _ _ _ 0 (ab rfl) rI qt (fun W hW=>tK (h.below hW) hb.fit.inv kind t.root hl k (by omega) h1 ap)
   (fun _ W hW=>by have:=iz (h.below hW) hb.fit.inv _ ai.key b1;rwa[b2] at this) (fun _ W hW=>by have:=iz (h.below hW) hb.fit.inv _ ai.val b3;rwa[b4] at this)
 atRef {w px ps root S o Y L R} h hH hc hT k hk2 hk:=by
  obtain⟨t,hb,rfl,rfl,rfl⟩:=hH;rw[jT] at hc hk;have hl:=hb.at'.root_lt hb.fit;by_cases h0:k<0
  ·refine xH hT k ([],[]) 0 0 0 0 2 (ae ⟨rfl,rfl⟩) rI qt (fun W hW=>?_) (fun e=>nomatch e) fun e=>nomatch e;have:=za (h.below hW) hb.fit.inv kind t.root k h0;simpa[Id,qM,Nd.zero] using this
  ·obtain⟨n,rfl⟩:∃n:Nat,k=n:=⟨k.toNat,by omega⟩;exact xH hT (n:Int) ([],[]) (getNode S 0).1.key (getNode S 0).1.val 0 0 2 (ae ⟨rfl,rfl⟩) rI qt (fun W hW=>tK (h.below hW) hb.fit.inv kind t.root hl n (by omega) (hb.over (by omega) (by omega)) (by decide)) (fun e=>nomatch e) fun e=>nomatch e
theorem pU {kind:Nat}{j c:FuncId}{jn:Jn}{Ok:Tr->Prop}(hk:jD kind j c jn)(J:kV jn Ok){P:List (List UInt8×List UInt8)->Prop}:gB (jH kind Ok) P where
 topL:=zg kind Ok
 put {w px ps root S o Y L R} h hH hc hT hpx _ a b ha hb' hr:=by
  obtain⟨t,hb,rfl,rfl,rfl⟩:=hH;rw[jT] at hc;have a1:=hr.mono (p':=7) (q':=3) (by omega) (by omega);have hl:=hb.at'.root_lt hb.fit;cases hf:Bt.findB a t.its with
  | none=>
   have ap:Bt.getL (pairs t.its) a=none:=by rw[Bt.getL_pairs,hf];rfl
   have a3:∀z∈t.its,z.k≠a:=fun z hz q=>by
    unfold Bt.findB at hf;have:=bG.1 hf z hz;rw[q] at this;simp at this
   rw[ap];obtain⟨u,S',o',po,ad,hB,ar,_,hg,al,au⟩:=DI J hb hc ha hb' a1 a3;unfold treePutM at ad;split at ad
   ·cases ad
   rename_i p S1 hit;have ai:iV S (pairs t.its) (eB t.its) (jH kind Ok).Hold a b 20 9 u.root S':=⟨⟨o',eB u.its,⟨u,hB,rfl,ar.symm,rfl⟩,au⟩,hg.mono (by omega) (by omega),al⟩;refine ny h hb.fit.inv hT hpx a b po.1 hit false [] (R:=fun x ik iv S2=>x=u.root/\ik=0/\iv=0/\S2=S') (R2:=fun x S2=>iV S (pairs t.its) (eB t.its) (jH kind Ok).Hold a b 20 9 x S2) vQ uj (fun W Z hW hp1 hp2=>?_) fun x ik iv S2 hR W Z hW _ _=>?_
   ·refine(zc hW (po.2 _ _ hit) hk t.root p.1 p.2 hl hp1 hp2 ad).mono ?_;rintro e w' ⟨rfl,h1,h2,_,_⟩;exact⟨_,_,_,S',rfl,h1,h2,rfl,rfl,rfl,rfl⟩
   ·obtain⟨rfl,rfl,rfl,rfl⟩:=hR;refine wx (sV px 0 0 W) fun w' hb=>?_;exact⟨_,rfl,hW.below hb,hW.keep hb,ai⟩
  | some d=>
   have ap:Bt.getL (pairs t.its) a=some d.v:=by rw[Bt.getL_pairs,hf];rfl
   rw[ap];have hd:d∈t.its:=by unfold Bt.findB at hf;exact bK hf
   have a2:d.k=a:=by unfold Bt.findB at hf;simpa using cC hf
   have a0:=Bt.blobs_lt hb.fit (hb.blobs d hd);obtain⟨u,S6,S8,o',po,ad,f6,b6,i6,e8,hB,ar,_,hg,al,au⟩:=DJ J hb hc ha hb' a1 hd a2;unfold treeRepM at ad;split at ad
   ·cases ad
   rename_i p S1 hit;have ai:iV S (pairs t.its) (eB t.its) (jH kind Ok).Hold a b 20 9 u.root S8:=⟨⟨o',eB u.its,⟨u,hB,rfl,ar.symm,rfl⟩,au⟩,hg.mono (by omega) (by omega),al⟩;refine ny h hb.fit.inv hT hpx a b po.1 hit true d.v (R:=fun x ik iv S2=>x=u.root/\ik=d.kh/\iv=d.vh/\S2=S6) (R2:=fun x S2=>iV S (pairs t.its) (eB t.its) (jH kind Ok).Hold a b 20 9 x S2) vQ uj (fun W Z hW hp1 hp2=>?_) fun x ik iv S2 hR W Z hW hTW hZ=>?_
   ·refine(zd hW (po.2 _ _ hit) hk t.root p.1 p.2 hl hp1 hp2 ad f6.inv).mono ?_;rintro e w' ⟨rfl,h1,h2,_,_⟩;exact⟨_,_,_,S6,rfl,h1,h2,rfl,rfl,rfl,rfl⟩
   ·obtain⟨rfl,rfl,rfl,rfl⟩:=hR;refine(xL hW f6.inv hTW hZ d.kh d.vh a0.1 a0.2 (by rw[b6];simp) i6).mono ?_;rintro e w' ⟨rfl,h1,h2⟩;rw[b6];rw[<-e8] at h1;exact⟨S8,rfl,h1,h2,ai⟩
theorem zM {w:World}{ps:Nat}{S:St}{Y:Nat->Prop}(h:Ig w ps S Y){t:Nat}(t1:2<=t)(t2:t<=16):
 Ct 165 #[FH ps t] w fun e w'=>(∃z:Nat,e=.returned (Xi z)/\1<=z)/\Below w.heap.size w w':=by
 have B0:=(aa w.heap.size w).alloc Ih (Xc ps t);have q0:=heap_alloc_new w (Xc ps t);have ai:=fun W (hW:Below w.heap.size w W)=>xo (h.below hW);have ap:=fun W=>pW t t1 t2 W;have a4:=nB h;obtain⟨wd,au⟩:=Ii S.words;rw[au] at a4 ai;have hq:((wd:Int)).tdiv (6*(t:Int))=((wd / (6*t):Nat):Int):=by
  rw[show (6*(t:Int))=((6*t:Nat):Int) by omega];exact(Int.ofNat_tdiv wd (6*t)).symm
 have a3:wd / (6*t)<=wd:=Nat.div_le_self _ _;obtain⟨qq,ar⟩:=Ii (wd / (6*t));rw[ar] at hq a3;have h6:((6*(t:Int))==0)=false:=by simp;omega
 have a5:(6*(t:Int))≠0:=by omega
 have a6:IntKind.i64.wrap ((qq:Int))=(qq:Int):=aD _ (by omega);have a7:IntKind.i64.wrap ((qq:Int)+1)=(qq:Int)+1:=aD _ (by omega);have HG:=kq4 ai ap B0 q0;obtain⟨W0,a2⟩:=Ii (w.alloc (Xc ps t));rw[a2] at HG;obtain⟨I,al,ad⟩:=ic fun w'=>w'.heap[w.heap.size]?=some (Xc ps t);have a0:=fun x:Fq I=>al _ x.ok;obtain⟨m0,m1⟩:=fw a0;have a1:I W0.drew:=ad _ HG.d;have HI:=If ad;clear al ad a0 ai ap B0 q0 h au ar;unfold FH;go_enter func165,ntmps165;go_wp2_with fail;refine fh I (.take 0 (.take 1 (.take 3 (.take 4 (.go 2 (.go 5 (.take 6 (.take 7 (.go 8 .nil))))))))) (by kernel_rfl) (by kernel_rfl) a1 ?_
 iterate 4
  refine' pT ?_ ?_;rotate_left
  ·intro x;go_simp
   try rfl
  try simp only[pu]
 refine pD fun K hK=>?_;go_simp;refine wx (HG.a _ (HG.c.drew)) fun w1 hb1=>?_;have H1:=kq2 (HG.c.drew.trans (hb1.mono HG.c.drew.size)) (HI.out _ ((hb1.block w.heap.size (gl HG.d)).trans HG.d));clear hb1
 try go_simp
 refine hK.out _ _ (H1.b) ?_;clear hK K
 try simp only[pu]
 refine pD fun K hK=>?_;go_simp;refine Jc (HG.b w1) ?_
 try go_simp
 refine hK.out _ _ (H1.b) ?_;clear hK K
 try simp only[pu]
 iterate 2
  refine' pT ?_ ?_;rotate_left
  ·intro x;go_simp
   try rfl
  try simp only[pu]
 refine pD fun K hK=>?_;go_simp
 try go_simp
 refine hK.out _ _ (H1.b) ?_;clear hK K
 try simp only[pu]
 refine eP ?_;go_wp2_with fail;go_ret;exact⟨⟨qq+1,by first | rfl | simp,by omega⟩,H1.a⟩
theorem zL {w:World}{ps:Nat}{S:St}{o:Nat->Nat}{Y:Nat->Prop}(h:Ig w ps S Y)(hf:Fw S o){t:Nat}(t1:2<=t)(t2:t<=16)(bl:Nat):
 Cb 166 #[FH ps t,.slice none 0 0,Xu 0,.pointer (some ⟨bl,0,none⟩),Xi 0] w (.slice none 0 0):=by
 have B0:=(aa w.heap.size w).alloc Ih (Xc ps t);have hg:=nQ (h.below B0) hf.inv t1 t2 0 (by omega) (oy (rZ hf));unfold FH eC at hg;have HG:=kq2 hg B0;clear hg B0 h hf;unfold FH;go_enter func166,ntmps166;go_wp2_with fail;refine wx HG.a fun w1 hb1=>?_;have B1:=HG.b.trans (hb1.mono HG.b.size);have H1:=If (B1.alloc B1.size (.cells #[.slice none 0 0,.slice none 0 0,.slice none 0 0,Xu 0] 286));clear hb1 B1;go_wp2_with fail;go_ret;exact⟨rfl,H1.out⟩
theorem zV {w:World}{ps:Nat}{S:St}{o:Nat->Nat}{Y:Nat->Prop}(h:Ig w ps S Y)(hf:Fw S o){t:Nat}(t1:2<=t)(t2:t<=16):
 Cb 138 #[PV ps,Xi t,Xu 0] w (.slice none 0 0):=by
 have ar:=kZ h hf.inv t1 t2;have B0:=(aa w.heap.size w).alloc Ih (Xc ps t);have q0:=heap_alloc_new w (Xc ps t);have ad:=zM (h.below B0) t1 t2;have al:=fun W (hW:Below w.heap.size w W) bl=>zL (h.below hW) hf t1 t2 bl;unfold FH at ad al;obtain⟨W0,ap⟩:=Ii (w.alloc (Xc ps t));rw[ap] at B0 q0 ad;obtain⟨x0,x1⟩:=Fp q0;have HG:=kq5 ar ad al B0 q0;clear ar ad al B0 q0 h hf;go_enter func138,ntmps138;go_wp2_with fail;refine Jc HG.a ?_;go_wp2_with fail;refine HG.b.mono ?_;rintro e w1 ⟨⟨z,rfl,hz⟩,ai⟩;have q1:=(ai.block w.heap.size (gl HG.e)).trans HG.e;have B1:=HG.d.trans (ai.mono HG.d.size);have A2:=(aa w1.heap.size w1).alloc Ih (Xl z);have q2:=(A2.block w.heap.size (gl q1)).trans q1;have B2:=B1.trans (A2.mono B1.size);clear ap x0 x1;obtain⟨W1,au⟩:=Ii (w1.alloc (Xl z));rw[au] at q2 B2;obtain⟨x0,x1⟩:=Fp q2;have H2:=If B2;clear ai q1 B1 A2 q2 B2;go_wp2_with fail;refine wx (HG.c _ H2.out _) fun w3 hb3=>?_;have H3:=If (H2.out.trans (hb3.mono H2.out.size));clear hb3;go_wp2_with fail;go_ret;exact⟨rfl,H3.out⟩
theorem Ab {w:World}{ps:Nat}{S:St}{o:Nat->Nat}{Y:Nat->Prop}(h:Ig w ps S Y)(hf:Fw S o){t:Nat}(t1:2<=t)(t2:t<=16):
 Cb 108 #[PV ps,Xi 3,Xi t,Xu 0] w (.tuple #[.slice none 0 0,Xi 0]):=by
 have hc:=qc h hf.inv t1 t2;have hl:=fun W (hW:Below w.heap.size w W)=>zV (h.below hW) hf t1 t2;have HG:=kq2 hc hl;clear hc hl h hf;go_enter func108,ntmps108;go_wp2_with fail;refine Jc HG.a ?_;have H1:=If (aa w.heap.size w);go_wp2_with fail;refine wx (HG.b _ H1.out) fun w2 hb2=>?_;have H2:=If (H1.out.trans (hb2.mono H1.out.size));clear hb2;go_wp2_with fail
 go_loopw [16,18,19,20,21,22,62] (fun l1 _ _ _ _ _ k wr=>l1=.slice none 0 0/\k=Xi 0/\wr=w2) (fun _ _ _ _ _ _ _ _=>0)
 case atStart=>exact⟨rfl,rfl,rfl⟩
 case round=>
  obtain⟨rfl,rfl,rfl⟩:=hrel;go_wp2_with fail;go_ret2;exact⟨rfl,H2.out⟩
theorem qDgad{P:Prop}(h:P:=by
 try go_simp
 refine hK.out _ _ (HG.d _ B2.a) ?_;clear hK K
 try simp only[pu]
 refine pD fun K hK=>?_;go_simp
 try go_simp
 refine hK.out _ _ (HG.d _ B2.a) ?_;clear hK K
 try simp only[pu]
 refine eP ?_;go_wp2_with fail;go_ret;exact⟨rfl,B2.b⟩):P:=h
theorem xI {w:World}{px ps kind td:Nat}{ty:TypeId}{kv:Value}(hT:FF w px ps ty kv kind td 0)(hs:∀W,Below w.heap.size w W->Cb 107 #[PV ps,Xi kind,Xi td,Xu 0] W (Xi 0)):
 Cb 86 #[PV px] w (Xi 0):=by
 have hn:=kw hT;have hs:=hs _ (aa _ w).drew;obtain⟨I,al,ad⟩:=kN px ps ty kv kind td 0;have ai:=fun x:Fq I=>al _ x.ok;simp only[FF] at ai;obtain⟨m0,m1,m2,m3,m4⟩:=iK ai;have ap:I w.drew:=ad _ hT;have HG:=kq4 hn hs hT ad;clear hn hs hT al ad ai;go_enter func86,ntmps86;go_wp2_with fail;refine Jc HG.a ?_;go_wp2_with fail;refine fh I (.take 0 (.take 1 (.take 2 (.take 3 (.take 4 (.take 5 (.take 6 (.take 7 (.take 8 (.take 9 (.take 10 (.take 11 (.take 12 (.take 13 (.take 14 (.take 15 (.go 16 (.go 17 .nil)))))))))))))))))) (by kernel_rfl) (by kernel_rfl) ap ?_
 iterate 16
  refine' pT ?_ ?_;rotate_left
  ·intro x;go_simp
   try rfl
  try simp only[pu]
 refine pD fun K hK=>?_;go_simp;refine wx HG.b fun w2 hb2=>?_;have T2:=FF.below (w:=w.drew) HG.c hb2;have B2:=kq2 T2 ((aa w.heap.size w).drew.trans hb2);clear T2 hb2;exact qDgad
theorem xN {w:World}{px ps kind td:Nat}{ty:TypeId}{kv:Value}(hT:FF w px ps ty kv kind td 0)(hs:∀W,Below w.heap.size w W->Cb 108 #[PV ps,Xi kind,Xi td,Xu 0] W (.tuple #[.slice none 0 0,Xi 0])):
 Cb 87 #[PV px] w (.slice none 0 0):=by
 have hn:=kw hT;have hs:=hs _ (aa _ w).drew;obtain⟨I,al,ad⟩:=kN px ps ty kv kind td 0;have ai:=fun x:Fq I=>al _ x.ok;simp only[FF] at ai;obtain⟨m0,m1,m2,m3,m4⟩:=iK ai;have ap:I w.drew:=ad _ hT;have HG:=kq4 hn hs hT ad;clear hn hs hT al ad ai;go_enter func87,ntmps87;go_wp2_with fail;refine Jc HG.a ?_;go_wp2_with fail;refine fh I (.take 0 (.take 1 (.take 2 (.take 3 (.take 4 (.take 5 (.take 6 (.take 7 (.take 8 (.take 9 (.take 10 (.take 11 (.take 12 (.take 13 (.take 14 (.take 15 (.go 16 (.take 17 (.take 18 (.take 19 (.go 20 (.go 21 .nil)))))))))))))))))))))) (by kernel_rfl) (by kernel_rfl) ap ?_
 iterate 16
  refine' pT ?_ ?_;rotate_left
  ·intro x;go_simp
   try rfl
  try simp only[pu]
 refine pD fun K hK=>?_;go_simp;refine wx HG.b fun w2 hb2=>?_;have T2:=FF.below (w:=w.drew) HG.c hb2;have B2:=kq2 T2 ((aa w.heap.size w).drew.trans hb2);clear T2 hb2
 try go_simp
 refine hK.out _ _ (HG.d _ B2.a) ?_;clear hK K
 try simp only[pu]
 iterate 3
  refine' pT ?_ ?_;rotate_left
  ·intro x;go_simp
   try rfl
  try simp only[pu]
 refine pD fun K hK=>?_;go_simp;exact qDgad
theorem vG {w:World}{ps px:Nat}{S:St}{Y:Nat->Prop}(h:Ig w ps S Y)(hi:Fv S)(hc:Cb 86 #[PV px] w (Xi 0))(hls:∀W,Below w.heap.size w W->Cb 87 #[PV px] W (.slice none 0 0))(limit:Nat)(hl:limit<=1000):
 Ct 60 #[PV ps,PV px,Xi limit] w fun e w'=>∃pm,e=.returned (.tuple #[PV pm,Xi 0])/\Ic w' pm px ps limit/\Below w.heap.size w w'/\w.heap.size<=pm:=by
 have ad:=fB h hi 0 (by omega);rw[fU] at ad;have h1:((limit:Int)<0)=False:=eq_false (by omega);have h2:(1000<(limit:Int))=False:=eq_false (by omega);have HG:=kq3 ad hc hls;clear ad hc hls h hi hl;go_enter func60,ntmps60;go_wp2_with fail;refine Jc HG.a ?_;go_wp2_with fail;refine wx HG.b fun w1 hb1=>?_;have H1:=If hb1;clear hb1;go_wp2_with fail;refine wx (HG.c _ H1.out) fun w2 hb2=>?_;have H2:=If (H1.out.trans (hb2.mono H1.out.size));clear hb2;go_wp2_with fail
 go_loopw [11,33] (fun _ k wr=>k=Xi 0/\wr=w2) (fun _ _ _=>0)
 case atStart=>exact⟨rfl,rfl⟩
 case round=>
  obtain⟨rfl,rfl⟩:=hrel;have q:=heap_alloc_new wr (.cells #[PV ps,PV px,Xi limit] 92);have HB:=kq2 q (H2.out.alloc H2.out.size (.cells #[PV ps,PV px,Xi limit] 92));clear q;go_wp2_with fail;go_ret2;exact⟨wr.heap.size,rfl,HB.a,HB.b,H2.out.size⟩
theorem CR {w:World}{ps:Nat}{S:St}{Y:Nat->Prop}(h:Ig w ps S Y)(kind t:Int)(limit:Nat)(K:jo)(hlt:∀{w px ps root},K.On w px ps root->px<w.heap.size)(hbl:∀{w w' px ps root},K.On w px ps root->Below w.heap.size w w'->K.On w' px ps root)(hn:Ct 59 #[PV ps,Xi kind,Xi t] w fun e w'=>∃px,e=.returned (.tuple #[PV px,Xi 0])/\K.On w' px ps 0/\Below w.heap.size w w'/\w.heap.size<=px)(ho:∀W px,Ig W ps S Y->K.On W px ps 0->Ct 60 #[PV ps,PV px,Xi limit] W fun e w'=>∃pm,e=.returned (.tuple #[PV pm,Xi 0])/\Ic w' pm px ps limit/\Below W.heap.size W w'/\W.heap.size<=pm):
 Ct 24 #[PV ps,Xi kind,Xi t,Xi limit] w fun e w'=>∃pm px,e=.returned (.tuple #[PV pm,Xi 0])/\Ic w' pm px ps limit/\K.On w' px ps 0/\Below w.heap.size w w'/\w.heap.size<=pm/\w.heap.size<=px/\pm≠px:=by
 have ho:=fun W px (hW:Below w.heap.size w W) (hT:K.On W px ps 0)=>ho W px (h.below hW) hT;have HG:=kq2 hn ho;clear hn ho h;go_enter func24,ntmps24;go_wp2_with fail;refine HG.a.mono ?_;rintro e w1 ⟨px,rfl,hT,ad,lx⟩;have H1:=kq3 hT ad lx;clear hT ad lx;go_wp2_with fail;refine(HG.b _ px H1.b H1.a).mono ?_;rintro e w2 ⟨pm,rfl,hM,ai,lm⟩;have H2:=kq3 hM ai lm;clear hM ai lm;go_wp2_with fail;go_ret2;have hlt:=hlt H1.a;exact⟨pm,px,rfl,H2.a,hbl H1.a H2.b,H1.b.trans (H2.b.mono H1.b.size),aO H1.b.size H2.c,H1.c,by have:=H2.c;omega⟩
structure j5 (kind t:Int) (K:jo) (P:List (List UInt8×List UInt8)->Prop):Prop where
 ok:gB K P
 zero:∀{S:St} {o:Nat->Nat},Fw S o->K.Hold S o 0 [] []
 new:∀{w:World} {ps:Nat} {S:St} {o:Nat->Nat} {Y:Nat->Prop},Ig w ps S Y->Fw S o->Ct 59 #[PV ps,Xi kind,Xi t] w fun e w'=>∃px,e=.returned (.tuple #[PV px,Xi 0])/\K.On w' px ps 0/\Below w.heap.size w w'/\w.heap.size<=px
 of:∀{w:World} {ps px:Nat} {S:St} {o:Nat->Nat} {Y:Nat->Prop},Ig w ps S Y->Fw S o->K.On w px ps 0->∀limit:Nat,limit<=1000->Ct 60 #[PV ps,PV px,Xi limit] w fun e w'=>∃pm,e=.returned (.tuple #[PV pm,Xi 0])/\Ic w' pm px ps limit/\Below w.heap.size w w'/\w.heap.size<=pm
abbrev tp(kind t:Int)(K:jo):Prop:=j5 kind t K fun _=>True
theorem rj {P:List (List UInt8×List UInt8)->Prop}{kind:Nat}{j c:FuncId}{jn:Jn}{Ok:Tr->Prop}(hk:jD kind j c jn)(hok:gB (jH kind Ok) P)(hnil:Ok .nil)(t:Int):j5 kind t (jH kind Ok) P where
 ok:=hok
 zero hf:=⟨.nil,⟨hf,trivial,hnil,List.nodup_nil,fun _ h=>(dq h).elim,List.Pairwise.nil⟩,rfl,rfl,rfl⟩
 new h hf:=ES h hf.inv hk t
 of h hf hT limit hl:=vG h hf.inv (xI hT fun _ hW=>JF (h.below hW) hf.inv hk 0) (fun _ hW=>xN (FF.below hT hW) fun _ hW'=>Aa (h.below (hW.trans (hW'.mono hW.size))) hf.inv hk 0) limit hl
theorem BT {P:List (List UInt8×List UInt8)->Prop}{t:Nat}(hok:gB (mS t) P)(t1:2<=t)(t2:t<=16):j5 3 t (mS t) P where
 ok:=hok
 zero hf:=ab ⟨⟨hf,t1,t2⟩,rfl,rfl,rfl⟩
 new h hf:=Cv h hf.inv t1 t2
 of h hf hT limit hl:=vG h hf.inv (xI hT fun _ hW=>((qc (h.below hW) hf.inv t1 t2).mono fun _ _ ⟨q1,q2⟩=>⟨q1,q2▸aa _ _⟩)) (fun _ hW=>xN (FF.below hT hW) fun _ hW'=>Ab (h.below (hW.trans (hW'.mono hW.size))) hf t1 t2) limit hl
theorem BV {P:List (List UInt8×List UInt8)->Prop}(h1:∃K,∀t,j5 1 t K P)(h2:∃K,∀t,j5 2 t K P)(hok:∀t,gB (mS t) P)(kind t:Int)(h:kind=1\/kind=2\/kind=3/\2<=t/\t<=16):∃K,j5 kind t K P:=by
 rcases h with rfl | rfl | ⟨rfl,q1,q2⟩
 ·exact h1.imp fun _ h=>h t
 ·exact h2.imp fun _ h=>h t
 ·obtain⟨n,rfl⟩:∃n:Nat,t=n:=⟨t.toNat,by omega⟩;exact⟨_,BT (hok n) (by omega) (by omega)⟩
theorem BX {P:List (List UInt8×List UInt8)->Prop}:∃K,∀t,j5 2 t K P:=⟨_,rj ot (pU ot oq) oq.nil⟩
theorem BU(hins:∀d,j4 d)(kind t:Int)(h:kind=1\/kind=2\/kind=3/\2<=t/\t<=16):∃K,tp kind t K:=BV ⟨_,rj vi (pU vi va) va.nil⟩ BX (fun t=>Cw hins t) kind t h
def fj(L:List (List UInt8×List UInt8))(k:Int):Option (List UInt8×List UInt8):=if k<0 then none else L[k.toNat]?
def gI(L:List (List UInt8×List UInt8))(a:List UInt8):Int:=if(Bt.getL L a).isSome=true then(eK L a:Int) else(eK L a:Int)-1
structure fi (K:jo) (w W:World) (ps pm px limit root:Nat) (S:St) (Y:Nat->Prop) (L:List (List UInt8×List UInt8)):Prop where
 st:Ig W ps S Y
 hold:∃o R,K.Hold S o root L R
 on:K.On W px ps root
 map:Ic W pm px ps limit
 bl:Below w.heap.size w W
 own:∀k,k<w.heap.size->Y k
 yx:Y px
 ym:Y pm
 lx:w.heap.size<=px
 lm:w.heap.size<=pm
 ne:pm≠px
theorem yJ {L:List (List UInt8×List UInt8)}{k:Int}(h:fj L k=none):k<0\/(L.length:Int)<=k:=by
 unfold fj at h
 split at h
 ·exact ab ‹_›
 ·have:=List.getElem?_eq_none_iff.1 h;omega
theorem tE {L:List (List UInt8×List UInt8)}{k:Int}{p:List UInt8×List UInt8}(h:fj L k=some p):∃n:Nat,k=n/\L[n]?=some p:=by
 unfold fj at h
 split at h
 ·cases h
 ·exact⟨k.toNat,by omega,h⟩
section
variable {P:List (List UInt8×List UInt8)->Prop}{K:jo}{w W:World}{ps pm px limit root:Nat}{S:St}{Y:Nat->Prop}{L:List (List UInt8×List UInt8)}
theorem fi.below(ok:gB K P)(h:fi K w W ps pm px limit root S Y L){W':World}(hb:Below W.heap.size W W'):fi K w W' ps pm px limit root S Y L:=
 ⟨h.st.below hb,h.hold,ok.onBelow h.on hb,h.map.below hb,h.bl.trans (hb.mono h.bl.size),h.own,h.yx,h.ym,h.lx,h.lm,h.ne⟩
theorem fi.treeAt(ok:gB K P)(h:fi K w W ps pm px limit root S Y L)(hc:L.length<98)(k:Int)(hk:k<2^62)(q:Option (List UInt8×List UInt8))(hq:fj L k=q):
 ∀V,Below W.heap.size W V->Cb 53 #[PV px,Xi k] V (.tuple #[eu (q.getD ([],[])),Xi ((if q.isSome=true then 0 else 2:Nat):Nat)]):=fun V hV=>by
 obtain⟨o,R,hH⟩:=h.hold;have h':=h.below ok hV;cases q with
 | none=>exact ok.atRef h'.st hH hc h'.on k hk (yJ hq)
 | some p=>
  obtain⟨n,rfl,hn⟩:=tE hq;exact ok.at' h'.st hH hc h'.on n p hn
theorem fi.len(ok:gB K P)(h:fi K w W ps pm px limit root S Y L)(hc:L.length<98):
 Cb 22 #[PV pm] W (Xi (L.length:Nat)):=by
 obtain⟨o,R,hH⟩:=h.hold;exact CQ h.map (ok.len h.st hH hc h.on)
theorem fi.rank(ok:gB K P)(h:fi K w W ps pm px limit root S Y L)(hc:L.length<98)(a:List UInt8):
 Cb 14 #[PV pm,SV a] W (Xi (eK L a:Nat)):=by
 obtain⟨o,R,hH⟩:=h.hold;exact CU h.map a (ok.rank h.st hH hc h.on a)
theorem fi.get(ok:gB K P)(h:fi K w W ps pm px limit root S Y L)(hc:L.length<98)(a:List UInt8):
 Cb 15 #[PV pm,SV a] W (.tuple #[SV ((Bt.getL L a).getD []),Xi ((if(Bt.getL L a).isSome=true then 0 else 5:Nat):Nat)]):=by
 obtain⟨o,R,hH⟩:=h.hold;have hg:=ok.get h.st hH hc h.on a
 cases q:Bt.getL L a with
 | none=>
  rw[q] at hg;exact CW h.map a hg
 | some v=>
  rw[q] at hg;exact CX h.map a v hg
theorem fi.select(ok:gB K P)(h:fi K w W ps pm px limit root S Y L)(hc:L.length<98)(k:Int)(hk:k<2^62)(q:Option (List UInt8×List UInt8))(hq:fj L k=q):
 Cb 18 #[PV pm,Xi k] W (.tuple #[eu (q.getD ([],[])),Xi ((if q.isSome=true then 0 else 2:Nat):Nat)]):=
 CV h.map k _ _ (h.treeAt ok hc k hk q hq)
theorem fi.place(ok:gB K P)(h:fi K w W ps pm px limit root S Y L)(hc:L.length<98)(a:List UInt8):
 ∀V,Below W.heap.size W V->Cb 52 #[PV pm,SV a] V (Xi (gI L a)):=fun V hV=>by
 obtain⟨o,R,hH⟩:=h.hold;have h':=h.below ok hV;exact CL h'.map a (n:=eK L a) (by have:=nZ L a;omega) (Bt.getL L a).isSome ((Bt.getL L a).getD []) (ok.rank h'.st hH hc h'.on a) fun U hU=>ok.get (h'.below ok hU).st hH hc (h'.below ok hU).on a
theorem fi.ceiling(ok:gB K P)(h:fi K w W ps pm px limit root S Y L)(hc:L.length<98)(a:List UInt8)(q:Option (List UInt8×List UInt8))(hq:fj L (eK L a:Nat)=q):
 Cb 17 #[PV pm,SV a] W (.tuple #[eu (q.getD ([],[])),Xi ((if q.isSome=true then 0 else 5:Nat):Nat)]):=by
 have hl:=nZ L a;have ht:=h.treeAt ok hc (eK L a:Nat) (by omega) q hq;have hr:=fun V (hV:Below W.heap.size W V)=>(h.below ok hV).rank ok hc a
 cases q with
 | none=>exact CN h.map a (eK L a:Nat) hr [] [] ht
 | some p=>exact CM h.map a (eK L a:Nat) hr p ht
theorem fi.put {p q:Nat}(ok:gB K P)(h:fi K w W ps pm px limit root S Y L)(hs:fc S (20+p) (9+q))(a b:List UInt8)(ha:a.length<=limit)(hb:b.length<=limit)(hl:limit<=1000)(hc:L.length<98)(hP:P L):
 Ct 23 #[PV pm,SV a,SV b] W fun e w'=>e=.returned (.tuple #[SV ((Bt.getL L a).getD []),.bool (Bt.getL L a).isSome,Xi 0])/\∃(x:Nat) (S3:St),fi K w w' ps pm px limit x S3 Y (gV L a b)/\fc S3 p q:=by
 obtain⟨o,R,hH⟩:=h.hold;refine CS h.map a b _ _ ha hb ((ok.put h.st hH hc h.on h.yx hP a b (by omega) (by omega) (hs.mono (by omega) (by omega))).mono ?_);rintro e w' ⟨x,S3,rfl,h1,h2,h3,h4⟩;obtain⟨o3,R3,h5,_⟩:=h4.holds;exact⟨rfl,x,S3,⟨h1,⟨o3,R3,h5⟩,h3,(h2.block pm ⟨h.ym,h.ne⟩).trans h.map,h.bl.trans (Fo.below (h2.mono fun k hk=>⟨h.own k hk,fun q=>by have:=h.lx;omega⟩)),h.own,h.yx,h.ym,h.lx,h.lm,h.ne⟩,fc.grew hs h4.grew⟩
theorem vK {kind t:Int}(hk:j5 kind t K P){o:Nat->Nat}(h:Ig W ps S Y)(hf:Fw S o)(hb:Below w.heap.size w W)(hown:∀k,k<w.heap.size->Y k)(limit:Nat)(hl:limit<=1000):
 Ct 24 #[PV ps,Xi kind,Xi t,Xi limit] W fun e w'=>∃(pm px:Nat) (Z:Nat->Prop),e=.returned (.tuple #[PV pm,Xi 0])/\fi K w w' ps pm px limit 0 S Z []/\(∀k,Y k->Z k)/\Below W.heap.size W w':=by
 refine(CR h kind t limit K hk.ok.onLt hk.ok.onBelow (hk.new h hf) fun V px hV hT=>hk.of hV hf hT limit hl).mono ?_;rintro e w' ⟨pm,px,rfl,hM,hT,ad,lm,lx,ne⟩;exact⟨pm,px,fun k=>Y k\/(W.heap.size<=k/\k<w'.heap.size),rfl,⟨h.wide ad,⟨o,[],hk.zero hf⟩,hT,hM,hb.trans (ad.mono hb.size),fun k hk=>ab (hown k hk),ae ⟨lx,hk.ok.onLt hT⟩,ae ⟨lm,(gl hM)⟩,aO hb.size lx,aO hb.size lm,ne⟩,fun k hk=>ab hk,ad⟩
end
theorem fi.wide {P:List (List UInt8×List UInt8)->Prop}{K:jo}(ok:gB K P){w W W':World}{ps pm px limit root:Nat}{S:St}{Y:Nat->Prop}{L:List (List UInt8×List UInt8)}(h:fi K w W ps pm px limit root S Y L)(hb:Below W.heap.size W W'):
 fi K w W' ps pm px limit root S (fun k=>Y k\/(W.heap.size<=k/\k<W'.heap.size)) L:=
 ⟨h.st.wide hb,h.hold,ok.onBelow h.on hb,h.map.below hb,h.bl.trans (hb.mono h.bl.size),fun k hk=>ab (h.own k hk),ab h.yx,ab h.ym,h.lx,h.lm,h.ne⟩
def im(l:List (List UInt8×List UInt8)):List (List UInt8×List UInt8):=l.foldl (fun L p=>gV L p.1 p.2) []
theorem DF(l:List (List UInt8×List UInt8))(p:List UInt8×List UInt8):im (l++[p])=gV (im l) p.1 p.2:=by
 unfold im;rw[List.foldl_append];rfl
theorem xQ(p q:List UInt8×List UInt8->Bool)(h:∀x,¬(p x=true/\q x=true)):∀L:List (List UInt8×List UInt8),(L.filter p).length+(L.filter q).length<=L.length
 | []=>Nat.le_refl _
 | x::L=>by
  have ih:=xQ p q h L;have hx:=h x;rw[List.filter_cons,List.filter_cons,av];split<;>split<;>(try simp only[av])<;>first | omega | (exfalso;exact hx ⟨by assumption,by assumption⟩)
theorem DG(L:List (List UInt8×List UInt8))(a b:List UInt8):(gV L a b).length<=L.length+1:=by
 unfold gV;rw[aG,av];have:=xQ (fun p=>decide (Fu p.1 a<0)) (fun p=>decide (0<Fu p.1 a)) (fun x ⟨h1,h2⟩=>by simp at h1 h2;omega) L;omega
theorem wo:∀(l L:List (List UInt8×List UInt8)),(l.foldl (fun L p=>gV L p.1 p.2) L).length<=L.length+l.length
 | [],_=>Nat.le_refl _
 | p::l,L=>by
  have h1:=wo l (gV L p.1 p.2);have h2:=DG L p.1 p.2;rw[List.foldl_cons,av];omega
theorem wt(l:List (List UInt8×List UInt8)):(im l).length<=l.length:=by
 have h:=wo l [];rwa[aL,bQ] at h
theorem xB {α:Type}{l:List α}{i:Nat}(h:i<l.length):l.take (i+1)=l.take i++[l[i]]:=by
 rw[List.take_add_one,af h];rfl
def FO(kind t:Int):Bool:=decide (kind=1\/kind=2\/kind=3/\2<=t/\t<=16)
theorem qDgac{P:Prop}(h:P:=by
 go_enter func19,ntmps19;go_wp2_with fail;go_ret;exact⟨rfl,rfl⟩):P:=h
theorem Gd(kind t:Int)(w:World):
 Ct 19 #[Xi kind,Xi t] w fun e w'=>e=.returned (.bool (FO kind t))/\w=w':=by
 by_cases h1:kind=1
 ·rw[show FO kind t=true from decide_eq_true (ab h1)];subst h1;exact qDgac
 by_cases h2:kind=2
 ·rw[show FO kind t=true from decide_eq_true (ae (ab h2))];subst h2;exact qDgac
 by_cases h3:kind=3
 ·subst h3
  by_cases h4:2<=t
  ·by_cases h5:t<=16
   ·rw[show FO 3 t=true from decide_eq_true (ae (ae ⟨rfl,h4,h5⟩))];exact qDgac
   ·rw[show FO 3 t=false from decide_eq_false (by omega)];exact qDgac
  ·rw[show FO 3 t=false from decide_eq_false (by omega)];exact qDgac
 ·rw[show FO kind t=false from decide_eq_false (by omega)];have e1:(kind==1)=false:=by simpa using h1
  have e2:(kind==2)=false:=by simpa using h2
  have e3:(kind==3)=false:=by simpa using h3
  exact qDgac
def pK(l:List (List UInt8×List UInt8)):Prop:=∀p∈l,p.1.length<=1000/\p.2.length<=1000
theorem Ig.write3 {w w':World}{ps:Nat}{S:St}{Y:Nat->Prop}{b:Nat}{cs:Array Value}{t:TypeId}{fr:Nat×Nat}(h:Ig w ps S Y)(hy:Y b)(hb:w.heap[b]?=some (.cells cs t fr))(ht:t≠130/\t≠177)(hne:b≠fy)
 (hs:w.heap.size<=w'.heap.size) (hw:∀k,k<w.heap.size->k≠b->w'.heap[k]?=w.heap[k]?):Ig w' ps S Y:=by
 obtain⟨pa,pm,ph,pt,v,h⟩:=h;refine⟨pa,pm,ph,pt,v,h.of_keep hs fun k hk hc=>hw k hk ?_⟩;rintro rfl;rcases hc with hc | rfl | rfl | rfl
 ·exact hc hy
 ·have:=h.hd;rw[hb] at this;injection this with this
  injection this with _ this
  exact ht.1 this
 ·have:=h.heap.hp;rw[hb] at this;injection this with this
  injection this with _ this
  exact ht.2 this
 ·exact hne rfl
theorem fi.write {P:List (List UInt8×List UInt8)->Prop}{K:jo}(ok:gB K P){w W W':World}{ps pm px limit root:Nat}{S:St}{Y:Nat->Prop}{L:List (List UInt8×List UInt8)}(h:fi K w W ps pm px limit root S Y L)(ht:fy<w.heap.size){b:Nat}{cs:Array Value}{t:TypeId}{fr:Nat×Nat}(hy:Y b)(hb:W.heap[b]?=some (.cells cs t fr))(hty:t≠130/\t≠177)(hbw:w.heap.size<=b)(hpx:b≠px)(hpm:b≠pm)
 (hs:W'.heap.size=W.heap.size) (ho:W'.os=W.os/\W'.tape=W.tape/\W'.output=W.output) (hw:∀k,k≠b->W'.heap[k]?=W.heap[k]?):fi K w W' ps pm px limit root S Y L:=
 ⟨h.st.write3 hy hb hty (by omega) (by omega) fun k _ hk=>hw k hk,h.hold,ok.onKeep (Y:=fun k=>k≠b) h.on ⟨ho.1,ho.2.1,ho.2.2,by omega,fun k hk=>hw k hk⟩ (Ne.symm hpx),(hw pm (Ne.symm hpm)).trans h.map,h.bl.trans ⟨ho.1,ho.2.1,ho.2.2,by have:=h.bl.size;omega,fun k hk=>hw k (by omega)⟩,h.own,h.yx,h.ym,h.lx,h.lm,h.ne⟩
def Jw(K:jo)(hh:Nat)(ws:List Nat):jo:=⟨K.On,fun S o root L R=>∃T,R=hh::T/\K.Hold S o root L T/\hh∉T/\reco S hh=some ws⟩
theorem IH {K:jo}(ok:pL K)(hh:Nat)(ws:List Nat):pL (Jw K hh ws) where
 onBelow:=ok.onBelow
 onKeep:=ok.onKeep
 onLt:=ok.onLt
 onAt:=ok.onAt
 fit h:=by obtain⟨T,_,h,_⟩:=h;exact ok.fit h
 has h:=by
  obtain⟨T,rfl,h,_,hr⟩:=h;intro y hy;rcases ah.1 hy with rfl | hy
  ·rw[hr];exact fun e=>nomatch e
  ·exact ok.has h y hy
 frame h hf hs:=by
  obtain⟨T,rfl,h,hn,hr⟩:=h;exact⟨T,rfl,ok.frame h hf fun y hy=>hs y (aj _ hy),hn,(hs _ (ag ..)).trans hr⟩
 sorted h:=by obtain⟨T,_,h,_⟩:=h;exact ok.sorted h
 len h hH:=by obtain⟨T,_,hH,_⟩:=hH;exact ok.len h hH
 rank h hH:=by obtain⟨T,_,hH,_⟩:=hH;exact ok.rank h hH
 get h hH:=by obtain⟨T,_,hH,_⟩:=hH;exact ok.get h hH
 at' h hH:=by obtain⟨T,_,hH,_⟩:=hH;exact ok.at' h hH
 atRef h hH:=by obtain⟨T,_,hH,_⟩:=hH;exact ok.atRef h hH
theorem Jv {K:jo}{P:List (List UInt8×List UInt8)->Prop}(ok:gB K P)(hh:Nat)(ws:List Nat):gB (Jw K hh ws) P where
 topL:=IH ok.topL hh ws
 put {w px ps root S o Y L R} h hH hc hT hpx hP a b ha hb hs:=by
  obtain⟨T,rfl,hH,hn,hr⟩:=hH;refine(ok.put h hH hc hT hpx hP a b ha hb hs).mono ?_;rintro e w' ⟨x,S3,rfl,h1,h2,h3,h4⟩;obtain⟨o3,R3,h5,h6⟩:=h4.holds;have h0:reco S hh≠none:=by rw[hr];exact fun e=>nomatch e
  refine⟨x,S3,rfl,h1,h2,h3,⟨o3,hh::R3,⟨R3,rfl,h5,fun hm=>?_,(h4.apart hh hn h0).trans hr⟩,fun y hy=>?_⟩,h4.grew,fun y hy=>h4.apart y fun hm=>hy (aj _ hm)⟩
  ·rcases h6 hh hm with q | q
   ·exact hn q
   ·exact h0 q
  ·rcases ah.1 hy with rfl | hy
   ·exact ab (ag ..)
   ·exact(h6 y hy).imp (aj _) id
structure Iu (S:St) (L:List (List UInt8×List UInt8)) (R:List Nat) (Hold:St->(Nat->Nat)->Nat->List (List UInt8×List UInt8)->List Nat->Prop) (a:List UInt8) (x:Nat) (S3:St):Prop where
 holds:∃o3 R3,Hold S3 o3 x (dW L a) R3/\∀y∈R3,y∈R
 grew:ej S S3 0 0
 apart:∀y,y∉R->reco S y≠none->reco S3 y=reco S y
structure dV (K:jo):Prop where
 cut:∀{w:World} {px ps root:Nat} {S:St} {o:Nat->Nat} {Y:Nat->Prop} {L:List (List UInt8×List UInt8)} {R:List Nat},Ig w ps S Y->K.Hold S o root L R->L.length<98->K.On w px ps root->Y px->∀(a v:List UInt8) (M:List (List UInt8×List UInt8)),a.length<=1000->L=(a,v)::M->
  Ct 89 #[PV px,SV a] w fun e w'=>∃(x:Nat) (S3:St),e=.returned (.tuple #[SV v,.bool true,Xi 0])/\Ig w' ps S3 Y/\Fo (fun k=>Y k/\k≠px) w w'/\K.On w' px ps x/\Iu S L R K.Hold a x S3
theorem IE {K:jo}(hc:dV K)(hh:Nat)(ws:List Nat):dV (Jw K hh ws):=by
 constructor
 intro w px ps root S o Y L R h hH hl hT hpx a v M ha hv;obtain⟨T,rfl,hH,hn,hr⟩:=hH;refine(hc.cut h hH hl hT hpx a v M ha hv).mono ?_;rintro e w' ⟨x,S3,rfl,h1,h2,h3,h4⟩;obtain⟨o3,R3,h5,h6⟩:=h4.holds;refine⟨x,S3,rfl,h1,h2,h3,⟨o3,hh::R3,⟨R3,rfl,h5,fun hm=>hn (h6 hh hm),(h4.apart hh hn (by rw[hr];exact fun e=>nomatch e)).trans hr⟩,fun y hy=>?_⟩,h4.grew,fun y hy=>h4.apart y fun hm=>hy (aj _ hm)⟩
 rcases ah.1 hy with rfl | hy
 ·exact ag ..
 ·exact aj _ (h6 y hy)
theorem Iy {kind:Nat}{j c:FuncId}{jn:Jn}{Ok:Tr->Prop}(hk:jD kind j c jn)(J:kV jn Ok):dV (jH kind Ok):=by
 constructor
 intro w px ps root S o Y L R h hH hc hT hpx a v M ha hv;obtain⟨t,hb,rfl,rfl,rfl⟩:=hH;rw[jT] at hc;obtain⟨d,l,hl⟩:∃d l,t.its=d::l:=by
  cases e:t.its with
  | nil=>rw[e] at hv;cases hv
  | cons d l=>exact⟨d,l,rfl⟩
 have hd:d∈t.its:=by rw[hl];exact ag ..
 rw[hl] at hv
 injection hv with hv _
 injection hv with hdk hdv
 subst hdv;have ap:∀y∈t.its,¬Fu y.k a<0:=fun y hy ad=>by
  have hs:=hb.sorted;rw[hl] at hs hy
  rcases ah.1 hy with rfl | hy
  ·rw[hdk,fX] at ad;omega
  ·have h1:Fu d.k y.k<0:=(aK.1 hs).1 y hy;rw[hdk] at h1;have:=ig h1 ad;rw[fX] at this;omega
 have q0:Bt.getL (pairs t.its) a=some d.v:=by
  rw[Bt.getL_pairs,hl];unfold Bt.findB;rw[List.find?_cons_of_pos (by simp[hdk])]
  rfl
 have ad:=Bt.blobs_lt hb.fit (hb.blobs d hd);obtain⟨F,e,q⟩:=tM hb hc a;rw[q0] at q
 rcases q with⟨_,q⟩ | ⟨x,rfl,q1,q2,_⟩
 ·cases q
 ·obtain⟨u,S6,S8,al,f6,b6,i6,e8,hB,ar,_,hg,ai,au⟩:=IK J hb hc ha hd hdk ap;refine(IZ h hb.fit.inv hT hpx (hb.at'.root_lt hb.fit) hk a e q1 q2 al ad.1 ad.2 f6.inv (by rw[b6];simp) i6).mono ?_;rintro e w' ⟨rfl,h1,h2,h3,_⟩;rw[b6];rw[<-e8] at h1;exact⟨u.root,S8,rfl,h1,h2,h3,⟨_,_,⟨u,hB,rfl,ar.symm,rfl⟩,au⟩,hg,ai⟩
structure an (K:jo) (w:World) (ps pm px limit:Nat) (L:List (List UInt8×List UInt8)) (p q:Nat) (l:List (Nat×Obj)) (W:World):Prop where
 ex:∃root S Y,fi K w W ps pm px limit root S Y L/\fc S p q/\∀x∈l,Y x.1/\x.1≠px/\x.1≠pm/\w.heap.size<=x.1/\W.heap[x.1]?=some x.2
 nd:(l.map Prod.fst).Nodup
 tb:fy<w.heap.size
section
variable {P:List (List UInt8×List UInt8)->Prop}{K:jo}{w W W':World}{ps pm px limit p q b:Nat}{L:List (List UInt8×List UInt8)}{l:List (Nat×Obj)}{x y:Nat×Obj}{o:Obj}
theorem an.below(ok:gB K P)(h:an K w ps pm px limit L p q l W)(hb:Below W.heap.size W W'):an K w ps pm px limit L p q l W':=by
 obtain⟨root,S,Y,h1,h2,h3⟩:=h.ex;refine⟨⟨root,S,Y,h1.below ok hb,h2,fun x hx=>?_⟩,h.nd,h.tb⟩;obtain⟨a,b,c,d,e⟩:=h3 x hx;exact⟨a,b,c,d,(hb.block _ (gl e)).trans e⟩
theorem an.box(ok:gB K P)(h:an K w ps pm px limit L p q l W)(o:Obj):an K w ps pm px limit L p q ((W.heap.size,o)::l) (W.alloc o):=by
 obtain⟨root,S,Y,h1,h2,h3⟩:=h.ex;have A:=(aa W.heap.size W).alloc Ih o;refine⟨⟨root,S,_,h1.wide ok A,h2,fun x hx=>?_⟩,?_,h.tb⟩
 ·rcases ah.1 hx with rfl | hx
  ·exact⟨ae ⟨Nat.le_refl _,by simp⟩,Nat.ne_of_gt (ok.onLt h1.on),Nat.ne_of_gt (gl h1.map),h1.bl.size,heap_alloc_new W o⟩
  ·obtain⟨a,b,c,d,e⟩:=h3 x hx;exact⟨ab a,b,c,d,(A.block _ (gl e)).trans e⟩
 ·refine aE.2 ⟨fun hm=>?_,h.nd⟩;obtain⟨x,hx,e⟩:=ay.1 hm;have:=(gl (h3 x hx).2.2.2.2);omega
theorem an.at(h:an K w ps pm px limit L p q l W)(hb:(b,o)∈l):W.heap[b]?=some o:=by
 obtain⟨_,_,_,_,_,h3⟩:=h.ex;exact(h3 _ hb).2.2.2.2
theorem an.bl(h:an K w ps pm px limit L p q l W):Below w.heap.size w W:=by
 obtain⟨_,_,_,h,_⟩:=h.ex;exact h.bl
theorem an.on(h:an K w ps pm px limit L p q l W):Ic W pm px ps limit:=by
 obtain⟨_,_,_,h,_⟩:=h.ex;exact h.map
theorem an.perm {l':List (Nat×Obj)}(h:an K w ps pm px limit L p q l W)(hp:l.Perm l'):an K w ps pm px limit L p q l' W:=by
 obtain⟨root,S,Y,h1,h2,h3⟩:=h.ex;exact⟨⟨root,S,Y,h1,h2,fun x hx=>h3 x (hp.mem_iff.2 hx)⟩,(hp.map _).nodup_iff.1 h.nd,h.tb⟩
theorem an.swap(h:an K w ps pm px limit L p q (x::y::l) W):an K w ps pm px limit L p q (y::x::l) W:=h.perm (.swap ..)
theorem an.tail(h:an K w ps pm px limit L p q (x::l) W):an K w ps pm px limit L p q l W:=by
 obtain⟨root,S,Y,h1,h2,h3⟩:=h.ex;exact⟨⟨root,S,Y,h1,h2,fun x hx=>h3 x (aj _ hx)⟩,(aE.1 h.nd).2,h.tb⟩
theorem an.step {K':jo}{root p' q':Nat}{S S':St}{Y:Nat->Prop}{o':Obj}(ok:gB K P)(h:an K w ps pm px limit L p q ((b,o)::l) W)(h1:fi K w W ps pm px limit root S Y L)(h3:∀x∈(b,o)::l,Y x.1/\x.1≠px/\x.1≠pm/\w.heap.size<=x.1/\W.heap[x.1]?=some x.2)
 (s1:Ig W' ps S' Y) (hk:Fo (fun k=>Y k/\k≠b) W W') (hb:W'.heap[b]?=some o') (s2:∃o R,K'.Hold S' o root L R) (s3:fc S' p' q') (hK:K'.On=K.On):an K' w ps pm px limit L p' q' ((b,o')::l) W':=by
 obtain⟨n1,n2⟩:=aE.1 h.nd;obtain⟨b1,b2,b3,b4,b5⟩:=h3 _ (ag ..);refine⟨⟨root,S',Y,⟨s1,s2,by rw[hK];exact ok.onAt h1.on (hk.block _ ⟨h1.yx,Ne.symm b2⟩),(hk.block _ ⟨h1.ym,Ne.symm b3⟩).trans h1.map,h1.bl.trans (Fo.below (hk.mono fun k hk=>⟨h1.own k hk,by simp only at b4;omega⟩)),h1.own,h1.yx,h1.ym,h1.lx,h1.lm,h1.ne⟩,s3,fun x hx=>?_⟩,h.nd,h.tb⟩;rcases ah.1 hx with rfl | hx
 ·exact⟨b1,b2,b3,b4,hb⟩
 ·obtain⟨x1,x2,x3,x4,x5⟩:=h3 x (aj _ hx);exact⟨x1,x2,x3,x4,(hk.block _ ⟨x1,fun e=>n1 (ay.2 ⟨x,hx,e⟩)⟩).trans x5⟩
theorem an.write(ok:gB K P){cs:Array Value}{t:TypeId}{fr:Nat×Nat}{o':Obj}(h:an K w ps pm px limit L p q ((b,.cells cs t fr)::l) W)(hty:t≠130/\t≠177)
 (hs:W'.heap.size=W.heap.size) (ho:W'.os=W.os/\W'.tape=W.tape/\W'.output=W.output) (hw:∀k,k≠b->W'.heap[k]?=W.heap[k]?) (hb:W'.heap[b]?=some o'):an K w ps pm px limit L p q ((b,o')::l) W':=by
 obtain⟨root,S,Y,h1,h2,h3⟩:=h.ex;obtain⟨b1,b2,b3,b4,b5⟩:=h3 _ (ag ..);have:=h.tb;exact h.step ok h1 h3 (h1.st.write3 b1 b5 hty (by simp only at b4;omega) (dT hs.symm) fun k _=>hw k) ⟨ho.1,ho.2.1,ho.2.2,dT hs.symm,fun k hk=>hw k hk.2⟩ hb h1.hold h2 rfl
theorem an.put(ok:gB K P)(h:an K w ps pm px limit L (20+p) (9+q) l W)(a b:List UInt8)(ha:a.length<=limit)(hb:b.length<=limit)(hl:limit<=1000)(hc:L.length<98)(hP:P L):
 Ct 23 #[PV pm,SV a,SV b] W fun e w'=>e=.returned (.tuple #[SV ((Bt.getL L a).getD []),.bool (Bt.getL L a).isSome,Xi 0])/\an K w ps pm px limit (gV L a b) p q l w':=by
 obtain⟨root,S,Y,h1,hs,h3⟩:=h.ex;obtain⟨o,R,hH⟩:=h1.hold;refine CS h1.map a b _ _ ha hb ((ok.put h1.st hH hc h1.on h1.yx hP a b (by omega) (by omega) (hs.mono (by omega) (by omega))).mono ?_);rintro e w' ⟨x,S3,rfl,k1,k2,k3,k4⟩;obtain⟨o3,R3,k5,_⟩:=k4.holds;exact⟨rfl,⟨x,S3,Y,⟨k1,⟨o3,R3,k5⟩,k3,(k2.block pm ⟨h1.ym,h1.ne⟩).trans h1.map,h1.bl.trans (Fo.below (k2.mono fun k hk=>⟨h1.own k hk,fun q=>by have:=h1.lx;omega⟩)),h1.own,h1.yx,h1.ym,h1.lx,h1.lm,h1.ne⟩,fc.grew hs k4.grew,fun z hz=>by
  obtain⟨z1,z2,z3,z4,z5⟩:=h3 z hz;exact⟨z1,z2,z3,z4,(k2.block _ ⟨z1,z2⟩).trans z5⟩⟩,h.nd,h.tb⟩
theorem an.cut(hcut:dV K)(h:an K w ps pm px limit L p q l W)(a v:List UInt8)(M:List (List UInt8×List UInt8))(ha:a.length<=1000)(hc:L.length<98)(hv:L=(a,v)::M):
 Ct 65 #[PV pm,SV a] W fun e w'=>e=.returned (.tuple #[SV v,Xi 0])/\an K w ps pm px limit (dW L a) p q l w':=by
 obtain⟨root,S,Y,h1,hs,h3⟩:=h.ex;obtain⟨o,R,hH⟩:=h1.hold;refine IP h1.map a v ((hcut.cut h1.st hH hc h1.on h1.yx a v M ha hv).mono ?_);rintro e w' ⟨x,S3,rfl,k1,k2,k3,k4⟩;obtain⟨o3,R3,k5,_⟩:=k4.holds;exact⟨rfl,⟨x,S3,Y,⟨k1,⟨o3,R3,k5⟩,k3,(k2.block pm ⟨h1.ym,h1.ne⟩).trans h1.map,h1.bl.trans (Fo.below (k2.mono fun k hk=>⟨h1.own k hk,fun q=>by have:=h1.lx;omega⟩)),h1.own,h1.yx,h1.ym,h1.lx,h1.lm,h1.ne⟩,fc.grew (p:=0) (q:=0) (by simpa using hs) k4.grew,fun z hz=>by
  obtain⟨z1,z2,z3,z4,z5⟩:=h3 z hz;exact⟨z1,z2,z3,z4,(k2.block _ ⟨z1,z2⟩).trans z5⟩⟩,h.nd,h.tb⟩
theorem an.read(ok:gB K P)(h:an K w ps pm px limit L p q l W){f:FuncId}{args:Array Value}{r:Ending}(hc:∀root S Y,fi K w W ps pm px limit root S Y L->Ct f args W fun e w'=>e=r/\Below W.heap.size W w'):
 Ct f args W fun e w'=>e=r/\an K w ps pm px limit L p q l w':=by
 obtain⟨root,S,Y,h1,_⟩:=h.ex;refine wx (hc root S Y h1) fun w' hb=>?_;exact⟨rfl,h.below ok hb⟩
end
def A6(pm ps hh is:Nat):Obj:=.cells #[PV pm,PV ps,Xu hh,Xi is] 114
def Jt(t:List UInt8)(n:Nat):List Nat:=(List.range n).map fun k=>(FK t).getD k 0
theorem Ba(t:List UInt8)(n:Nat):(Jt t n).length=n:=by simp[Jt]
theorem ID(t:List UInt8){n k:Nat}(h:k<n):(Jt t n).getD k 0=(FK t).getD k 0:=by
 unfold Jt;rw[am,aT,bC h];rfl
theorem Bk {S:St}{o:Nat->Nat}{hh:Nat}{ws vs:List Nat}(hf:Fw S o)(hl:reco S hh=some ws)(hv:∀x∈vs,x<2^64):∀n,n<=ws.length->
 Fw (curPut S hh vs n) o/\reco (curPut S hh vs n) hh=some ((List.range n).map (fun k=>vs.getD k 0)++ws.drop n)/\(∀h',h'≠hh->reco (curPut S hh vs n) h'=reco S h')/\ej S (curPut S hh vs n) 0 0
 | 0,_=>⟨hf,hl.trans (by simp),fun _ _=>rfl,ej.refl S⟩
 | n+1,hn=>by
  obtain⟨f1,r1,o1,g1⟩:=Bk hf hl hv n (by omega);obtain⟨S',e,f2,r2,o2,g2⟩:=Cn f1 r1 (k:=n) (x:=vs.getD n 0) (by simp;omega) (qK hv n);have he:curPut S hh vs (n+1)=S':=by
   show ((curPut S hh vs n).put hh n (vs.getD n 0)).2=S'
   rw[e]
  rw[he];refine⟨f2,?_,fun h' q=>(o2 h' q).trans (o1 h' q),g1.trans g2⟩;rw[r2,List.set_append_right _ _ (by simp),aq,dC,dF,aV (by omega),List.set_cons_zero,du,aM,bM];rfl
theorem IN {a b:Nat}(h:a<=b)(hb:b<=1000):many a<=many b:=by
 unfold many;rw[if_neg (by omega),if_neg (by omega)];omega
theorem IO {a:Nat}(h:a<=1000):0<many a:=by
 unfold many;rw[if_neg (by omega)];omega
structure ao (K:jo) (w:World) (ps pm px limit:Nat) (L:List (List UInt8×List UInt8)) (p q pc hh is:Nat) (ws:List Nat) (l:List (Nat×Obj)) (W:World):Prop where
 m:an (Jw K hh ws) w ps pm px limit L p q ((pc,A6 pm ps hh is)::l) W
 n:ws.length=many limit
 lim:limit<=1000
section
variable {P:List (List UInt8×List UInt8)->Prop}{K:jo}{w W W':World}{ps pm px limit p q pc hh is:Nat}{ws:List Nat}{L:List (List UInt8×List UInt8)}{l:List (Nat×Obj)}{x y:Nat×Obj}{o:Obj}
theorem ao.c(h:ao K w ps pm px limit L p q pc hh is ws l W):Ju W pc pm ps hh is:=h.m.at (ag ..)
theorem ao.c0(h:ao K w ps pm px limit L p q pc hh is ws l W):W.cell? ⟨pc,0,none⟩=some (PV pm):=by
 rw[cell_of_block h.c];rfl
theorem ao.pos(ok:gB K P)(h:ao K w ps pm px limit L p q pc hh is ws l W):hh≠0/\hh<2^64:=by
 obtain⟨_,_,_,h1,_⟩:=h.m.ex;obtain⟨o,R,T,_,hH,_,hr⟩:=h1.hold;have:=fL (ok.fit hH) hr;omega
theorem ao.below(ok:gB K P)(h:ao K w ps pm px limit L p q pc hh is ws l W)(hb:Below W.heap.size W W'):ao K w ps pm px limit L p q pc hh is ws l W':=⟨h.m.below (Jv ok hh ws) hb,h.n,h.lim⟩
theorem ao.box(ok:gB K P)(h:ao K w ps pm px limit L p q pc hh is ws l W)(o:Obj):ao K w ps pm px limit L p q pc hh is ws ((W.heap.size,o)::l) (W.alloc o):=⟨(h.m.box (Jv ok hh ws) o).swap,h.n,h.lim⟩
theorem ao.tail(h:ao K w ps pm px limit L p q pc hh is ws (x::l) W):ao K w ps pm px limit L p q pc hh is ws l W:=⟨h.m.swap.tail,h.n,h.lim⟩
theorem ao.at {b:Nat}(h:ao K w ps pm px limit L p q pc hh is ws l W)(hb:(b,o)∈l):W.heap[b]?=some o:=h.m.at (aj _ hb)
theorem ao.write(ok:gB K P){b:Nat}{cs:Array Value}{t:TypeId}{fr:Nat×Nat}{o':Obj}(h:ao K w ps pm px limit L p q pc hh is ws ((b,.cells cs t fr)::l) W)(hty:t≠130/\t≠177)
 (hs:W'.heap.size=W.heap.size) (ho:W'.os=W.os/\W'.tape=W.tape/\W'.output=W.output) (hw:∀k,k≠b->W'.heap[k]?=W.heap[k]?) (hb:W'.heap[b]?=some o'):ao K w ps pm px limit L p q pc hh is ws ((b,o')::l) W':=
 ⟨(h.m.swap.write (Jv ok hh ws) hty hs ho hw hb).swap,h.n,h.lim⟩
theorem ao.read(ok:gB K P)(h:ao K w ps pm px limit L p q pc hh is ws l W){f:FuncId}{args:Array Value}{r:Ending}(hc:∀root S Y,fi (Jw K hh ws) w W ps pm px limit root S Y L->Ct f args W fun e w'=>e=r/\Below W.heap.size W w'):
 Ct f args W fun e w'=>e=r/\ao K w ps pm px limit L p q pc hh is ws l w':=
 (h.m.read (Jv ok hh ws) hc).mono fun _ _ q=>⟨q.1,q.2,h.n,h.lim⟩
theorem ao.put(ok:gB K P)(h:ao K w ps pm px limit L p q pc hh is ws l W)(t:List UInt8)(htl:t.length<=1000):
 Ct 74 #[PV pc,SV t] W fun e w'=>e=.returned (.tuple #[])/\ao K w ps pm px limit L p q pc hh 1 (Jt t (many limit)) l w':=by
 obtain⟨root,S,Y,h1,h2,h3⟩:=h.m.ex;obtain⟨o,R,T,rfl,hH,hn,hr⟩:=h1.hold;have hf:=ok.fit hH;obtain⟨f1,r1,o1,g1⟩:=Bk hf hr (xZ t (by omega)) ws.length Ih;rw[List.drop_length,bW,h.n] at r1;rw[h.n] at f1 o1 g1;refine(IG h1.st hf.inv h1.map h.c (h3 _ (ag ..)).1 (fL hf hr).2.1 h.lim t htl).mono ?_;rintro e w' ⟨rfl,k1,k2,k3⟩;exact⟨rfl,h.m.step (K':=Jw K hh (Jt t (many limit))) (Jv ok hh ws) h1 h3 k1 k2 k3 ⟨o,hh::T,T,rfl,ok.frame hH f1 fun y hy=>o1 y fun e=>hn (e▸hy),hn,r1⟩ (fc.grew (p:=0) (q:=0) (by simpa using h2) g1) rfl,Ba _ _,h.lim⟩
theorem ao.key(ok:gB K P){t:List UInt8}(h:ao K w ps pm px limit L p q pc hh is (Jt t (many limit)) l W)(htl:t.length<=limit):
 Ct 72 #[PV pc] W fun e w'=>e=.returned (SV t)/\ao K w ps pm px limit L p q pc hh is (Jt t (many limit)) l w':=by
 have ad:=h.lim;refine h.read ok fun root S Y h1=>?_;obtain⟨o,R,T,rfl,hH,hn,hr⟩:=h1.hold;have hf:=ok.fit hH;have hm:=IN htl ad;have hg:∀k,k<many limit->(S.get hh k).1=(FK t).getD k 0:=fun k hk=>by
  rw[ru hf hr (by rw[Ba];exact hk),ID t hk]
 refine IF h1.st hf.inv h.c (fL hf hr).2.1 t (by omega) ((hg 0 (bz (IO (by omega)) hm)).trans rfl) ?_;rw[<-te t (by omega)];refine dm (by simp) fun i i1 i2=>?_;rw[bp,cU,hg i (by rw[te t (by omega)] at i2;omega),am,af i2]
 rfl
theorem ao.stop(ok:gB K P)(h:ao K w ps pm px limit L p q pc hh is ws l W)(is':Nat):
 Ct 73 #[PV pc,Xi is'] W fun e w'=>e=.returned (Xi 0)/\ao K w ps pm px limit L p q pc hh is' (Jt [] (many limit)) l w':=by
 have hp:=h.put ok [] (by simp);have HG:=kq3 (ee h.c (h.pos ok).1) hp ok;clear hp h ok;go_enter func73,ntmps73;go_wp2_with fail;refine Jc HG.a ?_;go_wp2_with fail;refine wx HG.b fun w2 h2=>?_;have hC:=h2.c;unfold Ju at hC;obtain⟨c0,c1,c2,c3⟩:=Fy hC;obtain⟨f0,f1,f2,f3⟩:=fO hC;have q3:=heap_setCell (i:=3) (v:=Xi is') hC;have h3:ao K w ps pm px limit L p q pc hh is' (Jt [] (many limit)) l (w2.setCell ⟨pc,3,none⟩ (Xi is')):=⟨h2.m.write (Jv HG.c _ _) ⟨by decide,by decide⟩ (by simp) ⟨rfl,rfl,rfl⟩ (fun k hk=>FB hk) q3,h2.n,h2.lim⟩;have H3:=If h3;clear h3 h2 q3 hC;go_wp2_with fail;go_ret;exact⟨rfl,H3.out⟩
end
section
variable {P:List (List UInt8×List UInt8)->Prop}{K:jo}{w W:World}{ps pm px limit p q pc hh is:Nat}{ws:List Nat}{L:List (List UInt8×List UInt8)}{l:List (Nat×Obj)}
theorem ao.pair(ok:gB K P)(h:ao K w ps pm px limit L p q pc hh is ws l W)(hc:L.length<98)(hL:∀z∈L,z.1.length<=1000)(k:Int)(hk:k<2^62)(is':Nat)(x:Option (List UInt8×List UInt8))(hx:fj L k=x):
 Ct 71 #[PV pc,Xi k,Xi is'] W fun e w'=>e=.returned (.tuple #[eu (x.getD ([],[])),Xi ((if x.isSome=true then 0 else 5:Nat):Nat)])/\ao K w ps pm px limit L p q pc hh (if x.isSome=true then 1 else is') (Jt (x.getD ([],[])).1 (many limit)) l w':=by
 have h1:=h.box ok (.cells #[.string ⟨#[]⟩,.string ⟨#[]⟩] 34);have ad:=h1.read ok fun root S Y hM=>hM.select (Jv ok hh ws) hc k hk x hx;have hC:=h1.c;unfold Ju at hC;obtain⟨c0,c1,c2,c3⟩:=Fy hC;clear hC h1
 cases x with
 | some r=>
  obtain⟨p1,p2⟩:=r;have al:p1.length<=1000:=hL _ (by obtain⟨n,_,hn⟩:=tE hx;exact bA hn);have ai:=fun {V:World} {l':List (Nat×Obj)} (hV:ao K w ps pm px limit L p q pc hh is ws l' V)=>hV.put ok p1 al;simp only[cH,ci,if_true,eu] at ad⊢;have HG:=kq3 ad (@ai) ok;clear ad ai hx h ok hL;go_enter func71,ntmps71;go_wp2_with fail;refine wx HG.a fun w1 m1=>?_;have m2:=m1.box HG.c (Xj p1 p2);have y2:=heap_alloc_new w1 (Xj p1 p2);obtain⟨d0,d1⟩:=Fp y2;have HA:=If m2;clear m1 m2 y2;go_wp2_with fail;refine wx (HG.b HA.out) fun w2 m3=>?_;have y4:=m3.at (ag ..);have m4:=m3.tail;have q4:=m4.at (ag ..);obtain⟨e0,e1⟩:=Fp y4;obtain⟨g0,g1⟩:=Fp q4;obtain⟨f0,f1⟩:=ef q4;have q5:=ew q4 (SV p1) (SV p2);have m5:=m4.write (W':=((w2.setCell ⟨W.heap.size,0,none⟩ (SV p1)).setCell ⟨W.heap.size,1,none⟩ (SV p2))) HG.c ⟨by decide,by decide⟩ (by simp) ⟨rfl,rfl,rfl⟩ (fun k hk=>fA hk (SV p1) (SV p2)) q5;have HB:=kq2 q5 m5.tail;clear m3 m4 m5 q4 y4 q5;go_wp2_with fail;obtain⟨q5,h5⟩:=HB.out;generalize ((w2.setCell ⟨W.heap.size,0,none⟩ (SV p1)).setCell ⟨W.heap.size,1,none⟩ (SV p2))=w3 at*;obtain⟨k0,k1⟩:=Fp q5;exact bodyPost_ret (v:=.tuple #[.agg #[SV p1,SV p2],Xi 0]) (by simp[results,f71,go_sem,k0,k1]) rfl ⟨rfl,h5⟩
 | none=>
  have ai:=fun {V:World} {l':List (Nat×Obj)} (hV:ao K w ps pm px limit L p q pc hh is ws l' V)=>hV.stop ok is';simp only[dM,Option.getD_none,bO,if_false,eu] at ad⊢;have HG:=kq3 ad (@ai) ok;clear ad ai hx h ok hL;go_enter func71,ntmps71;go_wp2_with fail;refine wx HG.a fun w1 m1=>?_;have m2:=m1.box HG.c (.cells #[.string ⟨#[]⟩,.string ⟨#[]⟩] 34);have y2:=heap_alloc_new w1 (.cells #[.string ⟨#[]⟩,.string ⟨#[]⟩] 34);obtain⟨d0,d1⟩:=Fp y2;have HA:=If m2;clear m1 m2 y2;go_wp2_with fail;refine wx (HG.b HA.out) fun w2 m3=>?_;have y4:=m3.at (ag ..);have m4:=m3.tail;have q4:=m4.at (ag ..);obtain⟨e0,e1⟩:=Fp y4;obtain⟨g0,g1⟩:=Fp q4;obtain⟨f0,f1⟩:=ef q4;have q5:=ew q4 (.string ⟨#[]⟩) (.string ⟨#[]⟩);have m5:=m4.write (W':=((w2.setCell ⟨W.heap.size,0,none⟩ (.string ⟨#[]⟩)).setCell ⟨W.heap.size,1,none⟩ (.string ⟨#[]⟩))) HG.c ⟨by decide,by decide⟩ (by simp) ⟨rfl,rfl,rfl⟩ (fun k hk=>fA hk (.string ⟨#[]⟩) (.string ⟨#[]⟩)) q5;have HB:=kq2 q5 m5.tail;clear m3 m4 m5 q4 y4 q5;go_wp2_with fail;obtain⟨q5,h5⟩:=HB.out;generalize ((w2.setCell ⟨W.heap.size,0,none⟩ (.string ⟨#[]⟩)).setCell ⟨W.heap.size,1,none⟩ (.string ⟨#[]⟩))=w3 at*;obtain⟨k0,k1⟩:=Fp q5;exact bodyPost_ret (v:=.tuple #[.agg #[.string ⟨#[]⟩,.string ⟨#[]⟩],Xi 5]) (by simp[results,f71,go_sem,k0,k1]) rfl ⟨rfl,h5⟩
def Ji(L:List (List UInt8×List UInt8))(is:Nat)(t:List UInt8):Int:=if is=0 then 0 else if is=2 then L.length else(eK L t:Int)+if(Bt.getL L t).isSome=true then 1 else 0
def JC(L:List (List UInt8×List UInt8))(is:Nat)(t:List UInt8):Int:=if is=0 then-1 else if is=2 then(L.length:Int)-1 else(eK L t:Int)-1
theorem qDgaa{P:Prop}(h:P:=by
 have q5:=m5.at (ag ..);obtain⟨x0,x1⟩:=Fp q5;obtain⟨f0,f1⟩:=ef q5;have q6:=ew q5 (SV p1) (SV p2);have m6:=m5.write (W':=((w5.setCell ⟨W.heap.size,0,none⟩ (SV p1)).setCell ⟨W.heap.size,1,none⟩ (SV p2))) HG.c ⟨by decide,by decide⟩ (by simp) ⟨rfl,rfl,rfl⟩ (fun k hk=>fA hk (SV p1) (SV p2)) q6;have HB:=kq2 q6 m6.tail;clear m5 q5 q6 m6;go_wp2_with fail;obtain⟨q6,h6⟩:=HB.out;generalize ((w5.setCell ⟨W.heap.size,0,none⟩ (SV p1)).setCell ⟨W.heap.size,1,none⟩ (SV p2))=w6 at*;obtain⟨k0,k1⟩:=Fp q6;exact bodyPost_ret (v:=.tuple #[.agg #[SV p1,SV p2],Xi er]) (by simp[results,f39,go_sem,k0,k1]) rfl ⟨rfl,h6⟩):P:=h
theorem ao.Next(ok:gB K P){t:List UInt8}(h:ao K w ps pm px limit L p q pc hh is ws l W)(hc:L.length<98)(hL:∀z∈L,z.1.length<=1000)(hi:is=0\/is=2\/is=1/\ws=Jt t (many limit)/\t.length<=limit)(x:Option (List UInt8×List UInt8))(hx:fj L (Ji L is t)=x):
 Ct 39 #[PV pc] W fun e w'=>e=.returned (.tuple #[eu (x.getD ([],[])),Xi ((if x.isSome=true then 0 else 5:Nat):Nat)])/\ao K w ps pm px limit L p q pc hh (if x.isSome=true then 1 else 2) (Jt (x.getD ([],[])).1 (many limit)) l w':=by
 have h1:=h.box ok (.cells #[.string ⟨#[]⟩,.string ⟨#[]⟩] 34);have hC:=h1.c;have has:=ee hC (h.pos ok).1;unfold Ju at hC;obtain⟨⟨p1,p2⟩,hR⟩:∃R,x.getD ([],[])=R:=⟨_,rfl⟩;have al:=nZ L t;have ad:=fun {V:World} {l':List (Nat×Obj)} (hV:ao K w ps pm px limit L p q pc hh is ws l' V) k hk hx=>hV.pair ok hc hL k hk 2 x hx;rw[hR];simp only[hR] at ad;obtain⟨er,he⟩:∃er:Nat,(if x.isSome=true then 0 else 5:Nat)=er:=⟨_,rfl⟩;obtain⟨i',ai⟩:∃i':Nat,(if x.isSome=true then 1 else 2:Nat)=i':=⟨_,rfl⟩;simp only[he,ai,eu] at ad⊢;have HG:=kq6 has (@ad) ok h1 hx hc
 rcases hi with rfl | rfl | ⟨rfl,rfl,ap⟩
 ·obtain⟨c0,c1,c2,c3⟩:=Fy hC;clear hC h1 has ad h hR hx he ai hL ok al;go_enter func39,ntmps39;go_wp2_with fail;refine Jc HG.a ?_;go_wp2_with fail;refine wx (HG.b HG.d (0:Nat) (by decide) HG.e) fun w5 m5=>?_;exact qDgaa
 ·obtain⟨c0,c1,c2,c3⟩:=Fy hC;have HK:=If (h1.read ok fun root S Y hM=>hM.len (Jv ok hh ws) hc);clear hC h1 has ad h hR hx he ai hL ok al;go_enter func39,ntmps39;go_wp2_with fail;refine Jc HG.a ?_;go_wp2_with fail;refine wx HK.out fun w1 m1=>?_;have H1:=If m1;clear m1;go_wp2_with fail;refine(HG.b H1.out (L.length:Nat) (by have:=HG.f;omega) HG.e).mono ?_;rintro e w5 ⟨rfl,m5⟩;exact qDgaa
 ·obtain⟨c0,c1,c2,c3⟩:=Fy hC;have HK:=If (h1.key ok ap);have HR:=If (fun(V:World) (l':List (Nat×Obj)) (hV:ao K w ps pm px limit L p q pc hh 1 (Jt t (many limit)) l' V)=>hV.read ok fun root S Y hM=>hM.rank (Jv ok hh _) hc t);have HT:=If (fun(V:World) (l':List (Nat×Obj)) (hV:ao K w ps pm px limit L p q pc hh 1 (Jt t (many limit)) l' V)=>hV.read ok fun root S Y hM=>hM.get (Jv ok hh _) hc t);have ar:eK L t<98:=by omega
  obtain⟨b,hb⟩:=Ii (Bt.getL L t).isSome;obtain⟨g,hg⟩:=Ii ((Bt.getL L t).getD []);rw[hb,hg] at HT;have HP:=If (show fj L ((eK L t:Int)+if b=true then 1 else 0)=x from hb▸hx);generalize eK L t=n at*;clear hb hg;clear hC h1 has ad h hR hx he ai hL ok al;go_enter func39,ntmps39;go_wp2_with fail;refine Jc HG.a ?_;go_wp2_with fail;refine wx HK.out fun w1 m1=>?_;have hC:=m1.c;unfold Ju at hC;obtain⟨d0,d1,d2,d3⟩:=Fy hC;have H1:=If m1;clear m1 hC;go_wp2_with fail;refine wx (HR.out _ _ H1.out) fun w2 m2=>?_;have hC:=m2.c;unfold Ju at hC;obtain⟨g0,g1,g2,g3⟩:=Fy hC;have H2:=If m2;clear m2 hC;go_wp2_with fail;refine wx (HT.out _ _ H2.out) fun w3 m3=>?_;have H3:=If m3;clear m3
  cases b
  ·simp only[bO,if_false] at HP⊢;go_wp2_with fail;refine wx (HG.b H3.out (n:Nat) (by omega) (by simpa using HP.out)) fun w5 m5=>?_;exact qDgaa
  ·simp only[if_true] at HP⊢;go_wp2_with fail;refine wx (HG.b H3.out ((n:Int)+1) (by omega) HP.out) fun w5 m5=>?_;exact qDgaa
theorem qDgab{P:Prop}(h:P:=by
 have q5:=m5.at (ag ..);obtain⟨x0,x1⟩:=Fp q5;obtain⟨f0,f1⟩:=ef q5;have q6:=ew q5 (SV p1) (SV p2);have m6:=m5.write (W':=((w5.setCell ⟨W.heap.size,0,none⟩ (SV p1)).setCell ⟨W.heap.size,1,none⟩ (SV p2))) HG.c ⟨by decide,by decide⟩ (by simp) ⟨rfl,rfl,rfl⟩ (fun k hk=>fA hk (SV p1) (SV p2)) q6;have HB:=kq2 q6 m6.tail;clear m5 q5 q6 m6;go_wp2_with fail;obtain⟨q6,h6⟩:=HB.out;generalize ((w5.setCell ⟨W.heap.size,0,none⟩ (SV p1)).setCell ⟨W.heap.size,1,none⟩ (SV p2))=w6 at*;obtain⟨k0,k1⟩:=Fp q6;exact bodyPost_ret (v:=.tuple #[.agg #[SV p1,SV p2],Xi er]) (by simp[results,f41,go_sem,k0,k1]) rfl ⟨rfl,h6⟩):P:=h
theorem ao.Prev(ok:gB K P){t:List UInt8}(h:ao K w ps pm px limit L p q pc hh is ws l W)(hc:L.length<98)(hL:∀z∈L,z.1.length<=1000)(hi:is=0\/is=2\/is=1/\ws=Jt t (many limit)/\t.length<=limit)(x:Option (List UInt8×List UInt8))(hx:fj L (JC L is t)=x):
 Ct 41 #[PV pc] W fun e w'=>e=.returned (.tuple #[eu (x.getD ([],[])),Xi ((if x.isSome=true then 0 else 5:Nat):Nat)])/\ao K w ps pm px limit L p q pc hh (if x.isSome=true then 1 else 0) (Jt (x.getD ([],[])).1 (many limit)) l w':=by
 have h1:=h.box ok (.cells #[.string ⟨#[]⟩,.string ⟨#[]⟩] 34);have hC:=h1.c;have has:=ee hC (h.pos ok).1;unfold Ju at hC;obtain⟨⟨p1,p2⟩,hR⟩:∃R,x.getD ([],[])=R:=⟨_,rfl⟩;have ap:=nZ L t;have ad:=fun {V:World} {l':List (Nat×Obj)} (hV:ao K w ps pm px limit L p q pc hh is ws l' V) k hk hx=>hV.pair ok hc hL k hk 0 x hx;rw[hR];simp only[hR] at ad;obtain⟨er,he⟩:∃er:Nat,(if x.isSome=true then 0 else 5:Nat)=er:=⟨_,rfl⟩;obtain⟨i',ai⟩:∃i':Nat,(if x.isSome=true then 1 else 0:Nat)=i':=⟨_,rfl⟩;simp only[he,ai,eu] at ad⊢;have HG:=kq6 has (@ad) ok h1 hx hc
 rcases hi with rfl | rfl | ⟨rfl,rfl,a0⟩
 ·obtain⟨c0,c1,c2,c3⟩:=Fy hC;clear hC h1 has ad h hR hx he ai hL ok ap;go_enter func41,ntmps41;go_wp2_with fail;refine Jc HG.a ?_;go_wp2_with fail;refine wx (HG.b HG.d (-1) (by decide) HG.e) fun w5 m5=>?_;exact qDgab
 ·obtain⟨c0,c1,c2,c3⟩:=Fy hC;have HK:=If (h1.read ok fun root S Y hM=>hM.len (Jv ok hh ws) hc);clear hC h1 has ad h hR hx he ai hL ok ap;go_enter func41,ntmps41;go_wp2_with fail;refine Jc HG.a ?_;go_wp2_with fail;refine wx HK.out fun w1 m1=>?_;have H1:=If m1;clear m1;go_wp2_with fail;refine(HG.b H1.out ((L.length:Int)-1) (by have:=HG.f;omega) HG.e).mono ?_;rintro e w5 ⟨rfl,m5⟩;exact qDgab
 ·obtain⟨c0,c1,c2,c3⟩:=Fy hC;have HK:=If (h1.key ok a0);have HR:=If (fun(V:World) (l':List (Nat×Obj)) (hV:ao K w ps pm px limit L p q pc hh 1 (Jt t (many limit)) l' V)=>hV.read ok fun root S Y hM=>hM.rank (Jv ok hh _) hc t);have a1:eK L t<98:=by omega
  have HP:=If (show fj L ((eK L t:Int)-1)=x from hx);generalize eK L t=n at*;obtain⟨I,au,al⟩:=lB (fun w'=>w'.cell? ⟨pc,0,none⟩=some (PV pm)) (fun w'=>w'.cell? ⟨pc,0,none⟩=some (PV pm));have o0:=fun x:Fq I=>(au _ x.ok).1;have ar:I (W.alloc (.cells #[.string ⟨#[]⟩,.string ⟨#[]⟩] 34)).drew:=al _ h1.c0 h1.c0;have HI:=If al;have HK:=If ((h1.below ok (aa _ _).drew).key ok a0);clear au al;clear hC h1 has ad h hR hx he ai hL ok ap;go_enter func41,ntmps41;go_wp2_with fail;refine Jc HG.a ?_;go_wp2_with fail;refine fh I (.take 0 (.take 1 (.take 2 (.take 3 (.take 4 (.take 5 (.go 6 (.go 7 (.take 8 (.go 9 (.take 10 (.take 11 (.go 12 (.go 13 .nil)))))))))))))) (by kernel_rfl) (by kernel_rfl) ar ?_;clear ar
  iterate 6
   refine' pT ?_ ?_;rotate_left
   ·intro x;go_simp
    try rfl
   try simp only[pu]
  refine pD fun K hK=>?_;go_simp;refine wx HK.out fun w1 m1=>?_;have H1:=If m1;clear m1
  try go_simp
  refine hK.out _ _ (HI.out _ H1.out.c0 H1.out.c0) ?_;clear hK K
  try simp only[pu]
  refine pD fun K hK=>?_;go_simp;refine wx (HR.out _ _ H1.out) fun w2 m2=>?_;have H2:=If m2;clear m2
  try go_simp
  refine hK.out _ _ (HI.out _ H2.out.c0 H2.out.c0) ?_;clear hK K
  try simp only[pu]
  refine' pT ?_ ?_;rotate_left
  ·intro x;go_simp
   try rfl
  try simp only[pu]
  refine pD fun K hK=>?_;go_simp;rw[show IntKind.i64.wrap ((n:Int)-1)=(n:Int)-1 from aD _ (by omega)];refine wx (HG.b H2.out ((n:Int)-1) (by omega) HP.out) fun w5 m5=>?_
  try go_simp
  refine hK.out _ _ (HI.out _ m5.c0 m5.c0) ?_;clear hK K
  try simp only[pu]
  iterate 2
   refine' pT ?_ ?_;rotate_left
   ·intro x;go_simp
    try rfl
   try simp only[pu]
  have q5:=m5.at (ag ..);obtain⟨x0,x1⟩:=Fp q5;obtain⟨f0,f1⟩:=ef q5;have q6:=ew q5 (SV p1) (SV p2);have m6:=m5.write (W':=((w5.setCell ⟨W.heap.size,0,none⟩ (SV p1)).setCell ⟨W.heap.size,1,none⟩ (SV p2))) HG.c ⟨by decide,by decide⟩ (by simp) ⟨rfl,rfl,rfl⟩ (fun k hk=>fA hk (SV p1) (SV p2)) q6;have HB:=kq2 q6 m6;clear m5 q5 q6 m6;refine pD fun K hK=>?_;go_simp
  try go_simp
  refine hK.out _ _ (HI.out _ HB.b.c0 HB.b.c0) ?_;clear hK K
  try simp only[pu]
  refine pD fun K hK=>?_;go_simp
  try go_simp
  refine hK.out _ _ (HI.out _ HB.b.c0 HB.b.c0) ?_;clear hK K
  try simp only[pu]
  refine eP ?_;go_wp2_with fail;obtain⟨q6,h6⟩:=HB.out;generalize ((w5.setCell ⟨W.heap.size,0,none⟩ (SV p1)).setCell ⟨W.heap.size,1,none⟩ (SV p2))=w6 at*;obtain⟨k0,k1⟩:=Fp q6;exact bodyPost_ret (v:=.tuple #[.agg #[SV p1,SV p2],Xi er]) (by simp[results,f41,go_sem,k0,k1]) rfl ⟨rfl,h6.tail⟩
end
section
variable {P:List (List UInt8×List UInt8)->Prop}{K:jo}{w W:World}{ps pm px limit p q pc hh is:Nat}{ws:List Nat}{L:List (List UInt8×List UInt8)}{l:List (Nat×Obj)}
theorem ao.tell(ok:gB K P){t:List UInt8}(h:ao K w ps pm px limit L p q pc hh 1 (Jt t (many limit)) l W)(htl:t.length<=limit):
 Ct 40 #[PV pc] W fun e w'=>e=.returned (.tuple #[SV t,Xi 0])/\ao K w ps pm px limit L p q pc hh 1 (Jt t (many limit)) l w':=by
 have hC:=h.c;have HG:=kq2 (ee hC (h.pos ok).1) (h.key ok htl);unfold Ju at hC;obtain⟨c0,c1,c2,c3⟩:=Fy hC;clear hC h ok;go_enter func40,ntmps40;go_wp2_with fail;refine Jc HG.a ?_;go_wp2_with fail;refine wx HG.b fun w2 m2=>?_;have HB:=If m2;clear m2;go_wp2_with fail;go_ret2;exact⟨rfl,HB.out⟩
theorem ao.tell_no(ok:gB K P)(h:ao K w ps pm px limit L p q pc hh is ws l W)(hi:is≠1):
 Ct 40 #[PV pc] W fun e w'=>e=.returned (.tuple #[.string ⟨#[]⟩,Xi 5])/\w'=W:=by
 have hC:=h.c;have HG:=If (ee hC (h.pos ok).1);unfold Ju at hC;obtain⟨c0,c1,c2,c3⟩:=Fy hC;have hq:((is:Int) !=1)=true:=by
  simp only[bne_iff_ne,ne_eq];omega
 clear hC h ok hi;go_enter func40,ntmps40;go_wp2_with fail;refine Jc HG.out ?_;go_wp2_with fail;go_ret2;exact⟨rfl,rfl⟩
theorem ao.first(ok:gB K P)(h:ao K w ps pm px limit L p q pc hh is ws l W):
 Ct 43 #[PV pc] W fun e w'=>e=.returned (Xi 0)/\ao K w ps pm px limit L p q pc hh 0 (Jt [] (many limit)) l w':=by
 have HG:=If (h.stop ok 0);clear h ok;go_enter func43,ntmps43;go_wp2_with fail;refine wx HG.out fun w2 m2=>?_;have HB:=If m2;clear m2;go_wp2_with fail;go_ret;exact⟨rfl,HB.out⟩
theorem ao.last(ok:gB K P)(h:ao K w ps pm px limit L p q pc hh is ws l W):
 Ct 42 #[PV pc] W fun e w'=>e=.returned (Xi 0)/\ao K w ps pm px limit L p q pc hh 2 (Jt [] (many limit)) l w':=by
 have HG:=If (h.stop ok 2);clear h ok;go_enter func42,ntmps42;go_wp2_with fail;refine wx HG.out fun w2 m2=>?_;have HB:=If m2;clear m2;go_wp2_with fail;go_ret;exact⟨rfl,HB.out⟩
theorem an.cursor(ok:gB K P)(h:an K w ps pm px limit L (20+p) (9+q) l W)(hlim:limit<=1000):
 Ct 38 #[PV pm] W fun e w'=>∃(pc hh:Nat) (ws:List Nat),e=.returned (.tuple #[PV pc,Xi 0])/\ao K w ps pm px limit L p q pc hh 0 ws l w':=by
 have au:=IQ h.on;have al:=Ik h.on;have ar:=xD limit W (by omega);obtain⟨root,S,Y,h1,hs,h3⟩:=h.ex;obtain⟨o,R,hH⟩:=h1.hold;have hn:many limit<=126:=by
  unfold many
  split<;>omega
 have a0:=qh (n:=many limit+2) (by omega) (by omega);obtain⟨hh,S1,o',ws,em,f1,n1,l1,r1,o1,g1,e1⟩:=oz (ok.fit hH) (n:=many limit) (by omega) (hs.mono (by omega) (by omega));have ad:=sH h1.st (many limit) (by omega) e1;rw[em] at ad;have ai:hh∉R:=fun hm=>ok.has hH _ hm n1;have ap:∀{W2:World},Ig W2 ps S1 Y->Fo Y W W2->an (Jw K hh ws) w ps pm px limit L p q l W2:=fun k1 k2=>
  ⟨⟨root,S1,Y,⟨k1,⟨o',hh::R,R,rfl,ok.frame hH f1 fun y hy=>o1 y fun e=>ai (e▸hy),ai,r1⟩,ok.onKeep h1.on k2 h1.yx,(k2.block pm h1.ym).trans h1.map,h1.bl.trans (Fo.below (k2.mono h1.own)),h1.own,h1.yx,h1.ym,h1.lx,h1.lm,h1.ne⟩,fc.grew (hs.mono (p':=fa (many limit+2)+p) (q':=1+q) (by omega) (by omega)) g1,fun x hx=>by
   obtain⟨a,b,c,d,e⟩:=h3 x hx;exact⟨a,b,c,d,(k2.block _ a).trans e⟩⟩,h.nd,h.tb⟩
 have HG:=kq7 au al ar ad (@ap) l1 ok;clear au al ar ad ap h h1 hs h3 hH hn a0 em f1 n1 l1 r1 o1 g1 e1 ai ok;go_enter func38,ntmps38;go_wp2_with fail;refine Jc HG.a ?_;go_wp2_with fail;refine Jc HG.b ?_;go_wp2_with fail;refine Jc HG.c ?_;go_wp2_with fail;refine HG.d.mono ?_;rintro e w2 ⟨rfl,k1,k2⟩;have H2:=If ((HG.e k1 k2).box (Jv HG.g hh ws) (A6 pm ps hh 0));clear k1 k2;go_wp2_with fail;go_ret2;exact⟨w2.heap.size,hh,ws,rfl,H2.out,HG.f,hlim⟩
end
theorem uS:∀d,j4 d
 | 0=>uU 0 fun _ h=>absurd h (by omega)
 | d+1=>uU (d+1) fun d0 h=>by
  have h:d=d0:=by omega
  subst h;exact @uS d
