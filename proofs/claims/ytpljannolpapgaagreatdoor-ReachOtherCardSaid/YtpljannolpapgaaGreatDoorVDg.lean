/- B-trees of any height, as rows of pairs: what a put makes of one: plain. -/
import Derived.Test.YtpljannolpapgaaGreatDoorVBy
import Derived.Test.YtpljannolpapgaaGreatDoorVPr
import Derived.Test.YtpljannolpapgaaGreatDoorVXs
import Derived.LaidEqlPtr
import Derived.Test.YtpljannolpapgaaGreatDoorVBv
set_option maxRecDepth 100000
set_option maxHeartbeats 6400000
namespace Go.Proofs.YtpljannolpapgaaGreatDoor
section
open Lf Tr
namespace Bt
variable{R:List Nat}{S:St}{o:Nat->Nat}
theorem two_fit(hf:Fw S o){a b:List UInt8}(ha:a.length<=1000)(hb:b.length<=1000)(hr:fc S 6 2):
 ∃ka vb S2 o2,itemsM S a b=some ((ka,vb),S2)/\nJ S a b/\Fw S2 o2/\reco S ka=none/\reco S vb=none/\ka≠vb/\reco S2 ka=some (FK a)/\reco S2 vb=some (FK b)/\(∀h',h'≠ka->h'≠vb->reco S2 h'=reco S h')/\ej S S2 6 2:=by
 obtain⟨ka,S1,o1,e1,f1,n1,l1,q1,g1,k1⟩:=oL hf ha (hr.mono (by omega) (by omega));obtain⟨vb,S2,o2,e2,f2,n2,l2,q2,g2,k2⟩:=oL f1 hb (fc.grew (hr.mono (p':=3+3) (q':=1+1) (by omega) (by omega)) g1);have ad:ka≠vb:=by grind
 have ai:itemsM S a b=some ((ka,vb),S2):=by
  unfold itemsM
  grind
 exact⟨ka,vb,S2,o2,ai,⟨ha,hb,k1,by grind⟩,f2,n1,(q1 _ ad.symm).symm.trans n2,ad,(q2 _ ad).trans l1,l2,fun h' w1 w2=>(q2 h' w2).trans (q1 h' w1),(g1.trans g2).mono (by omega) (by omega)⟩
def getL(L:List (List UInt8×List UInt8))(a:List UInt8):Option (List UInt8):=(L.find? fun p=>p.1==a).map (·.2)
theorem getL_pairs(l:List It)(a:List UInt8):getL (pairs l) a=(findB a l).map (·.v):=by
 unfold getL pairs findB;rw[List.find?_map,Option.map_map];rfl
theorem xu{l:List It}(hs:l.Pairwise eU){e e0:It}(hf:findB e.k l=some e0):
 ∃A B,l=A++e0::B/\l.map (eD e)=A++e::B/\e0.k=e.k/\(∀x∈A,Fu x.k e.k<0)/\∀x∈B,Fu e.k x.k<0:=by
 unfold findB at hf;have hk:e0.k=e.k:=by grind
 obtain⟨A,B,rfl⟩:=List.append_of_mem (bT hf);obtain⟨p1,p2,p3⟩:=bz.1 hs;obtain⟨p4,p5⟩:=bp.1 p2;have hA:∀x∈A,Fu x.k e.k<0:=fun x hx=>by
  grind [List.mem_cons_self,eU]
 have hB:∀x∈B,Fu e.k x.k<0:=fun x hx=>by
  have:=p4 x hx;unfold eU at this
  grind
 have e1:A.map (eD e)=A:=(aW fun x hx=>(mg (ne_of_lt (hA x hx)):eD e x=id x)).trans (dH _);have e2:B.map (eD e)=B:=(aW fun x hx=>(mg (fun q=>by have:=hB x hx;rw[q,fX] at this;omega):eD e x=id x)).trans (dH _);refine⟨A,B,rfl,?_,hk,hA,hB⟩;rw[aP,bg,e1,e2]
 congr 2
 exact if_pos hk
theorem pairs_ins{e:It}{l:List It}(hs:l.Pairwise eU)(hn:∀d∈l,d.k≠e.k):pairs (insB e l)=gV (pairs l) e.k e.v:=by
 obtain⟨b1,b2,b3⟩:=lL (key:=e.k) hs;have ad:∀d∈l.drop (Fr e.k l),Fu e.k d.k<0:=fun d hd=>by
  have h1:=b2 d hd;have h2:=hn d (bw hd)
  grind [ie,Int.lt_trichotomy,Fu,absurd,jL]
 have h:=oO (a:=e.k) (b:=e.v) (d:=e) (tl:=l.take (Fr e.k l)) (tr:=l.drop (Fr e.k l)) (mid:=[]) ⟨rfl,rfl⟩ (fun x hx=>by grind) b1 ad;rw[bD,aX] at h;exact h
theorem Dq{e e0:It}{l:List It}(hs:l.Pairwise eU)(hf:findB e.k l=some e0):pairs (l.map (eD e))=gV (pairs l) e.k e.v:=by
 obtain⟨A,B,h1,h2,h3,h4,h5⟩:=xu hs hf;have h:=oO (a:=e.k) (b:=e.v) (d:=e) (tl:=A) (tr:=B) (mid:=[e0]) ⟨rfl,rfl⟩ (fun x hx=>by rw[aA.1 hx];exact h3) h4 h5;grind
theorem qDgae{P:Prop}(h:P:=by
 exact(h.blobs a hx).frame (hS _ (ai _ (gh.2 ⟨a,hx,ab rfl⟩))) (hS _ (ai _ (gh.2 ⟨a,hx,ae rfl⟩)))):P:=h
theorem Tree.swap{t d:Nat}{x:Bt (d+1)}(h:Tree S o t x){e e0:It}(hb:gu S e)(ne:e.kh≠e.vh)(off:e.kh∉recs x/\e.vh∉recs x){g:Nat}{n:BN}{k:Nat}(r:RepAt S o t x e e0 g n k){S1:St}(hS1:S1=FC S g 0 (bnWords t (setN n k e))):
 Fw S1 o/\fz S1 e0.vh=(e0.v,0)/\e0.kh<2^64/\e0.vh<2^64/\Fv (S1.drop e0.kh).2/\∃S3,S3=((S1.drop e0.kh).2.drop e0.vh).2/\Tree S3 o t (eA (eD e) x)/\pairs (its (eA (eD e) x))=gV (pairs (its x)) e.k e.v/\ej S S3 0 0/\(∀y,y∉recs x->reco S3 y=reco S y)/\∀y∈recs (eA (eD e) x),y∈recs x\/y=e.kh\/y=e.vh:=by
 obtain⟨A,B,h1,h2,h3,h4,h5⟩:=xu h.sorted r.find;have a0:e0∈its x:=by rw[h1];simp
 have an:=h.blobs e0 a0;have k0:e0.kh∈ff (its x):=gh.2 ⟨e0,a0,ab rfl⟩;have v0:e0.vh∈ff (its x):=gh.2 ⟨e0,a0,ae rfl⟩;have ai:∀y∈ff (its x),y≠g:=fun y hy q=>h.apart g r.mem (q▸hy);have a3:e.kh≠g/\e.vh≠g:=⟨fun q=>off.1 (q▸aE _ r.mem),fun q=>off.2 (q▸aE _ r.mem)⟩;have a6:=h.texts;rw[h1,nO] at a6;have ec:∀(z:It) (l:List It),ff (z::l)=z.kh::z.vh::ff l:=fun _ _=>rfl;obtain⟨t1,t2,t3⟩:=aC.1 a6;obtain⟨t4,t5⟩:=aF.1 t2;obtain⟨t6,t7⟩:=aF.1 t5;have oe:∀y,y=e.kh\/y=e.vh->y∉ff (its x)/\y∉Bt.nodes x:=fun y hy=>by
  rcases hy with rfl | rfl
  ·exact⟨fun q=>off.1 (aG _ q),fun q=>off.1 (aE _ q)⟩
  ·exact⟨fun q=>off.2 (aG _ q),fun q=>off.2 (aE _ q)⟩
 have ad:∀y,y∈ff A\/y∈ff B->y∈ff (its x):=fun y hy=>by
  rw[h1,nO,ec]
  rcases hy with hy | hy
  ·exact aE _ hy
  ·exact aG _ (ak _ (ak _ hy))
 have au:its (eA (eD e) x)=A++e::B:=by rw[ln,h2]
 have a2:∀y,y∈ff (its (eA (eD e) x))↔y∈ff A\/y=e.kh\/y=e.vh\/y∈ff B:=fun y=>by
  rw[au,nO,ec,ax,aj,aj]
 have ap:Tree S1 o t (eA (eD e) x):=by
  subst hS1;refine⟨r.fit,h.t1,h.t2,r.at',vF _ h.ok,?_,?_,?_,by rw[lW];exact h.nodes,?_,?_,by rw[vE];exact h.pos⟩
  ·rw[ln];refine dK.2 (h.sorted.imp fun {a b} q=>?_);unfold eU at q⊢;rw[wI,wI];exact q
  ·intro a ha;have hS:∀y,y≠g->reco (FC S g 0 (bnWords t (setN n k e))) y=reco S y:=r.fr;rw[au] at ha
   rcases ax.1 ha with ha | ha
   ·have hx:a∈its x:=by rw[h1];exact aE _ ha
    exact qDgae
   ·rcases aj.1 ha with rfl | ha
    ·exact hb.frame (hS _ a3.1) (hS _ a3.2)
    ·have hx:a∈its x:=by rw[h1];exact aG _ (ak _ ha)
     exact qDgae
  ·rw[ln,ao];exact h.few
  ·rw[au,nO,ec];refine aC.2 ⟨t1,aF.2 ⟨fun q=>?_,aF.2 ⟨fun q=>(oe _ (ae rfl)).1 (ad _ (ae q)),t7⟩⟩,fun y hy z hz=>?_⟩
   ·rcases aj.1 q with q | q
    ·exact ne q
    ·exact(oe _ (ab rfl)).1 (ad _ (ae q))
   ·rintro rfl
    rcases aj.1 hz with q | hz
    ·exact(oe y (ab q)).1 (ad _ (ab hy))
    ·rcases aj.1 hz with q | hz
     ·exact(oe y (ae q)).1 (ad _ (ab hy))
     ·exact t3 y hy y (ak _ (ak _ hz)) rfl
  ·intro y hy hb1;rw[lW] at hy
   rcases(a2 y).1 hb1 with q | q | q | q
   ·exact h.apart y hy (ad _ (ab q))
   ·exact(oe y (ab q)).2 hy
   ·exact(oe y (ae q)).2 hy
   ·exact h.apart y hy (ad _ (ae q))
 have ar:∀y,y≠g->reco S1 y=reco S y:=by rw[hS1];exact r.fr
 have a7:ej S S1 0 0:=by rw[hS1];exact r.grew
 have kk:reco S1 e0.kh=some (FK e0.k):=(ar _ (ai _ k0)).trans an.k;have vv:reco S1 e0.vh=some (FK e0.v):=(ar _ (ai _ v0)).trans an.v;have a8:e0.kh≠e0.vh:=fun q=>t4 (by rw[q];exact am ..);obtain⟨S2,e2,f2,m2,o2,g2⟩:=mQ ap.fit kk;obtain⟨S3,e3,f3,m3,o3,g3⟩:=mQ f2 ((o2 _ a8.symm).trans vv);have a4:e0.kh∉recs (eA (eD e) x)/\e0.vh∉recs (eA (eD e) x):=by
  have a5:∀y,y=e0.kh\/y=e0.vh->y∉ff A/\y∉ff B:=fun y hy=>by
   rcases hy with rfl | rfl
   ·exact⟨fun q=>t3 _ q _ (am ..) rfl,fun q=>t4 (ak _ q)⟩
   ·exact⟨fun q=>t3 _ q _ (ak _ (am ..)) rfl,t6⟩
  have a1:∀y,y=e0.kh\/y=e0.vh->y∈ff (its x)->y∉recs (eA (eD e) x):=fun y hy hyx q=>by
   rcases ax.1 q with q | q
   ·rw[lW] at q;exact h.apart y q hyx
   ·rcases(a2 y).1 q with q | q | q | q
    ·exact(a5 y hy).1 q
    ·exact(oe y (ab q)).1 hyx
    ·exact(oe y (ae q)).1 hyx
    ·exact(a5 y hy).2 q
  exact⟨a1 _ (ab rfl) k0,a1 _ (ae rfl) v0⟩
 refine⟨ap.fit,jt ap.fit an.lv vv,(blobs_lt h.fit an).1,(blobs_lt h.fit an).2,by rw[e2];exact f2.inv,S3,by rw[e2,e3],ap.frame f3 (fun y hy=>(o3 y fun q=>a4.2 (q▸hy)).trans (o2 y fun q=>a4.1 (q▸hy))),?_,((a7.trans g2).trans g3),fun y hy=>?_,fun y hy=>?_⟩
 ·rw[ln];exact Dq h.sorted r.find
 ·have w1:y≠e0.kh:=fun q=>hy (q▸aG _ k0);have w2:y≠e0.vh:=fun q=>hy (q▸aG _ v0);have w3:y≠g:=fun q=>hy (q▸aE _ r.mem);exact(o3 y w2).trans ((o2 y w1).trans (ar y w3))
 grind [recs,lW,List.mem_append_left,List.mem_append_right]
def Holds(S:St)(o:Nat->Nat)(t root:Nat)(L:List (List UInt8×List UInt8))(R:List Nat):Prop:=
 (Empty S o t/\root=0/\L=[]/\R=[])\/∃(d:Nat) (x:Bt (d+1)),Tree S o t x/\root=hd x/\L=pairs (its x)/\R=recs x
theorem Holds.fit{t root:Nat}{L:List (List UInt8×List UInt8)}(h:Holds S o t root L R):Fw S o:=by
 rcases h with⟨h,_⟩ | ⟨_,_,h,_⟩
 ·exact h.fit
 ·exact h.fit
theorem Holds.deg{t root:Nat}{L:List (List UInt8×List UInt8)}(h:Holds S o t root L R):2<=t/\t<=16:=by
 rcases h with⟨h,_⟩ | ⟨_,_,h,_⟩
 ·exact⟨h.t1,h.t2⟩
 ·exact⟨h.t1,h.t2⟩
theorem Holds.has{t root:Nat}{L:List (List UInt8×List UInt8)}(h:Holds S o t root L R):∀y∈R,reco S y≠none:=by
 rcases h with⟨_,_,_,rfl⟩ | ⟨_,_,h,_,_,rfl⟩
 ·grind
 ·exact h.has
theorem Holds.frame{S S':St}{o o':Nat->Nat}{t root:Nat}{L:List (List UInt8×List UInt8)}(h:Holds S o t root L R)(hf:Fw S' o')(hs:∀y∈R,reco S' y=reco S y):Holds S' o' t root L R:=by
 rcases h with⟨h,h1,h2,h3⟩ | ⟨d,x,h,h1,h2,h3⟩
 ·exact ab ⟨⟨hf,h.t1,h.t2⟩,h1,h2,h3⟩
 ·refine ae ⟨d,x,h.frame hf (by grind),h1,h2,h3⟩
end Bt
end
section
open Go.RowKit Tryz Go.BigFrame Go.Maps Go.WideMaps Lf Tr
variable{S:St}{o:Nat->Nat}
abbrev jE(w:World)(px ps t root:Nat):Prop:=FF w px ps 164 (jx ps t) 3 t root
theorem rZ(hf:Fw S o):reco S 0=none:=by
 cases h:reco S 0 with
 | none=>rfl
 | some ws=>have:=(fL hf h).1;omega
theorem jT(l:List It):(pairs l).length=l.length:=by unfold pairs;grind
def eK(L:List (List UInt8×List UInt8))(a:List UInt8):Nat:=L.countP fun p=>decide (Fu p.1 a<0)
theorem ue(l:List It)(a:List UInt8):eK (pairs l) a=Fr a l:=by
 unfold eK pairs Fr;rw[List.countP_map];rfl
theorem Bt.Tree.low40{t d:Nat}{x:Bt (d+1)}(h:Bt.Tree S o t x):d<40:=by have:=h.low;omega
section
variable {w:World}{px ps t root:Nat}{S:St}{o:Nat->Nat}{Y:Nat->Prop}{L:List (List UInt8×List UInt8)}{R:List Nat}
theorem uN(h:Ig w ps S Y)(hH:Bt.Holds S o t root L R):Cb 175 #[FH ps t,Xu root] w (Xi (L.length:Nat)):=by
 rcases hH with⟨hE,rfl,rfl,rfl⟩ | ⟨d,x,hx,rfl,rfl,rfl⟩
 ·exact zQ h hE.fit.inv hE.t1 hE.t2 0 (by omega) (oy (rZ hE.fit))
 ·have:=nS h hx.fit.inv hx.walk.read hx.walk.size.2;rw[jT];exact this
theorem uM(h:Ig w ps S Y)(hH:Bt.Holds S o t root L R)(key:List UInt8):∃E:Option It,(∀W,Below w.heap.size w W->Cb 210 #[FH ps t,Xu root,SV key] W (.tuple #[i7 E,.bool E.isSome,Xi (eK L key:Nat)]))/\Bt.getL L key=E.map (fun a:It=>a.v)/\∀a,E=some a->a.k=key/\gu S a:=by
 rcases hH with⟨hE,rfl,rfl,rfl⟩ | ⟨d,x,hx,rfl,rfl,rfl⟩
 ·exact⟨none,fun W hW=>tT (h.below hW) hE.fit.inv hE.t1 hE.t2 0 (by omega) (oy (rZ hE.fit)) key,rfl,fun _ q=>by cases q⟩
 ·refine⟨Bt.findB key (Bt.its x),fun W hW=>?_,Bt.getL_pairs _ _,fun a q=>?_⟩
  ·rw[ue];exact pY (h.below hW) hx.walk hx.low40 key
  ·unfold Bt.findB at q;exact⟨by grind,hx.blobs a (bT q)⟩
theorem CF(h:Ig w ps S Y)(hH:Bt.Holds S o t root L R)(hT:jE w px ps t root):
 Cb 19 #[PV px] w (Xi (L.length:Nat)):=
 xM hT C8 AN fun _ hW=>CB fun _ hV=>zX (uN (h.below (hW.trans (hV.mono hW.size))) hH)
theorem CH(h:Ig w ps S Y)(hH:Bt.Holds S o t root L R)(hT:jE w px ps t root)(k:List UInt8):
 Cb 16 #[PV px,SV k] w (Xi (eK L k:Nat)):=by
 obtain⟨E,hd,_⟩:=uM h hH k;exact xO hT k C7 AM fun _ hW=>Cz k fun _ hV=>K5 (hd _ (hW.trans (hV.mono hW.size)))
theorem CE(h:Ig w ps S Y)(hH:Bt.Holds S o t root L R)(hT:jE w px ps t root)(k:List UInt8):
 Cb 17 #[PV px,SV k] w (.tuple #[SV ((Bt.getL L k).getD []),.bool (Bt.getL L k).isSome]):=by
 have hf:=hH.fit;obtain⟨E,hd,hE,hb⟩:=uM h hH k;have ai:=fun W (hW:Below w.heap.size w W) V (hV:Below W.heap.size W V)=>nT (hd V (hW.trans (hV.mono hW.size))) fun V' hV'=>hd V' (by rw[hV'];exact(hW.trans (hV.mono hW.size)).alloc (hW.trans (hV.mono hW.size)).size _);rw[hE]
 cases E with
 | none=>exact nu (t:=[]) (e1:=0) hT k 0 0 false (fun _=>rfl) (fun e=>nomatch e) vO um fun _ hW=>vD k 0 0 false fun _ hV=>ai _ hW _ hV
 | some a=>
  have ad:=(hb a rfl).2;have hg:=jt hf ad.lv ad.v;exact nu hT k a.kh a.vh true a.v 0 (fun e=>nomatch e) (fun _ W hW=>by
   have:=iz (h.below hW) hf.inv a.vh (Bt.blobs_lt hf ad).2 (by grind);rw[hg] at this;exact this) vO um fun _ hW=>vD k a.kh a.vh true fun _ hV=>ai _ hW _ hV
theorem CC(h:Ig w ps S Y)(hH:Bt.Holds S o t root L R)(hT:jE w px ps t root)(k:Nat){p:List UInt8×List UInt8}(hk:L[k]?=some p):
 Cb 18 #[PV px,Xi k] w (.tuple #[eu p,Xi 0]):=by
 rcases hH with⟨hE,rfl,rfl,rfl⟩ | ⟨d,x,hx,rfl,rfl,rfl⟩
 ·cases hk
 ·have hf:=hx.fit;have ai:∃e,(Bt.its x)[k]?=some e/\p=(e.k,e.v):=by
   grind [pairs,Bt.its]
  obtain⟨e,ai,rfl⟩:=ai;have ad:=hx.blobs e (cI ai);have hl:=Bt.blobs_lt hf ad;have hg:=jt hf ad.lv ad.v;have an:=jt hf ad.lk ad.k;exact xH hT k (e.k,e.v) e.kh e.vh 0 0 0 (ab rfl) vN ul (fun _ hW=>KD k e.kh e.vh 0 fun _ hV=>zS (h.below (hW.trans (hV.mono hW.size))) hx.walk hx.low40 ai) (fun _ W hW=>by
   have:=iz (h.below hW) hf.inv e.kh hl.1 (by grind);rw[an] at this;exact this) (fun _ W hW=>by
   have:=iz (h.below hW) hf.inv e.vh hl.2 (by grind);rw[hg] at this;exact this)
theorem CD(h:Ig w ps S Y)(hH:Bt.Holds S o t root L R)(hT:jE w px ps t root)(k:Int)(hk:k<0\/(L.length:Int)<=k):
 Cb 18 #[PV px,Xi k] w (.tuple #[eu ([],[]),Xi 2]):=
 xH hT k ([],[]) 0 0 0 0 2 (ae ⟨rfl,rfl⟩) vN ul (fun _ hW=>KD k 0 0 2 fun _ hV=>zT (h.below (hW.trans (hV.mono hW.size))) hH.fit.inv hH.deg.1 hH.deg.2 (fun _ hU=>uN (h.below ((hW.trans (hV.mono hW.size)).trans (hU.mono (hW.trans (hV.mono hW.size)).size))) hH) hk) (fun e=>nomatch e) fun e=>nomatch e
structure iV (S:St) (L:List (List UInt8×List UInt8)) (R:List Nat) (Hold:St->(Nat->Nat)->Nat->List (List UInt8×List UInt8)->List Nat->Prop) (a b:List UInt8) (p q:Nat) (x:Nat) (S3:St):Prop where
 holds:∃o3 R3,Hold S3 o3 x (gV L a b) R3/\∀y∈R3,y∈R\/reco S y=none
 grew:ej S S3 p q
 apart:∀y,y∉R->reco S y≠none->reco S3 y=reco S y
theorem qDgac{P:Prop}(h:P:=by
 obtain⟨rfl,rfl,hR⟩:=hR;refine b8 (sV px 0 0 W) fun w' hb=>?_;exact⟨S',rfl,hW.below hb,hW.keep hb,hR⟩):P:=h
theorem CG {a:List UInt8}(hins:Bt.getL L a=none->L≠[]->∀d,j4 d)(h:Ig w ps S Y)(hH:Bt.Holds S o t root L R)(hT:jE w px ps t root)(hpx:Y px)(b:List UInt8)(ha:a.length<=1000)(hb:b.length<=1000)(hc:L.length<126)(hr:fc S 20 9):
 Ct 43 #[PV px,eu (a,b)] w fun e w'=>∃(x:Nat) (S3:St),e=.returned (.tuple #[SV ((Bt.getL L a).getD []),.bool (Bt.getL L a).isSome,Xi 0])/\Ig w' ps S3 Y/\Fo (fun k=>Y k/\k≠px) w w'/\jE w' px ps t x/\iV S L R (fun S o x L R=>Bt.Holds S o t x L R) a b 20 9 x S3:=by
 obtain⟨ka,vb,S1,o1,au,ar,f1,n1,n2,a0,l1,l2,q1,g1⟩:=Bt.two_fit hH.fit ha hb (hr.mono (by omega) (by omega));have ai:∀y,reco S y≠none->reco S1 y=reco S y:=fun y hy=>q1 y (by grind) (by grind);have a6:fc S1 14 7:=fc.grew (hr.mono (p':=6+14) (q':=2+7) (by omega) (by omega)) g1;have an:gu S1 ⟨0,ka,vb,a,b⟩:=⟨l1,l2,ha,hb⟩
 rcases hH with⟨hE,rfl,rfl,rfl⟩ | ⟨d,x,hx,rfl,rfl,rfl⟩
 ·--the first key
  refine(ny h hE.fit.inv hT hpx a b ar au false [] (R:=fun x ik iv S'=>ik=0/\iv=0/\iV S [] [] (fun S o x L R=>Bt.Holds S o t x L R) a b 20 9 x S') (R2:=fun x S'=>iV S [] [] (fun S o x L R=>Bt.Holds S o t x L R) a b 20 9 x S') rH qu (fun W Z hW _ _=>rA hW false fun V Z' hV=>?_) fun x ik iv S' hR W Z hW _ _=>?_).mono ?_
  ·refine(zH hV ⟨f1,hE.t1,hE.t2⟩ (e:=⟨0,ka,vb,a,b⟩) ⟨an,a0⟩ (a6.mono (by omega) (by omega))).mono ?_;rintro e w' ⟨y,S',o',rfl,hs,hk,ht,hi,hn,ap,hg⟩;refine⟨_,_,_,S',rfl,hs,hk,rfl,rfl,⟨⟨o',Bt.recs y,ae ⟨0,y,ht,rfl,?_,rfl⟩,fun z hzm=>?_⟩,(g1.trans hg).mono (by omega) (by omega),fun z _ hz=>(ap z (by grind)).trans (ai z hz)⟩⟩
   ·rw[hi]
    rfl
   ·refine ae ?_
    cases q:reco S z with
    | none=>rfl
    | some ws=>
     exfalso
     have bk:=ai z (by grind)
     rcases ax.1 hzm with hm | hm
     ·grind
     ·rw[hi] at hm;have hm:z∈ [ka,vb]:=hm
      grind
  ·exact qDgac
  ·rintro e w' ⟨x,S3,rfl,h1,h2,h3,h4⟩;exact⟨x,S3,rfl,h1,h2,h3,h4⟩
 ·have ad:Bt.Tree S1 o1 t x:=hx.frame f1 fun y hy=>ai y (hx.has y hy);have bd:(Bt.its x).length<126:=by rw[jT] at hc;omega
  have a5:ka∉Bt.recs x/\vb∉Bt.recs x:=⟨fun q=>hx.has _ q n1,fun q=>hx.has _ q n2⟩;have bf:d<=5:=by
   have h1:=Bt.pow_le t hx.t1 hx.ok hx.pos
   rcases co 5 d with h3 | h3
   ·have:2^7<=2^(d+1):=cL (by decide) (by omega);have e:2^7=128:=by decide
    omega
   omega
  cases hf:Bt.findB a (Bt.its x) with
  | none=>
   have a2:Bt.getL (pairs (Bt.its x)) a=none:=by rw[Bt.getL_pairs,hf];rfl
   have a4:∀z∈Bt.its x,z.k≠a:=fun z hz q=>by
    grind [Bt.findB,List.find?_eq_none]
   have a8:pairs (Bt.its x)≠[]:=fun q=>by
    have h1:=Bt.pow_le t hx.t1 hx.ok hx.pos;have h2:=congrArg List.length q
    grind [jT,Nat.pow_le_pow_right,Bt.its]
   have hq:=(oE t a x).2;have a':fc S1 (2*iD t a x) (iD t a x):=a6.mono (by omega) (by omega);refine(ny h hx.fit.inv hT hpx a b ar au false [] (R:=fun x' ik iv S'=>ik=0/\iv=0/\iV S (pairs (Bt.its x)) (Bt.recs x) (fun S o x L R=>Bt.Holds S o t x L R) a b 20 9 x' S') (R2:=fun x' S'=>iV S (pairs (Bt.its x)) (Bt.recs x) (fun S o x L R=>Bt.Holds S o t x L R) a b 20 9 x' S') rH qu (fun W Z hW _ _=>rA hW false fun V Z' hV=>?_) fun x' ik iv S' hR W Z hW _ _=>?_).mono ?_
   ·refine(zI (hins a2 a8) hV ad (e:=⟨0,ka,vb,a,b⟩) ⟨an,a0,a5,a4,by omega⟩ a').mono ?_;rintro e w' ⟨d',y,S',o',rfl,hs,hk,ht,hi,hn,ap,hg⟩;have hg:ej S1 S' (2*iD t a x) (iD t a x):=hg;refine⟨_,_,_,S',rfl,hs,hk,rfl,rfl,⟨⟨o',Bt.recs y,ae ⟨d',y,ht,rfl,?_,rfl⟩,fun z hzm=>?_⟩,(g1.trans hg).mono (by omega) (by omega),fun z hzx hz=>(ap z (fun q=>hzx (aE _ q)) (by rw[ai z hz];exact hz)).trans (ai z hz)⟩⟩
    ·rw[hi];exact(Bt.pairs_ins (e:=⟨0,ka,vb,a,b⟩) hx.sorted a4).symm
    grind [Bt.recs,List.mem_append_left,reco,Bt.blobH_ins,List.mem_append_right]
   ·exact qDgac
   ·grind
  | some e0=>
   have a2:Bt.getL (pairs (Bt.its x)) a=some e0.v:=by rw[Bt.getL_pairs,hf];rfl
   obtain⟨⟨g,n0,k0⟩,a3⟩:=Bt.nodeB_some (key:=a) ad.walk (by grind);obtain⟨e1,a1⟩:=Bt.rep_at (e:=⟨0,ka,vb,a,b⟩) (Bt.blobs_lt f1 an) ad.walk ad.nodes ad.lts a3;obtain rfl:e1=e0:=Option.some.inj (a1.find.symm.trans hf);obtain⟨S2,a9⟩:∃S2,S2=FC S1 g 0 (bnWords t (Bt.setN n0 k0 ⟨0,ka,vb,a,b⟩)):=⟨_,rfl⟩;obtain⟨i2,b2,lk,lv,d2,S3,bc,bb,ba,g3,a7,bm⟩:=ad.swap an a0 a5 a1 a9;have bj:iV S (pairs (Bt.its x)) (Bt.recs x) (fun S o x L R=>Bt.Holds S o t x L R) a b 20 9 (Bt.hd x) S3:=by
    refine⟨⟨o1,_,ae ⟨d,_,bb,(Bt.mapB_hd _ x).symm,ba.symm,rfl⟩,fun y hy=>?_⟩,(g1.trans g3).mono (by omega) (by omega),fun y hy hz=>(a7 y hy).trans (ai y hz)⟩
    grind
   refine(ny h hx.fit.inv hT hpx a b ar au true e1.v (R:=fun x' ik iv S'=>x'=Bt.hd x/\ik=e1.kh/\iv=e1.vh/\S'=S2) (R2:=fun x' S'=>iV S (pairs (Bt.its x)) (Bt.recs x) (fun S o x L R=>Bt.Holds S o t x L R) a b 20 9 x' S') rH qu (fun W Z hW _ _=>rA hW true fun V Z' hV=>?_) fun x' ik iv S' hR W Z hW hTW hZ=>?_).mono ?_
   ·refine(zJ hV ad (e:=⟨0,ka,vb,a,b⟩) an a3 a1).mono ?_
    grind
   ·obtain⟨rfl,rfl,rfl,rfl⟩:=hR;refine(xL hW i2.inv hTW hZ e1.kh e1.vh lk lv (by rw[b2];simp) d2).mono ?_
    grind
   ·grind
end
theorem zZ {w:World}{ps:Nat}{S:St}{Y:Nat->Prop}(h:Ig w ps S Y)(hi:Fv S){t:Nat}(t1:2<=t)(t2:t<=16):
 Ct 87 #[PV ps,Xi 3,Xi t] w fun e w'=>e=.returned (Xi 0)/\w=w':=by
 have ad:=fB h hi 0 (by omega);rw[fU] at ad;have ai:=fun W=>pW t t1 t2 W;have h6:((6*(t:Int))==0)=false:=by simp;omega
 have HG:=kq2 ad ai;clear ad h hi ai;go_enter func87,ntmps87;go_wp2_with fail;refine Jc HG.a ?_;go_wp2_with fail;refine Jc (HG.b _) ?_;go_wp2_with fail;go_ret;exact⟨rfl,rfl⟩
theorem zU {w:World}{ps:Nat}{S:St}{Y:Nat->Prop}(h:Ig w ps S Y)(hi:Fv S){t:Nat}(t1:2<=t)(t2:t<=16):
 Ct 133 #[PV ps,Xi t,Xu 0] w fun e w'=>e=.returned (Xi 0)/\w=w':=by
 have HG:=If (kZ h hi t1 t2);clear h hi;go_enter func133,ntmps133;go_wp2_with fail;refine Jc HG.out ?_;go_wp2_with fail;go_ret;exact⟨rfl,rfl⟩
theorem qc {w:World}{ps:Nat}{S:St}{Y:Nat->Prop}(h:Ig w ps S Y)(hi:Fv S){t:Nat}(t1:2<=t)(t2:t<=16):
 Ct 86 #[PV ps,Xi 3,Xi t,Xu 0] w fun e w'=>e=.returned (Xi 0)/\w=w':=by
 have HG:=kq2 (zZ h hi t1 t2) (zU h hi t1 t2);clear h hi;go_enter func86,ntmps86;go_wp2_with fail;refine Jc HG.a ?_;go_wp2_with fail;refine Jc HG.b ?_;go_wp2_with fail;go_ret;exact⟨rfl,rfl⟩
theorem Cy {w:World}{ps:Nat}{S:St}{Y:Nat->Prop}(h:Ig w ps S Y)(hi:Fv S){t:Nat}(t1:2<=t)(t2:t<=16):
 Ct 47 #[PV ps,Xi 3,Xi t,Xu 0] w fun e w'=>∃px,e=.returned (.tuple #[PV px,Xi 0])/\jE w' px ps t 0/\Below w.heap.size w w'/\w.heap.size<=px:=by
 have HG:=If (qc h hi t1 t2);have q:=heap_alloc_new w (.cells #[PV ps,Xi 3,Xi t,.iface 164 (.agg #[PV ps,Xi t]),Xu 0] 100);have B:=(aa w.heap.size w).alloc Ih (.cells #[PV ps,Xi 3,Xi t,.iface 164 (.agg #[PV ps,Xi t]),Xu 0] 100);have HB:=kq2 q B;clear h hi q B;go_enter func47,ntmps47;go_wp2_with fail;refine Jc HG.out ?_;go_wp2_with fail;go_ret2;exact⟨w.heap.size,rfl,HB.a,HB.b,Nat.le_refl _⟩
theorem Cv {w:World}{ps:Nat}{S:St}{Y:Nat->Prop}(h:Ig w ps S Y)(hi:Fv S){t:Nat}(t1:2<=t)(t2:t<=16):
 Ct 13 #[PV ps,Xi 3,Xi t] w fun e w'=>∃px,e=.returned (.tuple #[PV px,Xi 0])/\jE w' px ps t 0/\Below w.heap.size w w'/\w.heap.size<=px:=by
 have HG:=If (Cy h hi t1 t2);clear h hi;go_enter func13,ntmps13;go_wp2_with fail;refine HG.out.mono ?_;rintro e w1 ⟨px,rfl,hr⟩;have HB:=If hr;clear hr;go_wp2_with fail;go_ret2;exact⟨px,rfl,HB.out⟩
structure jo where
 On:World->Nat->Nat->Nat->Prop
 Hold:St->(Nat->Nat)->Nat->List (List UInt8×List UInt8)->List Nat->Prop
structure pL (K:jo):Prop where
 onBelow:∀{w w':World} {px ps root:Nat},K.On w px ps root->Below w.heap.size w w'->K.On w' px ps root
 onKeep:∀{w w':World} {px ps root:Nat} {Y:Nat->Prop},K.On w px ps root->Fo Y w w'->Y px->K.On w' px ps root
 onLt:∀{w:World} {px ps root:Nat},K.On w px ps root->px<w.heap.size
 onAt:∀{w w':World} {px ps root:Nat},K.On w px ps root->w'.heap[px]?=w.heap[px]?->K.On w' px ps root
 fit:∀{S:St} {o:Nat->Nat} {root:Nat} {L:List (List UInt8×List UInt8)} {R:List Nat},K.Hold S o root L R->Fw S o
 has:∀{S:St} {o:Nat->Nat} {root:Nat} {L:List (List UInt8×List UInt8)} {R:List Nat},K.Hold S o root L R->∀y∈R,reco S y≠none
 frame:∀{S S':St} {o o':Nat->Nat} {root:Nat} {L:List (List UInt8×List UInt8)} {R:List Nat},K.Hold S o root L R->Fw S' o'->(∀y∈R,reco S' y=reco S y)->K.Hold S' o' root L R
 sorted:∀{S:St} {o:Nat->Nat} {root:Nat} {L:List (List UInt8×List UInt8)} {R:List Nat},K.Hold S o root L R->L.Pairwise fun p q=>Fu p.1 q.1<0
 len:∀{w:World} {px ps root:Nat} {S:St} {o:Nat->Nat} {Y:Nat->Prop} {L:List (List UInt8×List UInt8)} {R:List Nat},Ig w ps S Y->K.Hold S o root L R->L.length<98->K.On w px ps root->
  Cb 19 #[PV px] w (Xi (L.length:Nat))
 rank:∀{w:World} {px ps root:Nat} {S:St} {o:Nat->Nat} {Y:Nat->Prop} {L:List (List UInt8×List UInt8)} {R:List Nat},Ig w ps S Y->K.Hold S o root L R->L.length<98->K.On w px ps root->∀k:List UInt8,
  Cb 16 #[PV px,SV k] w (Xi (eK L k:Nat))
 get:∀{w:World} {px ps root:Nat} {S:St} {o:Nat->Nat} {Y:Nat->Prop} {L:List (List UInt8×List UInt8)} {R:List Nat},Ig w ps S Y->K.Hold S o root L R->L.length<98->K.On w px ps root->∀k:List UInt8,
  Cb 17 #[PV px,SV k] w (.tuple #[SV ((Bt.getL L k).getD []),.bool (Bt.getL L k).isSome])
 at':∀{w:World} {px ps root:Nat} {S:St} {o:Nat->Nat} {Y:Nat->Prop} {L:List (List UInt8×List UInt8)} {R:List Nat},Ig w ps S Y->K.Hold S o root L R->L.length<98->K.On w px ps root->∀(k:Nat) (p:List UInt8×List UInt8),L[k]?=some p->
  Cb 18 #[PV px,Xi k] w (.tuple #[eu p,Xi 0])
 atRef:∀{w:World} {px ps root:Nat} {S:St} {o:Nat->Nat} {Y:Nat->Prop} {L:List (List UInt8×List UInt8)} {R:List Nat},Ig w ps S Y->K.Hold S o root L R->L.length<98->K.On w px ps root->∀k:Int,k<2^62->(k<0\/(L.length:Int)<=k)->
  Cb 18 #[PV px,Xi k] w (.tuple #[eu ([],[]),Xi 2])
structure gB (K:jo) (P:List (List UInt8×List UInt8)->Prop):Prop extends pL K where
 put:∀{w:World} {px ps root:Nat} {S:St} {o:Nat->Nat} {Y:Nat->Prop} {L:List (List UInt8×List UInt8)} {R:List Nat},Ig w ps S Y->K.Hold S o root L R->L.length<98->K.On w px ps root->Y px->P L->∀a b:List UInt8,a.length<=1000->b.length<=1000->fc S 20 9->
  Ct 43 #[PV px,eu (a,b)] w fun e w'=>∃(x:Nat) (S3:St),e=.returned (.tuple #[SV ((Bt.getL L a).getD []),.bool (Bt.getL L a).isSome,Xi 0])/\Ig w' ps S3 Y/\Fo (fun k=>Y k/\k≠px) w w'/\K.On w' px ps x/\iV S L R K.Hold a b 20 9 x S3
def mS(t:Nat):jo:=⟨fun w px ps root=>jE w px ps t root,fun S o root L R=>Bt.Holds S o t root L R⟩
theorem uY {l:List It}(h:l.Pairwise eU):(pairs l).Pairwise fun p q=>Fu p.1 q.1<0:=by
 exact dK.2 (h.imp fun {a b} q=>q)
theorem CA(t:Nat):pL (mS t) where
 onBelow h hb:=FF.below h hb
 onKeep h hk hy:=FF.keep h hk hy
 onLt h:=(gl h)
 onAt h e:=e.trans h
 fit h:=Bt.Holds.fit h
 has h:=Bt.Holds.has h
 frame h:=Bt.Holds.frame h
 sorted h:=by
  rcases h with⟨_,_,rfl,_⟩ | ⟨_,_,h,_,rfl,_⟩
  ·simp_all
  ·exact uY h.sorted
 len h hH _ hT:=CF h hH hT
 rank h hH _ hT k:=CH h hH hT k
 get h hH _ hT k:=CE h hH hT k
 at' h hH _ hT k p hk:=CC h hH hT k hk
 atRef h hH _ hT k _ hk:=CD h hH hT k hk
theorem Cw(hins:∀d,j4 d)(t:Nat){P:List (List UInt8×List UInt8)->Prop}:gB (mS t) P:=
 { CA t with put:=fun h hH hc hT hpx _ _ b ha hb hr=>CG (fun _ _=>hins) h hH hT hpx b ha hb (by omega) hr }
def jH(kind:Nat)(Ok:Tr->Prop):jo:=⟨fun w px ps root=>FF w px ps 162 (fE ps kind) kind 0 root,fun S o root L R=>∃t:Tr,fC Ok S o t/\root=t.root/\L=pairs t.its/\R=eB t.its⟩
theorem At.item {S:St}:∀{t:Tr},Tr.At S t->∀d∈t.its,∃n0:Nd,reco S d.h=some (eM n0)/\n0.key=d.kh/\n0.val=d.vh
 | .nil,_,d,hd=>by cases hd
 | .node l e m r,ha,d,hd=>by
  obtain⟨h1,h2,h3⟩:=ha;rcases ax.1 (show d∈l.its++e::r.its from hd) with hd | hd
  ·exact At.item h2 d hd
  ·rcases aj.1 hd with rfl | hd
   ·exact⟨_,h1,rfl,rfl⟩
   ·exact At.item h3 d hd
theorem tM {Ok:Tr->Prop}{S:St}{o:Nat->Nat}{t:Tr}(h:fC Ok S o t)(hc:t.its.length<98)(key:List UInt8):∃hh,ij S key (Lf.limit S) t.root 0=some (hh,eK (pairs t.its) key)/\((hh=0/\Bt.getL (pairs t.its) key=none)\/∃d:It,hh=d.h/\d.h≠0/\d.h<2^64/\Bt.getL (pairs t.its) key=some d.v/\gD S (getNode S d.h).1.val=some d.v):=by
 obtain⟨hh,e,q⟩:=h.down (by omega) key;rw[<-ue] at e;refine⟨hh,e,?_⟩;rw[Bt.getL_pairs]
 rcases q with⟨rfl,q⟩ | ⟨d,hd,hk,rfl⟩
 ·rw[Bt.findB_none q]
  grind
 ·obtain⟨n0,e1,e2,e3⟩:=At.item h.at' d hd;have hf:Bt.findB key t.its=some d:=by
   cases hf:Bt.findB key t.its with
   | none=>
    have:=bE.1 hf d hd;rw[hk] at this
    simp at this
   | some d'=>
    unfold Bt.findB at hf;have ad:d'.k=key:=by grind
    have hp:=h.sorted;rw[cz] at hp;obtain⟨i,hi,rfl⟩:=bK.1 hd;obtain⟨j,hj,rfl⟩:=bK.1 (bT hf);have ai:∀i j (hi:i<t.its.length) (hj:j<t.its.length),i<j->t.its[i].k≠t.its[j].k:=fun i j hi hj hij q=>by
     grind [eU,fX]
    rcases Nat.lt_trichotomy i j with q | q | q
    ·grind
    ·grind
    ·grind
  have ho:=fL h.fit e1;have hb:=h.blobs d hd;rw[hf];refine ae ⟨d,rfl,by omega,ho.2.1,rfl,?_⟩;rw[gw h.fit e1,e3];exact At.blob h.fit hb.lv hb.v
theorem nZ(L:List (List UInt8×List UInt8))(a:List UInt8):eK L a<=L.length:=cB
theorem AL(args:Array Value)(w:World):(callFunc 304 args).run prog w=.ok (.enter 304 args) w:=by simp_all
theorem AK(args:Array Value)(w:World):(callFunc 302 args).run prog w=.ok (.enter 302 args) w:=by simp_all
theorem qt(args:Array Value)(w:World):(callFunc 299 args).run prog w=.ok (.enter 299 args) w:=by simp_all
theorem ui(args:Array Value)(w:World):(callFunc 300 args).run prog w=.ok (.enter 300 args) w:=by simp_all
theorem uj(args:Array Value)(w:World):(callFunc 301 args).run prog w=.ok (.enter 301 args) w:=by simp_all
theorem zg(kind:Nat)(Ok:Tr->Prop):pL (jH kind Ok) where
 onBelow h hb:=FF.below h hb
 onKeep h hk hy:=FF.keep h hk hy
 onLt h:=(gl h)
 onAt h e:=e.trans h
 fit h:=by obtain⟨t,h,_⟩:=h;exact h.fit
 has h:=by obtain⟨t,h,_,_,rfl⟩:=h;exact h.some
 frame h hf hs:=by obtain⟨t,h,h1,h2,rfl⟩:=h;exact⟨t,h.frame hf hs,h1,h2,rfl⟩
 sorted h:=by obtain⟨t,h,_,rfl,_⟩:=h;exact uY h.sorted
 len h hH hc hT:=by
  obtain⟨t,hb,rfl,rfl,rfl⟩:=hH;rw[jT] at hc⊢;exact xM hT Da AL fun _ hW=>zh (h.below hW) hb.fit.inv kind _ (hb.at'.root_lt hb.fit) (hb.at'.size hb.fit (by omega))
 rank h hH hc hT k:=by
  obtain⟨t,hb,rfl,rfl,rfl⟩:=hH;rw[jT] at hc;obtain⟨hh,e,_⟩:=tM hb hc k;exact xO hT k C9 AK fun _ hW=>zf (h.below hW) hb.fit.inv kind _ (hb.at'.root_lt hb.fit) k (by unfold oP;grind)
 get {w px ps root S o Y L R} h hH hc hT k:=by
  obtain⟨t,hb,rfl,rfl,rfl⟩:=hH;rw[jT] at hc;have hl:=hb.at'.root_lt hb.fit;obtain⟨hh,e,⟨rfl,q⟩ | ⟨d,rfl,q1,q2,q,q3⟩⟩:=tM hb hc k
  ·rw[q];refine nu (t:=[]) (e1:=0) hT k 0 0 false (fun _=>rfl) (fun e=>nomatch e) vP ui fun W hW=>?_;have:=tL (h.below hW) hb.fit.inv kind t.root hl k e (by simp);simpa[Id,qM,Nd.zero] using this
  ·rw[q];obtain⟨b1,b2⟩:=sS q3;refine nu hT k (getNode S d.h).1.key (getNode S d.h).1.val true d.v (fz S (getNode S d.h).1.val).2 (fun e=>nomatch e) (fun _ W hW=>?_) vP ui fun W hW=>?_
   ·have:=iz (h.below hW) hb.fit.inv _ (fs h d.h).val b1;rwa[b2] at this
   ·have:=tL (h.below hW) hb.fit.inv kind t.root hl k e q2;simpa[Id,q1] using this
 at' h hH hc hT k p hp:=by
  obtain⟨t,hb,rfl,rfl,rfl⟩:=hH;rw[jT] at hc;obtain⟨ad,ar⟩:=aq.1 hp;rw[jT] at ad;have an:=hb.place (by omega) ad;have hq:(pairs t.its)[k]?=some (t.its[k].k,t.its[k].v):=by grind [pairs,List.getElem?_eq_getElem]
  have:p=(t.its[k].k,t.its[k].v):=Option.some.inj (hp.symm.trans hq);rw[<-this] at an;obtain⟨hh,ap,h1,h2,h3⟩:=EQ an;obtain⟨b1,b2⟩:=sS h2;obtain⟨b3,b4⟩:=sS h3;have ai:=fs h hh;exact xH hT (k:Int) p _ _ _ _ 0 (ab rfl) rI qt (fun W hW=>tK (h.below hW) hb.fit.inv kind t.root (hb.at'.root_lt hb.fit) k (by omega) h1 ap)
   (fun _ W hW=>by have:=iz (h.below hW) hb.fit.inv _ ai.key b1;rwa[b2] at this) (fun _ W hW=>by have:=iz (h.below hW) hb.fit.inv _ ai.val b3;rwa[b4] at this)
 atRef {w px ps root S o Y L R} h hH hc hT k hk2 hk:=by
  obtain⟨t,hb,rfl,rfl,rfl⟩:=hH;rw[jT] at hc hk;by_cases h0:k<0
  ·refine xH hT k ([],[]) 0 0 0 0 2 (ae ⟨rfl,rfl⟩) rI qt (fun W hW=>?_) (fun e=>nomatch e) fun e=>nomatch e;have:=za (h.below hW) hb.fit.inv kind t.root k h0;simpa[Id,qM,Nd.zero] using this
  ·obtain⟨n,rfl⟩:∃n:Nat,k=n:=⟨k.toNat,by omega⟩;exact xH hT (n:Int) ([],[]) (getNode S 0).1.key (getNode S 0).1.val 0 0 2 (ae ⟨rfl,rfl⟩) rI qt (fun W hW=>tK (h.below hW) hb.fit.inv kind t.root (hb.at'.root_lt hb.fit) n (by omega) (hb.over (by omega) (by omega)) (by decide)) (fun e=>nomatch e) fun e=>nomatch e
theorem pU {kind:Nat}{j c:FuncId}{jn:Jn}{Ok:Tr->Prop}(hk:jD kind j c jn)(J:kV jn Ok){P:List (List UInt8×List UInt8)->Prop}:gB (jH kind Ok) P where
 topL:=zg kind Ok
 put {w px ps root S o Y L R} h hH hc hT hpx _ a b ha hb' hr:=by
  obtain⟨t,hb,rfl,rfl,rfl⟩:=hH;rw[jT] at hc;have a0:=hr.mono (p':=7) (q':=3) (by omega) (by omega);have hl:=hb.at'.root_lt hb.fit;cases hf:Bt.findB a t.its with
  | none=>
   have an:Bt.getL (pairs t.its) a=none:=by rw[Bt.getL_pairs,hf];rfl
   have a2:∀z∈t.its,z.k≠a:=fun z hz q=>by
    grind [Bt.findB,List.find?_eq_none]
   rw[an];obtain⟨u,S',o',po,ad,hB,ap,_,hg,ai,ar⟩:=DI J hb hc ha hb' a0 a2;unfold treePutM at ad;split at ad
   ·cases ad
   rename_i p S1 hit;have au:iV S (pairs t.its) (eB t.its) (jH kind Ok).Hold a b 20 9 u.root S':=⟨⟨o',eB u.its,⟨u,hB,rfl,ap.symm,rfl⟩,ar⟩,hg.mono (by omega) (by omega),ai⟩;refine ny h hb.fit.inv hT hpx a b po.1 hit false [] (R:=fun x ik iv S2=>x=u.root/\ik=0/\iv=0/\S2=S') (R2:=fun x S2=>iV S (pairs t.its) (eB t.its) (jH kind Ok).Hold a b 20 9 x S2) vQ uj (fun W Z hW hp1 hp2=>?_) fun x ik iv S2 hR W Z hW _ _=>?_
   ·refine(zc hW (po.2 _ _ hit) hk t.root p.1 p.2 hl hp1 hp2 ad).mono ?_;grind
   ·obtain⟨rfl,rfl,rfl,rfl⟩:=hR;refine b8 (sV px 0 0 W) fun w' hb=>?_;exact⟨_,rfl,hW.below hb,hW.keep hb,au⟩
  | some d=>
   have an:Bt.getL (pairs t.its) a=some d.v:=by rw[Bt.getL_pairs,hf];rfl
   rw[an];have hd:d∈t.its:=by unfold Bt.findB at hf;grind
   have a1:d.k=a:=by unfold Bt.findB at hf;grind
   have hlt:=Bt.blobs_lt hb.fit (hb.blobs d hd);obtain⟨u,S6,S8,o',po,ad,f6,b6,i6,e8,hB,ap,_,hg,ai,ar⟩:=DJ J hb hc ha hb' a0 hd a1;unfold treeRepM at ad;split at ad
   ·cases ad
   rename_i p S1 hit;have au:iV S (pairs t.its) (eB t.its) (jH kind Ok).Hold a b 20 9 u.root S8:=⟨⟨o',eB u.its,⟨u,hB,rfl,ap.symm,rfl⟩,ar⟩,hg.mono (by omega) (by omega),ai⟩;refine ny h hb.fit.inv hT hpx a b po.1 hit true d.v (R:=fun x ik iv S2=>x=u.root/\ik=d.kh/\iv=d.vh/\S2=S6) (R2:=fun x S2=>iV S (pairs t.its) (eB t.its) (jH kind Ok).Hold a b 20 9 x S2) vQ uj (fun W Z hW hp1 hp2=>?_) fun x ik iv S2 hR W Z hW hTW hZ=>?_
   ·refine(zd hW (po.2 _ _ hit) hk t.root p.1 p.2 hl hp1 hp2 ad f6.inv).mono ?_;grind
   ·obtain⟨rfl,rfl,rfl,rfl⟩:=hR;refine(xL hW f6.inv hTW hZ d.kh d.vh hlt.1 hlt.2 (by rw[b6];simp) i6).mono ?_;grind
theorem Kj {w:World}{ps:Nat}{S:St}{Y:Nat->Prop}(h:Ig w ps S Y){t:Nat}(t1:2<=t)(t2:t<=16):
 Cb 81 #[FH ps t] w (Xi (S.words / (6*t)+1:Nat)):=by
 have B0:=(aa w.heap.size w).alloc Ih (Xd ps t);have q0:=heap_alloc_new w (Xd ps t);have an:=fun W (hW:Below w.heap.size w W)=>xo (h.below hW);have au:=fun W=>pW t t1 t2 W;have a4:=nB h;obtain⟨wd,ap⟩:=Ii S.words;rw[ap] at a4 an;have hq:((wd:Int)).tdiv (6*(t:Int))=((wd / (6*t):Nat):Int):=by
  rw[show (6*(t:Int))=((6*t:Nat):Int) by omega];exact(Int.ofNat_tdiv wd (6*t)).symm
 have a3:wd / (6*t)<=wd:=Nat.div_le_self _ _;obtain⟨qq,ai⟩:=Ii (wd / (6*t));rw[ai] at hq a3;have h6:((6*(t:Int))==0)=false:=by simp;omega
 have a5:(6*(t:Int))≠0:=by omega
 have a6:IntKind.i64.wrap ((qq:Int))=(qq:Int):=az _ (by omega);have a7:IntKind.i64.wrap ((qq:Int)+1)=(qq:Int)+1:=az _ (by omega);have HG:=kq4 an au B0 q0;obtain⟨W0,a2⟩:=Ii (w.alloc (Xd ps t));rw[a2] at HG;obtain⟨I,ar,ad⟩:=ic fun w'=>w'.heap[w.heap.size]?=some (Xd ps t);have a0:=fun x:Fq I=>ar _ x.ok;obtain⟨m0,m1⟩:=fw a0;have a1:I W0.drew:=ad _ HG.d;have HI:=If ad;have HQ:=kq2 ap ai;clear ar ad a0 an au B0 q0 h ap ai;unfold FH;go_enter func81,ntmps81;go_wp2_with fail;refine fh I (.take 0 (.take 1 (.take 3 (.take 4 (.go 2 (.go 5 (.take 6 (.take 7 (.go 8 .nil))))))))) (by kernel_rfl) (by kernel_rfl) a1 ?_
 iterate 4
  refine' pT ?_ ?_;rotate_left
  ·intro x;go_simp
   try rfl
  try simp only[pu]
 refine pD fun K hK=>?_;go_simp;refine b8 (HG.a _ (HG.c.drew)) fun w1 hb1=>?_;have H1:=kq2 (HG.c.drew.trans (hb1.mono HG.c.drew.size)) (HI.out _ ((hb1.block w.heap.size (gl HG.d)).trans HG.d));clear hb1
 try go_simp
 refine hK.out _ _ (H1.b) ?_;clear hK K
 try simp only[pu]
 refine pD fun K hK=>?_;go_simp;refine Jc (HG.b w1) ?_
 try go_simp
 refine hK.out _ _ (H1.b) ?_;clear hK K
 try simp only[pu]
 iterate 2
  refine' pT ?_ ?_;rotate_left
  ·intro x;go_simp
   try rfl
  try simp only[pu]
 refine pD fun K hK=>?_;go_simp
 try go_simp
 refine hK.out _ _ (H1.b) ?_;clear hK K
 try simp only[pu]
 refine eP ?_;go_wp2_with fail;go_ret;exact⟨by rw[HQ.a,HQ.b];first | rfl | simp,H1.a⟩
theorem zM {w:World}{ps:Nat}{S:St}{Y:Nat->Prop}(h:Ig w ps S Y){t:Nat}(t1:2<=t)(t2:t<=16):
 Ct 81 #[FH ps t] w fun e w'=>(∃z:Nat,e=.returned (Xi z)/\1<=z)/\Below w.heap.size w w':=
 (Kj h t1 t2).mono fun _ _ ⟨h1,h2⟩=>⟨⟨_,h1,Nat.le_add_left ..⟩,h2⟩
theorem zL {w:World}{ps:Nat}{S:St}{o:Nat->Nat}{Y:Nat->Prop}(h:Ig w ps S Y)(hf:Fw S o){t:Nat}(t1:2<=t)(t2:t<=16)(bl:Nat):
 Cb 120 #[FH ps t,.slice none 0 0,Xu 0,.pointer (some ⟨bl,0,none⟩),Xi 0] w (.slice none 0 0):=by
 have B0:=(aa w.heap.size w).alloc Ih (Xd ps t);have hg:=nQ (h.below B0) hf.inv t1 t2 0 (by omega) (oy (rZ hf));unfold FH eC at hg;have HG:=kq2 hg B0;clear hg B0 h hf;unfold FH;go_enter func120,ntmps120;go_wp2_with fail;refine b8 HG.a fun w1 hb1=>?_;have B1:=HG.b.trans (hb1.mono HG.b.size);have H1:=If (B1.alloc B1.size (.cells #[.slice none 0 0,.slice none 0 0,.slice none 0 0,Xu 0] 215));clear hb1 B1;go_wp2_with fail;go_ret;exact⟨rfl,H1.out⟩
theorem zV {w:World}{ps:Nat}{S:St}{o:Nat->Nat}{Y:Nat->Prop}(h:Ig w ps S Y)(hf:Fw S o){t:Nat}(t1:2<=t)(t2:t<=16):
 Cb 74 #[PV ps,Xi t,Xu 0] w (.slice none 0 0):=by
 have ar:=kZ h hf.inv t1 t2;have B0:=(aa w.heap.size w).alloc Ih (Xd ps t);have q0:=heap_alloc_new w (Xd ps t);have ad:=zM (h.below B0) t1 t2;have an:=fun W (hW:Below w.heap.size w W) bl=>zL (h.below hW) hf t1 t2 bl;unfold FH at ad an;obtain⟨W0,ap⟩:=Ii (w.alloc (Xd ps t));rw[ap] at B0 q0 ad;obtain⟨x0,x1⟩:=Fp q0;have HG:=kq5 ar ad an B0 q0;clear ar ad an B0 q0 h hf;go_enter func74,ntmps74;go_wp2_with fail;refine Jc HG.a ?_;go_wp2_with fail;refine HG.b.mono ?_;rintro e w1 ⟨⟨z,rfl,hz⟩,ai⟩;have q1:=(ai.block w.heap.size (gl HG.e)).trans HG.e;have B1:=HG.d.trans (ai.mono HG.d.size);have A2:=(aa w1.heap.size w1).alloc Ih (Xj z);have q2:=(A2.block w.heap.size (gl q1)).trans q1;have B2:=B1.trans (A2.mono B1.size);clear ap x0 x1;obtain⟨W1,au⟩:=Ii (w1.alloc (Xj z));rw[au] at q2 B2;obtain⟨x0,x1⟩:=Fp q2;have H2:=If B2;clear ai q1 B1 A2 q2 B2;go_wp2_with fail;refine b8 (HG.c _ H2.out _) fun w3 hb3=>?_;have H3:=If (H2.out.trans (hb3.mono H2.out.size));clear hb3;go_wp2_with fail;go_ret;exact⟨rfl,H3.out⟩
theorem Ab {w:World}{ps:Nat}{S:St}{o:Nat->Nat}{Y:Nat->Prop}(h:Ig w ps S Y)(hf:Fw S o){t:Nat}(t1:2<=t)(t2:t<=16):
 Cb 59 #[PV ps,Xi 3,Xi t,Xu 0] w (.tuple #[.slice none 0 0,Xi 0]):=by
 have hc:=qc h hf.inv t1 t2;have hl:=fun W (hW:Below w.heap.size w W)=>zV (h.below hW) hf t1 t2;have HG:=kq2 hc hl;clear hc hl h hf;go_enter func59,ntmps59;go_wp2_with fail;refine Jc HG.a ?_;have H1:=If (aa w.heap.size w);go_wp2_with fail;refine b8 (HG.b _ H1.out) fun w2 hb2=>?_;have H2:=If (H1.out.trans (hb2.mono H1.out.size));clear hb2;go_wp2_with fail
 go_loopw [16,18,19,20,21,22,62] (fun l1 _ _ _ _ _ k wr=>l1=.slice none 0 0/\k=Xi 0/\wr=w2) (fun _ _ _ _ _ _ _ _=>0)
 case atStart=>exact⟨rfl,rfl,rfl⟩
 case round=>
  obtain⟨rfl,rfl,rfl⟩:=hrel;go_wp2_with fail;go_ret2;exact⟨rfl,H2.out⟩
theorem qDgab{P:Prop}(h:P:=by
 try go_simp
 refine hK.out _ _ (HG.d _ B2.a) ?_;clear hK K
 try simp only[pu]
 refine pD fun K hK=>?_;go_simp
 try go_simp
 refine hK.out _ _ (HG.d _ B2.a) ?_;clear hK K
 try simp only[pu]
 refine eP ?_;go_wp2_with fail;go_ret;exact⟨rfl,B2.b⟩):P:=h
theorem xI {w:World}{px ps kind td:Nat}{ty:TypeId}{kv:Value}(hT:FF w px ps ty kv kind td 0)(hs:∀W,Below w.heap.size w W->Cb 86 #[PV ps,Xi kind,Xi td,Xu 0] W (Xi 0)):
 Cb 56 #[PV px] w (Xi 0):=by
 have hn:=kw hT;have hs:=hs _ (aa _ w).drew;obtain⟨I,an,ad⟩:=kN px ps ty kv kind td 0;have ai:=fun x:Fq I=>an _ x.ok;simp only[FF] at ai;obtain⟨m0,m1,m2,m3,m4⟩:=iK ai;have ap:I w.drew:=ad _ hT;have HG:=kq4 hn hs hT ad;clear hn hs hT an ad ai;go_enter func56,ntmps56;go_wp2_with fail;refine Jc HG.a ?_;go_wp2_with fail;refine fh I (.take 0 (.take 1 (.take 2 (.take 3 (.take 4 (.take 5 (.take 6 (.take 7 (.take 8 (.take 9 (.take 10 (.take 11 (.take 12 (.take 13 (.take 14 (.take 15 (.go 16 (.go 17 .nil)))))))))))))))))) (by kernel_rfl) (by kernel_rfl) ap ?_
 iterate 16
  refine' pT ?_ ?_;rotate_left
  ·intro x;go_simp
   try rfl
  try simp only[pu]
 refine pD fun K hK=>?_;go_simp;refine b8 HG.b fun w2 hb2=>?_;have T2:=FF.below (w:=w.drew) HG.c hb2;have B2:=kq2 T2 ((aa w.heap.size w).drew.trans hb2);clear T2 hb2;exact qDgab
theorem xN {w:World}{px ps kind td:Nat}{ty:TypeId}{kv:Value}(hT:FF w px ps ty kv kind td 0)(hs:∀W,Below w.heap.size w W->Cb 59 #[PV ps,Xi kind,Xi td,Xu 0] W (.tuple #[.slice none 0 0,Xi 0])):
 Cb 26 #[PV px] w (.slice none 0 0):=by
 have hn:=kw hT;have hs:=hs _ (aa _ w).drew;obtain⟨I,an,ad⟩:=kN px ps ty kv kind td 0;have ai:=fun x:Fq I=>an _ x.ok;simp only[FF] at ai;obtain⟨m0,m1,m2,m3,m4⟩:=iK ai;have ap:I w.drew:=ad _ hT;have HG:=kq4 hn hs hT ad;clear hn hs hT an ad ai;go_enter func26,ntmps26;go_wp2_with fail;refine Jc HG.a ?_;go_wp2_with fail;refine fh I (.take 0 (.take 1 (.take 2 (.take 3 (.take 4 (.take 5 (.take 6 (.take 7 (.take 8 (.take 9 (.take 10 (.take 11 (.take 12 (.take 13 (.take 14 (.take 15 (.go 16 (.take 17 (.take 18 (.take 19 (.go 20 (.go 21 .nil)))))))))))))))))))))) (by kernel_rfl) (by kernel_rfl) ap ?_
 iterate 16
  refine' pT ?_ ?_;rotate_left
  ·intro x;go_simp
   try rfl
  try simp only[pu]
 refine pD fun K hK=>?_;go_simp;refine b8 HG.b fun w2 hb2=>?_;have T2:=FF.below (w:=w.drew) HG.c hb2;have B2:=kq2 T2 ((aa w.heap.size w).drew.trans hb2);clear T2 hb2
 try go_simp
 refine hK.out _ _ (HG.d _ B2.a) ?_;clear hK K
 try simp only[pu]
 iterate 3
  refine' pT ?_ ?_;rotate_left
  ·intro x;go_simp
   try rfl
  try simp only[pu]
 refine pD fun K hK=>?_;go_simp;exact qDgab
theorem vG {w:World}{ps px:Nat}{S:St}{Y:Nat->Prop}(h:Ig w ps S Y)(hi:Fv S)(hc:Cb 56 #[PV px] w (Xi 0))(hls:∀W,Below w.heap.size w W->Cb 26 #[PV px] W (.slice none 0 0))(limit:Nat)(hl:limit<=1000):
 Ct 22 #[PV ps,PV px,Xi limit] w fun e w'=>∃pm,e=.returned (.tuple #[PV pm,Xi 0])/\Ic w' pm px ps limit/\Below w.heap.size w w'/\w.heap.size<=pm:=by
 have ad:=fB h hi 0 (by omega);rw[fU] at ad;have h1:((limit:Int)<0)=False:=eq_false (by omega);have h2:(1000<(limit:Int))=False:=eq_false (by omega);have HG:=kq3 ad hc hls;clear ad hc hls h hi hl;go_enter func22,ntmps22;go_wp2_with fail;refine Jc HG.a ?_;go_wp2_with fail;refine b8 HG.b fun w1 hb1=>?_;have H1:=If hb1;clear hb1;go_wp2_with fail;refine b8 (HG.c _ H1.out) fun w2 hb2=>?_;have H2:=If (H1.out.trans (hb2.mono H1.out.size));clear hb2;go_wp2_with fail
 go_loopw [11,33] (fun _ k wr=>k=Xi 0/\wr=w2) (fun _ _ _=>0)
 case atStart=>exact⟨rfl,rfl⟩
 case round=>
  obtain⟨rfl,rfl⟩:=hrel;have q:=heap_alloc_new wr (.cells #[PV ps,PV px,Xi limit] 116);have HB:=kq2 q (H2.out.alloc H2.out.size (.cells #[PV ps,PV px,Xi limit] 116));clear q;go_wp2_with fail;go_ret2;exact⟨wr.heap.size,rfl,HB.a,HB.b,H2.out.size⟩
theorem CR {w:World}{ps:Nat}{S:St}{Y:Nat->Prop}(h:Ig w ps S Y)(kind t:Int)(limit:Nat)(K:jo)(hlt:∀{w px ps root},K.On w px ps root->px<w.heap.size)(hbl:∀{w w' px ps root},K.On w px ps root->Below w.heap.size w w'->K.On w' px ps root)(hn:Ct 13 #[PV ps,Xi kind,Xi t] w fun e w'=>∃px,e=.returned (.tuple #[PV px,Xi 0])/\K.On w' px ps 0/\Below w.heap.size w w'/\w.heap.size<=px)(ho:∀W px,Ig W ps S Y->K.On W px ps 0->Ct 22 #[PV ps,PV px,Xi limit] W fun e w'=>∃pm,e=.returned (.tuple #[PV pm,Xi 0])/\Ic w' pm px ps limit/\Below W.heap.size W w'/\W.heap.size<=pm):
 Ct 52 #[PV ps,Xi kind,Xi t,Xi limit] w fun e w'=>∃pm px,e=.returned (.tuple #[PV pm,Xi 0])/\Ic w' pm px ps limit/\K.On w' px ps 0/\Below w.heap.size w w'/\w.heap.size<=pm/\w.heap.size<=px/\pm≠px:=by
 have ho:=fun W px (hW:Below w.heap.size w W) (hT:K.On W px ps 0)=>ho W px (h.below hW) hT;have HG:=kq2 hn ho;clear hn ho h;go_enter func52,ntmps52;go_wp2_with fail;refine HG.a.mono ?_;rintro e w1 ⟨px,rfl,hT,ad,lx⟩;have H1:=kq3 hT ad lx;clear hT ad lx;go_wp2_with fail;refine(HG.b _ px H1.b H1.a).mono ?_;rintro e w2 ⟨pm,rfl,hM,ai,lm⟩;have H2:=kq3 hM ai lm;clear hM ai lm;go_wp2_with fail;go_ret2;have hlt:=hlt H1.a;exact⟨pm,px,rfl,H2.a,hbl H1.a H2.b,H1.b.trans (H2.b.mono H1.b.size),aB H1.b.size H2.c,H1.c,by have:=H2.c;omega⟩
structure j5 (kind t:Int) (K:jo) (P:List (List UInt8×List UInt8)->Prop):Prop where
 ok:gB K P
 zero:∀{S:St} {o:Nat->Nat},Fw S o->K.Hold S o 0 [] []
 new:∀{w:World} {ps:Nat} {S:St} {o:Nat->Nat} {Y:Nat->Prop},Ig w ps S Y->Fw S o->Ct 13 #[PV ps,Xi kind,Xi t] w fun e w'=>∃px,e=.returned (.tuple #[PV px,Xi 0])/\K.On w' px ps 0/\Below w.heap.size w w'/\w.heap.size<=px
 of:∀{w:World} {ps px:Nat} {S:St} {o:Nat->Nat} {Y:Nat->Prop},Ig w ps S Y->Fw S o->K.On w px ps 0->∀limit:Nat,limit<=1000->Ct 22 #[PV ps,PV px,Xi limit] w fun e w'=>∃pm,e=.returned (.tuple #[PV pm,Xi 0])/\Ic w' pm px ps limit/\Below w.heap.size w w'/\w.heap.size<=pm
abbrev tp(kind t:Int)(K:jo):Prop:=j5 kind t K fun _=>True
theorem rj {P:List (List UInt8×List UInt8)->Prop}{kind:Nat}{j c:FuncId}{jn:Jn}{Ok:Tr->Prop}(hk:jD kind j c jn)(hok:gB (jH kind Ok) P)(hnil:Ok .nil)(t:Int):j5 kind t (jH kind Ok) P where
 ok:=hok
 zero hf:=⟨.nil,⟨hf,trivial,hnil,dJ,fun _ h=>(List.not_mem_nil h).elim,List.Pairwise.nil⟩,rfl,rfl,rfl⟩
 new h hf:=ES h hf.inv hk t
 of h hf hT limit hl:=vG h hf.inv (xI hT fun _ hW=>JF (h.below hW) hf.inv hk 0) (fun _ hW=>xN (FF.below hT hW) fun _ hW'=>Aa (h.below (hW.trans (hW'.mono hW.size))) hf.inv hk 0) limit hl
theorem BT {P:List (List UInt8×List UInt8)->Prop}{t:Nat}(hok:gB (mS t) P)(t1:2<=t)(t2:t<=16):j5 3 t (mS t) P where
 ok:=hok
 zero hf:=ab ⟨⟨hf,t1,t2⟩,rfl,rfl,rfl⟩
 new h hf:=Cv h hf.inv t1 t2
 of h hf hT limit hl:=vG h hf.inv (xI hT fun _ hW=>((qc (h.below hW) hf.inv t1 t2).mono fun _ _ ⟨q1,q2⟩=>⟨q1,q2▸aa _ _⟩)) (fun _ hW=>xN (FF.below hT hW) fun _ hW'=>Ab (h.below (hW.trans (hW'.mono hW.size))) hf t1 t2) limit hl
def gI(L:List (List UInt8×List UInt8))(a:List UInt8):Int:=if(Bt.getL L a).isSome=true then(eK L a:Int) else(eK L a:Int)-1
structure fi (K:jo) (w W:World) (ps pm px limit root:Nat) (S:St) (Y:Nat->Prop) (L:List (List UInt8×List UInt8)):Prop where
 st:Ig W ps S Y
 hold:∃o R,K.Hold S o root L R
 on:K.On W px ps root
 map:Ic W pm px ps limit
 bl:Below w.heap.size w W
 own:∀k,k<w.heap.size->Y k
 yx:Y px
 ym:Y pm
 lx:w.heap.size<=px
 lm:w.heap.size<=pm
 ne:pm≠px
section
variable {P:List (List UInt8×List UInt8)->Prop}{K:jo}{w W:World}{ps pm px limit root:Nat}{S:St}{Y:Nat->Prop}{L:List (List UInt8×List UInt8)}
theorem fi.below(ok:gB K P)(h:fi K w W ps pm px limit root S Y L){W':World}(hb:Below W.heap.size W W'):fi K w W' ps pm px limit root S Y L:=
 ⟨h.st.below hb,h.hold,ok.onBelow h.on hb,h.map.below hb,h.bl.trans (hb.mono h.bl.size),h.own,h.yx,h.ym,h.lx,h.lm,h.ne⟩
theorem fi.len(ok:gB K P)(h:fi K w W ps pm px limit root S Y L)(hc:L.length<98):
 Cb 39 #[PV pm] W (Xi (L.length:Nat)):=by
 obtain⟨o,R,hH⟩:=h.hold;exact CQ h.map (ok.len h.st hH hc h.on)
theorem fi.rank(ok:gB K P)(h:fi K w W ps pm px limit root S Y L)(hc:L.length<98)(a:List UInt8):
 Cb 99 #[PV pm,SV a] W (Xi (eK L a:Nat)):=by
 obtain⟨o,R,hH⟩:=h.hold;exact CU h.map a (ok.rank h.st hH hc h.on a)
theorem fi.place(ok:gB K P)(h:fi K w W ps pm px limit root S Y L)(hc:L.length<98)(a:List UInt8):
 ∀V,Below W.heap.size W V->Cb 98 #[PV pm,SV a] V (Xi (gI L a)):=fun V hV=>by
 obtain⟨o,R,hH⟩:=h.hold;have h':=h.below ok hV;exact CL h'.map a (n:=eK L a) (by have:=nZ L a;omega) (Bt.getL L a).isSome ((Bt.getL L a).getD []) (ok.rank h'.st hH hc h'.on a) fun U hU=>ok.get (h'.below ok hU).st hH hc (h'.below ok hU).on a
theorem fi.put {p q:Nat}(ok:gB K P)(h:fi K w W ps pm px limit root S Y L)(hs:fc S (20+p) (9+q))(a b:List UInt8)(ha:a.length<=limit)(hb:b.length<=limit)(hl:limit<=1000)(hc:L.length<98)(hP:P L):
 Ct 24 #[PV pm,SV a,SV b] W fun e w'=>e=.returned (.tuple #[SV ((Bt.getL L a).getD []),.bool (Bt.getL L a).isSome,Xi 0])/\∃(x:Nat) (S3:St),fi K w w' ps pm px limit x S3 Y (gV L a b)/\fc S3 p q:=by
 obtain⟨o,R,hH⟩:=h.hold;refine CS h.map a b _ _ ha hb ((ok.put h.st hH hc h.on h.yx hP a b (by omega) (by omega) (hs.mono (by omega) (by omega))).mono ?_);rintro e w' ⟨x,S3,rfl,h1,h2,h3,h4⟩;obtain⟨o3,R3,h5,_⟩:=h4.holds;exact⟨rfl,x,S3,⟨h1,⟨o3,R3,h5⟩,h3,(h2.block pm ⟨h.ym,h.ne⟩).trans h.map,h.bl.trans (Fo.below (h2.mono fun k hk=>⟨h.own k hk,fun q=>by have:=h.lx;omega⟩)),h.own,h.yx,h.ym,h.lx,h.lm,h.ne⟩,fc.grew hs h4.grew⟩
theorem vK {kind t:Int}(hk:j5 kind t K P){o:Nat->Nat}(h:Ig W ps S Y)(hf:Fw S o)(hb:Below w.heap.size w W)(hown:∀k,k<w.heap.size->Y k)(limit:Nat)(hl:limit<=1000):
 Ct 52 #[PV ps,Xi kind,Xi t,Xi limit] W fun e w'=>∃(pm px:Nat) (Z:Nat->Prop),e=.returned (.tuple #[PV pm,Xi 0])/\fi K w w' ps pm px limit 0 S Z []/\(∀k,Y k->Z k)/\Below W.heap.size W w':=by
 refine(CR h kind t limit K hk.ok.onLt hk.ok.onBelow (hk.new h hf) fun V px hV hT=>hk.of hV hf hT limit hl).mono ?_;rintro e w' ⟨pm,px,rfl,hM,hT,ad,lm,lx,ne⟩;exact⟨pm,px,fun k=>Y k\/(W.heap.size<=k/\k<w'.heap.size),rfl,⟨h.wide ad,⟨o,[],hk.zero hf⟩,hT,hM,hb.trans (ad.mono hb.size),fun k hk=>ab (hown k hk),ae ⟨lx,hk.ok.onLt hT⟩,ae ⟨lm,(gl hM)⟩,aB hb.size lx,aB hb.size lm,ne⟩,fun k hk=>ab hk,ad⟩
end
theorem fi.wide {P:List (List UInt8×List UInt8)->Prop}{K:jo}(ok:gB K P){w W W':World}{ps pm px limit root:Nat}{S:St}{Y:Nat->Prop}{L:List (List UInt8×List UInt8)}(h:fi K w W ps pm px limit root S Y L)(hb:Below W.heap.size W W'):
 fi K w W' ps pm px limit root S (fun k=>Y k\/(W.heap.size<=k/\k<W'.heap.size)) L:=
 ⟨h.st.wide hb,h.hold,ok.onBelow h.on hb,h.map.below hb,h.bl.trans (hb.mono h.bl.size),fun k hk=>ab (h.own k hk),ab h.yx,ab h.ym,h.lx,h.lm,h.ne⟩
def im(l:List (List UInt8×List UInt8)):List (List UInt8×List UInt8):=l.foldl (fun L p=>gV L p.1 p.2) []
theorem DF(l:List (List UInt8×List UInt8))(p:List UInt8×List UInt8):im (l++[p])=gV (im l) p.1 p.2:=by
 unfold im;rw[List.foldl_append];rfl
theorem xQ(p q:List UInt8×List UInt8->Bool)(h:∀x,¬(p x=true/\q x=true)):∀L:List (List UInt8×List UInt8),(L.filter p).length+(L.filter q).length<=L.length
 | []=>Nat.le_refl _
 | x::L=>by
  have ih:=xQ p q h L;have hx:=h x;rw[List.filter_cons,List.filter_cons,ag];split<;>split<;>(try simp only[ag])<;>first | omega | (exfalso;exact hx ⟨by assumption,by assumption⟩)
theorem DG(L:List (List UInt8×List UInt8))(a b:List UInt8):(gV L a b).length<=L.length+1:=by
 unfold gV;rw[ah,ag];have:=xQ (fun p=>decide (Fu p.1 a<0)) (fun p=>decide (0<Fu p.1 a)) (fun x ⟨h1,h2⟩=>by simp at h1 h2;omega) L;omega
theorem wo:∀(l L:List (List UInt8×List UInt8)),(l.foldl (fun L p=>gV L p.1 p.2) L).length<=L.length+l.length
 | [],_=>Nat.le_refl _
 | p::l,L=>by
  have h1:=wo l (gV L p.1 p.2);have h2:=DG L p.1 p.2;rw[List.foldl_cons,ag];omega
theorem wt(l:List (List UInt8×List UInt8)):(im l).length<=l.length:=by
 have h:=wo l [];rwa[aM,bH] at h
theorem xB {α:Type}{l:List α}{i:Nat}(h:i<l.length):l.take (i+1)=l.take i++[l[i]]:=by
 rw[List.take_add_one,af h];rfl
def FO(kind t:Int):Bool:=decide (kind=1\/kind=2\/kind=3/\2<=t/\t<=16)
theorem qDgaa{P:Prop}(h:P:=by
 go_enter func9,ntmps9;go_wp2_with fail;go_ret;exact⟨rfl,rfl⟩):P:=h
theorem Gd(kind t:Int)(w:World):
 Ct 9 #[Xi kind,Xi t] w fun e w'=>e=.returned (.bool (FO kind t))/\w=w':=by
 by_cases h1:kind=1
 ·rw[show FO kind t=true from decide_eq_true (ab h1)];subst h1;exact qDgaa
 by_cases h2:kind=2
 ·rw[show FO kind t=true from decide_eq_true (ae (ab h2))];subst h2;exact qDgaa
 by_cases h3:kind=3
 ·subst h3
  by_cases h4:2<=t
  ·by_cases h5:t<=16
   ·rw[show FO 3 t=true from decide_eq_true (ae (ae ⟨rfl,h4,h5⟩))];exact qDgaa
   ·rw[show FO 3 t=false from decide_eq_false (by omega)];exact qDgaa
  ·rw[show FO 3 t=false from decide_eq_false (by omega)];exact qDgaa
 ·rw[show FO kind t=false from decide_eq_false (by omega)];have e1:(kind==1)=false:=by simpa using h1
  have e2:(kind==2)=false:=by simpa using h2
  have e3:(kind==3)=false:=by simpa using h3
  exact qDgaa
def pK(l:List (List UInt8×List UInt8)):Prop:=∀p∈l,p.1.length<=1000/\p.2.length<=1000
theorem J4 {kind t:Int}{w:World}{ps:Nat}{v:Value}{l:List (List UInt8×List UInt8)}(hv:PRow w v l)(hn:l.length<=60)(M:Nat->Nat->World->Prop)
 (hnew:Ct 52 #[PV ps,Xi kind,Xi t,Xi 1000] w fun e w'=>∃pm,e=.returned (.tuple #[PV pm,Xi 0])/\M pm 0 w')
 (hbl:∀pm i W,M pm i W->PRow W v l) (hdr:∀pm i W,M pm i W->M pm i W.drew)
 (hput:∀pm i W (hi:i<l.length),M pm i W->Ct 24 #[PV pm,SV l[i].1,SV l[i].2] W fun e w'=>∃(r:List UInt8) (b:Bool) (g:Nat),e=.returned (.tuple #[SV r,.bool b,Xi g])/\M pm (i+1) w'):
 Ct 30 #[PV ps,Xi kind,Xi t,v] w fun e w'=>∃pm,e=.returned (PV pm)/\M pm l.length w':=by
 obtain⟨A,c,rfl,hc⟩:=hv;have HG:=kq5 hnew hbl hdr hput hc;obtain⟨n,au⟩:=Ii l.length;have HN:=If au;rw[au] at hn⊢;clear hnew hbl hdr hput hc au;go_enter func30,ntmps30;go_wp2_with fail;refine HG.a.mono ?_;rintro e w1 ⟨pm,rfl,hm⟩;have H1:=If hm;clear hm;go_wp2_with fail;go_loopw [11] (fun s11 wr=>∃i:Nat,s11=Xi i/\i<=n/\Hid (M pm i wr)) (fun s11 _=>n-(intOf s11).toNat)
 case atStart=>exact⟨0,rfl,by omega,H1.out⟩
 case round=>
  obtain⟨i,rfl,a4,I0⟩:=hrel;by_cases hi:i<n
  ·have hlt:(i:Int)<n:=by omega
   have ar:i<l.length:=by rw[HN.out];exact hi
   have hM:=I0.out;obtain⟨A',c',e',ai⟩:=HG.b _ _ _ hM;injection e' with e1 e2 e3
   subst e1;obtain⟨g,o,rfl,d0,d1⟩:=ai i ar;clear ai e2 e3;have hp:=HG.d pm i wr.drew ar (HG.c _ _ _ hM);obtain⟨⟨a,b⟩,a1⟩:∃pk,l[i]=pk:=⟨_,rfl⟩;rw[a1] at hp d0 d1;obtain⟨I,an,ap⟩:=lB (fun w'=>w'.cell? ⟨g,o+i*2,none⟩=some (SV a)) (fun w'=>w'.cell? ⟨g,o+i*2+1,none⟩=some (SV b));have o0:=fun x:Fq I=>(an _ x.ok).1;have o1:=fun x:Fq I=>(an _ x.ok).2;have a2:I wr.drew:=ap _ d0 d1;have a0:∀W,M pm (i+1) W->W.cell? ⟨g,o+i*2,none⟩=some (SV a)/\W.cell? ⟨g,o+i*2+1,none⟩=some (SV b):=fun W h=>by
    obtain⟨A',c',e',ai⟩:=HG.b _ _ _ h;injection e' with e1 e2 e3
    obtain⟨g2,o2,e4,k0,k1⟩:=ai i ar;rw[<-e1] at e4;injection e4 with e4
    injection e4 with e5 e6
    subst e5 e6;rw[a1] at k0 k1;exact⟨k0,k1⟩
   have HP:=kq3 hp ap a0;clear an ap hM d0 d1 hp a0;go_wp2_with fail;refine fh I (.take 0 (.take 1 (.take 2 (.take 3 (.take 4 (.take 5 (.take 6 (.take 7 (.take 8 (.take 9 (.take 10 (.go 11 .nil)))))))))))) (by kernel_rfl) (by kernel_rfl) a2 ?_;iterate 11
    refine' pT ?_ ?_;rotate_left
    ·intro x;go_simp;try rfl
    try simp only[pu]
   refine pD fun K hK=>?_;go_simp;refine HP.a.mono ?_;rintro e w3 ⟨r,q,g2,rfl,ad⟩;have a3:I w3:=HP.b _ (HP.c _ ad).1 (HP.c _ ad).2;have H3:=If ad;clear ad;try go_simp
   refine hK.out _ _ a3 ?_;clear hK K;try simp only[pu]
   refine eP ?_;go_wp2_with fail;go_roundw
   case rel=>exact⟨i+1,by simp,by omega,H3.out⟩
   case measure=>simp[intOf];omega
  ·obtain rfl:i=n:=by omega
   have hlt:¬(i:Int)<i:=by omega
   go_wp2_with fail;go_ret;exact⟨pm,rfl,I0.out⟩
def dO(ps:Nat)(ms:List (Nat×Nat×List Nat)):List Nat:=ms.flatMap fun m=>if m.2.1=ps then m.2.2 else[]
theorem K8(ps:Nat)(ms:List (Nat×Nat×List Nat)){j:Nat}(hj:j<ms.length):dO ps (ms.take (j+1))=dO ps (ms.take j)++(if ms[j].2.1=ps then ms[j].2.2 else[]):=by
 unfold dO;rw[aH hj,List.flatMap_append];simp
theorem K7(ps:Nat)(ms:List (Nat×Nat×List Nat))(j:Nat):(dO ps (ms.take j)).length<=(dO ps ms).length:=by
 have:dO ps ms=dO ps (ms.take j)++dO ps (ms.drop j):=by
  unfold dO;rw[<-List.flatMap_append,aX]
 rw[this,ah];omega
theorem Lu:∃j,prog.info? 94=some j/\j.size≠0:=by
 have e:(prog.info? 94).map (·.size)=some 5:=by kernel_rfl
 cases hj:prog.info? 94 with
 | none=>rw[hj] at e;cases e
 | some j=>
  rw[hj] at e;exact⟨j,rfl,by have:j.size=5:=Option.some.inj e;omega⟩
theorem J9 {a b:Nat}{ca cb:Array Value}{ta tb:TypeId}(w:World)(ha:w.heap[a]?=some (.cells ca ta (0,0)))(hb:w.heap[b]?=some (.cells cb tb (0,0))):
 (binOp .neq 26 (PV a) (PV b)).run prog w=.ok (.bool (decide (a≠b))) w:=by
 obtain⟨j,hj,hz⟩:=Lu;have hp:=underlying26;have h:∀d:Nat,(Op.equalIn (d+1) 26 (.pointer (some ⟨a,0,none⟩)) (.pointer (some ⟨b,0,none⟩))).run prog w=.ok (decide (a=b)) w:=fun d=>by
  by_cases e:a=b
  ·subst e
   simp[Op.equalIn,run_underlying hp,sizeOf,typeInfo,hj,run_sameAddr_same]
  ·have ad:(⟨a,0,none⟩:Addr)≠⟨b,0,none⟩:=fun q=>e (by injection q)
   simp[Op.equalIn,run_underlying hp,sizeOf,typeInfo,hj,hz,run_sameAddr_other w ad ha hb,e]
 show (binOp .neq 26 (.pointer (some ⟨a,0,none⟩)) (.pointer (some ⟨b,0,none⟩))).run prog w=_
 simp only[binOp];have h9:=h 9999
 by_cases e:a=b
 ·subst e
  simp[Op.equal,Op.maxDepth,h9]
 ·simp[Op.equal,Op.maxDepth,h9,e]
structure qa (w:World) (ps bm:Nat) (ms:List (Nat×Nat×List Nat)):Prop where
 cell:∀i (hi:i<ms.length),w.cell? ⟨bm,i,none⟩=some (PV ms[i].1)
 lt:bm<w.heap.size
 st:∀m∈ms,∀W,Below w.heap.size w W->Ct 70 #[PV m.1] W fun e w'=>e=.returned (PV m.2.1)/\W=w'
 of:∀m∈ms,m.2.1=ps->∀W,Below w.heap.size w W->Ct 36 #[PV m.1] W fun e w'=>∃v,e=.returned v/\FE w' W.heap.size v m.2.2/\Below W.heap.size W w'
 own:∀m∈ms,∃cs ty,w.heap[m.2.1]?=some (.cells cs ty (0,0))
 hlt:∀m∈ms,∀x∈m.2.2,x<2^64
 len:(dO ps ms).length<=10000/\ms.length<=1000
theorem qa.below {w W:World}{ps bm:Nat}{ms:List (Nat×Nat×List Nat)}(h:qa w ps bm ms)(hb:Below w.heap.size w W):qa W ps bm ms where
 cell i hi:=(Ha (hb.block bm h.lt)).trans (h.cell i hi)
 lt:=aJ h.lt hb.size
 st m hm V hV:=h.st m hm V (hb.trans (hV.mono hb.size))
 of m hm e V hV:=h.of m hm e V (hb.trans (hV.mono hb.size))
 own m hm:=by
  obtain⟨cs,ty,e⟩:=h.own m hm;exact⟨cs,ty,(hb.block _ (gl e)).trans e⟩
 hlt:=h.hlt
 len:=h.len
theorem qDgad{P:Prop}(h:P:=by
 go_wp2_with fail;go_roundw
 case rel=>exact⟨i+1,by omega,by simp,HE⟩
 case measure=>simp[intOf];omega):P:=h
theorem J5 {w:World}{ps bm cm:Nat}{S:St}{o:Nat->Nat}{Y:Nat->Prop}{ms:List (Nat×Nat×List Nat)}(h:Ig w ps S Y)(hf:Fw S o)(hm:qa w ps bm ms):
 Ct 67 #[PV ps,.slice (some ⟨bm,0,none⟩) ms.length cm,.slice none 0 0] w fun e w'=>e=.returned (.tuple #[.map (some w.heap.size),Xi 0])/\dS w' w.heap.size (dO ps ms)/\Below w.heap.size w w':=by
 have a4:=fB h hf.inv 0 (by omega);rw[oy (rZ hf)] at a4;generalize hn:ms.length=n at*;have cq:n<=1000:=by rw[<-hn];exact hm.len.2
 obtain⟨a8,bk⟩:∃a8,w.heap[ps]?=some (.cells a8 94 (0,0)):=by
  obtain⟨_,_,_,_,_,hI⟩:=id h;exact⟨_,hI.hd⟩
 have HP:=If bk;have HR:=kq3 a4 hm hn;clear bk a4 hm hn h hf;go_enter func67,ntmps67;go_wp2_with fail;refine Jc HR.a ?_;go_wp2_with fail
 go_loopw [11,34] (fun _ s34 wr=>∃j:Nat,j<=n/\s34=Xi j/\wr=w) (fun _ s34 _=>n-(intOf s34).toNat)
 case atStart=>exact⟨0,by omega,rfl,rfl⟩
 case round=>
  obtain⟨j,cj,rfl,hw⟩:=hrel;have hw:=hw.symm;subst hw
  by_cases hlt:j<n
  ·have a5:(j:Int)<n:=by omega
   have bc:j<ms.length:=by rw[HR.c];exact hlt
   have cc:=HR.b.cell j bc;have bs:=HR.b.st ms[j] (aw _) _ (aa _ _);generalize ms[j].1=pj at*;generalize ms[j].2.1=qj at*;have HS:=If bs;clear bs bc;go_wp2_with fail;refine Jc HS.out ?_;go_wp2_with fail;go_roundw
   case rel=>exact⟨j+1,by omega,by simp,by simp⟩
   case measure=>simp[intOf];omega
  ·obtain rfl:j=n:=by omega
   have a5:¬(j:Int)<j:=by omega
   have bu:¬(0:Int)<0:=by omega
   go_wp2_with fail
   go_loopw [13,14,15,44] (fun _ _ _ s44 wq=>s44=Xi 0/\wq=w) (fun _ _ _ _ _=>0)
   case atStart=>exact⟨rfl,rfl⟩
   obtain⟨rfl,hw⟩:=hrel;have hw:=hw.symm;subst hw;have b9:= @run_makeMap prog;go_wp2_with fail;clear b9;have c0:=dS.made w;have B0:Below w.heap.size w (w.alloc (.map #[] 0)):=(aa _ _).alloc Ih _;generalize bv:w.alloc (.map #[] 0)=W0 at*;have H0:=kq2 c0 B0;clear c0 B0 bv
   go_loopw [18,20,60,69,70,71] (fun _ _ s60 _ _ _ wx=>∃i:Nat,i<=j/\s60=Xi i/\Hid (dS wx w.heap.size (dO ps (ms.take i))/\Below w.heap.size w wx)) (fun _ _ s60 _ _ _ _=>j-(intOf s60).toNat)
   case atStart=>exact⟨0,by omega,rfl,H0.a,H0.b⟩
   case round=>
    obtain⟨i,ch,rfl,I⟩:=hrel;obtain⟨wx,b'⟩:∃wx,wx=wr:=⟨_,rfl⟩;subst b'
    by_cases hlt:i<j
    ·have a5:(i:Int)<j:=by omega
     have ar:i<ms.length:=by rw[HR.c];exact hlt
     have hM:=HR.b.below I.out.2;have ba:=hM.cell i ar;have ai:=aw ar;obtain⟨cb,cx,bq⟩:=hM.own ms[i] ai;have bo:=(I.out.2.block ps (gl HP.out)).trans HP.out;have an:=J9 wx bq bo;have a2:=hM.st ms[i] ai _ (aa _ _);have a1:=hM.of ms[i] ai;have a0:=hM.hlt ms[i] ai;have ap:=K8 ps ms ar;have bx:=K7 ps ms (i+1);have b0:=hM.len.1;obtain⟨⟨pi,qi,Li⟩,bj⟩:∃x,ms[i]=x:=⟨_,rfl⟩;rw[bj] at ba a2 a1 a0 ap an;simp only at ba a2 a1 a0 ap an;have HS:=kq5 a2 a1 a0 ap (by omega:(dO ps (ms.take (i+1))).length<=10000);clear a2 a1 a0 ap bx b0 hM ai ar bj bq bo
     by_cases hq:qi=ps
     ·subst hq;rw[decide_eq_false (by simp)] at an;go_wp2_with fail;refine Jc HS.a ?_;go_wp2_with fail;clear an;refine(HS.b trivial _ (aa _ _)).mono ?_;rintro e w2 ⟨v0,rfl,a6,a3⟩;obtain⟨A0,c0,rfl⟩:=a6.slice2;have bd:dS w2 w.heap.size (dO qi (ms.take i)):=I.out.1.kept (a3.block _ I.out.1.lt);have B2:=I.out.2.trans (a3.mono I.out.2.size);have bt:=I.out.1.lt;generalize hL:Li.length=n at*;have cu:n<=10000:=by
       have:=HS.e;rw[HS.d,if_pos trivial,ah] at this;omega
      have HV:=kq5 a6 bd B2 hL bt;clear a6 a3 bd B2 hL bt I;go_wp2_with fail
      go_loopw [20,71] (fun _ s71 wz=>∃k:Nat,k<=n/\s71=Xi k/\Hid (dS wz w.heap.size (dO qi (ms.take i)++Li.take k)/\Below w.heap.size w wz/\FE wz wx.heap.size (.slice A0 n c0) Li)) (fun _ s71 _=>n-(intOf s71).toNat)
      case atStart=>exact⟨0,by omega,rfl,by rw[cJ,bD];exact HV.b,HV.c,HV.a⟩
      case round=>
       obtain⟨k,ck,rfl,J⟩:=hrel;obtain⟨wz,ca⟩:∃wz,wz=wr:=⟨_,rfl⟩;subst ca
       by_cases hkl:k<n
       ·have b2:(k:Int)<n:=by omega
        have au:k<Li.length:=by rw[HV.d];exact hkl
        obtain⟨b,c,e,hb,hc⟩:=J.out.2.2.cell_at au
        injection e with e1 e2 e3
        subst e1;have a7:=HS.c _ (aw au);have bb:dO qi (ms.take i)++Li.take (k+1)=(dO qi (ms.take i)++Li.take k)++[Li[k]]:=by rw[aH au,bC]
        have b4:(dO qi (ms.take i)++Li.take k).length<=10000:=by
         have:=HS.e;rw[HS.d,if_pos trivial,ah] at this;rw[ah,aL];omega
        generalize Li[k]=x at*;have cp:=J.out.1.look x a7;obtain⟨w3,cv,bf,ad⟩:=J.out.1.store x a7 (by omega);have b1:(dO qi (ms.take i)++Li.take k).count x<=(dO qi (ms.take i)++Li.take k).length:=List.count_le_length;generalize (dO qi (ms.take i)++Li.take k).count x=cn at*;have cw:IntKind.i64.wrap ((cn:Int)+1)=(cn:Int)+1:=az _ (by omega);have a9:Below w.heap.size w w3:=J.out.2.1.trans ⟨ad.os,ad.tape,ad.output,ad.size,fun k hk=>ad.block k (aJ hk J.out.2.1.size) fun e=>by
         have e:k=w.heap.size:=Option.some.inj e;omega⟩
        have a':FE w3 wx.heap.size (.slice (some ⟨b,0,none⟩) n c0) Li:=J.out.2.2.at fun g e=>ad.block g (J.out.2.2.ge g e).2 fun q=>by
         have q:g=w.heap.size:=Option.some.inj q;have:=(J.out.2.2.ge g e).1;have:=HV.e;omega
        have HE:Hid (dS w3 w.heap.size (dO qi (ms.take i)++Li.take (k+1))/\Below w.heap.size w w3/\FE w3 wx.heap.size (.slice (some ⟨b,0,none⟩) n c0) Li):=⟨by rw[bb];exact bf,a9,a'⟩;clear bf ad a9 a' bb b4 b1 a7 hb e2 e3 J au;go_wp2_with fail;go_roundw
        case rel=>exact⟨k+1,by omega,by simp,HE⟩
        case measure=>simp[intOf];omega
       ·obtain rfl:k=n:=by omega
        have b2:¬(k:Int)<k:=by omega
        have HE:Hid (dS wz w.heap.size (dO qi (ms.take (i+1)))/\Below w.heap.size w wz):=⟨by
         rw[HS.d,if_pos trivial];have ht:Li.take k=Li:=aT (by rw[HV.d];exact Nat.le_refl _);rw[<-ht];exact J.out.1,J.out.2.1⟩
        clear J;exact qDgad
     ·have HE:Hid (dS wx w.heap.size (dO ps (ms.take (i+1)))/\Below w.heap.size w wx):=⟨by
       rw[HS.d,if_neg hq,bD];exact I.out.1,I.out.2⟩
      clear I;rw[decide_eq_true hq] at an;go_wp2_with fail;refine Jc HS.a ?_;exact qDgad
    ·obtain rfl:i=j:=by omega
     have a5:¬(i:Int)<i:=by omega
     have bu:¬(0:Int)<0:=by omega
     have HE:Hid (dS wx w.heap.size (dO ps ms)/\Below w.heap.size w wx):=⟨by
      have:=I.out.1;rwa[aT (by rw[HR.c];exact Nat.le_refl _)] at this,I.out.2⟩
     clear I;go_wp2_with fail
     go_loopw [22,23,83] (fun _ _ s83 wq=>s83=Xi 0/\wq=wx) (fun _ _ _ _=>0)
     case atStart=>exact⟨rfl,rfl⟩
     obtain⟨rfl,hw⟩:=hrel;have hw:=hw.symm;subst hw;go_wp2_with fail;go_ret2;exact⟨rfl,HE.out.1,HE.out.2⟩
theorem Fw.all_lt {S:St}{o:Nat->Nat}(hf:Fw S o){x:Nat}(hx:x∈S.all):x<2^64:=by
 obtain⟨ws,hw⟩:=dA.1 ((hf.mem_all x).1 hx);exact(fL hf hw).2.1
def mA(ks l:List Nat):List Nat:=l.filter fun x=>decide (x∉ks)
theorem LD(ks l:List Nat){j:Nat}(hj:j<l.length):mA ks (l.take (j+1))=if l[j]∈ks then mA ks (l.take j) else mA ks (l.take j)++[l[j]]:=by
 unfold mA;rw[aH hj,List.filter_append]
 by_cases h:l[j]∈ks
 ·rw[if_pos h,List.filter_cons_of_neg (by simp[h])]
  simp
 ·rw[if_neg h,List.filter_cons_of_pos (by simp[h])]
  simp
theorem qDgaf{P:Prop}(h:P:=by
 go_roundw
 case rel=>exact⟨j+1,by omega,by simp,HE⟩
 case measure=>simp[intOf];omega):P:=h
theorem J6 {w:World}{ps bm cm:Nat}{S:St}{o:Nat->Nat}{Y:Nat->Prop}{ms:List (Nat×Nat×List Nat)}(h:Ig w ps S Y)(hf:Fw S o)(hm:qa w ps bm ms):
 Ct 32 #[PV ps,.slice (some ⟨bm,0,none⟩) ms.length cm,.slice none 0 0] w fun e w'=>∃v,e=.returned v/\FE w' w.heap.size v (mA (dO ps ms) S.all)/\Below w.heap.size w w':=by
 have a3:=J5 (cm:=cm) h hf hm;have au:∀W,Below w.heap.size w W->Ct 33 #[PV ps] W _:=fun W hW=>J8 (h.below hW) hf;have bk:S.all.length<=65536:=by rw[zq];exact aB hf.live_le (aB hf.tab.len hf.tab.most.2)
 have hlt:=fun x (hx:x∈S.all)=>hf.all_lt hx;generalize hn:S.all.length=n at*;generalize ms.length=m at*;have HR:=kq4 a3 au hlt hn;clear a3 au hlt hn h hf hm;go_enter func32,ntmps32;go_wp2_with fail;refine HR.a.mono ?_;rintro e w1 ⟨rfl,a4,a0⟩;have H1:=kq2 a4 a0;clear a4 a0;go_wp2_with fail;refine(HR.b _ H1.b).mono ?_;rintro e w2 ⟨v0,rfl,ar,ai⟩;obtain⟨A0,c0,rfl⟩:=ar.slice2;have a5:dS w2 w.heap.size (dO ps ms):=H1.a.kept (ai.block _ H1.a.lt);have HV:=kq5 ar (H1.b.trans (ai.mono H1.b.size)) a5 H1.b.size ai.size;clear ar ai a5 H1;have hn:=HR.d;rw[hn];have HN:=If hn;clear hn;go_wp2_with fail
 go_loopw [9,11,24] (fun s9 _ s24 wr=>∃j:Nat,j<=n/\s24=Xi j/\Hid (FE wr w2.heap.size s9 (mA (dO ps ms) (S.all.take j))/\Below w2.heap.size w2 wr)) (fun _ _ s24 _=>n-(intOf s24).toNat)
 case atStart=>exact⟨0,by omega,rfl,World.ownsRow_nil _ _ _ _,aa _ _⟩
 case round=>
  obtain⟨j,bf,rfl,I⟩:=hrel
  by_cases hjl:j<n
  ·have bb:(j:Int)<n:=by omega
   have ap:j<S.all.length:=by rw[HN.out];exact hjl
   have a9:FE wr w1.heap.size (.slice A0 S.all.length c0) S.all:=HV.a.at fun g e=>I.out.2.block g (HV.a.ge g e).2;obtain⟨b,c,e,hb,hc⟩:=a9.cell_at ap
   injection e with e1 e2 e3
   subst e1;have a':=HR.c _ (aw ap);have a2:=LD (dO ps ms) S.all ap;have a7:(mA (dO ps ms) (S.all.take j)).length<=100000:=by
    have:=List.length_filter_le (fun x=>decide (x∉dO ps ms)) (S.all.take j);rw[aL] at this;unfold mA;omega
   have a6:dS wr w.heap.size (dO ps ms):=HV.c.kept (I.out.2.block _ HV.c.lt);have bj:=a6.look _ a';have an:(dO ps ms).count S.all[j]=0↔S.all[j]∉dO ps ms:=List.count_eq_zero;generalize S.all[j]=x at*;generalize ba:(dO ps ms).count x=cn at*;clear ba;have HM:=kq4 a2 a7 I.out.1 I.out.2;clear a2 a7 a9 hb e2 e3 I a6 a' ap
   by_cases hx:x∈dO ps ms
   ·have a1:¬((cn:Int)=0):=fun q=>(an.1 (by omega)) hx;have HE:Hid (FE wr w2.heap.size u9 (mA (dO ps ms) (S.all.take (j+1)))/\Below w2.heap.size w2 wr):=⟨by rw[HM.a,if_pos hx];exact HM.c,HM.d⟩;clear HM an hx;go_wp2_with fail;exact qDgaf
   ·have a1:cn=0:=an.2 hx;subst a1;obtain⟨v2,w3,bc,a8,ad,bd⟩:=jF HM.c HM.b x HM.d.size 59;have HE:Hid (FE w3 w2.heap.size v2 (mA (dO ps ms) (S.all.take (j+1)))/\Below w2.heap.size w2 w3):=⟨by rw[HM.a,if_neg hx];exact a8,HM.d.trans ⟨ad.os,ad.tape,ad.output,ad.size,fun k hk=>ad.block k (aJ hk HM.d.size) fun e=>by
     have:=(HM.c.ge k e.symm).1;omega⟩⟩
    clear a8 ad bd an hx
    go_wp2_with (at_builtin;refine Lib.wpList_append_run _ rfl _ _ _ _ rfl _ _ rfl rfl _ _ bc ?_)
    exact qDgaf
  ·obtain rfl:j=n:=by omega
   have bb:¬(j:Int)<j:=by omega
   have hs:=HV.b.size;have HE:Hid (FE wr w.heap.size u9 (mA (dO ps ms) S.all)/\Below w.heap.size w wr):=⟨by
    have e:S.all.take j=S.all:=aT (by rw[HN.out];exact Nat.le_refl _);rw[<-e];exact FE.base2 I.out.1 hs,HV.b.trans (I.out.2.mono hs)⟩
   clear I;go_wp2_with fail;go_ret;exact⟨_,rfl,HE.out.1,HE.out.2⟩
theorem LK {w:World}{ps bm cm:Nat}{S:St}{o:Nat->Nat}{Y:Nat->Prop}{ms:List (Nat×Nat×List Nat)}(h:Ig w ps S Y)(hf:Fw S o)(hm:qa w ps bm ms)(ho:∃m∈ms,m.2.1≠ps):
 Cb 34 #[PV ps,.slice (some ⟨bm,0,none⟩) ms.length cm,.slice none 0 0] w (Xi 2):=by
 have au:=J5 (cm:=cm) h hf hm;obtain⟨an,a1⟩:∃an,w.heap[ps]?=some (.cells an 94 (0,0)):=by
  obtain⟨_,_,_,_,_,hI⟩:=id h;exact⟨_,hI.hd⟩
 have a':ms.length<=1000:=hm.len.2;generalize hn:ms.length=n at*;have HR:=kq5 au hm hn a1 ho;clear au hn h hf hm a1 ho;go_enter func34,ntmps34;go_wp2_with fail;refine HR.a.mono ?_;rintro e w1 ⟨rfl,-,ar⟩;have H1:=If ar;clear ar;go_wp2_with fail
 go_loopw [10,31] (fun _ s31 wr=>∃j:Nat,j<=n/\s31=Xi j/\Hid ((∀i (hi:i<ms.length),i<j->ms[i].2.1=ps)/\wr=w1)) (fun _ s31 _=>n-(intOf s31).toNat)
 case atStart=>exact⟨0,by omega,rfl,fun i _ q=>absurd q (by omega),rfl⟩
 case round=>
  obtain⟨j,a8,rfl,I⟩:=hrel;have hw:=I.out.2.symm;subst hw
  by_cases hlt:j<n
  ·have a9:(j:Int)<n:=by omega
   have ad:j<ms.length:=by rw[HR.c];exact hlt
   have hM:=HR.b.below H1.out;have a7:=hM.cell j ad;have ai:=aw ad;have a4:=hM.st ms[j] ai _ (aa _ _);obtain⟨a6,ba,a3⟩:=hM.own ms[j] ai;have a2:=(H1.out.block ps (gl HR.d)).trans HR.d;have a0:=J9 w1 a3 a2;have ap:ms[j].2.1=ps->∀i (hi:i<ms.length),i<j+1->ms[i].2.1=ps:=fun q i hi hij=>by
    by_cases e:i=j
    ·subst e;exact q
    ·exact I.out.1 i hi (by omega)
   clear I;generalize ms[j].1=pj at*;generalize ms[j].2.1=qj at*;have HS:=kq2 a4 ap;clear a4 ap ad hM ai a3 a2
   by_cases hq:qj=ps
   ·subst hq;rw[decide_eq_false (by simp)] at a0;go_wp2_with fail;refine Jc HS.a ?_;go_wp2_with fail;go_roundw
    case rel=>exact⟨j+1,by omega,by simp,HS.b trivial,by simp⟩
    case measure=>simp[intOf];omega
   ·rw[decide_eq_true hq] at a0;go_wp2_with fail;refine Jc HS.a ?_;go_wp2_with fail;go_ret;exact⟨rfl,H1.out⟩
  ·exfalso
   obtain⟨m,hm,a5⟩:=HR.e;obtain⟨i,hi,e⟩:=bK.1 hm;have:=HR.c;exact a5 (e▸I.out.1 i hi (by omega))
theorem KI {w:World}{ps bm cm:Nat}{S:St}{o:Nat->Nat}{Y:Nat->Prop}{ms:List (Nat×Nat×List Nat)}(h:Ig w ps S Y)(hf:Fw S o)(hm:qa w ps bm ms)(ho:∀m∈ms,m.2.1=ps){r:Nat}
 (hck:∀m∈ms,∃px:Nat,(∀W,Below w.heap.size w W->Ct 23 #[PV m.1] W fun e w'=>e=.returned (PV px)/\W=w')/\∀W,Below w.heap.size w W->Ct 56 #[PV px] W fun e w'=>e=.returned (Xi 0)/\Below W.heap.size W w')
 (hr:(r=0/\(∀x∈S.all,(dO ps ms).count x=1)/\∀x∈dO ps ms,x∈S.all)\/(r=8/\∃x∈S.all,(dO ps ms).count x≠1)):
 Cb 34 #[PV ps,.slice (some ⟨bm,0,none⟩) ms.length cm,.slice none 0 0] w (Xi r):=by
 have a9:=J5 (cm:=cm) h hf hm;have a6:∀W,Below w.heap.size w W->Ct 33 #[PV ps] W _:=fun W hW=>J8 (h.below hW) hf;have hlt:=fun x (hx:x∈S.all)=>hf.all_lt hx;have b1:S.all.length<=65536:=by rw[zq];exact aB hf.live_le (aB hf.tab.len hf.tab.most.2)
 have ba:=hf.all_nodup;obtain⟨a4,bb⟩:∃a4,w.heap[ps]?=some (.cells a4 94 (0,0)):=by
  obtain⟨_,_,_,_,_,hI⟩:=id h;exact⟨_,hI.hd⟩
 have b2:ms.length<=1000:=hm.len.2;generalize hn:ms.length=n at*;generalize hk:S.all.length=nk at*;have HR:=kq5 a9 hm hn bb ho;have HA:=kq6 hck hr a6 hlt ba hk;clear a9 hn h hf hm bb ho hck hr a6 hlt ba hk;go_enter func34,ntmps34;go_wp2_with fail;refine HR.a.mono ?_;rintro e w1 ⟨rfl,a',a7⟩;have H1:=kq2 a7 a';clear a7 a';go_wp2_with fail;go_loopw [10,31] (fun _ s31 wr=>∃j:Nat,j<=n/\s31=Xi j/\wr=w1) (fun _ s31 _=>n-(intOf s31).toNat)
 case atStart=>exact⟨0,by omega,rfl,rfl⟩
 case round=>
  obtain⟨j,bv,rfl,hw⟩:=hrel;have hw:=hw.symm;subst hw;by_cases hlt:j<n
  ·have bj:(j:Int)<n:=by omega
   have au:j<ms.length:=by rw[HR.c];exact hlt
   have hM:=HR.b.below H1.a;have bt:=hM.cell j au;have ai:=aw au;have a2:=hM.st ms[j] ai _ (aa _ _);have a1:=(H1.a.block ps (gl HR.d)).trans HR.d;have bk:=J9 w1 a1 a1;rw[decide_eq_false (by simp)] at bk;rw[HR.e _ ai] at a2;generalize ms[j].1=pj at*;have HS:=If a2;clear a2 au hM ai a1;go_wp2_with fail;refine Jc HS.out ?_;go_wp2_with fail;go_roundw
   case rel=>exact⟨j+1,by omega,by simp,by simp⟩
   case measure=>simp[intOf];omega
  ·obtain rfl:j=n:=by omega
   have bj:¬(j:Int)<j:=by omega
   have bq:¬(0:Int)<0:=by omega
   go_wp2_with fail;go_loopw [12,13,42] (fun _ _ s42 wq=>s42=Xi 0/\wq=w1) (fun _ _ _ _=>0)
   case atStart=>exact⟨rfl,rfl⟩
   obtain⟨rfl,hw⟩:=hrel;have hw:=hw.symm;subst hw;go_wp2_with fail;go_loopw [15,58] (fun _ s58 wq=>∃i:Nat,i<=j/\s58=Xi i/\Hid (Below w1.heap.size w1 wq)) (fun _ s58 _=>j-(intOf s58).toNat)
   case atStart=>exact⟨0,by omega,rfl,aa _ _⟩
   case round=>
    obtain⟨i,bu,rfl,I⟩:=hrel;by_cases hli:i<j
    ·have bf:(i:Int)<j:=by omega
     have ar:i<ms.length:=by rw[HR.c];exact hli
     have hB:=H1.a.trans (I.out.mono H1.a.size);have bs:=(HR.b.below hB).cell i ar;obtain⟨px,ht,hc⟩:=HA.a ms[i] (aw ar);have ht:=ht _ hB;have hc:=hc _ hB;generalize ms[i].1=pi at*;have HS:=kq3 ht hc I.out;clear ht hc I hB ar;go_wp2_with fail;refine Jc HS.a ?_;go_wp2_with fail;refine b8 HS.b fun w2 ad=>?_;have HE:=If (HS.c.trans (ad.mono HS.c.size));clear ad HS;go_wp2_with fail;go_roundw
     case rel=>exact⟨i+1,by omega,by simp,HE⟩
     case measure=>simp[intOf];omega
    ·obtain rfl:i=j:=by omega
     have bf:¬(i:Int)<i:=by omega
     have HB:=If (H1.a.trans (I.out.mono H1.a.size));have HC:Hid (dS wr w.heap.size (dO ps ms)):=If (H1.b.kept (I.out.block _ H1.b.lt));clear I;go_wp2_with fail;refine(HA.c _ HB.out).mono ?_;rintro e w2 ⟨v0,rfl,a3,ad⟩;obtain⟨A0,c0,rfl⟩:=a3.slice2;have a0:dS w2 w.heap.size (dO ps ms):=HC.out.kept (ad.block _ HC.out.lt);have a8:=HB.out.trans (ad.mono HB.out.size);obtain⟨ds,d1,d2,d3⟩:=a0.len 3;have hn:=HA.f;have HV:=kq5 a3 a0 a8 d1 d2;clear a3 ad a0 a8 HB HC d1 d2;rw[hn];have HN:=If hn;clear hn;go_wp2_with fail;go_loopw [18,71] (fun _ s71 wq=>∃k:Nat,k<=nk/\s71=Xi k/\Hid ((∀z (hz:z<S.all.length),z<k->(dO ps ms).count S.all[z]=1)/\wq=w2)) (fun _ s71 _=>nk-(intOf s71).toNat)
     case atStart=>exact⟨0,by omega,rfl,fun z _ q=>absurd q (by omega),rfl⟩
     case round=>
      obtain⟨k,bx,rfl,J⟩:=hrel;have hw:=J.out.2.symm;subst hw;by_cases hkl:k<nk
      ·have bd:(k:Int)<nk:=by omega
       have an:k<S.all.length:=by rw[HN.out];exact hkl
       obtain⟨b,c,e,hb,hc⟩:=HV.a.cell_at an;injection e with e1 e2 e3
       subst e1;have b0:=HV.b.look _ (HA.d _ (aw an));have a5:(dO ps ms).count S.all[k]=1->∀z (hz:z<S.all.length),z<k+1->(dO ps ms).count S.all[z]=1:=fun q z hz hzk=>by
        by_cases e:z=k
        ·subst e;exact q
        ·exact J.out.1 z hz (by omega)
       have ai:=aw an;have ap:(dO ps ms).count S.all[k]≠1->r=8:=fun q=>by
        rcases HA.b with⟨_,q2,_⟩ | ⟨q2,_⟩
        ·exact absurd (q2 _ ai) q
        ·exact q2
       clear J hb e2 e3;generalize S.all[k]=x at*;generalize (dO ps ms).count x=cn at*;have HJ:=kq2 a5 ap;clear a5 ap ai an;by_cases hx:cn=1
       ·subst hx;go_wp2_with fail;go_roundw
        case rel=>exact⟨k+1,by omega,by simp,HJ.a rfl,by simp⟩
        case measure=>simp[intOf];omega
       ·have b4:¬((cn:Int)=1):=by omega
        have ap:=HJ.b hx;subst ap;go_wp2_with fail;go_ret;exact⟨rfl,HV.c⟩
      ·obtain rfl:k=nk:=by omega
       have bd:¬(k:Int)<k:=by omega
       have bo:r=0/\ds.length=k:=by
        rcases HA.b with⟨q1,q2,q3⟩ | ⟨_,x,hx,q⟩
        ·refine⟨q1,?_⟩;have l1:=HV.d.length_le_of_subset (l₂:=S.all) fun z hz=>q3 z ((HV.e z).1 hz);have l2:=HA.e.length_le_of_subset (l₂:=ds) fun z hz=>(HV.e z).2 (by
          have:=q2 z hz;exact List.count_pos_iff.1 (by omega))
         rw[HN.out] at l1 l2;omega
        ·exfalso
         obtain⟨i,hi,e⟩:=bK.1 hx;have:=HN.out;exact q (e▸J.out.1 i hi (by omega))
       obtain⟨rfl,bc⟩:=bo;rw[bc] at d3;clear J;go_wp2_with fail;go_ret;exact⟨rfl,HV.c⟩
theorem KZ {kind:Nat}{j c:FuncId}{jn:Jn}{Ok:Tr->Prop}(hk:jD kind j c jn)(J:kV jn Ok){w:World}{px ps:Nat}{S:St}{o:Nat->Nat}{Y:Nat->Prop}{t:Tr}(h:Ig w ps S Y)(hb:fC Ok S o t)(hc:t.its.length<98)(hT:FF w px ps 162 (fE ps kind) kind 0 t.root)(hpx:Y px)(a b:List UInt8)(ha:a.length<=1000)(hb':b.length<=1000)(hr:fc S 7 3)(hno:∀z∈t.its,z.k≠a):
 Ct 43 #[PV px,eu (a,b)] w fun e w'=>∃(u:Tr) (S':St) (o':Nat->Nat),e=.returned (.tuple #[SV [],.bool false,Xi 0])/\Ig w' ps S' Y/\Fo (fun k=>Y k/\k≠px) w w'/\FF w' px ps 162 (fE ps kind) kind 0 u.root/\fC Ok S' o' u/\pairs u.its=gV (pairs t.its) a b/\u.its.length=t.its.length+1/\ej S S' 7 3:=by
 have hl:=hb.at'.root_lt hb.fit;obtain⟨u,S',o',po,ad,hB,an,ai,hg,ap,ar⟩:=DI J hb hc ha hb' hr hno;unfold treePutM at ad
 split at ad
 ·cases ad
 rename_i p S1 hit;refine(ny h hb.fit.inv hT hpx a b po.1 hit false [] (R:=fun x ik iv S2=>x=u.root/\ik=0/\iv=0/\S2=S') (R2:=fun x S2=>x=u.root/\S2=S') vQ uj (fun W Z hW hp1 hp2=>?_) fun x ik iv S2 hR W Z hW _ _=>?_).mono ?_
 ·refine(zc hW (po.2 _ _ hit) hk t.root p.1 p.2 hl hp1 hp2 ad).mono ?_;rintro e w' ⟨rfl,h1,h2,_,_⟩;exact⟨_,_,_,S',rfl,h1,h2,rfl,rfl,rfl,rfl⟩
 ·obtain⟨rfl,rfl,rfl,rfl⟩:=hR;refine b8 (sV px 0 0 W) fun w' hb=>?_;exact⟨_,rfl,hW.below hb,hW.keep hb,rfl,rfl⟩
 ·rintro e w' ⟨x,S3,rfl,h1,h2,h3,rfl,rfl⟩;exact⟨u,_,o',rfl,h1,h2,h3,hB,an,ai,hg⟩
def mz:List (List UInt8×List UInt8):=[([97],[]),([98],[]),([99],[])]
theorem KQ:∀i (hi:i<mz.length),mz[i].1.length<=1000/\mz[i].2.length<=1000/\gV (mz.take i) mz[i].1 mz[i].2=mz.take (i+1)/\(∀z∈mz.take i,z.1≠mz[i].1)
 | 0,_=>⟨by decide+revert,by decide+revert,by decide+revert,by decide+revert⟩
 | 1,_=>⟨by decide+revert,by decide+revert,by decide+revert,by decide+revert⟩
 | 2,_=>⟨by decide+revert,by decide+revert,by decide+revert,by decide+revert⟩
 | n+3,h=>absurd (show n+3<3 from h) (by omega)
structure mB (X:Nat->Prop) (w:World) (ps pm px:Nat) (S:St) (o:Nat->Nat) (Y:Nat->Prop) (t:Tr) (W:World):Prop where
 st:Ig W ps S Y
 bin:fC eZ S o t
 tr:FF W px ps 162 (fE ps 1) 1 0 t.root
 map:Ic W pm px ps 1000
 kp:Fo X w W
 own:∀k,X k->Y k
 yx:Y px
 ym:Y pm
 nx:¬X px
 ne:pm≠px
theorem mB.below {X:Nat->Prop}{w W W':World}{ps pm px:Nat}{S:St}{o:Nat->Nat}{Y:Nat->Prop}{t:Tr}(h:mB X w ps pm px S o Y t W)(hb:Below W.heap.size W W'):mB X w ps pm px S o Y t W':=
 ⟨h.st.below hb,h.bin,h.tr.below hb,h.map.below hb,h.kp.trans (Fo.of_below hb fun k hk=>h.st.yl k (h.own k hk)),h.own,h.yx,h.ym,h.nx,h.ne⟩
def qW(X:Nat->Prop)(w:World)(ps pm i:Nat)(W:World):Prop:=∃px S o Y t,mB X w ps pm px S o Y t W/\pairs t.its=mz.take i/\S.t.slots.length<=3*i/\fc S (7*(20-i)) (3*(20-i))
theorem qW.put {X:Nat->Prop}{w:World}{ps pm i:Nat}{W:World}(hi:i<mz.length)(h:qW X w ps pm i W):
 Ct 24 #[PV pm,SV mz[i].1,SV mz[i].2] W fun e w'=>∃(r:List UInt8) (b:Bool) (g:Nat),e=.returned (.tuple #[SV r,.bool b,Xi g])/\qW X w ps pm (i+1) w':=by
 obtain⟨px,S,o,Y,t,hM,hp,hs,ad⟩:=h;have ar:i<3:=hi;obtain⟨la,lb,ap,ai⟩:=KQ i hi;have an:∀z∈t.its,z.k≠mz[i].1:=fun z hz=>ai (z.k,z.v) (by
  rw[<-hp];exact List.mem_map_of_mem (f:=fun d:It=>(d.k,d.v)) hz)
 have hl:t.its.length=i:=by rw[<-jT,hp,aL];have:mz.length=3:=rfl;omega
 refine(CS hM.map mz[i].1 mz[i].2 [] false la lb (Q:=fun w'=>qW X w ps pm (i+1) w') ((KZ vi va hM.st hM.bin (by omega) hM.tr hM.yx _ _ la lb (ad.mono (by omega) (by omega)) an).mono ?_)).mono ?_
 ·rintro e w' ⟨u,S',o',rfl,h1,h2,h3,h4,h5,h6,h7⟩;refine⟨rfl,px,S',o',Y,u,⟨h1,h4,h3,(h2.block pm ⟨hM.ym,hM.ne⟩).trans hM.map,hM.kp.trans (h2.mono fun k hk=>⟨hM.own k hk,fun q=>hM.nx (q▸hk)⟩),hM.own,hM.yx,hM.ym,hM.nx,hM.ne⟩,?_,?_,?_⟩
  ·rw[h5,hp,ap]
  ·have:=h7.slots;omega
  ·refine fc.grew (p:=7) (q:=3) (ad.mono (by omega) (by omega)) h7
 ·rintro e w' ⟨rfl,h1⟩;exact⟨_,_,0,rfl,h1⟩
theorem KW {X Y:Nat->Prop}{w0:World}{ps:Nat}{S:St}{o:Nat->Nat}{W:World}(hs:Ig W ps S Y)(hf:Fw S o)(hb:Below w0.heap.size w0 W)(hY:∀k,k<w0.heap.size->Y k)(hX:∀k,X k->Y k)(hX2:∀k,X k->k<w0.heap.size\/∃cs,W.heap[k]?=some (.cells cs 40))(h0:S.t.slots.length=0)(hsp:fc S 140 60):
 Ct 52 #[PV ps,Xi 1,Xi 0,Xi 1000] W fun e w'=>∃pm,e=.returned (.tuple #[PV pm,Xi 0])/\qW X W ps pm 0 w':=by
 have ai:=hs.yl;refine(vK (rj vi (pU vi va (P:=fun _=>True)) va.nil 0) hs hf hb hY 1000 (by omega)).mono ?_;rintro e w' ⟨pm,px,Z,rfl,hM,hZ,ad⟩;obtain⟨o2,R,t,hB,h1,h2,_⟩:=hM.hold;have hT:FF w' px ps 162 (fE ps 1) 1 0 t.root:=by rw[<-h1];exact hM.on
 refine⟨pm,rfl,px,S,o2,Z,t,⟨hM.st,hB,hT,hM.map,Fo.of_below ad fun k hk=>ai k (hX k hk),fun k hk=>hZ k (hX k hk),hM.yx,hM.ym,fun q=>?_,hM.ne⟩,by rw[<-h2];rfl,by omega,hsp⟩
 rcases hX2 px q with q1 | ⟨cs,q1⟩
 ·have:=hM.lx;omega
 ·have q2:=(ad.block px (gl q1)).trans q1;unfold FF at hT;rw[q2] at hT
  injection hT with hT
  injection hT with _ hT
  cases hT
structure mW (w:World) (ps:Nat) (S:St) (Y:Nat->Prop) (D:Nat) (v:Value) (L:List Nat):Prop where
 st:Ig w ps S (fun k=>Y k\/v.ownBlock=some k)
 own:FE w D v L
 lo:fy<D/\D<=w.heap.size
 off:∀g,v.ownBlock=some g->¬Y g
section
variable {w w':World}{ps D:Nat}{S:St}{Y Z:Nat->Prop}{v:Value}{L:List Nat}
theorem mW.wide(h:mW w ps S Y D v L)(hb:Below w.heap.size w w'):mW w' ps S (fun k=>Y k\/(w.heap.size<=k/\k<w'.heap.size)) D v L:=by
 refine⟨(h.st.wide hb).mono fun k hk=>?_,h.own.at fun g e=>hb.block g (h.own.ge g e).2,⟨h.lo.1,aB h.lo.2 hb.size⟩,fun g e hk=>?_⟩
 ·rcases hk with (hk | hk) | hk
  ·exact ab (ab hk)
  ·exact ae hk
  ·exact ab (ae hk)
 ·rcases hk with hk | hk
  ·exact h.off g e hk
  ·have:=(h.own.ge g e).2;omega
theorem mW.mono(h:mW w ps S Y D v L)(hz:∀k,Z k->Y k):mW w ps S Z D v L:=⟨h.st.mono fun k hk=>hk.imp (hz k) id,h.own,h.lo,fun g e hk=>h.off g e (hz g hk)⟩
theorem mW.below(h:mW w ps S Y D v L)(hb:Below w.heap.size w w'):mW w' ps S Y D v L:=(h.wide hb).mono fun _ hk=>ab hk
theorem mW.append(h:mW w ps S Y D v L)(hl:L.length<=100000)(x:Nat)(ty:TypeId):
 ∃v' w',(Builtin.append_ #[59,59] ty #[v,.slice (some ⟨w.heap.size,0,none⟩) 1 1]).run prog (w.alloc (Xf x))=.ok v' w'/\mW w' ps S Y D v' (L++[x])/\Fo Y w w'/\Below D w w':=by
 obtain⟨v2,w2,ar,ai,ad,an⟩:=jF h.own hl x h.lo.2 ty;have ap:∀k,Y k->k<w.heap.size:=fun k hk=>h.st.yl k (ab hk);refine⟨v2,w2,ar,⟨h.st.row h.lo.1 h.own ai ad an,ai,⟨h.lo.1,aB h.lo.2 ad.size⟩,fun g e hk=>?_⟩,⟨ad.os,ad.tape,ad.output,ad.size,fun k hk=>ad.block k (ap k hk) fun e=>h.off k e.symm hk⟩,ad.os,ad.tape,ad.output,ad.size,fun k hk=>ad.block k (aJ hk h.lo.2) fun e=>by have:=(h.own.ge k e.symm).1;omega⟩
 rcases an with q | ⟨g',q,hg⟩
 ·rw[q] at e;exact h.off g e hk
 ·rw[q] at e;obtain rfl:g'=g:=Option.some.inj e;have:=ap _ hk;omega
end
theorem K0 {ps t:Nat}{S:St}{o:Nat->Nat}:∀(d:Nat) (x:Bt d),Bt.Walk S o t x->∀{w:World} {Y:Nat->Prop} {D most dp:Nat} {v:Value} {L:List Nat},mW w ps S Y D v L->dp+d<=40->L.length+(Bt.nodes x).length<=most->most<=100000->
 Ct 80 #[FH ps t,v,Xu (Bt.hd x:Nat),Xi most,Xi dp] w fun e w'=>∃v',e=.returned v'/\mW w' ps S Y D v' (L++Bt.nodes x)/\Fo Y w w'/\Below D w w':=by
 intro d;induction d with
 | zero=>exact fun x=>nomatch x
 | succ d ih=>
  intro x hx w Y D most dp v L h hd hl hm;have hn:(Bt.nodes x).length=1+((Bn.ks x).map fun k=>Bt.nodes k).flatten.length:=by
   show (Bn.h x::((Bn.ks x).map fun k=>Bt.nodes k).flatten).length=_
   rw[ag,Nat.add_comm]
  have B0:=(aa w.heap.size w).alloc Ih (Xd ps t);have q0:=heap_alloc_new w (Xd ps t);have z0:(w.alloc (Xd ps t)).heap.size=w.heap.size+1:=by simp
  have hg:=kI ((h.below B0).st) hx.fit.inv hx.read;obtain⟨A,c,rfl⟩:=h.own.slice2;have a5:((most:Int)<=(L.length:Int))=False:=eq_false (by omega);have a3:((dp:Int)==40)=false:=by simp;omega
  have HG:=kq7 hg h B0 q0 ih hx hl;unfold FH;obtain⟨c0,c1⟩:=Fp q0;clear hg h B0 q0 ih hl hx;go_enter func80,ntmps80;go_wp2_with fail;refine HG.a.mono ?_;rintro e w1 ⟨vk,vv,vc,rfl,hr,hb⟩;obtain⟨kA,km,kc,rfl⟩:=hr.k.slice;obtain⟨vA,vm,vC,rfl⟩:=hr.v.slice;obtain⟨cA,cc,rfl⟩:=hr.c.slice2;unfold eC;obtain⟨n,au⟩:=Ii (Bt.bn x).size;obtain⟨m,ai⟩:=Ii (Bt.bn x).kids.length;have an:m=(Bn.ks x).length:=by rw[<-ai];exact ao _
  have a6:m<=100:=by
   have h1:=HG.f.ok.1;have h2:=HG.f.ok.2.1;have:=HG.f.t2;rw[an];split at h2<;>omega
  rw[au,ai];have A1:=(aa w1.heap.size w1).alloc Ih (.cells #[.slice kA km kc,.slice vA vm vC,.slice cA m cc,Xu n] 215);have q1:=heap_alloc_new w1 (.cells #[.slice kA km kc,.slice vA vm vC,.slice cA m cc,Xu n] 215);have C1:=HG.c.trans (hb.mono HG.c.size);have C2:=C1.trans (A1.mono C1.size);have o2:=HG.b.wide C2;have z2:(w1.alloc (.cells #[.slice kA km kc,.slice vA vm vC,.slice cA m cc,Xu n] 215)).heap.size=w1.heap.size+1:=by simp
  have s1:=C1.size;obtain⟨v3,w3,ap,o3,k3,e3⟩:=o2.append (by have:=HG.g;omega) (Bt.hd x) 59;have bl:∀k,w.heap.size<=k->k<w1.heap.size+1->w3.heap[k]?=(w1.alloc (.cells #[.slice kA km kc,.slice vA vm vC,.slice cA m cc,Xu n] 215)).heap[k]?:=fun k h1 h2=>k3.block k (ae ⟨h1,by rw[z2];exact h2⟩);have q3:=(bl w1.heap.size s1 (by omega)).trans q1;have t3:=(bl w.heap.size Ih (by omega)).trans ((A1.block _ (by have:=hb.size;omega)).trans ((hb.block _ (by omega)).trans HG.d));obtain⟨b0,b1,b2,b3⟩:=Fy q3;rw[z2] at o3 k3 ap;have hrow:∀W,Fo (fun k=>Y k\/(w.heap.size<=k/\k<w1.heap.size+1)) w3 W->FD W (.slice cA m cc) ((Bn.ks x).map Bt.hd):=fun W hW=>by
   have hw:=hr.c;rw[ai] at hw;refine hw.hrow.keeps fun g e _=>?_;have ar:=hw.ge g e;rw[z0] at ar;exact(hW.block g (ae ⟨by omega,by omega⟩)).trans ((bl g (by omega) (by omega)).trans (A1.block g ar.2))
  have o3:mW w3 ps S (fun k=>Y k\/(w.heap.size<=k/\k<w1.heap.size+1)) D v3 (L++Bt.hd x::(((Bn.ks x).take 0).map fun k=>Bt.nodes k).flatten):=o3;have H3:=kq4 o3 hrow t3 (k3.mono (Z:=Y) fun k hk=>ab hk);have a1:=If (Fo.of_below C2 fun k hk=>HG.b.st.yl k (ab hk):Fo Y w _);have HE:=If ((C2.mono HG.b.lo.2).trans e3);have HB:=kq4 s1 hn an hm;clear e3 hn au ai an hm o3 hrow t3 k3 q3 bl q1 C1 C2 o2 A1 hr hb s1 z0 z2;go_wp2_with (at_builtin;refine Lib.wpList_append_run _ rfl _ _ _ _ rfl _ _ rfl rfl _ _ ap ?_)
  clear b0 b1 b2 b3 c0 c1 ap;go_loopw [1,14,41] (fun s1 _ s41 wr=>∃j:Nat,s41=Xi j/\j<=m/\Hid (mW wr ps S (fun k=>Y k\/(w.heap.size<=k/\k<w1.heap.size+1)) D s1 (L++Bt.hd x::(((Bn.ks x).take j).map fun k=>Bt.nodes k).flatten)/\Fo (fun k=>Y k\/(w.heap.size<=k/\k<w1.heap.size+1)) w3 wr/\Below D w3 wr)) (fun _ _ s41 _=>m-(intOf s41).toNat)
  case atStart=>exact⟨0,rfl,by omega,H3.a,Fo.refl _ _,aa _ _⟩
  case round=>
   obtain⟨j,rfl,a4,J0⟩:=hrel;by_cases hj:j<m
   ·have a2:(j:Int)<m:=by omega
    have ad:j<(Bn.ks x).length:=by have:=HB.c;omega
    obtain⟨g,o5,rfl,r0⟩:=(H3.b _ J0.out.2.1).at (af ad);have t5:=(J0.out.2.1.block w.heap.size (ae ⟨Nat.le_refl _,by have:=HB.a;omega⟩)).trans H3.c;obtain⟨c0,c1⟩:=Fp t5;have a0:(L++Bt.hd x::(((Bn.ks x).take j).map fun k=>Bt.nodes k).flatten).length+(Bt.nodes (Bn.ks x)[j]).length<=most:=by
     have h1:=HG.g;rw[HB.b] at h1;have h2:(((Bn.ks x).take (j+1)).map fun k=>Bt.nodes k).flatten.length<=((Bn.ks x).map fun k=>Bt.nodes k).flatten.length:=by
      conv=>rhs;rw[<-aX (j+1) (Bn.ks x),aP,cP,ah]
      omega
     rw[aH ad,aP,cP,ah] at h2;simp only[bg,List.map_nil,dy,List.flatten_nil,bD] at h2;simp only[ah,ag];omega
    have hi:=HG.e (Bn.ks x)[j] (HG.f.kid (aw ad)) (dp:=dp+1) (most:=most) J0.out.1 (by omega) a0 HB.d;have HI:=If hi;clear hi a0 t5;unfold FH at HI;go_wp2_with fail;refine HI.out.mono ?_;rintro e w5 ⟨v5,rfl,o5,k5,e5⟩;have H5:=kq3 o5 (J0.out.2.1.trans k5) (J0.out.2.2.trans e5);clear o5 k5 e5 c0 c1 r0;go_wp2_with fail;go_roundw
    case rel=>
     refine⟨j+1,by simp,by omega,?_,H5.out.2⟩;have:=H5.a;rw[bC] at this;rw[aH ad,aP,cP,bg,List.map_nil,dy,List.flatten_nil,bD];exact this
    case measure=>simp[intOf];omega
   ·obtain rfl:j=m:=by omega
    have a2:¬(j:Int)<j:=by omega
    have h1:=J0.out.1;rw[aT (Nat.le_of_eq HB.c.symm)] at h1;have H5:=kq2 (h1.mono (Z:=Y) fun k hk=>ab hk) (H3.d.trans (J0.out.2.1.mono fun k hk=>ab hk));clear h1;go_wp2_with fail;go_ret;exact⟨_,rfl,H5.a,(a1.out).trans H5.b,HE.out.trans J0.out.2.2⟩
theorem FE.base {w:World}{B B':Nat}{v:Value}{l:List Nat}(h:FE w B v l)(hB:B'<=B):FE w B' v l:=
 ⟨h.1,h.2.imp id fun⟨g,cap,cur,a,b,c⟩=>⟨g,cap,cur,a,aB hB b,c⟩⟩
def Bt.NodesOf(S:St)(o:Nat->Nat)(t root:Nat)(L:List (List UInt8×List UInt8))(R N:List Nat):Prop:=
 (Empty S o t/\root=0/\L=[]/\R=[]/\N=[])\/∃(d:Nat) (x:Bt (d+1)),Tree S o t x/\root=hd x/\L=pairs (its x)/\R=recs x/\N=Bt.nodes x
theorem Bt.Tree.many {S:St}{o:Nat->Nat}{t d:Nat}{x:Bt (d+1)}(h:Tree S o t x):(Bt.nodes x).length<=S.words / (6*t):=by
 have t1:=h.t1;have:=LL h.fit (n:=6*t) (by omega) h.nodes fun y hy=>by
  obtain⟨n,hn⟩:=h.at'.rec y hy;exact⟨_,hn,by rw[jJ];omega⟩
 unfold St.words;rw[Nat.le_div_iff_mul_le (by omega),Nat.mul_comm _ 64];exact this
theorem K3 {w:World}{ps:Nat}{S:St}{o:Nat->Nat}{Y:Nat->Prop}(h:Ig w ps S Y)(hf:Fw S o){t:Nat}(t1:2<=t)(t2:t<=16)(z:Nat):
 Cb 80 #[FH ps t,.slice none 0 0,Xu 0,Xi z,Xi 0] w (.slice none 0 0):=by
 have B0:=(aa w.heap.size w).alloc Ih (Xd ps t);have q0:=heap_alloc_new w (Xd ps t);have hg:=nQ (h.below B0) hf.inv t1 t2 0 (by omega) (oy (rZ hf));unfold FH eC at hg;obtain⟨c0,c1⟩:=Fp q0;have HG:=kq2 hg B0;clear hg B0 h hf q0;unfold FH;go_enter func80,ntmps80;go_wp2_with fail;refine b8 HG.a fun w1 hb1=>?_;have B1:=HG.b.trans (hb1.mono HG.b.size);have H1:=If (B1.alloc B1.size (.cells #[.slice none 0 0,.slice none 0 0,.slice none 0 0,Xu 0] 215));clear hb1 B1 c0 c1;go_wp2_with fail;go_ret;exact⟨rfl,H1.out⟩
theorem K4 {w:World}{ps t root:Nat}{S:St}{o:Nat->Nat}{Y:Nat->Prop}{L:List (List UInt8×List UInt8)}{R:List Nat}(h:Ig w ps S Y)(hH:Bt.Holds S o t root L R):
 Ct 40 #[PV ps,Xi t,Xu root] w fun e w'=>∃v N,e=.returned v/\FE w' w.heap.size v N/\Below w.heap.size w w'/\N.length<=50000/\Bt.NodesOf S o t root L R N:=by
 obtain⟨t1,t2⟩:=hH.deg;have hf:=hH.fit;have ar:=kZ h hf.inv t1 t2;have B0:=(aa w.heap.size w).alloc Ih (Xd ps t);have q0:=heap_alloc_new w (Xd ps t);have ai:=Kj (h.below B0.drew) t1 t2;have a2:=nB h;have au:=xA h;have an:∀W,Below w.heap.size w W->Ct 80 #[FH ps t,.slice none 0 0,Xu root,Xi (S.words / (6*t)+1:Nat),Xi 0] W fun e w'=>∃v N,e=.returned v/\FE w' W.heap.size v N/\Below W.heap.size W w'/\N.length<=50000/\Bt.NodesOf S o t root L R N:=fun W hW=>by
  have a3:S.words / (6*t)<=22000:=by
   rw[<-Nat.lt_succ_iff,Nat.div_lt_iff_lt_mul (by omega)];omega
  have hO:mW W ps S Y W.heap.size (.slice none 0 0) []:=⟨(h.below hW).mono (fun k hk=>hk.elim id (fun e=>nomatch e)),World.ownsRow_nil _ _ _ _,⟨aJ au hW.size,Nat.le_refl _⟩,(fun g e=>nomatch e)⟩
  rcases hH with⟨hE,rfl,rfl,rfl⟩ | ⟨d,x,hx,rfl,rfl,rfl⟩
  ·refine(K3 (h.below hW) hE.fit t1 t2 _).mono ?_;rintro e w' ⟨rfl,hb⟩;exact⟨_,[],rfl,World.ownsRow_nil _ _ _ _,hb,bY _,ab ⟨hE,rfl,rfl,rfl,rfl⟩⟩
  ·refine(K0 (d+1) x hx.walk (dp:=0) hO (by have:=hx.low;omega) (by have:=hx.many;simp;omega) (by omega)).mono ?_;rintro e w' ⟨v',rfl,h1,h2,h3⟩;exact⟨v',_,rfl,h1.own,h3,by have:=hx.many;simp;omega,ae ⟨d,x,hx,rfl,rfl,rfl,rfl⟩⟩
 unfold FH at ai an;generalize S.words / (6*t)+1=z at*;have HG:=kq5 ar ai an B0 q0;obtain⟨I,ap,ad⟩:=ic fun w'=>w'.heap[w.heap.size]?=some (Xd ps t);have a0:=fun x:Fq I=>ap _ x.ok;obtain⟨m0,m1⟩:=fw a0;have a1:I (w.alloc (Xd ps t)).drew:=ad _ q0;have HI:=If ad;clear ar ai an B0 q0 h hH hf ap ad a0 a2 au;go_enter func40,ntmps40;go_wp2_with fail;refine Jc HG.a ?_;go_wp2_with fail;refine fh I (.take 0 (.take 1 (.take 2 (.go 3 (.go 4 (.go 5 .nil)))))) (by kernel_rfl) (by kernel_rfl) a1 ?_
 iterate 3
  refine' pT ?_ ?_;rotate_left
  ·intro x;go_simp
   try rfl
  try simp only[pu]
 refine pD fun K hK=>?_;go_simp;refine b8 HG.b fun w1 hb1=>?_;have B1:=HG.d.drew.trans (hb1.mono HG.d.drew.size);have q1:=(hb1.block w.heap.size (gl HG.e)).trans HG.e;have H1:=kq2 B1 q1;clear hb1 B1 q1
 try go_simp
 refine hK.out _ _ (HI.out _ H1.b) ?_;clear hK K
 try simp only[pu]
 refine pD fun K hK=>?_;go_simp;refine(HG.c _ H1.a).mono ?_;rintro e w2 ⟨v,N,rfl,h2,h3,h4⟩;have H2:=kq4 (FE.base h2 H1.a.size) (H1.a.trans (h3.mono H1.a.size)) h4 ((h3.block w.heap.size (gl H1.b)).trans H1.b);clear h2 h3 h4
 try go_simp
 refine hK.out _ _ (HI.out _ H2.d) ?_;clear hK K
 try simp only[pu]
 refine pD fun K hK=>?_;go_simp
 try go_simp
 refine hK.out _ _ (HI.out _ H2.d) ?_;clear hK K
 try simp only[pu]
 refine eP ?_;go_wp2_with fail;go_ret;exact⟨_,N,rfl,H2.a,H2.b,H2.c⟩
theorem LF {w:World}{pm px ps lim t:Nat}{S:St}{o:Nat->Nat}{Y:Nat->Prop}(h:Ig w ps S Y)(hf:Fw S o)(hM:Ic w pm px ps lim)(hT:jE w px ps t 0)(t1:2<=t)(t2:t<=16):
 Ct 36 #[PV pm] w fun e w'=>∃v,e=.returned v/\FE w' w.heap.size v []/\Below w.heap.size w w':=by
 have an:∀W,Below w.heap.size w W->Ct 40 #[PV ps,Xi t,Xu 0] W fun e w'=>∃v,e=.returned v/\FE w' W.heap.size v []/\Below W.heap.size W w':=fun W hW=>by
  refine(K4 (root:=0) (L:=[]) (R:=[]) (h.below hW) (ab ⟨⟨hf,t1,t2⟩,rfl,rfl,rfl⟩)).mono ?_;rintro e w' ⟨v,N,rfl,h1,h2,_,h3⟩
  rcases h3 with⟨_,_,_,_,rfl⟩ | ⟨d,x,hx,h0,_⟩
  ·exact⟨v,rfl,h1,h2⟩
  ·exact absurd h0.symm (Bt.At.hd_ok hx.fit hx.at').1
 have ai:=fun W (hW:Below w.heap.size w W)=>zV (h.below hW) hf t1 t2;have HR:=kq4 hM hT an ai;clear h hf hM hT an ai t1 t2;unfold jE at HR;have ap:¬(0:Int)<0:=by omega
 go_enter func36,ntmps36;go_wp2_with fail;refine Jc (IQ HR.a) ?_;go_wp2_with fail;refine Jc (Gh HR.a) ?_;go_wp2_with fail;refine Jc (KN HR.b) ?_;go_wp2_with fail;refine Jc (Gh HR.a) ?_;go_wp2_with fail;refine b8 (KM HR.b) fun w1 hb1=>?_;have H1:=If hb1;clear hb1;go_wp2_with fail;refine(HR.c _ H1.out).mono ?_;rintro e w2 ⟨v,rfl,hv,ad⟩;have H2:=kq3 hv (H1.out.trans (ad.mono H1.out.size)) H1.out.size;clear hv ad;go_wp2_with fail;refine b8 (HR.d _ H2.b) fun w3 hb3=>?_;have H3:=kq2 (FE.base2 (H2.a.at fun g e=>hb3.block g (H2.a.ge g e).2) H2.c) (H2.b.trans (hb3.mono H2.b.size));clear hb3;go_wp2_with fail
 go_loopw [7,9,38] (fun s7 _ s38 wq=>s7=v/\s38=Xi 0/\wq=w3) (fun _ _ _ _=>0)
 case atStart=>exact⟨rfl,rfl,rfl⟩
 obtain⟨rfl,rfl,hw⟩:=hrel;have hw:=hw.symm;subst hw;go_wp2_with fail;go_ret;exact⟨_,rfl,H3.a,H3.b⟩
def JL(K:jo):Prop:=∀{w:World} {pm px ps lim:Nat} {S:St} {o:Nat->Nat} {Y:Nat->Prop},Ig w ps S Y->Fw S o->Ic w pm px ps lim->K.On w px ps 0->
 Ct 36 #[PV pm] w fun e w'=>∃v,e=.returned v/\FE w' w.heap.size v []/\Below w.heap.size w w'
theorem KG {kind:Nat}(hk:kind=1\/kind=2)(Ok:Tr->Prop):JL (jH kind Ok):=fun h hf hM hT=>by
 have:=KH (t:=.nil) h hf hM hT hk trivial (Nat.succ_pos _) (bY _);exact this
theorem Kt(hins:∀d,j4 d)(kind t:Int)(h:kind=1\/kind=2\/kind=3/\2<=t/\t<=16):∃K,tp kind t K/\JL K:=by
 rcases h with rfl | rfl | ⟨rfl,q1,q2⟩
 ·exact⟨_,rj vi (pU vi va) va.nil t,KG (ab rfl) _⟩
 ·exact⟨_,rj ot (pU ot oq) oq.nil t,KG (ae rfl) _⟩
 ·obtain⟨n,rfl⟩:∃n:Nat,t=n:=⟨t.toNat,by omega⟩;exact⟨_,BT (Cw hins n) (by omega) (by omega),fun h hf hM hT=>LF h hf hM hT (by omega) (by omega)⟩
theorem LO {w:World}{ps:Nat}{S:St}{Y:Nat->Prop}(h:Ig w ps S Y)(n:Int)(hn:n<0\/3998<n):
 Cb 31 #[PV ps,Xi n] w (.tuple #[Xu 0,Xi 2]):=by
 have hb:=((aa _ w).alloc Ih (Xh ps)).alloc (by simp) (.cells #[Xi 0] 27);have ad:=sI (h.below hb);have HG:=kq2 ad hb;clear ad hb h
 by_cases h0:n<0
 ·go_enter_defers func31,ntmps31
  go_wp2_with fail;refine Jc HG.a ?_;go_wp2_with fail;refine⟨.tuple #[Xu 0,Xi 2],?_,rfl,((aa _ w).alloc Ih _).alloc (by simp) _⟩
  simp[results,f31,go_sem]
 ·have ai:(3998:Int)<n:=by omega
  go_enter_defers func31,ntmps31
  go_wp2_with fail;refine Jc HG.a ?_;go_wp2_with fail;refine⟨.tuple #[Xu 0,Xi 2],?_,rfl,((aa _ w).alloc Ih _).alloc (by simp) _⟩
  simp[results,f31,go_sem]
theorem uS:∀d,j4 d
 | 0=>uU 0 fun _ h=>absurd h (by omega)
 | d+1=>uU (d+1) fun d0 h=>by
  have h:d=d0:=by omega
  subst h;exact @uS d
