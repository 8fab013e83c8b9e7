/- B-trees: Insert of the first key: the walk. -/
import Derived.Test.YtcibkdbpicledaaGreatDoorZBy
import Derived.Test.YtcibkdbpicledaaGreatDoorZBk
import Derived.Test.YtcibkdbpicledaaGreatDoorZBv
set_option maxRecDepth 100000
set_option maxHeartbeats 6400000
namespace Go.Proofs.YtcibkdbpicledaaGreatDoor
section
open Go.RowKit Tryz Go.BigFrame Go.Maps Go.WideMaps Lf Tr
open Go.Shelf
namespace Bt
structure Empty (S:St) (o:Nat->Nat) (t:Nat):Prop where
 fit:Fw S o
 t1:2<=t
 t2:t<=16
structure First (S:St) (e:It):Prop where
 blobs:gu S e
 ne:e.kh≠e.vh
def leafOf(r:Nat)(e:It):Bt 1:=(⟨r,[e],[]⟩:Bn (Bt 0))
theorem first_tree {S:St}{o:Nat->Nat}{t:Nat}(h:Empty S o t){e:It}(n:First S e){r:Nat}{ws:List Nat}(hw:reco S r=some ws)(hl:ws.length=6*t)(hk:r≠e.kh)(hv:r≠e.vh):
 Ok t (leafOf r e)/\iT (bn (leafOf r e))/\Tree (FC S r 0 (bnWords t (bn (leafOf r e)))) o t (leafOf r e)/\(∀z,z≠r->reco (FC S r 0 (bnWords t (bn (leafOf r e)))) z=reco S z)/\ej S (FC S r 0 (bnWords t (bn (leafOf r e)))) 0 0:=by
 have t1:=h.t1;have ok:Ok t (leafOf r e):=⟨by show 1<=2*t-1;omega,rfl,fun k hk=>by have hk:k∈([]:List (Bt 0)):=hk;simp at hk⟩;have al:∀k∈Bn.ks (leafOf r e),At S t k:=fun k hk=>by have hk:k∈([]:List (Bt 0)):=hk;simp at hk
 have ad:its (leafOf r e)=[e]:=its_leaf _;have hb:=blobs_lt h.fit n.blobs;have ai:iT (bn (leafOf r e)):=bnLt_of h.fit (fun a ha=>by
  have ha:a∈ [e]:=ha;rw[aT.1 ha];exact hb) al (by rw[ad];show 1<_;omega)
 obtain⟨p1,p2,p3,p4⟩:=put_node (x:=leafOf r e) h.fit al (fun k hk=>by have hk:k∈([]:List (Bt 0)):=hk;simp at hk) (ws:=ws) hw hl ai (by show 1<1000;omega);have p3:∀z,z≠r->reco (FC S r 0 (bnWords t (bn (leafOf r e)))) z=reco S z:=p3;have an:Bt.nodes (leafOf r e)=[r]:=by rw[jQ];rfl
 refine⟨ok,ai,⟨p1,h.t1,h.t2,p2,ok,by rw[ad];exact List.pairwise_singleton _ _,?_,by rw[ad];show 1<_;omega,by rw[an];simp,?_,?_,Nat.le_refl 1⟩,p3,p4⟩
 ·rw[ad];intro a ha;rw[aT.1 ha];exact n.blobs.frame (p3 _ (Ne.symm hk)) (p3 _ (Ne.symm hv))
 ·rw[ad]
  show[e.kh,e.vh].Nodup
  simp[n.ne]
 ·rw[ad,an];intro z hz hm;rw[aT.1 hz] at hm;have hm:r∈ [e.kh,e.vh]:=hm
  simp at hm
  exact hm.elim hk hv
end Bt
theorem xP(w:World)(o1 o2:Obj):Below w.heap.size w (w.drew.alloc o1)/\Below w.heap.size w ((w.drew.alloc o1).alloc o2)/\((w.drew.alloc o1).alloc o2).heap[w.heap.size]?=some o1/\((w.drew.alloc o1).alloc o2).heap[w.heap.size+1]?=some o2:=by
 have z1:(w.drew.alloc o1).heap.size=w.heap.size+1:=by simp
 have b1:=((aa w.heap.size w).drew).alloc Ih o1;have c2:=(aa (w.drew.alloc o1).heap.size (w.drew.alloc o1)).alloc Ih o2;have q1:=heap_alloc_new w.drew o1;have q2:=heap_alloc_new (w.drew.alloc o1) o2;have r1:=(c2.block w.heap.size (by omega)).trans q1;rw[z1] at q2;exact⟨b1,b1.trans (c2.mono (by rw[z1];omega)),r1,q2⟩
theorem qBzaa{P:Prop}(h:P:=by
 rintro en au ⟨rfl,ea,a8,ar,cb,ca⟩;have ad:I au:=cs _ _ T4.2.1 ar;have hold:=(cn.out _ ad).2;have kF:Fo Y w au:=(HK.a.trans (Fo.of_below T4.2.1 fun k hk=>by have:=HK.d k hk;omega)).trans (ar.mono fun k hk=>⟨ab (ab hk),by have:=HK.d k hk;omega⟩);obtain⟨x0,x1⟩:=Fp hold;obtain⟨f0,f1⟩:=ef hold;have an:=kq3 hold a8 kF;clear ar cb ca hold a8 kF T4
 try go_simp
 refine hK.out _ _ ad ?_;clear hK K
 try simp only[pu]
 refine pD fun K hK=>?_;go_simp
 try go_simp
 refine hK.out _ _ ad ?_;clear hK K
 try simp only[pu]
 refine pD fun K hK=>?_;go_simp
 try go_simp
 refine hK.out _ _ (a0 _ ad) ?_;clear hK K
 try simp only[pu]
 refine pD fun K hK=>?_;go_simp
 try go_simp
 refine hK.out _ _ (a0 _ ad) ?_;clear hK K
 try simp only[pu]
 refine pD fun K hK=>?_;go_simp
 try go_simp
 refine hK.out _ _ (a0 _ ad) ?_;clear hK K
 try simp only[pu]
 refine eP ?_;go_wp2_with fail;obtain⟨WF,ai⟩:=Ii ((au.setCell ⟨w.heap.size+1,0,none⟩ (.int .u64 0)).setCell ⟨w.heap.size+1,1,none⟩ (.int .u64 0));rw[ai];have eF:WF.heap[w.heap.size+1]?=some (.cells #[.int .u64 0,.int .u64 0] 137 (0,0)):=by
  rw[<-ai];exact heap_setCell (i:=1) (v:=.int .u64 0) (heap_setCell (i:=0) (v:=.int .u64 0) an.a)
 have cd:Ig WF ps (FC S1 rr 0 (bnWords t (Bt.bn (Bt.leafOf rr e)))) Y:=by
  rw[<-ai];exact(an.b.write (b:=w.heap.size+1) (ab (ae ⟨by omega,by omega⟩)) an.a ⟨by decide,by decide⟩ (by simp) (by simp) fun k _ hk=>(FB hk).trans (FB hk)).mono fun k hk=>ab (ab hk)
 have kF:Fo Y w WF:=by
  rw[<-ai];have a5:∀k,Y k->k≠w.heap.size+1:=fun k hk=>by have:=HK.d k hk;omega
  exact(an.c.trans (Fo.mark a5)).trans (Fo.mark a5)
 clear ai x0 x1 f0 f1;obtain⟨u0,u1⟩:=Fp eF;exact bodyPost_ret (v:=.tuple #[.int .u64 (rr:Nat),.agg #[.int .u64 0,.int .u64 0],.bool false,.int .i64 0]) (by simp[results,f316,go_sem,u0,u1]) rfl ⟨Bt.leafOf rr e,_,o1,rfl,cd,kF,cl.out⟩):P:=h
theorem zH {w:World}{ps:Nat}{S:St}{o:Nat->Nat}{Y:Nat->Prop}(h:Ig w ps S Y){t:Nat}(hx:Bt.Empty S o t){e:It}(hn:Bt.First S e)(hr:fc S (2*1) 1):
 Ct 316 #[PV ps,.int .i64 t,.int .u64 0,Id e.kh e.vh] w fun en w'=>∃(y:Bt 1) (S':St) (o':Nat->Nat),en=.returned (.tuple #[.int .u64 (Bt.hd y:Nat),Id 0 0,.bool false,.int .i64 0])/\Ig w' ps S' Y/\Fo Y w w'/\Bt.Tree S' o' t y/\Bt.its y=[e]/\(∀z∈Bt.nodes y,reco S z=none)/\(∀z,reco S z≠none->reco S' z=reco S z)/\ej S S' 2 1:=by
 have B0:=((aa w.heap.size w).alloc Ih (.cells #[.int .u64 e.kh,.int .u64 e.vh] 137)).alloc (by simp) (.cells #[.int .u64 0,.int .u64 0] 137);have z1:(w.alloc (.cells #[.int .u64 e.kh,.int .u64 e.vh] 137)).heap.size=w.heap.size+1:=by simp
 have q1:=heap_alloc_new w (.cells #[.int .u64 e.kh,.int .u64 e.vh] 137);have q2:=heap_alloc_new (w.alloc (.cells #[.int .u64 e.kh,.int .u64 e.vh] 137)) (.cells #[.int .u64 0,.int .u64 0] 137);have q1:=(((aa (w.alloc (.cells #[.int .u64 e.kh,.int .u64 e.vh] 137)).heap.size (w.alloc (.cells #[.int .u64 e.kh,.int .u64 e.vh] 137))).alloc Ih (.cells #[.int .u64 0,.int .u64 0] 137)).block w.heap.size (by simp)).trans q1;rw[z1] at q2;have hz:((w.alloc (.cells #[.int .u64 e.kh,.int .u64 e.vh] 137)).alloc (.cells #[.int .u64 0,.int .u64 0] 137)).heap.size=w.heap.size+2:=by simp
 generalize hW:(w.alloc (.cells #[.int .u64 e.kh,.int .u64 e.vh] 137)).alloc (.cells #[.int .u64 0,.int .u64 0] 137)=W0 at*;have A1:=(aa W0.heap.size W0).alloc Ih (.cells #[PV ps,.int .i64 t] 254);have q3:=heap_alloc_new W0 (.cells #[PV ps,.int .i64 t] 254);have a7:(W0.alloc (.cells #[PV ps,.int .i64 t] 254)).heap.size=w.heap.size+3:=by simp[hz]
 have hi:=hx.fit.inv;have hw:=hi;have dc:S.len 0=(0,7):=fU S;have has:=kZ (h.below B0) hi hx.t1 hx.t2;obtain⟨W1,cv⟩:=Ii (W0.alloc (.cells #[PV ps,.int .i64 t] 254));rw[cv] at A1 q3 a7;have B1:=B0.trans (A1.mono (by omega));rw[hz] at q3;have b0:=jt hx.fit hn.blobs.lk hn.blobs.k;have bt:=iz (h.below B1) hi e.kh (Bt.blobs_lt hx.fit hn.blobs).1 (by rw[b0];simp);rw[b0] at bt;have q1:=(A1.block _ (by omega)).trans q1;have q2:=(A1.block _ (by omega)).trans q2;obtain⟨x0,x1⟩:=Fp q1;have H0:=kq7 h hx hn hr hw hi a7;have H1:=kq4 B1 q1 q2 q3;have ch:=If has;have cj:=If bt;clear z1 q1 q2 q3 B0 B1 A1 hw hi has b0 bt h hx hn hr;unfold Id;go_enter func316,ntmps316;go_wp2_with fail;refine ch.out.mono ?_;rintro en w1 ⟨rfl,rfl⟩;clear hW;go_wp2_with fail;refine cj.out.mono ?_;rintro en w2 ⟨rfl,a1⟩;clear x0 x1;have p1:=(a1.block _ (by have:=H0.g;omega)).trans H1.b;have p2:=(a1.block _ (by have:=H0.g;omega)).trans H1.c;have p3:=(a1.block _ (by have:=H0.g;omega)).trans H1.d;have b2:=H1.a.trans (a1.mono H1.a.size);obtain⟨x0,x1⟩:=Fp p3;have bv:=nQ (H0.a.below b2) H0.f H0.b.t1 H0.b.t2 0 (by omega) dc;have ec:w.heap.size+3<=w2.heap.size:=by have:=a1.size;have:=H0.g;omega
 unfold FH eC at bv;have cm:=If bv;have H2:=kq4 b2 p1 p2 p3;clear a1 p1 p2 p3 b2 bv cj ch H1 cv;go_wp2_with fail;refine cm.out.mono ?_;rintro en w3 ⟨rfl,bm⟩;go_wp2_with fail;have A3:=(aa w3.heap.size w3).alloc Ih (.cells #[.slice none 0 0,.slice none 0 0,.slice none 0 0,.int .u64 0] 286);obtain⟨W3,bj⟩:=Ii (w3.alloc (.cells #[.slice none 0 0,.slice none 0 0,.slice none 0 0,.int .u64 0] 286));rw[bj] at A3;rw[bj];clear bj;have c3:=bm.trans (A3.mono bm.size);have p1:=(c3.block _ (by omega)).trans H2.b;have p2:=(c3.block _ (by omega)).trans H2.c;have p3:=(c3.block _ (by omega)).trans H2.d;have B3:=H2.a.trans (c3.mono H2.a.size);have ed:w.heap.size+3<=W3.heap.size:=by have:=c3.size;omega
 have bu:=fun W (hw:Below W3.heap.size W3 W)=>tT (H0.a.below (B3.trans (hw.mono B3.size))) H0.f H0.b.t1 H0.b.t2 0 (by omega) dc e.k;have ba:=nT (R:=none) (bu W3 (aa _ _)) fun W hW=>bu W (by rw[hW];exact(aa _ _).alloc Ih _);unfold i7 Id at ba
 dsimp only[Option.isSome] at ba
 have ck:=If ba;have H3:=kq4 B3 p1 p2 p3;clear A3 c3 p1 p2 p3 B3 bu ba x0 x1 bm H2 cm;refine ck.out.mono ?_;rintro en w4 ⟨rfl,bo⟩;go_wp2_with fail;have A4:=(aa w4.heap.size w4).alloc Ih (.cells #[.int .u64 0,.int .u64 0] 137);obtain⟨W4,bk⟩:=Ii (w4.alloc (.cells #[.int .u64 0,.int .u64 0] 137));rw[bk] at A4;rw[bk];clear bk;have c4:=bo.trans (A4.mono bo.size);have p1:=(c4.block _ (by omega)).trans H3.b;have p2:=(c4.block _ (by omega)).trans H3.c;have p3:=(c4.block _ (by omega)).trans H3.d;have B4:=H3.a.trans (c4.mono H3.a.size);have dv:w.heap.size+3<=W4.heap.size:=by have:=c4.size;omega
 have cc:=H0.a.wide B4;have a4:=fun W (_:Below W4.heap.size W4 W)=>zO W ps t e.k;have a3:=fun W (hw:Below W4.heap.size W4 W)=>tU (cc.below hw) H0.b.fit H0.b.t1 H0.b.t2 1 (by omega) H0.d;unfold FH at a4 a3;have a4:=If a4;have a3:=If a3;have H4:=kq5 B4 p1 p2 p3 cc;clear A4 c4 p1 p2 p3 B4 cc bo H3 ck;obtain⟨I,al,ao⟩:=ic fun w'=>w'.heap[w.heap.size+2]?=W4.heap[w.heap.size+2]?;have a7:=fun x:Fq I=>(al _ x.ok).trans H4.d;obtain⟨r0,r1⟩:=fw a7;have a9:I W4.drew:=ao _ rfl;have bd:=If ao;clear al ao a7;refine fh I (.take 0 (.take 1 (.take 2 (.take 3 (.go 4 (.go 5 (.take 6 (.take 7 (.take 8 (.go 9 (.go 10 .nil))))))))))) (by kernel_rfl) (by kernel_rfl) a9 ?_
 iterate 4
  refine' pT ?_ ?_;rotate_left
  ·intro x;go_simp
   try rfl
  try simp only[pu]
 refine pD fun K hK=>?_;go_simp;refine(a4.out _ (aa _ W4).drew).mono ?_;rintro en w5 ⟨rfl,bs⟩;have cr:I w5:=bd.out _ (bs.block _ dv);have B5:=(aa W4.heap.size W4).drew.trans bs;have a2:=If B5;clear bs B5
 try go_simp
 refine hK.out _ _ cr ?_;clear hK K
 try simp only[pu]
 refine pD fun K hK=>?_;go_simp;refine(a3.out _ a2.out).mono ?_;rintro en w6 ⟨rfl,S1,o1,v6,L,d7,b',d5,f6,cu,d6,dk,ap,c7⟩;have a':I w6:=bd.out _ ((b'.block _ (ae ⟨by omega,by omega⟩)).trans (a2.out.block _ dv));have H6:=kq9 d7 b' d5 f6 cu d6 dk ap c7;clear d7 b' d5 f6 cu d6 dk ap c7
 try go_simp
 refine hK.out _ _ a' ?_;clear hK K
 try simp only[pu]
 iterate 3
  refine' pT ?_ ?_;rotate_left
  ·intro x;go_simp
   try rfl
  try simp only[pu]
 refine pD fun K hK=>?_;go_simp
 try go_simp
 refine hK.out _ _ a' ?_;clear hK K
 try simp only[pu]
 refine pD fun K hK=>?_;go_simp
 try go_simp
 refine hK.out _ _ a' ?_;clear hK K
 try simp only[pu]
 refine eP ?_;have k6:∀k,w.heap.size<=k->k<W4.heap.size->w6.heap[k]?=W4.heap[k]?:=fun k h1 h2=>(H6.b.block k (ae ⟨h1,h2⟩)).trans (a2.out.block k h2);have p1:=(k6 w.heap.size (by omega) (by omega)).trans H4.b;have p2:=(k6 (w.heap.size+1) (by omega) (by omega)).trans H4.c;have bc:=H0.a.yl;have ee:=a2.out.size;have eg:=H6.b.size;have kY:Fo Y w w6:=((Fo.of_below H4.a bc).trans (Fo.of_below a2.out fun k hk=>by have:=bc k hk;omega)).trans (H6.b.mono fun k hk=>ab hk);have bf:=H6.e;obtain⟨rr,d'⟩:∃rr,L=[]++[rr]:=by
  cases L with
  | nil=>simp at bf
  | cons a l=>
   cases l with
   | nil=>exact⟨a,rfl⟩
   | cons b l=>simp at bf
 subst d';obtain⟨ws,bb,b9⟩:=H6.f.recs rr (by simp);have a6:=H6.g rr (by simp);have b4:rr≠e.kh:=fun q=>by have:=H0.c.blobs.k;rw[<-q,a6] at this;cases this
 have b8:rr≠e.vh:=fun q=>by have:=H0.c.blobs.v;rw[<-q,a6] at this;cases this
 have ap:∀z,z≠rr->reco S1 z=reco S z:=fun z hz=>H6.h z (by simpa using hz);have cx:Bt.Empty S1 o1 t:=⟨H6.d,H0.b.t1,H0.b.t2⟩;have c6:Bt.First S1 e:=⟨H0.c.blobs.frame (ap _ (Ne.symm b4)) (ap _ (Ne.symm b8)),H0.c.ne⟩;obtain⟨ok,cw,d1,c5,c'⟩:=Bt.first_tree cx c6 bb b9 b4 b8;have hA:∀(W:World) (b1 b2:Nat),Below w6.heap.size w6 W->w6.heap.size<=b1->w6.heap.size<=b2->W.heap[b1]?=some (.cells #[.int .u64 e.kh] 83 (0,0))->W.heap[b2]?=some (.cells #[.int .u64 e.vh] 83 (0,0))->
  Ct 331 #[.agg #[.slice (some ⟨b1,0,none⟩) 1 1,.slice (some ⟨b2,0,none⟩) 1 1,.slice none 0 0,.int .u64 1],PV (w5.heap.size+1),PV w5.heap.size] W fun en w'=>en=.returned (.int .u64 rr)/\∃v',Ig w' ps (FC S1 rr 0 (bnWords t (Bt.bn (Bt.leafOf rr e)))) (fun k=>(Y k\/(w.heap.size<=k/\k<W4.heap.size))\/iJ w5.heap.size (w5.heap.size+1) v6 k)/\Fo (fun k=>((Y k\/(w.heap.size<=k/\k<W4.heap.size))\/iJ w5.heap.size (w5.heap.size+1) v6 k)/\k≠w5.heap.size+1) W w'/\gz w' w5.heap.size (w5.heap.size+1) (w5.heap.size+2) ps t v' []/\v'.ownBlock=v6.ownBlock:=by
  intro W b1 b2 hB g1 g2 e1 e2;have ek:w5.heap.size+2<=w6.heap.size:=by
   have h1:=(gl H6.c.box);omega
  have ds:∀(b k:Nat),W.heap[b]?=some (.cells #[.int .u64 k] 83 (0,0))->FD W (.slice (some ⟨b,0,none⟩) 1 1) [k]:=fun b k hb=>⟨_,1,rfl,fun i hi=>⟨b,0,rfl,by
   have hi:i=0:=by simp at hi;exact hi
   subst hi;rw[Fs hb]
   rfl⟩⟩
  have d9:FD W (.slice none 0 0) []:=⟨none,0,rfl,fun i hi=>absurd hi (by simp)⟩;have d8:S1.len rr=(6*t,0):=by rw[jw H6.d.tab bb,b9]
  have dn:∀{b n c:Nat},w6.heap.size<=b->∀g,(Value.slice (some ⟨b,0,none⟩) n c).ownBlock=some g->g≠w5.heap.size+1:=fun hb g hg q=>by
   have hg:=Option.some.inj hg;simp only at hg;omega
  have d0:=pZ (n:=Bt.bn (Bt.leafOf rr e)) (vk:=.slice (some ⟨b1,0,none⟩) 1 1) (vv:=.slice (some ⟨b2,0,none⟩) 1 1) (vc:=.slice none 0 0) (H6.a.below hB) H6.d.inv (H6.c.keeps fun k hk=>hB.block k (H6.a.yl k (ae hk))) (ae (ae (ab rfl))) (ae (ab rfl)) (fun b hb=>ae (ae (ae hb))) (by simp) (Bt.bnok_of H6.d H0.b.t1 H0.b.t2 (fun k hk=>by have hk:k∈([]:List (Bt 0)):=hk;simp at hk) ok) (ds b1 _ e1) (ds b2 _ e2) d9 (dn g1) (dn g2) (fun g hg=>nomatch hg) (fL H6.d bb).2.1 d8 (kX (t:=t) cw (by show 1<_;omega));unfold eC at d0;exact d0
 have cp:Bt.Tree (FC S1 rr 0 (bnWords t (Bt.bn (Bt.leafOf rr e)))) o1 t (Bt.leafOf rr e)/\Bt.its (Bt.leafOf rr e)=[e]/\(∀z∈Bt.nodes (Bt.leafOf rr e),reco S z=none)/\(∀z,reco S z≠none->reco (FC S1 rr 0 (bnWords t (Bt.bn (Bt.leafOf rr e)))) z=reco S z)/\ej S (FC S1 rr 0 (bnWords t (Bt.bn (Bt.leafOf rr e)))) 2 1:=by
  refine⟨d1,Bt.its_leaf _,fun z hz=>?_,fun z hz=>?_,(H6.i.trans c').mono (by omega) (by omega)⟩
  ·have hz:z∈ [rr]:=hz;rw[aT.1 hz];exact a6
  ·have d4:z≠rr:=fun q=>hz (q▸a6);exact(c5 z d4).trans (ap z d4)
 have HA:=If hA;have cl:=If cp;have eb:=(gl p2);have HK:=kq4 kY p2 p1 bc;obtain⟨x0,x1⟩:=Fp p1;clear bf bb b9 a6 b4 b8 ap cx c6 ok cw d1 c5 c' hA cp kY p1 p2 k6 bc r0 r1 a4 a3 bd a9 cr a';go_wp2_with fail;obtain⟨I,al,ao⟩:=ic fun w'=>w'.heap[w.heap.size]?=some (.cells #[.int .u64 e.kh,.int .u64 e.vh] 137 (0,0))/\w'.heap[w.heap.size+1]?=some (.cells #[.int .u64 0,.int .u64 0] 137 (0,0));have d2:=fun x:Fq I=>(al _ x.ok).1;have d3:=fun x:Fq I=>(al _ x.ok).2;obtain⟨s0,s1⟩:=fw d2;obtain⟨r0,r1⟩:=fw d3;have hJ:∀W,Below w6.heap.size w6 W->I W:=fun W hB=>ao _ ⟨(hB.block _ (by omega)).trans HK.c,(hB.block _ (by omega)).trans HK.b⟩;have a9:I w6.drew:=hJ _ (aa _ w6).drew;have cs:∀W w',Below w6.heap.size w6 W->Fo (fun k=>((Y k\/(w.heap.size<=k/\k<W4.heap.size))\/iJ w5.heap.size (w5.heap.size+1) v6 k)/\k≠w5.heap.size+1) W w'->I w':=fun W w' hB hk=>by
  have h1:=al _ (hJ W hB);exact ao _ ⟨(hk.block _ ⟨ab (ae ⟨by omega,by omega⟩),by omega⟩).trans h1.1,(hk.block _ ⟨ab (ae ⟨by omega,by omega⟩),by omega⟩).trans h1.2⟩
 have a0:∀w',I w'->I ((w'.setCell ⟨w.heap.size+1,0,none⟩ (.int .u64 0)).setCell ⟨w.heap.size+1,1,none⟩ (.int .u64 0)):=fun w' hi=>ao _ ⟨((FB (by omega)).trans (FB (by omega))).trans (al _ hi).1,heap_setCell (i:=1) (v:=.int .u64 0) (heap_setCell (i:=0) (v:=.int .u64 0) (al _ hi).2)⟩;have HJ:=If hJ;have cn:=If al;clear d2 d3 al ao x0 x1;refine fh I (.take 0 (.take 1 (.take 2 (.take 4 (.take 5 (.take 9 (.two 3 6 (.go 6 (.take 7 (.go 8 (.go 10 (.go 11 (.go 12 (.go 13 .nil))))))) (.go 3 (.take 7 (.go 8 (.go 10 (.go 11 (.go 12 (.go 13 .nil)))))))))))))) (by kernel_rfl) (by kernel_rfl) a9 ?_
 iterate 6
  refine' pT ?_ ?_;rotate_left
  ·intro x;go_simp
   try rfl
  try simp only[pu]
 clear s0 s1 r0 r1;refine gL ?_ ?_
 ·have T4:=xP w6 (.cells #[.int .u64 (e.kh:Nat)] 83) (.cells #[.int .u64 (e.vh:Nat)] 83);refine pD fun K hK=>?_;go_simp
  try go_simp
  refine hK.out _ _ (HJ.out _ T4.1) ?_;clear hK K
  try simp only[pu]
  refine pD fun K hK=>?_;go_simp
  try go_simp
  refine hK.out _ _ (HJ.out _ T4.2.1) ?_;clear hK K
  try simp only[pu]
  refine' pT ?_ ?_;rotate_left
  ·intro x;go_simp
   try rfl
  try simp only[pu]
  refine pD fun K hK=>?_;go_simp;refine(HA.out _ w6.heap.size (w6.heap.size+1) T4.2.1 (by omega) (by omega) T4.2.2.1 T4.2.2.2).mono ?_;exact qBzaa
 ·have T4:=xP w6 (.cells #[.int .u64 (e.vh:Nat)] 83) (.cells #[.int .u64 (e.kh:Nat)] 83);refine pD fun K hK=>?_;go_simp
  try go_simp
  refine hK.out _ _ (HJ.out _ T4.1) ?_;clear hK K
  try simp only[pu]
  refine pD fun K hK=>?_;go_simp
  try go_simp
  refine hK.out _ _ (HJ.out _ T4.2.1) ?_;clear hK K
  try simp only[pu]
  refine' pT ?_ ?_;rotate_left
  ·intro x;go_simp
   try rfl
  try simp only[pu]
  refine pD fun K hK=>?_;go_simp;refine(HA.out _ (w6.heap.size+1) w6.heap.size T4.2.1 (by omega) (by omega) T4.2.2.2 T4.2.2.1).mono ?_;exact qBzaa
end
section
open Go.RowKit Tryz Go.BigFrame Go.Maps Go.WideMaps Lf Tr
variable{S:St}{Y:Nat->Prop}{l:List Nat}{ps:Nat}{w:World}
def jx(ps t:Nat):Value:=.agg #[PV ps,.int .i64 t]
theorem C8(f:Nat)(v:Value)(w:World):(method (f+1) 187 v "loft/backend.size").run prog w=.ok (313,v) w:=by kernel_rfl
theorem AN(args:Array Value)(w:World):(callFunc 313 args).run prog w=.ok (.enter 313 args) w:=by kernel_rfl
theorem C7(f:Nat)(v:Value)(w:World):(method (f+1) 187 v "loft/backend.rank").run prog w=.ok (311,v) w:=by kernel_rfl
theorem AM(args:Array Value)(w:World):(callFunc 311 args).run prog w=.ok (.enter 311 args) w:=by kernel_rfl
theorem vN(f:Nat)(v:Value)(w:World):(method (f+1) 187 v "loft/backend.at").run prog w=.ok (308,v) w:=by kernel_rfl
theorem ul(args:Array Value)(w:World):(callFunc 308 args).run prog w=.ok (.enter 308 args) w:=by kernel_rfl
theorem vO(f:Nat)(v:Value)(w:World):(method (f+1) 187 v "loft/backend.find").run prog w=.ok (309,v) w:=by kernel_rfl
theorem um(args:Array Value)(w:World):(callFunc 309 args).run prog w=.ok (.enter 309 args) w:=by kernel_rfl
theorem rH(f:Nat)(v:Value)(w:World):(method (f+1) 187 v "loft/backend.insert").run prog w=.ok (310,v) w:=by kernel_rfl
theorem qu(args:Array Value)(w:World):(callFunc 310 args).run prog w=.ok (.enter 310 args) w:=by kernel_rfl
theorem CB{ps t hh z:Nat}(hs:∀W,Below w.heap.size w W->Cb 319 #[PV ps,.int .i64 t,.int .u64 hh] W (.int .i64 z)):
 Cb 313 #[jx ps t,.int .u64 hh] w (.int .i64 z):=by
 have B0:=(aa w.heap.size w).alloc Ih (.cells #[PV ps,.int .i64 t] 187);have hs:=hs _ B0;have HG:=kq2 hs B0;clear hs B0;simp only[jx];go_enter func313,ntmps313;go_wp2_with fail;refine HG.a.mono ?_;rintro e w1 ⟨rfl,ad⟩;have H1:=If (HG.b.trans (ad.mono HG.b.size));clear ad;go_wp2_with fail;go_ret;exact⟨rfl,H1.out⟩
theorem Cz{ps t hh z:Nat}(k:List UInt8)(hs:∀W,Below w.heap.size w W->Cb 317 #[PV ps,.int .i64 t,.int .u64 hh,SV k] W (.int .i64 z)):
 Cb 311 #[jx ps t,.int .u64 hh,SV k] w (.int .i64 z):=by
 have B0:=(aa w.heap.size w).alloc Ih (.cells #[PV ps,.int .i64 t] 187);have hs:=hs _ B0;have HG:=kq2 hs B0;clear hs B0;simp only[jx];go_enter func311,ntmps311;go_wp2_with fail;refine HG.a.mono ?_;rintro e w1 ⟨rfl,ad⟩;have H1:=If (HG.b.trans (ad.mono HG.b.size));clear ad;go_wp2_with fail;go_ret;exact⟨rfl,H1.out⟩
theorem vD{ps t hh:Nat}(k:List UInt8)(k0 k1:Nat)(z:Bool)(hs:∀W,Below w.heap.size w W->Cb 315 #[PV ps,.int .i64 t,.int .u64 hh,SV k] W (.tuple #[Id k0 k1,.bool z])):
 Cb 309 #[jx ps t,.int .u64 hh,SV k] w (.tuple #[Id k0 k1,.bool z]):=by
 have B1:=(aa w.heap.size w).alloc Ih (.cells #[PV ps,.int .i64 t] 187);have B0:=B1.alloc B1.size (.cells #[.int .u64 0,.int .u64 0] 137);have z1:=heap_alloc_new (w.alloc (.cells #[PV ps,.int .i64 t] 187)) (.cells #[.int .u64 0,.int .u64 0] 137);simp only[World.size_alloc] at z1;have ha:=hs _ B0;simp only[Id,jx] at ha⊢;have HG:=kq3 ha B0 z1;clear ha B0 B1 hs z1;go_enter func309,ntmps309;go_wp2_with fail;refine HG.a.mono ?_;rintro e w2 ⟨rfl,ad⟩;have z2:=(ad.block (w.heap.size+1) (by simp)).trans HG.c;obtain⟨d0,d1⟩:=Fp z2;obtain⟨f0,f1⟩:=ef z2;have HW:=kq2 (HG.b.trans (ad.mono HG.b.size)) z2;clear ad z2;go_wp2_with fail;have q3:=ew HW.b (.int .u64 k0) (.int .u64 k1);have B3:=eT HW.a (bM w.heap.size) (.int .u64 k0) (.int .u64 k1);generalize ((w2.setCell ⟨(w.heap.size+1),0,none⟩ (.int .u64 k0)).setCell ⟨(w.heap.size+1),1,none⟩ (.int .u64 k1))=W3 at*;obtain⟨e0,e1⟩:=Fp q3;exact bodyPost_ret (v:=.tuple #[.agg #[.int .u64 k0,.int .u64 k1],.bool z]) (by simp[results,f309,go_sem,e0,e1]) rfl ⟨rfl,B3⟩
theorem vC{ps t hh:Nat}(k:Int)(k0 k1:Nat)(z:Nat)(hs:∀W,Below w.heap.size w W->Cb 314 #[PV ps,.int .i64 t,.int .u64 hh,.int .i64 k] W (.tuple #[Id k0 k1,.int .i64 z])):
 Cb 308 #[jx ps t,.int .u64 hh,.int .i64 k] w (.tuple #[Id k0 k1,.int .i64 z]):=by
 have B1:=(aa w.heap.size w).alloc Ih (.cells #[PV ps,.int .i64 t] 187);have B0:=B1.alloc B1.size (.cells #[.int .u64 0,.int .u64 0] 137);have z1:=heap_alloc_new (w.alloc (.cells #[PV ps,.int .i64 t] 187)) (.cells #[.int .u64 0,.int .u64 0] 137);simp only[World.size_alloc] at z1;have ha:=hs _ B0;simp only[Id,jx] at ha⊢;have HG:=kq3 ha B0 z1;clear ha B0 B1 hs z1;go_enter func308,ntmps308;go_wp2_with fail;refine HG.a.mono ?_;rintro e w2 ⟨rfl,ad⟩;have z2:=(ad.block (w.heap.size+1) (by simp)).trans HG.c;obtain⟨d0,d1⟩:=Fp z2;obtain⟨f0,f1⟩:=ef z2;have HW:=kq2 (HG.b.trans (ad.mono HG.b.size)) z2;clear ad z2;go_wp2_with fail;have q3:=ew HW.b (.int .u64 k0) (.int .u64 k1);have B3:=eT HW.a (bM w.heap.size) (.int .u64 k0) (.int .u64 k1);generalize ((w2.setCell ⟨(w.heap.size+1),0,none⟩ (.int .u64 k0)).setCell ⟨(w.heap.size+1),1,none⟩ (.int .u64 k1))=W3 at*;obtain⟨e0,e1⟩:=Fp q3;exact bodyPost_ret (v:=.tuple #[.agg #[.int .u64 k0,.int .u64 k1],.int .i64 z]) (by simp[results,f308,go_sem,e0,e1]) rfl ⟨rfl,B3⟩
theorem rA{ps t hh p q:Nat}(h:Ig w ps S Y)(was:Bool){R:Nat->Nat->Nat->St->Prop}(hs:∀W Z,Ig W ps S Z->Ct 316 #[PV ps,.int .i64 t,.int .u64 hh,Id p q] W fun e w'=>∃(x ik iv:Nat) (S':St),e=.returned (.tuple #[.int .u64 x,Id ik iv,.bool was,.int .i64 0])/\Ig w' ps S' Z/\Fo Z W w'/\R x ik iv S'):
 Ct 310 #[jx ps t,.int .u64 hh,Id p q] w fun e w'=>∃(x ik iv:Nat) (S':St),e=.returned (.tuple #[.int .u64 x,Id ik iv,.bool was,.int .i64 0])/\Ig w' ps S' Y/\Fo Y w w'/\R x ik iv S':=by
 simp only[Id,jx] at hs⊢;have B1:=(aa w.heap.size w).alloc Ih (.cells #[PV ps,.int .i64 t] 187);have B2:=B1.alloc B1.size (.cells #[.int .u64 p,.int .u64 q] 137);have B3:=B2.alloc B2.size (.cells #[.int .u64 0,.int .u64 0] 137);have y3:=heap_alloc_new ((w.alloc (.cells #[PV ps,.int .i64 t] 187)).alloc (.cells #[.int .u64 p,.int .u64 q] 137)) (.cells #[.int .u64 0,.int .u64 0] 137);have z2:((w.alloc (.cells #[PV ps,.int .i64 t] 187)).alloc (.cells #[.int .u64 p,.int .u64 q] 137)).heap.size=w.heap.size+2:=by simp
 have z3:(((w.alloc (.cells #[PV ps,.int .i64 t] 187)).alloc (.cells #[.int .u64 p,.int .u64 q] 137)).alloc (.cells #[.int .u64 0,.int .u64 0] 137)).heap.size=w.heap.size+3:=by simp
 rw[z2] at y3;have hY:=h.yl;have hw:=hs _ _ (h.wide B3);rw[z3] at hw;have HG:=kq4 hw (Fo.of_below B3 hY) y3 hY;clear hw h y3 B1 B2 B3 hY hs z2 z3;go_enter func310,ntmps310;go_wp2_with fail;refine HG.a.mono ?_;rintro e w6 ⟨x,ik,iv,S',rfl,h6,k6,r6⟩;have y6:=(k6.block (w.heap.size+2) (ae ⟨by omega,by omega⟩)).trans HG.c;obtain⟨e0,e1⟩:=Fp y6;obtain⟨f0,f1⟩:=ef y6;have H6:=kq4 h6 (HG.b.trans (k6.mono fun k hk=>ab hk)) y6 r6;clear h6 k6 y6 r6;go_wp2_with fail;have q7:((w6.setCell ⟨(w.heap.size+2),0,none⟩ (.int .u64 ik)).setCell ⟨(w.heap.size+2),1,none⟩ (.int .u64 iv)).heap[w.heap.size+2]?=_:=ew H6.c (.int .u64 ik) (.int .u64 iv);have o7:∀k,k≠w.heap.size+2->((w6.setCell ⟨(w.heap.size+2),0,none⟩ (.int .u64 ik)).setCell ⟨(w.heap.size+2),1,none⟩ (.int .u64 iv)).heap[k]?=w6.heap[k]?:=fun k hk=>fA hk _ _;have s7:Ig ((w6.setCell ⟨(w.heap.size+2),0,none⟩ (.int .u64 ik)).setCell ⟨(w.heap.size+2),1,none⟩ (.int .u64 iv)) ps S' Y:=(H6.a.write (b:=w.heap.size+2) (ae ⟨by omega,by omega⟩) H6.c ⟨by decide,by decide⟩ (by simp) (by simp) fun k _ hk=>o7 k hk).mono fun k hk=>ab hk;have k7:Fo Y w ((w6.setCell ⟨(w.heap.size+2),0,none⟩ (.int .u64 ik)).setCell ⟨(w.heap.size+2),1,none⟩ (.int .u64 iv)):=H6.b.trans ⟨rfl,rfl,rfl,by simp,fun k hk=>o7 k (by have:=HG.d k hk;omega)⟩;clear e0 e1 f0 f1 o7;generalize ((w6.setCell ⟨(w.heap.size+2),0,none⟩ (.int .u64 ik)).setCell ⟨(w.heap.size+2),1,none⟩ (.int .u64 iv))=W7 at*;obtain⟨e0,e1⟩:=Fp q7;exact bodyPost_ret (v:=.tuple #[.int .u64 x,.agg #[.int .u64 ik,.int .u64 iv],.bool was,.int .i64 0]) (by simp[results,f310,go_sem,e0,e1]) rfl ⟨x,ik,iv,S',rfl,s7,k7,H6.d⟩
theorem wb{D b c k:Nat}(h:FE w D (.slice (some ⟨b,0,none⟩) l.length c) l)(x:Nat)(hk:k<l.length):
 FE (w.setCell ⟨b,k,none⟩ (.int .u64 x)) D (.slice (some ⟨b,0,none⟩) l.length c) (l.set k x):=by
 rcases h.2 with⟨h0,_⟩ | ⟨g',al,ad,hv,hg,hb,h1,h2,h3,h4⟩
 ·cases h0
 ·injection hv with hv1 hv2 hv3
  injection hv1 with hv1
  injection hv1 with hv1
  subst hv1 hv3;refine⟨by simp[hV],ae ⟨b,c,ad.setIfInBounds k (.int .u64 x),by rw[bG],hg,heap_setCell hb,by rw[bG];exact h1,h2,by simpa using h3,?_⟩⟩;have hl:(hV l).length=l.length:=by simp[hV]
  have ai:ad.toList=hV l++ad.toList.drop (l.length*1):=by rw[<-h4,aX]
  rw[bG];simp only[c8];rw[ai,dg _ _ (by omega),List.take_left' (by simp[hV])]
  simp[hV,List.map_set]
theorem qBzab{P:Prop}(h:P:=by
 rw[h3] at this
 injection this with this
 injection this with _ this
 exact absurd this (by decide)):P:=h
theorem wL{D b c k:Nat}(h:Ig w ps S Y)(ho:FE w D (.slice (some ⟨b,0,none⟩) l.length c) l)(hD:fy<D)(hy:Y b)(x:Nat):Ig (w.setCell ⟨b,k,none⟩ (.int .u64 x)) ps S Y:=by
 obtain⟨h1,h2,cs,fr,h3⟩:=FE.block ho rfl;obtain⟨pa,pm,ph,pt,v,h⟩:=h;refine⟨pa,pm,ph,pt,v,h.of_keep (by rw[size_setCell];exact Nat.le_refl _) fun k hk hc=>FB ?_⟩;rintro rfl
 rcases hc with hc | rfl | rfl | rfl
 ·exact hc hy
 ·have:=h.hd;exact qBzab
 ·have:=h.heap.hp;exact qBzab
 ·exact absurd (bD hD h1) (Nat.lt_irrefl _)
theorem oJ{w w':World}{D:Nat}{v:Value}(h:FE w D v l)(hb:Below w.heap.size w w'):FE w' D v l:=FE.at h fun g hg=>hb.block g (FE.ge h g hg).2
theorem mY{D b c k v:Nat}(h:FE w D (.slice (some ⟨b,0,none⟩) l.length c) l)(hk:l[k]?=some v):w.cell? ⟨b,k,none⟩=some (.int .u64 v)/\w.frozen? ⟨b,k,none⟩=false:=by
 obtain⟨ad,ai⟩:=aA.1 hk;have h1:=World.ownsRow.cells h (g:=b) rfl k (.int .u64 v) (by simp[hV,ai,ad]);rw[Addr.add_lit] at h1;obtain⟨_,_,cs,fr,h3⟩:=FE.block h rfl
 rcases h.2 with⟨h0,_⟩ | ⟨g',al,an,hv,hg,hb,_⟩
 ·cases h0
 ·injection hv with hv1 _ _
  injection hv1 with hv1
  injection hv1 with hv1
  subst hv1;exact⟨by simpa using h1,AT hb⟩
theorem zR{o:Nat->Nat}(h:Ig w ps S Y){t d:Nat}{x:Bt (d+1)}(hx:Bt.Walk S o t x)(hd:d<40){e e0:It}{g:Nat}{n0:BN}{k0:Nat}(hnd:Bt.nodeB e.k x=some (g,n0,k0))(hrep:Bt.RepAt S o t x e e0 g n0 k0):
 Ct 321 #[FH ps t,.int .u64 (Bt.hd x:Nat),SV e.k,Id e.kh e.vh] w fun en w'=>en=.returned (Id e0.kh e0.vh)/\Ig w' ps (FC S g 0 (bnWords t (Bt.setN n0 k0 e))) Y/\Fo Y w w':=by
 have B0:=(((aa w.heap.size w).alloc Ih (.cells #[PV ps,.int .i64 t] 254)).alloc (by simp) (.cells #[.int .u64 e.kh,.int .u64 e.vh] 137)).alloc (by simp;omega) (.cells #[.int .u64 0,.int .u64 0] 137);have z1:(w.alloc (.cells #[PV ps,.int .i64 t] 254)).heap.size=w.heap.size+1:=by simp
 have z2:((w.alloc (.cells #[PV ps,.int .i64 t] 254)).alloc (.cells #[.int .u64 e.kh,.int .u64 e.vh] 137)).heap.size=w.heap.size+2:=by simp
 have q1:=heap_alloc_new w (.cells #[PV ps,.int .i64 t] 254);have q2:=heap_alloc_new (w.alloc (.cells #[PV ps,.int .i64 t] 254)) (.cells #[.int .u64 e.kh,.int .u64 e.vh] 137);have q3:=heap_alloc_new ((w.alloc (.cells #[PV ps,.int .i64 t] 254)).alloc (.cells #[.int .u64 e.kh,.int .u64 e.vh] 137)) (.cells #[.int .u64 0,.int .u64 0] 137);rw[z1] at q2;rw[z2] at q3;have c2:=(aa (w.heap.size+2) ((w.alloc (.cells #[PV ps,.int .i64 t] 254)).alloc (.cells #[.int .u64 e.kh,.int .u64 e.vh] 137))).alloc (by rw[z2];exact Nat.le_refl _) (.cells #[.int .u64 0,.int .u64 0] 137);have c1:=(aa (w.heap.size+1) (w.alloc (.cells #[PV ps,.int .i64 t] 254))).alloc (by rw[z1];exact Nat.le_refl _) (.cells #[.int .u64 e.kh,.int .u64 e.vh] 137);have q1:=(c2.block w.heap.size (by omega)).trans ((c1.block w.heap.size (by omega)).trans q1);have q2:=(c2.block (w.heap.size+1) (by omega)).trans q2;have hz:w.heap.size+3<=(((w.alloc (.cells #[PV ps,.int .i64 t] 254)).alloc (.cells #[.int .u64 e.kh,.int .u64 e.vh] 137)).alloc (.cells #[.int .u64 0,.int .u64 0] 137)).heap.size:=by simp
 have eg:=ns h;generalize hW:((w.alloc (.cells #[PV ps,.int .i64 t] 254)).alloc (.cells #[.int .u64 e.kh,.int .u64 e.vh] 137)).alloc (.cells #[.int .u64 0,.int .u64 0] 137)=W0 at*;clear c1 c2 z1 z2;have hi:=hx.fit.inv;have ar:=fun W (hw:Below W0.heap.size W0 W) {n:BN} {hh:Nat} (hb:jg S t hh n)=>kI (h.below (B0.trans (hw.mono B0.size))) hi hb;have ec:=fun W (hw:Below W0.heap.size W0 W) {es:List It} {vk vv vc:Value} {sz:Nat} hk hl hs he=>nR (h.below (B0.trans (hw.mono B0.size))) hi t (es:=es) (vk:=vk) (vv:=vv) (vc:=vc) (sz:=sz) hk hl hs he e.k;have ed:=fun W (hw:Below W0.heap.size W0 W)=>h.wide (B0.trans (hw.mono B0.size));have d6:=fL hx.fit hrep.len;have ca:=jw hx.fit.tab hrep.len;rw[jJ] at ca;have au:=fun(W:World) (Z:Nat->Prop) (hW:Ig W ps S Z) {vk vv vc:Value} (k1:FD W vk (Bt.setN n0 k0 e).keys) (k2:FD W vv (Bt.setN n0 k0 e).vals) (k3:FD W vc (Bt.setN n0 k0 e).kids)=>mz hW hi hrep.bnok k1 k2 k3 g d6.2.1 ca hrep.words;have HG:=kq5 (kq7 B0 q1 q2 q3 hz eg h.yl) @ar @ec ed @au;have HX:=kq3 hx hnd hrep;obtain⟨h0,b4⟩:=Ii (Bt.hd x);have HR:=If b4;rw[b4];obtain⟨ek,b2⟩:=Ii e.k;have a3:=If b2;rw[b2];unfold FH Id;clear ar ec h hx hi B0 q1 q2 q3 hz b4 b2 hnd hrep au ed d6 ca eg;go_enter func321,ntmps321;go_wp2_with fail;clear hW
 go_loopw [1,9,10,11,12,13,14] (fun s1 _ _ _ _ _ s14 wr=>∃(d' i hh:Nat),s1=.int .u64 hh/\s14=.int .i64 i/\i+d'<40/\Hid (Below W0.heap.size W0 wr/\∃y:Bt (d'+1),Bt.Walk S o t y/\Bt.hd y=hh/\Bt.nodeB e.k y=some (g,n0,k0))) (fun _ _ _ _ _ _ s14 _=>40-(intOf s14).toNat)
 case atStart=>exact⟨d,0,h0,rfl,rfl,by omega,aa _ _,x,HX.a,HR.out,HX.b⟩
 case round=>
  obtain⟨d',i,hh,rfl,rfl,g5,I⟩:=hrel;obtain⟨hB,y,hy,b9,eb⟩:=I.out;have hf:(i:Int)<40:=by omega
  have t3:=(hB.block w.heap.size (by have:=HG.a.e;omega)).trans HG.a.b;obtain⟨x0,x1⟩:=Fp t3;have ar:=HG.b wr hB hy.read;unfold FH eC at ar;rw[b9] at ar;have HY:=kq4 hB hy b9 eb;clear hB hy b9 eb t3;obtain⟨n,hn⟩:=Ii (Bt.bn y);rw[hn] at ar;have c5:=If ar;clear ar;go_wp2_with fail;refine c5.out.mono ?_;rintro en w1 ⟨vk,vv,vc,rfl,rows,hb⟩;obtain⟨Ak,ck,rfl⟩:=rows.k.slice2;obtain⟨Av,cv,rfl⟩:=rows.v.slice2;obtain⟨Ac,cc,rfl⟩:=rows.c.slice2;have ai:n.keys.length=(Bn.es y).length:=by rw[<-hn];unfold Bt.bn;rw[aq]
  have al:n.vals.length=(Bn.es y).length:=by rw[<-hn];unfold Bt.bn;rw[aq]
  have bc:n.kids.length=(Bn.ks y).length:=by rw[<-hn];unfold Bt.bn;rw[aq]
  have hy:=HY.b;obtain⟨c',dc,g4⟩:=hy.es;generalize cb:(Bn.es y).length=lk at*;generalize d9:(Bn.ks y).length=lc at*;rw[ai] at rows;rw[al] at rows;rw[bc] at rows;rw[ai,al,bc];generalize ee:n.size=sz at*;have A1:=(aa w1.heap.size w1).alloc Ih (.cells #[.slice Ak lk ck,.slice Av lk cv,.slice Ac lc cc,.int .u64 sz] 286);have p1:=heap_alloc_new w1 (.cells #[.slice Ak lk ck,.slice Av lk cv,.slice Ac lc cc,.int .u64 sz] 286);have B1:=HY.a.trans ((hb.trans (A1.mono hb.size)).mono HY.a.size);have bk:=rows.below A1;have cd:w1.heap.size<(w1.alloc (.cells #[.slice Ak lk ck,.slice Av lk cv,.slice Ac lc cc,.int .u64 sz] 286)).heap.size:=by simp
  have d4:=hb.size;have ea:(∀g,(Value.slice Ak lk ck).ownBlock=some g->g<w1.heap.size)/\(∀g,(Value.slice Av lk cv).ownBlock=some g->g<w1.heap.size)/\∀g,(Value.slice Ac lc cc).ownBlock=some g->g<w1.heap.size:=⟨fun g q=>(rows.k.ge g q).2,fun g q=>(rows.v.ge g q).2,fun g q=>(rows.c.ge g q).2⟩;obtain⟨W1,d3⟩:=Ii (w1.alloc (.cells #[.slice Ak lk ck,.slice Av lk cv,.slice Ac lc cc,.int .u64 sz] 286));rw[d3] at A1 p1 B1 bk cd;have t3:=(B1.block w.heap.size (by have:=HG.a.e;omega)).trans HG.a.b;obtain⟨x0,x1⟩:=Fp t3;obtain⟨y0,y1,y2,y3⟩:=Fy p1;have d7:n.keys=(Bn.es y).map (·.kh):=by rw[<-hn];rfl
  have cj:=bk.k.hrow;rw[d7] at cj;have bd:=HG.c W1 B1 (vv:=.slice Av lk cv) (vc:=.slice Ac lc cc) (sz:=sz) cj (by omega) c' dc;unfold FH eC at bd;rw[a3.out] at bd;have bm:=If bd;have ev:=HY.a.size;have H1:=kq8 B1 p1 bk t3 cd d4 ev ea;clear bd rows bk hb A1 p1 B1 t3 cj d7 c5 cd d4 ev c' dc ea;obtain⟨k,hk⟩:=Ii (Fr ek (Bn.es y));obtain⟨he,b8⟩:=Ii (fo ek (Bn.es y));rw[hk,b8] at bm;have g7:k<=lk:=by rw[<-hk,<-cb];exact kH _
  have HK:=kq9 hk b8 cb d9 hn ee ai al bc;clear hk b8 cb d9 hn ee ai al bc hy;go_wp2_with fail;refine bm.out.mono ?_;rintro en w2 ⟨rfl,bb⟩;have p2:=(bb.block w1.heap.size H1.e).trans H1.b;have t2:=(bb.block w.heap.size (by have:=H1.a.size;have:=HG.a.e;omega)).trans H1.d;clear x0 x1 y0 y1 y2 y3;obtain⟨x0,x1⟩:=Fp t2;obtain⟨y0,y1,y2,y3⟩:=Fy p2;have a1:=If bb;clear bb p2 t2 bm d3
  cases he with
  | true=>
   have a4:=Bt.nodeB_here (key:=e.k) (x:=y) (by rw[a3.out];exact HK.b);rw[HY.d,HY.c,a3.out,HK.a,HK.e] at a4
   injection a4 with a4
   injection a4 with hg1 a4
   injection a4 with hn1 hk1
   subst hg1 hn1 hk1;have hrep:=HX.c;have b':=hrep.key;have em:=hrep.val;obtain⟨gs,_⟩:=aA.1 b';rw[HK.g] at gs;have g8:(k0:Int)<lk:=by omega
   have R2:=H1.c.below a1.out;have ai:=HK.g;have al:=HK.h;obtain⟨gk,g2,cl,_⟩:=FE.some R2.k (by rw[ai];omega);obtain⟨gv,g3,cm,_⟩:=FE.some R2.v (by rw[al];omega)
   injection cl with cl hv1b hv1c
   injection cm with cm hv2b hv2c
   clear hv1b hv1c hv2b hv2c;subst cl cm;have Rk:=R2.k;have Rv:=R2.v;rw[<-ai] at Rk;rw[<-al] at Rv;obtain⟨dk,fk⟩:=mY Rk b';obtain⟨dv,fv⟩:=mY Rv em;have d8:gk≠gv:=fun q=>R2.kv gk rfl (by rw[q];rfl);have gn:=R2.k.ge gk rfl;have g1:=R2.v.ge gv rfl;have p2:=(a1.out.block w1.heap.size H1.e).trans H1.b;have t2:=(a1.out.block w.heap.size (by have:=H1.a.size;have:=HG.a.e;omega)).trans H1.d;have B2:=H1.a.trans (a1.out.mono H1.a.size);have a2:=(B2.block (w.heap.size+1) (by have:=HG.a.e;omega)).trans HG.a.c;have r2:=(B2.block (w.heap.size+2) (by have:=HG.a.e;omega)).trans HG.a.d;have hq:=B2.size;have ho:=H1.g;have ha:=H1.h.1 gk rfl;have hj:=H1.h.2.1 gv rfl;have g':=H1.h.2.2;have hr:=H1.f;have hm:=HG.a.e;have e':=kq11 R2 ai al p2 t2 a2 r2 B2 Rk Rv hrep;have ds:w1.heap.size<w2.heap.size:=(gl p2);obtain⟨I,ao,ap⟩:=qd w2 w2.heap.size;have e1:=fun x:Fq I=>(ao _ x.ok w1.heap.size ds (by omega)).trans p2;obtain⟨m0,m1,m2,m3⟩:=iB e1;have o1:∀x:Fq I,x.to.cell? ⟨gk,k0,none⟩=some (.int .u64 (e0.kh:Nat)):=fun x=>(j9 (ao _ x.ok gk gn.2 (by omega))).trans dk;have o2:∀x:Fq I,x.to.cell? ⟨gv,k0,none⟩=some (.int .u64 (e0.vh:Nat)):=fun x=>(j9 (ao _ x.ok gv g1.2 (by omega))).trans dv;have gf:I w2.drew:=ap _ fun k hk _=>rfl;have HI:=If ap;clear ao ap e1 R2 Rk Rv ai al p2 t2 a2 r2 B2 b' em hrep dk fk dv fv x0 x1 y0 y1 y2 y3;go_wp2_with fail;refine fh I (.take 0 (.take 1 (.take 2 (.take 3 (.take 4 (.take 5 (.take 6 (.take 7 (.take 8 (.take 9 (.take 10 (.go 11 (.go 12 .nil))))))))))))) (by kernel_rfl) (by kernel_rfl) gf ?_
   iterate 11
    refine' pT ?_ ?_;rotate_left
    ·intro x;go_simp
     try rfl
    try simp only[pu]
   refine pD fun K hK=>?_;go_simp
   try go_simp
   refine hK.out _ _ (HI.out _ fun k hk _=>((aa w2.heap.size w2).alloc Ih _).drew.block k hk) ?_;clear hK K
   try simp only[pu]
   refine pD fun K hK=>?_;go_simp;have B8:Below w2.heap.size w2 (w2.alloc (.cells #[.int .u64 (e0.kh:Nat),.int .u64 (e0.vh:Nat)] 137)).drew:=((aa w2.heap.size w2).alloc Ih _).drew;have q8:(w2.alloc (.cells #[.int .u64 (e0.kh:Nat),.int .u64 (e0.vh:Nat)] 137)).drew.heap[w2.heap.size]?=_:=heap_alloc_new w2 (.cells #[.int .u64 (e0.kh:Nat),.int .u64 (e0.vh:Nat)] 137);have e8:=If (gl q8);generalize (w2.alloc (.cells #[.int .u64 (e0.kh:Nat),.int .u64 (e0.vh:Nat)] 137)).drew=w8 at*
   try go_simp
   refine hK.out _ _ (HI.out _ fun k hk _=>B8.block k hk) ?_;clear hK K
   try simp only[pu]
   refine eP ?_;clear m0 m1 m2 m3 o1 o2;have ad:=e'.out;have c4:=ad.2.2.2.2.2.2.2.1.trans (B8.mono ad.2.2.2.2.2.2.2.1.size);have R8:=ad.1.below B8;have ba:=oJ ad.2.2.2.2.2.2.2.2.1 B8;have b0:=oJ ad.2.2.2.2.2.2.2.2.2.1 B8;have p8:=(B8.block w1.heap.size ds).trans ad.2.2.2.1;have t8:=(B8.block w.heap.size (by omega)).trans ad.2.2.2.2.1;have a8:=(B8.block (w.heap.size+1) (by omega)).trans ad.2.2.2.2.2.1;have r8:=(B8.block (w.heap.size+2) (by omega)).trans ad.2.2.2.2.2.2.1;have e6:=HG.d w8 c4;have ht:=HG.a.f;obtain⟨c7,dn⟩:=mY ba ad.2.2.2.2.2.2.2.2.2.2.key;obtain⟨fb,ga⟩:=mY b0 ad.2.2.2.2.2.2.2.2.2.2.val;have g0:=B8.size;have yk:Y gk\/(w.heap.size<=gk/\gk<w8.heap.size):=ae ⟨by omega,by omega⟩;have yv:Y gv\/(w.heap.size<=gv/\gv<w8.heap.size):=ae ⟨by omega,by omega⟩;have cx:=wL (k:=k0) (e6.below (aa _ _).drew) (oJ ba (aa _ _).drew) (by omega) yk e.kh;have bu:=wb (oJ ba (aa _ _).drew) e.kh (k:=k0) (aA.1 ad.2.2.2.2.2.2.2.2.2.2.key).1;have o9:∀b,b≠gk->(w8.drew.setCell ⟨gk,k0,none⟩ (.int .u64 (e.kh:Nat))).heap[b]?=w8.heap[b]?:=fun b hb=>FB hb;have a6:FE (w8.drew.setCell ⟨gk,k0,none⟩ (.int .u64 (e.kh:Nat))) wr.heap.size (.slice (some ⟨gv,0,none⟩) n0.vals.length cv) n0.vals:=FE.at b0 fun g hg=>by
    have:g=gv:=by injection hg with hg;exact hg.symm
    rw[this];exact o9 gv (Ne.symm d8)
   have bs:FE (w8.drew.setCell ⟨gk,k0,none⟩ (.int .u64 (e.kh:Nat))) wr.heap.size (.slice Ac lc cc) n0.kids:=FE.at R8.c fun g hg=>o9 g fun q=>R8.kc gk rfl (by rw[<-q];exact hg);have p9:=(o9 w1.heap.size (by omega)).trans p8;have t9:=(o9 w.heap.size (by omega)).trans t8;have a9:=(o9 (w.heap.size+1) (by omega)).trans a8;have r9:=(o9 (w.heap.size+2) (by omega)).trans r8;have q9:=(o9 w2.heap.size (by omega)).trans q8;have k9:Fo Y w8 (w8.drew.setCell ⟨gk,k0,none⟩ (.int .u64 (e.kh:Nat))):=⟨rfl,rfl,rfl,by simp,fun k hk=>o9 k (by have:=HG.a.g k hk;omega)⟩;have z9:(w8.drew.setCell ⟨gk,k0,none⟩ (.int .u64 (e.kh:Nat))).heap.size=w8.heap.size:=by simp
   obtain⟨fm,gb⟩:=mY a6 ad.2.2.2.2.2.2.2.2.2.2.val;obtain⟨w9,er⟩:=Ii (w8.drew.setCell ⟨gk,k0,none⟩ (.int .u64 (e.kh:Nat)));rw[er] at cx bu a6 bs p9 t9 a9 r9 q9 k9 z9 fm gb;clear o9;have cw:=wL (k:=k0) cx a6 (by omega) yv e.vh;have bv:=wb a6 e.vh (k:=k0) (aA.1 ad.2.2.2.2.2.2.2.2.2.2.val).1;have an:∀b,b≠gv->(w9.setCell ⟨gv,k0,none⟩ (.int .u64 (e.vh:Nat))).heap[b]?=w9.heap[b]?:=fun b hb=>FB hb;have bt:FE (w9.setCell ⟨gv,k0,none⟩ (.int .u64 (e.vh:Nat))) wr.heap.size (.slice (some ⟨gk,0,none⟩) n0.keys.length ck) (n0.keys.set k0 e.kh):=FE.at bu fun g hg=>by
    have:g=gk:=by injection hg with hg;exact hg.symm
    rw[this];exact an gk d8
   have bo:FE (w9.setCell ⟨gv,k0,none⟩ (.int .u64 (e.vh:Nat))) wr.heap.size (.slice Ac lc cc) n0.kids:=FE.at bs fun g hg=>an g fun q=>R8.vc gv rfl (by rw[<-q];exact hg);have a0:=(an w1.heap.size (by omega)).trans p9;have a5:=(an w.heap.size (by omega)).trans t9;have cu:=(an (w.heap.size+2) (by omega)).trans r9;have cs:=(an w2.heap.size (by omega)).trans q9;have b1:=(an (w.heap.size+1) (by omega)).trans a9;have cn:Fo Y w8 (w9.setCell ⟨gv,k0,none⟩ (.int .u64 (e.vh:Nat))):=k9.trans ⟨rfl,rfl,rfl,by simp,fun k hk=>an k (by have:=HG.a.g k hk;omega)⟩;have c3:(w9.setCell ⟨gv,k0,none⟩ (.int .u64 (e.vh:Nat))).heap.size=w8.heap.size:=by simp[z9]
   obtain⟨e7,eo⟩:=Ii (w9.setCell ⟨gv,k0,none⟩ (.int .u64 (e.vh:Nat)));rw[eo] at cw bv bt bo a0 a5 cu cs b1 cn c3;clear an;obtain⟨I,ao,ap⟩:=lB (fun w'=>w'.heap[w1.heap.size]?=some (.cells #[.slice (some ⟨gk,0,none⟩) lk ck,.slice (some ⟨gv,0,none⟩) lk cv,.slice Ac lc cc,.int .u64 sz] 286)) (fun w'=>w'.heap[w.heap.size+1]?=some (.cells #[.int .u64 (e.kh:Nat),.int .u64 (e.vh:Nat)] 137));have ex:=fun x:Fq I=>(ao _ x.ok).1;have ez:=fun x:Fq I=>(ao _ x.ok).2;obtain⟨m0,m1,m2,m3⟩:=iB ex;obtain⟨z0,z1⟩:=fw ez;have d1:I w8.drew:=ap _ p8 a8;have d2:I w9:=ap _ p9 a9;have d0:I e7:=ap _ a0 b1;have fn:w8.drew.cell? ⟨gk,k0,none⟩=some (.int .u64 (e0.kh:Nat)):=c7;have f':w8.drew.frozen? ⟨gk,k0,none⟩=false:=dn;have HT:=kq8 cw (kq3 bt bv bo) a0 a5 cu cs cn c3;clear ao ap ex ez e6 cx cw bu a6 bs bt bv bo p8 t8 a8 r8 q8 p9 t9 a9 r9 q9 k9 z9 a0 a5 cu cs b1 cn c3 R8 ba b0 c7 dn fb ga yk yv;go_wp2_with fail;refine fh I (.take 0 (.take 1 (.take 2 (.take 3 (.take 4 (.take 5 (.take 6 (.take 7 (.take 8 (.take 9 (.take 10 (.go 11 (.take 12 (.go 13 .nil)))))))))))))) (by kernel_rfl) (by kernel_rfl) d1 ?_
   iterate 11
    refine' pT ?_ ?_;rotate_left
    ·intro x;go_simp
     try rfl
    try simp only[pu]
   refine pD fun K hK=>?_;go_simp
   try go_simp
   refine hK.out _ _ d2 ?_;clear hK K
   try simp only[pu]
   refine' pT ?_ ?_;rotate_left
   ·intro x;go_simp
    try rfl
   try simp only[pu]
   refine pD fun K hK=>?_;go_simp
   try go_simp
   refine hK.out _ _ d0 ?_;clear hK K
   try simp only[pu]
   refine eP ?_;clear m0 m1 m2 m3 z0 z1 fn f' er eo d1 d2 d0;have cp:=FE.hrow HT.b.a;have cr:=FE.hrow HT.b.b;have e3:=FE.hrow HT.b.c;rw[ad.2.1] at cp;rw[ad.2.2.1] at cr;have au:=HG.e e7 _ HT.a (vk:=.slice (some ⟨gk,0,none⟩) lk ck) (vv:=.slice (some ⟨gv,0,none⟩) lk cv) (vc:=.slice Ac lc cc) cp cr e3;unfold eC at au;rw[show (Bt.setN n0 k0 e).size=sz from HK.f] at au;have c6:=If au;have a0:=HT.c;have a5:=HT.d;obtain⟨x0,x1⟩:=Fp a5;obtain⟨y0,y1,y2,y3⟩:=Fy a0;clear au cp cr e3 a0 a5 ad;go_wp2_with fail;refine c6.out.mono ?_;rintro en a7 ⟨rfl,e5,bf⟩;have bj:=(bf.block (w.heap.size+2) (ae ⟨by omega,by omega⟩)).trans HT.e;have e4:=(bf.block w2.heap.size (ae ⟨by omega,by have:=g0;have:w2.heap.size<w8.heap.size:=e8.out;omega⟩)).trans HT.f;have e2:=(Fo.of_below (HG.a.a.trans (c4.mono HG.a.a.size)) HG.a.g).trans (HT.g.trans (bf.mono fun k hk=>ab hk));clear x0 x1 y0 y1 y2 y3;obtain⟨x0,x1⟩:=Fp e4;obtain⟨y0,y1⟩:=Fp bj;obtain⟨f0,f1⟩:=ef bj;have a':=kq3 e5 e2 bj;clear e5 bf bj e4 e2 c6;go_wp2_with fail;have qF:=ew a'.c (.int .u64 (e0.kh:Nat)) (.int .u64 (e0.vh:Nat));have oF:∀k,k≠w.heap.size+2->((a7.setCell ⟨w.heap.size+2,0,none⟩ (.int .u64 (e0.kh:Nat))).setCell ⟨w.heap.size+2,1,none⟩ (.int .u64 (e0.vh:Nat))).heap[k]?=a7.heap[k]?:=fun k hk=>fA hk _ _;have sF:Ig ((a7.setCell ⟨w.heap.size+2,0,none⟩ (.int .u64 (e0.kh:Nat))).setCell ⟨w.heap.size+2,1,none⟩ (.int .u64 (e0.vh:Nat))) ps (FC S g 0 (bnWords t (Bt.setN n0 k0 e))) Y:=(a'.a.write (b:=w.heap.size+2) (ae ⟨by omega,by omega⟩) a'.c ⟨by decide,by decide⟩ (by simp) (by simp) fun k _ hk=>oF k hk).mono fun k hk=>ab hk;have kF:Fo Y w ((a7.setCell ⟨w.heap.size+2,0,none⟩ (.int .u64 (e0.kh:Nat))).setCell ⟨w.heap.size+2,1,none⟩ (.int .u64 (e0.vh:Nat))):=a'.b.trans ⟨rfl,rfl,rfl,by simp,fun k hk=>oF k (by have:=HG.a.g k hk;omega)⟩;clear x0 x1 y0 y1 f0 f1 oF;generalize ((a7.setCell ⟨w.heap.size+2,0,none⟩ (.int .u64 (e0.kh:Nat))).setCell ⟨w.heap.size+2,1,none⟩ (.int .u64 (e0.vh:Nat)))=WF at*;obtain⟨x0,x1⟩:=Fp qF;exact bodyPost_ret (v:=.agg #[.int .u64 (e0.kh:Nat),.int .u64 (e0.vh:Nat)]) (by simp[results,f321,go_sem,x0,x1]) rfl ⟨rfl,sF,kF⟩
  | false=>
   have hnd:=HY.d;obtain⟨c,hc⟩:∃c,(Bn.ks y)[Fr e.k (Bn.es y)]?=some c:=by
    cases hc:(Bn.ks y)[Fr e.k (Bn.es y)]? with
    | some c=>exact⟨c,rfl⟩
    | none=>
     rw[Bt.nodeB_none (by rw[a3.out];exact HK.b) hc] at hnd
     cases hnd
   rw[Bt.nodeB_down (by rw[a3.out];exact HK.b) hc] at hnd;rw[a3.out,HK.a] at hc
   cases d' with
   | zero=>rw[Bt.nil_of_zero (Bn.ks y)] at hc;cases hc
   | succ d'=>
    obtain⟨gc,oc,rfl,gg⟩:=FD.at (f:=Bt.hd) (l:=Bn.ks y) (by have:=(H1.c.below a1.out).c.hrow;rw[<-HK.e] at this;exact this) hc;obtain⟨gp,d5⟩:=aA.1 hc;rw[HK.d] at gp;have g6:(k:Int)<lc:=by omega
    have g9:((lc:Nat):Int)≠0:=by omega
    obtain⟨nc,ch⟩:=Ii (Bt.hd c);rw[ch] at gg;have HC:=kq4 hc hnd ch d5;clear hc hnd ch d5;go_wp2_with fail;go_roundw
    case rel=>exact⟨d',i+1,nc,rfl,by simp,by omega,H1.a.trans (a1.out.mono H1.a.size),c,HY.b.kid (cq HC.a),HC.c,HC.b⟩
    case measure=>simp[intOf];omega
end
section
open Go.RowKit Tryz Go.BigFrame Go.Maps Go.WideMaps Lf Tr
open Go.Shelf
theorem zJ {w:World}{ps:Nat}{S:St}{o:Nat->Nat}{Y:Nat->Prop}(h:Ig w ps S Y){t d:Nat}{x:Bt (d+1)}(hx:Bt.Tree S o t x){e e0:It}(hn:gu S e){g:Nat}{n0:BN}{k0:Nat}(hnb:Bt.nodeB e.k x=some (g,n0,k0))(hr:Bt.RepAt S o t x e e0 g n0 k0):
 Ct 316 #[PV ps,.int .i64 t,.int .u64 (Bt.hd x:Nat),Id e.kh e.vh] w fun en w'=>en=.returned (.tuple #[.int .u64 (Bt.hd x:Nat),Id e0.kh e0.vh,.bool true,.int .i64 0])/\Ig w' ps (FC S g 0 (bnWords t (Bt.setN n0 k0 e))) Y/\Fo Y w w':=by
 have B0:=((aa w.heap.size w).alloc Ih (.cells #[.int .u64 e.kh,.int .u64 e.vh] 137)).alloc (by simp) (.cells #[.int .u64 0,.int .u64 0] 137);have z1:(w.alloc (.cells #[.int .u64 e.kh,.int .u64 e.vh] 137)).heap.size=w.heap.size+1:=by simp
 have q1:=heap_alloc_new w (.cells #[.int .u64 e.kh,.int .u64 e.vh] 137);have q2:=heap_alloc_new (w.alloc (.cells #[.int .u64 e.kh,.int .u64 e.vh] 137)) (.cells #[.int .u64 0,.int .u64 0] 137);have q1:=(((aa (w.alloc (.cells #[.int .u64 e.kh,.int .u64 e.vh] 137)).heap.size (w.alloc (.cells #[.int .u64 e.kh,.int .u64 e.vh] 137))).alloc Ih (.cells #[.int .u64 0,.int .u64 0] 137)).block w.heap.size (by simp)).trans q1;rw[z1] at q2;have hz:((w.alloc (.cells #[.int .u64 e.kh,.int .u64 e.vh] 137)).alloc (.cells #[.int .u64 0,.int .u64 0] 137)).heap.size=w.heap.size+2:=by simp
 generalize hW:(w.alloc (.cells #[.int .u64 e.kh,.int .u64 e.vh] 137)).alloc (.cells #[.int .u64 0,.int .u64 0] 137)=W0 at*;have A1:=(aa W0.heap.size W0).alloc Ih (.cells #[PV ps,.int .i64 t] 254);have q3:=heap_alloc_new W0 (.cells #[PV ps,.int .i64 t] 254);have bb:(W0.alloc (.cells #[PV ps,.int .i64 t] 254)).heap.size=w.heap.size+3:=by simp[hz]
 have hw:=hx.walk;have hi:=hx.fit.inv;have has:=kZ (h.below B0) hi hx.t1 hx.t2;obtain⟨W1,a7⟩:=Ii (W0.alloc (.cells #[PV ps,.int .i64 t] 254));rw[a7] at A1 q3 bb;have B1:=B0.trans (A1.mono (by omega));rw[hz] at q3;have a0:=jt hx.fit hn.lk hn.k;have ar:=iz (h.below B1) hi e.kh (Bt.blobs_lt hx.fit hn).1 (by rw[a0];simp);rw[a0] at ar;have q1:=(A1.block _ (by omega)).trans q1;have q2:=(A1.block _ (by omega)).trans q2;obtain⟨x0,x1⟩:=Fp q1;have H0:=kq7 h hx hn hr hw hi bb;have an:=kq2 hnb h.yl;clear hnb;have H1:=kq4 B1 q1 q2 q3;have a3:=If has;have a4:=If ar;have bk:Bt.hd x≠0:=(Bt.At.hd_ok hx.fit hx.at').1;have bm:((Bt.hd x:Nat):Int)≠0:=by omega
 clear z1 q1 q2 q3 B0 B1 A1 hw hi has a0 ar h hx hn hr;unfold Id;go_enter func316,ntmps316;go_wp2_with fail;refine a3.out.mono ?_;rintro en w1 ⟨rfl,rfl⟩;clear hW;go_wp2_with fail;refine a4.out.mono ?_;rintro en w2 ⟨rfl,ad⟩;clear x0 x1;have p1:=(ad.block _ (by have:=H0.g;omega)).trans H1.b;have p2:=(ad.block _ (by have:=H0.g;omega)).trans H1.c;have p3:=(ad.block _ (by have:=H0.g;omega)).trans H1.d;have b2:=H1.a.trans (ad.mono H1.a.size);obtain⟨x0,x1⟩:=Fp p3;have au:=kI (H0.a.below b2) H0.f H0.e.read;have bo:w.heap.size+3<=w2.heap.size:=by have:=ad.size;have:=H0.g;omega
 unfold FH eC at au;have a6:=If au;have H2:=kq4 b2 p1 p2 p3;clear ad p1 p2 p3 b2 au a4 a3 H1 a7;go_wp2_with fail;refine a6.out.mono ?_;rintro en w3 ⟨vk,vv,vc,rfl,rows,ao⟩;obtain⟨Ak,mk,ck,rfl⟩:=rows.k.slice;obtain⟨Av,mv,cv,rfl⟩:=rows.v.slice;obtain⟨Ac,mc,cc,rfl⟩:=rows.c.slice;obtain⟨sz,ba⟩:=Ii (Bt.bn x).size;rw[ba];clear ba;have A3:=(aa w3.heap.size w3).alloc Ih (.cells #[.slice Ak mk ck,.slice Av mv cv,.slice Ac mc cc,.int .u64 sz] 286);obtain⟨W3,a8⟩:=Ii (w3.alloc (.cells #[.slice Ak mk ck,.slice Av mv cv,.slice Ac mc cc,.int .u64 sz] 286));rw[a8] at A3;have c3:=ao.trans (A3.mono ao.size);have p1:=(c3.block _ (by omega)).trans H2.b;have p2:=(c3.block _ (by omega)).trans H2.c;have p3:=(c3.block _ (by omega)).trans H2.d;have B3:=H2.a.trans (c3.mono H2.a.size);have bs:w.heap.size+3<=W3.heap.size:=by have:=c3.size;omega
 have bj:=H0.b.low;have a':=H0.d.find;have ai:=fun W (hw:Below W3.heap.size W3 W)=>pY (H0.a.below (B3.trans (hw.mono B3.size))) H0.e (by omega) e.k;rw[a'] at ai;have al:=nT (R:=some e0) (ai W3 (aa _ _)) fun W hW=>ai W (by rw[hW];exact(aa _ _).alloc Ih _);unfold i7 Id at al
 dsimp only[Option.isSome] at al
 have a5:=If al;have H3:=kq4 B3 p1 p2 p3;clear A3 c3 p1 p2 p3 B3 a' ai al x0 x1 ao H2 a6 rows;go_wp2_with fail;refine a5.out.mono ?_;rintro en w4 ⟨rfl,ap⟩;clear a8;have A4:=(aa w4.heap.size w4).alloc Ih (.cells #[.int .u64 e0.kh,.int .u64 e0.vh] 137);obtain⟨W4,a9⟩:=Ii (w4.alloc (.cells #[.int .u64 e0.kh,.int .u64 e0.vh] 137));rw[a9] at A4;have c4:=ap.trans (A4.mono ap.size);have p1:=(c4.block _ (by omega)).trans H3.b;have p2:=(c4.block _ (by omega)).trans H3.c;have p3:=(c4.block _ (by omega)).trans H3.d;have B4:=H3.a.trans (c4.mono H3.a.size);have bt:w.heap.size+3<=W4.heap.size:=by have:=c4.size;omega
 have bc:=H0.a.wide B4;have a1:=zR bc H0.e (by omega) an.a H0.d;unfold FH Id at a1;have bf:=If a1;obtain⟨x0,x1⟩:=Fp p3;obtain⟨y0,y1⟩:=Fp p1;have H4:=kq2 B4 p2;clear A4 c4 p1 p2 p3 B4 bc ap H3 a5 a1;go_wp2_with fail;refine bf.out.mono ?_;rintro en w5 ⟨rfl,bd,a2⟩;clear a9 x0 x1 y0 y1;have q5:=(a2.block (w.heap.size+1) (ae ⟨by omega,by omega⟩)).trans H4.b;obtain⟨x0,x1⟩:=Fp q5;obtain⟨f0,f1⟩:=ef q5;have H5:=kq3 bd a2 q5;clear bd a2 q5;go_wp2_with fail;have qF:=ew H5.c (.int .u64 e0.kh) (.int .u64 e0.vh);have oF:∀k,k≠w.heap.size+1->((w5.setCell ⟨w.heap.size+1,0,none⟩ (.int .u64 e0.kh)).setCell ⟨w.heap.size+1,1,none⟩ (.int .u64 e0.vh)).heap[k]?=w5.heap[k]?:=fun k hk=>fA hk _ _;have sF:Ig ((w5.setCell ⟨w.heap.size+1,0,none⟩ (.int .u64 e0.kh)).setCell ⟨w.heap.size+1,1,none⟩ (.int .u64 e0.vh)) ps (FC S g 0 (bnWords t (Bt.setN n0 k0 e))) Y:=(H5.a.write (b:=w.heap.size+1) (ae ⟨by omega,by omega⟩) H5.c ⟨by decide,by decide⟩ (by simp) (by simp) fun k _ hk=>oF k hk).mono fun k hk=>ab hk;have kF:Fo Y w ((w5.setCell ⟨w.heap.size+1,0,none⟩ (.int .u64 e0.kh)).setCell ⟨w.heap.size+1,1,none⟩ (.int .u64 e0.vh)):=((Fo.of_below H4.a an.b).trans (H5.b.mono fun k hk=>ab hk)).trans ⟨rfl,rfl,rfl,by simp,fun k hk=>oF k (by have:=an.b k hk;omega)⟩;clear x0 x1 f0 f1 oF;generalize ((w5.setCell ⟨w.heap.size+1,0,none⟩ (.int .u64 e0.kh)).setCell ⟨w.heap.size+1,1,none⟩ (.int .u64 e0.vh))=WF at*;obtain⟨u0,u1⟩:=Fp qF;exact bodyPost_ret (v:=.tuple #[.int .u64 (Bt.hd x:Nat),.agg #[.int .u64 e0.kh,.int .u64 e0.vh],.bool true,.int .i64 0]) (by simp[results,f316,go_sem,u0,u1]) rfl ⟨rfl,sF,kF⟩
end
section
open Go.RowKit Tryz Go.BigFrame Go.Maps Go.WideMaps Lf Tr
theorem uS:∀d,j4 d
 | 0=>uU 0 fun _ h=>absurd h (by omega)
 | d+1=>uU (d+1) fun d0 h=>by
  have h:d=d0:=by omega
  subst h;exact @uS d
