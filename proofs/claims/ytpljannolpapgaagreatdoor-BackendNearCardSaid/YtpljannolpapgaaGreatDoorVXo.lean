/- Trees filled, and what is asked of them near a key: plain. -/
import Derived.Test.YtpljannolpapgaaGreatDoorVRg
set_option maxRecDepth 100000
set_option maxHeartbeats 6400000
namespace Go.Proofs.YtpljannolpapgaaGreatDoor
open Go.RowKit Tryz Go.BigFrame Go.Maps Go.WideMaps Lf Tr
variable{W:World}{Y:Nat->Prop}{v:Value}{w:World}
theorem Ha:∀(l L:List (List UInt8×List UInt8)),pK l->pK L->pK (l.foldl (fun L p=>gV L p.1 p.2) L)
 | [],_,_,h=>h
 | p::l,L,h,h0=>by
  rw[dD];refine Ha l _ (fun q hq=>h q (ah _ hq)) fun q hq=>?_;unfold gV at hq;rcases aj.1 hq with hq | hq
  ·exact h0 q (cY.1 hq).1
  ·rcases ag.1 hq with rfl | hq
   ·exact h _ aq
   ·exact h0 q (cY.1 hq).1
structure pd (px:Nat) (L:List (List UInt8×List UInt8)) (key:List UInt8) (W:World):Prop where
 rank:∀V,Below W.heap.size W V->Cb 16 #[PV px,SV key] V (Xi (eK L key:Nat))
 get:∀V,Below W.heap.size W V->Cb 17 #[PV px,SV key] V (.tuple #[SV ((Bt.getL L key).getD []),.bool (Bt.getL L key).isSome])
 at':∀V,Below W.heap.size W V->∀k:Int,k<2^62->∀q,fj L k=q->Cb 18 #[PV px,Xi k] V (.tuple #[eu (q.getD ([],[])),Xi ((if q.isSome=true then 0 else 2:Nat):Nat)])
 len:∀V,Below W.heap.size W V->Cb 19 #[PV px] V (Xi (L.length:Nat))
theorem pL.asks{K:jo}(rd:pL K){ps px root:Nat}{S:St}{o:Nat->Nat}{L:List (List UInt8×List UInt8)}{R:List Nat}(h:Ig W ps S Y)(hH:K.Hold S o root L R)(hc:L.length<98)(hT:K.On W px ps root)(key:List UInt8):pd px L key W where
 rank _ hV:=rd.rank (h.below hV) hH hc (rd.onBelow hT hV) key
 get _ hV:=rd.get (h.below hV) hH hc (rd.onBelow hT hV) key
 len _ hV:=rd.len (h.below hV) hH hc (rd.onBelow hT hV)
 at' V hV k hk q hq:=by
  cases q with
  | none=>exact rd.atRef (h.below hV) hH hc (rd.onBelow hT hV) k hk (yJ hq)
  | some p=>
   obtain⟨n,rfl,hp⟩:=tE hq;exact rd.at' (h.below hV) hH hc (rd.onBelow hT hV) n p hp
theorem rs(L:List (List UInt8×List UInt8))(n:Nat):fj L (n:Nat)=L[n]?:=by
 unfold fj;rw[if_neg (by omega)];rfl
theorem JV{L:List (List UInt8×List UInt8)}(hs:ms L)(key:List UInt8):(∃a b,0<eK L key/\fj L ((eK L key:Int)-1)=some (a,b)/\Fu a key<0)\/eK L key=0/\fj L ((eK L key:Int)-1)=none:=by
 have ad:=nZ L key
 cases hm:eK L key with
 | zero=>exact ae ⟨rfl,by unfold fj;rw[if_pos (by omega)]⟩
 | succ m=>
  rw[hm] at ad;obtain⟨p,hp⟩:∃p,L[m]?=some p:=⟨_,af (by omega)⟩;refine aa ⟨p.1,p.2,Nat.succ_pos m,?_,(qm hs).1 m p hp (by omega)⟩;rw[show ((m+1:Nat):Int)-1=(m:Nat) by omega,rs,hp]
theorem JW{L:List (List UInt8×List UInt8)}(hs:ms L)(key:List UInt8):(∃v,Bt.getL L key=some v/\fj L (eK L key:Nat)=some (key,v)/\eK L key<L.length)\/Bt.getL L key=none/\((∃a b,fj L (eK L key:Nat)=some (a,b)/\Fu key a<0/\eK L key<L.length)\/fj L (eK L key:Nat)=none/\eK L key=L.length):=by
 rw[rs]
 cases hg:Bt.getL L key with
 | some v=>
  have:=Dh hs hg;exact aa ⟨v,rfl,this,(az.1 this).1⟩
 | none=>
  refine ae ⟨rfl,?_⟩
  cases hp:L[eK L key]? with
  | some p=>exact aa ⟨p.1,p.2,rfl,(Dg hs hg).1 p hp,(az.1 hp).1⟩
  | none=>
   have:=List.getElem?_eq_none_iff.1 hp;have:=nZ L key;exact ae ⟨rfl,by omega⟩
theorem JZ{B:Nat}{L:List Pr}(h:w.ownsRow B 40 2 v L.length (FJ L))(hY:∀g,B<=g->g<w.heap.size->Y g):∃A c,v=.slice A L.length c/\mm w Y A L.length c L:=by
 rcases h.2 with⟨e,e0⟩ | ⟨g,c,ai,e,hb,al,ad,_⟩
 ·exact⟨none,0,by rw[e,e0],rfl,by omega,fun hp=>by omega⟩
 ·refine⟨some ⟨g,0,none⟩,c,e,rfl,ad,fun _=>⟨g,0,rfl,fun W hW i hi=>?_⟩⟩;have hg:=World.ownsRow.lt h g (by rw[e];rfl);obtain⟨A',c',e',hc⟩:=PRow.of_owns h;obtain⟨g',o',eA,c0,c1⟩:=hc i hi;have e2:=e.symm.trans e'
  injection e2 with e2
  rw[<-e2] at eA
  injection eA with eA
  injection eA with e3 e4
  subst e3 e4;exact⟨(hW.cell (p:=⟨g,0+i*2,none⟩) (hY g hg.1 hg.2)).trans c0,(hW.cell (p:=⟨g,0+i*2+1,none⟩) (hY g hg.1 hg.2)).trans c1⟩
theorem qW(a b:List UInt8)(W:World):(binOp .geq 9 (SV a) (SV b)).run prog W=.ok (.bool (decide (0<=Fu a b))) W:=by
 have h:=qe a b;have e:decide (0<=Fu a b)= !decide (Fu a b<0):=by by_cases q:Fu a b<0<;>simp[q]<;>omega
 have hb:∀x y:ByteArray,binOp .geq 9 (.string x) (.string y)=pure (.bool !(Op.bytesLess x.toList y.toList)):=fun x y=>by simp[binOp,Op.stringOp]
 rw[e,<-h];unfold SV;rw[hb,pe,pe]
 rfl
structure JK (px:Nat) (key:List UInt8) (W:World) (m N:Nat) (pk pv qk qv vv:List UInt8) (eg eh:Nat) (is:Bool):Prop where
 rank:∀V,Below W.heap.size W V->Cb 16 #[PV px,SV key] V (Xi (m:Nat))
 get:∀V,Below W.heap.size W V->Cb 17 #[PV px,SV key] V (.tuple #[SV vv,.bool is])
 at0:∀V,Below W.heap.size W V->Cb 18 #[PV px,Xi m] V (.tuple #[.agg #[SV pk,SV pv],Xi eg])
 at1:∀V,Below W.heap.size W V->Cb 18 #[PV px,Xi ((m:Int)-1)] V (.tuple #[.agg #[SV qk,SV qv],Xi eh])
 len:∀V,Below W.heap.size W V->Cb 19 #[PV px] V (Xi (N:Nat))
theorem pd.near{px:Nat}{L:List (List UInt8×List UInt8)}{key:List UInt8}(h:pd px L key W)(hs:ms L)(hl:L.length<98):∃m N pk pv qk qv vv eg eh is,JK px key W m N pk pv qk qv vv eg eh is/\m<=98/\((0<m/\eh=0/\Fu qk key<0)\/(m=0/\eh=2))/\((is=true/\pk=key/\pv=vv/\eg=0/\m<N)\/(is=false/\eg=0/\Fu key pk<0/\m<N)\/(is=false/\eg=2/\m=N)):=by
 have ad:=nZ L key;obtain⟨q,hq⟩:=Ii (fj L ((eK L key:Int)-1));obtain⟨p,hp⟩:=Ii (fj L (eK L key:Nat));refine⟨eK L key,L.length,(p.getD ([],[])).1,(p.getD ([],[])).2,(q.getD ([],[])).1,(q.getD ([],[])).2,(Bt.getL L key).getD [],if p.isSome=true then 0 else 2,if q.isSome=true then 0 else 2,(Bt.getL L key).isSome,⟨h.rank,h.get,fun V hV=>h.at' V hV _ (by omega) p hp,fun V hV=>h.at' V hV _ (by omega) q hq,h.len⟩,by omega,?_,?_⟩
 ·rcases JV hs key with⟨a,b,h0,h1,h2⟩ | ⟨h0,h1⟩
  ·rw[h1] at hq;subst hq;exact aa ⟨h0,rfl,h2⟩
  ·rw[h1] at hq;subst hq;exact ae ⟨h0,rfl⟩
 ·rcases JW hs key with⟨v,h0,h1,h2⟩ | ⟨h0,⟨a,b,h1,h2,h3⟩ | ⟨h1,h2⟩⟩
  ·rw[h1] at hp;subst hp;rw[h0];exact aa ⟨rfl,rfl,rfl,rfl,h2⟩
  ·rw[h1] at hp;subst hp;rw[h0];exact ae (aa ⟨rfl,rfl,h2,h3⟩)
  ·rw[h1] at hp;subst hp;rw[h0];exact ae (ae ⟨rfl,rfl,h2⟩)
theorem qXoab{P:Prop}(h:P:=by
 go_enter func3,ntmps3;go_wp2_with fail;refine Jc HF.a ?_;go_wp2_with fail;refine Jc HF.b ?_;exact qXoaa):P:=h
theorem qXoaa{P:Prop}(h:P:=by
 go_wp2_with fail;refine wx (HG.a _ (ab _ _)) fun w9 hb=>?_;have HB:=If hb;clear hb;go_wp2_with fail;go_ret;exact⟨rfl,HB.out⟩):P:=h
theorem backendNear_walk(kind t:Int){l:List (List UInt8×List UInt8)}(key:List UInt8)(ht:gA w)(hv:PRow w v l):
 Cb 3 #[Xi kind,Xi t,v,SV key] w (.bool true):=by
 have a4:=fun W (hW:Below w.heap.size w W)=>JL (ht.of_block (hW.block _ ht.lt));have ai:=Gd kind t w;have ad:=fun hl=>Cm (w:=w) hv hl;obtain⟨A,c,rfl,hc⟩:=hv;have hv:PRow w (.slice A l.length c) l:=⟨A,c,rfl,hc⟩;obtain⟨n,hn⟩:=Ii l.length;rw[hn] at hv ad⊢;have HG:=kq4 a4 ht hv hn;clear a4 ht hv hc
 cases hf:FO kind t with
 | false=>
  rw[hf] at ai;have HF:=If ai;clear ai ad hf hn;go_enter func3,ntmps3;go_wp2_with fail;refine Jc HF.out ?_;exact qXoaa
 | true=>
  rw[hf] at ai
  by_cases k5:40<n
  ·have bo:(40<(n:Int))=True:=eq_true (by omega);have HF:=If ai;clear ai ad hf hn k5;go_enter func3,ntmps3;go_wp2_with fail;refine Jc HF.out ?_;exact qXoaa
  have bo:(40<(n:Int))=False:=eq_false (by omega);have ad:=ad (by omega)
  cases hlb:jb l with
  | true=>
   rw[hlb] at ad;have HF:=kq2 ai ad;clear ai ad hf hn k5 hlb;exact qXoab
  | false=>
  rw[hlb] at ad
  by_cases k6:2000<key.length
  ·have bs:(2000<(key.length:Int))=True:=eq_true (by omega);have HF:=kq2 ai ad;clear ai ad hf hn k5 hlb k6;exact qXoab
  have bs:(2000<(key.length:Int))=False:=eq_false (by omega);have hk:kind=1\/kind=2\/kind=3/\2<=t/\t<=16:=by unfold FO at hf;exact of_decide_eq_true hf
  obtain⟨K,hK,a1⟩:=JT uS kind t hk;have ba:=xp HG.b 262144 4000 4294967295 (by omega) (by omega) (by omega);have a6:=ux 262144 4000 4294967295 (by omega) (by omega) (by omega);have bc:fc ⟨⟨262144,[]⟩,⟨4000,4294967295,[]⟩⟩ (20*40) (9*40):=⟨by decide,by decide⟩;have a0:pK l:=Cl hlb;have bm:=wt l;have HF:=kq10 ai ad ba a6 hK @a1 bc a0 (Ha l [] a0 (fun _ h=>nomatch h):pK (im l)) (GF l);clear ai ad hf hlb hK a1 ba a6 bc a0 hk k6;go_enter func3,ntmps3;go_wp2_with fail;refine Jc HF.a ?_;go_wp2_with fail;refine Jc HF.b ?_;go_wp2_with fail;refine HF.c.mono ?_;rintro e w1 ⟨ps,rfl,au,a5⟩;have a8:=HF.e.new au HF.d;have H1:=kq3 au a5 a8;clear au a5 a8;go_wp2_with fail;refine H1.c.mono ?_;rintro e w2 ⟨px,rfl,hT,ar,a'⟩;have a9:=HF.e.ok.onLt hT;have bb:=Hv (HG.c.below (H1.b.trans (ar.mono H1.b.size))) (by omega) HF.h;have H2:=kq5 hT ar a' a9 bb;clear hT ar a' a9 bb;go_wp2_with fail;refine H2.e.mono ?_;rintro e w3 ⟨v',rfl,hrow,al⟩;have an:=H2.b.trans (al.mono H2.b.size);obtain⟨A',c',rfl,hR⟩:=JZ (Y:=fun k=>k<w.heap.size\/(w1.heap.size<=k/\k<w3.heap.size)) hrow fun g h1 h2=>ae ⟨aK H2.b.size h1,h2⟩;have hY:(fun k=>k<w.heap.size\/(w1.heap.size<=k/\k<w3.heap.size)) px:=ae ⟨H2.c,aX H2.d al.size⟩;have a2:=HF.e.ok.onBelow H2.a al;have a7:=HF.f (H1.a.wide an) HF.d a2 hY hR HF.j HF.i (by omega) (HF.g.mono (by omega) (by omega));have H3:=kq3 a7 an hY;clear a7 an hY a2 hR hrow al;go_wp2_with fail;refine H3.a.mono ?_;rintro e w4 ⟨root,S',rfl,h4,k4,a3,o',R,hH⟩;have bd:=H1.b.size;have B4:Below w.heap.size w w4:=(H1.b.trans (H3.b.mono bd)).trans (k4.mono (Z:=(·<w.heap.size)) fun k hk=>⟨aa hk,by have:=H2.c;have:k<w.heap.size:=hk;omega⟩).below;obtain⟨m,N,pk,pv,qk,qv,vv,eg,eh,is,hA,hm,hB,hC⟩:=(HF.e.ok.topL.asks h4 hH (by omega) a3 key).near HF.j (by omega);have bt:IntKind.i64.wrap ((m:Int)-1)=(m:Int)-1:=aB _ (by omega);have H4:=kq3 hA B4 HG.a;have HC:=kq2 hB hC;clear hA B4 hB hC h4 k4 a3 hH bd HF H1 H2 H3 HG bm hn;go_wp2_with fail;refine wx (H4.a.rank _ (ab _ _)) fun w5 hb5=>?_;have H5:=If hb5;clear hb5;go_wp2_with fail;refine wx (H4.a.get _ H5.out) fun w6 hb6=>?_;have H6:=If (H5.out.trans (hb6.mono H5.out.size));clear hb6;go_wp2_with fail;refine wx (H4.a.at0 _ H6.out) fun w7 hb7=>?_;have A7:=(ab w7.heap.size w7).alloc Ih (Xj pk pv);have q7:=heap_alloc_new w7 (Xj pk pv);have B7:=H6.out.trans (hb7.mono H6.out.size);have H7:=kq2 (B7.trans (A7.mono B7.size)) q7;clear hb7 A7 q7 B7;go_wp2_with fail;refine wx (H4.a.at1 _ H7.a) fun w8 hb8=>?_;have A8:=(ab w8.heap.size w8).alloc Ih (Xj qk qv);have q8:=heap_alloc_new w8 (Xj qk qv);have p8:=(A8.block _ (aX (gl H7.b) hb8.size)).trans ((hb8.block _ (gl H7.b)).trans H7.b);have B8:=H7.a.trans (hb8.mono H7.a.size);have H8:=kq3 (B8.trans (A8.mono B8.size)) q8 p8;obtain⟨W8,bk⟩:=Ii (w8.alloc (Xj qk qv));rw[bk] at H8 q8 p8;obtain⟨c0,c1⟩:=Fp q8;obtain⟨d0,d1⟩:=Fp p8;clear hb8 A8 q8 p8 B8;obtain⟨hB,hC⟩:=HC.out;have f1:Fu qk key<0->∀W,(binOp .geq 9 (SV qk) (SV key)).run prog W=.ok (.bool false) W:=fun h W=>by rw[qW,decide_eq_false (by omega)]
  have f2:Fu key pk<0->(∀W,(binOp .geq 9 (SV pk) (SV key)).run prog W=.ok (.bool true) W)/\¬pk=key:=fun h=>by
   have:=ie pk key;refine⟨fun W=>by rw[qW,decide_eq_true (by omega)],fun hq=>?_⟩;rw[hq,fX] at h;omega
  have f3:∀W,(binOp .geq 9 (SV key) (SV key)).run prog W=.ok (.bool true) W:=fun W=>by rw[qW,decide_eq_true (by rw[fX];omega)]
  have f4:∀(a:List UInt8) W,(binOp .eql 9 (SV a) (SV a)).run prog W=.ok (.bool true) W:=fun a W=>by rw[GK,beq_self_eq_true]
  have bj:(is=true/\pk=key/\pv=vv/\eg=0/\(m:Int)<(N:Int)/\0<N)\/(is=false/\eg=0/\((∀W,(binOp .geq 9 (SV pk) (SV key)).run prog W=.ok (.bool true) W)/\¬pk=key)/\(m:Int)<(N:Int)/\0<N)\/(is=false/\eg=2/\m=N):=hC.imp (fun⟨q1,q2,q3,q4,q5⟩=>⟨q1,q2,q3,q4,by omega,by omega⟩) (Or.imp_left fun⟨q1,q2,q3,q4⟩=>⟨q1,q2,f2 q3,by omega,by omega⟩);have bf:((0:Int)<(m:Int)/\eh=0/\∀W,(binOp .geq 9 (SV qk) (SV key)).run prog W=.ok (.bool false) W)\/¬((0:Int)<(m:Int))/\eh=2:=hB.imp (fun⟨q1,q2,q3⟩=>⟨by omega,q2,f1 q3⟩) fun⟨q1,q2⟩=>⟨by omega,q2⟩;clear f1 f2 hB hC hm HC
  rcases bf with⟨b1,rfl,b3⟩ | ⟨b1,rfl⟩<;>rcases bj with⟨rfl,rfl,rfl,rfl,c6,c8⟩ | ⟨rfl,rfl,⟨e2,e3⟩,c6,c8⟩ | ⟨rfl,rfl,rfl⟩
  all_goals
   try have e4:(pk==key)=false:=beq_false_of_ne e3
   go_wp2_with fail;refine wx (H4.a.len _ H8.a) fun w9 hb9=>?_;have p9:=(hb9.block _ (gl H8.c)).trans H8.c;obtain⟨g0,g1⟩:=Fp p9;have H9:=If (H8.a.trans (hb9.mono H8.a.size));clear hb9 p9;go_wp2_with fail;refine wx (H4.c _ (H4.b.trans (H9.out.mono H4.b.size))) fun w10 hb10=>?_;have B9:=H4.b.trans (H9.out.mono H4.b.size);have HX:=If (B9.trans (hb10.mono B9.size));clear hb10 B9;go_wp2_with fail;go_ret;exact⟨rfl,HX.out⟩