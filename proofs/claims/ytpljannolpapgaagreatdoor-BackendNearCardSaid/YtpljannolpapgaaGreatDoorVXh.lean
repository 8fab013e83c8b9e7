/- B-trees: Nodes: the walk. -/
import Derived.Test.YtpljannolpapgaaGreatDoorVDe
import Derived.Deep.CutRange
import Derived.Recover
import Derived.Test.YtpljannolpapgaaGreatDoorVBv
set_option maxRecDepth 100000
set_option maxHeartbeats 6400000
namespace Go.Proofs.YtpljannolpapgaaGreatDoor
open Go.RowKit Tryz Go.BigFrame Go.Maps Go.WideMaps Lf Tr
variable{R:List Nat}{S:St}{Y:Nat->Prop}{o:Nat->Nat}{w:World}
theorem FE.base{B B':Nat}{v:Value}{l:List Nat}(h:FE w B v l)(hB:B'<=B):FE w B' v l:=
 ⟨h.1,h.2.imp id fun⟨g,cap,cur,a,b,c⟩=>⟨g,cap,cur,a,aK hB b,c⟩⟩
def Bt.NodesOf(S:St)(o:Nat->Nat)(t root:Nat)(L:List (List UInt8×List UInt8))(R N:List Nat):Prop:=
 (Empty S o t/\root=0/\L=[]/\R=[]/\N=[])\/∃(d:Nat) (x:Bt (d+1)),Tree S o t x/\root=hd x/\L=pairs (its x)/\R=recs x/\N=Bt.nodes x
theorem Bt.Tree.many{t d:Nat}{x:Bt (d+1)}(h:Tree S o t x):(Bt.nodes x).length<=S.words / (6*t):=by
 have t1:=h.t1;have:=JY h.fit (n:=6*t) (by omega) h.nodes fun y hy=>by
  obtain⟨n,hn⟩:=h.at'.rec y hy;exact⟨_,hn,by rw[jJ];omega⟩
 unfold St.words;rw[Nat.le_div_iff_mul_le (by omega),Nat.mul_comm _ 64];exact this
theorem JO{ps:Nat}(h:Ig w ps S Y)(hf:Fw S o){t:Nat}(t1:2<=t)(t2:t<=16)(z:Nat):
 Cb 80 #[FH ps t,.slice none 0 0,Xu 0,Xi z,Xi 0] w (.slice none 0 0):=by
 have B0:=(ab w.heap.size w).alloc Ih (Xc ps t);have q0:=heap_alloc_new w (Xc ps t);have hg:=nQ (h.below B0) hf.inv t1 t2 0 (by omega) (oy (rZ hf));unfold FH eC at hg;obtain⟨c0,c1⟩:=Fp q0;have HG:=kq2 hg B0;clear hg B0 h hf q0;unfold FH;go_enter func80,ntmps80;go_wp2_with fail;refine wx HG.a fun w1 hb1=>?_;have B1:=HG.b.trans (hb1.mono HG.b.size);have H1:=If (B1.alloc B1.size (.cells #[.slice none 0 0,.slice none 0 0,.slice none 0 0,Xu 0] 215));clear hb1 B1 c0 c1;go_wp2_with fail;go_ret;exact⟨rfl,H1.out⟩
theorem wa{ps t root:Nat}{L:List (List UInt8×List UInt8)}(h:Ig w ps S Y)(hH:Bt.Holds S o t root L R):
 Ct 40 #[PV ps,Xi t,Xu root] w fun e w'=>∃v N,e=.returned v/\FE w' w.heap.size v N/\Below w.heap.size w w'/\N.length<=50000/\Bt.NodesOf S o t root L R N:=by
 obtain⟨t1,t2⟩:=hH.deg;have hf:=hH.fit;have ar:=kZ h hf.inv t1 t2;have B0:=(ab w.heap.size w).alloc Ih (Xc ps t);have q0:=heap_alloc_new w (Xc ps t);have ai:=v8 (h.below B0.drew) t1 t2;have a2:=nB h;have au:=ns h;have al:∀W,Below w.heap.size w W->Ct 80 #[FH ps t,.slice none 0 0,Xu root,Xi (S.words / (6*t)+1:Nat),Xi 0] W fun e w'=>∃v N,e=.returned v/\FE w' W.heap.size v N/\Below W.heap.size W w'/\N.length<=50000/\Bt.NodesOf S o t root L R N:=fun W hW=>by
  have a3:S.words / (6*t)<=22000:=by
   rw[<-Nat.lt_succ_iff,Nat.div_lt_iff_lt_mul (by omega)];omega
  have hO:mn W ps S Y W.heap.size (.slice none 0 0) []:=⟨(h.below hW).mono (fun k hk=>hk.elim id (fun e=>nomatch e)),World.ownsRow_nil _ _ _ _,⟨aX au hW.size,Nat.le_refl _⟩,(fun g e=>nomatch e)⟩
  rcases hH with⟨hE,rfl,rfl,rfl⟩ | ⟨d,x,hx,rfl,rfl,rfl⟩
  ·refine(JO (h.below hW) hE.fit t1 t2 _).mono ?_;rintro e w' ⟨rfl,hb⟩;exact⟨_,[],rfl,World.ownsRow_nil _ _ _ _,hb,cz _,aa ⟨hE,rfl,rfl,rfl,rfl⟩⟩
  ·refine(JN (d+1) x hx.walk (dp:=0) hO (by have:=hx.low;omega) (by have:=hx.many;simp;omega) (by omega)).mono ?_;rintro e w' ⟨v',rfl,h1,h2,h3⟩;exact⟨v',_,rfl,h1.own,h3,by have:=hx.many;simp;omega,ae ⟨d,x,hx,rfl,rfl,rfl,rfl⟩⟩
 unfold FH at ai al;generalize S.words / (6*t)+1=z at*;have HG:=kq5 ar ai al B0 q0;obtain⟨I,an,ad⟩:=ic fun w'=>w'.heap[w.heap.size]?=some (Xc ps t);have a0:=fun x:Fq I=>an _ x.ok;obtain⟨m0,m1⟩:=fw a0;have a1:I (w.alloc (Xc ps t)).drew:=ad _ q0;have HI:=If ad;clear ar ai al B0 q0 h hH hf an ad a0 a2 au;go_enter func40,ntmps40;go_wp2_with fail;refine Jc HG.a ?_;go_wp2_with fail;refine fh I (.take 0 (.take 1 (.take 2 (.go 3 (.go 4 (.go 5 .nil)))))) (by kernel_rfl) (by kernel_rfl) a1 ?_
 iterate 3
  refine' pT ?_ ?_;rotate_left
  ·intro x;go_simp
   try rfl
  try simp only[pu]
 refine pD fun K hK=>?_;go_simp;refine wx HG.b fun w1 hb1=>?_;have B1:=HG.d.drew.trans (hb1.mono HG.d.drew.size);have q1:=(hb1.block w.heap.size (gl HG.e)).trans HG.e;have H1:=kq2 B1 q1;clear hb1 B1 q1
 try go_simp
 refine hK.out _ _ (HI.out _ H1.b) ?_;clear hK K
 try simp only[pu]
 refine pD fun K hK=>?_;go_simp;refine(HG.c _ H1.a).mono ?_;rintro e w2 ⟨v,N,rfl,h2,h3,h4⟩;have H2:=kq4 (FE.base h2 H1.a.size) (H1.a.trans (h3.mono H1.a.size)) h4 ((h3.block w.heap.size (gl H1.b)).trans H1.b);clear h2 h3 h4
 try go_simp
 refine hK.out _ _ (HI.out _ H2.d) ?_;clear hK K
 try simp only[pu]
 refine pD fun K hK=>?_;go_simp
 try go_simp
 refine hK.out _ _ (HI.out _ H2.d) ?_;clear hK K
 try simp only[pu]
 refine eP ?_;go_wp2_with fail;go_ret;exact⟨_,N,rfl,H2.a,H2.b,H2.c⟩
theorem J2{ps bb D n t root b3 b4 b6:Nat}{kind:Int}{L:List (List UInt8×List UInt8)}(h:dU w ps S Y bb D kind n)(hn:n<=40000)(hH:Bt.Holds S o t root L R)
 (x3:w.heap[b3]?=some (Xo bb)) (x4:w.heap[b4]?=some (Xk t)) (x6:w.heap[b6]?=some (Xf root)) (y3:Y b3):
 CallsD prog 136 #[PV b3,PV b4,PV b6] .returning w fun e u' w'=>u'=.returning/\(e=.returned (.tuple #[])/\∃m,dU w' ps S Y bb D kind m/\Fo Y w w'):=by
 have hB:=h.below (ab _ _).drew;have a4:=wa hB.st hH;have HG:=kq6 hB a4 x3 x4 x6 y3;obtain⟨I,ad,ai⟩:=lB (fun w'=>w'.cell? ⟨bb,0,none⟩=some (PV ps)/\w'.heap[b3]?=some (Xo bb)) (fun w'=>w'.heap[b4]?=some (Xk t)/\w'.heap[b6]?=some (Xf root));have m0:=fun x:Fq I=>(ad _ x.ok).1.1;have an:=fun x:Fq I=>(ad _ x.ok).1.2;have a7:=fun x:Fq I=>(ad _ x.ok).2.1;have a8:=fun x:Fq I=>(ad _ x.ok).2.2;have a':∀x:Fq I,x.to.cell? ⟨b3,0,none⟩=some (PV bb):=fun x=>by rw[cell_of_block (an x)];rfl
 have bj:∀x:Fq I,x.to.cell? ⟨b4,0,none⟩=some (Xi t):=fun x=>by rw[cell_of_block (a7 x)];rfl
 have bk:∀x:Fq I,x.to.cell? ⟨b6,0,none⟩=some (Xu root):=fun x=>by rw[cell_of_block (a8 x)];rfl
 have al:I w.drew:=ai _ ⟨hB.cell.1,x3⟩ ⟨x4,x6⟩;have HI:=If ai;clear ad ai an a7 a8 hB a4 x3 x4 x6 h hH;go_enter_d func136,ntmps136
 go_wp2_with fail;refine fh I (.take 0 (.take 1 (.take 2 (.take 3 (.take 4 (.take 5 (.take 8 (.go 6 (.take 7 .nil))))))))) (by kernel_rfl) (by kernel_rfl) al ?_;iterate 7
  refine' pT ?_ ?_;rotate_left
  ·intro x;go_simp;try rfl
  try simp only[pu]
 refine pD fun K hK=>?_;go_simp;refine HG.b.mono ?_;rintro e w1 ⟨v,N,rfl,hr,hb,hN,_⟩;obtain⟨A,c,rfl⟩:=hr.slice2;have ba:w.drew.heap.size=w.heap.size:=rfl;have h1:=HG.a.wide hb;have e3:=(hb.block b3 (gl HG.c)).trans HG.c;have e4:=(hb.block b4 (gl HG.d)).trans HG.d;have e6:=(hb.block b6 (gl HG.e)).trans HG.e;have hrow:∀W,Fo (fun k=>Y k\/(w.drew.heap.size<=k/\k<w1.heap.size)) w1 W->FD W (.slice A N.length c) N:=fun W hW=>hr.hrow.keeps fun g e _=>hW.block g (ae (hr.ge g e));have a3:Fo Y w w1:=(⟨rfl,rfl,rfl,Nat.le_refl _,fun _ _=>rfl⟩:Fo Y w w.drew).trans (HG.a.st.mono (Z:=Y) (fun k hk=>aa hk) |>.keep hb);obtain⟨m,hm⟩:=Ii N.length;rw[hm] at hrow hN⊢;obtain⟨Y2,ar⟩:∃Y2:Nat->Prop,(fun k=>Y k\/(w.drew.heap.size<=k/\k<w1.heap.size))=Y2:=⟨_,rfl⟩;rw[ar] at h1 hrow;have a6:∀k,Y k->Y2 k:=fun k hk=>by rw[<-ar];exact aa hk
 have H1:=kq6 h1 hrow a3 a6 e3 hm;clear ar hr hrow a3 a6 hm ba;try go_simp
 refine hK.out _ _ (HI.out _ ⟨H1.a.cell.1,H1.e⟩ ⟨e4,e6⟩) ?_;clear hK K;try simp only[pu]
 clear h1 e3 e4 e6 hb;refine' pT ?_ ?_;rotate_left
 ·intro x;go_simp;try rfl
 try simp only[pu]
 refine eP ?_;clear HI m0 a' bj bk al I;go_wp2_with fail;go_loopw [4,13] (fun _ s13 wr=>∃j:Nat,s13=Xi j/\j<=m/\Hid (dU wr ps S Y2 bb D kind (n+j)/\Fo Y2 w1 wr)) (fun _ s13 _=>m-(intOf s13).toNat)
 case atStart=>exact⟨0,rfl,by omega,H1.a,Fo.refl _ _⟩
 case round=>
  obtain⟨j,rfl,bm,J0⟩:=hrel;by_cases hj:j<m
  ·have bd:(j:Int)<m:=by omega
   have bc:j<N.length:=by have:=H1.f;omega
   obtain⟨A0,c0,er,a2⟩:=H1.b _ J0.out.2;obtain⟨g,o5,eA,r0⟩:=a2 j bc;obtain⟨rfl,_⟩:A=A0/\True:=by injection er with e1;exact⟨e1,trivial⟩
   subst eA;clear er a2;generalize N[j]=hh at*;have hB:=J0.out.1.below (ab _ _).drew;obtain⟨A',m',c',A2,bf,cc,w2,hb,a5,b2,k2,au⟩:=hB.push (by omega) hh;have t3:=(J0.out.2.block b3 (H1.d _ HG.f)).trans H1.e;have u3:=(k2.block b3 (H1.d _ HG.f)).trans t3;obtain⟨I,ad,ai⟩:=lB (fun w'=>w'.heap[bb]?=some (.cells #[PV ps,Xi kind,.slice A' m' c'] 169 (0,0))) (fun w'=>w'.heap[b3]?=some (Xo bb));have a9:=fun x:Fq I=>(ad _ x.ok).1;have an:=fun x:Fq I=>(ad _ x.ok).2;obtain⟨m0,m1,m2⟩:=qf a9;have a':∀x:Fq I,x.to.cell? ⟨b3,0,none⟩=some (PV bb):=fun x=>by rw[cell_of_block (an x)];rfl
   have al:I wr.drew:=ai _ hb t3;have a0:I (wr.drew.alloc (Xf hh)):=ai _ ((((ab _ _).alloc Ih _).block bb (gl hb)).trans hb) ((((ab _ _).alloc Ih _).block b3 (gl t3)).trans t3);have a1:I w2:=ai _ b2 u3;obtain⟨d0,d1,d2⟩:=fq b2;obtain⟨f0,f1,f2⟩:=uA b2;have HJ:=kq4 a0 a1 au.1 (J0.out.2.trans ((⟨rfl,rfl,rfl,Nat.le_refl _,fun _ _=>rfl⟩:Fo Y2 wr wr.drew).trans au.2));clear ad ai a9 an a0 a1 au hB hb b2 k2 t3 u3;go_wp2_with fail;refine nG I (fun i=>[10].contains i) (.take 0 (.take 1 (.take 2 (.take 3 (.take 4 (.take 5 (.go 6 (.go 7 (.take 8 (.take 9 (.go 10 .nil))))))))))) (by kernel_rfl) (by kernel_rfl) al ?_;clear al;iterate 6
    refine' qT ?_ ?_;rotate_left
    ·intro x;go_simp;try rfl
    try simp only[pu]
   refine qD fun K hK=>?_;go_simp;try go_simp
   refine hK.out _ _ (HJ.a) ?_;clear hK K;try simp only[pu]
   refine qD (fun K hK=>kE _ _ _ rfl rfl rfl a5 ?_);clear a5;try go_simp
   refine hK.out _ _ (HJ.b) ?_;clear hK K;try simp only[pu]
   iterate 2
    refine' qT ?_ ?_;rotate_left
    ·intro x;go_simp;try rfl
    try simp only[pu]
   refine qL fun K hK=>?_;go_simp;generalize w2.setCell ⟨bb,2,none⟩ (.slice A2 bf cc)=w3 at*;try go_simp
   refine hK.out _ _ trivial ?_;clear hK K;try simp only[pu]
   refine jd ?_;go_wp2_with fail;go_roundw
   case rel=>exact⟨j+1,by simp,by omega,HJ.c,HJ.d⟩
   case measure=>simp[intOf];omega
  ·obtain rfl:j=m:=by omega
   have bd:¬(j:Int)<j:=by omega
   have H5:=kq2 (J0.out.1.mono H1.d) (H1.c.trans (J0.out.2.mono H1.d));go_wp2_with fail;go_end0
   exact⟨rfl,⟨_,H5.a⟩,H5.b⟩
def fj(L:List (List UInt8×List UInt8))(k:Int):Option (List UInt8×List UInt8):=if k<0 then none else L[k.toNat]?
def gI(L:List (List UInt8×List UInt8))(a:List UInt8):Int:=if(Bt.getL L a).isSome=true then(eK L a:Int) else(eK L a:Int)-1
structure fi (K:jo) (w W:World) (ps pm px limit root:Nat) (S:St) (Y:Nat->Prop) (L:List (List UInt8×List UInt8)):Prop where
 st:Ig W ps S Y
 hold:∃o R,K.Hold S o root L R
 on:K.On W px ps root
 map:Ic W pm px ps limit
 bl:Below w.heap.size w W
 own:∀k,k<w.heap.size->Y k
 yx:Y px
 ym:Y pm
 lx:w.heap.size<=px
 lm:w.heap.size<=pm
 ne:pm≠px
theorem yJ{L:List (List UInt8×List UInt8)}{k:Int}(h:fj L k=none):k<0\/(L.length:Int)<=k:=by
 unfold fj at h
 split at h
 ·exact aa ‹_›
 ·have:=List.getElem?_eq_none_iff.1 h;omega
theorem tE{L:List (List UInt8×List UInt8)}{k:Int}{p:List UInt8×List UInt8}(h:fj L k=some p):∃n:Nat,k=n/\L[n]?=some p:=by
 unfold fj at h
 split at h
 ·cases h
 ·exact⟨k.toNat,by omega,h⟩
section
variable {P:List (List UInt8×List UInt8)->Prop}{K:jo}{w W:World}{ps pm px limit root:Nat}{S:St}{Y:Nat->Prop}{L:List (List UInt8×List UInt8)}
theorem fi.below(ok:gB K P)(h:fi K w W ps pm px limit root S Y L){W':World}(hb:Below W.heap.size W W'):fi K w W' ps pm px limit root S Y L:=
 ⟨h.st.below hb,h.hold,ok.onBelow h.on hb,h.map.below hb,h.bl.trans (hb.mono h.bl.size),h.own,h.yx,h.ym,h.lx,h.lm,h.ne⟩
theorem fi.len(ok:gB K P)(h:fi K w W ps pm px limit root S Y L)(hc:L.length<98):
 Cb 39 #[PV pm] W (Xi (L.length:Nat)):=by
 obtain⟨o,R,hH⟩:=h.hold;exact CQ h.map (ok.len h.st hH hc h.on)
theorem fi.rank(ok:gB K P)(h:fi K w W ps pm px limit root S Y L)(hc:L.length<98)(a:List UInt8):
 Cb 99 #[PV pm,SV a] W (Xi (eK L a:Nat)):=by
 obtain⟨o,R,hH⟩:=h.hold;exact CU h.map a (ok.rank h.st hH hc h.on a)
theorem fi.place(ok:gB K P)(h:fi K w W ps pm px limit root S Y L)(hc:L.length<98)(a:List UInt8):
 ∀V,Below W.heap.size W V->Cb 98 #[PV pm,SV a] V (Xi (gI L a)):=fun V hV=>by
 obtain⟨o,R,hH⟩:=h.hold;have h':=h.below ok hV;exact CL h'.map a (n:=eK L a) (by have:=nZ L a;omega) (Bt.getL L a).isSome ((Bt.getL L a).getD []) (ok.rank h'.st hH hc h'.on a) fun U hU=>ok.get (h'.below ok hU).st hH hc (h'.below ok hU).on a
theorem fi.put {p q:Nat}(ok:gB K P)(h:fi K w W ps pm px limit root S Y L)(hs:fc S (20+p) (9+q))(a b:List UInt8)(ha:a.length<=limit)(hb:b.length<=limit)(hl:limit<=1000)(hc:L.length<98)(hP:P L):
 Ct 24 #[PV pm,SV a,SV b] W fun e w'=>e=.returned (.tuple #[SV ((Bt.getL L a).getD []),.bool (Bt.getL L a).isSome,Xi 0])/\∃(x:Nat) (S3:St),fi K w w' ps pm px limit x S3 Y (gV L a b)/\fc S3 p q:=by
 obtain⟨o,R,hH⟩:=h.hold;refine CS h.map a b _ _ ha hb ((ok.put h.st hH hc h.on h.yx hP a b (by omega) (by omega) (hs.mono (by omega) (by omega))).mono ?_);rintro e w' ⟨x,S3,rfl,h1,h2,h3,h4⟩;obtain⟨o3,R3,h5,_⟩:=h4.holds;exact⟨rfl,x,S3,⟨h1,⟨o3,R3,h5⟩,h3,(h2.block pm ⟨h.ym,h.ne⟩).trans h.map,h.bl.trans (Fo.below (h2.mono fun k hk=>⟨h.own k hk,fun q=>by have:=h.lx;omega⟩)),h.own,h.yx,h.ym,h.lx,h.lm,h.ne⟩,fc.grew hs h4.grew⟩
end
theorem fi.wide {P:List (List UInt8×List UInt8)->Prop}{K:jo}(ok:gB K P){w W W':World}{ps pm px limit root:Nat}{S:St}{Y:Nat->Prop}{L:List (List UInt8×List UInt8)}(h:fi K w W ps pm px limit root S Y L)(hb:Below W.heap.size W W'):
 fi K w W' ps pm px limit root S (fun k=>Y k\/(W.heap.size<=k/\k<W'.heap.size)) L:=
 ⟨h.st.wide hb,h.hold,ok.onBelow h.on hb,h.map.below hb,h.bl.trans (hb.mono h.bl.size),fun k hk=>aa (h.own k hk),aa h.yx,aa h.ym,h.lx,h.lm,h.ne⟩
def im(l:List (List UInt8×List UInt8)):List (List UInt8×List UInt8):=l.foldl (fun L p=>gV L p.1 p.2) []
theorem DF(l:List (List UInt8×List UInt8))(p:List UInt8×List UInt8):im (l++[p])=gV (im l) p.1 p.2:=by
 unfold im;rw[List.foldl_append];rfl
theorem xQ(p q:List UInt8×List UInt8->Bool)(h:∀x,¬(p x=true/\q x=true)):∀L:List (List UInt8×List UInt8),(L.filter p).length+(L.filter q).length<=L.length
 | []=>Nat.le_refl _
 | x::L=>by
  have ih:=xQ p q h L;have hx:=h x;rw[List.filter_cons,List.filter_cons,ak];split<;>split<;>(try simp only[ak])<;>first | omega | (exfalso;exact hx ⟨by assumption,by assumption⟩)
theorem DG(L:List (List UInt8×List UInt8))(a b:List UInt8):(gV L a b).length<=L.length+1:=by
 unfold gV;rw[aD,ak];have:=xQ (fun p=>decide (Fu p.1 a<0)) (fun p=>decide (0<Fu p.1 a)) (fun x ⟨h1,h2⟩=>by simp at h1 h2;omega) L;omega
theorem wo:∀(l L:List (List UInt8×List UInt8)),(l.foldl (fun L p=>gV L p.1 p.2) L).length<=L.length+l.length
 | [],_=>Nat.le_refl _
 | p::l,L=>by
  have h1:=wo l (gV L p.1 p.2);have h2:=DG L p.1 p.2;rw[dD,ak];omega
theorem wt(l:List (List UInt8×List UInt8)):(im l).length<=l.length:=by
 have h:=wo l [];rwa[aM,bO] at h
theorem xB {α:Type}{l:List α}{i:Nat}(h:i<l.length):l.take (i+1)=l.take i++[l[i]]:=by
 rw[List.take_add_one,af h];rfl
def FO(kind t:Int):Bool:=decide (kind=1\/kind=2\/kind=3/\2<=t/\t<=16)
theorem qXhab{P:Prop}(h:P:=by
 go_enter func9,ntmps9;go_wp2_with fail;go_ret;exact⟨rfl,rfl⟩):P:=h
theorem Gd(kind t:Int)(w:World):
 Ct 9 #[Xi kind,Xi t] w fun e w'=>e=.returned (.bool (FO kind t))/\w=w':=by
 by_cases h1:kind=1
 ·rw[show FO kind t=true from decide_eq_true (aa h1)];subst h1;exact qXhab
 by_cases h2:kind=2
 ·rw[show FO kind t=true from decide_eq_true (ae (aa h2))];subst h2;exact qXhab
 by_cases h3:kind=3
 ·subst h3
  by_cases h4:2<=t
  ·by_cases h5:t<=16
   ·rw[show FO 3 t=true from decide_eq_true (ae (ae ⟨rfl,h4,h5⟩))];exact qXhab
   ·rw[show FO 3 t=false from decide_eq_false (by omega)];exact qXhab
  ·rw[show FO 3 t=false from decide_eq_false (by omega)];exact qXhab
 ·rw[show FO kind t=false from decide_eq_false (by omega)];have e1:(kind==1)=false:=by simpa using h1
  have e2:(kind==2)=false:=by simpa using h2
  have e3:(kind==3)=false:=by simpa using h3
  exact qXhab
def pK(l:List (List UInt8×List UInt8)):Prop:=∀p∈l,p.1.length<=1000/\p.2.length<=1000
theorem dU.calls {w:World}{ps bb D n:Nat}{S:St}{Y:Nat->Prop}{kind:Int}(h:dU w ps S Y bb D kind n){f:FuncId}{args:Array Value}{r:Nat->Ending}{Q:Nat->St->Prop}(hc:∀Z,Ig w ps S Z->Ct f args w fun e w'=>∃(x:Nat) (S':St),e=r x/\Ig w' ps S' Z/\Fo Z w w'/\Q x S'):
 Ct f args w fun e w'=>∃(x:Nat) (S':St),e=r x/\dU w' ps S' Y bb D kind n/\Fo Y w w'/\Q x S':=by
 obtain⟨v,L,h1,hb,ho,hl,hn⟩:=h.ex;refine(hc _ h1).mono ?_;rintro e w' ⟨x,S',rfl,h2,hk,hq⟩;exact⟨x,S',rfl,⟨⟨v,L,h2,(hk.block bb (aa (ae rfl))).trans hb,ho.at fun g e=>hk.block g (ae e),hl,hn⟩,⟨h.lo.1,aK h.lo.2 hk.size⟩,h.hy⟩,hk.mono fun k hk=>aa (aa hk),hq⟩
structure mA (W:World) (ps bb D t:Nat) (Y:Nat->Prop) (S0:St) (kind:Int) (l:List (List UInt8×List UInt8)) (root p q:Nat) (S:St):Prop where
 bl:dU W ps S Y bb D kind (2*l.length)
 ex:∃o R,Bt.Holds S o t root l R/\∀y∈R,reco S0 y=none
 sp:fc S p q
 ap:∀y,reco S0 y≠none->reco S y=reco S0 y
 gr:ej S0 S (20*l.length) (9*l.length)
theorem mA.more {W W':World}{ps bb D t root p q x:Nat}{Y:Nat->Prop}{S0 S S':St}{kind:Int}{l:List (List UInt8×List UInt8)}{a b:List UInt8}(h:mA W ps bb D t Y S0 kind l root (20+p) (9+q) S){R:List Nat}(hR:∀y∈R,reco S0 y=none)(hp:iV S l R (fun S o x L R=>Bt.Holds S o t x L R) a b 20 9 x S')(hl:gV l a b=l++[(a,b)])(hb:dU W' ps S' Y bb D kind (2*l.length+2)):
 mA W' ps bb D t Y S0 kind (l++[(a,b)]) x p q S':=by
 obtain⟨o3,R3,h3,h4⟩:=hp.holds;rw[hl] at h3;have hn:∀y,reco S y=none->reco S0 y=none:=fun y hy=>by
  cases e:reco S0 y with
  | none=>rfl
  | some ws=>
   have:=h.ap y (by rw[e];exact fun q=>nomatch q);rw[hy,e] at this
   cases this
 refine⟨by rw[aD,Nat.mul_add];exact hb,⟨o3,R3,h3,fun y hy=>(h4 y hy).elim (hR y) (hn y)⟩,fc.grew h.sp hp.grew,fun y hy=>?_,(h.gr.trans hp.grew).mono (by simp;omega) (by simp;omega)⟩;have e:=h.ap y hy;exact(hp.apart y (fun hm=>hy (hR y hm)) (by rw[e];exact hy)).trans e
theorem Hb {l:List (List UInt8×List UInt8)}{a b:List UInt8}(h:∀p∈l,Fu p.1 a<0):gV l a b=l++[(a,b)]/\Bt.getL l a=none:=by
 have hq:∀p∈l,p.1≠a:=fun p hp e=>by
  have:=h p hp;rw[e,fX] at this;omega
 constructor
 ·unfold gV;rw[df.2 fun p hp=>decide_eq_true (h p hp),cB.2 fun p hp=>by have:=h p hp;simp;omega]
 ·unfold Bt.getL;rw[bB.2 fun p hp=>by simpa using hq p hp]
  rfl
theorem qXhaa{P:Prop}(h:P:=by
 have H4:=kq3 h4 k6 hp;have H6:=kq2 (h6.mono (Z:=Y3) fun k hk=>aa hk) k7;clear h4 k4 hp k6 q4 h6 k7
 try go_simp
 refine hK.out _ _ (HI.out _ H4.b H4.a.cell.1) ?_;clear hK K
 try simp only[pu]
 iterate 5
  refine' pT ?_ ?_;rotate_left
  ·intro x;go_simp
   try rfl
  try simp only[pu]
 refine pD fun K hK=>?_;go_simp
 try go_simp
 refine hK.out _ _ (HI.out _ H4.b H4.a.cell.1) ?_;clear hK K
 try simp only[pu]
 refine pD fun K hK=>?_;go_simp
 try go_simp
 refine hK.out _ _ (HI.out _ H6.b H6.a.cell.1) ?_;clear hK K
 try simp only[pu]
 refine pD fun K hK=>?_;go_simp
 try go_simp
 refine hK.out _ _ (HI.out _ H6.b H6.a.cell.1) ?_;clear hK K
 try simp only[pu]
 refine pD fun K hK=>?_;go_simp
 try go_simp
 refine hK.out _ _ (HI.out _ H6.b H6.a.cell.1) ?_;clear hK K
 try simp only[pu]
 refine eP ?_;go_wp2_with fail
 go_meet
 exact⟨x,rfl,rfl,rfl,HF.out _ x S' H6.b H6.a H4.c⟩):P:=h
theorem JQ(hins:∀d,j4 d){w0 w:World}{ps bb D t n c:Nat}{A:Option Addr}{S:St}{o:Nat->Nat}{Y:Nat->Prop}{kind:Int}{l:List (List UInt8×List UInt8)}(hk0:Fo Y w0 w)(h:dU w ps S Y bb D kind 0)(hE:Bt.Empty S o t)(hR:mm w0 Y A n c l)(hs:l.Pairwise fun p q=>Fu p.1 q.1<0)(hl:∀p∈l,p.1.length<=1000/\p.2.length<=1000)(hn:n<=100)(hsp:fc S (20*n) (9*n)):
 Ct 90 #[PV bb,Xi t,.slice A n c] w fun e w'=>∃(root:Nat) (S':St) (o':Nat->Nat) (R:List Nat) (m:Nat),e=.returned (Xu root)/\dU w' ps S' Y bb D kind m/\Fo Y w w'/\Bt.Holds S' o' t root l R/\(∀y∈R,reco S y=none)/\(∀y,reco S y≠none->reco S' y=reco S y)/\ej S S' (20*n) (9*n):=by
 obtain⟨rfl,_,hc⟩:=hR;obtain⟨b,hb⟩:=Ii w.heap.size;have B1:=(ab w.heap.size w).alloc Ih (Xo bb);have q1:=heap_alloc_new w (Xo bb);have z1:(w.alloc (Xo bb)).heap.size=b+1:=by simp[hb]
 have A2:=(ab (w.alloc (Xo bb)).heap.size (w.alloc (Xo bb))).alloc Ih (Xk t);have q2:=heap_alloc_new (w.alloc (Xo bb)) (Xk t);have z2:((w.alloc (Xo bb)).alloc (Xk t)).heap.size=b+1+1:=by simp[hb]
 have A3:=(ab ((w.alloc (Xo bb)).alloc (Xk t)).heap.size ((w.alloc (Xo bb)).alloc (Xk t))).alloc Ih (.cells #[Xu 0] 61);have q3:=heap_alloc_new ((w.alloc (Xo bb)).alloc (Xk t)) (.cells #[Xu 0] 61);have z3:(((w.alloc (Xo bb)).alloc (Xk t)).alloc (.cells #[Xu 0] 61)).heap.size=b+3:=by simp[hb]
 have B3:=(B1.trans (A2.mono B1.size)).trans (A3.mono (B1.trans (A2.mono B1.size)).size);have r1:=(A3.block b (by omega)).trans ((A2.block b (by omega)).trans (hb▸q1));have r2:=(A3.block (b+1) (by omega)).trans (z1▸q2);rw[z2] at q3;have hW:=h.wide B3;have hK:=h.st.mono (Z:=Y) (fun k hk=>aa hk) |>.keep B3
 rw[z3,hb] at hW;obtain⟨Y2,a1⟩:∃Y2:Nat->Prop,(fun k=>Y k\/(b<=k/\k<b+3))=Y2:=⟨_,rfl⟩;rw[a1] at hW;have bm:∀k,Y k->Y2 k/\k≠b+1+1:=fun k hk=>⟨by rw[<-a1];exact aa hk,by have:=h.st.yl k (aa hk);omega⟩;have bk:Y2 b/\Y2 (b+1)/\Y2 (b+1+1):=by rw[<-a1];exact⟨ae ⟨by omega,by omega⟩,ae ⟨by omega,by omega⟩,ae ⟨by omega,by omega⟩⟩
 obtain⟨m,hm⟩:=Ii l.length;have h0:mA _ ps bb D t Y2 S kind [] 0 (20*m) (9*m) S:=⟨hW,⟨o,[],aa ⟨hE,rfl,rfl,rfl⟩,fun _ hy=>nomatch hy⟩,by rw[<-hm];exact hsp,fun _ _=>rfl,ej.refl S⟩;have bc:∀V,Fo Y w V->∀j (hj:j<l.length),∃g o,A=some ⟨g,o,none⟩/\V.cell? ⟨g,o+j*2,none⟩=some (SV l[j].1)/\V.cell? ⟨g,o+j*2+1,none⟩=some (SV l[j].2):=fun V hV j hj=>by
  obtain⟨g,o,e,hc⟩:=hc (by omega);exact⟨g,o,e,hc V (hk0.trans hV) j hj⟩
 have HG:=kq14 h0 hK bc bm bk r1 r2 q3 hs hl hm hins hE.t1 (hE.t2);have b9:m<=100:=by omega
 rw[hm];clear h0 hK bc bm bk r1 r2 q1 q2 q3 z1 z2 z3 A2 A3 B1 B3 hW a1 hs hl hm hc hk0 h hE hn hsp hins
 go_enter_defers func90,ntmps90
 go_wp2_with fail;generalize (((w.alloc (Xo bb)).alloc (Xk t)).alloc (.cells #[Xu 0] 61))=W0 at*
 go_loopw [8,9,10,11,12,16] (fun _ _ _ _ _ s16 wr=>∃j root:Nat,s16=Xi j/\j<=m/\Hid ((∃S',mA wr ps bb D t Y2 S kind (l.take j) root (20*(m-j)) (9*(m-j)) S')/\Fo (fun k=>Y2 k/\k≠b+1+1) W0 wr/\wr.heap[b+1+1]?=some (Xf root))) (fun _ _ _ _ _ s16 _=>m-(intOf s16).toNat)
 case atStart=>exact⟨0,0,rfl,by omega,⟨S,HG.a⟩,Fo.refl _ _,HG.h⟩
 case round=>
  obtain⟨j,root,rfl,b4,J0⟩:=hrel
  by_cases hj:j<m
  ·have b0:(j:Int)<m:=by omega
   have au:j<l.length:=by have:=HG.k;omega
   obtain⟨⟨S1,hw⟩,kw,x6⟩:=J0.out;obtain⟨g,o5,rfl,c0,c1⟩:=HG.c wr (HG.b.trans (kw.mono HG.d)) j au;obtain⟨⟨a,b'⟩,ar⟩:∃p,l[j]=p:=⟨_,rfl⟩;rw[ar] at c0 c1;have a4:(l.take j).length=j:=by rw[ay];omega
   have a7:∀p∈l.take j,Fu p.1 a<0:=fun p hp=>by
    obtain⟨i,hi,rfl⟩:=bT.1 hp;rw[dw];have:=bJ.1 HG.i i j (by omega) au (by rw[a4] at hi;exact hi);rwa[ar] at this
   have a3:=HG.j (a,b') (ar▸aF au);have bj:l.take (j+1)=l.take j++[(a,b')]:=by rw[aO au,ar]
   obtain⟨o1,R1,hH,an⟩:=hw.ex;have A1:=(ab wr.heap.size wr).alloc Ih (Xj a b');have q1:=heap_alloc_new wr (Xj a b');have z1:(wr.alloc (Xj a b')).heap.size=wr.heap.size+1:=by simp
   have ad:=hw.bl.wide A1;rw[z1,a4] at ad;obtain⟨W1,ba⟩:=Ii (wr.alloc (Xj a b'));obtain⟨Y3,a2⟩:∃Y3:Nat->Prop,(fun k=>Y2 k\/(wr.heap.size<=k/\k<wr.heap.size+1))=Y3:=⟨_,rfl⟩;have k1:Fo Y2 wr (wr.alloc (Xj a b')):=hw.bl.st.mono (Z:=Y2) (fun k hk=>aa hk) |>.keep A1
   rw[ba] at ad q1 z1 k1;rw[a2] at ad;have ai:∀k,Y2 k->Y3 k:=fun k hk=>by rw[<-a2];exact aa hk
   have yp:Y3 wr.heap.size:=by rw[<-a2];exact ae ⟨Nat.le_refl _,aG _⟩
   have d1:Fo Y3 W1 W1.drew:=⟨rfl,rfl,rfl,Nat.le_refl _,fun _ _=>rfl⟩;have ad:=ad.below (ab _ _).drew;have hsp:=hw.sp;have x3:=(k1.block b HG.e.1).trans ((kw.block b ⟨HG.e.1,by omega⟩).trans HG.f);have x4:=(k1.block (b+1) HG.e.2.1).trans ((kw.block (b+1) ⟨HG.e.2.1,by omega⟩).trans HG.g);have a8:=(k1.block (b+1+1) HG.e.2.2).trans x6;obtain⟨I,al,a'⟩:=lB (fun w'=>w'.cell? ⟨bb,0,none⟩=some (PV ps)/\w'.heap[b]?=some (Xo bb)/\w'.heap[wr.heap.size]?=some (Xj a b')) (fun w'=>w'.heap[b+1]?=some (Xk t)/\w'.heap[b+1+1]?=some (Xf root));have m0:=fun x:Fq I=>(al _ x.ok).1.1;have bo:=fun x:Fq I=>(al _ x.ok).1.2.1;have bu:=fun x:Fq I=>(al _ x.ok).1.2.2;have bs:=fun x:Fq I=>(al _ x.ok).2.1;have bt:=fun x:Fq I=>(al _ x.ok).2.2;have ca:∀x:Fq I,x.to.cell? ⟨b,0,none⟩=some (PV bb):=fun x=>by rw[cell_of_block (bo x)];rfl
   have cb:∀x:Fq I,x.to.cell? ⟨b+1,0,none⟩=some (Xi t):=fun x=>by rw[cell_of_block (bs x)];rfl
   have cc:∀x:Fq I,x.to.cell? ⟨b+1+1,0,none⟩=some (Xu root):=fun x=>by rw[cell_of_block (bt x)];rfl
   obtain⟨p0,p1⟩:=fw bu;have HI:=If (fun(V:World) (hk:Fo Y3 W1 V) (hc:V.cell? ⟨bb,0,none⟩=some (PV ps))=>a' V ⟨hc,(hk.block b (ai _ HG.e.1)).trans x3,(hk.block _ yp).trans q1⟩ ⟨(hk.block _ (ai _ HG.e.2.1)).trans x4,(hk.block _ (ai _ HG.e.2.2)).trans a8⟩);have a9:I W1.drew:=HI.out _ d1 ad.cell.1;have bf:∀(V:World) (x:Nat) (S':St),Fo Y3 W1 V->dU V ps S' Y3 bb D kind (2*j+2)->iV S1 (l.take j) R1 (fun S o x L R=>Bt.Holds S o t x L R) a b' 20 9 x S'->(∃S',mA V ps bb D t Y2 S kind (l.take (j+1)) x (20*(m-(j+1))) (9*(m-(j+1))) S')/\Fo (fun k=>Y2 k/\k≠b+1+1) W0 V/\V.heap[b+1+1]?=some (Xf root):=fun V x S' hk hb hp=>by
    refine⟨⟨S',?_⟩,kw.trans ((k1.trans (hk.mono ai)).mono fun k hk=>hk.1),(hk.block (b+1+1) (ai _ HG.e.2.2)).trans a8⟩;rw[bj];have b1:mA wr ps bb D t Y2 S kind (l.take j) root (20+20*(m-(j+1))) (9+9*(m-(j+1))) S1:=⟨hw.bl,hw.ex,hw.sp.mono (by omega) (by omega),hw.ap,hw.gr⟩;exact b1.more an hp (Hb a7).1 (by rw[a4];exact hb.mono ai)
   have HF:=If bf;have a6:=fun {V:World} {Z:Nat->Prop} (hb:dU V ps S1 Z bb D kind (2*j))=>wm hb hH.fit (by omega) a b' a3.1 a3.2 (hsp.mono (by omega) (by omega));have a5:=fun {V:World} {Z:Nat->Prop} {S2:St} {o2:Nat->Nat} {ka vb:Nat} (hb:dU V ps S2 Z bb D kind (2*j+2)) (hn:pp S1 S2 o2 ka vb a b')=>hb.calls (r:=fun x=> .returned (.tuple #[Xu x,Id 0 0,.bool false,Xi 0])) fun Z' hZ=>JS HG.l hZ hH hn (Hb (b:=b') a7).2 (by omega) (fc.grew (hsp.mono (p':=6+14) (q':=2+7) (by omega) (by omega)) hn.grew);simp only[eu,Id] at a6 a5;have HJ:=kq5 ad d1 @a6 @a5 a3;clear bf hw kw x6 hH an A1 q1 z1 ad k1 ai yp d1 hsp x3 x4 a8 al a' bo bu bs bt a6 a5 a7 bj a4 a3 a2 ar au
   go_upto_region 5 with fail
   clear ba
   go_cut [9,10,11,12] from 20 to 41 (fun s9 _ s11 s12 wc=>∃x:Nat,s9=Xu x/\s11=.bool false/\s12=Xi 0/\Hid ((∃S',mA wc ps bb D t Y2 S kind (l.take (j+1)) x (20*(m-(j+1))) (9*(m-(j+1))) S')/\Fo (fun k=>Y2 k/\k≠b+1+1) W0 wc/\wc.heap[b+1+1]?=some (Xf root)))
   case first=>
    refine fh I (.take 0 (.take 1 (.take 2 (.take 3 (.take 4 (.take 5 (.take 6 (.take 7 (.two 8 15 (.two 9 15 (.take 10 (.take 11 (.take 12 (.take 13 (.take 14 (.go 15 (.go 16 (.go 17 (.go 18 (.go 19 .nil)))))))))) (.go 9 (.take 10 (.take 11 (.take 12 (.take 13 (.take 14 (.go 16 (.go 17 (.go 18 (.go 19 .nil))))))))))) (.go 8 (.go 9 (.take 10 (.take 11 (.take 12 (.take 13 (.take 14 (.go 16 (.go 17 (.go 18 (.go 19 .nil)))))))))))))))))))) (by kernel_rfl) (by kernel_rfl) a9 ?_;clear a9
    iterate 8
     refine' pT ?_ ?_;rotate_left
     ·intro x;go_simp
      try rfl
     try simp only[pu]
    refine gL ?_ ?_
    ·skip
     refine pD fun K hK=>?_;go_simp;refine(HJ.c HJ.a).mono ?_;rintro e w3 ⟨ka,vb,Sa,S2,o2,rfl,h3,k3,f3,n1,n2,g3⟩;have H3:=kq3 h3 (HJ.b.trans k3) (JJ f3 n1 n2 g3 HJ.e.1 HJ.e.2);clear h3 k3 f3 n1 n2 g3
     try go_simp
     refine hK.out _ _ (HI.out _ H3.b H3.a.cell.1) ?_;clear hK K
     try simp only[pu]
     refine gL ?_ ?_
     ·skip
      refine pD fun K hK=>?_;go_simp;refine(HJ.d H3.a H3.c).mono ?_;rintro e w4 ⟨x,S',rfl,h4,k4,hp⟩;have H4:=kq3 h4 (H3.b.trans k4) hp;clear h4 k4 hp
      try go_simp
      refine hK.out _ _ (HI.out _ H4.b H4.a.cell.1) ?_;clear hK K
      try simp only[pu]
      iterate 5
       refine' pT ?_ ?_;rotate_left
       ·intro x;go_simp
        try rfl
       try simp only[pu]
      have A5:=(ab w4.heap.size w4).alloc Ih (.cells #[Xu 0,Xu 0] 104);have q5:=heap_alloc_new w4 (.cells #[Xu 0,Xu 0] 104);have yl:∀k,Y3 k->k<w4.heap.size:=fun k hk=>H4.a.st.yl k (aa hk);have H5:=kq2 (H4.a.below A5) (H4.b.trans (Fo.of_below A5 yl));obtain⟨c0,c1⟩:=Fp q5;obtain⟨f0,f1⟩:=ef q5;clear A5 q5 yl;refine pD fun K hK=>?_;go_simp
      try go_simp
      refine hK.out _ _ (HI.out _ H5.b H5.a.cell.1) ?_;clear hK K
      try simp only[pu]
      refine pD fun K hK=>?_;go_simp
      try go_simp
      refine hK.out _ _ (HI.out _ H5.b H5.a.cell.1) ?_;clear hK K
      try simp only[pu]
      refine pD fun K hK=>?_;go_simp
      try go_simp
      refine hK.out _ _ (HI.out _ H5.b H5.a.cell.1) ?_;clear hK K
      try simp only[pu]
      refine pD fun K hK=>?_;go_simp
      try go_simp
      refine hK.out _ _ (HI.out _ H5.b H5.a.cell.1) ?_;clear hK K
      try simp only[pu]
      refine pD fun K hK=>?_;go_simp
      try go_simp
      refine hK.out _ _ (HI.out _ H5.b H5.a.cell.1) ?_;clear hK K
      try simp only[pu]
      refine eP ?_;go_wp2_with fail
      go_meet
      exact⟨x,rfl,rfl,rfl,HF.out _ x S' H5.b H5.a H4.c⟩
     ·skip
      have A5:=(ab w3.heap.size w3).alloc Ih (.cells #[Xu 0,Xu 0] 104);have q5:=heap_alloc_new w3 (.cells #[Xu 0,Xu 0] 104);have z5:(w3.alloc (.cells #[Xu 0,Xu 0] 104)).heap.size=w3.heap.size+1:=by simp
      have yl:∀k,Y3 k->k<w3.heap.size:=fun k hk=>H3.a.st.yl k (aa hk);have h5:=H3.a.wide A5;rw[z5] at h5;have H5:=kq4 h5 (H3.b.trans (Fo.of_below A5 yl)) q5 yl;clear A5 q5 yl h5 z5;refine pD fun K hK=>?_;go_simp
      try go_simp
      refine hK.out _ _ (HI.out _ H5.b H5.a.cell.1) ?_;clear hK K
      try simp only[pu]
      refine pD fun K hK=>?_;go_simp;refine(HJ.d H5.a H3.c).mono ?_;rintro e w4 ⟨x,S',rfl,h4,k4,hp⟩;have k6:=H5.b.trans (k4.mono fun k hk=>aa hk);have q4:=(k4.block w3.heap.size (ae ⟨Nat.le_refl _,aG _⟩)).trans H5.c;obtain⟨c0,c1⟩:=Fp q4;obtain⟨f0,f1⟩:=ef q4;have h6:=h4.write (w':=((w4.setCell ⟨w3.heap.size,0,none⟩ (Xu 0)).setCell ⟨w3.heap.size,1,none⟩ (Xu 0))) (ae ⟨Nat.le_refl _,aG _⟩) q4 ⟨by decide,by decide⟩ (by simp) (by simp) fun k _ hk=>(FB hk).trans (FB hk);have k7:Fo Y3 W1 ((w4.setCell ⟨w3.heap.size,0,none⟩ (Xu 0)).setCell ⟨w3.heap.size,1,none⟩ (Xu 0)):=⟨k6.os,k6.tape,k6.output,by simpa using k6.size,fun k hk=>by
       have a0:k≠w3.heap.size:=by have:k<w3.heap.size:=H5.d k hk;omega
       exact(FB a0).trans ((FB a0).trans (k6.block k hk))⟩
      exact qXhaa
    ·skip
     have A5:=(ab W1.drew.heap.size W1.drew).alloc Ih (.cells #[Xu 0,Xu 0] 104);have q5:=heap_alloc_new W1.drew (.cells #[Xu 0,Xu 0] 104);have z5:(W1.drew.alloc (.cells #[Xu 0,Xu 0] 104)).heap.size=W1.drew.heap.size+1:=by simp
     have yl:∀k,Y3 k->k<W1.drew.heap.size:=fun k hk=>HJ.a.st.yl k (aa hk);have h5:=HJ.a.wide A5;rw[z5] at h5;have H5:=kq4 h5 (HJ.b.trans (Fo.of_below A5 yl)) q5 yl;clear A5 q5 yl h5 z5;refine pD fun K hK=>?_;go_simp
     try go_simp
     refine hK.out _ _ (HI.out _ H5.b H5.a.cell.1) ?_;clear hK K
     try simp only[pu]
     refine pD fun K hK=>?_;go_simp;refine(HJ.c H5.a).mono ?_;rintro e w3 ⟨ka,vb,Sa,S2,o2,rfl,h3,k3,f3,n1,n2,g3⟩;have q3:=(k3.block W1.heap.size (ae ⟨Nat.le_refl _,aG _⟩)).trans H5.c;have H3:=kq2 (JJ f3 n1 n2 g3 HJ.e.1 HJ.e.2) H5.d;have HX:=kq4 h3 (H5.b.trans (k3.mono fun k hk=>aa hk)) q3 H5.d;clear h3 k3 f3 n1 n2 g3 q3 H5;have H5:=HX;clear HX
     try go_simp
     refine hK.out _ _ (HI.out _ H5.out.2.1 H5.out.1.cell.1) ?_;clear hK K
     try simp only[pu]
     refine pD fun K hK=>?_;go_simp;refine(HJ.d H5.out.1 H3.a).mono ?_;rintro e w4 ⟨x,S',rfl,h4,k4,hp⟩;have k6:=H5.out.2.1.trans (k4.mono fun k hk=>aa hk);have q4:=(k4.block W1.heap.size (ae ⟨Nat.le_refl _,aG _⟩)).trans H5.out.2.2.1;obtain⟨c0,c1⟩:=Fp q4;obtain⟨f0,f1⟩:=ef q4;have h6:=h4.write (w':=((w4.setCell ⟨W1.heap.size,0,none⟩ (Xu 0)).setCell ⟨W1.heap.size,1,none⟩ (Xu 0))) (ae ⟨Nat.le_refl _,aG _⟩) q4 ⟨by decide,by decide⟩ (by simp) (by simp) fun k _ hk=>(FB hk).trans (FB hk);have k7:Fo Y3 W1 ((w4.setCell ⟨W1.heap.size,0,none⟩ (Xu 0)).setCell ⟨W1.heap.size,1,none⟩ (Xu 0)):=⟨k6.os,k6.tape,k6.output,by simpa using k6.size,fun k hk=>by
      have a0:k≠W1.heap.size:=by have:k<W1.heap.size:=H5.out.2.2.2 k hk;omega
      exact(FB a0).trans ((FB a0).trans (k6.block k hk))⟩
     exact qXhaa
   case rest=>
    obtain⟨x,rfl,rfl,rfl,J1⟩:=hcut;have x6:=J1.out.2.2;have c0:(wc).cell? ⟨b+1+1,0,none⟩=some (Xu root):=by rw[cell_of_block x6];rfl
    have f0:(wc).frozen? ⟨b+1+1,0,none⟩=false:=AT x6;have hx:(∃S',mA (wc.setCell ⟨b+1+1,0,none⟩ (Xu x)) ps bb D t Y2 S kind (l.take (j+1)) x (20*(m-(j+1))) (9*(m-(j+1))) S')/\Fo (fun k=>Y2 k/\k≠b+1+1) W0 (wc.setCell ⟨b+1+1,0,none⟩ (Xu x))/\(wc.setCell ⟨b+1+1,0,none⟩ (Xu x)).heap[b+1+1]?=some (Xf x):=by
     obtain⟨⟨S',r⟩,kk,_⟩:=J1.out;exact⟨⟨S',r.bl.write HG.e.2.2 x6 ⟨by decide,by decide⟩ (by simp) (by simp) fun k _ hk=>FB hk,r.ex,r.sp,r.ap,r.gr⟩,kk.trans ⟨rfl,rfl,rfl,by simp,fun k hk=>FB hk.2⟩,heap_setCell x6⟩
    have HX:=If hx;clear hx x6 J1;go_wp2_with fail;go_roundw
    case rel=>
     exact⟨j+1,x,by simp,by omega,HX.out⟩
    case measure=>simp[intOf];omega
  ·obtain rfl:j=m:=by omega
   have b0:¬(j:Int)<j:=by omega
   obtain⟨⟨S1,hw⟩,kw,x6⟩:=J0.out;rw[aZ (dS HG.k)] at hw;have x3:=(kw.block b ⟨HG.e.1,by omega⟩).trans HG.f;have x4:=(kw.block (b+1) ⟨HG.e.2.1,by omega⟩).trans HG.g;have c0:(wr).cell? ⟨b+1+1,0,none⟩=some (Xu root):=by rw[cell_of_block x6];rfl
   have f0:(wr).frozen? ⟨b+1+1,0,none⟩=false:=AT x6;have y6:=heap_setCell (i:=0) (v:=Xu root) x6;have hB:=hw.bl.write (w':=wr.setCell ⟨b+1+1,0,none⟩ (Xu root)) HG.e.2.2 x6 ⟨by decide,by decide⟩ (by simp) (by simp) fun k _ hk=>FB hk;obtain⟨o1,R1,hH,an⟩:=hw.ex;have bd:=J2 hB (by have:=HG.k;omega) hH ((FB (by omega)).trans x3) ((FB (by omega)).trans x4) y6 HG.e.1;have HE:=kq6 bd hw hH an y6 (kw.trans (⟨rfl,rfl,rfl,by simp,fun k hk=>FB hk.2⟩:Fo (fun k=>Y2 k/\k≠b+1+1) wr (wr.setCell ⟨b+1+1,0,none⟩ (Xu root))));clear hw kw x6 x3 x4 y6 hB hH an bd;go_wp2_with fail;refine leaves_cons (f:=136) (args:=#[PV b,PV (b+1),PV (b+1+1)]) (by simp) (by simp[go_sem]) ?_;refine HE.a.mono ?_;rintro e u' b2 ⟨rfl,rfl,m',bv,k2⟩;have z6:=(k2.block _ HG.e.2.2).trans HE.e;have e0:(b2).cell? ⟨b+1+1,0,none⟩=some (Xu root):=by rw[cell_of_block z6];rfl
   refine⟨Xu root,by simp[results,f90,go_sem,e0],root,rfl,S1,⟨m',bv.mono fun k hk=>(HG.d k hk).1⟩,HG.b.trans ((HE.f.mono HG.d).trans (k2.mono fun k hk=>(HG.d k hk).1)),o1,R1,HE.c,HE.d,HE.b.ap,?_⟩;have:=HE.b.gr;rwa[HG.k] at this
theorem JP(a b c d:Value)(w:World):
 CallsD prog 89 #[a,b,c,d] .returning w fun e u' w'=>e=.returned (.tuple #[])/\u'=.returning/\w'=w:=by
 refine callsD_of_wpS func89 rfl fun c₀ cs hu=>?_;apply wpS_seq;apply wpS_region
 simp[wpOpsS,go_sem,recoverD,hu,ntmps89,Exit.thenS]
 apply wpS_seq;apply wpS_seq;apply wpS_region
 simp[wpOpsS,go_sem,Exit.thenS]
 refine wpS_cond (t:=true) (by simp[Act.eval]) ?_;simp only[if_true];refine wpS_of_wp (wp_ret ?_)
 cases c₀
 simp_all [bodyPostS,results,results89,Exit.thenS]
theorem wb {w:World}{ps t kind:Nat}{S:St}{Y:Nat->Prop}(h:Ig w ps S Y)(hi:Fv S)(hk:kind=1\/kind=2\/kind=3/\2<=t/\t<=16):
 Ct 87 #[PV ps,Xi kind,Xi t] w fun e w'=>e=.returned (Xi 0)/\w=w':=by
 rcases hk with rfl | rfl | ⟨rfl,t1,t2⟩
 ·exact zY h hi (aa rfl) t
 ·exact zY h hi (ae rfl) t
 ·exact zZ h hi t1 t2
def qZ(ps kind:Nat)(S:St)(A:Option Addr)(n c:Nat)(l:List (List UInt8×List UInt8))(Q:Nat->St->Prop)(f:FuncId)(args:Nat->Array Value):Prop:=
 ∀(W:World) (Z:Nat->Prop) (bb D:Nat),dU W ps S Z bb D kind 0->mm W Z A n c l->Ct f (args bb) W fun e w'=>∃root S',e=.returned (Xu (root:Nat))/\(∃m,dU w' ps S' Z bb D kind m)/\Fo Z W w'/\Q root S'
theorem wk {Q:Nat->St->Prop}{w:World}{ps t n c kind:Nat}{A:Option Addr}{S:St}{Y:Nat->Prop}{l:List (List UInt8×List UInt8)}(h:Ig w ps S Y)(hi:Fv S)(hk:kind=1\/kind=2\/kind=3/\2<=t/\t<=16)(hR:mm w Y A n c l)(hs:l.Pairwise fun p q=>Fu p.1 q.1<0)(hl:∀p∈l,p.1.length<=1000/\p.2.length<=1000)(hn:n<=100)
 (h3:kind=3->qZ ps kind S A n c l Q 90 fun bb=>#[PV bb,Xi t,.slice A n c])
 (ai:kind≠3->qZ ps kind S A n c l Q 91 fun bb=>#[PV bb,.slice A n c]):
 Ct 49 #[PV ps,Xi kind,Xi t,.slice A n c] w fun e w'=>∃root S',e=.returned (.tuple #[Xu (root:Nat),Xi 0])/\Ig w' ps S' Y/\Fo Y w w'/\Q root S':=by
 obtain⟨rfl,bk,hc⟩:=hR;obtain⟨b,hb⟩:=Ii w.heap.size;have B1:=(ab w.heap.size w).alloc Ih (Xh ps);have q1:=heap_alloc_new w (Xh ps);have z1:(w.alloc (Xh ps)).heap.size=b+1:=by simp[hb]
 have A2:=(ab (w.alloc (Xh ps)).heap.size (w.alloc (Xh ps))).alloc Ih (.cells #[Xu 0] 61);have q2:=heap_alloc_new (w.alloc (Xh ps)) (.cells #[Xu 0] 61);have z2:((w.alloc (Xh ps)).alloc (.cells #[Xu 0] 61)).heap.size=b+1+1:=by simp[hb]
 have A3:=(ab ((w.alloc (Xh ps)).alloc (.cells #[Xu 0] 61)).heap.size ((w.alloc (Xh ps)).alloc (.cells #[Xu 0] 61))).alloc Ih (.cells #[Xi 0] 27);have q3:=heap_alloc_new ((w.alloc (Xh ps)).alloc (.cells #[Xu 0] 61)) (.cells #[Xi 0] 27);have z3:(((w.alloc (Xh ps)).alloc (.cells #[Xu 0] 61)).alloc (.cells #[Xi 0] 27)).heap.size=b+3:=by simp[hb]
 have B3:=(B1.trans (A2.mono B1.size)).trans (A3.mono (B1.trans (A2.mono B1.size)).size);have r1:=(A3.block b (by omega)).trans ((A2.block b (by omega)).trans (hb▸q1));have r2:=(A3.block (b+1) (by omega)).trans (z1▸q2);rw[z2] at q3;have hW:=h.wide B3;have hK:=h.keep B3;rw[z3,hb] at hW;have a9:=wb hW hi hk;have an:=ns h;have a':∀V,Fo Y w V->∀j (hj:j<l.length),∃g o,A=some ⟨g,o,none⟩/\V.cell? ⟨g,o+j*2,none⟩=some (SV l[j].1)/\V.cell? ⟨g,o+j*2+1,none⟩=some (SV l[j].2):=fun V hV j hj=>by
  obtain⟨g,o,e,hc⟩:=hc (by omega);exact⟨g,o,e,hc V hV j hj⟩
 have ad:=h.yl;rw[hb] at ad an;obtain⟨m,hm⟩:=Ii l.length;have HG:=If (And.intro a9 (And.intro hW (And.intro hK (And.intro a' (And.intro r1 (And.intro r2 (And.intro q3 (And.intro z3 (And.intro hs (And.intro hl (And.intro hm (And.intro hk (And.intro h3 (And.intro ai (And.intro an (And.intro ad hc))))))))))))))));have b0:m<=100:=by omega
 rw[hm] at bk⊢;have a0:((((w.alloc (Xh ps)).alloc (.cells #[Xu 0] 61)).alloc (.cells #[Xi 0] 27))).cell? ⟨b,0,none⟩=some (PV ps):=by rw[cell_of_block r1];rfl
 clear a9 hW hK a' r1 r2 q1 q2 q3 z1 z2 z3 A2 A3 B1 B3 hs hl hm hc hk h hi h3 ai hn an ad;go_enter_defers func49,ntmps49
 go_wp2_with fail;refine Jc HG.out.1 ?_;go_wp2_with fail;generalize (((w.alloc (Xh ps)).alloc (.cells #[Xu 0] 61)).alloc (.cells #[Xi 0] 27))=W0 at*;clear a0;go_loopw [11] (fun s11 wr=>∃j:Nat,s11=Xi ((j+1:Nat):Int)/\(j<=m)/\Hid (Below W0.heap.size W0 wr)) (fun s11 _=>m+1-(intOf s11).toNat)
 case atStart=>exact⟨0,rfl,by omega,ab _ _⟩
 case round=>
  obtain⟨j,rfl,bs,J0⟩:=hrel;by_cases hj:j+1<m
  ·have bf:((j+1:Nat):Int)<m:=by omega
   have bc:j<l.length:=by have:=HG.out.2.2.2.2.2.2.2.2.2.2.1;omega
   have bd:j+1<l.length:=by have:=HG.out.2.2.2.2.2.2.2.2.2.2.1;omega
   have al:=HG.out.2.2.1.trans (HG.out.2.1.mono (Z:=Y) (fun k hk=>aa hk) |>.keep J0.out);obtain⟨g,o5,rfl,c0,_⟩:=HG.out.2.2.2.1 wr al j bc;obtain⟨g',o',eA,d0,_⟩:=HG.out.2.2.2.1 wr al (j+1) bd;injection eA with eA
   injection eA with e1 e2
   subst e1 e2;have bj:Fu l[j].1 l[j+1].1<0:=bJ.1 HG.out.2.2.2.2.2.2.2.2.1 j (j+1) bc bd (by omega);have bm:=fun W=>sT l[j].1 l[j+1].1 W;generalize l[j].1=x at*;generalize l[j+1].1=y at*;have bu:¬(0<=Fu x y):=by omega
   generalize Fu x y=cv at*;obtain⟨I,a1,a5⟩:=lB (fun w'=>w'.cell? ⟨g,o5+j*2,none⟩=some (SV x)) (fun w'=>w'.cell? ⟨g,o5+(j+1)*2,none⟩=some (SV y));have m0:=fun x:Fq I=>(a1 _ x.ok).1;have m1:=fun x:Fq I=>(a1 _ x.ok).2;have au:I wr.drew:=a5 _ c0 d0;have ck:(j:Int)<(m:Int):=by omega
   have cm:(m:Int)<=c:=by omega
   have cc:(j:Int)+1<(m:Int):=by omega
   have cp:0<=(j:Int)+1:=by omega
   have wj:IntKind.i64.wrap (j:Int)=j:=aB _ (by omega);have b2:IntKind.i64.wrap ((j:Int)+1+1)=(j:Int)+1+1:=aB _ (by omega);have HI:=kq3 bm au bj;clear a1 a5 c0 d0 bm al bj;go_wp2_with fail;refine fh I (.take 0 (.take 1 (.take 2 (.take 3 (.take 4 (.take 5 (.take 6 (.take 7 (.take 8 (.take 9 (.take 10 (.go 11 (.take 12 .nil))))))))))))) (by kernel_rfl) (by kernel_rfl) au ?_;clear au;iterate 11
    refine' pT ?_ ?_;rotate_left
    ·intro x;go_simp;try rfl
    try simp only[pu]
   refine pD fun K hK=>?_;go_simp;refine Jc (HI.a _) ?_;try go_simp
   refine hK.out _ _ (HI.b) ?_;clear hK K;try simp only[pu]
   refine' pT ?_ ?_;rotate_left
   ·intro x;go_simp;try rfl
   try simp only[pu]
   refine eP ?_;clear m0 m1;go_wp2_with fail;go_roundw
   case rel=>exact⟨j+1,by simp,by omega,J0.out.drew⟩
   case measure=>simp[intOf];omega
  ·have bf:¬((j:Int)+1<m):=by omega
   go_wp2_with fail;clear hj bf bs;have a7:=J0.out;have HB:=If a7;clear J0 a7;go_loopw [13,43] (fun _ s43 wq=>∃i:Nat,s43=Xi i/\i<=m/\Hid (Below W0.heap.size W0 wq)) (fun _ s43 _=>m-(intOf s43).toNat)
   case atStart=>exact⟨0,rfl,by omega,HB.out⟩
   case round=>
    obtain⟨i,rfl,bv,J0⟩:=hrel;by_cases hi:i<m
    ·have bo:(i:Int)<m:=by omega
     have ba:i<l.length:=by have:=HG.out.2.2.2.2.2.2.2.2.2.2.1;omega
     have al:=HG.out.2.2.1.trans (HG.out.2.1.mono (Z:=Y) (fun k hk=>aa hk) |>.keep J0.out);obtain⟨g,o5,rfl,c0,c1⟩:=HG.out.2.2.2.1 _ al i ba;obtain⟨x1,y1⟩:=HG.out.2.2.2.2.2.2.2.2.2.1 l[i] (aF ba);generalize l[i].1=x at*;generalize l[i].2=y at*;have x2:¬(1000<x.length):=by omega
     have y2:¬(1000<y.length):=by omega
     have x3:¬((1000:Int)<x.length):=by omega
     have y3:¬((1000:Int)<y.length):=by omega
     have cm:(m:Int)<=c:=by omega
     clear al x1 y1;go_wp2_with fail;go_roundw
     case rel=>exact⟨i+1,by simp,by omega,J0.out.alloc J0.out.size _⟩
     case measure=>simp[intOf];omega
    ·have bo:¬((i:Int)<m):=by omega
     obtain rfl:i=m:=by omega
     have P0:=J0.out;obtain⟨_,hW,hK,_,r1,r2,r3,z3,_,_,hm,hk,h3,ai,an,ad,hc⟩:=HG.out;rw[hm] at h3 ai;obtain⟨d,hd⟩:=Ii wr.heap.size;have bt:b+3<=d:=by have:=P0.size;omega
     have x0:=(P0.block b (by omega)).trans r1;have c0:(wr).cell? ⟨b,0,none⟩=some (PV ps):=by rw[cell_of_block x0];rfl
     have A1:=(ab wr.heap.size wr).alloc Ih (Xn ps kind);have q1:=heap_alloc_new wr (Xn ps kind);have z1:(wr.alloc (Xn ps kind)).heap.size=d+1:=by simp[hd]
     have A2:=(ab (wr.alloc (Xn ps kind)).heap.size (wr.alloc (Xn ps kind))).alloc Ih (Xo d);have q2:=heap_alloc_new (wr.alloc (Xn ps kind)) (Xo d);have z2:((wr.alloc (Xn ps kind)).alloc (Xo d)).heap.size=d+2:=by simp[hd]
     rw[z1] at q2;have A3:=A1.trans (A2.mono A1.size);have q3:=(A2.block d (by omega)).trans (hd▸q1);have ar:=(hW.below P0).wide A3;have kW:=(hW.below P0).keep A3;rw[z2,hd] at ar;generalize a8:(wr.alloc (Xn ps kind)).alloc (Xo d)=W2 at A3 q2 q3 ar z2 kW;have P2:Below W0.heap.size W0 W2:=P0.trans (A3.mono P0.size);obtain⟨Z,hZ⟩:∃Z:Nat->Prop,(fun k=>(Y k\/(b<=k/\k<b+3))\/k=d+1)=Z:=⟨_,rfl⟩;have zy:∀k,Y k->Z k:=fun k hk=>by rw[<-hZ];exact aa (aa hk)
     have zb:Z (b+1)/\Z (b+1+1):=by rw[<-hZ];exact⟨aa (ae ⟨by omega,by omega⟩),aa (ae ⟨by omega,by omega⟩)⟩
     have a6:Ig W2 ps S (fun k=>(Z k\/k=d)\/(Value.slice none 0 0).ownBlock=some k):=by
      refine ar.mono ?_;rintro k ((hk | hk) | hk)
      ·rw[<-hZ] at hk;rcases hk with (hk | hk) | hk
       ·exact aa (aa hk)
       ·exact aa (ae hk)
       ·exact ae ⟨by omega,by omega⟩
      ·exact ae ⟨by omega,by omega⟩
      ·cases hk
     have hB:dU W2 ps S Z d b kind 0:=⟨⟨.slice none 0 0,[],a6,q3,⟨by simp[hV],aa ⟨rfl,rfl⟩⟩,rfl,(fun g e=>nomatch e)⟩,⟨an,by omega⟩,fun k hk=>by
      rw[<-hZ] at hk;rcases hk with (hk | hk) | hk
      ·have:=ad k hk;omega
      ·omega
      ·omega⟩
     have kY:Fo Y w W2:=hK.trans (hW.mono (Z:=Y) (fun k hk=>aa hk) |>.keep P2);have a2:mm W2 Z A i c l:=⟨hm.symm,bk,fun hp=>by
      obtain⟨g,o,e,hh⟩:=hc (by omega);exact⟨g,o,e,fun V hV=>hh V (kY.trans (hV.mono zy))⟩⟩
     have x1:=(P2.block (b+1) (by omega)).trans r2;have x2:=(P2.block (b+1+1) (by omega)).trans r3;have HX:=kq8 (fun e=>h3 e W2 Z d b hB a2) (fun e=>ai e W2 Z d b hB a2) x1 x2 zb zy kY ad;clear A1 A2 A3 q1 q2 q3 z1 z2 ar a6 kW P2 hB a2 x1 x2 zb zy kY hZ hW hK r1 r2 r3 hm h3 ai an ad hc P0 J0 HG HB;rcases hk with rfl | rfl | ⟨rfl,_⟩
     all_goals
      go_wp2_with fail;first | have hh:=HX.b (by decide) | have hh:=HX.a (by decide)
      rw[<-a8] at hh;refine hh.mono ?_;rintro e w3 ⟨root,S',rfl,⟨m',a3⟩,k3,hq⟩;rw[a8] at k3;clear hh;have e1:=(k3.block (b+1) HX.e.1).trans HX.c;have e2:=(k3.block (b+1+1) HX.e.2).trans HX.d;have g0:(w3).cell? ⟨b+1,0,none⟩=some (Xu 0):=by rw[cell_of_block e1];rfl
      have h0:(w3).frozen? ⟨b+1,0,none⟩=false:=AT e1;have y1:=heap_setCell (i:=0) (v:=Xu root) e1;have e3:(w3.setCell ⟨b+1,0,none⟩ (Xu root)).heap[b+1+1]?=_:=(FB (by omega)).trans e2;have i0:((w3.setCell ⟨b+1,0,none⟩ (Xu root))).cell? ⟨b+1+1,0,none⟩=some (Xi 0):=by rw[cell_of_block e3];rfl
      have j0:((w3.setCell ⟨b+1,0,none⟩ (Xu root))).frozen? ⟨b+1+1,0,none⟩=false:=AT e3;have y2:=heap_setCell (i:=0) (v:=Xi 0) e3;have y3:=(FB (w:=w3.setCell ⟨b+1,0,none⟩ (Xu root)) (b:=b+1+1) (i:=0) (v:=Xi 0) (by omega:b+1≠b+1+1)).trans y1;have a4:=(a3.write HX.e.1 e1 ⟨by decide,by decide⟩ (by simp) (by simp) fun k _ hk=>FB hk).write (w':=(w3.setCell ⟨b+1,0,none⟩ (Xu root)).setCell ⟨b+1+1,0,none⟩ (Xi 0)) HX.e.2 e3 ⟨by decide,by decide⟩ (by simp) (by simp) fun k _ hk=>FB hk;have k4:Fo Y w3 ((w3.setCell ⟨b+1,0,none⟩ (Xu root)).setCell ⟨b+1+1,0,none⟩ (Xi 0)):=⟨rfl,rfl,rfl,by simp,fun k hk=>by
       have:=HX.h k hk;exact(FB (by omega)).trans (FB (by omega))⟩
      have HY:=kq3 (a4.st.mono (Z:=Y) fun k hk=>aa (HX.f k hk)) (HX.g.trans ((k3.mono HX.f).trans k4)) hq;have HZ:=kq2 y3 y2;clear a4 k4 k3 a3 hq y1 y2 y3 e1 e2 e3;go_wp2_with fail;refine leaves_cons (f:=89) (args:=#[PV (d+1),PV b,PV (b+1),PV (b+1+1)]) (by simp) (by simp[go_sem]) ?_;refine(JP _ _ _ _ _).mono ?_;rintro e u' b1 ⟨rfl,rfl,rfl⟩;have y3:=HZ.a;have y2:=HZ.b;have a0:(((w3.setCell ⟨b+1,0,none⟩ (Xu root)).setCell ⟨b+1+1,0,none⟩ (Xi 0))).cell? ⟨b+1,0,none⟩=some (Xu root):=by rw[cell_of_block y3];rfl
      have c0:(((w3.setCell ⟨b+1,0,none⟩ (Xu root)).setCell ⟨b+1+1,0,none⟩ (Xi 0))).cell? ⟨b+1+1,0,none⟩=some (Xi 0):=by rw[cell_of_block y2];rfl
      refine⟨.tuple #[Xu root,Xi 0],by simp[results,f49,go_sem,a0,c0],root,S',rfl,HY.out⟩
theorem J3 {w:World}{ps:Nat}{S:St}{Y:Nat->Prop}(h:Ig w ps S Y)(hi:Fv S):
 Cb 93 #[PV ps,Xu 0] w (Xi 0):=by
 have ad:=xS h hi;have ai:=fun W (hb:Below w.heap.size w W)=>sY (h.below hb);have HG:=kq2 ad ai;clear ad ai h hi;go_enter func93,ntmps93;go_wp2_with fail;refine wx HG.a fun w1 b1=>?_;go_wp2_with fail;refine wx (HG.b _ b1) fun w2 b2=>?_;have B2:=If (b1.trans (b2.mono b1.size));clear b1 b2;go_wp2_with fail
 go_loopw [7,8,9,20] (fun _ _ _ k wr=>k=Xi 0/\wr=w2) (fun _ _ _ _ _=>0)
 case atStart=>exact⟨rfl,rfl⟩
 case round=>
  obtain⟨rfl,rfl⟩:=hrel;go_wp2_with fail;go_ret;exact⟨rfl,B2.out⟩
theorem JM {w:World}{ps:Nat}{S:St}{o:Nat->Nat}{Y:Nat->Prop}(h:Ig w ps S Y)(hf:Fw S o){t:Nat}(t1:2<=t)(t2:t<=16):
 Cb 92 #[PV ps,Xi t,Xu 0] w (Xi 0):=by
 have ad:=zU h hf.inv t1 t2;have ai:=zV h hf t1 t2;have al:=fun W (hb:Below w.heap.size w W)=>wa (h.below hb) (aa ⟨⟨hf,t1,t2⟩,rfl,rfl,rfl⟩:Bt.Holds S o t 0 [] []);have HG:=kq3 ad ai al;clear ad ai al h hf;go_enter func92,ntmps92;go_wp2_with fail;refine Jc HG.a ?_;go_wp2_with fail;refine wx HG.b fun w2 b2=>?_;have B2:=If b2;clear b2;go_wp2_with fail
 go_loopw [9,24] (fun _ k wr=>k=Xi 0/\wr=w2) (fun _ _ _=>0)
 case atStart=>exact⟨rfl,rfl⟩
 case round=>
  obtain⟨rfl,rfl⟩:=hrel;go_wp2_with fail;refine(HG.c _ B2.out).mono ?_;rintro e w3 ⟨v,N,rfl,ho,b3,_,hN⟩;obtain rfl:N=[]:=by
   rcases hN with⟨_,_,_,_,rfl⟩ | ⟨_,_,hx,h0,_⟩
   ·rfl
   ·exact absurd h0.symm (Bt.At.hd_ok hx.fit hx.at').1
  obtain⟨A,c,rfl⟩:=ho.slice2;have B3:=If (B2.out.trans (b3.mono B2.out.size));clear b3 ho hN;go_wp2_with fail
  go_loopw [11,42] (fun _ k wr=>k=Xi 0/\wr=w3) (fun _ _ _=>0)
  case atStart=>exact⟨rfl,rfl⟩
  case round=>
   obtain⟨rfl,rfl⟩:=hrel;go_wp2_with fail;go_ret;exact⟨rfl,B3.out⟩
theorem wl {w:World}{ps t kind:Nat}{S:St}{o:Nat->Nat}{Y:Nat->Prop}(h:Ig w ps S Y)(hf:Fw S o)(hk:kind=1\/kind=2\/kind=3/\2<=t/\t<=16):
 Cb 50 #[PV ps,Xi kind,Xi t,Xu 0] w (Xi 0):=by
 have ad:=wb h hf.inv hk;have al:=J3 h hf.inv;have ai:=fun(q:kind=3/\2<=t/\t<=16)=>JM h hf q.2.1 q.2.2;have HG:=kq3 ad al ai;clear ad al ai h hf;go_enter func50,ntmps50;go_wp2_with fail;refine Jc HG.a ?_
 rcases hk with rfl | rfl | ⟨rfl,q⟩
 all_goals
  go_wp2_with fail
  first | refine HG.b.mono ?_ | refine(HG.c ⟨by decide,q⟩).mono ?_
  rintro e w2 ⟨rfl,b2⟩;go_wp2_with fail;go_ret;exact⟨rfl,b2⟩
theorem JI {Q:Nat->St->Prop}{w:World}{px ps kind td n c:Nat}{ty:TypeId}{kv:Value}{A:Option Addr}{S:St}{Y:Nat->Prop}(h:Ig w ps S Y)(hT:FF w px ps ty kv kind td 0)(hy:Y px)
 (hb:∀W,Fo Y w W->Ig W ps S Y->Ct 49 #[PV ps,Xi kind,Xi td,.slice A n c] W fun e w'=>∃root S',e=.returned (.tuple #[Xu (root:Nat),Xi 0])/\Ig w' ps S' Y/\Fo Y W w'/\Q root S')
 (hf:∀root S' W,Q root S'->Ig W ps S' Y->Cb 50 #[PV ps,Xi kind,Xi td,Xu 0] W (Xi 0)):
 Ct 14 #[PV px,.slice A n c] w fun e w'=>∃root S',e=.returned (Xi 0)/\Ig w' ps S' Y/\Fo (fun k=>Y k/\k≠px) w w'/\FF w' px ps ty kv kind td root/\Q root S':=by
 have hn:=mW hT;have d1:Fo Y w w.drew:=⟨rfl,rfl,rfl,Nat.le_refl _,fun _ _=>rfl⟩;have hs:=hb _ d1 (h.below (ab _ _).drew);obtain⟨I,au,ad⟩:=kN px ps ty kv kind td 0;have ai:=fun x:Fq I=>au _ x.ok;simp only[FF] at ai;obtain⟨m0,m1,m2,m3,m4⟩:=iK ai;have an:I w.drew:=ad _ hT;have HG:=kq7 hn hs hT ad hf d1 hy;clear hn hs hT au ad ai hf hb d1 hy h;go_enter func14,ntmps14;go_wp2_with fail;refine Jc HG.a ?_;go_wp2_with fail;refine fh I (.take 0 (.take 1 (.take 2 (.take 3 (.take 4 (.take 5 (.take 6 (.take 7 (.take 8 (.take 9 (.take 10 (.take 11 (.take 12 (.go 13 (.take 14 (.take 15 (.take 16 (.go 17 (.go 18 .nil))))))))))))))))))) (by kernel_rfl) (by kernel_rfl) an ?_;iterate 13
  refine' pT ?_ ?_;rotate_left
  ·intro x;go_simp;try rfl
  try simp only[pu]
 refine pD fun K hK=>?_;go_simp;refine HG.b.mono ?_;rintro e w2 ⟨root,S',rfl,h2,k2,hq⟩;have al:=HG.f.trans k2;have T2:=FF.keep HG.c al HG.g;have a0:=HG.e root S' w2.drew hq (h2.below (ab _ _).drew);have H2:=kq5 h2 al hq T2 a0;clear h2 k2 al hq T2 a0;try go_simp
 refine hK.out _ _ (HG.d _ H2.d) ?_;clear hK K;try simp only[pu]
 iterate 3
  refine' pT ?_ ?_;rotate_left
  ·intro x;go_simp;try rfl
  try simp only[pu]
 refine pD fun K hK=>?_;go_simp;try go_simp
 refine hK.out _ _ (HG.d _ H2.d) ?_;clear hK K;try simp only[pu]
 refine pD fun K hK=>?_;go_simp;try go_simp
 refine hK.out _ _ (HG.d _ H2.d) ?_;clear hK K;try simp only[pu]
 refine eP ?_;have ar:I w2.drew:=HG.d _ H2.d;go_wp2_with fail;refine fh I (.take 0 (.take 1 (.take 2 (.take 3 (.take 4 (.take 5 (.take 6 (.take 7 (.take 8 (.take 9 (.take 10 (.take 11 (.take 12 (.take 13 (.take 14 (.take 15 (.go 16 .nil))))))))))))))))) (by kernel_rfl) (by kernel_rfl) ar ?_;iterate 16
  refine' pT ?_ ?_;rotate_left
  ·intro x;go_simp;try rfl
  try simp only[pu]
 refine pD fun K hK=>?_;go_simp;refine wx H2.e fun w3 b3=>?_;have B3:=(ab w2.heap.size w2).drew.trans b3;have h3:=H2.a.below B3;have k3:=H2.a.keep B3;have T3:=FF.keep H2.d k3 HG.g;have H3:=kq3 h3 (H2.b.trans k3) T3;clear b3 B3 h3 k3 T3;try go_simp
 refine hK.out _ _ (HG.d _ H3.c) ?_;clear hK K;try simp only[pu]
 refine eP ?_;have T3:=H3.c;unfold FF at T3;obtain⟨g0,g1,g2,g3,g4⟩:=ld T3;obtain⟨h0,h1,h2,h3,h4⟩:=G2 T3;have y3:=heap_setCell (i:=4) (v:=Xu root) T3;have HY:=kq2 y3 (H3.a.write (w':=w3.setCell ⟨px,4,none⟩ (Xu root)) HG.g T3 ⟨by decide,by decide⟩ (by simp) (by simp) fun k _ hk=>FB hk);clear T3 y3 m0 m1 m2 m3 m4 ar an;go_wp2_with fail;go_ret;exact⟨root,S',rfl,HY.b,(H3.b.mono fun k hk=>hk.1).trans ⟨rfl,rfl,rfl,by simp,fun k hk=>FB hk.2⟩,HY.a,H2.c⟩
theorem mm.keep {w W:World}{Y:Nat->Prop}{A:Option Addr}{n c:Nat}{l:List (List UInt8×List UInt8)}(h:mm w Y A n c l)(hk:Fo Y w W):mm W Y A n c l:=
 ⟨h.1,h.2.1,fun hp=>by
  obtain⟨g,o,e,hh⟩:=h.2.2 hp;exact⟨g,o,e,fun V hV=>hh V (hk.trans hV)⟩⟩
def m9(K:jo):Prop:=
 ∀{w:World} {px ps n c:Nat} {S:St} {o:Nat->Nat} {Y:Nat->Prop} {A:Option Addr} {l:List (List UInt8×List UInt8)},Ig w ps S Y->Fw S o->K.On w px ps 0->Y px->mm w Y A n c l->(l.Pairwise fun p q=>Fu p.1 q.1<0)->(∀p∈l,p.1.length<=1000/\p.2.length<=1000)->n<=90->fc S (20*n) (9*n)->
  Ct 14 #[PV px,.slice A n c] w fun e w'=>∃root S',e=.returned (Xi 0)/\Ig w' ps S' Y/\Fo (fun k=>Y k/\k≠px) w w'/\K.On w' px ps root/\∃o' R,K.Hold S' o' root l R
theorem u9 {kind:Nat}{j:FuncId}{jn:Jn}{Ok:Tr->Prop}(hj:kind=1/\j=141\/kind=2/\j=142)(hJ:mz j jn)(J:kV jn Ok):m9 (jH kind Ok):=by
 intro w px ps n c S o Y A l h hf hT hy hR hs hl hn hsp;have hk:kind=1\/kind=2\/kind=3/\2<=0/\0<=16:=hj.elim (fun q=>aa q.1) (fun q=>ae (aa q.1));refine JI (Q:=fun root S'=>∃o' R,(jH kind Ok).Hold S' o' root l R) h hT hy (fun W kW hW=>?_) (fun root S' W hq hW=>?_)
 ·refine wk hW hf.inv hk (hR.keep kW) hs hl (by omega) (fun e=>by omega) (fun _=>?_);intro W2 Z bb D hB hR2;refine(JR hj hJ J n Ih (Fo.refl _ _) hB hf hR2 hl (hsp.mono (by omega) (by omega)) (by omega) (by omega)).mono ?_;rintro e w' ⟨t,S',o',rfl,ad,k',M⟩;refine⟨t.root,S',rfl,⟨_,ad⟩,k',o',_,t,⟨M.fit,M.at',M.ok,M.nd,M.blobs,?_⟩,rfl,M.prs.symm,rfl⟩;have:=hs;rw[<-M.prs] at this;exact(dQ.1 this).imp fun q=>q
 ·obtain⟨o',R,t,hb,_⟩:=hq;exact wl hW hb.fit hk
theorem JU(hins:∀d,j4 d){t:Nat}(t1:2<=t)(t2:t<=16):m9 (mS t):=by
 intro w px ps n c S o Y A l h hf hT hy hR hs hl hn hsp;have hk:3=1\/3=2\/3=3/\2<=t/\t<=16:=ae (ae ⟨rfl,t1,t2⟩);refine JI (Q:=fun root S'=>∃o' R,(mS t).Hold S' o' root l R) h hT hy (fun W kW hW=>?_) (fun root S' W hq hW=>?_)
 ·refine wk hW hf.inv hk (hR.keep kW) hs hl (by omega) (fun _=>?_) (fun e=>by omega);intro W2 Z bb D hB hR2;refine(JQ hins (Fo.refl _ _) hB ⟨hf,t1,t2⟩ hR2 hs hl (by omega) hsp).mono ?_;rintro e w' ⟨root,S',o',R,m,rfl,ad,k',hH,_⟩;exact⟨root,S',rfl,⟨_,ad⟩,k',o',R,hH⟩
 ·obtain⟨o',R,hH⟩:=hq;exact wl hW (Bt.Holds.fit hH) hk
theorem JT(hins:∀d,j4 d)(kind t:Int)(h:kind=1\/kind=2\/kind=3/\2<=t/\t<=16):∃K,tp kind t K/\m9 K:=by
 rcases h with rfl | rfl | ⟨rfl,q1,q2⟩
 ·exact⟨_,rj vi (pU vi va) va.nil t,u9 (aa ⟨rfl,rfl⟩) BJ va⟩
 ·exact⟨_,rj wz (pU wz oq) oq.nil t,u9 (ae ⟨rfl,rfl⟩) BK oq⟩
 ·obtain⟨n,rfl⟩:∃n:Nat,t=n:=⟨t.toNat,by omega⟩;exact⟨_,BT (Cw hins n) (by omega) (by omega),JU hins (by omega) (by omega)⟩
structure mZ (w W:World) (ps px t root:Nat) (S:St) (Y:Nat->Prop) (L:List (List UInt8×List UInt8)):Prop where
 st:Ig W ps S Y
 hold:∃o R,Bt.Holds S o t root L R
 on:jE W px ps t root
 bl:Below w.heap.size w W
 own:∀k,k<w.heap.size->Y k
 yx:Y px
 pxl:w.heap.size<=px
theorem mZ.below {w W W':World}{ps px t root:Nat}{S:St}{Y:Nat->Prop}{L:List (List UInt8×List UInt8)}(h:mZ w W ps px t root S Y L)(hb:Below W.heap.size W W'):mZ w W' ps px t root S Y L:=
 ⟨h.st.below hb,h.hold,h.on.below hb,h.bl.trans (hb.mono h.bl.size),h.own,h.yx,h.pxl⟩
theorem mZ.put {w W:World}{ps px t root p q:Nat}{S:St}{Y:Nat->Prop}{L:List (List UInt8×List UInt8)}(h:mZ w W ps px t root S Y L)(hs:fc S (20+p) (9+q))(a b:List UInt8)(ha:a.length<=1000)(hb:b.length<=1000)(hc:L.length<126)(hins:Bt.getL L a=none->L≠[]->∀d,j4 d):
 Ct 43 #[PV px,eu (a,b)] W fun e w'=>∃(x:Nat) (S3:St),e=.returned (.tuple #[SV ((Bt.getL L a).getD []),.bool (Bt.getL L a).isSome,Xi 0])/\mZ w w' ps px t x S3 Y (gV L a b)/\fc S3 p q:=by
 obtain⟨o,R,hH⟩:=h.hold;refine(CG hins h.st hH h.on h.yx b ha hb hc (hs.mono (by omega) (by omega))).mono ?_;rintro e w' ⟨x,S3,rfl,h1,h2,h3,h4⟩;obtain⟨o3,R3,h5,_⟩:=h4.holds;exact⟨x,S3,rfl,⟨h1,⟨o3,R3,h5⟩,h3,h.bl.trans (Fo.below (h2.mono fun k hk=>⟨h.own k hk,fun q=>by have:=h.pxl;omega⟩)),h.own,h.yx,h.pxl⟩,fc.grew hs h4.grew⟩
theorem JX(W:World):(binOp .eql 40 (.agg #[SV [97],SV [121]]) (.agg #[SV [97],SV [121]])).run prog W=.ok (.bool true) W:=by kernel_rfl
theorem JL {w:World}(ht:gA w):
 Cb 11 #[] w (.bool true):=by
 have a8:=xp ht 262144 1000 4294967295 (by omega) (by omega) (by omega);have al:=ux 262144 1000 4294967295 (by omega) (by omega) (by omega);have a5:=fun W ps Y (hW:Ig W ps ⟨⟨262144,[]⟩,⟨1000,4294967295,[]⟩⟩ Y)=>Cv hW al.inv (t:=2) (by omega) (by omega);have a9:fc ⟨⟨262144,[]⟩,⟨1000,4294967295,[]⟩⟩ (20+20) (9+9):=⟨by decide,by decide⟩;have HG:=kq4 a8 a5 al a9;clear a8 a5 al a9 ht;go_enter func11,ntmps11;go_wp2_with fail;refine HG.a.mono ?_;rintro e w1 ⟨ps,rfl,a7,a2⟩;have H1:=kq2 a7 a2;clear a7 a2;go_wp2_with fail;refine(HG.b _ _ _ H1.a).mono ?_;rintro e w2 ⟨px,rfl,hT,ai,lx⟩;have a4:mZ w w2 ps px 2 0 ⟨⟨262144,[]⟩,⟨1000,4294967295,[]⟩⟩ (fun k=>k<w.heap.size\/(w1.heap.size<=k/\k<w2.heap.size)) []:=
  ⟨H1.a.wide ai,⟨_,[],aa ⟨⟨HG.c,by omega,by omega⟩,rfl,rfl,rfl⟩⟩,hT,H1.b.trans (ai.mono H1.b.size),fun k hk=>aa hk,ae ⟨lx,(gl hT)⟩,aK H1.b.size lx⟩
 have HM:=If a4;clear hT ai lx a4;generalize (fun k=>k<w.heap.size\/(w1.heap.size<=k/\k<w2.heap.size))=Y at HM;have ar:=HM.out.put HG.d [97] [120] (by decide) (by decide) (by decide) (fun _ q=>absurd rfl q);simp only[eu] at ar;have a':=If ar;clear ar;go_wp2_with fail;refine a'.out.mono ?_;rintro e w3 ⟨x1,S1,rfl,an,a0⟩;have H3:=kq2 an a0;have au:=an.put (p:=0) (q:=0) a0 [97] [121] (by decide) (by decide) (by decide) (fun q=>absurd q (by decide));simp only[eu] at au;have ba:=If au;clear an a0 au;go_wp2_with fail;refine ba.out.mono ?_;rintro e w4 ⟨x2,S2,rfl,ad,bb⟩;have a1:=fun {W:World} (hW:Below w4.heap.size w4 W)=>CC (ad.below hW).st (ad.below hW).hold.choose_spec.choose_spec (ad.below hW).on 0 (p:=([97],[121])) (by decide);have a3:=fun {W:World} (hW:Below w4.heap.size w4 W)=>CF (ad.below hW).st (ad.below hW).hold.choose_spec.choose_spec (ad.below hW).on;have a6:=fun {W:World} (hW:Below w4.heap.size w4 W)=>CH (ad.below hW).st (ad.below hW).hold.choose_spec.choose_spec (ad.below hW).on [98];have H4:=kq4 ad @a1 @a3 @a6;clear ad bb a1 a3 a6;go_wp2_with fail;refine wx (H4.b (ab _ _)) fun w5 hb5=>?_;have A5:=hb5.trans (((ab w5.heap.size w5).alloc Ih (Xj [97] [121])).mono hb5.size);have q5:=heap_alloc_new w5 (Xj [97] [121]);have H5:=kq2 A5 q5;clear hb5 A5 q5;simp only[eu];go_wp2_with fail;refine wx (H4.c H5.a) fun w6 hb6=>?_;have q6:=(hb6.block w5.heap.size (by simp)).trans H5.b;have H6:=kq2 (H5.a.trans (hb6.mono H5.a.size)) q6;clear hb6 q6;go_wp2_with fail;refine wx (H4.d H6.a) fun w7 hb7=>?_;have q7:=(hb7.block w5.heap.size (gl H6.b)).trans H6.b;obtain⟨c0,c1⟩:=Fp q7;have H7:=If (H6.a.trans (hb7.mono H6.a.size));clear hb7 q7;have ea:=JX;go_wp2_with fail;go_ret;exact⟨rfl,H4.a.bl.trans (H7.out.mono H4.a.bl.size)⟩
theorem uS:∀d,j4 d
 | 0=>uU 0 fun _ h=>absurd h (by omega)
 | d+1=>uU (d+1) fun d0 h=>by
  have h:d=d0:=by omega
  subst h;exact @uS d
