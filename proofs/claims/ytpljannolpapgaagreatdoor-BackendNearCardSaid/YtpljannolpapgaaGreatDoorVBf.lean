/- Nodes of B-trees: Get of what is no record; B-trees: get, size of nothing: the walks. -/
import Derived.Test.YtpljannolpapgaaGreatDoorVYd
import Derived.Test.YtpljannolpapgaaGreatDoorVHg
set_option maxRecDepth 100000
set_option maxHeartbeats 6400000
namespace Go.Proofs.YtpljannolpapgaaGreatDoor
section
open Go.RowKit Tryz Go.BigFrame Go.Maps Go.WideMaps Lf Tr
variable{S:St}{Y:Nat->Prop}{d:Nat}{k:Nat}{key:List UInt8}{o:Nat->Nat}{ps:Nat}{t:Nat}{w:World}{z:Nat}
theorem zF(h:Ig w ps S Y)(hi:Fv S)(t1:2<=t)(t2:t<=16)(hh:Nat)(hl:hh<2^64)(hlen:S.len hh=(0,7)):
 Cb 166 #[PV ps,Xi t,Xu hh] w (.tuple #[eC (.slice none 0 0) (.slice none 0 0) (.slice none 0 0) 0,Xi 7]):=by
 have ad:=fun W (hW:Below w.heap.size w W)=>fB (h.below hW) hi 0 (by omega);have ai:=fun W (hW:Below w.heap.size w W)=>fB (h.below hW) hi hh hl;rw[fU] at ad;rw[hlen] at ai;have al:=fun W=>om t1 t2▸nP (t:Int) W;have six:=uz w ps hh;have HG:=kq3 ad ai al;clear ad ai al h hi hlen;unfold eC;generalize an:((((w.alloc (Xh ps)).alloc (Xf hh)).alloc (.cells #[.slice none 0 0,.slice none 0 0,.slice none 0 0,Xu 0] 215)).alloc (.cells #[Xi 0] 27))=w4 at*;have e3:=six.b3;have e5:=six.b5;have e6:=six.b6;have e7:=six.b7;have x0:(w4).cell? ⟨w.heap.size,0,none⟩=some (PV ps):=by rw[cell_of_block e3];rfl
 have y0:(w4).cell? ⟨w.heap.size+1,0,none⟩=some (Xu hh):=by rw[cell_of_block e5];rfl
 obtain⟨z0,z1,z2,z3⟩:=Fy e6;obtain⟨f0,f1,f2,f3⟩:=fO e6;have c0:(w4).cell? ⟨w.heap.size+1+1+1,0,none⟩=some (Xi 0):=by rw[cell_of_block e7];rfl
 have g0:(w4).frozen? ⟨w.heap.size+1+1+1,0,none⟩=false:=AT e7;have S4:=If six;clear e3 e5 e6 e7 six;go_enter func166,ntmps166;go_wp2_with fail;refine Jc (HG.a _ S4.out.below) ?_;go_wp2_with fail;refine Jc (HG.c _) ?_;go_wp2_with fail;refine Jc (HG.b _ S4.out.below) ?_;go_wp2_with fail;have p6:=oZ (u0:=.slice none 0 0) (u1:=.slice none 0 0) (u2:=.slice none 0 0) (u3:=Xu 0) S4.out.b6;have B6:=oY (u0:=.slice none 0 0) (u1:=.slice none 0 0) (u2:=.slice none 0 0) (u3:=Xu 0) (b:=w.heap.size+1+1) S4.out.below (by omega);have p7:=(sy (w:=w4) (b:=w.heap.size+1+1) (k:=w.heap.size+1+1+1) (u0:=.slice none 0 0) (u1:=.slice none 0 0) (u2:=.slice none 0 0) (u3:=Xu 0) (by omega)).trans S4.out.b7;generalize ((((w4.setCell ⟨w.heap.size+1+1,0,none⟩ (.slice none 0 0)).setCell ⟨w.heap.size+1+1,1,none⟩ (.slice none 0 0)).setCell ⟨w.heap.size+1+1,2,none⟩ (.slice none 0 0)).setCell ⟨w.heap.size+1+1,3,none⟩ (Xu 0))=W5 at*;have r7:=heap_setCell (i:=0) (v:=Xi 7) p7;have r6:=(FB (w:=W5) (b:=w.heap.size+1+1+1) (i:=0) (v:=Xi 7) (k:=w.heap.size+1+1) (by omega)).trans p6;have B7:=B6.setCell (p:=⟨w.heap.size+1+1+1,0,none⟩) (by show w.heap.size<=w.heap.size+1+1+1;omega) (Xi 7);generalize W5.setCell ⟨w.heap.size+1+1+1,0,none⟩ (Xi 7)=W6 at*;obtain⟨e0,e1,e2,e3⟩:=Fy r6;have d0:W6.cell? ⟨w.heap.size+1+1+1,0,none⟩=some (Xi 7):=by rw[cell_of_block r7];rfl
 exact bodyPost_ret (v:=.tuple #[.agg #[.slice none 0 0,.slice none 0 0,.slice none 0 0,Xu 0],Xi 7]) (by simp[results,f166,go_sem,e0,e1,e2,e3,d0]) rfl ⟨rfl,B7⟩
theorem nQ(h:Ig w ps S Y)(hi:Fv S)(t1:2<=t)(t2:t<=16)(hh:Nat)(hl:hh<2^64)(hlen:S.len hh=(0,7)):
 Cb 126 #[FH ps t,Xu hh] w (.tuple #[eC (.slice none 0 0) (.slice none 0 0) (.slice none 0 0) 0,.bool false]):=by
 have B0:=((ab w.heap.size w).alloc Ih (Xc ps t)).alloc (by simp) (.cells #[.slice none 0 0,.slice none 0 0,.slice none 0 0,Xu 0] 215);have z1:(w.alloc (Xc ps t)).heap.size=w.heap.size+1:=by simp
 have q1:=heap_alloc_new w (Xc ps t);have q2:=heap_alloc_new (w.alloc (Xc ps t)) (.cells #[.slice none 0 0,.slice none 0 0,.slice none 0 0,Xu 0] 215);have q3:=(((ab (w.alloc (Xc ps t)).heap.size (w.alloc (Xc ps t))).alloc Ih (.cells #[.slice none 0 0,.slice none 0 0,.slice none 0 0,Xu 0] 215)).block w.heap.size (by simp)).trans q1;rw[z1] at q2;generalize hW:(w.alloc (Xc ps t)).alloc (.cells #[.slice none 0 0,.slice none 0 0,.slice none 0 0,Xu 0] 215)=W0 at*;have hg:=zF (h.below B0) hi t1 t2 hh hl hlen;obtain⟨x0,x1⟩:=Fp q3;have hz:w.heap.size+2<=W0.heap.size:=by rw[<-hW];simp
 unfold FH;unfold eC at hg⊢;have HG:=kq5 hg B0 q2 hW hz;clear hg B0 h hi q1 q2 q3 z1 hz hlen;go_enter func126,ntmps126;go_wp2_with fail;refine wx HG.a fun w1 hb=>?_;have A1:=(ab w1.heap.size w1).alloc Ih (.cells #[.slice none 0 0,.slice none 0 0,.slice none 0 0,Xu 0] 215);have p1:=heap_alloc_new w1 (.cells #[.slice none 0 0,.slice none 0 0,.slice none 0 0,Xu 0] 215);have r2:=(A1.block (w.heap.size+1) (by have:=hb.size;have:=HG.e;omega)).trans ((hb.block (w.heap.size+1) (by have:=HG.e;omega)).trans HG.c);have BA:=HG.b.trans ((hb.trans (A1.mono hb.size)).mono HG.b.size);have HB:=kq3 BA r2 p1;clear hb A1 p1 r2 BA;have r2:=HB.b;have p1:=HB.c;obtain⟨x0,x1,x2,x3⟩:=Fy p1;obtain⟨y0,y1,y2,y3⟩:=Fy r2;obtain⟨f0,f1,f2,f3⟩:=fO r2;clear r2 p1 hW;go_wp2_with fail;generalize w1.alloc (.cells #[.slice none 0 0,.slice none 0 0,.slice none 0 0,Xu 0] 215)=W1 at*;have e5:=oZ (u0:=.slice none 0 0) (u1:=.slice none 0 0) (u2:=.slice none 0 0) (u3:=Xu 0) HB.b;have B5:=oY (u0:=.slice none 0 0) (u1:=.slice none 0 0) (u2:=.slice none 0 0) (u3:=Xu 0) (b:=w.heap.size+1) HB.a (by omega);generalize ((((W1.setCell ⟨w.heap.size+1,0,none⟩ (.slice none 0 0)).setCell ⟨w.heap.size+1,1,none⟩ (.slice none 0 0)).setCell ⟨w.heap.size+1,2,none⟩ (.slice none 0 0)).setCell ⟨w.heap.size+1,3,none⟩ (Xu 0))=W9 at*;obtain⟨e0,e1,e2,e3⟩:=Fy e5;exact bodyPost_ret (v:=.tuple #[.agg #[.slice none 0 0,.slice none 0 0,.slice none 0 0,Xu 0],.bool false]) (by simp[results,f126,go_sem,e0,e1,e2,e3]) rfl ⟨rfl,B5⟩
theorem zQ(h:Ig w ps S Y)(hi:Fv S)(t1:2<=t)(t2:t<=16)(hh:Nat)(hl:hh<2^64)(hlen:S.len hh=(0,7)):
 Cb 175 #[FH ps t,Xu hh] w (Xi 0):=by
 have B0:=(ab w.heap.size w).alloc Ih (Xc ps t);have hg:=nQ (h.below B0) hi t1 t2 hh hl hlen;unfold FH eC at hg;unfold FH;have HG:=kq2 hg B0;clear hg B0 h hi hlen;go_enter func175,ntmps175;go_wp2_with fail;refine wx HG.a fun w1 hb=>?_;have HB:=If ((HG.b.trans (hb.mono HG.b.size)).alloc (aK HG.b.size hb.size) (.cells #[.slice none 0 0,.slice none 0 0,.slice none 0 0,Xu 0] 215));clear hb;go_wp2_with fail;go_ret;exact⟨rfl,HB.out⟩
theorem kZ(h:Ig w ps S Y)(hi:Fv S)(t1:2<=t)(t2:t<=16):
 Ct 79 #[PV ps,Xi t] w fun e w'=>e=.returned (Xi 0)/\w=w':=by
 have ad:=fB h hi 0 (by omega);rw[fU] at ad;have ai:=fun W=>pW t t1 t2 W;have hq:((6*(t:Int))==0)=false:=by simp;omega
 have al:¬(t:Int)=0:=by omega
 have HG:=kq2 ad ai;clear ad ai h hi;go_enter func79,ntmps79;go_wp2_with fail;refine Jc HG.a ?_;go_wp2_with fail;refine Jc (HG.b _) ?_;go_wp2_with fail;go_ret;exact⟨rfl,rfl⟩
theorem zX{ps t hh z:Nat}(hs:Cb 175 #[FH ps t,Xu hh] w (Xi z)):
 Cb 324 #[PV ps,Xi t,Xu hh] w (Xi z):=by
 unfold FH at hs;have HG:=If hs;clear hs;go_enter func324,ntmps324;go_wp2_with fail;refine wx HG.out fun w1 hb=>?_;have HB:=If hb;clear hb;go_wp2_with fail;go_ret;exact⟨rfl,HB.out⟩
structure Bt.Walk (S:St) (o:Nat->Nat) (t:Nat) {d:Nat} (x:Bt d):Prop where
 fit:Fw S o
 t1:2<=t
 t2:t<=16
 at':Bt.At S t x
 ok:Bt.Ok t x
 sorted:(Bt.its x).Pairwise eU
 keys:pc S (Bt.its x)
 few:(Bt.its x).length<1000000
theorem Bt.Walk.kid{t d:Nat}{x:Bt (d+1)}(h:Walk S o t x){k:Bt d}(hk:k∈Bn.ks x):Walk S o t k:=by
 have ad:∀e∈its k,e∈its x:=fun e he=>kid_its h.ok.okN hk he;have ai:(its k).Sublist (its x):=by
  rw[el];have hr:=h.ok.okN.rows;obtain⟨i,hi,rfl⟩:=bT.1 hk
  rcases hr with⟨h0,_⟩ | ⟨h0,_⟩
  ·have:((Bn.ks x).map its).length=0:=by rw[h0];rfl
   rw[ao] at this;omega
  ·have al:i<=(Bn.es x).length:=by rw[ao] at h0;omega
   rw[nA al h0,jN hi];exact(List.sublist_append_left _ _).trans (List.sublist_append_right _ _)
 exact⟨h.fit,h.t1,h.t2,h.at'.2 k hk,(h.ok.2.2 k hk).1,h.sorted.sublist ai,⟨fun e he=>h.keys.lt e (ad e he),fun e he=>h.keys.get e (ad e he)⟩,cV ai.length_le h.few⟩
theorem Bt.Walk.es{t d:Nat}{x:Bt (d+1)}(h:Walk S o t x):(Bn.es x).Pairwise eU/\pc S (Bn.es x)/\(Bn.es x).length<=31:=by
 have hs:(Bn.es x).Sublist (its x):=by
  rw[el];refine JD _ _ ?_
  rcases h.ok.okN.rows with⟨h0,_⟩ | ⟨h0,_⟩
  ·exact aa h0
  ·exact ae h0
 exact⟨h.sorted.sublist hs,⟨fun e he=>h.keys.lt e (hs.subset he),fun e he=>h.keys.get e (hs.subset he)⟩,by have:=h.ok.1;have:=h.t2;omega⟩
theorem Bt.Walk.read{t d:Nat}{x:Bt (d+1)}(h:Walk S o t x):jg S t (hd x) (bn x):=h.at'.read h.fit h.t1 h.t2 h.ok
theorem Bt.Walk.size{t d:Nat}{x:Bt (d+1)}(h:Walk S o t x):(bn x).size=(its x).length/\(bn x).size<2^62:=⟨rfl,by have:=h.few;show (its x).length<_;omega⟩
theorem FD.at{α:Type}{W:World}{A:Option Addr}{n c k:Nat}{l:List α}{f:α->Nat}{e:α}(h:FD W (.slice A n c) (l.map f))(he:l[k]?=some e):∃g o,A=some ⟨g,o,none⟩/\W.cell? ⟨g,o+k,none⟩=some (Xu (f e:Nat)):=by
 obtain⟨A',c',e1,hc⟩:=h;obtain⟨hk,he⟩:=az.1 he;obtain⟨g,o,e2,ad⟩:=hc k (by rw[ao];exact hk);rw[bz,he] at ad;have e1:A=A':=by injection e1
 exact⟨g,o,e1.trans e2,ad⟩
def i7:Option It->Value
 | some e=>Id e.kh e.vh
 | none=>Id 0 0
theorem mO{es:List It}(h:fo key es=true):∃hk:Fr key es<es.length,(es[Fr key es]).k=key:=by
 unfold fo at h
 split at h
 ·rename_i e he;obtain⟨hk,he⟩:=az.1 he;exact⟨hk,by rw[he];exact of_decide_eq_true h⟩
 ·cases h
theorem mN{es:List It}(h:fo key es=false):∀hk:Fr key es<es.length,(es[Fr key es]).k≠key:=by
 intro hk e;unfold fo at h;rw[af hk] at h;simp only[decide_eq_false_iff_not] at h;exact h e
def fV {d:Nat}(x:Bt (d+1))(j:Nat):Nat:=(((Bn.ks x).take j).map fun k=>(Bt.its k).length).sum
theorem xt{x:Bt (d+1)}{j:Nat}(h:j<(Bn.ks x).length):fV x (j+1)=fV x j+(Bt.its (Bn.ks x)[j]).length:=by
 unfold fV;rw[aO h,aJ,dF];simp
theorem xr{t d:Nat}{x:Bt (d+1)}(h:Bt.Walk S o t x)(j:Nat):(Bn.es x).length+fV x j<=(Bt.its x).length:=by
 rw[Bt.its_length h.ok.okN];refine Nat.add_le_add_left ?_ _;unfold fV
 conv=>rhs;rw[<-aQ j (Bn.ks x),aJ,dF]
 omega
theorem kH(l:List It):Fr key l<=l.length:=bY
theorem Bt.Walk.leaf {S:St}{o:Nat->Nat}{t:Nat}{x:Bt 1}(h:Walk S o t x)(key:List UInt8):Fr key (its x)=Fr key (Bn.es x)/\findB key (its x)=if fo key (Bn.es x)=true then(Bn.es x)[Fr key (Bn.es x)]? else none:=by
 have hs:=h.es.1;rw[its_leaf];refine⟨rfl,?_⟩
 cases hh:fo key (Bn.es x) with
 | true=>
  obtain⟨hk,he⟩:=mO hh;rw[if_pos rfl,xA hs hk he,af hk]
 | false=>rw[if_neg (by simp)];exact findB_none (vl hs (mN hh))
theorem Bt.Walk.ord{t d:Nat}{x:Bt (d+2)}(h:Walk S o t x)(key:List UInt8):ix key (Bn.es x) ((Bn.ks x).map its):=l7 h.ok.rows (by rw[<-el];exact h.sorted)
theorem Bt.Walk.klen{t d:Nat}{x:Bt (d+2)}(h:Walk S o t x)(key:List UInt8):Fr key (Bn.es x)<(Bn.ks x).length:=by have:=Ok.kids h.ok;have:=kH (key:=key) (Bn.es x);omega
theorem Bt.Walk.inner{t d:Nat}{x:Bt (d+2)}(h:Walk S o t x)(key:List UInt8)(hk:Fr key (Bn.es x)<(Bn.ks x).length):
 (fo key (Bn.es x)=true->Fr key (its x)=Fr key (Bn.es x)+fV x (Fr key (Bn.es x))+(its (Bn.ks x)[Fr key (Bn.es x)]).length/\findB key (its x)=(Bn.es x)[Fr key (Bn.es x)]?)/\
 (fo key (Bn.es x)=false->Fr key (its x)=Fr key (Bn.es x)+fV x (Fr key (Bn.es x))+Fr key (its (Bn.ks x)[Fr key (Bn.es x)])/\findB key (its x)=findB key (its (Bn.ks x)[Fr key (Bn.es x)])):=by
 have ho:=h.ord key;have hb:=ho.below;rw[<-el,jN hk] at hb;have ai:((((Bn.ks x).map its).take (Fr key (Bn.es x))).map List.length).sum=fV x (Fr key (Bn.es x)):=by
  unfold fV;rw[<-bS,cI];rfl
 rw[ai] at hb;refine⟨fun hh=>?_,fun hh=>?_⟩
 ·obtain⟨ad,he⟩:=mO hh;obtain⟨h1,h2⟩:=ho.here ad he;rw[jN hk] at h2;rw[el,h1,af ad,<-el];exact⟨by rw[hb,h2],rfl⟩
 ·have:=ho.down (mN hh);rw[jN hk,<-el] at this;exact⟨hb,this⟩
theorem Bt.Walk.inner'{t d:Nat}{x:Bt (d+2)}(h:Walk S o t x)(key:List UInt8)(hb:Fr key (Bn.es x)=k)(hk:k<(Bn.ks x).length):
 (fo key (Bn.es x)=true->Fr key (its x)=k+fV x k+(its (Bn.ks x)[k]).length/\findB key (its x)=(Bn.es x)[k]?)/\
 (fo key (Bn.es x)=false->Fr key (its x)=k+fV x k+Fr key (its (Bn.ks x)[k])/\findB key (its x)=findB key (its (Bn.ks x)[k])):=by
 subst hb;exact h.inner key hk
theorem ub(W1:World)(b:Nat):∃I:World->Prop,(∀w',I w'->∀k,k<W1.heap.size->k≠b->w'.heap[k]?=W1.heap[k]?)/\(∀w',(∀k,k<W1.heap.size->k≠b->w'.heap[k]?=W1.heap[k]?)->I w'):=⟨fun w'=>∀k,k<W1.heap.size->k≠b->w'.heap[k]?=W1.heap[k]?,fun _ h=>h,fun _ h=>h⟩
theorem j9{w w':World}{g o:Nat}(h:w'.heap[g]?=w.heap[g]?):w'.cell? ⟨g,o,none⟩=w.cell? ⟨g,o,none⟩:=World.cell?_of_block h
theorem pY(h:Ig w ps S Y){t d:Nat}{x:Bt (d+1)}(hx:Bt.Walk S o t x)(hd:d<40)(key:List UInt8):
 Cb 210 #[FH ps t,Xu (Bt.hd x:Nat),SV key] w (.tuple #[i7 (Bt.findB key (Bt.its x)),.bool (Bt.findB key (Bt.its x)).isSome,Xi (Fr key (Bt.its x):Nat)]):=by
 have B0:=((ab w.heap.size w).alloc Ih (Xc ps t)).alloc (by simp) (.cells #[Xu 0,Xu 0] 104);have z1:(w.alloc (Xc ps t)).heap.size=w.heap.size+1:=by simp
 have q1:=heap_alloc_new w (Xc ps t);have q2:=heap_alloc_new (w.alloc (Xc ps t)) (.cells #[Xu 0,Xu 0] 104);have q3:=(((ab (w.alloc (Xc ps t)).heap.size (w.alloc (Xc ps t))).alloc Ih (.cells #[Xu 0,Xu 0] 104)).block w.heap.size (by simp)).trans q1;rw[z1] at q2;have hz:w.heap.size+2<=((w.alloc (Xc ps t)).alloc (.cells #[Xu 0,Xu 0] 104)).heap.size:=by simp
 generalize hW:(w.alloc (Xc ps t)).alloc (.cells #[Xu 0,Xu 0] 104)=W0 at*;have hi:=hx.fit.inv;have al:=fun W (hw:Below W0.heap.size W0 W) {n:BN} {hh:Nat} (hb:jg S t hh n)=>kI (h.below (B0.trans (hw.mono B0.size))) hi hb;have cn:=fun W (hw:Below W0.heap.size W0 W) {n:BN} {hh:Nat} (hb:jg S t hh n) hz=>nS (h.below (B0.trans (hw.mono B0.size))) hi hb hz;have ch:=fun W (hw:Below W0.heap.size W0 W) {es:List It} {vk vv vc:Value} {sz:Nat} hk hl hs he=>nR (h.below (B0.trans (hw.mono B0.size))) hi t (es:=es) (vk:=vk) (vv:=vv) (vc:=vc) (sz:=sz) hk hl hs he key;have HG:=kq4 (kq4 B0 q2 q3 hz) @al @cn @ch;have HX:=If hx;obtain⟨R,hR⟩:=Ii (Bt.findB key (Bt.its x));obtain⟨rb,cm⟩:=Ii (Fr key (Bt.its x));have e5:rb<=1000000:=by have:=hx.few;have:=kH (key:=key) (Bt.its x);omega
 obtain⟨n0,cb⟩:=Ii (Bt.hd x);have HR:=kq3 hR cm cb;rw[hR,cm,cb];unfold FH at al cn ch⊢;clear al cn ch h hx hi B0 q1 q2 q3 z1 hz hR cm cb;go_enter func210,ntmps210;go_wp2_with fail;clear hW
 go_loopw [1,8,9,10,11,12,13,14] (fun s1 s8 _ _ _ _ _ s14 wr=>∃(d' i b hh:Nat),s1=Xu hh/\s8=Xi b/\s14=Xi i/\i+d'<40/\b<=1000000/\Hid (Below W0.heap.size W0 wr/\∃y:Bt (d'+1),Bt.Walk S o t y/\Bt.hd y=hh/\b+Fr key (Bt.its y)=rb/\Bt.findB key (Bt.its y)=R)) (fun _ _ _ _ _ _ _ s14 _=>40-(intOf s14).toNat)
 case atStart=>exact⟨d,0,0,n0,rfl,rfl,rfl,by omega,by omega,ab _ _,x,HX.out,HR.c,by rw[HR.b];omega,HR.a⟩
 case round=>
  obtain⟨d',i,b,hh,rfl,rfl,rfl,eo,en,I⟩:=hrel;obtain⟨hB,y,hy,b2,dp,d0⟩:=I.out;have e4:(i:Int)<40:=by omega
  have t3:=(hB.block w.heap.size (by have:=HG.a.d;omega)).trans HG.a.c;obtain⟨x0,x1⟩:=Fp t3;have al:=HG.b wr hB hy.read;unfold FH eC at al;rw[b2] at al;have HY:=kq5 hB hy b2 dp d0;clear hB hy b2 dp d0 t3;obtain⟨n,hn⟩:=Ii (Bt.bn y);rw[hn] at al;have cx:=If al;clear al;go_wp2_with fail;refine cx.out.mono ?_;rintro e w1 ⟨vk,vv,vc,rfl,rows,hb⟩;obtain⟨Ak,ck,rfl⟩:=rows.k.slice2;obtain⟨Av,cv,rfl⟩:=rows.v.slice2;obtain⟨Ac,cc,rfl⟩:=rows.c.slice2;have a6:n.keys.length=(Bn.es y).length:=by rw[<-hn];unfold Bt.bn;rw[ao]
  have cw:n.vals.length=(Bn.es y).length:=by rw[<-hn];unfold Bt.bn;rw[ao]
  have bu:n.kids.length=(Bn.ks y).length:=by rw[<-hn];unfold Bt.bn;rw[ao]
  rw[a6] at rows;rw[cw] at rows;rw[bu] at rows;rw[a6,cw,bu];generalize n.size=sz at*;have hy:=HY.b;obtain⟨c3,c4,eg⟩:=hy.es;generalize b':(Bn.es y).length=lk at*;generalize a8:(Bn.ks y).length=lc at*;have A1:=(ab w1.heap.size w1).alloc Ih (.cells #[.slice Ak lk ck,.slice Av lk cv,.slice Ac lc cc,Xu sz] 215);have p1:=heap_alloc_new w1 (.cells #[.slice Ak lk ck,.slice Av lk cv,.slice Ac lc cc,Xu sz] 215);have B1:=HY.a.trans ((hb.trans (A1.mono hb.size)).mono HY.a.size);have au:=rows.below A1;have ca:w1.heap.size<(w1.alloc (.cells #[.slice Ak lk ck,.slice Av lk cv,.slice Ac lc cc,Xu sz] 215)).heap.size:=by simp
  obtain⟨W1,dn⟩:=Ii (w1.alloc (.cells #[.slice Ak lk ck,.slice Av lk cv,.slice Ac lc cc,Xu sz] 215));rw[dn] at A1 p1 B1 au ca;have t3:=(B1.block w.heap.size (by have:=HG.a.d;omega)).trans HG.a.c;obtain⟨x0,x1⟩:=Fp t3;obtain⟨y0,y1,y2,y3⟩:=Fy p1;have d3:n.keys=(Bn.es y).map (·.kh):=by rw[<-hn];rfl
  have bf:=au.k.hrow;rw[d3] at bf;have cd:=HG.d W1 B1 (vv:=.slice Av lk cv) (vc:=.slice Ac lc cc) (sz:=sz) bf (by omega) c3 c4;unfold FH eC at cd;have bo:=If cd;have a':=au.v.hrow;have a9:=au.c.hrow;rw[<-hn] at a' a9;have a':FD W1 (.slice Av lk cv) ((Bn.es y).map (·.vh)):=a';have a9:FD W1 (.slice Ac lc cc) ((Bn.ks y).map Bt.hd):=a9;have q6:=(B1.block (w.heap.size+1) (by have:=HG.a.d;omega)).trans HG.a.b;have d7:=HY.a.size;have ba:=HG.a.d;have c6:∀g o,Ak=some ⟨g,o,none⟩->w.heap.size+1≠g:=fun g o e=>by subst e;have:=au.k.ge g rfl;omega
  have c7:∀g o,Av=some ⟨g,o,none⟩->w.heap.size+1≠g:=fun g o e=>by subst e;have:=au.v.ge g rfl;omega
  have c5:∀g o,Ac=some ⟨g,o,none⟩->w.heap.size+1≠g:=fun g o e=>by subst e;have:=au.c.ge g rfl;omega
  have d5:w.heap.size+1≠w1.heap.size:=by have:=hb.size;omega
  have H1:=kq6 B1 p1 (kq3 bf a' a9) t3 ca q6;have HN:=kq5 c6 c7 c5 d5 (aK ba d7);clear c6 c7 c5 d5 d7 ba;clear cd rows au hb A1 p1 B1 t3 bf a' a9 d3 cx a6 cw bu hn c3 c4 ca q6;obtain⟨k,hk⟩:=Ii (Fr key (Bn.es y));obtain⟨he,b1⟩:=Ii (fo key (Bn.es y));rw[hk,b1] at bo;have ez:k<=lk:=by rw[<-hk,<-b'];exact kH _
  have e7:IntKind.i64.wrap ((b:Int)+k)=(b:Int)+k:=aB _ (by omega);have HK:=kq4 hk b1 b' a8;clear hk b1 b' a8 hy;go_wp2_with fail;refine wx bo.out fun w2 hb2=>?_;have p2:=(hb2.block w1.heap.size H1.e).trans H1.b;have t2:=(hb2.block w.heap.size (by have:=H1.a.size;have:=HG.a.d;omega)).trans H1.d;clear x0 x1 y0 y1 y2 y3;obtain⟨x0,x1⟩:=Fp t2;obtain⟨y0,y1,y2,y3⟩:=Fy p2;have an:=If hb2;clear hb2 p2 t2 bo dn
  cases d' with
  | zero=>
   have d9:lc=0:=by rw[<-HK.d,Bt.nil_of_zero (Bn.ks y)];rfl
   subst d9;obtain⟨cj,cl⟩:=HY.b.leaf key;rw[HK.a,HK.b] at cl;rw[HK.a] at cj;have c':rb=b+k:=by have:=HY.d;rw[cj] at this;exact this.symm
   have bt:=HY.e;rw[cl] at bt;have bb:=If bt;clear cj cl bt x0 x1 y0 y1 y2 y3;go_wp2_with fail
   go_loopw [8,13] (fun s8 s13 wq=>s8=Xi ((b:Int)+k)/\s13=Xi 0/\wq=w2) (fun _ _ _=>0)
   case atStart=>exact⟨rfl,rfl,rfl⟩
   case round=>
    obtain⟨rfl,rfl,rfl⟩:=hrel;have p2:=(an.out.block w1.heap.size H1.e).trans H1.b;have t2:=(an.out.block w.heap.size (by have:=H1.a.size;have:=HG.a.d;omega)).trans H1.d;have q2:=(an.out.block (w.heap.size+1) (by have:=H1.a.size;have:=HG.a.d;omega)).trans H1.f;obtain⟨x0,x1⟩:=Fp t2;obtain⟨y0,y1,y2,y3⟩:=Fy p2;obtain⟨z0,z1⟩:=Fp q2;obtain⟨f0,f1⟩:=ef q2
    cases he with
    | true=>
     obtain⟨a4,bv⟩:=mO HK.b;have a6:=HK.c;obtain⟨e,ai⟩:∃e,(Bn.es y)[k]?=some e:=by rw[<-HK.a];exact⟨_,af a4⟩
     have ec:k<lk:=by rw[<-HK.a,<-a6];exact a4
     have ed:(k:Int)<lk:=by omega
     rw[if_pos rfl,ai] at bb;obtain⟨gk,ok,rfl,a2⟩:=FD.at H1.c.a ai;obtain⟨gv,ov,rfl,a3⟩:=FD.at (f:=fun d:It=>d.vh) (l:=Bn.es y) H1.c.b ai;have dk:=(an.out.cell (p:=⟨gk,ok+k,none⟩) (fK a2)).trans a2;have dv:=(an.out.cell (p:=⟨gv,ov+k,none⟩) (fK a3)).trans a3;have HQ:=If q2;clear a2 a3 ai a4 bv a6 p2 t2 q2;go_wp2_with fail
     go_region
     go_wp2_with fail;have BW:Below w.heap.size w wr:=HG.a.a.trans ((H1.a.trans (an.out.mono H1.a.size)).mono HG.a.a.size);have eW:=ew HQ.out (Xu (e.kh:Nat)) (Xu (e.vh:Nat));have BF:=eT BW (b:=w.heap.size+1) (by omega) (Xu (e.kh:Nat)) (Xu (e.vh:Nat));generalize ((wr.setCell ⟨w.heap.size+1,0,none⟩ (Xu (e.kh:Nat))).setCell ⟨w.heap.size+1,1,none⟩ (Xu (e.vh:Nat)))=WF at*;have eW:WF.drew.heap[w.heap.size+1]?=_:=eW;obtain⟨e0,e1⟩:=Fp eW;exact bodyPost_ret (v:=.tuple #[.agg #[Xu (e.kh:Nat),Xu (e.vh:Nat)],.bool true,Xi ((b:Int)+k)]) (by simp[results,f210,go_sem,e0,e1]) rfl ⟨by rw[<-bb.out,c'];rfl,BF.drew⟩
    | false=>
     rw[if_neg (by simp)] at bb;have HQ:=If q2;clear p2 t2 q2;go_wp2_with fail;have BW:Below w.heap.size w wr:=HG.a.a.trans ((H1.a.trans (an.out.mono H1.a.size)).mono HG.a.a.size);have eW:=ew HQ.out (Xu 0) (Xu 0);have BF:=eT BW (b:=w.heap.size+1) (by omega) (Xu 0) (Xu 0);generalize ((wr.setCell ⟨w.heap.size+1,0,none⟩ (Xu 0)).setCell ⟨w.heap.size+1,1,none⟩ (Xu 0))=WF at*;obtain⟨e0,e1⟩:=Fp eW;exact bodyPost_ret (v:=.tuple #[.agg #[Xu 0,Xu 0],.bool false,Xi ((b:Int)+k)]) (by simp[results,f210,go_sem,e0,e1]) rfl ⟨by rw[<-bb.out,c'];rfl,BF⟩
  | succ d'=>
   have hy:=HY.b;have b9:=hy.klen key;rw[HK.a] at b9;have bc:=hy.inner' key HK.a b9;rw[HK.b] at bc;have a8:=HK.d;have d4:=HK.c;have e3:(0:Int)<lc:=by omega
   have ev:(k:Int)<lc:=by omega
   have cp:=xr hy;have ds:=hy.few;have d6:∀W,Below W1.heap.size W1 W->∀j (h:j<(Bn.ks y).length),Cb 175 #[.agg #[PV ps,Xi t],Xu (Bt.hd (Bn.ks y)[j]:Nat)] W (Xi ((Bt.its (Bn.ks y)[j]).length:Nat)):=fun W hW j h=>by
    have ar:=hy.kid (aF h);have:=HG.c W (H1.a.trans (hW.mono H1.a.size)) ar.read ar.size.2;unfold FH at this;exact this
   obtain⟨su,bk⟩:∃su:Nat->Nat,fV y=su:=⟨_,rfl⟩;have cr:=fun j h=>xt (x:=y) (j:=j) h;have ee:su 0=0:=by rw[<-bk];simp[fV]
   rw[bk] at bc cp;simp only[bk] at cr;have HZ:=kq9 hy bc cp ds d6 cr b9 a8 d4;clear bc cp ds d6 cr bk x0 x1 y0 y1 y2 y3 a8 d4;go_wp2_with fail
   go_loopw [8,13] (fun s8 s13 wr=>∃j:Nat,j<=k/\s8=Xi ((b:Int)+k+(su j:Nat))/\s13=Xi j/\Hid (Below W1.heap.size W1 wr)) (fun _ s13 _=>k-(intOf s13).toNat)
   case atStart=>exact⟨0,by omega,by rw[ee];simp,rfl,an⟩
   case round=>
    obtain⟨j,ep,rfl,rfl,ad⟩:=hrel;have p2:=(ad.out.block w1.heap.size H1.e).trans H1.b;have t2:=(ad.out.block w.heap.size (by have:=H1.a.size;have:=HG.a.d;omega)).trans H1.d;have q2:=(ad.out.block (w.heap.size+1) (by have:=H1.a.size;have:=HG.a.d;omega)).trans H1.f;obtain⟨x0,x1⟩:=Fp t2;obtain⟨y0,y1,y2,y3⟩:=Fy p2;obtain⟨z0,z1⟩:=Fp q2;obtain⟨f0,f1⟩:=ef q2;have b4:j<(Bn.ks y).length:=by have:=HZ.g;omega
    have ai:(Bn.ks y)[j]?=some (Bn.ks y)[j]:=af b4;obtain⟨gc,oc,rfl,a1⟩:=FD.at (f:=Bt.hd) (l:=Bn.ks y) H1.c.c ai;obtain⟨kj,ar⟩:=Ii ((Bn.ks y)[j]);obtain⟨nj,bd⟩:=Ii (Bt.hd kj);obtain⟨zj,bm⟩:=Ii (Bt.its kj).length;have bj:=fun W hW=>HZ.e W hW j b4;rw[ar,bd] at bj;rw[ar,bd] at a1;rw[bm] at bj;have cs:=HZ.f j b4;rw[ar,bm] at cs;have ek:=HZ.c j;have em:=HZ.c (j+1);have eh:=HZ.d;have b0:=HN.c gc oc rfl;have dc:=(ad.out.cell (p:=⟨gc,oc+j,none⟩) (fK a1)).trans a1;have er:(j:Int)<lc:=by omega
    have e6:IntKind.i64.wrap ((b:Int)+k+(su j:Nat)+(zj:Nat))=(b:Int)+k+(su j:Nat)+(zj:Nat):=aB _ (by omega);obtain⟨I,a7,bs⟩:=ub W1 (w.heap.size+1);have d8:=fun x:Fq I=>(a7 _ x.ok w1.heap.size H1.e (Ne.symm HN.d)).trans H1.b;have ba:=fun x:Fq I=>(a7 _ x.ok w.heap.size (by have:=H1.a.size;have:=HG.a.d;omega) (by omega)).trans H1.d;obtain⟨m0,m1,m2,m3⟩:=iB d8;obtain⟨n0,n1⟩:=fw ba;have o0:∀x:Fq I,x.to.cell? ⟨gc,oc+j,none⟩=some (Xu nj):=fun x=>(j9 (a7 _ x.ok gc (fK a1) (Ne.symm b0))).trans a1;have c8:I wr.drew:=bs _ fun k hk _=>ad.out.block k hk;have HI:=If bs;have HS:=If bj;have HQ:=If q2;have HJ:=kq6 ar bd bm cs a1 b0;clear bs d8 ba ai bj a1 p2 t2 q2 ar bd bm cs b0
    by_cases hjlt:j<k
    ·have eb:(j:Int)<k:=by omega
     go_wp2_with fail;refine fh I (.take 0 (.take 1 (.take 2 (.take 3 (.take 4 (.take 5 (.take 6 (.go 7 (.take 8 (.take 9 .nil)))))))))) (by kernel_rfl) (by kernel_rfl) c8 ?_
     iterate 7
      refine' pT ?_ ?_;rotate_left
      ·intro x;go_simp
       try rfl
      try simp only[pu]
     refine pD fun K hK=>?_;go_simp;refine wx (HS.out wr.drew ad.out.drew) fun w3 a5=>?_;have B3:=ad.out.drew.trans (a5.mono ad.out.size);have a0:=If B3;clear a5
     try go_simp
     refine hK.out _ _ (HI.out _ fun k hk _=>a0.out.block k hk) ?_;clear hK K
     try simp only[pu]
     clear B3
     iterate 2
      refine' pT ?_ ?_;rotate_left
      ·intro x;go_simp
       try rfl
      try simp only[pu]
     refine eP ?_;go_wp2_with fail;go_roundw
     case rel=>exact⟨j+1,by omega,by rw[HJ.d];congr 1;omega,by simp,a0⟩
     case measure=>simp[intOf];omega
    ·obtain rfl:j=k:=by omega
     have eb:¬(j:Int)<j:=by omega
     cases he with
     | true=>
      obtain⟨f1,f2⟩:=HZ.b.1 rfl;obtain⟨a4,bv⟩:=mO HK.b;obtain⟨e,ai⟩:∃e,(Bn.es y)[j]?=some e:=by rw[<-HK.a];exact⟨_,af a4⟩
      have ec:j<lk:=by rw[<-HK.a,<-HK.c];exact a4
      have ed:(j:Int)<lk:=by omega
      have e1:=HY.d;have e2:=HY.e;rw[f1,HJ.a,HJ.c] at e1;rw[f2,ai] at e2;have HE:=kq2 e1 e2;obtain⟨gk,ok,rfl,a2⟩:=FD.at (f:=fun d:It=>d.kh) (l:=Bn.es y) H1.c.a ai;obtain⟨gv,ov,rfl,a3⟩:=FD.at (f:=fun d:It=>d.vh) (l:=Bn.es y) H1.c.b ai;have d1:=HN.a gk ok rfl;have d2:=HN.b gv ov rfl;have o1:∀x:Fq I,x.to.cell? ⟨gk,ok+j,none⟩=some (Xu (e.kh:Nat)):=fun x=>(j9 (a7 _ x.ok gk (fK a2) (Ne.symm d1))).trans a2;have o2:∀x:Fq I,x.to.cell? ⟨gv,ov+j,none⟩=some (Xu (e.vh:Nat)):=fun x=>(j9 (a7 _ x.ok gv (fK a3) (Ne.symm d2))).trans a3;clear e1 e2 f1 f2 ai a4 bv a2 a3 d1 d2;go_wp2_with fail;refine fh I (.take 0 (.take 1 (.take 2 (.take 3 (.take 4 (.take 5 (.take 6 (.take 7 (.take 8 (.take 9 (.take 10 (.take 11 (.take 12 (.take 13 (.take 14 (.take 15 (.take 16 (.take 17 (.go 18 (.take 19 (.go 20 (.take 21 (.take 22 .nil))))))))))))))))))))))) (by kernel_rfl) (by kernel_rfl) c8 ?_
      iterate 18
       refine' pT ?_ ?_;rotate_left
       ·intro x;go_simp
        try rfl
       try simp only[pu]
      refine pD fun K hK=>?_;go_simp;refine(HS.out wr.drew ad.out.drew).mono ?_;rintro e' w3 ⟨rfl,a5⟩;have B3:=ad.out.drew.trans (a5.mono ad.out.size);have q3:=(a5.block (w.heap.size+1) (gl HQ.out)).trans HQ.out;have a0:=kq2 B3 q3;obtain⟨c0,c1⟩:=Fp q3;obtain⟨g0,g1⟩:=ef q3;clear a5 q3
      try go_simp
      refine hK.out _ _ (HI.out _ fun k hk _=>a0.a.block k hk) ?_;clear hK K
      try simp only[pu]
      clear B3;refine' pT ?_ ?_;rotate_left
      ·intro x;go_simp
       try rfl
      try simp only[pu]
      refine pD fun K hK=>?_;go_simp
      try go_simp
      refine hK.out _ _ (HI.out _ fun k hk hne=>(fA hne _ _).trans (a0.a.block k hk)) ?_;clear hK K
      try simp only[pu]
      iterate 2
       refine' pT ?_ ?_;rotate_left
       ·intro x;go_simp
        try rfl
       try simp only[pu]
      refine eP ?_;go_wp2_with fail;have BW:Below w.heap.size w w3:=HG.a.a.trans ((H1.a.trans (a0.a.mono H1.a.size)).mono HG.a.a.size);have eW:=ew a0.b (Xu (e.kh:Nat)) (Xu (e.vh:Nat));have BF:=eT BW (b:=w.heap.size+1) (by omega) (Xu (e.kh:Nat)) (Xu (e.vh:Nat));generalize ((w3.setCell ⟨w.heap.size+1,0,none⟩ (Xu (e.kh:Nat))).setCell ⟨w.heap.size+1,1,none⟩ (Xu (e.vh:Nat)))=WF at*;obtain⟨e0,e1⟩:=Fp eW;have ea:((b+(j+su j+zj):Nat):Int)=(b:Int)+j+(su j:Nat)+(zj:Nat):=by omega
      exact bodyPost_ret (v:=.tuple #[.agg #[Xu (e.kh:Nat),Xu (e.vh:Nat)],.bool true,Xi ((b:Int)+j+(su j:Nat)+(zj:Nat))]) (by simp[results,f210,go_sem,e0,e1]) rfl ⟨by rw[<-HE.b,<-HE.a,ea];rfl,BF⟩
     | false=>
      go_wp2_with fail;go_roundw
      case rel=>
       obtain⟨f1,f2⟩:=HZ.b.2 rfl;have e1:=HY.d;rw[f1,HJ.a] at e1;refine⟨d',i+1,b+j+su j,nj,rfl,by congr 1,by simp,by omega,by omega,H1.a.trans (ad.out.mono H1.a.size),kj,?_,HJ.b,?_,?_⟩
       ·rw[<-HJ.a];exact HZ.a.kid (aF _)
       ·omega
       ·have:=HY.e;rw[f2,HJ.a] at this;exact this
      case measure=>simp[intOf];omega
theorem nT{t hh:Nat}{R:Option It}(hs:Cb 210 #[FH ps t,Xu hh,SV key] w (.tuple #[i7 R,.bool R.isSome,Xi z]))(hw:∀W,W=w.alloc (.cells #[Xu 0,Xu 0] 104)->Cb 210 #[FH ps t,Xu hh,SV key] W (.tuple #[i7 R,.bool R.isSome,Xi z])):
 Cb 178 #[PV ps,Xi t,Xu hh,SV key] w (.tuple #[i7 R,.bool R.isSome]):=by
 have q1:=heap_alloc_new w (.cells #[Xu 0,Xu 0] 104);have B0:=(ab w.heap.size w).alloc Ih (.cells #[Xu 0,Xu 0] 104);obtain⟨W0,hW⟩:=Ii (w.alloc (.cells #[Xu 0,Xu 0] 104));rw[hW] at q1 B0;have hs:=hw W0 hW.symm;have ad:∃k v:Nat,i7 R=.agg #[Xu k,Xu v]:=by
  cases R with
  | none=>exact⟨0,0,rfl⟩
  | some e=>exact⟨e.kh,e.vh,rfl⟩
 obtain⟨k,v,hR⟩:=ad;rw[hR] at hs⊢;generalize R.isSome=b at*;unfold FH at hs;have HG:=kq3 hs B0 q1;clear hs hw B0 q1 hR;go_enter func178,ntmps178;go_wp2_with fail;refine wx HG.a fun w1 hb=>?_;have A1:=(ab w1.heap.size w1).alloc Ih (Xe k v);have r1:=(hb.block w.heap.size (gl HG.c)).trans HG.c;have r2:=(A1.block w.heap.size (gl r1)).trans r1;have B1:=HG.b.trans ((hb.trans (A1.mono hb.size)).mono HG.b.size);have p1:=heap_alloc_new w1 (Xe k v);obtain⟨W1,ai⟩:=Ii (w1.alloc (Xe k v));rw[ai] at r2 B1 p1;obtain⟨x0,x1⟩:=Fp p1;obtain⟨y0,y1⟩:=Fp r2;obtain⟨f0,f1⟩:=ef r2;have HB:=kq2 B1 r2;clear hb A1 r1 r2 B1 p1 hW;go_wp2_with fail;have eW:=ew HB.b (Xu (k:Nat)) (Xu (v:Nat));have BF:=eT HB.a (b:=w.heap.size) Ih (Xu (k:Nat)) (Xu (v:Nat));generalize ((W1.setCell ⟨w.heap.size,0,none⟩ (Xu (k:Nat))).setCell ⟨w.heap.size,1,none⟩ (Xu (v:Nat)))=WF at*;obtain⟨e0,e1⟩:=Fp eW;exact bodyPost_ret (v:=.tuple #[.agg #[Xu (k:Nat),Xu (v:Nat)],.bool b]) (by simp[results,f178,go_sem,e0,e1]) rfl ⟨rfl,BF⟩
theorem zW{t hh:Nat}{R:Option It}(hs:Cb 210 #[FH ps t,Xu hh,SV key] w (.tuple #[i7 R,.bool R.isSome,Xi z])):
 Cb 323 #[PV ps,Xi t,Xu hh,SV key] w (Xi z):=by
 have ad:∃k v:Nat,i7 R=.agg #[Xu k,Xu v]:=by
  cases R with
  | none=>exact⟨0,0,rfl⟩
  | some e=>exact⟨e.kh,e.vh,rfl⟩
 obtain⟨k,v,hR⟩:=ad;rw[hR] at hs;generalize R.isSome=b at*;unfold FH at hs;have HG:=If hs;clear hs hR;go_enter func323,ntmps323;go_wp2_with fail;refine wx HG.out fun w1 hb=>?_;have HB:=If (hb.alloc hb.size (Xe k v));clear hb;go_wp2_with fail;go_ret;exact⟨rfl,HB.out⟩
theorem qJ(t:Nat)(key:List UInt8)(y:Bt 1):Bt.fullB t key y=[decide ((Bn.es y).length=2*t-1)]:=by
 have:(Bn.ks y)[Fr key (Bn.es y)]?=none:=by rw[Bt.nil_of_zero (Bn.ks y)];rfl
 unfold Bt.fullB;rw[this]
theorem mI(t:Nat)(key:List UInt8)(y:Bt (d+1))(hk:Fr key (Bn.es y)=k)(h:k<(Bn.ks y).length):Bt.fullB t key y=decide ((Bn.es y).length=2*t-1)::Bt.fullB t key (Bn.ks y)[k]:=by
 subst hk;rw[Bt.fullB,af h]
theorem qBfaa{P:Prop}(h:P:=by
 go_wp2_with fail;go_ret;have BW:Below w.heap.size w W1:=HG.a.a.trans (H1.a.mono HG.a.a.size);exact⟨by rw[<-a5.out];rfl,BW⟩):P:=h
theorem zN(h:Ig w ps S Y){t d:Nat}{x:Bt (d+1)}(hx:Bt.Walk S o t x)(hd:d<40)(key:List UInt8):
 Cb 181 #[FH ps t,Xu (Bt.hd x:Nat),SV key] w (Xi (Bt.needB 0 true (Bt.fullB t key x):Nat)):=by
 have B0:=(ab w.heap.size w).alloc Ih (Xc ps t);have q3:=heap_alloc_new w (Xc ps t);have hz:w.heap.size+1<=(w.alloc (Xc ps t)).heap.size:=by simp
 generalize hW:w.alloc (Xc ps t)=W0 at*;have hi:=hx.fit.inv;have an:=fun W (hw:Below W0.heap.size W0 W) {n:BN} {hh:Nat} (hb:jg S t hh n)=>kI (h.below (B0.trans (hw.mono B0.size))) hi hb;have b2:=fun W (hw:Below W0.heap.size W0 W) {es:List It} {vk vv vc:Value} {sz:Nat} hk hl hs he=>nR (h.below (B0.trans (hw.mono B0.size))) hi t (es:=es) (vk:=vk) (vv:=vv) (vc:=vc) (sz:=sz) hk hl hs he key;have HG:=kq3 (kq3 B0 q3 hz) @an @b2;have HX:=If hx;have cd:=(Bt.At.hd_ok hx.fit hx.at').1;have t1:=hx.t1;have t2:=hx.t2;obtain⟨R,hR⟩:=Ii (Bt.needB 0 true (Bt.fullB t key x));obtain⟨n0,a6⟩:=Ii (Bt.hd x);have HR:=kq2 hR a6;rw[hR,a6];rw[a6] at cd;have ch:((n0:Int)==0)=false:=by simp;omega
 have cj:¬(n0:Int)=0:=by omega
 unfold FH;clear an b2 h hx hi B0 q3 hz hR a6;have m1:IntKind.i64.wrap (2*(t:Int))=2*(t:Int):=aB _ (by omega);have m2:IntKind.i64.wrap (2*(t:Int)-1)=2*(t:Int)-1:=aB _ (by omega);go_enter func181,ntmps181;go_wp2_with fail;clear hW ch cj
 go_loopw [1,7,8,9,10,11,12,15] (fun s1 s7 s8 _ _ _ _ s15 wr=>∃(d' i f hh:Nat) (a:Bool),s1=Xu hh/\s7=Xi f/\s8=.bool a/\s15=Xi i/\i+d'<40/\f<=i/\Hid (Below W0.heap.size W0 wr/\∃y:Bt (d'+1),Bt.Walk S o t y/\Bt.hd y=hh/\Bt.needB f a (Bt.fullB t key y)=R)) (fun _ _ _ _ _ _ _ s15 _=>40-(intOf s15).toNat)
 case atStart=>exact⟨d,0,0,n0,true,rfl,rfl,rfl,rfl,by omega,by omega,ab _ _,x,HX.out,HR.b,HR.a⟩
 case round=>
  obtain⟨d',i,f,hh,a,rfl,rfl,rfl,rfl,cn,cm,I⟩:=hrel;obtain⟨hB,y,hy,bt,b1⟩:=I.out;have cp:(i:Int)<40:=by omega
  have t3:=(hB.block w.heap.size (by have:=HG.a.c;omega)).trans HG.a.b;obtain⟨x0,x1⟩:=Fp t3;have an:=HG.b wr hB hy.read;unfold FH eC at an;rw[bt] at an;have HY:=kq3 hB hy b1;clear hB hy bt b1 t3;obtain⟨n,hn⟩:=Ii (Bt.bn y);rw[hn] at an;have bj:=If an;clear an;go_wp2_with fail;refine bj.out.mono ?_;rintro e w1 ⟨vk,vv,vc,rfl,rows,hb⟩;obtain⟨Ak,ck,rfl⟩:=rows.k.slice2;obtain⟨Av,cv,rfl⟩:=rows.v.slice2;obtain⟨Ac,cc,rfl⟩:=rows.c.slice2;have bb:n.keys.length=(Bn.es y).length:=by rw[<-hn];unfold Bt.bn;rw[ao]
  have bf:n.vals.length=(Bn.es y).length:=by rw[<-hn];unfold Bt.bn;rw[ao]
  have ba:n.kids.length=(Bn.ks y).length:=by rw[<-hn];unfold Bt.bn;rw[ao]
  rw[bb] at rows;rw[bf] at rows;rw[ba] at rows;rw[bb,bf,ba];generalize n.size=sz at*;have hy:=HY.b;obtain⟨bm,bo,cl⟩:=hy.es;have b0:=hy.ok.1;generalize bv:(Bn.es y).length=lk at*;generalize bu:(Bn.ks y).length=lc at*;have A1:=(ab w1.heap.size w1).alloc Ih (.cells #[.slice Ak lk ck,.slice Av lk cv,.slice Ac lc cc,Xu sz] 215);have p1:=heap_alloc_new w1 (.cells #[.slice Ak lk ck,.slice Av lk cv,.slice Ac lc cc,Xu sz] 215);have B1:=HY.a.trans ((hb.trans (A1.mono hb.size)).mono HY.a.size);have a8:=rows.below A1;have bd:w1.heap.size<(w1.alloc (.cells #[.slice Ak lk ck,.slice Av lk cv,.slice Ac lc cc,Xu sz] 215)).heap.size:=by simp
  obtain⟨W1,b4⟩:=Ii (w1.alloc (.cells #[.slice Ak lk ck,.slice Av lk cv,.slice Ac lc cc,Xu sz] 215));rw[b4] at A1 p1 B1 a8 bd;have t3:=(B1.block w.heap.size (by have:=HG.a.c;omega)).trans HG.a.b;have a4:=a8.k.hrow;have a3:=a8.c.hrow;rw[<-hn] at a4 a3;have a4:FD W1 (.slice Ak lk ck) ((Bn.es y).map (·.kh)):=a4;have a3:FD W1 (.slice Ac lc cc) ((Bn.ks y).map Bt.hd):=a3;have a7:=HG.c W1 B1 (vv:=.slice Av lk cv) (vc:=.slice Ac lc cc) (sz:=sz) a4 (by omega) bm bo;unfold FH eC at a7;obtain⟨k,hk⟩:=Ii (Fr key (Bn.es y));obtain⟨he,bs⟩:=Ii (fo key (Bn.es y));rw[hk,bs] at a7;have bk:=If a7;have H1:=kq5 B1 p1 a3 t3 bd;have HK:=kq4 bv bu hk b0;obtain⟨x0,x1⟩:=Fp t3;obtain⟨y0,y1,y2,y3⟩:=Fy p1;clear rows a8 hb A1 p1 B1 t3 a4 a3 a7 bj bb bf ba hn bd bv bu hy bm bo hk bs b0
  by_cases hfull:lk=2*t-1
  ·have b9:¬((lk:Int)<2*(t:Int)-1):=by omega
   have cr:IntKind.i64.wrap ((f:Int)+1)=(f:Int)+1:=aB _ (by omega);have cs:IntKind.i64.wrap ((f:Int)+1+1)=(f:Int)+1+1:=aB _ (by omega);have a0:decide ((Bn.es y).length=2*t-1)=true:=by rw[HK.a];exact decide_eq_true hfull
   have HD:=If a0;clear a0 hfull
   cases d' with
   | zero=>
    have a':lc=0:=by rw[<-HK.b,Bt.nil_of_zero (Bn.ks y)];rfl
    subst a';have ad:=HY.c;rw[qJ,HD.out] at ad;have ad:(f+1)+(if a=true then 1 else 0)=R:=ad;have a5:=If ad;clear ad
    cases a with
    | true=>
     exact qBfaa
    | false=>
     exact qBfaa
   | succ d'=>
    have al:=HY.b.klen key;rw[HK.c] at al;have a1:(Bn.ks y)[k]?=some (Bn.ks y)[k]:=af al;obtain⟨gc,oc,rfl,ai⟩:=FD.at (f:=Bt.hd) (l:=Bn.ks y) H1.c a1;have ad:=HY.c;rw[mI t key y HK.c al,HD.out] at ad;have ar:=HY.b.kid (aF al);have bc:=HK.b;have b':(k:Int)<lc:=by omega
    have ca:¬((lc:Int)=0):=by omega
    have cb:((lc:Int)==0)=false:=by simp;omega
    obtain⟨kj,a2⟩:=Ii ((Bn.ks y)[k]);obtain⟨nj,au⟩:=Ii (Bt.hd kj);rw[a2] at ai ad ar;rw[au] at ai;have ad:Bt.needB (f+1) a (Bt.fullB t key kj)=R:=ad;have HJ:=kq4 ad ar au ai;clear ad ar au ai a2 a1 bc;go_wp2_with fail;refine wx bk.out fun w2 hb2=>?_;have p2:=(hb2.block w1.heap.size H1.e).trans H1.b;clear x0 x1 y0 y1 y2 y3;obtain⟨y0,y1,y2,y3⟩:=Fy p2;have dc:=(hb2.cell (p:=⟨gc,oc+k,none⟩) (fK HJ.d)).trans HJ.d;have a9:=If hb2;clear hb2 p2;go_wp2_with fail;go_roundw
    case rel=>exact⟨d',i+1,(f+1),nj,a,rfl,by simp,rfl,by simp,by omega,by omega,H1.a.trans (a9.out.mono H1.a.size),kj,HJ.b,HJ.c,HJ.a⟩
    case measure=>simp[intOf];omega
  ·have b9:(lk:Int)<2*(t:Int)-1:=by have:=HK.d;omega
   have a0:decide ((Bn.es y).length=2*t-1)=false:=by rw[HK.a];exact decide_eq_false hfull
   have HD:=If a0;clear a0 hfull
   cases d' with
   | zero=>
    have a':lc=0:=by rw[<-HK.b,Bt.nil_of_zero (Bn.ks y)];rfl
    subst a';have ad:=HY.c;rw[qJ,HD.out] at ad;have ad:0+(if false=true then 1 else 0)=R:=ad;have a5:=If ad;clear ad;exact qBfaa
   | succ d'=>
    have al:=HY.b.klen key;rw[HK.c] at al;have a1:(Bn.ks y)[k]?=some (Bn.ks y)[k]:=af al;obtain⟨gc,oc,rfl,ai⟩:=FD.at (f:=Bt.hd) (l:=Bn.ks y) H1.c a1;have ad:=HY.c;rw[mI t key y HK.c al,HD.out] at ad;have ar:=HY.b.kid (aF al);have bc:=HK.b;have b':(k:Int)<lc:=by omega
    have ca:¬((lc:Int)=0):=by omega
    have cb:((lc:Int)==0)=false:=by simp;omega
    obtain⟨kj,a2⟩:=Ii ((Bn.ks y)[k]);obtain⟨nj,au⟩:=Ii (Bt.hd kj);rw[a2] at ai ad ar;rw[au] at ai;have ad:Bt.needB 0 false (Bt.fullB t key kj)=R:=ad;have HJ:=kq4 ad ar au ai;clear ad ar au ai a2 a1 bc;go_wp2_with fail;refine wx bk.out fun w2 hb2=>?_;have p2:=(hb2.block w1.heap.size H1.e).trans H1.b;clear x0 x1 y0 y1 y2 y3;obtain⟨y0,y1,y2,y3⟩:=Fy p2;have dc:=(hb2.cell (p:=⟨gc,oc+k,none⟩) (fK HJ.d)).trans HJ.d;have a9:=If hb2;clear hb2 p2;go_wp2_with fail;go_roundw
    case rel=>exact⟨d',i+1,0,nj,false,rfl,by simp,rfl,by simp,by omega,by omega,H1.a.trans (a9.out.mono H1.a.size),kj,HJ.b,HJ.c,HJ.a⟩
    case measure=>simp[intOf];omega
end
section
open Lf Tr
namespace Bt
variable{S:St}{U:List Nat}{d:Nat}{e:It}{i:Nat}{k:Nat}{o:Nat->Nat}
theorem vW{A K B Y U:List Nat}(h:(A++(K++B)).Nodup)(hy:Y.Nodup)(hs:∀z∈Y,z∈K\/z∈U)(hu:∀z∈U,z∉A/\z∉B):(A++(Y++B)).Nodup:=by
 obtain⟨h1,h2,h3⟩:=av.1 h;obtain⟨h4,h5,h6⟩:=av.1 h2;refine av.2 ⟨h1,av.2 ⟨hy,h5,fun a ha b hb e=>?_⟩,fun a ha b hb e=>?_⟩
 ·subst e
  rcases hs a ha with h | h
  ·exact h6 a h a hb rfl
  ·exact(hu a h).2 hb
 ·subst e
  rcases aj.1 hb with hb | hb
  ·rcases hs a hb with h | h
   ·exact h3 a ha a (ax _ h) rfl
   ·exact(hu a h).1 ha
  ·exact h3 a ha a (aw _ hb) rfl
theorem nodes_parts{x:Bt (d+1)}(h:k<(Bn.ks x).length):nodes x=(Bn.h x::(((Bn.ks x).take k).map nodes).flatten)++(nodes (Bn.ks x)[k]++(((Bn.ks x).drop (k+1)).map nodes).flatten):=by
 have e:(Bn.ks x).map nodes=((Bn.ks x).take k).map nodes++nodes (Bn.ks x)[k]::((Bn.ks x).drop (k+1)).map nodes:=by rw[<-aL,<-aJ,<-oW h]
 rw[jQ,e,cD,cP]
 rfl
theorem ve{x:Bt (d+1)}(h:k<(Bn.ks x).length)(y:Bt d):nodes (ju x k y)=(Bn.h x::(((Bn.ks x).take k).map nodes).flatten)++(nodes y++(((Bn.ks x).drop (k+1)).map nodes).flatten):=by
 rw[jQ]
 show Bn.h x::(((Bn.ks x).set k y).map nodes).flatten=_
 rw[cX,if_pos h,aJ,aL,cD,cP]
 rfl
theorem vf(x:Bt (d+1))(k:Nat)(y1:Bt d)(m:It)(y2:Bt d):nodes (ja x k y1 m y2)=(Bn.h x::(((Bn.ks x).take k).map nodes).flatten)++((nodes y1++nodes y2)++(((Bn.ks x).drop (k+1)).map nodes).flatten):=by
 rw[jQ]
 show Bn.h x::(((Bn.ks x).take k++y1::y2::(Bn.ks x).drop (k+1)).map nodes).flatten=_
 rw[aJ,aL,aL,cD,cP,cP,<-bK (nodes y1)]
 rfl
theorem put_node(hf:Fw S o){t d:Nat}{x:Bt (d+1)}(hk:∀k∈Bn.ks x,At S t k)(hn:∀k∈Bn.ks x,hd x∉nodes k){ws:List Nat}(hr:reco S (hd x)=some ws)(hw:ws.length=6*t)(hl:iT (bn x))(he:(Bn.es x).length<1000):
 Fw (FC S (hd x) 0 (bnWords t (bn x))) o/\At (FC S (hd x) 0 (bnWords t (bn x))) t x/\(∀h,h≠hd x->reco (FC S (hd x) 0 (bnWords t (bn x))) h=reco S h)/\ej S (FC S (hd x) 0 (bnWords t (bn x))) 0 0:=by
 obtain⟨q1,q2,q3,q4⟩:=mR hf hr (l:=bnWords t (bn x)) (by rw[jJ,hw]) (kX hl (by unfold bn;rw[ao];omega));refine⟨q1,⟨q2,fun k hkm=>(hk k hkm).frame fun h hm=>q3 h fun e=>hn k hkm (e▸hm)⟩,q3,q4⟩
theorem hd_kids{x:Bt (d+1)}(h:(nodes x).Nodup):∀k∈Bn.ks x,hd x∉nodes k:=fun k hk hm=>by
 rw[jQ] at h;exact(aE.1 h).1 (cH.2 ⟨_,aA.2 ⟨k,hk,rfl⟩,hm⟩)
structure Mid (S S':St) (o:Nat->Nat) (t:Nat) {d:Nat} (x:Bt (d+1)) (e:It) (U:List Nat) (x':Bt (d+1)):Prop where
 fit:Fw S' o
 grew:ej S S' 0 0
 fr:∀h,h∉nodes x->h∉U->reco S' h=reco S h
 hd:Bn.h x'=Bn.h x
 okN:gY t x'
 its:Bt.its x'=insB e (Bt.its x)
 kids:∀k∈Bn.ks x',At S' t k
 nd:(nodes x').Nodup
 sub:∀h∈nodes x',h∈nodes x\/h∈U
 own:∃ws,reco S' (Bn.h x)=some ws/\ws.length=6*t
 grow:(Bn.es x).length<=(Bn.es x').length
 lt:iT (bn x')
structure Put (S S':St) (o:Nat->Nat) (t:Nat) {d:Nat} (x:Bt (d+1)) (e:It) (U:List Nat) (r:Option (It×Nat)):Prop where
 fit:Fw S' o
 grew:ej S S' 0 0
 fr:∀h,h∉nodes x->h∉U->reco S' h=reco S h
 res:match r with
  | none=>∃y:Bt (d+1),Bn.h y=Bn.h x/\At S' t y/\Ok t y/\nk x<=nk y/\Bt.its y=insB e (Bt.its x)/\(nodes y).Nodup/\(∀h∈nodes y,h∈nodes x\/h∈U)
  | some (m,g)=>∃y1 y2:Bt (d+1),Bn.h y1=Bn.h x/\Bn.h y2=g/\At S' t y1/\At S' t y2/\Ok t y1/\Ok t y2/\nk y1=t/\nk y2+1=t/\Bt.its y1++m::Bt.its y2=insB e (Bt.its x)/\(nodes y1++nodes y2).Nodup/\(∀h∈nodes y1++nodes y2,h∈nodes x\/h∈U)
theorem mid_leaf(hf:Fw S o){t:Nat}(t1:1<=t){x:Bt 1}(ha:At S t x)(ok:Ok t x)(hnd:(nodes x).Nodup)(hb:∀d∈its x,d.kh<2^64/\d.vh<2^64)(he:e.kh<2^64/\e.vh<2^64)(hl:(its x).length<1000000):Mid S S o t x e [] (leafPut x e):=by
 have hi:=Ch x e;refine⟨hf,ej.refl S,fun _ _ _=>rfl,rfl,vj t1 ok e,hi,ha.2,hnd,fun h hh=>aa hh,⟨_,ha.1,jJ _ _⟩,?_,?_⟩
 ·show _<=((Bn.es x).take (Fr e.k (Bn.es x))++e::(Bn.es x).drop (Fr e.k (Bn.es x))).length
  rw[lg (k:=Fr e.k (Bn.es x)) bY];omega
 ·refine bnLt_of hf (fun d hd=>?_) ha.2 ?_
  ·have ad:d∈insB e (its x):=by rw[<-hi];exact lN (vj t1 ok e) hd
   rcases kg.1 ad with rfl | ad
   ·exact he
   ·exact hb d ad
  ·rw[hi,insB_length];omega
theorem vg{S S':St}{t d:Nat}{x:Bt (d+1)}(ha:At S t x)(hnd:(nodes x).Nodup)(hU:∀h∈U,h∉nodes x)(hi:i<(Bn.ks x).length)(fr:∀h,h∉nodes (Bn.ks x)[i]->h∉U->reco S' h=reco S h):
 (∀k∈(Bn.ks x).take i++(Bn.ks x).drop (i+1),At S' t k)/\reco S' (Bn.h x)=reco S (Bn.h x):=by
 rw[nodes_parts hi] at hnd hU;obtain⟨h1,h2,h3⟩:=av.1 hnd;obtain⟨h4,h5,h6⟩:=av.1 h2;refine⟨fun k hk=>?_,fr _ (fun hm=>h3 _ (aq ..) _ (ax _ hm) rfl) fun hm=>hU _ hm (ax _ (aq ..))⟩
 rcases aj.1 hk with hk | hk
 ·refine(ha.2 k (bC hk)).frame fun h hh=>?_;have hm:h∈(((Bn.ks x).take i).map nodes).flatten:=cH.2 ⟨_,aA.2 ⟨k,hk,rfl⟩,hh⟩;exact fr h (fun q=>h3 h (ah _ hm) h (ax _ q) rfl) fun q=>hU h q (ax _ (ah _ hm))
 ·refine(ha.2 k (bq hk)).frame fun h hh=>?_;have hm:h∈(((Bn.ks x).drop (i+1)).map nodes).flatten:=cH.2 ⟨_,aA.2 ⟨k,hk,rfl⟩,hh⟩;exact fr h (fun q=>h6 h q h hm rfl) fun q=>hU h q (aw _ (aw _ hm))
theorem tw{x:Bt (d+1)}(hi:i<(Bn.ks x).length)(hU:∀h∈U,h∉nodes x):∀z∈U,z∉(Bn.h x::(((Bn.ks x).take i).map nodes).flatten)/\z∉(((Bn.ks x).drop (i+1)).map nodes).flatten:=fun z hz=>by
 have:=hU z hz;rw[nodes_parts hi] at this;exact⟨fun q=>this (ax _ q),fun q=>this (aw _ (aw _ q))⟩
abbrev ItLt(l:List It):Prop:=∀d∈l,d.kh<2^64/\d.vh<2^64
theorem mid_kid{S S':St}{t d:Nat}(t1:1<=t){x:Bt (d+2)}(ha:At S t x)(ok:Ok t x)(hnd:(nodes x).Nodup)(hs:(its x).Pairwise eU)(hb:ItLt (its x))(he:ItLt [e])(hl:(its x).length<1000000)(hU:∀h∈U,h∉nodes x)
 (hi:Fr e.k (Bn.es x)<(Bn.ks x).length) (hp:Put S S' o t (Bn.ks x)[Fr e.k (Bn.es x)] e U none):∃y,Bn.h y=hd (Bn.ks x)[Fr e.k (Bn.es x)]/\Mid S S' o t x e U (ju x (Fr e.k (Bn.es x)) y):=by
 obtain⟨y,y1,y2,y3,y4,y5,y6,y7⟩:=hp.res;obtain⟨ks,hr⟩:=vg ha hnd hU hi hp.fr;have hk:=ok.2.2 _ (aF hi);have ar:Fr e.k (Bn.es x)<=(Bn.es x).length:=bY;have an:=BP t1 ok (Fr e.k (Bn.es x)) y3 (by omega);have ai:its (ju x (Fr e.k (Bn.es x)) y)=insB e (its x):=by
  have ho:=l7 (key:=e.k) ok.rows (by rw[<-el];exact hs);have:=ho.insert;rw[jN hi,<-el] at this;rw[BO ok _ ar,y5,this]
 have al:∀k∈(Bn.ks x).set (Fr e.k (Bn.es x)) y,At S' t k:=fun k hk=>by
  rw[cX,if_pos hi] at hk;rcases aj.1 hk with hk | hk
  ·exact ks k (ax _ hk)
  ·rcases ag.1 hk with rfl | hk
   ·exact y2
   ·exact ks k (aw _ hk)
 refine⟨y,y1,hp.fit,hp.grew,fun h h1 h2=>hp.fr h (fun q=>h1 (mem_nodes_kid (aF hi) q)) h2,rfl,an,ai,al,?_,fun h hh=>?_,⟨_,hr.trans ha.1,jJ _ _⟩,Nat.le_refl _,?_⟩
 ·rw[ve hi];rw[nodes_parts hi] at hnd;exact vW hnd y6 y7 (tw hi hU)
 ·rw[ve hi] at hh;rw[nodes_parts hi];rcases aj.1 hh with hh | hh
  ·exact aa (ax _ hh)
  ·rcases aj.1 hh with hh | hh
   ·exact(y7 h hh).imp (fun q=>aw _ (ax _ q)) id
   ·exact aa (aw _ (aw _ hh))
 ·refine bnLt_of hp.fit (fun d hd=>?_) al ?_
  ·have ad:d∈insB e (its x):=by rw[<-ai];exact lN an hd
   rcases kg.1 ad with rfl | ad
   ·exact he _ (aq ..)
   ·exact hb d ad
  ·rw[ai,insB_length];omega
theorem mid_split{S S':St}{t d:Nat}(t1:1<=t){x:Bt (d+2)}(ha:At S t x)(ok:Ok t x)(hnd:(nodes x).Nodup)(hs:(its x).Pairwise eU)(hb:ItLt (its x))(he:ItLt [e])(hl:(its x).length<1000000)(hU:∀h∈U,h∉nodes x)
 (hi:Fr e.k (Bn.es x)<(Bn.ks x).length) {m:It} {g:Nat} (hp:Put S S' o t (Bn.ks x)[Fr e.k (Bn.es x)] e U (some (m,g))):∃y1 y2,Bn.h y1=hd (Bn.ks x)[Fr e.k (Bn.es x)]/\Bn.h y2=g/\Mid S S' o t x e U (ja x (Fr e.k (Bn.es x)) y1 m y2):=by
 obtain⟨y1,y2,a1,a2,a3,a4,a5,a6,a7,a8,a9,a0,an⟩:=hp.res;obtain⟨ks,hr⟩:=vg ha hnd hU hi hp.fr;have hk:=ok.2.2 _ (aF hi);have al:Fr e.k (Bn.es x)<=(Bn.es x).length:=bY;have au:=BS t1 ok (Fr e.k (Bn.es x)) al m a5 (by omega) a6 (by omega);have ai:its (ja x (Fr e.k (Bn.es x)) y1 m y2)=insB e (its x):=by
  have ho:=l7 (key:=e.k) ok.rows (by rw[<-el];exact hs);have:=ho.insert;rw[jN hi,<-el,<-a9] at this;rw[BQ ok _ al,this];simp[List.append_assoc]
 have ar:∀k∈(Bn.ks x).take (Fr e.k (Bn.es x))++y1::y2::(Bn.ks x).drop (Fr e.k (Bn.es x)+1),At S' t k:=fun k hk=>by
  rcases aj.1 hk with hk | hk
  ·exact ks k (ax _ hk)
  ·rcases ag.1 hk with rfl | hk
   ·exact a3
   ·rcases ag.1 hk with rfl | hk
    ·exact a4
    ·exact ks k (aw _ hk)
 refine⟨y1,y2,a1,a2,hp.fit,hp.grew,fun h h1 h2=>hp.fr h (fun q=>h1 (mem_nodes_kid (aF hi) q)) h2,rfl,au,ai,ar,?_,fun h hh=>?_,⟨_,hr.trans ha.1,jJ _ _⟩,?_,?_⟩
 ·rw[vf];rw[nodes_parts hi] at hnd;exact vW hnd a0 an (tw hi hU)
 ·rw[vf] at hh;rw[nodes_parts hi];rcases aj.1 hh with hh | hh
  ·exact aa (ax _ hh)
  ·rcases aj.1 hh with hh | hh
   ·exact(an h hh).imp (fun q=>aw _ (ax _ q)) id
   ·exact aa (aw _ (aw _ hh))
 ·show (Bn.es x).length<=((Bn.es x).take (Fr e.k (Bn.es x))++m::(Bn.es x).drop (Fr e.k (Bn.es x))).length
  rw[lg al];omega
 ·refine bnLt_of hp.fit (fun d hd=>?_) ar ?_
  ·have ad:d∈insB e (its x):=by rw[<-ai];exact lN au hd
   rcases kg.1 ad with rfl | ad
   ·exact he _ (aq ..)
   ·exact hb d ad
  ·rw[ai,insB_length];omega
theorem Mid.put{S S':St}{t d:Nat}{x:Bt (d+1)}{x':Bt (d+1)}(h:Mid S S' o t x e U x')(t2:t<=16)(hl:(Bn.es x').length<2*t):Put S (FC S' (Bn.h x) 0 (bnWords t (bn x'))) o t x e U none:=by
 obtain⟨ws,hr,hw⟩:=h.own;have hh:Bt.hd x'=Bn.h x:=h.hd;have hp:=put_node h.fit h.kids (hd_kids h.nd) (by rw[hh];exact hr) hw h.lt (by omega);rw[hh] at hp;obtain⟨p1,p2,p3,p4⟩:=hp;refine⟨p1,(h.grew.trans p4).mono (by omega) (by omega),fun y h1 h2=>(p3 y fun q=>h1 (q▸hd_mem x)).trans (h.fr y h1 h2),⟨x',h.hd,p2,h.okN.ok hl,h.grow,h.its,h.nd,h.sub⟩⟩
theorem Mid.cut{S S':St}{t d:Nat}(t1:1<=t)(t2:t<=16){x:Bt (d+1)}{x':Bt (d+1)}(h:Mid S S' o t x e U x')(hl:(Bn.es x').length=2*t){g:Nat}(hg1:g∉U)(hg2:g∉nodes x){wg:List Nat}(hg3:reco S g=some wg)(hg4:wg.length=6*t):
 Put S (FC (FC S' (Bn.h x) 0 (bnWords t (bn (leftOf t x')))) g 0 (bnWords t (bn (rightOf t x' g)))) o t x e (U++[g]) (some ((Bn.es x')[t]'(by omega),g)):=by
 obtain⟨ws,hr,hw⟩:=h.own;obtain⟨c1,c2,c3,c4,c5⟩:=h.okN.split t1 hl g;have a0:=h.nd;rw[jQ] at a0;obtain⟨n1,n2⟩:=aE.1 a0;have ad:g∉nodes x':=fun q=>(h.sub g q).elim hg2 hg1;have an:∀k∈Bn.ks (leftOf t x'),k∈Bn.ks x':=fun k hk=>bC hk;have al:∀k∈Bn.ks (rightOf t x' g),k∈Bn.ks x':=fun k hk=>bq hk;have hh:Bt.hd (leftOf t x')=Bn.h x:=h.hd;have eN:((Bn.ks x').map nodes).flatten=(((Bn.ks x').take (t+1)).map nodes).flatten++(((Bn.ks x').drop (t+1)).map nodes).flatten:=by
  conv=>lhs;rw[<-aQ (t+1) (Bn.ks x'),aJ,cD]
 have au:∀q∈Bn.es x',q.kh<2^64/\q.vh<2^64:=fun q hq=>⟨h.lt.keys _ (aA.2 ⟨q,hq,rfl⟩),h.lt.vals _ (aA.2 ⟨q,hq,rfl⟩)⟩;have ar:=h.lt.size;have ar:(Bt.its x').length<2^64:=ar;rw[c1,aD,ak] at ar;have ai:=h.kids;have a5:iT (bn (leftOf t x')):=bnLt_of h.fit (fun q hq=>au q (bC hq)) (fun k hk=>ai k (an k hk)) (by omega);have a6:iT (bn (rightOf t x' g)):=bnLt_of h.fit (fun q hq=>au q (bq hq)) (fun k hk=>ai k (al k hk)) (by omega);have hp:=put_node (x:=leftOf t x') h.fit (fun k hk=>ai k (an k hk)) (fun k hk=>by
  show Bn.h x'∉_
  exact hd_kids h.nd k (an k hk)) (by rw[hh];exact hr) hw a5 (by show ((Bn.es x').take t).length<1000;rw[ay];omega)
 rw[hh] at hp;obtain⟨p1,p2,p3,p4⟩:=hp;have a1:g≠Bn.h x:=fun q=>hg2 (q▸hd_mem x);have a3:reco (FC S' (Bn.h x) 0 (bnWords t (bn (leftOf t x')))) g=some wg:=(p3 g a1).trans ((h.fr g hg2 hg1).trans hg3);have a2:∀k∈Bn.ks (rightOf t x' g),At (FC S' (Bn.h x) 0 (bnWords t (bn (leftOf t x')))) t k:=fun k hk=>(ai k (al k hk)).frame fun y hy=>p3 y fun q=>hd_kids h.nd k (al k hk) (by
  show Bn.h x'∈nodes k
  rw[h.hd,<-q];exact hy)
 obtain⟨r1,r2,r3,r4⟩:=put_node (x:=rightOf t x' g) p1 a2 (fun k hk q=>ad (mem_nodes_kid (al k hk) q)) (ws:=wg) a3 hg4 a6 (by show ((Bn.es x').drop (t+1)).length<1000;rw[aN];omega);have r3:∀y,y≠g->_:=r3;have hL:At (FC (FC S' (Bn.h x) 0 (bnWords t (bn (leftOf t x')))) g 0 (bnWords t (bn (rightOf t x' g)))) t (leftOf t x'):=p2.frame fun y hy=>r3 y fun q=>by
  subst q;refine ad ?_;rw[jQ] at hy⊢
  rcases ag.1 hy with hy | hy
  ·exact hy▸aq ..
  ·refine ah _ ?_;rw[eN];exact ax _ hy
 have a4:∀y∈nodes (leftOf t x')++nodes (rightOf t x' g),y∈nodes x'\/y=g:=fun y hy=>by
  rw[jQ x',eN]
  rcases aj.1 hy with hy | hy
  ·rcases ag.1 hy with hy | hy
   ·exact aa (hy▸aq ..)
   ·exact aa (ah _ (ax _ hy))
  ·rcases ag.1 hy with hy | hy
   ·exact ae hy
   ·exact aa (ah _ (aw _ hy))
 refine⟨r1,((h.grew.trans p4).trans r4).mono (by omega) (by omega),fun y h1 h2=>?_,⟨leftOf t x',rightOf t x' g,h.hd,rfl,hL,r2,c2,c3,c4,c5,?_,?_,fun y hy=>?_⟩⟩
 ·have h3:y∉U/\y≠g:=⟨fun q=>h2 (ax _ q),fun q=>h2 (aw _ (q▸aq ..))⟩;exact(r3 y h3.2).trans ((p3 y fun q=>h1 (q▸hd_mem x)).trans (h.fr y h1 h3.1))
 ·rw[<-h.its,c1]
 ·rw[eN] at n1 n2;obtain⟨m1,m2,m3⟩:=av.1 n2;rw[jQ x',eN] at ad
  show ((Bn.h x'::(((Bn.ks x').take (t+1)).map nodes).flatten)++(g::(((Bn.ks x').drop (t+1)).map nodes).flatten)).Nodup
  refine av.2 ⟨aE.2 ⟨fun q=>n1 (ax _ q),m1⟩,aE.2 ⟨fun q=>ad (ah _ (aw _ q)),m2⟩,fun a ha b hb q=>?_⟩;subst q
  rcases ag.1 ha with rfl | ha
  ·rcases ag.1 hb with hb | hb
   ·exact ad (hb▸aq ..)
   ·exact n1 (aw _ hb)
  ·rcases ag.1 hb with rfl | hb
   ·exact ad (ah _ (ax _ ha))
   ·exact m3 a ha a hb rfl
 ·rcases a4 y hy with hy | rfl
  ·exact(h.sub y hy).imp id fun q=>ax _ q
  ·exact ae (aw _ (aq ..))
end Bt
end
section
open Go.RowKit Tryz Go.BigFrame Go.Maps Go.WideMaps Lf Tr
open Go.Shelf
variable{L:List Nat}{S:St}{Y:Nat->Prop}{o:Nat->Nat}{ps:Nat}{t:Nat}{v:Value}{w:World}
theorem ns(h:Ig w ps S Y):fy<w.heap.size:=by
 obtain⟨pa,pm,ph,pt,v,h⟩:=h;exact h.heap.yl _ (ae (ae (ae (aa rfl))))
theorem qBfac{P:Prop}(h:P:=by
 rw[ai,if_pos rfl] at this
 injection this with this
 injection this with _ this
 exact absurd this (by decide)):P:=h
theorem Ig.grown{w w':World}{row:Option Nat}(h:Ig w ps S Y)(hg:w.grownBy w' row)(hr:∀g,row=some g->Y g/\g≠fy/\∃cs fr,w.heap[g]?=some (.cells cs 61 fr)):Ig w' ps S (fun k=>Y k\/(w.heap.size<=k/\k<w'.heap.size)):=by
 cases row with
 | none=>exact h.wide ⟨hg.os,hg.tape,hg.output,hg.size,fun k hk=>hg.block k hk (by simp)⟩
 | some g=>
  obtain⟨h1,h2,cs,fr,h3⟩:=hr g rfl;have au:=(gl h3);obtain⟨w2,ad⟩:∃w2:World,w2= { w' with heap:=w'.heap.setIfInBounds g (.cells cs 61 fr) }:=⟨_,rfl⟩;have al:w2.heap.size=w'.heap.size:=by rw[ad];simp
  have ai:∀k,w2.heap[k]?=if g=k then some (.cells cs 61 fr) else w'.heap[k]?:=fun k=>by
   rw[ad]
   show (w'.heap.setIfInBounds g _)[k]?=_
   rw[Array.getElem?_setIfInBounds]
   split
   ·rename_i e;subst e;rw[if_pos (by have:=hg.size;omega)]
   ·rfl
  have an:Below w.heap.size w w2:=by
   refine⟨by rw[ad];exact hg.os,by rw[ad];exact hg.tape,by rw[ad];exact hg.output,by rw[al];exact hg.size,fun k hk=>?_⟩;rw[ai]
   split
   ·rename_i e;subst e;exact h3.symm
   ·rename_i e;exact hg.block k hk (fun q=>e (Option.some.inj q).symm)
  have hz:=h.wide an;rw[al] at hz;obtain⟨pa,pm,ph,pt,v,hz⟩:=hz;refine⟨pa,pm,ph,pt,v,hz.of_keep (by rw[al];exact Nat.le_refl _) fun k hk hc=>?_⟩;have ar:k≠g:=by
   rintro rfl
   rcases hc with hc | rfl | rfl | rfl
   ·exact hc (aa h1)
   ·have:=hz.hd;exact qBfac
   ·have:=hz.heap.hp;exact qBfac
   ·exact h2 rfl
  rw[ai,if_neg (fun e=>ar e.symm)]
structure lG (S:St) (t:Nat) (L:List Nat):Prop where
 nd:L.Nodup
 recs:∀h∈L,∃ws,reco S h=some ws/\ws.length=6*t
theorem Eu(hf:Fw S o)(t1:2<=t)(t2:t<=16)(hr:fc S 2 1):
 ∃h S1 o1,S.make (6*t)=((h,0),S1)/\iw S (6*t)/\h<2^64/\S1.len h=(6*t,0)/\Fw (FC S1 h 0 (bnWords t bn0)) o1/\reco S h=none/\(∃ws,reco (FC S1 h 0 (bnWords t bn0)) h=some ws/\ws.length=6*t)/\(∀h',h'≠h->reco (FC S1 h 0 (bnWords t bn0)) h'=reco S h')/\ej S (FC S1 h 0 (bnWords t bn0)) 2 1:=by
 have an:fa (6*t+2)<=2:=aK (qh (by omega) (by omega)) (by omega);have al:=hr.mono an (Nat.le_refl 1);obtain⟨h,S1,o1,ws,e,ad,hn,ai,hl,ho,hg,_⟩:=oz hf (n:=6*t) (by omega) al;have ar:=rz hf (n:=6*t) (by omega) al;obtain⟨q1,q2,q3,q4⟩:=mR ad hl (l:=bnWords t bn0) (by rw[jJ,ai]) (tQ t);exact⟨h,S1,o1,e,ar,(fL ad hl).2.1,by rw[jw ad.tab hl,ai],q1,hn,⟨_,q2,jJ _ _⟩,fun h' hne=>(q3 h' hne).trans (ho h' hne),(hg.trans q4).mono (by omega) (by omega)⟩
structure gz (w:World) (bt bl D ps t:Nat) (v:Value) (L:List Nat):Prop where
 box:w.heap[bl]?=some (.cells #[v] 59 (0,0))
 tree:w.heap[bt]?=some (.cells #[PV ps,Xi t] 145 (0,0))
 row:FE w D v L
 lo:bl<D/\bt<D/\bl≠bt
def iJ(bt bl:Nat)(v:Value):Nat->Prop:=fun k=>k=bt\/k=bl\/v.ownBlock=some k
theorem tU(h:Ig w ps S Y)(hf:Fw S o)(t1:2<=t)(t2:t<=16)(n:Nat)(hn:n<=1000)(hr:fc S (2*n) n):
 Ct 180 #[FH ps t,Xi n] w fun e w'=>e=.returned (.tuple #[.func (.func 214) #[] #[PV (w.heap.size+1),PV w.heap.size],Xi 0])/\
  ∃S' o' v L,Ig w' ps S' (fun k=>Y k\/iJ w.heap.size (w.heap.size+1) v k)/\Fo Y w w'/\gz w' w.heap.size (w.heap.size+1) (w.heap.size+2) ps t v L/\Fw S' o'/\L.length=n/\lG S' t L/\(∀h∈L,reco S h=none)/\(∀h,h∉L->reco S' h=reco S h)/\ej S S' (2*n) n:=by
 have B0:=((ab w.heap.size w).alloc Ih (Xc ps t)).alloc (by simp) (.cells #[.slice none 0 0] 59);have z1:(w.alloc (Xc ps t)).heap.size=w.heap.size+1:=by simp
 have q1:=heap_alloc_new w (Xc ps t);have q2:=heap_alloc_new (w.alloc (Xc ps t)) (.cells #[.slice none 0 0] 59);have q3:=(((ab (w.alloc (Xc ps t)).heap.size (w.alloc (Xc ps t))).alloc Ih (.cells #[.slice none 0 0] 59)).block w.heap.size (by simp)).trans q1;rw[z1] at q2;have hz:((w.alloc (Xc ps t)).alloc (.cells #[.slice none 0 0] 59)).heap.size=w.heap.size+2:=by simp
 have hY:=h.yl;have bs:=ns h;have bk:=(h.wide B0).mono (Z:=fun k=>Y k\/iJ w.heap.size (w.heap.size+1) (.slice none 0 0) k) fun k hk=>hk.imp id fun hk=>by
  rcases hk with rfl | rfl | hk
  ·exact⟨Nat.le_refl _,by rw[hz];omega⟩
  ·exact⟨by omega,by rw[hz];omega⟩
  ·cases hk
 have a':=h.keep B0;generalize hW:(w.alloc (Xc ps t)).alloc (.cells #[.slice none 0 0] 59)=W0 at*;have HG:=kq4 hf hr hY bs;have H0:=kq4 bk a' q2 q3;have HZ:=If hz;unfold FH;clear h hf hr B0 z1 q1 q2 q3 bk a' hY bs hz;go_enter func180,ntmps180;go_wp2_with fail;clear hW;go_loopw [7,8,10,12] (fun _ _ _ s12 wr=>∃j:Nat,j<=n/\s12=Xi j/\Hid (∃S' o' v L,Ig wr ps S' (fun k=>Y k\/iJ w.heap.size (w.heap.size+1) v k)/\Fo Y w wr/\w.heap.size+2<=wr.heap.size/\gz wr w.heap.size (w.heap.size+1) (w.heap.size+2) ps t v L/\Fw S' o'/\L.length=j/\lG S' t L/\(∀h∈L,reco S h=none)/\(∀h,h∉L->reco S' h=reco S h)/\ej S S' (2*j) j)) (fun _ _ _ s12 _=>n-(intOf s12).toNat)
 case atStart=>exact⟨0,by omega,rfl,S,o,.slice none 0 0,[],H0.a,H0.b,by rw[HZ.out];exact Nat.le_refl _,⟨H0.c,H0.d,World.ownsRow_nil _ _ _ _,by omega⟩,HG.a,rfl,⟨dP,fun _ hh=>(nomatch hh)⟩,fun _ hh=>(nomatch hh),fun _ _=>rfl,ej.refl S⟩
 case round=>
  obtain⟨j,cb,rfl,I⟩:=hrel;obtain⟨S',o',v,L,st,kp,a6,sp,hf,hL,a2,a1,ar,ai⟩:=I.out;by_cases hlt:j<n
  ·have b4:(j:Int)<n:=by omega
   have bf:=(HG.b.mono (p':=2*j+2) (q':=j+1) (by omega) (by omega)).grew ai;obtain⟨hh,S1,o1,e,bd,b0,bb,f2,bc,a7,a5,g2⟩:=Eu hf t1 t2 bf;have au:=zG st hf.inv t1 t2 bd e b0 bb;obtain⟨S2,a8⟩:=Ii (FC S1 hh 0 (bnWords t bn0));rw[a8] at au f2 a7 a5 g2;unfold eC at au;have t3:=sp.tree;obtain⟨x0,x1⟩:=Fp t3;have HM:=If au;have HI:=kq14 st kp sp f2 hL a2 a1 ar ai bc a7 a5 g2 a6;clear st kp sp hf a2 a1 ar ai bf e bd bb f2 bc a7 a5 g2 au t3 a8 hL a6;go_wp2_with fail;refine HM.out.mono ?_;rintro e w1 ⟨rfl,bu,k1⟩;have b1:=(k1.block (w.heap.size+1) (ae (ae (aa rfl)))).trans HI.c.box;have bv:=(k1.block w.heap.size (ae (aa rfl))).trans HI.c.tree;have own1:FE w1 (w.heap.size+2) v L:=HI.c.row.at fun g e=>k1.block g (ae (ae (ae e)));have a3:w.heap.size+2<=w1.heap.size:=aK HI.n k1.size;obtain⟨v2,w2,b9,al,ad,bt⟩:=jF own1 (by have:=HI.e;omega) hh a3 59;obtain⟨A2,m2,c2,rfl⟩:=al.slice;have a4:∀g,v.ownBlock=some g->w.heap.size+2<=g:=fun g e=>(own1.ge g e).1;have an:∀k,k<w.heap.size+2->w2.heap[k]?=w1.heap[k]?:=fun k hk=>ad.block k (by omega) fun e=>by have:=a4 k e.symm;omega
   have b2:=(an (w.heap.size+1) (by omega)).trans b1;have c0:w1.cell? ⟨w.heap.size+1,0,none⟩=some v:=by rw[cell_of_block b1];rfl
   have d0:w2.cell? ⟨w.heap.size+1,0,none⟩=some v:=by rw[cell_of_block b2];rfl
   have f0:w2.frozen? ⟨w.heap.size+1,0,none⟩=false:=AT b2;have bm:=bu.grown ad (fun g e=>⟨ae (ae (ae e)),by have:=a4 g e;have:=HG.d;omega,by
    rcases own1.2 with⟨e0,_⟩ | ⟨g',b',ca,e0,_,hg,_⟩
    ·rw[e0] at e;cases e
    ·rw[e0] at e;have e:g'=g:=Option.some.inj e;subst e;exact⟨_,_,hg⟩⟩)
   have bo:Ig (w2.setCell ⟨w.heap.size+1,0,none⟩ (.slice A2 m2 c2)) ps S2 (fun k=>Y k\/iJ w.heap.size (w.heap.size+1) (.slice A2 m2 c2) k):=by
    refine(bm.write (b:=w.heap.size+1) (aa (ae (ae (aa rfl)))) b2 ⟨by decide,by decide⟩ (by simp) (by simp) fun k _ hk=>FB hk).mono fun k hk=>?_;rcases hk with hk | rfl | rfl | hk
    ·exact aa (aa hk)
    ·exact aa (ae (aa rfl))
    ·exact aa (ae (ae (aa rfl)))
    ·rcases bt with e | ⟨g,e,hg⟩
     ·rw[e] at hk;exact aa (ae (ae (ae hk)))
     ·rw[e] at hk;have hk:g=k:=Option.some.inj hk;subst hk;exact ae ⟨hg,(al.ge g e).2⟩
   have ba:Fo Y w (w2.setCell ⟨w.heap.size+1,0,none⟩ (.slice A2 m2 c2)):=(HI.b.trans (k1.mono fun k hk=>aa hk)).trans ⟨ad.os,ad.tape,ad.output,by simpa using ad.size,fun k hk=>by
    have cc:=HG.c k hk;rw[FB (by omega)];exact an k (by omega)⟩
   have bj:gz (w2.setCell ⟨w.heap.size+1,0,none⟩ (.slice A2 m2 c2)) w.heap.size (w.heap.size+1) (w.heap.size+2) ps t (.slice A2 m2 c2) (L++[hh]):=
    ⟨heap_setCell b2,(FB (by omega)).trans ((an w.heap.size (by omega)).trans bv),al.at fun g e=>FB (by have:=(al.ge g e).1;omega),by omega⟩
   have a0:hh∉L:=fun hm=>by
    obtain⟨ws,e,_⟩:=HI.f.recs hh hm;rw[HI.j] at e;cases e
   have a9:∃S' o' v L,Ig (w2.setCell ⟨w.heap.size+1,0,none⟩ (.slice A2 m2 c2)) ps S' (fun k=>Y k\/iJ w.heap.size (w.heap.size+1) v k)/\Fo Y w (w2.setCell ⟨w.heap.size+1,0,none⟩ (.slice A2 m2 c2))/\w.heap.size+2<=(w2.setCell ⟨w.heap.size+1,0,none⟩ (.slice A2 m2 c2)).heap.size/\gz (w2.setCell ⟨w.heap.size+1,0,none⟩ (.slice A2 m2 c2)) w.heap.size (w.heap.size+1) (w.heap.size+2) ps t v L/\Fw S' o'/\L.length=j+1/\lG S' t L/\(∀h∈L,reco S h=none)/\(∀h,h∉L->reco S' h=reco S h)/\ej S S' (2*(j+1)) (j+1):=by
    refine⟨S2,o1,.slice A2 m2 c2,L++[hh],bo,ba,by rw[size_setCell];exact aK a3 ad.size,bj,HI.d,by rw[aD,HI.e];rfl,⟨?_,fun y hy=>?_⟩,fun y hy=>?_,fun y hy=>?_,(HI.i.trans HI.m).mono (by omega) Ih⟩
    ·refine av.2 ⟨HI.f.nd,by simp,fun a ha b hb e=>?_⟩;rw[aS.1 hb] at e;exact a0 (e▸ha)
    ·rcases aj.1 hy with hy | hy
     ·obtain⟨ws,e,hw⟩:=HI.f.recs y hy;exact⟨ws,(HI.l y fun q=>a0 (q▸hy)).trans e,hw⟩
     ·rw[aS.1 hy];exact HI.k
    ·rcases aj.1 hy with hy | hy
     ·exact HI.g y hy
     ·rw[aS.1 hy,<-HI.h hh a0];exact HI.j
    ·exact(HI.l y fun q=>hy (aw _ (q▸aq ..))).trans (HI.h y fun q=>hy (ax _ q))
   have HF:=If a9;clear a9 bm bo ba bj a0 b1 b2 bv own1 al ad bt a4 an bu k1 a3 x0 x1;go_wp2_with (at_builtin;refine Lib.wpList_append_run _ rfl _ _ _ _ rfl _ _ rfl rfl _ _ b9 ?_)
   go_roundw
   case rel=>exact⟨j+1,by omega,by simp,HF.out⟩
   case measure=>simp[intOf];omega
  ·obtain rfl:j=n:=by omega
   have b4:¬(j:Int)<j:=by omega
   have HI:=kq9 st kp sp hf hL a2 a1 ar ai;clear st kp sp hf a2 a1 ar ai hL a6;go_wp2_with fail;go_ret2;exact⟨rfl,S',o',v,HI.a,HI.b,L,HI.out.2.2⟩
theorem FD.keeps{w w':World}{l:List Nat}(h:FD w v l)(e:∀g,v.ownBlock=some g->g<w.heap.size->w'.heap[g]?=w.heap[g]?):FD w' v l:=by
 obtain⟨A,c,rfl,hc⟩:=h;refine⟨A,c,rfl,fun i hi=>?_⟩;obtain⟨g,o,rfl,h1⟩:=hc i hi;exact⟨g,o,rfl,(World.cell?_of_block (e g rfl (fK h1))).trans h1⟩
theorem FE.short{D b c:Nat}{g:Nat}(h:FE w D (.slice (some ⟨b,0,none⟩) (L.length+1) c) (L++[g])):FE w D (.slice (some ⟨b,0,none⟩) L.length c) L:=by
 refine⟨by simp[hV],?_⟩
 rcases h.2 with⟨e,_⟩ | ⟨b',c',ad,e,hb,hg,an,ai,al,ht⟩
 ·cases e
 ·injection e with e1 e2 e3
  injection e1 with e1
  injection e1 with e1
  subst e1 e3;rw[aD,List.length_singleton] at an ht;refine ae ⟨b,c,ad,rfl,hb,hg,by omega,ai,al,?_⟩;rw[Nat.mul_one] at ht⊢;have h2:(ad.toList.take (L.length+1)).take L.length=(hV (L++[g])).take L.length:=by rw[ht]
  rw[List.take_take,dl (by omega)] at h2;rw[h2];unfold hV;rw[aJ,List.take_left' (by simp)]
theorem pZ{Z:Nat->Prop}{bt bl D t g:Nat}(h:Ig w ps S Z)(hi:Fv S)(sp:gz w bt bl D ps t v (L++[g]))(zb:Z bl)(zt:Z bt)(zv:∀b,v.ownBlock=some b->Z b)(hL:L.length<=1000)
 {n:BN} {vk vv vc:Value} (hn:iU t n) (hk:FD w vk n.keys) (hv:FD w vv n.vals) (hc:FD w vc n.kids) (nk:∀b,vk.ownBlock=some b->b≠bl) (nv:∀b,vv.ownBlock=some b->b≠bl) (nc:∀b,vc.ownBlock=some b->b≠bl)
 (hg:g<2^64) (hlen:S.len g=(6*t,0)) (hlt:∀x∈bnWords t n,x<2^64):
 Ct 214 #[eC vk vv vc n.size,PV bl,PV bt] w fun e w'=>e=.returned (Xu g)/\∃v',Ig w' ps (FC S g 0 (bnWords t n)) Z/\Fo (fun k=>Z k/\k≠bl) w w'/\gz w' bt bl D ps t v' L/\v'.ownBlock=v.ownBlock:=by
 have hY:=h.yl;obtain⟨b,c,bf⟩:∃b c,v=.slice (some ⟨b,0,none⟩) (L.length+1) c:=by
  rcases sp.row.2 with⟨_,e⟩ | ⟨b,c,a5,e,_⟩
  ·simp at e
  ·exact⟨b,c,by rw[e];simp⟩
 subst bf;have hrow:=sp.row;have a8:=(hrow.ge b rfl).1;have a2:=hrow.short;have a6:L.length<=c:=by
  rcases hrow.2 with⟨e,_⟩ | ⟨b',c',a5,e,hb,bv,bb,bs,bu,ht⟩
  ·cases e
  ·injection e with e1 e2 e3
   subst e3;rw[aD,List.length_singleton] at bb;omega
 have au:w.cell? ⟨b,L.length,none⟩=some (Xu g):=by
  have:=World.ownsRow.cells hrow (g:=b) rfl L.length (Xu g) (by simp[hV]);rw[Addr.add_lit] at this;simpa using this
 obtain⟨Ak,ck,rfl,ba⟩:=id hk;obtain⟨Av,cv,rfl,bd⟩:=id hv;obtain⟨Ac,cc,rfl,a'⟩:=id hc;clear ba bd a';have B0:=(ab w.heap.size w).alloc Ih (.cells #[.slice Ak n.keys.length ck,.slice Av n.vals.length cv,.slice Ac n.kids.length cc,Xu n.size] 215);have q0:=heap_alloc_new w (.cells #[.slice Ak n.keys.length ck,.slice Av n.vals.length cv,.slice Ac n.kids.length cc,Xu n.size] 215);obtain⟨W0,hW⟩:=Ii (w.alloc (.cells #[.slice Ak n.keys.length ck,.slice Av n.vals.length cv,.slice Ac n.kids.length cc,Xu n.size] 215));rw[hW] at B0 q0;have a3:=h.wide B0;have q1:=(B0.block bl (hY bl zb)).trans sp.box;have q2:=(B0.block bt (hY bt zt)).trans sp.tree;have c1:=(B0.cell (p:=⟨b,L.length,none⟩) (fK au)).trans au;have bc:w.heap.size<W0.heap.size:=(gl q0);have an:=sp.lo;have a9:=hY bl zb;have ad:∀k,k≠bl->(W0.setCell ⟨bl,0,none⟩ (.slice (some ⟨b,0,none⟩) L.length c)).heap[k]?=W0.heap[k]?:=fun k hk=>FB hk;have r1:=heap_setCell (i:=0) (v:=.slice (some ⟨b,0,none⟩) L.length c) q1;have a1:=a3.write (w':=W0.setCell ⟨bl,0,none⟩ (.slice (some ⟨b,0,none⟩) L.length c)) (b:=bl) (aa zb) q1 ⟨by decide,by decide⟩ (by simp) (by simp) fun k _ hk=>ad k hk;have rk:=hk.keeps (w':=W0.setCell ⟨bl,0,none⟩ (.slice (some ⟨b,0,none⟩) L.length c)) fun x e hx=>(ad x (nk x e)).trans (B0.block x hx);have rv:=hv.keeps (w':=W0.setCell ⟨bl,0,none⟩ (.slice (some ⟨b,0,none⟩) L.length c)) fun x e hx=>(ad x (nv x e)).trans (B0.block x hx);have rc:=hc.keeps (w':=W0.setCell ⟨bl,0,none⟩ (.slice (some ⟨b,0,none⟩) L.length c)) fun x e hx=>(ad x (nc x e)).trans (B0.block x hx);have ar:=Jg a1 hi hn rk rv rc g hg hlen hlt;have t1:=(ad bt (fun e=>an.2.2 e.symm)).trans q2;have t0:=(ad w.heap.size (by omega)).trans q0;have ai:Fo (fun k=>Z k/\k≠bl) w (W0.setCell ⟨bl,0,none⟩ (.slice (some ⟨b,0,none⟩) L.length c)):=(Fo.of_below B0 fun k hk=>hY k hk.1).trans ⟨rfl,rfl,rfl,by simp,fun k hk=>ad k hk.2⟩;have al:FE (W0.setCell ⟨bl,0,none⟩ (.slice (some ⟨b,0,none⟩) L.length c)) D (.slice (some ⟨b,0,none⟩) L.length c) L:=a2.at fun x e=>(ad x (by have:b=x:=Option.some.inj e;omega)).trans (B0.block x (by have:b=x:=Option.some.inj e;subst this;exact fK au));have a0:=zv b rfl;unfold eC at ar⊢;generalize n.keys.length=lk at*;generalize n.vals.length=lv at*;generalize n.kids.length=lc at*;generalize n.size=sz at*;have l0:(W0).cell? ⟨bl,0,none⟩=some (.slice (some ⟨b,0,none⟩) (L.length+1) c):=by rw[cell_of_block q1];rfl
 have f0:(W0).frozen? ⟨bl,0,none⟩=false:=AT q1;obtain⟨N,hN⟩:=Ii L.length;rw[hN] at a6 hL c1 l0 ar r1 t1 t0 ai al rk rv rc a1 ad;obtain⟨W1,a7⟩:=Ii (W0.setCell ⟨bl,0,none⟩ (.slice (some ⟨b,0,none⟩) N c));rw[a7] at ar r1 t1 t0 ai al;obtain⟨x0,x1⟩:=Fp t1;obtain⟨y0,y1,y2,y3⟩:=Fy t0;have HP:=If ar;have HF:=kq9 r1 t1 ai al zb zt a0 an hN;have bj:((N:Int)+1==0)=false:=by simp;omega
 have bk:¬((N:Int)+1=0):=by omega
 have bm:IntKind.i64.wrap ((N:Int)+1-1)=N:=by rw[Int.add_sub_cancel];exact aB _ (by omega)
 have bo:(N:Int)<(N:Int)+1:=by omega
 clear h hi sp zb zt zv hn hk hv hc nk nv nc hlen hlt hY hrow a8 a2 au B0 q0 a3 q1 q2 bc an a9 ad r1 a1 rk rv rc ar t1 t0 ai al a0 hN;go_enter func214,ntmps214;go_wp2_with fail;refine HP.out.mono ?_;rintro e w2 ⟨rfl,a4,k2⟩;have HS:=kq2 a4 k2;clear a4 k2;go_wp2_with fail;go_ret;obtain⟨r1,t1,ai,al,zb,zt,a0,an,hN⟩:=HF.out;have k2:=HS.b;refine⟨rfl,.slice (some ⟨b,0,none⟩) N c,HS.a.mono fun k hk=>aa hk,ai.trans (k2.mono fun k hk=>aa hk.1),⟨(k2.block bl (aa zb)).trans r1,(k2.block bt (aa zt)).trans t1,al.at fun x e=>k2.block x (by have:b=x:=Option.some.inj e;subst this;exact aa a0),an⟩,rfl⟩
end
section
open Go.RowKit Tryz Go.BigFrame Go.Maps Go.WideMaps Lf Tr
variable{S:St}{Y:Nat->Prop}{ps:Nat}{w:World}
theorem zO(w:World)(ps t:Nat)(key:List UInt8):
 Cb 181 #[FH ps t,Xu 0,SV key] w (Xi 1):=by
 have B0:=(ab w.heap.size w).alloc Ih (Xc ps t);have HB:=If B0;clear B0;unfold FH;go_enter func181,ntmps181;go_wp2_with fail;go_ret;exact⟨rfl,HB.out⟩
theorem tT(h:Ig w ps S Y)(hi:Fv S){t:Nat}(t1:2<=t)(t2:t<=16)(hh:Nat)(hl:hh<2^64)(hlen:S.len hh=(0,7))(key:List UInt8):
 Cb 210 #[FH ps t,Xu hh,SV key] w (.tuple #[i7 none,.bool (none:Option It).isSome,Xi (0:Nat)]):=by
 have B0:=((ab w.heap.size w).alloc Ih (Xc ps t)).alloc (by simp) (.cells #[Xu 0,Xu 0] 104);have z1:(w.alloc (Xc ps t)).heap.size=w.heap.size+1:=by simp
 have q1:=heap_alloc_new w (Xc ps t);have q2:=heap_alloc_new (w.alloc (Xc ps t)) (.cells #[Xu 0,Xu 0] 104);have q3:=(((ab (w.alloc (Xc ps t)).heap.size (w.alloc (Xc ps t))).alloc Ih (.cells #[Xu 0,Xu 0] 104)).block w.heap.size (by simp)).trans q1;rw[z1] at q2;have hz:w.heap.size+2<=((w.alloc (Xc ps t)).alloc (.cells #[Xu 0,Xu 0] 104)).heap.size:=by simp
 generalize hW:(w.alloc (Xc ps t)).alloc (.cells #[Xu 0,Xu 0] 104)=W0 at*;have ad:=nQ (h.below B0) hi t1 t2 hh hl hlen;unfold FH eC at ad;unfold FH;have HG:=kq2 (kq4 B0 q2 q3 hz) ad;clear ad h hi B0 q1 q2 q3 z1 hz hlen;go_enter func210,ntmps210;go_wp2_with fail;clear hW
 go_loopw [1,7,8,9,10,11,12,13,14] (fun s1 s7 s8 _ _ _ _ _ s14 wr=>s1=Xu hh/\s7=.bool false/\s8=Xi 0/\s14=Xi 0/\wr=W0) (fun _ _ _ _ _ _ _ _ _ _=>0)
 case atStart=>exact⟨rfl,rfl,rfl,rfl,rfl⟩
 case round=>
  obtain⟨rfl,rfl,rfl,rfl,rfl⟩:=hrel;have t3:=HG.a.c;obtain⟨x0,x1⟩:=Fp t3;clear t3;go_wp2_with fail;refine wx HG.b fun w1 hb=>?_;have A1:=(ab w1.heap.size w1).alloc Ih (.cells #[.slice none 0 0,.slice none 0 0,.slice none 0 0,Xu 0] 215);have q6:=(hb.block (w.heap.size+1) (by have:=HG.a.d;omega)).trans HG.a.b;have r6:=(A1.block (w.heap.size+1) (gl q6)).trans q6;have HB:=kq2 (HG.a.a.trans ((hb.trans (A1.mono hb.size)).mono HG.a.a.size)) r6;obtain⟨z0,z1⟩:=Fp r6;obtain⟨f0,f1⟩:=ef r6;clear hb A1 q6 r6;go_wp2_with fail;generalize w1.alloc (.cells #[.slice none 0 0,.slice none 0 0,.slice none 0 0,Xu 0] 215)=WX at*;have eW:=ew HB.b (Xu 0) (Xu 0);have BF:=eT HB.a (b:=w.heap.size+1) (by omega) (Xu 0) (Xu 0);generalize ((WX.setCell ⟨w.heap.size+1,0,none⟩ (Xu 0)).setCell ⟨w.heap.size+1,1,none⟩ (Xu 0))=WF at*;obtain⟨e0,e1⟩:=Fp eW;exact bodyPost_ret (v:=.tuple #[.agg #[Xu 0,Xu 0],.bool false,Xi 0]) (by simp[results,f210,go_sem,e0,e1]) rfl ⟨rfl,BF⟩
theorem qBfab{P:Prop}(h:P:=by
 obtain⟨e0,e1⟩:=Fp eW;exact bodyPost_ret (v:=.tuple #[.agg #[Xu 0,Xu 0],Xi 2]) (by simp[results,f322,go_sem,e0,e1]) rfl ⟨rfl,BF⟩):P:=h
theorem zT(h:Ig w ps S Y)(hi:Fv S){t hh z:Nat}(t1:2<=t)(t2:t<=16)(hs:∀W,Below w.heap.size w W->Cb 175 #[FH ps t,Xu hh] W (Xi z)){k:Int}(hk:k<0\/(z:Int)<=k):
 Ct 322 #[PV ps,Xi t,Xu hh,Xi k] w fun e' w'=>e'=.returned (.tuple #[Id 0 0,Xi 2])/\Below w.heap.size w w':=by
 have B1:=(ab w.heap.size w).alloc Ih (.cells #[Xu 0,Xu 0] 104);have B0:=B1.alloc (by simp) (Xc ps t);have z1:(w.alloc (.cells #[Xu 0,Xu 0] 104)).heap.size=w.heap.size+1:=by simp
 have q1:=heap_alloc_new w (.cells #[Xu 0,Xu 0] 104);have q3:=heap_alloc_new (w.alloc (.cells #[Xu 0,Xu 0] 104)) (Xc ps t);have q2:=(((ab (w.alloc (.cells #[Xu 0,Xu 0] 104)).heap.size (w.alloc (.cells #[Xu 0,Xu 0] 104))).alloc Ih (Xc ps t)).block w.heap.size (by simp)).trans q1;rw[z1] at q3;have hz:w.heap.size+2<=((w.alloc (.cells #[Xu 0,Xu 0] 104)).alloc (Xc ps t)).heap.size:=by simp
 have has:=kZ (h.below B1) hi t1 t2;generalize al:w.alloc (.cells #[Xu 0,Xu 0] 104)=Wa at*;generalize hW:Wa.alloc (Xc ps t)=W0 at*;have ar:Wa.heap.size=w.heap.size+1:=z1;have ad:=hs W0 B0;obtain⟨x0,x1⟩:=Fp q3;obtain⟨c0,c1⟩:=Fp q2;obtain⟨f0,f1⟩:=ef q2;have HG:=kq2 (kq4 B0 q2 q3 hz) has;unfold FH at ad;have H0:=If ad;clear h hi hs B0 B1 q1 q2 q3 z1 hz has ad
 rcases hk with hk | hk
 ·go_enter func322,ntmps322;go_wp2_with fail;refine Jc HG.b ?_;go_wp2_with fail;have eW:=ew HG.a.b (Xu 0) (Xu 0);have BF:=eT HG.a.a (b:=w.heap.size) (by omega) (Xu 0) (Xu 0);generalize ((W0.setCell ⟨w.heap.size,0,none⟩ (Xu 0)).setCell ⟨w.heap.size,1,none⟩ (Xu 0))=WF at*;exact qBfab
 ·have an:¬k<0:=by omega
  clear c0 c1 f0;go_enter func322,ntmps322;go_wp2_with fail;refine Jc HG.b ?_;go_wp2_with fail;refine wx H0.out fun w2 hb1=>?_;have r2:=(hb1.block w.heap.size (by have:=HG.a.d;omega)).trans HG.a.b;obtain⟨c0,c1⟩:=Fp r2;obtain⟨f0,f1⟩:=ef r2;have ai:=kq2 (HG.a.a.trans (hb1.mono HG.a.a.size)) r2;clear hb1 x0 x1 r2;go_wp2_with fail;have eW:=ew ai.b (Xu 0) (Xu 0);have BF:=eT ai.a (b:=w.heap.size) (by omega) (Xu 0) (Xu 0);generalize ((w2.setCell ⟨w.heap.size,0,none⟩ (Xu 0)).setCell ⟨w.heap.size,1,none⟩ (Xu 0))=WF at*;exact qBfab
end
section
open Go.RowKit Tryz Go.BigFrame Go.Maps Go.WideMaps Lf Tr
open Go.Shelf
variable{S:St}{Y:Nat->Prop}{l:List Nat}{v:Value}{w:World}
theorem FE.block{B:Nat}(h:FE w B v l){g:Nat}(hg:v.ownBlock=some g):B<=g/\g<w.heap.size/\∃cs fr,w.heap[g]?=some (.cells cs 61 fr):=by
 rcases h.2 with⟨e,_⟩ | ⟨b,c,ai,e,hb,ad,ar,al,an,ht⟩
 ·rw[e] at hg
  cases hg
 ·rw[e] at hg
  cases hg
  exact⟨hb,(gl ad),_,_,ad⟩
structure kG (w w':World) (B ps:Nat) (S:St) (Y:Nat->Prop) (v v':Value) (l':List Nat):Prop where
 own:FE w' B v' l'
 st:Ig w' ps S (fun k=>Y k\/(w.heap.size<=k/\k<w'.heap.size))
 grown:w.grownBy w' v.ownBlock
 at':v'.ownBlock=v.ownBlock\/∃g,v'.ownBlock=some g/\w.heap.size<=g
theorem kG.other{w w':World}{B ps:Nat}{v v':Value}{l':List Nat}(h:kG w w' B ps S Y v v' l'){k:Nat}(hk:k<w.heap.size)(hne:v.ownBlock≠some k):w'.heap[k]?=w.heap[k]?:=h.grown.block k hk (Ne.symm hne)
theorem kG.keep{w w':World}{B ps:Nat}{v v':Value}{l':List Nat}(h:kG w w' B ps S Y v v' l'){Z:Nat->Prop}(hz:∀k,Z k->k<w.heap.size/\v.ownBlock≠some k):Fo Z w w':=
 ⟨h.grown.os,h.grown.tape,h.grown.output,h.grown.size,fun k hk=>h.grown.block k (hz k hk).1 (Ne.symm (hz k hk).2)⟩
theorem kG.row{w w':World}{B ps:Nat}{v v':Value}{l':List Nat}(h:kG w w' B ps S Y v v' l'){B2:Nat}{u:Value}{l2:List Nat}(hu:FE w B2 u l2)(hne:∀g,u.ownBlock=some g->v.ownBlock≠some g):FE w' B2 u l2:=
 hu.at fun x e=>h.other (hu.block e).2.1 (hne x e)
theorem uT{B ps:Nat}(h:Ig w ps S Y)(ho:FE w B v l)(hY:∀g,v.ownBlock=some g->Y g)(htab:fy<B)(hl:l.length<=1000){i:Nat}(hi:i<=l.length){x vb:Nat}(hx:w.heap[vb]?=some (.cells #[Xu x] 61 (0,0)))(hne:v.ownBlock≠some vb)(hB:B<=w.heap.size):
 Ct 215 #[v,Xi i,.slice (some ⟨vb,0,none⟩) 1 1] w fun e w'=>∃v',e=.returned v'/\kG w w' B ps S Y v v' (l.take i++x::l.drop i):=by
 refine(Bj ho hl hi hx hne hB).mono ?_;rintro e w' ⟨v',rfl,h1,h2,h3⟩;refine⟨v',rfl,h1,h.grown h2 fun g hg=>?_,h2,h3⟩;obtain⟨hb,_,hc⟩:=ho.block hg;exact⟨hY g hg,by omega,hc⟩
end
section
open Go.RowKit Tryz Go.BigFrame Go.Maps Go.WideMaps Lf Tr
theorem Ig.row {w w2:World}{ps D x:Nat}{S:St}{Y:Nat->Prop}{v v2:Value}{L:List Nat}(h:Ig w ps S (fun k=>Y k\/v.ownBlock=some k))(hD:fy<D)(own:FE w D v L)(ho2:FE w2 D v2 (L++[x]))(hg:w.grownBy w2 v.ownBlock)(hv:v2.ownBlock=v.ownBlock\/∃g,v2.ownBlock=some g/\w.heap.size<=g):Ig w2 ps S (fun k=>Y k\/v2.ownBlock=some k):=by
 refine(h.grown hg fun g e=>⟨ae e,by have:=(own.ge g e).1;omega,(own.block e).2.2⟩).mono fun k hk=>?_
 rcases hk with hk | hk
 ·exact aa (aa hk)
 ·rcases hv with e | ⟨g,e,hg⟩
  ·rw[e] at hk;exact aa (ae hk)
  ·rw[e] at hk;obtain rfl:g=k:=Option.some.inj hk;exact ae ⟨hg,(ho2.ge g e).2⟩
structure dU (w:World) (ps:Nat) (S:St) (Y:Nat->Prop) (bb D:Nat) (kind:Int) (n:Nat):Prop where
 ex:∃v L,Ig w ps S (fun k=>(Y k\/k=bb)\/v.ownBlock=some k)/\w.heap[bb]?=some (.cells #[PV ps,Xi kind,v] 169 (0,0))/\FE w D v L/\L.length=n/\∀g,v.ownBlock=some g->¬Y g/\g≠bb
 lo:fy<D/\D<=w.heap.size
 hy:∀k,Y k->k≠bb
section
variable {w w':World}{ps bb D n:Nat}{S S':St}{Y Z:Nat->Prop}{kind:Int}
theorem dU.st(h:dU w ps S Y bb D kind n):Ig w ps S (fun k=>Y k\/k=bb):=by
 obtain⟨v,L,h,_⟩:=h.ex;exact h.mono fun k hk=>aa hk
theorem dU.cell(h:dU w ps S Y bb D kind n):w.cell? ⟨bb,0,none⟩=some (PV ps)/\w.cell? ⟨bb,1,none⟩=some (Xi kind):=by
 obtain⟨v,L,_,hb,_⟩:=h.ex;constructor<;>· rw[cell_of_block hb];rfl
theorem dU.keep(h:dU w ps S Y bb D kind n)(hc:∀Z,Ig w ps S Z->Ig w' ps S' Z/\Fo Z w w'):dU w' ps S' Y bb D kind n/\Fo Y w w':=by
 obtain⟨v,L,h1,hb,ho,hl,hn⟩:=h.ex;obtain⟨h2,hk⟩:=hc _ h1;exact⟨⟨⟨v,L,h2,(hk.block bb (aa (ae rfl))).trans hb,ho.at fun g e=>hk.block g (ae e),hl,hn⟩,⟨h.lo.1,aK h.lo.2 hk.size⟩,h.hy⟩,hk.mono fun k hk=>aa (aa hk)⟩
theorem dU.call(h:dU w ps S Y bb D kind n){f:FuncId}{args:Array Value}{r:Ending}(hc:∀Z,Ig w ps S Z->Ct f args w fun e w'=>e=r/\Ig w' ps S' Z/\Fo Z w w'):
 Ct f args w fun e w'=>e=r/\dU w' ps S' Y bb D kind n/\Fo Y w w':=by
 obtain⟨v,L,h1,hb,ho,hl,hn⟩:=h.ex;refine(hc _ h1).mono ?_;rintro e w' ⟨rfl,h2,hk⟩;exact⟨rfl,⟨⟨v,L,h2,(hk.block bb (aa (ae rfl))).trans hb,ho.at fun g e=>hk.block g (ae e),hl,hn⟩,⟨h.lo.1,aK h.lo.2 hk.size⟩,h.hy⟩,hk.mono fun k hk=>aa (aa hk)⟩
theorem dU.below(h:dU w ps S Y bb D kind n)(hb:Below w.heap.size w w'):dU w' ps S Y bb D kind n:=
 (h.keep fun _ hz=>⟨hz.below hb,hz.keep hb⟩).1
theorem dU.wide(h:dU w ps S Y bb D kind n)(hb:Below w.heap.size w w'):dU w' ps S (fun k=>Y k\/(w.heap.size<=k/\k<w'.heap.size)) bb D kind n:=by
 obtain⟨v,L,h1,ad,ho,hl,hn⟩:=h.ex;have ai:=(gl ad);refine⟨⟨v,L,(h1.wide hb).mono fun k hk=>?_,(hb.block bb ai).trans ad,ho.at fun g e=>hb.block g (ho.ge g e).2,hl,fun g e=>⟨fun hk=>?_,(hn g e).2⟩⟩,⟨h.lo.1,aK h.lo.2 hb.size⟩,fun k hk=>?_⟩
 ·rcases hk with ((hk | hk) | hk) | hk
  ·exact aa (aa (aa hk))
  ·exact ae hk
  ·exact aa (aa (ae hk))
  ·exact aa (ae hk)
 ·rcases hk with hk | hk
  ·exact(hn g e).1 hk
  ·have:=(ho.ge g e).2;omega
 ·rcases hk with hk | hk
  ·exact h.hy k hk
  ·omega
theorem dU.mono(h:dU w ps S Y bb D kind n)(hz:∀k,Z k->Y k):dU w ps S Z bb D kind n:=by
 obtain⟨v,L,h1,ad,ho,hl,hn⟩:=h.ex;exact⟨⟨v,L,h1.mono fun k hk=>hk.imp (fun q=>q.imp (hz k) id) id,ad,ho,hl,fun g e=>⟨fun q=>(hn g e).1 (hz g q),(hn g e).2⟩⟩,h.lo,fun k hk=>h.hy k (hz k hk)⟩
theorem dU.write(h:dU w ps S Y bb D kind n){b:Nat}{cs:Array Value}{t:TypeId}{fr:Nat×Nat}(hy:Y b)(hb:w.heap[b]?=some (.cells cs t fr))(ht:t≠94/\t≠160)(hl:cs.size<64)(hs:w.heap.size<=w'.heap.size)(hw:∀k,k<w.heap.size->k≠b->w'.heap[k]?=w.heap[k]?):dU w' ps S Y bb D kind n:=by
 obtain⟨v,L,h1,ad,ho,ai,hn⟩:=h.ex;exact⟨⟨v,L,h1.write (aa (aa hy)) hb ht hl hs hw,(hw bb (gl ad) (h.hy b hy).symm).trans ad,ho.at fun g e=>hw g (ho.ge g e).2 fun q=>(hn g e).1 (q▸hy),ai,hn⟩,⟨h.lo.1,aK h.lo.2 hs⟩,h.hy⟩
end
theorem dU.push {w:World}{ps bb D n:Nat}{S:St}{Y:Nat->Prop}{kind:Int}(h:dU w ps S Y bb D kind n)(hn:n<=100000)(hh:Nat):
 ∃A m c A2 m2 cc w2,w.heap[bb]?=some (.cells #[PV ps,Xi kind,.slice A m c] 169 (0,0))/\(Builtin.append_ #[59,59] 59 #[.slice A m c,.slice (some ⟨w.heap.size,0,none⟩) 1 1]).run prog (w.alloc (Xf hh))=.ok (.slice A2 m2 cc) w2/\
  w2.heap[bb]?=some (.cells #[PV ps,Xi kind,.slice A m c] 169 (0,0))/\Fo Y w w2/\dU (w2.setCell ⟨bb,2,none⟩ (.slice A2 m2 cc)) ps S Y bb D kind (n+1)/\Fo Y w (w2.setCell ⟨bb,2,none⟩ (.slice A2 m2 cc)):=by
 obtain⟨v,L,h1,hb,ho,hl,al⟩:=h.ex;obtain⟨v2,w2,a2,an,ad,au⟩:=jF ho (by omega) hh h.lo.2 59;obtain⟨A,c,rfl⟩:=ho.slice2;obtain⟨A2,m2,cc,rfl⟩:=an.slice;have a1:=(gl hb);have h2:=h1.row h.lo.1 ho an ad au;have a0:∀k,Y k->k<w.heap.size:=fun k hk=>h1.yl k (aa (aa hk));have ar:∀g,(Value.slice A2 m2 cc).ownBlock=some g->¬Y g/\g≠bb:=fun g e=>by
  rcases au with q | ⟨g',q,hg⟩
  ·rw[q] at e;exact al g e
  ·rw[q] at e;obtain rfl:g'=g:=Option.some.inj e;exact⟨fun hk=>by have:=a0 _ hk;omega,by omega⟩
 have b2:w2.heap[bb]?=_:=(ad.block bb a1 fun e=>(al bb e.symm).2 rfl).trans hb;have ai:Fo Y w w2:=⟨ad.os,ad.tape,ad.output,ad.size,fun k hk=>ad.block k (a0 k hk) fun e=>(al k e.symm).1 hk⟩;refine⟨A,_,c,A2,m2,cc,w2,hb,a2,b2,ai,⟨⟨_,_,(h2.write (aa (ae rfl)) b2 ⟨by decide,by decide⟩ (by simp) (by simp) fun k _ hk=>FB hk),heap_setCell b2,an.at fun g e=>FB (ar g e).2,by simp[hl],ar⟩,⟨h.lo.1,?_⟩,h.hy⟩,ai.os,ai.tape,ai.output,by rw[size_setCell];exact ai.size,fun k hk=>?_⟩
 ·rw[size_setCell];exact aK h.lo.2 ad.size
 ·rw[FB (h.hy k hk)];exact ai.block k hk
theorem py {w:World}{ps bb D n:Nat}{S:St}{Y:Nat->Prop}{kind:Int}(h:dU w ps S Y bb D kind n)(hn:n<=100000)(hh:Nat):
 Ct 139 #[PV bb,Xu hh,Xi 0] w fun e w'=>e=.returned (Xu hh)/\dU w' ps S Y bb D kind (n+1)/\Fo Y w w':=by
 obtain⟨A,m,c,A2,m2,cc,w2,hb,ai,b2,_,ad⟩:=h.push hn hh;obtain⟨c0,c1,c2⟩:=fq hb;obtain⟨d0,d1,d2⟩:=fq b2;obtain⟨f0,f1,f2⟩:=uA b2;have HF:=If ad;clear ad b2 hb h hn;go_enter func139,ntmps139
 go_wp2_with (at_builtin;refine Lib.wpList_append_run _ rfl _ _ _ _ rfl _ _ rfl rfl _ _ ai ?_)
 go_ret;exact⟨rfl,HF.out⟩
end
section
open Go.RowKit Tryz Go.BigFrame Go.Maps Go.WideMaps Lf
variable{R:Nat×Nat}{S:St}{Y:Nat->Prop}{kind:Nat}{ps:Nat}{w:World}
theorem sV(px k v:Nat)(w:World):
 Cb 84 #[PV px,Id k v,.bool false] w (.string ⟨#[]⟩):=by
 simp only[Id];go_enter func84,ntmps84;go_wp2_with fail;go_ret;exact⟨rfl,(ab _ w).alloc Ih _⟩
def Lf.itemsM(S:St)(a b:List UInt8):Option ((Nat×Nat)×St):=
 if(fx S a).1.2≠0\/(fx (fx S a).2 b).1.2≠0 then none
 else some (((fx S a).1.1,(fx (fx S a).2 b).1.1),(fx (fx S a).2 b).2)
def nJ(S:St)(a b:List UInt8):Prop:=a.length<=1000/\b.length<=1000/\iw S (many a.length)/\iw (fx S a).2 (many b.length)
theorem wu{a:List UInt8}(hm:iw S (many a.length))(hi:Fv S):Fv (fx S a).2:=by
 have h2:=hm.2;unfold fx
 split
 ·exact hi
 ·split
  ·rename_i e;rw[e] at h2;exact(rV _ _ _ 0 h2).1
  ·rename_i e;rw[e] at h2;exact h2
theorem wv(hw:iW S.t)(a:List UInt8):(fx S a).1.1<2^64:=by
 have:=oA hw (many a.length);unfold fx
 split
 ·simp
 ·split
  ·rename_i e;rw[e] at this;exact this
  ·simp
theorem BI{S S':St}{a b:List UInt8}{p:Nat×Nat}(h:itemsM S a b=some (p,S')):(fx S a).1=(p.1,0)/\(fx (fx S a).2 b).1=(p.2,0)/\S'=(fx (fx S a).2 b).2:=by
 unfold itemsM at h
 split at h
 ·cases h
 ·rename_i hc;simp only[not_or,cZ] at hc;have h:=Option.some.inj h
  injection h with e1 e2
  subst e1 e2;exact⟨Prod.ext rfl hc.1,Prod.ext rfl hc.2,rfl⟩
def Lf.treePutM(jn:Jn)(S:St)(root:Nat)(a b:List UInt8):Option (Nat×St):=
 match itemsM S a b with
 | none=>none
 | some (p,S1)=>binInsM jn S1 root p.1 p.2
def pJ(S:St)(a b:List UInt8):Prop:=nJ S a b/\∀p S1,itemsM S a b=some (p,S1)->iw S1 6
theorem Di(h:Ig w ps S Y)(hi:Fv S)(hh:Nat)(hl:hh<2^64):
 Ct 145 #[PV ps,Xu hh] w fun e w'=>e=.returned (Xi ((jr S hh).1:Nat))/\Ig w' ps (jr S hh).2 Y/\Fo Y w w':=by
 by_cases ha:fZ S hh=0
 ·have has:=oG h hi hh hl;have ad:=sE h hi hh hl;have hR:jr S hh=S.drop hh:=by unfold jr;rw[ha];rfl
  rw[hR];rw[ha] at has;have HG:=kq2 has ad;clear has ad hR ha h hi;go_enter func145,ntmps145;go_wp2_with fail;refine Jc HG.a ?_;go_wp2_with fail;refine wx HG.b fun w1 hb=>?_;have H1:=If hb;clear hb;go_wp2_with fail;go_ret;exact⟨rfl,H1.out⟩
 ·have hR:jr S hh=(fZ S hh,S):=by unfold jr;split<;>simp_all
  rw[hR];refine Jc (vT h hi hh hl ha) ?_;exact⟨rfl,h,Fo.refl _ _⟩
theorem zi{S S':St}(h:Ig w ps S Y)(hi:Fv S)(kind o:Nat)(hl:o<2^64)(hd:jr S o=(0,S')):
 Ct 309 #[fE ps kind,Xu o] w fun e w'=>e=.returned (.tuple #[Id (getNode S o).1.key (getNode S o).1.val,.bool true])/\Ig w' ps S' Y/\Fo Y w w':=by
 have B1:=(ab w.heap.size w).alloc Ih (Xg ps kind);have q1:=heap_alloc_new w (Xg ps kind);have B0:=B1.alloc B1.size (.cells #[Xu 0,Xu 0] 104);have z1:=heap_alloc_new (w.alloc (Xg ps kind)) (.cells #[Xu 0,Xu 0] 104);have q1:=(((ab (w.alloc (Xg ps kind)).heap.size (w.alloc (Xg ps kind))).alloc Ih (.cells #[Xu 0,Xu 0] 104)).block w.heap.size (by simp)).trans q1;simp only[World.size_alloc] at z1;have ar:=my (h.below B0) hi kind o hl;have an:=fun W Z (hW:Ig W ps S Z)=>Di hW hi o hl;rw[hd] at an;simp only[Id,fE] at ar⊢;generalize (getNode S o).1.key=a0 at*;generalize (getNode S o).1.val=a1 at*;have HG:=kq6 ar an B0 z1 q1 h;have a2:=h.yl;clear ar an B0 B1 h hi z1 q1 hd;go_enter func309,ntmps309;go_wp2_with fail;refine wx HG.a fun w1 hb1=>?_;have ad:=hb1.alloc hb1.size (Xe a0 a1);have y1:=heap_alloc_new w1 (Xe a0 a1);have z1:=(ad.block (w.heap.size+1) (by simp)).trans HG.d;have q1:=(ad.block w.heap.size (by simp;omega)).trans HG.e;have B2:=HG.c.trans (ad.mono HG.c.size);have S2:=HG.f.wide B2;have sz:w.heap.size+2<=w1.heap.size:=by have:=hb1.size;simp at this;omega
 have sw:(w1.alloc (Xe a0 a1)).heap.size=w1.heap.size+1:=by simp
 go_wp2_with fail;rw[sw] at S2;generalize w1.alloc (Xe a0 a1)=W at*;obtain⟨I,ai,al⟩:∃I:World->Prop,(∀w',I w'->w'.heap[w.heap.size]?=some (Xg ps kind)/\w'.heap[w1.heap.size]?=some (Xe a0 a1))/\(∀w',w'.heap[w.heap.size]?=some (Xg ps kind)->w'.heap[w1.heap.size]?=some (Xe a0 a1)->I w'):=⟨fun w'=>w'.heap[w.heap.size]?=some (Xg ps kind)/\w'.heap[w1.heap.size]?=some (Xe a0 a1),fun _ h=>h,fun _ a b=>⟨a,b⟩⟩;have au:=fun x:Fq I=>(ai _ x.ok).1;have a3:=fun x:Fq I=>(ai _ x.ok).2;obtain⟨a7,a8⟩:=fw au;obtain⟨a9,a'⟩:=fw a3;have a6:w1.heap.size≠w.heap.size+1:=by omega
 have HW:=kq5 B2 z1 q1 y1 S2;have HI:=If al;have a5:I W.drew:=al _ q1 y1;clear B2 z1 q1 y1 hb1 ad au a3 ai al S2;refine fh I (.take 0 (.take 1 (.take 2 (.take 3 (.go 4 (.take 5 (.go 6 (.go 7 .nil)))))))) (by kernel_rfl) (by kernel_rfl) a5 ?_
 iterate 4
  refine' pT ?_ ?_;rotate_left
  ·intro x;go_simp
   try rfl
  try simp only[pu]
 refine pD fun K hK=>?_;go_simp;refine(HG.b _ _ (HW.e.drewN 1)).mono ?_;rintro e w3 ⟨rfl,s3,k3⟩;have e3:=fun k (hk:w.heap.size<=k/\k<w1.heap.size+1)=>k3.block k (ae hk);have q3:=(e3 w.heap.size ⟨Nat.le_refl _,by omega⟩).trans HW.c;have y3:=(e3 w1.heap.size ⟨by omega,by omega⟩).trans HW.d;have z3:=(e3 (w.heap.size+1) ⟨by omega,by omega⟩).trans HW.b;have a4:Fo Y w w3:=(Fo.of_below HW.a a2).trans ((Fo.drewN Y W 1).trans (k3.mono fun k hk=>aa hk));have H3:=kq5 s3 a4 q3 y3 z3;clear e3 s3 k3 a4 q3 y3 z3
 try go_simp
 refine hK.out _ _ (HI.out _ H3.c H3.d) ?_;clear hK K
 try simp only[pu]
 refine' pT ?_ ?_;rotate_left
 ·intro x;go_simp
  try rfl
 try simp only[pu]
 have z3:=H3.e;obtain⟨e0,e1⟩:=Fp z3;obtain⟨f0,f1⟩:=ef z3;clear z3;refine pD fun K hK=>?_;go_simp;have q4:((w3.setCell ⟨(w.heap.size+1),0,none⟩ (Xu a0)).setCell ⟨(w.heap.size+1),1,none⟩ (Xu a1)).heap[w.heap.size+1]?=_:=ew H3.e (Xu a0) (Xu a1);have o4:∀k,k≠w.heap.size+1->((w3.setCell ⟨(w.heap.size+1),0,none⟩ (Xu a0)).setCell ⟨(w.heap.size+1),1,none⟩ (Xu a1)).heap[k]?=w3.heap[k]?:=fun k hk=>fA hk _ _;have s4:Ig ((w3.setCell ⟨(w.heap.size+1),0,none⟩ (Xu a0)).setCell ⟨(w.heap.size+1),1,none⟩ (Xu a1)) ps S' Y:=(H3.a.write (b:=w.heap.size+1) (ae ⟨by omega,by omega⟩) H3.e ⟨by decide,by decide⟩ (by simp) (by simp) fun k _ hk=>o4 k hk).mono fun k hk=>aa hk;have k4:Fo Y w ((w3.setCell ⟨(w.heap.size+1),0,none⟩ (Xu a0)).setCell ⟨(w.heap.size+1),1,none⟩ (Xu a1)):=H3.b.trans ⟨rfl,rfl,rfl,by simp,fun k hk=>o4 k (by have:=a2 k hk;omega)⟩;have r4:=(o4 w.heap.size (by omega)).trans H3.c;have y4:=(o4 w1.heap.size a6).trans H3.d;have H4:=kq5 s4 k4 q4 r4 y4;clear o4 s4 k4 q4 r4 y4 e0 e1 f0 f1;generalize ((w3.setCell ⟨(w.heap.size+1),0,none⟩ (Xu a0)).setCell ⟨(w.heap.size+1),1,none⟩ (Xu a1))=W4 at*
 try go_simp
 refine hK.out _ _ (HI.out _ H4.d H4.e) ?_;clear hK K
 try simp only[pu]
 refine pD fun K hK=>?_;go_simp
 try go_simp
 refine hK.out _ _ (HI.out _ H4.d H4.e) ?_;clear hK K
 try simp only[pu]
 refine eP ?_;have q5:=H4.c;obtain⟨g0,g1⟩:=Fp q5;clear q5;go_wp2_with fail;exact bodyPost_ret (v:=.tuple #[.agg #[Xu a0,Xu a1],.bool true]) (by simp[results,f309,go_sem,g0,g1]) rfl ⟨rfl,H4.a,H4.b⟩
def Lf.binRepM(jn:Jn)(S:St)(root k v:Nat):Option ((Nat×Nat×Nat)×St):=
 if(ft S ⟨k,v,0,0,0,1⟩).1.2≠0 then none
 else match insertOkM jn (ft S ⟨k,v,0,0,0,1⟩).2 root (ft S ⟨k,v,0,0,0,1⟩).1.1 with
  | none=>none
  | some ((now,o),S1)=>match jr S1 o with
   | (0,S2)=>some ((now,(getNode S1 o).1.key,(getNode S1 o).1.val),S2)
   | _=>none
theorem y9{jn:Jn}{S S':St}{root k v:Nat}{R:Nat×Nat×Nat}(h:binRepM jn S root k v=some (R,S')):
 ∃o S1,(ft S ⟨k,v,0,0,0,1⟩).1.2=0/\insertOkM jn (ft S ⟨k,v,0,0,0,1⟩).2 root (ft S ⟨k,v,0,0,0,1⟩).1.1=some ((R.1,o),S1)/\jr S1 o=(0,S')/\R.2.1=(getNode S1 o).1.key/\R.2.2=(getNode S1 o).1.val:=by
 unfold binRepM at h
 split at h
 ·cases h
 ·rename_i h0
  split at h
  ·cases h
  ·rename_i now o S1 h1
   split at h
   ·rename_i S2 h2;have h:=Option.some.inj h
    injection h with e1 e2
    subst e1 e2;exact⟨o,S1,cZ.1 h0,h1,h2,rfl,rfl⟩
   ·cases h
theorem zd{S S':St}(h:Ig w ps S Y)(hm:iw S 6){j c:FuncId}{jn:Jn}(hk:jD kind j c jn)(root k v:Nat)(hl:root<2^64)(hkl:k<2^64)(hvl:v<2^64){R:Nat×Nat×Nat}(hx:binRepM jn S root k v=some (R,S'))(hi':Fv S'):
 Ct 301 #[fE ps kind,Xu root,Id k v] w fun e w'=>e=.returned (.tuple #[Xu R.1,Id R.2.1 R.2.2,.bool true,Xi 0])/\Ig w' ps S' Y/\Fo Y w w'/\Fv S'/\R.1<2^64:=by
 obtain⟨o,S2,h0,h1,h2,e1,e2⟩:=y9 hx;obtain⟨x,ik,iv⟩:=R;simp only at h1 e1 e2⊢;have ar:=vz hm ⟨k,v,0,0,0,1⟩;have a4:=yW h.tabwf ⟨k,v,0,0,0,1⟩;have ai:=fun W Z (hW:Ig W ps S Z)=>vU hW hm ⟨k,v,0,0,0,1⟩ ⟨hkl,hvl,by simp,by simp,by simp,by simp⟩;generalize ft S ⟨k,v,0,0,0,1⟩=M at*;obtain⟨⟨m,em⟩,S1⟩:=M;simp only at h0 h1 ar a4 ai;subst h0;have a3:=fun W Z (hW:Ig W ps S1 Z)=>In hW ar hk.joins hk.way root m hl a4 h1;have al:=fun W Z (hi2:Fv S2) (ho:o<2^64) (hW:Ig W ps S2 Z)=>zi hW hi2 kind o ho h2;rw[<-e1,<-e2] at al;simp only[fE,Id,eS] at ai al⊢;have B1:=(ab w.heap.size w).alloc Ih (Xg ps kind);have q1:=heap_alloc_new w (Xg ps kind);generalize a6:w.alloc (Xg ps kind)=w1 at*;have z1:w1.heap.size=w.heap.size+1:=by rw[<-a6];simp
 have A2:=(ab w1.heap.size w1).alloc Ih (Xe k v);have B2:=B1.alloc B1.size (Xe k v);have q2:=(A2.block w.heap.size (by omega)).trans q1;have z2:(w1.alloc (Xe k v)).heap.size=w.heap.size+2:=by simp[z1]
 generalize a':w1.alloc (Xe k v)=w2 at*;have A3:=(ab w2.heap.size w2).alloc Ih (.cells #[Xu 0,Xu 0] 104);have q3:=(A3.block w.heap.size (by omega)).trans q2;have B3:=B2.alloc B2.size (.cells #[Xu 0,Xu 0] 104);have y3:=heap_alloc_new w2 (.cells #[Xu 0,Xu 0] 104);rw[z2] at y3;have z3:(w2.alloc (.cells #[Xu 0,Xu 0] 104)).heap.size=w.heap.size+3:=by simp[z2]
 subst a' a6;have hY:=h.yl;have HG:=kq9 ai a3 al (h.wide B3) q3 y3 z3 B3 hY;clear ai a3 al h q1 q2 q3 y3 A2 A3 B1 B2 B3 z1 z2 z3 ar h1 h2 e1 e2 hm hk hY hx;go_enter func301,ntmps301;go_wp2_with fail;refine(HG.a _ _ HG.d).mono ?_;rintro e w4 ⟨rfl,h4,k4⟩;have q4:=(k4.block w.heap.size (ae ⟨Nat.le_refl _,by have:=HG.g;omega⟩)).trans HG.e;have y4:=(k4.block (w.heap.size+2) (ae ⟨by omega,by have:=HG.g;omega⟩)).trans HG.f;obtain⟨c0,c1⟩:=Fp q4;have H4:=kq4 h4 k4 q4 y4;clear h4 k4 q4 y4;go_wp2_with fail;obtain⟨hp,a2,a7,a5⟩:=HG.b _ _ H4.a;refine hp.mono ?_;rintro e w5 ⟨rfl,h5,k5⟩;have q5:=(k5.block w.heap.size (ae ⟨Nat.le_refl _,by have:=HG.g;omega⟩)).trans H4.c;have y5:=(k5.block (w.heap.size+2) (ae ⟨by omega,by have:=HG.g;omega⟩)).trans H4.d;obtain⟨d0,d1⟩:=Fp q5;have H5:=kq6 h5 (H4.b.trans k5) a2 a7 y5 a5;clear h5 k5 q5 y5 hp a2 a7 a5 c0 c1;go_wp2_with fail;refine(HG.c _ _ H5.c H5.f H5.a).mono ?_;rintro e w6 ⟨rfl,h6,au⟩;have y6:=(au.block (w.heap.size+2) (ae ⟨by omega,by have:=HG.g;omega⟩)).trans H5.e;obtain⟨e0,e1⟩:=Fp y6;obtain⟨f0,f1⟩:=ef y6;have q7:((w6.setCell ⟨(w.heap.size+2),0,none⟩ (Xu ik)).setCell ⟨(w.heap.size+2),1,none⟩ (Xu iv)).heap[w.heap.size+2]?=_:=ew y6 (Xu ik) (Xu iv);have o7:∀k,k≠w.heap.size+2->((w6.setCell ⟨(w.heap.size+2),0,none⟩ (Xu ik)).setCell ⟨(w.heap.size+2),1,none⟩ (Xu iv)).heap[k]?=w6.heap[k]?:=fun k hk=>fA hk _ _;have z7:((w6.setCell ⟨(w.heap.size+2),0,none⟩ (Xu ik)).setCell ⟨(w.heap.size+2),1,none⟩ (Xu iv)).heap.size=w6.heap.size:=by simp
 have s7:((w6.setCell ⟨(w.heap.size+2),0,none⟩ (Xu ik)).setCell ⟨(w.heap.size+2),1,none⟩ (Xu iv)).os=w6.os/\((w6.setCell ⟨(w.heap.size+2),0,none⟩ (Xu ik)).setCell ⟨(w.heap.size+2),1,none⟩ (Xu iv)).tape=w6.tape/\((w6.setCell ⟨(w.heap.size+2),0,none⟩ (Xu ik)).setCell ⟨(w.heap.size+2),1,none⟩ (Xu iv)).output=w6.output:=⟨rfl,rfl,rfl⟩;have ba:∀k,Y k->k<w.heap.size:=HG.i;have k6:=H5.b.trans au;have H6:=kq9 h6 k6 H5.c H5.d y6 q7 o7 z7 s7;clear y6 d0 d1 h6 k6 au o7 z7 s7 q7;go_wp2_with fail;generalize ((w6.setCell ⟨(w.heap.size+2),0,none⟩ (Xu ik)).setCell ⟨(w.heap.size+2),1,none⟩ (Xu iv))=w7 at*;have q7:=H6.f;obtain⟨I,a0,an⟩:∃I:World->Prop,(∀w',I w'->w'.heap[w.heap.size+2]?=some (Xe ik iv))/\(∀w',w'.heap[w.heap.size+2]?=some (Xe ik iv)->I w'):=⟨fun w'=>w'.heap[w.heap.size+2]?=some (Xe ik iv),fun _ h=>h,fun _ a=>a⟩;have a8:=fun x:Fq I=>a0 _ x.ok;obtain⟨m0,m1⟩:=fw a8;obtain⟨g0,g1⟩:=Fp q7;obtain⟨h0,h1⟩:=ef q7;have HI:=If an;have a9:I w7.drew:=an _ q7;have HQ:=If q7;clear e0 e1 f0 f1 q7 a0 an a8;refine nF I [(true,0),(true,1),(true,2),(true,3),(false,4),(false,5),(false,6),(false,7)] (by kernel_rfl) (by kernel_rfl) a9 ?_
 iterate 4
  refine' mT ?_ ?_;rotate_left
  ·intro x;go_simp
   try rfl
  try simp only[pu]
 refine mD fun K hK=>?_;go_simp
 try go_simp
 refine hK.out _ _ (HI.out _ HQ.out) ?_;clear hK K
 try simp only[pu]
 refine mD fun K hK=>?_;go_simp;have q8:((w7.setCell ⟨(w.heap.size+2),0,none⟩ (Xu ik)).setCell ⟨(w.heap.size+2),1,none⟩ (Xu iv)).drew.heap[w.heap.size+2]?=_:=ew HQ.out (Xu ik) (Xu iv);have o8:∀k,k≠w.heap.size+2->((w7.setCell ⟨(w.heap.size+2),0,none⟩ (Xu ik)).setCell ⟨(w.heap.size+2),1,none⟩ (Xu iv)).drew.heap[k]?=w7.heap[k]?:=fun k hk=>fA hk _ _;have z8:((w7.setCell ⟨(w.heap.size+2),0,none⟩ (Xu ik)).setCell ⟨(w.heap.size+2),1,none⟩ (Xu iv)).drew.heap.size=w7.heap.size:=by show ((w7.setCell ⟨(w.heap.size+2),0,none⟩ (Xu ik)).setCell ⟨(w.heap.size+2),1,none⟩ (Xu iv)).heap.size=_;simp
 have s8:((w7.setCell ⟨(w.heap.size+2),0,none⟩ (Xu ik)).setCell ⟨(w.heap.size+2),1,none⟩ (Xu iv)).drew.os=w7.os/\((w7.setCell ⟨(w.heap.size+2),0,none⟩ (Xu ik)).setCell ⟨(w.heap.size+2),1,none⟩ (Xu iv)).drew.tape=w7.tape/\((w7.setCell ⟨(w.heap.size+2),0,none⟩ (Xu ik)).setCell ⟨(w.heap.size+2),1,none⟩ (Xu iv)).drew.output=w7.output:=⟨rfl,rfl,rfl⟩;generalize ((w7.setCell ⟨(w.heap.size+2),0,none⟩ (Xu ik)).setCell ⟨(w.heap.size+2),1,none⟩ (Xu iv)).drew=w8 at*
 try go_simp
 refine hK.out _ _ (HI.out _ q8) ?_;clear hK K
 try simp only[pu]
 refine mD fun K hK=>?_;go_simp
 try go_simp
 refine hK.out _ _ (HI.out _ q8) ?_;clear hK K
 try simp only[pu]
 refine mD fun K hK=>?_;go_simp
 try go_simp
 refine hK.out _ _ (HI.out _ q8) ?_;clear hK K
 try simp only[pu]
 refine mX ?_;obtain⟨e0,e1⟩:=Fp q8;have a1:Ig w8 ps S' Y/\Fo Y w w8:=by
  obtain⟨h6,k6,-,-,y6,-,o7,z7,s7⟩:=H6.out;have hY:=HG.i;have hz:=HG.g;have hw:∀k,k≠w.heap.size+2->w8.heap[k]?=w6.heap[k]?:=fun k hk=>(o8 k hk).trans (o7 k hk);refine⟨(h6.write (ae ⟨by omega,by omega⟩) y6 ⟨by decide,by decide⟩ (by simp) (by omega) fun k _ hk=>hw k hk).mono fun k hk=>aa hk,?_⟩;have ad:=(Fo.of_below HG.h hY).trans (k6.mono fun k hk=>aa hk);exact⟨(s8.1.trans s7.1).trans ad.os,(s8.2.1.trans s7.2.1).trans ad.tape,(s8.2.2.trans s7.2.2).trans ad.output,by have:=ad.size;omega,fun k hk=>(hw k (by have:=hY k hk;omega)).trans (ad.block k hk)⟩
 have HF:=If a1;clear a1 q8 o8 z8 s8 g0 g1 h0 h1 m0 m1;go_wp2_with fail;exact bodyPost_ret (v:=.tuple #[Xu x,.agg #[Xu ik,Xu iv],.bool true,Xi 0]) (by simp[results,f301,go_sem,e0,e1]) rfl ⟨rfl,HF.out.1,HF.out.2,hi',H6.d⟩
theorem ET(h:Ig w ps S Y)(hi:Fv S){j c:FuncId}{jn:Jn}(hk:jD kind j c jn)(t:Int):
 Ct 47 #[PV ps,Xi kind,Xi t,Xu 0] w fun e w'=>∃px,e=.returned (.tuple #[PV px,Xi 0])/\tt w' px ps kind 0/\Below w.heap.size w w'/\w.heap.size<=px:=by
 have hc:=JF h hi hk t;have hq:((kind:Int)==3)=false:=by have:=hk.is;simp;omega
 have HG:=If hc;clear hc h hi hk;go_enter func47,ntmps47;go_wp2_with fail;refine wx HG.out fun w1 hb1=>?_;have q:=heap_alloc_new w1 (.cells #[PV ps,Xi kind,Xi 0,.iface 162 (fE ps kind),Xu 0] 100);have B:=hb1.alloc hb1.size (.cells #[PV ps,Xi kind,Xi 0,.iface 162 (fE ps kind),Xu 0] 100);simp only[fE] at q B;have HB:=kq3 q B hb1.size;clear q B hb1;go_wp2_with fail;go_ret2;exact⟨w1.heap.size,rfl,HB.a,HB.b,HB.c⟩
theorem ES(h:Ig w ps S Y)(hi:Fv S){j c:FuncId}{jn:Jn}(hk:jD kind j c jn)(t:Int):
 Ct 13 #[PV ps,Xi kind,Xi t] w fun e w'=>∃px,e=.returned (.tuple #[PV px,Xi 0])/\tt w' px ps kind 0/\Below w.heap.size w w'/\w.heap.size<=px:=by
 have HG:=If (ET h hi hk t);clear h hi hk;go_enter func13,ntmps13;go_wp2_with fail;refine HG.out.mono ?_;rintro e w1 ⟨px,rfl,hr⟩;have HB:=If hr;clear hr;go_wp2_with fail;go_ret2;exact⟨px,rfl,HB.out⟩
def Ic(w:World)(pm px ps limit:Nat):Prop:=w.heap[pm]?=some (.cells #[PV ps,PV px,Xi limit] 116)
theorem Ic.below{w w':World}{pm px ps limit:Nat}(h:Ic w pm px ps limit)(hb:Below w.heap.size w w'):Ic w' pm px ps limit:=(hb.block pm (gl h)).trans h
theorem ki{pm px ps limit:Nat}(hM:Ic w pm px ps limit):
 Ct 57 #[PV pm] w fun e w'=>e=.returned (.bool false)/\w=w':=by
 unfold Ic at hM;obtain⟨c0,c1,c2⟩:=fq hM;clear hM;go_enter func57,ntmps57;go_wp2_with fail;go_ret;exact⟨rfl,rfl⟩
theorem vH{pm px ps limit:Nat}(hM:Ic w pm px ps limit)(a b:List UInt8)(ha:a.length<=limit)(hb:b.length<=limit):
 Ct 58 #[PV pm,SV a,SV b] w fun e w'=>e=.returned (Xi 0)/\w=w':=by
 have HG:=If (ki hM);unfold Ic at hM;obtain⟨c0,c1,c2⟩:=fq hM;have ad:((limit:Int)<(a.length:Int))=False:=eq_false (by omega);have ai:((limit:Int)<(b.length:Int))=False:=eq_false (by omega);clear hM ha hb;go_enter func58,ntmps58;go_wp2_with fail;refine Jc HG.out ?_;go_wp2_with fail;go_ret;exact⟨rfl,rfl⟩
theorem EX(h:Ig w ps S Y)(hi:Fv S)(root:Nat)(hl:root<2^64)(k:List UInt8)(hR:ij S k (limit S) root 0=some R):
 Cb 307 #[PV ps,Xu root,SV k] w (.tuple #[Xu R.1,.bool (decide (R.1≠0))]):=by
 have HG:=If (xT h hi root hl k hR);obtain⟨a,b⟩:=R;simp only at HG⊢;clear hR h hi;go_enter func307,ntmps307;go_wp2_with fail;refine wx HG.out fun w1 hb=>?_;have HB:=If hb;clear hb;go_wp2_with fail;go_ret2;refine⟨?_,HB.out⟩;have:((a:Int) !=0)=decide (a≠0):=by by_cases e:a=0<;>simp[e]<;>omega
 rw[<-this]
 rfl
theorem tL(h:Ig w ps S Y)(hi:Fv S)(kind root:Nat)(hl:root<2^64)(k:List UInt8)(hR:ij S k (limit S) root 0=some R)(hR1:R.1<2^64):
 Cb 300 #[fE ps kind,Xu root,SV k] w (.tuple #[Id (getNode S R.1).1.key (getNode S R.1).1.val,.bool (decide (R.1≠0))]):=by
 have B1:=(ab w.heap.size w).alloc Ih (Xg ps kind);have q1:=heap_alloc_new w (Xg ps kind);have B0:=B1.alloc B1.size (.cells #[Xu 0,Xu 0] 104);have z1:=heap_alloc_new (w.alloc (Xg ps kind)) (.cells #[Xu 0,Xu 0] 104);have q1:=(((ab (w.alloc (Xg ps kind)).heap.size (w.alloc (Xg ps kind))).alloc Ih (.cells #[Xu 0,Xu 0] 104)).block w.heap.size (by simp)).trans q1;simp only[World.size_alloc] at z1;have ha:=EX (h.below B0) hi root hl k hR;have ad:=fun W (hW:Below w.heap.size w W)=>my (h.below hW) hi kind R.1 hR1;simp only[Id,fE] at ad⊢;generalize (getNode S R.1).1.key=k0 at*;generalize (getNode S R.1).1.val=k1 at*;generalize decide (R.1≠0)=z at*;have HG:=kq5 ha ad B0 z1 q1;clear ha ad B0 B1 h hi z1 q1;go_enter func300,ntmps300;go_wp2_with fail;refine wx HG.a fun w1 hb1=>?_;have z1:=(hb1.block (w.heap.size+1) (by simp)).trans HG.d;have q1:=(hb1.block w.heap.size (by simp;omega)).trans HG.e;obtain⟨c0,c1⟩:=Fp q1;have H1:=kq2 (HG.c.trans (hb1.mono HG.c.size)) z1;clear hb1 z1 q1;go_wp2_with fail;refine wx (HG.b _ H1.a) fun w2 hb2=>?_;have z2:=(hb2.block (w.heap.size+1) (gl H1.b)).trans H1.b;obtain⟨d0,d1⟩:=Fp z2;obtain⟨f0,f1⟩:=ef z2;have HW:=kq2 (H1.a.trans (hb2.mono H1.a.size)) z2;clear hb2 z2 c0 c1;go_wp2_with fail;have q3:=ew HW.b (Xu k0) (Xu k1);have B3:=eT HW.a (bG w.heap.size) (Xu k0) (Xu k1);generalize ((w2.setCell ⟨(w.heap.size+1),0,none⟩ (Xu k0)).setCell ⟨(w.heap.size+1),1,none⟩ (Xu k1))=W3 at*;obtain⟨e0,e1⟩:=Fp q3;exact bodyPost_ret (v:=.tuple #[.agg #[Xu k0,Xu k1],.bool z]) (by simp[results,f300,go_sem,e0,e1]) rfl ⟨rfl,B3⟩
theorem za(h:Ig w ps S Y)(hi:Fv S)(kind root:Nat)(k:Int)(hk:k<0):
 Cb 299 #[fE ps kind,Xu root,Xi k] w (.tuple #[Id (getNode S 0).1.key (getNode S 0).1.val,Xi 2]):=by
 have B1:=(ab w.heap.size w).alloc Ih (Xg ps kind);have q1:=heap_alloc_new w (Xg ps kind);have B0:=B1.alloc B1.size (.cells #[Xu 0,Xu 0] 104);have z1:=heap_alloc_new (w.alloc (Xg ps kind)) (.cells #[Xu 0,Xu 0] 104);have q1:=(((ab (w.alloc (Xg ps kind)).heap.size (w.alloc (Xg ps kind))).alloc Ih (.cells #[Xu 0,Xu 0] 104)).block w.heap.size (by simp)).trans q1;simp only[World.size_alloc] at z1;have ha:=EW (h.below B0) hi root k hk;have ai:=fun W (hW:Below w.heap.size w W)=>my (h.below hW) hi kind 0 (by decide);simp only[Id,fE] at ai⊢;generalize (getNode S 0).1.key=k0 at*;generalize (getNode S 0).1.val=k1 at*;have HG:=kq5 ha ai B0 z1 q1;clear ha ai B0 B1 h hi z1 q1;go_enter func299,ntmps299;go_wp2_with fail;refine Jc HG.a ?_;have ad:=ab ((w.alloc (Xg ps kind)).alloc (.cells #[Xu 0,Xu 0] 104)).heap.size ((w.alloc (Xg ps kind)).alloc (.cells #[Xu 0,Xu 0] 104));generalize al:(w.alloc (Xg ps kind)).alloc (.cells #[Xu 0,Xu 0] 104)=w1 at*;have z1:=(ad.block (w.heap.size+1) (by rw[<-al];simp)).trans HG.d;have q1:=(ad.block w.heap.size (by rw[<-al];simp;omega)).trans HG.e;obtain⟨c0,c1⟩:=Fp q1;have H1:=kq2 (HG.c.trans (ad.mono HG.c.size)) z1;clear ad z1 q1 al;go_wp2_with fail;refine wx (HG.b _ H1.a) fun w2 hb2=>?_;have z2:=(hb2.block (w.heap.size+1) (gl H1.b)).trans H1.b;obtain⟨d0,d1⟩:=Fp z2;obtain⟨f0,f1⟩:=ef z2;have HW:=kq2 (H1.a.trans (hb2.mono H1.a.size)) z2;clear hb2 z2 c0 c1;go_wp2_with fail;have q3:=ew HW.b (Xu k0) (Xu k1);have B3:=eT HW.a (bG w.heap.size) (Xu k0) (Xu k1);generalize ((w2.setCell ⟨(w.heap.size+1),0,none⟩ (Xu k0)).setCell ⟨(w.heap.size+1),1,none⟩ (Xu k1))=W3 at*;obtain⟨e0,e1⟩:=Fp q3;exact bodyPost_ret (v:=.tuple #[.agg #[Xu k0,Xu k1],Xi 2]) (by simp[results,f299,go_sem,e0,e1]) rfl ⟨rfl,B3⟩
theorem vP(f:Nat)(v:Value)(w:World):(method (f+1) 162 v "loft/backend.find").run prog w=.ok (300,v) w:=by kernel_rfl
def Lf.treeRepM(jn:Jn)(S:St)(root:Nat)(a b:List UInt8):Option ((Nat×Nat×Nat)×St):=
 match itemsM S a b with
 | none=>none
 | some (p,S1)=>binRepM jn S1 root p.1 p.2
