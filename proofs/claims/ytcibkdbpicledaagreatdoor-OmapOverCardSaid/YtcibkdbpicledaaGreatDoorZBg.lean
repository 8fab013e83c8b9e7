/- B-trees: down, Find, Rank: the walks. -/
import Derived.Test.YtcibkdbpicledaaGreatDoorZDd
set_option maxRecDepth 100000
set_option maxHeartbeats 6400000
namespace Go.Proofs.YtcibkdbpicledaaGreatDoor
section
open Go.RowKit Tryz Go.BigFrame Go.Maps Go.WideMaps Lf Tr
variable{S:St}{Y:Nat->Prop}{d:Nat}{k:Nat}{key:List UInt8}{o:Nat->Nat}{ps:Nat}{w:World}{z:Nat}
structure Bt.Walk (S:St) (o:Nat->Nat) (t:Nat) {d:Nat} (x:Bt d):Prop where
 fit:Fw S o
 t1:2<=t
 t2:t<=16
 at':Bt.At S t x
 ok:Bt.Ok t x
 sorted:(Bt.its x).Pairwise eU
 keys:pv S (Bt.its x)
 few:(Bt.its x).length<1000000
theorem Bt.Walk.kid{t d:Nat}{x:Bt (d+1)}(h:Walk S o t x){k:Bt d}(hk:k∈Bn.ks x):Walk S o t k:=by
 have ad:∀e∈its k,e∈its x:=fun e he=>kid_its h.ok.okN hk he;have ai:(its k).Sublist (its x):=by
  rw[el];have hr:=h.ok.okN.rows;obtain⟨i,hi,rfl⟩:=co.1 hk
  rcases hr with⟨h0,_⟩ | ⟨h0,_⟩
  ·have:((Bn.ks x).map its).length=0:=by rw[h0];rfl
   rw[aq] at this;omega
  ·have al:i<=(Bn.es x).length:=by rw[aq] at h0;omega
   rw[nA al h0,jN hi];exact(List.sublist_append_left _ _).trans (List.sublist_append_right _ _)
 exact⟨h.fit,h.t1,h.t2,h.at'.2 k hk,(h.ok.2.2 k hk).1,h.sorted.sublist ai,⟨fun e he=>h.keys.lt e (ad e he),fun e he=>h.keys.get e (ad e he)⟩,da ai.length_le h.few⟩
theorem Bt.Walk.es{t d:Nat}{x:Bt (d+1)}(h:Walk S o t x):(Bn.es x).Pairwise eU/\pv S (Bn.es x)/\(Bn.es x).length<=31:=by
 have hs:(Bn.es x).Sublist (its x):=by
  rw[el];refine pd _ _ ?_
  rcases h.ok.okN.rows with⟨h0,_⟩ | ⟨h0,_⟩
  ·exact ab h0
  ·exact ae h0
 exact⟨h.sorted.sublist hs,⟨fun e he=>h.keys.lt e (hs.subset he),fun e he=>h.keys.get e (hs.subset he)⟩,by have:=h.ok.1;have:=h.t2;omega⟩
theorem Bt.Walk.read{t d:Nat}{x:Bt (d+1)}(h:Walk S o t x):jg S t (hd x) (bn x):=h.at'.read h.fit h.t1 h.t2 h.ok
theorem Bt.Walk.size{t d:Nat}{x:Bt (d+1)}(h:Walk S o t x):(bn x).size=(its x).length/\(bn x).size<2^62:=⟨rfl,by have:=h.few;show (its x).length<_;omega⟩
theorem FD.at{α:Type}{W:World}{A:Option Addr}{n c k:Nat}{l:List α}{f:α->Nat}{e:α}(h:FD W (.slice A n c) (l.map f))(he:l[k]?=some e):∃g o,A=some ⟨g,o,none⟩/\W.cell? ⟨g,o+k,none⟩=some (.int .u64 (f e:Nat)):=by
 obtain⟨A',c',e1,hc⟩:=h;obtain⟨hk,he⟩:=aA.1 he;obtain⟨g,o,e2,ad⟩:=hc k (by rw[aq];exact hk);rw[bq,he] at ad;have e1:A=A':=by injection e1
 exact⟨g,o,e1.trans e2,ad⟩
def i7:Option It->Value
 | some e=>Id e.kh e.vh
 | none=>Id 0 0
theorem mO{es:List It}(h:fo key es=true):∃hk:Fr key es<es.length,(es[Fr key es]).k=key:=by
 unfold fo at h
 split at h
 ·rename_i e he;obtain⟨hk,he⟩:=aA.1 he;exact⟨hk,by rw[he];exact of_decide_eq_true h⟩
 ·cases h
theorem mN{es:List It}(h:fo key es=false):∀hk:Fr key es<es.length,(es[Fr key es]).k≠key:=by
 intro hk e;unfold fo at h;rw[af hk] at h;simp only[decide_eq_false_iff_not] at h;exact h e
def fV {d:Nat}(x:Bt (d+1))(j:Nat):Nat:=(((Bn.ks x).take j).map fun k=>(Bt.its k).length).sum
theorem xt{x:Bt (d+1)}{j:Nat}(h:j<(Bn.ks x).length):fV x (j+1)=fV x j+(Bt.its (Bn.ks x)[j]).length:=by
 unfold fV;rw[bx h,aL,dJ];simp
theorem xr{t d:Nat}{x:Bt (d+1)}(h:Bt.Walk S o t x)(j:Nat):(Bn.es x).length+fV x j<=(Bt.its x).length:=by
 rw[Bt.its_length h.ok.okN];refine Nat.add_le_add_left ?_ _;unfold fV
 conv=>rhs;rw[<-aX j (Bn.ks x),aL,dJ]
 omega
theorem kH(l:List It):Fr key l<=l.length:=cf
theorem Bt.Walk.leaf {S:St}{o:Nat->Nat}{t:Nat}{x:Bt 1}(h:Walk S o t x)(key:List UInt8):Fr key (its x)=Fr key (Bn.es x)/\findB key (its x)=if fo key (Bn.es x)=true then(Bn.es x)[Fr key (Bn.es x)]? else none:=by
 have hs:=h.es.1;rw[its_leaf];refine⟨rfl,?_⟩
 cases hh:fo key (Bn.es x) with
 | true=>
  obtain⟨hk,he⟩:=mO hh;rw[if_pos rfl,vm hs hk he,af hk]
 | false=>rw[if_neg (by simp)];exact findB_none (vl hs (mN hh))
theorem Bt.Walk.ord{t d:Nat}{x:Bt (d+2)}(h:Walk S o t x)(key:List UInt8):ix key (Bn.es x) ((Bn.ks x).map its):=l7 h.ok.rows (by rw[<-el];exact h.sorted)
theorem Bt.Walk.klen{t d:Nat}{x:Bt (d+2)}(h:Walk S o t x)(key:List UInt8):Fr key (Bn.es x)<(Bn.ks x).length:=by have:=Ok.kids h.ok;have:=kH (key:=key) (Bn.es x);omega
theorem Bt.Walk.inner{t d:Nat}{x:Bt (d+2)}(h:Walk S o t x)(key:List UInt8)(hk:Fr key (Bn.es x)<(Bn.ks x).length):
 (fo key (Bn.es x)=true->Fr key (its x)=Fr key (Bn.es x)+fV x (Fr key (Bn.es x))+(its (Bn.ks x)[Fr key (Bn.es x)]).length/\findB key (its x)=(Bn.es x)[Fr key (Bn.es x)]?)/\
 (fo key (Bn.es x)=false->Fr key (its x)=Fr key (Bn.es x)+fV x (Fr key (Bn.es x))+Fr key (its (Bn.ks x)[Fr key (Bn.es x)])/\findB key (its x)=findB key (its (Bn.ks x)[Fr key (Bn.es x)])):=by
 have ho:=h.ord key;have hb:=ho.below;rw[<-el,jN hk] at hb;have ai:((((Bn.ks x).map its).take (Fr key (Bn.es x))).map List.length).sum=fV x (Fr key (Bn.es x)):=by
  unfold fV;rw[<-bX,cN];rfl
 rw[ai] at hb;refine⟨fun hh=>?_,fun hh=>?_⟩
 ·obtain⟨ad,he⟩:=mO hh;obtain⟨h1,h2⟩:=ho.here ad he;rw[jN hk] at h2;rw[el,h1,af ad,<-el];exact⟨by rw[hb,h2],rfl⟩
 ·have:=ho.down (mN hh);rw[jN hk,<-el] at this;exact⟨hb,this⟩
theorem Bt.Walk.inner'{t d:Nat}{x:Bt (d+2)}(h:Walk S o t x)(key:List UInt8)(hb:Fr key (Bn.es x)=k)(hk:k<(Bn.ks x).length):
 (fo key (Bn.es x)=true->Fr key (its x)=k+fV x k+(its (Bn.ks x)[k]).length/\findB key (its x)=(Bn.es x)[k]?)/\
 (fo key (Bn.es x)=false->Fr key (its x)=k+fV x k+Fr key (its (Bn.ks x)[k])/\findB key (its x)=findB key (its (Bn.ks x)[k])):=by
 subst hb;exact h.inner key hk
theorem qd(W1:World)(b:Nat):∃I:World->Prop,(∀w',I w'->∀k,k<W1.heap.size->k≠b->w'.heap[k]?=W1.heap[k]?)/\(∀w',(∀k,k<W1.heap.size->k≠b->w'.heap[k]?=W1.heap[k]?)->I w'):=⟨fun w'=>∀k,k<W1.heap.size->k≠b->w'.heap[k]?=W1.heap[k]?,fun _ h=>h,fun _ h=>h⟩
theorem j9{w w':World}{g o:Nat}(h:w'.heap[g]?=w.heap[g]?):w'.cell? ⟨g,o,none⟩=w.cell? ⟨g,o,none⟩:=World.cell?_of_block h
theorem pY(h:Ig w ps S Y){t d:Nat}{x:Bt (d+1)}(hx:Bt.Walk S o t x)(hd:d<40)(key:List UInt8):
 Cb 320 #[FH ps t,.int .u64 (Bt.hd x:Nat),SV key] w (.tuple #[i7 (Bt.findB key (Bt.its x)),.bool (Bt.findB key (Bt.its x)).isSome,.int .i64 (Fr key (Bt.its x):Nat)]):=by
 have B0:=((aa w.heap.size w).alloc Ih (.cells #[PV ps,.int .i64 t] 254)).alloc (by simp) (.cells #[.int .u64 0,.int .u64 0] 137);have z1:(w.alloc (.cells #[PV ps,.int .i64 t] 254)).heap.size=w.heap.size+1:=by simp
 have q1:=heap_alloc_new w (.cells #[PV ps,.int .i64 t] 254);have q2:=heap_alloc_new (w.alloc (.cells #[PV ps,.int .i64 t] 254)) (.cells #[.int .u64 0,.int .u64 0] 137);have q3:=(((aa (w.alloc (.cells #[PV ps,.int .i64 t] 254)).heap.size (w.alloc (.cells #[PV ps,.int .i64 t] 254))).alloc Ih (.cells #[.int .u64 0,.int .u64 0] 137)).block w.heap.size (by simp)).trans q1;rw[z1] at q2;have hz:w.heap.size+2<=((w.alloc (.cells #[PV ps,.int .i64 t] 254)).alloc (.cells #[.int .u64 0,.int .u64 0] 137)).heap.size:=by simp
 generalize hW:(w.alloc (.cells #[PV ps,.int .i64 t] 254)).alloc (.cells #[.int .u64 0,.int .u64 0] 137)=W0 at*;have hi:=hx.fit.inv;have al:=fun W (hw:Below W0.heap.size W0 W) {n:BN} {hh:Nat} (hb:jg S t hh n)=>kI (h.below (B0.trans (hw.mono B0.size))) hi hb;have cl:=fun W (hw:Below W0.heap.size W0 W) {n:BN} {hh:Nat} (hb:jg S t hh n) hz=>nS (h.below (B0.trans (hw.mono B0.size))) hi hb hz;have cb:=fun W (hw:Below W0.heap.size W0 W) {es:List It} {vk vv vc:Value} {sz:Nat} hk hl hs he=>nR (h.below (B0.trans (hw.mono B0.size))) hi t (es:=es) (vk:=vk) (vv:=vv) (vc:=vc) (sz:=sz) hk hl hs he key;have HG:=kq4 (kq4 B0 q2 q3 hz) @al @cl @cb;have HX:=If hx;obtain⟨R,hR⟩:=Ii (Bt.findB key (Bt.its x));obtain⟨rb,cj⟩:=Ii (Fr key (Bt.its x));have e5:rb<=1000000:=by have:=hx.few;have:=kH (key:=key) (Bt.its x);omega
 obtain⟨n0,b'⟩:=Ii (Bt.hd x);have HR:=kq3 hR cj b';rw[hR,cj,b'];unfold FH at al cl cb⊢;clear al cl cb h hx hi B0 q1 q2 q3 z1 hz hR cj b';go_enter func320,ntmps320;go_wp2_with fail;clear hW
 go_loopw [1,8,9,10,11,12,13,14] (fun s1 s8 _ _ _ _ _ s14 wr=>∃(d' i b hh:Nat),s1=.int .u64 hh/\s8=.int .i64 b/\s14=.int .i64 i/\i+d'<40/\b<=1000000/\Hid (Below W0.heap.size W0 wr/\∃y:Bt (d'+1),Bt.Walk S o t y/\Bt.hd y=hh/\b+Fr key (Bt.its y)=rb/\Bt.findB key (Bt.its y)=R)) (fun _ _ _ _ _ _ _ s14 _=>40-(intOf s14).toNat)
 case atStart=>exact⟨d,0,0,n0,rfl,rfl,rfl,by omega,by omega,aa _ _,x,HX.out,HR.c,by rw[HR.b];omega,HR.a⟩
 case round=>
  obtain⟨d',i,b,hh,rfl,rfl,rfl,eo,en,I⟩:=hrel;obtain⟨hB,y,hy,b1,c',ds⟩:=I.out;have e4:(i:Int)<40:=by omega
  have t3:=(hB.block w.heap.size (by have:=HG.a.d;omega)).trans HG.a.c;obtain⟨x0,x1⟩:=Fp t3;have al:=HG.b wr hB hy.read;unfold FH eC at al;rw[b1] at al;have HY:=kq5 hB hy b1 c' ds;clear hB hy b1 c' ds t3;obtain⟨n,hn⟩:=Ii (Bt.bn y);rw[hn] at al;have cs:=If al;clear al;go_wp2_with fail;refine cs.out.mono ?_;rintro e w1 ⟨vk,vv,vc,rfl,rows,hb⟩;obtain⟨Ak,ck,rfl⟩:=rows.k.slice2;obtain⟨Av,cv,rfl⟩:=rows.v.slice2;obtain⟨Ac,cc,rfl⟩:=rows.c.slice2;have a4:n.keys.length=(Bn.es y).length:=by rw[<-hn];unfold Bt.bn;rw[aq]
  have cr:n.vals.length=(Bn.es y).length:=by rw[<-hn];unfold Bt.bn;rw[aq]
  have bt:n.kids.length=(Bn.ks y).length:=by rw[<-hn];unfold Bt.bn;rw[aq]
  rw[a4] at rows;rw[cr] at rows;rw[bt] at rows;rw[a4,cr,bt];generalize n.size=sz at*;have hy:=HY.b;obtain⟨cu,cw,ee⟩:=hy.es;generalize b8:(Bn.es y).length=lk at*;generalize a6:(Bn.ks y).length=lc at*;have A1:=(aa w1.heap.size w1).alloc Ih (.cells #[.slice Ak lk ck,.slice Av lk cv,.slice Ac lc cc,.int .u64 sz] 286);have p1:=heap_alloc_new w1 (.cells #[.slice Ak lk ck,.slice Av lk cv,.slice Ac lc cc,.int .u64 sz] 286);have B1:=HY.a.trans ((hb.trans (A1.mono hb.size)).mono HY.a.size);have ap:=rows.below A1;have b9:w1.heap.size<(w1.alloc (.cells #[.slice Ak lk ck,.slice Av lk cv,.slice Ac lc cc,.int .u64 sz] 286)).heap.size:=by simp
  obtain⟨W1,c7⟩:=Ii (w1.alloc (.cells #[.slice Ak lk ck,.slice Av lk cv,.slice Ac lc cc,.int .u64 sz] 286));rw[c7] at A1 p1 B1 ap b9;have t3:=(B1.block w.heap.size (by have:=HG.a.d;omega)).trans HG.a.c;obtain⟨x0,x1⟩:=Fp t3;obtain⟨y0,y1,y2,y3⟩:=Fy p1;have d2:n.keys=(Bn.es y).map (·.kh):=by rw[<-hn];rfl
  have bd:=ap.k.hrow;rw[d2] at bd;have ca:=HG.d W1 B1 (vv:=.slice Av lk cv) (vc:=.slice Ac lc cc) (sz:=sz) bd (by omega) cu cw;unfold FH eC at ca;have bm:=If ca;have a8:=ap.v.hrow;have a7:=ap.c.hrow;rw[<-hn] at a8 a7;have a8:FD W1 (.slice Av lk cv) ((Bn.es y).map (·.vh)):=a8;have a7:FD W1 (.slice Ac lc cc) ((Bn.ks y).map Bt.hd):=a7;have q6:=(B1.block (w.heap.size+1) (by have:=HG.a.d;omega)).trans HG.a.b;have d6:=HY.a.size;have a9:=HG.a.d;have c3:∀g o,Ak=some ⟨g,o,none⟩->w.heap.size+1≠g:=fun g o e=>by subst e;have:=ap.k.ge g rfl;omega
  have c4:∀g o,Av=some ⟨g,o,none⟩->w.heap.size+1≠g:=fun g o e=>by subst e;have:=ap.v.ge g rfl;omega
  have cx:∀g o,Ac=some ⟨g,o,none⟩->w.heap.size+1≠g:=fun g o e=>by subst e;have:=ap.c.ge g rfl;omega
  have d4:w.heap.size+1≠w1.heap.size:=by have:=hb.size;omega
  have H1:=kq6 B1 p1 (kq3 bd a8 a7) t3 b9 q6;have HN:=kq5 c3 c4 cx d4 (aO a9 d6);clear c3 c4 cx d4 d6 a9;clear ca rows ap hb A1 p1 B1 t3 bd a8 a7 d2 cs a4 cr bt hn cu cw b9 q6;obtain⟨k,hk⟩:=Ii (Fr key (Bn.es y));obtain⟨he,b0⟩:=Ii (fo key (Bn.es y));rw[hk,b0] at bm;have ez:k<=lk:=by rw[<-hk,<-b8];exact kH _
  have e7:IntKind.i64.wrap ((b:Int)+k)=(b:Int)+k:=aD _ (by omega);have HK:=kq4 hk b0 b8 a6;clear hk b0 b8 a6 hy;go_wp2_with fail;refine bm.out.mono ?_;rintro e w2 ⟨rfl,ba⟩;have p2:=(ba.block w1.heap.size H1.e).trans H1.b;have t2:=(ba.block w.heap.size (by have:=H1.a.size;have:=HG.a.d;omega)).trans H1.d;clear x0 x1 y0 y1 y2 y3;obtain⟨x0,x1⟩:=Fp t2;obtain⟨y0,y1,y2,y3⟩:=Fy p2;have an:=If ba;clear ba p2 t2 bm c7
  cases d' with
  | zero=>
   have d8:lc=0:=by rw[<-HK.d,Bt.nil_of_zero (Bn.ks y)];rfl
   subst d8;obtain⟨cd,ch⟩:=HY.b.leaf key;rw[HK.a,HK.b] at ch;rw[HK.a] at cd;have c6:rb=b+k:=by have:=HY.d;rw[cd] at this;exact this.symm
   have bs:=HY.e;rw[ch] at bs;have a':=If bs;clear cd ch bs x0 x1 y0 y1 y2 y3;go_wp2_with fail
   go_loopw [8,13] (fun s8 s13 wq=>s8=.int .i64 ((b:Int)+k)/\s13=.int .i64 0/\wq=w2) (fun _ _ _=>0)
   case atStart=>exact⟨rfl,rfl,rfl⟩
   case round=>
    obtain⟨rfl,rfl,rfl⟩:=hrel;have p2:=(an.out.block w1.heap.size H1.e).trans H1.b;have t2:=(an.out.block w.heap.size (by have:=H1.a.size;have:=HG.a.d;omega)).trans H1.d;have q2:=(an.out.block (w.heap.size+1) (by have:=H1.a.size;have:=HG.a.d;omega)).trans H1.f;obtain⟨x0,x1⟩:=Fp t2;obtain⟨y0,y1,y2,y3⟩:=Fy p2;obtain⟨z0,z1⟩:=Fp q2;obtain⟨f0,f1⟩:=ef q2
    cases he with
    | true=>
     obtain⟨a2,bu⟩:=mO HK.b;have a4:=HK.c;obtain⟨e,ai⟩:∃e,(Bn.es y)[k]?=some e:=by rw[<-HK.a];exact⟨_,af a2⟩
     have eb:k<lk:=by rw[<-HK.a,<-a4];exact a2
     have ec:(k:Int)<lk:=by omega
     rw[if_pos rfl,ai] at a';obtain⟨gk,ok,rfl,a0⟩:=FD.at H1.c.a ai;obtain⟨gv,ov,rfl,a1⟩:=FD.at (f:=fun d:It=>d.vh) (l:=Bn.es y) H1.c.b ai;have dk:=(an.out.cell (p:=⟨gk,ok+k,none⟩) (fK a0)).trans a0;have dv:=(an.out.cell (p:=⟨gv,ov+k,none⟩) (fK a1)).trans a1;have HQ:=If q2;clear a0 a1 ai a2 bu a4 p2 t2 q2;go_wp2_with fail
     go_region
     go_wp2_with fail;have BW:Below w.heap.size w wr:=HG.a.a.trans ((H1.a.trans (an.out.mono H1.a.size)).mono HG.a.a.size);have eW:=ew HQ.out (.int .u64 (e.kh:Nat)) (.int .u64 (e.vh:Nat));have BF:=eT BW (b:=w.heap.size+1) (by omega) (.int .u64 (e.kh:Nat)) (.int .u64 (e.vh:Nat));generalize ((wr.setCell ⟨w.heap.size+1,0,none⟩ (.int .u64 (e.kh:Nat))).setCell ⟨w.heap.size+1,1,none⟩ (.int .u64 (e.vh:Nat)))=WF at*;have eW:WF.drew.heap[w.heap.size+1]?=_:=eW;obtain⟨e0,e1⟩:=Fp eW;exact bodyPost_ret (v:=.tuple #[.agg #[.int .u64 (e.kh:Nat),.int .u64 (e.vh:Nat)],.bool true,.int .i64 ((b:Int)+k)]) (by simp[results,f320,go_sem,e0,e1]) rfl ⟨by rw[<-a'.out,c6];rfl,BF.drew⟩
    | false=>
     rw[if_neg (by simp)] at a';have HQ:=If q2;clear p2 t2 q2;go_wp2_with fail;have BW:Below w.heap.size w wr:=HG.a.a.trans ((H1.a.trans (an.out.mono H1.a.size)).mono HG.a.a.size);have eW:=ew HQ.out (.int .u64 0) (.int .u64 0);have BF:=eT BW (b:=w.heap.size+1) (by omega) (.int .u64 0) (.int .u64 0);generalize ((wr.setCell ⟨w.heap.size+1,0,none⟩ (.int .u64 0)).setCell ⟨w.heap.size+1,1,none⟩ (.int .u64 0))=WF at*;obtain⟨e0,e1⟩:=Fp eW;exact bodyPost_ret (v:=.tuple #[.agg #[.int .u64 0,.int .u64 0],.bool false,.int .i64 ((b:Int)+k)]) (by simp[results,f320,go_sem,e0,e1]) rfl ⟨by rw[<-a'.out,c6];rfl,BF⟩
  | succ d'=>
   have hy:=HY.b;have b4:=hy.klen key;rw[HK.a] at b4;have bb:=hy.inner' key HK.a b4;rw[HK.b] at bb;have a6:=HK.d;have d3:=HK.c;have e3:(0:Int)<lc:=by omega
   have ex:(k:Int)<lc:=by omega
   have cm:=xr hy;have dn:=hy.few;have d5:∀W,Below W1.heap.size W1 W->∀j (h:j<(Bn.ks y).length),Cb 163 #[.agg #[PV ps,.int .i64 t],.int .u64 (Bt.hd (Bn.ks y)[j]:Nat)] W (.int .i64 ((Bt.its (Bn.ks y)[j]).length:Nat)):=fun W hW j h=>by
    have ao:=hy.kid (aG h);have:=HG.c W (H1.a.trans (hW.mono H1.a.size)) ao.read ao.size.2;unfold FH at this;exact this
   obtain⟨su,bj⟩:∃su:Nat->Nat,fV y=su:=⟨_,rfl⟩;have cn:=fun j h=>xt (x:=y) (j:=j) h;have ed:su 0=0:=by rw[<-bj];simp[fV]
   rw[bj] at bb cm;simp only[bj] at cn;have HZ:=kq9 hy bb cm dn d5 cn b4 a6 d3;clear bb cm dn d5 cn bj x0 x1 y0 y1 y2 y3 a6 d3;go_wp2_with fail
   go_loopw [8,13] (fun s8 s13 wr=>∃j:Nat,j<=k/\s8=.int .i64 ((b:Int)+k+(su j:Nat))/\s13=.int .i64 j/\Hid (Below W1.heap.size W1 wr)) (fun _ s13 _=>k-(intOf s13).toNat)
   case atStart=>exact⟨0,by omega,by rw[ed];simp,rfl,an⟩
   case round=>
    obtain⟨j,er,rfl,rfl,ad⟩:=hrel;have p2:=(ad.out.block w1.heap.size H1.e).trans H1.b;have t2:=(ad.out.block w.heap.size (by have:=H1.a.size;have:=HG.a.d;omega)).trans H1.d;have q2:=(ad.out.block (w.heap.size+1) (by have:=H1.a.size;have:=HG.a.d;omega)).trans H1.f;obtain⟨x0,x1⟩:=Fp t2;obtain⟨y0,y1,y2,y3⟩:=Fy p2;obtain⟨z0,z1⟩:=Fp q2;obtain⟨f0,f1⟩:=ef q2;have b2:j<(Bn.ks y).length:=by have:=HZ.g;omega
    have ai:(Bn.ks y)[j]?=some (Bn.ks y)[j]:=af b2;obtain⟨gc,oc,rfl,au⟩:=FD.at (f:=Bt.hd) (l:=Bn.ks y) H1.c.c ai;obtain⟨kj,ao⟩:=Ii ((Bn.ks y)[j]);obtain⟨nj,bc⟩:=Ii (Bt.hd kj);obtain⟨zj,bk⟩:=Ii (Bt.its kj).length;have bf:=fun W hW=>HZ.e W hW j b2;rw[ao,bc] at bf;rw[ao,bc] at au;rw[bk] at bf;have cp:=HZ.f j b2;rw[ao,bk] at cp;have ek:=HZ.c j;have em:=HZ.c (j+1);have eg:=HZ.d;have bv:=HN.c gc oc rfl;have dc:=(ad.out.cell (p:=⟨gc,oc+j,none⟩) (fK au)).trans au;have ev:(j:Int)<lc:=by omega
    have e6:IntKind.i64.wrap ((b:Int)+k+(su j:Nat)+(zj:Nat))=(b:Int)+k+(su j:Nat)+(zj:Nat):=aD _ (by omega);obtain⟨I,a5,bo⟩:=qd W1 (w.heap.size+1);have d7:=fun x:Fq I=>(a5 _ x.ok w1.heap.size H1.e (Ne.symm HN.d)).trans H1.b;have a9:=fun x:Fq I=>(a5 _ x.ok w.heap.size (by have:=H1.a.size;have:=HG.a.d;omega) (by omega)).trans H1.d;obtain⟨m0,m1,m2,m3⟩:=iB d7;obtain⟨n0,n1⟩:=fw a9;have o0:∀x:Fq I,x.to.cell? ⟨gc,oc+j,none⟩=some (.int .u64 nj):=fun x=>(j9 (a5 _ x.ok gc (fK au) (Ne.symm bv))).trans au;have c5:I wr.drew:=bo _ fun k hk _=>ad.out.block k hk;have HI:=If bo;have HS:=If bf;have HQ:=If q2;have HJ:=kq6 ao bc bk cp au bv;clear bo d7 a9 ai bf au p2 t2 q2 ao bc bk cp bv
    by_cases hjlt:j<k
    ·have ea:(j:Int)<k:=by omega
     go_wp2_with fail;refine fh I (.take 0 (.take 1 (.take 2 (.take 3 (.take 4 (.take 5 (.take 6 (.go 7 (.take 8 (.take 9 .nil)))))))))) (by kernel_rfl) (by kernel_rfl) c5 ?_
     iterate 7
      refine' pT ?_ ?_;rotate_left
      ·intro x;go_simp
       try rfl
      try simp only[pu]
     refine pD fun K hK=>?_;go_simp;refine(HS.out wr.drew ad.out.drew).mono ?_;rintro e w3 ⟨rfl,a3⟩;have B3:=ad.out.drew.trans (a3.mono ad.out.size);have ar:=If B3;clear a3
     try go_simp
     refine hK.out _ _ (HI.out _ fun k hk _=>ar.out.block k hk) ?_;clear hK K
     try simp only[pu]
     clear B3
     iterate 2
      refine' pT ?_ ?_;rotate_left
      ·intro x;go_simp
       try rfl
      try simp only[pu]
     refine eP ?_;go_wp2_with fail;go_roundw
     case rel=>exact⟨j+1,by omega,by rw[HJ.d];congr 1;omega,by simp,ar⟩
     case measure=>simp[intOf];omega
    ·obtain rfl:j=k:=by omega
     have ea:¬(j:Int)<j:=by omega
     cases he with
     | true=>
      obtain⟨f1,f2⟩:=HZ.b.1 rfl;obtain⟨a2,bu⟩:=mO HK.b;obtain⟨e,ai⟩:∃e,(Bn.es y)[j]?=some e:=by rw[<-HK.a];exact⟨_,af a2⟩
      have eb:j<lk:=by rw[<-HK.a,<-HK.c];exact a2
      have ec:(j:Int)<lk:=by omega
      have e1:=HY.d;have e2:=HY.e;rw[f1,HJ.a,HJ.c] at e1;rw[f2,ai] at e2;have HE:=kq2 e1 e2;obtain⟨gk,ok,rfl,a0⟩:=FD.at (f:=fun d:It=>d.kh) (l:=Bn.es y) H1.c.a ai;obtain⟨gv,ov,rfl,a1⟩:=FD.at (f:=fun d:It=>d.vh) (l:=Bn.es y) H1.c.b ai;have d0:=HN.a gk ok rfl;have d1:=HN.b gv ov rfl;have o1:∀x:Fq I,x.to.cell? ⟨gk,ok+j,none⟩=some (.int .u64 (e.kh:Nat)):=fun x=>(j9 (a5 _ x.ok gk (fK a0) (Ne.symm d0))).trans a0;have o2:∀x:Fq I,x.to.cell? ⟨gv,ov+j,none⟩=some (.int .u64 (e.vh:Nat)):=fun x=>(j9 (a5 _ x.ok gv (fK a1) (Ne.symm d1))).trans a1;clear e1 e2 f1 f2 ai a2 bu a0 a1 d0 d1;go_wp2_with fail;refine fh I (.take 0 (.take 1 (.take 2 (.take 3 (.take 4 (.take 5 (.take 6 (.take 7 (.take 8 (.take 9 (.take 10 (.take 11 (.take 12 (.take 13 (.take 14 (.take 15 (.take 16 (.take 17 (.go 18 (.take 19 (.go 20 (.take 21 (.take 22 .nil))))))))))))))))))))))) (by kernel_rfl) (by kernel_rfl) c5 ?_
      iterate 18
       refine' pT ?_ ?_;rotate_left
       ·intro x;go_simp
        try rfl
       try simp only[pu]
      refine pD fun K hK=>?_;go_simp;refine(HS.out wr.drew ad.out.drew).mono ?_;rintro e' w3 ⟨rfl,a3⟩;have B3:=ad.out.drew.trans (a3.mono ad.out.size);have q3:=(a3.block (w.heap.size+1) (gl HQ.out)).trans HQ.out;have ar:=kq2 B3 q3;obtain⟨c0,c1⟩:=Fp q3;obtain⟨g0,g1⟩:=ef q3;clear a3 q3
      try go_simp
      refine hK.out _ _ (HI.out _ fun k hk _=>ar.a.block k hk) ?_;clear hK K
      try simp only[pu]
      clear B3;refine' pT ?_ ?_;rotate_left
      ·intro x;go_simp
       try rfl
      try simp only[pu]
      refine pD fun K hK=>?_;go_simp
      try go_simp
      refine hK.out _ _ (HI.out _ fun k hk hne=>(fA hne _ _).trans (ar.a.block k hk)) ?_;clear hK K
      try simp only[pu]
      iterate 2
       refine' pT ?_ ?_;rotate_left
       ·intro x;go_simp
        try rfl
       try simp only[pu]
      refine eP ?_;go_wp2_with fail;have BW:Below w.heap.size w w3:=HG.a.a.trans ((H1.a.trans (ar.a.mono H1.a.size)).mono HG.a.a.size);have eW:=ew ar.b (.int .u64 (e.kh:Nat)) (.int .u64 (e.vh:Nat));have BF:=eT BW (b:=w.heap.size+1) (by omega) (.int .u64 (e.kh:Nat)) (.int .u64 (e.vh:Nat));generalize ((w3.setCell ⟨w.heap.size+1,0,none⟩ (.int .u64 (e.kh:Nat))).setCell ⟨w.heap.size+1,1,none⟩ (.int .u64 (e.vh:Nat)))=WF at*;obtain⟨e0,e1⟩:=Fp eW;have d9:((b+(j+su j+zj):Nat):Int)=(b:Int)+j+(su j:Nat)+(zj:Nat):=by omega
      exact bodyPost_ret (v:=.tuple #[.agg #[.int .u64 (e.kh:Nat),.int .u64 (e.vh:Nat)],.bool true,.int .i64 ((b:Int)+j+(su j:Nat)+(zj:Nat))]) (by simp[results,f320,go_sem,e0,e1]) rfl ⟨by rw[<-HE.b,<-HE.a,d9];rfl,BF⟩
     | false=>
      go_wp2_with fail;go_roundw
      case rel=>
       obtain⟨f1,f2⟩:=HZ.b.2 rfl;have e1:=HY.d;rw[f1,HJ.a] at e1;refine⟨d',i+1,b+j+su j,nj,rfl,by congr 1,by simp,by omega,by omega,H1.a.trans (ad.out.mono H1.a.size),kj,?_,HJ.b,?_,?_⟩
       ·rw[<-HJ.a];exact HZ.a.kid (aG _)
       ·omega
       ·have:=HY.e;rw[f2,HJ.a] at this;exact this
      case measure=>simp[intOf];omega
theorem nT{t hh:Nat}{R:Option It}(hs:Cb 320 #[FH ps t,.int .u64 hh,SV key] w (.tuple #[i7 R,.bool R.isSome,.int .i64 z]))(hw:∀W,W=w.alloc (.cells #[.int .u64 0,.int .u64 0] 137)->Cb 320 #[FH ps t,.int .u64 hh,SV key] W (.tuple #[i7 R,.bool R.isSome,.int .i64 z])):
 Cb 315 #[PV ps,.int .i64 t,.int .u64 hh,SV key] w (.tuple #[i7 R,.bool R.isSome]):=by
 have q1:=heap_alloc_new w (.cells #[.int .u64 0,.int .u64 0] 137);have B0:=(aa w.heap.size w).alloc Ih (.cells #[.int .u64 0,.int .u64 0] 137);obtain⟨W0,hW⟩:=Ii (w.alloc (.cells #[.int .u64 0,.int .u64 0] 137));rw[hW] at q1 B0;have hs:=hw W0 hW.symm;have ad:∃k v:Nat,i7 R=.agg #[.int .u64 k,.int .u64 v]:=by
  cases R with
  | none=>exact⟨0,0,rfl⟩
  | some e=>exact⟨e.kh,e.vh,rfl⟩
 obtain⟨k,v,hR⟩:=ad;rw[hR] at hs⊢;generalize R.isSome=b at*;unfold FH at hs;have HG:=kq3 hs B0 q1;clear hs hw B0 q1 hR;go_enter func315,ntmps315;go_wp2_with fail;refine HG.a.mono ?_;rintro e w1 ⟨rfl,hb⟩;have A1:=(aa w1.heap.size w1).alloc Ih (.cells #[.int .u64 k,.int .u64 v] 137);have r1:=(hb.block w.heap.size (gl HG.c)).trans HG.c;have r2:=(A1.block w.heap.size (gl r1)).trans r1;have B1:=HG.b.trans ((hb.trans (A1.mono hb.size)).mono HG.b.size);have p1:=heap_alloc_new w1 (.cells #[.int .u64 k,.int .u64 v] 137);obtain⟨W1,ai⟩:=Ii (w1.alloc (.cells #[.int .u64 k,.int .u64 v] 137));rw[ai] at r2 B1 p1;obtain⟨x0,x1⟩:=Fp p1;obtain⟨y0,y1⟩:=Fp r2;obtain⟨f0,f1⟩:=ef r2;have HB:=kq2 B1 r2;clear hb A1 r1 r2 B1 p1 hW;go_wp2_with fail;have eW:=ew HB.b (.int .u64 (k:Nat)) (.int .u64 (v:Nat));have BF:=eT HB.a (b:=w.heap.size) Ih (.int .u64 (k:Nat)) (.int .u64 (v:Nat));generalize ((W1.setCell ⟨w.heap.size,0,none⟩ (.int .u64 (k:Nat))).setCell ⟨w.heap.size,1,none⟩ (.int .u64 (v:Nat)))=WF at*;obtain⟨e0,e1⟩:=Fp eW;exact bodyPost_ret (v:=.tuple #[.agg #[.int .u64 (k:Nat),.int .u64 (v:Nat)],.bool b]) (by simp[results,f315,go_sem,e0,e1]) rfl ⟨rfl,BF⟩
theorem zW{t hh:Nat}{R:Option It}(hs:Cb 320 #[FH ps t,.int .u64 hh,SV key] w (.tuple #[i7 R,.bool R.isSome,.int .i64 z])):
 Cb 317 #[PV ps,.int .i64 t,.int .u64 hh,SV key] w (.int .i64 z):=by
 have ad:∃k v:Nat,i7 R=.agg #[.int .u64 k,.int .u64 v]:=by
  cases R with
  | none=>exact⟨0,0,rfl⟩
  | some e=>exact⟨e.kh,e.vh,rfl⟩
 obtain⟨k,v,hR⟩:=ad;rw[hR] at hs;generalize R.isSome=b at*;unfold FH at hs;have HG:=If hs;clear hs hR;go_enter func317,ntmps317;go_wp2_with fail;refine HG.out.mono ?_;rintro e w1 ⟨rfl,hb⟩;have HB:=If (hb.alloc hb.size (.cells #[.int .u64 k,.int .u64 v] 137));clear hb;go_wp2_with fail;go_ret;exact⟨rfl,HB.out⟩
theorem qJ(t:Nat)(key:List UInt8)(y:Bt 1):Bt.fullB t key y=[decide ((Bn.es y).length=2*t-1)]:=by
 have:(Bn.ks y)[Fr key (Bn.es y)]?=none:=by rw[Bt.nil_of_zero (Bn.ks y)];rfl
 unfold Bt.fullB;rw[this]
theorem mI(t:Nat)(key:List UInt8)(y:Bt (d+1))(hk:Fr key (Bn.es y)=k)(h:k<(Bn.ks y).length):Bt.fullB t key y=decide ((Bn.es y).length=2*t-1)::Bt.fullB t key (Bn.ks y)[k]:=by
 subst hk;rw[Bt.fullB,af h]
theorem qBgaa{P:Prop}(h:P:=by
 go_wp2_with fail;go_ret;have BW:Below w.heap.size w W1:=HG.a.a.trans (H1.a.mono HG.a.a.size);exact⟨by rw[<-a4.out];rfl,BW⟩):P:=h
theorem zN(h:Ig w ps S Y){t d:Nat}{x:Bt (d+1)}(hx:Bt.Walk S o t x)(hd:d<40)(key:List UInt8):
 Cb 323 #[FH ps t,.int .u64 (Bt.hd x:Nat),SV key] w (.int .i64 (Bt.needB 0 true (Bt.fullB t key x):Nat)):=by
 have B0:=(aa w.heap.size w).alloc Ih (.cells #[PV ps,.int .i64 t] 254);have q3:=heap_alloc_new w (.cells #[PV ps,.int .i64 t] 254);have hz:w.heap.size+1<=(w.alloc (.cells #[PV ps,.int .i64 t] 254)).heap.size:=by simp
 generalize hW:w.alloc (.cells #[PV ps,.int .i64 t] 254)=W0 at*;have hi:=hx.fit.inv;have ao:=fun W (hw:Below W0.heap.size W0 W) {n:BN} {hh:Nat} (hb:jg S t hh n)=>kI (h.below (B0.trans (hw.mono B0.size))) hi hb;have b1:=fun W (hw:Below W0.heap.size W0 W) {es:List It} {vk vv vc:Value} {sz:Nat} hk hl hs he=>nR (h.below (B0.trans (hw.mono B0.size))) hi t (es:=es) (vk:=vk) (vv:=vv) (vc:=vc) (sz:=sz) hk hl hs he key;have HG:=kq3 (kq3 B0 q3 hz) @ao @b1;have HX:=If hx;have ca:=(Bt.At.hd_ok hx.fit hx.at').1;have t1:=hx.t1;have t2:=hx.t2;obtain⟨R,hR⟩:=Ii (Bt.needB 0 true (Bt.fullB t key x));obtain⟨n0,a5⟩:=Ii (Bt.hd x);have HR:=kq2 hR a5;rw[hR,a5];rw[a5] at ca;have cb:((n0:Int)==0)=false:=by simp;omega
 have cd:¬(n0:Int)=0:=by omega
 unfold FH;clear ao b1 h hx hi B0 q3 hz hR a5;have m1:IntKind.i64.wrap (2*(t:Int))=2*(t:Int):=aD _ (by omega);have m2:IntKind.i64.wrap (2*(t:Int)-1)=2*(t:Int)-1:=aD _ (by omega);go_enter func323,ntmps323;go_wp2_with fail;clear hW cb cd
 go_loopw [1,7,8,9,10,11,12,15] (fun s1 s7 s8 _ _ _ _ s15 wr=>∃(d' i f hh:Nat) (a:Bool),s1=.int .u64 hh/\s7=.int .i64 f/\s8=.bool a/\s15=.int .i64 i/\i+d'<40/\f<=i/\Hid (Below W0.heap.size W0 wr/\∃y:Bt (d'+1),Bt.Walk S o t y/\Bt.hd y=hh/\Bt.needB f a (Bt.fullB t key y)=R)) (fun _ _ _ _ _ _ _ s15 _=>40-(intOf s15).toNat)
 case atStart=>exact⟨d,0,0,n0,true,rfl,rfl,rfl,rfl,by omega,by omega,aa _ _,x,HX.out,HR.b,HR.a⟩
 case round=>
  obtain⟨d',i,f,hh,a,rfl,rfl,rfl,rfl,cl,cj,I⟩:=hrel;obtain⟨hB,y,hy,bs,b0⟩:=I.out;have cm:(i:Int)<40:=by omega
  have t3:=(hB.block w.heap.size (by have:=HG.a.c;omega)).trans HG.a.b;obtain⟨x0,x1⟩:=Fp t3;have ao:=HG.b wr hB hy.read;unfold FH eC at ao;rw[bs] at ao;have HY:=kq3 hB hy b0;clear hB hy bs b0 t3;obtain⟨n,hn⟩:=Ii (Bt.bn y);rw[hn] at ao;have bf:=If ao;clear ao;go_wp2_with fail;refine bf.out.mono ?_;rintro e w1 ⟨vk,vv,vc,rfl,rows,hb⟩;obtain⟨Ak,ck,rfl⟩:=rows.k.slice2;obtain⟨Av,cv,rfl⟩:=rows.v.slice2;obtain⟨Ac,cc,rfl⟩:=rows.c.slice2;have ba:n.keys.length=(Bn.es y).length:=by rw[<-hn];unfold Bt.bn;rw[aq]
  have bd:n.vals.length=(Bn.es y).length:=by rw[<-hn];unfold Bt.bn;rw[aq]
  have a':n.kids.length=(Bn.ks y).length:=by rw[<-hn];unfold Bt.bn;rw[aq]
  rw[ba] at rows;rw[bd] at rows;rw[a'] at rows;rw[ba,bd,a'];generalize n.size=sz at*;have hy:=HY.b;obtain⟨bk,bm,ch⟩:=hy.es;have bv:=hy.ok.1;generalize bu:(Bn.es y).length=lk at*;generalize bt:(Bn.ks y).length=lc at*;have A1:=(aa w1.heap.size w1).alloc Ih (.cells #[.slice Ak lk ck,.slice Av lk cv,.slice Ac lc cc,.int .u64 sz] 286);have p1:=heap_alloc_new w1 (.cells #[.slice Ak lk ck,.slice Av lk cv,.slice Ac lc cc,.int .u64 sz] 286);have B1:=HY.a.trans ((hb.trans (A1.mono hb.size)).mono HY.a.size);have a7:=rows.below A1;have bc:w1.heap.size<(w1.alloc (.cells #[.slice Ak lk ck,.slice Av lk cv,.slice Ac lc cc,.int .u64 sz] 286)).heap.size:=by simp
  obtain⟨W1,b2⟩:=Ii (w1.alloc (.cells #[.slice Ak lk ck,.slice Av lk cv,.slice Ac lc cc,.int .u64 sz] 286));rw[b2] at A1 p1 B1 a7 bc;have t3:=(B1.block w.heap.size (by have:=HG.a.c;omega)).trans HG.a.b;have a3:=a7.k.hrow;have a2:=a7.c.hrow;rw[<-hn] at a3 a2;have a3:FD W1 (.slice Ak lk ck) ((Bn.es y).map (·.kh)):=a3;have a2:FD W1 (.slice Ac lc cc) ((Bn.ks y).map Bt.hd):=a2;have a6:=HG.c W1 B1 (vv:=.slice Av lk cv) (vc:=.slice Ac lc cc) (sz:=sz) a3 (by omega) bk bm;unfold FH eC at a6;obtain⟨k,hk⟩:=Ii (Fr key (Bn.es y));obtain⟨he,bo⟩:=Ii (fo key (Bn.es y));rw[hk,bo] at a6;have bj:=If a6;have H1:=kq5 B1 p1 a2 t3 bc;have HK:=kq4 bu bt hk bv;obtain⟨x0,x1⟩:=Fp t3;obtain⟨y0,y1,y2,y3⟩:=Fy p1;clear rows a7 hb A1 p1 B1 t3 a3 a2 a6 bf ba bd a' hn bc bu bt hy bk bm hk bo bv
  by_cases hfull:lk=2*t-1
  ·have b4:¬((lk:Int)<2*(t:Int)-1):=by omega
   have cn:IntKind.i64.wrap ((f:Int)+1)=(f:Int)+1:=aD _ (by omega);have cp:IntKind.i64.wrap ((f:Int)+1+1)=(f:Int)+1+1:=aD _ (by omega);have au:decide ((Bn.es y).length=2*t-1)=true:=by rw[HK.a];exact decide_eq_true hfull
   have HD:=If au;clear au hfull
   cases d' with
   | zero=>
    have a9:lc=0:=by rw[<-HK.b,Bt.nil_of_zero (Bn.ks y)];rfl
    subst a9;have ad:=HY.c;rw[qJ,HD.out] at ad;have ad:(f+1)+(if a=true then 1 else 0)=R:=ad;have a4:=If ad;clear ad
    cases a with
    | true=>
     exact qBgaa
    | false=>
     exact qBgaa
   | succ d'=>
    have an:=HY.b.klen key;rw[HK.c] at an;have a0:(Bn.ks y)[k]?=some (Bn.ks y)[k]:=af an;obtain⟨gc,oc,rfl,al⟩:=FD.at (f:=Bt.hd) (l:=Bn.ks y) H1.c a0;have ad:=HY.c;rw[mI t key y HK.c an,HD.out] at ad;have ap:=HY.b.kid (aG an);have bb:=HK.b;have b8:(k:Int)<lc:=by omega
    have b9:¬((lc:Int)=0):=by omega
    have b':((lc:Int)==0)=false:=by simp;omega
    obtain⟨kj,a1⟩:=Ii ((Bn.ks y)[k]);obtain⟨nj,ar⟩:=Ii (Bt.hd kj);rw[a1] at al ad ap;rw[ar] at al;have ad:Bt.needB (f+1) a (Bt.fullB t key kj)=R:=ad;have HJ:=kq4 ad ap ar al;clear ad ap ar al a1 a0 bb;go_wp2_with fail;refine bj.out.mono ?_;rintro e w2 ⟨rfl,ai⟩;have p2:=(ai.block w1.heap.size H1.e).trans H1.b;clear x0 x1 y0 y1 y2 y3;obtain⟨y0,y1,y2,y3⟩:=Fy p2;have dc:=(ai.cell (p:=⟨gc,oc+k,none⟩) (fK HJ.d)).trans HJ.d;have a8:=If ai;clear ai p2;go_wp2_with fail;go_roundw
    case rel=>exact⟨d',i+1,(f+1),nj,a,rfl,by simp,rfl,by simp,by omega,by omega,H1.a.trans (a8.out.mono H1.a.size),kj,HJ.b,HJ.c,HJ.a⟩
    case measure=>simp[intOf];omega
  ·have b4:(lk:Int)<2*(t:Int)-1:=by have:=HK.d;omega
   have au:decide ((Bn.es y).length=2*t-1)=false:=by rw[HK.a];exact decide_eq_false hfull
   have HD:=If au;clear au hfull
   cases d' with
   | zero=>
    have a9:lc=0:=by rw[<-HK.b,Bt.nil_of_zero (Bn.ks y)];rfl
    subst a9;have ad:=HY.c;rw[qJ,HD.out] at ad;have ad:0+(if false=true then 1 else 0)=R:=ad;have a4:=If ad;clear ad;exact qBgaa
   | succ d'=>
    have an:=HY.b.klen key;rw[HK.c] at an;have a0:(Bn.ks y)[k]?=some (Bn.ks y)[k]:=af an;obtain⟨gc,oc,rfl,al⟩:=FD.at (f:=Bt.hd) (l:=Bn.ks y) H1.c a0;have ad:=HY.c;rw[mI t key y HK.c an,HD.out] at ad;have ap:=HY.b.kid (aG an);have bb:=HK.b;have b8:(k:Int)<lc:=by omega
    have b9:¬((lc:Int)=0):=by omega
    have b':((lc:Int)==0)=false:=by simp;omega
    obtain⟨kj,a1⟩:=Ii ((Bn.ks y)[k]);obtain⟨nj,ar⟩:=Ii (Bt.hd kj);rw[a1] at al ad ap;rw[ar] at al;have ad:Bt.needB 0 false (Bt.fullB t key kj)=R:=ad;have HJ:=kq4 ad ap ar al;clear ad ap ar al a1 a0 bb;go_wp2_with fail;refine bj.out.mono ?_;rintro e w2 ⟨rfl,ai⟩;have p2:=(ai.block w1.heap.size H1.e).trans H1.b;clear x0 x1 y0 y1 y2 y3;obtain⟨y0,y1,y2,y3⟩:=Fy p2;have dc:=(ai.cell (p:=⟨gc,oc+k,none⟩) (fK HJ.d)).trans HJ.d;have a8:=If ai;clear ai p2;go_wp2_with fail;go_roundw
    case rel=>exact⟨d',i+1,0,nj,false,rfl,by simp,rfl,by simp,by omega,by omega,H1.a.trans (a8.out.mono H1.a.size),kj,HJ.b,HJ.c,HJ.a⟩
    case measure=>simp[intOf];omega
end
section
open Go.RowKit Tryz Go.BigFrame Go.Maps Go.WideMaps Lf Tr
open Go.Shelf
variable{L:List Nat}{S:St}{Y:Nat->Prop}{o:Nat->Nat}{ps:Nat}{t:Nat}{v:Value}{w:World}
theorem ns(h:Ig w ps S Y):fy<w.heap.size:=by
 obtain⟨pa,pm,ph,pt,v,h⟩:=h;exact h.heap.yl _ (ae (ae (ae (ab rfl))))
theorem qBgac{P:Prop}(h:P:=by
 rw[ai,if_pos rfl] at this
 injection this with this
 injection this with _ this
 exact absurd this (by decide)):P:=h
theorem Ig.grown{w w':World}{row:Option Nat}(h:Ig w ps S Y)(hg:w.grownBy w' row)(hr:∀g,row=some g->Y g/\g≠fy/\∃cs fr,w.heap[g]?=some (.cells cs 83 fr)):Ig w' ps S (fun k=>Y k\/(w.heap.size<=k/\k<w'.heap.size)):=by
 cases row with
 | none=>exact h.wide ⟨hg.os,hg.tape,hg.output,hg.size,fun k hk=>hg.block k hk (by simp)⟩
 | some g=>
  obtain⟨h1,h2,cs,fr,h3⟩:=hr g rfl;have ap:=(gl h3);obtain⟨w2,ad⟩:∃w2:World,w2= { w' with heap:=w'.heap.setIfInBounds g (.cells cs 83 fr) }:=⟨_,rfl⟩;have al:w2.heap.size=w'.heap.size:=by rw[ad];simp
  have ai:∀k,w2.heap[k]?=if g=k then some (.cells cs 83 fr) else w'.heap[k]?:=fun k=>by
   rw[ad]
   show (w'.heap.setIfInBounds g _)[k]?=_
   rw[Array.getElem?_setIfInBounds]
   split
   ·rename_i e;subst e;rw[if_pos (by have:=hg.size;omega)]
   ·rfl
  have an:Below w.heap.size w w2:=by
   refine⟨by rw[ad];exact hg.os,by rw[ad];exact hg.tape,by rw[ad];exact hg.output,by rw[al];exact hg.size,fun k hk=>?_⟩;rw[ai]
   split
   ·rename_i e;subst e;exact h3.symm
   ·rename_i e;exact hg.block k hk (fun q=>e (Option.some.inj q).symm)
  have hz:=h.wide an;rw[al] at hz;obtain⟨pa,pm,ph,pt,v,hz⟩:=hz;refine⟨pa,pm,ph,pt,v,hz.of_keep (by rw[al];exact Nat.le_refl _) fun k hk hc=>?_⟩;have ao:k≠g:=by
   rintro rfl
   rcases hc with hc | rfl | rfl | rfl
   ·exact hc (ab h1)
   ·have:=hz.hd;exact qBgac
   ·have:=hz.heap.hp;exact qBgac
   ·exact h2 rfl
  rw[ai,if_neg (fun e=>ao e.symm)]
structure lG (S:St) (t:Nat) (L:List Nat):Prop where
 nd:L.Nodup
 recs:∀h∈L,∃ws,reco S h=some ws/\ws.length=6*t
theorem Eu(hf:Fw S o)(t1:2<=t)(t2:t<=16)(hr:fc S 2 1):
 ∃h S1 o1,S.make (6*t)=((h,0),S1)/\iw S (6*t)/\h<2^64/\S1.len h=(6*t,0)/\Fw (FC S1 h 0 (bnWords t bn0)) o1/\reco S h=none/\(∃ws,reco (FC S1 h 0 (bnWords t bn0)) h=some ws/\ws.length=6*t)/\(∀h',h'≠h->reco (FC S1 h 0 (bnWords t bn0)) h'=reco S h')/\ej S (FC S1 h 0 (bnWords t bn0)) 2 1:=by
 have an:fa (6*t+2)<=2:=aO (qh (by omega) (by omega)) (by omega);have al:=hr.mono an (Nat.le_refl 1);obtain⟨h,S1,o1,ws,e,ad,hn,ai,hl,ho,hg,_⟩:=oz hf (n:=6*t) (by omega) al;have ao:=rz hf (n:=6*t) (by omega) al;obtain⟨q1,q2,q3,q4⟩:=mR ad hl (l:=bnWords t bn0) (by rw[jJ,ai]) (tQ t);exact⟨h,S1,o1,e,ao,(fL ad hl).2.1,by rw[jw ad.tab hl,ai],q1,hn,⟨_,q2,jJ _ _⟩,fun h' hne=>(q3 h' hne).trans (ho h' hne),(hg.trans q4).mono (by omega) (by omega)⟩
structure gz (w:World) (bt bl D ps t:Nat) (v:Value) (L:List Nat):Prop where
 box:w.heap[bl]?=some (.cells #[v] 229 (0,0))
 tree:w.heap[bt]?=some (.cells #[PV ps,.int .i64 t] 254 (0,0))
 row:FE w D v L
 lo:bl<D/\bt<D/\bl≠bt
def iJ(bt bl:Nat)(v:Value):Nat->Prop:=fun k=>k=bt\/k=bl\/v.ownBlock=some k
theorem tU(h:Ig w ps S Y)(hf:Fw S o)(t1:2<=t)(t2:t<=16)(n:Nat)(hn:n<=1000)(hr:fc S (2*n) n):
 Ct 322 #[FH ps t,.int .i64 n] w fun e w'=>e=.returned (.tuple #[.func (.func 331) #[] #[PV (w.heap.size+1),PV w.heap.size],.int .i64 0])/\
  ∃S' o' v L,Ig w' ps S' (fun k=>Y k\/iJ w.heap.size (w.heap.size+1) v k)/\Fo Y w w'/\gz w' w.heap.size (w.heap.size+1) (w.heap.size+2) ps t v L/\Fw S' o'/\L.length=n/\lG S' t L/\(∀h∈L,reco S h=none)/\(∀h,h∉L->reco S' h=reco S h)/\ej S S' (2*n) n:=by
 have B0:=((aa w.heap.size w).alloc Ih (.cells #[PV ps,.int .i64 t] 254)).alloc (by simp) (.cells #[.slice none 0 0] 229);have z1:(w.alloc (.cells #[PV ps,.int .i64 t] 254)).heap.size=w.heap.size+1:=by simp
 have q1:=heap_alloc_new w (.cells #[PV ps,.int .i64 t] 254);have q2:=heap_alloc_new (w.alloc (.cells #[PV ps,.int .i64 t] 254)) (.cells #[.slice none 0 0] 229);have q3:=(((aa (w.alloc (.cells #[PV ps,.int .i64 t] 254)).heap.size (w.alloc (.cells #[PV ps,.int .i64 t] 254))).alloc Ih (.cells #[.slice none 0 0] 229)).block w.heap.size (by simp)).trans q1;rw[z1] at q2;have hz:((w.alloc (.cells #[PV ps,.int .i64 t] 254)).alloc (.cells #[.slice none 0 0] 229)).heap.size=w.heap.size+2:=by simp
 have hY:=h.yl;have bm:=ns h;have bf:=(h.wide B0).mono (Z:=fun k=>Y k\/iJ w.heap.size (w.heap.size+1) (.slice none 0 0) k) fun k hk=>hk.imp id fun hk=>by
  rcases hk with rfl | rfl | hk
  ·exact⟨Nat.le_refl _,by rw[hz];omega⟩
  ·exact⟨by omega,by rw[hz];omega⟩
  ·cases hk
 have a8:=h.keep B0;generalize hW:(w.alloc (.cells #[PV ps,.int .i64 t] 254)).alloc (.cells #[.slice none 0 0] 229)=W0 at*;have HG:=kq4 hf hr hY bm;have H0:=kq4 bf a8 q2 q3;have HZ:=If hz;unfold FH;clear h hf hr B0 z1 q1 q2 q3 bf a8 hY bm hz;go_enter func322,ntmps322;go_wp2_with fail;clear hW;go_loopw [7,8,10,12] (fun _ _ _ s12 wr=>∃j:Nat,j<=n/\s12=.int .i64 j/\Hid (∃S' o' v L,Ig wr ps S' (fun k=>Y k\/iJ w.heap.size (w.heap.size+1) v k)/\Fo Y w wr/\w.heap.size+2<=wr.heap.size/\gz wr w.heap.size (w.heap.size+1) (w.heap.size+2) ps t v L/\Fw S' o'/\L.length=j/\lG S' t L/\(∀h∈L,reco S h=none)/\(∀h,h∉L->reco S' h=reco S h)/\ej S S' (2*j) j)) (fun _ _ _ s12 _=>n-(intOf s12).toNat)
 case atStart=>exact⟨0,by omega,rfl,S,o,.slice none 0 0,[],H0.a,H0.b,by rw[HZ.out];exact Nat.le_refl _,⟨H0.c,H0.d,World.ownsRow_nil _ _ _ _,by omega⟩,HG.a,rfl,⟨List.nodup_nil,fun _ hh=>(nomatch hh)⟩,fun _ hh=>(nomatch hh),fun _ _=>rfl,ej.refl S⟩
 case round=>
  obtain⟨j,b9,rfl,I⟩:=hrel;obtain⟨S',o',v,L,st,kp,a4,sp,hf,hL,a0,au,ao,ai⟩:=I.out;by_cases hlt:j<n
  ·have bv:(j:Int)<n:=by omega
   have bc:=(HG.b.mono (p':=2*j+2) (q':=j+1) (by omega) (by omega)).grew ai;obtain⟨hh,S1,o1,e,bb,bu,a',f2,ba,a5,a3,g2⟩:=Eu hf t1 t2 bc;have ap:=zG st hf.inv t1 t2 bb e bu a';obtain⟨S2,a6⟩:=Ii (FC S1 hh 0 (bnWords t bn0));rw[a6] at ap f2 a5 a3 g2;unfold eC at ap;have t3:=sp.tree;obtain⟨x0,x1⟩:=Fp t3;have HM:=If ap;have HI:=If (And.intro st (And.intro kp (And.intro sp (And.intro f2 (And.intro hL (And.intro a0 (And.intro au (And.intro ao (And.intro ai (And.intro ba (And.intro a5 (And.intro a3 (And.intro g2 a4)))))))))))));clear st kp sp hf a0 au ao ai bc e bb a' f2 ba a5 a3 g2 ap t3 a6 hL a4;go_wp2_with fail;refine HM.out.mono ?_;rintro e w1 ⟨rfl,bs,k1⟩;have b1:=(k1.block (w.heap.size+1) (ae (ae (ab rfl)))).trans HI.out.2.2.1.box;have bt:=(k1.block w.heap.size (ae (ab rfl))).trans HI.out.2.2.1.tree;have own1:FE w1 (w.heap.size+2) v L:=HI.out.2.2.1.row.at fun g e=>k1.block g (ae (ae (ae e)));have a1:w.heap.size+2<=w1.heap.size:=aO HI.out.2.2.2.2.2.2.2.2.2.2.2.2.2 k1.size;obtain⟨v2,w2,b0,al,ad,bo⟩:=jF own1 (by have:=HI.out.2.2.2.2.1;omega) hh a1 229;obtain⟨A2,m2,c2,rfl⟩:=al.slice;have a2:∀g,v.ownBlock=some g->w.heap.size+2<=g:=fun g e=>(own1.ge g e).1;have an:∀k,k<w.heap.size+2->w2.heap[k]?=w1.heap[k]?:=fun k hk=>ad.block k (by omega) fun e=>by have:=a2 k e.symm;omega
   have b2:=(an (w.heap.size+1) (by omega)).trans b1;have c0:w1.cell? ⟨w.heap.size+1,0,none⟩=some v:=by rw[Fs b1];rfl
   have d0:w2.cell? ⟨w.heap.size+1,0,none⟩=some v:=by rw[Fs b2];rfl
   have f0:w2.frozen? ⟨w.heap.size+1,0,none⟩=false:=AT b2;have bj:=bs.grown ad (fun g e=>⟨ae (ae (ae e)),by have:=a2 g e;have:=HG.d;omega,by
    rcases own1.2 with⟨e0,_⟩ | ⟨g',b4,b8,e0,_,hg,_⟩
    ·rw[e0] at e;cases e
    ·rw[e0] at e;have e:g'=g:=Option.some.inj e;subst e;exact⟨_,_,hg⟩⟩)
   have bk:Ig (w2.setCell ⟨w.heap.size+1,0,none⟩ (.slice A2 m2 c2)) ps S2 (fun k=>Y k\/iJ w.heap.size (w.heap.size+1) (.slice A2 m2 c2) k):=by
    refine(bj.write (b:=w.heap.size+1) (ab (ae (ae (ab rfl)))) b2 ⟨by decide,by decide⟩ (by simp) (by simp) fun k _ hk=>FB hk).mono fun k hk=>?_;rcases hk with hk | rfl | rfl | hk
    ·exact ab (ab hk)
    ·exact ab (ae (ab rfl))
    ·exact ab (ae (ae (ab rfl)))
    ·rcases bo with e | ⟨g,e,hg⟩
     ·rw[e] at hk;exact ab (ae (ae (ae hk)))
     ·rw[e] at hk;have hk:g=k:=Option.some.inj hk;subst hk;exact ae ⟨hg,(al.ge g e).2⟩
   have a9:Fo Y w (w2.setCell ⟨w.heap.size+1,0,none⟩ (.slice A2 m2 c2)):=(HI.out.2.1.trans (k1.mono fun k hk=>ab hk)).trans ⟨ad.os,ad.tape,ad.output,by simpa using ad.size,fun k hk=>by
    have b':=HG.c k hk;rw[FB (by omega)];exact an k (by omega)⟩
   have bd:gz (w2.setCell ⟨w.heap.size+1,0,none⟩ (.slice A2 m2 c2)) w.heap.size (w.heap.size+1) (w.heap.size+2) ps t (.slice A2 m2 c2) (L++[hh]):=
    ⟨heap_setCell b2,(FB (by omega)).trans ((an w.heap.size (by omega)).trans bt),al.at fun g e=>FB (by have:=(al.ge g e).1;omega),by omega⟩
   have ar:hh∉L:=fun hm=>by
    obtain⟨ws,e,_⟩:=HI.out.2.2.2.2.2.1.recs hh hm;rw[HI.out.2.2.2.2.2.2.2.2.2.1] at e;cases e
   have a7:∃S' o' v L,Ig (w2.setCell ⟨w.heap.size+1,0,none⟩ (.slice A2 m2 c2)) ps S' (fun k=>Y k\/iJ w.heap.size (w.heap.size+1) v k)/\Fo Y w (w2.setCell ⟨w.heap.size+1,0,none⟩ (.slice A2 m2 c2))/\w.heap.size+2<=(w2.setCell ⟨w.heap.size+1,0,none⟩ (.slice A2 m2 c2)).heap.size/\gz (w2.setCell ⟨w.heap.size+1,0,none⟩ (.slice A2 m2 c2)) w.heap.size (w.heap.size+1) (w.heap.size+2) ps t v L/\Fw S' o'/\L.length=j+1/\lG S' t L/\(∀h∈L,reco S h=none)/\(∀h,h∉L->reco S' h=reco S h)/\ej S S' (2*(j+1)) (j+1):=by
    refine⟨S2,o1,.slice A2 m2 c2,L++[hh],bk,a9,by rw[size_setCell];exact aO a1 ad.size,bd,HI.out.2.2.2.1,by rw[aE,HI.out.2.2.2.2.1];rfl,⟨?_,fun y hy=>?_⟩,fun y hy=>?_,fun y hy=>?_,(HI.out.2.2.2.2.2.2.2.2.1.trans HI.out.2.2.2.2.2.2.2.2.2.2.2.2.1).mono (by omega) Ih⟩
    ·refine aw.2 ⟨HI.out.2.2.2.2.2.1.nd,by simp,fun a ha b hb e=>?_⟩;rw[aT.1 hb] at e;exact ar (e▸ha)
    ·rcases am.1 hy with hy | hy
     ·obtain⟨ws,e,hw⟩:=HI.out.2.2.2.2.2.1.recs y hy;exact⟨ws,(HI.out.2.2.2.2.2.2.2.2.2.2.2.1 y fun q=>ar (q▸hy)).trans e,hw⟩
     ·rw[aT.1 hy];exact HI.out.2.2.2.2.2.2.2.2.2.2.1
    ·rcases am.1 hy with hy | hy
     ·exact HI.out.2.2.2.2.2.2.1 y hy
     ·rw[aT.1 hy,<-HI.out.2.2.2.2.2.2.2.1 hh ar];exact HI.out.2.2.2.2.2.2.2.2.2.1
    ·exact(HI.out.2.2.2.2.2.2.2.2.2.2.2.1 y fun q=>hy (ax _ (q▸av ..))).trans (HI.out.2.2.2.2.2.2.2.1 y fun q=>hy (az _ q))
   have HF:=If a7;clear a7 bj bk a9 bd ar b1 b2 bt own1 al ad bo a2 an bs k1 a1 x0 x1;go_wp2_with (at_builtin;refine Lib.wpList_append_run _ rfl _ _ _ _ rfl _ _ rfl rfl _ _ b0 ?_)
   go_roundw
   case rel=>exact⟨j+1,by omega,by simp,HF.out⟩
   case measure=>simp[intOf];omega
  ·obtain rfl:j=n:=by omega
   have bv:¬(j:Int)<j:=by omega
   have HI:=kq9 st kp sp hf hL a0 au ao ai;clear st kp sp hf a0 au ao ai hL a4;go_wp2_with fail;go_ret2;exact⟨rfl,S',o',v,HI.a,HI.b,L,HI.out.2.2⟩
theorem FD.keeps{w w':World}{l:List Nat}(h:FD w v l)(e:∀g,v.ownBlock=some g->g<w.heap.size->w'.heap[g]?=w.heap[g]?):FD w' v l:=by
 obtain⟨A,c,rfl,hc⟩:=h;refine⟨A,c,rfl,fun i hi=>?_⟩;obtain⟨g,o,rfl,h1⟩:=hc i hi;exact⟨g,o,rfl,(World.cell?_of_block (e g rfl (fK h1))).trans h1⟩
theorem FE.short{D b c:Nat}{g:Nat}(h:FE w D (.slice (some ⟨b,0,none⟩) (L.length+1) c) (L++[g])):FE w D (.slice (some ⟨b,0,none⟩) L.length c) L:=by
 refine⟨by simp[hV],?_⟩
 rcases h.2 with⟨e,_⟩ | ⟨b',c',ad,e,hb,hg,an,ai,al,ht⟩
 ·cases e
 ·injection e with e1 e2 e3
  injection e1 with e1
  injection e1 with e1
  subst e1 e3;rw[aE,List.length_singleton] at an ht;refine ae ⟨b,c,ad,rfl,hb,hg,by omega,ai,al,?_⟩;rw[Nat.mul_one] at ht⊢;have h2:(ad.toList.take (L.length+1)).take L.length=(hV (L++[g])).take L.length:=by rw[ht]
  rw[List.take_take,cX (by omega)] at h2;rw[h2];unfold hV;rw[aL,List.take_left' (by simp)]
theorem pZ{Z:Nat->Prop}{bt bl D t g:Nat}(h:Ig w ps S Z)(hi:Fv S)(sp:gz w bt bl D ps t v (L++[g]))(zb:Z bl)(zt:Z bt)(zv:∀b,v.ownBlock=some b->Z b)(hL:L.length<=1000)
 {n:BN} {vk vv vc:Value} (hn:iU t n) (hk:FD w vk n.keys) (hv:FD w vv n.vals) (hc:FD w vc n.kids) (nk:∀b,vk.ownBlock=some b->b≠bl) (nv:∀b,vv.ownBlock=some b->b≠bl) (nc:∀b,vc.ownBlock=some b->b≠bl)
 (hg:g<2^64) (hlen:S.len g=(6*t,0)) (hlt:∀x∈bnWords t n,x<2^64):
 Ct 331 #[eC vk vv vc n.size,PV bl,PV bt] w fun e w'=>e=.returned (.int .u64 g)/\∃v',Ig w' ps (FC S g 0 (bnWords t n)) Z/\Fo (fun k=>Z k/\k≠bl) w w'/\gz w' bt bl D ps t v' L/\v'.ownBlock=v.ownBlock:=by
 have hY:=h.yl;obtain⟨b,c,bc⟩:∃b c,v=.slice (some ⟨b,0,none⟩) (L.length+1) c:=by
  rcases sp.row.2 with⟨_,e⟩ | ⟨b,c,a3,e,_⟩
  ·simp at e
  ·exact⟨b,c,by rw[e];simp⟩
 subst bc;have hrow:=sp.row;have a6:=(hrow.ge b rfl).1;have a0:=hrow.short;have a4:L.length<=c:=by
  rcases hrow.2 with⟨e,_⟩ | ⟨b',c',a3,e,hb,bs,a',bm,bo,ht⟩
  ·cases e
  ·injection e with e1 e2 e3
   subst e3;rw[aE,List.length_singleton] at a';omega
 have ap:w.cell? ⟨b,L.length,none⟩=some (.int .u64 g):=by
  have:=World.ownsRow.cells hrow (g:=b) rfl L.length (.int .u64 g) (by simp[hV]);rw[Addr.add_lit] at this;simpa using this
 obtain⟨Ak,ck,rfl,a9⟩:=id hk;obtain⟨Av,cv,rfl,bb⟩:=id hv;obtain⟨Ac,cc,rfl,a8⟩:=id hc;clear a9 bb a8;have B0:=(aa w.heap.size w).alloc Ih (.cells #[.slice Ak n.keys.length ck,.slice Av n.vals.length cv,.slice Ac n.kids.length cc,.int .u64 n.size] 286);have q0:=heap_alloc_new w (.cells #[.slice Ak n.keys.length ck,.slice Av n.vals.length cv,.slice Ac n.kids.length cc,.int .u64 n.size] 286);obtain⟨W0,hW⟩:=Ii (w.alloc (.cells #[.slice Ak n.keys.length ck,.slice Av n.vals.length cv,.slice Ac n.kids.length cc,.int .u64 n.size] 286));rw[hW] at B0 q0;have a1:=h.wide B0;have q1:=(B0.block bl (hY bl zb)).trans sp.box;have q2:=(B0.block bt (hY bt zt)).trans sp.tree;have c1:=(B0.cell (p:=⟨b,L.length,none⟩) (fK ap)).trans ap;have ba:w.heap.size<W0.heap.size:=(gl q0);have an:=sp.lo;have a7:=hY bl zb;have ad:∀k,k≠bl->(W0.setCell ⟨bl,0,none⟩ (.slice (some ⟨b,0,none⟩) L.length c)).heap[k]?=W0.heap[k]?:=fun k hk=>FB hk;have r1:=heap_setCell (i:=0) (v:=.slice (some ⟨b,0,none⟩) L.length c) q1;have au:=a1.write (w':=W0.setCell ⟨bl,0,none⟩ (.slice (some ⟨b,0,none⟩) L.length c)) (b:=bl) (ab zb) q1 ⟨by decide,by decide⟩ (by simp) (by simp) fun k _ hk=>ad k hk;have rk:=hk.keeps (w':=W0.setCell ⟨bl,0,none⟩ (.slice (some ⟨b,0,none⟩) L.length c)) fun x e hx=>(ad x (nk x e)).trans (B0.block x hx);have rv:=hv.keeps (w':=W0.setCell ⟨bl,0,none⟩ (.slice (some ⟨b,0,none⟩) L.length c)) fun x e hx=>(ad x (nv x e)).trans (B0.block x hx);have rc:=hc.keeps (w':=W0.setCell ⟨bl,0,none⟩ (.slice (some ⟨b,0,none⟩) L.length c)) fun x e hx=>(ad x (nc x e)).trans (B0.block x hx);have ao:=mz au hi hn rk rv rc g hg hlen hlt;have t1:=(ad bt (fun e=>an.2.2 e.symm)).trans q2;have t0:=(ad w.heap.size (by omega)).trans q0;have ai:Fo (fun k=>Z k/\k≠bl) w (W0.setCell ⟨bl,0,none⟩ (.slice (some ⟨b,0,none⟩) L.length c)):=(Fo.of_below B0 fun k hk=>hY k hk.1).trans ⟨rfl,rfl,rfl,by simp,fun k hk=>ad k hk.2⟩;have al:FE (W0.setCell ⟨bl,0,none⟩ (.slice (some ⟨b,0,none⟩) L.length c)) D (.slice (some ⟨b,0,none⟩) L.length c) L:=a0.at fun x e=>(ad x (by have:b=x:=Option.some.inj e;omega)).trans (B0.block x (by have:b=x:=Option.some.inj e;subst this;exact fK ap));have ar:=zv b rfl;unfold eC at ao⊢;generalize n.keys.length=lk at*;generalize n.vals.length=lv at*;generalize n.kids.length=lc at*;generalize n.size=sz at*;have l0:(W0).cell? ⟨bl,0,none⟩=some (.slice (some ⟨b,0,none⟩) (L.length+1) c):=by rw[Fs q1];rfl
 have f0:(W0).frozen? ⟨bl,0,none⟩=false:=AT q1;obtain⟨N,hN⟩:=Ii L.length;rw[hN] at a4 hL c1 l0 ao r1 t1 t0 ai al rk rv rc au ad;obtain⟨W1,a5⟩:=Ii (W0.setCell ⟨bl,0,none⟩ (.slice (some ⟨b,0,none⟩) N c));rw[a5] at ao r1 t1 t0 ai al;obtain⟨x0,x1⟩:=Fp t1;obtain⟨y0,y1,y2,y3⟩:=Fy t0;have HP:=If ao;have HF:=kq9 r1 t1 ai al zb zt ar an hN;have bd:((N:Int)+1==0)=false:=by simp;omega
 have bf:¬((N:Int)+1=0):=by omega
 have bj:IntKind.i64.wrap ((N:Int)+1-1)=N:=by rw[Int.add_sub_cancel];exact aD _ (by omega)
 have bk:(N:Int)<(N:Int)+1:=by omega
 clear h hi sp zb zt zv hn hk hv hc nk nv nc hlen hlt hY hrow a6 a0 ap B0 q0 a1 q1 q2 ba an a7 ad r1 au rk rv rc ao t1 t0 ai al ar hN;go_enter func331,ntmps331;go_wp2_with fail;refine HP.out.mono ?_;rintro e w2 ⟨rfl,a2,k2⟩;have HS:=kq2 a2 k2;clear a2 k2;go_wp2_with fail;go_ret;obtain⟨r1,t1,ai,al,zb,zt,ar,an,hN⟩:=HF.out;have k2:=HS.b;refine⟨rfl,.slice (some ⟨b,0,none⟩) N c,HS.a.mono fun k hk=>ab hk,ai.trans (k2.mono fun k hk=>ab hk.1),⟨(k2.block bl (ab zb)).trans r1,(k2.block bt (ab zt)).trans t1,al.at fun x e=>k2.block x (by have:b=x:=Option.some.inj e;subst this;exact ab ar),an⟩,rfl⟩
end
section
open Go.RowKit Tryz Go.BigFrame Go.Maps Go.WideMaps Lf Tr
variable{S:St}{Y:Nat->Prop}{ps:Nat}{w:World}
theorem zO(w:World)(ps t:Nat)(key:List UInt8):
 Cb 323 #[FH ps t,.int .u64 0,SV key] w (.int .i64 1):=by
 have B0:=(aa w.heap.size w).alloc Ih (.cells #[PV ps,.int .i64 t] 254);have HB:=If B0;clear B0;unfold FH;go_enter func323,ntmps323;go_wp2_with fail;go_ret;exact⟨rfl,HB.out⟩
theorem tT(h:Ig w ps S Y)(hi:Fv S){t:Nat}(t1:2<=t)(t2:t<=16)(hh:Nat)(hl:hh<2^64)(hlen:S.len hh=(0,7))(key:List UInt8):
 Cb 320 #[FH ps t,.int .u64 hh,SV key] w (.tuple #[i7 none,.bool (none:Option It).isSome,.int .i64 (0:Nat)]):=by
 have B0:=((aa w.heap.size w).alloc Ih (.cells #[PV ps,.int .i64 t] 254)).alloc (by simp) (.cells #[.int .u64 0,.int .u64 0] 137);have z1:(w.alloc (.cells #[PV ps,.int .i64 t] 254)).heap.size=w.heap.size+1:=by simp
 have q1:=heap_alloc_new w (.cells #[PV ps,.int .i64 t] 254);have q2:=heap_alloc_new (w.alloc (.cells #[PV ps,.int .i64 t] 254)) (.cells #[.int .u64 0,.int .u64 0] 137);have q3:=(((aa (w.alloc (.cells #[PV ps,.int .i64 t] 254)).heap.size (w.alloc (.cells #[PV ps,.int .i64 t] 254))).alloc Ih (.cells #[.int .u64 0,.int .u64 0] 137)).block w.heap.size (by simp)).trans q1;rw[z1] at q2;have hz:w.heap.size+2<=((w.alloc (.cells #[PV ps,.int .i64 t] 254)).alloc (.cells #[.int .u64 0,.int .u64 0] 137)).heap.size:=by simp
 generalize hW:(w.alloc (.cells #[PV ps,.int .i64 t] 254)).alloc (.cells #[.int .u64 0,.int .u64 0] 137)=W0 at*;have ad:=nQ (h.below B0) hi t1 t2 hh hl hlen;unfold FH eC at ad;unfold FH;have HG:=kq2 (kq4 B0 q2 q3 hz) ad;clear ad h hi B0 q1 q2 q3 z1 hz hlen;go_enter func320,ntmps320;go_wp2_with fail;clear hW
 go_loopw [1,7,8,9,10,11,12,13,14] (fun s1 s7 s8 _ _ _ _ _ s14 wr=>s1=.int .u64 hh/\s7=.bool false/\s8=.int .i64 0/\s14=.int .i64 0/\wr=W0) (fun _ _ _ _ _ _ _ _ _ _=>0)
 case atStart=>exact⟨rfl,rfl,rfl,rfl,rfl⟩
 case round=>
  obtain⟨rfl,rfl,rfl,rfl,rfl⟩:=hrel;have t3:=HG.a.c;obtain⟨x0,x1⟩:=Fp t3;clear t3;go_wp2_with fail;refine HG.b.mono ?_;rintro e w1 ⟨rfl,hb⟩;have A1:=(aa w1.heap.size w1).alloc Ih (.cells #[.slice none 0 0,.slice none 0 0,.slice none 0 0,.int .u64 0] 286);have q6:=(hb.block (w.heap.size+1) (by have:=HG.a.d;omega)).trans HG.a.b;have r6:=(A1.block (w.heap.size+1) (gl q6)).trans q6;have HB:=kq2 (HG.a.a.trans ((hb.trans (A1.mono hb.size)).mono HG.a.a.size)) r6;obtain⟨z0,z1⟩:=Fp r6;obtain⟨f0,f1⟩:=ef r6;clear hb A1 q6 r6;go_wp2_with fail;generalize w1.alloc (.cells #[.slice none 0 0,.slice none 0 0,.slice none 0 0,.int .u64 0] 286)=WX at*;have eW:=ew HB.b (.int .u64 0) (.int .u64 0);have BF:=eT HB.a (b:=w.heap.size+1) (by omega) (.int .u64 0) (.int .u64 0);generalize ((WX.setCell ⟨w.heap.size+1,0,none⟩ (.int .u64 0)).setCell ⟨w.heap.size+1,1,none⟩ (.int .u64 0))=WF at*;obtain⟨e0,e1⟩:=Fp eW;exact bodyPost_ret (v:=.tuple #[.agg #[.int .u64 0,.int .u64 0],.bool false,.int .i64 0]) (by simp[results,f320,go_sem,e0,e1]) rfl ⟨rfl,BF⟩
theorem qBgab{P:Prop}(h:P:=by
 obtain⟨e0,e1⟩:=Fp eW;exact bodyPost_ret (v:=.tuple #[.agg #[.int .u64 0,.int .u64 0],.int .i64 2]) (by simp[results,f314,go_sem,e0,e1]) rfl ⟨rfl,BF⟩):P:=h
theorem zT(h:Ig w ps S Y)(hi:Fv S){t hh z:Nat}(t1:2<=t)(t2:t<=16)(hs:∀W,Below w.heap.size w W->Cb 163 #[FH ps t,.int .u64 hh] W (.int .i64 z)){k:Int}(hk:k<0\/(z:Int)<=k):
 Ct 314 #[PV ps,.int .i64 t,.int .u64 hh,.int .i64 k] w fun e' w'=>e'=.returned (.tuple #[Id 0 0,.int .i64 2])/\Below w.heap.size w w':=by
 have B1:=(aa w.heap.size w).alloc Ih (.cells #[.int .u64 0,.int .u64 0] 137);have B0:=B1.alloc (by simp) (.cells #[PV ps,.int .i64 t] 254);have z1:(w.alloc (.cells #[.int .u64 0,.int .u64 0] 137)).heap.size=w.heap.size+1:=by simp
 have q1:=heap_alloc_new w (.cells #[.int .u64 0,.int .u64 0] 137);have q3:=heap_alloc_new (w.alloc (.cells #[.int .u64 0,.int .u64 0] 137)) (.cells #[PV ps,.int .i64 t] 254);have q2:=(((aa (w.alloc (.cells #[.int .u64 0,.int .u64 0] 137)).heap.size (w.alloc (.cells #[.int .u64 0,.int .u64 0] 137))).alloc Ih (.cells #[PV ps,.int .i64 t] 254)).block w.heap.size (by simp)).trans q1;rw[z1] at q3;have hz:w.heap.size+2<=((w.alloc (.cells #[.int .u64 0,.int .u64 0] 137)).alloc (.cells #[PV ps,.int .i64 t] 254)).heap.size:=by simp
 have has:=kZ (h.below B1) hi t1 t2;generalize an:w.alloc (.cells #[.int .u64 0,.int .u64 0] 137)=Wa at*;generalize hW:Wa.alloc (.cells #[PV ps,.int .i64 t] 254)=W0 at*;have ap:Wa.heap.size=w.heap.size+1:=z1;have ai:=hs W0 B0;obtain⟨x0,x1⟩:=Fp q3;obtain⟨c0,c1⟩:=Fp q2;obtain⟨f0,f1⟩:=ef q2;have HG:=kq2 (kq4 B0 q2 q3 hz) has;unfold FH at ai;have H0:=If ai;clear h hi hs B0 B1 q1 q2 q3 z1 hz has ai
 rcases hk with hk | hk
 ·go_enter func314,ntmps314;go_wp2_with fail;refine HG.b.mono ?_;rintro e w1 ⟨rfl,rfl⟩;go_wp2_with fail;have eW:=ew HG.a.b (.int .u64 0) (.int .u64 0);have BF:=eT HG.a.a (b:=w.heap.size) (by omega) (.int .u64 0) (.int .u64 0);generalize ((W0.setCell ⟨w.heap.size,0,none⟩ (.int .u64 0)).setCell ⟨w.heap.size,1,none⟩ (.int .u64 0))=WF at*;exact qBgab
 ·have ao:¬k<0:=by omega
  clear c0 c1 f0;go_enter func314,ntmps314;go_wp2_with fail;refine HG.b.mono ?_;rintro e w1 ⟨rfl,rfl⟩;go_wp2_with fail;refine H0.out.mono ?_;rintro e w2 ⟨rfl,ad⟩;have r2:=(ad.block w.heap.size (by have:=HG.a.d;omega)).trans HG.a.b;obtain⟨c0,c1⟩:=Fp r2;obtain⟨f0,f1⟩:=ef r2;have al:=kq2 (HG.a.a.trans (ad.mono HG.a.a.size)) r2;clear ad x0 x1 r2;go_wp2_with fail;have eW:=ew al.b (.int .u64 0) (.int .u64 0);have BF:=eT al.a (b:=w.heap.size) (by omega) (.int .u64 0) (.int .u64 0);generalize ((w2.setCell ⟨w.heap.size,0,none⟩ (.int .u64 0)).setCell ⟨w.heap.size,1,none⟩ (.int .u64 0))=WF at*;exact qBgab