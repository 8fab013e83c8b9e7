/- B-trees: down, Find, Rank: the walks. -/
import Derived.Test.YtpljannolpapgaaGreatDoorUYe
set_option maxRecDepth 100000
set_option maxHeartbeats 6400000
namespace Go.Proofs.YtpljannolpapgaaGreatDoor
section
open Go.RowKit Tryz Go.BigFrame Go.Maps Go.WideMaps Lf Tr
variable{S:St}{Y:Nat->Prop}{d:Nat}{k:Nat}{key:List UInt8}{o:Nat->Nat}{ps:Nat}{w:World}{z:Nat}
structure Bt.Walk (S:St) (o:Nat->Nat) (t:Nat) {d:Nat} (x:Bt d):Prop where
 fit:Fw S o
 t1:2<=t
 t2:t<=16
 at':Bt.At S t x
 ok:Bt.Ok t x
 G6:(Bt.its x).Pairwise eU
 i_:pv S (Bt.its x)
 few:(Bt.its x).length<1000000
theorem Bt.Walk.kid{t d:Nat}{x:Bt (d+1)}(h:Walk S o t x){k:Bt d}(hk:k∈Bn.ks x):Walk S o t k:=by
 have ad:∀e∈its k,e∈its x:=fun e he=>kid_its h.ok.okN hk he;have ai:(its k).Sublist (its x):=by
  rw[dQ];have hr:=h.ok.okN.rows;obtain⟨i,hi,rfl⟩:=ci.1 hk
  rcases hr with⟨h0,_⟩ | ⟨h0,_⟩
  ·have:((Bn.ks x).map its).length=0:=by rw[h0];rfl
   rw[ak] at this;omega
  ·have an:i<=(Bn.es x).length:=by rw[ak] at h0;omega
   rw[nA an h0,jN hi];exact(List.sublist_append_left _ _).T (List.sublist_append_right _ _)
 exact⟨h.fit,h.t1,h.t2,h.at'.2 k hk,(h.ok.2.2 k hk).1,h.G6.sublist ai,⟨fun e he=>h.i_.lt e (ad e he),fun e he=>h.i_.get e (ad e he)⟩,cL ai.length_le h.few⟩
theorem Bt.Walk.es{t d:Nat}{x:Bt (d+1)}(h:Walk S o t x):(Bn.es x).Pairwise eU/\pv S (Bn.es x)/\(Bn.es x).length<=31:=by
 have hs:(Bn.es x).Sublist (its x):=by
  rw[dQ];refine JD _ _ ?_
  rcases h.ok.okN.rows with⟨h0,_⟩ | ⟨h0,_⟩
  ·exact ab h0
  ·exact ae h0
 exact⟨h.G6.sublist hs,⟨fun e he=>h.i_.lt e (hs.subset he),fun e he=>h.i_.get e (hs.subset he)⟩,by have:=h.ok.1;have:=h.t2;omega⟩
theorem Bt.Walk.read{t d:Nat}{x:Bt (d+1)}(h:Walk S o t x):jg S t (hd x) (bn x):=h.at'.read h.fit h.t1 h.t2 h.ok
theorem Bt.Walk.size{t d:Nat}{x:Bt (d+1)}(h:Walk S o t x):(bn x).size=(its x).length/\(bn x).size<2^62:=⟨rfl,by have:=h.few;show (its x).length<_;omega⟩
theorem FD.at{α:Type}{W:World}{A:Option Addr}{n c k:Nat}{l:List α}{f:α->Nat}{e:α}(h:FD W (.slice A n c) (l.map f))(he:l[k]?=some e):∃g o,A=some (x_ g o)/\W.cell? ⟨g,o+k,none⟩=some (Xu (f e:Nat)):=by
 obtain⟨A',c',e1,hc⟩:=h;obtain⟨hk,he⟩:=ax.1 he;obtain⟨g,o,e2,ad⟩:=hc k (by rw[ak];exact hk);rw[bP,he] at ad;have e1:A=A':=by injection e1
 exact⟨g,o,e1.T e2,ad⟩
def i7:Option It->Value
 | some e=>Id e.kh e.vh
 | none=>Id 0 0
theorem mO{es:List It}(h:fo key es=true):∃hk:Fr key es<es.length,(es[Fr key es]).k=key:=by
 unfold fo at h
 split at h
 ·rename_i e he;obtain⟨hk,he⟩:=ax.1 he;exact⟨hk,by rw[he];exact of_decide_eq_true h⟩
 ·cases h
theorem mN{es:List It}(h:fo key es=false):∀hk:Fr key es<es.length,(es[Fr key es]).k≠key:=by
 intro hk e;unfold fo at h;rw[af hk] at h;simp only[decide_eq_false_iff_not] at h;exact h e
def fV {d:Nat}(x:Bt (d+1))(j:Nat):Nat:=(((Bn.ks x).take j).map fun k=>(Bt.its k).length).sum
theorem xt{x:Bt (d+1)}{j:Nat}(h:j<(Bn.ks x).length):fV x (j+1)=fV x j+(Bt.its (Bn.ks x)[j]).length:=by
 unfold fV;rw[aA h,aQ,dK];simp
theorem xr{t d:Nat}{x:Bt (d+1)}(h:Bt.Walk S o t x)(j:Nat):(Bn.es x).length+fV x j<=(Bt.its x).length:=by
 rw[Bt.its_length h.ok.okN];refine Nat.add_le_add_left ?_ _;unfold fV
 conv=>rhs;rw[<-aV j (Bn.ks x),aQ,dK]
 omega
theorem kH(l:List It):Fr key l<=l.length:=cD
theorem Bt.Walk.leaf {S:St}{o:Nat->Nat}{t:Nat}{x:Bt 1}(h:Walk S o t x)(key:List UInt8):Fr key (its x)=Fr key (Bn.es x)/\H_ key (its x)=if fo key (Bn.es x)=true then(Bn.es x)[Fr key (Bn.es x)]? else none:=by
 have hs:=h.es.1;rw[its_leaf];refine⟨rfl,?_⟩
 cases hh:fo key (Bn.es x) with
 | true=>
  obtain⟨hk,he⟩:=mO hh;rw[if_pos rfl,Kv hs hk he,af hk]
 | false=>rw[if_neg s_];exact findB_none (vl hs (mN hh))
theorem Bt.Walk.ord{t d:Nat}{x:Bt (d+2)}(h:Walk S o t x)(key:List UInt8):ix key (Bn.es x) ((Bn.ks x).map its):=l7 h.ok.rows (by rw[<-dQ];exact h.G6)
theorem Bt.Walk.klen{t d:Nat}{x:Bt (d+2)}(h:Walk S o t x)(key:List UInt8):Fr key (Bn.es x)<(Bn.ks x).length:=by have:=Ok.C_ h.ok;have:=kH (key:=key) (Bn.es x);omega
theorem Bt.Walk.inner{t d:Nat}{x:Bt (d+2)}(h:Walk S o t x)(key:List UInt8)(hk:Fr key (Bn.es x)<(Bn.ks x).length):
 (fo key (Bn.es x)=true->Fr key (its x)=Fr key (Bn.es x)+fV x (Fr key (Bn.es x))+(its (Bn.ks x)[Fr key (Bn.es x)]).length/\H_ key (its x)=(Bn.es x)[Fr key (Bn.es x)]?)/\
 (fo key (Bn.es x)=false->Fr key (its x)=Fr key (Bn.es x)+fV x (Fr key (Bn.es x))+Fr key (its (Bn.ks x)[Fr key (Bn.es x)])/\H_ key (its x)=H_ key (its (Bn.ks x)[Fr key (Bn.es x)])):=by
 have ho:=h.ord key;have hb:=ho.a_;rw[<-dQ,jN hk] at hb;have ai:((((Bn.ks x).map its).take (Fr key (Bn.es x))).map List.length).sum=fV x (Fr key (Bn.es x)):=by
  unfold fV;rw[<-dj,cy];rfl
 rw[ai] at hb;refine⟨fun hh=>?_,fun hh=>?_⟩
 ·obtain⟨ad,he⟩:=mO hh;obtain⟨h1,h2⟩:=ho.here ad he;rw[jN hk] at h2;rw[dQ,h1,af ad,<-dQ];exact⟨by rw[hb,h2],rfl⟩
 ·have:=ho.down (mN hh);rw[jN hk,<-dQ] at this;exact⟨hb,this⟩
theorem Bt.Walk.inner'{t d:Nat}{x:Bt (d+2)}(h:Walk S o t x)(key:List UInt8)(hb:Fr key (Bn.es x)=k)(hk:k<(Bn.ks x).length):
 (fo key (Bn.es x)=true->Fr key (its x)=k+fV x k+(its (Bn.ks x)[k]).length/\H_ key (its x)=(Bn.es x)[k]?)/\
 (fo key (Bn.es x)=false->Fr key (its x)=k+fV x k+Fr key (its (Bn.ks x)[k])/\H_ key (its x)=H_ key (its (Bn.ks x)[k])):=by
 subst hb;exact h.inner key hk
theorem ub(W1:World)(b:Nat):∃I:World->Prop,(∀w',I w'->∀k,k<W1.1.size->k≠b->w'.1[k]?=W1.1[k]?)/\(∀w',(∀k,k<W1.1.size->k≠b->w'.1[k]?=W1.1[k]?)->I w'):=⟨fun w'=>∀k,k<W1.1.size->k≠b->w'.1[k]?=W1.1[k]?,fun _ h=>h,fun _ h=>h⟩
theorem j9{w w':World}{g o:Nat}(h:w'.1[g]?=w.1[g]?):w'.cell? (x_ g o)=w.cell? (x_ g o):=World.cell?_of_block h
theorem pY(h:Ig w ps S Y){t d:Nat}{x:Bt (d+1)}(hx:Bt.Walk S o t x)(hd:d<40)(key:List UInt8):
 Cb 210 #[FH ps t,Xu (Bt.hd x:Nat),SV key] w (.tuple #[i7 (Bt.H_ key (Bt.its x)),.bool (Bt.H_ key (Bt.its x)).isSome,Xi (Fr key (Bt.its x):Nat)]):=by
 have B0:=(c_ w (Xc ps t)).alloc s_ (.cells #[Xu 0,Xu 0] 104);have z1:(w.alloc (Xc ps t)).1.size=w.1.size+1:=s_
 have q1:=heap_alloc_new w (Xc ps t);have q2:=heap_alloc_new (w.alloc (Xc ps t)) (.cells #[Xu 0,Xu 0] 104);have q3:=(((aa (w.alloc (Xc ps t)).1.size (w.alloc (Xc ps t))).alloc Ih (.cells #[Xu 0,Xu 0] 104)).block w.1.size s_).T q1;rw[z1] at q2;have hz:w.1.size+2<=((w.alloc (Xc ps t)).alloc (.cells #[Xu 0,Xu 0] 104)).1.size:=s_
 generalize hW:(w.alloc (Xc ps t)).alloc (.cells #[Xu 0,Xu 0] 104)=W0 at*;have hi:=hx.fit.inv;have an:=fun W (hw:D_ W0 W) {n:BN} {hh:Nat} (hb:jg S t hh n)=>kI (h.a_ (b_ B0 hw)) hi hb;have cp:=fun W (hw:D_ W0 W) {n:BN} {hh:Nat} (hb:jg S t hh n) hz=>nS (h.a_ (b_ B0 hw)) hi hb hz;have cb:=fun W (hw:D_ W0 W) {es:List It} {vk vv vc:Value} {sz:Nat} hk hl hs he=>nR (h.a_ (b_ B0 hw)) hi t (es:=es) (vk:=vk) (vv:=vv) (vc:=vc) (sz:=sz) hk hl hs he key;have HG:=kq4 (kq4 B0 q2 q3 hz) @an @cp @cb;have HX:=If hx;obtain⟨R,hR⟩:=Ii (Bt.H_ key (Bt.its x));obtain⟨rb,cn⟩:=Ii (Fr key (Bt.its x));have e8:rb<=1000000:=by have:=hx.few;have:=kH (key:=key) (Bt.its x);omega
 obtain⟨n0,b'⟩:=Ii (Bt.hd x);have HR:=kq3 hR cn b';rw[hR,cn,b'];unfold FH at an cp cb⊢;clear an cp cb h hx hi B0 q1 q2 q3 z1 hz hR cn b';go_enter func210,ntmps210;go_wp2_with fail;clear hW
 go_loopw [1,8,9,10,11,12,13,14] (fun s1 s8 _ _ _ _ _ s14 wr=>∃(d' i b hh:Nat),s1=Xu hh/\s8=Xi b/\s14=Xi i/\i+d'<40/\b<=1000000/\Hid (D_ W0 wr/\∃y:Bt (d'+1),Bt.Walk S o t y/\Bt.hd y=hh/\b+Fr key (Bt.its y)=rb/\Bt.H_ key (Bt.its y)=R)) (fun _ _ _ _ _ _ _ s14 _=>40-(intOf s14).toNat)
 case atStart=>exact⟨d,0,0,n0,rfl,rfl,rfl,o_,o_,aa _ _,x,HX.O,HR.c,by rw[HR.b];omega,HR.a⟩
 case round=>
  obtain⟨d',i,b,hh,rfl,rfl,rfl,ev,er,I⟩:=hrel;obtain⟨hB,y,hy,b1,d1,d3⟩:=I.O;have e7:(i:Int)<40:=o_
  have t3:=(hB.block w.1.size (by have:=HG.a.d;omega)).T HG.a.c;obtain⟨x0,x1⟩:=Fp t3;have an:=HG.b wr hB hy.read;unfold FH eC at an;rw[b1] at an;have HY:=kq5 hB hy b1 d1 d3;clear hB hy b1 d1 d3 t3;obtain⟨n,hn⟩:=Ii (Bt.bn y);rw[hn] at an;have c4:=If an;clear an;go_wp2_with fail;refine c4.O.M ?_;rintro e w1 ⟨vk,vv,vc,rfl,rows,hb⟩;obtain⟨Ak,ck,rfl⟩:=rows.k.F8;obtain⟨Av,cv,rfl⟩:=rows.v.F8;obtain⟨Ac,cc,rfl⟩:=rows.c.F8;have a6:n.i_.length=(Bn.es y).length:=by rw[<-hn];unfold Bt.bn;rw[ak]
  have c3:n.F4.length=(Bn.es y).length:=by rw[<-hn];unfold Bt.bn;rw[ak]
  have bt:n.C_.length=(Bn.ks y).length:=by rw[<-hn];unfold Bt.bn;rw[ak]
  rw[a6] at rows;rw[c3] at rows;rw[bt] at rows;rw[a6,c3,bt];generalize n.size=sz at*;have hy:=HY.b;obtain⟨c5,c6,em⟩:=hy.es;generalize b8:(Bn.es y).length=lk at*;generalize a8:(Bn.ks y).length=lc at*;have A1:=c_ w1 (.cells #[.slice Ak lk ck,.slice Av lk cv,.slice Ac lc cc,Xu sz] 215);have p1:=heap_alloc_new w1 (.cells #[.slice Ak lk ck,.slice Av lk cv,.slice Ac lc cc,Xu sz] 215);have B1:=HY.a.T ((b_ hb A1).M HY.a.size);have au:=rows.a_ A1;have b9:w1.1.size<(w1.alloc (.cells #[.slice Ak lk ck,.slice Av lk cv,.slice Ac lc cc,Xu sz] 215)).1.size:=s_
  obtain⟨W1,d0⟩:=Ii (w1.alloc (.cells #[.slice Ak lk ck,.slice Av lk cv,.slice Ac lc cc,Xu sz] 215));rw[d0] at A1 p1 B1 au b9;have t3:=(B1.block w.1.size (by have:=HG.a.d;omega)).T HG.a.c;obtain⟨x0,x1⟩:=Fp t3;obtain⟨y0,y1,y2,y3⟩:=Fy p1;have d6:n.i_=(Bn.es y).map (·.kh):=by rw[<-hn];rfl
  have bf:=au.k.E_;rw[d6] at bf;have ca:=HG.d W1 B1 (vv:=.slice Av lk cv) (vc:=.slice Ac lc cc) (sz:=sz) bf o_ c5 c6;unfold FH eC at ca;have bo:=If ca;have a':=au.v.E_;have a9:=au.c.E_;rw[<-hn] at a' a9;have a':FD W1 (.slice Av lk cv) ((Bn.es y).map (·.vh)):=a';have a9:FD W1 (.slice Ac lc cc) ((Bn.ks y).map Bt.hd):=a9;have q6:=(B1.block (w.1.size+1) (by have:=HG.a.d;omega)).T HG.a.b;have ea:=HY.a.size;have ba:=HG.a.d;have c':∀g o,Ak=some (x_ g o)->w.1.size+1≠g:=fun g o e=>by subst e;have:=au.k.ge g rfl;omega
  have dn:∀g o,Av=some (x_ g o)->w.1.size+1≠g:=fun g o e=>by subst e;have:=au.v.ge g rfl;omega
  have c7:∀g o,Ac=some (x_ g o)->w.1.size+1≠g:=fun g o e=>by subst e;have:=au.c.ge g rfl;omega
  have d8:w.1.size+1≠w1.1.size:=by have:=hb.size;omega
  have H1:=kq6 B1 p1 (kq3 bf a' a9) t3 b9 q6;have HN:=kq5 c' dn c7 d8 (aI ba ea);clear c' dn c7 d8 ea ba;clear ca rows au hb A1 p1 B1 t3 bf a' a9 d6 c4 a6 c3 bt hn c5 c6 b9 q6;obtain⟨k,hk⟩:=Ii (Fr key (Bn.es y));obtain⟨he,b0⟩:=Ii (fo key (Bn.es y));rw[hk,b0] at bo;have e5:k<=lk:=by rw[<-hk,<-b8];exact kH _
  have fk:IntKind.i64.wrap ((b:Int)+k)=(b:Int)+k:=aq _ o_;have HK:=kq4 hk b0 b8 a8;clear hk b0 b8 a8 hy;go_wp2_with fail;refine e9 bo.O fun w2 hb2=>?_;have p2:=(hb2.block w1.1.size H1.e).T H1.b;have t2:=(hb2.block w.1.size (by have:=H1.a.size;have:=HG.a.d;omega)).T H1.d;clear x0 x1 y0 y1 y2 y3;obtain⟨x0,x1⟩:=Fp t2;obtain⟨y0,y1,y2,y3⟩:=Fy p2;have ap:=If hb2;clear hb2 p2 t2 bo d0
  cases d' with
  | zero=>
   have ec:lc=0:=by rw[<-HK.d,Bt.I6 (Bn.ks y)];rfl
   subst ec;obtain⟨ch,cj⟩:=HY.b.leaf key;rw[HK.a,HK.b] at cj;rw[HK.a] at ch;have ds:rb=b+k:=by have:=HY.d;rw[ch] at this;exact this.S
   have bs:=HY.e;rw[cj] at bs;have bb:=If bs;clear ch cj bs x0 x1 y0 y1 y2 y3;go_wp2_with fail
   go_loopw [8,13] (fun s8 s13 wq=>s8=Xi ((b:Int)+k)/\s13=Xi 0/\wq=w2) (fun _ _ _=>0)
   case atStart=>exact⟨rfl,rfl,rfl⟩
   case round=>
    obtain⟨rfl,rfl,rfl⟩:=hrel;have p2:=(ap.O.block w1.1.size H1.e).T H1.b;have t2:=(ap.O.block w.1.size (by have:=H1.a.size;have:=HG.a.d;omega)).T H1.d;have q2:=(ap.O.block (w.1.size+1) (by have:=H1.a.size;have:=HG.a.d;omega)).T H1.f;obtain⟨x0,x1⟩:=Fp t2;obtain⟨y0,y1,y2,y3⟩:=Fy p2;obtain⟨z0,z1⟩:=Fp q2;obtain⟨f0,f1⟩:=ef q2
    cases he with
    | true=>
     obtain⟨a4,bu⟩:=mO HK.b;have a6:=HK.c;obtain⟨e,ai⟩:∃e,(Bn.es y)[k]?=some e:=by rw[<-HK.a];exact⟨_,af a4⟩
     have eg:k<lk:=by rw[<-HK.a,<-a6];exact a4
     have ek:(k:Int)<lk:=o_
     rw[if_pos rfl,ai] at bb;obtain⟨gk,ok,rfl,a2⟩:=FD.at H1.c.a ai;obtain⟨gv,ov,rfl,a3⟩:=FD.at (f:=fun d:It=>d.vh) (l:=Bn.es y) H1.c.b ai;have dk:=(ap.O.cell (p:=⟨gk,ok+k,none⟩) (fK a2)).T a2;have dv:=(ap.O.cell (p:=⟨gv,ov+k,none⟩) (fK a3)).T a3;have HQ:=If q2;clear a2 a3 ai a4 bu a6 p2 t2 q2;go_wp2_with fail
     go_region
     go_wp2_with fail;have BW:D_ w wr:=HG.a.a.T ((b_ H1.a ap.O).M HG.a.a.size);have eW:=ew HQ.O (Xu (e.kh:Nat)) (Xu (e.vh:Nat));have BF:=eT BW (b:=w.1.size+1) o_ (Xu (e.kh:Nat)) (Xu (e.vh:Nat));generalize ((wr.setCell (y_ (w.1.size+1)) (Xu (e.kh:Nat))).setCell (x_ (w.1.size+1) 1) (Xu (e.vh:Nat)))=WF at*;have eW:WF.drew.1[w.1.size+1]?=_:=eW;obtain⟨e0,e1⟩:=Fp eW;exact bodyPost_ret (v:=.tuple #[.agg #[Xu (e.kh:Nat),Xu (e.vh:Nat)],.bool true,Xi ((b:Int)+k)]) (by simp[results,f210,go_sem,e0,e1]) rfl ⟨by rw[<-bb.O,ds];rfl,BF.drew⟩
    | false=>
     rw[if_neg s_] at bb;have HQ:=If q2;clear p2 t2 q2;go_wp2_with fail;have BW:D_ w wr:=HG.a.a.T ((b_ H1.a ap.O).M HG.a.a.size);have eW:=ew HQ.O (Xu 0) (Xu 0);have BF:=eT BW (b:=w.1.size+1) o_ (Xu 0) (Xu 0);generalize ((wr.setCell (y_ (w.1.size+1)) (Xu 0)).setCell (x_ (w.1.size+1) 1) (Xu 0))=WF at*;obtain⟨e0,e1⟩:=Fp eW;exact bodyPost_ret (v:=.tuple #[.agg #[Xu 0,Xu 0],.bool false,Xi ((b:Int)+k)]) (by simp[results,f210,go_sem,e0,e1]) rfl ⟨by rw[<-bb.O,ds];rfl,BF⟩
  | succ d'=>
   have hy:=HY.b;have b4:=hy.klen key;rw[HK.a] at b4;have bc:=hy.inner' key HK.a b4;rw[HK.b] at bc;have a8:=HK.d;have d7:=HK.c;have e6:(0:Int)<lc:=o_
   have e4:(k:Int)<lc:=o_
   have cq:=xr hy;have d2:=hy.few;have d9:∀W,D_ W1 W->∀j (h:j<(Bn.ks y).length),Cb 175 #[.agg #[PV ps,Xi t],Xu (Bt.hd (Bn.ks y)[j]:Nat)] W (Xi ((Bt.its (Bn.ks y)[j]).length:Nat)):=fun W hW j h=>by
    have ar:=hy.kid (aw h);have:=HG.c W (b_ H1.a hW) ar.read ar.size.2;unfold FH at this;exact this
   obtain⟨su,bk⟩:∃su:Nat->Nat,fV y=su:=⟨_,rfl⟩;have cw:=fun j h=>xt (x:=y) (j:=j) h;have el:su 0=0:=by rw[<-bk];simp[fV]
   rw[bk] at bc cq;simp only[bk] at cw;have HZ:=kq9 hy bc cq d2 d9 cw b4 a8 d7;clear bc cq d2 d9 cw bk x0 x1 y0 y1 y2 y3 a8 d7;go_wp2_with fail
   go_loopw [8,13] (fun s8 s13 wr=>∃j:Nat,j<=k/\s8=Xi ((b:Int)+k+(su j:Nat))/\s13=Xi j/\Hid (D_ W1 wr)) (fun _ s13 _=>k-(intOf s13).toNat)
   case atStart=>exact⟨0,o_,by rw[el];simp,rfl,ap⟩
   case round=>
    obtain⟨j,ez,rfl,rfl,ad⟩:=hrel;have p2:=(ad.O.block w1.1.size H1.e).T H1.b;have t2:=(ad.O.block w.1.size (by have:=H1.a.size;have:=HG.a.d;omega)).T H1.d;have q2:=(ad.O.block (w.1.size+1) (by have:=H1.a.size;have:=HG.a.d;omega)).T H1.f;obtain⟨x0,x1⟩:=Fp t2;obtain⟨y0,y1,y2,y3⟩:=Fy p2;obtain⟨z0,z1⟩:=Fp q2;obtain⟨f0,f1⟩:=ef q2;have b2:j<(Bn.ks y).length:=by have:=HZ.g;omega
    have ai:(Bn.ks y)[j]?=some (Bn.ks y)[j]:=af b2;obtain⟨gc,oc,rfl,a1⟩:=FD.at (f:=Bt.hd) (l:=Bn.ks y) H1.c.c ai;obtain⟨kj,ar⟩:=Ii ((Bn.ks y)[j]);obtain⟨nj,bd⟩:=Ii (Bt.hd kj);obtain⟨zj,bm⟩:=Ii (Bt.its kj).length;have bj:=fun W hW=>HZ.e W hW j b2;rw[ar,bd] at bj;rw[ar,bd] at a1;rw[bm] at bj;have cx:=HZ.f j b2;rw[ar,bm] at cx;have eo:=HZ.c j;have ep:=HZ.c (j+1);have en:=HZ.d;have bv:=HN.c gc oc rfl;have dc:=(ad.O.cell (p:=⟨gc,oc+j,none⟩) (fK a1)).T a1;have e3:(j:Int)<lc:=o_
    have fb:IntKind.i64.wrap ((b:Int)+k+(su j:Nat)+(zj:Nat))=(b:Int)+k+(su j:Nat)+(zj:Nat):=aq _ o_;obtain⟨I,a7,bq⟩:=ub W1 (w.1.size+1);have eb:=fun x:Fq I=>(a7 _ x.ok w1.1.size H1.e (Ne.S HN.d)).T H1.b;have ba:=fun x:Fq I=>(a7 _ x.ok w.1.size (by have:=H1.a.size;have:=HG.a.d;omega) o_).T H1.d;obtain⟨m0,m1,m2,m3⟩:=iB eb;obtain⟨n0,n1⟩:=ft ba;have o0:∀x:Fq I,x.to.cell? ⟨gc,oc+j,none⟩=some (Xu nj):=fun x=>(j9 (a7 _ x.ok gc (fK a1) (Ne.S bv))).T a1;have dp:I wr.drew:=bq _ fun k hk _=>ad.O.block k hk;have HI:=If bq;have HS:=If bj;have HQ:=If q2;have HJ:=kq6 ar bd bm cx a1 bv;clear bq eb ba ai bj a1 p2 t2 q2 ar bd bm cx bv
    by_cases hjlt:j<k
    ·have ee:(j:Int)<k:=o_
     go_wp2_with fail;refine fh I (.take 0 (.take 1 (.take 2 (.take 3 (.take 4 (.take 5 (.take 6 (.go 7 (.take 8 (.take 9 .nil)))))))))) k_ k_ dp ?_
     iterate 7
      refine pT_ ?_
      try simp only[pu]
     refine pD fun K hK=>?_;go_simp;refine e9 (HS.O wr.drew ad.O.drew) fun w3 a5=>?_;have B3:=ad.O.drew.T (a5.M ad.O.size);have a0:=If B3;clear a5
     try go_simp
     refine hK.O _ _ (HI.O _ fun k hk _=>a0.O.block k hk) ?_;clear hK K
     try simp only[pu]
     clear B3
     iterate 2
      refine pT_ ?_
      try simp only[pu]
     refine eP ?_;go_wp2_with fail;go_roundw
     case rel=>exact⟨j+1,o_,by rw[HJ.d];congr 1;omega,s_,a0⟩
     case measure=>simp[intOf];omega
    ·obtain rfl:j=k:=o_
     have ee:¬(j:Int)<j:=o_
     cases he with
     | true=>
      obtain⟨f1,f2⟩:=HZ.b.1 rfl;obtain⟨a4,bu⟩:=mO HK.b;obtain⟨e,ai⟩:∃e,(Bn.es y)[j]?=some e:=by rw[<-HK.a];exact⟨_,af a4⟩
      have eg:j<lk:=by rw[<-HK.a,<-HK.c];exact a4
      have ek:(j:Int)<lk:=o_
      have e1:=HY.d;have e2:=HY.e;rw[f1,HJ.a,HJ.c] at e1;rw[f2,ai] at e2;have HE:=kq2 e1 e2;obtain⟨gk,ok,rfl,a2⟩:=FD.at (f:=fun d:It=>d.kh) (l:=Bn.es y) H1.c.a ai;obtain⟨gv,ov,rfl,a3⟩:=FD.at (f:=fun d:It=>d.vh) (l:=Bn.es y) H1.c.b ai;have d4:=HN.a gk ok rfl;have d5:=HN.b gv ov rfl;have o1:∀x:Fq I,x.to.cell? ⟨gk,ok+j,none⟩=some (Xu (e.kh:Nat)):=fun x=>(j9 (a7 _ x.ok gk (fK a2) (Ne.S d4))).T a2;have o2:∀x:Fq I,x.to.cell? ⟨gv,ov+j,none⟩=some (Xu (e.vh:Nat)):=fun x=>(j9 (a7 _ x.ok gv (fK a3) (Ne.S d5))).T a3;clear e1 e2 f1 f2 ai a4 bu a2 a3 d4 d5;go_wp2_with fail;refine fh I (.take 0 (.take 1 (.take 2 (.take 3 (.take 4 (.take 5 (.take 6 (.take 7 (.take 8 (.take 9 (.take 10 (.take 11 (.take 12 (.take 13 (.take 14 (.take 15 (.take 16 (.take 17 (.go 18 (.take 19 (.go 20 (.take 21 (.take 22 .nil))))))))))))))))))))))) k_ k_ dp ?_
      iterate 18
       refine pT_ ?_
       try simp only[pu]
      refine pD fun K hK=>?_;go_simp;refine(HS.O wr.drew ad.O.drew).M ?_;rintro e' w3 ⟨rfl,a5⟩;have B3:=ad.O.drew.T (a5.M ad.O.size);have q3:=(a5.block (w.1.size+1) (gl HQ.O)).T HQ.O;have a0:=kq2 B3 q3;obtain⟨c0,c1⟩:=Fp q3;obtain⟨g0,g1⟩:=ef q3;clear a5 q3
      try go_simp
      refine hK.O _ _ (HI.O _ fun k hk _=>a0.a.block k hk) ?_;clear hK K
      try simp only[pu]
      clear B3;refine pT_ ?_
      try simp only[pu]
      refine pD fun K hK=>?_;go_simp
      try go_simp
      refine hK.O _ _ (HI.O _ fun k hk hne=>(fA hne _ _).T (a0.a.block k hk)) ?_;clear hK K
      try simp only[pu]
      iterate 2
       refine pT_ ?_
       try simp only[pu]
      refine eP ?_;go_wp2_with fail;have BW:D_ w w3:=HG.a.a.T ((b_ H1.a a0.a).M HG.a.a.size);have eW:=ew a0.b (Xu (e.kh:Nat)) (Xu (e.vh:Nat));have BF:=eT BW (b:=w.1.size+1) o_ (Xu (e.kh:Nat)) (Xu (e.vh:Nat));generalize ((w3.setCell (y_ (w.1.size+1)) (Xu (e.kh:Nat))).setCell (x_ (w.1.size+1) 1) (Xu (e.vh:Nat)))=WF at*;obtain⟨e0,e1⟩:=Fp eW;have ed:((b+(j+su j+zj):Nat):Int)=(b:Int)+j+(su j:Nat)+(zj:Nat):=o_
      exact bodyPost_ret (v:=.tuple #[.agg #[Xu (e.kh:Nat),Xu (e.vh:Nat)],.bool true,Xi ((b:Int)+j+(su j:Nat)+(zj:Nat))]) (by simp[results,f210,go_sem,e0,e1]) rfl ⟨by rw[<-HE.b,<-HE.a,ed];rfl,BF⟩
     | false=>
      go_wp2_with fail;go_roundw
      case rel=>
       obtain⟨f1,f2⟩:=HZ.b.2 rfl;have e1:=HY.d;rw[f1,HJ.a] at e1;refine⟨d',i+1,b+j+su j,nj,rfl,by congr 1,s_,o_,o_,b_ H1.a ad.O,kj,?_,HJ.b,?_,?_⟩
       ·rw[<-HJ.a];exact HZ.a.kid (aw _)
       ·omega
       ·have:=HY.e;rw[f2,HJ.a] at this;exact this
      case measure=>simp[intOf];omega
theorem nT{t hh:Nat}{R:Option It}(hs:Cb 210 #[FH ps t,Xu hh,SV key] w (.tuple #[i7 R,.bool R.isSome,Xi z]))(hw:∀W,W=w.alloc (.cells #[Xu 0,Xu 0] 104)->Cb 210 #[FH ps t,Xu hh,SV key] W (.tuple #[i7 R,.bool R.isSome,Xi z])):
 Cb 178 #[PV ps,Xi t,Xu hh,SV key] w (.tuple #[i7 R,.bool R.isSome]):=by
 have q1:=heap_alloc_new w (.cells #[Xu 0,Xu 0] 104);have B0:=c_ w (.cells #[Xu 0,Xu 0] 104);obtain⟨W0,hW⟩:=Ii (w.alloc (.cells #[Xu 0,Xu 0] 104));rw[hW] at q1 B0;have hs:=hw W0 hW.S;have ad:∃k v:Nat,i7 R=.agg #[Xu k,Xu v]:=by
  cases R with
  | none=>exact⟨0,0,rfl⟩
  | some e=>exact⟨e.kh,e.vh,rfl⟩
 obtain⟨k,v,hR⟩:=ad;rw[hR] at hs⊢;generalize R.isSome=b at*;unfold FH at hs;have HG:=kq3 hs B0 q1;clear hs hw B0 q1 hR;go_enter func178,ntmps178;go_wp2_with fail;refine e9 HG.a fun w1 hb=>?_;have A1:=c_ w1 (Xe k v);have r1:=(hb.block w.1.size (gl HG.c)).T HG.c;have r2:=(A1.block w.1.size (gl r1)).T r1;have B1:=HG.b.T ((b_ hb A1).M HG.b.size);have p1:=heap_alloc_new w1 (Xe k v);obtain⟨W1,ai⟩:=Ii (w1.alloc (Xe k v));rw[ai] at r2 B1 p1;obtain⟨x0,x1⟩:=Fp p1;obtain⟨y0,y1⟩:=Fp r2;obtain⟨f0,f1⟩:=ef r2;have HB:=kq2 B1 r2;clear hb A1 r1 r2 B1 p1 hW;go_wp2_with fail;have eW:=ew HB.b (Xu (k:Nat)) (Xu (v:Nat));have BF:=eT HB.a (b:=w.1.size) Ih (Xu (k:Nat)) (Xu (v:Nat));generalize ((W1.setCell (y_ w.1.size) (Xu (k:Nat))).setCell (x_ w.1.size 1) (Xu (v:Nat)))=WF at*;obtain⟨e0,e1⟩:=Fp eW;exact bodyPost_ret (v:=.tuple #[.agg #[Xu (k:Nat),Xu (v:Nat)],.bool b]) (by simp[results,f178,go_sem,e0,e1]) rfl ⟨rfl,BF⟩
theorem MF{t hh:Nat}{R:Option It}(hs:Cb 210 #[FH ps t,Xu hh,SV key] w (.tuple #[i7 R,.bool R.isSome,Xi z])):
 Cb 323 #[PV ps,Xi t,Xu hh,SV key] w (Xi z):=by
 have ad:∃k v:Nat,i7 R=.agg #[Xu k,Xu v]:=by
  cases R with
  | none=>exact⟨0,0,rfl⟩
  | some e=>exact⟨e.kh,e.vh,rfl⟩
 obtain⟨k,v,hR⟩:=ad;rw[hR] at hs;generalize R.isSome=b at*;unfold FH at hs;have HG:=If hs;clear hs hR;go_enter func323,ntmps323;go_wp2_with fail;refine e9 HG.O fun w1 hb=>?_;have HB:=If (hb.alloc hb.size (Xe k v));clear hb;go_wp2_with fail;go_ret;exact⟨rfl,HB.O⟩
theorem qJ(t:Nat)(key:List UInt8)(y:Bt 1):Bt.G0 t key y=[decide ((Bn.es y).length=2*t-1)]:=by
 have:(Bn.ks y)[Fr key (Bn.es y)]?=none:=by rw[Bt.I6 (Bn.ks y)];rfl
 unfold Bt.G0;rw[this]
theorem mI(t:Nat)(key:List UInt8)(y:Bt (d+1))(hk:Fr key (Bn.es y)=k)(h:k<(Bn.ks y).length):Bt.G0 t key y=decide ((Bn.es y).length=2*t-1)::Bt.G0 t key (Bn.ks y)[k]:=by
 subst hk;rw[Bt.G0,af h]
theorem qBgaa{P:Prop}(h:P:=by
 go_wp2_with fail;go_ret;have BW:D_ w W1:=b_ HG.a.a H1.a;exact⟨by rw[<-a5.O];rfl,BW⟩):P:=h
theorem zN(h:Ig w ps S Y){t d:Nat}{x:Bt (d+1)}(hx:Bt.Walk S o t x)(hd:d<40)(key:List UInt8):
 Cb 181 #[FH ps t,Xu (Bt.hd x:Nat),SV key] w (Xi (Bt.needB 0 true (Bt.G0 t key x):Nat)):=by
 have B0:=c_ w (Xc ps t);have q3:=heap_alloc_new w (Xc ps t);have hz:w.1.size+1<=(w.alloc (Xc ps t)).1.size:=s_
 generalize hW:w.alloc (Xc ps t)=W0 at*;have hi:=hx.fit.inv;have ap:=fun W (hw:D_ W0 W) {n:BN} {hh:Nat} (hb:jg S t hh n)=>kI (h.a_ (b_ B0 hw)) hi hb;have b1:=fun W (hw:D_ W0 W) {es:List It} {vk vv vc:Value} {sz:Nat} hk hl hs he=>nR (h.a_ (b_ B0 hw)) hi t (es:=es) (vk:=vk) (vv:=vv) (vc:=vc) (sz:=sz) hk hl hs he key;have HG:=kq3 (kq3 B0 q3 hz) @ap @b1;have HX:=If hx;have ca:=(Bt.At.hd_ok hx.fit hx.at').1;have t1:=hx.t1;have t2:=hx.t2;obtain⟨R,hR⟩:=Ii (Bt.needB 0 true (Bt.G0 t key x));obtain⟨n0,a6⟩:=Ii (Bt.hd x);have HR:=kq2 hR a6;rw[hR,a6];rw[a6] at ca;have cb:((n0:Int)==0)=false:=m_
 have ch:¬(n0:Int)=0:=o_
 unfold FH;clear ap b1 h hx hi B0 q3 hz hR a6;have m1:IntKind.i64.wrap (2*(t:Int))=2*(t:Int):=aq _ o_;have m2:IntKind.i64.wrap (2*(t:Int)-1)=2*(t:Int)-1:=aq _ o_;go_enter func181,ntmps181;go_wp2_with fail;clear hW cb ch
 go_loopw [1,7,8,9,10,11,12,15] (fun s1 s7 s8 _ _ _ _ s15 wr=>∃(d' i f hh:Nat) (a:Bool),s1=Xu hh/\s7=Xi f/\s8=.bool a/\s15=Xi i/\i+d'<40/\f<=i/\Hid (D_ W0 wr/\∃y:Bt (d'+1),Bt.Walk S o t y/\Bt.hd y=hh/\Bt.needB f a (Bt.G0 t key y)=R)) (fun _ _ _ _ _ _ _ s15 _=>40-(intOf s15).toNat)
 case atStart=>exact⟨d,0,0,n0,true,rfl,rfl,rfl,rfl,o_,o_,aa _ _,x,HX.O,HR.b,HR.a⟩
 case round=>
  obtain⟨d',i,f,hh,a,rfl,rfl,rfl,rfl,cp,cn,I⟩:=hrel;obtain⟨hB,y,hy,bs,b0⟩:=I.O;have cq:(i:Int)<40:=o_
  have t3:=(hB.block w.1.size (by have:=HG.a.c;omega)).T HG.a.b;obtain⟨x0,x1⟩:=Fp t3;have ap:=HG.b wr hB hy.read;unfold FH eC at ap;rw[bs] at ap;have HY:=kq3 hB hy b0;clear hB hy bs b0 t3;obtain⟨n,hn⟩:=Ii (Bt.bn y);rw[hn] at ap;have bj:=If ap;clear ap;go_wp2_with fail;refine bj.O.M ?_;rintro e w1 ⟨vk,vv,vc,rfl,rows,hb⟩;obtain⟨Ak,ck,rfl⟩:=rows.k.F8;obtain⟨Av,cv,rfl⟩:=rows.v.F8;obtain⟨Ac,cc,rfl⟩:=rows.c.F8;have bb:n.i_.length=(Bn.es y).length:=by rw[<-hn];unfold Bt.bn;rw[ak]
  have bf:n.F4.length=(Bn.es y).length:=by rw[<-hn];unfold Bt.bn;rw[ak]
  have ba:n.C_.length=(Bn.ks y).length:=by rw[<-hn];unfold Bt.bn;rw[ak]
  rw[bb] at rows;rw[bf] at rows;rw[ba] at rows;rw[bb,bf,ba];generalize n.size=sz at*;have hy:=HY.b;obtain⟨bm,bo,cj⟩:=hy.es;have bv:=hy.ok.1;generalize bu:(Bn.es y).length=lk at*;generalize bt:(Bn.ks y).length=lc at*;have A1:=c_ w1 (.cells #[.slice Ak lk ck,.slice Av lk cv,.slice Ac lc cc,Xu sz] 215);have p1:=heap_alloc_new w1 (.cells #[.slice Ak lk ck,.slice Av lk cv,.slice Ac lc cc,Xu sz] 215);have B1:=HY.a.T ((b_ hb A1).M HY.a.size);have a8:=rows.a_ A1;have bd:w1.1.size<(w1.alloc (.cells #[.slice Ak lk ck,.slice Av lk cv,.slice Ac lc cc,Xu sz] 215)).1.size:=s_
  obtain⟨W1,b2⟩:=Ii (w1.alloc (.cells #[.slice Ak lk ck,.slice Av lk cv,.slice Ac lc cc,Xu sz] 215));rw[b2] at A1 p1 B1 a8 bd;have t3:=(B1.block w.1.size (by have:=HG.a.c;omega)).T HG.a.b;have a4:=a8.k.E_;have a3:=a8.c.E_;rw[<-hn] at a4 a3;have a4:FD W1 (.slice Ak lk ck) ((Bn.es y).map (·.kh)):=a4;have a3:FD W1 (.slice Ac lc cc) ((Bn.ks y).map Bt.hd):=a3;have a7:=HG.c W1 B1 (vv:=.slice Av lk cv) (vc:=.slice Ac lc cc) (sz:=sz) a4 o_ bm bo;unfold FH eC at a7;obtain⟨k,hk⟩:=Ii (Fr key (Bn.es y));obtain⟨he,bq⟩:=Ii (fo key (Bn.es y));rw[hk,bq] at a7;have bk:=If a7;have H1:=kq5 B1 p1 a3 t3 bd;have HK:=kq4 bu bt hk bv;obtain⟨x0,x1⟩:=Fp t3;obtain⟨y0,y1,y2,y3⟩:=Fy p1;clear rows a8 hb A1 p1 B1 t3 a4 a3 a7 bj bb bf ba hn bd bu bt hy bm bo hk bq bv
  by_cases hfull:lk=2*t-1
  ·have b4:¬((lk:Int)<2*(t:Int)-1):=o_
   have cw:IntKind.i64.wrap ((f:Int)+1)=(f:Int)+1:=aq _ o_;have cx:IntKind.i64.wrap ((f:Int)+1+1)=(f:Int)+1+1:=aq _ o_;have a0:decide ((Bn.es y).length=2*t-1)=true:=by rw[HK.a];exact decide_eq_true hfull
   have HD:=If a0;clear a0 hfull
   cases d' with
   | zero=>
    have a':lc=0:=by rw[<-HK.b,Bt.I6 (Bn.ks y)];rfl
    subst a';have ad:=HY.c;rw[qJ,HD.O] at ad;have ad:(f+1)+(if a=true then 1 else 0)=R:=ad;have a5:=If ad;clear ad
    cases a with
    | true=>
     exact qBgaa
    | false=>
     exact qBgaa
   | succ d'=>
    have an:=HY.b.klen key;rw[HK.c] at an;have a1:(Bn.ks y)[k]?=some (Bn.ks y)[k]:=af an;obtain⟨gc,oc,rfl,ai⟩:=FD.at (f:=Bt.hd) (l:=Bn.ks y) H1.c a1;have ad:=HY.c;rw[mI t key y HK.c an,HD.O] at ad;have ar:=HY.b.kid (aw an);have bc:=HK.b;have b8:(k:Int)<lc:=o_
    have b9:¬((lc:Int)=0):=o_
    have b':((lc:Int)==0)=false:=m_
    obtain⟨kj,a2⟩:=Ii ((Bn.ks y)[k]);obtain⟨nj,au⟩:=Ii (Bt.hd kj);rw[a2] at ai ad ar;rw[au] at ai;have ad:Bt.needB (f+1) a (Bt.G0 t key kj)=R:=ad;have HJ:=kq4 ad ar au ai;clear ad ar au ai a2 a1 bc;go_wp2_with fail;refine e9 bk.O fun w2 hb2=>?_;have p2:=(hb2.block w1.1.size H1.e).T H1.b;clear x0 x1 y0 y1 y2 y3;obtain⟨y0,y1,y2,y3⟩:=Fy p2;have dc:=(hb2.cell (p:=⟨gc,oc+k,none⟩) (fK HJ.d)).T HJ.d;have a9:=If hb2;clear hb2 p2;go_wp2_with fail;go_roundw
    case rel=>exact⟨d',i+1,(f+1),nj,a,rfl,s_,rfl,s_,o_,o_,b_ H1.a a9.O,kj,HJ.b,HJ.c,HJ.a⟩
    case measure=>simp[intOf];omega
  ·have b4:(lk:Int)<2*(t:Int)-1:=by have:=HK.d;omega
   have a0:decide ((Bn.es y).length=2*t-1)=false:=by rw[HK.a];exact decide_eq_false hfull
   have HD:=If a0;clear a0 hfull
   cases d' with
   | zero=>
    have a':lc=0:=by rw[<-HK.b,Bt.I6 (Bn.ks y)];rfl
    subst a';have ad:=HY.c;rw[qJ,HD.O] at ad;have ad:0+(if false=true then 1 else 0)=R:=ad;have a5:=If ad;clear ad;exact qBgaa
   | succ d'=>
    have an:=HY.b.klen key;rw[HK.c] at an;have a1:(Bn.ks y)[k]?=some (Bn.ks y)[k]:=af an;obtain⟨gc,oc,rfl,ai⟩:=FD.at (f:=Bt.hd) (l:=Bn.ks y) H1.c a1;have ad:=HY.c;rw[mI t key y HK.c an,HD.O] at ad;have ar:=HY.b.kid (aw an);have bc:=HK.b;have b8:(k:Int)<lc:=o_
    have b9:¬((lc:Int)=0):=o_
    have b':((lc:Int)==0)=false:=m_
    obtain⟨kj,a2⟩:=Ii ((Bn.ks y)[k]);obtain⟨nj,au⟩:=Ii (Bt.hd kj);rw[a2] at ai ad ar;rw[au] at ai;have ad:Bt.needB 0 false (Bt.G0 t key kj)=R:=ad;have HJ:=kq4 ad ar au ai;clear ad ar au ai a2 a1 bc;go_wp2_with fail;refine e9 bk.O fun w2 hb2=>?_;have p2:=(hb2.block w1.1.size H1.e).T H1.b;clear x0 x1 y0 y1 y2 y3;obtain⟨y0,y1,y2,y3⟩:=Fy p2;have dc:=(hb2.cell (p:=⟨gc,oc+k,none⟩) (fK HJ.d)).T HJ.d;have a9:=If hb2;clear hb2 p2;go_wp2_with fail;go_roundw
    case rel=>exact⟨d',i+1,0,nj,false,rfl,s_,rfl,s_,o_,o_,b_ H1.a a9.O,kj,HJ.b,HJ.c,HJ.a⟩
    case measure=>simp[intOf];omega
end
section
open Go.RowKit Tryz Go.BigFrame Go.Maps Go.WideMaps Lf Tr
open Go.Shelf
variable{L:List Nat}{S:St}{Y:Nat->Prop}{o:Nat->Nat}{ps:Nat}{t:Nat}{v:Value}{w:World}
theorem xA(h:Ig w ps S Y):fy<w.1.size:=by
 obtain⟨pa,pm,ph,pt,v,h⟩:=h;exact h.heap.yl _ (ae (ae (ae (ab rfl))))
theorem qBgac{P:Prop}(h:P:=by
 rw[ai,if_pos rfl] at this
 injection this with this
 injection this with _ this
 exact absurd this d_):P:=h
theorem Ig.grown{w w':World}{row:Option Nat}(h:Ig w ps S Y)(hg:w.grownBy w' row)(hr:∀g,row=some g->Y g/\g≠fy/\∃cs fr,w.1[g]?=some (.cells cs 61 fr)):Ig w' ps S (fun k=>Y k\/(w.1.size<=k/\k<w'.1.size)):=by
 cases row with
 | none=>exact h.wide ⟨hg.os,hg.tape,hg.output,hg.size,fun k hk=>hg.block k hk s_⟩
 | some g=>
  obtain⟨h1,h2,cs,fr,h3⟩:=hr g rfl;have au:=(gl h3);obtain⟨w2,ad⟩:∃w2:World,w2= { w' with heap:=w'.heap.setIfInBounds g (.cells cs 61 fr) }:=⟨_,rfl⟩;have an:w2.1.size=w'.1.size:=by rw[ad];simp
  have ai:∀k,w2.1[k]?=if g=k then some (.cells cs 61 fr) else w'.1[k]?:=fun k=>by
   rw[ad]
   show (w'.heap.setIfInBounds g _)[k]?=_
   rw[Array.getElem?_setIfInBounds]
   split
   ·rename_i e;subst e;rw[if_pos (by have:=hg.size;omega)]
   ·rfl
  have ap:D_ w w2:=by
   refine⟨by rw[ad];exact hg.os,by rw[ad];exact hg.tape,by rw[ad];exact hg.output,by rw[an];exact hg.size,fun k hk=>?_⟩;rw[ai]
   split
   ·rename_i e;subst e;exact h3.S
   ·rename_i e;exact hg.block k hk (fun q=>e (Option.some.inj q).S)
  have hz:=h.wide ap;rw[an] at hz;obtain⟨pa,pm,ph,pt,v,hz⟩:=hz;refine⟨pa,pm,ph,pt,v,hz.of_keep (by rw[an];exact Nat.le_refl _) fun k hk hc=>?_⟩;have ar:k≠g:=by
   rintro rfl
   rcases hc with hc | rfl | rfl | rfl
   ·exact hc (ab h1)
   ·have:=hz.hd;exact qBgac
   ·have:=hz.heap.hp;exact qBgac
   ·exact h2 rfl
  rw[ai,if_neg (fun e=>ar e.S)]
structure lG (S:St) (t:Nat) (L:List Nat):Prop where
 nd:L.Nodup
 recs:∀h∈L,∃ws,l_ S h=some ws/\ws.length=6*t
theorem Eu(hf:Fw S o)(t1:2<=t)(t2:t<=16)(hr:fc S 2 1):
 ∃h S1 o1,S.make (6*t)=((h,0),S1)/\iw S (6*t)/\h<2^64/\S1.len h=(6*t,0)/\Fw (FC S1 h 0 (w_ t bn0)) o1/\l_ S h=none/\(∃ws,l_ (FC S1 h 0 (w_ t bn0)) h=some ws/\ws.length=6*t)/\(∀h',h'≠h->l_ (FC S1 h 0 (w_ t bn0)) h'=l_ S h')/\ej S (FC S1 h 0 (w_ t bn0)) 2 1:=by
 have ap:fa (6*t+2)<=2:=aI (qh o_ o_) o_;have an:=hr.M ap (Nat.le_refl 1);obtain⟨h,S1,o1,ws,e,ad,hn,ai,hl,ho,hg,_⟩:=oz hf (n:=6*t) o_ an;have ar:=rz hf (n:=6*t) o_ an;obtain⟨q1,q2,q3,q4⟩:=mR ad hl (l:=w_ t bn0) (by rw[jJ,ai]) (tQ t);exact⟨h,S1,o1,e,ar,(fL ad hl).2.1,by rw[jw ad.tab hl,ai],q1,hn,⟨_,q2,jJ _ _⟩,fun h' hne=>(q3 h' hne).T (ho h' hne),(hg.T q4).M o_ o_⟩
structure gz (w:World) (bt bl D ps t:Nat) (v:Value) (L:List Nat):Prop where
 box:w.1[bl]?=some (.cells #[v] 59 (0,0))
 tree:w.1[bt]?=some (.cells #[PV ps,Xi t] 145 (0,0))
 row:FE w D v L
 lo:bl<D/\bt<D/\bl≠bt
def iJ(bt bl:Nat)(v:Value):Nat->Prop:=fun k=>k=bt\/k=bl\/v.ownBlock=some k
theorem tU(h:Ig w ps S Y)(hf:Fw S o)(t1:2<=t)(t2:t<=16)(n:Nat)(hn:n<=1000)(hr:fc S (2*n) n):
 Ct 180 #[FH ps t,Xi n] w fun e w'=>e=.returned (.tuple #[.func (.func 214) #[] #[PV (w.1.size+1),PV w.1.size],Xi 0])/\
  ∃S' o' v L,Ig w' ps S' (fun k=>Y k\/iJ w.1.size (w.1.size+1) v k)/\Fo Y w w'/\gz w' w.1.size (w.1.size+1) (w.1.size+2) ps t v L/\Fw S' o'/\L.length=n/\lG S' t L/\(∀h∈L,l_ S h=none)/\(∀h,h∉L->l_ S' h=l_ S h)/\ej S S' (2*n) n:=by
 have B0:=(c_ w (Xc ps t)).alloc s_ (.cells #[n_] 59);have z1:(w.alloc (Xc ps t)).1.size=w.1.size+1:=s_
 have q1:=heap_alloc_new w (Xc ps t);have q2:=heap_alloc_new (w.alloc (Xc ps t)) (.cells #[n_] 59);have q3:=(((aa (w.alloc (Xc ps t)).1.size (w.alloc (Xc ps t))).alloc Ih (.cells #[n_] 59)).block w.1.size s_).T q1;rw[z1] at q2;have hz:((w.alloc (Xc ps t)).alloc (.cells #[n_] 59)).1.size=w.1.size+2:=s_
 have hY:=h.yl;have bq:=xA h;have bk:=(h.wide B0).M (Z:=fun k=>Y k\/iJ w.1.size (w.1.size+1) n_ k) fun k hk=>hk.imp id fun hk=>by
  rcases hk with rfl | rfl | hk
  ·exact⟨Nat.le_refl _,by rw[hz];omega⟩
  ·exact⟨o_,by rw[hz];omega⟩
  ·cases hk
 have a':=h.B_ B0;generalize hW:(w.alloc (Xc ps t)).alloc (.cells #[n_] 59)=W0 at*;have HG:=kq4 hf hr hY bq;have H0:=kq4 bk a' q2 q3;have HZ:=If hz;unfold FH;clear h hf hr B0 z1 q1 q2 q3 bk a' hY bq hz;go_enter func180,ntmps180;go_wp2_with fail;clear hW;go_loopw [7,8,10,12] (fun _ _ _ s12 wr=>∃j:Nat,j<=n/\s12=Xi j/\Hid (∃S' o' v L,Ig wr ps S' (fun k=>Y k\/iJ w.1.size (w.1.size+1) v k)/\Fo Y w wr/\w.1.size+2<=wr.1.size/\gz wr w.1.size (w.1.size+1) (w.1.size+2) ps t v L/\Fw S' o'/\L.length=j/\lG S' t L/\(∀h∈L,l_ S h=none)/\(∀h,h∉L->l_ S' h=l_ S h)/\ej S S' (2*j) j)) (fun _ _ _ s12 _=>n-(intOf s12).toNat)
 case atStart=>exact⟨0,o_,rfl,S,o,n_,[],H0.a,H0.b,by rw[HZ.O];exact Nat.le_refl _,⟨H0.c,H0.d,World.ownsRow_nil _ _ _ _,o_⟩,HG.a,rfl,⟨dA,fun _ hh=>(nomatch hh)⟩,fun _ hh=>(nomatch hh),fun _ _=>rfl,ej.refl S⟩
 case round=>
  obtain⟨j,b',rfl,I⟩:=hrel;obtain⟨S',o',v,L,st,kp,a6,sp,hf,hL,a2,a1,ar,ai⟩:=I.O;by_cases hlt:j<n
  ·have b0:(j:Int)<n:=o_
   have bf:=(HG.b.M (p':=2*j+2) (q':=j+1) o_ o_).grew ai;obtain⟨hh,S1,o1,e,bd,bv,bb,f2,bc,a7,a5,g2⟩:=Eu hf t1 t2 bf;have au:=zG st hf.inv t1 t2 bd e bv bb;obtain⟨S2,a8⟩:=Ii (FC S1 hh 0 (w_ t bn0));rw[a8] at au f2 a7 a5 g2;unfold eC at au;have t3:=sp.tree;obtain⟨x0,x1⟩:=Fp t3;have HM:=If au;have HI:=kq14 st kp sp f2 hL a2 a1 ar ai bc a7 a5 g2 a6;clear st kp sp hf a2 a1 ar ai bf e bd bb f2 bc a7 a5 g2 au t3 a8 hL a6;go_wp2_with fail;refine HM.O.M ?_;rintro e w1 ⟨rfl,bt,k1⟩;have b1:=(k1.block (w.1.size+1) (ae (ae (ab rfl)))).T HI.c.box;have bu:=(k1.block w.1.size (ae (ab rfl))).T HI.c.tree;have own1:FE w1 (w.1.size+2) v L:=HI.c.row.at fun g e=>k1.block g (ae (ae (ae e)));have a3:w.1.size+2<=w1.1.size:=aI HI.n k1.size;obtain⟨v2,w2,b4,an,ad,bs⟩:=jF own1 (by have:=HI.e;omega) hh a3 59;obtain⟨A2,m2,c2,rfl⟩:=an.slice;have a4:∀g,v.ownBlock=some g->w.1.size+2<=g:=fun g e=>(own1.ge g e).1;have ap:∀k,k<w.1.size+2->w2.1[k]?=w1.1[k]?:=fun k hk=>ad.block k o_ fun e=>by have:=a4 k e.S;omega
   have b2:=(ap (w.1.size+1) o_).T b1;have c0:w1.cell? (y_ (w.1.size+1))=some v:=e_ b1
   have d0:w2.cell? (y_ (w.1.size+1))=some v:=e_ b2
   have f0:w2.frozen? (y_ (w.1.size+1))=false:=AT b2;have bm:=bt.grown ad (fun g e=>⟨ae (ae (ae e)),by have:=a4 g e;have:=HG.d;omega,by
    rcases own1.2 with⟨e0,_⟩ | ⟨g',b8,b9,e0,_,hg,_⟩
    ·rw[e0] at e;cases e
    ·rw[e0] at e;have e:g'=g:=Option.some.inj e;subst e;exact⟨_,_,hg⟩⟩)
   have bo:Ig (w2.setCell (y_ (w.1.size+1)) (.slice A2 m2 c2)) ps S2 (fun k=>Y k\/iJ w.1.size (w.1.size+1) (.slice A2 m2 c2) k):=by
    refine(bm.write (b:=w.1.size+1) (ab (ae (ae (ab rfl)))) b2 ⟨d_,d_⟩ s_ s_ fun k _ hk=>FB hk).M fun k hk=>?_;rcases hk with hk | rfl | rfl | hk
    ·exact ab (ab hk)
    ·exact ab (ae (ab rfl))
    ·exact ab (ae (ae (ab rfl)))
    ·rcases bs with e | ⟨g,e,hg⟩
     ·rw[e] at hk;exact ab (ae (ae (ae hk)))
     ·rw[e] at hk;have hk:g=k:=Option.some.inj hk;subst hk;exact ae ⟨hg,(an.ge g e).2⟩
   have ba:Fo Y w (w2.setCell (y_ (w.1.size+1)) (.slice A2 m2 c2)):=(HI.b.T (k1.M fun k hk=>ab hk)).T ⟨ad.os,ad.tape,ad.output,by simpa using ad.size,fun k hk=>by
    have ca:=HG.c k hk;rw[FB o_];exact ap k o_⟩
   have bj:gz (w2.setCell (y_ (w.1.size+1)) (.slice A2 m2 c2)) w.1.size (w.1.size+1) (w.1.size+2) ps t (.slice A2 m2 c2) (L++[hh]):=
    ⟨heap_setCell b2,(FB o_).T ((ap w.1.size o_).T bu),an.at fun g e=>FB (by have:=(an.ge g e).1;omega),o_⟩
   have a0:hh∉L:=fun hm=>by
    obtain⟨ws,e,_⟩:=HI.f.recs hh hm;rw[HI.j] at e;cases e
   have a9:∃S' o' v L,Ig (w2.setCell (y_ (w.1.size+1)) (.slice A2 m2 c2)) ps S' (fun k=>Y k\/iJ w.1.size (w.1.size+1) v k)/\Fo Y w (w2.setCell (y_ (w.1.size+1)) (.slice A2 m2 c2))/\w.1.size+2<=(w2.setCell (y_ (w.1.size+1)) (.slice A2 m2 c2)).1.size/\gz (w2.setCell (y_ (w.1.size+1)) (.slice A2 m2 c2)) w.1.size (w.1.size+1) (w.1.size+2) ps t v L/\Fw S' o'/\L.length=j+1/\lG S' t L/\(∀h∈L,l_ S h=none)/\(∀h,h∉L->l_ S' h=l_ S h)/\ej S S' (2*(j+1)) (j+1):=by
    refine⟨S2,o1,.slice A2 m2 c2,L++[hh],bo,ba,by rw[size_setCell];exact aI a3 ad.size,bj,HI.d,by rw[ag,HI.e];rfl,⟨?_,fun y hy=>?_⟩,fun y hy=>?_,fun y hy=>?_,(HI.i.T HI.m).M o_ Ih⟩
    ·refine aC.2 ⟨HI.f.nd,s_,fun a ha b hb e=>?_⟩;rw[aW.1 hb] at e;exact a0 (e▸ha)
    ·rcases ay.1 hy with hy | hy
     ·obtain⟨ws,e,hw⟩:=HI.f.recs y hy;exact⟨ws,(HI.l y fun q=>a0 (q▸hy)).T e,hw⟩
     ·rw[aW.1 hy];exact HI.k
    ·rcases ay.1 hy with hy | hy
     ·exact HI.g y hy
     ·rw[aW.1 hy,<-HI.h hh a0];exact HI.j
    ·exact(HI.l y fun q=>hy (aE _ (q▸ao ..))).T (HI.h y fun q=>hy (aD _ q))
   have HF:=If a9;clear a9 bm bo ba bj a0 b1 b2 bu own1 an ad bs a4 ap bt k1 a3 x0 x1;go_wp2_with (at_builtin;refine Lib.wpList_append_run _ rfl _ _ _ _ rfl _ _ rfl rfl _ _ b4 ?_)
   go_roundw
   case rel=>exact⟨j+1,o_,s_,HF.O⟩
   case measure=>simp[intOf];omega
  ·obtain rfl:j=n:=o_
   have b0:¬(j:Int)<j:=o_
   have HI:=kq9 st kp sp hf hL a2 a1 ar ai;clear st kp sp hf a2 a1 ar ai hL a6;go_wp2_with fail;go_ret2;exact⟨rfl,S',o',v,HI.a,HI.b,L,HI.O.2.2⟩
theorem FD.keeps{w w':World}{l:List Nat}(h:FD w v l)(e:∀g,v.ownBlock=some g->g<w.1.size->w'.1[g]?=w.1[g]?):FD w' v l:=by
 obtain⟨A,c,rfl,hc⟩:=h;refine⟨A,c,rfl,fun i hi=>?_⟩;obtain⟨g,o,rfl,h1⟩:=hc i hi;exact⟨g,o,rfl,(World.cell?_of_block (e g rfl (fK h1))).T h1⟩
theorem FE.short{D b c:Nat}{g:Nat}(h:FE w D (.slice (some (y_ b)) (L.length+1) c) (L++[g])):FE w D (.slice (some (y_ b)) L.length c) L:=by
 refine⟨by simp[hV],?_⟩
 rcases h.2 with⟨e,_⟩ | ⟨b',c',ad,e,hb,hg,ap,ai,an,ht⟩
 ·cases e
 ·injection e with e1 e2 e3
  injection e1 with e1
  injection e1 with e1
  subst e1 e3;rw[ag,bE] at ap ht;refine ae ⟨b,c,ad,rfl,hb,hg,o_,ai,an,?_⟩;rw[Nat.mul_one] at ht⊢;have h2:(ad.toList.take (L.length+1)).take L.length=(hV (L++[g])).take L.length:=by rw[ht]
  rw[List.take_take,dL o_] at h2;rw[h2];unfold hV;rw[aQ,List.take_left' s_]
theorem pZ{Z:Nat->Prop}{bt bl D t g:Nat}(h:Ig w ps S Z)(hi:Fv S)(sp:gz w bt bl D ps t v (L++[g]))(zb:Z bl)(zt:Z bt)(zv:∀b,v.ownBlock=some b->Z b)(hL:L.length<=1000)
 {n:BN} {vk vv vc:Value} (hn:iU t n) (hk:FD w vk n.i_) (hv:FD w vv n.F4) (hc:FD w vc n.C_) (nk:∀b,vk.ownBlock=some b->b≠bl) (nv:∀b,vv.ownBlock=some b->b≠bl) (nc:∀b,vc.ownBlock=some b->b≠bl)
 (hg:g<2^64) (hlen:S.len g=(6*t,0)) (hlt:∀x∈w_ t n,x<2^64):
 Ct 214 #[eC vk vv vc n.size,PV bl,PV bt] w fun e w'=>e=.returned (Xu g)/\∃v',Ig w' ps (FC S g 0 (w_ t n)) Z/\Fo (fun k=>Z k/\k≠bl) w w'/\gz w' bt bl D ps t v' L/\v'.ownBlock=v.ownBlock:=by
 have hY:=h.yl;obtain⟨b,c,bf⟩:∃b c,v=.slice (some (y_ b)) (L.length+1) c:=by
  rcases sp.row.2 with⟨_,e⟩ | ⟨b,c,a5,e,_⟩
  ·simp at e
  ·exact⟨b,c,by rw[e];simp⟩
 subst bf;have E_:=sp.row;have a8:=(E_.ge b rfl).1;have a2:=E_.short;have a6:L.length<=c:=by
  rcases E_.2 with⟨e,_⟩ | ⟨b',c',a5,e,hb,bu,bb,bq,bs,ht⟩
  ·cases e
  ·injection e with e1 e2 e3
   subst e3;rw[ag,bE] at bb;omega
 have au:w.cell? (x_ b L.length)=some (Xu g):=by
  have:=World.ownsRow.cells E_ (g:=b) rfl L.length (Xu g) (by simp[hV]);rw[Addr.add_lit] at this;simpa using this
 obtain⟨Ak,ck,rfl,ba⟩:=id hk;obtain⟨Av,cv,rfl,bd⟩:=id hv;obtain⟨Ac,cc,rfl,a'⟩:=id hc;clear ba bd a';have B0:=c_ w (.cells #[.slice Ak n.i_.length ck,.slice Av n.F4.length cv,.slice Ac n.C_.length cc,Xu n.size] 215);have q0:=heap_alloc_new w (.cells #[.slice Ak n.i_.length ck,.slice Av n.F4.length cv,.slice Ac n.C_.length cc,Xu n.size] 215);obtain⟨W0,hW⟩:=Ii (w.alloc (.cells #[.slice Ak n.i_.length ck,.slice Av n.F4.length cv,.slice Ac n.C_.length cc,Xu n.size] 215));rw[hW] at B0 q0;have a3:=h.wide B0;have q1:=(B0.block bl (hY bl zb)).T sp.box;have q2:=(B0.block bt (hY bt zt)).T sp.tree;have c1:=(B0.cell (p:=x_ b L.length) (fK au)).T au;have bc:w.1.size<W0.1.size:=(gl q0);have ap:=sp.lo;have a9:=hY bl zb;have ad:∀k,k≠bl->(W0.setCell (y_ bl) (.slice (some (y_ b)) L.length c)).1[k]?=W0.1[k]?:=fun k hk=>FB hk;have r1:=heap_setCell (i:=0) (v:=.slice (some (y_ b)) L.length c) q1;have a1:=a3.write (w':=W0.setCell (y_ bl) (.slice (some (y_ b)) L.length c)) (b:=bl) (ab zb) q1 ⟨d_,d_⟩ s_ s_ fun k _ hk=>ad k hk;have rk:=hk.keeps (w':=W0.setCell (y_ bl) (.slice (some (y_ b)) L.length c)) fun x e hx=>(ad x (nk x e)).T (B0.block x hx);have rv:=hv.keeps (w':=W0.setCell (y_ bl) (.slice (some (y_ b)) L.length c)) fun x e hx=>(ad x (nv x e)).T (B0.block x hx);have rc:=hc.keeps (w':=W0.setCell (y_ bl) (.slice (some (y_ b)) L.length c)) fun x e hx=>(ad x (nc x e)).T (B0.block x hx);have ar:=Jg a1 hi hn rk rv rc g hg hlen hlt;have t1:=(ad bt (fun e=>ap.2.2 e.S)).T q2;have t0:=(ad w.1.size o_).T q0;have ai:Fo (fun k=>Z k/\k≠bl) w (W0.setCell (y_ bl) (.slice (some (y_ b)) L.length c)):=(Fo.A_ B0 fun k hk=>hY k hk.1).T ⟨rfl,rfl,rfl,s_,fun k hk=>ad k hk.2⟩;have an:FE (W0.setCell (y_ bl) (.slice (some (y_ b)) L.length c)) D (.slice (some (y_ b)) L.length c) L:=a2.at fun x e=>(ad x (by have:b=x:=Option.some.inj e;omega)).T (B0.block x (by have:b=x:=Option.some.inj e;subst this;exact fK au));have a0:=zv b rfl;unfold eC at ar⊢;generalize n.i_.length=lk at*;generalize n.F4.length=lv at*;generalize n.C_.length=lc at*;generalize n.size=sz at*;have l0:(W0).cell? (y_ bl)=some (.slice (some (y_ b)) (L.length+1) c):=e_ q1
 have f0:(W0).frozen? (y_ bl)=false:=AT q1;obtain⟨N,hN⟩:=Ii L.length;rw[hN] at a6 hL c1 l0 ar r1 t1 t0 ai an rk rv rc a1 ad;obtain⟨W1,a7⟩:=Ii (W0.setCell (y_ bl) (.slice (some (y_ b)) N c));rw[a7] at ar r1 t1 t0 ai an;obtain⟨x0,x1⟩:=Fp t1;obtain⟨y0,y1,y2,y3⟩:=Fy t0;have HP:=If ar;have HF:=kq9 r1 t1 ai an zb zt a0 ap hN;have bj:((N:Int)+1==0)=false:=m_
 have bk:¬((N:Int)+1=0):=o_
 have bm:IntKind.i64.wrap ((N:Int)+1-1)=N:=by rw[Int.add_sub_cancel];exact aq _ o_
 have bo:(N:Int)<(N:Int)+1:=o_
 clear h hi sp zb zt zv hn hk hv hc nk nv nc hlen hlt hY E_ a8 a2 au B0 q0 a3 q1 q2 bc ap a9 ad r1 a1 rk rv rc ar t1 t0 ai an a0 hN;go_enter func214,ntmps214;go_wp2_with fail;refine HP.O.M ?_;rintro e w2 ⟨rfl,a4,k2⟩;have HS:=kq2 a4 k2;clear a4 k2;go_wp2_with fail;go_ret;obtain⟨r1,t1,ai,an,zb,zt,a0,ap,hN⟩:=HF.O;have k2:=HS.b;refine⟨rfl,.slice (some (y_ b)) N c,HS.a.M fun k hk=>ab hk,ai.T (k2.M fun k hk=>ab hk.1),⟨(k2.block bl (ab zb)).T r1,(k2.block bt (ab zt)).T t1,an.at fun x e=>k2.block x (by have:b=x:=Option.some.inj e;subst this;exact ab a0),ap⟩,rfl⟩
end
section
open Go.RowKit Tryz Go.BigFrame Go.Maps Go.WideMaps Lf Tr
variable{S:St}{Y:Nat->Prop}{ps:Nat}{w:World}
theorem zO(w:World)(ps t:Nat)(key:List UInt8):
 Cb 181 #[FH ps t,Xu 0,SV key] w (Xi 1):=by
 have B0:=c_ w (Xc ps t);have HB:=If B0;clear B0;unfold FH;go_enter func181,ntmps181;go_wp2_with fail;go_ret;exact⟨rfl,HB.O⟩
theorem tT(h:Ig w ps S Y)(hi:Fv S){t:Nat}(t1:2<=t)(t2:t<=16)(hh:Nat)(hl:hh<2^64)(hlen:S.len hh=(0,7))(key:List UInt8):
 Cb 210 #[FH ps t,Xu hh,SV key] w (.tuple #[i7 none,.bool (none:Option It).isSome,Xi (0:Nat)]):=by
 have B0:=(c_ w (Xc ps t)).alloc s_ (.cells #[Xu 0,Xu 0] 104);have z1:(w.alloc (Xc ps t)).1.size=w.1.size+1:=s_
 have q1:=heap_alloc_new w (Xc ps t);have q2:=heap_alloc_new (w.alloc (Xc ps t)) (.cells #[Xu 0,Xu 0] 104);have q3:=(((aa (w.alloc (Xc ps t)).1.size (w.alloc (Xc ps t))).alloc Ih (.cells #[Xu 0,Xu 0] 104)).block w.1.size s_).T q1;rw[z1] at q2;have hz:w.1.size+2<=((w.alloc (Xc ps t)).alloc (.cells #[Xu 0,Xu 0] 104)).1.size:=s_
 generalize hW:(w.alloc (Xc ps t)).alloc (.cells #[Xu 0,Xu 0] 104)=W0 at*;have ad:=nQ (h.a_ B0) hi t1 t2 hh hl hlen;unfold FH eC at ad;unfold FH;have HG:=kq2 (kq4 B0 q2 q3 hz) ad;clear ad h hi B0 q1 q2 q3 z1 hz hlen;go_enter func210,ntmps210;go_wp2_with fail;clear hW
 go_loopw [1,7,8,9,10,11,12,13,14] (fun s1 s7 s8 _ _ _ _ _ s14 wr=>s1=Xu hh/\s7=.bool false/\s8=Xi 0/\s14=Xi 0/\wr=W0) (fun _ _ _ _ _ _ _ _ _ _=>0)
 case atStart=>exact⟨rfl,rfl,rfl,rfl,rfl⟩
 case round=>
  obtain⟨rfl,rfl,rfl,rfl,rfl⟩:=hrel;have t3:=HG.a.c;obtain⟨x0,x1⟩:=Fp t3;clear t3;go_wp2_with fail;refine e9 HG.b fun w1 hb=>?_;have A1:=c_ w1 (.cells #[n_,n_,n_,Xu 0] 215);have q6:=(hb.block (w.1.size+1) (by have:=HG.a.d;omega)).T HG.a.b;have r6:=(A1.block (w.1.size+1) (gl q6)).T q6;have HB:=kq2 (HG.a.a.T ((b_ hb A1).M HG.a.a.size)) r6;obtain⟨z0,z1⟩:=Fp r6;obtain⟨f0,f1⟩:=ef r6;clear hb A1 q6 r6;go_wp2_with fail;generalize w1.alloc (.cells #[n_,n_,n_,Xu 0] 215)=WX at*;have eW:=ew HB.b (Xu 0) (Xu 0);have BF:=eT HB.a (b:=w.1.size+1) o_ (Xu 0) (Xu 0);generalize ((WX.setCell (y_ (w.1.size+1)) (Xu 0)).setCell (x_ (w.1.size+1) 1) (Xu 0))=WF at*;obtain⟨e0,e1⟩:=Fp eW;exact bodyPost_ret (v:=.tuple #[.agg #[Xu 0,Xu 0],.bool false,Xi 0]) (by simp[results,f210,go_sem,e0,e1]) rfl ⟨rfl,BF⟩
theorem qBgab{P:Prop}(h:P:=by
 obtain⟨e0,e1⟩:=Fp eW;exact bodyPost_ret (v:=.tuple #[.agg #[Xu 0,Xu 0],Xi 2]) (by simp[results,f322,go_sem,e0,e1]) rfl ⟨rfl,BF⟩):P:=h
theorem zT(h:Ig w ps S Y)(hi:Fv S){t hh z:Nat}(t1:2<=t)(t2:t<=16)(hs:∀W,D_ w W->Cb 175 #[FH ps t,Xu hh] W (Xi z)){k:Int}(hk:k<0\/(z:Int)<=k):
 Ct 322 #[PV ps,Xi t,Xu hh,Xi k] w fun e' w'=>e'=.returned (.tuple #[Id 0 0,Xi 2])/\D_ w w':=by
 have B1:=c_ w (.cells #[Xu 0,Xu 0] 104);have B0:=B1.alloc s_ (Xc ps t);have z1:(w.alloc (.cells #[Xu 0,Xu 0] 104)).1.size=w.1.size+1:=s_
 have q1:=heap_alloc_new w (.cells #[Xu 0,Xu 0] 104);have q3:=heap_alloc_new (w.alloc (.cells #[Xu 0,Xu 0] 104)) (Xc ps t);have q2:=(((aa (w.alloc (.cells #[Xu 0,Xu 0] 104)).1.size (w.alloc (.cells #[Xu 0,Xu 0] 104))).alloc Ih (Xc ps t)).block w.1.size s_).T q1;rw[z1] at q3;have hz:w.1.size+2<=((w.alloc (.cells #[Xu 0,Xu 0] 104)).alloc (Xc ps t)).1.size:=s_
 have has:=kZ (h.a_ B1) hi t1 t2;generalize an:w.alloc (.cells #[Xu 0,Xu 0] 104)=Wa at*;generalize hW:Wa.alloc (Xc ps t)=W0 at*;have ar:Wa.1.size=w.1.size+1:=z1;have ad:=hs W0 B0;obtain⟨x0,x1⟩:=Fp q3;obtain⟨c0,c1⟩:=Fp q2;obtain⟨f0,f1⟩:=ef q2;have HG:=kq2 (kq4 B0 q2 q3 hz) has;unfold FH at ad;have H0:=If ad;clear h hi hs B0 B1 q1 q2 q3 z1 hz has ad
 rcases hk with hk | hk
 ·go_enter func322,ntmps322;go_wp2_with fail;refine Jc HG.b ?_;go_wp2_with fail;have eW:=ew HG.a.b (Xu 0) (Xu 0);have BF:=eT HG.a.a (b:=w.1.size) o_ (Xu 0) (Xu 0);generalize ((W0.setCell (y_ w.1.size) (Xu 0)).setCell (x_ w.1.size 1) (Xu 0))=WF at*;exact qBgab
 ·have ap:¬k<0:=o_
  clear c0 c1 f0;go_enter func322,ntmps322;go_wp2_with fail;refine Jc HG.b ?_;go_wp2_with fail;refine e9 H0.O fun w2 hb1=>?_;have r2:=(hb1.block w.1.size (by have:=HG.a.d;omega)).T HG.a.b;obtain⟨c0,c1⟩:=Fp r2;obtain⟨f0,f1⟩:=ef r2;have ai:=kq2 (b_ HG.a.a hb1) r2;clear hb1 x0 x1 r2;go_wp2_with fail;have eW:=ew ai.b (Xu 0) (Xu 0);have BF:=eT ai.a (b:=w.1.size) o_ (Xu 0) (Xu 0);generalize ((w2.setCell (y_ w.1.size) (Xu 0)).setCell (x_ w.1.size 1) (Xu 0))=WF at*;exact qBgab
end
section
open Go.RowKit Tryz Go.BigFrame Go.Maps Go.WideMaps Lf Tr
open Go.Shelf
variable{S:St}{Y:Nat->Prop}{l:List Nat}{v:Value}{w:World}
theorem FE.block{B:Nat}(h:FE w B v l){g:Nat}(hg:v.ownBlock=some g):B<=g/\g<w.1.size/\∃cs fr,w.1[g]?=some (.cells cs 61 fr):=by
 rcases h.2 with⟨e,_⟩ | ⟨b,c,ad,e,hb,ai,ar,an,ap,ht⟩
 ·rw[e] at hg
  cases hg
 ·rw[e] at hg
  cases hg
  grind
structure kG (w w':World) (B ps:Nat) (S:St) (Y:Nat->Prop) (v v':Value) (l':List Nat):Prop where
 own:FE w' B v' l'
 st:Ig w' ps S (fun k=>Y k\/(w.1.size<=k/\k<w'.1.size))
 grown:w.grownBy w' v.ownBlock
 at':v'.ownBlock=v.ownBlock\/∃g,v'.ownBlock=some g/\w.1.size<=g
theorem kG.v_{w w':World}{B ps:Nat}{v v':Value}{l':List Nat}(h:kG w w' B ps S Y v v' l'){k:Nat}(hk:k<w.1.size)(hne:v.ownBlock≠some k):w'.1[k]?=w.1[k]?:=h.grown.block k hk (Ne.S hne)
theorem kG.B_{w w':World}{B ps:Nat}{v v':Value}{l':List Nat}(h:kG w w' B ps S Y v v' l'){Z:Nat->Prop}(hz:∀k,Z k->k<w.1.size/\v.ownBlock≠some k):Fo Z w w':=
 ⟨h.grown.os,h.grown.tape,h.grown.output,h.grown.size,fun k hk=>h.grown.block k (hz k hk).1 (Ne.S (hz k hk).2)⟩
theorem kG.row{w w':World}{B ps:Nat}{v v':Value}{l':List Nat}(h:kG w w' B ps S Y v v' l'){B2:Nat}{u:Value}{l2:List Nat}(hu:FE w B2 u l2)(hne:∀g,u.ownBlock=some g->v.ownBlock≠some g):FE w' B2 u l2:=
 hu.at fun x e=>h.v_ (hu.block e).2.1 (hne x e)
theorem uT{B ps:Nat}(h:Ig w ps S Y)(ho:FE w B v l)(hY:∀g,v.ownBlock=some g->Y g)(htab:fy<B)(hl:l.length<=1000){i:Nat}(hi:i<=l.length){x vb:Nat}(hx:w.1[vb]?=some (.cells #[Xu x] 61 (0,0)))(hne:v.ownBlock≠some vb)(hB:B<=w.1.size):
 Ct 215 #[v,Xi i,.slice (some (y_ vb)) 1 1] w fun e w'=>∃v',e=.returned v'/\kG w w' B ps S Y v v' (l.take i++x::l.drop i):=by
 refine(Bj ho hl hi hx hne hB).M ?_;rintro e w' ⟨v',rfl,h1,h2,h3⟩;refine⟨v',rfl,h1,h.grown h2 fun g hg=>?_,h2,h3⟩;obtain⟨hb,_,hc⟩:=ho.block hg;grind
end
section
open Go.RowKit Tryz Go.BigFrame Go.Maps Go.WideMaps Lf Tr
def wa(x:It×Nd):Array Value:=#[Xu x.1.h,eS x.2]
def dU(n0:Nat)(X:Nat->Prop)(W W':World):Prop:=Below n0 W W'/\∀k o,X k->W.1[k]?=some o->W'.1[k]?=some o
theorem dU.refl(n0:Nat)(X:Nat->Prop)(W:World):dU n0 X W W:=⟨aa _ _,fun _ _ _ e=>e⟩
theorem dU.T {n0:Nat}{X:Nat->Prop}{A B C:World}(h:dU n0 X A B)(k:dU n0 X B C):dU n0 X A C:=⟨h.1.T (k.1),fun g o hx e=>k.2 g o hx (h.2 g o hx e)⟩
theorem dU.eq {n0 k:Nat}{X:Nat->Prop}{A B:World}(h:dU n0 X A B)(hx:X k)(hk:k<A.1.size):B.1[k]?=A.1[k]?:=(h.2 k _ hx (dd hk)).T (dd hk).S
structure mn (w0:World) (D ps Bs Br:Nat) (J:(Nat->Prop)->List (It×Nd)->World->Prop) (pre:List (It×Nd)) (f9:Nat) (v:Value) (st:List Nat) (W:World):Prop where
 ex:∃X,J X pre W/\(∀g,v.ownBlock=some g->X g)/\X Bs/\X Br
 bl:D_ w0 W
 own:FE W D v st
 cs:W.1[Bs]?=some (Xh ps)
 cr:W.1[Br]?=some (Xf f9)
 lo:w0.1.size<=Bs/\w0.1.size<=Br/\Bs≠Br/\Bs<D/\Br<D/\D<=W.1.size
set_option maxRecDepth 4000
section
variable {w0 W W':World}{D ps Bs Br f9:Nat}{J:(Nat->Prop)->List (It×Nd)->World->Prop}{pre:List (It×Nd)}{v:Value}{st:List Nat}
theorem mn.a_(hJ:Ma D J)(h:mn w0 D ps Bs Br J pre f9 v st W)(hb:D_ W W'):mn w0 D ps Bs Br J pre f9 v st W':=by
 obtain⟨X,h1,h2,h3,h4⟩:=h.ex;have lt:∀{k o},W.1[k]?=some o->W'.1[k]?=some o:=fun e=>(hb.block _ (gl e)).T e;have ad:=hb.size;have:=h.lo;exact⟨⟨X,hJ X X pre W W' none h1 (lf hb) (fun r e=>by cases e) (fun _ hk=> .inl hk),h2,h3,h4⟩,b_ h.bl hb,h.own.at fun g e=>hb.block g (h.own.ge g e).2,lt h.cs,lt h.cr,o_⟩
theorem mn.write(hJ:Ma D J)(h:mn w0 D ps Bs Br J pre f9 v st W)(r:Nat):mn w0 D ps Bs Br J pre r v st (W.setCell (y_ Br) (Xu r)):=by
 obtain⟨X,h1,h2,h3,h4⟩:=h.ex;have ad:=h.lo;refine⟨⟨X,hJ X X pre W _ (some Br) h1 (grownBy_setCell' W Br _) (fun r e=>by grind) (fun _ hk=> .inl hk),h2,h3,h4⟩,h.bl.T ⟨rfl,rfl,rfl,s_,fun k hk=>FB o_⟩,h.own.at fun g e=>FB (by have:=(h.own.ge g e).1;omega),(FB ad.2.2.1).T h.cs,heap_setCell (i:=0) (v:=Xu r) h.cr,by simp_all⟩
theorem mn.push(hJ:Ma D J)(h:mn w0 D ps Bs Br J pre f9 v st W)(hl:st.length<=100000)(x:Nat)(ty:TypeId):
 ∃A m c,v=.slice A m c/\∃A2 m2 c2 W2,(Builtin.append_ #[59,59] ty #[.slice A m c,.slice (some (y_ W.1.size)) 1 1]).run prog (W.alloc (Xf x))=.ok (.slice A2 m2 c2) W2/\mn w0 D ps Bs Br J pre f9 (.slice A2 m2 c2) (st++[x]) W2/\∀k,k<W.1.size->v.ownBlock≠some k->W2.1[k]?=W.1[k]?:=by
 obtain⟨X,h1,h2,h3,h4⟩:=h.ex;have ai:=h.lo;obtain⟨v2,W2,ap,an,ad,a0⟩:=jF h.own hl x ai.2.2.2.2.2 ty;obtain⟨A,m,c,rfl⟩:=h.own.slice;obtain⟨A2,m2,c2,rfl⟩:=an.slice;have hk:∀k,k<D->W2.1[k]?=W.1[k]?:=fun k hk=>ad.block k o_ fun e=>by have:=(h.own.ge k e.S).1;omega
 have ar:=ad.size;have hx:∀k,(X k\/(Value.slice A2 m2 c2).ownBlock=some k)->X k\/W.1.size<=k/\k<W2.1.size:=fun k hk=>by
  rcases hk with hk | hk
  ·grind
  ·have au:=(an.ge k hk).2
   grind
 refine⟨A,m,c,rfl,A2,m2,c2,W2,ap,⟨⟨fun k=>X k\/(Value.slice A2 m2 c2).ownBlock=some k,hJ X _ pre W W2 _ h1 ad (fun r e=> .inl (h2 r e)) hx,fun g e=> .inr e,.inl h3,.inl h4⟩,h.bl.T ⟨ad.os,ad.tape,ad.output,ar,fun k q=>hk k o_⟩,an,(hk _ ai.2.2.2.1).T h.cs,(hk _ ai.2.2.2.2.1).T h.cr,o_⟩,fun k hk hne=>ad.block k hk fun e=>hne e.S⟩
theorem mn.pop {x:Nat}(h:mn w0 D ps Bs Br J pre f9 v (st++[x]) W):
 ∃b c,v=.slice (some (y_ b)) (st.length+1) c/\st.length+1<=c/\W.cell? (x_ b st.length)=some (Xu x)/\mn w0 D ps Bs Br J pre f9 (.slice (some (y_ b)) st.length c) st W:=by
 obtain⟨b,c,e,hc⟩:∃b c,v=.slice (some (y_ b)) (st++[x]).length c/\(st++[x]).length<=c:=by
  rcases h.own.2 with⟨_,e0⟩ | ⟨b,c,ad,e,_,_,ai,_⟩
  ·simp at e0
  grind
 rw[ag,bE] at e hc;subst e;have ho:FE W D (.slice (some (y_ b)) (st.length+1) c) (st++[x]):=h.own;obtain⟨X,h1,h2,h3,h4⟩:=h.ex;refine⟨b,c,rfl,hc,?_,⟨X,h1,h2,h3,h4⟩,h.bl,ho.short,h.cs,h.cr,h.lo⟩;rw[<-(World.ownsRow.cells h.own (g:=b) rfl st.length (Xu x) (by simp[hV]))];unfold Addr.add
 cases st<;>simp
theorem mn.yield {F:Fence}{m l:Nat}{P:Program}{x:It×Nd}{S:List (It×Nd)->Prop}(o:Obj)(hJ:Ma D J)(hY:∀X pre x W1,J X pre W1->(∃r,S (pre++x::r))->YieldAt F m P l (wa x) W1 fun e W'=>e=.returned (.bool true)/\J X (pre++[x]) W'/\dU w0.1.size X W1 W')(h:mn w0 D ps Bs Br J pre f9 v st W)(hl:∃r,S (pre++x::r)):
 YieldAt F m P l (wa x) (W.alloc o) fun e W'=>e=.returned (.bool true)/\mn w0 D ps Bs Br J (pre++[x]) f9 v st W'/\W'.1[W.1.size]?=some o:=by
 obtain⟨X,h1,h2,h3,h4⟩:=h.ex;have hb:D_ W (W.alloc o):=(aa _ _).alloc Ih _;refine(hY _ pre x _ (hJ X (fun k=>X k\/k=W.1.size) pre W _ none h1 (lf hb) (fun r e=>by cases e) (fun k hk=>hk.imp id fun e=>by simp_all)) hl).M ?_;rintro e W' ⟨rfl,hj,ad⟩;have an:=ad.1.size;have ai:=h.bl.size;have:=h.lo;have lt:∀{k c},W.1[k]?=some c->(W.alloc o).1[k]?=some c:=fun e=>(hb.block _ (gl e)).T e;exact⟨rfl,⟨⟨_,hj,fun g e=> .inl (h2 g e),.inl h3,.inl h4⟩,(h.bl.T (hb.M ai)).T ad.1,h.own.at fun g e=>(ad.eq (.inl (h2 g e)) (aH (h.own.ge g e).2 hb.size)).T (hb.block g (h.own.ge g e).2),ad.2 _ _ (.inl h3) (lt h.cs),ad.2 _ _ (.inl h4) (lt h.cr),by rw[World.size_alloc] at an;omega⟩,ad.2 _ _ (.inr rfl) (World.alloc_heap_new _ _)⟩
end
theorem JJ {F:Fence}{n:Nat}{P:Program}(w:World){ops:Array Oper}{rest:List Oper}{o:Oper}{a:Act}{Q:Exit->Act->World->Prop}
 (hg:o.guard=none) (s x:Operand) (t tn:TypeId) (hop:o.op=Op.call { callee:=Callee.builtin Builtin.append,args:=#[s,x],argTypes:=#[t,tn] })
 (vs vx:Value) (hs:a.eval s=vs) (hx:a.eval x=vx) (v':Value) (w':World) (hr:(Builtin.append_ #[t,tn] o.type #[vs,vx]).run P w=.ok v' w') (h:wpListIn F n P ops Q rest (a.put o.dst v') w'):wpListIn F n P ops Q (o::rest) a w:=by
 refine wpListIn_plain hg fun K hK'=>?_;unfold Oper.wpIn;refine⟨?_,?_⟩
 ·simp[Oper.about,hop,resolve,Target.leads,Sem.run_pure]
 ·rw[Oper.semAt_plain F _ _ (by rw[hop];intro c hc';cases hc')];simp[execOp,hop,resolve,invoke,builtin,hs,hx,hr,Result.andThen]
  exact hK' _ _ h
def JP:Value->Nat
 | .slice _ m _=>m
 | _=>0
theorem Tr.st_late:∀{st:List Tr},(∀x∈st,x≠ .nil)->st.length<=(st.flatMap late).length
 | [],_=>Nat.le_refl _
 | .nil::_,h=>absurd rfl (h _ (ao ..))
 | .node l d m r::st,h=>by
  have:=st_late (st:=st) fun x hx=>h x (am _ hx);simp only[cU,late,ag,ah];omega
theorem Tr.is_node:∀t:Tr,t=.nil\/∃l d m r,t=.node l d m r
 | .nil=> .inl rfl
 | .node l d m r=> .inr ⟨l,d,m,r,rfl⟩
theorem Kw {α:Type}:∀st:List α,st=[]\/∃x st',st=x::st'
 | []=> .inl rfl
 | x::st=> .inr ⟨x,st,rfl⟩
theorem L8(n:Nd):eS n=.agg #[Xu n.key,Xu n.val,Xu n.left,Xu n.right,Xu n.mark,Xu n.size]:=rfl
theorem Ko {w0 w:World}{ps:Nat}{S:St}{o:Nat->Nat}{Y:Nat->Prop}{t:Tr}(h:Ig w0 ps S Y)(hf:Fw S o)(ha:Tr.At S t)(hN:t.j_.length<r_ S)(hN2:t.j_.length<=1000)(Bs Br:Nat)(hb:D_ w0 w)(lo:w0.1.size<=Bs/\w0.1.size<=Br/\Bs≠Br/\Bs<w.1.size/\Br<w.1.size)(cs:w.1[Bs]?=some (Xh ps))(cr:w.1[Br]?=some (Xf t.f9)):
 JT Fence.wide 6 prog 161 #[PV Bs,PV Br] wa (dU w0.1.size) (fun k=>k=Bs\/k=Br) (fun xs=>xs=t.j_) w:=fun l J W hW hJ hY h0=>by
 have dk:Fence.wide.fn 162:=trivial;have dc:Fence.wide.fn 76:=trivial;have ba:=b_ hb hW;have b4:CallsIn Fence.wide 5 prog 162 #[PV ps] W _:=callsIn_wide.2 (sX (h.a_ ba));have hL:1<=r_ S/\r_ S<=40000:=by have:=nB h;unfold r_;omega
 generalize r_ S=L at*;have cs:=(hW.block Bs lo.2.2.2.1).T cs;have cr:=(hW.block Br lo.2.2.2.2).T cr;have cq:=hW.size;have hI:mn w0 W.1.size ps Bs Br J [] t.f9 n_ [] W:=⟨⟨_,h0,(fun g e=>nomatch e),.inl rfl,.inr rfl⟩,ba,World.ownsRow_nil _ _ _ _,cs,cr,o_⟩;have HJ:=kq6 hJ hI hf ha hY h;have c0:(W).cell? (y_ Bs)=some (PV ps):=e_ cs
 obtain⟨N,bd⟩:=Ii t.j_.length;rw[bd] at hN hN2;have HN:=If bd;clear hI hW hJ hY h0 hb lo cs cr h hf ha ba cq bd;refine callsIn_of_wp func161 rfl trivial ?_ rfl;simp only[ntmps161,aT,ah,aK,Nat.reduceAdd,Nat.reduceSub,aN,aO,aX,aR,aU,aM];gi_wp2_with fail;refine b4.M ?_;rintro e w1 ⟨rfl,bq⟩;have H1:=If (mn.a_ HJ.a HJ.b bq);clear bq b4 c0;have c3:(0:Int)<L:=o_
 gi_wp2_with fail;gi_loopw [4,6,7,8,9,10,11] (fun s4 s6 _ _ _ _ _ wr=>∃(k:Nat) (ad:List (It×Nd)) (r:Tr) (st:List Tr),s6=Xi k/\k=ad.length+st.length/\Hid (mn w0 W.1.size ps Bs Br J ad r.f9 s4 (st.map topH).reverse wr/\ad++restN r st=t.j_/\Tr.At S r/\(∀x∈st,Tr.At S x)/\∀x∈st,x≠ .nil)) (fun s4 s6 _ _ _ _ _ _=>N+JP s4-(intOf s6).toNat)
 case atStart=>exact⟨0,[],t,[],rfl,rfl,H1.O,by simp[restN],HJ.d,(fun x hx=>nomatch hx),(fun x hx=>nomatch hx)⟩
 case round=>
  obtain⟨k,ad,r,st,rfl,hk,J0⟩:=hrel;have a8:ad.length+st.length<=N:=by
   have e:=congrArg List.length J0.O.2.1;rw[HN.O,ag] at e;have:=st_late J0.O.2.2.2.2;unfold restN at e;rw[ag] at e;omega
  have cn:(k:Int)<L:=o_
  obtain⟨p,hp⟩:=Ii ad.length;rw[hp] at hk a8;have HP:=If hp;have HL:=If (show JP u4=st.length by
   obtain⟨A,c,e⟩:=J0.O.1.own.F8;rw[e];simp[JP])
  have HK:=If hk;clear hk;clear hp;gi_wp2_with fail;gi_loopw [4,6,7,8] (fun s4 s6 _ _ wr=>∃(k:Nat) (r:Tr) (st:List Tr),s6=Xi k/\k=p+st.length/\Hid (mn w0 W.1.size ps Bs Br J ad r.f9 s4 (st.map topH).reverse wr/\ad++restN r st=t.j_/\Tr.At S r/\(∀x∈st,Tr.At S x)/\∀x∈st,x≠ .nil)) (fun _ s6 _ _ _=>N-(intOf s6).toNat)
  case atStart=>exact⟨k,r,st,rfl,HK.O,J0.O⟩
  case round=>
   obtain⟨k,r,st,rfl,hk,J1⟩:=hrel;have a8:p+(r.j_.length+st.length)<=N:=by
    have e:=congrArg List.length J1.O.2.1;rw[HN.O,ag,HP.O] at e;have:=st_late J1.O.2.2.2.2;unfold restN at e;rw[ag] at e;omega
   have cn:(k:Int)<L:=o_
   have dn:k<=N:=o_
   have a9:=If hk;clear hk;have cs:=J1.O.1.cs;have cr:=J1.O.1.cr;have c0:(wr).cell? (y_ Bs)=some (PV ps):=e_ cs
   have b0:(wr).cell? (y_ Br)=some (Xu r.f9):=e_ cr
   have HQ:=kq2 cs cr;clear cs cr;rcases is_node r with rfl | ⟨l',d,m,r',rfl⟩
   ·--nothing more to the left
    replace b0:wr.cell? (y_ Br)=some (Xu 0):=b0
    rcases Kw st with rfl | ⟨x,au,rfl⟩
    ·obtain⟨A,c,rfl⟩:=J1.O.1.own.F8;have bv:ad=t.j_:=by
      have:=J1.O.2.1;rw[restN_nil,bI] at this;exact this
     have HF:=kq2 bv J1.O.1.ex;clear bv;gi_wp2_with fail;refine bodyPost_ret (results_none rfl _ _ _) rfl ?_;obtain⟨e1,X,hj,_⟩:=HF.O;exact⟨⟨_,rfl⟩,X,ad,e1,hj⟩
    ·rcases is_node x with rfl | ⟨l2,d2,m2,r2,rfl⟩
     ·exact absurd rfl (J1.O.2.2.2.2 _ (ao ..))
     have cb:((Tr.node l2 d2 m2 r2::au).map topH).reverse=(au.map topH).reverse++[d2.h]:=by simp[topH]
     have bc:=J1.O.1;rw[cb] at bc;have a7:(au.map topH).reverse.length=au.length:=s_
     obtain⟨bb,cc,rfl,ck,bu,hI⟩:=bc.pop;obtain⟨n,hn⟩:=Ii (au.map topH).reverse.length;rw[hn] at ck bu hI a7;rw[hn];have bj:=If (show k=p+(n+1) by rw[a9.O,ah,a7]);have a6:=J1.O.2.2.2.1 _ (ao ..);have a3:=a6.f_ HJ.c;have a1:=(fL HJ.c a6.1).2.1;have ai:CallsIn Fence.wide 5 prog 76 #[PV ps,Xu d2.h] wr _:=callsIn_wide.2 (iO (HJ.f.a_ hI.bl) HJ.c.inv d2.h a1);rw[a3] at ai;obtain⟨nn,ap⟩:=Ii (Tr.nd l2 d2 m2 r2);have ch:nn.right=r2.f9:=by rw[<-ap];rfl
     have bo:ad++(d2,nn)::restN r2 au=t.j_:=by
      rw[<-ap,<-restN_pop];exact J1.O.2.1
     rw[ap] at ai;have HG:=kq6 ai hI ch bo a6 a7;have HU:=If (show p+(n+1)<=N by rw[ah] at a8;omega);have dp:n<=1000:=by have:=HU.O;omega
     have c4:((n:Int)+1==0)=false:=m_
     have hN2:¬((n:Int)+1=0):=o_
     have c5:IntKind.i64.wrap ((n:Int)+1-1)=n:=by rw[Int.add_sub_cancel];exact aq _ o_
     have c6:(n:Int)<(n:Int)+1:=o_
     clear cb bc a7 hn a6 a3 a1 ai ap ch bo hI a8;gi_wp2_with fail;refine HG.a.M ?_;rintro e w2 ⟨rfl,a2⟩;have ar:=HG.b.a_ HJ.a a2;have cs:=ar.cs;have a0:(w2).cell? (y_ Bs)=some (PV ps):=e_ cs
     have cj:=If ar;clear a2 ar cs c0 b0 bu;rw[L8];obtain⟨fn,ds,cw,cx,hy,bk⟩:=mn.yield (S:=fun xs=>xs=t.j_) (Xb nn.key nn.val nn.left nn.right nn.mark nn.size) HJ.a HJ.e cj.O ⟨_,HG.d⟩;dsimp only[wa] at hy
     rw[L8] at hy;gi_wp2_with fail;refine bk.M ?_;rintro e w4 ⟨rfl,an,bt⟩;have cr:=an.cr;obtain⟨g0,g1,g2,g3,g4,g5⟩:=ia bt;have e0:(w4).cell? (y_ Br)=some (Xu (Tr.f9 .nil:Nat)):=e_ cr
     have f0:(w4).frozen? (y_ Br)=false:=AT cr;have H4:=If an;clear an bt cr hy bk a0;gi_wp2_with fail;go_roundw
     case rel=>
      refine⟨k,ad++[(d2,nn)],r2,au,rfl,?_,?_⟩
      ·rw[bj.O,ag,bE,HP.O,<-HG.f];omega
      ·rw[HG.c];refine⟨H4.O.write HJ.a r2.f9,?_,HG.e.2.2,fun x hx=>J1.O.2.2.2.1 x (am _ hx),fun x hx=>J1.O.2.2.2.2 x (am _ hx)⟩;rw[bp];exact HG.d
     case measure=>
      rw[HL.O];have:=HK.O;have:=HU.O;have:=bj.O;simp[JP,intOf]
      omega
   ·have a5:=J1.O.2.2.1;have a3:=a5.f_ HJ.c;have a1:=fL HJ.c a5.1;have c7:((d.h:Int) !=0)=true:=by have:=a1.1;simp;omega
    have ai:CallsIn Fence.wide 5 prog 76 #[PV ps,Xu d.h] wr _:=callsIn_wide.2 (iO (HJ.f.a_ J1.O.1.bl) HJ.c.inv d.h a1.2.1);rw[a3] at ai;obtain⟨nn,ap⟩:=Ii (Tr.nd l' d m r');have b8:nn.left=l'.f9:=by rw[<-ap];rfl
    rw[ap] at ai;replace b0:wr.cell? (y_ Br)=some (Xu d.h):=b0
    have b2:(st.map topH).reverse.length<=1000:=m_
    have HG:=kq4 ai b8 a5 b2;clear a5 a3 a1 ai ap b8 b2;gi_wp2_with fail;refine HG.a.M ?_;rintro e w2 ⟨rfl,a2⟩;have ar:=J1.O.1.a_ HJ.a a2;have b':=ar.own;obtain⟨W3,bm⟩:=Ii (w2.alloc (Xb nn.key nn.val nn.left nn.right nn.mark nn.size));have bs:D_ w2 W3:=by rw[<-bm];exact(aa _ _).alloc Ih _
    have bf:W3.1[w2.1.size]?=some (Xb nn.key nn.val nn.left nn.right nn.mark nn.size):=by rw[<-bm];exact World.alloc_heap_new _ _
    have a4:=ar.a_ HJ.a bs;obtain⟨A,mm,c,rfl,A2,cv,c2,W4,cp,an,b1⟩:=a4.push HJ.a (by have:=HG.d;omega) d.h 59;have ca:=(b1 _ (gl bf) (fun e=>by have:=(b'.ge _ e).2;omega)).T bf;have cs:=a4.cs;have cr:=a4.cr;have a0:(W3).cell? (y_ Bs)=some (PV ps):=e_ cs
    have q0:(W3).cell? (y_ Br)=some (Xu d.h):=e_ cr
    have a':=an.cr;obtain⟨g0,g1,g2,g3,g4,g5⟩:=ia ca;have e0:(W4).cell? (y_ Br)=some (Xu (Tr.node l' d m r').f9):=e_ a'
    have f0:(W4).frozen? (y_ Br)=false:=AT a';have b9:cv=st.length+1:=by
     obtain⟨A',c',e⟩:=an.own.F8;cases e
     simp
    have H4:=kq2 an b9;rw[L8];clear a2 ar b' bs bf a4 an b1 ca cs cr a' c0 b0 b9;gi_wp2_with (gi_at_builtin;refine JJ _ rfl _ _ _ _ rfl _ _ rfl rfl _ _ cp ?_)
    go_roundw
    case rel=>
     refine⟨k+1,l',Tr.node l' d m r'::st,s_,by have:=a9.O;rw[ah];omega,?_⟩;rw[HG.b];refine⟨?_,by rw[restN_push];exact J1.O.2.1,HG.c.2.1,fun x hx=>?_,fun x hx=>?_⟩
     ·have:=H4.a.write HJ.a l'.f9;rw[bg,List.reverse_cons];exact this
     ·rcases aj.1 hx with rfl | hx
      ·exact J1.O.2.2.1
      ·exact J1.O.2.2.2.1 x hx
     ·rcases aj.1 hx with rfl | hx
      ·exact fun e=>Tr.noConfusion e
      ·exact J1.O.2.2.2.2 x hx
    case measure=>
     have:1<=(Tr.node l' d m r').j_.length:=by simp[j_];omega
     have:=a9.O;simp[intOf]
     omega
attribute [local go_sem] Oper.semAt_some
structure pp (w:World) (Bo D:Nat) (X:Nat->Prop) (L:List Nat) (W:World):Prop where
 lo:w.1.size<=Bo/\Bo<D/\D<=W.1.size
 bl:D_ w W
 xl:∀k,X k->w.1.size<=k/\k≠Bo/\k<W.1.size
 ex:∃A c,W.1[Bo]?=some (.cells #[.slice A L.length c] 59)/\FE W D (.slice A L.length c) L/\∀g,(Value.slice A L.length c).ownBlock=some g->¬X g
section
variable {w W W':World}{Bo D B:Nat}{X X':Nat->Prop}{L:List Nat}{row:Option Nat}
theorem pp.grown(h:pp w Bo D X L W)(hB:w.1.size<=B)(hg:W.grownBy W' row)(hr:∀r,row=some r->X r\/B<=r/\∃o:Obj,W.1[r]?=some o/\o.isCells=false)(hx:∀k,X' k->X k\/W.1.size<=k/\k<W'.1.size):pp w Bo D X' L W':=by
 obtain⟨A,c,h1,h2,h3⟩:=h.ex;have ap:=hg.size;have ar:=h.lo;have au:=h.bl.size;have an:=(gl h1);have ad:∀k cs ty fr,W.1[k]?=some (.cells cs ty fr)->¬X k->row≠some k:=fun k cs ty fr e hx e2=>by
  rcases hr k e2 with q | ⟨_,o,q,q2⟩
  ·exact hx q
  ·rw[e] at q
   cases q
   cases q2
 have ai:¬X Bo:=fun q=>(h.xl _ q).2.1 rfl;refine⟨o_,h.bl.T ⟨hg.os,hg.tape,hg.output,ap,fun k hk=>hg.block k o_ fun e=>?_⟩,fun k hk=>?_,A,c,(hg.block _ an fun e=>ad _ _ _ _ h1 ai e.S).T h1,h2.at fun g e=>hg.block g (h2.ge g e).2 fun q=>?_,fun g e q=>?_⟩
 ·rcases hr k e.S with q | ⟨q,_⟩
  ·have:=(h.xl _ q).1;omega
  ·omega
 ·rcases hx k hk with q | q
  ·have:=h.xl _ q;omega
  ·omega
 ·obtain⟨_,_,cs,fr,e3⟩:=h2.block e;exact ad _ _ _ _ e3 (h3 g e) q.S
 ·have:=(h2.ge g e).2
  rcases hx g q with q | q
  ·exact h3 g e q
  ·omega
theorem pp.own {α:Type}(f:List α->List Nat)(hB:w.1.size<=B):L3 B (fun X xs W=>pp w Bo D X (f xs) W):=fun _ _ _ _ _ _ h hg hr hx=>h.grown hB hg hr hx
theorem pp.append(h:pp w Bo D X L W)(hl:L.length<=100000)(x:Nat)(ty:TypeId)(n0:Nat)(hn:n0<=Bo):
 ∃A c,W.1[Bo]?=some (.cells #[.slice A L.length c] 59)/\∃A2 c2 W2,(Builtin.append_ #[59,59] ty #[.slice A L.length c,.slice (some (y_ W.1.size)) 1 1]).run prog (W.alloc (Xf x))=.ok (.slice A2 (L.length+1) c2) W2/\(∃v,W2.1[Bo]?=some (.cells #[v] 59))/\
  pp w Bo D X (L++[x]) (W2.setCell (y_ Bo) (.slice A2 (L.length+1) c2))/\KeepsFrom D W (W2.setCell (y_ Bo) (.slice A2 (L.length+1) c2))/\dU n0 X W (W2.setCell (y_ Bo) (.slice A2 (L.length+1) c2)):=by
 obtain⟨A,c,h1,h2,h3⟩:=h.ex;have ar:=h.lo;have a3:=(gl h1);obtain⟨v2,W2,a1,ai,ad,a2⟩:=jF h2 hl x ar.2.2 ty;obtain⟨A2,c2,rfl⟩:=ai.F8;have an:=ad.size;rw[ag,bE] at a1 ai a2;have au:∀k,k<W.1.size->(k<D\/X k)->W2.1[k]?=W.1[k]?:=fun k hk q=>ad.block k hk fun e=>by
  rcases q with q | q
  ·have:=(h2.ge k e.S).1;omega
  ·exact h3 k e.S q
 have ap:=(au Bo a3 (.inl ar.2.1)).T h1;have hs:∀k,k≠Bo->(W2.setCell (y_ Bo) (.slice A2 (L.length+1) c2)).1[k]?=W2.1[k]?:=fun k hk=>FB hk;have a0:=ai;have key:∀k,k<W.1.size->(k<D\/X k)->k≠Bo->(W2.setCell (y_ Bo) (.slice A2 (L.length+1) c2)).1[k]?=W.1[k]?:=fun k hk q q2=>(hs k q2).T (au k hk q);refine⟨A,c,h1,A2,c2,W2,a1,⟨_,ap⟩,⟨by rw[size_setCell];omega,h.bl.T ⟨ad.os,ad.tape,ad.output,by rw[size_setCell];exact an,fun k hk=>key k (by have:=h.bl.size;omega) (.inl o_) o_⟩,(fun k hk=>by have:=h.xl k hk;rw[size_setCell];omega),A2,c2,?_,?_,fun g e q=>?_⟩,⟨by rw[size_setCell];exact an,fun k o hk e hc=>?_⟩,⟨ad.os,ad.tape,ad.output,by rw[size_setCell];exact an,fun k hk=>key k (by have:=h.lo;omega) (.inl o_) o_⟩,fun k o hk e=>(key k (gl e) (.inr hk) (h.xl k hk).2.1).T e⟩
 ·rw[ag,bE];exact heap_setCell (i:=0) (v:=.slice A2 (L.length+1) c2) ap
 ·rw[ag,bE];exact a0.at fun g e=>hs g (by have:=(a0.ge g e).1;omega)
 ·rw[ag,bE] at e;rcases a2 with q2 | ⟨g',q2,hg⟩
  ·exact h3 g (q2▸e) q
  ·rw[e] at q2;cases q2
   have:=h.xl g q;omega
 ·have a4:=(gl e);refine(hs k o_).T ((ad.block k a4 fun q=>?_).T e);obtain⟨_,_,cs,fr,e3⟩:=h2.block q.S;rw[e] at e3;cases e3
  cases hc
end
theorem LU {w:World}{ps:Nat}{S:St}{o:Nat->Nat}{Y:Nat->Prop}{t:Tr}(h:Ig w ps S Y)(hf:Fw S o)(ha:Tr.At S t)(hN:t.j_.length<r_ S)(hN2:t.j_.length<=1000):
 CallsIn Fence.wide 7 prog 75 #[PV ps,Xu t.f9] w fun e w'=>∃v,e=.returned v/\FE w' (w.1.size+3) v t.hs/\D_ w w':=by
 have h1:1<=7:=o_
 have a8:Fence.wide.fn 121:=trivial;have au:∀W,CallsIn Fence.wide 6 prog 121 #[PV ps,Xu t.f9] W _:=fun W=>callsIn_wide.2 (EY ps t.f9 W);have HR:=kq5 h hf ha hN hN2;clear h hf ha hN hN2;refine callsIn_of_wp_marks func75 rfl trivial ?_ rfl;simp only[ntmps75,aT,ah,aK,Nat.reduceAdd,Nat.reduceSub,aN,aO,aX,aR,aU,aM];gi_wp2_with fail;refine(au _).M ?_;rintro e w4 ⟨rfl,rfl⟩;gi_wp2_with fail;have hb:=((c_ w (.cells #[n_] 59)).alloc s_ (Xh ps)).alloc m_ (Xf t.f9);obtain⟨W0,ad⟩:=Ii (((w.alloc (.cells #[n_] 59)).alloc (Xh ps)).alloc (Xf t.f9));have z0:W0.1.size=w.1.size+3:=by rw[<-ad];simp
 have g0:W0.1[w.1.size]?=some (.cells #[n_] 59):=by
  rw[<-ad,cE _ _ _ m_,cE _ _ _ s_];exact World.alloc_heap_new _ _
 have g1:W0.1[w.1.size+1]?=some (Xh ps):=by
  rw[<-ad,cE _ _ _ s_];have:=World.alloc_heap_new (w.alloc (.cells #[n_] 59)) (Xh ps);rw[World.size_alloc] at this;exact this
 have g2:W0.1[w.1.size+1+1]?=some (Xf t.f9):=by
  rw[<-ad];have:=World.alloc_heap_new ((w.alloc (.cells #[n_] 59)).alloc (Xh ps)) (Xf t.f9);rw[World.size_alloc,World.size_alloc] at this;exact this
 rw[ad] at hb⊢;have a4:pp w w.1.size (w.1.size+3) (fun k=>k=w.1.size+1\/k=w.1.size+1+1) [] W0:=⟨o_,hb,fun k hk=>by omega,none,0,g0,World.ownsRow_nil _ _ _ _,fun g e=>nomatch e⟩;clear ad au;refine Kb rfl h1 (gf:=161) (lb:=#[PV (w.1.size+1),PV (w.1.size+1+1)]) rfl trivial (enters_of func161 k_ rfl)
  (Ko HR.a HR.b HR.c HR.d HR.e _ _ hb o_ g1 g2) (fun k hk=>by omega) dU.T
  (fun X W l o o' h1 h2 h3 h4 h5=>⟨nN W l o o' o_ h3 h4 h5,fun k o2 hx e=>(World.putObj_heap_other (by intro q;subst q;exact h2 hx)).T e⟩) (aa _ _) (fun _=>rfl)
  (fun X ai W=>pp w w.1.size (w.1.size+3) X (ai.map (·.1.h)) W)
  (pp.own (B:=W0.1.size) (fun l:List (It×Nd)=>l.map (·.1.h)) o_)
  a4
  (fun x a' _=>a'= { tmps:=#[PV ps,Xu t.f9,undef,undef,n_,PV w.1.size,Xu x.1.h,PV ps,Xu t.f9,.func (.func 161) #[] #[PV (w.1.size+1),PV (w.1.size+1+1)],Xu x.1.h,eS x.2,undef,undef,undef,undef,undef],defers:=[] })
  (fun x a' _ X W' row hs hg hr=>hs)
  ?assign ?body ?done
 case assign=>
  rintro l X ai x W K hI hK;have HK:=If hK;clear hK;simp only[wa]
  gi_wp2
  exact HK.O _ _ (KeepsFrom.refl _ _) (dU.refl _ _ _) hI rfl
 case body=>
  rintro l X ai x a' W a9 ba hI rfl ⟨r,a3⟩;have a2:(ai.map (·.1.h)).length<=100000:=by
   have:=congrArg List.length a3;have:=HR.e
   simp at*
   omega
  obtain⟨A,c,an,A2,c2,W2,a7,⟨v2,ap⟩,ar,a0,a1⟩:=hI.append a2 x.1.h 59 w.1.size Ih;generalize (ai.map (·.1.h)).length=n at*;have c0:(W).cell? (y_ w.1.size)=some (.slice A n c):=e_ an
  have d0:(W2).cell? (y_ w.1.size)=some (v2):=e_ ap
  have f0:(W2).frozen? (y_ w.1.size)=false:=AT ap;have HI:=kq3 ar a0 a1;clear hI ar a0 a1 an ap a3 a2
  gi_wp2_with (gi_at_builtin;refine JJ _ rfl _ _ _ _ rfl _ _ rfl rfl _ _ a7 ?_)
  refine⟨by rw[z0];exact HI.b,HI.c,?_⟩
  show pp w w.1.size (w.1.size+3) X ((ai++[x]).map (·.1.h)) _
  rw[aQ];exact HI.a
 case done=>
  rintro D X xs W hD rfl hI hK;obtain⟨A,c,an,ho,_⟩:=hI.ex;have HI:=kq2 ho hI.bl;generalize (t.j_.map (·.1.h)).length=n at*;have c0:(W).cell? (y_ w.1.size)=some (.slice A n c):=e_ an
  clear hI an ho
  gi_wp2
  refine⟨s_,.inl ⟨_,_,rfl,run_takeDeferred hK,?_⟩⟩;obtain⟨ho,a5⟩:=HI.O;have a6:∀g,(Value.slice A n c).ownBlock=some g->g≠D:=fun g e q=>by
   subst q;obtain⟨_,_,cs,fr,e3⟩:=ho.block e;rw[hK] at e3
   cases e3
  refine⟨.slice A n c,by simp[results,f75,go_sem],_,rfl,?_,a5.T (nN W D _ _ o_ hK rfl rfl)⟩;rw[<-nodes_h];exact ho.at fun g e=>World.putObj_heap_other (a6 g e)
theorem KO {w:World}{ps:Nat}{S:St}{o:Nat->Nat}{Y:Nat->Prop}{t:Tr}(h:Ig w ps S Y)(hf:Fw S o)(ha:Tr.At S t)(hN:t.j_.length<r_ S)(hN2:t.j_.length<=1000):
 Ct 75 #[PV ps,Xu t.f9] w fun e w'=>∃v,e=.returned v/\FE w' (w.1.size+3) v t.hs/\D_ w w':=callsIn_wide.1 (LU h hf ha hN hN2)
theorem Hb {w:World}{ps:Nat}{S:St}{o:Nat->Nat}{Y:Nat->Prop}(h:Ig w ps S Y)(hf:Fw S o){hh:Nat}{n:Nd}(hn:l_ S hh=some (eM n)):
 Cb 76 #[PV ps,Xu hh] w (.tuple #[eS n,Xi 0]):=by
 have:=iO h hf.inv hh (fL hf hn).2.1;rw[gw hf hn] at this;exact this
theorem Ki {w:World}{ps:Nat}{S:St}{o:Nat->Nat}{Y:Nat->Prop}(h:Ig w ps S Y)(hf:Fw S o){hh:Nat}{t:List UInt8}(ht:t.length<=1000)(hn:l_ S hh=some (FK t)):
 Cb 51 #[PV ps,Xu hh] w (.tuple #[SV t,Xi 0]):=by
 have e:=jt hf ht hn;have:=iz h hf.inv hh (fL hf hn).2.1 (by rw[e];exact(by decide:(0:Nat)≠8));rw[e] at this;exact this
theorem LV {w:World}{ps:Nat}{S:St}{o:Nat->Nat}{Y:Nat->Prop}(h:Ig w ps S Y)(hf:Fw S o){hh:Nat}{n:Nd}(hn:l_ S hh=some (eM n)){k v:List UInt8}(lk:k.length<=1000)(lv:v.length<=1000)(hk:l_ S n.key=some (FK k))(hv:l_ S n.val=some (FK v)):
 Cb 192 #[PV ps,Xu hh] w (.tuple #[eu (k,v),Xi 0]):=by
 have hg:=fun W (hW:D_ w W)=>Hb (h.a_ hW) hf hn;have ai:=fun W (hW:D_ w W)=>Ki (h.a_ hW) hf lk hk;have an:=fun W (hW:D_ w W)=>Ki (h.a_ hW) hf lv hv;have ad:D_ w (w.alloc (.cells #[.string ⟨#[]⟩,.string ⟨#[]⟩] 40)):=(aa _ _).alloc Ih _;have hs:(w.alloc (.cells #[.string ⟨#[]⟩,.string ⟨#[]⟩] 40)).1[w.1.size]?=some (.cells #[.string ⟨#[]⟩,.string ⟨#[]⟩] 40):=World.alloc_heap_new _ _;have HG:=kq5 hg ai an ad hs;unfold eS at HG;clear hg ai an ad h hf hn lk lv hk hv hs;go_enter func192,ntmps192;go_wp2_with fail;refine e9 (HG.a _ HG.d) fun w1 hb1=>?_;have A1:=b_ HG.d hb1;have N1:=c_ w1 (Xb n.key n.val n.left n.right n.mark n.size);have q1:(w1.alloc (Xb n.key n.val n.left n.right n.mark n.size)).1[w1.1.size]?=some (Xb n.key n.val n.left n.right n.mark n.size):=World.alloc_heap_new _ _;have A2:=b_ A1 N1;have z0:=(gl HG.e);have s1:=hb1.size;have p2:=(N1.block _ o_).T ((hb1.block _ z0).T HG.e);have H1:=kq3 A2 q1 p2;clear A1 N1 q1 A2 p2 hb1 z0 s1;go_wp2_with fail;refine e9 (HG.b _ H1.a) fun w3 hb3=>?_;have A3:=b_ H1.a hb3;have q3:=(hb3.block _ (gl H1.b)).T H1.b;have p3:=(hb3.block _ (gl H1.c)).T H1.c;obtain⟨c0,c1,c2,c3,c4,c5⟩:=ia q3;have H3:=kq2 A3 p3;clear hb3 A3 q3 p3 H1;go_wp2_with fail;refine e9 (HG.c _ H3.a) fun w4 hb4=>?_;have p4:=(hb4.block _ (gl H3.b)).T H3.b;have q5:=ew p4 (SV k) (SV v);have B5:=eT (b_ H3.a hb4) Ih (SV k) (SV v);obtain⟨d0,d1⟩:=Fp p4;obtain⟨f0,f1⟩:=ef p4;have HB:=kq2 q5 B5;clear hb4 p4 H3 c0 c1 c2 c3 c4 c5 q5 B5;go_wp2_with fail;obtain⟨q5,B5⟩:=HB.O;generalize ((w4.setCell (y_ w.1.size) (SV k)).setCell (x_ w.1.size 1) (SV v))=wF at*;obtain⟨e0,e1⟩:=Fp q5;exact bodyPost_ret (v:=.tuple #[.agg #[SV k,SV v],Xi 0]) (by simp[results,f192,go_sem,e0,e1]) rfl ⟨rfl,B5⟩
def mt(L R:Nat):Nat->Nat
 | 0=>1
 | 1=>1+L
 | _=>1+L+R
theorem Tr.side {S:St}:∀{t:Tr},Tr.At S t->(t.f9=0/\t.its.length=0)\/∃n,l_ S t.f9=some (eM n)/\n.size=t.its.length
 | .nil,_=> .inl ⟨rfl,rfl⟩
 | .node _ _ _ _,h=> .inr ⟨_,h.1,rfl⟩
theorem Lr(a b:Value)(w:World):(Instr.index 322 (.agg #[a,b]) (Xi 0)).run prog w=.ok a w:=k_
theorem Ls(a b:Value)(w:World):(Instr.index 322 (.agg #[a,b]) (Xi 1)).run prog w=.ok b w:=k_
theorem LT {w:World}{ps:Nat}{S:St}{o:Nat->Nat}{Y:Nat->Prop}(h:Ig w ps S Y)(hf:Fw S o){l:Tr}{d:It}{m:Nat}{r:Tr}(hl:Tr.At S l)(hr:Tr.At S r)(hc:l.its.length+r.its.length<1000):
 Cb 193 #[PV ps,eS (nd l d m r)] w (.bool true):=by
 have hz:(Tr.node l d m r).its.length=1+l.its.length+r.its.length:=by
  show (l.its++d::r.its).length=_
  rw[ag,ah];omega
 have sl:=Tr.side hl;have sr:=Tr.side hr;have hg:=fun W (hW:D_ w W) (hh:Nat) (n:Nd) (hn:l_ S hh=some (eM n))=>Hb (h.a_ hW) hf hn;have au:=fun(hh:Nat) (n:Nd) (hn:l_ S hh=some (eM n))=>(fL hf hn).1;unfold nd eS;obtain⟨z,a1⟩:=Ii (Tr.node l d m r).its.length;rw[a1] at hz⊢;clear a1;generalize l.its.length=L at*;generalize r.its.length=R at*;generalize l.f9=rl at*;generalize r.f9=rr at*;have ar:D_ w (w.alloc (Xb d.kh d.vh rl rr m (z:Nat))):=(aa _ _).alloc Ih _;have q0:(w.alloc (Xb d.kh d.vh rl rr m (z:Nat))).1[w.1.size]?=some (Xb d.kh d.vh rl rr m (z:Nat)):=World.alloc_heap_new _ _;unfold eS at hg;have HG:=kq6 hg au ar q0 sl sr;have a0:mt L R 2=z:=by rw[hz];rfl
 have HZ:=If a0;clear hg au ar q0 sl sr h hf hl hr hz a0;have a2:=Lr (Xu rl) (Xu rr);have a3:=Ls (Xu rl) (Xu rr);go_enter func193,ntmps193;go_wp2_with fail
 go_loopw [4,5,7,8,9,15] (fun _ s5 _ _ _ s15 wr=>∃j:Nat,j<=2/\s15=Xi j/\s5=Xu (mt L R j:Nat)/\Hid (D_ w wr/\wr.1[w.1.size]?=some (Xb d.kh d.vh rl rr m (z:Nat)))) (fun _ _ _ _ _ s15 _=>2-(intOf s15).toNat)
 case atStart=>exact⟨0,o_,rfl,rfl,HG.c,HG.d⟩
 case round=>
  obtain⟨j,hj,rfl,rfl,J0⟩:=hrel
  rcases(show j=0\/j=1\/j=2 by omega) with rfl | rfl | rfl
  ·rcases HG.e with⟨e0,e1⟩ | ⟨n,e0,e1⟩
   ·have ap:((rl:Int)==0)=true:=by rw[e0];rfl
    have hs:mt L R 1=mt L R 0:=by rw[e1];rfl
    have HE:=If hs;clear e0 e1 hs;generalize mt L R 0=s0 at*;obtain⟨s1,ad⟩:=Ii (mt L R 1);have ai:=If ad;clear ad;go_wp2_with fail;go_roundw
    case rel=>exact⟨1,o_,rfl,by rw[<-HE.O],J0.O⟩
    case measure=>simp[intOf]
   ·have ap:((rl:Int)==0)=false:=by have:=HG.b _ _ e0;simp;omega
    have an:=HG.a wr J0.O.1 rl n e0;have hw:IntKind.u64.wrap (((mt L R 0:Nat):Int)+n.size)=((mt L R 1:Nat):Int):=by
     rw[e1];simp only[mt];rw[bO _ o_];omega
    have HE:=kq3 e0 e1 an;clear e0 e1 an;generalize mt L R 0=s0 at*;obtain⟨s1,ad⟩:=Ii (mt L R 1);rw[ad] at hw;have ai:=If ad;clear ad;go_wp2_with fail;refine e9 HE.c fun w1 hb1=>?_;have q1:=(hb1.block _ (gl J0.O.2)).T J0.O.2;have A1:=b_ J0.O.1 hb1;have N1:=c_ w1 (Xb n.key n.val n.left n.right n.mark n.size);have H1:=kq2 (b_ A1 N1) ((N1.block _ (gl q1)).T q1);clear hb1 q1 A1 N1;go_wp2_with fail;go_roundw
    case rel=>
     exact⟨1,o_,rfl,by rw[ai.O],H1.O⟩
    case measure=>simp[intOf]
  ·rcases HG.f with⟨e0,e1⟩ | ⟨n,e0,e1⟩
   ·have ap:((rr:Int)==0)=true:=by rw[e0];rfl
    have hs:mt L R 2=mt L R 1:=by rw[e1];rfl
    have HE:=If hs;clear e0 e1 hs;generalize mt L R 1=s0 at*;obtain⟨s1,ad⟩:=Ii (mt L R 2);have ai:=If ad;clear ad;go_wp2_with fail;go_roundw
    case rel=>exact⟨2,o_,rfl,by rw[<-HE.O],J0.O⟩
    case measure=>simp[intOf]
   ·have ap:((rr:Int)==0)=false:=by have:=HG.b _ _ e0;simp;omega
    have an:=HG.a wr J0.O.1 rr n e0;have hw:IntKind.u64.wrap (((mt L R 1:Nat):Int)+n.size)=((mt L R 2:Nat):Int):=by
     rw[e1];simp only[mt];rw[bO _ o_];omega
    have HE:=kq3 e0 e1 an;clear e0 e1 an;generalize mt L R 1=s0 at*;obtain⟨s1,ad⟩:=Ii (mt L R 2);rw[ad] at hw;have ai:=If ad;clear ad;go_wp2_with fail;refine e9 HE.c fun w1 hb1=>?_;have q1:=(hb1.block _ (gl J0.O.2)).T J0.O.2;have A1:=b_ J0.O.1 hb1;have N1:=c_ w1 (Xb n.key n.val n.left n.right n.mark n.size);have H1:=kq2 (b_ A1 N1) ((N1.block _ (gl q1)).T q1);clear hb1 q1 A1 N1;go_wp2_with fail;go_roundw
    case rel=>exact⟨2,o_,rfl,by rw[ai.O],H1.O⟩
    case measure=>simp[intOf]
  ·have q:=J0.O.2;obtain⟨c0,c1,c2,c3,c4,c5⟩:=ia q;clear q;rw[HZ.O];go_wp2_with fail;go_ret;exact⟨rfl,J0.O.1⟩
theorem Kg {w:World}{B:Nat}{v:Value}{l xs:List Nat}(h:FE w B v l)(hl:l.length+xs.length<=100000)(ad:Addr)(c:Nat)(hc:∀j u,(hV xs)[j]?=some u->w.cell? (ad.add j)=some u)(hB:B<=w.1.size)(ty:TypeId):
 ∃v' w',(Builtin.append_ #[59,59] ty #[v,.slice (some ad) xs.length c]).run prog w=.ok v' w'/\FE w' B v' (l++xs)/\w.grownBy w' v.ownBlock/\(v'.ownBlock=v.ownBlock\/∃g,v'.ownBlock=some g/\w.1.size<=g):=by
 obtain⟨i,hi,ai,an,ap⟩:=info_parts uP;obtain⟨v',w',h1,h2,h3,_,h4⟩:=run_append_own_at (P:=prog) (w:=w) B 59 ty 61 i (Xu 0) 1 8 underlying59 hi ai an ap rfl d_ v l.length (hV l) h ad xs.length c (hV xs) (by simp[hV]) hc (fun u hu=>by obtain⟨x,_,rfl⟩:=az.1 hu;rfl) (by unfold maxLen;omega) o_ hB;refine⟨v',w',h1,?_,h3,?_⟩
 ·have e:hV (l++xs)=hV l++hV xs:=by simp[hV]
  unfold FE;rw[e,ag];exact h2
 grind
theorem KV {w:World}{B:Nat}{v:Value}{l:List Nat}(h:FE w B v l)(hl:l.length<=90000)(x y:Nat)(hB:B<=w.1.size)(ty:TypeId):
 ∃v' w',(Builtin.append_ #[59,59] ty #[v,.slice (some (y_ w.1.size)) 2 2]).run prog (w.alloc (.cells #[Xu x,Xu y] 61))=.ok v' w'/\FE w' B v' (l++[x,y])/\w.grownBy w' v.ownBlock/\(v'.ownBlock=v.ownBlock\/∃g,v'.ownBlock=some g/\w.1.size<=g):=by
 obtain⟨v',w',h1,h2,h3,h4⟩:=Kg (xs:=[x,y]) (w:=w.alloc (.cells #[Xu x,Xu y] 61)) (h.alloc _) (by grind) (y_ w.1.size) 2 (fun j u hu=>by
  rw[Addr.add_lit,bD,t_ (World.alloc_heap_new w (.cells #[Xu x,Xu y] 61))]
  grind [hV]) m_ ty
 exact⟨v',w',h1,h2,(World.grownBy_alloc w _ _).T h3,h4.imp id fun⟨g,e,hg⟩=>⟨g,e,by simp at hg;omega⟩⟩
def Kx(D b:Nat)(X:Nat->Prop)(W W':World):Prop:=KeepsFrom D W W'/\dU b X W W'
theorem Kx.T {D b:Nat}{X:Nat->Prop}{A B C:World}(h:Kx D b X A B)(k:Kx D b X B C):Kx D b X A C:=⟨⟨aI h.1.size k.1.size,fun i o h1 h2 h3=>k.1.same i o h1 (h.1.same i o h1 h2 h3) h3⟩,h.2.T k.2⟩
structure dT (w:World) (ps mb Bm Bd Bl Bf D:Nat) (X:Nat->Prop) (ks sd:List Nat) (lk:List UInt8) (fb:Bool) (W:World):Prop where
 lo:w.1.size+1<mb/\mb<Bm/\Bm<Bd/\Bd<Bl/\Bl<Bf/\Bf<D/\D<=W.1.size
 bl:D_ w W
 cs:W.1[w.1.size]?=some (Xh ps)
 ce:W.1[w.1.size+1]?=some (.cells #[Xi 0] 27)
 cm:W.1[Bm]?=some (.cells #[.map (some mb)] 123)
 cd:∃A c,W.1[Bd]?=some (.cells #[.slice A sd.length c] 59)/\FE W w.1.size (.slice A sd.length c) sd/\∀g,(Value.slice A sd.length c).ownBlock=some g->¬X g
 cl:W.1[Bl]?=some (.cells #[SV lk] 9)
 cf:W.1[Bf]?=some (.cells #[.bool fb] 4)
 mp:dS W mb ks
 xl:∀k,X k->w.1.size<=k/\k<W.1.size/\k≠w.1.size/\k≠w.1.size+1/\k≠mb/\k≠Bm/\k≠Bd/\k≠Bl/\k≠Bf
section
variable {w W W':World}{ps mb Bm Bd Bl Bf D B:Nat}{X X':Nat->Prop}{ks sd:List Nat}{lk:List UInt8}{fb:Bool}{row:Option Nat}
theorem dT.grown(h:dT w ps mb Bm Bd Bl Bf D X ks sd lk fb W)(hB:D<=B)(hg:W.grownBy W' row)(hr:∀r,row=some r->X r\/B<=r/\∃o:Obj,W.1[r]?=some o/\o.isCells=false)(hx:∀k,X' k->X k\/W.1.size<=k/\k<W'.1.size):dT w ps mb Bm Bd Bl Bf D X' ks sd lk fb W':=by
 obtain⟨A,c,d1,d2,d3⟩:=h.cd;have ad:=hg.size;have ai:=h.lo;have ne:∀k,k<D->¬X k->row≠some k:=fun k hk hx e=>by
  grind
 have kp:∀{k o},W.1[k]?=some o->k<D->¬X k->W'.1[k]?=some o:=fun e hk hx=>(hg.block _ (gl e) fun q=>ne _ hk hx q.S).T e;have nx:∀{k:Nat},k=w.1.size\/k=w.1.size+1\/k=mb\/k=Bm\/k=Bd\/k=Bl\/k=Bf->¬X k:=fun q hx=>by have:=h.xl _ hx;omega
 refine⟨o_,h.bl.T ⟨hg.os,hg.tape,hg.output,ad,fun k hk=>hg.block k o_ fun e=>?_⟩,kp h.cs o_ (nx o_),kp h.ce o_ (nx o_),kp h.cm o_ (nx o_),⟨A,c,kp d1 o_ (nx o_),d2.at fun g e=>hg.block g (d2.ge g e).2 fun q=>?_,fun g e q=>?_⟩,kp h.cl o_ (nx o_),kp h.cf o_ (nx o_),h.mp.kept (hg.block _ h.mp.lt fun q=>ne mb o_ (nx o_) q.S),fun k hk=>?_⟩
 ·rcases hr k e.S with q | ⟨q,_⟩
  ·have:=h.xl _ q;omega
  omega
 ·obtain⟨_,_,cs,fr,e3⟩:=d2.block e
  rcases hr g q.S with q | ⟨_,o,q,q2⟩
  ·grind
  ·rw[e3] at q
   cases q
   cases q2
 ·have:=(d2.ge g e).2
  grind
 ·rcases hx k hk with q | q
  ·have:=h.xl _ q;omega
  omega
theorem dT.a_(h:dT w ps mb Bm Bd Bl Bf D X ks sd lk fb W)(hb:D_ W W'):dT w ps mb Bm Bd Bl Bf D X ks sd lk fb W'/\Kx D w.1.size X W W':=by
 have lt:∀{k o},W.1[k]?=some o->W'.1[k]?=some o:=fun e=>(hb.block _ (gl e)).T e;exact⟨h.grown (B:=D) Ih (lf hb) (fun r e=>by cases e) (fun k hk=> .inl hk),⟨hb.size,fun k o _ e _=>lt e⟩,⟨hb.M h.bl.size,fun k o _ e=>lt e⟩⟩
theorem dT.one {r:Nat}(h:dT w ps mb Bm Bd Bl Bf D X ks sd lk fb W)(hr:r=mb\/r=Bl\/r=Bf)(hg:W.grownBy W' (some r)){ks':List Nat}{lk':List UInt8}{fb':Bool}
 (cl:W'.1[Bl]?=some (.cells #[SV lk'] 9)) (cf:W'.1[Bf]?=some (.cells #[.bool fb'] 4)) (mp:dS W' mb ks'):dT w ps mb Bm Bd Bl Bf D X ks' sd lk' fb' W'/\Kx D w.1.size X W W':=by
 obtain⟨A,c,d1,d2,d3⟩:=h.cd;have ad:=hg.size;have an:=h.lo;have ai:∀g,(Value.slice A sd.length c).ownBlock=some g->g≠r:=fun g e q=>by
  subst q;obtain⟨_,_,cs,fr,e3⟩:=d2.block e;rcases hr with rfl | rfl | rfl
  ·obtain⟨es,cc,e4⟩:=h.mp.obj;grind
  ·have e4:=h.cl;grind
  ·have e4:=h.cf;grind
 have kp:∀{k o},W.1[k]?=some o->k≠r->W'.1[k]?=some o:=fun e hk=>(hg.block _ (gl e) fun q=>hk (Option.some.inj q)).T e;refine⟨⟨o_,h.bl.T ⟨hg.os,hg.tape,hg.output,ad,fun k hk=>hg.block k o_ fun q=>by grind⟩,kp h.cs o_,kp h.ce o_,kp h.cm o_,⟨A,c,kp d1 o_,d2.at fun g e=>hg.block g (d2.ge g e).2 fun q=>ai g e (Option.some.inj q),d3⟩,cl,cf,mp,fun k hk=>by have:=h.xl k hk;omega⟩,⟨ad,fun k o hk e _=>kp e o_⟩,⟨hg.os,hg.tape,hg.output,ad,fun k hk=>hg.block k o_ fun q=>by grind⟩,fun k o hx e=>kp e fun q=>by have:=h.xl k hx;omega⟩
theorem dT.seen(h:dT w ps mb Bm Bd Bl Bf D X ks sd lk fb W){x:Nat}(hx:x<2^64)(hn:x∉ks)(hl:ks.length<100000):
 (Instr.lookup 123 (.map (some mb)) (Xu x) false).run prog W=.ok (Xi 0) W/\∃W',(Instr.mapUpdate 123 (.map (some mb)) (Xu x) (Xi 1)).run prog W=.ok () W'/\
  (Instr.lookup 123 (.map (some mb)) (Xu x) false).run prog W'=.ok (Xi 1) W'/\W.grownBy W' (some mb)/\dT w ps mb Bm Bd Bl Bf D X (ks++[x]) sd lk fb W'/\Kx D w.1.size X W W':=by
 have hc:ks.count x=0:=List.count_eq_zero.2 hn;have h0:=h.mp.look x hx;obtain⟨W',hr,hm,hg⟩:=h.mp.store x hx hl;have h2:=hm.look x hx;have ad:(ks++[x]).count x=1:=by rw[List.count_append,hc];simp
 have ai:=h.lo;have kp:∀{k o},W.1[k]?=some o->k≠mb->W'.1[k]?=some o:=fun e hk=>(hg.block _ (gl e) fun q=>hk (Option.some.inj q)).T e;obtain⟨r1,r2⟩:=h.one (.inl rfl) hg (kp h.cl o_) (kp h.cf o_) hm;grind
theorem dT.last(h:dT w ps mb Bm Bd Bl Bf D X ks sd lk fb W)(k:List UInt8):dT w ps mb Bm Bd Bl Bf D X ks sd k fb (W.setCell (y_ Bl) (SV k))/\Kx D w.1.size X W (W.setCell (y_ Bl) (SV k)):=by
 have ad:=h.lo;exact h.one (.inr (.inl rfl)) (grownBy_setCell' W Bl _) (heap_setCell (i:=0) (v:=SV k) h.cl) ((FB o_).T h.cf) (h.mp.kept (FB o_))
theorem dT.first(h:dT w ps mb Bm Bd Bl Bf D X ks sd lk fb W)(b:Bool):dT w ps mb Bm Bd Bl Bf D X ks sd lk b (W.setCell (y_ Bf) (.bool b))/\Kx D w.1.size X W (W.setCell (y_ Bf) (.bool b)):=by
 have ad:=h.lo;exact h.one (.inr (.inr rfl)) (grownBy_setCell' W Bf _) ((FB o_).T h.cl) (heap_setCell (i:=0) (v:=.bool b) h.cf) (h.mp.kept (FB o_))
theorem dT.side(h:dT w ps mb Bm Bd Bl Bf D X ks sd lk fb W)(hl:sd.length<=10000)(x y:Nat)(ty:TypeId):
 ∃A c,W.1[Bd]?=some (.cells #[.slice A sd.length c] 59)/\∃A2 c2 W2,(Builtin.append_ #[59,59] ty #[.slice A sd.length c,.slice (some (y_ W.1.size)) 2 2]).run prog (W.alloc (.cells #[Xu x,Xu y] 61))=.ok (.slice A2 (sd.length+2) c2) W2/\(∃v,W2.1[Bd]?=some (.cells #[v] 59))/\
  dT w ps mb Bm Bd Bl Bf D X ks (sd++[x,y]) lk fb (W2.setCell (y_ Bd) (.slice A2 (sd.length+2) c2))/\Kx D w.1.size X W (W2.setCell (y_ Bd) (.slice A2 (sd.length+2) c2)):=by
 obtain⟨A,c,d1,d2,d3⟩:=h.cd;have a3:=h.lo;obtain⟨v2,W2,a0,au,ad,a1⟩:=KV d2 o_ x y h.bl.size ty;obtain⟨A2,c2,rfl⟩:=au.F8;have a4:=ad.size;have el:(sd++[x,y]).length=sd.length+2:=s_
 rw[el] at a0;have ai:∀g cs ty fr,W.1[g]?=some (.cells cs ty fr)->ty≠61->(Value.slice A sd.length c).ownBlock≠some g:=fun g cs ty fr e q q2=>by
  obtain⟨_,_,ap,ar,e3⟩:=d2.block q2;grind
 have kp:∀{k o},W.1[k]?=some o->(Value.slice A sd.length c).ownBlock≠some k->W2.1[k]?=some o:=fun e q=>(ad.block _ (gl e) fun q2=>q q2.S).T e;have k1:=kp d1 (ai _ _ _ _ d1 d_);have hs:∀k,k≠Bd->(W2.setCell (y_ Bd) (.slice A2 (sd.length+2) c2)).1[k]?=W2.1[k]?:=fun k hk=>FB hk;have kq:∀{k o},W.1[k]?=some o->(Value.slice A sd.length c).ownBlock≠some k->k≠Bd->(W2.setCell (y_ Bd) (.slice A2 (sd.length+2) c2)).1[k]?=some o:=fun e q q2=>(hs _ q2).T (kp e q);have lb:∀k,k<w.1.size->(Value.slice A sd.length c).ownBlock≠some k:=fun k hk e=>by have:=(d2.ge k e).1;omega
 have hm:(Value.slice A sd.length c).ownBlock≠some mb:=fun e=>by
  obtain⟨_,_,ap,ar,e3⟩:=d2.block e;obtain⟨es,cc,e4⟩:=h.mp.obj;grind
 have an:∀k,k<w.1.size->(W2.setCell (y_ Bd) (.slice A2 (sd.length+2) c2)).1[k]?=W.1[k]?:=fun k hk=>(hs k o_).T (ad.block k o_ fun e=>lb k hk e.S);refine⟨A,c,d1,A2,c2,W2,a0,⟨_,k1⟩,⟨by rw[size_setCell];omega,h.bl.T ⟨ad.os,ad.tape,ad.output,by simp_all,an⟩,kq h.cs (ai _ _ _ _ h.cs d_) o_,kq h.ce (ai _ _ _ _ h.ce d_) o_,kq h.cm (ai _ _ _ _ h.cm d_) o_,⟨A2,c2,?_,?_,fun g e q=>?_⟩,kq h.cl (ai _ _ _ _ h.cl d_) o_,kq h.cf (ai _ _ _ _ h.cf d_) o_,?_,fun k hk=>?_⟩,⟨by simp_all,fun k o hk e hc=>kq e (fun q=>?_) o_⟩,⟨ad.os,ad.tape,ad.output,by simp_all,an⟩,fun k o hx e=>kq e (fun q=>d3 k q hx) fun q=>by have:=h.xl k hx;omega⟩
 ·rw[el];exact heap_setCell (i:=0) (v:=.slice A2 (sd.length+2) c2) k1
 ·exact au.at fun g e=>hs g fun q=>by
   grind
 ·rcases a1 with q2 | ⟨g',q2,a2⟩
  ·grind
  ·rw[q2] at e;cases e
   have:=h.xl g q;omega
 ·obtain⟨es,cc,e4⟩:=h.mp.obj;exact h.mp.kept ((kq e4 hm o_).T e4.S)
 ·rw[size_setCell];have:=h.xl k hk;omega
 ·obtain⟨_,_,ap,ar,e3⟩:=d2.block q;rw[e] at e3;cases e3
  cases hc
end
theorem M5:(prog.info? 104).map (fun i=>(i.zero,i.size,i.bytes))=some (some (.agg #[Xu 0,Xu 0]),2,16):=k_
def wz(l:List It):List Value:=l.flatMap fun d=>[Xu d.kh,Xu d.vh]
abbrev qj(w:World)(B:Nat)(v:Value)(l:List It):Prop:=w.ownsRow B 104 2 v l.length (wz l)
theorem M6(l:List It)(d:It):wz (l++[d])=wz l++[Xu d.kh,Xu d.vh]:=by simp[wz]
theorem Ms:∀(l:List It) (i:Nat) (h:i<l.length),(wz l)[i*2]?=some (Xu l[i].kh)/\(wz l)[i*2+1]?=some (Xu l[i].vh)
 | d::l,0,_=>⟨rfl,rfl⟩
 | d::l,i+1,h=>by
  obtain⟨h1,h2⟩:=Ms l i (by simpa using h);have e:wz (d::l)=Xu d.kh::Xu d.vh::wz l:=by simp[wz]
  rw[e,show (i+1)*2=i*2+1+1 by omega,bC,bC,show i*2+1+1+1=i*2+1+1+1 from rfl,bC,bC];exact⟨h1,h2⟩
theorem qj.slice {w:World}{B:Nat}{v:Value}{l:List It}(h:qj w B v l):∃A c,v=.slice A l.length c:=by
 rcases h.2 with⟨e,e0⟩ | ⟨g,c,ad,e,_⟩
 ·refine⟨none,0,?_⟩
  cases l with
  | nil=>exact e
  | cons d l=>simp at e0
 ·exact⟨_,c,e⟩
theorem qj.cell_at {w:World}{D:Nat}{v:Value}{l:List It}(h:qj w D v l){j:Nat}(hj:j<l.length):∃b c,v=.slice (some (y_ b)) l.length c/\D<=b/\w.cell? ⟨b,j*2,none⟩=some (Xu l[j].kh)/\w.cell? ⟨b,j*2+1,none⟩=some (Xu l[j].vh):=by
 obtain⟨i1,i2⟩:=Ms l j hj
 rcases id h.2 with⟨_,e0⟩ | ⟨b,c,ad,e,hb,_⟩
 ·omega
 ·have e1:=World.ownsRow.cells h (g:=b) (by rw[e];rfl) (j*2) _ i1;have e2:=World.ownsRow.cells h (g:=b) (by rw[e];rfl) (j*2+1) _ i2;rw[Addr.add_lit,bD] at e1 e2;exact⟨b,c,e,hb,e1,e2⟩
theorem BY {w w':World}{B:Nat}{e:TypeId}{size:Nat}{v:Value}{n:Nat}{xs:List Value}(h:w.ownsRow B e size v n xs)(hb:D_ w w'):w'.ownsRow B e size v n xs:=
 h.kept (lf hb) (Classical.em _)
theorem MH(W:World)(u v:Value)(t:TypeId):∀(j:Nat) (x:Value),[u,v][j]?=some x->(W.alloc (.cells #[u,v] t)).cell? (((y_ W.1.size):Addr).add j)=some x:=fun j x hx=>by
 rw[Addr.add_lit,bD,t_ (heap_alloc_new W _),<-hx];simp
theorem Mk {w:World}{B:Nat}{v:Value}{l:List It}(h:qj w B v l)(hl:l.length<=10000)(d:It)(hB:B<=w.1.size)(ty:TypeId):
 ∃v' w',(Builtin.append_ #[135,135] ty #[v,.slice (some (y_ w.1.size)) 1 1]).run prog (w.alloc (Xe d.kh d.vh))=.ok v' w'/\qj w' B v' (l++[d])/\w.grownBy w' v.ownBlock/\(v'.ownBlock=v.ownBlock\/∃g,v'.ownBlock=some g/\w.1.size<=g):=by
 obtain⟨i,hi,ad,ai,an⟩:=info_parts M5;obtain⟨v',w',h1,h2,h3,_,h4⟩:=run_append_own_at (P:=prog) (w:=w.alloc (Xe d.kh d.vh)) B 135 ty 104 i (.agg #[Xu 0,Xu 0]) 2 16 underlying135 hi ad ai an rfl d_ v l.length (wz l) (h.alloc _) (y_ w.1.size) 1 1 [Xu d.kh,Xu d.vh] rfl (MH _ _ _ _) (fun u hu=>by
  rcases aj.1 hu with rfl | hu
  ·rfl
  ·rcases aj.1 hu with rfl | hu
   ·rfl
   ·cases hu) (by unfold maxLen;omega) o_ m_
 refine⟨v',w',h1,by unfold qj;rw[M6,ag];exact h2,(World.grownBy_alloc w _ _).T h3,?_⟩
 rcases h4 with h4 | h4
 ·exact ab h4
 ·exact ae ⟨_,h4,s_⟩
theorem FE.cell_at {w:World}{D:Nat}{v:Value}{l:List Nat}(h:FE w D v l){j:Nat}(hj:j<l.length):∃b c,v=.slice (some (y_ b)) l.length c/\D<=b/\w.cell? (x_ b j)=some (Xu (l[j]:Nat)):=by
 rcases id h.2 with⟨_,e0⟩ | ⟨b,c,ad,e,_⟩
 ·rw[e0] at hj
  simp at hj
 ·have e2:=World.ownsRow.cells h (g:=b) (by rw[e];rfl) j (Xu (l[j]:Nat)) (by simp[hV,hj]);rw[Addr.add_lit,bD] at e2;exact⟨b,c,e,(h.ge b (by rw[e];rfl)).1,e2⟩
theorem Ha {w w':World}{b o:Nat}(h:w'.1[b]?=w.1[b]?):w'.cell? (x_ b o)=w.cell? (x_ b o):=by simp only[World.cell?,h]
end
section
open Go.RowKit Tryz Go.BigFrame Go.Maps Go.WideMaps Lf
variable{S:St}{Y:Nat->Prop}{h_:Nat}{ps:Nat}{w:World}
theorem ET(h:Ig w ps S Y)(hi:Fv S){j c:FuncId}{jn:Jn}(hk:jD h_ j c jn)(t:Int):
 Ct 47 #[PV ps,Xi h_,Xi t,Xu 0] w fun e w'=>∃px,e=.returned (.tuple #[PV px,Xi 0])/\tt w' px ps h_ 0/\D_ w w'/\w.1.size<=px:=by
 have hc:=JF h hi hk t;have hq:((h_:Int)==3)=false:=by have:=hk.is;simp;omega
 have HG:=If hc;clear hc h hi hk;go_enter func47,ntmps47;go_wp2_with fail;refine e9 HG.O fun w1 hb1=>?_;have q:=heap_alloc_new w1 (.cells #[PV ps,Xi h_,Xi 0,.iface 162 (fE ps h_),Xu 0] 100);have B:=hb1.alloc hb1.size (.cells #[PV ps,Xi h_,Xi 0,.iface 162 (fE ps h_),Xu 0] 100);simp only[fE] at q B;have HB:=kq3 q B hb1.size;clear q B hb1;go_wp2_with fail;go_ret2;exact⟨w1.1.size,rfl,HB.a,HB.b,HB.c⟩
theorem ES(h:Ig w ps S Y)(hi:Fv S){j c:FuncId}{jn:Jn}(hk:jD h_ j c jn)(t:Int):
 Ct 13 #[PV ps,Xi h_,Xi t] w fun e w'=>∃px,e=.returned (.tuple #[PV px,Xi 0])/\tt w' px ps h_ 0/\D_ w w'/\w.1.size<=px:=by
 have HG:=If (ET h hi hk t);clear h hi hk;go_enter func13,ntmps13;go_wp2_with fail;refine HG.O.M ?_;rintro e w1 ⟨px,rfl,hr⟩;have HB:=If hr;clear hr;go_wp2_with fail;go_ret2;exact⟨px,rfl,HB.O⟩
def Ic(w:World)(pm px ps r_:Nat):Prop:=w.1[pm]?=some (.cells #[PV ps,PV px,Xi r_] 116)
theorem Ic.a_{w w':World}{pm px ps r_:Nat}(h:Ic w pm px ps r_)(hb:D_ w w'):Ic w' pm px ps r_:=(hb.block pm (gl h)).T h
theorem ki{pm px ps r_:Nat}(hM:Ic w pm px ps r_):
 Ct 57 #[PV pm] w fun e w'=>e=.returned (.bool false)/\w=w':=by
 unfold Ic at hM;obtain⟨c0,c1,c2⟩:=fq hM;clear hM;go_enter func57,ntmps57;go_wp2_with fail;go_ret;exact⟨rfl,rfl⟩
theorem Gh{pm px ps r_:Nat}(hM:Ic w pm px ps r_):
 Ct 23 #[PV pm] w fun e w'=>e=.returned (PV px)/\w=w':=by
 have HG:=If (ki hM);unfold Ic at hM;obtain⟨c0,c1,c2⟩:=fq hM;clear hM;go_enter func23,ntmps23;go_wp2_with fail;refine Jc HG.O ?_;go_wp2_with fail;go_ret;exact⟨rfl,rfl⟩
theorem vH{pm px ps r_:Nat}(hM:Ic w pm px ps r_)(a b:List UInt8)(ha:a.length<=r_)(hb:b.length<=r_):
 Ct 58 #[PV pm,SV a,SV b] w fun e w'=>e=.returned (Xi 0)/\w=w':=by
 have HG:=If (ki hM);unfold Ic at hM;obtain⟨c0,c1,c2⟩:=fq hM;have ad:((r_:Int)<(a.length:Int))=False:=eq_false o_;have ai:((r_:Int)<(b.length:Int))=False:=eq_false o_;clear hM ha hb;go_enter func58,ntmps58;go_wp2_with fail;refine Jc HG.O ?_;go_wp2_with fail;go_ret;exact⟨rfl,rfl⟩
end
section
open Go.RowKit Tryz Go.BigFrame Go.Maps Go.WideMaps Lf Tr
theorem Ig.row {w w2:World}{ps D x:Nat}{S:St}{Y:Nat->Prop}{v v2:Value}{L:List Nat}(h:Ig w ps S (fun k=>Y k\/v.ownBlock=some k))(hD:fy<D)(own:FE w D v L)(ho2:FE w2 D v2 (L++[x]))(hg:w.grownBy w2 v.ownBlock)(hv:v2.ownBlock=v.ownBlock\/∃g,v2.ownBlock=some g/\w.1.size<=g):Ig w2 ps S (fun k=>Y k\/v2.ownBlock=some k):=by
 refine(h.grown hg fun g e=>⟨ae e,by have:=(own.ge g e).1;omega,(own.block e).2.2⟩).M fun k hk=>?_
 rcases hk with hk | hk
 ·exact ab (ab hk)
 ·rcases hv with e | ⟨g,e,hg⟩
  ·rw[e] at hk;exact ab (ae hk)
  ·rw[e] at hk;obtain rfl:g=k:=Option.some.inj hk;exact ae ⟨hg,(ho2.ge g e).2⟩
section
variable {w w':World}{ps bb D n:Nat}{S S':St}{Y Z:Nat->Prop}{h_:Int}
end
