/- Binary trees: a node's texts, its size; Pair, fits: the walks. -/
import Derived.Test.YtpljannolpapgaaGreatDoorTZa
import Derived.Test.YtpljannolpapgaaGreatDoorTFg
set_option maxRecDepth 100000
set_option maxHeartbeats 6400000
namespace Go.Proofs.YtpljannolpapgaaGreatDoor
section
open Go.RowKit Tryz Go.BigFrame Go.Maps Go.WideMaps Lf Tr
variable{B:Nat}{D:Nat}{S:St}{Y:Nat->Prop}{hh:Nat}{j:Nat}{o:Nat->Nat}{ps:Nat}{v:Value}{w:World}
theorem J6(h:Ig w ps S Y)(hf:Fw S o){n:Nd}(hn:i_ S hh=some (eM n)):
 Cb 76 #[PV ps,Xu hh] w (.tuple #[eS n,Xi 0]):=by
 have:=iO h hf.inv hh (fL hf hn).2.1;rw[gw hf hn] at this;exact this
theorem JV(h:Ig w ps S Y)(hf:Fw S o){t:List UInt8}(ht:t.length<=1000)(hn:i_ S hh=some (FK t)):
 Cb 51 #[PV ps,Xu hh] w (.tuple #[SV t,Xi 0]):=by
 have e:=jt hf ht hn;have:=iz h hf.inv hh (fL hf hn).2.1 (by rw[e];exact(by decide:(0:Nat)≠8));rw[e] at this;exact this
theorem NF(h:Ig w ps S Y)(hf:Fw S o){n:Nd}(hn:i_ S hh=some (eM n)){k v:List UInt8}(lk:k.length<=1000)(lv:v.length<=1000)(hk:i_ S n.key=some (FK k))(hv:i_ S n.val=some (FK v)):
 Cb 192 #[PV ps,Xu hh] w (.tuple #[eu (k,v),Xi 0]):=by
 have hg:=fun W (hW:D_ w W)=>J6 (h.a_ hW) hf hn;have ai:=fun W (hW:D_ w W)=>JV (h.a_ hW) hf lk hk;have an:=fun W (hW:D_ w W)=>JV (h.a_ hW) hf lv hv;have ad:D_ w (w.alloc (.cells #[.string ⟨#[]⟩,.string ⟨#[]⟩] 40)):=(aa _ _).alloc Ih _;have hs:(w.alloc (.cells #[.string ⟨#[]⟩,.string ⟨#[]⟩] 40)).1[w.1.size]?=some (.cells #[.string ⟨#[]⟩,.string ⟨#[]⟩] 40):=World.alloc_heap_new _ _;have HG:=kq5 hg ai an ad hs;unfold eS at HG;clear hg ai an ad h hf hn lk lv hk hv hs;go_enter func192,ntmps192;go_wp2_with fail;refine b8 (HG.a _ HG.d) fun w1 hb1=>?_;have A1:=b_ HG.d hb1;have N1:=c_ w1 (Xb n.key n.val n.left n.right n.mark n.size);have q1:(w1.alloc (Xb n.key n.val n.left n.right n.mark n.size)).1[w1.1.size]?=some (Xb n.key n.val n.left n.right n.mark n.size):=World.alloc_heap_new _ _;have A2:=b_ A1 N1;have z0:=(gl HG.e);have s1:=hb1.size;have p2:=(N1.block _ o_).T ((hb1.block _ z0).T HG.e);have H1:=kq3 A2 q1 p2;clear A1 N1 q1 A2 p2 hb1 z0 s1;go_wp2_with fail;refine b8 (HG.b _ H1.a) fun w3 hb3=>?_;have A3:=b_ H1.a hb3;have q3:=(hb3.block _ (gl H1.b)).T H1.b;have p3:=(hb3.block _ (gl H1.c)).T H1.c;obtain⟨c0,c1,c2,c3,c4,c5⟩:=ia q3;have H3:=kq2 A3 p3;clear hb3 A3 q3 p3 H1;go_wp2_with fail;refine b8 (HG.c _ H3.a) fun w4 hb4=>?_;have p4:=(hb4.block _ (gl H3.b)).T H3.b;have q5:=ew p4 (SV k) (SV v);have B5:=eT (b_ H3.a hb4) Ih (SV k) (SV v);obtain⟨d0,d1⟩:=Fp p4;obtain⟨f0,f1⟩:=ef p4;have HB:=kq2 q5 B5;clear hb4 p4 H3 c0 c1 c2 c3 c4 c5 q5 B5;go_wp2_with fail;obtain⟨q5,B5⟩:=HB.O;generalize ((w4.setCell (y_ w.1.size) (SV k)).setCell (x_ w.1.size 1) (SV v))=wF at*;obtain⟨e0,e1⟩:=Fp q5;exact bodyPost_ret (v:=.tuple #[.agg #[SV k,SV v],Xi 0]) (by simp[results,f192,go_sem,e0,e1]) rfl ⟨rfl,B5⟩
def pp(L R:Nat):Nat->Nat
 | 0=>1
 | 1=>1+L
 | _=>1+L+R
theorem Tr.side:∀{t:Tr},Tr.At S t->(t.f9=0/\t.its.length=0)\/∃n,i_ S t.f9=some (eM n)/\n.size=t.its.length
 | .nil,_=> .inl ⟨rfl,rfl⟩
 | .node _ _ _ _,h=> .inr ⟨_,h.1,rfl⟩
theorem M1(a b:Value)(w:World):(Instr.index 322 (.agg #[a,b]) (Xi 0)).run prog w=.ok a w:=k_
theorem M2(a b:Value)(w:World):(Instr.index 322 (.agg #[a,b]) (Xi 1)).run prog w=.ok b w:=k_
theorem ND(h:Ig w ps S Y)(hf:Fw S o){l:Tr}{d:It}{m:Nat}{r:Tr}(hl:Tr.At S l)(hr:Tr.At S r)(hc:l.its.length+r.its.length<1000):
 Cb 193 #[PV ps,eS (nd l d m r)] w (.bool true):=by
 have hz:(Tr.node l d m r).its.length=1+l.its.length+r.its.length:=by
  show (l.its++d::r.its).length=_
  rw[ag,aj];omega
 have sl:=Tr.side hl;have sr:=Tr.side hr;have hg:=fun W (hW:D_ w W) (hh:Nat) (n:Nd) (hn:i_ S hh=some (eM n))=>J6 (h.a_ hW) hf hn;have au:=fun(hh:Nat) (n:Nd) (hn:i_ S hh=some (eM n))=>(fL hf hn).1;unfold nd eS;obtain⟨z,a1⟩:=Ii (Tr.node l d m r).its.length;rw[a1] at hz⊢;clear a1;generalize l.its.length=L at*;generalize r.its.length=R at*;generalize l.f9=rl at*;generalize r.f9=rr at*;have ar:D_ w (w.alloc (Xb d.kh d.vh rl rr m (z:Nat))):=(aa _ _).alloc Ih _;have q0:(w.alloc (Xb d.kh d.vh rl rr m (z:Nat))).1[w.1.size]?=some (Xb d.kh d.vh rl rr m (z:Nat)):=World.alloc_heap_new _ _;unfold eS at hg;have HG:=kq6 hg au ar q0 sl sr;have a0:pp L R 2=z:=by rw[hz];rfl
 have HZ:=If a0;clear hg au ar q0 sl sr h hf hl hr hz a0;have a2:=M1 (Xu rl) (Xu rr);have a3:=M2 (Xu rl) (Xu rr);go_enter func193,ntmps193;go_wp2_with fail
 go_loopw [4,5,7,8,9,15] (fun _ s5 _ _ _ s15 wr=>∃j:Nat,j<=2/\s15=Xi j/\s5=Xu (pp L R j:Nat)/\Hid (D_ w wr/\wr.1[w.1.size]?=some (Xb d.kh d.vh rl rr m (z:Nat)))) (fun _ _ _ _ _ s15 _=>2-(intOf s15).toNat)
 case atStart=>exact⟨0,o_,rfl,rfl,HG.c,HG.d⟩
 case round=>
  obtain⟨j,hj,rfl,rfl,J0⟩:=hrel
  rcases(show j=0\/j=1\/j=2 by omega) with rfl | rfl | rfl
  ·rcases HG.e with⟨e0,e1⟩ | ⟨n,e0,e1⟩
   ·have ap:((rl:Int)==0)=true:=by rw[e0];rfl
    have hs:pp L R 1=pp L R 0:=by rw[e1];rfl
    have HE:=If hs;clear e0 e1 hs;generalize pp L R 0=s0 at*;obtain⟨s1,ad⟩:=Ii (pp L R 1);have ai:=If ad;clear ad;go_wp2_with fail;go_roundw
    case rel=>exact⟨1,o_,rfl,by rw[<-HE.O],J0.O⟩
    case measure=>simp[intOf]
   ·have ap:((rl:Int)==0)=false:=by have:=HG.b _ _ e0;simp;omega
    have an:=HG.a wr J0.O.1 rl n e0;have hw:IntKind.u64.wrap (((pp L R 0:Nat):Int)+n.size)=((pp L R 1:Nat):Int):=by
     rw[e1];simp only[pp];rw[bM _ o_];omega
    have HE:=kq3 e0 e1 an;clear e0 e1 an;generalize pp L R 0=s0 at*;obtain⟨s1,ad⟩:=Ii (pp L R 1);rw[ad] at hw;have ai:=If ad;clear ad;go_wp2_with fail;refine b8 HE.c fun w1 hb1=>?_;have q1:=(hb1.block _ (gl J0.O.2)).T J0.O.2;have A1:=b_ J0.O.1 hb1;have N1:=c_ w1 (Xb n.key n.val n.left n.right n.mark n.size);have H1:=kq2 (b_ A1 N1) ((N1.block _ (gl q1)).T q1);clear hb1 q1 A1 N1;go_wp2_with fail;go_roundw
    case rel=>
     exact⟨1,o_,rfl,by rw[ai.O],H1.O⟩
    case measure=>simp[intOf]
  ·rcases HG.f with⟨e0,e1⟩ | ⟨n,e0,e1⟩
   ·have ap:((rr:Int)==0)=true:=by rw[e0];rfl
    have hs:pp L R 2=pp L R 1:=by rw[e1];rfl
    have HE:=If hs;clear e0 e1 hs;generalize pp L R 1=s0 at*;obtain⟨s1,ad⟩:=Ii (pp L R 2);have ai:=If ad;clear ad;go_wp2_with fail;go_roundw
    case rel=>exact⟨2,o_,rfl,by rw[<-HE.O],J0.O⟩
    case measure=>simp[intOf]
   ·have ap:((rr:Int)==0)=false:=by have:=HG.b _ _ e0;simp;omega
    have an:=HG.a wr J0.O.1 rr n e0;have hw:IntKind.u64.wrap (((pp L R 1:Nat):Int)+n.size)=((pp L R 2:Nat):Int):=by
     rw[e1];simp only[pp];rw[bM _ o_];omega
    have HE:=kq3 e0 e1 an;clear e0 e1 an;generalize pp L R 1=s0 at*;obtain⟨s1,ad⟩:=Ii (pp L R 2);rw[ad] at hw;have ai:=If ad;clear ad;go_wp2_with fail;refine b8 HE.c fun w1 hb1=>?_;have q1:=(hb1.block _ (gl J0.O.2)).T J0.O.2;have A1:=b_ J0.O.1 hb1;have N1:=c_ w1 (Xb n.key n.val n.left n.right n.mark n.size);have H1:=kq2 (b_ A1 N1) ((N1.block _ (gl q1)).T q1);clear hb1 q1 A1 N1;go_wp2_with fail;go_roundw
    case rel=>exact⟨2,o_,rfl,by rw[ai.O],H1.O⟩
    case measure=>simp[intOf]
  ·have q:=J0.O.2;obtain⟨c0,c1,c2,c3,c4,c5⟩:=ia q;clear q;rw[HZ.O];go_wp2_with fail;go_ret;exact⟨rfl,J0.O.1⟩
theorem M3:(prog.info? 104).map (fun i=>(i.zero,i.size,i.bytes))=some (some (.agg #[Xu 0,Xu 0]),2,16):=k_
def JN(l:List It):List Value:=l.flatMap fun d=>[Xu d.kh,Xu d.vh]
abbrev py(w:World)(B:Nat)(v:Value)(l:List It):Prop:=w.ownsRow B 104 2 v l.length (JN l)
theorem M6(l:List It)(d:It):JN (l++[d])=JN l++[Xu d.kh,Xu d.vh]:=by simp[JN]
theorem Lw:∀(l:List It) (i:Nat) (h:i<l.length),(JN l)[i*2]?=some (Xu l[i].kh)/\(JN l)[i*2+1]?=some (Xu l[i].vh)
 | d::l,0,_=>⟨rfl,rfl⟩
 | d::l,i+1,h=>by
  obtain⟨h1,h2⟩:=Lw l i (by simpa using h);grind [JN,List.getElem?_cons_succ]
theorem py.slice{l:List It}(h:py w B v l):∃A c,v=.slice A l.length c:=by
 rcases h.2 with⟨e,e0⟩ | ⟨g,c,ad,e,_⟩
 ·refine⟨none,0,?_⟩
  cases l with
  | nil=>exact e
  | cons d l=>simp at e0
 grind
theorem py.cell_at{l:List It}(h:py w D v l)(hj:j<l.length):∃b c,v=.slice (some (y_ b)) l.length c/\D<=b/\w.cell? ⟨b,j*2,none⟩=some (Xu l[j].kh)/\w.cell? ⟨b,j*2+1,none⟩=some (Xu l[j].vh):=by
 obtain⟨i1,i2⟩:=Lw l j hj
 rcases id h.2 with⟨_,e0⟩ | ⟨b,c,ad,e,hb,_⟩
 ·omega
 ·have e1:=World.ownsRow.cells h (g:=b) (by rw[e];rfl) (j*2) _ i1;have e2:=World.ownsRow.cells h (g:=b) (by rw[e];rfl) (j*2+1) _ i2;rw[Addr.add_lit,bC] at e1 e2
  grind
theorem LP{w w':World}{e:TypeId}{size:Nat}{n:Nat}{xs:List Value}(h:w.ownsRow B e size v n xs)(hb:D_ w w'):w'.ownsRow B e size v n xs:=
 h.kept (lf hb) (Classical.em _)
theorem Mo(W:World)(u v:Value)(t:TypeId):∀(j:Nat) (x:Value),[u,v][j]?=some x->(W.alloc (.cells #[u,v] t)).cell? (((y_ W.1.size):Addr).add j)=some x:=fun j x hx=>by
 rw[Addr.add_lit,bC,r_ (heap_alloc_new W _),<-hx];simp
theorem K7{l:List It}(h:py w B v l)(hl:l.length<=10000)(d:It)(hB:B<=w.1.size)(ty:TypeId):
 ∃v' w',(Builtin.append_ #[135,135] ty #[v,.slice (some (y_ w.1.size)) 1 1]).run prog (w.alloc (Xe d.kh d.vh))=.ok v' w'/\py w' B v' (l++[d])/\w.grownBy w' v.ownBlock/\(v'.ownBlock=v.ownBlock\/∃g,v'.ownBlock=some g/\w.1.size<=g):=by
 obtain⟨i,hi,ad,ai,an⟩:=info_parts M3;obtain⟨v',w',h1,h2,h3,_,h4⟩:=run_append_own_at (P:=prog) (w:=w.alloc (Xe d.kh d.vh)) B 135 ty 104 i (.agg #[Xu 0,Xu 0]) 2 16 underlying135 hi ad ai an rfl d_ v l.length (JN l) (h.alloc _) (y_ w.1.size) 1 1 [Xu d.kh,Xu d.vh] rfl (Mo _ _ _ _) (fun u hu=>by
  rcases ah.1 hu with rfl | hu
  ·rfl
  ·rcases ah.1 hu with rfl | hu
   ·rfl
   ·cases hu) (by unfold maxLen;omega) o_ m_
 refine⟨v',w',h1,by unfold py;rw[M6,ag];exact h2,(World.grownBy_alloc w _ _).T h3,?_⟩
 rcases h4 with h4 | h4
 ·exact ab h4
 simp_all
theorem FE.cell_at{l:List Nat}(h:FE w D v l)(hj:j<l.length):∃b c,v=.slice (some (y_ b)) l.length c/\D<=b/\w.cell? (x_ b j)=some (Xu (l[j]:Nat)):=by
 rcases id h.2 with⟨_,e0⟩ | ⟨b,c,ad,e,_⟩
 ·omega
 ·have e2:=World.ownsRow.cells h (g:=b) (by rw[e];rfl) j (Xu (l[j]:Nat)) (by simp[hV,hj]);rw[Addr.add_lit,bC] at e2
  grind
theorem xA{w w':World}{b o:Nat}(h:w'.1[b]?=w.1[b]?):w'.cell? (x_ b o)=w.cell? (x_ b o):=by simp only[World.cell?,h]
namespace Bt
variable{d:Nat}{j:Nat}
theorem LY:∀(es:List It) (ks:List (List It)),(ks=[]\/ks.length=es.length+1)->(ei es ks).length=es.length+(ks.map List.length).sum
 | [],[],_=>rfl
 | [],[k],_=>by simp[ei]
 | [],_::_::_,h=>by
  rcases h with h | h
  ·cases h
  ·simp at h
 | e::es,[],_=>by rw[jY];simp
 | e::es,k::ks,h=>by
  have h:ks.length=es.length+1:=by
   rcases h with h | h
   ·cases h
   ·simpa using h
  have:=LY es ks (.inr h);simp only[ei,ag,aj,this,bg,List.sum_cons];omega
def partS {d:Nat}(x:Bt (d+1))(j:Nat):Nat:=(Bn.es x).length+(((Bn.ks x).take j).map fun k=>(its k).length).sum
theorem partS_kid(x:Bt (d+1))(hj:j<(Bn.ks x).length):partS x (j+1)=partS x j+(its (Bn.ks x)[j]).length:=by
 unfold partS;rw[aw hj,aQ,dJ]
 simp
 omega
theorem partS_all(x:Bt (d+1))(h:(Bn.ks x).length=0\/(Bn.ks x).length=(Bn.es x).length+1)(hj:(Bn.ks x).length<=j):partS x j=(its x).length:=by
 rw[ga,LY _ _ (h.imp (fun h=>by rw[bH.1 h];rfl) fun h=>by rw[am,h]),cO];unfold partS;rw[aN hj];rfl
theorem partS_le(x:Bt (d+1))(h:(Bn.ks x).length=0\/(Bn.ks x).length=(Bn.es x).length+1)(j:Nat):partS x j<=(its x).length:=by
 rw[<-partS_all x h Ih];unfold partS;rw[ct]
 conv=>rhs;rw[<-aS j (Bn.ks x),aQ,dJ]
 omega
end Bt
theorem Lg {ps t:Nat}{S:St}{o:Nat->Nat}{w:World}{Y:Nat->Prop}(h:Ig w ps S Y):∀{d:Nat} (k:Bt d),Bt.Walk S o t k->Cb 175 #[FH ps t,Xu (Bt.hd k)] w (Xi (Bt.its k).length)
 | 0,k,_=>nomatch k
 | _+1,_,hk=>nS h hk.fit.inv hk.read hk.size.2
theorem Me {ps t:Nat}{S:St}{o:Nat->Nat}:∀(d:Nat) (x:Bt d),Bt.Walk S o t x->∀{w:World} {Y:Nat->Prop} {top:Bool},Ig w ps S Y->(if top=true then 1 else t-1)<=Bt.nk x->d<=40->(Bt.its x).length<=5000->
 Cb 172 #[FH ps t,Xu (Bt.hd x:Nat),.bool top,Xi ((d:Int)-1)] w (.bool true):=by
 intro d;induction d with
 | zero=>exact fun x=>nomatch x
 | succ d ih=>
  intro x hx w Y top h hk hd hl;have B0:=c_ w (Xc ps t);have q0:=heap_alloc_new w (Xc ps t);obtain⟨Wa,bk⟩:=Ii (w.alloc (Xc ps t));rw[bk] at B0 q0;have hg:=kI (h.a_ B0) hx.fit.inv hx.read;have bt:=hx.es.2.2;have a9:=hx.ok.2.1;have a':=hx.ok.2.2;have b1:=hx.t2;have b0:=hx.t1;obtain⟨c0,c1⟩:=Fp q0;have HG:=kq9 hg B0 q0 ih hx h hl a9 a';unfold FH;have If:((d+1:Nat):Int)-1=(d:Int):=o_
  rw[If];have ba:Bt.nk x=(Bn.es x).length:=rfl;rw[ba] at hk;clear hg B0 q0 ih hx h hl a9 a' If ba;go_enter func172,ntmps172;go_wp2_with fail;refine HG.a.M ?_;rintro e w1 ⟨vk,vv,vc,rfl,hr,hb⟩;obtain⟨kA,kc,rfl⟩:=hr.k.E_;obtain⟨vA,vC,rfl⟩:=hr.v.E_;obtain⟨cA,cc,rfl⟩:=hr.c.E_;unfold eC;obtain⟨z,hz⟩:=Ii (Bt.bn x).size;obtain⟨ke,ad⟩:=Ii (Bn.es x).length;obtain⟨m,hm⟩:=Ii (Bn.ks x).length;have lk:(Bt.bn x).j_.length=ke:=by rw[<-ad];exact am _
  have lv:(Bt.bn x).E1.length=ke:=by rw[<-ad];exact am _
  have lc:(Bt.bn x).B_.length=m:=by rw[<-hm];exact am _
  rw[hz,lk,lv,lc];rw[ad] at hk bt;have au:m=if d=0 then 0 else ke+1:=by rw[<-hm,<-ad];exact HG.h
  have A1:=c_ w1 (.cells #[.slice kA ke kc,.slice vA ke vC,.slice cA m cc,Xu z] 215);have q1:=heap_alloc_new w1 (.cells #[.slice kA ke kc,.slice vA ke vC,.slice cA m cc,Xu z] 215);obtain⟨W2,bj⟩:=Ii (w1.alloc (.cells #[.slice kA ke kc,.slice vA ke vC,.slice cA m cc,Xu z] 215));rw[bj] at A1 q1;have t2:=(A1.block _ (aE (gl HG.c) hb.size)).T ((hb.block _ (gl HG.c)).T HG.c);have b2:=HG.b.T ((hb.M HG.b.size).T (A1.M (aG HG.b.size hb.size)));have bd:=hr.c.at (w':=W2) fun g e=>A1.block g (hr.c.ge g e).2;obtain⟨y0,y1,y2,y3⟩:=Fy q1;obtain⟨a0,a1⟩:=Fp t2;have H2:=kq8 b2 bd q1 t2 ad hm lc hz;have bs:IntKind.i64.wrap ((t:Int)-1)=(t:Int)-1:=ax _ o_;have bx:m<=40:=by rw[au];split<;>omega
  obtain⟨b,f1,f2,f3,f4⟩:∃b:Bool,((m:Int)==0)=b/\((d:Int)==0)=b/\(m==0)=b/\(d==0)=b:=by
   refine⟨decide (d=0),?_,?_,?_,?_⟩<;>by_cases q:d=0<;>simp[au,q]<;>omega
  have bu:IntKind.i64.wrap ((d:Int)-1)=(d:Int)-1:=ax _ o_;clear A1 q1 t2 b2 bd hr hb ad hm lk lv lc hz au;cases top
  case' false=>
   have hlt:¬((ke:Int)<(t:Int)-1):=by simp at hk;omega
   go_wp2_with fail
  case' true=>
   have hlt:¬((ke:Int)<1):=by simp at hk;omega
   go_wp2_with fail
  all_goals
   clear y0 y1 y2 y3 a0 a1 c0 c1 hlt f1 f2 f3 f4 bs;go_loopw [8,12,14,49] (fun _ s12 _ s49 wr=>∃j:Nat,s49=Xi j/\j<=m/\s12=Xi (Bt.partS x j)/\Hid (D_ W2 wr)) (fun _ _ _ s49 _=>m-(intOf s49).toNat)
   case atStart=>exact⟨0,rfl,o_,by unfold Bt.partS;rw[H2.e];simp,aa _ _⟩
   case round=>
    obtain⟨j,rfl,hj,rfl,J0⟩:=hrel;have ai:=b_ H2.a J0.O;by_cases hjl:j<m
    ·have ap:j<(Bn.ks x).length:=by rw[H2.f];exact hjl
     have a7:=H2.b.at (w':=wr) fun g e=>J0.O.block g (H2.b.ge g e).2;obtain⟨bc,c3,e3,_,bf⟩:=a7.cell_at (j:=j) (by rw[H2.g];exact hjl);obtain⟨rfl,rfl⟩:cA=some (y_ bc)/\cc=c3:=by cases e3;exact⟨rfl,rfl⟩
     obtain⟨kid,ar⟩:=Ii ((Bn.ks x)[j]'(ap));have rc:wr.cell? (x_ bc j)=some (Xu (Bt.hd kid)):=by rw[bf,<-ar];simp[Bt.bn]
     have a2:kid∈Bn.ks x:=ar▸aq ap;have bb:Bt.partS x (j+1)=Bt.partS x j+(Bt.its kid).length:=by rw[Bt.partS_kid x ap,ar]
     have an:(Bn.ks x).length=0\/(Bn.ks x).length=(Bn.es x).length+1:=by have:=HG.h;split at this<;>omega
     have bo:=Bt.partS_le x an (j+1);have h1:=HG.g;have a5:=HG.e.kid a2;have hi:=HG.d kid a5 (top:=false) (HG.f.a_ ai) (by have:=(HG.i kid a2).2;simp;omega) o_ o_;have hs:=fun W (hW:D_ w W)=>Lg (HG.f.a_ hW) kid a5;unfold FH at hi hs;have tq:=(J0.O.block _ (gl H2.d)).T H2.d;obtain⟨a0,a1⟩:=Fp tq;have bm:(j:Int)<m:=o_
     have bq:IntKind.i64.wrap ((Bt.partS x j:Int)+((Bt.its kid).length:Nat))=((Bt.partS x (j+1):Nat):Int):=by rw[bb,ax _ o_];omega
     obtain⟨bv,a8⟩:=Ii (Bt.hd kid);rw[a8] at hi rc hs;have HE:=kq4 hi hs ai tq;clear hi hs ai tq bb bo h1 a5 a2 ar bf a7 e3 a8 an;generalize (Bt.its kid).length=kl at*;generalize Bt.partS x j=pj at*;obtain⟨pk,a4⟩:=Ii (Bt.partS x (j+1));rw[a4] at bq;have HQ:=If a4;clear a4 ap;go_wp2_with fail;refine b8 HE.a fun w3 hb3=>?_;have B3:=b_ HE.c hb3;have t3:=(hb3.block _ (gl HE.d)).T HE.d;clear a0 a1 rc;obtain⟨a0,a1⟩:=Fp t3;have H3:=kq2 B3 (b_ J0.O hb3);clear B3 t3 hb3;go_wp2_with fail;refine b8 (HE.b w3 H3.a) fun w4 hb4=>?_;have H4:=If (b_ H3.b hb4);clear hb4 a0 a1;go_wp2_with fail;go_roundw
     case rel=>exact⟨j+1,s_,o_,by rw[HQ.O],H4.O⟩
     case measure=>simp[intOf];omega
    ·obtain rfl:j=m:=o_
     have bm:¬(j:Int)<j:=o_
     have an:(Bn.ks x).length=0\/(Bn.ks x).length=(Bn.es x).length+1:=by have:=HG.h;split at this<;>omega
     have a3:=Bt.partS_all x an (j:=j) (by rw[H2.f];omega);have a6:Bt.partS x j=z:=by rw[a3,<-H2.h];rfl
     have b4:z<=5000:=by rw[<-a6,a3];exact HG.g
     rw[a6];have q3:=(J0.O.block _ (gl H2.c)).T H2.c;obtain⟨y0,y1,y2,y3⟩:=Fy q3;have HB:=If ai;clear a3 a6 an q3 ai;go_wp2_with fail;go_ret;exact⟨rfl,HB.O⟩
end
section
open Go.RowKit Tryz Go.BigFrame Go.Maps Go.WideMaps Lf
variable{S:St}{Y:Nat->Prop}{kv:Value}{ps:Nat}{ty:TypeId}{w:World}{x1:Nat}{x:Nat}
def FF(w:World)(px ps:Nat)(ty:TypeId)(kv:Value)(l_ td f9:Nat):Prop:=w.1[px]?=some (.cells #[PV ps,Xi l_,Xi td,.iface ty kv,Xu f9] 100)
theorem FF.a_{w w':World}{px ps l_ td f9:Nat}(h:FF w px ps ty kv l_ td f9)(hb:D_ w w'):FF w' px ps ty kv l_ td f9:=(hb.block px (gl h)).T h
theorem FF.A_{w w':World}{px ps l_ td f9:Nat}(h:FF w px ps ty kv l_ td f9)(hk:Fo Y w w')(hy:Y px):FF w' px ps ty kv l_ td f9:=(hk.block px hy).T h
theorem kw{px ps l_ td f9:Nat}(hT:FF w px ps ty kv l_ td f9):
 Ct 48 #[PV px] w fun e w'=>e=.returned (.bool false)/\w=w':=by
 unfold FF at hT;obtain⟨c0,c1,c2,c3,c4⟩:=ld hT;clear hT;go_enter func48,ntmps48;go_wp2_with fail;go_ret;exact⟨rfl,rfl⟩
theorem kN(px ps:Nat)(ty:TypeId)(kv:Value)(l_ td f9:Nat):∃I:World->Prop,(∀w',I w'->FF w' px ps ty kv l_ td f9)/\(∀w',FF w' px ps ty kv l_ td f9->I w'):=⟨fun w'=>FF w' px ps ty kv l_ td f9,fun _ h=>h,fun _ a=>a⟩
theorem gW(h:Ig w ps S Y)(tu:Bool)(hh:Nat):(z_ S tu hh).1<2^64/\(z_ S tu hh).2<2^64:=by
 have:=fs h hh;unfold z_
 split
 ·exact⟨this.right,this.left⟩
 ·exact⟨this.left,this.right⟩
theorem qXvac{P:Prop}(h:P:=by
 go_wp2_with fail;clear c0 c1;go_ret;exact⟨rfl,H2.a.M (fun k hk=>ab hk),H2.c⟩):P:=h
theorem DU{S S':St}(h:Ig w ps S Y)(hi:Fv S)(tu:Bool)(m t low:Nat)(hm:m<2^64)(ht:t<2^64)(hw:low<2^64)(d:Nat)(hd:d<=200)(h200:d=200)(hp:putJ S tu m t low true=some S'):
 Ct 221 #[ma ps tu,Xu t,Xu m,Xu low,Xi d] w fun e w'=>e=.returned (Xu m)/\Ig w' ps S' Y/\Fo Y w w':=by
 unfold ma;have cp:=fun W (hW:Ig W ps S (fun k=>Y k\/(w.1.size<=k/\k<w.1.size+1)))=>jW hW hi tu m t low true hm ht hw hp;subst h200;unfold ma at cp;have q0:=heap_alloc_new w (Xd ps tu);have B0:=c_ w (Xd ps tu);have an:(w.alloc (Xd ps tu)).1.size=w.1.size+1:=s_
 have z0:=h.wide B0;rw[an] at z0;have k0:Fo Y w (w.alloc (Xd ps tu)):=Fo.v_ B0 h.yl;have au:w.1.size<(w.alloc (Xd ps tu)).1.size:=o_
 have HG:=If cp;clear cp hp hi au an hd;have H0:=kq3 z0 q0 k0;clear z0 q0 k0 B0 h;go_enter func221,ntmps221;go_wp2_with fail;have ap:w.1.size<(w.alloc (Xd ps tu)).1.size:=s_
 have ar:∀x:Fq (Below (w.alloc (Xd ps tu)).1.size (w.alloc (Xd ps tu))),x.to.cell? (y_ w.1.size)=some (PV ps):=fun x=>by rw[r_ ((x.ok.block _ ap).T H0.b)];rfl
 generalize a0:w.alloc (Xd ps tu)=W0 at*;refine iq (D_ W0) k_ k_ (aa _ _).drew (fun _=>?_)
 repeat (first | go_big_quiet_skip | (go_big_quiet_want;go_big_quiet_op;go_big_quiet_on))
 refine wpQuiet_nil ?_;rintro _ ⟨v,rfl⟩;have rr:=(v.ok.block w.1.size ap).T H0.b;have hs:=H0.a.a_ v.ok;have hk:=H0.c.T ((H0.a.A_ v.ok).M (fun k hk=>ab hk));obtain⟨w1,ai⟩:=Ii v.to;rw[ai] at rr hs hk⊢;clear ai v ar;obtain⟨c0,c1⟩:=Fp rr;have H1:=kq3 hs rr hk;clear rr hs hk;go_wp2_with fail;clear c0 c1;refine(HG.O _ H1.a).M ?_;rintro e w2 ⟨rfl,hs,ad⟩;have rr:=(ad.block w.1.size (ae ⟨Nat.le_refl _,aX _⟩)).T H1.b;have hk:=H1.c.T (ad.M (fun k hk=>ab hk));obtain⟨c0,c1⟩:=Fp rr;have H2:=kq3 hs rr hk;clear ad rr hs hk;exact qXvac
theorem DW{S S':St}(h:Ig w ps S Y)(hi:Fv S)(tu:Bool)(m t low:Nat)(hm:m<2^64)(ht:t<2^64)(hw:low<2^64)(d:Nat)(_:d<=200)(h200:d≠200)(hr:F7 S t=false)(hb:C8 S t=C8 S low)(hp:putJ S tu m t low true=some S'):
 Ct 221 #[ma ps tu,Xu t,Xu m,Xu low,Xi d] w fun e w'=>e=.returned (Xu m)/\Ig w' ps S' Y/\Fo Y w w':=by
 unfold ma;have cp:=fun W (hW:Ig W ps S (fun k=>Y k\/(w.1.size<=k/\k<w.1.size+1)))=>jW hW hi tu m t low true hm ht hw hp;have an:=fun W (hW:Ig W ps S (fun k=>Y k\/(w.1.size<=k/\k<w.1.size+1)))=>gq hW hi t ht;have ad:=fun W (hW:Ig W ps S (fun k=>Y k\/(w.1.size<=k/\k<w.1.size+1)))=>gy hW hi t ht;have a0:=fun W (hW:Ig W ps S (fun k=>Y k\/(w.1.size<=k/\k<w.1.size+1)))=>gy hW hi low hw;rw[hr] at an;rw[hb] at ad;generalize C8 S low=bk at*;have hq:((d:Int)==200)=false:=m_
 unfold ma at cp;have q0:=heap_alloc_new w (Xd ps tu);have B0:=c_ w (Xd ps tu);have a2:(w.alloc (Xd ps tu)).1.size=w.1.size+1:=s_
 have z0:=h.wide B0;rw[a2] at z0;have k0:Fo Y w (w.alloc (Xd ps tu)):=Fo.v_ B0 h.yl;have a5:w.1.size<(w.alloc (Xd ps tu)).1.size:=o_
 have HG:=kq4 cp an ad a0;clear cp an ad a0 hp hi a5 a2 hr hb h200;have H0:=kq3 z0 q0 k0;clear z0 q0 k0 B0 h;go_enter func221,ntmps221;go_wp2_with fail;have a3:w.1.size<(w.alloc (Xd ps tu)).1.size:=s_
 have a4:∀x:Fq (Below (w.alloc (Xd ps tu)).1.size (w.alloc (Xd ps tu))),x.to.cell? (y_ w.1.size)=some (PV ps):=fun x=>by rw[r_ ((x.ok.block _ a3).T H0.b)];rfl
 have au:=fun x:Fq (Below (w.alloc (Xd ps tu)).1.size (w.alloc (Xd ps tu)))=>Calls.C7 (HG.b x.to (H0.a.a_ x.ok));have ar:=fun x:Fq (Below (w.alloc (Xd ps tu)).1.size (w.alloc (Xd ps tu)))=>Calls.C7 (HG.c x.to (H0.a.a_ x.ok));have ap:=fun x:Fq (Below (w.alloc (Xd ps tu)).1.size (w.alloc (Xd ps tu)))=>Calls.C7 (HG.d x.to (H0.a.a_ x.ok));generalize a6:w.alloc (Xd ps tu)=W0 at*;refine iq (D_ W0) k_ k_ (aa _ _).drew (fun _=>?_)
 repeat (first | go_big_quiet_skip | (go_big_quiet_want;go_big_quiet_op;first | go_big_quiet_on | (apply Exists.intro;refine⟨fun x=>?_,?_⟩;(· first | with_reducible exact au x | with_reducible exact ar x | with_reducible exact ap x);go_big_quiet_on)))
 refine wpQuiet_nil ?_;rintro _ ⟨v,rfl⟩;have rr:=(v.ok.block w.1.size a3).T H0.b;have hs:=H0.a.a_ v.ok;have hk:=H0.c.T ((H0.a.A_ v.ok).M (fun k hk=>ab hk));obtain⟨w1,a1⟩:=Ii v.to;rw[a1] at rr hs hk⊢;clear a1 v a4 au ar ap;obtain⟨c0,c1⟩:=Fp rr;have H1:=kq3 hs rr hk;clear rr hs hk;go_wp2_with fail;clear c0 c1;refine(HG.a _ H1.a).M ?_;rintro e w2 ⟨rfl,hs,ai⟩;have rr:=(ai.block w.1.size (ae ⟨Nat.le_refl _,aX _⟩)).T H1.b;have hk:=H1.c.T (ai.M (fun k hk=>ab hk));obtain⟨c0,c1⟩:=Fp rr;have H2:=kq3 hs rr hk;clear ai rr hs hk;exact qXvac
theorem DV(h:Ig w ps S Y)(hi:Fv S)(tu:Bool)(m t low:Nat)(_:m<2^64)(ht:t<2^64)(_:low<2^64)(d:Nat)(hd:d<=200)(h200:d≠200)(hr:F7 S t=true){S1 S2:St}(hx1:x1<2^64)(hi1:Fv S1)(_:Fv S2)
 (cr:∀(W:World) (Z:Nat->Prop),Ig W ps S Z->Ct 221 #[ma ps tu,Xu (z_ S tu t).2,Xu m,Xu low,Xi ((d:Int)+1)] W fun e w'=>e=.returned (Xu x1)/\Ig w' ps S1 Z/\Fo Z W w')
 (hp:putJ S1 tu t (z_ S tu t).1 x1 (F7 S t)=some S2):
 Ct 221 #[ma ps tu,Xu t,Xu m,Xu low,Xi d] w fun e w'=>e=.returned (Xu t)/\Ig w' ps S2 Y/\Fo Y w w':=by
 have ar:=gW h tu t;unfold ma at cr⊢;have an:=fun W (hW:Ig W ps S (fun k=>Y k\/(w.1.size<=k/\k<w.1.size+1)))=>gq hW hi t ht;have ai:=fun W (hW:Ig W ps S (fun k=>Y k\/(w.1.size<=k/\k<w.1.size+1)))=>jX hW hi tu t ht;have cp:=fun W (hW:Ig W ps S1 (fun k=>Y k\/(w.1.size<=k/\k<w.1.size+1)))=>jW hW hi1 tu t (z_ S tu t).1 x1 (F7 S t) ht ar.1 hx1 hp;have cr:=fun W (hW:Ig W ps S (fun k=>Y k\/(w.1.size<=k/\k<w.1.size+1)))=>cr W _ hW;try unfold ma at ai
 try unfold ma at cp
 rw[hr] at an cp;obtain⟨⟨a7,own⟩,au⟩:∃r,z_ S tu t=r:=⟨_,rfl⟩;rw[au] at ai cp cr;simp only at ai cp cr;have hq:((d:Int)==200)=false:=m_
 have a6:IntKind.i64.wrap ((d:Int)+1)=(d:Int)+1:=ax _ o_;have q0:=heap_alloc_new w (Xd ps tu);have B0:=c_ w (Xd ps tu);have a1:(w.alloc (Xd ps tu)).1.size=w.1.size+1:=s_
 have z0:=h.wide B0;rw[a1] at z0;have k0:Fo Y w (w.alloc (Xd ps tu)):=Fo.v_ B0 h.yl;have a4:w.1.size<(w.alloc (Xd ps tu)).1.size:=o_
 have HG:=kq4 an ai cp cr;clear an ai cp cr hp hi hi1 a4 a1 hr h200 au ar;have H0:=kq3 z0 q0 k0;clear z0 q0 k0 B0 h;go_enter func221,ntmps221;go_wp2_with fail;have a2:w.1.size<(w.alloc (Xd ps tu)).1.size:=s_
 have a3:∀x:Fq (Below (w.alloc (Xd ps tu)).1.size (w.alloc (Xd ps tu))),x.to.cell? (y_ w.1.size)=some (PV ps):=fun x=>by rw[r_ ((x.ok.block _ a2).T H0.b)];rfl
 have ap:=fun x:Fq (Below (w.alloc (Xd ps tu)).1.size (w.alloc (Xd ps tu)))=>Calls.C7 (HG.a x.to (H0.a.a_ x.ok));generalize a5:w.alloc (Xd ps tu)=W0 at*;refine iq (D_ W0) k_ k_ (aa _ _).drew (fun _=>?_);repeat (first | go_big_quiet_skip | (go_big_quiet_want;go_big_quiet_op;first | go_big_quiet_on | (apply Exists.intro;refine⟨fun x=>?_,?_⟩;(· first | with_reducible exact ap x);go_big_quiet_on)))
 refine wpQuiet_nil ?_;rintro _ ⟨v,rfl⟩;have rr:=(v.ok.block w.1.size a2).T H0.b;have hs:=H0.a.a_ v.ok;have hk:=H0.c.T ((H0.a.A_ v.ok).M (fun k hk=>ab hk));obtain⟨w1,a0⟩:=Ii v.to;rw[a0] at rr hs hk⊢;clear a0 v a3 ap;obtain⟨c0,c1⟩:=Fp rr;have H1:=kq3 hs rr hk;clear rr hs hk;go_wp2_with fail;clear c0 c1;refine b8 (HG.b _ H1.a) fun w2 hb=>?_;have rr:=(hb.block w.1.size (gl H1.b)).T H1.b;have hs:=H1.a.a_ hb;have hk:=H1.c.T ((H1.a.A_ hb).M (fun k hk=>ab hk));obtain⟨c0,c1⟩:=Fp rr;have H2:=kq3 hs rr hk;clear hb rr hs hk;go_wp2_with fail;clear c0 c1;refine b8 (HG.a _ H2.a) fun w3 hb=>?_;have rr:=(hb.block w.1.size (gl H2.b)).T H2.b;have hs:=H2.a.a_ hb;have hk:=H2.c.T ((H2.a.A_ hb).M (fun k hk=>ab hk));obtain⟨c0,c1⟩:=Fp rr;have H3:=kq3 hs rr hk;clear hb rr hs hk;go_wp2_with fail;clear c0 c1;refine(HG.d _ H3.a).M ?_;rintro e w4 ⟨rfl,hs,ad⟩;have rr:=(ad.block w.1.size (ae ⟨Nat.le_refl _,aX _⟩)).T H3.b;have hk:=H3.c.T (ad.M (fun k hk=>ab hk));obtain⟨c0,c1⟩:=Fp rr;have H4:=kq3 hs rr hk;clear ad rr hs hk;go_wp2_with fail;clear c0 c1;refine(HG.c _ H4.a).M ?_;rintro e w5 ⟨rfl,hs,ad⟩;have rr:=(ad.block w.1.size (ae ⟨Nat.le_refl _,aX _⟩)).T H4.b;have hk:=H4.c.T (ad.M (fun k hk=>ab hk));obtain⟨c0,c1⟩:=Fp rr;have H5:=kq3 hs rr hk;clear ad rr hs hk;go_wp2_with fail;clear c0 c1;go_ret;exact⟨rfl,H5.a.M (fun k hk=>ab hk),H5.c⟩
theorem DR(h:Ig w ps S Y)(hi:Fv S)(tu:Bool)(m t low:Nat)(_:m<2^64)(ht:t<2^64)(hw:low<2^64)(d:Nat)(hd:d<=200)(h200:d≠200)(hr:F7 S t=false)(hb:C8 S t≠C8 S low){S1 S2:St}(hx1:x1<2^64)(hi1:Fv S1)(hi2:Fv S2)
 (cr:∀(W:World) (Z:Nat->Prop),Ig W ps S Z->Ct 221 #[ma ps tu,Xu (z_ S tu t).2,Xu m,Xu low,Xi ((d:Int)+1)] W fun e w'=>e=.returned (Xu x1)/\Ig w' ps S1 Z/\Fo Z W w')
 (hp:putJ S1 tu t (z_ S tu t).1 x1 (F7 S t)=some S2) (hf:F7 S2 x1=false):
 Ct 221 #[ma ps tu,Xu t,Xu m,Xu low,Xi d] w fun e w'=>e=.returned (Xu t)/\Ig w' ps S2 Y/\Fo Y w w':=by
 have a3:=gW h tu t;unfold ma at cr⊢;have an:=fun W (hW:Ig W ps S (fun k=>Y k\/(w.1.size<=k/\k<w.1.size+1)))=>gq hW hi t ht;have ai:=fun W (hW:Ig W ps S (fun k=>Y k\/(w.1.size<=k/\k<w.1.size+1)))=>jX hW hi tu t ht;have cp:=fun W (hW:Ig W ps S1 (fun k=>Y k\/(w.1.size<=k/\k<w.1.size+1)))=>jW hW hi1 tu t (z_ S tu t).1 x1 (F7 S t) ht a3.1 hx1 hp;have a2:=fun W (hW:Ig W ps S (fun k=>Y k\/(w.1.size<=k/\k<w.1.size+1)))=>gy hW hi t ht;have a1:=fun W (hW:Ig W ps S (fun k=>Y k\/(w.1.size<=k/\k<w.1.size+1)))=>gy hW hi low hw;have ap:=fun W (hW:Ig W ps S2 (fun k=>Y k\/(w.1.size<=k/\k<w.1.size+1)))=>gq hW hi2 x1 hx1;have cr:=fun W (hW:Ig W ps S (fun k=>Y k\/(w.1.size<=k/\k<w.1.size+1)))=>cr W _ hW;try unfold ma at ai
 try unfold ma at cp
 rw[hr] at an cp;rw[hf] at ap;have bb:(((C8 S t:Nat):Int)==(C8 S low:Nat))=false:=m_
 generalize C8 S t=bk1 at*;generalize C8 S low=bk2 at*;obtain⟨⟨bc,own⟩,a4⟩:∃r,z_ S tu t=r:=⟨_,rfl⟩;rw[a4] at ai cp cr;simp only at ai cp cr;have hq:((d:Int)==200)=false:=m_
 have ba:IntKind.i64.wrap ((d:Int)+1)=(d:Int)+1:=ax _ o_;have q0:=heap_alloc_new w (Xd ps tu);have B0:=c_ w (Xd ps tu);have a6:(w.alloc (Xd ps tu)).1.size=w.1.size+1:=s_
 have z0:=h.wide B0;rw[a6] at z0;have k0:Fo Y w (w.alloc (Xd ps tu)):=Fo.v_ B0 h.yl;have a9:w.1.size<(w.alloc (Xd ps tu)).1.size:=o_
 have HG:=kq7 an ai cp a2 a1 ap cr;clear an ai cp a2 a1 ap cr hp hi hi1 hi2 a9 a6 hr h200 a4 a3 hb hf;have H0:=kq3 z0 q0 k0;clear z0 q0 k0 B0 h;go_enter func221,ntmps221;go_wp2_with fail;have a7:w.1.size<(w.alloc (Xd ps tu)).1.size:=s_
 have a8:∀x:Fq (Below (w.alloc (Xd ps tu)).1.size (w.alloc (Xd ps tu))),x.to.cell? (y_ w.1.size)=some (PV ps):=fun x=>by rw[r_ ((x.ok.block _ a7).T H0.b)];rfl
 have a0:=fun x:Fq (Below (w.alloc (Xd ps tu)).1.size (w.alloc (Xd ps tu)))=>Calls.C7 (HG.a x.to (H0.a.a_ x.ok));have au:=fun x:Fq (Below (w.alloc (Xd ps tu)).1.size (w.alloc (Xd ps tu)))=>Calls.C7 (HG.d x.to (H0.a.a_ x.ok));have ar:=fun x:Fq (Below (w.alloc (Xd ps tu)).1.size (w.alloc (Xd ps tu)))=>Calls.C7 (HG.e x.to (H0.a.a_ x.ok));generalize a':w.alloc (Xd ps tu)=W0 at*;refine iq (D_ W0) k_ k_ (aa _ _).drew (fun _=>?_);repeat (first | go_big_quiet_skip | (go_big_quiet_want;go_big_quiet_op;first | go_big_quiet_on | (apply Exists.intro;refine⟨fun x=>?_,?_⟩;(· first | with_reducible exact a0 x | with_reducible exact au x | with_reducible exact ar x);go_big_quiet_on)))
 refine wpQuiet_nil ?_;rintro _ ⟨v,rfl⟩;have rr:=(v.ok.block w.1.size a7).T H0.b;have hs:=H0.a.a_ v.ok;have hk:=H0.c.T ((H0.a.A_ v.ok).M (fun k hk=>ab hk));obtain⟨w1,a5⟩:=Ii v.to;rw[a5] at rr hs hk⊢;clear a5 v a8 a0 au ar;obtain⟨c0,c1⟩:=Fp rr;have H1:=kq3 hs rr hk;clear rr hs hk;go_wp2_with fail;clear c0 c1;refine b8 (HG.b _ H1.a) fun w2 hb=>?_;have rr:=(hb.block w.1.size (gl H1.b)).T H1.b;have hs:=H1.a.a_ hb;have hk:=H1.c.T ((H1.a.A_ hb).M (fun k hk=>ab hk));obtain⟨c0,c1⟩:=Fp rr;have H2:=kq3 hs rr hk;clear hb rr hs hk;go_wp2_with fail;clear c0 c1;refine b8 (HG.a _ H2.a) fun w3 hb=>?_;have rr:=(hb.block w.1.size (gl H2.b)).T H2.b;have hs:=H2.a.a_ hb;have hk:=H2.c.T ((H2.a.A_ hb).M (fun k hk=>ab hk));obtain⟨c0,c1⟩:=Fp rr;have H3:=kq3 hs rr hk;clear hb rr hs hk;go_wp2_with fail;clear c0 c1;refine(HG.g _ H3.a).M ?_;rintro e w4 ⟨rfl,hs,ad⟩;have rr:=(ad.block w.1.size (ae ⟨Nat.le_refl _,aX _⟩)).T H3.b;have hk:=H3.c.T (ad.M (fun k hk=>ab hk));obtain⟨c0,c1⟩:=Fp rr;have H4:=kq3 hs rr hk;clear ad rr hs hk;go_wp2_with fail;clear c0 c1;refine(HG.c _ H4.a).M ?_;rintro e w5 ⟨rfl,hs,ad⟩;have rr:=(ad.block w.1.size (ae ⟨Nat.le_refl _,aX _⟩)).T H4.b;have hk:=H4.c.T (ad.M (fun k hk=>ab hk));obtain⟨c0,c1⟩:=Fp rr;have H5:=kq3 hs rr hk;clear ad rr hs hk;go_wp2_with fail;clear c0 c1;refine b8 (HG.f _ H5.a) fun w6 hb=>?_;have rr:=(hb.block w.1.size (gl H5.b)).T H5.b;have hs:=H5.a.a_ hb;have hk:=H5.c.T ((H5.a.A_ hb).M (fun k hk=>ab hk));obtain⟨c0,c1⟩:=Fp rr;have H6:=kq3 hs rr hk;clear hb rr hs hk;go_wp2_with fail;clear c0 c1;go_ret;exact⟨rfl,H6.a.M (fun k hk=>ab hk),H6.c⟩
theorem DS(h:Ig w ps S Y)(hi:Fv S)(tu:Bool)(m t low:Nat)(_:m<2^64)(ht:t<2^64)(hw:low<2^64)(d:Nat)(hd:d<=200)(h200:d≠200)(hr:F7 S t=false)(hb:C8 S t≠C8 S low){S1 S2:St}(hx1:x1<2^64)(hi1:Fv S1)(hi2:Fv S2)
 (cr:∀(W:World) (Z:Nat->Prop),Ig W ps S Z->Ct 221 #[ma ps tu,Xu (z_ S tu t).2,Xu m,Xu low,Xi ((d:Int)+1)] W fun e w'=>e=.returned (Xu x1)/\Ig w' ps S1 Z/\Fo Z W w')
 (hp:putJ S1 tu t (z_ S tu t).1 x1 (F7 S t)=some S2) (hf:F7 S2 x1=true) (hg:F7 S2 (z_ S2 tu x1).2=false):
 Ct 221 #[ma ps tu,Xu t,Xu m,Xu low,Xi d] w fun e w'=>e=.returned (Xu t)/\Ig w' ps S2 Y/\Fo Y w w':=by
 have a5:=gW h tu t;unfold ma at cr⊢;have ar:=fun W (hW:Ig W ps S (fun k=>Y k\/(w.1.size<=k/\k<w.1.size+1)))=>gq hW hi t ht;have an:=fun W (hW:Ig W ps S (fun k=>Y k\/(w.1.size<=k/\k<w.1.size+1)))=>jX hW hi tu t ht;have cp:=fun W (hW:Ig W ps S1 (fun k=>Y k\/(w.1.size<=k/\k<w.1.size+1)))=>jW hW hi1 tu t (z_ S tu t).1 x1 (F7 S t) ht a5.1 hx1 hp;have a4:=fun W (hW:Ig W ps S (fun k=>Y k\/(w.1.size<=k/\k<w.1.size+1)))=>gy hW hi t ht;have a3:=fun W (hW:Ig W ps S (fun k=>Y k\/(w.1.size<=k/\k<w.1.size+1)))=>gy hW hi low hw;have au:=fun W (hW:Ig W ps S2 (fun k=>Y k\/(w.1.size<=k/\k<w.1.size+1)))=>gq hW hi2 x1 hx1;have ap:=fun W (hW:Ig W ps S2 (fun k=>Y k\/(w.1.size<=k/\k<w.1.size+1)))=>jX hW hi2 tu x1 hx1;have ai:=fun W (hW:Ig W ps S2 (fun k=>Y k\/(w.1.size<=k/\k<w.1.size+1)))=>gq hW hi2 (z_ S2 tu x1).2 (gW hW tu x1).2;have cr:=fun W (hW:Ig W ps S (fun k=>Y k\/(w.1.size<=k/\k<w.1.size+1)))=>cr W _ hW;try unfold ma at an
 try unfold ma at cp
 try unfold ma at ap
 rw[hr] at ar cp;rw[hf] at au;have bf:(((C8 S t:Nat):Int)==(C8 S low:Nat))=false:=m_
 generalize C8 S t=bk1 at*;generalize C8 S low=bk2 at*;rw[hg] at ai;obtain⟨⟨bj,own⟩,a6⟩:∃r,z_ S tu t=r:=⟨_,rfl⟩;rw[a6] at an cp cr;simp only at an cp cr;obtain⟨⟨sa,sb⟩,a7⟩:∃r,z_ S2 tu x1=r:=⟨_,rfl⟩;rw[a7] at ap ai;simp only at ap ai;have hq:((d:Int)==200)=false:=m_
 have bd:IntKind.i64.wrap ((d:Int)+1)=(d:Int)+1:=ax _ o_;have q0:=heap_alloc_new w (Xd ps tu);have B0:=c_ w (Xd ps tu);have a9:(w.alloc (Xd ps tu)).1.size=w.1.size+1:=s_
 have z0:=h.wide B0;rw[a9] at z0;have k0:Fo Y w (w.alloc (Xd ps tu)):=Fo.v_ B0 h.yl;have bb:w.1.size<(w.alloc (Xd ps tu)).1.size:=o_
 have HG:=kq9 ar an cp a4 a3 au ap ai cr;clear ar an cp a4 a3 au ap ai cr hp hi hi1 hi2 bb a9 hr h200 a6 a5 hb hf hg a7;have H0:=kq3 z0 q0 k0;clear z0 q0 k0 B0 h;go_enter func221,ntmps221;go_wp2_with fail;have a':w.1.size<(w.alloc (Xd ps tu)).1.size:=s_
 have ba:∀x:Fq (Below (w.alloc (Xd ps tu)).1.size (w.alloc (Xd ps tu))),x.to.cell? (y_ w.1.size)=some (PV ps):=fun x=>by rw[r_ ((x.ok.block _ a').T H0.b)];rfl
 have a2:=fun x:Fq (Below (w.alloc (Xd ps tu)).1.size (w.alloc (Xd ps tu)))=>Calls.C7 (HG.a x.to (H0.a.a_ x.ok));have a1:=fun x:Fq (Below (w.alloc (Xd ps tu)).1.size (w.alloc (Xd ps tu)))=>Calls.C7 (HG.d x.to (H0.a.a_ x.ok));have a0:=fun x:Fq (Below (w.alloc (Xd ps tu)).1.size (w.alloc (Xd ps tu)))=>Calls.C7 (HG.e x.to (H0.a.a_ x.ok));generalize bc:w.alloc (Xd ps tu)=W0 at*;refine iq (D_ W0) k_ k_ (aa _ _).drew (fun _=>?_);repeat (first | go_big_quiet_skip | (go_big_quiet_want;go_big_quiet_op;first | go_big_quiet_on | (apply Exists.intro;refine⟨fun x=>?_,?_⟩;(· first | with_reducible exact a2 x | with_reducible exact a1 x | with_reducible exact a0 x);go_big_quiet_on)))
 refine wpQuiet_nil ?_;rintro _ ⟨v,rfl⟩;have rr:=(v.ok.block w.1.size a').T H0.b;have hs:=H0.a.a_ v.ok;have hk:=H0.c.T ((H0.a.A_ v.ok).M (fun k hk=>ab hk));obtain⟨w1,a8⟩:=Ii v.to;rw[a8] at rr hs hk⊢;clear a8 v ba a2 a1 a0;obtain⟨c0,c1⟩:=Fp rr;have H1:=kq3 hs rr hk;clear rr hs hk;go_wp2_with fail;clear c0 c1;refine b8 (HG.b _ H1.a) fun w2 hb=>?_;have rr:=(hb.block w.1.size (gl H1.b)).T H1.b;have hs:=H1.a.a_ hb;have hk:=H1.c.T ((H1.a.A_ hb).M (fun k hk=>ab hk));obtain⟨c0,c1⟩:=Fp rr;have H2:=kq3 hs rr hk;clear hb rr hs hk;go_wp2_with fail;clear c0 c1;refine b8 (HG.a _ H2.a) fun w3 hb=>?_;have rr:=(hb.block w.1.size (gl H2.b)).T H2.b;have hs:=H2.a.a_ hb;have hk:=H2.c.T ((H2.a.A_ hb).M (fun k hk=>ab hk));obtain⟨c0,c1⟩:=Fp rr;have H3:=kq3 hs rr hk;clear hb rr hs hk;go_wp2_with fail;clear c0 c1;refine(HG.i _ H3.a).M ?_;rintro e w4 ⟨rfl,hs,ad⟩;have rr:=(ad.block w.1.size (ae ⟨Nat.le_refl _,aX _⟩)).T H3.b;have hk:=H3.c.T (ad.M (fun k hk=>ab hk));obtain⟨c0,c1⟩:=Fp rr;have H4:=kq3 hs rr hk;clear ad rr hs hk;go_wp2_with fail;clear c0 c1;refine(HG.c _ H4.a).M ?_;rintro e w5 ⟨rfl,hs,ad⟩;have rr:=(ad.block w.1.size (ae ⟨Nat.le_refl _,aX _⟩)).T H4.b;have hk:=H4.c.T (ad.M (fun k hk=>ab hk));obtain⟨c0,c1⟩:=Fp rr;have H5:=kq3 hs rr hk;clear ad rr hs hk;go_wp2_with fail;clear c0 c1;refine b8 (HG.f _ H5.a) fun w6 hb=>?_;have rr:=(hb.block w.1.size (gl H5.b)).T H5.b;have hs:=H5.a.a_ hb;have hk:=H5.c.T ((H5.a.A_ hb).M (fun k hk=>ab hk));obtain⟨c0,c1⟩:=Fp rr;have H6:=kq3 hs rr hk;clear hb rr hs hk;go_wp2_with fail;clear c0 c1;refine b8 (HG.g _ H6.a) fun w7 hb=>?_;have rr:=(hb.block w.1.size (gl H6.b)).T H6.b;have hs:=H6.a.a_ hb;have hk:=H6.c.T ((H6.a.A_ hb).M (fun k hk=>ab hk));obtain⟨c0,c1⟩:=Fp rr;have H7:=kq3 hs rr hk;clear hb rr hs hk;go_wp2_with fail;clear c0 c1;refine b8 (HG.h _ H7.a) fun w8 hb=>?_;have rr:=(hb.block w.1.size (gl H7.b)).T H7.b;have hs:=H7.a.a_ hb;have hk:=H7.c.T ((H7.a.A_ hb).M (fun k hk=>ab hk));obtain⟨c0,c1⟩:=Fp rr;have H8:=kq3 hs rr hk;clear hb rr hs hk;go_wp2_with fail;clear c0 c1;go_ret;exact⟨rfl,H8.a.M (fun k hk=>ab hk),H8.c⟩
theorem DT(h:Ig w ps S Y)(hi:Fv S)(tu:Bool)(m t low:Nat)(_:m<2^64)(ht:t<2^64)(hw:low<2^64)(d:Nat)(hd:d<=200)(h200:d≠200)(hr:F7 S t=false)(hb:C8 S t≠C8 S low){S1 S2:St}(hx1:x1<2^64)(hi1:Fv S1)(hi2:Fv S2)
 (cr:∀(W:World) (Z:Nat->Prop),Ig W ps S Z->Ct 221 #[ma ps tu,Xu (z_ S tu t).2,Xu m,Xu low,Xi ((d:Int)+1)] W fun e w'=>e=.returned (Xu x1)/\Ig w' ps S1 Z/\Fo Z W w')
 (hp:putJ S1 tu t (z_ S tu t).1 x1 (F7 S t)=some S2) (hf:F7 S2 x1=true) (hg:F7 S2 (z_ S2 tu x1).2=true) {S3 S4 S5:St} (hp3:putJ S2 tu (z_ S2 tu x1).2 (z_ S2 tu (z_ S2 tu x1).2).1 (z_ S2 tu (z_ S2 tu x1).2).2 false=some S3)
 (hp4:putJ S3 tu t (z_ S tu t).1 (z_ S2 tu x1).1 false=some S4) (hp5:putJ S4 tu x1 t (z_ S2 tu x1).2 true=some S5):
 Ct 221 #[ma ps tu,Xu t,Xu m,Xu low,Xi d] w fun e w'=>e=.returned (Xu x1)/\Ig w' ps S5 Y/\Fo Y w w':=by
 have a7:=gW h tu t;unfold ma at cr⊢;have a4:=jV hi2 hp3;have bd:=jV a4 hp4;have a5:=fun W (hW:Ig W ps S (fun k=>Y k\/(w.1.size<=k/\k<w.1.size+1)))=>gq hW hi t ht;have a0:=fun W (hW:Ig W ps S (fun k=>Y k\/(w.1.size<=k/\k<w.1.size+1)))=>jX hW hi tu t ht;have cp:=fun W (hW:Ig W ps S1 (fun k=>Y k\/(w.1.size<=k/\k<w.1.size+1)))=>jW hW hi1 tu t (z_ S tu t).1 x1 (F7 S t) ht a7.1 hx1 hp;have bc:=fun W (hW:Ig W ps S (fun k=>Y k\/(w.1.size<=k/\k<w.1.size+1)))=>gy hW hi t ht;have bb:=fun W (hW:Ig W ps S (fun k=>Y k\/(w.1.size<=k/\k<w.1.size+1)))=>gy hW hi low hw;have a6:=fun W (hW:Ig W ps S2 (fun k=>Y k\/(w.1.size<=k/\k<w.1.size+1)))=>gq hW hi2 x1 hx1;have a1:=fun W (hW:Ig W ps S2 (fun k=>Y k\/(w.1.size<=k/\k<w.1.size+1)))=>jX hW hi2 tu x1 hx1;have au:=fun W (hW:Ig W ps S2 (fun k=>Y k\/(w.1.size<=k/\k<w.1.size+1)))=>gq hW hi2 (z_ S2 tu x1).2 (gW hW tu x1).2;have ap:=fun W (hW:Ig W ps S2 (fun k=>Y k\/(w.1.size<=k/\k<w.1.size+1)))=>jX hW hi2 tu (z_ S2 tu x1).2 (gW hW tu x1).2;have ai:=fun W (hW:Ig W ps S2 (fun k=>Y k\/(w.1.size<=k/\k<w.1.size+1)))=>And.intro (gW hW tu x1) (jW hW hi2 tu (z_ S2 tu x1).2 (z_ S2 tu (z_ S2 tu x1).2).1 (z_ S2 tu (z_ S2 tu x1).2).2 false (gW hW tu x1).2 (gW hW tu _).1 (gW hW tu _).2 hp3);have an:=fun W (hW:Ig W ps S3 (fun k=>Y k\/(w.1.size<=k/\k<w.1.size+1)))=>fun(q:(z_ S2 tu x1).1<2^64)=>jW hW a4 tu t (z_ S tu t).1 (z_ S2 tu x1).1 false ht a7.1 q hp4;have ar:=fun W (hW:Ig W ps S4 (fun k=>Y k\/(w.1.size<=k/\k<w.1.size+1)))=>fun(q:(z_ S2 tu x1).2<2^64)=>jW hW bd tu x1 t (z_ S2 tu x1).2 true hx1 ht q hp5;have cr:=fun W (hW:Ig W ps S (fun k=>Y k\/(w.1.size<=k/\k<w.1.size+1)))=>cr W _ hW;try unfold ma at a0
 try unfold ma at cp
 try unfold ma at a1
 try unfold ma at ap
 try unfold ma at ai
 try unfold ma at an
 try unfold ma at ar
 rw[hr] at a5 cp;rw[hf] at a6;have bx:(((C8 S t:Nat):Int)==(C8 S low:Nat))=false:=m_
 generalize C8 S t=bk1 at*;generalize C8 S low=bk2 at*;rw[hg] at au;obtain⟨⟨b0,own⟩,bf⟩:∃r,z_ S tu t=r:=⟨_,rfl⟩;rw[bf] at a0 cp cr an;simp only at a0 cp cr an;obtain⟨⟨sa,sb⟩,bj⟩:∃r,z_ S2 tu x1=r:=⟨_,rfl⟩;rw[bj] at a1 au ap ai an ar;simp only at a1 au ap ai an ar;obtain⟨⟨sc,sd⟩,bk⟩:∃r,z_ S2 tu sb=r:=⟨_,rfl⟩;rw[bk] at ap ai;simp only at ap ai;have hq:((d:Int)==200)=false:=m_
 have bv:IntKind.i64.wrap ((d:Int)+1)=(d:Int)+1:=ax _ o_;have q0:=heap_alloc_new w (Xd ps tu);have B0:=c_ w (Xd ps tu);have bo:(w.alloc (Xd ps tu)).1.size=w.1.size+1:=s_
 have z0:=h.wide B0;rw[bo] at z0;have k0:Fo Y w (w.alloc (Xd ps tu)):=Fo.v_ B0 h.yl;have bt:w.1.size<(w.alloc (Xd ps tu)).1.size:=o_
 have HG:=kq13 a5 a0 cp bc bb a6 a1 au ap ai an ar cr;clear a5 a0 cp bc bb a6 a1 au ap ai an ar cr hp hi hi1 hi2 bt bo hr h200 bf a7 hb hf hg bj bk hp3 hp4 hp5 a4 bd;have H0:=kq3 z0 q0 k0;clear z0 q0 k0 B0 h;go_enter func221,ntmps221;go_wp2_with fail;have bq:w.1.size<(w.alloc (Xd ps tu)).1.size:=s_
 have bs:∀x:Fq (Below (w.alloc (Xd ps tu)).1.size (w.alloc (Xd ps tu))),x.to.cell? (y_ w.1.size)=some (PV ps):=fun x=>by rw[r_ ((x.ok.block _ bq).T H0.b)];rfl
 have ba:=fun x:Fq (Below (w.alloc (Xd ps tu)).1.size (w.alloc (Xd ps tu)))=>Calls.C7 (HG.a x.to (H0.a.a_ x.ok));have a':=fun x:Fq (Below (w.alloc (Xd ps tu)).1.size (w.alloc (Xd ps tu)))=>Calls.C7 (HG.d x.to (H0.a.a_ x.ok));have a9:=fun x:Fq (Below (w.alloc (Xd ps tu)).1.size (w.alloc (Xd ps tu)))=>Calls.C7 (HG.e x.to (H0.a.a_ x.ok));generalize bu:w.alloc (Xd ps tu)=W0 at*;refine iq (D_ W0) k_ k_ (aa _ _).drew (fun _=>?_);repeat (first | go_big_quiet_skip | (go_big_quiet_want;go_big_quiet_op;first | go_big_quiet_on | (apply Exists.intro;refine⟨fun x=>?_,?_⟩;(· first | with_reducible exact ba x | with_reducible exact a' x | with_reducible exact a9 x);go_big_quiet_on)))
 refine wpQuiet_nil ?_;rintro _ ⟨v,rfl⟩;have rr:=(v.ok.block w.1.size bq).T H0.b;have hs:=H0.a.a_ v.ok;have hk:=H0.c.T ((H0.a.A_ v.ok).M (fun k hk=>ab hk));obtain⟨w1,bm⟩:=Ii v.to;rw[bm] at rr hs hk⊢;clear bm v bs ba a' a9;obtain⟨c0,c1⟩:=Fp rr;have H1:=kq3 hs rr hk;clear rr hs hk;go_wp2_with fail;clear c0 c1;refine b8 (HG.b _ H1.a) fun w2 hb=>?_;have rr:=(hb.block w.1.size (gl H1.b)).T H1.b;have hs:=H1.a.a_ hb;have hk:=H1.c.T ((H1.a.A_ hb).M (fun k hk=>ab hk));obtain⟨c0,c1⟩:=Fp rr;have H2:=kq3 hs rr hk;clear hb rr hs hk;go_wp2_with fail;clear c0 c1;refine b8 (HG.a _ H2.a) fun w3 hb=>?_;have rr:=(hb.block w.1.size (gl H2.b)).T H2.b;have hs:=H2.a.a_ hb;have hk:=H2.c.T ((H2.a.A_ hb).M (fun k hk=>ab hk));obtain⟨c0,c1⟩:=Fp rr;have H3:=kq3 hs rr hk;clear hb rr hs hk;go_wp2_with fail;clear c0 c1;refine(HG.m _ H3.a).M ?_;rintro e w4 ⟨rfl,hs,ad⟩;have rr:=(ad.block w.1.size (ae ⟨Nat.le_refl _,aX _⟩)).T H3.b;have hk:=H3.c.T (ad.M (fun k hk=>ab hk));obtain⟨c0,c1⟩:=Fp rr;have H4:=kq3 hs rr hk;clear ad rr hs hk;go_wp2_with fail;clear c0 c1;refine(HG.c _ H4.a).M ?_;rintro e w5 ⟨rfl,hs,ad⟩;have rr:=(ad.block w.1.size (ae ⟨Nat.le_refl _,aX _⟩)).T H4.b;have hk:=H4.c.T (ad.M (fun k hk=>ab hk));obtain⟨c0,c1⟩:=Fp rr;have H5:=kq3 hs rr hk;clear ad rr hs hk;go_wp2_with fail;clear c0 c1;refine b8 (HG.f _ H5.a) fun w6 hb=>?_;have rr:=(hb.block w.1.size (gl H5.b)).T H5.b;have hs:=H5.a.a_ hb;have hk:=H5.c.T ((H5.a.A_ hb).M (fun k hk=>ab hk));obtain⟨c0,c1⟩:=Fp rr;have H6:=kq3 hs rr hk;clear hb rr hs hk;go_wp2_with fail;clear c0 c1;refine b8 (HG.g _ H6.a) fun w7 hb=>?_;have rr:=(hb.block w.1.size (gl H6.b)).T H6.b;have hs:=H6.a.a_ hb;have hk:=H6.c.T ((H6.a.A_ hb).M (fun k hk=>ab hk));obtain⟨c0,c1⟩:=Fp rr;have H7:=kq3 hs rr hk;clear hb rr hs hk;go_wp2_with fail;clear c0 c1;refine b8 (HG.h _ H7.a) fun w8 hb=>?_;have rr:=(hb.block w.1.size (gl H7.b)).T H7.b;have hs:=H7.a.a_ hb;have hk:=H7.c.T ((H7.a.A_ hb).M (fun k hk=>ab hk));obtain⟨c0,c1⟩:=Fp rr;have H8:=kq3 hs rr hk;clear hb rr hs hk;go_wp2_with fail;clear c0 c1;refine b8 (HG.i _ H8.a) fun w9 hb=>?_;have rr:=(hb.block w.1.size (gl H8.b)).T H8.b;have hs:=H8.a.a_ hb;have hk:=H8.c.T ((H8.a.A_ hb).M (fun k hk=>ab hk));obtain⟨c0,c1⟩:=Fp rr;have H9:=kq3 hs rr hk;clear hb rr hs hk;go_wp2_with fail;clear c0 c1;obtain⟨qb,q3⟩:=HG.j _ H9.a;refine q3.M ?_;clear q3;rintro e b1 ⟨rfl,hs,ad⟩;have rr:=(ad.block w.1.size (ae ⟨Nat.le_refl _,aX _⟩)).T H9.b;have hk:=H9.c.T (ad.M (fun k hk=>ab hk));obtain⟨c0,c1⟩:=Fp rr;have a2:=kq3 hs rr hk;have HQ:=If qb;clear ad rr hs hk qb;go_wp2_with fail;clear c0 c1;refine(HG.k _ a2.a HQ.O.1).M ?_;rintro e b2 ⟨rfl,hs,ad⟩;have rr:=(ad.block w.1.size (ae ⟨Nat.le_refl _,aX _⟩)).T a2.b;have hk:=a2.c.T (ad.M (fun k hk=>ab hk));obtain⟨c0,c1⟩:=Fp rr;have a3:=kq3 hs rr hk;clear ad rr hs hk;go_wp2_with fail;clear c0 c1;refine(HG.l _ a3.a HQ.O.2).M ?_;rintro e b4 ⟨rfl,hs,ad⟩;have rr:=(ad.block w.1.size (ae ⟨Nat.le_refl _,aX _⟩)).T a3.b;have hk:=a3.c.T (ad.M (fun k hk=>ab hk));obtain⟨c0,c1⟩:=Fp rr;have a8:=kq3 hs rr hk;clear ad rr hs hk;go_wp2_with fail;clear c0 c1;go_ret;exact⟨rfl,a8.a.M (fun k hk=>ab hk),a8.c⟩
theorem AW{tu:Bool}{S S':St}{t u_ x y:Nat}{is:Bool}(h:fixR tu S t u_ x is=some (y,S')):
 (is=true/\y=t/\S'=S)\/(is=false/\F7 S x=false/\y=t/\S'=S)\/(is=false/\F7 S x=true/\F7 S (z_ S tu x).2=false/\y=t/\S'=S)\/
 (is=false/\F7 S x=true/\F7 S (z_ S tu x).2=true/\y=x/\∃S3 S4,putJ S tu (z_ S tu x).2 (z_ S tu (z_ S tu x).2).1 (z_ S tu (z_ S tu x).2).2 false=some S3/\putJ S3 tu t u_ (z_ S tu x).1 false=some S4/\putJ S4 tu x t (z_ S tu x).2 true=some S'):=by
 unfold fixR at h;cases is with
 | true=>
  rw[if_pos (ab rfl)] at h;injection h with h
  injection h with e1 e2
  exact ab ⟨rfl,e1.S,e2.S⟩
 | false=>
  split at h
  ·rename_i hc;injection h with h
   injection h with e1 e2
   rcases hc with hc | hc
   ·cases hc
   ·exact ae (ab ⟨rfl,hc,e1.S,e2.S⟩)
  ·rename_i hc;have hx:F7 S x=true:=by simpa using hc
   split at h
   ·rename_i hb;injection h with h
    injection h with e1 e2
    exact ae (ae (ab ⟨rfl,hx,hb,e1.S,e2.S⟩))
   ·rename_i hb;have hb:F7 S (z_ S tu x).2=true:=by simpa using hb
    split at h
    ·cases h
    ·rename_i S3 h3;split at h
     ·cases h
     ·rename_i S4 h4;obtain⟨S5,h5,h6⟩:=aF.1 h;injection h6 with e1 e2
      subst e1 e2;exact ae (ae (ae ⟨rfl,hx,hb,rfl,S3,S4,h3,h4,h5⟩))
theorem rX(tu:Bool)(m:Nat)(hm:m<2^64):∀(f d:Nat),d+f=200->∀{w:World} {S S':St} {Y:Nat->Prop} {t low x:Nat},Ig w ps S Y->Fv S->t<2^64->low<2^64->
 joinR tu m f S t low=some (x,S')->
 Ct 221 #[ma ps tu,Xu t,Xu m,Xu low,Xi d] w fun e w'=>e=.returned (Xu x)/\Ig w' ps S' Y/\Fo Y w w':=by
 intro f;induction f with
 | zero=>
  intro d hd w S S' Y t low x h hi ht hw hj;rw[rf] at hj;obtain⟨S1,h1,h2⟩:=aF.1 hj;injection h2 with e1 e2
  subst e1 e2;exact DU h hi tu m t low hm ht hw d o_ o_ h1
 | succ f ih=>
  intro d hd w S S' Y t low x h hi ht hw hj;rw[re] at hj;split at hj
  ·rename_i hc;obtain⟨S1,h1,h2⟩:=aF.1 hj;injection h2 with e1 e2
   subst e1 e2;exact DW h hi tu m t low hm ht hw d o_ o_ hc.1 hc.2 h1
  ·rename_i hc;split at hj
   ·cases hj
   rename_i x1 S1 hj1;split at hj
   ·cases hj
   rename_i S2 hp;obtain⟨hj,-⟩:=lM hj;obtain⟨ai,ad⟩:=lU tu f hi hj1;have ad:=ad hm;have an:=jV ai hp;have cr:=fun(W:World) (Z:Nat->Prop) (hW:Ig W ps S Z)=>ih (d+1) o_ hW hi (gW h tu t).2 hw hj1;rcases AW hj with⟨c1,rfl,rfl⟩ | ⟨c1,c2,rfl,rfl⟩ | ⟨c1,c2,c3,rfl,rfl⟩ | ⟨c1,c2,c3,rfl,S3,S4,h3,h4,h5⟩
   ·exact DV h hi tu m _ low hm ht hw d o_ o_ c1 ad ai an cr hp
   ·exact DR h hi tu m _ low hm ht hw d o_ o_ c1 (fun e=>hc ⟨c1,e⟩) ad ai an cr hp c2
   ·exact DS h hi tu m _ low hm ht hw d o_ o_ c1 (fun e=>hc ⟨c1,e⟩) ad ai an cr hp c2 c3
   ·exact DT h hi tu m t low hm ht hw d o_ o_ c1 (fun e=>hc ⟨c1,e⟩) ad ai an cr hp c2 c3 h3 h4 h5
theorem Ia{S S1:St}(h:Ig w ps S Y)(hi:Fv S)(tu:Bool)(t m low:Nat)(hm:m<2^64)(ht:t<2^64)(hw:low<2^64)(hj:joinR tu m 200 S t low=some (x,S1))(c1:F7 S1 x=true)(c2:F7 S1 (z_ S1 tu x).2=true){S2:St}(hp:putJ S1 tu x (z_ S1 tu x).1 (z_ S1 tu x).2 false=some S2):
 Ct 189 #[ma ps tu,Xu t,Xu m,Xu low] w fun e w'=>e=.returned (Xu x)/\Ig w' ps S2 Y/\Fo Y w w':=by
 obtain⟨ai,hx⟩:=lU tu 200 hi hj;have hx:=hx hm;have cj:=fun W (hW:Ig W ps S (fun k=>Y k\/(w.1.size<=k/\k<w.1.size+1)))=>rX tu m hm 200 0 rfl hW hi ht hw hj;have ap:=fun W (hW:Ig W ps S1 (fun k=>Y k\/(w.1.size<=k/\k<w.1.size+1)))=>jX hW ai tu x hx;have ar:=fun W (hW:Ig W ps S1 (fun k=>Y k\/(w.1.size<=k/\k<w.1.size+1)))=>gq hW ai x hx;have an:=fun W (hW:Ig W ps S1 (fun k=>Y k\/(w.1.size<=k/\k<w.1.size+1)))=>gq hW ai (z_ S1 tu x).2 (gW hW tu x).2;have cp:=fun W (hW:Ig W ps S1 (fun k=>Y k\/(w.1.size<=k/\k<w.1.size+1)))=>jW hW ai tu x (z_ S1 tu x).1 (z_ S1 tu x).2 false hx (gW hW tu x).1 (gW hW tu x).2 hp;rw[c1] at ar;rw[c2] at an;unfold ma at cj;unfold ma at ap;unfold ma at cp;unfold ma;obtain⟨⟨sa,sb⟩,au⟩:∃r,z_ S1 tu x=r:=⟨_,rfl⟩;rw[au] at ap an cp;simp only at ap an cp;have q0:=heap_alloc_new w (Xd ps tu);have B0:=c_ w (Xd ps tu);have a0:(w.alloc (Xd ps tu)).1.size=w.1.size+1:=s_
 have z0:=h.wide B0;rw[a0] at z0;have k0:Fo Y w (w.alloc (Xd ps tu)):=Fo.v_ B0 h.yl;have a1:w.1.size<(w.alloc (Xd ps tu)).1.size:=o_
 have HG:=kq5 cj ap ar an cp;clear cj ap ar an cp hi ai a1 a0 au hj c1 c2 hp;have c0:(w.alloc (Xd ps tu)).cell? (y_ w.1.size)=some (PV ps):=e_ q0
 have c1:(w.alloc (Xd ps tu)).cell? (x_ w.1.size 1)=some (.bool tu):=e_ q0
 have H0:=kq3 z0 q0 k0;clear z0 q0 k0 B0 h;go_enter func189,ntmps189;go_wp2_with fail;clear c0 c1;refine(HG.a _ H0.a).M ?_;rintro e w1 ⟨rfl,hs,ad⟩;have rr:=(ad.block w.1.size (ae ⟨Nat.le_refl _,aX _⟩)).T H0.b;have hk:=H0.c.T (ad.M (fun k hk=>ab hk));obtain⟨c0,c1⟩:=Fp rr;have H1:=kq3 hs rr hk;clear ad rr hs hk;go_wp2_with fail;clear c0 c1;refine b8 (HG.b _ H1.a) fun w2 hb=>?_;have rr:=(hb.block w.1.size (gl H1.b)).T H1.b;have hs:=H1.a.a_ hb;have hk:=H1.c.T ((H1.a.A_ hb).M (fun k hk=>ab hk));obtain⟨c0,c1⟩:=Fp rr;have H2:=kq3 hs rr hk;clear hb rr hs hk;go_wp2_with fail;clear c0 c1;refine b8 (HG.c _ H2.a) fun w3 hb=>?_;have rr:=(hb.block w.1.size (gl H2.b)).T H2.b;have hs:=H2.a.a_ hb;have hk:=H2.c.T ((H2.a.A_ hb).M (fun k hk=>ab hk));obtain⟨c0,c1⟩:=Fp rr;have H3:=kq3 hs rr hk;clear hb rr hs hk;go_wp2_with fail;clear c0 c1;refine b8 (HG.d _ H3.a) fun w4 hb=>?_;have rr:=(hb.block w.1.size (gl H3.b)).T H3.b;have hs:=H3.a.a_ hb;have hk:=H3.c.T ((H3.a.A_ hb).M (fun k hk=>ab hk));obtain⟨c0,c1⟩:=Fp rr;have H4:=kq3 hs rr hk;clear hb rr hs hk;go_wp2_with fail;clear c0 c1;refine(HG.e _ H4.a).M ?_;rintro e w5 ⟨rfl,hs,ad⟩;have rr:=(ad.block w.1.size (ae ⟨Nat.le_refl _,aX _⟩)).T H4.b;have hk:=H4.c.T (ad.M (fun k hk=>ab hk));obtain⟨c0,c1⟩:=Fp rr;have H5:=kq3 hs rr hk;clear ad rr hs hk;go_wp2_with fail;clear c0 c1;go_ret;exact⟨rfl,H5.a.M (fun k hk=>ab hk),H5.c⟩
theorem DZ{S S1:St}(h:Ig w ps S Y)(hi:Fv S)(tu:Bool)(t m low:Nat)(hm:m<2^64)(ht:t<2^64)(hw:low<2^64)(hj:joinR tu m 200 S t low=some (x,S1))(c1:F7 S1 x=true)(c2:F7 S1 (z_ S1 tu x).2=false):
 Ct 189 #[ma ps tu,Xu t,Xu m,Xu low] w fun e w'=>e=.returned (Xu x)/\Ig w' ps S1 Y/\Fo Y w w':=by
 obtain⟨an,hx⟩:=lU tu 200 hi hj;have hx:=hx hm;have cj:=fun W (hW:Ig W ps S (fun k=>Y k\/(w.1.size<=k/\k<w.1.size+1)))=>rX tu m hm 200 0 rfl hW hi ht hw hj;have ai:=fun W (hW:Ig W ps S1 (fun k=>Y k\/(w.1.size<=k/\k<w.1.size+1)))=>jX hW an tu x hx;have ar:=fun W (hW:Ig W ps S1 (fun k=>Y k\/(w.1.size<=k/\k<w.1.size+1)))=>gq hW an x hx;have ad:=fun W (hW:Ig W ps S1 (fun k=>Y k\/(w.1.size<=k/\k<w.1.size+1)))=>gq hW an (z_ S1 tu x).2 (gW hW tu x).2;rw[c1] at ar;rw[c2] at ad;unfold ma at cj;unfold ma at ai;unfold ma;obtain⟨⟨sa,sb⟩,au⟩:∃r,z_ S1 tu x=r:=⟨_,rfl⟩;rw[au] at ai ad;simp only at ai ad;have q0:=heap_alloc_new w (Xd ps tu);have B0:=c_ w (Xd ps tu);have a0:(w.alloc (Xd ps tu)).1.size=w.1.size+1:=s_
 have z0:=h.wide B0;rw[a0] at z0;have k0:Fo Y w (w.alloc (Xd ps tu)):=Fo.v_ B0 h.yl;have a1:w.1.size<(w.alloc (Xd ps tu)).1.size:=o_
 have HG:=kq4 cj ai ar ad;clear cj ai ar ad hi an a1 a0 au hj c1 c2;have c0:(w.alloc (Xd ps tu)).cell? (y_ w.1.size)=some (PV ps):=e_ q0
 have c1:(w.alloc (Xd ps tu)).cell? (x_ w.1.size 1)=some (.bool tu):=e_ q0
 have H0:=kq3 z0 q0 k0;clear z0 q0 k0 B0 h;go_enter func189,ntmps189;go_wp2_with fail;clear c0 c1;refine(HG.a _ H0.a).M ?_;rintro e w1 ⟨rfl,hs,ap⟩;have rr:=(ap.block w.1.size (ae ⟨Nat.le_refl _,aX _⟩)).T H0.b;have hk:=H0.c.T (ap.M (fun k hk=>ab hk));obtain⟨c0,c1⟩:=Fp rr;have H1:=kq3 hs rr hk;clear ap rr hs hk;go_wp2_with fail;clear c0 c1;refine b8 (HG.b _ H1.a) fun w2 hb=>?_;have rr:=(hb.block w.1.size (gl H1.b)).T H1.b;have hs:=H1.a.a_ hb;have hk:=H1.c.T ((H1.a.A_ hb).M (fun k hk=>ab hk));obtain⟨c0,c1⟩:=Fp rr;have H2:=kq3 hs rr hk;clear hb rr hs hk;go_wp2_with fail;clear c0 c1;refine b8 (HG.c _ H2.a) fun w3 hb=>?_;have rr:=(hb.block w.1.size (gl H2.b)).T H2.b;have hs:=H2.a.a_ hb;have hk:=H2.c.T ((H2.a.A_ hb).M (fun k hk=>ab hk));obtain⟨c0,c1⟩:=Fp rr;have H3:=kq3 hs rr hk;clear hb rr hs hk;go_wp2_with fail;clear c0 c1;refine b8 (HG.d _ H3.a) fun w4 hb=>?_;have rr:=(hb.block w.1.size (gl H3.b)).T H3.b;have hs:=H3.a.a_ hb;have hk:=H3.c.T ((H3.a.A_ hb).M (fun k hk=>ab hk));obtain⟨c0,c1⟩:=Fp rr;have H4:=kq3 hs rr hk;clear hb rr hs hk;go_wp2_with fail;clear c0 c1;go_ret;exact⟨rfl,H4.a.M (fun k hk=>ab hk),H4.c⟩
theorem DY{S S1:St}(h:Ig w ps S Y)(hi:Fv S)(tu:Bool)(t m low:Nat)(hm:m<2^64)(ht:t<2^64)(hw:low<2^64)(hj:joinR tu m 200 S t low=some (x,S1))(c1:F7 S1 x=false):
 Ct 189 #[ma ps tu,Xu t,Xu m,Xu low] w fun e w'=>e=.returned (Xu x)/\Ig w' ps S1 Y/\Fo Y w w':=by
 obtain⟨ai,hx⟩:=lU tu 200 hi hj;have hx:=hx hm;have cj:=fun W (hW:Ig W ps S (fun k=>Y k\/(w.1.size<=k/\k<w.1.size+1)))=>rX tu m hm 200 0 rfl hW hi ht hw hj;have ad:=fun W (hW:Ig W ps S1 (fun k=>Y k\/(w.1.size<=k/\k<w.1.size+1)))=>jX hW ai tu x hx;have ap:=fun W (hW:Ig W ps S1 (fun k=>Y k\/(w.1.size<=k/\k<w.1.size+1)))=>gq hW ai x hx;rw[c1] at ap;unfold ma at cj;unfold ma at ad;unfold ma;obtain⟨⟨sa,sb⟩,ar⟩:∃r,z_ S1 tu x=r:=⟨_,rfl⟩;rw[ar] at ad;simp only at ad;have q0:=heap_alloc_new w (Xd ps tu);have B0:=c_ w (Xd ps tu);have au:(w.alloc (Xd ps tu)).1.size=w.1.size+1:=s_
 have z0:=h.wide B0;rw[au] at z0;have k0:Fo Y w (w.alloc (Xd ps tu)):=Fo.v_ B0 h.yl;have a0:w.1.size<(w.alloc (Xd ps tu)).1.size:=o_
 have HG:=kq3 cj ad ap;clear cj ad ap hi ai a0 au ar hj c1;have c0:(w.alloc (Xd ps tu)).cell? (y_ w.1.size)=some (PV ps):=e_ q0
 have c1:(w.alloc (Xd ps tu)).cell? (x_ w.1.size 1)=some (.bool tu):=e_ q0
 have H0:=kq3 z0 q0 k0;clear z0 q0 k0 B0 h;go_enter func189,ntmps189;go_wp2_with fail;clear c0 c1;refine(HG.a _ H0.a).M ?_;rintro e w1 ⟨rfl,hs,an⟩;have rr:=(an.block w.1.size (ae ⟨Nat.le_refl _,aX _⟩)).T H0.b;have hk:=H0.c.T (an.M (fun k hk=>ab hk));obtain⟨c0,c1⟩:=Fp rr;have H1:=kq3 hs rr hk;clear an rr hs hk;go_wp2_with fail;clear c0 c1;refine b8 (HG.b _ H1.a) fun w2 hb=>?_;have rr:=(hb.block w.1.size (gl H1.b)).T H1.b;have hs:=H1.a.a_ hb;have hk:=H1.c.T ((H1.a.A_ hb).M (fun k hk=>ab hk));obtain⟨c0,c1⟩:=Fp rr;have H2:=kq3 hs rr hk;clear hb rr hs hk;go_wp2_with fail;clear c0 c1;refine b8 (HG.c _ H2.a) fun w3 hb=>?_;have rr:=(hb.block w.1.size (gl H2.b)).T H2.b;have hs:=H2.a.a_ hb;have hk:=H2.c.T ((H2.a.A_ hb).M (fun k hk=>ab hk));obtain⟨c0,c1⟩:=Fp rr;have H3:=kq3 hs rr hk;clear hb rr hs hk;go_wp2_with fail;clear c0 c1;go_ret;exact⟨rfl,H3.a.M (fun k hk=>ab hk),H3.c⟩
theorem wE{S S':St}(h:Ig w ps S Y)(hi:Fv S)(tu:Bool)(t m low:Nat)(hm:m<2^64)(ht:t<2^64)(hw:low<2^64)(hj:topR tu S t m low=some (x,S')):
 Ct 189 #[ma ps tu,Xu t,Xu m,Xu low] w fun e w'=>e=.returned (Xu x)/\Ig w' ps S' Y/\Fo Y w w':=by
 unfold topR at hj
 split at hj
 ·cases hj
 ·rename_i y S1 h1
  by_cases c1:F7 S1 y=true
  ·by_cases c2:F7 S1 (z_ S1 tu y).2=true
   ·rw[if_pos ⟨c1,c2⟩] at hj;obtain⟨S2,h2,h3⟩:=aF.1 hj
    injection h3 with e1 e2
    subst e1 e2;exact Ia h hi tu t m low hm ht hw h1 c1 c2 h2
   ·rw[if_neg (fun q=>c2 q.2)] at hj
    injection hj with hj
    injection hj with e1 e2
    subst e1 e2;exact DZ h hi tu t m low hm ht hw h1 c1 (by simpa using c2)
  ·rw[if_neg (fun q=>c1 q.1)] at hj
   injection hj with hj
   injection hj with e1 e2
   subst e1 e2;exact DY h hi tu t m low hm ht hw h1 (by simpa using c1)
theorem qXvab{P:Prop}(h:P:=by
 clear hc;generalize C8 S l=bk1 at*;generalize C8 S r=bk2 at*;have HG:=kq8 ap ad ai an ar au h hp;clear ap ad ai an ar au h hp hi h0 t1 t2 t3;go_enter func142,ntmps142;go_wp2_with fail;refine Jc HG.a ?_;go_wp2_with fail;refine b8 HG.b fun w1 hb=>?_;have H1:=If hb;clear hb;go_wp2_with fail;refine b8 (HG.c _ H1.O) fun w2 hb=>?_;have H2:=If (b_ H1.O hb);clear hb;go_wp2_with fail;refine b8 (HG.d _ H2.O) fun w3 hb=>?_;have H3:=If (b_ H2.O hb);clear hb;go_wp2_with fail;refine b8 (HG.e _ H3.O) fun w4 hb=>?_;have H4:=If (b_ H3.O hb);clear hb;go_wp2_with fail;refine b8 (HG.f _ H4.O) fun w5 hb=>?_;have H5:=If (b_ H4.O hb);clear hb;go_wp2_with fail;refine(HG.h _ H5.O).M ?_;rintro e w6 ⟨rfl,hs,hk⟩;have HE:=kq2 hs ((HG.g.A_ H5.O).T hk);clear hs hk;go_wp2_with fail;go_ret2;exact⟨rfl,HE.O⟩):P:=h
theorem DM{S S':St}(h:Ig w ps S Y)(hi:Fv S)(l m r:Nat)(hl:l<2^64)(hm:m<2^64)(hr:r<2^64)(h0:m≠0)(t1:isT S l=true)(t2:isT S m=true)(t3:isT S r=true)(hc:C8 S r<C8 S l)(hp:topR false S l m r=some (x,S')):
 Ct 142 #[PV ps,Xu l,Xu m,Xu r] w fun e w'=>e=.returned (.tuple #[Xu x,Xi 0])/\Ig w' ps S' Y/\Fo Y w w':=by
 have ap:=fB h hi 0 o_;rw[fU] at ap;have ad:=io h hi l hl;have ai:=fun W (hW:D_ w W)=>io (h.a_ hW) hi m hm;have an:=fun W (hW:D_ w W)=>io (h.a_ hW) hi r hr;have ar:=fun W (hW:D_ w W)=>gy (h.a_ hW) hi l hl;have au:=fun W (hW:D_ w W)=>gy (h.a_ hW) hi r hr;rw[t1] at ad;rw[t2] at ai;rw[t3] at an;have hq:((m:Int)==0)=false:=m_
 have hp:=fun W (hW:D_ w W)=>wE (h.a_ hW) hi false l m r hm hl hr hp;unfold ma at hp;have a0:((C8 S r:Nat):Int)<(C8 S l:Nat):=o_
 exact qXvab
theorem DN{S S':St}(h:Ig w ps S Y)(hi:Fv S)(l m r:Nat)(hl:l<2^64)(hm:m<2^64)(hr:r<2^64)(h0:m≠0)(t1:isT S l=true)(t2:isT S m=true)(t3:isT S r=true)(hc:C8 S l<C8 S r)(hp:topR true S r m l=some (x,S')):
 Ct 142 #[PV ps,Xu l,Xu m,Xu r] w fun e w'=>e=.returned (.tuple #[Xu x,Xi 0])/\Ig w' ps S' Y/\Fo Y w w':=by
 have ap:=fB h hi 0 o_;rw[fU] at ap;have ad:=io h hi l hl;have ai:=fun W (hW:D_ w W)=>io (h.a_ hW) hi m hm;have an:=fun W (hW:D_ w W)=>io (h.a_ hW) hi r hr;have ar:=fun W (hW:D_ w W)=>gy (h.a_ hW) hi l hl;have au:=fun W (hW:D_ w W)=>gy (h.a_ hW) hi r hr;rw[t1] at ad;rw[t2] at ai;rw[t3] at an;have hq:((m:Int)==0)=false:=m_
 have hp:=fun W (hW:D_ w W)=>wE (h.a_ hW) hi true r m l hm hr hl hp;unfold ma at hp;have a0:((C8 S l:Nat):Int)<(C8 S r:Nat):=o_
 have a1:¬((C8 S r:Nat):Int)<(C8 S l:Nat):=o_
 exact qXvab
theorem DO{S S':St}(h:Ig w ps S Y)(hi:Fv S)(l m r:Nat)(hl:l<2^64)(hm:m<2^64)(hr:r<2^64)(h0:m≠0)(t1:isT S l=true)(t2:isT S m=true)(t3:isT S r=true)(hc:C8 S l=C8 S r)(hr1:F7 S l=true)(hp:putRM S m l r false=some S'):
 Ct 142 #[PV ps,Xu l,Xu m,Xu r] w fun e w'=>e=.returned (.tuple #[Xu m,Xi 0])/\Ig w' ps S' Y/\Fo Y w w':=by
 have au:=fB h hi 0 o_;rw[fU] at au;have ad:=io h hi l hl;have ai:=fun W (hW:D_ w W)=>io (h.a_ hW) hi m hm;have an:=fun W (hW:D_ w W)=>io (h.a_ hW) hi r hr;have a0:=fun W (hW:D_ w W)=>gy (h.a_ hW) hi l hl;have ap:=fun W (hW:D_ w W)=>gy (h.a_ hW) hi r hr;rw[t1] at ad;rw[t2] at ai;rw[t3] at an;have hq:((m:Int)==0)=false:=m_
 have hp:=fun W (hW:D_ w W)=>nh (h.a_ hW) hi m l r false hm hl hr hp;have ar:=fun W (hW:D_ w W)=>gq (h.a_ hW) hi l hl;rw[hr1] at ar;rw[<-hc] at ap;clear hc hr1;generalize C8 S l=bk1 at*;have HG:=kq9 au ad ai an a0 ap h ar hp;clear au ad ai an a0 ap h ar hp hi h0 t1 t2 t3;go_enter func142,ntmps142;go_wp2_with fail;refine Jc HG.a ?_;go_wp2_with fail;refine b8 HG.b fun w1 hb=>?_;have H1:=If hb;clear hb;go_wp2_with fail;refine b8 (HG.c _ H1.O) fun w2 hb=>?_;have H2:=If (b_ H1.O hb);clear hb;go_wp2_with fail;refine b8 (HG.d _ H2.O) fun w3 hb=>?_;have H3:=If (b_ H2.O hb);clear hb;go_wp2_with fail;refine b8 (HG.e _ H3.O) fun w4 hb=>?_;have H4:=If (b_ H3.O hb);clear hb;go_wp2_with fail;refine b8 (HG.f _ H4.O) fun w5 hb=>?_;have H5:=If (b_ H4.O hb);clear hb;go_wp2_with fail;refine b8 (HG.h _ H5.O) fun w6 hb=>?_;have H6:=If (b_ H5.O hb);clear hb;go_wp2_with fail;refine(HG.i _ H6.O).M ?_;rintro e w7 ⟨rfl,hs,hk⟩;have HE:=kq2 hs ((HG.g.A_ H6.O).T hk);clear hs hk;go_wp2_with fail;go_ret2;exact⟨rfl,HE.O⟩
theorem qXvaa{P:Prop}(h:P:=by
 have ar:=fun W (hW:D_ w W)=>gq (h.a_ hW) hi l hl;rw[hr1] at ar;rw[<-hc] at ap;clear hc hr1;generalize C8 S l=bk1 at*;have au:=fun W (hW:D_ w W)=>gq (h.a_ hW) hi r hr;rw[hr2] at au;clear hr2;have HG:=kq10 a0 ad ai an a1 ap h ar au hp;clear a0 ad ai an a1 ap h ar au hp hi h0 t1 t2 t3;go_enter func142,ntmps142;go_wp2_with fail;refine Jc HG.a ?_;go_wp2_with fail;refine b8 HG.b fun w1 hb=>?_;have H1:=If hb;clear hb;go_wp2_with fail;refine b8 (HG.c _ H1.O) fun w2 hb=>?_;have H2:=If (b_ H1.O hb);clear hb;go_wp2_with fail;refine b8 (HG.d _ H2.O) fun w3 hb=>?_;have H3:=If (b_ H2.O hb);clear hb;go_wp2_with fail;refine b8 (HG.e _ H3.O) fun w4 hb=>?_;have H4:=If (b_ H3.O hb);clear hb;go_wp2_with fail;refine b8 (HG.f _ H4.O) fun w5 hb=>?_;have H5:=If (b_ H4.O hb);clear hb;go_wp2_with fail;refine b8 (HG.h _ H5.O) fun w6 hb=>?_;have H6:=If (b_ H5.O hb);clear hb;go_wp2_with fail;refine b8 (HG.i _ H6.O) fun w7 hb=>?_;have H7:=If (b_ H6.O hb);clear hb;go_wp2_with fail;refine(HG.j _ H7.O).M ?_;rintro e w8 ⟨rfl,hs,hk⟩;have HE:=kq2 hs ((HG.g.A_ H7.O).T hk);clear hs hk;go_wp2_with fail;go_ret2;exact⟨rfl,HE.O⟩):P:=h
theorem DP{S S':St}(h:Ig w ps S Y)(hi:Fv S)(l m r:Nat)(hl:l<2^64)(hm:m<2^64)(hr:r<2^64)(h0:m≠0)(t1:isT S l=true)(t2:isT S m=true)(t3:isT S r=true)(hc:C8 S l=C8 S r)(hr1:F7 S l=false)(hr2:F7 S r=true)(hp:putRM S m l r false=some S'):
 Ct 142 #[PV ps,Xu l,Xu m,Xu r] w fun e w'=>e=.returned (.tuple #[Xu m,Xi 0])/\Ig w' ps S' Y/\Fo Y w w':=by
 have a0:=fB h hi 0 o_;rw[fU] at a0;have ad:=io h hi l hl;have ai:=fun W (hW:D_ w W)=>io (h.a_ hW) hi m hm;have an:=fun W (hW:D_ w W)=>io (h.a_ hW) hi r hr;have a1:=fun W (hW:D_ w W)=>gy (h.a_ hW) hi l hl;have ap:=fun W (hW:D_ w W)=>gy (h.a_ hW) hi r hr;rw[t1] at ad;rw[t2] at ai;rw[t3] at an;have hq:((m:Int)==0)=false:=m_
 have hp:=fun W (hW:D_ w W)=>nh (h.a_ hW) hi m l r false hm hl hr hp;exact qXvaa
theorem DL{S S':St}(h:Ig w ps S Y)(hi:Fv S)(l m r:Nat)(hl:l<2^64)(hm:m<2^64)(hr:r<2^64)(h0:m≠0)(t1:isT S l=true)(t2:isT S m=true)(t3:isT S r=true)(hc:C8 S l=C8 S r)(hr1:F7 S l=false)(hr2:F7 S r=false)(hp:putRM S m l r true=some S'):
 Ct 142 #[PV ps,Xu l,Xu m,Xu r] w fun e w'=>e=.returned (.tuple #[Xu m,Xi 0])/\Ig w' ps S' Y/\Fo Y w w':=by
 have a0:=fB h hi 0 o_;rw[fU] at a0;have ad:=io h hi l hl;have ai:=fun W (hW:D_ w W)=>io (h.a_ hW) hi m hm;have an:=fun W (hW:D_ w W)=>io (h.a_ hW) hi r hr;have a1:=fun W (hW:D_ w W)=>gy (h.a_ hW) hi l hl;have ap:=fun W (hW:D_ w W)=>gy (h.a_ hW) hi r hr;rw[t1] at ad;rw[t2] at ai;rw[t3] at an;have hq:((m:Int)==0)=false:=m_
 have hp:=fun W (hW:D_ w W)=>nh (h.a_ hW) hi m l r true hm hl hr hp;exact qXvaa
theorem DK{S S':St}(h:Ig w ps S Y)(hi:Fv S)(l m r:Nat)(hl:l<2^64)(hm:m<2^64)(hr:r<2^64){R:Nat×Nat}(hR:redJ S l m r=some (R,S')):
 Ct 142 #[PV ps,Xu l,Xu m,Xu r] w fun e w'=>e=.returned (.tuple #[Xu R.1,Xi R.2])/\Ig w' ps S' Y/\Fo Y w w':=by
 unfold redJ at hR
 split at hR
 ·cases hR
 rename_i hc;simp only[not_or,Bool.not_eq_false] at hc;obtain⟨h0,t1,t2,t3⟩:=hc
 split at hR
 ·rename_i hc;obtain⟨⟨x,S1⟩,h1,h2⟩:=aF.1 hR
  injection h2 with e1 e2
  subst e1 e2;exact DM h hi l m r hl hm hr h0 t1 t2 t3 hc h1
 ·rename_i hc1
  split at hR
  ·rename_i hc;obtain⟨⟨x,S1⟩,h1,h2⟩:=aF.1 hR
   injection h2 with e1 e2
   subst e1 e2;exact DN h hi l m r hl hm hr h0 t1 t2 t3 hc h1
  ·rename_i hc2;obtain⟨S1,h1,h2⟩:=aF.1 hR
   injection h2 with e1 e2
   subst e1 e2;have he:C8 S l=C8 S r:=o_
   cases a1:F7 S l with
   | true=>rw[a1] at h1;exact DO h hi l m r hl hm hr h0 t1 t2 t3 he a1 h1
   | false=>
    cases a2:F7 S r with
    | true=>rw[a1,a2] at h1;exact DP h hi l m r hl hm hr h0 t1 t2 t3 he a1 a2 h1
    | false=>rw[a1,a2] at h1;exact DL h hi l m r hl hm hr h0 t1 t2 t3 he a1 a2 h1
theorem BK:kW 142 redJ where
 enter args w:=by go_simp
 inv hi h:=(wG hi h).1
 lt hi _ hm _ h:=(wG hi h).2.1 hm
 ok h:=by
  unfold redJ at h;split at h
  ·cases h
  ·split at h
   ·obtain⟨_,_,h2⟩:=aF.1 h;injection h2 with e1 e2
    rw[<-e1]
   ·split at h
    ·obtain⟨_,_,h2⟩:=aF.1 h;injection h2 with e1 e2
     rw[<-e1]
    ·obtain⟨_,_,h2⟩:=aF.1 h;injection h2 with e1 e2
     rw[<-e1]
 call h hi hl hm hr hR:=DK h hi _ _ _ hl hm hr hR
theorem ot:jD 2 142 235 redJ:=⟨ae rfl,E3,BK,Aj⟩
end
section
open Go.RowKit Tryz Go.BigFrame Go.Maps Go.WideMaps Lf Tr
namespace Bt
variable{d:Nat}{j:Nat}
def partL {d:Nat}(x:Bt (d+1))(j:Nat):List It:=if(Bn.ks x).length=0 then(Bn.es x).take j else lo ((Bn.es x).take j) (((Bn.ks x).map its).take j)
theorem partL_zero(x:Bt (d+1)):partL x 0=[]:=by unfold partL;split<;>simp[lo]
theorem partL_leaf(x:Bt (d+1))(h:(Bn.ks x).length=0)(hj:j<(Bn.es x).length):partL x (j+1)=partL x j++[(Bn.es x)[j]]:=by
 unfold partL;simp_all
theorem partL_kid(x:Bt (d+1))(h:(Bn.ks x).length=(Bn.es x).length+1)(hj:j<(Bn.es x).length):partL x (j+1)=partL x j++its ((Bn.ks x)[j]' o_)++[(Bn.es x)[j]]:=by
 unfold partL;rw[if_neg o_,if_neg o_,aw hj,aw (by grind),LE _ _ _ _ (by grind),bG,aY]
theorem partL_all(x:Bt (d+1))(h:(Bn.ks x).length=0):partL x (Bn.es x).length=its x:=by
 unfold partL;rw[if_pos h,ct,ga,bH.1 h];exact(jY _).S
theorem partL_end(x:Bt (d+1))(h:(Bn.ks x).length=(Bn.es x).length+1):partL x (Bn.es x).length++its ((Bn.ks x)[(Bn.es x).length]' o_)=its x:=by
 rw[ga,xU (Bn.es x) ((Bn.ks x).map its) (Bn.es x).length Ih (by grind)];unfold partL;rw[if_neg o_,List.drop_length,bI (by grind),bG];rfl
theorem partL_le(x:Bt (d+1))(h:(Bn.ks x).length=0\/(Bn.ks x).length=(Bn.es x).length+1)(j:Nat)(hj:j<=(Bn.es x).length):(partL x j).length<=(its x).length:=by
 rcases h with h | h
 ·rw[<-partL_all x h];unfold partL
  grind
 ·rw[ga,xU (Bn.es x) ((Bn.ks x).map its) j hj (by rw[am,h])];unfold partL
  grind
def partN {d:Nat}(x:Bt (d+1))(j:Nat):Nat:=1+(((Bn.ks x).take j).map fun k=>h_ k).flatten.length
theorem partN_kid(x:Bt (d+1))(hj:j<(Bn.ks x).length):partN x (j+1)=partN x j+(h_ (Bn.ks x)[j]).length:=by
 grind [partN,List.take_succ_eq_append_getElem,List.flatten_append,List.length_append]
theorem partN_le(x:Bt (d+1))(j:Nat):partN x j<=(h_ x).length:=by
 have h:(h_ x).length=1+((Bn.ks x).map fun k=>h_ k).flatten.length:=by
  show (Bn.h x::((Bn.ks x).map fun k=>h_ k).flatten).length=_
  grind
 rw[h];unfold partN
 conv=>rhs;rw[<-aS j (Bn.ks x),aQ,bW,ag]
 omega
theorem partN_all(x:Bt (d+1))(hj:(Bn.ks x).length<=j):partN x j=(h_ x).length:=by
 have h:(h_ x).length=1+((Bn.ks x).map fun k=>h_ k).flatten.length:=by
  show (Bn.h x::((Bn.ks x).map fun k=>h_ k).flatten).length=_
  grind
 rw[h];unfold partN;rw[aN hj]
end Bt
structure qa (w0:World) (bl:Nat) (w:World) (v:Value) (L:List It) (n:Nat):Prop where
 bel:D_ w0 w
 own:py w w0.1.size v L
 box:w.1[bl]?=some (Xh n)
 lo:w0.1.size<=bl
def LK(bl:Nat)(w:World)(v:Value)(w':World)(v':Value):Prop:=w.1.size<=w'.1.size/\(∀k,k<w.1.size->v.ownBlock≠some k->k≠bl->w'.1[k]?=w.1[k]?)/\(v'.ownBlock=v.ownBlock\/∃g,v'.ownBlock=some g/\w.1.size<=g)
section
variable {w0 w w' w'':World}{bl n:Nat}{v v' v'':Value}{L:List It}
theorem LK.refl(bl:Nat)(w:World)(v:Value):LK bl w v w v:=⟨Nat.le_refl _,fun _ _ _ _=>rfl,.inl rfl⟩
theorem LK.T(h:LK bl w v w' v')(k:LK bl w' v' w'' v''):LK bl w v w'' v'':=by
 refine⟨aG h.1 k.1,fun i hi h1 h2=>(k.2.1 i (aE hi h.1) (fun e=>?_) h2).T (h.2.1 i hi h1 h2),?_⟩
 ·rcases h.2.2 with q | ⟨g,q,hg⟩
  ·exact h1 (q▸e)
  ·rw[q] at e
   cases e
   omega
 ·rcases k.2.2 with q | ⟨g,q,hg⟩
  ·rw[q];exact h.2.2
  ·exact .inr ⟨g,q,aG h.1 hg⟩
theorem LK.at(h:LK bl w v w' v'){k:Nat}{o:Obj}(e:w.1[k]?=some o)(h1:v.ownBlock≠some k)(h2:k≠bl):w'.1[k]?=some o:=(h.2.1 k (gl e) h1 h2).T e
theorem qa.ge(h:qa w0 bl w v L n):∀g,v.ownBlock=some g->w0.1.size<=g/\g<w.1.size/\∃cs fr,w.1[g]?=some (.cells cs 104 fr):=fun g e=>by
 rcases h.own.2 with⟨rfl,_⟩ | ⟨b,c,ad,rfl,hb,hg,_⟩
 ·cases e
 ·cases e
  exact⟨hb,(gl hg),_,_,hg⟩
theorem qa.a_(h:qa w0 bl w v L n)(hb:D_ w w'):qa w0 bl w' v L n/\LK bl w v w' v:=
 ⟨⟨b_ h.bel hb,h.own.kept (lf hb) (Classical.em _),(hb.block _ (gl h.box)).T h.box,h.lo⟩,hb.size,fun k hk _ _=>hb.block k hk,.inl rfl⟩
theorem qa.ne(h:qa w0 bl w v L n):v.ownBlock≠some bl:=fun e=>by
 obtain⟨_,_,cs,fr,e2⟩:=h.ge bl e;rw[h.box] at e2;cases e2
theorem qa.dec(h:qa w0 bl w v L (n+1)):qa w0 bl (w.setCell (y_ bl) (Xi n)) v L n/\LK bl w v (w.setCell (y_ bl) (Xi n)) v:=by
 have hg:=grownBy_setCell' w bl (Xi n);refine⟨⟨h.bel.T ⟨hg.os,hg.tape,hg.output,hg.size,fun k hk=>hg.block k (aE hk h.bel.size) fun e=>by have:=Option.some.inj e;have:=h.lo;omega⟩,h.own.kept hg (.inr h.ne),heap_setCell (i:=0) (v:=Xi n) h.box,h.lo⟩,hg.size,fun k hk _ h2=>hg.block k hk fun e=>h2 (Option.some.inj e),.inl rfl⟩
theorem qa.item(h:qa w0 bl w v L n)(hl:L.length<=10000)(d:It)(ty:TypeId):
 ∃v' w',(Builtin.append_ #[135,135] ty #[v,.slice (some (y_ w.1.size)) 1 1]).run prog (w.alloc (Xe d.kh d.vh))=.ok v' w'/\qa w0 bl w' v' (L++[d]) n/\LK bl w v w' v':=by
 obtain⟨v',w',h1,h2,hg,h3⟩:=K7 h.own hl d h.bel.size ty;refine⟨v',w',h1,⟨h.bel.T ⟨hg.os,hg.tape,hg.output,hg.size,fun k hk=>hg.block k (aE hk h.bel.size) fun e=>?_⟩,h2,(hg.block _ (gl h.box) fun e=>h.ne e.S).T h.box,h.lo⟩,hg.size,fun k hk q _=>hg.block k hk fun e=>q e.S,h3⟩;have:=(h.ge k e.S).1;omega
end
theorem Mf {ps t:Nat}{S:St}{o:Nat->Nat}:∀(d:Nat) (x:Bt d),Bt.Walk S o t x->∀{w0 w:World} {Y:Nat->Prop} {bl n dp:Nat} {v:Value} {L:List It},Ig w0 ps S Y->qa w0 bl w v L n->dp+d<=40->(Bt.h_ x).length<=n->n<=100000->L.length+(Bt.its x).length<=5000->
 Ct 120 #[FH ps t,v,Xu (Bt.hd x:Nat),PV bl,Xi dp] w fun e w'=>∃v',e=.returned v'/\qa w0 bl w' v' (L++Bt.its x) (n-(Bt.h_ x).length)/\LK bl w v w' v':=by
 intro d;induction d with
 | zero=>exact fun x=>nomatch x
 | succ d ih=>
  intro x hx w0 w Y bl n dp v L h0 h hd hn hn2 hl;obtain⟨n,rfl⟩:∃n',n=n'+1:=⟨n-1,by have:=Bt.partN_le x 0;unfold Bt.partN at this;omega⟩;have B0:=c_ w (Xc ps t);have q0:=heap_alloc_new w (Xc ps t);obtain⟨Wa,c'⟩:=Ii (w.alloc (Xc ps t));rw[c'] at B0 q0;obtain⟨ha,ka⟩:=h.a_ B0;have hg:=kI (h0.a_ ha.bel) hx.fit.inv hx.read;obtain⟨A,c,rfl⟩:=h.own.slice;have d1:((dp:Int)==40)=false:=m_
  have c6:=hx.es.2.2;have cv:=hx.ok.2.1;obtain⟨c0,c1⟩:=Fp q0;have HG:=kq11 hg h ha ka q0 ih hx h0 hl hn cv;unfold FH;clear hg h ha ka q0 ih hx h0 B0 hl hn cv;go_enter func120,ntmps120;go_wp2_with fail;refine HG.a.M ?_;rintro e w1 ⟨vk,vv,vc,rfl,hr,hb⟩;obtain⟨kA,kc,rfl⟩:=hr.k.E_;obtain⟨vA,vC,rfl⟩:=hr.v.E_;obtain⟨cA,cc,rfl⟩:=hr.c.E_;unfold eC;obtain⟨z,hz⟩:=Ii (Bt.bn x).size;obtain⟨ke,a7⟩:=Ii (Bn.es x).length;obtain⟨m,hm⟩:=Ii (Bn.ks x).length;have lk:(Bt.bn x).j_.length=ke:=by rw[<-a7];exact am _
  have lv:(Bt.bn x).E1.length=ke:=by rw[<-a7];exact am _
  have lc:(Bt.bn x).B_.length=m:=by rw[<-hm];exact am _
  rw[hz,lk,lv,lc];have d2:ke<=31:=by rw[<-a7];exact c6
  have cw:m=0\/m=ke+1:=by
   have:=HG.k;rw[hm,a7] at this;split at this<;>omega
  obtain⟨h1,k1⟩:=HG.c.a_ hb;have A1:=c_ w1 (.cells #[.slice kA ke kc,.slice vA ke vC,.slice cA m cc,Xu z] 215);have q1:=heap_alloc_new w1 (.cells #[.slice kA ke kc,.slice vA ke vC,.slice cA m cc,Xu z] 215);obtain⟨W2,cq⟩:=Ii (w1.alloc (.cells #[.slice kA ke kc,.slice vA ke vC,.slice cA m cc,Xu z] 215));rw[cq] at A1 q1;obtain⟨h2,k2⟩:=h1.a_ A1;have b1:=h2.box;have b0:(W2).cell? (y_ bl)=some (Xi ((n:Int)+1)):=e_ b1
  have f0:(W2).frozen? (y_ bl)=false:=AT b1;obtain⟨y0,y1,y2,y3⟩:=Fy q1;obtain⟨h3,k3⟩:=h2.dec;obtain⟨W3,c9⟩:=Ii (W2.setCell (y_ bl) (Xi n));rw[c9] at h3 k3;have d4:((n:Int)+1==0)=false:=m_
  have d5:IntKind.i64.wrap ((n:Int)+1-1)=n:=by rw[Int.add_sub_cancel];exact ax _ o_
  have cu:bl<w.1.size:=(gl HG.b.box);have b9:w.1.size<Wa.1.size:=(gl HG.e);have c5:=hb.size;have c4:W2.1.size=w1.1.size+1:=by rw[<-cq];simp
  have bt:∀k,w.1.size<=k->(Value.slice A L.length c).ownBlock≠some k:=fun k hk e=>by have:=(HG.b.ge k e).2.1;omega
  have q3:=k3.at q1 (bt _ o_) o_;have t3:=k3.at ((A1.block _ o_).T ((hb.block _ b9).T HG.e)) (bt _ Ih) o_;have rows:∀k,Wa.1.size<=k->k<w1.1.size->W3.1[k]?=w1.1[k]?:=fun k hk hk2=>(k3.2.1 k o_ (bt k o_) o_).T (A1.block k hk2);obtain⟨g0,g1,g2,g3⟩:=Fy q3;have cx:n+1-Bt.partN x 0=n:=by unfold Bt.partN;simp
  have H3:=kq14 h3 (HG.d.T (k1.T (k2.T k3))) hr rows q3 t3 bt cx a7 hm lk lv lc hz;have HS:=kq5 cu b9 c5 c4 k3.1;clear h1 k1 h2 k2 h3 k3 hr rows q3 t3 bt cx a7 hm lk lv lc hz cu b9 c5 c4 A1 q1 hb b1 c6;go_wp2_with fail;clear c0 c1 b0 f0 y0 y1 y2 y3 g0 g1 g2 g3;go_loopw [1,13,41] (fun s1 _ s41 wr=>∃j:Nat,s41=Xi j/\j<=ke/\Hid (qa w0 bl wr s1 (L++Bt.partL x j) (n+1-Bt.partN x j)/\LK bl W3 (.slice A L.length c) wr s1)) (fun _ _ s41 _=>ke-(intOf s41).toNat)
  case atStart=>exact⟨0,rfl,o_,by rw[Bt.partL_zero,bw,H3.h];exact H3.a,LK.refl _ _ _⟩
  case round=>
   obtain⟨j,rfl,hj,J0⟩:=hrel;have C6:∀k,Wa.1.size<=k->k<w1.1.size->wr.1[k]?=w1.1[k]?:=fun k hk hk2=>by
    have d0:=HS.O;exact(J0.O.2.2.1 k o_ (H3.g k o_) o_).T (H3.d k hk hk2)
   have hq:=J0.O.2.at H3.e (H3.g _ (by have:=HS.O;omega)) (by have:=HS.O;omega);have ht:=J0.O.2.at H3.f (H3.g _ Ih) (by have:=HS.O;omega);by_cases hjl:j<ke
   ·have dd:(j:Int)<ke:=o_
    have bx:j<(Bn.es x).length:=by rw[H3.i];exact hjl
    have b2:=H3.c.k.at (w':=wr) fun g e=>C6 g (H3.c.k.ge g e).1 (H3.c.k.ge g e).2;have b':=H3.c.v.at (w':=wr) fun g e=>C6 g (H3.c.v.ge g e).1 (H3.c.v.ge g e).2;obtain⟨bk,c1,e1,c7,rk⟩:=b2.cell_at (j:=j) (by rw[H3.k];exact hjl);obtain⟨bv,c2,e2,c8,rv⟩:=b'.cell_at (j:=j) (by rw[H3.l];exact hjl);have co:=e1;have cp:=e2;obtain⟨rfl,rfl⟩:kA=some (y_ bk)/\kc=c1:=by cases e1;exact⟨rfl,rfl⟩
    obtain⟨rfl,rfl⟩:vA=some (y_ bv)/\vC=c2:=by cases e2;exact⟨rfl,rfl⟩
    have bu:=kq3 (kq2 c7 (H3.c.k.ge bk (by rw[co];rfl)).2) c8 (H3.c.v.ge bv (by rw[cp];rfl)).2;clear c7 c8 co cp;have rk:wr.cell? (x_ bk j)=some (Xu (Bn.es x)[j].kh):=by rw[rk];simp[Bt.bn]
    have rv:wr.cell? (x_ bv j)=some (Xu (Bn.es x)[j].vh):=by rw[rv];simp[Bt.bn]
    obtain⟨e,he⟩:=Ii ((Bn.es x)[j]);rw[he] at rk rv;have a4:=kq4 hq rk rv ht;obtain⟨y0,y1,y2,y3⟩:=Fy hq;rcases cw with ap | ap
    ·have dn:(0<(m:Int))=False:=eq_false o_;have b4:¬0<m:=o_
     have a2:=Bt.partL_leaf x (by rw[H3.j];exact ap) bx;rw[he] at a2;have a9:n+1-Bt.partN x (j+1)=n+1-Bt.partN x j:=by rw[Bt.partN_all x (j:=j) (by rw[H3.j];omega),Bt.partN_all x (j:=j+1) (by rw[H3.j];omega)]
     have bf:(L++Bt.partL x j).length<=10000:=by
      have h1:=Bt.partL_le x (.inl (by rw[H3.j];exact ap)) j o_;have h2:=HG.i;rw[ag];omega
     have HP:=kq3 a2 a9 bf;clear a2 a9 bf b2 b' C6 hq ht he e1 e2 ap bx rk rv;go_upto_region 10 with fail
     have J1:=(J0.O.1).a_ (aa wr.1.size wr).drew;obtain⟨v2,w6,bo,h6,k6⟩:=J1.1.item HP.c e 135;have H6:=kq2 h6 ((J0.O.2).T (J1.2.T k6));obtain⟨I,ad,an⟩:=ic fun w'=>w'.1[w1.1.size]?=some (.cells #[.slice (some (y_ bk)) ke kc,.slice (some (y_ bv)) ke vC,.slice cA m cc,Xu z] 215)/\w'.cell? (x_ bk j)=some (Xu e.kh)/\w'.cell? (x_ bv j)=some (Xu e.vh);have a3:=fun x:Fq I=>(ad _ x.ok).1;have cb:=fun x:Fq I=>(ad _ x.ok).2.1;have ck:=fun x:Fq I=>(ad _ x.ok).2.2;clear y0 y1 y2 y3;obtain⟨y0,y1,y2,y3⟩:=iB a3;have ar:I wr.drew:=an _ ⟨a4.a,a4.b,a4.c⟩;refine nG I (fun i=>[13,14].contains i) (.take 0 (.take 1 (.take 2 (.take 3 (.take 4 (.take 5 (.take 6 (.take 7 (.take 8 (.take 9 (.take 10 (.take 11 (.go 12 (.go 13 (.go 14 .nil))))))))))))))) k_ k_ ar ?_;have a':=If an;have HW:=If (show wr.drew.1[w1.1.size]?=some (.cells #[.slice (some (y_ bk)) ke kc,.slice (some (y_ bv)) ke vC,.slice cA m cc,Xu z] 215)/\wr.drew.cell? (x_ bk j)=some (Xu e.kh)/\wr.drew.cell? (x_ bv j)=some (Xu e.vh) from⟨a4.a,a4.b,a4.c⟩);clear ar an ad a3 J1 h6 k6;generalize wr.drew=Wd at*;iterate 12
      refine' qT ?_ ?_;rotate_left
      ·intro x;go_simp;try rfl
      try simp only[pu]
     refine qD fun K hK=>?_;go_simp;have a5:D_ Wd (Wd.alloc (Xe e.kh e.vh)):=(aa _ _).alloc Ih _;try go_simp
     refine hK.O _ _ (a'.O _ ⟨(a5.block _ (gl HW.O.1)).T HW.O.1,(a5.cell (fK HW.O.2.1)).T HW.O.2.1,(a5.cell (fK HW.O.2.2)).T HW.O.2.2⟩) ?_;clear hK K;try simp only[pu]
     clear a5 a' HW;refine qL (fun K hK=>kE _ _ _ rfl rfl rfl bo ?_);try go_simp
     refine hK.O _ _ trivial ?_;clear hK K;try simp only[pu]
     refine qL fun K hK=>?_;go_simp;try go_simp
     refine hK.O _ _ trivial ?_;clear hK K;try simp only[pu]
     refine jd ?_;clear bo y0 y1 y2 y3 cb ck;go_wp2_with fail;go_roundw
     case rel=>
      refine⟨j+1,s_,o_,?_⟩;rw[HP.b,HP.a,<-aY];exact H6.O
     case measure=>simp[intOf];omega
    ·have ai:=If ap;clear ap;have a6:j<(Bn.ks x).length:=by rw[H3.j,ai.O];omega
     have a8:(Bn.ks x).length=(Bn.es x).length+1:=by rw[H3.j,H3.i];exact ai.O
     have ba:=H3.c.c.at (w':=wr) fun g e=>C6 g (H3.c.c.ge g e).1 (H3.c.c.ge g e).2;obtain⟨bc,c3,e3,_,bs⟩:=ba.cell_at (j:=j) (by rw[H3.m,ai.O];omega);obtain⟨rfl,rfl⟩:cA=some (y_ bc)/\cc=c3:=by cases e3;exact⟨rfl,rfl⟩
     obtain⟨kid,au⟩:=Ii ((Bn.ks x)[j]'(a6));have rc:wr.cell? (x_ bc j)=some (Xu (Bt.hd kid)):=by rw[bs,<-au];simp[Bt.bn]
     have dn:(0<(m:Int))=True:=eq_true (by have:=ai.O;omega);have b4:0<m:=by have:=ai.O;omega
     have dk:(j:Int)<m:=by have:=ai.O;omega
     have a2:Bt.partL x (j+1)=Bt.partL x j++Bt.its kid++[e]:=by rw[Bt.partL_kid x a8 bx,he,<-au]
     have a9:Bt.partN x (j+1)=Bt.partN x j+(Bt.h_ kid).length:=by rw[Bt.partN_kid x a6,au]
     have bj:kid∈Bn.ks x:=au▸aq a6;have ds:=Bt.partN_le x (j+1);have h1:=Bt.partL_le x (.inr a8) (j+1) o_;rw[a2,ag,ag,bi] at h1;have h2:=HG.i;have h3:=HG.j;have J1:=J0.O.1.a_ (aa wr.1.size wr).drew;have hi:=HG.f kid (HG.g.kid bj) (dp:=dp+1) HG.h J1.1 o_ o_ o_ (by rw[ag];omega);have bf:(L++Bt.partL x j++Bt.its kid).length<=10000:=by rw[ag,ag];omega
     have bm:n+1-Bt.partN x j-(Bt.h_ kid).length=n+1-Bt.partN x (j+1):=o_
     rw[bm] at hi;have dc:IntKind.i64.wrap ((dp:Int)+1)=(dp:Int)+1:=ax _ o_;have bb:((dp+1:Nat):Int)=(dp:Int)+1:=o_
     rw[bb] at hi;obtain⟨hk,bd⟩:=Ii (Bt.hd kid);rw[bd] at hi rc;have HP:=kq4 a2 hi bf J1.2;clear a2 a9 ds h1 h2 h3 hi bf bm bb J1 b2 b' ba e1 e2 e3 he bd bj au bs a8 a6 bx C6 hq ht;go_upto_region 9 with fail
     obtain⟨I,ad,an⟩:=ic fun w'=>w'.1[w1.1.size]?=some (.cells #[.slice (some (y_ bk)) ke kc,.slice (some (y_ bv)) ke vC,.slice (some (y_ bc)) m cc,Xu z] 215)/\w'.1[w.1.size]?=some (Xc ps t)/\w'.cell? (x_ bc j)=some (Xu hk);have a3:=fun x:Fq I=>(ad _ x.ok).1;have bq:=fun x:Fq I=>(ad _ x.ok).2.1;have ca:=fun x:Fq I=>(ad _ x.ok).2.2;clear y0 y1 y2 y3;obtain⟨y0,y1,y2,y3⟩:=iB a3;obtain⟨a0,a1⟩:=mt bq;have ar:I wr.drew:=an _ ⟨a4.a,a4.d,rc⟩;refine nG I (fun i=>[10,11].contains i) (.take 0 (.take 1 (.take 2 (.take 3 (.take 4 (.take 5 (.take 6 (.take 7 (.take 8 (.take 9 (.go 10 (.go 11 .nil)))))))))))) k_ k_ ar ?_;clear ar an ad a3 bq rc;iterate 10
      refine' qT ?_ ?_;rotate_left
      ·intro x;go_simp;try rfl
      try simp only[pu]
     refine qL fun K hK=>?_;go_simp;refine HP.b.M ?_;rintro e' w5 ⟨v5,rfl,h5,k5⟩;try go_simp
     refine hK.O _ _ trivial ?_;clear hK K;try simp only[pu]
     refine qL fun K hK=>?_;go_simp;try go_simp
     refine hK.O _ _ trivial ?_;clear hK K;try simp only[pu]
     refine jd ?_;clear y0 y1 y2 y3 a0 a1 ca;have K5:=J0.O.2.T (HP.d.T k5);have q5:=K5.at H3.e (H3.g _ (by have:=HS.O;omega)) (by have:=HS.O;omega);have cj:∀k,Wa.1.size<=k->k<w1.1.size->w5.1[k]?=wr.1[k]?:=fun k hk hk2=>by
      have d0:=HS.O;exact(K5.2.1 k o_ (H3.g k o_) o_).T (J0.O.2.2.1 k o_ (H3.g k o_) o_).S
     have ch:=(xA (o:=j) (cj bk bu.a.a bu.a.b)).T a4.b;have cn:=(xA (o:=j) (cj bv bu.b bu.c)).T a4.c;have J1:=h5.a_ (aa w5.1.size w5).drew;obtain⟨v2,w6,bo,h6,k6⟩:=J1.1.item HP.c e 135;have H6:=kq2 h6 (K5.T (J1.2.T k6));obtain⟨I,ad,an⟩:=ic fun w'=>w'.1[w1.1.size]?=some (.cells #[.slice (some (y_ bk)) ke kc,.slice (some (y_ bv)) ke vC,.slice (some (y_ bc)) m cc,Xu z] 215)/\w'.cell? (x_ bk j)=some (Xu e.kh)/\w'.cell? (x_ bv j)=some (Xu e.vh);have a3:=fun x:Fq I=>(ad _ x.ok).1;have cb:=fun x:Fq I=>(ad _ x.ok).2.1;have ck:=fun x:Fq I=>(ad _ x.ok).2.2;obtain⟨y0,y1,y2,y3⟩:=iB a3;have ar:I w5.drew:=an _ ⟨q5,ch,cn⟩;have a':=If an;have HW:=If (show w5.drew.1[w1.1.size]?=some (.cells #[.slice (some (y_ bk)) ke kc,.slice (some (y_ bv)) ke vC,.slice (some (y_ bc)) m cc,Xu z] 215)/\w5.drew.cell? (x_ bk j)=some (Xu e.kh)/\w5.drew.cell? (x_ bv j)=some (Xu e.vh) from⟨q5,ch,cn⟩);clear an ad a3 J1 h6 k6 h5 k5 K5 q5 cj ch cn;go_upto_region 10 with fail
     refine nG I (fun i=>[13,14].contains i) (.take 0 (.take 1 (.take 2 (.take 3 (.take 4 (.take 5 (.take 6 (.take 7 (.take 8 (.take 9 (.take 10 (.take 11 (.go 12 (.go 13 (.go 14 .nil))))))))))))))) k_ k_ ar ?_;clear ar;generalize w5.drew=Wd at*;iterate 12
      refine' qT ?_ ?_;rotate_left
      ·intro x;go_simp;try rfl
      try simp only[pu]
     refine qD fun K hK=>?_;go_simp;have a5:D_ Wd (Wd.alloc (Xe e.kh e.vh)):=(aa _ _).alloc Ih _;try go_simp
     refine hK.O _ _ (a'.O _ ⟨(a5.block _ (gl HW.O.1)).T HW.O.1,(a5.cell (fK HW.O.2.1)).T HW.O.2.1,(a5.cell (fK HW.O.2.2)).T HW.O.2.2⟩) ?_;clear hK K;try simp only[pu]
     clear a5 a' HW;refine qL (fun K hK=>kE _ _ _ rfl rfl rfl bo ?_);try go_simp
     refine hK.O _ _ trivial ?_;clear hK K;try simp only[pu]
     refine qL fun K hK=>?_;go_simp;try go_simp
     refine hK.O _ _ trivial ?_;clear hK K;try simp only[pu]
     refine jd ?_;clear bo y0 y1 y2 y3 cb ck;go_wp2_with fail;go_roundw
     case rel=>
      refine⟨j+1,s_,o_,?_⟩;rw[HP.a,<-aY,<-aY];exact H6.O
     case measure=>simp[intOf];omega
   ·obtain rfl:j=ke:=o_
    have dd:¬(j:Int)<j:=o_
    rcases cw with ap | ap
    ·have b4:¬0<m:=o_
     have e1:=Bt.partL_all x (by rw[H3.j];exact ap);rw[H3.i] at e1;have e2:=Bt.partN_all x (j:=j) (by rw[H3.j];omega);have HF:=kq3 e1 e2 (H3.b.T J0.O.2);obtain⟨y0,y1,y2,y3⟩:=Fy hq;clear e1 e2 hq ht C6 ap;go_wp2_with fail;go_ret;refine⟨_,rfl,?_,HF.c⟩;rw[<-HF.a,<-HF.b];exact J0.O.1
    ·have ai:=If ap;clear ap;have a6:j<(Bn.ks x).length:=by rw[H3.j,ai.O];omega
     have a8:(Bn.ks x).length=(Bn.es x).length+1:=by rw[H3.j,H3.i];exact ai.O
     have ba:=H3.c.c.at (w':=wr) fun g e=>C6 g (H3.c.c.ge g e).1 (H3.c.c.ge g e).2;obtain⟨bc,c3,e3,_,bs⟩:=ba.cell_at (j:=j) (by rw[H3.m,ai.O];omega);obtain⟨rfl,rfl⟩:cA=some (y_ bc)/\cc=c3:=by cases e3;exact⟨rfl,rfl⟩
     obtain⟨kid,au⟩:=Ii ((Bn.ks x)[j]'(a6));have rc:wr.cell? (x_ bc j)=some (Xu (Bt.hd kid)):=by rw[bs,<-au];simp[Bt.bn]
     have b4:0<m:=by have:=ai.O;omega
     have dk:(j:Int)<m:=by have:=ai.O;omega
     have a2:Bt.partL x j++Bt.its kid=Bt.its x:=by
      have:=Bt.partL_end x a8;simp only[H3.i,au] at this;exact this
     have a9:Bt.partN x (j+1)=Bt.partN x j+(Bt.h_ kid).length:=by rw[Bt.partN_kid x a6,au]
     have dv:=Bt.partN_all x (j:=j+1) (by rw[H3.j,ai.O];omega);have bj:kid∈Bn.ks x:=au▸aq a6;have h2:=HG.i;have h1:=congrArg List.length a2;rw[ag] at h1;have h3:=HG.j;have J1:=J0.O.1.a_ (aa wr.1.size wr).drew;have hi:=HG.f kid (HG.g.kid bj) (dp:=dp+1) HG.h J1.1 o_ o_ o_ (by rw[ag];omega);have bm:n+1-Bt.partN x j-(Bt.h_ kid).length=n+1-(Bt.h_ x).length:=o_
     rw[bm,aY,a2] at hi;have dc:IntKind.i64.wrap ((dp:Int)+1)=(dp:Int)+1:=ax _ o_;have bb:((dp+1:Nat):Int)=(dp:Int)+1:=o_
     rw[bb] at hi;have d3:IntKind.i64.wrap ((m:Int)-1)=j:=by rw[ax _ (by have:=ai.O;omega)];have:=ai.O;omega
     obtain⟨hk,bd⟩:=Ii (Bt.hd kid);rw[bd] at hi rc;have HP:=kq2 hi (H3.b.T (J0.O.2.T J1.2));obtain⟨y0,y1,y2,y3⟩:=Fy hq;obtain⟨I,ad,an⟩:=ic fun w'=>w'.1[w1.1.size]?=some (.cells #[.slice kA j kc,.slice vA j vC,.slice (some (y_ bc)) m cc,Xu z] 215)/\w'.1[w.1.size]?=some (Xc ps t)/\w'.cell? (x_ bc j)=some (Xu hk);have ar:I wr.drew:=an _ ⟨hq,ht,rc⟩;have a3:=fun x:Fq I=>(ad _ x.ok).1;have bq:=fun x:Fq I=>(ad _ x.ok).2.1;have ca:=fun x:Fq I=>(ad _ x.ok).2.2;clear a2 a9 dv h1 h2 h3 hi bm bb J1 ba e3 bd bj au bs a8 a6 C6 hq ht ad an rc;go_upto_region 13 with fail
     clear y0 y1 y2 y3;obtain⟨y0,y1,y2,y3⟩:=iB a3;obtain⟨a0,a1⟩:=mt bq;refine nG I (fun i=>[13,14].contains i) (.take 0 (.take 1 (.take 2 (.take 3 (.take 4 (.take 5 (.take 6 (.take 7 (.take 8 (.take 9 (.take 10 (.take 11 (.take 12 (.go 13 (.go 14 .nil))))))))))))))) k_ k_ ar ?_;clear ar a3 bq;iterate 13
      refine' qT ?_ ?_;rotate_left
      ·intro x;go_simp;try rfl
      try simp only[pu]
     refine qL fun K hK=>?_;go_simp;refine HP.a.M ?_;rintro e' w5 ⟨v5,rfl,h5,k5⟩;try go_simp
     refine hK.O _ _ trivial ?_;clear hK K;try simp only[pu]
     refine qL fun K hK=>?_;go_simp;try go_simp
     refine hK.O _ _ trivial ?_;clear hK K;try simp only[pu]
     refine jd ?_;clear y0 y1 y2 y3 a0 a1 ca;have HF:=kq2 h5 (HP.b.T k5);clear h5 k5;go_wp2_with fail;go_ret;exact⟨_,rfl,HF.O⟩
end
section
open Lf Tr
variable{S:St}{o:Nat->Nat}{t:Tr}
theorem NH(hf:Fw S o){h:Nat}{ws:List Nat}(hl:i_ S h=some ws):∃a r,eO S.a o a r/\ws.length+2<=r/\∃(k:Nat) (x:mj),S.t.p_[k]?=some x/\x.is=1/\h=gj x.gen k/\x.t_=a:=by
 obtain⟨k,x,hx,h1,h2,rfl⟩:=(gT hf.tab).1 hl;obtain⟨r,g1,g2,g3⟩:=hf.live k x hx h1;exact⟨x.t_,r,g1,by rw[Jy];omega,k,x,hx,h1,h2,rfl⟩
theorem Nv(hf:Fw S o){l:List Nat}{n:Nat}(h0:0<n)(hn:l.Nodup)(hl:∀h∈l,∃ws,i_ S h=some ws/\n<=ws.length+2):l.length*n<=64*S.a.C_.length:=by
 have key:∀i:Nat,∃a:Nat,∀hi:i<l.length,∃r,eO S.a o a r/\n<=r/\∃(k:Nat) (x:mj),S.t.p_[k]?=some x/\x.is=1/\l[i]=gj x.gen k/\x.t_=a:=fun i=>by
  by_cases hi:i<l.length
  ·obtain⟨ws,h1,h2⟩:=hl _ (aq hi);obtain⟨a,r,p,q,s⟩:=NH hf h1;exact⟨a,fun _=>⟨r,p,o_,s⟩⟩
  ·exact⟨0,fun h=>absurd h hi⟩
 let A:Nat->Nat:=fun i=>(key i).choose
 have hA:∀i (hi:i<l.length),∃r,eO S.a o (A i) r/\n<=r/\∃(k:Nat) (x:mj),S.t.p_[k]?=some x/\x.is=1/\l[i]=gj x.gen k/\x.t_=A i:=fun i hi=>(key i).choose_spec hi;have hd:∀m,m<l.length*n->m / n<l.length/\m % n<n:=fun m hm=>⟨(Nat.div_lt_iff_lt_mul h0).2 hm,Nat.mod_lt _ h0⟩;have ai:((List.range (l.length*n)).map fun m=>A (m / n)+m % n).Nodup:=by
  refine vV (fun x hx y hy he=>?_) List.nodup_range;obtain⟨x1,x2⟩:=hd x (bp.1 hx);obtain⟨y1,y2⟩:=hd y (bp.1 hy);obtain⟨r,p1,q1,k1,s1,a1,b1,c1,d1⟩:=hA _ x1;obtain⟨r',p2,q2,k2,s2,a2,b2,c2,d2⟩:=hA _ y1;have hq:x / n=y / n:=by
   rcases eO.apart hf.own p1 p2 with g | g | g
   ·have e:k1=k2:=hf.inj k1 k2 s1 s2 a1 a2 b1 b2 (by rw[d1,d2];exact g.1);subst e;rw[a1] at a2
    injection a2 with a2
    subst a2;have ad:=c1.T c2.S;have hp:=cE.1 hn
    rcases Nat.lt_trichotomy (x / n) (y / n) with q | q | q
    ·exact absurd ad (hp _ _ x1 y1 q)
    ·exact q
    ·exact absurd ad.S (hp _ _ y1 x1 q)
   ·omega
   ·omega
  rw[hq] at he;rw[<-Nat.div_add_mod x n,<-Nat.div_add_mod y n,hq];omega
 have an:∀y∈(List.range (l.length*n)).map (fun m=>A (m / n)+m % n),y∈S.a.j_.flatMap fun p=>(List.range 64).map fun j=>64*p+j:=by
  intro y hy;obtain⟨m,hm,rfl⟩:=az.1 hy;obtain⟨m1,m2⟩:=hd m (bp.1 hm);obtain⟨r,p1,q1,_⟩:=hA _ m1;have hp:=(p1.ok hf.own (b:=m % n) o_).2.2;exact List.mem_flatMap.2 ⟨(A (m / n)+m % n) / 64,hp,az.2 ⟨(A (m / n)+m % n) % 64,bp.2 o_,o_⟩⟩
 have:=Dk ai an;rw[am,dh,List.length_flatMap] at this;have e:(S.a.j_.map fun p=>((List.range 64).map fun j=>64*p+j).length)=S.a.j_.map fun _=>64:=by
  refine aZ fun p _=>?_
  simp
 have hs:∀k:Nat,(List.replicate k 64).sum=64*k:=fun k=>by
  induction k with
  | zero=>rfl
  | succ k ih=>rw[List.replicate_succ,List.sum_cons,ih];omega
 rw[e,List.map_const',hs,i8] at this;exact this
def wk(a:List (It×Nd)):List UInt8:=match a.getLast? with | some z=>z.1.k | none=>[]
def mB(a:List (It×Nd)):List Nat:=eB (a.map (·.1))
def mZ(f9:Nat)(a:List (It×Nd)):List Nat:=f9::a.flatMap fun z=>[z.2.left,z.2.right]
theorem Ly(a:List (It×Nd))(z:It×Nd):wk (a++[z])=z.1.k:=by unfold wk;simp
theorem MZ(a:List (It×Nd))(z:It×Nd):mB (a++[z])=mB a++[z.1.h,z.1.kh,z.1.vh]:=by
 unfold mB;rw[aQ,iX];rfl
theorem Nx(f9:Nat)(a:List (It×Nd))(z:It×Nd):mZ f9 (a++[z])=mZ f9 a++[z.2.left,z.2.right]:=by
 unfold mZ;grind
theorem Lr(a:List (It×Nd)):(mB a).length=3*a.length:=by
 unfold mB eB
 induction a with
 | nil=>rfl
 | cons z a ih=>simp only[bg,cy,ag,aj,aK] at ih⊢;omega
theorem KP(f9:Nat)(a:List (It×Nd)):(mZ f9 a).length=2*a.length+1:=by
 unfold mZ
 induction a with
 | nil=>rfl
 | cons z a ih=>simp only[cy,ag,aj,aK] at ih⊢;omega
structure K4 (S:St) (t:Tr) (a:List (It×Nd)) (z:It×Nd):Prop where
 rec':i_ S z.1.h=some (eM z.2)
 key:z.2.key=z.1.kh
 val:z.2.val=z.1.vh
 bl:gu S z.1
 sub:∃l m r,z.2=nd l z.1 m r/\At S (.node l z.1 m r)/\l.its.length+r.its.length<t.its.length
 less:a=[]\/Fu (wk a) z.1.k<0
 h1:z.1.h∉mB a
 h2:z.1.kh∉mB a++[z.1.h]
 h3:z.1.vh∉mB a++[z.1.h]++[z.1.kh]
 al:a.length<t.its.length
theorem Nl{Ok:Tr->Prop}(h:fC Ok S o t){a:List (It×Nd)}{z:It×Nd}{r:List (It×Nd)}(e:a++z::r=t.h_):K4 S t a z:=by
 have hz:z∈t.h_:=by rw[<-e];simp
 obtain⟨l,m,r',e1,e2,e3,_,_⟩:=nodes_at h.at' z hz;have hi:a.map (·.1)++z.1::r.map (·.1)=t.its:=by rw[<-nodes_its,<-e];simp
 have hd:z.1∈t.its:=by rw[<-hi];simp
 have hn:=h.nd;have hs:=h.F3;rw[<-hi] at hn hs;rw[iX,mx] at hn;obtain⟨_,n2,n3⟩:=aD.1 hn;obtain⟨m1,n4⟩:=aI.1 n2;obtain⟨m2,n5⟩:=aI.1 n4;simp only[ah,not_or] at m1 m2;have ne:∀{x y:Nat},x∈mB a->y∈z.1.h::z.1.kh::z.1.vh::eB (r.map (·.1))->x≠y:=fun hx hy q=>n3 _ hx _ hy q;have hl:a.length<t.its.length:=by rw[<-hi];simp
 refine⟨e1▸e2.1,by rw[e1];rfl,by rw[e1];rfl,h.F5 _ hd,⟨l,m,r',e1,e2,e3⟩,?_,fun q=>ne q s_ rfl,fun q=>?_,fun q=>?_,hl⟩
 ·rcases List.eq_nil_or_concat a with q | ⟨b,y,q⟩
  ·exact .inl q
  ·right
   subst q;rw[List.concat_eq_append,Ly];exact(bE.1 hs).2.2 y.1 s_ z.1 (av ..)
 ·rcases ao.1 q with q | q
  ·exact ne q s_ rfl
  ·exact m1.1 (aH.1 q).S
 grind
theorem Tr.root_in:∀t:Tr,t.f9=0\/∃d∈t.its,t.f9=d.h
 | .nil=> .inl rfl
 | .node l d m r=> .inr ⟨d,by show d∈l.its++d::r.its;simp,rfl⟩
theorem Ny(h:At S t):∀x∈mZ t.f9 t.h_,x=0\/x∈mB t.h_:=by
 have key:∀u:Tr,(∀y∈u.its,y∈t.its)->u.f9=0\/u.f9∈mB t.h_:=fun u hu=>by
  rcases u.root_in with q | ⟨d,hd,q⟩
  ·exact .inl q
  grind [mB,nodes_its,gU]
 intro x hx
 rcases ah.1 hx with rfl | hx
 ·grind
 ·obtain⟨z,hz,hx⟩:=List.mem_flatMap.1 hx;obtain⟨l,m,r,e1,_,_,e4,e5⟩:=nodes_at h z hz;rw[e1] at hx
  rcases ah.1 hx with rfl | hx
  ·exact key l e4
  ·rw[aH] at hx;subst hx;exact key r e5
theorem MY{Ok:Tr->Prop}(h:fC Ok S o t):(mB t.h_).Nodup:=by
 unfold mB;rw[nodes_its];exact h.nd