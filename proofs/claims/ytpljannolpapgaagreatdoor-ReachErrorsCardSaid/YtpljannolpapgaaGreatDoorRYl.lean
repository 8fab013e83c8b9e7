/- B-trees listed: a row of items beside a number of h_ left: plain, and in memory. -/
import Derived.Test.YtpljannolpapgaaGreatDoorRBj
import Derived.Test.YtpljannolpapgaaGreatDoorROa
set_option maxRecDepth 100000
set_option maxHeartbeats 6400000
namespace Go.Proofs.YtpljannolpapgaaGreatDoor
section
open Go.RowKit Tryz Go.BigFrame Go.Maps Go.WideMaps Lf Tr
namespace Bt
variable{d:Nat}{j:Nat}
def partL {d:Nat}(x:Bt (d+1))(j:Nat):List It:=if(Bn.ks x).length=0 then(Bn.es x).take j else lo ((Bn.es x).take j) (((Bn.ks x).map its).take j)
theorem partL_zero(x:Bt (d+1)):partL x 0=[]:=by unfold partL;split<;>simp[lo]
theorem partL_leaf(x:Bt (d+1))(h:(Bn.ks x).length=0)(hj:j<(Bn.es x).length):partL x (j+1)=partL x j++[(Bn.es x)[j]]:=by
 unfold partL;simp_all
theorem partL_kid(x:Bt (d+1))(h:(Bn.ks x).length=(Bn.es x).length+1)(hj:j<(Bn.es x).length):partL x (j+1)=partL x j++its ((Bn.ks x)[j]' o_)++[(Bn.es x)[j]]:=by
 unfold partL;rw[if_neg o_,if_neg o_,aw hj,aw (by grind),LE _ _ _ _ (by grind),bG,aV]
theorem partL_all(x:Bt (d+1))(h:(Bn.ks x).length=0):partL x (Bn.es x).length=its x:=by
 unfold partL;rw[if_pos h,cB,ga,bI.1 h];exact(jY _).S
theorem partL_end(x:Bt (d+1))(h:(Bn.ks x).length=(Bn.es x).length+1):partL x (Bn.es x).length++its ((Bn.ks x)[(Bn.es x).length]' o_)=its x:=by
 rw[ga,xU (Bn.es x) ((Bn.ks x).map its) (Bn.es x).length Ih (by grind)];unfold partL;rw[if_neg o_,List.drop_length,bJ (by grind),bG];rfl
theorem partL_le(x:Bt (d+1))(h:(Bn.ks x).length=0\/(Bn.ks x).length=(Bn.es x).length+1)(j:Nat)(hj:j<=(Bn.es x).length):(partL x j).length<=(its x).length:=by
 rcases h with h | h
 ·rw[<-partL_all x h];unfold partL
  grind
 ·rw[ga,xU (Bn.es x) ((Bn.ks x).map its) j hj (by rw[am,h])];unfold partL
  grind
def partN {d:Nat}(x:Bt (d+1))(j:Nat):Nat:=1+(((Bn.ks x).take j).map fun k=>h_ k).flatten.length
theorem partN_kid(x:Bt (d+1))(hj:j<(Bn.ks x).length):partN x (j+1)=partN x j+(h_ (Bn.ks x)[j]).length:=by
 grind [partN,List.take_succ_eq_append_getElem,List.flatten_append,List.length_append]
theorem partN_le(x:Bt (d+1))(j:Nat):partN x j<=(h_ x).length:=by
 have h:(h_ x).length=1+((Bn.ks x).map fun k=>h_ k).flatten.length:=by
  show (Bn.h x::((Bn.ks x).map fun k=>h_ k).flatten).length=_
  grind
 rw[h];unfold partN
 conv=>rhs;rw[<-aU j (Bn.ks x),aN,cg,ag]
 omega
theorem partN_all(x:Bt (d+1))(hj:(Bn.ks x).length<=j):partN x j=(h_ x).length:=by
 have h:(h_ x).length=1+((Bn.ks x).map fun k=>h_ k).flatten.length:=by
  show (Bn.h x::((Bn.ks x).map fun k=>h_ k).flatten).length=_
  grind
 rw[h];unfold partN;rw[aQ hj]
end Bt
structure cu (w0:World) (bl:Nat) (w:World) (v:Value) (L:List It) (n:Nat):Prop where
 bel:D_ w0 w
 own:py w w0.1.size v L
 box:w.1[bl]?=some (Xh n)
 lo:w0.1.size<=bl
def LK(bl:Nat)(w:World)(v:Value)(w':World)(v':Value):Prop:=w.1.size<=w'.1.size/\(∀k,k<w.1.size->v.ownBlock≠some k->k≠bl->w'.1[k]?=w.1[k]?)/\(v'.ownBlock=v.ownBlock\/∃g,v'.ownBlock=some g/\w.1.size<=g)
section
variable {w0 w w' w'':World}{bl n:Nat}{v v' v'':Value}{L:List It}
theorem LK.refl(bl:Nat)(w:World)(v:Value):LK bl w v w v:=⟨Nat.le_refl _,fun _ _ _ _=>rfl,.inl rfl⟩
theorem LK.T(h:LK bl w v w' v')(k:LK bl w' v' w'' v''):LK bl w v w'' v'':=by
 refine⟨aH h.1 k.1,fun i hi h1 h2=>(k.2.1 i (aB hi h.1) (fun e=>?_) h2).T (h.2.1 i hi h1 h2),?_⟩
 ·rcases h.2.2 with q | ⟨g,q,hg⟩
  ·exact h1 (q▸e)
  ·rw[q] at e
   cases e
   omega
 ·rcases k.2.2 with q | ⟨g,q,hg⟩
  ·rw[q];exact h.2.2
  ·exact .inr ⟨g,q,aH h.1 hg⟩
theorem LK.at(h:LK bl w v w' v'){k:Nat}{o:Obj}(e:w.1[k]?=some o)(h1:v.ownBlock≠some k)(h2:k≠bl):w'.1[k]?=some o:=(h.2.1 k (gl e) h1 h2).T e
theorem cu.ge(h:cu w0 bl w v L n):∀g,v.ownBlock=some g->w0.1.size<=g/\g<w.1.size/\∃cs fr,w.1[g]?=some (.cells cs 104 fr):=fun g e=>by
 rcases h.own.2 with⟨rfl,_⟩ | ⟨b,c,ad,rfl,hb,hg,_⟩
 ·cases e
 ·cases e
  exact⟨hb,(gl hg),_,_,hg⟩
theorem cu.a_(h:cu w0 bl w v L n)(hb:D_ w w'):cu w0 bl w' v L n/\LK bl w v w' v:=
 ⟨⟨b_ h.bel hb,h.own.kept (lf hb) (Classical.em _),(hb.block _ (gl h.box)).T h.box,h.lo⟩,hb.size,fun k hk _ _=>hb.block k hk,.inl rfl⟩
theorem cu.ne(h:cu w0 bl w v L n):v.ownBlock≠some bl:=fun e=>by
 obtain⟨_,_,cs,fr,e2⟩:=h.ge bl e;rw[h.box] at e2;cases e2
theorem cu.dec(h:cu w0 bl w v L (n+1)):cu w0 bl (w.setCell (y_ bl) (Xi n)) v L n/\LK bl w v (w.setCell (y_ bl) (Xi n)) v:=by
 have hg:=grownBy_setCell' w bl (Xi n);refine⟨⟨h.bel.T ⟨hg.os,hg.tape,hg.output,hg.size,fun k hk=>hg.block k (aB hk h.bel.size) fun e=>by have:=Option.some.inj e;have:=h.lo;omega⟩,h.own.kept hg (.inr h.ne),heap_setCell (i:=0) (v:=Xi n) h.box,h.lo⟩,hg.size,fun k hk _ h2=>hg.block k hk fun e=>h2 (Option.some.inj e),.inl rfl⟩
theorem cu.item(h:cu w0 bl w v L n)(hl:L.length<=10000)(d:It)(ty:TypeId):
 ∃v' w',(Builtin.append_ #[135,135] ty #[v,.slice (some (y_ w.1.size)) 1 1]).run prog (w.alloc (Xe d.kh d.vh))=.ok v' w'/\cu w0 bl w' v' (L++[d]) n/\LK bl w v w' v':=by
 obtain⟨v',w',h1,h2,hg,h3⟩:=K7 h.own hl d h.bel.size ty;refine⟨v',w',h1,⟨h.bel.T ⟨hg.os,hg.tape,hg.output,hg.size,fun k hk=>hg.block k (aB hk h.bel.size) fun e=>?_⟩,h2,(hg.block _ (gl h.box) fun e=>h.ne e.S).T h.box,h.lo⟩,hg.size,fun k hk q _=>hg.block k hk fun e=>q e.S,h3⟩;have:=(h.ge k e.S).1;omega
end
theorem Mf {ps t:Nat}{S:St}{o:Nat->Nat}:∀(d:Nat) (x:Bt d),Bt.Walk S o t x->∀{w0 w:World} {Y:Nat->Prop} {bl n dp:Nat} {v:Value} {L:List It},Ig w0 ps S Y->cu w0 bl w v L n->dp+d<=40->(Bt.h_ x).length<=n->n<=100000->L.length+(Bt.its x).length<=5000->
 Ct 120 #[FH ps t,v,Xu (Bt.hd x:Nat),PV bl,Xi dp] w fun e w'=>∃v',e=.returned v'/\cu w0 bl w' v' (L++Bt.its x) (n-(Bt.h_ x).length)/\LK bl w v w' v':=by
 intro d;induction d with
 | zero=>exact fun x=>nomatch x
 | succ d ih=>
  intro x hx w0 w Y bl n dp v L h0 h hd hn hn2 hl;obtain⟨n,rfl⟩:∃n',n=n'+1:=⟨n-1,by have:=Bt.partN_le x 0;unfold Bt.partN at this;omega⟩;have B0:=c_ w (Xc ps t);have q0:=heap_alloc_new w (Xc ps t);obtain⟨Wa,dk⟩:=Ii (w.alloc (Xc ps t));rw[dk] at B0 q0;obtain⟨ha,ka⟩:=h.a_ B0;have hg:=kI (h0.a_ ha.bel) hx.fit.inv hx.read;obtain⟨A,c,rfl⟩:=h.own.slice;have d4:((dp:Int)==40)=false:=m_
  have c9:=hx.es.2.2;have cx:=hx.ok.2.1;obtain⟨c0,c1⟩:=Fp q0;have HG:=kq11 hg h ha ka q0 ih hx h0 hl hn cx;unfold FH;clear hg h ha ka q0 ih hx h0 B0 hl hn cx;go_enter func120,ntmps120;go_wp2_with fail;refine HG.a.M ?_;rintro e w1 ⟨vk,vv,vc,rfl,hr,hb⟩;obtain⟨kA,kc,rfl⟩:=hr.k.E_;obtain⟨vA,vC,rfl⟩:=hr.v.E_;obtain⟨cA,cc,rfl⟩:=hr.c.E_;unfold eC;obtain⟨z,hz⟩:=Ii (Bt.bn x).size;obtain⟨ke,a7⟩:=Ii (Bn.es x).length;obtain⟨m,hm⟩:=Ii (Bn.ks x).length;have lk:(Bt.bn x).j_.length=ke:=by rw[<-a7];exact am _
  have lv:(Bt.bn x).C9.length=ke:=by rw[<-a7];exact am _
  have lc:(Bt.bn x).A6.length=m:=by rw[<-hm];exact am _
  rw[hz,lk,lv,lc];have d5:ke<=31:=by rw[<-a7];exact c9
  have c4:m=0\/m=ke+1:=by
   have:=HG.k;rw[hm,a7] at this;split at this<;>omega
  obtain⟨h1,k1⟩:=HG.c.a_ hb;have A1:=c_ w1 (.cells #[.slice kA ke kc,.slice vA ke vC,.slice cA m cc,Xu z] 215);have q1:=heap_alloc_new w1 (.cells #[.slice kA ke kc,.slice vA ke vC,.slice cA m cc,Xu z] 215);obtain⟨W2,cv⟩:=Ii (w1.alloc (.cells #[.slice kA ke kc,.slice vA ke vC,.slice cA m cc,Xu z] 215));rw[cv] at A1 q1;obtain⟨h2,k2⟩:=h1.a_ A1;have b1:=h2.box;have b0:(W2).cell? (y_ bl)=some (Xi ((n:Int)+1)):=e_ b1
  have f0:(W2).frozen? (y_ bl)=false:=AT b1;obtain⟨y0,y1,y2,y3⟩:=Fy q1;obtain⟨h3,k3⟩:=h2.dec;obtain⟨W3,dd⟩:=Ii (W2.setCell (y_ bl) (Xi n));rw[dd] at h3 k3;have d7:((n:Int)+1==0)=false:=m_
  have d8:IntKind.i64.wrap ((n:Int)+1-1)=n:=by rw[Int.add_sub_cancel];exact ax _ o_
  have cw:bl<w.1.size:=(gl HG.b.box);have b9:w.1.size<Wa.1.size:=(gl HG.e);have c7:=hb.size;have c6:W2.1.size=w1.1.size+1:=by rw[<-cv];simp
  have bt:∀k,w.1.size<=k->(Value.slice A L.length c).ownBlock≠some k:=fun k hk e=>by have:=(HG.b.ge k e).2.1;omega
  have q3:=k3.at q1 (bt _ o_) o_;have t3:=k3.at ((A1.block _ o_).T ((hb.block _ b9).T HG.e)) (bt _ Ih) o_;have rows:∀k,Wa.1.size<=k->k<w1.1.size->W3.1[k]?=w1.1[k]?:=fun k hk hk2=>(k3.2.1 k o_ (bt k o_) o_).T (A1.block k hk2);obtain⟨g0,g1,g2,g3⟩:=Fy q3;have c5:n+1-Bt.partN x 0=n:=by unfold Bt.partN;simp
  have H3:=kq14 h3 (HG.d.T (k1.T (k2.T k3))) hr rows q3 t3 bt c5 a7 hm lk lv lc hz;have HS:=kq5 cw b9 c7 c6 k3.1;clear h1 k1 h2 k2 h3 k3 hr rows q3 t3 bt c5 a7 hm lk lv lc hz cw b9 c7 c6 A1 q1 hb b1 c9;go_wp2_with fail;clear c0 c1 b0 f0 y0 y1 y2 y3 g0 g1 g2 g3;go_loopw [1,13,41] (fun s1 _ s41 wr=>∃j:Nat,s41=Xi j/\j<=ke/\Hid (cu w0 bl wr s1 (L++Bt.partL x j) (n+1-Bt.partN x j)/\LK bl W3 (.slice A L.length c) wr s1)) (fun _ _ s41 _=>ke-(intOf s41).toNat)
  case atStart=>exact⟨0,rfl,o_,by rw[Bt.partL_zero,aW,H3.h];exact H3.a,LK.refl _ _ _⟩
  case round=>
   obtain⟨j,rfl,hj,J0⟩:=hrel;have C_:∀k,Wa.1.size<=k->k<w1.1.size->wr.1[k]?=w1.1[k]?:=fun k hk hk2=>by
    have d3:=HS.O;exact(J0.O.2.2.1 k o_ (H3.g k o_) o_).T (H3.d k hk hk2)
   have hq:=J0.O.2.at H3.e (H3.g _ (by have:=HS.O;omega)) (by have:=HS.O;omega);have ht:=J0.O.2.at H3.f (H3.g _ Ih) (by have:=HS.O;omega);by_cases hjl:j<ke
   ·have ds:(j:Int)<ke:=o_
    have bx:j<(Bn.es x).length:=by rw[H3.i];exact hjl
    have b2:=H3.c.k.at (w':=wr) fun g e=>C_ g (H3.c.k.ge g e).1 (H3.c.k.ge g e).2;have b':=H3.c.v.at (w':=wr) fun g e=>C_ g (H3.c.v.ge g e).1 (H3.c.v.ge g e).2;obtain⟨bk,c1,e1,c',rk⟩:=b2.cell_at (j:=j) (by rw[H3.k];exact hjl);obtain⟨bv,c2,e2,dc,rv⟩:=b'.cell_at (j:=j) (by rw[H3.l];exact hjl);have cp:=e1;have cq:=e2;obtain⟨rfl,rfl⟩:kA=some (y_ bk)/\kc=c1:=by cases e1;exact⟨rfl,rfl⟩
    obtain⟨rfl,rfl⟩:vA=some (y_ bv)/\vC=c2:=by cases e2;exact⟨rfl,rfl⟩
    have bu:=kq3 (kq2 c' (H3.c.k.ge bk (by rw[cp];rfl)).2) dc (H3.c.v.ge bv (by rw[cq];rfl)).2;clear c' dc cp cq;have rk:wr.cell? (x_ bk j)=some (Xu (Bn.es x)[j].kh):=by rw[rk];simp[Bt.bn]
    have rv:wr.cell? (x_ bv j)=some (Xu (Bn.es x)[j].vh):=by rw[rv];simp[Bt.bn]
    obtain⟨e,he⟩:=Ii ((Bn.es x)[j]);rw[he] at rk rv;have a4:=kq4 hq rk rv ht;obtain⟨y0,y1,y2,y3⟩:=Fy hq;rcases c4 with ap | ap
    ·have d0:(0<(m:Int))=False:=eq_false o_;have b4:¬0<m:=o_
     have a2:=Bt.partL_leaf x (by rw[H3.j];exact ap) bx;rw[he] at a2;have a9:n+1-Bt.partN x (j+1)=n+1-Bt.partN x j:=by rw[Bt.partN_all x (j:=j) (by rw[H3.j];omega),Bt.partN_all x (j:=j+1) (by rw[H3.j];omega)]
     have bf:(L++Bt.partL x j).length<=10000:=by
      have h1:=Bt.partL_le x (.inl (by rw[H3.j];exact ap)) j o_;have h2:=HG.i;rw[ag];omega
     have HP:=kq3 a2 a9 bf;clear a2 a9 bf b2 b' C_ hq ht he e1 e2 ap bx rk rv;go_upto_region 10 with fail
     have J1:=(J0.O.1).a_ (aa wr.1.size wr).drew;obtain⟨v2,w6,bo,h6,k6⟩:=J1.1.item HP.c e 135;have H6:=kq2 h6 ((J0.O.2).T (J1.2.T k6));obtain⟨I,ad,an⟩:=ic fun w'=>w'.1[w1.1.size]?=some (.cells #[.slice (some (y_ bk)) ke kc,.slice (some (y_ bv)) ke vC,.slice cA m cc,Xu z] 215)/\w'.cell? (x_ bk j)=some (Xu e.kh)/\w'.cell? (x_ bv j)=some (Xu e.vh);have a3:=fun x:Fq I=>(ad _ x.ok).1;have cb:=fun x:Fq I=>(ad _ x.ok).2.1;have ck:=fun x:Fq I=>(ad _ x.ok).2.2;clear y0 y1 y2 y3;obtain⟨y0,y1,y2,y3⟩:=iB a3;have ar:I wr.drew:=an _ ⟨a4.a,a4.b,a4.c⟩;refine nG I (fun i=>[13,14].contains i) (.take 0 (.take 1 (.take 2 (.take 3 (.take 4 (.take 5 (.take 6 (.take 7 (.take 8 (.take 9 (.take 10 (.take 11 (.go 12 (.go 13 (.go 14 .nil))))))))))))))) k_ k_ ar ?_;have a':=If an;have HW:=If (show wr.drew.1[w1.1.size]?=some (.cells #[.slice (some (y_ bk)) ke kc,.slice (some (y_ bv)) ke vC,.slice cA m cc,Xu z] 215)/\wr.drew.cell? (x_ bk j)=some (Xu e.kh)/\wr.drew.cell? (x_ bv j)=some (Xu e.vh) from⟨a4.a,a4.b,a4.c⟩);clear ar an ad a3 J1 h6 k6;generalize wr.drew=Wd at*;iterate 12
      refine' qT ?_ ?_;rotate_left
      ·intro x;go_simp;try rfl
      try simp only[pu]
     refine qD fun K hK=>?_;go_simp;have a5:D_ Wd (Wd.alloc (Xe e.kh e.vh)):=(aa _ _).alloc Ih _;try go_simp
     refine hK.O _ _ (a'.O _ ⟨(a5.block _ (gl HW.O.1)).T HW.O.1,(a5.cell (fK HW.O.2.1)).T HW.O.2.1,(a5.cell (fK HW.O.2.2)).T HW.O.2.2⟩) ?_;clear hK K;try simp only[pu]
     clear a5 a' HW;refine qL (fun K hK=>kE _ _ _ rfl rfl rfl bo ?_);try go_simp
     refine hK.O _ _ trivial ?_;clear hK K;try simp only[pu]
     refine qL fun K hK=>?_;go_simp;try go_simp
     refine hK.O _ _ trivial ?_;clear hK K;try simp only[pu]
     refine jd ?_;clear bo y0 y1 y2 y3 cb ck;go_wp2_with fail;go_roundw
     case rel=>
      refine⟨j+1,s_,o_,?_⟩;rw[HP.b,HP.a,<-aV];exact H6.O
     case measure=>simp[intOf];omega
    ·have ai:=If ap;clear ap;have a6:j<(Bn.ks x).length:=by rw[H3.j,ai.O];omega
     have a8:(Bn.ks x).length=(Bn.es x).length+1:=by rw[H3.j,H3.i];exact ai.O
     have ba:=H3.c.c.at (w':=wr) fun g e=>C_ g (H3.c.c.ge g e).1 (H3.c.c.ge g e).2;obtain⟨bc,c3,e3,_,bs⟩:=ba.cell_at (j:=j) (by rw[H3.m,ai.O];omega);obtain⟨rfl,rfl⟩:cA=some (y_ bc)/\cc=c3:=by cases e3;exact⟨rfl,rfl⟩
     obtain⟨kid,au⟩:=Ii ((Bn.ks x)[j]'(a6));have rc:wr.cell? (x_ bc j)=some (Xu (Bt.hd kid)):=by rw[bs,<-au];simp[Bt.bn]
     have d0:(0<(m:Int))=True:=eq_true (by have:=ai.O;omega);have b4:0<m:=by have:=ai.O;omega
     have dv:(j:Int)<m:=by have:=ai.O;omega
     have a2:Bt.partL x (j+1)=Bt.partL x j++Bt.its kid++[e]:=by rw[Bt.partL_kid x a8 bx,he,<-au]
     have a9:Bt.partN x (j+1)=Bt.partN x j+(Bt.h_ kid).length:=by rw[Bt.partN_kid x a6,au]
     have bj:kid∈Bn.ks x:=au▸ao a6;have d1:=Bt.partN_le x (j+1);have h1:=Bt.partL_le x (.inr a8) (j+1) o_;rw[a2,ag,ag,bp] at h1;have h2:=HG.i;have h3:=HG.j;have J1:=J0.O.1.a_ (aa wr.1.size wr).drew;have hi:=HG.f kid (HG.g.kid bj) (dp:=dp+1) HG.h J1.1 o_ o_ o_ (by rw[ag];omega);have bf:(L++Bt.partL x j++Bt.its kid).length<=10000:=by rw[ag,ag];omega
     have bm:n+1-Bt.partN x j-(Bt.h_ kid).length=n+1-Bt.partN x (j+1):=o_
     rw[bm] at hi;have dn:IntKind.i64.wrap ((dp:Int)+1)=(dp:Int)+1:=ax _ o_;have bb:((dp+1:Nat):Int)=(dp:Int)+1:=o_
     rw[bb] at hi;obtain⟨hk,bd⟩:=Ii (Bt.hd kid);rw[bd] at hi rc;have HP:=kq4 a2 hi bf J1.2;clear a2 a9 d1 h1 h2 h3 hi bf bm bb J1 b2 b' ba e1 e2 e3 he bd bj au bs a8 a6 bx C_ hq ht;go_upto_region 9 with fail
     obtain⟨I,ad,an⟩:=ic fun w'=>w'.1[w1.1.size]?=some (.cells #[.slice (some (y_ bk)) ke kc,.slice (some (y_ bv)) ke vC,.slice (some (y_ bc)) m cc,Xu z] 215)/\w'.1[w.1.size]?=some (Xc ps t)/\w'.cell? (x_ bc j)=some (Xu hk);have a3:=fun x:Fq I=>(ad _ x.ok).1;have bq:=fun x:Fq I=>(ad _ x.ok).2.1;have ca:=fun x:Fq I=>(ad _ x.ok).2.2;clear y0 y1 y2 y3;obtain⟨y0,y1,y2,y3⟩:=iB a3;obtain⟨a0,a1⟩:=mt bq;have ar:I wr.drew:=an _ ⟨a4.a,a4.d,rc⟩;refine nG I (fun i=>[10,11].contains i) (.take 0 (.take 1 (.take 2 (.take 3 (.take 4 (.take 5 (.take 6 (.take 7 (.take 8 (.take 9 (.go 10 (.go 11 .nil)))))))))))) k_ k_ ar ?_;clear ar an ad a3 bq rc;iterate 10
      refine' qT ?_ ?_;rotate_left
      ·intro x;go_simp;try rfl
      try simp only[pu]
     refine qL fun K hK=>?_;go_simp;refine HP.b.M ?_;rintro e' w5 ⟨v5,rfl,h5,k5⟩;try go_simp
     refine hK.O _ _ trivial ?_;clear hK K;try simp only[pu]
     refine qL fun K hK=>?_;go_simp;try go_simp
     refine hK.O _ _ trivial ?_;clear hK K;try simp only[pu]
     refine jd ?_;clear y0 y1 y2 y3 a0 a1 ca;have K5:=J0.O.2.T (HP.d.T k5);have q5:=K5.at H3.e (H3.g _ (by have:=HS.O;omega)) (by have:=HS.O;omega);have cj:∀k,Wa.1.size<=k->k<w1.1.size->w5.1[k]?=wr.1[k]?:=fun k hk hk2=>by
      have d3:=HS.O;exact(K5.2.1 k o_ (H3.g k o_) o_).T (J0.O.2.2.1 k o_ (H3.g k o_) o_).S
     have ch:=(xA (o:=j) (cj bk bu.a.a bu.a.b)).T a4.b;have cn:=(xA (o:=j) (cj bv bu.b bu.c)).T a4.c;have J1:=h5.a_ (aa w5.1.size w5).drew;obtain⟨v2,w6,bo,h6,k6⟩:=J1.1.item HP.c e 135;have H6:=kq2 h6 (K5.T (J1.2.T k6));obtain⟨I,ad,an⟩:=ic fun w'=>w'.1[w1.1.size]?=some (.cells #[.slice (some (y_ bk)) ke kc,.slice (some (y_ bv)) ke vC,.slice (some (y_ bc)) m cc,Xu z] 215)/\w'.cell? (x_ bk j)=some (Xu e.kh)/\w'.cell? (x_ bv j)=some (Xu e.vh);have a3:=fun x:Fq I=>(ad _ x.ok).1;have cb:=fun x:Fq I=>(ad _ x.ok).2.1;have ck:=fun x:Fq I=>(ad _ x.ok).2.2;obtain⟨y0,y1,y2,y3⟩:=iB a3;have ar:I w5.drew:=an _ ⟨q5,ch,cn⟩;have a':=If an;have HW:=If (show w5.drew.1[w1.1.size]?=some (.cells #[.slice (some (y_ bk)) ke kc,.slice (some (y_ bv)) ke vC,.slice (some (y_ bc)) m cc,Xu z] 215)/\w5.drew.cell? (x_ bk j)=some (Xu e.kh)/\w5.drew.cell? (x_ bv j)=some (Xu e.vh) from⟨q5,ch,cn⟩);clear an ad a3 J1 h6 k6 h5 k5 K5 q5 cj ch cn;go_upto_region 10 with fail
     refine nG I (fun i=>[13,14].contains i) (.take 0 (.take 1 (.take 2 (.take 3 (.take 4 (.take 5 (.take 6 (.take 7 (.take 8 (.take 9 (.take 10 (.take 11 (.go 12 (.go 13 (.go 14 .nil))))))))))))))) k_ k_ ar ?_;clear ar;generalize w5.drew=Wd at*;iterate 12
      refine' qT ?_ ?_;rotate_left
      ·intro x;go_simp;try rfl
      try simp only[pu]
     refine qD fun K hK=>?_;go_simp;have a5:D_ Wd (Wd.alloc (Xe e.kh e.vh)):=(aa _ _).alloc Ih _;try go_simp
     refine hK.O _ _ (a'.O _ ⟨(a5.block _ (gl HW.O.1)).T HW.O.1,(a5.cell (fK HW.O.2.1)).T HW.O.2.1,(a5.cell (fK HW.O.2.2)).T HW.O.2.2⟩) ?_;clear hK K;try simp only[pu]
     clear a5 a' HW;refine qL (fun K hK=>kE _ _ _ rfl rfl rfl bo ?_);try go_simp
     refine hK.O _ _ trivial ?_;clear hK K;try simp only[pu]
     refine qL fun K hK=>?_;go_simp;try go_simp
     refine hK.O _ _ trivial ?_;clear hK K;try simp only[pu]
     refine jd ?_;clear bo y0 y1 y2 y3 cb ck;go_wp2_with fail;go_roundw
     case rel=>
      refine⟨j+1,s_,o_,?_⟩;rw[HP.a,<-aV,<-aV];exact H6.O
     case measure=>simp[intOf];omega
   ·obtain rfl:j=ke:=o_
    have ds:¬(j:Int)<j:=o_
    rcases c4 with ap | ap
    ·have b4:¬0<m:=o_
     have e1:=Bt.partL_all x (by rw[H3.j];exact ap);rw[H3.i] at e1;have e2:=Bt.partN_all x (j:=j) (by rw[H3.j];omega);have HF:=kq3 e1 e2 (H3.b.T J0.O.2);obtain⟨y0,y1,y2,y3⟩:=Fy hq;clear e1 e2 hq ht C_ ap;go_wp2_with fail;go_ret;refine⟨_,rfl,?_,HF.c⟩;rw[<-HF.a,<-HF.b];exact J0.O.1
    ·have ai:=If ap;clear ap;have a6:j<(Bn.ks x).length:=by rw[H3.j,ai.O];omega
     have a8:(Bn.ks x).length=(Bn.es x).length+1:=by rw[H3.j,H3.i];exact ai.O
     have ba:=H3.c.c.at (w':=wr) fun g e=>C_ g (H3.c.c.ge g e).1 (H3.c.c.ge g e).2;obtain⟨bc,c3,e3,_,bs⟩:=ba.cell_at (j:=j) (by rw[H3.m,ai.O];omega);obtain⟨rfl,rfl⟩:cA=some (y_ bc)/\cc=c3:=by cases e3;exact⟨rfl,rfl⟩
     obtain⟨kid,au⟩:=Ii ((Bn.ks x)[j]'(a6));have rc:wr.cell? (x_ bc j)=some (Xu (Bt.hd kid)):=by rw[bs,<-au];simp[Bt.bn]
     have b4:0<m:=by have:=ai.O;omega
     have dv:(j:Int)<m:=by have:=ai.O;omega
     have a2:Bt.partL x j++Bt.its kid=Bt.its x:=by
      have:=Bt.partL_end x a8;simp only[H3.i,au] at this;exact this
     have a9:Bt.partN x (j+1)=Bt.partN x j+(Bt.h_ kid).length:=by rw[Bt.partN_kid x a6,au]
     have d2:=Bt.partN_all x (j:=j+1) (by rw[H3.j,ai.O];omega);have bj:kid∈Bn.ks x:=au▸ao a6;have h2:=HG.i;have h1:=congrArg List.length a2;rw[ag] at h1;have h3:=HG.j;have J1:=J0.O.1.a_ (aa wr.1.size wr).drew;have hi:=HG.f kid (HG.g.kid bj) (dp:=dp+1) HG.h J1.1 o_ o_ o_ (by rw[ag];omega);have bm:n+1-Bt.partN x j-(Bt.h_ kid).length=n+1-(Bt.h_ x).length:=o_
     rw[bm,aV,a2] at hi;have dn:IntKind.i64.wrap ((dp:Int)+1)=(dp:Int)+1:=ax _ o_;have bb:((dp+1:Nat):Int)=(dp:Int)+1:=o_
     rw[bb] at hi;have d6:IntKind.i64.wrap ((m:Int)-1)=j:=by rw[ax _ (by have:=ai.O;omega)];have:=ai.O;omega
     obtain⟨hk,bd⟩:=Ii (Bt.hd kid);rw[bd] at hi rc;have HP:=kq2 hi (H3.b.T (J0.O.2.T J1.2));obtain⟨y0,y1,y2,y3⟩:=Fy hq;obtain⟨I,ad,an⟩:=ic fun w'=>w'.1[w1.1.size]?=some (.cells #[.slice kA j kc,.slice vA j vC,.slice (some (y_ bc)) m cc,Xu z] 215)/\w'.1[w.1.size]?=some (Xc ps t)/\w'.cell? (x_ bc j)=some (Xu hk);have ar:I wr.drew:=an _ ⟨hq,ht,rc⟩;have a3:=fun x:Fq I=>(ad _ x.ok).1;have bq:=fun x:Fq I=>(ad _ x.ok).2.1;have ca:=fun x:Fq I=>(ad _ x.ok).2.2;clear a2 a9 d2 h1 h2 h3 hi bm bb J1 ba e3 bd bj au bs a8 a6 C_ hq ht ad an rc;go_upto_region 13 with fail
     clear y0 y1 y2 y3;obtain⟨y0,y1,y2,y3⟩:=iB a3;obtain⟨a0,a1⟩:=mt bq;refine nG I (fun i=>[13,14].contains i) (.take 0 (.take 1 (.take 2 (.take 3 (.take 4 (.take 5 (.take 6 (.take 7 (.take 8 (.take 9 (.take 10 (.take 11 (.take 12 (.go 13 (.go 14 .nil))))))))))))))) k_ k_ ar ?_;clear ar a3 bq;iterate 13
      refine' qT ?_ ?_;rotate_left
      ·intro x;go_simp;try rfl
      try simp only[pu]
     refine qL fun K hK=>?_;go_simp;refine HP.a.M ?_;rintro e' w5 ⟨v5,rfl,h5,k5⟩;try go_simp
     refine hK.O _ _ trivial ?_;clear hK K;try simp only[pu]
     refine qL fun K hK=>?_;go_simp;try go_simp
     refine hK.O _ _ trivial ?_;clear hK K;try simp only[pu]
     refine jd ?_;clear y0 y1 y2 y3 a0 a1 ca;have HF:=kq2 h5 (HP.b.T k5);clear h5 k5;go_wp2_with fail;go_ret;exact⟨_,rfl,HF.O⟩
theorem Ig.row {w w2:World}{ps D x:Nat}{S:St}{Y:Nat->Prop}{v v2:Value}{L:List Nat}(h:Ig w ps S (fun k=>Y k\/v.ownBlock=some k))(hD:fy<D)(own:FE w D v L)(ho2:FE w2 D v2 (L++[x]))(hg:w.grownBy w2 v.ownBlock)(hv:v2.ownBlock=v.ownBlock\/∃g,v2.ownBlock=some g/\w.1.size<=g):Ig w2 ps S (fun k=>Y k\/v2.ownBlock=some k):=by
 refine(h.grown hg fun g e=>⟨ae e,by have:=(own.ge g e).1;omega,(own.block e).2.2⟩).M fun k hk=>?_
 rcases hk with hk | hk
 ·exact ab (ab hk)
 ·rcases hv with e | ⟨g,e,hg⟩
  ·rw[e] at hk;exact ab (ae hk)
  ·rw[e] at hk;obtain rfl:g=k:=Option.some.inj hk;exact ae ⟨hg,(ho2.ge g e).2⟩
section
variable {w w':World}{ps bb D n:Nat}{S S':St}{Y Z:Nat->Prop}{l_:Int}
end
attribute [local go_sem] Oper.semAt_some
def wa(w2:World)(n:Nd)(h:Nat):World:=((((((w2.alloc (Xb n.key n.val n.left n.right n.mark n.size)).alloc (.map #[] 0)).alloc (Xf h)).alloc (.cells #[.map (some (w2.1.size+1))] 123)).alloc (.cells #[.slice (some (y_ (w2.1.size+1+1))) 1 1] 59)).alloc (.cells #[.string ⟨#[]⟩] 9)).alloc (.cells #[.bool true] 4)
theorem JY(w:World)(o:Obj)(k:Nat):(w.alloc o).1[k]?=if k=w.1.size then some o else w.1[k]?:=by
 show (w.1.push o)[k]?=_
 rw[Array.getElem?_push]
theorem Mp {w w2:World}{ps:Nat}(n:Nd)(h:Nat)(hb:D_ w w2)(hz:w.1.size+2<=w2.1.size)(cs:w2.1[w.1.size]?=some (Xg ps))(ce:w2.1[w.1.size+1]?=some (.cells #[Xi 0] 27)):
 mz w ps (w2.1.size+1) (w2.1.size+1+1+1) (w2.1.size+1+1+1+1) (w2.1.size+1+1+1+1+1) (w2.1.size+1+1+1+1+1+1) (w2.1.size+7) (fun _=>False) [] [h] [] true (wa w2 n h):=by
 have hs:(wa w2 n h).1.size=w2.1.size+7:=by unfold wa;simp
 have ai:D_ w (wa w2 n h):=by
  unfold wa;refine((((((hb.alloc hb.size _).alloc ?_ _).alloc ?_ _).alloc ?_ _).alloc ?_ _).alloc ?_ _).alloc ?_ _<;>simp<;>omega
 have ad:∀k,(wa w2 n h).1[k]?=if k=w2.1.size+6 then some (.cells #[.bool true] 4) else if k=w2.1.size+5 then some (.cells #[.string ⟨#[]⟩] 9) else if k=w2.1.size+4 then some (.cells #[.slice (some (y_ (w2.1.size+1+1))) 1 1] 59) else if k=w2.1.size+3 then some (.cells #[.map (some (w2.1.size+1))] 123) else if k=w2.1.size+2 then some (Xf h) else if k=w2.1.size+1 then some (.map #[] 0) else(w2.alloc (Xb n.key n.val n.left n.right n.mark n.size)).1[k]?:=fun k=>by
  unfold wa;simp only[JY,World.size_alloc]
 have lo:∀k,k<w2.1.size->(wa w2 n h).1[k]?=w2.1[k]?:=fun k hk=>by
  rw[ad k,if_neg o_,if_neg o_,if_neg o_,if_neg o_,if_neg o_,if_neg o_,JY,if_neg o_]
 refine⟨o_,ai,(lo _ o_).T cs,(lo _ o_).T ce,?_,⟨some (y_ (w2.1.size+1+1)),1,?_,⟨by simp[hV],.inr ⟨w2.1.size+1+1,1,#[Xu h],rfl,o_,?_,Nat.le_refl _,d_,rfl,rfl⟩⟩,fun _ _ hx=>hx⟩,?_,?_,?_,fun k hk=>hk.elim⟩
 ·rw[ad]
  simp
 ·rw[ad]
  simp
 ·rw[ad]
  simp
 ·rw[ad]
  simp[SV]
 ·rw[ad]
  simp
 ·have hm:(wa w2 n h).1[w2.1.size+1]?=some (.map #[] 0):=by rw[ad];simp
  have:=mq.made (w2.alloc (Xb n.key n.val n.left n.right n.mark n.size));rw[World.size_alloc] at this;refine this.kept (hm.T ?_);rw[JY,if_pos s_]
def Lk(ps h b z:Nat)(nn:Nd)(x:It×Nd)(bn:Nat):Array Value:=#[PV ps,Xu h,PV b,undef,PV (b+1),Xi 0,Xi 7,PV z,Xi 0,PV (z+1+1+1),PV (z+1+1+1+1),PV (z+1+1+1+1+1),PV (z+1+1+1+1+1+1),Xu x.1.h,PV bn,undef,undef,undef,undef,undef,undef,undef,undef,.tuple #[Xi 0,Xi 7],PV ps,.tuple #[Xi 0,Xi 7],Xi 0,Xi 7,Xi 7,.bool false,Xu h,.bool false,.tuple #[.agg #[Xu nn.key,Xu nn.val,Xu nn.left,Xu nn.right,Xu nn.mark,Xu nn.size],Xi 0],PV ps,Xu h,.tuple #[.agg #[Xu nn.key,Xu nn.val,Xu nn.left,Xu nn.right,Xu nn.mark,Xu nn.size],Xi 0],.agg #[Xu nn.key,Xu nn.val,Xu nn.left,Xu nn.right,Xu nn.mark,Xu nn.size],Xi 0,Xi 0,.bool false,.map (some (z+1)),Xu h,.slice (some (y_ (z+1+1))) 1 1,PV ps,Xu h,.func (.func 161) #[] #[PV (z+7),PV (z+7+1)],Xu x.1.h,eS x.2,undef,undef,undef,undef,undef,undef,undef,undef,undef,undef,undef,undef,undef,undef,undef,undef,undef,undef,undef,undef,undef,undef,undef,undef,undef,undef,undef,undef,undef,undef,undef,undef,undef,undef,undef,undef,undef,undef,undef,undef,undef,undef,undef,undef,undef,undef,undef,undef,undef,undef,undef,undef,undef,undef,undef,undef,undef,undef,undef,undef,undef,undef,undef,undef,undef,undef,undef,undef,undef,undef,undef,undef,undef,undef,undef,undef,undef,undef,undef,undef]
theorem Lt(a b c:Value)(w:World):(Instr.index 289 (.agg #[a,b,c]) (Xi 0)).run prog w=.ok a w:=k_
theorem Lu(a b c:Value)(w:World):(Instr.index 289 (.agg #[a,b,c]) (Xi 1)).run prog w=.ok b w:=k_
theorem Lv(a b c:Value)(w:World):(Instr.index 289 (.agg #[a,b,c]) (Xi 2)).run prog w=.ok c w:=k_
def kx(a:List (It×Nd))(x:It×Nd):Nat->List Nat
 | 0=>mB a
 | 1=>mB a++[x.1.h]
 | 2=>mB a++[x.1.h]++[x.2.key]
 | _=>mB a++[x.1.h]++[x.2.key]++[x.2.val]
theorem J3 {a:List (It×Nd)}{x:It×Nd}(h:a.length<=1000)(j:Nat):(kx a x j).length<100000:=by
 have:=Lr a;unfold kx;split<;>(try simp only[ag,bp])<;>omega
theorem M0 {Ok:Tr->Prop}{S:St}{o:Nat->Nat}{t:Tr}(h:fC Ok S o t):∀y∈mB t.h_,y<2^64:=fun y hy=>by
 unfold mB at hy;obtain⟨d,hd,q⟩:=gU.1 hy;obtain⟨z,hz,rfl⟩:=az.1 hd;obtain⟨l,m,r,e1,e2,_⟩:=nodes_at h.at' z hz;have hb:=h.F4 z.1 (by rw[<-nodes_its];exact hd);rcases q with rfl | rfl | rfl
 ·exact(fL h.fit e2.1).2.1
 ·exact(fL h.fit hb.k).2.1
 ·exact(fL h.fit hb.v).2.1
theorem Ll {w:World}{ps mb Bm Bd Bl Bf D:Nat}{X:Nat->Prop}{S:St}{t:Tr}{a:List (It×Nd)}{x:It×Nd}{W:World}(nf:K4 S t a x)(h:mz w ps mb Bm Bd Bl Bf D X (kx a x 3) (mZ t.f9 a++[x.2.left,x.2.right]) x.1.k false W):mz w ps mb Bm Bd Bl Bf D X (mB (a++[x])) (mZ t.f9 (a++[x])) (wk (a++[x])) (a++[x]).isEmpty W:=by
 have e1:kx a x 3=mB (a++[x]):=by
  rw[MZ,<-nf.key,<-nf.val];unfold kx
  simp
 have e2:(a++[x]).isEmpty=false:=s_
 rw[<-e1,Nx,Ly,e2];exact h
theorem qYlae{P:Prop}(h:P:=by
 gi_wp2_with fail;go_roundw
 case rel=>exact⟨j+1,s_,o_,trivial⟩
 case measure=>simp[intOf];omega):P:=h
theorem qYlad{P:Prop}(h:P:=by
 obtain⟨r0,W6,r1,r2,hg,ai,ar⟩:=J0.O.1.seen (x:=x.1.h) HF.O.1.1 HF.O.1.2 (J3 HF.O.2.2.2 _);have ad:=ai.cm;have q0:(W6).cell? (y_ (z+1+1+1))=some (.map (some (z+1))):=e_ ad
 have ap:=(hg.block _ (gl J0.O.2.2.1) (fun q=>by have:=Option.some.inj q;omega)).T J0.O.2.2.1;have an:=(hg.block _ (gl J0.O.2.2.2) (fun q=>by have:=Option.some.inj q;omega)).T J0.O.2.2.2;have H6:=kq4 ai (J0.O.2.1.T ar) ap an;clear ad ap an ai ar hg;gi_wp2_with fail;go_roundw
 case rel=>exact⟨1,o_,rfl,H6.O⟩
 case measure=>simp[intOf]):P:=h
theorem qYlac{P:Prop}(h:P:=by
 obtain⟨r0,W6,r1,r2,hg,ai,ar⟩:=J0.O.1.seen (x:=x.2.key) HF.O.2.1.1 HF.O.2.1.2 (J3 HF.O.2.2.2 _);have ad:=ai.cm;have q0:(W6).cell? (y_ (z+1+1+1))=some (.map (some (z+1))):=e_ ad
 have ap:=(hg.block _ (gl J0.O.2.2.1) (fun q=>by have:=Option.some.inj q;omega)).T J0.O.2.2.1;have an:=(hg.block _ (gl J0.O.2.2.2) (fun q=>by have:=Option.some.inj q;omega)).T J0.O.2.2.2;have H6:=kq4 ai (J0.O.2.1.T ar) ap an;clear ad ap an ai ar hg;gi_wp2_with fail;go_roundw
 case rel=>exact⟨2,o_,rfl,H6.O⟩
 case measure=>simp[intOf]):P:=h
theorem qYlab{P:Prop}(h:P:=by
 obtain⟨r0,W6,r1,r2,hg,ai,ar⟩:=J0.O.1.seen (x:=x.2.val) HF.O.2.2.1.1 HF.O.2.2.1.2 (J3 HF.O.2.2.2 _);have ad:=ai.cm;have q0:(W6).cell? (y_ (z+1+1+1))=some (.map (some (z+1))):=e_ ad
 have ap:=(hg.block _ (gl J0.O.2.2.1) (fun q=>by have:=Option.some.inj q;omega)).T J0.O.2.2.1;have an:=(hg.block _ (gl J0.O.2.2.2) (fun q=>by have:=Option.some.inj q;omega)).T J0.O.2.2.2;have H6:=kq4 ai (J0.O.2.1.T ar) ap an;clear ad ap an ai ar hg;gi_wp2_with fail;go_roundw
 case rel=>exact⟨3,o_,rfl,H6.O⟩
 case measure=>simp[intOf]):P:=h
theorem qYlaa{P:Prop}(h:P:=by
 have v0:(W7).frozen? (y_ (z+1+1+1+1+1+1))=false:=AT q3;obtain⟨a6,bb⟩:=a1.first false;obtain⟨W8,bk⟩:=Ii (W7.setCell (y_ (z+1+1+1+1+1+1)) (.bool false));have n8:∀k,k≠z+1+1+1+1+1+1->W8.1[k]?=W7.1[k]?:=fun k hk=>by rw[<-bk];exact FB hk
 rw[bk] at a6 bb;have q4:=(n8 bn o_).T ((n7 bn o_).T J0.O.2.2.2);obtain⟨n0,n1,n2,n3,n4,n5⟩:=ia q4;obtain⟨A,c,bs,A2,c2,W9,c9,⟨v9,a7⟩,a4,a2⟩:=a6.side (by rw[KP];have:=HF.O.2.2.2;omega) x.2.left x.2.right 59;generalize (mZ t.f9 a).length=ns at*;have d0:(W8).cell? (y_ (z+1+1+1+1))=some (.slice A ns c):=e_ bs
 have e0:(W9).cell? (y_ (z+1+1+1+1))=some (v9):=e_ a7
 have g0:(W9).frozen? (y_ (z+1+1+1+1))=false:=AT a7;have H9:=kq2 a4 (J0.O.2.1.T (ba.T (bb.T a2)));clear a1 ba a6 bb a4 a2 q1 q2 q3 q4 bs a7 n7 n8 s7 hj;have ez:SV x.1.k=.string ⟨x.1.k.toArray⟩:=rfl
 gi_wp2_with (gi_at_builtin;refine Kg _ rfl _ _ _ _ rfl _ _ rfl rfl _ _ c9 ?_)
 obtain⟨a4,a2⟩:=H9.O;exact⟨⟨a2.1.size,fun k o hk=>a2.1.same k o o_⟩,a2.2,Ll HB.d a4⟩):P:=h
theorem NC {w:World}{ps:Nat}{S:St}{o:Nat->Nat}{Y:Nat->Prop}{Ok:Tr->Prop}{l:Tr}{d:It}{m:Nat}{r:Tr}(h:Ig w ps S Y)(hB:fC Ok S o (.node l d m r))(hN2:(Tr.node l d m r).its.length<=1000):
 CallsIn Fence.wide 7 prog 144 #[PV ps,Xu d.h] w fun e w'=>e=.returned (Xi 0)/\D_ w w':=by
 have h1:1<=7:=o_
 have gp:Fence.wide.fn 121:=trivial;have gs:Fence.wide.fn 42:=trivial;have gn:Fence.wide.fn 76:=trivial;have gv:Fence.wide.fn 192:=trivial;have gg:Fence.wide.fn 88:=trivial;have gk:Fence.wide.fn 193:=trivial;have ec:∀W,CallsIn Fence.wide 6 prog 121 #[PV ps,Xu d.h] W _:=fun W=>callsIn_wide.2 (EY ps d.h W);have c6:=fun W (hW:D_ w W)=>(callsIn_wide (n:=6)).2 (fB (h.a_ hW) hB.fit.inv 0 o_);simp only[fU] at c6;have gc:((d.h:Int)==0)=false:=by have:=(fL hB.fit hB.at'.1).1;simp;omega
 have eb:=fun W (hW:D_ w W)=>(callsIn_wide (n:=6)).2 (J6 (h.a_ hW) hB.fit hB.at'.1);have bd:D_ w ((w.alloc (Xg ps)).alloc (.cells #[Xi 0] 27)):=((aa _ _).alloc Ih _).alloc s_ _;have a0:=kq6 h hB hN2 c6 eb bd;clear h hB hN2 c6 eb bd;refine callsIn_of_wp_marks func144 rfl trivial ?_ rfl;simp only[ntmps144,aS,aj,aL,Nat.reduceAdd,Nat.reduceSub,aO,aP,aT,aR,aX,aJ];gi_wp2_with fail;refine(a0.d _ a0.f).M ?_;rintro e w1 ⟨rfl,rfl⟩;gi_wp2_with fail;refine(a0.e _ a0.f).M ?_;rintro e w2 ⟨rfl,bo⟩;obtain⟨nn,b9⟩:=Ii (Tr.nd l d m r);rw[b9,J5];have HN:=If b9;clear b9;have ck:((w.alloc (Xg ps)).alloc (.cells #[Xi 0] 27)).1[w.1.size]?=some (Xg ps):=by
  rw[cL _ _ _ s_];exact World.alloc_heap_new _ _
 have cj:((w.alloc (Xg ps)).alloc (.cells #[Xi 0] 27)).1[w.1.size+1]?=some (.cells #[Xi 0] 27):=by
  have:=World.alloc_heap_new (w.alloc (Xg ps)) (.cells #[Xi 0] 27);rw[World.size_alloc] at this;exact this
 have cn:=(bo.block _ (gl ck)).T ck;have dc:=(bo.block _ (gl cj)).T cj;have d6:=b_ a0.f bo;have fv:w.1.size+2<=w2.1.size:=by have:=bo.size;simp at this;omega
 have c0:(w2).cell? (y_ w.1.size)=some (PV ps):=e_ cn
 have H2:=kq4 cn dc d6 fv;clear ck cj cn dc bo d6;have e':= @run_makeMap prog
 gi_upto_region 11 with fail
 obtain⟨W3,d3⟩:=Ii (wa w2 nn d.h)
 show Code.wpIn _ _ _ _ _ _ (wa w2 nn d.h)
 have b4:=Mp nn d.h H2.c H2.d H2.a H2.b;have bu:(wa w2 nn d.h).1.size=w2.1.size+7:=by unfold wa;simp
 rw[d3] at b4 bu⊢;clear d3 c0;have dk:=b4.cs;have c0:(W3).cell? (y_ w.1.size)=some (PV ps):=e_ dk
 have cb:=If b4;clear b4 dk e';gi_wp2_with fail;refine(ec _).M ?_;rintro e w4 ⟨rfl,rfl⟩;gi_wp2_with fail;clear ec;generalize w2.1.size=z at*;have HT:=If a0.b;obtain⟨t,bx⟩:=Ii (Tr.node l d m r);rw[bx] at a0 HT;have b':t.f9=d.h:=by rw[<-bx];rfl
 have ep:nn.size=t.its.length:=by rw[<-HN.O,<-bx];rfl
 obtain⟨W0,bc⟩:=Ii ((W3.alloc (Xg ps)).alloc (Xf d.h));have z0:W0.1.size=z+9:=by rw[<-bc];simp[bu]
 have ch:D_ W3 W0:=by rw[<-bc];exact((aa _ _).alloc Ih _).alloc s_ _
 have bd:D_ w W0:=b_ cb.O.bl ch;have g1:W0.1[z+7]?=some (Xg ps):=by rw[<-bc,JY,JY];simp[bu]
 have g2:W0.1[z+7+1]?=some (Xf t.f9):=by rw[<-bc,JY,b'];simp[bu]
 have g8:=H2.d;have e4:mz w ps (z+1) (z+1+1+1) (z+1+1+1+1) (z+1+1+1+1+1) (z+1+1+1+1+1+1) (z+7) (fun k=>k=z+7\/k=z+7+1) (mB []) (mZ t.f9 []) (wk []) ([]:List (It×Nd)).isEmpty W0:=by
  have:=cb.O.grown (B:=z+7) (X':=fun k=>k=z+7\/k=z+7+1) Ih (lf ch) (fun r e=>by cases e) (fun k hk=> .inr (by rw[bu,z0];omega));rw[b'];exact this
 have hN:t.h_.length<A_ S/\t.h_.length<=1000:=by
  rw[nodes_len];exact⟨HT.O.A_,a0.c⟩
 rw[bc];have cc:=kq2 ep b';have HD:=If (show Tr.At S (.node l d m r) by rw[bx];exact HT.O.at');clear bc bx ch H2 ep b';refine KW rfl h1 (gf:=161) (lb:=#[PV (z+7),PV (z+7+1)]) rfl trivial (enters_of func161 k_ rfl)
  (Ls a0.a HT.O.fit HT.O.at' hN.1 hN.2 _ _ bd o_ g1 g2) (fun k hk=>by omega) mA.T
  (fun X W l o o' h1 h2 h3 h4 h5=>⟨nN W l o o' (by have:=bd.size;omega) h3 h4 h5,fun k o2 hx e=>(World.putObj_heap_other (by intro q;subst q;exact h2 hx)).T e⟩) (aa _ _) (fun _=>rfl)
  (fun X a W=>mz w ps (z+1) (z+1+1+1) (z+1+1+1+1) (z+1+1+1+1+1) (z+1+1+1+1+1+1) (z+7) X (mB a) (mZ t.f9 a) (wk a) a.isEmpty W)
  (fun X X' a W W' row hs hg hr hx=>hs.grown (B:=W0.1.size) o_ hg hr hx)
  e4
  (fun x a' W=>∃bn,a'= { tmps:=Lk ps d.h w.1.size z nn x bn,defers:=[] } /\z+7<=bn/\W.1[bn]?=some (Xb x.2.key x.2.val x.2.left x.2.right x.2.mark x.2.size))
  (fun x a' _ W W' row hs hg hr=>by
   obtain⟨bn,e1,e2,e3⟩:=hs;refine⟨bn,e1,e2,(hg.block _ (gl e3) fun q=>?_).T e3⟩;obtain⟨_,o,q1,q2⟩:=hr bn q.S;rw[e3] at q1
   cases q1
   cases q2)
  ?assign ?body ?done
 case assign=>
  rintro l' X g9 x W K hI hK;have HK:=If hK;have HI:=If hI;clear hK hI;simp only[JW];rw[J5]
  gi_wp2
  have hb:D_ W (W.alloc (Xb x.2.key x.2.val x.2.left x.2.right x.2.mark x.2.size)):=(aa _ _).alloc Ih _;obtain⟨i1,i2,i3⟩:=HI.O.a_ hb;exact HK.O _ _ ⟨i2.size,fun k o hk=>i2.same k o o_⟩ i3 i1 ⟨W.1.size,rfl,HI.O.lo.2.2.2.2.2.2,World.alloc_heap_new _ _⟩
 case body=>
  rintro l' X a x a' W g3 g4 hI ⟨bn,rfl,d5,d4⟩ ⟨rr,en⟩;have nf:=Nl HT.O en;have e5:a.isEmpty=true\/(a.isEmpty=false/\Fu (wk a) x.1.k<0):=by
   rcases nf.less with q | q
   ·left;rw[q];rfl
   ·rcases LA a with q2 | ⟨_,_,q2⟩
    ·left;rw[q2];rfl
    ·right;exact⟨by rw[q2];rfl,q⟩
  have em:=((callsIn_wide (n:=4)).2 (NF (a0.a.a_ hI.bl) HT.O.fit nf.rec' nf.bl.lk nf.bl.lv (by rw[nf.key];exact nf.bl.k) (by rw[nf.val];exact nf.bl.v))).inRound l';have ea:∀W1,D_ w W1->CallsIn (Fence.wide.inRound l') 4 prog 193 #[PV ps,eS x.2] W1 _:=fun W1 hW=>((callsIn_wide (n:=4)).2 (by
   obtain⟨l2,m2,r2,e1,e2,e3⟩:=nf.sub;rw[e1];exact ND (a0.a.a_ hW) HT.O.fit e2.2.1 e2.2.2 (by have:=a0.c;omega))).inRound l'
  have hF:(x.1.h<2^64/\x.1.h∉kx a x 0)/\(x.2.key<2^64/\x.2.key∉kx a x 1)/\(x.2.val<2^64/\x.2.val∉kx a x 2)/\a.length<=1000:=by
   refine⟨⟨(fL HT.O.fit nf.rec').2.1,nf.h1⟩,⟨?_,?_⟩,⟨?_,?_⟩,by have:=nf.al;have:=a0.c;omega⟩
   ·rw[nf.key];exact(fL HT.O.fit nf.bl.k).2.1
   ·rw[nf.key];exact nf.h2
   ·rw[nf.val];exact(fL HT.O.fit nf.bl.v).2.1
   ·rw[nf.val];unfold kx;rw[nf.key];exact nf.h3
  have HF:=If hF;clear hF;have d7:=fun W1=>((callsIn_wide (n:=4)).2 (sT (wk a) x.1.k W1)).inRound l';have cs:=hI.cs;have c0:(W).cell? (y_ w.1.size)=some (PV ps):=e_ cs
  have HB:=kq6 hI d5 d4 nf ea d7;clear hI d5 d4 nf ea d7 cs en;generalize a.isEmpty=fb at*;unfold Lk;rw[J5] at*;gi_wp2_with fail;refine em.M ?_;rintro e W1 ⟨rfl,bm⟩;unfold eu;obtain⟨dp,er⟩:=HB.a.a_ bm;obtain⟨W2,dv⟩:=Ii (W1.alloc (Xn x.1.k x.1.v));have b2:D_ W1 W2:=by rw[<-dv];exact(aa _ _).alloc Ih _
  have hp:W2.1[W1.1.size]?=some (Xn x.1.k x.1.v):=by rw[<-dv];exact World.alloc_heap_new _ _
  obtain⟨bf,ev⟩:=dp.a_ b2;have c':=If (show z+7<=W1.1.size from aH HB.a.lo.2.2.2.2.2.2 bm.size);have cp:=(b2.block _ (aB (gl HB.c) bm.size)).T ((bm.block _ (gl HB.c)).T HB.c);have cs:=bf.cs;have cl:=bf.cl;have cf:=bf.cf;have s0:(W2).cell? (y_ w.1.size)=some (PV ps):=e_ cs
  have l0:(W2).cell? (y_ (z+1+1+1+1+1))=some (SV (wk a)):=e_ cl
  have f0:(W2).cell? (y_ (z+1+1+1+1+1+1))=some (.bool fb):=e_ cf
  obtain⟨p0,p1⟩:=Fp hp;obtain⟨n0,n1,n2,n3,n4,n5⟩:=ia cp;have au:=kq4 bf (er.T ev) hp cp;clear dp er b2 hp bf ev cp cs cl cf bm c0 em
  rcases e5 with rfl | ⟨rfl,g5⟩
  ·gi_wp2_with fail;refine(HB.e W2 au.a.bl).M ?_;rintro e W5 ⟨rfl,a5⟩;obtain⟨bj,b0⟩:=au.a.a_ a5;have bt:=(a5.block _ (gl au.c)).T au.c;have a8:=(a5.block _ (gl au.d)).T au.d;clear s0 l0 f0 p0 p1 n0 n1 n2 n3 n4 n5;obtain⟨n0,n1,n2,n3,n4,n5⟩:=ia a8;have ca:=kq4 bj (au.b.T b0) bt a8;clear bj b0 bt a8 a5 au;have c3:=Lt (Xu x.1.h) (Xu x.2.key) (Xu x.2.val);have c4:=Lu (Xu x.1.h) (Xu x.2.key) (Xu x.2.val);have c5:=Lv (Xu x.1.h) (Xu x.2.key) (Xu x.2.val);gi_wp2_with fail;clear n0 n1 n2 n3 n4 n5
   gi_loopw [18,79] (fun _ i wr=>∃j:Nat,j<=3/\i=Xi j/\Hid (mz w ps (z+1) (z+1+1+1) (z+1+1+1+1) (z+1+1+1+1+1) (z+1+1+1+1+1+1) (z+7) X (kx a x j) (mZ t.f9 a) (wk a) true wr/\Kx (z+7) w.1.size X W wr/\wr.1[W1.1.size]?=some (Xn x.1.k x.1.v)/\wr.1[bn]?=some (Xb x.2.key x.2.val x.2.left x.2.right x.2.mark x.2.size))) (fun _ i _=>3-(intOf i).toNat)
   case atStart=>exact⟨0,o_,rfl,ca.O⟩
   case round=>
    obtain⟨j,hj,rfl,J0⟩:=hrel;have e8:=HB.b;have fj:=c'.O;have ad:=J0.O.1.cm;have m0:(wr).cell? (y_ (z+1+1+1))=some (.map (some (z+1))):=e_ ad
    clear ad
    rcases(show j=0\/j=1\/j=2\/j=3 by omega) with rfl | rfl | rfl | rfl
    ·exact qYlad
    ·exact qYlac
    ·exact qYlab
    ·clear m0 c3 c4 c5;have q1:=J0.O.2.2.1;have q2:=J0.O.1.cl;obtain⟨p0,p1⟩:=Fp q1;have l0:(wr).cell? (y_ (z+1+1+1+1+1))=some (SV (wk a)):=e_ q2
     have u0:(wr).frozen? (y_ (z+1+1+1+1+1))=false:=AT q2;obtain⟨a1,ba⟩:=J0.O.1.last x.1.k;obtain⟨W7,a3⟩:=Ii (wr.setCell (y_ (z+1+1+1+1+1)) (SV x.1.k));have s7:W7.1.size=wr.1.size:=by rw[<-a3,size_setCell]
     have n7:∀k,k≠z+1+1+1+1+1->W7.1[k]?=wr.1[k]?:=fun k hk=>by rw[<-a3];exact FB hk
     rw[a3] at a1 ba;have q3:=a1.cf;have f0:(W7).cell? (y_ (z+1+1+1+1+1+1))=some (.bool true):=e_ q3
     exact qYlaa
  ·gi_wp2_with fail;refine(HB.f W2).M ?_;rintro e w3 ⟨rfl,h3⟩;rw[h3];gi_wp2_with fail;refine(HB.e W2 au.a.bl).M ?_;rintro e W5 ⟨rfl,a5⟩;obtain⟨bj,b0⟩:=au.a.a_ a5;have bt:=(a5.block _ (gl au.c)).T au.c;have a8:=(a5.block _ (gl au.d)).T au.d;clear s0 l0 f0 p0 p1 n0 n1 n2 n3 n4 n5;obtain⟨n0,n1,n2,n3,n4,n5⟩:=ia a8;have ca:=kq4 bj (au.b.T b0) bt a8;clear bj b0 bt a8 a5 au;have c3:=Lt (Xu x.1.h) (Xu x.2.key) (Xu x.2.val);have c4:=Lu (Xu x.1.h) (Xu x.2.key) (Xu x.2.val);have c5:=Lv (Xu x.1.h) (Xu x.2.key) (Xu x.2.val);gi_wp2_with fail;clear n0 n1 n2 n3 n4 n5
   gi_loopw [18,79] (fun _ i wr=>∃j:Nat,j<=3/\i=Xi j/\Hid (mz w ps (z+1) (z+1+1+1) (z+1+1+1+1) (z+1+1+1+1+1) (z+1+1+1+1+1+1) (z+7) X (kx a x j) (mZ t.f9 a) (wk a) false wr/\Kx (z+7) w.1.size X W wr/\wr.1[W1.1.size]?=some (Xn x.1.k x.1.v)/\wr.1[bn]?=some (Xb x.2.key x.2.val x.2.left x.2.right x.2.mark x.2.size))) (fun _ i _=>3-(intOf i).toNat)
   case atStart=>exact⟨0,o_,rfl,ca.O⟩
   case round=>
    obtain⟨j,hj,rfl,J0⟩:=hrel;have e8:=HB.b;have fj:=c'.O;have ad:=J0.O.1.cm;have m0:(wr).cell? (y_ (z+1+1+1))=some (.map (some (z+1))):=e_ ad
    clear ad
    rcases(show j=0\/j=1\/j=2\/j=3 by omega) with rfl | rfl | rfl | rfl
    ·exact qYlad
    ·exact qYlac
    ·exact qYlab
    ·clear m0 c3 c4 c5;have q1:=J0.O.2.2.1;have q2:=J0.O.1.cl;obtain⟨p0,p1⟩:=Fp q1;have l0:(wr).cell? (y_ (z+1+1+1+1+1))=some (SV (wk a)):=e_ q2
     have u0:(wr).frozen? (y_ (z+1+1+1+1+1))=false:=AT q2;obtain⟨a1,ba⟩:=J0.O.1.last x.1.k;obtain⟨W7,a3⟩:=Ii (wr.setCell (y_ (z+1+1+1+1+1)) (SV x.1.k));have s7:W7.1.size=wr.1.size:=by rw[<-a3,size_setCell]
     have n7:∀k,k≠z+1+1+1+1+1->W7.1[k]?=wr.1[k]?:=fun k hk=>by rw[<-a3];exact FB hk
     rw[a3] at a1 ba;have q3:=a1.cf;have f0:(W7).cell? (y_ (z+1+1+1+1+1+1))=some (.bool false):=e_ q3
     exact qYlaa
 case done=>
  rintro D' X xs W hD rfl hI hK;obtain⟨A,c,d1,d2,_⟩:=hI.cd;have d8:=hI.cs;have ad:=hI.cm;have a9:=hI.ce;have eg:=hI.mp.look;have eo:=Ny HT.O.at';have ek:=M0 HT.O;have cw:=(callsIn_wide (n:=6)).2 (J6 (a0.a.a_ hI.bl) HT.O.fit (show i_ S d.h=some (eM nn) by rw[<-HN.O];exact HD.O.1));have bv:=KP t.f9 t.h_;rw[nodes_len,<-cc.a] at bv;have b9:nn.size<=1000:=by rw[cc.a];exact a0.c
  obtain⟨bq,cq,hv⟩:∃bq cq,Value.slice A (mZ t.f9 t.h_).length c=.slice (some (y_ bq)) (mZ t.f9 t.h_).length cq:=by
   rcases d2.2 with⟨_,e0⟩ | ⟨b,c2,fw,e,_⟩
   ·simp at e0
    rw[e0] at bv
    simp at bv
   ·exact⟨b,c2,e⟩
  obtain⟨rfl,rfl⟩:A=some (y_ bq)/\c=cq:=by cases hv;exact⟨rfl,rfl⟩
  have C_:=fun j (hj:j<(mZ t.f9 t.h_).length)=>World.ownsRow.cells d2 (g:=bq) rfl j (Xu ((mZ t.f9 t.h_)[j]:Nat)) (by simp[hV,hj]);obtain⟨ns,c7⟩:=Ii (mZ t.f9 t.h_).length;rw[c7] at bv d1;have c0:(W).cell? (y_ w.1.size)=some (PV ps):=e_ d8
  have m0:(W).cell? (y_ (z+1+1+1))=some (.map (some (z+1))):=e_ ad
  have d0:(W).cell? (y_ (z+1+1+1+1))=some (.slice (some (y_ bq)) ns c):=e_ d1
  unfold eS at cw;have HI:=kq7 hI eg eo ek cw C_ c7;have HK:=kq3 hK a9 bv;clear hI eg eo ek cw C_ c7 d1 d2 d8 ad a9 hv hK;gi_wp2_with fail
  gi_loopw [20,102] (fun _ i wr=>∃j:Nat,i=Xi j/\j<=ns/\wr=W) (fun _ i _=>ns-(intOf i).toNat)
  case atStart=>exact⟨0,rfl,o_,rfl⟩
  case round=>
   obtain⟨j,rfl,hj,fk⟩:=hrel;subst fk
   by_cases hjl:j<ns
   ·have ed:j<(mZ t.f9 t.h_).length:=by rw[HI.g];exact hjl
    have r0:=HI.f j ed;rw[Addr.add_lit] at r0;have hx:=HI.c _ (ao ed);generalize (mZ t.f9 t.h_)[j]=x at*;simp only[bz] at r0;have e6:(j:Int)<ns:=o_
    by_cases h0:x=0
    ·have fm:((x:Int) !=0)=false:=by rw[h0];rfl
     clear hx h0;exact qYlae
    ·have fm:((x:Int) !=0)=true:=m_
     have hm:=hx.resolve_left h0;have g6:=HI.b x (HI.d x hm);have gb:(((mB t.h_).count x:Nat):Int)≠0:=by have:=List.count_pos_iff.2 hm;omega
     generalize (mB t.h_).count x=cx at*;have f':((cx:Int)==0)=false:=m_
     clear hx h0 hm;exact qYlae
   ·obtain rfl:j=ns:=o_
    have e6:¬(j:Int)<j:=o_
    gi_wp2_with fail;refine HI.e.M ?_;rintro e w6 ⟨rfl,b1⟩;obtain⟨ai,_⟩:=HI.a.a_ b1;obtain⟨W7,a3⟩:=Ii (w6.alloc (Xb nn.key nn.val nn.left nn.right nn.mark nn.size));have b7:D_ w6 W7:=by rw[<-a3];exact(aa _ _).alloc Ih _
    have el:W7.1[w6.1.size]?=some (Xb nn.key nn.val nn.left nn.right nn.mark nn.size):=by rw[<-a3];exact World.alloc_heap_new _ _
    obtain⟨a1,_⟩:=ai.a_ b7;obtain⟨ds,d9,cv,e7⟩:=a1.mp.len 3;have d':ds.length=3*nn.size:=by
     have e1:=Dk d9 (m:=mB t.h_) fun y hy=>(cv y).1 hy;have e2:=Dk (MY HT.O) (m:=ds) fun y hy=>(cv y).2 hy;rw[Lr,nodes_len,<-cc.a] at e1 e2;omega
    rw[d',show ((3*nn.size:Nat):Int)=3*(nn.size:Int) by omega] at e7;have g7:IntKind.u64.wrap (3*(nn.size:Int))=3*(nn.size:Int):=bP _ o_;have ad:=a1.cm;have a9:=a1.ce;have q0:(W7).cell? (y_ (z+1+1+1))=some (.map (some (z+1))):=e_ ad
    have e0:(W7).cell? (y_ (w.1.size+1))=some (Xi 0):=e_ a9
    have f0:(W7).frozen? (y_ (w.1.size+1))=false:=AT a9;obtain⟨n0,n1,n2,n3,n4,n5⟩:=ia el;have H7:=kq3 a1.bl a9 (((b7.block _ (aB (gl HK.a) b1.size)).T ((b1.block _ (gl HK.a)).T HK.a)));clear ai a1 b7 el d9 cv d' ad a9 b1 c0 m0 d0;gi_wp2_with fail;obtain⟨B7,dd,k7⟩:=H7.O;have dn:D'≠w.1.size+1:=fun q=>by
     rw[q,dd] at k7
     cases k7
    have cF:=heap_setCell (i:=0) (v:=Xi 0) dd;have kF:=(FB (w:=W7) (b:=w.1.size+1) (i:=0) (v:=Xi 0) dn).T k7;have bF:D_ w (W7.setCell (y_ (w.1.size+1)) (Xi 0)):=B7.T ⟨rfl,rfl,rfl,s_,fun k hk=>FB o_⟩;generalize W7.setCell (y_ (w.1.size+1)) (Xi 0)=wF at*;refine⟨s_,.inl ⟨_,_,rfl,run_takeDeferred kF,?_⟩⟩;have cG:=(World.putObj_heap_other (w:=wF) (o:=.deferred none) (fun q=>dn q.S)).T cF;have cH:(wF.putObj D' (.deferred none)).cell? (y_ (w.1.size+1))=some (Xi 0):=e_ cG
    refine⟨Xi 0,by simp[results,f144,go_sem,cH],rfl,bF.T (nN wF D' _ _ (by have:=bd.size;omega) kF rfl rfl)⟩
theorem LX {w:World}{ps:Nat}{S:St}{o:Nat->Nat}{Y:Nat->Prop}{Ok:Tr->Prop}(h:Ig w ps S Y):∀{t:Tr},fC Ok S o t->t.its.length<=1000->
 Cb 144 #[PV ps,Xu t.f9] w (Xi 0)
 | .nil,hB,_=>xS h hB.fit.inv
 | .node _ _ _ _,hB,hN=>callsIn_wide.1 (NC h hB hN)
theorem Tr.nodes_ok {S:St}{Ok:Tr->Prop}(sub:∀{l d m r},Ok (.node l d m r)->Ok l/\Ok r):∀{t:Tr},At S t->Ok t->∀x∈t.h_,∃l m r,x.2=nd l x.1 m r/\At S (.node l x.1 m r)/\Ok (.node l x.1 m r)/\l.its.length+r.its.length<t.its.length
 | .nil,_,_,x,hx=>by cases hx
 | .node l d m r,⟨h1,h2,h3⟩,ok,x,hx=>by
  have hl:(Tr.node l d m r).its.length=l.its.length+(r.its.length+1):=by
   show (l.its++d::r.its).length=_
   grind
  rcases aq.1 (show x∈h_ l++(d,nd l d m r)::h_ r from hx) with hx | hx
  ·obtain⟨l',m',r',a1,a2,a3,a4⟩:=nodes_ok sub h2 (sub ok).1 x hx;grind
  ·rcases ah.1 hx with rfl | hx
   ·exact⟨l,m,r,rfl,⟨h1,h2,h3⟩,ok,o_⟩
   ·obtain⟨l',m',r',a1,a2,a3,a4⟩:=nodes_ok sub h3 (sub ok).2 x hx;grind
theorem K8 {w:World}{ps:Nat}{S:St}{o:Nat->Nat}{Y:Nat->Prop}{t:Tr}(h:Ig w ps S Y)(hB:fC eZ S o t)(hN:t.its.length<=1000):
 Cb 234 #[PV ps,Xu t.f9] w (Xi 0):=by
 obtain⟨n,hn⟩:=Ii t.hs.length;have au:n=t.h_.length:=by rw[<-hn,<-nodes_h,am]
 have a7:n<=1000:=by rw[au,nodes_len];omega
 have HG:=kq6 h hB (LX h hB hN) (fun W (hW:D_ w W)=>Kr (h.a_ hW) hB.fit hB.at' (by rw[nodes_len];exact hB.A_) (by rw[nodes_len];omega)) hn au;go_enter func234,ntmps234;go_wp2_with fail;refine dR HG.c fun w1 hb1=>?_;have H1:=If hb1;go_wp2_with fail;refine(HG.d w1 H1.O).M ?_;rintro e w2 ⟨v,rfl,a0,a2⟩;obtain⟨A,c,rfl⟩:=a0.E_;have H2:=kq2 (b_ H1.O a2) a0;go_wp2_with fail
 go_loopw [4,7,8,9,10,21] (fun _ _ _ _ _ i wr=>∃j:Nat,i=Xi j/\j<=n/\Hid (D_ w2 wr)) (fun _ _ _ _ _ i _=>n-(intOf i).toNat)
 case atStart=>exact⟨0,rfl,o_,aa _ _⟩
 case round=>
  obtain⟨j,rfl,hj,J0⟩:=hrel
  by_cases hjl:j<n
  ·have an:j<t.hs.length:=by rw[HG.e];omega
   have ap:j<t.h_.length:=by rw[<-HG.f];omega
   obtain⟨b,c',hv,_,r0⟩:=(H2.b.at fun g e=>J0.O.block g (H2.b.ge g e).2).cell_at an;have ai:t.hs[j]=t.h_[j].1.h:=by simp[<-nodes_h]
   rw[ai] at r0;obtain⟨l,m,r,e1,e2,e3,e4⟩:=nodes_ok (S:=S) (Ok:=eZ) (fun h=>⟨h.1,h.2.1⟩) HG.b.at' HG.b.ok _ (ao ap);obtain⟨x,hx⟩:=Ii t.h_[j];rw[hx] at r0 e1 e2 e3;have ad:=b_ H2.a J0.O;have a4:(j:Int)<n:=o_
   obtain⟨rfl,rfl⟩:A=some (y_ b)/\c=c':=by grind
   have hf:=HG.b.fit;have hg:=gR (HG.a.a_ ad) hf.inv x.1.h (fL hf e2.1).2.1;rw[e2.f_ hf] at hg;obtain⟨b1,b2,hm,a1,a3⟩:=e3;have a5:=b1.mark_le;have a6:=b2.mark_le;have hA:=fun W (hW:D_ w W)=>fJ (HG.a.a_ hW) hf.inv l.f9 (At.root_lt hf e2.2.1) (e2.2.1.height hf o_);simp only[gP,nd] at hg;have ar:max (l.mark:Int) (r.mark:Int)+1=(m:Int):=o_
   have d1:¬((r.mark:Int)+1<l.mark):=o_
   have d2:¬((l.mark:Int)+1<r.mark):=o_
   have d3:IntKind.i64.wrap (max (l.mark:Int) (r.mark:Int)+1)=(m:Int):=by rw[ar];exact ax _ o_
   have d4:IntKind.u64.wrap (m:Int)=(m:Int):=bP _ o_;have d5:IntKind.i64.wrap ((r.mark:Int)+1)=(r.mark:Int)+1:=ax _ o_;have d6:IntKind.i64.wrap ((l.mark:Int)+1)=(l.mark:Int)+1:=ax _ o_;obtain⟨z,hz⟩:=Ii (Tr.node l x.1 m r).its.length;rw[hz] at hg;have HE:=kq4 hg hA (fun W (hW:D_ w W)=>fJ (HG.a.a_ hW) hf.inv r.f9 (At.root_lt hf e2.2.2) (e2.2.2.height hf o_)) ad;clear hg hA ad e1 e2 b1 b2 hm a1 a3 a5 a6 hz hv ai hx an ap hf ar;generalize l.mark=lm at*;generalize r.mark=rm at*;generalize l.f9=lr at*;generalize r.f9=rr at*;go_wp2_with fail;refine dR HE.a fun w3 hb3=>?_;have q:=heap_alloc_new w3 (Xa x.1.kh x.1.vh lr rr m z x.1.h);have B:=(b_ HE.d hb3).alloc (by have:=hb3.size;have:=HE.d.size;omega) (Xa x.1.kh x.1.vh lr rr m z x.1.h);have B2:=(b_ J0.O hb3).alloc (by have:=hb3.size;have:=J0.O.size;omega) (Xa x.1.kh x.1.vh lr rr m z x.1.h)
   go_upto_region 8 with fail
   generalize w3.alloc (Xa x.1.kh x.1.vh lr rr m z x.1.h)=W at*;have ql:=(gl q);have a8:∀x:Fq (D_ W),x.to.cell? (x_ w3.1.size 2)=some (Xu lr):=fun x=>by rw[q_ ((x.ok.block _ ql).T q)];rfl
   have a9:∀x:Fq (D_ W),x.to.cell? (x_ w3.1.size 3)=some (Xu rr):=fun x=>by rw[q_ ((x.ok.block _ ql).T q)];rfl
   have hA:=fun x:Fq (D_ W)=>Calls.C6 (HE.b x.to (b_ B x.ok));have hB:=fun x:Fq (D_ W)=>Calls.C6 (HE.c x.to (b_ B x.ok));have HB:=kq2 B2 q;refine iq (D_ W) k_ k_ (aa _ _).drew (fun _=>?_)
   repeat (first | go_big_quiet_skip | (go_big_quiet_want;go_big_quiet_op;first | go_big_quiet_on | (apply Exists.intro;refine⟨fun x=>?_,?_⟩;(· first | with_reducible exact hA x | with_reducible exact hB x);go_big_quiet_on)))
   refine wpQuiet_nil ?_;rintro _ ⟨y,rfl⟩;obtain⟨c0,c1,c2,c3,c4,c5,c6⟩:=gG ((y.ok.block _ ql).T HB.b);have HX:=If (b_ HB.a y.ok);go_wp2_with fail;go_roundw
   case rel=>exact⟨j+1,s_,o_,HX.O⟩
   case measure=>simp[intOf];omega
  ·obtain rfl:j=n:=o_
   have a4:¬(j:Int)<j:=o_
   go_wp2_with fail;go_ret;exact⟨rfl,b_ H2.a J0.O⟩
theorem Nw {w:World}{ps:Nat}{S:St}{o:Nat->Nat}{Y:Nat->Prop}{t:Tr}(h:Ig w ps S Y)(hB:fC Rb S o t)(hN:t.its.length<=1000):
 Cb 235 #[PV ps,Xu t.f9] w (Xi 0):=by
 obtain⟨n,hn⟩:=Ii t.hs.length;have a7:n=t.h_.length:=by rw[<-hn,<-nodes_h,am]
 have bu:n<=1000:=by rw[a7,nodes_len];omega
 have HG:=kq6 h hB (LX h hB hN) (fun W (hW:D_ w W)=>Kr (h.a_ hW) hB.fit hB.at' (by rw[nodes_len];exact hB.A_) (by rw[nodes_len];omega)) hn a7;go_enter func235,ntmps235;go_wp2_with fail;refine dR HG.c fun w1 hb1=>?_;have H1:=If hb1;go_wp2_with fail;refine(HG.d w1 H1.O).M ?_;rintro e w2 ⟨v,rfl,a8,au⟩;obtain⟨A,c,rfl⟩:=a8.E_;have H2:=kq2 (b_ H1.O au) a8;go_wp2_with fail
 go_loopw [4,7,8,9,10,21] (fun _ _ _ _ _ i wr=>∃j:Nat,i=Xi j/\j<=n/\Hid (D_ w2 wr)) (fun _ _ _ _ _ i _=>n-(intOf i).toNat)
 case atStart=>exact⟨0,rfl,o_,aa _ _⟩
 case round=>
  obtain⟨j,rfl,hj,J0⟩:=hrel
  by_cases hjl:j<n
  ·have bj:j<t.hs.length:=by rw[HG.e];omega
   have bk:j<t.h_.length:=by rw[<-HG.f];omega
   obtain⟨b,c',hv,_,r0⟩:=(H2.b.at fun g e=>J0.O.block g (H2.b.ge g e).2).cell_at bj;have bb:t.hs[j]=t.h_[j].1.h:=by simp[<-nodes_h]
   rw[bb] at r0;obtain⟨l,m,r,e1,e2,e3,e4⟩:=nodes_ok (S:=S) (Ok:=Rb) (fun h=>⟨h.1,h.2.1⟩) HG.b.at' HG.b.ok _ (ao bk);obtain⟨x,hx⟩:=Ii t.h_[j];rw[hx] at r0 e1 e2 e3;have a3:=b_ H2.a J0.O;have bf:(j:Int)<n:=o_
   obtain⟨rfl,rfl⟩:A=some (y_ b)/\c=c':=by grind
   have hf:=HG.b.fit;have hg:=oQ (HG.a.a_ a3) hf.inv x.1.h (fL hf e2.1).2.1;rw[e2.f_ hf] at hg;obtain⟨b1,b2,bs,hm⟩:=e3;have bq:=b1.mark_le;have bv:=b2.mark_le;have bt:m<=10000:=o_
   have a5:=fun W (hW:D_ w W)=>gy (HG.a.a_ hW) hf.inv l.f9 (At.root_lt hf e2.2.1);have a6:=fun W (hW:D_ w W)=>gy (HG.a.a_ hW) hf.inv r.f9 (At.root_lt hf e2.2.2);have a4:=fun W (hW:D_ w W)=>gy (HG.a.a_ hW) hf.inv x.1.h (fL hf e2.1).2.1;have a':=fun W (hW:D_ w W)=>gq (HG.a.a_ hW) hf.inv l.f9 (At.root_lt hf e2.2.1);have ba:=fun W (hW:D_ w W)=>gq (HG.a.a_ hW) hf.inv r.f9 (At.root_lt hf e2.2.2);have a9:=fun W (hW:D_ w W)=>gq (HG.a.a_ hW) hf.inv x.1.h (fL hf e2.1).2.1;have bm:C7 S x.1.h=m / 2:=e2.black hf;have bo:F5 S x.1.h=decide (m % 2=1):=e2.red hf;simp only[e2.2.1.black hf,e2.2.2.black hf,e2.2.1.red hf,e2.2.2.red hf,bm,bo] at a5 a6 a4 a' ba a9;simp only[nd,eS] at hg;obtain⟨z,hz⟩:=Ii (Tr.node l x.1 m r).its.length;have hw:IntKind.u64.wrap (((l.mark / 2:Nat):Int)+1)=((l.mark / 2:Nat):Int)+1:=bP _ o_;have bc:(decide (m % 2=1)=true/\m / 2=l.mark / 2/\decide (l.mark % 2=1)=false/\decide (r.mark % 2=1)=false)\/(decide (m % 2=1)=false/\m / 2=l.mark / 2+1):=by
    grind
   generalize decide (m % 2=1)=ch at*;generalize decide (l.mark % 2=1)=cl at*;generalize decide (r.mark % 2=1)=cr at*;generalize m / 2=bh at*;generalize l.mark / 2=lb at*;have HE:=kq8 hg a5 a6 a4 a9 a' ba a3;generalize l.f9=lr at*;generalize r.f9=rr at*;go_wp2_with fail;refine dR HE.a fun w3 hb3=>?_;have a1:=kq3 ((b_ HE.h hb3).alloc (by have:=hb3.size;have:=HE.h.size;omega) (Xb x.1.kh x.1.vh lr rr m z)) ((b_ J0.O hb3).alloc (by have:=hb3.size;have:=J0.O.size;omega) (Xb x.1.kh x.1.vh lr rr m z)) (heap_alloc_new w3 (Xb x.1.kh x.1.vh lr rr m z));go_wp2_with fail;refine dR (HE.b _ a1.a) fun W1 hb1=>?_;have ap:=kq3 (b_ a1.a hb1) (b_ a1.b hb1) ((hb1.block _ (gl a1.c)).T a1.c);obtain⟨c0,c1,c2,c3,c4,c5⟩:=ia ap.c;go_wp2_with fail
   rcases bc with⟨rfl,rfl,rfl,rfl⟩ | ⟨rfl,rfl⟩
   ·have bd:True:=trivial;refine dR (HE.e _ ap.a) fun W2 au=>?_;have ad:=kq3 (b_ ap.a au) (b_ ap.b au) ((au.block _ (gl ap.c)).T ap.c);obtain⟨c0,c1,c2,c3,c4,c5⟩:=ia ad.c;go_wp2_with fail;refine dR (HE.c _ ad.a) fun W3 hb3=>?_;have ai:=kq3 (b_ ad.a hb3) (b_ ad.b hb3) ((hb3.block _ (gl ad.c)).T ad.c);obtain⟨c0,c1,c2,c3,c4,c5⟩:=ia ai.c;go_wp2_with fail;refine dR (HE.d _ ai.a) fun W4 hb4=>?_;have an:=kq3 (b_ ai.a hb4) (b_ ai.b hb4) ((hb4.block _ (gl ai.c)).T ai.c);obtain⟨c0,c1,c2,c3,c4,c5⟩:=ia an.c;go_wp2_with fail;refine dR (HE.e _ an.a) fun W5 hb5=>?_;have ar:=kq3 (b_ an.a hb5) (b_ an.b hb5) ((hb5.block _ (gl an.c)).T an.c);obtain⟨c0,c1,c2,c3,c4,c5⟩:=ia ar.c;go_wp2_with fail;refine dR (HE.f _ ar.a) fun W6 hb6=>?_;have a0:=kq3 (b_ ar.a hb6) (b_ ar.b hb6) ((hb6.block _ (gl ar.c)).T ar.c);obtain⟨c0,c1,c2,c3,c4,c5⟩:=ia a0.c;go_wp2_with fail;refine dR (HE.g _ a0.a) fun W7 hb7=>?_;have a2:=kq3 (b_ a0.a hb7) (b_ a0.b hb7) ((hb7.block _ (gl a0.c)).T a0.c);obtain⟨c0,c1,c2,c3,c4,c5⟩:=ia a2.c;go_wp2_with fail;go_roundw
    case rel=>exact⟨j+1,s_,o_,a2.b⟩
    case measure=>simp[intOf];omega
   ·have bd:True:=trivial;refine dR (HE.e _ ap.a) fun W2 au=>?_;have ad:=kq3 (b_ ap.a au) (b_ ap.b au) ((au.block _ (gl ap.c)).T ap.c);obtain⟨c0,c1,c2,c3,c4,c5⟩:=ia ad.c;go_wp2_with fail;refine dR (HE.c _ ad.a) fun W3 hb3=>?_;have ai:=kq3 (b_ ad.a hb3) (b_ ad.b hb3) ((hb3.block _ (gl ad.c)).T ad.c);obtain⟨c0,c1,c2,c3,c4,c5⟩:=ia ai.c;go_wp2_with fail;refine dR (HE.d _ ai.a) fun W4 hb4=>?_;have an:=kq3 (b_ ai.a hb4) (b_ ai.b hb4) ((hb4.block _ (gl ai.c)).T ai.c);obtain⟨c0,c1,c2,c3,c4,c5⟩:=ia an.c;go_wp2_with fail;refine dR (HE.e _ an.a) fun W5 hb5=>?_;have ar:=kq3 (b_ an.a hb5) (b_ an.b hb5) ((hb5.block _ (gl an.c)).T an.c);obtain⟨c0,c1,c2,c3,c4,c5⟩:=ia ar.c;go_wp2_with fail;go_roundw
    case rel=>exact⟨j+1,s_,o_,ar.b⟩
    case measure=>simp[intOf];omega
  ·obtain rfl:j=n:=o_
   have bf:¬(j:Int)<j:=o_
   go_wp2_with fail;go_ret;exact⟨rfl,b_ H2.a J0.O⟩
end
section
open Go.RowKit Tryz Go.BigFrame Go.Maps Go.WideMaps Lf
variable{v:Value}{w:World}
def wm(w:World)(v:Value):Prop:=v=.pointer none\/∃pc,v=PV pc/\w.1[pc]?=some (.cells #[.pointer none,.pointer none,Xu 0,Xi 0] 132)
theorem OX(h:wm w v):
 Ct 77 #[v] w fun e w'=>e=.returned (Xi 1)/\w=w':=by
 rcases h with rfl | ⟨pc,rfl,hC⟩
 ·go_enter func77,ntmps77;go_wp2_with fail;go_ret;exact⟨rfl,rfl⟩
 ·obtain⟨c0,c1,c2,c3⟩:=Fy hC;clear hC;go_enter func77,ntmps77;go_wp2_with fail;go_ret;exact⟨rfl,rfl⟩
theorem OY(h:wm w v):
 Ct 114 #[v] w fun e w'=>e=.returned (.tuple #[.string ⟨#[]⟩,Xi 1])/\w=w':=by
 have HG:=If (OX h);clear h;go_enter func114,ntmps114;go_wp2_with fail;refine Jc HG.O ?_;go_wp2_with fail;go_ret2;exact⟨rfl,rfl⟩