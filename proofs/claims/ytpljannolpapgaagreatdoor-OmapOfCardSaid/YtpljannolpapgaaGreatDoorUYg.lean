/- Binary trees checked: walk.Check of a right tree: the walk. -/
import Derived.Test.YtpljannolpapgaaGreatDoorUBg
import Derived.Test.YtpljannolpapgaaGreatDoorUOa
set_option maxRecDepth 100000
set_option maxHeartbeats 6400000
namespace Go.Proofs.YtpljannolpapgaaGreatDoor
section
open Go.RowKit Tryz Go.BigFrame Go.Maps Go.WideMaps Lf Tr
variable{S:St}{Y:Nat->Prop}{o:Nat->Nat}{ps:Nat}{t:Tr}{w:World}
attribute [local go_sem] Oper.semAt_some
def m9(w2:World)(n:Nd)(h:Nat):World:=((((((w2.alloc (Xb n.key n.val n.left n.right n.mark n.size)).alloc (.map #[] 0)).alloc (Xf h)).alloc (.cells #[.map (some (w2.1.size+1))] 123)).alloc (.cells #[.slice (some (y_ (w2.1.size+1+1))) 1 1] 59)).alloc (.cells #[.string ⟨#[]⟩] 9)).alloc (.cells #[.bool true] 4)
theorem wb(w:World)(o:Obj)(k:Nat):(w.alloc o).1[k]?=if k=w.1.size then some o else w.1[k]?:=by
 show (w.1.push o)[k]?=_
 rw[Array.getElem?_push]
theorem MI{w w2:World}(n:Nd)(h:Nat)(hb:D_ w w2)(hz:w.1.size+2<=w2.1.size)(cs:w2.1[w.1.size]?=some (Xh ps))(ce:w2.1[w.1.size+1]?=some (.cells #[Xi 0] 27)):
 dT w ps (w2.1.size+1) (w2.1.size+1+1+1) (w2.1.size+1+1+1+1) (w2.1.size+1+1+1+1+1) (w2.1.size+1+1+1+1+1+1) (w2.1.size+7) (fun _=>False) [] [h] [] true (m9 w2 n h):=by
 have hs:(m9 w2 n h).1.size=w2.1.size+7:=by unfold m9;simp
 have ai:D_ w (m9 w2 n h):=by
  unfold m9;refine((((((hb.alloc hb.size _).alloc ?_ _).alloc ?_ _).alloc ?_ _).alloc ?_ _).alloc ?_ _).alloc ?_ _<;>simp<;>omega
 have ad:∀k,(m9 w2 n h).1[k]?=if k=w2.1.size+6 then some (.cells #[.bool true] 4) else if k=w2.1.size+5 then some (.cells #[.string ⟨#[]⟩] 9) else if k=w2.1.size+4 then some (.cells #[.slice (some (y_ (w2.1.size+1+1))) 1 1] 59) else if k=w2.1.size+3 then some (.cells #[.map (some (w2.1.size+1))] 123) else if k=w2.1.size+2 then some (Xf h) else if k=w2.1.size+1 then some (.map #[] 0) else(w2.alloc (Xb n.key n.val n.left n.right n.mark n.size)).1[k]?:=fun k=>by
  unfold m9;simp only[wb,World.size_alloc]
 have lo:∀k,k<w2.1.size->(m9 w2 n h).1[k]?=w2.1[k]?:=fun k hk=>by
  rw[ad k,if_neg o_,if_neg o_,if_neg o_,if_neg o_,if_neg o_,if_neg o_,wb,if_neg o_]
 refine⟨o_,ai,(lo _ o_).T cs,(lo _ o_).T ce,?_,⟨some (y_ (w2.1.size+1+1)),1,?_,⟨by simp[hV],.inr ⟨w2.1.size+1+1,1,#[Xu h],rfl,o_,?_,Nat.le_refl _,d_,rfl,rfl⟩⟩,fun _ _ hx=>hx⟩,?_,?_,?_,fun k hk=>hk.elim⟩
 ·rw[ad]
  simp
 ·rw[ad]
  simp
 ·rw[ad]
  simp
 ·rw[ad]
  simp[SV]
 ·rw[ad]
  simp
 ·have hm:(m9 w2 n h).1[w2.1.size+1]?=some (.map #[] 0):=by rw[ad];simp
  have:=dS.made (w2.alloc (Xb n.key n.val n.left n.right n.mark n.size));rw[World.size_alloc] at this;refine this.kept (hm.T ?_);rw[wb,if_pos s_]
def Kk(ps h b z:Nat)(nn:Nd)(x:It×Nd)(bn:Nat):Array Value:=#[PV ps,Xu h,PV b,undef,PV (b+1),Xi 0,Xi 7,PV z,Xi 0,PV (z+1+1+1),PV (z+1+1+1+1),PV (z+1+1+1+1+1),PV (z+1+1+1+1+1+1),Xu x.1.h,PV bn,undef,undef,undef,undef,undef,undef,undef,undef,.tuple #[Xi 0,Xi 7],PV ps,.tuple #[Xi 0,Xi 7],Xi 0,Xi 7,Xi 7,.bool false,Xu h,.bool false,.tuple #[.agg #[Xu nn.key,Xu nn.val,Xu nn.left,Xu nn.right,Xu nn.mark,Xu nn.size],Xi 0],PV ps,Xu h,.tuple #[.agg #[Xu nn.key,Xu nn.val,Xu nn.left,Xu nn.right,Xu nn.mark,Xu nn.size],Xi 0],.agg #[Xu nn.key,Xu nn.val,Xu nn.left,Xu nn.right,Xu nn.mark,Xu nn.size],Xi 0,Xi 0,.bool false,.map (some (z+1)),Xu h,.slice (some (y_ (z+1+1))) 1 1,PV ps,Xu h,.func (.func 161) #[] #[PV (z+7),PV (z+7+1)],Xu x.1.h,eS x.2,undef,undef,undef,undef,undef,undef,undef,undef,undef,undef,undef,undef,undef,undef,undef,undef,undef,undef,undef,undef,undef,undef,undef,undef,undef,undef,undef,undef,undef,undef,undef,undef,undef,undef,undef,undef,undef,undef,undef,undef,undef,undef,undef,undef,undef,undef,undef,undef,undef,undef,undef,undef,undef,undef,undef,undef,undef,undef,undef,undef,undef,undef,undef,undef,undef,undef,undef,undef,undef,undef,undef,undef,undef,undef,undef,undef,undef,undef,undef,undef]
theorem Kq(a b c:Value)(w:World):(Instr.index 289 (.agg #[a,b,c]) (Xi 0)).run prog w=.ok a w:=k_
theorem Kr(a b c:Value)(w:World):(Instr.index 289 (.agg #[a,b,c]) (Xi 1)).run prog w=.ok b w:=k_
theorem Ks(a b c:Value)(w:World):(Instr.index 289 (.agg #[a,b,c]) (Xi 2)).run prog w=.ok c w:=k_
def kx(a:List (It×Nd))(x:It×Nd):Nat->List Nat
 | 0=>ma a
 | 1=>ma a++[x.1.h]
 | 2=>ma a++[x.1.h]++[x.2.key]
 | _=>ma a++[x.1.h]++[x.2.key]++[x.2.val]
theorem wk{a:List (It×Nd)}{x:It×Nd}(h:a.length<=1000)(j:Nat):(kx a x j).length<100000:=by
 have:=Kn a;unfold kx;split<;>(try simp only[ag,bE])<;>omega
theorem Lp{Ok:Tr->Prop}(h:fC Ok S o t):∀y∈ma t.j_,y<2^64:=fun y hy=>by
 unfold ma at hy;obtain⟨d,hd,q⟩:=gU.1 hy;obtain⟨z,hz,rfl⟩:=az.1 hd;obtain⟨l,m,r,e1,e2,_⟩:=nodes_at h.at' z hz;have hb:=h.G7 z.1 (by rw[<-nodes_its];exact hd);rcases q with rfl | rfl | rfl
 ·exact(fL h.fit e2.1).2.1
 ·exact(fL h.fit hb.k).2.1
 ·exact(fL h.fit hb.v).2.1
theorem Kl{ps mb Bm Bd Bl Bf D:Nat}{X:Nat->Prop}{a:List (It×Nd)}{x:It×Nd}{W:World}(nf:Ke S t a x)(h:dT w ps mb Bm Bd Bl Bf D X (kx a x 3) (mj t.f9 a++[x.2.left,x.2.right]) x.1.k false W):dT w ps mb Bm Bd Bl Bf D X (ma (a++[x])) (mj t.f9 (a++[x])) (pc (a++[x])) (a++[x]).isEmpty W:=by
 have e1:kx a x 3=ma (a++[x]):=by
  rw[Lo,<-nf.key,<-nf.val];unfold kx
  simp
 have e2:(a++[x]).isEmpty=false:=s_
 rw[<-e1,LM,Ku,e2];exact h
theorem qYgaf{P:Prop}(h:P:=by
 gi_wp2_with fail;go_roundw
 case rel=>exact⟨j+1,s_,o_,trivial⟩
 case measure=>simp[intOf];omega):P:=h
theorem qYgad{P:Prop}(h:P:=by
 obtain⟨r0,W6,r1,r2,hg,ai,ar⟩:=J0.O.1.seen (x:=x.1.h) HF.O.1.1 HF.O.1.2 (wk HF.O.2.2.2 _);have ad:=ai.cm;have q0:(W6).cell? (y_ (z+1+1+1))=some (.map (some (z+1))):=e_ ad
 have ap:=(hg.block _ (gl J0.O.2.2.1) (fun q=>by have:=Option.some.inj q;omega)).T J0.O.2.2.1;have an:=(hg.block _ (gl J0.O.2.2.2) (fun q=>by have:=Option.some.inj q;omega)).T J0.O.2.2.2;have H6:=kq4 ai (J0.O.2.1.T ar) ap an;clear ad ap an ai ar hg;gi_wp2_with fail;go_roundw
 case rel=>exact⟨1,o_,rfl,H6.O⟩
 case measure=>simp[intOf]):P:=h
theorem qYgac{P:Prop}(h:P:=by
 obtain⟨r0,W6,r1,r2,hg,ai,ar⟩:=J0.O.1.seen (x:=x.2.key) HF.O.2.1.1 HF.O.2.1.2 (wk HF.O.2.2.2 _);have ad:=ai.cm;have q0:(W6).cell? (y_ (z+1+1+1))=some (.map (some (z+1))):=e_ ad
 have ap:=(hg.block _ (gl J0.O.2.2.1) (fun q=>by have:=Option.some.inj q;omega)).T J0.O.2.2.1;have an:=(hg.block _ (gl J0.O.2.2.2) (fun q=>by have:=Option.some.inj q;omega)).T J0.O.2.2.2;have H6:=kq4 ai (J0.O.2.1.T ar) ap an;clear ad ap an ai ar hg;gi_wp2_with fail;go_roundw
 case rel=>exact⟨2,o_,rfl,H6.O⟩
 case measure=>simp[intOf]):P:=h
theorem qYgab{P:Prop}(h:P:=by
 obtain⟨r0,W6,r1,r2,hg,ai,ar⟩:=J0.O.1.seen (x:=x.2.val) HF.O.2.2.1.1 HF.O.2.2.1.2 (wk HF.O.2.2.2 _);have ad:=ai.cm;have q0:(W6).cell? (y_ (z+1+1+1))=some (.map (some (z+1))):=e_ ad
 have ap:=(hg.block _ (gl J0.O.2.2.1) (fun q=>by have:=Option.some.inj q;omega)).T J0.O.2.2.1;have an:=(hg.block _ (gl J0.O.2.2.2) (fun q=>by have:=Option.some.inj q;omega)).T J0.O.2.2.2;have H6:=kq4 ai (J0.O.2.1.T ar) ap an;clear ad ap an ai ar hg;gi_wp2_with fail;go_roundw
 case rel=>exact⟨3,o_,rfl,H6.O⟩
 case measure=>simp[intOf]):P:=h
theorem qYgaa{P:Prop}(h:P:=by
 have v0:(W7).frozen? (y_ (z+1+1+1+1+1+1))=false:=AT q3;obtain⟨a6,bb⟩:=a1.first false;obtain⟨W8,bk⟩:=Ii (W7.setCell (y_ (z+1+1+1+1+1+1)) (.bool false));have n8:∀k,k≠z+1+1+1+1+1+1->W8.1[k]?=W7.1[k]?:=fun k hk=>by rw[<-bk];exact FB hk
 rw[bk] at a6 bb;have q4:=(n8 bn o_).T ((n7 bn o_).T J0.O.2.2.2);obtain⟨n0,n1,n2,n3,n4,n5⟩:=ia q4;obtain⟨A,c,bs,A2,c2,W9,c',⟨v9,a7⟩,a4,a2⟩:=a6.side (by rw[J7];have:=HF.O.2.2.2;omega) x.2.left x.2.right 59;generalize (mj t.f9 a).length=ns at*;have d0:(W8).cell? (y_ (z+1+1+1+1))=some (.slice A ns c):=e_ bs
 have e0:(W9).cell? (y_ (z+1+1+1+1))=some (v9):=e_ a7
 have g0:(W9).frozen? (y_ (z+1+1+1+1))=false:=AT a7;have H9:=kq2 a4 (J0.O.2.1.T (ba.T (bb.T a2)));clear a1 ba a6 bb a4 a2 q1 q2 q3 q4 bs a7 n7 n8 s7 hj;have e4:SV x.1.k=.string ⟨x.1.k.toArray⟩:=rfl
 gi_wp2_with (gi_at_builtin;refine JJ _ rfl _ _ _ _ rfl _ _ rfl rfl _ _ c' ?_)
 obtain⟨a4,a2⟩:=H9.O;exact⟨⟨a2.1.size,fun k o hk=>a2.1.same k o o_⟩,a2.2,Kl HB.d a4⟩):P:=h
theorem LS{Ok:Tr->Prop}{l:Tr}{d:It}{m:Nat}{r:Tr}(h:Ig w ps S Y)(hB:fC Ok S o (.node l d m r))(hN2:(Tr.node l d m r).its.length<=1000):
 CallsIn Fence.wide 7 prog 144 #[PV ps,Xu d.h] w fun e w'=>e=.returned (Xi 0)/\D_ w w':=by
 have h1:1<=7:=o_
 have gs:Fence.wide.fn 121:=trivial;have gv:Fence.wide.fn 42:=trivial;have gp:Fence.wide.fn 76:=trivial;have g3:Fence.wide.fn 192:=trivial;have gk:Fence.wide.fn 88:=trivial;have gn:Fence.wide.fn 193:=trivial;have ee:∀W,CallsIn Fence.wide 6 prog 121 #[PV ps,Xu d.h] W _:=fun W=>callsIn_wide.2 (EY ps d.h W);have c6:=fun W (hW:D_ w W)=>(callsIn_wide (n:=6)).2 (fB (h.a_ hW) hB.fit.inv 0 o_);simp only[fU] at c6;have gg:((d.h:Int)==0)=false:=by have:=(fL hB.fit hB.at'.1).1;simp;omega
 have ed:=fun W (hW:D_ w W)=>(callsIn_wide (n:=6)).2 (Hb (h.a_ hW) hB.fit hB.at'.1);have bd:D_ w ((w.alloc (Xh ps)).alloc (.cells #[Xi 0] 27)):=((aa _ _).alloc Ih _).alloc s_ _;have a0:=kq6 h hB hN2 c6 ed bd;clear h hB hN2 c6 ed bd;refine callsIn_of_wp_marks func144 rfl trivial ?_ rfl;simp only[ntmps144,aT,ah,aK,Nat.reduceAdd,Nat.reduceSub,aN,aO,aX,aR,aU,aM];gi_wp2_with fail;refine(a0.d _ a0.f).M ?_;rintro e w1 ⟨rfl,rfl⟩;gi_wp2_with fail;refine(a0.e _ a0.f).M ?_;rintro e w2 ⟨rfl,bo⟩;obtain⟨nn,b9⟩:=Ii (Tr.nd l d m r);rw[b9,L8];have HN:=If b9;clear b9;have ck:((w.alloc (Xh ps)).alloc (.cells #[Xi 0] 27)).1[w.1.size]?=some (Xh ps):=by
  rw[cE _ _ _ s_];exact World.alloc_heap_new _ _
 have cj:((w.alloc (Xh ps)).alloc (.cells #[Xi 0] 27)).1[w.1.size+1]?=some (.cells #[Xi 0] 27):=by
  have:=World.alloc_heap_new (w.alloc (Xh ps)) (.cells #[Xi 0] 27);rw[World.size_alloc] at this;exact this
 have cn:=(bo.block _ (gl ck)).T ck;have dk:=(bo.block _ (gl cj)).T cj;have d8:=b_ a0.f bo;have f':w.1.size+2<=w2.1.size:=by have:=bo.size;simp at this;omega
 have c0:(w2).cell? (y_ w.1.size)=some (PV ps):=e_ cn
 have H2:=kq4 cn dk d8 f';clear ck cj cn dk bo d8;have fk:= @run_makeMap prog
 gi_upto_region 11 with fail
 obtain⟨W3,d5⟩:=Ii (m9 w2 nn d.h)
 show Code.wpIn _ _ _ _ _ _ (m9 w2 nn d.h)
 have b8:=MI nn d.h H2.c H2.d H2.a H2.b;have bu:(m9 w2 nn d.h).1.size=w2.1.size+7:=by unfold m9;simp
 rw[d5] at b8 bu⊢;clear d5 c0;have dp:=b8.cs;have c0:(W3).cell? (y_ w.1.size)=some (PV ps):=e_ dp
 have cb:=If b8;clear b8 dp fk;gi_wp2_with fail;refine(ee _).M ?_;rintro e w4 ⟨rfl,rfl⟩;gi_wp2_with fail;clear ee;generalize w2.1.size=z at*;have HT:=If a0.b;obtain⟨t,b0⟩:=Ii (Tr.node l d m r);rw[b0] at a0 HT;have b':t.f9=d.h:=by rw[<-b0];rfl
 have er:nn.size=t.its.length:=by rw[<-HN.O,<-b0];rfl
 obtain⟨W0,bc⟩:=Ii ((W3.alloc (Xh ps)).alloc (Xf d.h));have z0:W0.1.size=z+9:=by rw[<-bc];simp[bu]
 have ch:D_ W3 W0:=by rw[<-bc];exact((aa _ _).alloc Ih _).alloc s_ _
 have bd:D_ w W0:=b_ cb.O.bl ch;have g1:W0.1[z+7]?=some (Xh ps):=by rw[<-bc,wb,wb];simp[bu]
 have g2:W0.1[z+7+1]?=some (Xf t.f9):=by rw[<-bc,wb,b'];simp[bu]
 have g9:=H2.d;have e5:dT w ps (z+1) (z+1+1+1) (z+1+1+1+1) (z+1+1+1+1+1) (z+1+1+1+1+1+1) (z+7) (fun k=>k=z+7\/k=z+7+1) (ma []) (mj t.f9 []) (pc []) ([]:List (It×Nd)).isEmpty W0:=by
  have:=cb.O.grown (B:=z+7) (X':=fun k=>k=z+7\/k=z+7+1) Ih (lf ch) (fun r e=>by cases e) (fun k hk=> .inr (by rw[bu,z0];omega));rw[b'];exact this
 have hN:t.j_.length<r_ S/\t.j_.length<=1000:=by
  rw[nodes_len];exact⟨HT.O.r_,a0.c⟩
 rw[bc];have cc:=kq2 er b';have HD:=If (show Tr.At S (.node l d m r) by rw[b0];exact HT.O.at');clear bc b0 ch H2 er b';refine Kb rfl h1 (gf:=161) (lb:=#[PV (z+7),PV (z+7+1)]) rfl trivial (enters_of func161 k_ rfl)
  (Ko a0.a HT.O.fit HT.O.at' hN.1 hN.2 _ _ bd o_ g1 g2) (fun k hk=>by omega) dU.T
  (fun X W l o o' h1 h2 h3 h4 h5=>⟨nN W l o o' (by have:=bd.size;omega) h3 h4 h5,fun k o2 hx e=>(World.putObj_heap_other (by intro q;subst q;exact h2 hx)).T e⟩) (aa _ _) (fun _=>rfl)
  (fun X a W=>dT w ps (z+1) (z+1+1+1) (z+1+1+1+1) (z+1+1+1+1+1) (z+1+1+1+1+1+1) (z+7) X (ma a) (mj t.f9 a) (pc a) a.isEmpty W)
  (fun X X' a W W' row hs hg hr hx=>hs.grown (B:=W0.1.size) o_ hg hr hx)
  e5
  (fun x a' W=>∃bn,a'= { tmps:=Kk ps d.h w.1.size z nn x bn,defers:=[] } /\z+7<=bn/\W.1[bn]?=some (Xb x.2.key x.2.val x.2.left x.2.right x.2.mark x.2.size))
  (fun x a' _ W W' row hs hg hr=>by
   obtain⟨bn,e1,e2,e3⟩:=hs;refine⟨bn,e1,e2,(hg.block _ (gl e3) fun q=>?_).T e3⟩;obtain⟨_,o,q1,q2⟩:=hr bn q.S;rw[e3] at q1
   cases q1
   cases q2)
  ?assign ?body ?done
 case assign=>
  rintro l' X g' x W K hI hK;have HK:=If hK;have HI:=If hI;clear hK hI;simp only[wa];rw[L8]
  gi_wp2
  have hb:D_ W (W.alloc (Xb x.2.key x.2.val x.2.left x.2.right x.2.mark x.2.size)):=(aa _ _).alloc Ih _;obtain⟨i1,i2,i3⟩:=HI.O.a_ hb;exact HK.O _ _ ⟨i2.size,fun k o hk=>i2.same k o o_⟩ i3 i1 ⟨W.1.size,rfl,HI.O.lo.2.2.2.2.2.2,World.alloc_heap_new _ _⟩
 case body=>
  rintro l' X a x a' W g4 g5 hI ⟨bn,rfl,d7,d6⟩ ⟨rr,eo⟩;have nf:=LC HT.O eo;have e6:a.isEmpty=true\/(a.isEmpty=false/\Fu (pc a) x.1.k<0):=by
   rcases nf.less with q | q
   ·left;rw[q];rfl
   ·rcases Kw a with q2 | ⟨_,_,q2⟩
    ·left;rw[q2];rfl
    ·right;exact⟨by rw[q2];rfl,q⟩
  have en:=((callsIn_wide (n:=4)).2 (LV (a0.a.a_ hI.bl) HT.O.fit nf.rec' nf.bl.lk nf.bl.lv (by rw[nf.key];exact nf.bl.k) (by rw[nf.val];exact nf.bl.v))).inRound l';have ec:∀W1,D_ w W1->CallsIn (Fence.wide.inRound l') 4 prog 193 #[PV ps,eS x.2] W1 _:=fun W1 hW=>((callsIn_wide (n:=4)).2 (by
   obtain⟨l2,m2,r2,e1,e2,e3⟩:=nf.sub;rw[e1];exact LT (a0.a.a_ hW) HT.O.fit e2.2.1 e2.2.2 (by have:=a0.c;omega))).inRound l'
  have hF:(x.1.h<2^64/\x.1.h∉kx a x 0)/\(x.2.key<2^64/\x.2.key∉kx a x 1)/\(x.2.val<2^64/\x.2.val∉kx a x 2)/\a.length<=1000:=by
   refine⟨⟨(fL HT.O.fit nf.rec').2.1,nf.h1⟩,⟨?_,?_⟩,⟨?_,?_⟩,by have:=nf.al;have:=a0.c;omega⟩
   ·rw[nf.key];exact(fL HT.O.fit nf.bl.k).2.1
   ·rw[nf.key];exact nf.h2
   ·rw[nf.val];exact(fL HT.O.fit nf.bl.v).2.1
   ·rw[nf.val];unfold kx;rw[nf.key];exact nf.h3
  have HF:=If hF;clear hF;have d9:=fun W1=>((callsIn_wide (n:=4)).2 (sT (pc a) x.1.k W1)).inRound l';have cs:=hI.cs;have c0:(W).cell? (y_ w.1.size)=some (PV ps):=e_ cs
  have HB:=kq6 hI d7 d6 nf ec d9;clear hI d7 d6 nf ec d9 cs eo;generalize a.isEmpty=fb at*;unfold Kk;rw[L8] at*;gi_wp2_with fail;refine en.M ?_;rintro e W1 ⟨rfl,bm⟩;unfold eu;obtain⟨d3,ev⟩:=HB.a.a_ bm;obtain⟨W2,d4⟩:=Ii (W1.alloc (Xk x.1.k x.1.v));have b2:D_ W1 W2:=by rw[<-d4];exact(aa _ _).alloc Ih _
  have hp:W2.1[W1.1.size]?=some (Xk x.1.k x.1.v):=by rw[<-d4];exact World.alloc_heap_new _ _
  obtain⟨bf,ez⟩:=d3.a_ b2;have dc:=If (show z+7<=W1.1.size from aI HB.a.lo.2.2.2.2.2.2 bm.size);have cp:=(b2.block _ (aH (gl HB.c) bm.size)).T ((bm.block _ (gl HB.c)).T HB.c);have cs:=bf.cs;have cl:=bf.cl;have cf:=bf.cf;have s0:(W2).cell? (y_ w.1.size)=some (PV ps):=e_ cs
  have l0:(W2).cell? (y_ (z+1+1+1+1+1))=some (SV (pc a)):=e_ cl
  have f0:(W2).cell? (y_ (z+1+1+1+1+1+1))=some (.bool fb):=e_ cf
  obtain⟨p0,p1⟩:=Fp hp;obtain⟨n0,n1,n2,n3,n4,n5⟩:=ia cp;have au:=kq4 bf (ev.T ez) hp cp;clear d3 ev b2 hp bf ez cp cs cl cf bm c0 en
  rcases e6 with rfl | ⟨rfl,g6⟩
  ·gi_wp2_with fail;refine(HB.e W2 au.a.bl).M ?_;rintro e W5 ⟨rfl,a5⟩;obtain⟨bj,b1⟩:=au.a.a_ a5;have bt:=(a5.block _ (gl au.c)).T au.c;have a8:=(a5.block _ (gl au.d)).T au.d;clear s0 l0 f0 p0 p1 n0 n1 n2 n3 n4 n5;obtain⟨n0,n1,n2,n3,n4,n5⟩:=ia a8;have ca:=kq4 bj (au.b.T b1) bt a8;clear bj b1 bt a8 a5 au;have c3:=Kq (Xu x.1.h) (Xu x.2.key) (Xu x.2.val);have c4:=Kr (Xu x.1.h) (Xu x.2.key) (Xu x.2.val);have c5:=Ks (Xu x.1.h) (Xu x.2.key) (Xu x.2.val);gi_wp2_with fail;clear n0 n1 n2 n3 n4 n5
   gi_loopw [18,79] (fun _ i wr=>∃j:Nat,j<=3/\i=Xi j/\Hid (dT w ps (z+1) (z+1+1+1) (z+1+1+1+1) (z+1+1+1+1+1) (z+1+1+1+1+1+1) (z+7) X (kx a x j) (mj t.f9 a) (pc a) true wr/\Kx (z+7) w.1.size X W wr/\wr.1[W1.1.size]?=some (Xk x.1.k x.1.v)/\wr.1[bn]?=some (Xb x.2.key x.2.val x.2.left x.2.right x.2.mark x.2.size))) (fun _ i _=>3-(intOf i).toNat)
   case atStart=>exact⟨0,o_,rfl,ca.O⟩
   case round=>
    obtain⟨j,hj,rfl,J0⟩:=hrel;have e':=HB.b;have fm:=dc.O;have ad:=J0.O.1.cm;have m0:(wr).cell? (y_ (z+1+1+1))=some (.map (some (z+1))):=e_ ad
    clear ad
    rcases(show j=0\/j=1\/j=2\/j=3 by omega) with rfl | rfl | rfl | rfl
    ·exact qYgad
    ·exact qYgac
    ·exact qYgab
    ·clear m0 c3 c4 c5;have q1:=J0.O.2.2.1;have q2:=J0.O.1.cl;obtain⟨p0,p1⟩:=Fp q1;have l0:(wr).cell? (y_ (z+1+1+1+1+1))=some (SV (pc a)):=e_ q2
     have u0:(wr).frozen? (y_ (z+1+1+1+1+1))=false:=AT q2;obtain⟨a1,ba⟩:=J0.O.1.last x.1.k;obtain⟨W7,a3⟩:=Ii (wr.setCell (y_ (z+1+1+1+1+1)) (SV x.1.k));have s7:W7.1.size=wr.1.size:=by rw[<-a3,size_setCell]
     have n7:∀k,k≠z+1+1+1+1+1->W7.1[k]?=wr.1[k]?:=fun k hk=>by rw[<-a3];exact FB hk
     rw[a3] at a1 ba;have q3:=a1.cf;have f0:(W7).cell? (y_ (z+1+1+1+1+1+1))=some (.bool true):=e_ q3
     exact qYgaa
  ·gi_wp2_with fail;refine(HB.f W2).M ?_;rintro e w3 ⟨rfl,h3⟩;rw[h3];gi_wp2_with fail;refine(HB.e W2 au.a.bl).M ?_;rintro e W5 ⟨rfl,a5⟩;obtain⟨bj,b1⟩:=au.a.a_ a5;have bt:=(a5.block _ (gl au.c)).T au.c;have a8:=(a5.block _ (gl au.d)).T au.d;clear s0 l0 f0 p0 p1 n0 n1 n2 n3 n4 n5;obtain⟨n0,n1,n2,n3,n4,n5⟩:=ia a8;have ca:=kq4 bj (au.b.T b1) bt a8;clear bj b1 bt a8 a5 au;have c3:=Kq (Xu x.1.h) (Xu x.2.key) (Xu x.2.val);have c4:=Kr (Xu x.1.h) (Xu x.2.key) (Xu x.2.val);have c5:=Ks (Xu x.1.h) (Xu x.2.key) (Xu x.2.val);gi_wp2_with fail;clear n0 n1 n2 n3 n4 n5
   gi_loopw [18,79] (fun _ i wr=>∃j:Nat,j<=3/\i=Xi j/\Hid (dT w ps (z+1) (z+1+1+1) (z+1+1+1+1) (z+1+1+1+1+1) (z+1+1+1+1+1+1) (z+7) X (kx a x j) (mj t.f9 a) (pc a) false wr/\Kx (z+7) w.1.size X W wr/\wr.1[W1.1.size]?=some (Xk x.1.k x.1.v)/\wr.1[bn]?=some (Xb x.2.key x.2.val x.2.left x.2.right x.2.mark x.2.size))) (fun _ i _=>3-(intOf i).toNat)
   case atStart=>exact⟨0,o_,rfl,ca.O⟩
   case round=>
    obtain⟨j,hj,rfl,J0⟩:=hrel;have e':=HB.b;have fm:=dc.O;have ad:=J0.O.1.cm;have m0:(wr).cell? (y_ (z+1+1+1))=some (.map (some (z+1))):=e_ ad
    clear ad
    rcases(show j=0\/j=1\/j=2\/j=3 by omega) with rfl | rfl | rfl | rfl
    ·exact qYgad
    ·exact qYgac
    ·exact qYgab
    ·clear m0 c3 c4 c5;have q1:=J0.O.2.2.1;have q2:=J0.O.1.cl;obtain⟨p0,p1⟩:=Fp q1;have l0:(wr).cell? (y_ (z+1+1+1+1+1))=some (SV (pc a)):=e_ q2
     have u0:(wr).frozen? (y_ (z+1+1+1+1+1))=false:=AT q2;obtain⟨a1,ba⟩:=J0.O.1.last x.1.k;obtain⟨W7,a3⟩:=Ii (wr.setCell (y_ (z+1+1+1+1+1)) (SV x.1.k));have s7:W7.1.size=wr.1.size:=by rw[<-a3,size_setCell]
     have n7:∀k,k≠z+1+1+1+1+1->W7.1[k]?=wr.1[k]?:=fun k hk=>by rw[<-a3];exact FB hk
     rw[a3] at a1 ba;have q3:=a1.cf;have f0:(W7).cell? (y_ (z+1+1+1+1+1+1))=some (.bool false):=e_ q3
     exact qYgaa
 case done=>
  rintro D' X xs W hD rfl hI hK;obtain⟨A,c,d1,d2,_⟩:=hI.cd;have d':=hI.cs;have ad:=hI.cm;have a9:=hI.ce;have ek:=hI.mp.look;have ep:=LN HT.O.at';have el:=Lp HT.O;have cw:=(callsIn_wide (n:=6)).2 (Hb (a0.a.a_ hI.bl) HT.O.fit (show l_ S d.h=some (eM nn) by rw[<-HN.O];exact HD.O.1));have bv:=J7 t.f9 t.j_;rw[nodes_len,<-cc.a] at bv;have b9:nn.size<=1000:=by rw[cc.a];exact a0.c
  obtain⟨bq,cq,hv⟩:∃bq cq,Value.slice A (mj t.f9 t.j_).length c=.slice (some (y_ bq)) (mj t.f9 t.j_).length cq:=by
   rcases d2.2 with⟨_,e0⟩ | ⟨b,c2,ga,e,_⟩
   ·simp at e0
    rw[e0] at bv
    simp at bv
   ·exact⟨b,c2,e⟩
  obtain⟨rfl,rfl⟩:A=some (y_ bq)/\c=cq:=by cases hv;exact⟨rfl,rfl⟩
  have E_:=fun j (hj:j<(mj t.f9 t.j_).length)=>World.ownsRow.cells d2 (g:=bq) rfl j (Xu ((mj t.f9 t.j_)[j]:Nat)) (by simp[hV,hj]);obtain⟨ns,c7⟩:=Ii (mj t.f9 t.j_).length;rw[c7] at bv d1;have c0:(W).cell? (y_ w.1.size)=some (PV ps):=e_ d'
  have m0:(W).cell? (y_ (z+1+1+1))=some (.map (some (z+1))):=e_ ad
  have d0:(W).cell? (y_ (z+1+1+1+1))=some (.slice (some (y_ bq)) ns c):=e_ d1
  unfold eS at cw;have HI:=kq7 hI ek ep el cw E_ c7;have HK:=kq3 hK a9 bv;clear hI ek ep el cw E_ c7 d1 d2 d' ad a9 hv hK;gi_wp2_with fail
  gi_loopw [20,102] (fun _ i wr=>∃j:Nat,i=Xi j/\j<=ns/\wr=W) (fun _ i _=>ns-(intOf i).toNat)
  case atStart=>exact⟨0,rfl,o_,rfl⟩
  case round=>
   obtain⟨j,rfl,hj,fv⟩:=hrel;subst fv
   by_cases hjl:j<ns
   ·have eg:j<(mj t.f9 t.j_).length:=by rw[HI.g];exact hjl
    have r0:=HI.f j eg;rw[Addr.add_lit] at r0;have hx:=HI.c _ (aw eg);generalize (mj t.f9 t.j_)[j]=x at*;simp only[bD] at r0;have e7:(j:Int)<ns:=o_
    by_cases h0:x=0
    ·have fw:((x:Int) !=0)=false:=by rw[h0];rfl
     clear hx h0;exact qYgaf
    ·have fw:((x:Int) !=0)=true:=m_
     have hm:=hx.resolve_left h0;have g7:=HI.b x (HI.d x hm);have gc:(((ma t.j_).count x:Nat):Int)≠0:=by have:=List.count_pos_iff.2 hm;omega
     generalize (ma t.j_).count x=cx at*;have gb:((cx:Int)==0)=false:=m_
     clear hx h0 hm;exact qYgaf
   ·obtain rfl:j=ns:=o_
    have e7:¬(j:Int)<j:=o_
    gi_wp2_with fail;refine HI.e.M ?_;rintro e w6 ⟨rfl,b4⟩;obtain⟨ai,_⟩:=HI.a.a_ b4;obtain⟨W7,a3⟩:=Ii (w6.alloc (Xb nn.key nn.val nn.left nn.right nn.mark nn.size));have b7:D_ w6 W7:=by rw[<-a3];exact(aa _ _).alloc Ih _
    have em:W7.1[w6.1.size]?=some (Xb nn.key nn.val nn.left nn.right nn.mark nn.size):=by rw[<-a3];exact World.alloc_heap_new _ _
    obtain⟨a1,_⟩:=ai.a_ b7;obtain⟨ds,ea,cv,e8⟩:=a1.mp.len 3;have eb:ds.length=3*nn.size:=by
     have e1:=Dk ea (m:=ma t.j_) fun y hy=>(cv y).1 hy;have e2:=Dk (Ln HT.O) (m:=ds) fun y hy=>(cv y).2 hy;rw[Kn,nodes_len,<-cc.a] at e1 e2;omega
    rw[eb,show ((3*nn.size:Nat):Int)=3*(nn.size:Int) by omega] at e8;have g8:IntKind.u64.wrap (3*(nn.size:Int))=3*(nn.size:Int):=bO _ o_;have ad:=a1.cm;have a9:=a1.ce;have q0:(W7).cell? (y_ (z+1+1+1))=some (.map (some (z+1))):=e_ ad
    have e0:(W7).cell? (y_ (w.1.size+1))=some (Xi 0):=e_ a9
    have f0:(W7).frozen? (y_ (w.1.size+1))=false:=AT a9;obtain⟨n0,n1,n2,n3,n4,n5⟩:=ia em;have H7:=kq3 a1.bl a9 (((b7.block _ (aH (gl HK.a) b4.size)).T ((b4.block _ (gl HK.a)).T HK.a)));clear ai a1 b7 em ea cv eb ad a9 b4 c0 m0 d0;gi_wp2_with fail;obtain⟨B7,dn,k7⟩:=H7.O;have dv:D'≠w.1.size+1:=fun q=>by
     rw[q,dn] at k7
     cases k7
    have cF:=heap_setCell (i:=0) (v:=Xi 0) dn;have kF:=(FB (w:=W7) (b:=w.1.size+1) (i:=0) (v:=Xi 0) dv).T k7;have bF:D_ w (W7.setCell (y_ (w.1.size+1)) (Xi 0)):=B7.T ⟨rfl,rfl,rfl,s_,fun k hk=>FB o_⟩;generalize W7.setCell (y_ (w.1.size+1)) (Xi 0)=wF at*;refine⟨s_,.inl ⟨_,_,rfl,run_takeDeferred kF,?_⟩⟩;have cG:=(World.putObj_heap_other (w:=wF) (o:=.deferred none) (fun q=>dv q.S)).T cF;have cH:(wF.putObj D' (.deferred none)).cell? (y_ (w.1.size+1))=some (Xi 0):=e_ cG
    refine⟨Xi 0,by simp[results,f144,go_sem,cH],rfl,bF.T (nN wF D' _ _ (by have:=bd.size;omega) kF rfl rfl)⟩
theorem LR{Ok:Tr->Prop}(h:Ig w ps S Y):∀{t:Tr},fC Ok S o t->t.its.length<=1000->
 Cb 144 #[PV ps,Xu t.f9] w (Xi 0)
 | .nil,hB,_=>xS h hB.fit.inv
 | .node _ _ _ _,hB,hN=>callsIn_wide.1 (LS h hB hN)
theorem Tr.nodes_ok {S:St}{Ok:Tr->Prop}(sub:∀{l d m r},Ok (.node l d m r)->Ok l/\Ok r):∀{t:Tr},At S t->Ok t->∀x∈t.j_,∃l m r,x.2=nd l x.1 m r/\At S (.node l x.1 m r)/\Ok (.node l x.1 m r)/\l.its.length+r.its.length<t.its.length
 | .nil,_,_,x,hx=>by cases hx
 | .node l d m r,⟨h1,h2,h3⟩,ok,x,hx=>by
  have hl:(Tr.node l d m r).its.length=l.its.length+(r.its.length+1):=by
   show (l.its++d::r.its).length=_
   rw[ag,ah]
  rcases ay.1 (show x∈j_ l++(d,nd l d m r)::j_ r from hx) with hx | hx
  ·obtain⟨l',m',r',a1,a2,a3,a4⟩:=nodes_ok sub h2 (sub ok).1 x hx;exact⟨l',m',r',a1,a2,a3,o_⟩
  ·rcases aj.1 hx with rfl | hx
   ·exact⟨l,m,r,rfl,⟨h1,h2,h3⟩,ok,o_⟩
   ·obtain⟨l',m',r',a1,a2,a3,a4⟩:=nodes_ok sub h3 (sub ok).2 x hx;exact⟨l',m',r',a1,a2,a3,o_⟩
theorem KX(h:Ig w ps S Y)(hB:fC eZ S o t)(hN:t.its.length<=1000):
 Cb 234 #[PV ps,Xu t.f9] w (Xi 0):=by
 have a0:=LR h hB hN;have a3:=fun W (hW:D_ w W)=>KO (h.a_ hW) hB.fit hB.at' (by rw[nodes_len];exact hB.r_) (by rw[nodes_len];exact hN);obtain⟨n,hn⟩:=Ii t.hs.length;have ai:n=t.j_.length:=by rw[<-hn,<-nodes_h,ak]
 have bc:n<=1000:=by rw[ai,nodes_len];exact hN
 have HG:=kq6 h hB a0 a3 hn ai;clear h hB a0 a3 hn ai;go_enter func234,ntmps234;go_wp2_with fail;refine e9 HG.c fun w1 hb1=>?_;have H1:=If hb1;clear hb1;go_wp2_with fail;refine(HG.d w1 H1.O).M ?_;rintro e w2 ⟨v,rfl,an,au⟩;obtain⟨A,c,rfl⟩:=an.F8;rw[HG.e];have H2:=kq2 (b_ H1.O au) an;clear au an;go_wp2_with fail
 go_loopw [4,7,8,9,10,21] (fun _ _ _ _ _ i wr=>∃j:Nat,i=Xi j/\j<=n/\Hid (D_ w2 wr)) (fun _ _ _ _ _ i _=>n-(intOf i).toNat)
 case atStart=>exact⟨0,rfl,o_,aa _ _⟩
 case round=>
  obtain⟨j,rfl,hj,J0⟩:=hrel
  by_cases hjl:j<n
  ·have a1:j<t.hs.length:=by rw[HG.e];exact hjl
   have a2:j<t.j_.length:=by rw[<-HG.f];exact hjl
   have a5:=H2.b.at fun g e=>J0.O.block g (H2.b.ge g e).2;obtain⟨b,c',hv,_,r0⟩:=a5.cell_at a1;have ar:t.hs[j]=t.j_[j].1.h:=by simp[<-nodes_h]
   rw[ar] at r0;obtain⟨l,m,r,e1,e2,e3,e4⟩:=nodes_ok (S:=S) (Ok:=eZ) (fun h=>⟨h.1,h.2.1⟩) HG.b.at' HG.b.ok _ (aw a2);obtain⟨x,hx⟩:=Ii t.j_[j];rw[hx] at r0 e1 e2 e3;have ad:=b_ H2.a J0.O;have a8:(j:Int)<n:=o_
   obtain⟨rfl,rfl⟩:A=some (y_ b)/\c=c':=by cases hv;exact⟨rfl,rfl⟩
   have hf:=HG.b.fit;have hg:=gR (HG.a.a_ ad) hf.inv x.1.h (fL hf e2.1).2.1;rw[e2.f_ hf] at hg;obtain⟨b1,b2,hm,a6,a7⟩:=e3;have a9:=b1.mark_le;have a':=b2.mark_le;have hA:=fun W (hW:D_ w W)=>fJ (HG.a.a_ hW) hf.inv l.f9 (At.root_lt hf e2.2.1) (e2.2.1.height hf o_);have ap:=fun W (hW:D_ w W)=>fJ (HG.a.a_ hW) hf.inv r.f9 (At.root_lt hf e2.2.2) (e2.2.2.height hf o_);simp only[gP,nd] at hg;have a4:max (l.mark:Int) (r.mark:Int)+1=(m:Int):=o_
   have d1:¬((r.mark:Int)+1<l.mark):=o_
   have d2:¬((l.mark:Int)+1<r.mark):=o_
   have d3:IntKind.i64.wrap (max (l.mark:Int) (r.mark:Int)+1)=(m:Int):=by rw[a4];exact aq _ o_
   have d4:IntKind.u64.wrap (m:Int)=(m:Int):=bO _ o_;have d5:IntKind.i64.wrap ((r.mark:Int)+1)=(r.mark:Int)+1:=aq _ o_;have d6:IntKind.i64.wrap ((l.mark:Int)+1)=(l.mark:Int)+1:=aq _ o_;obtain⟨z,hz⟩:=Ii (Tr.node l x.1 m r).its.length;rw[hz] at hg;have HE:=kq4 hg hA ap ad;clear hg hA ap ad e1 e2 b1 b2 hm a6 a7 a9 a' hz a5 hv ar hx a1 a2 hf a4;generalize l.mark=lm at*;generalize r.mark=rm at*;generalize l.f9=lr at*;generalize r.f9=rr at*;go_wp2_with fail;refine e9 HE.a fun w3 hb3=>?_;have q:=heap_alloc_new w3 (Xa x.1.kh x.1.vh lr rr m z x.1.h);have B:=(b_ HE.d hb3).alloc (by have:=hb3.size;have:=HE.d.size;omega) (Xa x.1.kh x.1.vh lr rr m z x.1.h);have B2:=(b_ J0.O hb3).alloc (by have:=hb3.size;have:=J0.O.size;omega) (Xa x.1.kh x.1.vh lr rr m z x.1.h);clear hb3 r0
   go_upto_region 8 with fail
   generalize w3.alloc (Xa x.1.kh x.1.vh lr rr m z x.1.h)=W at*;have ql:=(gl q);have ba:∀x:Fq (D_ W),x.to.cell? (x_ w3.1.size 2)=some (Xu lr):=fun x=>by rw[t_ ((x.ok.block _ ql).T q)];rfl
   have bb:∀x:Fq (D_ W),x.to.cell? (x_ w3.1.size 3)=some (Xu rr):=fun x=>by rw[t_ ((x.ok.block _ ql).T q)];rfl
   have hA:=fun x:Fq (D_ W)=>Calls.F_ (HE.b x.to (b_ B x.ok));have hB:=fun x:Fq (D_ W)=>Calls.F_ (HE.c x.to (b_ B x.ok));have HB:=kq2 B2 q;clear B q B2;refine iq (D_ W) k_ k_ (aa _ _).drew (fun _=>?_)
   repeat (first | go_big_quiet_skip | (go_big_quiet_want;go_big_quiet_op;first | go_big_quiet_on | (apply Exists.intro;refine⟨fun x=>?_,?_⟩;(· first | with_reducible exact hA x | with_reducible exact hB x);go_big_quiet_on)))
   refine wpQuiet_nil ?_;rintro _ ⟨y,rfl⟩;have q4:=(y.ok.block _ ql).T HB.b;obtain⟨c0,c1,c2,c3,c4,c5,c6⟩:=gG q4;have HX:=If (b_ HB.a y.ok);clear hA hB ba bb q4 ql;go_wp2_with fail;go_roundw
   case rel=>exact⟨j+1,s_,o_,HX.O⟩
   case measure=>simp[intOf];omega
  ·obtain rfl:j=n:=o_
   have a8:¬(j:Int)<j:=o_
   go_wp2_with fail;go_ret;exact⟨rfl,b_ H2.a J0.O⟩
end
section
open Go.RowKit Tryz Go.BigFrame Go.Maps Go.WideMaps Lf
variable{R:Nat×Nat}{S:St}{Y:Nat->Prop}{fm:FuncId}{kv:Value}{p:Nat×Nat}{ps:Nat}{ty:TypeId}{w:World}{z:Nat}
theorem EX(h:Ig w ps S Y)(hi:Fv S)(f9:Nat)(hl:f9<2^64)(k:List UInt8)(hR:ij S k (r_ S) f9 0=some R):
 Cb 307 #[PV ps,Xu f9,SV k] w (.tuple #[Xu R.1,.bool (decide (R.1≠0))]):=by
 have HG:=If (xT h hi f9 hl k hR);obtain⟨a,b⟩:=R;simp only at HG⊢;clear hR h hi;go_enter func307,ntmps307;go_wp2_with fail;refine e9 HG.O fun w1 hb=>?_;have HB:=If hb;clear hb;go_wp2_with fail;go_ret2;refine⟨?_,HB.O⟩;have:((a:Int) !=0)=decide (a≠0):=by by_cases e:a=0<;>simp[e]<;>omega
 rw[<-this]
 rfl
theorem tL(h:Ig w ps S Y)(hi:Fv S)(h_ f9:Nat)(hl:f9<2^64)(k:List UInt8)(hR:ij S k (r_ S) f9 0=some R)(hR1:R.1<2^64):
 Cb 300 #[fE ps h_,Xu f9,SV k] w (.tuple #[Id (f_ S R.1).1.key (f_ S R.1).1.val,.bool (decide (R.1≠0))]):=by
 have B1:=c_ w (Xg ps h_);have q1:=heap_alloc_new w (Xg ps h_);have B0:=B1.alloc B1.size (.cells #[Xu 0,Xu 0] 104);have z1:=heap_alloc_new (w.alloc (Xg ps h_)) (.cells #[Xu 0,Xu 0] 104);have q1:=(((aa (w.alloc (Xg ps h_)).1.size (w.alloc (Xg ps h_))).alloc Ih (.cells #[Xu 0,Xu 0] 104)).block w.1.size s_).T q1;simp only[World.size_alloc] at z1;have ha:=EX (h.a_ B0) hi f9 hl k hR;have ad:=fun W (hW:D_ w W)=>my (h.a_ hW) hi h_ R.1 hR1;simp only[Id,fE] at ad⊢;generalize (f_ S R.1).1.key=k0 at*;generalize (f_ S R.1).1.val=k1 at*;generalize decide (R.1≠0)=z at*;have HG:=kq5 ha ad B0 z1 q1;clear ha ad B0 B1 h hi z1 q1;go_enter func300,ntmps300;go_wp2_with fail;refine e9 HG.a fun w1 hb1=>?_;have z1:=(hb1.block (w.1.size+1) s_).T HG.d;have q1:=(hb1.block w.1.size m_).T HG.e;obtain⟨c0,c1⟩:=Fp q1;have H1:=kq2 (b_ HG.c hb1) z1;clear hb1 z1 q1;go_wp2_with fail;refine e9 (HG.b _ H1.a) fun w2 hb2=>?_;have z2:=(hb2.block (w.1.size+1) (gl H1.b)).T H1.b;obtain⟨d0,d1⟩:=Fp z2;obtain⟨f0,f1⟩:=ef z2;have HW:=kq2 (b_ H1.a hb2) z2;clear hb2 z2 c0 c1;go_wp2_with fail;have q3:=ew HW.b (Xu k0) (Xu k1);have B3:=eT HW.a (bH w.1.size) (Xu k0) (Xu k1);generalize ((w2.setCell (y_ (w.1.size+1)) (Xu k0)).setCell (x_ (w.1.size+1) 1) (Xu k1))=W3 at*;obtain⟨e0,e1⟩:=Fp q3;exact bodyPost_ret (v:=.tuple #[.agg #[Xu k0,Xu k1],.bool z]) (by simp[results,f300,go_sem,e0,e1]) rfl ⟨rfl,B3⟩
theorem za(h:Ig w ps S Y)(hi:Fv S)(h_ f9:Nat)(k:Int)(hk:k<0):
 Cb 299 #[fE ps h_,Xu f9,Xi k] w (.tuple #[Id (f_ S 0).1.key (f_ S 0).1.val,Xi 2]):=by
 have B1:=c_ w (Xg ps h_);have q1:=heap_alloc_new w (Xg ps h_);have B0:=B1.alloc B1.size (.cells #[Xu 0,Xu 0] 104);have z1:=heap_alloc_new (w.alloc (Xg ps h_)) (.cells #[Xu 0,Xu 0] 104);have q1:=(((aa (w.alloc (Xg ps h_)).1.size (w.alloc (Xg ps h_))).alloc Ih (.cells #[Xu 0,Xu 0] 104)).block w.1.size s_).T q1;simp only[World.size_alloc] at z1;have ha:=EW (h.a_ B0) hi f9 k hk;have ai:=fun W (hW:D_ w W)=>my (h.a_ hW) hi h_ 0 d_;simp only[Id,fE] at ai⊢;generalize (f_ S 0).1.key=k0 at*;generalize (f_ S 0).1.val=k1 at*;have HG:=kq5 ha ai B0 z1 q1;clear ha ai B0 B1 h hi z1 q1;go_enter func299,ntmps299;go_wp2_with fail;refine Jc HG.a ?_;have ad:=aa ((w.alloc (Xg ps h_)).alloc (.cells #[Xu 0,Xu 0] 104)).1.size ((w.alloc (Xg ps h_)).alloc (.cells #[Xu 0,Xu 0] 104));generalize an:(w.alloc (Xg ps h_)).alloc (.cells #[Xu 0,Xu 0] 104)=w1 at*;have z1:=(ad.block (w.1.size+1) (by rw[<-an];simp)).T HG.d;have q1:=(ad.block w.1.size (by rw[<-an];simp;omega)).T HG.e;obtain⟨c0,c1⟩:=Fp q1;have H1:=kq2 (b_ HG.c ad) z1;clear ad z1 q1 an;go_wp2_with fail;refine e9 (HG.b _ H1.a) fun w2 hb2=>?_;have z2:=(hb2.block (w.1.size+1) (gl H1.b)).T H1.b;obtain⟨d0,d1⟩:=Fp z2;obtain⟨f0,f1⟩:=ef z2;have HW:=kq2 (b_ H1.a hb2) z2;clear hb2 z2 c0 c1;go_wp2_with fail;have q3:=ew HW.b (Xu k0) (Xu k1);have B3:=eT HW.a (bH w.1.size) (Xu k0) (Xu k1);generalize ((w2.setCell (y_ (w.1.size+1)) (Xu k0)).setCell (x_ (w.1.size+1) 1) (Xu k1))=W3 at*;obtain⟨e0,e1⟩:=Fp q3;exact bodyPost_ret (v:=.tuple #[.agg #[Xu k0,Xu k1],Xi 2]) (by simp[results,f299,go_sem,e0,e1]) rfl ⟨rfl,B3⟩
theorem vP(f:Nat)(v:Value)(w:World):(method (f+1) 162 v "loft/backend.find").run prog w=.ok (300,v) w:=k_
def FF(w:World)(px ps:Nat)(ty:TypeId)(kv:Value)(h_ td f9:Nat):Prop:=w.1[px]?=some (.cells #[PV ps,Xi h_,Xi td,.iface ty kv,Xu f9] 100)
theorem FF.a_{w w':World}{px ps h_ td f9:Nat}(h:FF w px ps ty kv h_ td f9)(hb:D_ w w'):FF w' px ps ty kv h_ td f9:=(hb.block px (gl h)).T h
theorem FF.B_{w w':World}{px ps h_ td f9:Nat}(h:FF w px ps ty kv h_ td f9)(hk:Fo Y w w')(hy:Y px):FF w' px ps ty kv h_ td f9:=(hk.block px hy).T h
theorem kw{px ps h_ td f9:Nat}(hT:FF w px ps ty kv h_ td f9):
 Ct 48 #[PV px] w fun e w'=>e=.returned (.bool false)/\w=w':=by
 unfold FF at hT;obtain⟨c0,c1,c2,c3,c4⟩:=ld hT;clear hT;go_enter func48,ntmps48;go_wp2_with fail;go_ret;exact⟨rfl,rfl⟩
theorem kN(px ps:Nat)(ty:TypeId)(kv:Value)(h_ td f9:Nat):∃I:World->Prop,(∀w',I w'->FF w' px ps ty kv h_ td f9)/\(∀w',FF w' px ps ty kv h_ td f9->I w'):=⟨fun w'=>FF w' px ps ty kv h_ td f9,fun _ h=>h,fun _ a=>a⟩
theorem qYgae{P:Prop}(h:P:=by
 refine mD fun K hK=>?_;go_simp;refine e9 HG.b fun w2 hb2=>?_;have T2:=FF.a_ (w:=w.drew) HG.c hb2;have B2:=kq2 T2 ((aa w.1.size w).drew.T hb2);clear T2 hb2
 try go_simp
 refine hK.O _ _ (HG.d _ B2.a) ?_;clear hK K
 try simp only[pu]
 refine mD fun K hK=>?_;go_simp
 try go_simp
 refine hK.O _ _ (HG.d _ B2.a) ?_;clear hK K
 try simp only[pu]
 refine mX ?_;go_wp2_with fail;go_ret;exact⟨rfl,B2.b⟩):P:=h
theorem xM{px ps h_ td f9:Nat}(hT:FF w px ps ty kv h_ td f9)(hme:∀(f:Nat) (v:Value) (w:World),(method (f+1) ty v "loft/backend.size").run prog w=.ok (fm,v) w)(hen:∀(args:Array Value) (w:World),(callFunc fm args).run prog w=.ok (.enter fm args) w)(hs:∀W,D_ w W->Ct fm #[kv,Xu f9] W fun e w'=>e=.returned (Xi z)/\D_ W w'):
 Cb 19 #[PV px] w (Xi z):=by
 have hn:=kw hT;have hs:=hs _ (aa _ w).drew;obtain⟨I,an,ad⟩:=kN px ps ty kv h_ td f9;have ai:=fun x:Fq I=>an _ x.ok;simp only[FF] at ai;obtain⟨m0,m1,m2,m3,m4⟩:=iK ai;have ap:I w.drew:=ad _ hT;have HG:=kq4 hn hs hT ad;clear hn hs hT an ad ai;go_enter func19,ntmps19;go_wp2_with fail;refine Jc HG.a ?_;go_wp2_with fail;refine nF I [(true,0),(true,1),(true,2),(true,3),(true,4),(true,5),(true,6),(true,7),(true,8),(true,9),(false,10),(false,11)] k_ k_ ap ?_
 iterate 10
  refine' mT ?_ ?_;rotate_left
  ·intro x;go_simp
   try rfl
  try simp only[pu]
 exact qYgae
theorem xO{px ps h_ td f9:Nat}(hT:FF w px ps ty kv h_ td f9)(k:List UInt8)(hme:∀(f:Nat) (v:Value) (w:World),(method (f+1) ty v "loft/backend.rank").run prog w=.ok (fm,v) w)(hen:∀(args:Array Value) (w:World),(callFunc fm args).run prog w=.ok (.enter fm args) w)(hs:∀W,D_ w W->Ct fm #[kv,Xu f9,SV k] W fun e w'=>e=.returned (Xi z)/\D_ W w'):
 Cb 16 #[PV px,SV k] w (Xi z):=by
 have hn:=kw hT;have hs:=hs _ (aa _ w).drew;obtain⟨I,an,ad⟩:=kN px ps ty kv h_ td f9;have ai:=fun x:Fq I=>an _ x.ok;simp only[FF] at ai;obtain⟨m0,m1,m2,m3,m4⟩:=iK ai;have ap:I w.drew:=ad _ hT;have HG:=kq4 hn hs hT ad;clear hn hs hT an ad ai;go_enter func16,ntmps16;go_wp2_with fail;refine Jc HG.a ?_;go_wp2_with fail;refine nF I [(true,0),(true,1),(true,2),(true,3),(true,4),(true,5),(true,6),(true,7),(true,8),(true,9),(true,10),(false,11),(false,12)] k_ k_ ap ?_
 iterate 11
  refine' mT ?_ ?_;rotate_left
  ·intro x;go_simp
   try rfl
  try simp only[pu]
 exact qYgae
theorem xH{px ps h_ td f9:Nat}(hT:FF w px ps ty kv h_ td f9)(k:Int)(p:List UInt8×List UInt8)(k0 k1 e1 e2:Nat)(er:Int)(her:er=0\/er=2/\p=([],[]))(hme:∀(f:Nat) (v:Value) (w:World),(method (f+1) ty v "loft/backend.at").run prog w=.ok (fm,v) w)(hen:∀(args:Array Value) (w:World),(callFunc fm args).run prog w=.ok (.enter fm args) w)(hs:∀W,D_ w W->Ct fm #[kv,Xu f9,Xi k] W fun e w'=>e=.returned (.tuple #[.agg #[Xu k0,Xu k1],Xi er])/\D_ W w')(hg1:er=0->∀W,D_ w W->Cb 51 #[PV ps,Xu k0] W (.tuple #[SV p.1,Xi e1]))(hg2:er=0->∀W,D_ w W->Cb 51 #[PV ps,Xu k1] W (.tuple #[SV p.2,Xi e2])):
 Cb 18 #[PV px,Xi k] w (.tuple #[eu p,Xi er]):=by
 have B0:=c_ w (.cells #[.string ⟨#[]⟩,.string ⟨#[]⟩] 40);have y0:=heap_alloc_new w (.cells #[.string ⟨#[]⟩,.string ⟨#[]⟩] 40);have hn:=kw (hT.a_ B0);obtain⟨p1,p2⟩:=p;simp only[eu] at hg1 hg2⊢;obtain⟨I,au,a0⟩:=kN px ps ty kv h_ td f9;have ar:=fun x:Fq I=>au _ x.ok;simp only[FF] at ar;obtain⟨m0,m1,m2,m3,m4⟩:=iK ar;have ap:I ((w.alloc (.cells #[.string ⟨#[]⟩,.string ⟨#[]⟩] 40)).drew):=a0 _ (hT.a_ B0.drew);have HG:=kq9 hn hs hT a0 B0 y0 hg1 hg2 her;clear hn hs hT au a0 ar B0 y0 hg1 hg2 her;go_enter func18,ntmps18;go_wp2_with fail;refine Jc HG.a ?_;go_wp2_with fail;have HU:=kq3 HG.g HG.h HG.i;refine fh I (.take 0 (.take 1 (.take 2 (.take 3 (.take 4 (.take 5 (.take 6 (.take 7 (.take 8 (.take 9 (.take 10 (.two 11 15 (.take 12 (.take 13 (.take 14 (.go 15 (.go 16 (.go 17 .nil)))))) (.go 11 (.take 12 (.take 13 (.take 14 (.go 16 (.go 17 .nil)))))))))))))))))) k_ k_ ap ?_
 iterate 11
  refine pT_ ?_
  try simp only[pu]
 refine gL ?h1 ?h2
 case' h1=>
  refine pD fun K hK=>?_;go_simp;refine e9 (HG.b _ HG.e.drew) fun w2 hb2=>?_;have T2:=FF.a_ (w:=(w.alloc (.cells #[.string ⟨#[]⟩,.string ⟨#[]⟩] 40)).drew) (HG.c.a_ HG.e.drew) hb2;have y2:=(hb2.block w.1.size (by show w.1.size<(w.alloc _).1.size;simp)).T HG.f;have B2:=kq3 T2 (b_ HG.e.drew hb2) y2;clear T2 hb2 y2
  try go_simp
  refine hK.O _ _ (HG.d _ B2.a) ?_;clear hK K
  try simp only[pu]
  iterate 3
   refine pT_ ?_
   try simp only[pu]
  refine pD fun K hK=>?_;go_simp;have A2:=c_ w2 (.cells #[Xu 0,Xu 0] 104);have TA:=B2.a.a_ A2;have BA:=b_ B2.b A2;have yA:=(A2.block w.1.size (gl B2.c)).T B2.c;have qA:=heap_alloc_new w2 (.cells #[Xu 0,Xu 0] 104);have a2:w.1.size<w2.1.size:=(gl B2.c);clear A2 B2;generalize w2.alloc (.cells #[Xu 0,Xu 0] 104)=W at*;generalize w2.1.size=b6 at*
  try go_simp
  refine hK.O _ _ (HG.d _ TA) ?_;clear hK K
  try simp only[pu]
  obtain⟨c0,c1⟩:=Fp qA;obtain⟨f0,f1⟩:=ef qA;have HA:=kq5 TA BA yA qA a2;clear TA BA yA qA a2;refine pD fun K hK=>?_;go_simp;have qB:=ew HA.d (Xu k0) (Xu k1);have BB:=eT HA.b (cW HA.e) (Xu k0) (Xu k1);have yB:=(fA (dh HA.e) (Xu k0) (Xu k1)).T HA.c;have TB:FF ((W.setCell (y_ b6) (Xu k0)).setCell (x_ b6 1) (Xu k1)) px ps ty kv h_ td f9:=HG.c.a_ BB;have a3:=HA.e;clear c0 c1 f0 f1 HA;generalize ((W.setCell (y_ b6) (Xu k0)).setCell (x_ b6 1) (Xu k1))=W7 at*
  try go_simp
  refine hK.O _ _ (HG.d _ TB) ?_;clear hK K
  try simp only[pu]
  refine pD fun K hK=>?_;go_simp
  try go_simp
  refine hK.O _ _ (HG.d _ TB) ?_;clear hK K
  try simp only[pu]
  refine eP ?_;have H7:=kq5 TB BB yB qB a3;clear TB BB yB qB a3;clear w2
 case' h2=>
  refine pD fun K hK=>?_;go_simp;have A2:=(aa (w.alloc (.cells #[.string ⟨#[]⟩,.string ⟨#[]⟩] 40)).1.size (w.alloc (.cells #[.string ⟨#[]⟩,.string ⟨#[]⟩] 40))).alloc Ih (.cells #[Xu 0,Xu 0] 104);have BA:=(b_ HG.e A2).drew;have qA:((w.alloc (.cells #[.string ⟨#[]⟩,.string ⟨#[]⟩] 40)).alloc (.cells #[Xu 0,Xu 0] 104)).drew.1[(w.alloc (.cells #[.string ⟨#[]⟩,.string ⟨#[]⟩] 40)).1.size]?=_:=heap_alloc_new (w.alloc (.cells #[.string ⟨#[]⟩,.string ⟨#[]⟩] 40)) (.cells #[Xu 0,Xu 0] 104);have yA:((w.alloc (.cells #[.string ⟨#[]⟩,.string ⟨#[]⟩] 40)).alloc (.cells #[Xu 0,Xu 0] 104)).drew.1[w.1.size]?=_:=(A2.block w.1.size s_).T HG.f;have TA:=HG.c.a_ BA;simp only[World.size_alloc] at qA;clear A2;generalize ((w.alloc (.cells #[.string ⟨#[]⟩,.string ⟨#[]⟩] 40)).alloc (.cells #[Xu 0,Xu 0] 104)).drew=w1 at*
  try go_simp
  refine hK.O _ _ (HG.d _ TA) ?_;clear hK K
  try simp only[pu]
  have an:=kq4 TA BA yA qA;clear TA BA yA qA;refine pD fun K hK=>?_;go_simp;refine e9 (HG.b _ an.b) fun W hb2=>?_;have TA:=an.a.a_ hb2;have BA:=b_ an.b hb2;have yA:=(hb2.block w.1.size (gl an.c)).T an.c;have qA:=(hb2.block (w.1.size+1) (gl an.d)).T an.d;have a2:w.1.size<w.1.size+1:=o_
  clear hb2 an;generalize w.1.size+1=b6 at*
  try go_simp
  refine hK.O _ _ (HG.d _ TA) ?_;clear hK K
  try simp only[pu]
  iterate 3
   refine pT_ ?_
   try simp only[pu]
  obtain⟨c0,c1⟩:=Fp qA;obtain⟨f0,f1⟩:=ef qA;have HA:=kq5 TA BA yA qA a2;clear TA BA yA qA a2;refine pD fun K hK=>?_;go_simp;have qB:=ew HA.d (Xu k0) (Xu k1);have BB:=eT HA.b (cW HA.e) (Xu k0) (Xu k1);have yB:=(fA (dh HA.e) (Xu k0) (Xu k1)).T HA.c;have TB:FF ((W.setCell (y_ b6) (Xu k0)).setCell (x_ b6 1) (Xu k1)) px ps ty kv h_ td f9:=HG.c.a_ BB;have a3:=HA.e;clear c0 c1 f0 f1 HA;generalize ((W.setCell (y_ b6) (Xu k0)).setCell (x_ b6 1) (Xu k1))=W7 at*
  try go_simp
  refine hK.O _ _ (HG.d _ TB) ?_;clear hK K
  try simp only[pu]
  refine pD fun K hK=>?_;go_simp
  try go_simp
  refine hK.O _ _ (HG.d _ TB) ?_;clear hK K
  try simp only[pu]
  refine eP ?_;have H7:=kq5 TB BB yB qB a3;clear TB BB yB qB a3;clear w1
 all_goals
  rcases HU.c with rfl | ⟨rfl,e⟩
  ·have HT:=If HG.c;clear ap HG m0 m1 m2 m3 m4 I;obtain⟨I,au,a0⟩:=lB (fun w'=>FF w' px ps ty kv h_ td f9) (fun w'=>w'.1[b6]?=some (Xe k0 k1));have ar:=fun x:Fq I=>(au _ x.ok).1;have a5:=fun x:Fq I=>(au _ x.ok).2;simp only[FF] at ar;obtain⟨m0,m1,m2,m3,m4⟩:=iK ar;obtain⟨n0,n1⟩:=ft a5;have HI:=If a0;clear au a0 ar a5;have ad:=H7;clear H7;have ap:I W7.drew:=HI.O _ ad.O.1 ad.O.2.2.2.1;go_wp2_with fail;refine fh I (.take 0 (.take 1 (.take 2 (.take 3 (.take 4 (.take 5 (.go 6 (.take 7 (.take 8 (.take 9 (.take 10 (.go 11 .nil)))))))))))) k_ k_ ap ?_;clear ap
   iterate 6
    refine pT_ ?_
    try simp only[pu]
   refine pD fun K hK=>?_;go_simp;refine e9 (HU.a (by trivial) _ ad.O.2.1.drew) fun w8 hb=>?_;have T2:=FF.a_ (w:=W7.drew) (ad.O.1.a_ (aa _ _).drew) hb;have B2:=b_ ad.O.2.1.drew hb;have y2:=(hb.block w.1.size (gl ad.O.2.2.1)).T ad.O.2.2.1;have q2:=(hb.block b6 (gl ad.O.2.2.2.1)).T ad.O.2.2.2.1;clear hb;obtain⟨c0,c1⟩:=Fp y2;obtain⟨f0,f1⟩:=ef y2;have HX:=kq5 T2 B2 y2 q2 ad.O.2.2.2.2;clear T2 B2 y2 q2
   try go_simp
   refine hK.O _ _ (HI.O _ HX.a HX.d) ?_;clear hK K
   try simp only[pu]
   iterate 4
    refine pT_ ?_
    try simp only[pu]
   refine pD fun K hK=>?_;go_simp;have y3:=heap_setCell HX.c (v:=SV p1) (i:=0);have B3:=HX.b.setCell (p:=y_ w.1.size) Ih (SV p1);have q3:=(FB (w:=w8) (b:=w.1.size) (i:=0) (v:=SV p1) (Nat.ne_of_gt HX.e)).T HX.d;have T3:FF (w8.setCell (y_ w.1.size) (SV p1)) px ps ty kv h_ td f9:=HT.O.a_ B3;have a1:=HX.e;clear c0 c1 f0 f1 HX;generalize w8.setCell (y_ w.1.size) (SV p1)=w8s at*
   try go_simp
   refine hK.O _ _ (HI.O _ T3 q3) ?_;clear hK K
   try simp only[pu]
   refine eP ?_;have ai:=kq5 T3 B3 y3 q3 a1;clear T3 B3 y3 q3 a1;have ap:I w8s.drew:=HI.O _ ai.a ai.d;go_wp2_with fail;refine fh I (.take 0 (.take 1 (.take 2 (.take 3 (.take 4 (.take 5 (.go 6 (.take 7 (.take 8 (.take 9 (.take 10 (.go 11 .nil)))))))))))) k_ k_ ap ?_;clear ap
   iterate 6
    refine pT_ ?_
    try simp only[pu]
   refine pD fun K hK=>?_;go_simp;refine e9 (HU.b (by trivial) _ ai.b.drew) fun w9 hb=>?_;have T2:=FF.a_ (w:=w8s.drew) (ai.a.a_ (aa _ _).drew) hb;have B2:=b_ ai.b.drew hb;have y2:=(hb.block w.1.size (gl ai.c)).T ai.c;have q2:=(hb.block b6 (gl ai.d)).T ai.d;clear hb;obtain⟨c0,c1⟩:=Fp y2;obtain⟨f0,f1⟩:=ef y2;have HX:=kq5 T2 B2 y2 q2 ai.e;clear T2 B2 y2 q2
   try go_simp
   refine hK.O _ _ (HI.O _ HX.a HX.d) ?_;clear hK K
   try simp only[pu]
   iterate 4
    refine pT_ ?_
    try simp only[pu]
   refine pD fun K hK=>?_;go_simp;have y3:=heap_setCell HX.c (v:=SV p2) (i:=1);have B3:=HX.b.setCell (p:=x_ w.1.size 1) Ih (SV p2);have q3:=(FB (w:=w9) (b:=w.1.size) (i:=1) (v:=SV p2) (Nat.ne_of_gt HX.e)).T HX.d;have T3:FF (w9.setCell (x_ w.1.size 1) (SV p2)) px ps ty kv h_ td f9:=HT.O.a_ B3;have a1:=HX.e;clear c0 c1 f0 f1 HX;generalize w9.setCell (x_ w.1.size 1) (SV p2)=w9s at*
   try go_simp
   refine hK.O _ _ (HI.O _ T3 q3) ?_;clear hK K
   try simp only[pu]
   refine eP ?_;have a4:=kq5 T3 B3 y3 q3 a1;clear T3 B3 y3 q3 a1;have y:=a4.c;have y':w9s.1[w.1.size]?=some (Xk p1 p2):=y;obtain⟨c0,c1⟩:=Fp y';obtain⟨f0,f1⟩:=ef y';have q5:=ew y' (SV p1) (SV p2);have B5:=eT a4.b Ih (SV p1) (SV p2);have HB:=kq2 q5 B5;clear y y' q5 B5;go_wp2_with fail;obtain⟨q5,B5⟩:=HB.O;generalize ((w9s.setCell (y_ w.1.size) (SV p1)).setCell (x_ w.1.size 1) (SV p2))=wF at*;obtain⟨e0,e1⟩:=Fp q5;exact bodyPost_ret (v:=.tuple #[.agg #[SV p1,SV p2],Xi 0]) (by simp[results,f18,go_sem,e0,e1]) rfl ⟨rfl,B5⟩
  ·obtain⟨rfl,rfl⟩:=Prod.mk.inj e;clear HU;have y:=H7.c;obtain⟨c0,c1⟩:=Fp y;obtain⟨f0,f1⟩:=ef y;have q5:=ew y (.string ⟨#[]⟩) (.string ⟨#[]⟩);have B5:=eT H7.b Ih (.string ⟨#[]⟩) (.string ⟨#[]⟩);have HB:=kq2 q5 B5;clear y q5 B5;go_wp2_with fail;obtain⟨q5,B5⟩:=HB.O;generalize ((W7.setCell (y_ w.1.size) (.string ⟨#[]⟩)).setCell (x_ w.1.size 1) (.string ⟨#[]⟩))=wF at*;obtain⟨e0,e1⟩:=Fp q5;exact bodyPost_ret (v:=.tuple #[.agg #[.string ⟨#[]⟩,.string ⟨#[]⟩],Xi 2]) (by simp[results,f18,go_sem,e0,e1]) rfl ⟨rfl,B5⟩
theorem nu{px ps h_ td f9:Nat}(hT:FF w px ps ty kv h_ td f9)(k:List UInt8)(k0 k1:Nat)(is:Bool)(t:List UInt8)(e1:Nat)(ht:is=false->t=[])(hg:is=true->∀W,D_ w W->Cb 51 #[PV ps,Xu k1] W (.tuple #[SV t,Xi e1]))(hme:∀(f:Nat) (v:Value) (w:World),(method (f+1) ty v "loft/backend.find").run prog w=.ok (fm,v) w)(hen:∀(args:Array Value) (w:World),(callFunc fm args).run prog w=.ok (.enter fm args) w)(hs:∀W,D_ w W->Ct fm #[kv,Xu f9,SV k] W fun e w'=>e=.returned (.tuple #[.agg #[Xu k0,Xu k1],.bool is])/\D_ W w'):
 Cb 17 #[PV px,SV k] w (.tuple #[SV t,.bool is]):=by
 have B0:=aa w.1.size w;have hn:=kw (hT.a_ B0);obtain⟨I,ap,ai⟩:=kN px ps ty kv h_ td f9;have an:=fun x:Fq I=>ap _ x.ok;simp only[FF] at an;obtain⟨m0,m1,m2,m3,m4⟩:=iK an;have ar:I w.drew:=ai _ (hT.a_ B0.drew);have a4:=True.intro;have HI:=If ai;have HG:=kq4 hn hs hT B0;have HU:=kq2 hg ht;clear hn hs hT ap ai an B0 hg ht;go_enter func17,ntmps17;go_wp2_with fail;refine Jc HG.a ?_;go_wp2_with fail;refine fh I (.take 0 (.take 1 (.take 2 (.take 3 (.take 4 (.take 5 (.take 6 (.take 7 (.take 8 (.take 9 (.take 10 (.two 11 15 (.take 12 (.take 13 (.take 14 (.go 15 (.go 16 (.go 17 .nil)))))) (.go 11 (.take 12 (.take 13 (.take 14 (.go 16 (.go 17 .nil)))))))))))))))))) k_ k_ ar ?_
 iterate 11
  refine pT_ ?_
  try simp only[pu]
 refine gL ?h1 ?h2
 case' h1=>
  refine pD fun K hK=>?_;go_simp;refine e9 (HG.b _ HG.d.drew) fun w2 hb2=>?_;have T2:=FF.a_ (w:=w.drew) (HG.c.a_ HG.d.drew) hb2;have a1:=b_ HG.d.drew hb2;have B2:=kq2 T2 a1;clear T2 hb2 a1
  try go_simp
  refine hK.O _ _ (HI.O _ B2.a) ?_;clear hK K
  try simp only[pu]
  iterate 3
   refine pT_ ?_
   try simp only[pu]
  refine pD fun K hK=>?_;go_simp;have A2:=c_ w2 (.cells #[Xu 0,Xu 0] 104);have TA:=B2.a.a_ A2;have BA:=b_ B2.b A2;have qA:=heap_alloc_new w2 (.cells #[Xu 0,Xu 0] 104);have au:w.1.size<=w2.1.size:=B2.b.size;clear A2 B2;generalize w2.alloc (.cells #[Xu 0,Xu 0] 104)=W at*;generalize w2.1.size=b6 at*
  try go_simp
  refine hK.O _ _ (HI.O _ TA) ?_;clear hK K
  try simp only[pu]
  obtain⟨c0,c1⟩:=Fp qA;obtain⟨f0,f1⟩:=ef qA;have HA:=kq4 TA BA qA au;clear TA BA qA au;refine pD fun K hK=>?_;go_simp;have qB:=ew HA.c (Xu k0) (Xu k1);have BB:=eT HA.b (HA.d) (Xu k0) (Xu k1);have TB:FF ((W.setCell (y_ b6) (Xu k0)).setCell (x_ b6 1) (Xu k1)) px ps ty kv h_ td f9:=HG.c.a_ BB;have a0:=HA.d;clear c0 c1 f0 f1 HA;generalize ((W.setCell (y_ b6) (Xu k0)).setCell (x_ b6 1) (Xu k1))=W7 at*
  try go_simp
  refine hK.O _ _ (HI.O _ TB) ?_;clear hK K
  try simp only[pu]
  refine pD fun K hK=>?_;go_simp
  try go_simp
  refine hK.O _ _ (HI.O _ TB) ?_;clear hK K
  try simp only[pu]
  refine eP ?_;have H7:=kq4 TB BB qB a0;clear TB BB qB a0;clear w2
 case' h2=>
  refine pD fun K hK=>?_;go_simp;have A2:=c_ w (.cells #[Xu 0,Xu 0] 104);have BA:=(b_ HG.d A2).drew;have qA:(w.alloc (.cells #[Xu 0,Xu 0] 104)).drew.1[w.1.size]?=_:=heap_alloc_new w (.cells #[Xu 0,Xu 0] 104);have TA:=HG.c.a_ BA;clear A2;generalize (w.alloc (.cells #[Xu 0,Xu 0] 104)).drew=w1 at*
  try go_simp
  refine hK.O _ _ (HI.O _ TA) ?_;clear hK K
  try simp only[pu]
  have ad:=kq3 TA BA qA;clear TA BA qA;refine pD fun K hK=>?_;go_simp;refine e9 (HG.b _ ad.b) fun W hb2=>?_;have TA:=ad.a.a_ hb2;have BA:=b_ ad.b hb2;have qA:=(hb2.block w.1.size (gl ad.c)).T ad.c;obtain⟨b6,a2⟩:=Ii w.1.size;have au:w.1.size<=b6:=o_
  rw[a2] at qA;simp only[a2];clear hb2 ad
  try go_simp
  refine hK.O _ _ (HI.O _ TA) ?_;clear hK K
  try simp only[pu]
  iterate 3
   refine pT_ ?_
   try simp only[pu]
  obtain⟨c0,c1⟩:=Fp qA;obtain⟨f0,f1⟩:=ef qA;have HA:=kq4 TA BA qA au;clear TA BA qA au;refine pD fun K hK=>?_;go_simp;have qB:=ew HA.c (Xu k0) (Xu k1);have BB:=eT HA.b (HA.d) (Xu k0) (Xu k1);have TB:FF ((W.setCell (y_ b6) (Xu k0)).setCell (x_ b6 1) (Xu k1)) px ps ty kv h_ td f9:=HG.c.a_ BB;have a0:=HA.d;clear c0 c1 f0 f1 HA;generalize ((W.setCell (y_ b6) (Xu k0)).setCell (x_ b6 1) (Xu k1))=W7 at*
  try go_simp
  refine hK.O _ _ (HI.O _ TB) ?_;clear hK K
  try simp only[pu]
  refine pD fun K hK=>?_;go_simp
  try go_simp
  refine hK.O _ _ (HI.O _ TB) ?_;clear hK K
  try simp only[pu]
  refine eP ?_;have H7:=kq4 TB BB qB a0;clear TB BB qB a0;clear w1
 all_goals
  cases is
  ·have ht:=HU.b rfl;clear HU;subst ht;go_wp2_with fail;go_ret2;exact⟨rfl,H7.b⟩
  ·clear HI ar a4 m0 m1 m2 m3 m4 I;obtain⟨I,ap,ai⟩:=lB (fun w'=>FF w' px ps ty kv h_ td f9) (fun w'=>w'.1[b6]?=some (Xe k0 k1));have an:=fun x:Fq I=>(ap _ x.ok).1;have a3:=fun x:Fq I=>(ap _ x.ok).2;simp only[FF] at an;obtain⟨m0,m1,m2,m3,m4⟩:=iK an;obtain⟨n0,n1⟩:=ft a3;have HI:=If ai;have ar:I W7.drew:=ai _ H7.a H7.c;clear ap ai an a3;go_wp2_with fail;refine fh I (.take 0 (.take 1 (.take 2 (.take 3 (.take 4 (.take 5 (.go 6 (.take 7 (.take 8 (.take 9 (.go 10 (.go 11 .nil)))))))))))) k_ k_ ar ?_;clear ar
   iterate 6
    refine pT_ ?_
    try simp only[pu]
   refine pD fun K hK=>?_;go_simp;refine e9 (HU.a (by trivial) _ H7.b.drew) fun w8 hb=>?_;have T2:=FF.a_ (w:=W7.drew) (H7.a.a_ (aa _ _).drew) hb;have q2:=(hb.block b6 (gl H7.c)).T H7.c;have HX:=kq3 T2 q2 (b_ H7.b.drew hb);clear hb T2 q2
   try go_simp
   refine hK.O _ _ (HI.O _ HX.a HX.b) ?_;clear hK K
   try simp only[pu]
   iterate 3
    refine pT_ ?_
    try simp only[pu]
   refine pD fun K hK=>?_;go_simp
   try go_simp
   refine hK.O _ _ (HI.O _ HX.a HX.b) ?_;clear hK K
   try simp only[pu]
   refine pD fun K hK=>?_;go_simp
   try go_simp
   refine hK.O _ _ (HI.O _ HX.a HX.b) ?_;clear hK K
   try simp only[pu]
   refine eP ?_;go_wp2_with fail;go_ret2;exact⟨rfl,HX.c⟩
def Lf.treeRepM(jn:Jn)(S:St)(f9:Nat)(a b:List UInt8):Option ((Nat×Nat×Nat)×St):=
 match itemsM S a b with
 | none=>none
 | some (p,S1)=>binRepM jn S1 f9 p.1 p.2
structure jC (w W:World) (px ps:Nat) (ty:TypeId) (kv:Value) (h_ td f9:Nat) (a b:List UInt8) (S:St) (Y:Nat->Prop) (q0 q1:Value):Prop where
 t:FF W px ps ty kv h_ td f9
 y:W.1[w.1.size]?=some (Xk a b)
 q:W.1[w.1.size+1]?=some (.cells #[q0,q1] 104)
 st:Ig W ps S (fun k=>Y k\/(w.1.size<=k/\k<w.1.size+2))
 k:Fo Y w W
theorem jC.drew{w W:World}{px ps h_ td f9:Nat}{a b:List UInt8}{q0 q1:Value}(h:jC w W px ps ty kv h_ td f9 a b S Y q0 q1):jC w W.drew px ps ty kv h_ td f9 a b S Y q0 q1:=
 ⟨h.t,h.y,h.q,h.st.a_ (aa _ _).drew,h.k.T (Fo.drewN Y W 1)⟩
theorem jC.call{w W W':World}{px ps h_ td f9:Nat}{a b:List UInt8}{S S':St}{q0 q1:Value}(h:jC w W px ps ty kv h_ td f9 a b S Y q0 q1)(hpx:Y px)(hs:Ig W' ps S' (fun k=>Y k\/(w.1.size<=k/\k<w.1.size+2)))(hk:Fo (fun k=>Y k\/(w.1.size<=k/\k<w.1.size+2)) W W'):jC w W' px ps ty kv h_ td f9 a b S' Y q0 q1:=
 ⟨h.t.B_ hk (ab hpx),(hk.block _ (ae ⟨o_,o_⟩)).T h.y,(hk.block _ (ae ⟨o_,o_⟩)).T h.q,hs,h.k.T (hk.M fun _ hk=>ab hk)⟩
theorem jC.write{w W W':World}{px ps h_ td f9:Nat}{a b:List UInt8}{q0 q1 r0 r1:Value}(h:jC w W px ps ty kv h_ td f9 a b S Y q0 q1)(hpx:Y px)(hY:∀k,Y k->k<w.1.size)(hz:W'.1.size=W.1.size)(ho:W'.os=W.os/\W'.tape=W.tape/\W'.output=W.output)(hw:∀k,k≠w.1.size+1->W'.1[k]?=W.1[k]?)(hq:W'.1[w.1.size+1]?=some (.cells #[r0,r1] 104)):jC w W' px ps ty kv h_ td f9 a b S Y r0 r1:=by
 have h1:=hY px hpx;refine⟨(hw px o_).T h.t,(hw _ o_).T h.y,hq,h.st.write (ae ⟨o_,o_⟩) h.q ⟨d_,d_⟩ s_ o_ fun k _ hk=>hw k hk,?_⟩;refine h.k.T ⟨ho.1,ho.2.1,ho.2.2,o_,fun k hk=>hw k ?_⟩;have:=hY k hk;omega
theorem ER{px ps h_ td f9:Nat}{S S':St}(h:Ig w ps S Y)(hi:Fv S)(hT:FF w px ps ty kv h_ td f9)(hpx:Y px)(a b:List UInt8)(hm:nJ S a b)(hp:itemsM S a b=some (p,S')):
 Ct 83 #[PV px,eu (a,b)] w fun e w'=>e=.returned (.tuple #[Id p.1 p.2,Xi 0])/\Ig w' ps S' Y/\Fo Y w w'/\Fv S'/\p.1<2^64/\p.2<2^64:=by
 obtain⟨e1,e2,e3⟩:=BI hp;have a2:=wu hm.2.2.1 hi;have a3:=wu hm.2.2.2 a2;have l1:=wv h.tabwf a;have a0:=fun W Z (hW:Ig W ps S Z)=>tP hW hi a hm.1 hm.2.2.1;have au:=fun W Z (hW:Ig W ps (fx S a).2 Z)=>And.intro (tP hW a2 b hm.2.1 hm.2.2.2) (wv hW.tabwf b);rw[e1] at a0 l1;rw[e2] at au;rw[<-e3] at a3 au;generalize (fx S a).2=S1 at*;obtain⟨p1,p2⟩:=p;simp only[eu,Id] at a0 au l1⊢;have B1:=c_ w (Xk a b);have y1:=heap_alloc_new w (Xk a b);have z1:(w.alloc (Xk a b)).1.size=w.1.size+1:=s_
 generalize a9:w.alloc (Xk a b)=w1 at*;have A2:=c_ w1 (.cells #[Xu 0,Xu 0] 104);have B2:=b_ B1 A2;have y2:=(A2.block w.1.size o_).T y1;have q2:=heap_alloc_new w1 (.cells #[Xu 0,Xu 0] 104);have z2:(w1.alloc (.cells #[Xu 0,Xu 0] 104)).1.size=w.1.size+2:=by simp[z1]
 rw[z1] at q2;subst a9;have hY:=h.yl;have hA:jC w ((w.alloc (Xk a b)).alloc (.cells #[Xu 0,Xu 0] 104)) px ps ty kv h_ td f9 a b S Y (Xu 0) (Xu 0):=⟨hT.a_ B2,y2,q2,by have:=h.wide B2;rwa[z2] at this,Fo.A_ B2 hY⟩;have HG:=kq4 a0 au hpx hY;have HL:=kq2 a3 l1;have HA:=If hA;clear a0 au hA B1 B2 y1 y2 q2 A2 z1 z2 hY h hi a2 a3 l1 hm hp e1 e2 e3 hT;go_enter func83,ntmps83;go_wp2_with fail;generalize ((w.alloc (Xk a b)).alloc (.cells #[Xu 0,Xu 0] 104))=W0 at*;obtain⟨I,a1,a5⟩:=lB (fun w'=>FF w' px ps ty kv h_ td f9) (fun w'=>w'.1[w.1.size]?=some (Xk a b));have a4:=fun x:Fq I=>(a1 _ x.ok).1;have a7:=fun x:Fq I=>(a1 _ x.ok).2;simp only[FF] at a4;obtain⟨m0,m1,m2,m3,m4⟩:=iK a4;obtain⟨n0,n1⟩:=ft a7;have HI:=If a5;clear a1 a5 a4 a7;have ar:I W0.drew:=HI.O _ HA.O.drew.t HA.O.drew.y;refine fh I (.take 0 (.take 1 (.take 2 (.take 3 (.take 4 (.take 5 (.go 6 (.take 7 (.take 8 (.take 9 (.take 10 (.go 11 (.go 12 .nil))))))))))))) k_ k_ ar ?_;clear ar
 iterate 6
  refine pT_ ?_
  try simp only[pu]
 refine pD fun K hK=>?_;go_simp;refine(HG.a _ _ HA.O.drew.st).M ?_;rintro e w3 ⟨rfl,h3,k3⟩;have an:=If (HA.O.drew.call HG.c h3 k3);clear h3 k3;have q:=an.O.q;obtain⟨c0,c1⟩:=Fp q;obtain⟨f0,f1⟩:=ef q;clear q
 try go_simp
 refine hK.O _ _ (HI.O _ an.O.t an.O.y) ?_;clear hK K
 try simp only[pu]
 iterate 4
  refine pT_ ?_
  try simp only[pu]
 refine pD fun K hK=>?_;go_simp;have ad:=If (an.O.write (W':=w3.setCell (y_ (w.1.size+1)) (Xu p1)) HG.c HG.d s_ ⟨rfl,rfl,rfl⟩ (fun k hk=>FB hk) (heap_setCell an.O.q));clear c0 c1 f0 f1;generalize w3.setCell (y_ (w.1.size+1)) (Xu p1)=w4 at*
 try go_simp
 refine hK.O _ _ (HI.O _ ad.O.t ad.O.y) ?_;clear hK K
 try simp only[pu]
 refine pD fun K hK=>?_;go_simp
 try go_simp
 refine hK.O _ _ (HI.O _ ad.O.t ad.O.y) ?_;clear hK K
 try simp only[pu]
 refine eP ?_;go_wp2_with fail;have ar:I w4.drew:=HI.O _ ad.O.drew.t ad.O.drew.y;refine fh I (.take 0 (.take 1 (.take 2 (.take 3 (.take 4 (.take 5 (.go 6 (.take 7 (.take 8 (.take 9 (.take 10 (.go 11 (.go 12 .nil))))))))))))) k_ k_ ar ?_;clear ar
 iterate 6
  refine pT_ ?_
  try simp only[pu]
 refine pD fun K hK=>?_;go_simp;obtain⟨a6,l2⟩:=HG.b _ _ ad.O.drew.st;refine a6.M ?_;rintro e w5 ⟨rfl,h3,k3⟩;have ap:=If (ad.O.drew.call HG.c h3 k3);have a8:=If l2;clear h3 k3 a6 l2;have q:=ap.O.q;obtain⟨c0,c1⟩:=Fp q;obtain⟨f0,f1⟩:=ef q;clear q
 try go_simp
 refine hK.O _ _ (HI.O _ ap.O.t ap.O.y) ?_;clear hK K
 try simp only[pu]
 iterate 4
  refine pT_ ?_
  try simp only[pu]
 refine pD fun K hK=>?_;go_simp;have ai:=If (ap.O.write (W':=w5.setCell (x_ (w.1.size+1) 1) (Xu p2)) HG.c HG.d s_ ⟨rfl,rfl,rfl⟩ (fun k hk=>FB hk) (heap_setCell ap.O.q));clear c0 c1 f0 f1;generalize w5.setCell (x_ (w.1.size+1) 1) (Xu p2)=w6 at*
 try go_simp
 refine hK.O _ _ (HI.O _ ai.O.t ai.O.y) ?_;clear hK K
 try simp only[pu]
 refine pD fun K hK=>?_;go_simp
 try go_simp
 refine hK.O _ _ (HI.O _ ai.O.t ai.O.y) ?_;clear hK K
 try simp only[pu]
 refine eP ?_;have q:=ai.O.q;obtain⟨c0,c1⟩:=Fp q;obtain⟨f0,f1⟩:=ef q;have HF:=If (ai.O.write (W':=((w6.setCell (y_ (w.1.size+1)) (Xu p1)).setCell (x_ (w.1.size+1) 1) (Xu p2))) HG.c HG.d s_ ⟨rfl,rfl,rfl⟩ (fun k hk=>fA hk _ _) (ew q _ _));clear q;go_wp2_with fail;generalize ((w6.setCell (y_ (w.1.size+1)) (Xu p1)).setCell (x_ (w.1.size+1) 1) (Xu p2))=w7 at*;have q:=HF.O.q;obtain⟨e0,e1⟩:=Fp q;exact bodyPost_ret (v:=.tuple #[.agg #[Xu p1,Xu p2],Xi 0]) (by simp[results,f83,go_sem,e0,e1]) rfl ⟨rfl,HF.O.st.M fun k hk=>ab hk,HF.O.k,HL.a,HL.b,a8.O⟩
theorem xL{px ps h_ td f9:Nat}(h:Ig w ps S Y)(hi:Fv S)(hT:FF w px ps ty kv h_ td f9)(hpx:Y px)(k v:Nat)(hk:k<2^64)(hv:v<2^64)(hg:(fz S v).2≠8)(hi1:Fv (S.drop k).2):
 Ct 84 #[PV px,Id k v,.bool true] w fun e w'=>e=.returned (SV (fz S v).1)/\Ig w' ps ((S.drop k).2.drop v).2 Y/\Fo Y w w':=by
 have B1:=c_ w (Xe k v);have q1:=heap_alloc_new w (Xe k v);have S1:=h.wide B1;have T1:=hT.a_ B1;have a4:=h.yl;have sw:(w.alloc (Xe k v)).1.size=w.1.size+1:=s_
 rw[sw] at S1;have au:=fun W Z (hW:Ig W ps S Z)=>iz hW hi v hv hg;have a0:=fun W Z (hW:Ig W ps S Z)=>sE hW hi k hk;have a1:=fun W Z (hW:Ig W ps (S.drop k).2 Z)=>sE hW hi1 v hv;simp only[Id];generalize (fz S v).1=t at*;generalize (fz S v).2=er at*;generalize (S.drop k).1=e1 at*;generalize (S.drop k).2=S2 at*;generalize (S2.drop v).1=e2 at*;generalize (S2.drop v).2=S3 at*;have HG:=kq4 au a0 a1 (Fo.A_ B1 a4);clear au a0 a1 h hi hi1 hg;go_enter func84,ntmps84;go_wp2_with fail;generalize w.alloc (Xe k v)=W at*;obtain⟨I,ad,ai⟩:=lB (fun w'=>FF w' px ps ty kv h_ td f9) (fun w'=>w'.1[w.1.size]?=some (Xe k v));have an:=fun x:Fq I=>(ad _ x.ok).1;have a2:=fun x:Fq I=>(ad _ x.ok).2;simp only[FF] at an;obtain⟨m0,m1,m2,m3,m4⟩:=iK an;obtain⟨n0,n1⟩:=ft a2;have a3:I W.drew:=ai _ T1 q1;have HI:=If ai;have HW:=kq3 S1 T1 q1;clear S1 T1 q1 B1 ad ai an a2;refine fh I (.take 0 (.take 1 (.take 2 (.take 3 (.take 4 (.take 5 (.go 6 (.take 7 (.take 8 (.take 9 (.take 10 (.take 11 .nil)))))))))))) k_ k_ a3 ?_
 iterate 6
  refine pT_ ?_
  try simp only[pu]
 refine pD fun K hK=>?_;go_simp;refine e9 (HG.a _ _ (HW.a.drewN 1)) fun w2 hb2=>?_;have T2:FF w2 px ps ty kv h_ td f9:=FF.a_ (w:=W.drew) HW.b hb2;have q2:w2.1[w.1.size]?=_:=(hb2.block w.1.size (gl HW.c)).T HW.c;have s2:=(HW.a.drewN 1).a_ hb2;have k2:Fo Y W w2:=(Fo.drewN Y W 1).T ((HW.a.drewN 1).B_ hb2 |>.M fun k hk=>ab hk);have H2:=kq4 s2 T2 q2 (HG.d.T k2);clear s2 T2 q2 hb2 k2
 try go_simp
 refine hK.O _ _ (HI.O _ H2.b H2.c) ?_;clear hK K
 try simp only[pu]
 iterate 5
  refine pT_ ?_
  try simp only[pu]
 refine eP ?_;go_wp2_with fail;have ap:I w2.drew:=HI.O _ H2.b H2.c;refine fh I (.take 0 (.take 1 (.take 2 (.take 3 (.take 4 (.take 5 (.go 6 .nil))))))) k_ k_ ap ?_
 iterate 6
  refine pT_ ?_
  try simp only[pu]
 refine pD fun K hK=>?_;go_simp;refine(HG.b _ _ (H2.a.drewN 1)).M ?_;rintro e w3 ⟨rfl,s3,k3⟩;have T3:FF w3 px ps ty kv h_ td f9:=FF.B_ (w:=w2.drew) H2.b k3 (ab hpx);have q3:=(k3.block w.1.size (ae ⟨Nat.le_refl _,aP _⟩)).T H2.c;have H3:=kq4 s3 T3 q3 (H2.d.T ((Fo.drewN Y w2 1).T (k3.M fun k hk=>ab hk)));clear s3 T3 q3 k3 ap
 try go_simp
 refine hK.O _ _ (HI.O _ H3.b H3.c) ?_;clear hK K
 try simp only[pu]
 refine eP ?_;go_wp2_with fail;have ar:I w3.drew:=HI.O _ H3.b H3.c;refine fh I (.take 0 (.take 1 (.take 2 (.take 3 (.take 4 (.take 5 (.go 6 .nil))))))) k_ k_ ar ?_
 iterate 6
  refine pT_ ?_
  try simp only[pu]
 refine pD fun K hK=>?_;go_simp;refine(HG.c _ _ (H3.a.drewN 1)).M ?_;rintro e w4 ⟨rfl,s4,k4⟩;have T4:FF w4 px ps ty kv h_ td f9:=FF.B_ (w:=w3.drew) H3.b k4 (ab hpx);have q4:=(k4.block w.1.size (ae ⟨Nat.le_refl _,aP _⟩)).T H3.c;have H4:=kq2 (s4.M (Z:=Y) fun k hk=>ab hk) (H3.d.T ((Fo.drewN Y w3 1).T (k4.M fun k hk=>ab hk)))
 try go_simp
 refine hK.O _ _ (HI.O _ T4 q4) ?_;clear hK K
 try simp only[pu]
 clear s4 k4 ar T4 q4;refine eP ?_;go_wp2_with fail;go_ret;exact⟨rfl,H4.O⟩
structure Kc (w W:World) (px ps:Nat) (ty:TypeId) (kv:Value) (h_ td f9:Nat) (S:St) (Y:Nat->Prop) (b9 ik iv:Nat):Prop where
 t:FF W px ps ty kv h_ td f9
 st:Ig W ps S Y
 k:Fo Y w W
 q:W.1[b9]?=some (Xe ik iv)
 l:w.1.size<=b9
theorem ny{px ps h_ td f9:Nat}(h:Ig w ps S Y)(hi:Fv S)(hT:FF w px ps ty kv h_ td f9)(hpx:Y px)(a b:List UInt8)(hm:nJ S a b){S1:St}(hp:itemsM S a b=some (p,S1))(was:Bool)(tv:List UInt8){R:Nat->Nat->Nat->St->Prop}{R2:Nat->St->Prop}(hme:∀(f:Nat) (v:Value) (w:World),(method (f+1) ty v "loft/backend.insert").run prog w=.ok (fm,v) w)(hen:∀(args:Array Value) (w:World),(callFunc fm args).run prog w=.ok (.enter fm args) w)(hin:∀W Z,Ig W ps S1 Z->p.1<2^64->p.2<2^64->Ct fm #[kv,Xu f9,Id p.1 p.2] W fun e w'=>∃(x ik iv:Nat) (S':St),e=.returned (.tuple #[Xu x,Id ik iv,.bool was,Xi 0])/\Ig w' ps S' Z/\Fo Z W w'/\R x ik iv S')(hgo:∀x ik iv S',R x ik iv S'->∀W Z,Ig W ps S' Z->FF W px ps ty kv h_ td x->Z px->Ct 84 #[PV px,Id ik iv,.bool was] W fun e w'=>∃S3,e=.returned (SV tv)/\Ig w' ps S3 Z/\Fo Z W w'/\R2 x S3):
 Ct 43 #[PV px,eu (a,b)] w fun e w'=>∃(x:Nat) (S3:St),e=.returned (.tuple #[SV tv,.bool was,Xi 0])/\Ig w' ps S3 Y/\Fo (fun k=>Y k/\k≠px) w w'/\FF w' px ps ty kv h_ td x/\R2 x S3:=by
 have a8:(1000<(a.length:Int))=False:=eq_false (by have:=hm.1;omega);have a9:(1000<(b.length:Int))=False:=eq_false (by have:=hm.2.1;omega);have B0:=c_ w (Xk a b);have hn:=kw (hT.a_ B0);have ap:=ER (h.a_ B0) hi (hT.a_ B0) hpx a b hm hp;have hY:=h.yl;have a2:=hT.a_ B0;have a1:=Fo.A_ B0 hY;obtain⟨p1,p2⟩:=p;simp only[eu,Id] at ap hin hgo⊢;have HG:=kq8 hn ap hin hgo hpx hY a2 a1;clear hn ap hin hgo B0 h hi hT hm hp hY a2 a1;go_enter func43,ntmps43;go_wp2_with fail;refine Jc HG.a ?_;go_wp2_with fail;refine HG.b.M ?_;rintro e w1 ⟨rfl,s1,k1,i1,l1,l2⟩;have A2:=c_ w1 (Xe p1 p2);have q2:=heap_alloc_new w1 (Xe p1 p2);have s2:=s1.wide A2;have z2:(w1.alloc (Xe p1 p2)).1.size=w1.1.size+1:=s_
 have K2:=HG.h.T (k1.T (s1.B_ A2));have T2:FF (w1.alloc (Xe p1 p2)) px ps ty kv h_ td f9:=HG.g.B_ (k1.T (s1.B_ A2)) HG.e;have ins:=fun W Z hW=>HG.c W Z hW l1 l2;have a5:w.1.size<=w1.1.size:=by have:=(HG.h.T k1).size;exact this
 rw[z2] at s2;clear s1 k1 i1 A2;go_wp2_with fail;generalize a7:w1.alloc (Xe p1 p2)=w2 at*;generalize a6:w1.1.size=b7 at*;clear a7 a6 w1;have H2:=kq7 T2 s2 K2 q2 ins a5 z2;obtain⟨I,ai,an⟩:=lB (fun w'=>FF w' px ps ty kv h_ td f9) (fun w'=>w'.1[b7]?=some (Xe p1 p2));have ar:=fun x:Fq I=>(ai _ x.ok).1;have a4:=fun x:Fq I=>(ai _ x.ok).2;simp only[FF] at ar;obtain⟨m0,m1,m2,m3,m4⟩:=iK ar;obtain⟨n0,n1⟩:=ft a4;have a0:I w2.drew:=an _ T2 q2;have HI:=If an;clear ai an ar a4 T2 s2 K2 q2 ins a5 z2;refine fh I (.take 0 (.take 1 (.take 2 (.take 3 (.take 4 (.take 5 (.take 6 (.take 7 (.take 8 (.take 9 (.take 10 (.two 11 17 (.take 12 (.take 13 (.take 14 (.take 15 (.take 16 (.go 17 (.go 18 (.go 19 (.go 20 (.go 21 .nil)))))))))) (.go 11 (.take 12 (.take 13 (.take 14 (.take 15 (.take 16 (.go 18 (.go 19 (.go 20 (.go 21 .nil)))))))))))))))))))))) k_ k_ a0 ?_;clear a0
 iterate 11
  refine pT_ ?_
  try simp only[pu]
 refine gL ?h1 ?h2
 case' h1=>
  refine pD fun K hK=>?_;go_simp;refine(H2.e _ _ (H2.b.a_ (aa _ _).drew)).M ?_;rintro e w3 ⟨x,ik,iv,S',rfl,s3,k3,i3⟩;have T3:=FF.B_ (w:=w2.drew) H2.a k3 (ab HG.e);have q3:w3.1[b7]?=some (Xe p1 p2):=(k3.block b7 (ae ⟨Nat.le_refl _,aP _⟩)).T H2.d;have H3:=kq5 T3 q3 s3 (k3.M (Z:=Y) fun k hk=>ab hk) i3;clear T3 q3 s3 k3 i3
  try go_simp
  refine hK.O _ _ (HI.O _ H3.a H3.b) ?_;clear hK K
  try simp only[pu]
  iterate 5
   refine pT_ ?_
   try simp only[pu]
  refine pD fun K hK=>?_;go_simp;have A4:=c_ w3 (.cells #[Xu 0,Xu 0] 104);have TA:=H3.a.a_ A4;have q4:=(A4.block b7 (gl H3.b)).T H3.b;have sA:=((H3.c.M (Z:=Y) fun k hk=>ab hk).wide A4).M (Z:=fun k=>Y k\/k=w3.1.size) (fun k hk=>hk.imp id fun e=>⟨o_,m_⟩);have kA:=(H2.c.T (Fo.drewN Y w2 1)).T (H3.d.T ((H3.c.M (Z:=Y) fun k hk=>ab hk).B_ A4));have qA:=heap_alloc_new w3 (.cells #[Xu 0,Xu 0] 104);have lA:w.1.size<=w3.1.size:=((H2.c.T (Fo.drewN Y w2 1)).T H3.d).size;have iA:=H3.e;have nb:b7≠w3.1.size:=dh (gl H3.b);clear A4 H3;generalize w3.alloc (.cells #[Xu 0,Xu 0] 104)=W at*;generalize w3.1.size=b9 at*
  try go_simp
  refine hK.O _ _ (HI.O _ TA q4) ?_;clear hK K
  try simp only[pu]
  refine pD fun K hK=>?_;go_simp
  try go_simp
  refine hK.O _ _ (HI.O _ TA q4) ?_;clear hK K
  try simp only[pu]
  obtain⟨c0,c1⟩:=Fp qA;obtain⟨f0,f1⟩:=ef qA;have HA:=kq6 TA sA kA qA lA iA;clear TA sA kA qA lA iA;refine pD fun K hK=>?_;go_simp;have q5:((W.setCell (y_ b9) (Xu ik)).setCell (x_ b9 1) (Xu iv)).1[b7]?=some (Xe p1 p2):=(fA nb _ _).T q4;have ad:px≠b9:=by have:=HG.f px HG.e;have:=HA.e;omega
  have qB:=ew HA.d (Xu ik) (Xu iv);have oB:∀k,k≠b9->((W.setCell (y_ b9) (Xu ik)).setCell (x_ b9 1) (Xu iv)).1[k]?=W.1[k]?:=fun k hk=>fA hk _ _;have sB:Ig ((W.setCell (y_ b9) (Xu ik)).setCell (x_ b9 1) (Xu iv)) ps S' Y:=(HA.b.write (ae rfl) HA.d ⟨d_,d_⟩ s_ s_ fun k _ hk=>oB k hk).M fun k hk=>ab hk;have kB:Fo Y w ((W.setCell (y_ b9) (Xu ik)).setCell (x_ b9 1) (Xu iv)):=HA.c.T ⟨rfl,rfl,rfl,s_,fun k hk=>oB k (by have:=HG.f k hk;have:=HA.e;omega)⟩;have P7:Kc w ((W.setCell (y_ b9) (Xu ik)).setCell (x_ b9 1) (Xu iv)) px ps ty kv h_ td f9 S' Y b9 ik iv:=⟨(oB px ad).T HA.a,sB,kB,qB,HA.e⟩;have au:=If HA.f;clear c0 c1 f0 f1 HA qB oB sB kB ad;have H7:=If P7;clear P7;generalize ((W.setCell (y_ b9) (Xu ik)).setCell (x_ b9 1) (Xu iv))=W7 at*
  try go_simp
  refine hK.O _ _ (HI.O _ H7.O.t q5) ?_;clear hK K
  try simp only[pu]
  refine pD fun K hK=>?_;go_simp
  try go_simp
  refine hK.O _ _ (HI.O _ H7.O.t q5) ?_;clear hK K
  try simp only[pu]
  refine pD fun K hK=>?_;go_simp
  try go_simp
  refine hK.O _ _ (HI.O _ H7.O.t q5) ?_;clear hK K
  try simp only[pu]
  refine eP ?_;clear q4 q5 w3 nb
 case' h2=>
  refine pD fun K hK=>?_;go_simp;have A3:=(c_ w2 (.cells #[Xu 0,Xu 0] 104)).drew;have T3:=H2.a.a_ A3;have q3:=(A3.block b7 (gl H2.d)).T H2.d;have qz:(w2.alloc (.cells #[Xu 0,Xu 0] 104)).drew.1[w2.1.size]?=_:=heap_alloc_new w2 (.cells #[Xu 0,Xu 0] 104);have s3:=H2.b.wide A3;have z3:(w2.alloc (.cells #[Xu 0,Xu 0] 104)).drew.1.size=w2.1.size+1:=by show (w2.alloc _).1.size=_;simp
  have k3:=H2.c.T ((H2.b.M (Z:=Y) fun k hk=>ab hk).B_ A3);have nb:b7≠w2.1.size:=by have:=H2.g;omega
  have lz:w.1.size<=w2.1.size:=H2.c.size;rw[z3] at s3;clear A3 z3;generalize (w2.alloc (.cells #[Xu 0,Xu 0] 104)).drew=w3 at*;generalize w2.1.size=b9 at*
  try go_simp
  refine hK.O _ _ (HI.O _ T3 q3) ?_;clear hK K
  try simp only[pu]
  have H3:=kq6 T3 q3 s3 k3 qz lz;clear T3 q3 s3 k3 qz lz;refine pD fun K hK=>?_;go_simp;refine(H2.e _ _ H3.c).M ?_;rintro e W ⟨x,ik,iv,S',rfl,s4,k4,i4⟩;have TA:=FF.B_ (w:=w3) H3.a k4 (ab (ab HG.e));have q4:W.1[b7]?=some (Xe p1 p2):=(k4.block b7 (ab (ae ⟨Nat.le_refl _,aP _⟩))).T H3.b;have sA:=s4.M (Z:=fun k=>Y k\/k=b9) (fun k hk=>hk.elim (fun h=>ab (ab h)) fun e=>ae ⟨o_,o_⟩);have kA:=H3.d.T (k4.M (Z:=Y) fun k hk=>ab (ab hk));have qA:W.1[b9]?=some (.cells #[Xu 0,Xu 0] 104):=(k4.block b9 (ae ⟨Nat.le_refl _,aP _⟩)).T H3.e;have lA:=H3.f;have iA:=i4;clear s4 k4 i4 H3
  try go_simp
  refine hK.O _ _ (HI.O _ TA q4) ?_;clear hK K
  try simp only[pu]
  iterate 5
   refine pT_ ?_
   try simp only[pu]
  refine pD fun K hK=>?_;go_simp
  try go_simp
  refine hK.O _ _ (HI.O _ TA q4) ?_;clear hK K
  try simp only[pu]
  obtain⟨c0,c1⟩:=Fp qA;obtain⟨f0,f1⟩:=ef qA;have HA:=kq6 TA sA kA qA lA iA;clear TA sA kA qA lA iA;refine pD fun K hK=>?_;go_simp;have q5:((W.setCell (y_ b9) (Xu ik)).setCell (x_ b9 1) (Xu iv)).1[b7]?=some (Xe p1 p2):=(fA nb _ _).T q4;have ad:px≠b9:=by have:=HG.f px HG.e;have:=HA.e;omega
  have qB:=ew HA.d (Xu ik) (Xu iv);have oB:∀k,k≠b9->((W.setCell (y_ b9) (Xu ik)).setCell (x_ b9 1) (Xu iv)).1[k]?=W.1[k]?:=fun k hk=>fA hk _ _;have sB:Ig ((W.setCell (y_ b9) (Xu ik)).setCell (x_ b9 1) (Xu iv)) ps S' Y:=(HA.b.write (ae rfl) HA.d ⟨d_,d_⟩ s_ s_ fun k _ hk=>oB k hk).M fun k hk=>ab hk;have kB:Fo Y w ((W.setCell (y_ b9) (Xu ik)).setCell (x_ b9 1) (Xu iv)):=HA.c.T ⟨rfl,rfl,rfl,s_,fun k hk=>oB k (by have:=HG.f k hk;have:=HA.e;omega)⟩;have P7:Kc w ((W.setCell (y_ b9) (Xu ik)).setCell (x_ b9 1) (Xu iv)) px ps ty kv h_ td f9 S' Y b9 ik iv:=⟨(oB px ad).T HA.a,sB,kB,qB,HA.e⟩;have au:=If HA.f;clear c0 c1 f0 f1 HA qB oB sB kB ad;have H7:=If P7;clear P7;generalize ((W.setCell (y_ b9) (Xu ik)).setCell (x_ b9 1) (Xu iv))=W7 at*
  try go_simp
  refine hK.O _ _ (HI.O _ H7.O.t q5) ?_;clear hK K
  try simp only[pu]
  refine pD fun K hK=>?_;go_simp
  try go_simp
  refine hK.O _ _ (HI.O _ H7.O.t q5) ?_;clear hK K
  try simp only[pu]
  refine pD fun K hK=>?_;go_simp
  try go_simp
  refine hK.O _ _ (HI.O _ H7.O.t q5) ?_;clear hK K
  try simp only[pu]
  refine eP ?_;clear q4 q5 w3 nb
 all_goals
  clear m0 m1 m2 m3 m4 n0 n1 HI I;have t7:=H7.O.t;simp only[FF] at t7;obtain⟨c0,c1,c2,c3,c4⟩:=ld t7;obtain⟨f0,f1,f2,f3,f4⟩:=G2 t7;have ad:px≠b9:=by have:=HG.f px HG.e;have:=H7.O.l;omega
  have t8:FF (W7.setCell (x_ px 4) (Xu x)) px ps ty kv h_ td x:=heap_setCell t7;have q8:=(FB (w:=W7) (b:=px) (i:=4) (v:=Xu x) ad.S).T H7.O.q;have s8:Ig (W7.setCell (x_ px 4) (Xu x)) ps S' Y:=H7.O.st.write HG.e t7 ⟨d_,d_⟩ s_ s_ fun k _ hk=>FB hk;have k8:Fo (fun k=>Y k/\k≠px) w (W7.setCell (x_ px 4) (Xu x)):=(H7.O.k.M fun k hk=>hk.1).T ⟨rfl,rfl,rfl,s_,fun k hk=>FB hk.2⟩;obtain⟨e0,e1⟩:=Fp q8;have H8:=kq3 t8 s8 k8;clear t7 t8 s8 k8 ad q8;go_wp2_with fail;refine(HG.d x ik iv S' au.O _ _ H8.b H8.a HG.e).M ?_;rintro e w9 ⟨S3,rfl,s9,k9,r9⟩;have a3:Ig w9 ps S3 Y/\Fo (fun k=>Y k/\k≠px) w w9/\FF w9 px ps ty kv h_ td x/\R2 x S3:=⟨s9,H8.c.T (k9.M fun k hk=>hk.1),FF.B_ H8.a k9 HG.e,r9⟩;have HF:=If a3;clear a3 s9 k9 H8 c0 c1 c2 c3 c4 f0 f1 f2 f3 f4 e0 e1;go_wp2_with fail;go_ret3;exact⟨x,S3,rfl,HF.O⟩
end
section
open Go.RowKit Tryz Go.BigFrame Go.Maps Go.WideMaps Lf Tr
open Go.Shelf
variable{S:St}{Y:Nat->Prop}
structure fD (w0 w:World) (B ps:Nat) (S:St) (Y:Nat->Prop) (v1 v2 u1 u2:Value) (m1 m2:List Nat):Prop where
 own1:FE w B u1 m1
 own2:FE w B u2 m2
 st:Ig w ps S (fun k=>Y k\/(w0.1.size<=k/\k<w.1.size))
 B_:Fo (fun k=>k<w0.1.size/\v1.ownBlock≠some k/\v2.ownBlock≠some k) w0 w
 p1:u1.ownBlock=v1.ownBlock\/∃g,u1.ownBlock=some g/\w0.1.size<=g
 p2:u2.ownBlock=v2.ownBlock\/∃g,u2.ownBlock=some g/\w0.1.size<=g
 apart:∀g,u1.ownBlock=some g->u2.ownBlock≠some g
 y1:∀g,v1.ownBlock=some g->Y g
 y2:∀g,v2.ownBlock=some g->Y g
theorem fD.swap{w0 w:World}{B ps:Nat}{v1 v2 u1 u2:Value}{m1 m2:List Nat}(h:fD w0 w B ps S Y v1 v2 u1 u2 m1 m2):fD w0 w B ps S Y v2 v1 u2 u1 m2 m1:=
 ⟨h.own2,h.own1,h.st,h.B_.M fun _ hk=>⟨hk.1,hk.2.2,hk.2.1⟩,h.p2,h.p1,fun g h2 h1=>h.apart g h1 h2,h.y2,h.y1⟩
theorem fD.start{w:World}{B ps:Nat}{v1 v2:Value}{m1 m2:List Nat}(h:Ig w ps S Y)(o1:FE w B v1 m1)(o2:FE w B v2 m2)(ap:∀g,v1.ownBlock=some g->v2.ownBlock≠some g)(y1:∀g,v1.ownBlock=some g->Y g)(y2:∀g,v2.ownBlock=some g->Y g):fD w w B ps S Y v1 v2 v1 v2 m1 m2:=
 ⟨o1,o2,h.M fun _ hk=>hk.elim id fun h=>absurd h.1 (Nat.not_le.2 h.2),Fo.refl _ _,ab rfl,ab rfl,ap,y1,y2⟩
theorem fD.a_{w0 w w':World}{B ps:Nat}{v1 v2 u1 u2:Value}{m1 m2:List Nat}(h:fD w0 w B ps S Y v1 v2 u1 u2 m1 m2)(hb:D_ w w'):fD w0 w' B ps S Y v1 v2 u1 u2 m1 m2:=
 ⟨h.own1.at fun x e=>hb.block x (h.own1.block e).2.1,h.own2.at fun x e=>hb.block x (h.own2.block e).2.1,
  (h.st.wide hb).M fun k hk=>by
   rcases hk with hk | hk
   ·exact ab (ab hk)
   ·by_cases hw:k<w.1.size
    ·exact ab (ae ⟨hk.1,hw⟩)
    ·exact ae ⟨o_,hk.2⟩,
  h.B_.T (Fo.A_ hb fun k hk=>by have:=h.B_.size;omega),h.p1,h.p2,h.apart,h.y1,h.y2⟩
theorem fD.ins{w0 w:World}{B ps:Nat}{v1 v2 u1 u2:Value}{m1 m2:List Nat}(h:fD w0 w B ps S Y v1 v2 u1 u2 m1 m2)(htab:fy<B)(hB:B<=w.1.size)(hl:m1.length<=1000){i:Nat}(hi:i<=m1.length){x vb:Nat}(hx:w.1[vb]?=some (.cells #[Xu x] 61 (0,0)))(hne:u1.ownBlock≠some vb):
 Ct 215 #[u1,Xi i,.slice (some (y_ vb)) 1 1] w fun e w'=>∃ad,e=.returned ad/\fD w0 w' B ps S Y v1 v2 ad u2 (m1.take i++x::m1.drop i) m2/\(∀k,k<w.1.size->u1.ownBlock≠some k->w'.1[k]?=w.1[k]?):=by
 refine(uT h.st h.own1 (fun g hg=>?_) htab hl hi hx hne hB).M ?_
 ·rcases h.p1 with e | ⟨g',e,ai⟩
  ·exact ab (h.y1 g (by grind))
  ·rw[e] at hg
   injection hg with hg
   subst hg;exact ae ⟨ai,(h.own1.block e).2.1⟩
 ·rintro e w' ⟨ad,rfl,I⟩;have an:=h.B_.size;have ap:=I.grown.size;refine⟨ad,rfl,⟨I.own,I.row h.own2 fun g hg e=>h.apart g e hg,I.st.M fun k hk=>?_,h.B_.T (I.B_ fun k hk=>⟨o_,fun e=>?_⟩),?_,h.p2,fun g hg e=>?_,h.y1,h.y2⟩,fun k hk hn=>I.v_ hk hn⟩
  ·grind
  ·rcases h.p1 with e1 | ⟨g',e1,ai⟩
   ·exact hk.2.1 (by rw[<-e1];exact e)
   grind
  ·rcases I.at' with e1 | ⟨g,e1,hg⟩
   ·rw[e1];exact h.p1
   grind
  ·rcases I.at' with e1 | ⟨g',e1,ai⟩
   ·exact h.apart g (by grind) e
   ·rw[e1] at hg
    injection hg with hg
    have:=(h.own2.block e).2.1;omega
def JB(bt bl:Nat):Value:=.func (.func 214) #[] #[PV bl,PV bt]
def iQ:Option (It×Nat)->Array Value
 | none=>#[.bool false,Xu 0,Xu 0,Xu 0]
 | some (m,g)=>#[.bool true,Xu m.kh,Xu m.vh,Xu g]
def ky(r:Option (It×Nat)):Value:=.agg (iQ r)
def j4(d:Nat):Prop:=∀{w:World} {ps:Nat} {S:St} {o:Nat->Nat} {Z:Nat->Prop} {bt bl D t:Nat} {v:Value} {L:List Nat} {x:Bt (d+1)} {e:It} (i:Nat),
 Ig w ps S Z->Bt.Walk S o t x->(Bt.j_ x).Nodup->i+d<40->gz w bt bl D ps t v L->lG S t L->(∀h∈L,h∉Bt.j_ x)->Z bl->Z bt->(∀b,v.ownBlock=some b->Z b)->L.length<=1000->
 (∀a∈Bt.its x,a.k≠e.k)->Bt.ItLt (Bt.its x)->e.kh<2^64->e.vh<2^64->Bt.trail (Bt.G0 t e.k x)<=L.length->
 Ct 182 #[FH ps t,Xu (Bt.hd x:Nat),SV e.k,Id e.kh e.vh,JB bt bl,Xi i] w fun en w'=>∃(r:Option (It×Nat)) (S':St) (v':Value) (L' U:List Nat),en=.returned (ky r)/\L=L'++U/\Bt.Put S S' o t x e U r/\Ig w' ps S' Z/\Fo (fun k=>Z k/\k≠bl) w w'/\gz w' bt bl D ps t v' L'/\v'.ownBlock=v.ownBlock/\U.length=Bt.trail (Bt.G0 t e.k x)/\r.isSome=(Bt.G0 t e.k x).all id
end
section
open Lf
namespace Tr
variable{S:St}{d:It}{o:Nat->Nat}{t:Tr}
def gV(l:List (List UInt8×List UInt8))(a b:List UInt8):List (List UInt8×List UInt8):=
 l.filter (fun p=>decide (Fu p.1 a<0))++(a,b)::l.filter (fun p=>decide (0<Fu p.1 a))
theorem AQ{a:List UInt8}{L M:List (List UInt8×List UInt8)}(x:List (List UInt8×List UInt8))(hx:∀p∈x,p.1=a)(hL:∀p∈L,Fu p.1 a<0)(hM:∀p∈M,Fu a p.1<0):
 (L++x++M).filter (fun p=>decide (Fu p.1 a<0))=L/\(L++x++M).filter (fun p=>decide (0<Fu p.1 a))=M:=by
 have h1:L.filter (fun p=>decide (Fu p.1 a<0))=L:=dG.2 fun p hp=>by simpa using hL p hp
 have h2:M.filter (fun p=>decide (0<Fu p.1 a))=M:=dG.2 fun p hp=>by have:=hM p hp;rw[ie] at this;simp;omega
 have h3:L.filter (fun p=>decide (0<Fu p.1 a))=[]:=cV.2 fun p hp=>by have:=hL p hp;simp;omega
 have h4:M.filter (fun p=>decide (Fu p.1 a<0))=[]:=cV.2 fun p hp=>by have:=hM p hp;rw[ie] at this;simp;omega
 have h5:x.filter (fun p=>decide (Fu p.1 a<0))=[]:=cV.2 fun p hp=>by rw[hx p hp,fX];simp
 have h6:x.filter (fun p=>decide (0<Fu p.1 a))=[]:=cV.2 fun p hp=>by rw[hx p hp,fX];simp
 grind
theorem rO(a b:List It):F5 (a++b)=F5 a++F5 b:=by unfold F5;simp
theorem oO{a b:List UInt8}{tl tr mid:List It}(hd:d.k=a/\d.v=b)(hm:∀x∈mid,x.k=a)(h1:∀x∈tl,Fu x.k a<0)(h2:∀x∈tr,Fu a x.k<0):
 F5 (tl++d::tr)=gV (F5 (tl++mid++tr)) a b:=by
 obtain⟨f1,f2⟩:=AQ (a:=a) (L:=F5 tl) (M:=F5 tr) (F5 mid) (fun p hp=>by obtain⟨x,hx,rfl⟩:=az.1 hp;exact hm x hx) (fun p hp=>by obtain⟨x,hx,rfl⟩:=az.1 hp;exact h1 x hx) (fun p hp=>by obtain⟨x,hx,rfl⟩:=az.1 hp;exact h2 x hx);grind [gV,rO,F5]
theorem gu.frame{S S':St}(h:gu S d)(h1:l_ S' d.kh=l_ S d.kh)(h2:l_ S' d.vh=l_ S d.vh):gu S' d:=⟨h1.T h.k,h2.T h.v,h.lk,h.lv⟩
theorem fC.some{Ok:Tr->Prop}(h:fC Ok S o t):∀y∈eB t.its,l_ S y≠none:=by
 intro y hy;obtain⟨d,hd,e⟩:=gU.1 hy;have hb:=h.G7 d hd
 rcases e with rfl | rfl | rfl
 ·obtain⟨n,hn⟩:=h.at'.rec d.h (az.2 ⟨d,hd,rfl⟩)
  grind
 ·rw[hb.k]
  simp
 ·rw[hb.v]
  simp
theorem fC.frame{Ok:Tr->Prop}{S S':St}{o o':Nat->Nat}(h:fC Ok S o t)(hf:Fw S' o')(hs:∀y∈eB t.its,l_ S' y=l_ S y):fC Ok S' o' t where
 fit:=hf
 at':=h.at'.frame fun y hy=>by
  obtain⟨d,hd,rfl⟩:=az.1 hy;exact hs _ (gU.2 ⟨d,hd,ab rfl⟩)
 ok:=h.ok
 nd:=h.nd
 G7 d hd:=(h.G7 d hd).frame (hs _ (gU.2 ⟨d,hd,ae (ab rfl)⟩)) (hs _ (gU.2 ⟨d,hd,ae (ae rfl)⟩))
 G6:=h.G6
theorem xF(hf:Fw S o){a b:List UInt8}(ha:a.length<=1000)(hb:b.length<=1000)(hr:fc S 7 3):
 ∃ka vb hn S2 S3 o3,itemsM S a b=some ((ka,vb),S2)/\nV S2 ⟨ka,vb,0,0,0,1⟩=((hn,0),S3)/\pJ S a b/\Fw S3 o3/\l_ S ka=none/\l_ S vb=none/\l_ S hn=none/\ka≠vb/\ka≠hn/\vb≠hn/\
  l_ S3 ka=some (FK a)/\l_ S3 vb=some (FK b)/\l_ S3 hn=some (eM ⟨ka,vb,0,0,0,1⟩)/\(∀h',h'≠ka->h'≠vb->h'≠hn->l_ S3 h'=l_ S h')/\ej S S3 7 3:=by
 obtain⟨ka,S1,o1,e1,f1,n1,l1,q1,g1,k1⟩:=oL hf ha (hr.M o_ o_);obtain⟨vb,S2,o2,e2,f2,n2,l2,q2,g2,k2⟩:=oL f1 hb (fc.grew (hr.M (p':=3+3) (q':=1+1) o_ o_) g1);have ad:ka≠vb:=by rintro rfl;rw[l1] at n2;cases n2
 have r2:fc S2 1 1:=fc.grew (hr.M (p':=(3+3)+1) (q':=(1+1)+1) o_ o_) (g1.T g2);have ar:ji ⟨ka,vb,0,0,0,1⟩:=⟨(fL f1 l1).2.1,(fL f2 l2).2.1,s_,s_,s_,s_⟩;obtain⟨hn,S3,o3,e3,f3,n3,l3,q3,g3,k3⟩:=Cq f2 ar r2;have ai:ka≠hn:=by rintro rfl;rw[q2 _ ad,l1] at n3;cases n3
 have an:vb≠hn:=by rintro rfl;rw[l2] at n3;cases n3
 have ap:itemsM S a b=some ((ka,vb),S2):=by
  unfold itemsM;rw[e1];simp only;rw[e2];simp
 refine⟨ka,vb,hn,S2,S3,o3,ap,e3,⟨⟨ha,hb,k1,by rw[e1];exact k2⟩,fun p S4 h4=>?_⟩,f3,n1,(q1 _ ad.S).S.T n2,((q1 _ ai.S).S.T (q2 _ an.S).S).T n3,ad,ai,an,(q3 _ ai).T ((q2 _ ad).T l1),(q3 _ an).T l2,l3,fun h' w1 w2 w3=>(q3 h' w3).T ((q2 h' w2).T (q1 h' w1)),((g1.T g2).T g3).M o_ o_⟩;grind
theorem ze{Ok:Tr->Prop}{S S3 S5:St}{o o5:Nat->Nat}{t u tl tr:Tr}{mid:List It}(h:fC Ok S o t)(hi:t.its=tl.its++mid++tr.its)(iu:u.its=tl.its++d::tr.its)
 (hd:∀y,y=d.h\/y=d.kh\/y=d.vh->l_ S y=none) (hdn:d.kh≠d.vh/\d.kh≠d.h/\d.vh≠d.h) (f5:Fw S5 o5) (au:At S5 u) (ou:Ok u)
 (h3:∀y∈eB t.its,l_ S3 y=l_ S y) (hb3:gu S3 d) (h5:∀y,y∉t.hs->y≠d.h->l_ S5 y=l_ S3 y)
 (h1:∀x∈tl.its,Fu x.k d.k<0) (h2:∀x∈tr.its,Fu d.k x.k<0):fC Ok S5 o5 u:=by
 have ar:∀x,x∈tl.its\/x∈tr.its->x∈t.its:=fun x hx=>by
  grind
 have ai:∀y∈eB t.its,y≠d.h/\y≠d.kh/\y≠d.vh:=fun y hy=>by
  have:=h.some y hy;refine⟨?_,?_,?_⟩<;>rintro rfl
  ·exact this (hd _ (ab rfl))
  ·exact this (hd _ (ae (ab rfl)))
  grind
 have ad:=h.nd;have e:eB t.its=eB tl.its++(eB mid++eB tr.its):=by rw[hi,iX,iX,bp]
 rw[e] at ad ai;obtain⟨n1,n2,n3⟩:=aC.1 ad;obtain⟨n4,n5,n6⟩:=aC.1 n2;refine⟨f5,au,ou,?_,?_,?_⟩
 ·rw[iu,iX,mx];grind
 ·intro x hx;rw[iu] at hx;have hold:x∈t.its->gu S5 x:=fun hm=>by
   have hs:=(h.hs).2 x hm;have hk:x.kh∈eB t.its:=gU.2 ⟨x,hm,ae (ab rfl)⟩;have hv:x.vh∈eB t.its:=gU.2 ⟨x,hm,ae (ae rfl)⟩;refine(h.G7 x hm).frame ((h5 _ hs.1 ?_).T (h3 _ hk)) ((h5 _ hs.2 ?_).T (h3 _ hv))
   ·exact(ai _ (by rw[<-e];exact hk)).1
   grind
  rcases ay.1 hx with hx | hx
  ·grind
  ·rcases aj.1 hx with rfl | hx
   ·have an:∀y,y=x.h\/y=x.kh\/y=x.vh->y∉t.hs:=fun y hy hm=>by
     obtain⟨z,hz,rfl⟩:=az.1 hm;exact h.some _ (gU.2 ⟨z,hz,ab rfl⟩) (hd _ hy)
    exact hb3.frame (h5 _ (an _ (ae (ab rfl))) hdn.2.1) (h5 _ (an _ (ae (ae rfl))) hdn.2.2)
   grind
 ·have ap:=h.G6;rw[hi] at ap;obtain⟨s1,s2,s3⟩:=bw.1 ap;obtain⟨s4,s5,s6⟩:=bw.1 s1;rw[iu];refine bw.2 ⟨s4,bi.2 ⟨fun y hy=>h2 y hy,s2⟩,fun x hx y hy=>?_⟩;rcases aj.1 hy with rfl | hy
  ·exact h1 x hx
  grind
theorem uW{jn:Jn}{Ok:Tr->Prop}(J:kV jn Ok){S S3:St}{o o3:Nat->Nat}(h:fC Ok S o t)(hc:t.its.length<98)(f3:Fw S3 o3)(ha:d.k.length<=1000)(hv:d.v.length<=1000)
 (hd:∀y,y=d.h\/y=d.kh\/y=d.vh->l_ S y=none) (hdn:d.kh≠d.vh/\d.kh≠d.h/\d.vh≠d.h) (hk:l_ S3 d.kh=some (FK d.k)) (hvv:l_ S3 d.vh=some (FK d.v)) {n0:Nd} (hn:l_ S3 d.h=some (eM n0)) (hn1:n0.key=d.kh) (hn2:n0.val=d.vh)
 (h3:∀y∈eB t.its,l_ S3 y=l_ S y):
 ∃u old S5 tl tr mid,insertOkM jn S3 t.f9 d.h=some ((u.f9,old),S5)/\fC Ok S5 o3 u/\t.its=tl++mid++tr/\u.its=tl++d::tr/\(∀x∈tl,Fu x.k d.k<0)/\(∀x∈tr,Fu d.k x.k<0)/\ej S3 S5 0 0/\
  (∀y,y∉t.hs->y≠d.h->l_ S5 y=l_ S3 y)/\((old=0/\mid=[])\/∃(x:It) (n1:Nd),mid=[x]/\old=x.h/\x.k=d.k/\l_ S5 x.h=some (eM n1)/\n1.key=x.kh/\n1.val=x.vh):=by
 have h':=h.frame f3 h3;have ai:=h.hs;have ad:d.h∉t.hs:=fun hm=>by
  obtain⟨z,hz,e⟩:=az.1 hm;grind [gU]
 have ap:=gw f3 hn;have bb:=(fL f3 hn).1;obtain⟨tl,m,tr,S4,e4,f4,al,ar,a9,a',o4,g4,hm,a0,au⟩:=sn J d.k 200 f3 h'.at' h'.ok ai.1 (fun x hx=>⟨h'.G7 x hx,(ai.2 x hx).1⟩) h'.G6 o_ o_;have a5:l_ S4 d.h=some (eM n0):=(o4 _ ad).T hn;obtain⟨mid,a1,a3⟩:∃mid:List It,t.its=tl.its++mid++tr.its/\((m=0/\mid=[])\/∃(x:It) (n1:Nd),mid=[x]/\m=x.h/\x.k=d.k/\l_ S4 x.h=some (eM n1)/\n1.key=x.kh/\n1.val=x.vh):=by
  grind
 have a7:t.hs=tl.hs++(mid.map (·.h))++tr.hs:=by unfold Tr.hs;grind
 have a2:=ai.1;rw[a7] at a2 ad;obtain⟨n1,n2,n3⟩:=aC.1 a2;obtain⟨n4,n5,n6⟩:=aC.1 n1;simp only[ay,not_or] at ad;have a6:(tl.hs++d.h::tr.hs).Nodup:=aC.2 ⟨n4,aG.2 ⟨ad.2,n2⟩,fun x hx y hy q=>by
  grind⟩
 have a4:tl.its.length+tr.its.length<99:=by grind
 obtain⟨u,S5,e5,D5,ba,iu⟩:=J.join f4 al ar a9 a' a5 hn1 hn2 a6 a4;have an:∀y,y∉t.hs->y≠d.h->l_ S5 y=l_ S3 y:=fun y hy hy2=>by
  refine(D5.v_ y fun hm=>?_).T (o4 y hy);grind
 refine⟨u,m,S5,tl.its,tr.its,mid,?_,?_,a1,iu,a0,au,g4.T D5.grew,an,?_⟩
 ·unfold insertOkM;rw[ap];simp only;rw[hn1,jt f3 ha hk];rw[if_neg (by
   have:isT S3 d.h=true:=by unfold isT;rw[ap];simp
   rw[h'.at'.isT f3,this];simp;omega)]
  grind [jq]
 ·exact ze h a1 iu hd hdn D5.fit D5.at' ba h3 ⟨hk,hvv,ha,hv⟩ an a0 au
 ·rcases a3 with⟨e0,e⟩ | ⟨x,a8,ex,e0,ek,q1,q2,q3⟩
  ·grind
  ·refine ae ⟨x,a8,ex,e0,ek,(D5.v_ _ fun hm=>?_).T q1,q2,q3⟩;grind
def tm(S S':St)(l:List It):Prop:=∀y,y∉eB l->l_ S y≠none->l_ S' y=l_ S y
theorem DI{jn:Jn}{Ok:Tr->Prop}(J:kV jn Ok)(h:fC Ok S o t)(hc:t.its.length<98){a b:List UInt8}(ha:a.length<=1000)(hb:b.length<=1000)(hr:fc S 7 3)(hno:∀d∈t.its,d.k≠a):
 ∃u S' o',pJ S a b/\treePutM jn S t.f9 a b=some (u.f9,S')/\fC Ok S' o' u/\F5 u.its=gV (F5 t.its) a b/\u.its.length=t.its.length+1/\ej S S' 7 3/\tm S S' t.its/\∀y∈eB u.its,y∈eB t.its\/l_ S y=none:=by
 obtain⟨ka,vb,hn,S2,S3,o3,a0,a2,a3,f3,r1,r2,r3,d1,d2,d3,l1,l2,l3,q3,g3⟩:=xF h.fit ha hb hr;have an:∀y,l_ S y≠none->l_ S3 y=l_ S y:=fun y hy=>q3 y (by rintro rfl;exact hy r1) (by rintro rfl;exact hy r2) (by rintro rfl;exact hy r3);obtain⟨u,a4,S5,tl,tr,mid,e5,B5,ai,iu,a1,au,g5,ar,ap⟩:=uW J (d:=⟨hn,ka,vb,a,b⟩) h hc f3 ha hb (by rintro y (rfl | rfl | rfl)<;>assumption) ⟨d1,d2,d3⟩ l1 l2 l3 rfl rfl (fun y hy=>an y (h.some y hy));have ad:a4=0/\mid=[]:=by
  rcases ap with q | ⟨x,n1,ex,_,ek,_⟩
  ·exact q
  ·exact absurd ek (hno x (by rw[ai,ex];simp))
 refine⟨u,S5,o3,a3,?_,B5,?_,?_,(g3.T g5).M o_ o_,fun y hy hs=>(ar y (fun hm=>?_) ?_).T (an y hs),fun y hy=>?_⟩
 ·unfold treePutM;rw[a0];simp only;unfold binInsM;rw[a2];simp only;rw[if_neg s_,e5];simp only;rw[if_pos ad.1]
 ·rw[iu,ai];exact oO ⟨rfl,rfl⟩ (fun x hx=>by rw[ad.2] at hx;cases hx) a1 au
 ·rw[iu,ai,ad.2]
  simp;omega
 ·obtain⟨z,hz,rfl⟩:=az.1 hm;exact hy (gU.2 ⟨z,hz,ab rfl⟩)
 ·rintro rfl;exact hs r3
 grind [iX,mx]
theorem DJ{jn:Jn}{Ok:Tr->Prop}(J:kV jn Ok)(h:fC Ok S o t)(hc:t.its.length<98){a b:List UInt8}(ha:a.length<=1000)(hb:b.length<=1000)(hr:fc S 7 3){x:It}(hx:x∈t.its)(hxk:x.k=a):
 ∃u S6 S8 o',pJ S a b/\treeRepM jn S t.f9 a b=some ((u.f9,x.kh,x.vh),S6)/\Fw S6 o'/\fz S6 x.vh=(x.v,0)/\Fv (S6.drop x.kh).2/\S8=((S6.drop x.kh).2.drop x.vh).2/\fC Ok S8 o' u/\F5 u.its=gV (F5 t.its) a b/\u.its.length=t.its.length/\ej S S8 7 3/\tm S S8 t.its/\∀y∈eB u.its,y∈eB t.its\/l_ S y=none:=by
 obtain⟨ka,vb,hn,S2,S3,o3,a',bb,bc,f3,r1,r2,r3,d1,d2,d3,l1,l2,l3,q3,g3⟩:=xF h.fit ha hb hr;have an:∀y,l_ S y≠none->l_ S3 y=l_ S y:=fun y hy=>q3 y (by rintro rfl;exact hy r1) (by rintro rfl;exact hy r2) (by rintro rfl;exact hy r3);obtain⟨u,bf,S5,tl,tr,mid,e5,B5,ad,iu,a7,a4,g5,ap,a9⟩:=uW J (d:=⟨hn,ka,vb,a,b⟩) h hc f3 ha hb (by rintro y (rfl | rfl | rfl)<;>assumption) ⟨d1,d2,d3⟩ l1 l2 l3 rfl rfl (fun y hy=>an y (h.some y hy));have ba:∃n1:Nd,mid=[x]/\bf=x.h/\l_ S5 x.h=some (eM n1)/\n1.key=x.kh/\n1.val=x.vh:=by
  have ar:∀z,(z∈tl\/z∈tr)->z≠x:=by
   rintro z hz rfl
   rcases hz with hz | hz
   ·have:=a7 z hz;simp only[hxk,fX] at this;omega
   ·have:=a4 z hz;simp only[hxk,fX] at this;omega
  rcases a9 with⟨_,q⟩ | ⟨z,n1,ez,eo,_,e1,e2,e3⟩
  ·rw[ad,q] at hx;simp only[bI,ay] at hx;exact absurd rfl (ar x hx)
  ·have:z=x:=by
    rw[ad,ez] at hx;simp only[ay,aj,dE,or_false] at hx
    rcases hx with (hx | hx) | hx
    ·exact absurd rfl (ar x (ab hx))
    ·exact hx.S
    ·exact absurd rfl (ar x (ae hx))
   subst this;exact⟨n1,ez,eo,e1,e2,e3⟩
 obtain⟨n1,em,eo,x1,x2,x3⟩:=ba;have au:=h.G7 x hx;have bd:x.h∈eB t.its:=gU.2 ⟨x,hx,ab rfl⟩;have a0:x.kh∈eB t.its:=gU.2 ⟨x,hx,ae (ab rfl)⟩;have a1:x.vh∈eB t.its:=gU.2 ⟨x,hx,ae (ae rfl)⟩;have a8:=h.nd;have a3:eB t.its=eB tl++([x.h,x.kh,x.vh]++eB tr):=by rw[ad,em,iX,iX,bp];rfl
 rw[a3] at a8;have ai:x.h∉eB u.its/\x.kh∉eB u.its/\x.vh∉eB u.its/\x.kh≠x.h/\x.vh≠x.h/\x.kh≠x.vh:=by
  obtain⟨p1,p2,p3⟩:=aC.1 a8;obtain⟨p4,p5,p6⟩:=aC.1 p2;have hw:∀y∈ [x.h,x.kh,x.vh],y∉eB u.its:=fun y hy hm=>by
   rw[iu,iX,mx] at hm;have a2:l_ S y≠none:=h.some y (by rw[a3];simp only[ay];exact ae (ab hy))
   rcases ay.1 hm with hm | hm
   ·exact p3 y hm y (by simp only[ay];exact ab hy) rfl
   ·simp only[aj] at hm
    rcases hm with hm | hm | hm | hm
    ·exact a2 (hm▸r3)
    ·exact a2 (hm▸r1)
    ·exact a2 (hm▸r2)
    ·exact p6 y hy y hm rfl
  simp only[aG,aj,dE,or_false,not_or] at p4;exact⟨hw _ s_,hw _ s_,hw _ s_,fun q=>p4.1.1 q.S,fun q=>p4.1.2 q.S,p4.2.1⟩
 have a6:x.kh∉t.hs/\x.vh∉t.hs:=h.hs.2 x hx;have a5:x.kh≠hn/\x.vh≠hn:=⟨fun q=>h.some _ a0 (q▸r3),fun q=>h.some _ a1 (q▸r3)⟩;have k5:l_ S5 x.kh=some (FK x.k):=(ap _ a6.1 a5.1).T ((an _ (h.some _ a0)).T au.k);have v5:l_ S5 x.vh=some (FK x.v):=(ap _ a6.2 a5.2).T ((an _ (h.some _ a1)).T au.v);obtain⟨S6,e6,f6,m6,o6,g6⟩:=AH B5.fit x1;have v6:=(o6 _ ai.2.2.2.2.1).T v5;obtain⟨S7,e7,f7,m7,o7,g7⟩:=mQ f6 ((o6 _ ai.2.2.2.1).T k5);obtain⟨S8,e8,f8,m8,o8,g8⟩:=mQ f7 ((o7 _ ai.2.2.2.2.2.S).T v6);refine⟨u,S6,S8,o3,bc,?_,f6,jt f6 au.lv v6,by rw[e7];exact f7.inv,by rw[e7,e8],B5.frame f8 (fun y hy=>?_),?_,?_,((((g3.T g5).T g6).T g7).T g8).M o_ o_,fun y hy hs=>?_,fun y hy=>?_⟩
 ·unfold treeRepM;rw[a'];simp only;unfold binRepM;rw[bb];simp only;rw[if_neg s_,e5];simp only;rw[eo,e6];simp only;rw[gw B5.fit x1,x2,x3]
 ·have w1:y≠x.h:=fun q=>ai.1 (q▸hy);have w2:y≠x.kh:=fun q=>ai.2.1 (q▸hy);have w3:y≠x.vh:=fun q=>ai.2.2.1 (q▸hy);exact(o8 y w3).T ((o7 y w2).T (o6 y w1))
 ·rw[iu,ad];exact oO ⟨rfl,rfl⟩ (fun z hz=>by rw[em] at hz;simp only[aj,dE,or_false] at hz;rw[hz];exact hxk) a7 a4
 ·rw[iu,ad,em]
  simp
 ·have w1:y≠x.h:=fun q=>hy (q▸bd);have w2:y≠x.kh:=fun q=>hy (q▸a0);have w3:y≠x.vh:=fun q=>hy (q▸a1);refine(o8 y w3).T ((o7 y w2).T ((o6 y w1).T ((ap y (fun hm=>?_) ?_).T (an y hs))))
  ·obtain⟨z,hz,rfl⟩:=az.1 hm;exact hy (gU.2 ⟨z,hz,ab rfl⟩)
  ·rintro rfl;exact hs r3
 ·rw[iu,iX,mx] at hy;rw[ad,iX,iX];simp only[ay,aj] at hy⊢
  rcases hy with q | rfl | rfl | rfl | q
  ·exact ab (ab (ab q))
  ·exact ae r3
  ·exact ae r1
  ·exact ae r2
  ·exact ab (ae q)
end Tr
