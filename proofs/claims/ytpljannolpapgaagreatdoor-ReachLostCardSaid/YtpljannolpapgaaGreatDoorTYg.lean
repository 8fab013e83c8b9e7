/- Binary trees checked: walk.Check of a right tree: the walk. -/
import Derived.Test.YtpljannolpapgaaGreatDoorTXu
set_option maxRecDepth 100000
set_option maxHeartbeats 3200000
namespace Go.Proofs.YtpljannolpapgaaGreatDoor
open Go.RowKit Tryz Go.BigFrame Go.Maps Go.WideMaps Lf Tr
variable{S:St}{Y:Nat->Prop}{o:Nat->Nat}{ps:Nat}{t:Tr}{w:World}
attribute [local go_sem] Oper.semAt_some
def wa(w2:World)(n:Nd)(h:Nat):World:=((((((w2.alloc (Xb n.key n.val n.left n.right n.mark n.size)).alloc (.map #[] 0)).alloc (Xf h)).alloc (.cells #[.map (some (w2.1.size+1))] 123)).alloc (.cells #[.slice (some (y_ (w2.1.size+1+1))) 1 1] 59)).alloc (.cells #[.string ⟨#[]⟩] 9)).alloc (.cells #[.bool true] 4)
theorem JY(w:World)(o:Obj)(k:Nat):(w.alloc o).1[k]?=if k=w.1.size then some o else w.1[k]?:=by
 show (w.1.push o)[k]?=_
 rw[Array.getElem?_push]
theorem Mp{w w2:World}(n:Nd)(h:Nat)(hb:D_ w w2)(hz:w.1.size+2<=w2.1.size)(cs:w2.1[w.1.size]?=some (Xg ps))(ce:w2.1[w.1.size+1]?=some (.cells #[Xi 0] 27)):
 mz w ps (w2.1.size+1) (w2.1.size+1+1+1) (w2.1.size+1+1+1+1) (w2.1.size+1+1+1+1+1) (w2.1.size+1+1+1+1+1+1) (w2.1.size+7) (fun _=>False) [] [h] [] true (wa w2 n h):=by
 have hs:(wa w2 n h).1.size=w2.1.size+7:=by unfold wa;simp
 have ai:D_ w (wa w2 n h):=by
  unfold wa;refine((((((hb.alloc hb.size _).alloc ?_ _).alloc ?_ _).alloc ?_ _).alloc ?_ _).alloc ?_ _).alloc ?_ _<;>simp<;>omega
 have ad:∀k,(wa w2 n h).1[k]?=if k=w2.1.size+6 then some (.cells #[.bool true] 4) else if k=w2.1.size+5 then some (.cells #[.string ⟨#[]⟩] 9) else if k=w2.1.size+4 then some (.cells #[.slice (some (y_ (w2.1.size+1+1))) 1 1] 59) else if k=w2.1.size+3 then some (.cells #[.map (some (w2.1.size+1))] 123) else if k=w2.1.size+2 then some (Xf h) else if k=w2.1.size+1 then some (.map #[] 0) else(w2.alloc (Xb n.key n.val n.left n.right n.mark n.size)).1[k]?:=fun k=>by
  unfold wa;simp only[JY,World.size_alloc]
 have lo:∀k,k<w2.1.size->(wa w2 n h).1[k]?=w2.1[k]?:=fun k hk=>by
  rw[ad k,if_neg o_,if_neg o_,if_neg o_,if_neg o_,if_neg o_,if_neg o_,JY,if_neg o_]
 refine⟨o_,ai,(lo _ o_).T cs,(lo _ o_).T ce,?_,⟨some (y_ (w2.1.size+1+1)),1,?_,⟨by simp[hV],.inr ⟨w2.1.size+1+1,1,#[Xu h],rfl,o_,?_,Nat.le_refl _,d_,rfl,rfl⟩⟩,fun _ _ hx=>hx⟩,?_,?_,?_,fun k hk=>hk.elim⟩
 ·rw[ad]
  simp
 ·rw[ad]
  simp
 ·rw[ad]
  simp
 ·rw[ad]
  simp[SV]
 ·rw[ad]
  simp
 ·have hm:(wa w2 n h).1[w2.1.size+1]?=some (.map #[] 0):=by rw[ad];simp
  have:=mq.made (w2.alloc (Xb n.key n.val n.left n.right n.mark n.size));rw[World.size_alloc] at this;refine this.kept (hm.T ?_);rw[JY,if_pos s_]
def Lk(ps h b z:Nat)(nn:Nd)(x:It×Nd)(bn:Nat):Array Value:=#[PV ps,Xu h,PV b,undef,PV (b+1),Xi 0,Xi 7,PV z,Xi 0,PV (z+1+1+1),PV (z+1+1+1+1),PV (z+1+1+1+1+1),PV (z+1+1+1+1+1+1),Xu x.1.h,PV bn,undef,undef,undef,undef,undef,undef,undef,undef,.tuple #[Xi 0,Xi 7],PV ps,.tuple #[Xi 0,Xi 7],Xi 0,Xi 7,Xi 7,.bool false,Xu h,.bool false,.tuple #[.agg #[Xu nn.key,Xu nn.val,Xu nn.left,Xu nn.right,Xu nn.mark,Xu nn.size],Xi 0],PV ps,Xu h,.tuple #[.agg #[Xu nn.key,Xu nn.val,Xu nn.left,Xu nn.right,Xu nn.mark,Xu nn.size],Xi 0],.agg #[Xu nn.key,Xu nn.val,Xu nn.left,Xu nn.right,Xu nn.mark,Xu nn.size],Xi 0,Xi 0,.bool false,.map (some (z+1)),Xu h,.slice (some (y_ (z+1+1))) 1 1,PV ps,Xu h,.func (.func 161) #[] #[PV (z+7),PV (z+7+1)],Xu x.1.h,eS x.2,undef,undef,undef,undef,undef,undef,undef,undef,undef,undef,undef,undef,undef,undef,undef,undef,undef,undef,undef,undef,undef,undef,undef,undef,undef,undef,undef,undef,undef,undef,undef,undef,undef,undef,undef,undef,undef,undef,undef,undef,undef,undef,undef,undef,undef,undef,undef,undef,undef,undef,undef,undef,undef,undef,undef,undef,undef,undef,undef,undef,undef,undef,undef,undef,undef,undef,undef,undef,undef,undef,undef,undef,undef,undef,undef,undef,undef,undef,undef,undef]
theorem Lt(a b c:Value)(w:World):(Instr.index 289 (.agg #[a,b,c]) (Xi 0)).run prog w=.ok a w:=k_
theorem Lu(a b c:Value)(w:World):(Instr.index 289 (.agg #[a,b,c]) (Xi 1)).run prog w=.ok b w:=k_
theorem Lv(a b c:Value)(w:World):(Instr.index 289 (.agg #[a,b,c]) (Xi 2)).run prog w=.ok c w:=k_
def kx(a:List (It×Nd))(x:It×Nd):Nat->List Nat
 | 0=>mB a
 | 1=>mB a++[x.1.h]
 | 2=>mB a++[x.1.h]++[x.2.key]
 | _=>mB a++[x.1.h]++[x.2.key]++[x.2.val]
theorem J3{a:List (It×Nd)}{x:It×Nd}(h:a.length<=1000)(j:Nat):(kx a x j).length<100000:=by
 have:=Lr a;unfold kx;split<;>(try simp only[ag,bi])<;>omega
theorem M0{Ok:Tr->Prop}(h:fC Ok S o t):∀y∈mB t.h_,y<2^64:=fun y hy=>by
 unfold mB at hy;obtain⟨d,hd,q⟩:=gU.1 hy;obtain⟨z,hz,rfl⟩:=az.1 hd;obtain⟨l,m,r,e1,e2,_⟩:=nodes_at h.at' z hz;have hb:=h.F5 z.1 (by rw[<-nodes_its];exact hd);rcases q with rfl | rfl | rfl
 ·exact(fL h.fit e2.1).2.1
 ·exact(fL h.fit hb.k).2.1
 ·exact(fL h.fit hb.v).2.1
theorem Ll{ps mb Bm Bd Bl Bf D:Nat}{X:Nat->Prop}{a:List (It×Nd)}{x:It×Nd}{W:World}(nf:K4 S t a x)(h:mz w ps mb Bm Bd Bl Bf D X (kx a x 3) (mZ t.f9 a++[x.2.left,x.2.right]) x.1.k false W):mz w ps mb Bm Bd Bl Bf D X (mB (a++[x])) (mZ t.f9 (a++[x])) (wk (a++[x])) (a++[x]).isEmpty W:=by
 have e1:kx a x 3=mB (a++[x]):=by
  rw[MZ,<-nf.key,<-nf.val];unfold kx
  simp
 have e2:(a++[x]).isEmpty=false:=s_
 rw[<-e1,Nx,Ly,e2];exact h
theorem qYgae{P:Prop}(h:P:=by
 gi_wp2_with fail;go_roundw
 case rel=>exact⟨j+1,s_,o_,trivial⟩
 case measure=>simp[intOf];omega):P:=h
theorem qYgad{P:Prop}(h:P:=by
 obtain⟨r0,W6,r1,r2,hg,ai,ar⟩:=J0.O.1.seen (x:=x.1.h) HF.O.1.1 HF.O.1.2 (J3 HF.O.2.2.2 _);have ad:=ai.cm;have q0:(W6).cell? (y_ (z+1+1+1))=some (.map (some (z+1))):=e_ ad
 have ap:=(hg.block _ (gl J0.O.2.2.1) (fun q=>by have:=Option.some.inj q;omega)).T J0.O.2.2.1;have an:=(hg.block _ (gl J0.O.2.2.2) (fun q=>by have:=Option.some.inj q;omega)).T J0.O.2.2.2;have H6:=kq4 ai (J0.O.2.1.T ar) ap an;clear ad ap an ai ar hg;gi_wp2_with fail;go_roundw
 case rel=>exact⟨1,o_,rfl,H6.O⟩
 case measure=>simp[intOf]):P:=h
theorem qYgac{P:Prop}(h:P:=by
 obtain⟨r0,W6,r1,r2,hg,ai,ar⟩:=J0.O.1.seen (x:=x.2.key) HF.O.2.1.1 HF.O.2.1.2 (J3 HF.O.2.2.2 _);have ad:=ai.cm;have q0:(W6).cell? (y_ (z+1+1+1))=some (.map (some (z+1))):=e_ ad
 have ap:=(hg.block _ (gl J0.O.2.2.1) (fun q=>by have:=Option.some.inj q;omega)).T J0.O.2.2.1;have an:=(hg.block _ (gl J0.O.2.2.2) (fun q=>by have:=Option.some.inj q;omega)).T J0.O.2.2.2;have H6:=kq4 ai (J0.O.2.1.T ar) ap an;clear ad ap an ai ar hg;gi_wp2_with fail;go_roundw
 case rel=>exact⟨2,o_,rfl,H6.O⟩
 case measure=>simp[intOf]):P:=h
theorem qYgab{P:Prop}(h:P:=by
 obtain⟨r0,W6,r1,r2,hg,ai,ar⟩:=J0.O.1.seen (x:=x.2.val) HF.O.2.2.1.1 HF.O.2.2.1.2 (J3 HF.O.2.2.2 _);have ad:=ai.cm;have q0:(W6).cell? (y_ (z+1+1+1))=some (.map (some (z+1))):=e_ ad
 have ap:=(hg.block _ (gl J0.O.2.2.1) (fun q=>by have:=Option.some.inj q;omega)).T J0.O.2.2.1;have an:=(hg.block _ (gl J0.O.2.2.2) (fun q=>by have:=Option.some.inj q;omega)).T J0.O.2.2.2;have H6:=kq4 ai (J0.O.2.1.T ar) ap an;clear ad ap an ai ar hg;gi_wp2_with fail;go_roundw
 case rel=>exact⟨3,o_,rfl,H6.O⟩
 case measure=>simp[intOf]):P:=h
theorem qYgaa{P:Prop}(h:P:=by
 have v0:(W7).frozen? (y_ (z+1+1+1+1+1+1))=false:=AT q3;obtain⟨a6,bb⟩:=a1.first false;obtain⟨W8,bk⟩:=Ii (W7.setCell (y_ (z+1+1+1+1+1+1)) (.bool false));have n8:∀k,k≠z+1+1+1+1+1+1->W8.1[k]?=W7.1[k]?:=fun k hk=>by rw[<-bk];exact FB hk
 rw[bk] at a6 bb;have q4:=(n8 bn o_).T ((n7 bn o_).T J0.O.2.2.2);obtain⟨n0,n1,n2,n3,n4,n5⟩:=ia q4;obtain⟨A,c,bs,A2,c2,W9,c6,⟨v9,a7⟩,a4,a2⟩:=a6.side (by rw[KP];have:=HF.O.2.2.2;omega) x.2.left x.2.right 59;generalize (mZ t.f9 a).length=ns at*;have d0:(W8).cell? (y_ (z+1+1+1+1))=some (.slice A ns c):=e_ bs
 have e0:(W9).cell? (y_ (z+1+1+1+1))=some (v9):=e_ a7
 have g0:(W9).frozen? (y_ (z+1+1+1+1))=false:=AT a7;have H9:=kq2 a4 (J0.O.2.1.T (ba.T (bb.T a2)));clear a1 ba a6 bb a4 a2 q1 q2 q3 q4 bs a7 n7 n8 s7 hj;have eo:SV x.1.k=.string ⟨x.1.k.toArray⟩:=rfl
 gi_wp2_with (gi_at_builtin;refine Kg _ rfl _ _ _ _ rfl _ _ rfl rfl _ _ c6 ?_)
 obtain⟨a4,a2⟩:=H9.O;exact⟨⟨a2.1.size,fun k o hk=>a2.1.same k o o_⟩,a2.2,Ll HB.d a4⟩):P:=h
theorem NC{Ok:Tr->Prop}{l:Tr}{d:It}{m:Nat}{r:Tr}(h:Ig w ps S Y)(hB:fC Ok S o (.node l d m r))(hN2:(Tr.node l d m r).its.length<=1000):
 CallsIn Fence.wide 7 prog 144 #[PV ps,Xu d.h] w fun e w'=>e=.returned (Xi 0)/\D_ w w':=by
 have h1:1<=7:=o_
 have gc:Fence.wide.fn 121:=trivial;have gg:Fence.wide.fn 42:=trivial;have gb:Fence.wide.fn 76:=trivial;have gk:Fence.wide.fn 192:=trivial;have fw:Fence.wide.fn 88:=trivial;have f':Fence.wide.fn 193:=trivial;have d':∀W,CallsIn Fence.wide 6 prog 121 #[PV ps,Xu d.h] W _:=fun W=>callsIn_wide.2 (EY ps d.h W);have c4:=fun W (hW:D_ w W)=>(callsIn_wide (n:=6)).2 (fB (h.a_ hW) hB.fit.inv 0 o_);simp only[fU] at c4;have fv:((d.h:Int)==0)=false:=by have:=(fL hB.fit hB.at'.1).1;simp;omega
 have d9:=fun W (hW:D_ w W)=>(callsIn_wide (n:=6)).2 (J6 (h.a_ hW) hB.fit hB.at'.1);have bd:D_ w ((w.alloc (Xg ps)).alloc (.cells #[Xi 0] 27)):=((aa _ _).alloc Ih _).alloc s_ _;have a0:=kq6 h hB hN2 c4 d9 bd;clear h hB hN2 c4 d9 bd;refine callsIn_of_wp_marks func144 rfl trivial ?_ rfl;simp only[ntmps144,aT,aj,aK,Nat.reduceAdd,Nat.reduceSub,aO,aP,aU,aR,aV,aJ];gi_wp2_with fail;refine(a0.d _ a0.f).M ?_;rintro e w1 ⟨rfl,rfl⟩;gi_wp2_with fail;refine(a0.e _ a0.f).M ?_;rintro e w2 ⟨rfl,bo⟩;obtain⟨nn,b9⟩:=Ii (Tr.nd l d m r);rw[b9,J5];have HN:=If b9;clear b9;have ck:((w.alloc (Xg ps)).alloc (.cells #[Xi 0] 27)).1[w.1.size]?=some (Xg ps):=by
  rw[cI _ _ _ s_];exact World.alloc_heap_new _ _
 have cj:((w.alloc (Xg ps)).alloc (.cells #[Xi 0] 27)).1[w.1.size+1]?=some (.cells #[Xi 0] 27):=by
  have:=World.alloc_heap_new (w.alloc (Xg ps)) (.cells #[Xi 0] 27);rw[World.size_alloc] at this;exact this
 have cn:=(bo.block _ (gl ck)).T ck;have c8:=(bo.block _ (gl cj)).T cj;have d3:=b_ a0.f bo;have e':w.1.size+2<=w2.1.size:=by have:=bo.size;simp at this;omega
 have c0:(w2).cell? (y_ w.1.size)=some (PV ps):=e_ cn
 have H2:=kq4 cn c8 d3 e';clear ck cj cn c8 bo d3;have e5:= @run_makeMap prog
 gi_upto_region 11 with fail
 obtain⟨W3,dn⟩:=Ii (wa w2 nn d.h)
 show Code.wpIn _ _ _ _ _ _ (wa w2 nn d.h)
 have b4:=Mp nn d.h H2.c H2.d H2.a H2.b;have bu:(wa w2 nn d.h).1.size=w2.1.size+7:=by unfold wa;simp
 rw[dn] at b4 bu⊢;clear dn c0;have c':=b4.cs;have c0:(W3).cell? (y_ w.1.size)=some (PV ps):=e_ c'
 have cb:=If b4;clear b4 c' e5;gi_wp2_with fail;refine(d' _).M ?_;rintro e w4 ⟨rfl,rfl⟩;gi_wp2_with fail;clear d';generalize w2.1.size=z at*;have HT:=If a0.b;obtain⟨t,bx⟩:=Ii (Tr.node l d m r);rw[bx] at a0 HT;have b':t.f9=d.h:=by rw[<-bx];rfl
 have el:nn.size=t.its.length:=by rw[<-HN.O,<-bx];rfl
 obtain⟨W0,bc⟩:=Ii ((W3.alloc (Xg ps)).alloc (Xf d.h));have z0:W0.1.size=z+9:=by rw[<-bc];simp[bu]
 have ch:D_ W3 W0:=by rw[<-bc];exact((aa _ _).alloc Ih _).alloc s_ _
 have bd:D_ w W0:=b_ cb.O.bl ch;have g1:W0.1[z+7]?=some (Xg ps):=by rw[<-bc,JY,JY];simp[bu]
 have g2:W0.1[z+7+1]?=some (Xf t.f9):=by rw[<-bc,JY,b'];simp[bu]
 have g4:=H2.d;have ep:mz w ps (z+1) (z+1+1+1) (z+1+1+1+1) (z+1+1+1+1+1) (z+1+1+1+1+1+1) (z+7) (fun k=>k=z+7\/k=z+7+1) (mB []) (mZ t.f9 []) (wk []) ([]:List (It×Nd)).isEmpty W0:=by
  have:=cb.O.grown (B:=z+7) (X':=fun k=>k=z+7\/k=z+7+1) Ih (lf ch) (fun r e=>by cases e) (fun k hk=> .inr (by rw[bu,z0];omega));rw[b'];exact this
 have hN:t.h_.length<A6 S/\t.h_.length<=1000:=by
  rw[nodes_len];exact⟨HT.O.A6,a0.c⟩
 rw[bc];have cc:=kq2 el b';have HD:=If (show Tr.At S (.node l d m r) by rw[bx];exact HT.O.at');clear bc bx ch H2 el b';refine KW rfl h1 (gf:=161) (lb:=#[PV (z+7),PV (z+7+1)]) rfl trivial (enters_of func161 k_ rfl)
  (Ls a0.a HT.O.fit HT.O.at' hN.1 hN.2 _ _ bd o_ g1 g2) (fun k hk=>by omega) mA.T
  (fun X W l o o' h1 h2 h3 h4 h5=>⟨nN W l o o' (by have:=bd.size;omega) h3 h4 h5,fun k o2 hx e=>(World.putObj_heap_other (by intro q;subst q;exact h2 hx)).T e⟩) (aa _ _) (fun _=>rfl)
  (fun X a W=>mz w ps (z+1) (z+1+1+1) (z+1+1+1+1) (z+1+1+1+1+1) (z+1+1+1+1+1+1) (z+7) X (mB a) (mZ t.f9 a) (wk a) a.isEmpty W)
  (fun X X' a W W' row hs hg hr hx=>hs.grown (B:=W0.1.size) o_ hg hr hx)
  ep
  (fun x a' W=>∃bn,a'= { tmps:=Lk ps d.h w.1.size z nn x bn,defers:=[] } /\z+7<=bn/\W.1[bn]?=some (Xb x.2.key x.2.val x.2.left x.2.right x.2.mark x.2.size))
  (fun x a' _ W W' row hs hg hr=>by
   obtain⟨bn,e1,e2,e3⟩:=hs;refine⟨bn,e1,e2,(hg.block _ (gl e3) fun q=>?_).T e3⟩;obtain⟨_,o,q1,q2⟩:=hr bn q.S;rw[e3] at q1
   cases q1
   cases q2)
  ?assign ?body ?done
 case assign=>
  rintro l' X g5 x W K hI hK;have HK:=If hK;have HI:=If hI;clear hK hI;simp only[JW];rw[J5]
  gi_wp2
  have hb:D_ W (W.alloc (Xb x.2.key x.2.val x.2.left x.2.right x.2.mark x.2.size)):=(aa _ _).alloc Ih _;obtain⟨i1,i2,i3⟩:=HI.O.a_ hb;exact HK.O _ _ ⟨i2.size,fun k o hk=>i2.same k o o_⟩ i3 i1 ⟨W.1.size,rfl,HI.O.lo.2.2.2.2.2.2,World.alloc_heap_new _ _⟩
 case body=>
  rintro l' X a x a' W gn gp hI ⟨bn,rfl,dv,dp⟩ ⟨rr,eg⟩;have nf:=Nl HT.O eg;have er:a.isEmpty=true\/(a.isEmpty=false/\Fu (wk a) x.1.k<0):=by
   rcases nf.less with q | q
   ·left;rw[q];rfl
   ·rcases LA a with q2 | ⟨_,_,q2⟩
    ·left;rw[q2];rfl
    ·right;exact⟨by rw[q2];rfl,q⟩
  have ee:=((callsIn_wide (n:=4)).2 (NF (a0.a.a_ hI.bl) HT.O.fit nf.rec' nf.bl.lk nf.bl.lv (by rw[nf.key];exact nf.bl.k) (by rw[nf.val];exact nf.bl.v))).inRound l';have d8:∀W1,D_ w W1->CallsIn (Fence.wide.inRound l') 4 prog 193 #[PV ps,eS x.2] W1 _:=fun W1 hW=>((callsIn_wide (n:=4)).2 (by
   obtain⟨l2,m2,r2,e1,e2,e3⟩:=nf.sub;rw[e1];exact ND (a0.a.a_ hW) HT.O.fit e2.2.1 e2.2.2 (by have:=a0.c;omega))).inRound l'
  have hF:(x.1.h<2^64/\x.1.h∉kx a x 0)/\(x.2.key<2^64/\x.2.key∉kx a x 1)/\(x.2.val<2^64/\x.2.val∉kx a x 2)/\a.length<=1000:=by
   refine⟨⟨(fL HT.O.fit nf.rec').2.1,nf.h1⟩,⟨?_,?_⟩,⟨?_,?_⟩,by have:=nf.al;have:=a0.c;omega⟩
   ·rw[nf.key];exact(fL HT.O.fit nf.bl.k).2.1
   ·rw[nf.key];exact nf.h2
   ·rw[nf.val];exact(fL HT.O.fit nf.bl.v).2.1
   ·rw[nf.val];unfold kx;rw[nf.key];exact nf.h3
  have HF:=If hF;clear hF;have d4:=fun W1=>((callsIn_wide (n:=4)).2 (sT (wk a) x.1.k W1)).inRound l';have cs:=hI.cs;have c0:(W).cell? (y_ w.1.size)=some (PV ps):=e_ cs
  have HB:=kq6 hI dv dp nf d8 d4;clear hI dv dp nf d8 d4 cs eg;generalize a.isEmpty=fb at*;unfold Lk;rw[J5] at*;gi_wp2_with fail;refine ee.M ?_;rintro e W1 ⟨rfl,bm⟩;unfold eu;obtain⟨dd,em⟩:=HB.a.a_ bm;obtain⟨W2,dk⟩:=Ii (W1.alloc (Xn x.1.k x.1.v));have b2:D_ W1 W2:=by rw[<-dk];exact(aa _ _).alloc Ih _
  have hp:W2.1[W1.1.size]?=some (Xn x.1.k x.1.v):=by rw[<-dk];exact World.alloc_heap_new _ _
  obtain⟨bf,en⟩:=dd.a_ b2;have c7:=If (show z+7<=W1.1.size from aG HB.a.lo.2.2.2.2.2.2 bm.size);have co:=(b2.block _ (aE (gl HB.c) bm.size)).T ((bm.block _ (gl HB.c)).T HB.c);have cs:=bf.cs;have cl:=bf.cl;have cf:=bf.cf;have s0:(W2).cell? (y_ w.1.size)=some (PV ps):=e_ cs
  have l0:(W2).cell? (y_ (z+1+1+1+1+1))=some (SV (wk a)):=e_ cl
  have f0:(W2).cell? (y_ (z+1+1+1+1+1+1))=some (.bool fb):=e_ cf
  obtain⟨p0,p1⟩:=Fp hp;obtain⟨n0,n1,n2,n3,n4,n5⟩:=ia co;have au:=kq4 bf (em.T en) hp co;clear dd em b2 hp bf en co cs cl cf bm c0 ee
  rcases er with rfl | ⟨rfl,gs⟩
  ·gi_wp2_with fail;refine(HB.e W2 au.a.bl).M ?_;rintro e W5 ⟨rfl,a5⟩;obtain⟨bj,b0⟩:=au.a.a_ a5;have bt:=(a5.block _ (gl au.c)).T au.c;have a8:=(a5.block _ (gl au.d)).T au.d;clear s0 l0 f0 p0 p1 n0 n1 n2 n3 n4 n5;obtain⟨n0,n1,n2,n3,n4,n5⟩:=ia a8;have ca:=kq4 bj (au.b.T b0) bt a8;clear bj b0 bt a8 a5 au;have cv:=Lt (Xu x.1.h) (Xu x.2.key) (Xu x.2.val);have cw:=Lu (Xu x.1.h) (Xu x.2.key) (Xu x.2.val);have c3:=Lv (Xu x.1.h) (Xu x.2.key) (Xu x.2.val);gi_wp2_with fail;clear n0 n1 n2 n3 n4 n5
   gi_loopw [18,79] (fun _ i wr=>∃j:Nat,j<=3/\i=Xi j/\Hid (mz w ps (z+1) (z+1+1+1) (z+1+1+1+1) (z+1+1+1+1+1) (z+1+1+1+1+1+1) (z+7) X (kx a x j) (mZ t.f9 a) (wk a) true wr/\Kx (z+7) w.1.size X W wr/\wr.1[W1.1.size]?=some (Xn x.1.k x.1.v)/\wr.1[bn]?=some (Xb x.2.key x.2.val x.2.left x.2.right x.2.mark x.2.size))) (fun _ i _=>3-(intOf i).toNat)
   case atStart=>exact⟨0,o_,rfl,ca.O⟩
   case round=>
    obtain⟨j,hj,rfl,J0⟩:=hrel;have e4:=HB.b;have e6:=c7.O;have ad:=J0.O.1.cm;have m0:(wr).cell? (y_ (z+1+1+1))=some (.map (some (z+1))):=e_ ad
    clear ad
    rcases(show j=0\/j=1\/j=2\/j=3 by omega) with rfl | rfl | rfl | rfl
    ·exact qYgad
    ·exact qYgac
    ·exact qYgab
    ·clear m0 cv cw c3;have q1:=J0.O.2.2.1;have q2:=J0.O.1.cl;obtain⟨p0,p1⟩:=Fp q1;have l0:(wr).cell? (y_ (z+1+1+1+1+1))=some (SV (wk a)):=e_ q2
     have u0:(wr).frozen? (y_ (z+1+1+1+1+1))=false:=AT q2;obtain⟨a1,ba⟩:=J0.O.1.last x.1.k;obtain⟨W7,a3⟩:=Ii (wr.setCell (y_ (z+1+1+1+1+1)) (SV x.1.k));have s7:W7.1.size=wr.1.size:=by rw[<-a3,size_setCell]
     have n7:∀k,k≠z+1+1+1+1+1->W7.1[k]?=wr.1[k]?:=fun k hk=>by rw[<-a3];exact FB hk
     rw[a3] at a1 ba;have q3:=a1.cf;have f0:(W7).cell? (y_ (z+1+1+1+1+1+1))=some (.bool true):=e_ q3
     exact qYgaa
  ·gi_wp2_with fail;refine(HB.f W2).M ?_;rintro e w3 ⟨rfl,h3⟩;rw[h3];gi_wp2_with fail;refine(HB.e W2 au.a.bl).M ?_;rintro e W5 ⟨rfl,a5⟩;obtain⟨bj,b0⟩:=au.a.a_ a5;have bt:=(a5.block _ (gl au.c)).T au.c;have a8:=(a5.block _ (gl au.d)).T au.d;clear s0 l0 f0 p0 p1 n0 n1 n2 n3 n4 n5;obtain⟨n0,n1,n2,n3,n4,n5⟩:=ia a8;have ca:=kq4 bj (au.b.T b0) bt a8;clear bj b0 bt a8 a5 au;have cv:=Lt (Xu x.1.h) (Xu x.2.key) (Xu x.2.val);have cw:=Lu (Xu x.1.h) (Xu x.2.key) (Xu x.2.val);have c3:=Lv (Xu x.1.h) (Xu x.2.key) (Xu x.2.val);gi_wp2_with fail;clear n0 n1 n2 n3 n4 n5
   gi_loopw [18,79] (fun _ i wr=>∃j:Nat,j<=3/\i=Xi j/\Hid (mz w ps (z+1) (z+1+1+1) (z+1+1+1+1) (z+1+1+1+1+1) (z+1+1+1+1+1+1) (z+7) X (kx a x j) (mZ t.f9 a) (wk a) false wr/\Kx (z+7) w.1.size X W wr/\wr.1[W1.1.size]?=some (Xn x.1.k x.1.v)/\wr.1[bn]?=some (Xb x.2.key x.2.val x.2.left x.2.right x.2.mark x.2.size))) (fun _ i _=>3-(intOf i).toNat)
   case atStart=>exact⟨0,o_,rfl,ca.O⟩
   case round=>
    obtain⟨j,hj,rfl,J0⟩:=hrel;have e4:=HB.b;have e6:=c7.O;have ad:=J0.O.1.cm;have m0:(wr).cell? (y_ (z+1+1+1))=some (.map (some (z+1))):=e_ ad
    clear ad
    rcases(show j=0\/j=1\/j=2\/j=3 by omega) with rfl | rfl | rfl | rfl
    ·exact qYgad
    ·exact qYgac
    ·exact qYgab
    ·clear m0 cv cw c3;have q1:=J0.O.2.2.1;have q2:=J0.O.1.cl;obtain⟨p0,p1⟩:=Fp q1;have l0:(wr).cell? (y_ (z+1+1+1+1+1))=some (SV (wk a)):=e_ q2
     have u0:(wr).frozen? (y_ (z+1+1+1+1+1))=false:=AT q2;obtain⟨a1,ba⟩:=J0.O.1.last x.1.k;obtain⟨W7,a3⟩:=Ii (wr.setCell (y_ (z+1+1+1+1+1)) (SV x.1.k));have s7:W7.1.size=wr.1.size:=by rw[<-a3,size_setCell]
     have n7:∀k,k≠z+1+1+1+1+1->W7.1[k]?=wr.1[k]?:=fun k hk=>by rw[<-a3];exact FB hk
     rw[a3] at a1 ba;have q3:=a1.cf;have f0:(W7).cell? (y_ (z+1+1+1+1+1+1))=some (.bool false):=e_ q3
     exact qYgaa
 case done=>
  rintro D' X xs W hD rfl hI hK;obtain⟨A,c,d1,d2,_⟩:=hI.cd;have d5:=hI.cs;have ad:=hI.cm;have a9:=hI.ce;have eb:=hI.mp.look;have ek:=Ny HT.O.at';have ec:=M0 HT.O;have cu:=(callsIn_wide (n:=6)).2 (J6 (a0.a.a_ hI.bl) HT.O.fit (show i_ S d.h=some (eM nn) by rw[<-HN.O];exact HD.O.1));have bv:=KP t.f9 t.h_;rw[nodes_len,<-cc.a] at bv;have b9:nn.size<=1000:=by rw[cc.a];exact a0.c
  obtain⟨bq,cq,hv⟩:∃bq cq,Value.slice A (mZ t.f9 t.h_).length c=.slice (some (y_ bq)) (mZ t.f9 t.h_).length cq:=by
   rcases d2.2 with⟨_,e0⟩ | ⟨b,c2,fj,e,_⟩
   ·simp at e0
    rw[e0] at bv
    simp at bv
   ·exact⟨b,c2,e⟩
  obtain⟨rfl,rfl⟩:A=some (y_ bq)/\c=cq:=by cases hv;exact⟨rfl,rfl⟩
  have C6:=fun j (hj:j<(mZ t.f9 t.h_).length)=>World.ownsRow.cells d2 (g:=bq) rfl j (Xu ((mZ t.f9 t.h_)[j]:Nat)) (by simp[hV,hj]);obtain⟨ns,c5⟩:=Ii (mZ t.f9 t.h_).length;rw[c5] at bv d1;have c0:(W).cell? (y_ w.1.size)=some (PV ps):=e_ d5
  have m0:(W).cell? (y_ (z+1+1+1))=some (.map (some (z+1))):=e_ ad
  have d0:(W).cell? (y_ (z+1+1+1+1))=some (.slice (some (y_ bq)) ns c):=e_ d1
  unfold eS at cu;have HI:=kq7 hI eb ek ec cu C6 c5;have HK:=kq3 hK a9 bv;clear hI eb ek ec cu C6 c5 d1 d2 d5 ad a9 hv hK;gi_wp2_with fail
  gi_loopw [20,102] (fun _ i wr=>∃j:Nat,i=Xi j/\j<=ns/\wr=W) (fun _ i _=>ns-(intOf i).toNat)
  case atStart=>exact⟨0,rfl,o_,rfl⟩
  case round=>
   obtain⟨j,rfl,hj,e7⟩:=hrel;subst e7
   by_cases hjl:j<ns
   ·have ea:j<(mZ t.f9 t.h_).length:=by rw[HI.g];exact hjl
    have r0:=HI.f j ea;rw[Addr.add_lit] at r0;have hx:=HI.c _ (aq ea);generalize (mZ t.f9 t.h_)[j]=x at*;simp only[bC] at r0;have ev:(j:Int)<ns:=o_
    by_cases h0:x=0
    ·have e8:((x:Int) !=0)=false:=by rw[h0];rfl
     clear hx h0;exact qYgae
    ·have e8:((x:Int) !=0)=true:=m_
     have hm:=hx.resolve_left h0;have gv:=HI.b x (HI.d x hm);have fm:(((mB t.h_).count x:Nat):Int)≠0:=by have:=List.count_pos_iff.2 hm;omega
     generalize (mB t.h_).count x=cx at*;have fk:((cx:Int)==0)=false:=m_
     clear hx h0 hm;exact qYgae
   ·obtain rfl:j=ns:=o_
    have ev:¬(j:Int)<j:=o_
    gi_wp2_with fail;refine HI.e.M ?_;rintro e w6 ⟨rfl,b1⟩;obtain⟨ai,_⟩:=HI.a.a_ b1;obtain⟨W7,a3⟩:=Ii (w6.alloc (Xb nn.key nn.val nn.left nn.right nn.mark nn.size));have b7:D_ w6 W7:=by rw[<-a3];exact(aa _ _).alloc Ih _
    have ed:W7.1[w6.1.size]?=some (Xb nn.key nn.val nn.left nn.right nn.mark nn.size):=by rw[<-a3];exact World.alloc_heap_new _ _
    obtain⟨a1,_⟩:=ai.a_ b7;obtain⟨ds,d6,cp,ez⟩:=a1.mp.len 3;have d7:ds.length=3*nn.size:=by
     have e1:=Dk d6 (m:=mB t.h_) fun y hy=>(cp y).1 hy;have e2:=Dk (MY HT.O) (m:=ds) fun y hy=>(cp y).2 hy;rw[Lr,nodes_len,<-cc.a] at e1 e2;omega
    rw[d7,show ((3*nn.size:Nat):Int)=3*(nn.size:Int) by omega] at ez;have g3:IntKind.u64.wrap (3*(nn.size:Int))=3*(nn.size:Int):=bM _ o_;have ad:=a1.cm;have a9:=a1.ce;have q0:(W7).cell? (y_ (z+1+1+1))=some (.map (some (z+1))):=e_ ad
    have e0:(W7).cell? (y_ (w.1.size+1))=some (Xi 0):=e_ a9
    have f0:(W7).frozen? (y_ (w.1.size+1))=false:=AT a9;obtain⟨n0,n1,n2,n3,n4,n5⟩:=ia ed;have H7:=kq3 a1.bl a9 (((b7.block _ (aE (gl HK.a) b1.size)).T ((b1.block _ (gl HK.a)).T HK.a)));clear ai a1 b7 ed d6 cp d7 ad a9 b1 c0 m0 d0;gi_wp2_with fail;obtain⟨B7,c9,k7⟩:=H7.O;have dc:D'≠w.1.size+1:=fun q=>by
     rw[q,c9] at k7
     cases k7
    have cF:=heap_setCell (i:=0) (v:=Xi 0) c9;have kF:=(FB (w:=W7) (b:=w.1.size+1) (i:=0) (v:=Xi 0) dc).T k7;have bF:D_ w (W7.setCell (y_ (w.1.size+1)) (Xi 0)):=B7.T ⟨rfl,rfl,rfl,s_,fun k hk=>FB o_⟩;generalize W7.setCell (y_ (w.1.size+1)) (Xi 0)=wF at*;refine⟨s_,.inl ⟨_,_,rfl,run_takeDeferred kF,?_⟩⟩;have cG:=(World.putObj_heap_other (w:=wF) (o:=.deferred none) (fun q=>dc q.S)).T cF;have cH:(wF.putObj D' (.deferred none)).cell? (y_ (w.1.size+1))=some (Xi 0):=e_ cG
    refine⟨Xi 0,by simp[results,f144,go_sem,cH],rfl,bF.T (nN wF D' _ _ (by have:=bd.size;omega) kF rfl rfl)⟩
theorem LX{Ok:Tr->Prop}(h:Ig w ps S Y):∀{t:Tr},fC Ok S o t->t.its.length<=1000->
 Cb 144 #[PV ps,Xu t.f9] w (Xi 0)
 | .nil,hB,_=>xS h hB.fit.inv
 | .node _ _ _ _,hB,hN=>callsIn_wide.1 (NC h hB hN)
theorem Tr.nodes_ok {S:St}{Ok:Tr->Prop}(sub:∀{l d m r},Ok (.node l d m r)->Ok l/\Ok r):∀{t:Tr},At S t->Ok t->∀x∈t.h_,∃l m r,x.2=nd l x.1 m r/\At S (.node l x.1 m r)/\Ok (.node l x.1 m r)/\l.its.length+r.its.length<t.its.length
 | .nil,_,_,x,hx=>by cases hx
 | .node l d m r,⟨h1,h2,h3⟩,ok,x,hx=>by
  have hl:(Tr.node l d m r).its.length=l.its.length+(r.its.length+1):=by
   show (l.its++d::r.its).length=_
   grind
  rcases ao.1 (show x∈h_ l++(d,nd l d m r)::h_ r from hx) with hx | hx
  ·obtain⟨l',m',r',a1,a2,a3,a4⟩:=nodes_ok sub h2 (sub ok).1 x hx;grind
  ·rcases ah.1 hx with rfl | hx
   ·exact⟨l,m,r,rfl,⟨h1,h2,h3⟩,ok,o_⟩
   ·obtain⟨l',m',r',a1,a2,a3,a4⟩:=nodes_ok sub h3 (sub ok).2 x hx;grind
theorem K8(h:Ig w ps S Y)(hB:fC eZ S o t)(hN:t.its.length<=1000):
 Cb 234 #[PV ps,Xu t.f9] w (Xi 0):=by
 obtain⟨n,hn⟩:=Ii t.hs.length;have au:n=t.h_.length:=by rw[<-hn,<-nodes_h,am]
 have a7:n<=1000:=by rw[au,nodes_len];omega
 have HG:=kq6 h hB (LX h hB hN) (fun W (hW:D_ w W)=>Kr (h.a_ hW) hB.fit hB.at' (by rw[nodes_len];exact hB.A6) (by rw[nodes_len];omega)) hn au;go_enter func234,ntmps234;go_wp2_with fail;refine b8 HG.c fun w1 hb1=>?_;have H1:=If hb1;go_wp2_with fail;refine(HG.d w1 H1.O).M ?_;rintro e w2 ⟨v,rfl,a0,a2⟩;obtain⟨A,c,rfl⟩:=a0.E_;have H2:=kq2 (b_ H1.O a2) a0;go_wp2_with fail
 go_loopw [4,7,8,9,10,21] (fun _ _ _ _ _ i wr=>∃j:Nat,i=Xi j/\j<=n/\Hid (D_ w2 wr)) (fun _ _ _ _ _ i _=>n-(intOf i).toNat)
 case atStart=>exact⟨0,rfl,o_,aa _ _⟩
 case round=>
  obtain⟨j,rfl,hj,J0⟩:=hrel
  by_cases hjl:j<n
  ·have an:j<t.hs.length:=by rw[HG.e];omega
   have ap:j<t.h_.length:=by rw[<-HG.f];omega
   obtain⟨b,c',hv,_,r0⟩:=(H2.b.at fun g e=>J0.O.block g (H2.b.ge g e).2).cell_at an;have ai:t.hs[j]=t.h_[j].1.h:=by simp[<-nodes_h]
   rw[ai] at r0;obtain⟨l,m,r,e1,e2,e3,e4⟩:=nodes_ok (S:=S) (Ok:=eZ) (fun h=>⟨h.1,h.2.1⟩) HG.b.at' HG.b.ok _ (aq ap);obtain⟨x,hx⟩:=Ii t.h_[j];rw[hx] at r0 e1 e2 e3;have ad:=b_ H2.a J0.O;have a4:(j:Int)<n:=o_
   obtain⟨rfl,rfl⟩:A=some (y_ b)/\c=c':=by grind
   have hf:=HG.b.fit;have hg:=gR (HG.a.a_ ad) hf.inv x.1.h (fL hf e2.1).2.1;rw[e2.f_ hf] at hg;obtain⟨b1,b2,hm,a1,a3⟩:=e3;have a5:=b1.mark_le;have a6:=b2.mark_le;have hA:=fun W (hW:D_ w W)=>fJ (HG.a.a_ hW) hf.inv l.f9 (At.root_lt hf e2.2.1) (e2.2.1.height hf o_);simp only[gP,nd] at hg;have ar:max (l.mark:Int) (r.mark:Int)+1=(m:Int):=o_
   have d1:¬((r.mark:Int)+1<l.mark):=o_
   have d2:¬((l.mark:Int)+1<r.mark):=o_
   have d3:IntKind.i64.wrap (max (l.mark:Int) (r.mark:Int)+1)=(m:Int):=by rw[ar];exact ax _ o_
   have d4:IntKind.u64.wrap (m:Int)=(m:Int):=bM _ o_;have d5:IntKind.i64.wrap ((r.mark:Int)+1)=(r.mark:Int)+1:=ax _ o_;have d6:IntKind.i64.wrap ((l.mark:Int)+1)=(l.mark:Int)+1:=ax _ o_;obtain⟨z,hz⟩:=Ii (Tr.node l x.1 m r).its.length;rw[hz] at hg;have HE:=kq4 hg hA (fun W (hW:D_ w W)=>fJ (HG.a.a_ hW) hf.inv r.f9 (At.root_lt hf e2.2.2) (e2.2.2.height hf o_)) ad;clear hg hA ad e1 e2 b1 b2 hm a1 a3 a5 a6 hz hv ai hx an ap hf ar;generalize l.mark=lm at*;generalize r.mark=rm at*;generalize l.f9=lr at*;generalize r.f9=rr at*;go_wp2_with fail;refine b8 HE.a fun w3 hb3=>?_;have q:=heap_alloc_new w3 (Xa x.1.kh x.1.vh lr rr m z x.1.h);have B:=(b_ HE.d hb3).alloc (by have:=hb3.size;have:=HE.d.size;omega) (Xa x.1.kh x.1.vh lr rr m z x.1.h);have B2:=(b_ J0.O hb3).alloc (by have:=hb3.size;have:=J0.O.size;omega) (Xa x.1.kh x.1.vh lr rr m z x.1.h)
   go_upto_region 8 with fail
   generalize w3.alloc (Xa x.1.kh x.1.vh lr rr m z x.1.h)=W at*;have ql:=(gl q);have a8:∀x:Fq (D_ W),x.to.cell? (x_ w3.1.size 2)=some (Xu lr):=fun x=>by rw[r_ ((x.ok.block _ ql).T q)];rfl
   have a9:∀x:Fq (D_ W),x.to.cell? (x_ w3.1.size 3)=some (Xu rr):=fun x=>by rw[r_ ((x.ok.block _ ql).T q)];rfl
   have hA:=fun x:Fq (D_ W)=>Calls.C7 (HE.b x.to (b_ B x.ok));have hB:=fun x:Fq (D_ W)=>Calls.C7 (HE.c x.to (b_ B x.ok));have HB:=kq2 B2 q;refine iq (D_ W) k_ k_ (aa _ _).drew (fun _=>?_)
   repeat (first | go_big_quiet_skip | (go_big_quiet_want;go_big_quiet_op;first | go_big_quiet_on | (apply Exists.intro;refine⟨fun x=>?_,?_⟩;(· first | with_reducible exact hA x | with_reducible exact hB x);go_big_quiet_on)))
   refine wpQuiet_nil ?_;rintro _ ⟨y,rfl⟩;obtain⟨c0,c1,c2,c3,c4,c5,c6⟩:=gG ((y.ok.block _ ql).T HB.b);have HX:=If (b_ HB.a y.ok);go_wp2_with fail;go_roundw
   case rel=>exact⟨j+1,s_,o_,HX.O⟩
   case measure=>simp[intOf];omega
  ·obtain rfl:j=n:=o_
   have a4:¬(j:Int)<j:=o_
   go_wp2_with fail;go_ret;exact⟨rfl,b_ H2.a J0.O⟩
theorem Nw(h:Ig w ps S Y)(hB:fC Rb S o t)(hN:t.its.length<=1000):
 Cb 235 #[PV ps,Xu t.f9] w (Xi 0):=by
 obtain⟨n,hn⟩:=Ii t.hs.length;have a7:n=t.h_.length:=by rw[<-hn,<-nodes_h,am]
 have bu:n<=1000:=by rw[a7,nodes_len];omega
 have HG:=kq6 h hB (LX h hB hN) (fun W (hW:D_ w W)=>Kr (h.a_ hW) hB.fit hB.at' (by rw[nodes_len];exact hB.A6) (by rw[nodes_len];omega)) hn a7;go_enter func235,ntmps235;go_wp2_with fail;refine b8 HG.c fun w1 hb1=>?_;have H1:=If hb1;go_wp2_with fail;refine(HG.d w1 H1.O).M ?_;rintro e w2 ⟨v,rfl,a8,au⟩;obtain⟨A,c,rfl⟩:=a8.E_;have H2:=kq2 (b_ H1.O au) a8;go_wp2_with fail
 go_loopw [4,7,8,9,10,21] (fun _ _ _ _ _ i wr=>∃j:Nat,i=Xi j/\j<=n/\Hid (D_ w2 wr)) (fun _ _ _ _ _ i _=>n-(intOf i).toNat)
 case atStart=>exact⟨0,rfl,o_,aa _ _⟩
 case round=>
  obtain⟨j,rfl,hj,J0⟩:=hrel
  by_cases hjl:j<n
  ·have bj:j<t.hs.length:=by rw[HG.e];omega
   have bk:j<t.h_.length:=by rw[<-HG.f];omega
   obtain⟨b,c',hv,_,r0⟩:=(H2.b.at fun g e=>J0.O.block g (H2.b.ge g e).2).cell_at bj;have bb:t.hs[j]=t.h_[j].1.h:=by simp[<-nodes_h]
   rw[bb] at r0;obtain⟨l,m,r,e1,e2,e3,e4⟩:=nodes_ok (S:=S) (Ok:=Rb) (fun h=>⟨h.1,h.2.1⟩) HG.b.at' HG.b.ok _ (aq bk);obtain⟨x,hx⟩:=Ii t.h_[j];rw[hx] at r0 e1 e2 e3;have a3:=b_ H2.a J0.O;have bf:(j:Int)<n:=o_
   obtain⟨rfl,rfl⟩:A=some (y_ b)/\c=c':=by grind
   have hf:=HG.b.fit;have hg:=oQ (HG.a.a_ a3) hf.inv x.1.h (fL hf e2.1).2.1;rw[e2.f_ hf] at hg;obtain⟨b1,b2,bs,hm⟩:=e3;have bq:=b1.mark_le;have bv:=b2.mark_le;have bt:m<=10000:=o_
   have a5:=fun W (hW:D_ w W)=>gy (HG.a.a_ hW) hf.inv l.f9 (At.root_lt hf e2.2.1);have a6:=fun W (hW:D_ w W)=>gy (HG.a.a_ hW) hf.inv r.f9 (At.root_lt hf e2.2.2);have a4:=fun W (hW:D_ w W)=>gy (HG.a.a_ hW) hf.inv x.1.h (fL hf e2.1).2.1;have a':=fun W (hW:D_ w W)=>gq (HG.a.a_ hW) hf.inv l.f9 (At.root_lt hf e2.2.1);have ba:=fun W (hW:D_ w W)=>gq (HG.a.a_ hW) hf.inv r.f9 (At.root_lt hf e2.2.2);have a9:=fun W (hW:D_ w W)=>gq (HG.a.a_ hW) hf.inv x.1.h (fL hf e2.1).2.1;have bm:C8 S x.1.h=m / 2:=e2.black hf;have bo:F7 S x.1.h=decide (m % 2=1):=e2.red hf;simp only[e2.2.1.black hf,e2.2.2.black hf,e2.2.1.red hf,e2.2.2.red hf,bm,bo] at a5 a6 a4 a' ba a9;simp only[nd,eS] at hg;obtain⟨z,hz⟩:=Ii (Tr.node l x.1 m r).its.length;have hw:IntKind.u64.wrap (((l.mark / 2:Nat):Int)+1)=((l.mark / 2:Nat):Int)+1:=bM _ o_;have bc:(decide (m % 2=1)=true/\m / 2=l.mark / 2/\decide (l.mark % 2=1)=false/\decide (r.mark % 2=1)=false)\/(decide (m % 2=1)=false/\m / 2=l.mark / 2+1):=by
    grind
   generalize decide (m % 2=1)=ch at*;generalize decide (l.mark % 2=1)=cl at*;generalize decide (r.mark % 2=1)=cr at*;generalize m / 2=bh at*;generalize l.mark / 2=lb at*;have HE:=kq8 hg a5 a6 a4 a9 a' ba a3;generalize l.f9=lr at*;generalize r.f9=rr at*;go_wp2_with fail;refine b8 HE.a fun w3 hb3=>?_;have a1:=kq3 ((b_ HE.h hb3).alloc (by have:=hb3.size;have:=HE.h.size;omega) (Xb x.1.kh x.1.vh lr rr m z)) ((b_ J0.O hb3).alloc (by have:=hb3.size;have:=J0.O.size;omega) (Xb x.1.kh x.1.vh lr rr m z)) (heap_alloc_new w3 (Xb x.1.kh x.1.vh lr rr m z));go_wp2_with fail;refine b8 (HE.b _ a1.a) fun W1 hb1=>?_;have ap:=kq3 (b_ a1.a hb1) (b_ a1.b hb1) ((hb1.block _ (gl a1.c)).T a1.c);obtain⟨c0,c1,c2,c3,c4,c5⟩:=ia ap.c;go_wp2_with fail
   rcases bc with⟨rfl,rfl,rfl,rfl⟩ | ⟨rfl,rfl⟩
   ·have bd:True:=trivial;refine b8 (HE.e _ ap.a) fun W2 au=>?_;have ad:=kq3 (b_ ap.a au) (b_ ap.b au) ((au.block _ (gl ap.c)).T ap.c);obtain⟨c0,c1,c2,c3,c4,c5⟩:=ia ad.c;go_wp2_with fail;refine b8 (HE.c _ ad.a) fun W3 hb3=>?_;have ai:=kq3 (b_ ad.a hb3) (b_ ad.b hb3) ((hb3.block _ (gl ad.c)).T ad.c);obtain⟨c0,c1,c2,c3,c4,c5⟩:=ia ai.c;go_wp2_with fail;refine b8 (HE.d _ ai.a) fun W4 hb4=>?_;have an:=kq3 (b_ ai.a hb4) (b_ ai.b hb4) ((hb4.block _ (gl ai.c)).T ai.c);obtain⟨c0,c1,c2,c3,c4,c5⟩:=ia an.c;go_wp2_with fail;refine b8 (HE.e _ an.a) fun W5 hb5=>?_;have ar:=kq3 (b_ an.a hb5) (b_ an.b hb5) ((hb5.block _ (gl an.c)).T an.c);obtain⟨c0,c1,c2,c3,c4,c5⟩:=ia ar.c;go_wp2_with fail;refine b8 (HE.f _ ar.a) fun W6 hb6=>?_;have a0:=kq3 (b_ ar.a hb6) (b_ ar.b hb6) ((hb6.block _ (gl ar.c)).T ar.c);obtain⟨c0,c1,c2,c3,c4,c5⟩:=ia a0.c;go_wp2_with fail;refine b8 (HE.g _ a0.a) fun W7 hb7=>?_;have a2:=kq3 (b_ a0.a hb7) (b_ a0.b hb7) ((hb7.block _ (gl a0.c)).T a0.c);obtain⟨c0,c1,c2,c3,c4,c5⟩:=ia a2.c;go_wp2_with fail;go_roundw
    case rel=>exact⟨j+1,s_,o_,a2.b⟩
    case measure=>simp[intOf];omega
   ·have bd:True:=trivial;refine b8 (HE.e _ ap.a) fun W2 au=>?_;have ad:=kq3 (b_ ap.a au) (b_ ap.b au) ((au.block _ (gl ap.c)).T ap.c);obtain⟨c0,c1,c2,c3,c4,c5⟩:=ia ad.c;go_wp2_with fail;refine b8 (HE.c _ ad.a) fun W3 hb3=>?_;have ai:=kq3 (b_ ad.a hb3) (b_ ad.b hb3) ((hb3.block _ (gl ad.c)).T ad.c);obtain⟨c0,c1,c2,c3,c4,c5⟩:=ia ai.c;go_wp2_with fail;refine b8 (HE.d _ ai.a) fun W4 hb4=>?_;have an:=kq3 (b_ ai.a hb4) (b_ ai.b hb4) ((hb4.block _ (gl ai.c)).T ai.c);obtain⟨c0,c1,c2,c3,c4,c5⟩:=ia an.c;go_wp2_with fail;refine b8 (HE.e _ an.a) fun W5 hb5=>?_;have ar:=kq3 (b_ an.a hb5) (b_ an.b hb5) ((hb5.block _ (gl an.c)).T an.c);obtain⟨c0,c1,c2,c3,c4,c5⟩:=ia ar.c;go_wp2_with fail;go_roundw
    case rel=>exact⟨j+1,s_,o_,ar.b⟩
    case measure=>simp[intOf];omega
  ·obtain rfl:j=n:=o_
   have bf:¬(j:Int)<j:=o_
   go_wp2_with fail;go_ret;exact⟨rfl,b_ H2.a J0.O⟩