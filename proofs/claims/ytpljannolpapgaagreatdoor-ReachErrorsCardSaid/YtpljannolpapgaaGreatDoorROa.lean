/- Nodes and items let go: the walks. -/
import Derived.Test.YtpljannolpapgaaGreatDoorRZa
import Derived.Test.YtpljannolpapgaaGreatDoorRFg
set_option maxRecDepth 100000
set_option maxHeartbeats 3200000
namespace Go.Proofs.YtpljannolpapgaaGreatDoor
section
open Go.RowKit Tryz Go.BigFrame Go.Maps Go.WideMaps Lf
variable{S:St}{Y:Nat->Prop}{ps:Nat}{w:World}{x1:Nat}{x:Nat}
theorem Di(h:Ig w ps S Y)(hi:Fv S)(hh:Nat)(hl:hh<2^64):
 Ct 145 #[PV ps,Xu hh] w fun e w'=>e=.returned (Xi ((jr S hh).1:Nat))/\Ig w' ps (jr S hh).2 Y/\Fo Y w w':=by
 by_cases ha:fZ S hh=0
 ·have has:=oG h hi hh hl;have ad:=sE h hi hh hl;have hR:jr S hh=S.drop hh:=by unfold jr;rw[ha];rfl
  rw[hR];rw[ha] at has;have HG:=kq2 has ad;clear has ad hR ha h hi;go_enter func145,ntmps145;go_wp2_with fail;refine Jc HG.a ?_;go_wp2_with fail;refine dR HG.b fun w1 hb=>?_;have H1:=If hb;clear hb;go_wp2_with fail;go_ret;exact⟨rfl,H1.O⟩
 ·have hR:jr S hh=(fZ S hh,S):=by unfold jr;split<;>simp_all
  rw[hR];refine Jc (vT h hi hh hl ha) ?_;exact⟨rfl,h,Fo.refl _ _⟩
theorem zi{S S':St}(h:Ig w ps S Y)(hi:Fv S)(l_ o:Nat)(hl:o<2^64)(hd:jr S o=(0,S')):
 Ct 309 #[fE ps l_,Xu o] w fun e w'=>e=.returned (.tuple #[Id (f_ S o).1.key (f_ S o).1.val,.bool true])/\Ig w' ps S' Y/\Fo Y w w':=by
 have B1:=c_ w (Xk ps l_);have q1:=heap_alloc_new w (Xk ps l_);have B0:=B1.alloc B1.size (.cells #[Xu 0,Xu 0] 104);have z1:=heap_alloc_new (w.alloc (Xk ps l_)) (.cells #[Xu 0,Xu 0] 104);have q1:=(((aa (w.alloc (Xk ps l_)).1.size (w.alloc (Xk ps l_))).alloc Ih (.cells #[Xu 0,Xu 0] 104)).block w.1.size s_).T q1;simp only[World.size_alloc] at z1;have ar:=my (h.a_ B0) hi l_ o hl;have ap:=fun W Z (hW:Ig W ps S Z)=>Di hW hi o hl;rw[hd] at ap;simp only[Id,fE] at ar⊢;generalize (f_ S o).1.key=a0 at*;generalize (f_ S o).1.val=a1 at*;have HG:=kq6 ar ap B0 z1 q1 h;have a2:=h.yl;clear ar ap B0 B1 h hi z1 q1 hd;go_enter func309,ntmps309;go_wp2_with fail;refine dR HG.a fun w1 hb1=>?_;have ad:=hb1.alloc hb1.size (Xe a0 a1);have y1:=heap_alloc_new w1 (Xe a0 a1);have z1:=(ad.block (w.1.size+1) s_).T HG.d;have q1:=(ad.block w.1.size m_).T HG.e;have B2:=b_ HG.c ad;have S2:=HG.f.wide B2;have sz:w.1.size+2<=w1.1.size:=by have:=hb1.size;simp at this;omega
 have sw:(w1.alloc (Xe a0 a1)).1.size=w1.1.size+1:=s_
 go_wp2_with fail;rw[sw] at S2;generalize w1.alloc (Xe a0 a1)=W at*;obtain⟨I,ai,an⟩:∃I:World->Prop,(∀w',I w'->w'.1[w.1.size]?=some (Xk ps l_)/\w'.1[w1.1.size]?=some (Xe a0 a1))/\(∀w',w'.1[w.1.size]?=some (Xk ps l_)->w'.1[w1.1.size]?=some (Xe a0 a1)->I w'):=⟨fun w'=>w'.1[w.1.size]?=some (Xk ps l_)/\w'.1[w1.1.size]?=some (Xe a0 a1),fun _ h=>h,fun _ a b=>⟨a,b⟩⟩;have au:=fun x:Fq I=>(ai _ x.ok).1;have a3:=fun x:Fq I=>(ai _ x.ok).2;obtain⟨a7,a8⟩:=mt au;obtain⟨a9,a'⟩:=mt a3;have a6:w1.1.size≠w.1.size+1:=o_
 have HW:=kq5 B2 z1 q1 y1 S2;have HI:=If an;have a5:I W.drew:=an _ q1 y1;clear B2 z1 q1 y1 hb1 ad au a3 ai an S2;refine fh I (.take 0 (.take 1 (.take 2 (.take 3 (.go 4 (.take 5 (.go 6 (.go 7 .nil)))))))) k_ k_ a5 ?_
 iterate 4
  refine pT_ ?_
  try simp only[pu]
 refine pD fun K hK=>?_;go_simp;refine(HG.b _ _ (HW.e.drewN 1)).M ?_;rintro e w3 ⟨rfl,s3,k3⟩;have e3:=fun k (hk:w.1.size<=k/\k<w1.1.size+1)=>k3.block k (ae hk);have q3:=(e3 w.1.size ⟨Nat.le_refl _,o_⟩).T HW.c;have y3:=(e3 w1.1.size ⟨o_,o_⟩).T HW.d;have z3:=(e3 (w.1.size+1) ⟨o_,o_⟩).T HW.b;have a4:Fo Y w w3:=(Fo.v_ HW.a a2).T ((Fo.drewN Y W 1).T (k3.M fun k hk=>ab hk));have H3:=kq5 s3 a4 q3 y3 z3;clear e3 s3 k3 a4 q3 y3 z3
 try go_simp
 refine hK.O _ _ (HI.O _ H3.c H3.d) ?_;clear hK K
 try simp only[pu]
 refine pT_ ?_
 try simp only[pu]
 have z3:=H3.e;obtain⟨e0,e1⟩:=Fp z3;obtain⟨f0,f1⟩:=ef z3;clear z3;refine pD fun K hK=>?_;go_simp;have q4:((w3.setCell (y_ (w.1.size+1)) (Xu a0)).setCell (x_ (w.1.size+1) 1) (Xu a1)).1[w.1.size+1]?=_:=ew H3.e (Xu a0) (Xu a1);have o4:∀k,k≠w.1.size+1->((w3.setCell (y_ (w.1.size+1)) (Xu a0)).setCell (x_ (w.1.size+1) 1) (Xu a1)).1[k]?=w3.1[k]?:=fun k hk=>fA hk _ _;have s4:Ig ((w3.setCell (y_ (w.1.size+1)) (Xu a0)).setCell (x_ (w.1.size+1) 1) (Xu a1)) ps S' Y:=(H3.a.write (b:=w.1.size+1) (ae ⟨o_,o_⟩) H3.e ⟨d_,d_⟩ s_ s_ fun k _ hk=>o4 k hk).M fun k hk=>ab hk;have k4:Fo Y w ((w3.setCell (y_ (w.1.size+1)) (Xu a0)).setCell (x_ (w.1.size+1) 1) (Xu a1)):=H3.b.T ⟨rfl,rfl,rfl,s_,fun k hk=>o4 k (by have:=a2 k hk;omega)⟩;have r4:=(o4 w.1.size o_).T H3.c;have y4:=(o4 w1.1.size a6).T H3.d;have H4:=kq5 s4 k4 q4 r4 y4;clear o4 s4 k4 q4 r4 y4 e0 e1 f0 f1;generalize ((w3.setCell (y_ (w.1.size+1)) (Xu a0)).setCell (x_ (w.1.size+1) 1) (Xu a1))=W4 at*
 try go_simp
 refine hK.O _ _ (HI.O _ H4.d H4.e) ?_;clear hK K
 try simp only[pu]
 refine pD fun K hK=>?_;go_simp
 try go_simp
 refine hK.O _ _ (HI.O _ H4.d H4.e) ?_;clear hK K
 try simp only[pu]
 refine eP ?_;have q5:=H4.c;obtain⟨g0,g1⟩:=Fp q5;clear q5;go_wp2_with fail;exact bodyPost_ret (v:=.tuple #[.agg #[Xu a0,Xu a1],.bool true]) (by simp[results,f309,go_sem,g0,g1]) rfl ⟨rfl,H4.a,H4.b⟩
def Lf.binRepM(jn:Jn)(S:St)(f9 k v:Nat):Option ((Nat×Nat×Nat)×St):=
 if(ft S ⟨k,v,0,0,0,1⟩).1.2≠0 then none
 else match insertOkM jn (ft S ⟨k,v,0,0,0,1⟩).2 f9 (ft S ⟨k,v,0,0,0,1⟩).1.1 with
  | none=>none
  | some ((now,o),S1)=>match jr S1 o with
   | (0,S2)=>some ((now,(f_ S1 o).1.key,(f_ S1 o).1.val),S2)
   | _=>none
theorem y9{jn:Jn}{S S':St}{f9 k v:Nat}{R:Nat×Nat×Nat}(h:binRepM jn S f9 k v=some (R,S')):
 ∃o S1,(ft S ⟨k,v,0,0,0,1⟩).1.2=0/\insertOkM jn (ft S ⟨k,v,0,0,0,1⟩).2 f9 (ft S ⟨k,v,0,0,0,1⟩).1.1=some ((R.1,o),S1)/\jr S1 o=(0,S')/\R.2.1=(f_ S1 o).1.key/\R.2.2=(f_ S1 o).1.val:=by
 unfold binRepM at h
 split at h
 ·cases h
 ·rename_i h0
  split at h
  ·cases h
  ·rename_i now o S1 h1
   split at h
   ·rename_i S2 h2;have h:=Option.some.inj h
    injection h with e1 e2
    subst e1 e2;exact⟨o,S1,dw.1 h0,h1,h2,rfl,rfl⟩
   ·cases h
theorem zd{S S':St}(h:Ig w ps S Y)(hm:iw S 6){l_:Nat}{j c:FuncId}{jn:Jn}(hk:jD l_ j c jn)(f9 k v:Nat)(hl:f9<2^64)(hkl:k<2^64)(hvl:v<2^64){R:Nat×Nat×Nat}(hx:binRepM jn S f9 k v=some (R,S'))(hi':Fv S'):
 Ct 301 #[fE ps l_,Xu f9,Id k v] w fun e w'=>e=.returned (.tuple #[Xu R.1,Id R.2.1 R.2.2,.bool true,Xi 0])/\Ig w' ps S' Y/\Fo Y w w'/\Fv S'/\R.1<2^64:=by
 obtain⟨o,S2,h0,h1,h2,e1,e2⟩:=y9 hx;obtain⟨x,ik,iv⟩:=R;simp only at h1 e1 e2⊢;have ar:=vz hm ⟨k,v,0,0,0,1⟩;have a4:=LH h.tabwf ⟨k,v,0,0,0,1⟩;have ai:=fun W Z (hW:Ig W ps S Z)=>vU hW hm ⟨k,v,0,0,0,1⟩ ⟨hkl,hvl,s_,s_,s_,s_⟩;generalize ft S ⟨k,v,0,0,0,1⟩=M at*;obtain⟨⟨m,em⟩,S1⟩:=M;simp only at h0 h1 ar a4 ai;subst h0;have a3:=fun W Z (hW:Ig W ps S1 Z)=>In hW ar hk.joins hk.way f9 m hl a4 h1;have an:=fun W Z (hi2:Fv S2) (ho:o<2^64) (hW:Ig W ps S2 Z)=>zi hW hi2 l_ o ho h2;rw[<-e1,<-e2] at an;simp only[fE,Id,eS] at ai an⊢;have B1:=c_ w (Xk ps l_);have q1:=heap_alloc_new w (Xk ps l_);generalize a6:w.alloc (Xk ps l_)=w1 at*;have z1:w1.1.size=w.1.size+1:=by rw[<-a6];simp
 have A2:=c_ w1 (Xe k v);have B2:=B1.alloc B1.size (Xe k v);have q2:=(A2.block w.1.size o_).T q1;have z2:(w1.alloc (Xe k v)).1.size=w.1.size+2:=by simp[z1]
 generalize a':w1.alloc (Xe k v)=w2 at*;have A3:=c_ w2 (.cells #[Xu 0,Xu 0] 104);have q3:=(A3.block w.1.size o_).T q2;have B3:=B2.alloc B2.size (.cells #[Xu 0,Xu 0] 104);have y3:=heap_alloc_new w2 (.cells #[Xu 0,Xu 0] 104);rw[z2] at y3;have z3:(w2.alloc (.cells #[Xu 0,Xu 0] 104)).1.size=w.1.size+3:=by simp[z2]
 subst a' a6;have hY:=h.yl;have HG:=kq9 ai a3 an (h.wide B3) q3 y3 z3 B3 hY;clear ai a3 an h q1 q2 q3 y3 A2 A3 B1 B2 B3 z1 z2 z3 ar h1 h2 e1 e2 hm hk hY hx;go_enter func301,ntmps301;go_wp2_with fail;refine(HG.a _ _ HG.d).M ?_;rintro e w4 ⟨rfl,h4,k4⟩;have q4:=(k4.block w.1.size (ae ⟨Nat.le_refl _,by have:=HG.g;omega⟩)).T HG.e;have y4:=(k4.block (w.1.size+2) (ae ⟨o_,by have:=HG.g;omega⟩)).T HG.f;obtain⟨c0,c1⟩:=Fp q4;have H4:=kq4 h4 k4 q4 y4;clear h4 k4 q4 y4;go_wp2_with fail;obtain⟨hp,a2,a7,a5⟩:=HG.b _ _ H4.a;refine hp.M ?_;rintro e w5 ⟨rfl,h5,k5⟩;have q5:=(k5.block w.1.size (ae ⟨Nat.le_refl _,by have:=HG.g;omega⟩)).T H4.c;have y5:=(k5.block (w.1.size+2) (ae ⟨o_,by have:=HG.g;omega⟩)).T H4.d;obtain⟨d0,d1⟩:=Fp q5;have H5:=kq6 h5 (H4.b.T k5) a2 a7 y5 a5;clear h5 k5 q5 y5 hp a2 a7 a5 c0 c1;go_wp2_with fail;refine(HG.c _ _ H5.c H5.f H5.a).M ?_;rintro e w6 ⟨rfl,h6,au⟩;have y6:=(au.block (w.1.size+2) (ae ⟨o_,by have:=HG.g;omega⟩)).T H5.e;obtain⟨e0,e1⟩:=Fp y6;obtain⟨f0,f1⟩:=ef y6;have q7:((w6.setCell (y_ (w.1.size+2)) (Xu ik)).setCell (x_ (w.1.size+2) 1) (Xu iv)).1[w.1.size+2]?=_:=ew y6 (Xu ik) (Xu iv);have o7:∀k,k≠w.1.size+2->((w6.setCell (y_ (w.1.size+2)) (Xu ik)).setCell (x_ (w.1.size+2) 1) (Xu iv)).1[k]?=w6.1[k]?:=fun k hk=>fA hk _ _;have z7:((w6.setCell (y_ (w.1.size+2)) (Xu ik)).setCell (x_ (w.1.size+2) 1) (Xu iv)).1.size=w6.1.size:=s_
 have s7:((w6.setCell (y_ (w.1.size+2)) (Xu ik)).setCell (x_ (w.1.size+2) 1) (Xu iv)).os=w6.os/\((w6.setCell (y_ (w.1.size+2)) (Xu ik)).setCell (x_ (w.1.size+2) 1) (Xu iv)).tape=w6.tape/\((w6.setCell (y_ (w.1.size+2)) (Xu ik)).setCell (x_ (w.1.size+2) 1) (Xu iv)).output=w6.output:=⟨rfl,rfl,rfl⟩;have ba:∀k,Y k->k<w.1.size:=HG.i;have k6:=H5.b.T au;have H6:=kq9 h6 k6 H5.c H5.d y6 q7 o7 z7 s7;clear y6 d0 d1 h6 k6 au o7 z7 s7 q7;go_wp2_with fail;generalize ((w6.setCell (y_ (w.1.size+2)) (Xu ik)).setCell (x_ (w.1.size+2) 1) (Xu iv))=w7 at*;have q7:=H6.f;obtain⟨I,a0,ap⟩:∃I:World->Prop,(∀w',I w'->w'.1[w.1.size+2]?=some (Xe ik iv))/\(∀w',w'.1[w.1.size+2]?=some (Xe ik iv)->I w'):=⟨fun w'=>w'.1[w.1.size+2]?=some (Xe ik iv),fun _ h=>h,fun _ a=>a⟩;have a8:=fun x:Fq I=>a0 _ x.ok;obtain⟨m0,m1⟩:=mt a8;obtain⟨g0,g1⟩:=Fp q7;obtain⟨h0,h1⟩:=ef q7;have HI:=If ap;have a9:I w7.drew:=ap _ q7;have HQ:=If q7;clear e0 e1 f0 f1 q7 a0 ap a8;refine nF I [(true,0),(true,1),(true,2),(true,3),(false,4),(false,5),(false,6),(false,7)] k_ k_ a9 ?_
 iterate 4
  refine' mT ?_ ?_;rotate_left
  ·intro x;go_simp
   try rfl
  try simp only[pu]
 refine mD fun K hK=>?_;go_simp
 try go_simp
 refine hK.O _ _ (HI.O _ HQ.O) ?_;clear hK K
 try simp only[pu]
 refine mD fun K hK=>?_;go_simp;have q8:((w7.setCell (y_ (w.1.size+2)) (Xu ik)).setCell (x_ (w.1.size+2) 1) (Xu iv)).drew.1[w.1.size+2]?=_:=ew HQ.O (Xu ik) (Xu iv);have o8:∀k,k≠w.1.size+2->((w7.setCell (y_ (w.1.size+2)) (Xu ik)).setCell (x_ (w.1.size+2) 1) (Xu iv)).drew.1[k]?=w7.1[k]?:=fun k hk=>fA hk _ _;have z8:((w7.setCell (y_ (w.1.size+2)) (Xu ik)).setCell (x_ (w.1.size+2) 1) (Xu iv)).drew.1.size=w7.1.size:=by show ((w7.setCell (y_ (w.1.size+2)) (Xu ik)).setCell (x_ (w.1.size+2) 1) (Xu iv)).1.size=_;simp
 have s8:((w7.setCell (y_ (w.1.size+2)) (Xu ik)).setCell (x_ (w.1.size+2) 1) (Xu iv)).drew.os=w7.os/\((w7.setCell (y_ (w.1.size+2)) (Xu ik)).setCell (x_ (w.1.size+2) 1) (Xu iv)).drew.tape=w7.tape/\((w7.setCell (y_ (w.1.size+2)) (Xu ik)).setCell (x_ (w.1.size+2) 1) (Xu iv)).drew.output=w7.output:=⟨rfl,rfl,rfl⟩;generalize ((w7.setCell (y_ (w.1.size+2)) (Xu ik)).setCell (x_ (w.1.size+2) 1) (Xu iv)).drew=w8 at*
 try go_simp
 refine hK.O _ _ (HI.O _ q8) ?_;clear hK K
 try simp only[pu]
 refine mD fun K hK=>?_;go_simp
 try go_simp
 refine hK.O _ _ (HI.O _ q8) ?_;clear hK K
 try simp only[pu]
 refine mD fun K hK=>?_;go_simp
 try go_simp
 refine hK.O _ _ (HI.O _ q8) ?_;clear hK K
 try simp only[pu]
 refine mX ?_;obtain⟨e0,e1⟩:=Fp q8;have a1:Ig w8 ps S' Y/\Fo Y w w8:=by
  obtain⟨h6,k6,-,-,y6,-,o7,z7,s7⟩:=H6.O;have hY:=HG.i;have hz:=HG.g;have hw:∀k,k≠w.1.size+2->w8.1[k]?=w6.1[k]?:=fun k hk=>(o8 k hk).T (o7 k hk);refine⟨(h6.write (ae ⟨o_,o_⟩) y6 ⟨d_,d_⟩ s_ o_ fun k _ hk=>hw k hk).M fun k hk=>ab hk,?_⟩;have ad:=(Fo.v_ HG.h hY).T (k6.M fun k hk=>ab hk);exact⟨(s8.1.T s7.1).T ad.os,(s8.2.1.T s7.2.1).T ad.tape,(s8.2.2.T s7.2.2).T ad.output,by have:=ad.size;omega,fun k hk=>(hw k (by have:=hY k hk;omega)).T (ad.block k hk)⟩
 have HF:=If a1;clear a1 q8 o8 z8 s8 g0 g1 h0 h1 m0 m1;go_wp2_with fail;exact bodyPost_ret (v:=.tuple #[Xu x,.agg #[Xu ik,Xu iv],.bool true,Xi 0]) (by simp[results,f301,go_sem,e0,e1]) rfl ⟨rfl,HF.O.1,HF.O.2,hi',H6.d⟩
theorem gW(h:Ig w ps S Y)(tu:Bool)(hh:Nat):(z_ S tu hh).1<2^64/\(z_ S tu hh).2<2^64:=by
 have:=fs h hh;unfold z_
 split
 ·exact⟨this.right,this.left⟩
 ·exact⟨this.left,this.right⟩
theorem qOaac{P:Prop}(h:P:=by
 go_wp2_with fail;clear c0 c1;go_ret;exact⟨rfl,H2.a.M (fun k hk=>ab hk),H2.c⟩):P:=h
theorem DU{S S':St}(h:Ig w ps S Y)(hi:Fv S)(tu:Bool)(m t low:Nat)(hm:m<2^64)(ht:t<2^64)(hw:low<2^64)(d:Nat)(hd:d<=200)(h200:d=200)(hp:putJ S tu m t low true=some S'):
 Ct 221 #[ma ps tu,Xu t,Xu m,Xu low,Xi d] w fun e w'=>e=.returned (Xu m)/\Ig w' ps S' Y/\Fo Y w w':=by
 unfold ma;have cp:=fun W (hW:Ig W ps S (fun k=>Y k\/(w.1.size<=k/\k<w.1.size+1)))=>jW hW hi tu m t low true hm ht hw hp;subst h200;unfold ma at cp;have q0:=heap_alloc_new w (Xd ps tu);have B0:=c_ w (Xd ps tu);have an:(w.alloc (Xd ps tu)).1.size=w.1.size+1:=s_
 have z0:=h.wide B0;rw[an] at z0;have k0:Fo Y w (w.alloc (Xd ps tu)):=Fo.v_ B0 h.yl;have au:w.1.size<(w.alloc (Xd ps tu)).1.size:=o_
 have HG:=If cp;clear cp hp hi au an hd;have H0:=kq3 z0 q0 k0;clear z0 q0 k0 B0 h;go_enter func221,ntmps221;go_wp2_with fail;have ap:w.1.size<(w.alloc (Xd ps tu)).1.size:=s_
 have ar:∀x:Fq (Below (w.alloc (Xd ps tu)).1.size (w.alloc (Xd ps tu))),x.to.cell? (y_ w.1.size)=some (PV ps):=fun x=>by rw[q_ ((x.ok.block _ ap).T H0.b)];rfl
 generalize a0:w.alloc (Xd ps tu)=W0 at*;refine iq (D_ W0) k_ k_ (aa _ _).drew (fun _=>?_)
 repeat (first | go_big_quiet_skip | (go_big_quiet_want;go_big_quiet_op;go_big_quiet_on))
 refine wpQuiet_nil ?_;rintro _ ⟨v,rfl⟩;have rr:=(v.ok.block w.1.size ap).T H0.b;have hs:=H0.a.a_ v.ok;have hk:=H0.c.T ((H0.a.w_ v.ok).M (fun k hk=>ab hk));obtain⟨w1,ai⟩:=Ii v.to;rw[ai] at rr hs hk⊢;clear ai v ar;obtain⟨c0,c1⟩:=Fp rr;have H1:=kq3 hs rr hk;clear rr hs hk;go_wp2_with fail;clear c0 c1;refine(HG.O _ H1.a).M ?_;rintro e w2 ⟨rfl,hs,ad⟩;have rr:=(ad.block w.1.size (ae ⟨Nat.le_refl _,aZ _⟩)).T H1.b;have hk:=H1.c.T (ad.M (fun k hk=>ab hk));obtain⟨c0,c1⟩:=Fp rr;have H2:=kq3 hs rr hk;clear ad rr hs hk;exact qOaac
theorem DW{S S':St}(h:Ig w ps S Y)(hi:Fv S)(tu:Bool)(m t low:Nat)(hm:m<2^64)(ht:t<2^64)(hw:low<2^64)(d:Nat)(_:d<=200)(h200:d≠200)(hr:F5 S t=false)(hb:C7 S t=C7 S low)(hp:putJ S tu m t low true=some S'):
 Ct 221 #[ma ps tu,Xu t,Xu m,Xu low,Xi d] w fun e w'=>e=.returned (Xu m)/\Ig w' ps S' Y/\Fo Y w w':=by
 unfold ma;have cp:=fun W (hW:Ig W ps S (fun k=>Y k\/(w.1.size<=k/\k<w.1.size+1)))=>jW hW hi tu m t low true hm ht hw hp;have an:=fun W (hW:Ig W ps S (fun k=>Y k\/(w.1.size<=k/\k<w.1.size+1)))=>gq hW hi t ht;have ad:=fun W (hW:Ig W ps S (fun k=>Y k\/(w.1.size<=k/\k<w.1.size+1)))=>gy hW hi t ht;have a0:=fun W (hW:Ig W ps S (fun k=>Y k\/(w.1.size<=k/\k<w.1.size+1)))=>gy hW hi low hw;rw[hr] at an;rw[hb] at ad;generalize C7 S low=bk at*;have hq:((d:Int)==200)=false:=m_
 unfold ma at cp;have q0:=heap_alloc_new w (Xd ps tu);have B0:=c_ w (Xd ps tu);have a2:(w.alloc (Xd ps tu)).1.size=w.1.size+1:=s_
 have z0:=h.wide B0;rw[a2] at z0;have k0:Fo Y w (w.alloc (Xd ps tu)):=Fo.v_ B0 h.yl;have a5:w.1.size<(w.alloc (Xd ps tu)).1.size:=o_
 have HG:=kq4 cp an ad a0;clear cp an ad a0 hp hi a5 a2 hr hb h200;have H0:=kq3 z0 q0 k0;clear z0 q0 k0 B0 h;go_enter func221,ntmps221;go_wp2_with fail;have a3:w.1.size<(w.alloc (Xd ps tu)).1.size:=s_
 have a4:∀x:Fq (Below (w.alloc (Xd ps tu)).1.size (w.alloc (Xd ps tu))),x.to.cell? (y_ w.1.size)=some (PV ps):=fun x=>by rw[q_ ((x.ok.block _ a3).T H0.b)];rfl
 have au:=fun x:Fq (Below (w.alloc (Xd ps tu)).1.size (w.alloc (Xd ps tu)))=>Calls.C6 (HG.b x.to (H0.a.a_ x.ok));have ar:=fun x:Fq (Below (w.alloc (Xd ps tu)).1.size (w.alloc (Xd ps tu)))=>Calls.C6 (HG.c x.to (H0.a.a_ x.ok));have ap:=fun x:Fq (Below (w.alloc (Xd ps tu)).1.size (w.alloc (Xd ps tu)))=>Calls.C6 (HG.d x.to (H0.a.a_ x.ok));generalize a6:w.alloc (Xd ps tu)=W0 at*;refine iq (D_ W0) k_ k_ (aa _ _).drew (fun _=>?_)
 repeat (first | go_big_quiet_skip | (go_big_quiet_want;go_big_quiet_op;first | go_big_quiet_on | (apply Exists.intro;refine⟨fun x=>?_,?_⟩;(· first | with_reducible exact au x | with_reducible exact ar x | with_reducible exact ap x);go_big_quiet_on)))
 refine wpQuiet_nil ?_;rintro _ ⟨v,rfl⟩;have rr:=(v.ok.block w.1.size a3).T H0.b;have hs:=H0.a.a_ v.ok;have hk:=H0.c.T ((H0.a.w_ v.ok).M (fun k hk=>ab hk));obtain⟨w1,a1⟩:=Ii v.to;rw[a1] at rr hs hk⊢;clear a1 v a4 au ar ap;obtain⟨c0,c1⟩:=Fp rr;have H1:=kq3 hs rr hk;clear rr hs hk;go_wp2_with fail;clear c0 c1;refine(HG.a _ H1.a).M ?_;rintro e w2 ⟨rfl,hs,ai⟩;have rr:=(ai.block w.1.size (ae ⟨Nat.le_refl _,aZ _⟩)).T H1.b;have hk:=H1.c.T (ai.M (fun k hk=>ab hk));obtain⟨c0,c1⟩:=Fp rr;have H2:=kq3 hs rr hk;clear ai rr hs hk;exact qOaac
theorem DV(h:Ig w ps S Y)(hi:Fv S)(tu:Bool)(m t low:Nat)(_:m<2^64)(ht:t<2^64)(_:low<2^64)(d:Nat)(hd:d<=200)(h200:d≠200)(hr:F5 S t=true){S1 S2:St}(hx1:x1<2^64)(hi1:Fv S1)(_:Fv S2)
 (cr:∀(W:World) (Z:Nat->Prop),Ig W ps S Z->Ct 221 #[ma ps tu,Xu (z_ S tu t).2,Xu m,Xu low,Xi ((d:Int)+1)] W fun e w'=>e=.returned (Xu x1)/\Ig w' ps S1 Z/\Fo Z W w')
 (hp:putJ S1 tu t (z_ S tu t).1 x1 (F5 S t)=some S2):
 Ct 221 #[ma ps tu,Xu t,Xu m,Xu low,Xi d] w fun e w'=>e=.returned (Xu t)/\Ig w' ps S2 Y/\Fo Y w w':=by
 have ar:=gW h tu t;unfold ma at cr⊢;have an:=fun W (hW:Ig W ps S (fun k=>Y k\/(w.1.size<=k/\k<w.1.size+1)))=>gq hW hi t ht;have ai:=fun W (hW:Ig W ps S (fun k=>Y k\/(w.1.size<=k/\k<w.1.size+1)))=>jX hW hi tu t ht;have cp:=fun W (hW:Ig W ps S1 (fun k=>Y k\/(w.1.size<=k/\k<w.1.size+1)))=>jW hW hi1 tu t (z_ S tu t).1 x1 (F5 S t) ht ar.1 hx1 hp;have cr:=fun W (hW:Ig W ps S (fun k=>Y k\/(w.1.size<=k/\k<w.1.size+1)))=>cr W _ hW;try unfold ma at ai
 try unfold ma at cp
 rw[hr] at an cp;obtain⟨⟨a7,own⟩,au⟩:∃r,z_ S tu t=r:=⟨_,rfl⟩;rw[au] at ai cp cr;simp only at ai cp cr;have hq:((d:Int)==200)=false:=m_
 have a6:IntKind.i64.wrap ((d:Int)+1)=(d:Int)+1:=ax _ o_;have q0:=heap_alloc_new w (Xd ps tu);have B0:=c_ w (Xd ps tu);have a1:(w.alloc (Xd ps tu)).1.size=w.1.size+1:=s_
 have z0:=h.wide B0;rw[a1] at z0;have k0:Fo Y w (w.alloc (Xd ps tu)):=Fo.v_ B0 h.yl;have a4:w.1.size<(w.alloc (Xd ps tu)).1.size:=o_
 have HG:=kq4 an ai cp cr;clear an ai cp cr hp hi hi1 a4 a1 hr h200 au ar;have H0:=kq3 z0 q0 k0;clear z0 q0 k0 B0 h;go_enter func221,ntmps221;go_wp2_with fail;have a2:w.1.size<(w.alloc (Xd ps tu)).1.size:=s_
 have a3:∀x:Fq (Below (w.alloc (Xd ps tu)).1.size (w.alloc (Xd ps tu))),x.to.cell? (y_ w.1.size)=some (PV ps):=fun x=>by rw[q_ ((x.ok.block _ a2).T H0.b)];rfl
 have ap:=fun x:Fq (Below (w.alloc (Xd ps tu)).1.size (w.alloc (Xd ps tu)))=>Calls.C6 (HG.a x.to (H0.a.a_ x.ok));generalize a5:w.alloc (Xd ps tu)=W0 at*;refine iq (D_ W0) k_ k_ (aa _ _).drew (fun _=>?_);repeat (first | go_big_quiet_skip | (go_big_quiet_want;go_big_quiet_op;first | go_big_quiet_on | (apply Exists.intro;refine⟨fun x=>?_,?_⟩;(· first | with_reducible exact ap x);go_big_quiet_on)))
 refine wpQuiet_nil ?_;rintro _ ⟨v,rfl⟩;have rr:=(v.ok.block w.1.size a2).T H0.b;have hs:=H0.a.a_ v.ok;have hk:=H0.c.T ((H0.a.w_ v.ok).M (fun k hk=>ab hk));obtain⟨w1,a0⟩:=Ii v.to;rw[a0] at rr hs hk⊢;clear a0 v a3 ap;obtain⟨c0,c1⟩:=Fp rr;have H1:=kq3 hs rr hk;clear rr hs hk;go_wp2_with fail;clear c0 c1;refine dR (HG.b _ H1.a) fun w2 hb=>?_;have rr:=(hb.block w.1.size (gl H1.b)).T H1.b;have hs:=H1.a.a_ hb;have hk:=H1.c.T ((H1.a.w_ hb).M (fun k hk=>ab hk));obtain⟨c0,c1⟩:=Fp rr;have H2:=kq3 hs rr hk;clear hb rr hs hk;go_wp2_with fail;clear c0 c1;refine dR (HG.a _ H2.a) fun w3 hb=>?_;have rr:=(hb.block w.1.size (gl H2.b)).T H2.b;have hs:=H2.a.a_ hb;have hk:=H2.c.T ((H2.a.w_ hb).M (fun k hk=>ab hk));obtain⟨c0,c1⟩:=Fp rr;have H3:=kq3 hs rr hk;clear hb rr hs hk;go_wp2_with fail;clear c0 c1;refine(HG.d _ H3.a).M ?_;rintro e w4 ⟨rfl,hs,ad⟩;have rr:=(ad.block w.1.size (ae ⟨Nat.le_refl _,aZ _⟩)).T H3.b;have hk:=H3.c.T (ad.M (fun k hk=>ab hk));obtain⟨c0,c1⟩:=Fp rr;have H4:=kq3 hs rr hk;clear ad rr hs hk;go_wp2_with fail;clear c0 c1;refine(HG.c _ H4.a).M ?_;rintro e w5 ⟨rfl,hs,ad⟩;have rr:=(ad.block w.1.size (ae ⟨Nat.le_refl _,aZ _⟩)).T H4.b;have hk:=H4.c.T (ad.M (fun k hk=>ab hk));obtain⟨c0,c1⟩:=Fp rr;have H5:=kq3 hs rr hk;clear ad rr hs hk;go_wp2_with fail;clear c0 c1;go_ret;exact⟨rfl,H5.a.M (fun k hk=>ab hk),H5.c⟩
theorem DR(h:Ig w ps S Y)(hi:Fv S)(tu:Bool)(m t low:Nat)(_:m<2^64)(ht:t<2^64)(hw:low<2^64)(d:Nat)(hd:d<=200)(h200:d≠200)(hr:F5 S t=false)(hb:C7 S t≠C7 S low){S1 S2:St}(hx1:x1<2^64)(hi1:Fv S1)(hi2:Fv S2)
 (cr:∀(W:World) (Z:Nat->Prop),Ig W ps S Z->Ct 221 #[ma ps tu,Xu (z_ S tu t).2,Xu m,Xu low,Xi ((d:Int)+1)] W fun e w'=>e=.returned (Xu x1)/\Ig w' ps S1 Z/\Fo Z W w')
 (hp:putJ S1 tu t (z_ S tu t).1 x1 (F5 S t)=some S2) (hf:F5 S2 x1=false):
 Ct 221 #[ma ps tu,Xu t,Xu m,Xu low,Xi d] w fun e w'=>e=.returned (Xu t)/\Ig w' ps S2 Y/\Fo Y w w':=by
 have a3:=gW h tu t;unfold ma at cr⊢;have an:=fun W (hW:Ig W ps S (fun k=>Y k\/(w.1.size<=k/\k<w.1.size+1)))=>gq hW hi t ht;have ai:=fun W (hW:Ig W ps S (fun k=>Y k\/(w.1.size<=k/\k<w.1.size+1)))=>jX hW hi tu t ht;have cp:=fun W (hW:Ig W ps S1 (fun k=>Y k\/(w.1.size<=k/\k<w.1.size+1)))=>jW hW hi1 tu t (z_ S tu t).1 x1 (F5 S t) ht a3.1 hx1 hp;have a2:=fun W (hW:Ig W ps S (fun k=>Y k\/(w.1.size<=k/\k<w.1.size+1)))=>gy hW hi t ht;have a1:=fun W (hW:Ig W ps S (fun k=>Y k\/(w.1.size<=k/\k<w.1.size+1)))=>gy hW hi low hw;have ap:=fun W (hW:Ig W ps S2 (fun k=>Y k\/(w.1.size<=k/\k<w.1.size+1)))=>gq hW hi2 x1 hx1;have cr:=fun W (hW:Ig W ps S (fun k=>Y k\/(w.1.size<=k/\k<w.1.size+1)))=>cr W _ hW;try unfold ma at ai
 try unfold ma at cp
 rw[hr] at an cp;rw[hf] at ap;have bb:(((C7 S t:Nat):Int)==(C7 S low:Nat))=false:=m_
 generalize C7 S t=bk1 at*;generalize C7 S low=bk2 at*;obtain⟨⟨bc,own⟩,a4⟩:∃r,z_ S tu t=r:=⟨_,rfl⟩;rw[a4] at ai cp cr;simp only at ai cp cr;have hq:((d:Int)==200)=false:=m_
 have ba:IntKind.i64.wrap ((d:Int)+1)=(d:Int)+1:=ax _ o_;have q0:=heap_alloc_new w (Xd ps tu);have B0:=c_ w (Xd ps tu);have a6:(w.alloc (Xd ps tu)).1.size=w.1.size+1:=s_
 have z0:=h.wide B0;rw[a6] at z0;have k0:Fo Y w (w.alloc (Xd ps tu)):=Fo.v_ B0 h.yl;have a9:w.1.size<(w.alloc (Xd ps tu)).1.size:=o_
 have HG:=kq7 an ai cp a2 a1 ap cr;clear an ai cp a2 a1 ap cr hp hi hi1 hi2 a9 a6 hr h200 a4 a3 hb hf;have H0:=kq3 z0 q0 k0;clear z0 q0 k0 B0 h;go_enter func221,ntmps221;go_wp2_with fail;have a7:w.1.size<(w.alloc (Xd ps tu)).1.size:=s_
 have a8:∀x:Fq (Below (w.alloc (Xd ps tu)).1.size (w.alloc (Xd ps tu))),x.to.cell? (y_ w.1.size)=some (PV ps):=fun x=>by rw[q_ ((x.ok.block _ a7).T H0.b)];rfl
 have a0:=fun x:Fq (Below (w.alloc (Xd ps tu)).1.size (w.alloc (Xd ps tu)))=>Calls.C6 (HG.a x.to (H0.a.a_ x.ok));have au:=fun x:Fq (Below (w.alloc (Xd ps tu)).1.size (w.alloc (Xd ps tu)))=>Calls.C6 (HG.d x.to (H0.a.a_ x.ok));have ar:=fun x:Fq (Below (w.alloc (Xd ps tu)).1.size (w.alloc (Xd ps tu)))=>Calls.C6 (HG.e x.to (H0.a.a_ x.ok));generalize a':w.alloc (Xd ps tu)=W0 at*;refine iq (D_ W0) k_ k_ (aa _ _).drew (fun _=>?_);repeat (first | go_big_quiet_skip | (go_big_quiet_want;go_big_quiet_op;first | go_big_quiet_on | (apply Exists.intro;refine⟨fun x=>?_,?_⟩;(· first | with_reducible exact a0 x | with_reducible exact au x | with_reducible exact ar x);go_big_quiet_on)))
 refine wpQuiet_nil ?_;rintro _ ⟨v,rfl⟩;have rr:=(v.ok.block w.1.size a7).T H0.b;have hs:=H0.a.a_ v.ok;have hk:=H0.c.T ((H0.a.w_ v.ok).M (fun k hk=>ab hk));obtain⟨w1,a5⟩:=Ii v.to;rw[a5] at rr hs hk⊢;clear a5 v a8 a0 au ar;obtain⟨c0,c1⟩:=Fp rr;have H1:=kq3 hs rr hk;clear rr hs hk;go_wp2_with fail;clear c0 c1;refine dR (HG.b _ H1.a) fun w2 hb=>?_;have rr:=(hb.block w.1.size (gl H1.b)).T H1.b;have hs:=H1.a.a_ hb;have hk:=H1.c.T ((H1.a.w_ hb).M (fun k hk=>ab hk));obtain⟨c0,c1⟩:=Fp rr;have H2:=kq3 hs rr hk;clear hb rr hs hk;go_wp2_with fail;clear c0 c1;refine dR (HG.a _ H2.a) fun w3 hb=>?_;have rr:=(hb.block w.1.size (gl H2.b)).T H2.b;have hs:=H2.a.a_ hb;have hk:=H2.c.T ((H2.a.w_ hb).M (fun k hk=>ab hk));obtain⟨c0,c1⟩:=Fp rr;have H3:=kq3 hs rr hk;clear hb rr hs hk;go_wp2_with fail;clear c0 c1;refine(HG.g _ H3.a).M ?_;rintro e w4 ⟨rfl,hs,ad⟩;have rr:=(ad.block w.1.size (ae ⟨Nat.le_refl _,aZ _⟩)).T H3.b;have hk:=H3.c.T (ad.M (fun k hk=>ab hk));obtain⟨c0,c1⟩:=Fp rr;have H4:=kq3 hs rr hk;clear ad rr hs hk;go_wp2_with fail;clear c0 c1;refine(HG.c _ H4.a).M ?_;rintro e w5 ⟨rfl,hs,ad⟩;have rr:=(ad.block w.1.size (ae ⟨Nat.le_refl _,aZ _⟩)).T H4.b;have hk:=H4.c.T (ad.M (fun k hk=>ab hk));obtain⟨c0,c1⟩:=Fp rr;have H5:=kq3 hs rr hk;clear ad rr hs hk;go_wp2_with fail;clear c0 c1;refine dR (HG.f _ H5.a) fun w6 hb=>?_;have rr:=(hb.block w.1.size (gl H5.b)).T H5.b;have hs:=H5.a.a_ hb;have hk:=H5.c.T ((H5.a.w_ hb).M (fun k hk=>ab hk));obtain⟨c0,c1⟩:=Fp rr;have H6:=kq3 hs rr hk;clear hb rr hs hk;go_wp2_with fail;clear c0 c1;go_ret;exact⟨rfl,H6.a.M (fun k hk=>ab hk),H6.c⟩
theorem DS(h:Ig w ps S Y)(hi:Fv S)(tu:Bool)(m t low:Nat)(_:m<2^64)(ht:t<2^64)(hw:low<2^64)(d:Nat)(hd:d<=200)(h200:d≠200)(hr:F5 S t=false)(hb:C7 S t≠C7 S low){S1 S2:St}(hx1:x1<2^64)(hi1:Fv S1)(hi2:Fv S2)
 (cr:∀(W:World) (Z:Nat->Prop),Ig W ps S Z->Ct 221 #[ma ps tu,Xu (z_ S tu t).2,Xu m,Xu low,Xi ((d:Int)+1)] W fun e w'=>e=.returned (Xu x1)/\Ig w' ps S1 Z/\Fo Z W w')
 (hp:putJ S1 tu t (z_ S tu t).1 x1 (F5 S t)=some S2) (hf:F5 S2 x1=true) (hg:F5 S2 (z_ S2 tu x1).2=false):
 Ct 221 #[ma ps tu,Xu t,Xu m,Xu low,Xi d] w fun e w'=>e=.returned (Xu t)/\Ig w' ps S2 Y/\Fo Y w w':=by
 have a5:=gW h tu t;unfold ma at cr⊢;have ar:=fun W (hW:Ig W ps S (fun k=>Y k\/(w.1.size<=k/\k<w.1.size+1)))=>gq hW hi t ht;have an:=fun W (hW:Ig W ps S (fun k=>Y k\/(w.1.size<=k/\k<w.1.size+1)))=>jX hW hi tu t ht;have cp:=fun W (hW:Ig W ps S1 (fun k=>Y k\/(w.1.size<=k/\k<w.1.size+1)))=>jW hW hi1 tu t (z_ S tu t).1 x1 (F5 S t) ht a5.1 hx1 hp;have a4:=fun W (hW:Ig W ps S (fun k=>Y k\/(w.1.size<=k/\k<w.1.size+1)))=>gy hW hi t ht;have a3:=fun W (hW:Ig W ps S (fun k=>Y k\/(w.1.size<=k/\k<w.1.size+1)))=>gy hW hi low hw;have au:=fun W (hW:Ig W ps S2 (fun k=>Y k\/(w.1.size<=k/\k<w.1.size+1)))=>gq hW hi2 x1 hx1;have ap:=fun W (hW:Ig W ps S2 (fun k=>Y k\/(w.1.size<=k/\k<w.1.size+1)))=>jX hW hi2 tu x1 hx1;have ai:=fun W (hW:Ig W ps S2 (fun k=>Y k\/(w.1.size<=k/\k<w.1.size+1)))=>gq hW hi2 (z_ S2 tu x1).2 (gW hW tu x1).2;have cr:=fun W (hW:Ig W ps S (fun k=>Y k\/(w.1.size<=k/\k<w.1.size+1)))=>cr W _ hW;try unfold ma at an
 try unfold ma at cp
 try unfold ma at ap
 rw[hr] at ar cp;rw[hf] at au;have bf:(((C7 S t:Nat):Int)==(C7 S low:Nat))=false:=m_
 generalize C7 S t=bk1 at*;generalize C7 S low=bk2 at*;rw[hg] at ai;obtain⟨⟨bj,own⟩,a6⟩:∃r,z_ S tu t=r:=⟨_,rfl⟩;rw[a6] at an cp cr;simp only at an cp cr;obtain⟨⟨sa,sb⟩,a7⟩:∃r,z_ S2 tu x1=r:=⟨_,rfl⟩;rw[a7] at ap ai;simp only at ap ai;have hq:((d:Int)==200)=false:=m_
 have bd:IntKind.i64.wrap ((d:Int)+1)=(d:Int)+1:=ax _ o_;have q0:=heap_alloc_new w (Xd ps tu);have B0:=c_ w (Xd ps tu);have a9:(w.alloc (Xd ps tu)).1.size=w.1.size+1:=s_
 have z0:=h.wide B0;rw[a9] at z0;have k0:Fo Y w (w.alloc (Xd ps tu)):=Fo.v_ B0 h.yl;have bb:w.1.size<(w.alloc (Xd ps tu)).1.size:=o_
 have HG:=kq9 ar an cp a4 a3 au ap ai cr;clear ar an cp a4 a3 au ap ai cr hp hi hi1 hi2 bb a9 hr h200 a6 a5 hb hf hg a7;have H0:=kq3 z0 q0 k0;clear z0 q0 k0 B0 h;go_enter func221,ntmps221;go_wp2_with fail;have a':w.1.size<(w.alloc (Xd ps tu)).1.size:=s_
 have ba:∀x:Fq (Below (w.alloc (Xd ps tu)).1.size (w.alloc (Xd ps tu))),x.to.cell? (y_ w.1.size)=some (PV ps):=fun x=>by rw[q_ ((x.ok.block _ a').T H0.b)];rfl
 have a2:=fun x:Fq (Below (w.alloc (Xd ps tu)).1.size (w.alloc (Xd ps tu)))=>Calls.C6 (HG.a x.to (H0.a.a_ x.ok));have a1:=fun x:Fq (Below (w.alloc (Xd ps tu)).1.size (w.alloc (Xd ps tu)))=>Calls.C6 (HG.d x.to (H0.a.a_ x.ok));have a0:=fun x:Fq (Below (w.alloc (Xd ps tu)).1.size (w.alloc (Xd ps tu)))=>Calls.C6 (HG.e x.to (H0.a.a_ x.ok));generalize bc:w.alloc (Xd ps tu)=W0 at*;refine iq (D_ W0) k_ k_ (aa _ _).drew (fun _=>?_);repeat (first | go_big_quiet_skip | (go_big_quiet_want;go_big_quiet_op;first | go_big_quiet_on | (apply Exists.intro;refine⟨fun x=>?_,?_⟩;(· first | with_reducible exact a2 x | with_reducible exact a1 x | with_reducible exact a0 x);go_big_quiet_on)))
 refine wpQuiet_nil ?_;rintro _ ⟨v,rfl⟩;have rr:=(v.ok.block w.1.size a').T H0.b;have hs:=H0.a.a_ v.ok;have hk:=H0.c.T ((H0.a.w_ v.ok).M (fun k hk=>ab hk));obtain⟨w1,a8⟩:=Ii v.to;rw[a8] at rr hs hk⊢;clear a8 v ba a2 a1 a0;obtain⟨c0,c1⟩:=Fp rr;have H1:=kq3 hs rr hk;clear rr hs hk;go_wp2_with fail;clear c0 c1;refine dR (HG.b _ H1.a) fun w2 hb=>?_;have rr:=(hb.block w.1.size (gl H1.b)).T H1.b;have hs:=H1.a.a_ hb;have hk:=H1.c.T ((H1.a.w_ hb).M (fun k hk=>ab hk));obtain⟨c0,c1⟩:=Fp rr;have H2:=kq3 hs rr hk;clear hb rr hs hk;go_wp2_with fail;clear c0 c1;refine dR (HG.a _ H2.a) fun w3 hb=>?_;have rr:=(hb.block w.1.size (gl H2.b)).T H2.b;have hs:=H2.a.a_ hb;have hk:=H2.c.T ((H2.a.w_ hb).M (fun k hk=>ab hk));obtain⟨c0,c1⟩:=Fp rr;have H3:=kq3 hs rr hk;clear hb rr hs hk;go_wp2_with fail;clear c0 c1;refine(HG.i _ H3.a).M ?_;rintro e w4 ⟨rfl,hs,ad⟩;have rr:=(ad.block w.1.size (ae ⟨Nat.le_refl _,aZ _⟩)).T H3.b;have hk:=H3.c.T (ad.M (fun k hk=>ab hk));obtain⟨c0,c1⟩:=Fp rr;have H4:=kq3 hs rr hk;clear ad rr hs hk;go_wp2_with fail;clear c0 c1;refine(HG.c _ H4.a).M ?_;rintro e w5 ⟨rfl,hs,ad⟩;have rr:=(ad.block w.1.size (ae ⟨Nat.le_refl _,aZ _⟩)).T H4.b;have hk:=H4.c.T (ad.M (fun k hk=>ab hk));obtain⟨c0,c1⟩:=Fp rr;have H5:=kq3 hs rr hk;clear ad rr hs hk;go_wp2_with fail;clear c0 c1;refine dR (HG.f _ H5.a) fun w6 hb=>?_;have rr:=(hb.block w.1.size (gl H5.b)).T H5.b;have hs:=H5.a.a_ hb;have hk:=H5.c.T ((H5.a.w_ hb).M (fun k hk=>ab hk));obtain⟨c0,c1⟩:=Fp rr;have H6:=kq3 hs rr hk;clear hb rr hs hk;go_wp2_with fail;clear c0 c1;refine dR (HG.g _ H6.a) fun w7 hb=>?_;have rr:=(hb.block w.1.size (gl H6.b)).T H6.b;have hs:=H6.a.a_ hb;have hk:=H6.c.T ((H6.a.w_ hb).M (fun k hk=>ab hk));obtain⟨c0,c1⟩:=Fp rr;have H7:=kq3 hs rr hk;clear hb rr hs hk;go_wp2_with fail;clear c0 c1;refine dR (HG.h _ H7.a) fun w8 hb=>?_;have rr:=(hb.block w.1.size (gl H7.b)).T H7.b;have hs:=H7.a.a_ hb;have hk:=H7.c.T ((H7.a.w_ hb).M (fun k hk=>ab hk));obtain⟨c0,c1⟩:=Fp rr;have H8:=kq3 hs rr hk;clear hb rr hs hk;go_wp2_with fail;clear c0 c1;go_ret;exact⟨rfl,H8.a.M (fun k hk=>ab hk),H8.c⟩
theorem DT(h:Ig w ps S Y)(hi:Fv S)(tu:Bool)(m t low:Nat)(_:m<2^64)(ht:t<2^64)(hw:low<2^64)(d:Nat)(hd:d<=200)(h200:d≠200)(hr:F5 S t=false)(hb:C7 S t≠C7 S low){S1 S2:St}(hx1:x1<2^64)(hi1:Fv S1)(hi2:Fv S2)
 (cr:∀(W:World) (Z:Nat->Prop),Ig W ps S Z->Ct 221 #[ma ps tu,Xu (z_ S tu t).2,Xu m,Xu low,Xi ((d:Int)+1)] W fun e w'=>e=.returned (Xu x1)/\Ig w' ps S1 Z/\Fo Z W w')
 (hp:putJ S1 tu t (z_ S tu t).1 x1 (F5 S t)=some S2) (hf:F5 S2 x1=true) (hg:F5 S2 (z_ S2 tu x1).2=true) {S3 S4 S5:St} (hp3:putJ S2 tu (z_ S2 tu x1).2 (z_ S2 tu (z_ S2 tu x1).2).1 (z_ S2 tu (z_ S2 tu x1).2).2 false=some S3)
 (hp4:putJ S3 tu t (z_ S tu t).1 (z_ S2 tu x1).1 false=some S4) (hp5:putJ S4 tu x1 t (z_ S2 tu x1).2 true=some S5):
 Ct 221 #[ma ps tu,Xu t,Xu m,Xu low,Xi d] w fun e w'=>e=.returned (Xu x1)/\Ig w' ps S5 Y/\Fo Y w w':=by
 have a7:=gW h tu t;unfold ma at cr⊢;have a4:=jV hi2 hp3;have bd:=jV a4 hp4;have a5:=fun W (hW:Ig W ps S (fun k=>Y k\/(w.1.size<=k/\k<w.1.size+1)))=>gq hW hi t ht;have a0:=fun W (hW:Ig W ps S (fun k=>Y k\/(w.1.size<=k/\k<w.1.size+1)))=>jX hW hi tu t ht;have cp:=fun W (hW:Ig W ps S1 (fun k=>Y k\/(w.1.size<=k/\k<w.1.size+1)))=>jW hW hi1 tu t (z_ S tu t).1 x1 (F5 S t) ht a7.1 hx1 hp;have bc:=fun W (hW:Ig W ps S (fun k=>Y k\/(w.1.size<=k/\k<w.1.size+1)))=>gy hW hi t ht;have bb:=fun W (hW:Ig W ps S (fun k=>Y k\/(w.1.size<=k/\k<w.1.size+1)))=>gy hW hi low hw;have a6:=fun W (hW:Ig W ps S2 (fun k=>Y k\/(w.1.size<=k/\k<w.1.size+1)))=>gq hW hi2 x1 hx1;have a1:=fun W (hW:Ig W ps S2 (fun k=>Y k\/(w.1.size<=k/\k<w.1.size+1)))=>jX hW hi2 tu x1 hx1;have au:=fun W (hW:Ig W ps S2 (fun k=>Y k\/(w.1.size<=k/\k<w.1.size+1)))=>gq hW hi2 (z_ S2 tu x1).2 (gW hW tu x1).2;have ap:=fun W (hW:Ig W ps S2 (fun k=>Y k\/(w.1.size<=k/\k<w.1.size+1)))=>jX hW hi2 tu (z_ S2 tu x1).2 (gW hW tu x1).2;have ai:=fun W (hW:Ig W ps S2 (fun k=>Y k\/(w.1.size<=k/\k<w.1.size+1)))=>And.intro (gW hW tu x1) (jW hW hi2 tu (z_ S2 tu x1).2 (z_ S2 tu (z_ S2 tu x1).2).1 (z_ S2 tu (z_ S2 tu x1).2).2 false (gW hW tu x1).2 (gW hW tu _).1 (gW hW tu _).2 hp3);have an:=fun W (hW:Ig W ps S3 (fun k=>Y k\/(w.1.size<=k/\k<w.1.size+1)))=>fun(q:(z_ S2 tu x1).1<2^64)=>jW hW a4 tu t (z_ S tu t).1 (z_ S2 tu x1).1 false ht a7.1 q hp4;have ar:=fun W (hW:Ig W ps S4 (fun k=>Y k\/(w.1.size<=k/\k<w.1.size+1)))=>fun(q:(z_ S2 tu x1).2<2^64)=>jW hW bd tu x1 t (z_ S2 tu x1).2 true hx1 ht q hp5;have cr:=fun W (hW:Ig W ps S (fun k=>Y k\/(w.1.size<=k/\k<w.1.size+1)))=>cr W _ hW;try unfold ma at a0
 try unfold ma at cp
 try unfold ma at a1
 try unfold ma at ap
 try unfold ma at ai
 try unfold ma at an
 try unfold ma at ar
 rw[hr] at a5 cp;rw[hf] at a6;have bx:(((C7 S t:Nat):Int)==(C7 S low:Nat))=false:=m_
 generalize C7 S t=bk1 at*;generalize C7 S low=bk2 at*;rw[hg] at au;obtain⟨⟨b0,own⟩,bf⟩:∃r,z_ S tu t=r:=⟨_,rfl⟩;rw[bf] at a0 cp cr an;simp only at a0 cp cr an;obtain⟨⟨sa,sb⟩,bj⟩:∃r,z_ S2 tu x1=r:=⟨_,rfl⟩;rw[bj] at a1 au ap ai an ar;simp only at a1 au ap ai an ar;obtain⟨⟨sc,sd⟩,bk⟩:∃r,z_ S2 tu sb=r:=⟨_,rfl⟩;rw[bk] at ap ai;simp only at ap ai;have hq:((d:Int)==200)=false:=m_
 have bv:IntKind.i64.wrap ((d:Int)+1)=(d:Int)+1:=ax _ o_;have q0:=heap_alloc_new w (Xd ps tu);have B0:=c_ w (Xd ps tu);have bo:(w.alloc (Xd ps tu)).1.size=w.1.size+1:=s_
 have z0:=h.wide B0;rw[bo] at z0;have k0:Fo Y w (w.alloc (Xd ps tu)):=Fo.v_ B0 h.yl;have bt:w.1.size<(w.alloc (Xd ps tu)).1.size:=o_
 have HG:=kq13 a5 a0 cp bc bb a6 a1 au ap ai an ar cr;clear a5 a0 cp bc bb a6 a1 au ap ai an ar cr hp hi hi1 hi2 bt bo hr h200 bf a7 hb hf hg bj bk hp3 hp4 hp5 a4 bd;have H0:=kq3 z0 q0 k0;clear z0 q0 k0 B0 h;go_enter func221,ntmps221;go_wp2_with fail;have bq:w.1.size<(w.alloc (Xd ps tu)).1.size:=s_
 have bs:∀x:Fq (Below (w.alloc (Xd ps tu)).1.size (w.alloc (Xd ps tu))),x.to.cell? (y_ w.1.size)=some (PV ps):=fun x=>by rw[q_ ((x.ok.block _ bq).T H0.b)];rfl
 have ba:=fun x:Fq (Below (w.alloc (Xd ps tu)).1.size (w.alloc (Xd ps tu)))=>Calls.C6 (HG.a x.to (H0.a.a_ x.ok));have a':=fun x:Fq (Below (w.alloc (Xd ps tu)).1.size (w.alloc (Xd ps tu)))=>Calls.C6 (HG.d x.to (H0.a.a_ x.ok));have a9:=fun x:Fq (Below (w.alloc (Xd ps tu)).1.size (w.alloc (Xd ps tu)))=>Calls.C6 (HG.e x.to (H0.a.a_ x.ok));generalize bu:w.alloc (Xd ps tu)=W0 at*;refine iq (D_ W0) k_ k_ (aa _ _).drew (fun _=>?_);repeat (first | go_big_quiet_skip | (go_big_quiet_want;go_big_quiet_op;first | go_big_quiet_on | (apply Exists.intro;refine⟨fun x=>?_,?_⟩;(· first | with_reducible exact ba x | with_reducible exact a' x | with_reducible exact a9 x);go_big_quiet_on)))
 refine wpQuiet_nil ?_;rintro _ ⟨v,rfl⟩;have rr:=(v.ok.block w.1.size bq).T H0.b;have hs:=H0.a.a_ v.ok;have hk:=H0.c.T ((H0.a.w_ v.ok).M (fun k hk=>ab hk));obtain⟨w1,bm⟩:=Ii v.to;rw[bm] at rr hs hk⊢;clear bm v bs ba a' a9;obtain⟨c0,c1⟩:=Fp rr;have H1:=kq3 hs rr hk;clear rr hs hk;go_wp2_with fail;clear c0 c1;refine dR (HG.b _ H1.a) fun w2 hb=>?_;have rr:=(hb.block w.1.size (gl H1.b)).T H1.b;have hs:=H1.a.a_ hb;have hk:=H1.c.T ((H1.a.w_ hb).M (fun k hk=>ab hk));obtain⟨c0,c1⟩:=Fp rr;have H2:=kq3 hs rr hk;clear hb rr hs hk;go_wp2_with fail;clear c0 c1;refine dR (HG.a _ H2.a) fun w3 hb=>?_;have rr:=(hb.block w.1.size (gl H2.b)).T H2.b;have hs:=H2.a.a_ hb;have hk:=H2.c.T ((H2.a.w_ hb).M (fun k hk=>ab hk));obtain⟨c0,c1⟩:=Fp rr;have H3:=kq3 hs rr hk;clear hb rr hs hk;go_wp2_with fail;clear c0 c1;refine(HG.m _ H3.a).M ?_;rintro e w4 ⟨rfl,hs,ad⟩;have rr:=(ad.block w.1.size (ae ⟨Nat.le_refl _,aZ _⟩)).T H3.b;have hk:=H3.c.T (ad.M (fun k hk=>ab hk));obtain⟨c0,c1⟩:=Fp rr;have H4:=kq3 hs rr hk;clear ad rr hs hk;go_wp2_with fail;clear c0 c1;refine(HG.c _ H4.a).M ?_;rintro e w5 ⟨rfl,hs,ad⟩;have rr:=(ad.block w.1.size (ae ⟨Nat.le_refl _,aZ _⟩)).T H4.b;have hk:=H4.c.T (ad.M (fun k hk=>ab hk));obtain⟨c0,c1⟩:=Fp rr;have H5:=kq3 hs rr hk;clear ad rr hs hk;go_wp2_with fail;clear c0 c1;refine dR (HG.f _ H5.a) fun w6 hb=>?_;have rr:=(hb.block w.1.size (gl H5.b)).T H5.b;have hs:=H5.a.a_ hb;have hk:=H5.c.T ((H5.a.w_ hb).M (fun k hk=>ab hk));obtain⟨c0,c1⟩:=Fp rr;have H6:=kq3 hs rr hk;clear hb rr hs hk;go_wp2_with fail;clear c0 c1;refine dR (HG.g _ H6.a) fun w7 hb=>?_;have rr:=(hb.block w.1.size (gl H6.b)).T H6.b;have hs:=H6.a.a_ hb;have hk:=H6.c.T ((H6.a.w_ hb).M (fun k hk=>ab hk));obtain⟨c0,c1⟩:=Fp rr;have H7:=kq3 hs rr hk;clear hb rr hs hk;go_wp2_with fail;clear c0 c1;refine dR (HG.h _ H7.a) fun w8 hb=>?_;have rr:=(hb.block w.1.size (gl H7.b)).T H7.b;have hs:=H7.a.a_ hb;have hk:=H7.c.T ((H7.a.w_ hb).M (fun k hk=>ab hk));obtain⟨c0,c1⟩:=Fp rr;have H8:=kq3 hs rr hk;clear hb rr hs hk;go_wp2_with fail;clear c0 c1;refine dR (HG.i _ H8.a) fun w9 hb=>?_;have rr:=(hb.block w.1.size (gl H8.b)).T H8.b;have hs:=H8.a.a_ hb;have hk:=H8.c.T ((H8.a.w_ hb).M (fun k hk=>ab hk));obtain⟨c0,c1⟩:=Fp rr;have H9:=kq3 hs rr hk;clear hb rr hs hk;go_wp2_with fail;clear c0 c1;obtain⟨qb,q3⟩:=HG.j _ H9.a;refine q3.M ?_;clear q3;rintro e b1 ⟨rfl,hs,ad⟩;have rr:=(ad.block w.1.size (ae ⟨Nat.le_refl _,aZ _⟩)).T H9.b;have hk:=H9.c.T (ad.M (fun k hk=>ab hk));obtain⟨c0,c1⟩:=Fp rr;have a2:=kq3 hs rr hk;have HQ:=If qb;clear ad rr hs hk qb;go_wp2_with fail;clear c0 c1;refine(HG.k _ a2.a HQ.O.1).M ?_;rintro e b2 ⟨rfl,hs,ad⟩;have rr:=(ad.block w.1.size (ae ⟨Nat.le_refl _,aZ _⟩)).T a2.b;have hk:=a2.c.T (ad.M (fun k hk=>ab hk));obtain⟨c0,c1⟩:=Fp rr;have a3:=kq3 hs rr hk;clear ad rr hs hk;go_wp2_with fail;clear c0 c1;refine(HG.l _ a3.a HQ.O.2).M ?_;rintro e b4 ⟨rfl,hs,ad⟩;have rr:=(ad.block w.1.size (ae ⟨Nat.le_refl _,aZ _⟩)).T a3.b;have hk:=a3.c.T (ad.M (fun k hk=>ab hk));obtain⟨c0,c1⟩:=Fp rr;have a8:=kq3 hs rr hk;clear ad rr hs hk;go_wp2_with fail;clear c0 c1;go_ret;exact⟨rfl,a8.a.M (fun k hk=>ab hk),a8.c⟩
theorem AW{tu:Bool}{S S':St}{t u_ x y:Nat}{is:Bool}(h:fixR tu S t u_ x is=some (y,S')):
 (is=true/\y=t/\S'=S)\/(is=false/\F5 S x=false/\y=t/\S'=S)\/(is=false/\F5 S x=true/\F5 S (z_ S tu x).2=false/\y=t/\S'=S)\/
 (is=false/\F5 S x=true/\F5 S (z_ S tu x).2=true/\y=x/\∃S3 S4,putJ S tu (z_ S tu x).2 (z_ S tu (z_ S tu x).2).1 (z_ S tu (z_ S tu x).2).2 false=some S3/\putJ S3 tu t u_ (z_ S tu x).1 false=some S4/\putJ S4 tu x t (z_ S tu x).2 true=some S'):=by
 unfold fixR at h;cases is with
 | true=>
  rw[if_pos (ab rfl)] at h;injection h with h
  injection h with e1 e2
  exact ab ⟨rfl,e1.S,e2.S⟩
 | false=>
  split at h
  ·rename_i hc;injection h with h
   injection h with e1 e2
   rcases hc with hc | hc
   ·cases hc
   ·exact ae (ab ⟨rfl,hc,e1.S,e2.S⟩)
  ·rename_i hc;have hx:F5 S x=true:=by simpa using hc
   split at h
   ·rename_i hb;injection h with h
    injection h with e1 e2
    exact ae (ae (ab ⟨rfl,hx,hb,e1.S,e2.S⟩))
   ·rename_i hb;have hb:F5 S (z_ S tu x).2=true:=by simpa using hb
    split at h
    ·cases h
    ·rename_i S3 h3;split at h
     ·cases h
     ·rename_i S4 h4;obtain⟨S5,h5,h6⟩:=aG.1 h;injection h6 with e1 e2
      subst e1 e2;exact ae (ae (ae ⟨rfl,hx,hb,rfl,S3,S4,h3,h4,h5⟩))
theorem rX(tu:Bool)(m:Nat)(hm:m<2^64):∀(f d:Nat),d+f=200->∀{w:World} {S S':St} {Y:Nat->Prop} {t low x:Nat},Ig w ps S Y->Fv S->t<2^64->low<2^64->
 joinR tu m f S t low=some (x,S')->
 Ct 221 #[ma ps tu,Xu t,Xu m,Xu low,Xi d] w fun e w'=>e=.returned (Xu x)/\Ig w' ps S' Y/\Fo Y w w':=by
 intro f;induction f with
 | zero=>
  intro d hd w S S' Y t low x h hi ht hw hj;rw[rf] at hj;obtain⟨S1,h1,h2⟩:=aG.1 hj;injection h2 with e1 e2
  subst e1 e2;exact DU h hi tu m t low hm ht hw d o_ o_ h1
 | succ f ih=>
  intro d hd w S S' Y t low x h hi ht hw hj;rw[re] at hj;split at hj
  ·rename_i hc;obtain⟨S1,h1,h2⟩:=aG.1 hj;injection h2 with e1 e2
   subst e1 e2;exact DW h hi tu m t low hm ht hw d o_ o_ hc.1 hc.2 h1
  ·rename_i hc;split at hj
   ·cases hj
   rename_i x1 S1 hj1;split at hj
   ·cases hj
   rename_i S2 hp;obtain⟨hj,-⟩:=lM hj;obtain⟨ai,ad⟩:=lU tu f hi hj1;have ad:=ad hm;have an:=jV ai hp;have cr:=fun(W:World) (Z:Nat->Prop) (hW:Ig W ps S Z)=>ih (d+1) o_ hW hi (gW h tu t).2 hw hj1;rcases AW hj with⟨c1,rfl,rfl⟩ | ⟨c1,c2,rfl,rfl⟩ | ⟨c1,c2,c3,rfl,rfl⟩ | ⟨c1,c2,c3,rfl,S3,S4,h3,h4,h5⟩
   ·exact DV h hi tu m _ low hm ht hw d o_ o_ c1 ad ai an cr hp
   ·exact DR h hi tu m _ low hm ht hw d o_ o_ c1 (fun e=>hc ⟨c1,e⟩) ad ai an cr hp c2
   ·exact DS h hi tu m _ low hm ht hw d o_ o_ c1 (fun e=>hc ⟨c1,e⟩) ad ai an cr hp c2 c3
   ·exact DT h hi tu m t low hm ht hw d o_ o_ c1 (fun e=>hc ⟨c1,e⟩) ad ai an cr hp c2 c3 h3 h4 h5
theorem Ia{S S1:St}(h:Ig w ps S Y)(hi:Fv S)(tu:Bool)(t m low:Nat)(hm:m<2^64)(ht:t<2^64)(hw:low<2^64)(hj:joinR tu m 200 S t low=some (x,S1))(c1:F5 S1 x=true)(c2:F5 S1 (z_ S1 tu x).2=true){S2:St}(hp:putJ S1 tu x (z_ S1 tu x).1 (z_ S1 tu x).2 false=some S2):
 Ct 189 #[ma ps tu,Xu t,Xu m,Xu low] w fun e w'=>e=.returned (Xu x)/\Ig w' ps S2 Y/\Fo Y w w':=by
 obtain⟨ai,hx⟩:=lU tu 200 hi hj;have hx:=hx hm;have cj:=fun W (hW:Ig W ps S (fun k=>Y k\/(w.1.size<=k/\k<w.1.size+1)))=>rX tu m hm 200 0 rfl hW hi ht hw hj;have ap:=fun W (hW:Ig W ps S1 (fun k=>Y k\/(w.1.size<=k/\k<w.1.size+1)))=>jX hW ai tu x hx;have ar:=fun W (hW:Ig W ps S1 (fun k=>Y k\/(w.1.size<=k/\k<w.1.size+1)))=>gq hW ai x hx;have an:=fun W (hW:Ig W ps S1 (fun k=>Y k\/(w.1.size<=k/\k<w.1.size+1)))=>gq hW ai (z_ S1 tu x).2 (gW hW tu x).2;have cp:=fun W (hW:Ig W ps S1 (fun k=>Y k\/(w.1.size<=k/\k<w.1.size+1)))=>jW hW ai tu x (z_ S1 tu x).1 (z_ S1 tu x).2 false hx (gW hW tu x).1 (gW hW tu x).2 hp;rw[c1] at ar;rw[c2] at an;unfold ma at cj;unfold ma at ap;unfold ma at cp;unfold ma;obtain⟨⟨sa,sb⟩,au⟩:∃r,z_ S1 tu x=r:=⟨_,rfl⟩;rw[au] at ap an cp;simp only at ap an cp;have q0:=heap_alloc_new w (Xd ps tu);have B0:=c_ w (Xd ps tu);have a0:(w.alloc (Xd ps tu)).1.size=w.1.size+1:=s_
 have z0:=h.wide B0;rw[a0] at z0;have k0:Fo Y w (w.alloc (Xd ps tu)):=Fo.v_ B0 h.yl;have a1:w.1.size<(w.alloc (Xd ps tu)).1.size:=o_
 have HG:=kq5 cj ap ar an cp;clear cj ap ar an cp hi ai a1 a0 au hj c1 c2 hp;have c0:(w.alloc (Xd ps tu)).cell? (y_ w.1.size)=some (PV ps):=e_ q0
 have c1:(w.alloc (Xd ps tu)).cell? (x_ w.1.size 1)=some (.bool tu):=e_ q0
 have H0:=kq3 z0 q0 k0;clear z0 q0 k0 B0 h;go_enter func189,ntmps189;go_wp2_with fail;clear c0 c1;refine(HG.a _ H0.a).M ?_;rintro e w1 ⟨rfl,hs,ad⟩;have rr:=(ad.block w.1.size (ae ⟨Nat.le_refl _,aZ _⟩)).T H0.b;have hk:=H0.c.T (ad.M (fun k hk=>ab hk));obtain⟨c0,c1⟩:=Fp rr;have H1:=kq3 hs rr hk;clear ad rr hs hk;go_wp2_with fail;clear c0 c1;refine dR (HG.b _ H1.a) fun w2 hb=>?_;have rr:=(hb.block w.1.size (gl H1.b)).T H1.b;have hs:=H1.a.a_ hb;have hk:=H1.c.T ((H1.a.w_ hb).M (fun k hk=>ab hk));obtain⟨c0,c1⟩:=Fp rr;have H2:=kq3 hs rr hk;clear hb rr hs hk;go_wp2_with fail;clear c0 c1;refine dR (HG.c _ H2.a) fun w3 hb=>?_;have rr:=(hb.block w.1.size (gl H2.b)).T H2.b;have hs:=H2.a.a_ hb;have hk:=H2.c.T ((H2.a.w_ hb).M (fun k hk=>ab hk));obtain⟨c0,c1⟩:=Fp rr;have H3:=kq3 hs rr hk;clear hb rr hs hk;go_wp2_with fail;clear c0 c1;refine dR (HG.d _ H3.a) fun w4 hb=>?_;have rr:=(hb.block w.1.size (gl H3.b)).T H3.b;have hs:=H3.a.a_ hb;have hk:=H3.c.T ((H3.a.w_ hb).M (fun k hk=>ab hk));obtain⟨c0,c1⟩:=Fp rr;have H4:=kq3 hs rr hk;clear hb rr hs hk;go_wp2_with fail;clear c0 c1;refine(HG.e _ H4.a).M ?_;rintro e w5 ⟨rfl,hs,ad⟩;have rr:=(ad.block w.1.size (ae ⟨Nat.le_refl _,aZ _⟩)).T H4.b;have hk:=H4.c.T (ad.M (fun k hk=>ab hk));obtain⟨c0,c1⟩:=Fp rr;have H5:=kq3 hs rr hk;clear ad rr hs hk;go_wp2_with fail;clear c0 c1;go_ret;exact⟨rfl,H5.a.M (fun k hk=>ab hk),H5.c⟩
theorem DZ{S S1:St}(h:Ig w ps S Y)(hi:Fv S)(tu:Bool)(t m low:Nat)(hm:m<2^64)(ht:t<2^64)(hw:low<2^64)(hj:joinR tu m 200 S t low=some (x,S1))(c1:F5 S1 x=true)(c2:F5 S1 (z_ S1 tu x).2=false):
 Ct 189 #[ma ps tu,Xu t,Xu m,Xu low] w fun e w'=>e=.returned (Xu x)/\Ig w' ps S1 Y/\Fo Y w w':=by
 obtain⟨an,hx⟩:=lU tu 200 hi hj;have hx:=hx hm;have cj:=fun W (hW:Ig W ps S (fun k=>Y k\/(w.1.size<=k/\k<w.1.size+1)))=>rX tu m hm 200 0 rfl hW hi ht hw hj;have ai:=fun W (hW:Ig W ps S1 (fun k=>Y k\/(w.1.size<=k/\k<w.1.size+1)))=>jX hW an tu x hx;have ar:=fun W (hW:Ig W ps S1 (fun k=>Y k\/(w.1.size<=k/\k<w.1.size+1)))=>gq hW an x hx;have ad:=fun W (hW:Ig W ps S1 (fun k=>Y k\/(w.1.size<=k/\k<w.1.size+1)))=>gq hW an (z_ S1 tu x).2 (gW hW tu x).2;rw[c1] at ar;rw[c2] at ad;unfold ma at cj;unfold ma at ai;unfold ma;obtain⟨⟨sa,sb⟩,au⟩:∃r,z_ S1 tu x=r:=⟨_,rfl⟩;rw[au] at ai ad;simp only at ai ad;have q0:=heap_alloc_new w (Xd ps tu);have B0:=c_ w (Xd ps tu);have a0:(w.alloc (Xd ps tu)).1.size=w.1.size+1:=s_
 have z0:=h.wide B0;rw[a0] at z0;have k0:Fo Y w (w.alloc (Xd ps tu)):=Fo.v_ B0 h.yl;have a1:w.1.size<(w.alloc (Xd ps tu)).1.size:=o_
 have HG:=kq4 cj ai ar ad;clear cj ai ar ad hi an a1 a0 au hj c1 c2;have c0:(w.alloc (Xd ps tu)).cell? (y_ w.1.size)=some (PV ps):=e_ q0
 have c1:(w.alloc (Xd ps tu)).cell? (x_ w.1.size 1)=some (.bool tu):=e_ q0
 have H0:=kq3 z0 q0 k0;clear z0 q0 k0 B0 h;go_enter func189,ntmps189;go_wp2_with fail;clear c0 c1;refine(HG.a _ H0.a).M ?_;rintro e w1 ⟨rfl,hs,ap⟩;have rr:=(ap.block w.1.size (ae ⟨Nat.le_refl _,aZ _⟩)).T H0.b;have hk:=H0.c.T (ap.M (fun k hk=>ab hk));obtain⟨c0,c1⟩:=Fp rr;have H1:=kq3 hs rr hk;clear ap rr hs hk;go_wp2_with fail;clear c0 c1;refine dR (HG.b _ H1.a) fun w2 hb=>?_;have rr:=(hb.block w.1.size (gl H1.b)).T H1.b;have hs:=H1.a.a_ hb;have hk:=H1.c.T ((H1.a.w_ hb).M (fun k hk=>ab hk));obtain⟨c0,c1⟩:=Fp rr;have H2:=kq3 hs rr hk;clear hb rr hs hk;go_wp2_with fail;clear c0 c1;refine dR (HG.c _ H2.a) fun w3 hb=>?_;have rr:=(hb.block w.1.size (gl H2.b)).T H2.b;have hs:=H2.a.a_ hb;have hk:=H2.c.T ((H2.a.w_ hb).M (fun k hk=>ab hk));obtain⟨c0,c1⟩:=Fp rr;have H3:=kq3 hs rr hk;clear hb rr hs hk;go_wp2_with fail;clear c0 c1;refine dR (HG.d _ H3.a) fun w4 hb=>?_;have rr:=(hb.block w.1.size (gl H3.b)).T H3.b;have hs:=H3.a.a_ hb;have hk:=H3.c.T ((H3.a.w_ hb).M (fun k hk=>ab hk));obtain⟨c0,c1⟩:=Fp rr;have H4:=kq3 hs rr hk;clear hb rr hs hk;go_wp2_with fail;clear c0 c1;go_ret;exact⟨rfl,H4.a.M (fun k hk=>ab hk),H4.c⟩
theorem DY{S S1:St}(h:Ig w ps S Y)(hi:Fv S)(tu:Bool)(t m low:Nat)(hm:m<2^64)(ht:t<2^64)(hw:low<2^64)(hj:joinR tu m 200 S t low=some (x,S1))(c1:F5 S1 x=false):
 Ct 189 #[ma ps tu,Xu t,Xu m,Xu low] w fun e w'=>e=.returned (Xu x)/\Ig w' ps S1 Y/\Fo Y w w':=by
 obtain⟨ai,hx⟩:=lU tu 200 hi hj;have hx:=hx hm;have cj:=fun W (hW:Ig W ps S (fun k=>Y k\/(w.1.size<=k/\k<w.1.size+1)))=>rX tu m hm 200 0 rfl hW hi ht hw hj;have ad:=fun W (hW:Ig W ps S1 (fun k=>Y k\/(w.1.size<=k/\k<w.1.size+1)))=>jX hW ai tu x hx;have ap:=fun W (hW:Ig W ps S1 (fun k=>Y k\/(w.1.size<=k/\k<w.1.size+1)))=>gq hW ai x hx;rw[c1] at ap;unfold ma at cj;unfold ma at ad;unfold ma;obtain⟨⟨sa,sb⟩,ar⟩:∃r,z_ S1 tu x=r:=⟨_,rfl⟩;rw[ar] at ad;simp only at ad;have q0:=heap_alloc_new w (Xd ps tu);have B0:=c_ w (Xd ps tu);have au:(w.alloc (Xd ps tu)).1.size=w.1.size+1:=s_
 have z0:=h.wide B0;rw[au] at z0;have k0:Fo Y w (w.alloc (Xd ps tu)):=Fo.v_ B0 h.yl;have a0:w.1.size<(w.alloc (Xd ps tu)).1.size:=o_
 have HG:=kq3 cj ad ap;clear cj ad ap hi ai a0 au ar hj c1;have c0:(w.alloc (Xd ps tu)).cell? (y_ w.1.size)=some (PV ps):=e_ q0
 have c1:(w.alloc (Xd ps tu)).cell? (x_ w.1.size 1)=some (.bool tu):=e_ q0
 have H0:=kq3 z0 q0 k0;clear z0 q0 k0 B0 h;go_enter func189,ntmps189;go_wp2_with fail;clear c0 c1;refine(HG.a _ H0.a).M ?_;rintro e w1 ⟨rfl,hs,an⟩;have rr:=(an.block w.1.size (ae ⟨Nat.le_refl _,aZ _⟩)).T H0.b;have hk:=H0.c.T (an.M (fun k hk=>ab hk));obtain⟨c0,c1⟩:=Fp rr;have H1:=kq3 hs rr hk;clear an rr hs hk;go_wp2_with fail;clear c0 c1;refine dR (HG.b _ H1.a) fun w2 hb=>?_;have rr:=(hb.block w.1.size (gl H1.b)).T H1.b;have hs:=H1.a.a_ hb;have hk:=H1.c.T ((H1.a.w_ hb).M (fun k hk=>ab hk));obtain⟨c0,c1⟩:=Fp rr;have H2:=kq3 hs rr hk;clear hb rr hs hk;go_wp2_with fail;clear c0 c1;refine dR (HG.c _ H2.a) fun w3 hb=>?_;have rr:=(hb.block w.1.size (gl H2.b)).T H2.b;have hs:=H2.a.a_ hb;have hk:=H2.c.T ((H2.a.w_ hb).M (fun k hk=>ab hk));obtain⟨c0,c1⟩:=Fp rr;have H3:=kq3 hs rr hk;clear hb rr hs hk;go_wp2_with fail;clear c0 c1;go_ret;exact⟨rfl,H3.a.M (fun k hk=>ab hk),H3.c⟩
theorem wE{S S':St}(h:Ig w ps S Y)(hi:Fv S)(tu:Bool)(t m low:Nat)(hm:m<2^64)(ht:t<2^64)(hw:low<2^64)(hj:topR tu S t m low=some (x,S')):
 Ct 189 #[ma ps tu,Xu t,Xu m,Xu low] w fun e w'=>e=.returned (Xu x)/\Ig w' ps S' Y/\Fo Y w w':=by
 unfold topR at hj
 split at hj
 ·cases hj
 ·rename_i y S1 h1
  by_cases c1:F5 S1 y=true
  ·by_cases c2:F5 S1 (z_ S1 tu y).2=true
   ·rw[if_pos ⟨c1,c2⟩] at hj;obtain⟨S2,h2,h3⟩:=aG.1 hj
    injection h3 with e1 e2
    subst e1 e2;exact Ia h hi tu t m low hm ht hw h1 c1 c2 h2
   ·rw[if_neg (fun q=>c2 q.2)] at hj
    injection hj with hj
    injection hj with e1 e2
    subst e1 e2;exact DZ h hi tu t m low hm ht hw h1 c1 (by simpa using c2)
  ·rw[if_neg (fun q=>c1 q.1)] at hj
   injection hj with hj
   injection hj with e1 e2
   subst e1 e2;exact DY h hi tu t m low hm ht hw h1 (by simpa using c1)
theorem qOaab{P:Prop}(h:P:=by
 clear hc;generalize C7 S l=bk1 at*;generalize C7 S r=bk2 at*;have HG:=kq8 ap ad ai an ar au h hp;clear ap ad ai an ar au h hp hi h0 t1 t2 t3;go_enter func142,ntmps142;go_wp2_with fail;refine Jc HG.a ?_;go_wp2_with fail;refine dR HG.b fun w1 hb=>?_;have H1:=If hb;clear hb;go_wp2_with fail;refine dR (HG.c _ H1.O) fun w2 hb=>?_;have H2:=If (b_ H1.O hb);clear hb;go_wp2_with fail;refine dR (HG.d _ H2.O) fun w3 hb=>?_;have H3:=If (b_ H2.O hb);clear hb;go_wp2_with fail;refine dR (HG.e _ H3.O) fun w4 hb=>?_;have H4:=If (b_ H3.O hb);clear hb;go_wp2_with fail;refine dR (HG.f _ H4.O) fun w5 hb=>?_;have H5:=If (b_ H4.O hb);clear hb;go_wp2_with fail;refine(HG.h _ H5.O).M ?_;rintro e w6 ⟨rfl,hs,hk⟩;have HE:=kq2 hs ((HG.g.w_ H5.O).T hk);clear hs hk;go_wp2_with fail;go_ret2;exact⟨rfl,HE.O⟩):P:=h
theorem DM{S S':St}(h:Ig w ps S Y)(hi:Fv S)(l m r:Nat)(hl:l<2^64)(hm:m<2^64)(hr:r<2^64)(h0:m≠0)(t1:isT S l=true)(t2:isT S m=true)(t3:isT S r=true)(hc:C7 S r<C7 S l)(hp:topR false S l m r=some (x,S')):
 Ct 142 #[PV ps,Xu l,Xu m,Xu r] w fun e w'=>e=.returned (.tuple #[Xu x,Xi 0])/\Ig w' ps S' Y/\Fo Y w w':=by
 have ap:=fB h hi 0 o_;rw[fU] at ap;have ad:=io h hi l hl;have ai:=fun W (hW:D_ w W)=>io (h.a_ hW) hi m hm;have an:=fun W (hW:D_ w W)=>io (h.a_ hW) hi r hr;have ar:=fun W (hW:D_ w W)=>gy (h.a_ hW) hi l hl;have au:=fun W (hW:D_ w W)=>gy (h.a_ hW) hi r hr;rw[t1] at ad;rw[t2] at ai;rw[t3] at an;have hq:((m:Int)==0)=false:=m_
 have hp:=fun W (hW:D_ w W)=>wE (h.a_ hW) hi false l m r hm hl hr hp;unfold ma at hp;have a0:((C7 S r:Nat):Int)<(C7 S l:Nat):=o_
 exact qOaab
theorem DN{S S':St}(h:Ig w ps S Y)(hi:Fv S)(l m r:Nat)(hl:l<2^64)(hm:m<2^64)(hr:r<2^64)(h0:m≠0)(t1:isT S l=true)(t2:isT S m=true)(t3:isT S r=true)(hc:C7 S l<C7 S r)(hp:topR true S r m l=some (x,S')):
 Ct 142 #[PV ps,Xu l,Xu m,Xu r] w fun e w'=>e=.returned (.tuple #[Xu x,Xi 0])/\Ig w' ps S' Y/\Fo Y w w':=by
 have ap:=fB h hi 0 o_;rw[fU] at ap;have ad:=io h hi l hl;have ai:=fun W (hW:D_ w W)=>io (h.a_ hW) hi m hm;have an:=fun W (hW:D_ w W)=>io (h.a_ hW) hi r hr;have ar:=fun W (hW:D_ w W)=>gy (h.a_ hW) hi l hl;have au:=fun W (hW:D_ w W)=>gy (h.a_ hW) hi r hr;rw[t1] at ad;rw[t2] at ai;rw[t3] at an;have hq:((m:Int)==0)=false:=m_
 have hp:=fun W (hW:D_ w W)=>wE (h.a_ hW) hi true r m l hm hr hl hp;unfold ma at hp;have a0:((C7 S l:Nat):Int)<(C7 S r:Nat):=o_
 have a1:¬((C7 S r:Nat):Int)<(C7 S l:Nat):=o_
 exact qOaab
theorem DO{S S':St}(h:Ig w ps S Y)(hi:Fv S)(l m r:Nat)(hl:l<2^64)(hm:m<2^64)(hr:r<2^64)(h0:m≠0)(t1:isT S l=true)(t2:isT S m=true)(t3:isT S r=true)(hc:C7 S l=C7 S r)(hr1:F5 S l=true)(hp:putRM S m l r false=some S'):
 Ct 142 #[PV ps,Xu l,Xu m,Xu r] w fun e w'=>e=.returned (.tuple #[Xu m,Xi 0])/\Ig w' ps S' Y/\Fo Y w w':=by
 have au:=fB h hi 0 o_;rw[fU] at au;have ad:=io h hi l hl;have ai:=fun W (hW:D_ w W)=>io (h.a_ hW) hi m hm;have an:=fun W (hW:D_ w W)=>io (h.a_ hW) hi r hr;have a0:=fun W (hW:D_ w W)=>gy (h.a_ hW) hi l hl;have ap:=fun W (hW:D_ w W)=>gy (h.a_ hW) hi r hr;rw[t1] at ad;rw[t2] at ai;rw[t3] at an;have hq:((m:Int)==0)=false:=m_
 have hp:=fun W (hW:D_ w W)=>nh (h.a_ hW) hi m l r false hm hl hr hp;have ar:=fun W (hW:D_ w W)=>gq (h.a_ hW) hi l hl;rw[hr1] at ar;rw[<-hc] at ap;clear hc hr1;generalize C7 S l=bk1 at*;have HG:=kq9 au ad ai an a0 ap h ar hp;clear au ad ai an a0 ap h ar hp hi h0 t1 t2 t3;go_enter func142,ntmps142;go_wp2_with fail;refine Jc HG.a ?_;go_wp2_with fail;refine dR HG.b fun w1 hb=>?_;have H1:=If hb;clear hb;go_wp2_with fail;refine dR (HG.c _ H1.O) fun w2 hb=>?_;have H2:=If (b_ H1.O hb);clear hb;go_wp2_with fail;refine dR (HG.d _ H2.O) fun w3 hb=>?_;have H3:=If (b_ H2.O hb);clear hb;go_wp2_with fail;refine dR (HG.e _ H3.O) fun w4 hb=>?_;have H4:=If (b_ H3.O hb);clear hb;go_wp2_with fail;refine dR (HG.f _ H4.O) fun w5 hb=>?_;have H5:=If (b_ H4.O hb);clear hb;go_wp2_with fail;refine dR (HG.h _ H5.O) fun w6 hb=>?_;have H6:=If (b_ H5.O hb);clear hb;go_wp2_with fail;refine(HG.i _ H6.O).M ?_;rintro e w7 ⟨rfl,hs,hk⟩;have HE:=kq2 hs ((HG.g.w_ H6.O).T hk);clear hs hk;go_wp2_with fail;go_ret2;exact⟨rfl,HE.O⟩
theorem qOaaa{P:Prop}(h:P:=by
 have ar:=fun W (hW:D_ w W)=>gq (h.a_ hW) hi l hl;rw[hr1] at ar;rw[<-hc] at ap;clear hc hr1;generalize C7 S l=bk1 at*;have au:=fun W (hW:D_ w W)=>gq (h.a_ hW) hi r hr;rw[hr2] at au;clear hr2;have HG:=kq10 a0 ad ai an a1 ap h ar au hp;clear a0 ad ai an a1 ap h ar au hp hi h0 t1 t2 t3;go_enter func142,ntmps142;go_wp2_with fail;refine Jc HG.a ?_;go_wp2_with fail;refine dR HG.b fun w1 hb=>?_;have H1:=If hb;clear hb;go_wp2_with fail;refine dR (HG.c _ H1.O) fun w2 hb=>?_;have H2:=If (b_ H1.O hb);clear hb;go_wp2_with fail;refine dR (HG.d _ H2.O) fun w3 hb=>?_;have H3:=If (b_ H2.O hb);clear hb;go_wp2_with fail;refine dR (HG.e _ H3.O) fun w4 hb=>?_;have H4:=If (b_ H3.O hb);clear hb;go_wp2_with fail;refine dR (HG.f _ H4.O) fun w5 hb=>?_;have H5:=If (b_ H4.O hb);clear hb;go_wp2_with fail;refine dR (HG.h _ H5.O) fun w6 hb=>?_;have H6:=If (b_ H5.O hb);clear hb;go_wp2_with fail;refine dR (HG.i _ H6.O) fun w7 hb=>?_;have H7:=If (b_ H6.O hb);clear hb;go_wp2_with fail;refine(HG.j _ H7.O).M ?_;rintro e w8 ⟨rfl,hs,hk⟩;have HE:=kq2 hs ((HG.g.w_ H7.O).T hk);clear hs hk;go_wp2_with fail;go_ret2;exact⟨rfl,HE.O⟩):P:=h
theorem DP{S S':St}(h:Ig w ps S Y)(hi:Fv S)(l m r:Nat)(hl:l<2^64)(hm:m<2^64)(hr:r<2^64)(h0:m≠0)(t1:isT S l=true)(t2:isT S m=true)(t3:isT S r=true)(hc:C7 S l=C7 S r)(hr1:F5 S l=false)(hr2:F5 S r=true)(hp:putRM S m l r false=some S'):
 Ct 142 #[PV ps,Xu l,Xu m,Xu r] w fun e w'=>e=.returned (.tuple #[Xu m,Xi 0])/\Ig w' ps S' Y/\Fo Y w w':=by
 have a0:=fB h hi 0 o_;rw[fU] at a0;have ad:=io h hi l hl;have ai:=fun W (hW:D_ w W)=>io (h.a_ hW) hi m hm;have an:=fun W (hW:D_ w W)=>io (h.a_ hW) hi r hr;have a1:=fun W (hW:D_ w W)=>gy (h.a_ hW) hi l hl;have ap:=fun W (hW:D_ w W)=>gy (h.a_ hW) hi r hr;rw[t1] at ad;rw[t2] at ai;rw[t3] at an;have hq:((m:Int)==0)=false:=m_
 have hp:=fun W (hW:D_ w W)=>nh (h.a_ hW) hi m l r false hm hl hr hp;exact qOaaa
theorem DL{S S':St}(h:Ig w ps S Y)(hi:Fv S)(l m r:Nat)(hl:l<2^64)(hm:m<2^64)(hr:r<2^64)(h0:m≠0)(t1:isT S l=true)(t2:isT S m=true)(t3:isT S r=true)(hc:C7 S l=C7 S r)(hr1:F5 S l=false)(hr2:F5 S r=false)(hp:putRM S m l r true=some S'):
 Ct 142 #[PV ps,Xu l,Xu m,Xu r] w fun e w'=>e=.returned (.tuple #[Xu m,Xi 0])/\Ig w' ps S' Y/\Fo Y w w':=by
 have a0:=fB h hi 0 o_;rw[fU] at a0;have ad:=io h hi l hl;have ai:=fun W (hW:D_ w W)=>io (h.a_ hW) hi m hm;have an:=fun W (hW:D_ w W)=>io (h.a_ hW) hi r hr;have a1:=fun W (hW:D_ w W)=>gy (h.a_ hW) hi l hl;have ap:=fun W (hW:D_ w W)=>gy (h.a_ hW) hi r hr;rw[t1] at ad;rw[t2] at ai;rw[t3] at an;have hq:((m:Int)==0)=false:=m_
 have hp:=fun W (hW:D_ w W)=>nh (h.a_ hW) hi m l r true hm hl hr hp;exact qOaaa
theorem DK{S S':St}(h:Ig w ps S Y)(hi:Fv S)(l m r:Nat)(hl:l<2^64)(hm:m<2^64)(hr:r<2^64){R:Nat×Nat}(hR:redJ S l m r=some (R,S')):
 Ct 142 #[PV ps,Xu l,Xu m,Xu r] w fun e w'=>e=.returned (.tuple #[Xu R.1,Xi R.2])/\Ig w' ps S' Y/\Fo Y w w':=by
 unfold redJ at hR
 split at hR
 ·cases hR
 rename_i hc;simp only[not_or,Bool.not_eq_false] at hc;obtain⟨h0,t1,t2,t3⟩:=hc
 split at hR
 ·rename_i hc;obtain⟨⟨x,S1⟩,h1,h2⟩:=aG.1 hR
  injection h2 with e1 e2
  subst e1 e2;exact DM h hi l m r hl hm hr h0 t1 t2 t3 hc h1
 ·rename_i hc1
  split at hR
  ·rename_i hc;obtain⟨⟨x,S1⟩,h1,h2⟩:=aG.1 hR
   injection h2 with e1 e2
   subst e1 e2;exact DN h hi l m r hl hm hr h0 t1 t2 t3 hc h1
  ·rename_i hc2;obtain⟨S1,h1,h2⟩:=aG.1 hR
   injection h2 with e1 e2
   subst e1 e2;have he:C7 S l=C7 S r:=o_
   cases a1:F5 S l with
   | true=>rw[a1] at h1;exact DO h hi l m r hl hm hr h0 t1 t2 t3 he a1 h1
   | false=>
    cases a2:F5 S r with
    | true=>rw[a1,a2] at h1;exact DP h hi l m r hl hm hr h0 t1 t2 t3 he a1 a2 h1
    | false=>rw[a1,a2] at h1;exact DL h hi l m r hl hm hr h0 t1 t2 t3 he a1 a2 h1
theorem BK:kW 142 redJ where
 enter args w:=by go_simp
 inv hi h:=(wG hi h).1
 lt hi _ hm _ h:=(wG hi h).2.1 hm
 ok h:=by
  unfold redJ at h;split at h
  ·cases h
  ·split at h
   ·obtain⟨_,_,h2⟩:=aG.1 h;injection h2 with e1 e2
    rw[<-e1]
   ·split at h
    ·obtain⟨_,_,h2⟩:=aG.1 h;injection h2 with e1 e2
     rw[<-e1]
    ·obtain⟨_,_,h2⟩:=aG.1 h;injection h2 with e1 e2
     rw[<-e1]
 call h hi hl hm hr hR:=DK h hi _ _ _ hl hm hr hR
theorem ot:jD 2 142 235 redJ:=⟨ae rfl,E3,BK,Aj⟩
end
section
open Lf Tr
variable{S:St}{o:Nat->Nat}{t:Tr}
theorem NH(hf:Fw S o){h:Nat}{ws:List Nat}(hl:i_ S h=some ws):∃a r,eO S.a o a r/\ws.length+2<=r/\∃(k:Nat) (x:mj),S.t.p_[k]?=some x/\x.is=1/\h=gj x.gen k/\x.t_=a:=by
 obtain⟨k,x,hx,h1,h2,rfl⟩:=(gT hf.tab).1 hl;obtain⟨r,g1,g2,g3⟩:=hf.live k x hx h1;exact⟨x.t_,r,g1,by rw[Jy];omega,k,x,hx,h1,h2,rfl⟩
theorem Nv(hf:Fw S o){l:List Nat}{n:Nat}(h0:0<n)(hn:l.Nodup)(hl:∀h∈l,∃ws,i_ S h=some ws/\n<=ws.length+2):l.length*n<=64*S.a.B_.length:=by
 have key:∀i:Nat,∃a:Nat,∀hi:i<l.length,∃r,eO S.a o a r/\n<=r/\∃(k:Nat) (x:mj),S.t.p_[k]?=some x/\x.is=1/\l[i]=gj x.gen k/\x.t_=a:=fun i=>by
  by_cases hi:i<l.length
  ·obtain⟨ws,h1,h2⟩:=hl _ (ao hi);obtain⟨a,r,p,q,s⟩:=NH hf h1;exact⟨a,fun _=>⟨r,p,o_,s⟩⟩
  ·exact⟨0,fun h=>absurd h hi⟩
 let A:Nat->Nat:=fun i=>(key i).choose
 have hA:∀i (hi:i<l.length),∃r,eO S.a o (A i) r/\n<=r/\∃(k:Nat) (x:mj),S.t.p_[k]?=some x/\x.is=1/\l[i]=gj x.gen k/\x.t_=A i:=fun i hi=>(key i).choose_spec hi;have hd:∀m,m<l.length*n->m / n<l.length/\m % n<n:=fun m hm=>⟨(Nat.div_lt_iff_lt_mul h0).2 hm,Nat.mod_lt _ h0⟩;have ai:((List.range (l.length*n)).map fun m=>A (m / n)+m % n).Nodup:=by
  refine vV (fun x hx y hy he=>?_) List.nodup_range;obtain⟨x1,x2⟩:=hd x (bw.1 hx);obtain⟨y1,y2⟩:=hd y (bw.1 hy);obtain⟨r,p1,q1,k1,s1,a1,b1,c1,d1⟩:=hA _ x1;obtain⟨r',p2,q2,k2,s2,a2,b2,c2,d2⟩:=hA _ y1;have hq:x / n=y / n:=by
   rcases eO.apart hf.own p1 p2 with g | g | g
   ·have e:k1=k2:=hf.inj k1 k2 s1 s2 a1 a2 b1 b2 (by rw[d1,d2];exact g.1);subst e;rw[a1] at a2
    injection a2 with a2
    subst a2;have ad:=c1.T c2.S;have hp:=cJ.1 hn
    rcases Nat.lt_trichotomy (x / n) (y / n) with q | q | q
    ·exact absurd ad (hp _ _ x1 y1 q)
    ·exact q
    ·exact absurd ad.S (hp _ _ y1 x1 q)
   ·omega
   ·omega
  rw[hq] at he;rw[<-Nat.div_add_mod x n,<-Nat.div_add_mod y n,hq];omega
 have an:∀y∈(List.range (l.length*n)).map (fun m=>A (m / n)+m % n),y∈S.a.j_.flatMap fun p=>(List.range 64).map fun j=>64*p+j:=by
  intro y hy;obtain⟨m,hm,rfl⟩:=az.1 hy;obtain⟨m1,m2⟩:=hd m (bw.1 hm);obtain⟨r,p1,q1,_⟩:=hA _ m1;have hp:=(p1.ok hf.own (b:=m % n) o_).2.2;exact List.mem_flatMap.2 ⟨(A (m / n)+m % n) / 64,hp,az.2 ⟨(A (m / n)+m % n) % 64,bw.2 o_,o_⟩⟩
 have:=Dk ai an;rw[am,dL,List.length_flatMap] at this;have e:(S.a.j_.map fun p=>((List.range 64).map fun j=>64*p+j).length)=S.a.j_.map fun _=>64:=by
  refine bg fun p _=>?_
  simp
 have hs:∀k:Nat,(List.replicate k 64).sum=64*k:=fun k=>by
  induction k with
  | zero=>rfl
  | succ k ih=>rw[List.replicate_succ,List.sum_cons,ih];omega
 rw[e,List.map_const',hs,i8] at this;exact this
def wk(a:List (It×Nd)):List UInt8:=match a.getLast? with | some z=>z.1.k | none=>[]
def mB(a:List (It×Nd)):List Nat:=eB (a.map (·.1))
def mZ(f9:Nat)(a:List (It×Nd)):List Nat:=f9::a.flatMap fun z=>[z.2.left,z.2.right]
theorem Ly(a:List (It×Nd))(z:It×Nd):wk (a++[z])=z.1.k:=by unfold wk;simp
theorem MZ(a:List (It×Nd))(z:It×Nd):mB (a++[z])=mB a++[z.1.h,z.1.kh,z.1.vh]:=by
 unfold mB;rw[aN,iX];rfl
theorem Nx(f9:Nat)(a:List (It×Nd))(z:It×Nd):mZ f9 (a++[z])=mZ f9 a++[z.2.left,z.2.right]:=by
 unfold mZ;grind
theorem Lr(a:List (It×Nd)):(mB a).length=3*a.length:=by
 unfold mB eB
 induction a with
 | nil=>rfl
 | cons z a ih=>simp only[bi,co,ag,aj,aL] at ih⊢;omega
theorem KP(f9:Nat)(a:List (It×Nd)):(mZ f9 a).length=2*a.length+1:=by
 unfold mZ
 induction a with
 | nil=>rfl
 | cons z a ih=>simp only[co,ag,aj,aL] at ih⊢;omega
structure K4 (S:St) (t:Tr) (a:List (It×Nd)) (z:It×Nd):Prop where
 rec':i_ S z.1.h=some (eM z.2)
 key:z.2.key=z.1.kh
 val:z.2.val=z.1.vh
 bl:gu S z.1
 sub:∃l m r,z.2=nd l z.1 m r/\At S (.node l z.1 m r)/\l.its.length+r.its.length<t.its.length
 less:a=[]\/Fu (wk a) z.1.k<0
 h1:z.1.h∉mB a
 h2:z.1.kh∉mB a++[z.1.h]
 h3:z.1.vh∉mB a++[z.1.h]++[z.1.kh]
 al:a.length<t.its.length
theorem Nl{Ok:Tr->Prop}(h:fC Ok S o t){a:List (It×Nd)}{z:It×Nd}{r:List (It×Nd)}(e:a++z::r=t.h_):K4 S t a z:=by
 have hz:z∈t.h_:=by rw[<-e];simp
 obtain⟨l,m,r',e1,e2,e3,_,_⟩:=nodes_at h.at' z hz;have hi:a.map (·.1)++z.1::r.map (·.1)=t.its:=by rw[<-nodes_its,<-e];simp
 have hd:z.1∈t.its:=by rw[<-hi];simp
 have hn:=h.nd;have hs:=h.F1;rw[<-hi] at hn hs;rw[iX,mx] at hn;obtain⟨_,n2,n3⟩:=aF.1 hn;obtain⟨m1,n4⟩:=aI.1 n2;obtain⟨m2,n5⟩:=aI.1 n4;simp only[ah,not_or] at m1 m2;have ne:∀{x y:Nat},x∈mB a->y∈z.1.h::z.1.kh::z.1.vh::eB (r.map (·.1))->x≠y:=fun hx hy q=>n3 _ hx _ hy q;have hl:a.length<t.its.length:=by rw[<-hi];simp
 refine⟨e1▸e2.1,by rw[e1];rfl,by rw[e1];rfl,h.F4 _ hd,⟨l,m,r',e1,e2,e3⟩,?_,fun q=>ne q s_ rfl,fun q=>?_,fun q=>?_,hl⟩
 ·rcases List.eq_nil_or_concat a with q | ⟨b,y,q⟩
  ·exact .inl q
  ·right
   subst q;rw[List.concat_eq_append,Ly];exact(bE.1 hs).2.2 y.1 s_ z.1 (av ..)
 ·rcases aq.1 q with q | q
  ·exact ne q s_ rfl
  ·exact m1.1 (aE.1 q).S
 grind
theorem Tr.root_in:∀t:Tr,t.f9=0\/∃d∈t.its,t.f9=d.h
 | .nil=> .inl rfl
 | .node l d m r=> .inr ⟨d,by show d∈l.its++d::r.its;simp,rfl⟩
theorem Ny(h:At S t):∀x∈mZ t.f9 t.h_,x=0\/x∈mB t.h_:=by
 have key:∀u:Tr,(∀y∈u.its,y∈t.its)->u.f9=0\/u.f9∈mB t.h_:=fun u hu=>by
  rcases u.root_in with q | ⟨d,hd,q⟩
  ·exact .inl q
  grind [mB,nodes_its,gU]
 intro x hx
 rcases ah.1 hx with rfl | hx
 ·grind
 ·obtain⟨z,hz,hx⟩:=List.mem_flatMap.1 hx;obtain⟨l,m,r,e1,_,_,e4,e5⟩:=nodes_at h z hz;rw[e1] at hx
  rcases ah.1 hx with rfl | hx
  ·exact key l e4
  ·rw[aE] at hx;subst hx;exact key r e5
theorem MY{Ok:Tr->Prop}(h:fC Ok S o t):(mB t.h_).Nodup:=by
 unfold mB;rw[nodes_its];exact h.nd