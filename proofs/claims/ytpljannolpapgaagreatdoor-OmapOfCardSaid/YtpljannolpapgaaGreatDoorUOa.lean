/- Nodes and items let go: the walks. -/
import Derived.Test.YtpljannolpapgaaGreatDoorUHh
import Derived.Test.YtpljannolpapgaaGreatDoorUYe
set_option maxRecDepth 100000
set_option maxHeartbeats 6400000
namespace Go.Proofs.YtpljannolpapgaaGreatDoor
section
open Go.RowKit Tryz Go.BigFrame Go.Maps Go.WideMaps Lf
variable{R:Nat×Nat}{S:St}{Y:Nat->Prop}{ps:Nat}{w:World}
theorem Di(h:Ig w ps S Y)(hi:Fv S)(hh:Nat)(hl:hh<2^64):
 Ct 145 #[PV ps,Xu hh] w fun e w'=>e=.returned (Xi ((jr S hh).1:Nat))/\Ig w' ps (jr S hh).2 Y/\Fo Y w w':=by
 by_cases ha:fZ S hh=0
 ·have has:=oG h hi hh hl;have ad:=sE h hi hh hl;have hR:jr S hh=S.drop hh:=by unfold jr;rw[ha];rfl
  rw[hR];rw[ha] at has;have HG:=kq2 has ad;clear has ad hR ha h hi;go_enter func145,ntmps145;go_wp2_with fail;refine Jc HG.a ?_;go_wp2_with fail;refine e9 HG.b fun w1 hb=>?_;have H1:=If hb;clear hb;go_wp2_with fail;go_ret;exact⟨rfl,H1.O⟩
 ·have hR:jr S hh=(fZ S hh,S):=by unfold jr;split<;>simp_all
  rw[hR];refine Jc (vT h hi hh hl ha) ?_;exact⟨rfl,h,Fo.refl _ _⟩
theorem zi{S S':St}(h:Ig w ps S Y)(hi:Fv S)(h_ o:Nat)(hl:o<2^64)(hd:jr S o=(0,S')):
 Ct 309 #[fE ps h_,Xu o] w fun e w'=>e=.returned (.tuple #[Id (f_ S o).1.key (f_ S o).1.val,.bool true])/\Ig w' ps S' Y/\Fo Y w w':=by
 have B1:=c_ w (Xg ps h_);have q1:=heap_alloc_new w (Xg ps h_);have B0:=B1.alloc B1.size (.cells #[Xu 0,Xu 0] 104);have z1:=heap_alloc_new (w.alloc (Xg ps h_)) (.cells #[Xu 0,Xu 0] 104);have q1:=(((aa (w.alloc (Xg ps h_)).1.size (w.alloc (Xg ps h_))).alloc Ih (.cells #[Xu 0,Xu 0] 104)).block w.1.size s_).T q1;simp only[World.size_alloc] at z1;have ar:=my (h.a_ B0) hi h_ o hl;have ap:=fun W Z (hW:Ig W ps S Z)=>Di hW hi o hl;rw[hd] at ap;simp only[Id,fE] at ar⊢;generalize (f_ S o).1.key=a0 at*;generalize (f_ S o).1.val=a1 at*;have HG:=kq6 ar ap B0 z1 q1 h;have a2:=h.yl;clear ar ap B0 B1 h hi z1 q1 hd;go_enter func309,ntmps309;go_wp2_with fail;refine e9 HG.a fun w1 hb1=>?_;have ad:=hb1.alloc hb1.size (Xe a0 a1);have y1:=heap_alloc_new w1 (Xe a0 a1);have z1:=(ad.block (w.1.size+1) s_).T HG.d;have q1:=(ad.block w.1.size m_).T HG.e;have B2:=b_ HG.c ad;have S2:=HG.f.wide B2;have sz:w.1.size+2<=w1.1.size:=by have:=hb1.size;simp at this;omega
 have sw:(w1.alloc (Xe a0 a1)).1.size=w1.1.size+1:=s_
 go_wp2_with fail;rw[sw] at S2;generalize w1.alloc (Xe a0 a1)=W at*;obtain⟨I,ai,an⟩:∃I:World->Prop,(∀w',I w'->w'.1[w.1.size]?=some (Xg ps h_)/\w'.1[w1.1.size]?=some (Xe a0 a1))/\(∀w',w'.1[w.1.size]?=some (Xg ps h_)->w'.1[w1.1.size]?=some (Xe a0 a1)->I w'):=⟨fun w'=>w'.1[w.1.size]?=some (Xg ps h_)/\w'.1[w1.1.size]?=some (Xe a0 a1),fun _ h=>h,fun _ a b=>⟨a,b⟩⟩;have au:=fun x:Fq I=>(ai _ x.ok).1;have a3:=fun x:Fq I=>(ai _ x.ok).2;obtain⟨a7,a8⟩:=ft au;obtain⟨a9,a'⟩:=ft a3;have a6:w1.1.size≠w.1.size+1:=o_
 have HW:=kq5 B2 z1 q1 y1 S2;have HI:=If an;have a5:I W.drew:=an _ q1 y1;clear B2 z1 q1 y1 hb1 ad au a3 ai an S2;refine fh I (.take 0 (.take 1 (.take 2 (.take 3 (.go 4 (.take 5 (.go 6 (.go 7 .nil)))))))) k_ k_ a5 ?_
 iterate 4
  refine pT_ ?_
  try simp only[pu]
 refine pD fun K hK=>?_;go_simp;refine(HG.b _ _ (HW.e.drewN 1)).M ?_;rintro e w3 ⟨rfl,s3,k3⟩;have e3:=fun k (hk:w.1.size<=k/\k<w1.1.size+1)=>k3.block k (ae hk);have q3:=(e3 w.1.size ⟨Nat.le_refl _,o_⟩).T HW.c;have y3:=(e3 w1.1.size ⟨o_,o_⟩).T HW.d;have z3:=(e3 (w.1.size+1) ⟨o_,o_⟩).T HW.b;have a4:Fo Y w w3:=(Fo.A_ HW.a a2).T ((Fo.drewN Y W 1).T (k3.M fun k hk=>ab hk));have H3:=kq5 s3 a4 q3 y3 z3;clear e3 s3 k3 a4 q3 y3 z3
 try go_simp
 refine hK.O _ _ (HI.O _ H3.c H3.d) ?_;clear hK K
 try simp only[pu]
 refine pT_ ?_
 try simp only[pu]
 have z3:=H3.e;obtain⟨e0,e1⟩:=Fp z3;obtain⟨f0,f1⟩:=ef z3;clear z3;refine pD fun K hK=>?_;go_simp;have q4:((w3.setCell (y_ (w.1.size+1)) (Xu a0)).setCell (x_ (w.1.size+1) 1) (Xu a1)).1[w.1.size+1]?=_:=ew H3.e (Xu a0) (Xu a1);have o4:∀k,k≠w.1.size+1->((w3.setCell (y_ (w.1.size+1)) (Xu a0)).setCell (x_ (w.1.size+1) 1) (Xu a1)).1[k]?=w3.1[k]?:=fun k hk=>fA hk _ _;have s4:Ig ((w3.setCell (y_ (w.1.size+1)) (Xu a0)).setCell (x_ (w.1.size+1) 1) (Xu a1)) ps S' Y:=(H3.a.write (b:=w.1.size+1) (ae ⟨o_,o_⟩) H3.e ⟨d_,d_⟩ s_ s_ fun k _ hk=>o4 k hk).M fun k hk=>ab hk;have k4:Fo Y w ((w3.setCell (y_ (w.1.size+1)) (Xu a0)).setCell (x_ (w.1.size+1) 1) (Xu a1)):=H3.b.T ⟨rfl,rfl,rfl,s_,fun k hk=>o4 k (by have:=a2 k hk;omega)⟩;have r4:=(o4 w.1.size o_).T H3.c;have y4:=(o4 w1.1.size a6).T H3.d;have H4:=kq5 s4 k4 q4 r4 y4;clear o4 s4 k4 q4 r4 y4 e0 e1 f0 f1;generalize ((w3.setCell (y_ (w.1.size+1)) (Xu a0)).setCell (x_ (w.1.size+1) 1) (Xu a1))=W4 at*
 try go_simp
 refine hK.O _ _ (HI.O _ H4.d H4.e) ?_;clear hK K
 try simp only[pu]
 refine pD fun K hK=>?_;go_simp
 try go_simp
 refine hK.O _ _ (HI.O _ H4.d H4.e) ?_;clear hK K
 try simp only[pu]
 refine eP ?_;have q5:=H4.c;obtain⟨g0,g1⟩:=Fp q5;clear q5;go_wp2_with fail;exact bodyPost_ret (v:=.tuple #[.agg #[Xu a0,Xu a1],.bool true]) (by simp[results,f309,go_sem,g0,g1]) rfl ⟨rfl,H4.a,H4.b⟩
def Lf.binRepM(jn:Jn)(S:St)(f9 k v:Nat):Option ((Nat×Nat×Nat)×St):=
 if(nV S ⟨k,v,0,0,0,1⟩).1.2≠0 then none
 else match insertOkM jn (nV S ⟨k,v,0,0,0,1⟩).2 f9 (nV S ⟨k,v,0,0,0,1⟩).1.1 with
  | none=>none
  | some ((now,o),S1)=>match jr S1 o with
   | (0,S2)=>some ((now,(f_ S1 o).1.key,(f_ S1 o).1.val),S2)
   | _=>none
theorem y9{jn:Jn}{S S':St}{f9 k v:Nat}{R:Nat×Nat×Nat}(h:binRepM jn S f9 k v=some (R,S')):
 ∃o S1,(nV S ⟨k,v,0,0,0,1⟩).1.2=0/\insertOkM jn (nV S ⟨k,v,0,0,0,1⟩).2 f9 (nV S ⟨k,v,0,0,0,1⟩).1.1=some ((R.1,o),S1)/\jr S1 o=(0,S')/\R.2.1=(f_ S1 o).1.key/\R.2.2=(f_ S1 o).1.val:=by
 unfold binRepM at h
 split at h
 ·cases h
 ·rename_i h0
  split at h
  ·cases h
  ·rename_i now o S1 h1
   split at h
   ·rename_i S2 h2;have h:=Option.some.inj h
    injection h with e1 e2
    subst e1 e2;exact⟨o,S1,df.1 h0,h1,h2,rfl,rfl⟩
   ·cases h
theorem zd{S S':St}(h:Ig w ps S Y)(hm:iw S 6){h_:Nat}{j c:FuncId}{jn:Jn}(hk:jD h_ j c jn)(f9 k v:Nat)(hl:f9<2^64)(hkl:k<2^64)(hvl:v<2^64){R:Nat×Nat×Nat}(hx:binRepM jn S f9 k v=some (R,S'))(hi':Fv S'):
 Ct 301 #[fE ps h_,Xu f9,Id k v] w fun e w'=>e=.returned (.tuple #[Xu R.1,Id R.2.1 R.2.2,.bool true,Xi 0])/\Ig w' ps S' Y/\Fo Y w w'/\Fv S'/\R.1<2^64:=by
 obtain⟨o,S2,h0,h1,h2,e1,e2⟩:=y9 hx;obtain⟨x,ik,iv⟩:=R;simp only at h1 e1 e2⊢;have ar:=vz hm ⟨k,v,0,0,0,1⟩;have a4:=KC h.tabwf ⟨k,v,0,0,0,1⟩;have ai:=fun W Z (hW:Ig W ps S Z)=>vU hW hm ⟨k,v,0,0,0,1⟩ ⟨hkl,hvl,s_,s_,s_,s_⟩;generalize nV S ⟨k,v,0,0,0,1⟩=M at*;obtain⟨⟨m,em⟩,S1⟩:=M;simp only at h0 h1 ar a4 ai;subst h0;have a3:=fun W Z (hW:Ig W ps S1 Z)=>In hW ar hk.joins hk.way f9 m hl a4 h1;have an:=fun W Z (hi2:Fv S2) (ho:o<2^64) (hW:Ig W ps S2 Z)=>zi hW hi2 h_ o ho h2;rw[<-e1,<-e2] at an;simp only[fE,Id,eS] at ai an⊢;have B1:=c_ w (Xg ps h_);have q1:=heap_alloc_new w (Xg ps h_);generalize a6:w.alloc (Xg ps h_)=w1 at*;have z1:w1.1.size=w.1.size+1:=by rw[<-a6];simp
 have A2:=c_ w1 (Xe k v);have B2:=B1.alloc B1.size (Xe k v);have q2:=(A2.block w.1.size o_).T q1;have z2:(w1.alloc (Xe k v)).1.size=w.1.size+2:=by simp[z1]
 generalize a':w1.alloc (Xe k v)=w2 at*;have A3:=c_ w2 (.cells #[Xu 0,Xu 0] 104);have q3:=(A3.block w.1.size o_).T q2;have B3:=B2.alloc B2.size (.cells #[Xu 0,Xu 0] 104);have y3:=heap_alloc_new w2 (.cells #[Xu 0,Xu 0] 104);rw[z2] at y3;have z3:(w2.alloc (.cells #[Xu 0,Xu 0] 104)).1.size=w.1.size+3:=by simp[z2]
 subst a' a6;have hY:=h.yl;have HG:=kq9 ai a3 an (h.wide B3) q3 y3 z3 B3 hY;clear ai a3 an h q1 q2 q3 y3 A2 A3 B1 B2 B3 z1 z2 z3 ar h1 h2 e1 e2 hm hk hY hx;go_enter func301,ntmps301;go_wp2_with fail;refine(HG.a _ _ HG.d).M ?_;rintro e w4 ⟨rfl,h4,k4⟩;have q4:=(k4.block w.1.size (ae ⟨Nat.le_refl _,by have:=HG.g;omega⟩)).T HG.e;have y4:=(k4.block (w.1.size+2) (ae ⟨o_,by have:=HG.g;omega⟩)).T HG.f;obtain⟨c0,c1⟩:=Fp q4;have H4:=kq4 h4 k4 q4 y4;clear h4 k4 q4 y4;go_wp2_with fail;obtain⟨hp,a2,a7,a5⟩:=HG.b _ _ H4.a;refine hp.M ?_;rintro e w5 ⟨rfl,h5,k5⟩;have q5:=(k5.block w.1.size (ae ⟨Nat.le_refl _,by have:=HG.g;omega⟩)).T H4.c;have y5:=(k5.block (w.1.size+2) (ae ⟨o_,by have:=HG.g;omega⟩)).T H4.d;obtain⟨d0,d1⟩:=Fp q5;have H5:=kq6 h5 (H4.b.T k5) a2 a7 y5 a5;clear h5 k5 q5 y5 hp a2 a7 a5 c0 c1;go_wp2_with fail;refine(HG.c _ _ H5.c H5.f H5.a).M ?_;rintro e w6 ⟨rfl,h6,au⟩;have y6:=(au.block (w.1.size+2) (ae ⟨o_,by have:=HG.g;omega⟩)).T H5.e;obtain⟨e0,e1⟩:=Fp y6;obtain⟨f0,f1⟩:=ef y6;have q7:((w6.setCell (y_ (w.1.size+2)) (Xu ik)).setCell (x_ (w.1.size+2) 1) (Xu iv)).1[w.1.size+2]?=_:=ew y6 (Xu ik) (Xu iv);have o7:∀k,k≠w.1.size+2->((w6.setCell (y_ (w.1.size+2)) (Xu ik)).setCell (x_ (w.1.size+2) 1) (Xu iv)).1[k]?=w6.1[k]?:=fun k hk=>fA hk _ _;have z7:((w6.setCell (y_ (w.1.size+2)) (Xu ik)).setCell (x_ (w.1.size+2) 1) (Xu iv)).1.size=w6.1.size:=s_
 have s7:((w6.setCell (y_ (w.1.size+2)) (Xu ik)).setCell (x_ (w.1.size+2) 1) (Xu iv)).os=w6.os/\((w6.setCell (y_ (w.1.size+2)) (Xu ik)).setCell (x_ (w.1.size+2) 1) (Xu iv)).tape=w6.tape/\((w6.setCell (y_ (w.1.size+2)) (Xu ik)).setCell (x_ (w.1.size+2) 1) (Xu iv)).output=w6.output:=⟨rfl,rfl,rfl⟩;have ba:∀k,Y k->k<w.1.size:=HG.i;have k6:=H5.b.T au;have H6:=kq9 h6 k6 H5.c H5.d y6 q7 o7 z7 s7;clear y6 d0 d1 h6 k6 au o7 z7 s7 q7;go_wp2_with fail;generalize ((w6.setCell (y_ (w.1.size+2)) (Xu ik)).setCell (x_ (w.1.size+2) 1) (Xu iv))=w7 at*;have q7:=H6.f;obtain⟨I,a0,ap⟩:∃I:World->Prop,(∀w',I w'->w'.1[w.1.size+2]?=some (Xe ik iv))/\(∀w',w'.1[w.1.size+2]?=some (Xe ik iv)->I w'):=⟨fun w'=>w'.1[w.1.size+2]?=some (Xe ik iv),fun _ h=>h,fun _ a=>a⟩;have a8:=fun x:Fq I=>a0 _ x.ok;obtain⟨m0,m1⟩:=ft a8;obtain⟨g0,g1⟩:=Fp q7;obtain⟨h0,h1⟩:=ef q7;have HI:=If ap;have a9:I w7.drew:=ap _ q7;have HQ:=If q7;clear e0 e1 f0 f1 q7 a0 ap a8;refine nF I [(true,0),(true,1),(true,2),(true,3),(false,4),(false,5),(false,6),(false,7)] k_ k_ a9 ?_
 iterate 4
  refine' mT ?_ ?_;rotate_left
  ·intro x;go_simp
   try rfl
  try simp only[pu]
 refine mD fun K hK=>?_;go_simp
 try go_simp
 refine hK.O _ _ (HI.O _ HQ.O) ?_;clear hK K
 try simp only[pu]
 refine mD fun K hK=>?_;go_simp;have q8:((w7.setCell (y_ (w.1.size+2)) (Xu ik)).setCell (x_ (w.1.size+2) 1) (Xu iv)).drew.1[w.1.size+2]?=_:=ew HQ.O (Xu ik) (Xu iv);have o8:∀k,k≠w.1.size+2->((w7.setCell (y_ (w.1.size+2)) (Xu ik)).setCell (x_ (w.1.size+2) 1) (Xu iv)).drew.1[k]?=w7.1[k]?:=fun k hk=>fA hk _ _;have z8:((w7.setCell (y_ (w.1.size+2)) (Xu ik)).setCell (x_ (w.1.size+2) 1) (Xu iv)).drew.1.size=w7.1.size:=by show ((w7.setCell (y_ (w.1.size+2)) (Xu ik)).setCell (x_ (w.1.size+2) 1) (Xu iv)).1.size=_;simp
 have s8:((w7.setCell (y_ (w.1.size+2)) (Xu ik)).setCell (x_ (w.1.size+2) 1) (Xu iv)).drew.os=w7.os/\((w7.setCell (y_ (w.1.size+2)) (Xu ik)).setCell (x_ (w.1.size+2) 1) (Xu iv)).drew.tape=w7.tape/\((w7.setCell (y_ (w.1.size+2)) (Xu ik)).setCell (x_ (w.1.size+2) 1) (Xu iv)).drew.output=w7.output:=⟨rfl,rfl,rfl⟩;generalize ((w7.setCell (y_ (w.1.size+2)) (Xu ik)).setCell (x_ (w.1.size+2) 1) (Xu iv)).drew=w8 at*
 try go_simp
 refine hK.O _ _ (HI.O _ q8) ?_;clear hK K
 try simp only[pu]
 refine mD fun K hK=>?_;go_simp
 try go_simp
 refine hK.O _ _ (HI.O _ q8) ?_;clear hK K
 try simp only[pu]
 refine mD fun K hK=>?_;go_simp
 try go_simp
 refine hK.O _ _ (HI.O _ q8) ?_;clear hK K
 try simp only[pu]
 refine mX ?_;obtain⟨e0,e1⟩:=Fp q8;have a1:Ig w8 ps S' Y/\Fo Y w w8:=by
  obtain⟨h6,k6,-,-,y6,-,o7,z7,s7⟩:=H6.O;have hY:=HG.i;have hz:=HG.g;have hw:∀k,k≠w.1.size+2->w8.1[k]?=w6.1[k]?:=fun k hk=>(o8 k hk).T (o7 k hk);refine⟨(h6.write (ae ⟨o_,o_⟩) y6 ⟨d_,d_⟩ s_ o_ fun k _ hk=>hw k hk).M fun k hk=>ab hk,?_⟩;have ad:=(Fo.A_ HG.h hY).T (k6.M fun k hk=>ab hk);exact⟨(s8.1.T s7.1).T ad.os,(s8.2.1.T s7.2.1).T ad.tape,(s8.2.2.T s7.2.2).T ad.output,by have:=ad.size;omega,fun k hk=>(hw k (by have:=hY k hk;omega)).T (ad.block k hk)⟩
 have HF:=If a1;clear a1 q8 o8 z8 s8 g0 g1 h0 h1 m0 m1;go_wp2_with fail;exact bodyPost_ret (v:=.tuple #[Xu x,.agg #[Xu ik,Xu iv],.bool true,Xi 0]) (by simp[results,f301,go_sem,e0,e1]) rfl ⟨rfl,HF.O.1,HF.O.2,hi',H6.d⟩
theorem lT(n:Nd){m:Nat}:∀(f:Nat) {S S':St} {l r x:Nat},Fv S->joinB n m f S l r=some (x,S')->Fv S'/\(m<2^64->x<2^64)
 | 0,S,S',l,r,x,hi,hj=>by
  rw[qY] at hj;obtain⟨S1,h1,h2⟩:=aB.1 hj;injection h2 with e1 e2
  subst e1 e2;exact⟨gX hi h1,id⟩
 | f+1,S,S',l,r,x,hi,hj=>by
  rw[qX] at hj;split at hj
  ·split at hj
   ·split at hj
    ·cases hj
    ·rename_i x1 S1 h1;split at hj
     ·cases hj
     ·rename_i S2 h2;obtain⟨hb,hx⟩:=lM hj;exact⟨tH (gX (lT n f hi h1).1 h2) hb,fun _=>hx⟩
   ·split at hj
    ·split at hj
     ·cases hj
     ·rename_i x1 S1 h1;split at hj
      ·cases hj
      ·rename_i S2 h2;obtain⟨hb,hx⟩:=lM hj;exact⟨tH (gX (lT n f hi h1).1 h2) hb,fun _=>hx⟩
    ·obtain⟨S1,h1,h2⟩:=aB.1 hj;injection h2 with e1 e2
     subst e1 e2;exact⟨gX hi h1,id⟩
  ·cases hj
theorem yU(n:Nd)(hn:ji n)(m:Nat)(hm:m<2^64):∀(f d:Nat),d+f=100->∀{w:World} {S S':St} {Y:Nat->Prop} {l r x:Nat},Ig w ps S Y->Fv S->l<2^64->r<2^64->
 joinB n m f S l r=some (x,S')->
 Ct 185 #[PV ps,Xu l,Xu r,gP n m,Xi d] w fun e w'=>e=.returned (Xu x)/\Ig w' ps S' Y/\Fo Y w w':=by
 intro f;induction f with
 | zero=>
  intro d hd w S S' Y l r x h hi hl hr hj;obtain rfl:d=100:=o_
  rw[qY] at hj;obtain⟨S1,h1,h2⟩:=aB.1 hj;injection h2 with e1 e2
  subst e1 e2;obtain⟨a,b,-,-,ha,hb,-,-,-⟩:=Ht h1;have hA:=fun W (hW:D_ w W)=>fJ (h.a_ hW) hi l hl ha;have hB:=fun W (hW:D_ w W)=>fJ (h.a_ hW) hi r hr hb;have hW:=fun W Z (hW:Ig W ps S Z)=>jG hW hi n hn m l r hm hl hr h1;obtain⟨k0,k1,k2,k3,k4,k5⟩:=n;simp only[gP] at hW⊢;have q0:=heap_alloc_new w (Xa k0 k1 k2 k3 k4 k5 m);have B0:=c_ w (Xa k0 k1 k2 k3 k4 k5 m);have HG:=kq6 hA hB hW h q0 B0;clear hA hB hW h hi hj h1 ha hb q0 B0 hd hn;go_enter func185,ntmps185;go_wp2_with fail;refine e9 (HG.a _ HG.f) fun w1 hb1=>?_;have H1:=kq2 (b_ HG.f hb1) ((hb1.block w.1.size s_).T HG.e);clear hb1;go_wp2_with fail;refine e9 (HG.b _ H1.a) fun w2 hb2=>?_;have r2:=(hb2.block w.1.size (gl H1.b)).T H1.b;obtain⟨c0,c1,c2,c3,c4,c5,c6⟩:=gG r2;have H2:=If (b_ H1.a hb2);clear hb2 r2;go_wp2_with fail;refine(HG.c _ _ (HG.d.a_ H2.O)).M ?_;rintro e w3 ⟨rfl,h3,a8⟩;have H3:=kq2 h3 ((Fo.A_ H2.O HG.d.yl).T a8);clear h3 a8;go_wp2_with fail;go_ret;exact⟨rfl,H3.O⟩
 | succ f ih=>
  intro d hd w S S' Y l r x h hi hl hr hj;rw[qX] at hj;split at hj
  case h_2=>cases hj
  rename_i a b ha hb;have bd:a<2^62:=by have:=G_ ha;omega
  have bf:b<2^62:=by have:=G_ hb;omega
  have hA:=fun W (hW:D_ w W)=>fJ (h.a_ hW) hi l hl ha;have hB:=fun W (hW:D_ w W)=>fJ (h.a_ hW) hi r hr hb;have bj:((d:Int)==100)=false:=m_
  split at hj
  ·rename_i hba;have ba:((b:Int)+1<a)=True:=eq_true o_;split at hj
   ·cases hj
   rename_i x1 S1 hj1;split at hj
   ·cases hj
   rename_i S2 hj2;obtain⟨hj,a'⟩:=lM hj;obtain⟨a1,ai⟩:=lT n f hi hj1;have ai:=ai hm;have a4:=gX a1 hj2;have ad:=fs h l;have hg:=fun W (hW:D_ w W)=>gR (h.a_ hW) hi l hl;have cr:=fun W Z (hW:Ig W ps S Z)=>ih (d+1) o_ hW hi ad.right hr hj1;have cw:=fun W Z (hW:Ig W ps S1 Z)=>jG hW a1 (f_ S l).1 ad l (f_ S l).1.left x1 hl ad.left ai hj2;have cb:=fun W Z (hW:Ig W ps S2 Z)=>tG hW a4 _ hl hj;obtain⟨⟨⟨g0,g1,g2,g3,g4,g5⟩,er⟩,hE⟩:∃r,f_ S l=r:=⟨_,rfl⟩;rw[hE] at hg cr cw;obtain⟨k0,k1,k2,k3,k4,k5⟩:=n;simp only[gP] at hg cr cw⊢;have bb:IntKind.i64.wrap ((d:Int)+1)=(d:Int)+1:=aq _ o_;have q0:=heap_alloc_new w (Xa k0 k1 k2 k3 k4 k5 m);have B0:=c_ w (Xa k0 k1 k2 k3 k4 k5 m);have HG:=kq9 hA hB hg h q0 B0 cr cw cb;clear hA hB hg cr cw cb h hi a1 a4 hj hj1 hj2 ha hb q0 B0 ih hn ad a' ai hE;go_enter func185,ntmps185;go_wp2_with fail;refine e9 (HG.a _ HG.f) fun w1 hb1=>?_;have H1:=kq2 (b_ HG.f hb1) ((hb1.block w.1.size s_).T HG.e);clear hb1;go_wp2_with fail;refine e9 (HG.b _ H1.a) fun w2 hb2=>?_;have H2:=kq2 (b_ H1.a hb2) ((hb2.block w.1.size (gl H1.b)).T H1.b);clear hb2;go_wp2_with fail;refine e9 (HG.c _ H2.a) fun w3 hb3=>?_;have r3:=(hb3.block w.1.size (gl H2.b)).T H2.b;have B3:=b_ H2.a hb3;have q4:=heap_alloc_new w3 (Xa g0 g1 g2 g3 g4 g5 l);have r4:=((c_ w3 (Xa g0 g1 g2 g3 g4 g5 l)).block w.1.size (gl r3)).T r3;have B4:=B3.alloc B3.size (Xa g0 g1 g2 g3 g4 g5 l);clear hb3 r3;have a5:=B3.size;go_wp2_with fail;generalize w3.alloc (Xa g0 g1 g2 g3 g4 g5 l)=W at*;generalize w3.1.size=b13 at*;have a3:=(gl r4);have a2:=(gl q4);have zw:=HG.d.wide B4;have HZ:=kq5 zw r4 q4 B4 a5;obtain⟨I,au,a0⟩:∃I:World->Prop,(∀w',I w'->w'.1[w.1.size]?=some (Xa k0 k1 k2 k3 k4 k5 m)/\w'.1[b13]?=some (Xa g0 g1 g2 g3 g4 g5 l))/\(∀w',w'.1[w.1.size]?=some (Xa k0 k1 k2 k3 k4 k5 m)->w'.1[b13]?=some (Xa g0 g1 g2 g3 g4 g5 l)->I w'):=⟨fun w'=>w'.1[w.1.size]?=some (Xa k0 k1 k2 k3 k4 k5 m)/\w'.1[b13]?=some (Xa g0 g1 g2 g3 g4 g5 l),fun _ h=>h,fun _ a b=>⟨a,b⟩⟩;have a6:=fun x:Fq I=>(au _ x.ok).1;have a7:=fun x:Fq I=>(au _ x.ok).2;obtain⟨y0,y1,y2,y3,y4,y5,y6⟩:=iZ a6;obtain⟨z0,z1,z2,z3,z4,z5,z6⟩:=iZ a7;have HI:=If a0;have a9:I W.drew:=a0 _ r4 q4;clear a6 a7 q4 r4 zw B4 a5 au a0;refine Jz I [0,1,2,3,4,5,6,7,8,9,10,11,12,13] [14,15,16,17] k_ k_ a9 ?_;iterate 14
    refine' hC ?_ ?_;rotate_left
    ·intro x;go_simp;try rfl
    simp only[pu]
   refine mo ?_;clear y0 y1 y2 y3 y4 y5 y6 z0 z1 z2 z3 z4 z5 z6;refine gF _ (by rfl) (by rfl) (fun K hK=>?_);go_simp;refine(HG.g _ _ (HZ.a.a_ (aa _ _).drew)).M ?_;rintro e w5 ⟨rfl,h5,an⟩;have u5:w5.1[w.1.size]?=_:=(an.block _ (ae ⟨Nat.le_refl _,a3⟩)).T HZ.b;have v5:w5.1[b13]?=_:=(an.block _ (ae ⟨HZ.e,a2⟩)).T HZ.c;have H5:=kq4 h5 an u5 v5;clear h5 an u5 v5;try go_simp
   refine hK.O _ _ (HI.O _ H5.c H5.d) ?_;clear hK K;try simp only[pu]
   refine gF _ (by rfl) (by rfl) (fun K hK=>?_);go_simp;refine(HG.h _ _ H5.a).M ?_;rintro e w6 ⟨rfl,h6,ap⟩;have u6:w6.1[w.1.size]?=_:=(ap.block _ (ae ⟨Nat.le_refl _,a3⟩)).T H5.c;have v6:w6.1[b13]?=_:=(ap.block _ (ae ⟨HZ.e,a2⟩)).T H5.d;have H6:=kq4 h6 (H5.b.T ap) u6 v6;clear h6 ap u6 v6;try go_simp
   refine hK.O _ _ (HI.O _ H6.c H6.d) ?_;clear hK K;try simp only[pu]
   refine gF _ (by rfl) (by rfl) (fun K hK=>?_);go_simp;refine(HG.i _ _ H6.a).M ?_;rintro e w7 ⟨rfl,h7,ar⟩;have u7:w7.1[w.1.size]?=_:=(ar.block _ (ae ⟨Nat.le_refl _,a3⟩)).T H6.c;have v7:w7.1[b13]?=_:=(ar.block _ (ae ⟨HZ.e,a2⟩)).T H6.d;have H7:=kq4 h7 (H6.b.T ar) u7 v7;clear h7 ar u7 v7;try go_simp
   refine hK.O _ _ (HI.O _ H7.c H7.d) ?_;clear hK K;try simp only[pu]
   refine gF _ (by rfl) (by rfl) (fun K hK=>?_);try go_simp
   refine hK.O _ _ (HI.O _ H7.c H7.d) ?_;clear hK K;try simp only[pu]
   refine L9 ?_;go_wp2_with fail;go_ret;exact⟨rfl,H7.a.M fun k hk=>ab hk,(Fo.A_ HZ.d.drew HG.d.yl).T (H7.b.M fun k hk=>ab hk)⟩
  ·split at hj
   ·rename_i hab;have ba:((b:Int)+1<a)=False:=eq_false o_;have bc:((a:Int)+1<b)=True:=eq_true o_;split at hj
    ·cases hj
    rename_i x1 S1 hj1;split at hj
    ·cases hj
    rename_i S2 hj2;obtain⟨hj,a'⟩:=lM hj;obtain⟨a1,ai⟩:=lT n f hi hj1;have ai:=ai hm;have a4:=gX a1 hj2;have ad:=fs h r;have hg:=fun W (hW:D_ w W)=>gR (h.a_ hW) hi r hr;have cr:=fun W Z (hW:Ig W ps S Z)=>ih (d+1) o_ hW hi hl ad.left hj1;have cw:=fun W Z (hW:Ig W ps S1 Z)=>jG hW a1 (f_ S r).1 ad r x1 (f_ S r).1.right hr ai ad.right hj2;have cb:=fun W Z (hW:Ig W ps S2 Z)=>tG hW a4 _ hr hj;obtain⟨⟨⟨g0,g1,g2,g3,g4,g5⟩,er⟩,hE⟩:∃q,f_ S r=q:=⟨_,rfl⟩;rw[hE] at hg cr cw;obtain⟨k0,k1,k2,k3,k4,k5⟩:=n;simp only[gP] at hg cr cw⊢;have bb:IntKind.i64.wrap ((d:Int)+1)=(d:Int)+1:=aq _ o_;have q0:=heap_alloc_new w (Xa k0 k1 k2 k3 k4 k5 m);have B0:=c_ w (Xa k0 k1 k2 k3 k4 k5 m);have HG:=kq9 hA hB hg h q0 B0 cr cw cb;clear hA hB hg cr cw cb h hi a1 a4 hj hj1 hj2 ha hb q0 B0 ih hn ad a' ai hE;go_enter func185,ntmps185;go_wp2_with fail;refine e9 (HG.a _ HG.f) fun w1 hb1=>?_;have H1:=kq2 (b_ HG.f hb1) ((hb1.block w.1.size s_).T HG.e);clear hb1;go_wp2_with fail;refine e9 (HG.b _ H1.a) fun w2 hb2=>?_;have H2:=kq2 (b_ H1.a hb2) ((hb2.block w.1.size (gl H1.b)).T H1.b);clear hb2;go_wp2_with fail;refine e9 (HG.c _ H2.a) fun w3 hb3=>?_;have r3:=(hb3.block w.1.size (gl H2.b)).T H2.b;have B3:=b_ H2.a hb3;have q4:=heap_alloc_new w3 (Xa g0 g1 g2 g3 g4 g5 r);have r4:=((c_ w3 (Xa g0 g1 g2 g3 g4 g5 r)).block w.1.size (gl r3)).T r3;have B4:=B3.alloc B3.size (Xa g0 g1 g2 g3 g4 g5 r);clear hb3 r3;have a5:=B3.size;go_wp2_with fail;generalize w3.alloc (Xa g0 g1 g2 g3 g4 g5 r)=W at*;generalize w3.1.size=b13 at*;have a3:=(gl r4);have a2:=(gl q4);have zw:=HG.d.wide B4;have HZ:=kq5 zw r4 q4 B4 a5;obtain⟨I,au,a0⟩:∃I:World->Prop,(∀w',I w'->w'.1[w.1.size]?=some (Xa k0 k1 k2 k3 k4 k5 m)/\w'.1[b13]?=some (Xa g0 g1 g2 g3 g4 g5 r))/\(∀w',w'.1[w.1.size]?=some (Xa k0 k1 k2 k3 k4 k5 m)->w'.1[b13]?=some (Xa g0 g1 g2 g3 g4 g5 r)->I w'):=⟨fun w'=>w'.1[w.1.size]?=some (Xa k0 k1 k2 k3 k4 k5 m)/\w'.1[b13]?=some (Xa g0 g1 g2 g3 g4 g5 r),fun _ h=>h,fun _ a b=>⟨a,b⟩⟩;have a6:=fun x:Fq I=>(au _ x.ok).1;have a7:=fun x:Fq I=>(au _ x.ok).2;obtain⟨y0,y1,y2,y3,y4,y5,y6⟩:=iZ a6;obtain⟨z0,z1,z2,z3,z4,z5,z6⟩:=iZ a7;have HI:=If a0;have a9:I W.drew:=a0 _ r4 q4;clear a6 a7 q4 r4 zw B4 a5 au a0;refine Jz I [0,1,2,3,4,5,6,7,8,9,10,12,13,14] [11,15,16,17] k_ k_ a9 ?_;iterate 14
     refine' hC ?_ ?_;rotate_left
     ·intro x;go_simp;try rfl
     simp only[pu]
    refine mo ?_;clear y0 y1 y2 y3 y4 y5 y6 z0 z1 z2 z3 z4 z5 z6;refine gF _ (by rfl) (by rfl) (fun K hK=>?_);go_simp;refine(HG.g _ _ (HZ.a.a_ (aa _ _).drew)).M ?_;rintro e w5 ⟨rfl,h5,an⟩;have u5:w5.1[w.1.size]?=_:=(an.block _ (ae ⟨Nat.le_refl _,a3⟩)).T HZ.b;have v5:w5.1[b13]?=_:=(an.block _ (ae ⟨HZ.e,a2⟩)).T HZ.c;have H5:=kq4 h5 an u5 v5;clear h5 an u5 v5;try go_simp
    refine hK.O _ _ (HI.O _ H5.c H5.d) ?_;clear hK K;try simp only[pu]
    refine gF _ (by rfl) (by rfl) (fun K hK=>?_);go_simp;refine(HG.h _ _ H5.a).M ?_;rintro e w6 ⟨rfl,h6,ap⟩;have u6:w6.1[w.1.size]?=_:=(ap.block _ (ae ⟨Nat.le_refl _,a3⟩)).T H5.c;have v6:w6.1[b13]?=_:=(ap.block _ (ae ⟨HZ.e,a2⟩)).T H5.d;have H6:=kq4 h6 (H5.b.T ap) u6 v6;clear h6 ap u6 v6;try go_simp
    refine hK.O _ _ (HI.O _ H6.c H6.d) ?_;clear hK K;try simp only[pu]
    refine gF _ (by rfl) (by rfl) (fun K hK=>?_);go_simp;refine(HG.i _ _ H6.a).M ?_;rintro e w7 ⟨rfl,h7,ar⟩;have u7:w7.1[w.1.size]?=_:=(ar.block _ (ae ⟨Nat.le_refl _,a3⟩)).T H6.c;have v7:w7.1[b13]?=_:=(ar.block _ (ae ⟨HZ.e,a2⟩)).T H6.d;have H7:=kq4 h7 (H6.b.T ar) u7 v7;clear h7 ar u7 v7;try go_simp
    refine hK.O _ _ (HI.O _ H7.c H7.d) ?_;clear hK K;try simp only[pu]
    refine gF _ (by rfl) (by rfl) (fun K hK=>?_);try go_simp
    refine hK.O _ _ (HI.O _ H7.c H7.d) ?_;clear hK K;try simp only[pu]
    refine L9 ?_;go_wp2_with fail;go_ret;exact⟨rfl,H7.a.M fun k hk=>ab hk,(Fo.A_ HZ.d.drew HG.d.yl).T (H7.b.M fun k hk=>ab hk)⟩
   ·rename_i hba hab;have ba:((b:Int)+1<a)=False:=eq_false o_;have bc:((a:Int)+1<b)=False:=eq_false o_;obtain⟨S1,h1,h2⟩:=aB.1 hj;injection h2 with e1 e2
    subst e1 e2;have hW:=fun W Z (hW:Ig W ps S Z)=>jG hW hi n hn m l r hm hl hr h1;obtain⟨k0,k1,k2,k3,k4,k5⟩:=n;simp only[gP] at hW⊢;have q0:=heap_alloc_new w (Xa k0 k1 k2 k3 k4 k5 m);have B0:=c_ w (Xa k0 k1 k2 k3 k4 k5 m);have HG:=kq6 hA hB hW h q0 B0;clear hA hB hW h hi hj h1 ha hb q0 B0 hn ih;go_enter func185,ntmps185;go_wp2_with fail;refine e9 (HG.a _ HG.f) fun w1 hb1=>?_;have H1:=kq2 (b_ HG.f hb1) ((hb1.block w.1.size s_).T HG.e);clear hb1;go_wp2_with fail;refine e9 (HG.b _ H1.a) fun w2 hb2=>?_;have r2:=(hb2.block w.1.size (gl H1.b)).T H1.b;obtain⟨c0,c1,c2,c3,c4,c5,c6⟩:=gG r2;have H2:=If (b_ H1.a hb2);clear hb2 r2;go_wp2_with fail;refine(HG.c _ _ (HG.d.a_ H2.O)).M ?_;rintro e w3 ⟨rfl,h3,a8⟩;have H3:=kq2 h3 ((Fo.A_ H2.O HG.d.yl).T a8);clear h3 a8;go_wp2_with fail;go_ret;exact⟨rfl,H3.O⟩
theorem nL{S S':St}{l m r:Nat}(h:avlJ S l m r=some (R,S')):
 m≠0/\isT S l=true/\isT S m=true/\isT S r=true/\joinB (f_ S m).1 m 100 S l r=some (R.1,S')/\R.2=0:=by
 unfold avlJ at h
 split at h
 ·cases h
 ·rename_i hc;obtain⟨⟨x,S1⟩,h1,h2⟩:=aB.1 h
  injection h2 with e1 e2
  subst e1 e2;simp only[not_or,Bool.not_eq_false] at hc;exact⟨hc.1,hc.2.1,hc.2.2.1,hc.2.2.2,h1,rfl⟩
theorem yM{S S':St}(h:Ig w ps S Y)(hi:Fv S)(l m r:Nat)(hl:l<2^64)(hm:m<2^64)(hr:r<2^64)(hR:avlJ S l m r=some (R,S')):
 Ct 141 #[PV ps,Xu l,Xu m,Xu r] w fun e w'=>e=.returned (.tuple #[Xu R.1,Xi R.2])/\Ig w' ps S' Y/\Fo Y w w':=by
 obtain⟨h0,h1,h2,h3,h4,h5⟩:=nL hR;obtain⟨x,er⟩:=R;simp only at h4 h5;subst h5;have ap:=fB h hi 0 o_;rw[fU] at ap;have ad:=pQ h hi l hl;have ai:=fun W (hW:D_ w W)=>pQ (h.a_ hW) hi m hm;have an:=fun W (hW:D_ w W)=>pQ (h.a_ hW) hi r hr;have hg:=fun W (hW:D_ w W)=>gR (h.a_ hW) hi m hm;have hj:=fun W (hW:D_ w W)=>yU (f_ S m).1 (fs h m) m hm 100 0 rfl (h.a_ hW) hi hl hr h4;rw[h1] at ad;rw[h2] at ai;rw[h3] at an;obtain⟨⟨⟨k0,k1,k2,k3,k4,k5⟩,er⟩,hE⟩:∃q,f_ S m=q:=⟨_,rfl⟩;rw[hE] at hg hj;simp only[gP] at hg hj;have hq:((m:Int)==0)=false:=m_
 have HG:=kq7 ap ad ai an hg hj h;clear ap ad ai an hg hj h hi hE h0 h1 h2 h3 h4 hR;go_enter func141,ntmps141;go_wp2_with fail;refine Jc HG.a ?_;go_wp2_with fail;refine e9 HG.b fun w1 hb1=>?_;have H1:=If hb1;clear hb1;go_wp2_with fail;refine e9 (HG.c _ H1.O) fun w2 hb2=>?_;have H2:=If (b_ H1.O hb2);clear hb2;go_wp2_with fail;refine e9 (HG.d _ H2.O) fun w3 hb3=>?_;have H3:=If (b_ H2.O hb3);clear hb3;go_wp2_with fail;refine e9 (HG.e _ H3.O) fun w4 hb4=>?_;have H4:=If (b_ H3.O hb4);clear hb4;go_wp2_with fail;refine(HG.f _ H4.O).M ?_;rintro e w5 ⟨rfl,h5,ar⟩;have H5:=kq2 h5 ((HG.g.B_ H4.O).T ar);clear h5 ar;go_wp2_with fail;go_ret2;exact⟨rfl,H5.O⟩
theorem BJ:kW 141 avlJ where
 enter args w:=by go_simp
 inv hi h:=(lT _ 100 hi (nL h).2.2.2.2.1).1
 lt hi _ hm _ h:=(lT _ 100 hi (nL h).2.2.2.2.1).2 hm
 ok h:=(nL h).2.2.2.2.2
 call h hi hl hm hr hR:=yM h hi _ _ _ hl hm hr hR
theorem vi:jD 1 141 234 avlJ:=⟨ab rfl,E2,BJ,Ai⟩
theorem uy(a0 a1 a2 a3 a4 a5:Value)(w:World):(Instr.field 139 (.agg #[a0,a1,a2,a3,a4,a5]) 4).run prog w=.ok a4 w:=k_
def Lf.F1(S:St)(h:Nat):Nat:=(f_ S h).1.mark / 2
def Lf.G8(S:St)(h:Nat):Bool:=decide ((f_ S h).1.mark % 2=1)
def Lf.putRM(S:St)(h l r:Nat)(isRed:Bool):Option St:=
 match fY S l,fY S r with
 | some x,some y=>if 4611686018427387904<=F1 S l then none else
  some (gM S h { (f_ S h).1 with left:=l,right:=r,mark:=F1 S l*2+(if isRed then 1 else 2),size:=x+y+1 }).2
 | _,_=>none
theorem wA{S S':St}{h l r:Nat}{c:Bool}(hp:putRM S h l r c=some S'):∃x y,fY S l=some x/\fY S r=some y/\F1 S l<2^62/\
 S'=(gM S h { (f_ S h).1 with left:=l,right:=r,mark:=F1 S l*2+(if c then 1 else 2),size:=x+y+1 }).2:=by
 unfold putRM at hp;split at hp
 ·rename_i x y h1 h2;split at hp
  ·cases hp
  ·exact⟨x,y,h1,h2,o_,(Option.some.inj hp).S⟩
 ·cases hp
theorem oQ(h:Ig w ps S Y)(hi:Fv S)(hh:Nat)(hl:hh<2^64):
 Cb 220 #[PV ps,Xu hh] w (eS (f_ S hh).1):=by
 have B0:=c_ w (.cells #[Xu 0,Xu 0,Xu 0,Xu 0,Xu 0,Xu 0] 139);have q0:=heap_alloc_new w (.cells #[Xu 0,Xu 0,Xu 0,Xu 0,Xu 0,Xu 0] 139);have hg:=iO (h.a_ B0) hi hh hl;obtain⟨⟨⟨k0,k1,k2,k3,k4,k5⟩,er⟩,hE⟩:∃r,f_ S hh=r:=⟨_,rfl⟩;rw[hE] at hg⊢;unfold eS at hg⊢;simp only at hg⊢;have HG:=kq3 hg B0 q0;clear hg h hi hE B0 q0;go_enter func220,ntmps220;go_wp2_with fail;refine e9 HG.a fun w1 hb=>?_;have ad:=hb.alloc hb.size (Xb k0 k1 k2 k3 k4 k5);have r0:=(ad.block w.1.size s_).T HG.c;have B1:=b_ HG.b ad;obtain⟨c0,c1,c2,c3,c4,c5⟩:=ia r0;obtain⟨f0,f1,f2,f3,f4,f5⟩:=lP r0;have HB:=kq2 r0 B1;clear r0 B1 ad hb;go_wp2_with fail;have q6:=xj HB.a (Xu k0) (Xu k1) (Xu k2) (Xu k3) (Xu k4) (Xu k5);have B6:=KJ HB.b (Nat.le_refl w.1.size) (Xu k0) (Xu k1) (Xu k2) (Xu k3) (Xu k4) (Xu k5);generalize (((((((w1.alloc (Xb k0 k1 k2 k3 k4 k5)).setCell (y_ w.1.size) (Xu k0)).setCell (x_ w.1.size 1) (Xu k1)).setCell (x_ w.1.size 2) (Xu k2)).setCell (x_ w.1.size 3) (Xu k3)).setCell (x_ w.1.size 4) (Xu k4)).setCell (x_ w.1.size 5) (Xu k5))=W6 at q6 B6⊢;obtain⟨g0,g1,g2,g3,g4,g5⟩:=ia q6;exact bodyPost_ret (v:=.agg #[Xu k0,Xu k1,Xu k2,Xu k3,Xu k4,Xu k5]) (by simp[results,f220,go_sem,g0,g1,g2,g3,g4,g5]) rfl ⟨rfl,B6⟩
theorem gy(h:Ig w ps S Y)(hi:Fv S)(hh:Nat)(hl:hh<2^64):
 Cb 188 #[PV ps,Xu hh] w (Xu (F1 S hh:Nat)):=by
 have hg:=oQ h hi hh hl;unfold F1;obtain⟨⟨⟨k0,k1,k2,k3,k4,k5⟩,er⟩,hE⟩:∃r,f_ S hh=r:=⟨_,rfl⟩;rw[hE] at hg⊢;unfold eS at hg;simp only at hg⊢;have ad:=uy;have HG:=If hg;clear hg h hi hE;go_enter func188,ntmps188;go_wp2_with fail;refine e9 HG.O fun w1 hb=>?_;have HB:=If hb;clear hb;go_wp2_with fail;go_ret;exact⟨s_,HB.O⟩
theorem gq(h:Ig w ps S Y)(hi:Fv S)(hh:Nat)(hl:hh<2^64):
 Cb 191 #[PV ps,Xu hh] w (.bool (G8 S hh)):=by
 have hg:=oQ h hi hh hl;have ad:=(fs h hh).mark;unfold G8;obtain⟨⟨⟨k0,k1,k2,k3,k4,k5⟩,er⟩,hE⟩:∃r,f_ S hh=r:=⟨_,rfl⟩;rw[hE] at hg ad⊢;unfold eS at hg;simp only at hg ad⊢;have ai:bits BinOp.and IntKind.u64 (k4:Int) 1=((k4 % 2:Nat):Int):=by
  have h1:=bits_and_u64_nat k4 1 ad d_;rw[show ((1:Nat):Int)=1 from rfl] at h1;rw[h1,Nat.and_one_is_mod]
 have HA:=If ai;clear ai;have an:=uy;have HG:=If hg;clear hg h hi hE;go_enter func191,ntmps191;go_wp2_with fail;refine e9 HG.O fun w1 hb=>?_;have HB:=If hb;clear hb;go_wp2_with fail;go_ret;refine⟨?_,HB.O⟩;rw[HA.O]
 rcases dB k4 with e | e<;>simp[e]
theorem io(h:Ig w ps S Y)(hi:Fv S)(hh:Nat)(hl:hh<2^64):
 Cb 187 #[PV ps,Xu hh] w (.bool (isT S hh)):=by
 have hg:=iO h hi hh hl;obtain⟨R,hR⟩:=Ii (isT S hh);rw[hR];unfold isT at hR;obtain⟨⟨⟨k0,k1,k2,k3,k4,k5⟩,er⟩,hE⟩:∃r,f_ S hh=r:=⟨_,rfl⟩;rw[hE] at hg hR;unfold eS at hg;simp only at hg hR;have ad:R=(((hh:Int)==0) || ((er:Int)==0)):=by
  rw[<-hR]
  by_cases a:hh=0<;>by_cases b:er=0<;>simp[a,b]<;>omega
 have HG:=kq2 hg ad;clear hg h hi hE hR ad
 by_cases h0:hh=0
 ·subst h0;go_enter func187,ntmps187;go_wp2_with fail;refine e9 HG.a fun w1 hb=>?_;have HB:=If (hb.alloc hb.size (Xb k0 k1 k2 k3 k4 k5));clear hb;go_wp2_with fail;go_ret;obtain rfl:=HG.b;exact⟨s_,HB.O⟩
 ·have hq:((hh:Int)==0)=false:=m_
  go_enter func187,ntmps187;go_wp2_with fail;refine e9 HG.a fun w1 hb=>?_;have HB:=If (hb.alloc hb.size (Xb k0 k1 k2 k3 k4 k5));clear hb;go_wp2_with fail;go_ret;obtain rfl:=HG.b;exact⟨by simp[hq],HB.O⟩
theorem qOaac{P:Prop}(h:P:=by
 have B6:=H5.a.setCell (p:=x_ b 5) H2.c (Xu ((x:Int)+y+1));refine(HG.e _ _ (HG.f.wide B6)).M ?_;rintro e w7 ⟨rfl,h7,k7⟩;have H7:=kq2 (h7.M (Z:=Y) fun k hk=>ab hk) ((Fo.A_ B6 HG.f.yl).T (k7.M fun k hk=>ab hk));clear h7 k7 r6 B6 c0 c1 c2 c3 c4 c5 f0 f1 f2 f3 f4 f5;go_wp2_with fail;go_ret;exact⟨rfl,H7.O⟩):P:=h
theorem nh{S S':St}(h:Ig w ps S Y)(hi:Fv S)(hh l r:Nat)(c:Bool)(hl:hh<2^64)(hll:l<2^64)(hrl:r<2^64)(hp:putRM S hh l r c=some S'):
 Ct 190 #[PV ps,Xu hh,Xu l,Xu r,.bool c] w fun e w'=>e=.returned (Xu hh)/\Ig w' ps S' Y/\Fo Y w w':=by
 obtain⟨x,y,h1,h2,au,rfl⟩:=wA hp;have hx:x<2^62:=by have:=G_ h1;omega
 have hy:y<2^62:=by have:=G_ h2;omega
 have ad:=fs h hh;have hg:=oQ h hi hh hl;have hb:=fun W (hW:D_ w W)=>gy (h.a_ hW) hi l hll;have an:=fun W (hW:D_ w W)=>kP (h.a_ hW) hi l hll h1;have ap:=fun W (hW:D_ w W)=>kP (h.a_ hW) hi r hrl h2;generalize F1 S l=bk at*;obtain⟨⟨⟨k0,k1,k2,k3,k4,k5⟩,er⟩,hE⟩:∃q,f_ S hh=q:=⟨_,rfl⟩;rw[hE] at hg ad⊢;simp only at ad⊢;have ai:=fun W Z (hW:Ig W ps S Z)=>rM hW hi hh hl ⟨k0,k1,l,r,bk*2+(if c then 1 else 2),x+y+1⟩ ⟨ad.key,ad.val,hll,hrl,by simp only;split<;>omega,by simp only;omega⟩;have ar:eS ⟨k0,k1,l,r,bk*2+(if c then 1 else 2),x+y+1⟩=.agg #[Xu k0,Xu k1,Xu l,Xu r,Xu ((bk*2+(if c then 1 else 2):Nat):Int),Xu ((x:Int)+y+1)]:=by simp[eS]
 rw[ar] at ai;unfold eS at hg;simp only at hg;have HG:=kq6 hg hb an ap ai h;have a1:IntKind.u64.wrap ((bk:Int)*2)=(bk:Int)*2:=by rw[IntKind.wrap_u64];omega
 have a2:IntKind.u64.wrap ((bk:Int)*2+2)=(bk:Int)*2+2:=by rw[IntKind.wrap_u64];omega
 have a0:bits BinOp.or IntKind.u64 ((bk:Int)*2) 1=(bk:Int)*2+1:=by
  rw[show ((bk:Int)*2)=((bk*2:Nat):Int) by simp,show (1:Int)=((1:Nat):Int) from rfl,bits_or_u64_nat _ _ o_ d_];have:bk*2 ||| 1=bk*2+1:=by
   rw[show bk*2=bk<<<1 by simp[Nat.shiftLeft_eq]];exact(cR d_ bk).S
  omega
 clear hg hb an ap ai ar h hi hE hp h1 h2 ad
 cases c with
 | true=>
  simp only[if_true] at HG⊢;go_enter func190,ntmps190;go_wp2_with fail;refine e9 HG.a fun w1 hb1=>?_;have q1:=heap_alloc_new w1 (Xb k0 k1 l r k4 k5);have B1:=hb1.alloc hb1.size (Xb k0 k1 l r k4 k5);have z1:=hb1.size;clear hb1;go_wp2_with fail;generalize w1.alloc (Xb k0 k1 l r k4 k5)=W at*;generalize w1.1.size=b at*;refine e9 (HG.b _ B1) fun w2 hb2=>?_;have r2:=(hb2.block b (gl q1)).T q1;obtain⟨c0,c1,c2,c3,c4,c5⟩:=ia r2;obtain⟨f0,f1,f2,f3,f4,f5⟩:=lP r2;have H2:=kq3 (b_ B1 hb2) r2 z1;clear hb2 r2 B1 q1 z1;go_wp2_with fail;have r3:((w2.setCell (x_ b 4) (Xu ((bk:Int)*2))).setCell (x_ b 4) (Xu ((bk:Int)*2+1))).1[b]?=some (Xb k0 k1 l r ((bk:Int)*2+1) k5):=by rw[heap_setCell (heap_setCell H2.b)];rfl
  have B3:=(H2.a.setCell (p:=x_ b 4) H2.c (Xu ((bk:Int)*2))).setCell (p:=x_ b 4) H2.c (Xu ((bk:Int)*2+1));generalize ((w2.setCell (x_ b 4) (Xu ((bk:Int)*2))).setCell (x_ b 4) (Xu ((bk:Int)*2+1)))=w3 at*;clear c0 c1 c2 c3 c4 c5 f0 f1 f2 f3 f4 f5;refine e9 (HG.c _ B3) fun w4 hb4=>?_;have H4:=kq2 (b_ B3 hb4) ((hb4.block b (gl r3)).T r3);clear hb4 r3 B3;go_wp2_with fail;refine e9 (HG.d _ H4.a) fun w5 hb5=>?_;have r5:=(hb5.block b (gl H4.b)).T H4.b;obtain⟨c0,c1,c2,c3,c4,c5⟩:=ia r5;obtain⟨f0,f1,f2,f3,f4,f5⟩:=lP r5;have H5:=kq2 (b_ H4.a hb5) r5;clear hb5 r5;go_wp2_with fail;have r6:(w5.setCell (x_ b 5) (Xu ((x:Int)+y+1))).1[b]?=some (Xb k0 k1 l r ((bk:Int)*2+1) ((x:Int)+y+1)):=heap_setCell H5.b;exact qOaac
 | false=>
  simp only[du,if_false] at HG⊢;go_enter func190,ntmps190;go_wp2_with fail;refine e9 HG.a fun w1 hb1=>?_;have q1:=heap_alloc_new w1 (Xb k0 k1 l r k4 k5);have B1:=hb1.alloc hb1.size (Xb k0 k1 l r k4 k5);have z1:=hb1.size;clear hb1;go_wp2_with fail;generalize w1.alloc (Xb k0 k1 l r k4 k5)=W at*;generalize w1.1.size=b at*;refine e9 (HG.b _ B1) fun w2 hb2=>?_;have r2:=(hb2.block b (gl q1)).T q1;obtain⟨c0,c1,c2,c3,c4,c5⟩:=ia r2;obtain⟨f0,f1,f2,f3,f4,f5⟩:=lP r2;have H2:=kq3 (b_ B1 hb2) r2 z1;clear hb2 r2 B1 q1 z1;go_wp2_with fail;have r3:((w2.setCell (x_ b 4) (Xu ((bk:Int)*2))).setCell (x_ b 4) (Xu ((bk:Int)*2+2))).1[b]?=some (Xb k0 k1 l r ((bk:Int)*2+2) k5):=by rw[heap_setCell (heap_setCell H2.b)];rfl
  have B3:=(H2.a.setCell (p:=x_ b 4) H2.c (Xu ((bk:Int)*2))).setCell (p:=x_ b 4) H2.c (Xu ((bk:Int)*2+2));generalize ((w2.setCell (x_ b 4) (Xu ((bk:Int)*2))).setCell (x_ b 4) (Xu ((bk:Int)*2+2)))=w3 at*;clear c0 c1 c2 c3 c4 c5 f0 f1 f2 f3 f4 f5;refine e9 (HG.c _ B3) fun w4 hb4=>?_;have H4:=kq2 (b_ B3 hb4) ((hb4.block b (gl r3)).T r3);clear hb4 r3 B3;go_wp2_with fail;refine e9 (HG.d _ H4.a) fun w5 hb5=>?_;have r5:=(hb5.block b (gl H4.b)).T H4.b;obtain⟨c0,c1,c2,c3,c4,c5⟩:=ia r5;obtain⟨f0,f1,f2,f3,f4,f5⟩:=lP r5;have H5:=kq2 (b_ H4.a hb5) r5;clear hb5 r5;go_wp2_with fail;have r6:(w5.setCell (x_ b 5) (Xu ((x:Int)+y+1))).1[b]?=some (Xb k0 k1 l r ((bk:Int)*2+2) ((x:Int)+y+1)):=heap_setCell H5.b;exact qOaac
end
section
open Lf
def Lf.z_(S:St)(tu:Bool)(h:Nat):Nat×Nat:=if tu=true then((f_ S h).1.right,(f_ S h).1.left) else((f_ S h).1.left,(f_ S h).1.right)
def Lf.putJ(S:St)(tu:Bool)(h v_ own:Nat)(c:Bool):Option St:=if tu=true then putRM S h own v_ c else putRM S h v_ own c
def Lf.fixR(tu:Bool)(S:St)(t v_ x:Nat)(is:Bool):Option (Nat×St):=
 if is=true\/G8 S x=false then some (t,S)
 else if G8 S (z_ S tu x).2=false then some (t,S)
 else match putJ S tu (z_ S tu x).2 (z_ S tu (z_ S tu x).2).1 (z_ S tu (z_ S tu x).2).2 false with
  | none=>none
  | some S1=>match putJ S1 tu t v_ (z_ S tu x).1 false with
   | none=>none
   | some S2=>(putJ S2 tu x t (z_ S tu x).2 true).map fun S3=>(x,S3)
def Lf.joinR(tu:Bool)(m:Nat):Nat->St->Nat->Nat->Option (Nat×St)
 | 0,S,t,low=>(putJ S tu m t low true).map fun S'=>(m,S')
 | f+1,S,t,low=>
  if G8 S t=false/\F1 S t=F1 S low then(putJ S tu m t low true).map fun S'=>(m,S')
  else match joinR tu m f S (z_ S tu t).2 low with
   | none=>none
   | some (x,S1)=>
    match putJ S1 tu t (z_ S tu t).1 x (G8 S t) with
    | none=>none
    | some S2=>chk (fixR tu S2 t (z_ S tu t).1 x (G8 S t))
theorem rf(tu:Bool)(m:Nat)(S:St)(t low:Nat):joinR tu m 0 S t low=(putJ S tu m t low true).map fun S'=>(m,S'):=rfl
theorem re(tu:Bool)(m f:Nat)(S:St)(t low:Nat):joinR tu m (f+1) S t low=
 if G8 S t=false/\F1 S t=F1 S low then(putJ S tu m t low true).map fun S'=>(m,S')
 else match joinR tu m f S (z_ S tu t).2 low with
  | none=>none
  | some (x,S1)=>
   match putJ S1 tu t (z_ S tu t).1 x (G8 S t) with
   | none=>none
   | some S2=>chk (fixR tu S2 t (z_ S tu t).1 x (G8 S t)):=rfl
def Lf.topR(tu:Bool)(S:St)(t m low:Nat):Option (Nat×St):=
 match joinR tu m 200 S t low with
 | none=>none
 | some (h,S1)=>
  if G8 S1 h=true/\G8 S1 (z_ S1 tu h).2=true then(putJ S1 tu h (z_ S1 tu h).1 (z_ S1 tu h).2 false).map fun S2=>(h,S2)
  else some (h,S1)
def Lf.redJ(S:St)(l m r:Nat):Option ((Nat×Nat)×St):=
 if m=0\/isT S l=false\/isT S m=false\/isT S r=false then none
 else if F1 S r<F1 S l then(topR false S l m r).map fun x=>((x.1,0),x.2)
 else if F1 S l<F1 S r then(topR true S r m l).map fun x=>((x.1,0),x.2)
 else(putRM S m l r (!G8 S l && !G8 S r)).map fun S'=>((m,0),S')
theorem Jo {S S':St}{h l r:Nat}{c:Bool}(hi:Fv S)(hp:putRM S h l r c=some S'):Fv S':=by
 grind [wA,rT]
theorem jV {S S':St}{tu:Bool}{h a b:Nat}{c:Bool}(hi:Fv S)(hp:putJ S tu h a b c=some S'):Fv S':=by
 unfold putJ at hp;split at hp<;>exact Jo hi hp
theorem AX {tu:Bool}{S S':St}{t v_ x y:Nat}{is:Bool}(hi:Fv S)(h:fixR tu S t v_ x is=some (y,S')):Fv S':=by
 unfold fixR at h
 split at h
 ·grind
 ·split at h
  ·grind
  ·split at h
   ·cases h
   ·rename_i S1 h1
    split at h
    ·cases h
    ·rename_i S2 h2;obtain⟨S3,h3,h4⟩:=aB.1 h
     injection h4 with _ e
     rw[<-e];exact jV (jV (jV hi h1) h2) h3
theorem lU(tu:Bool){m:Nat}:∀(f:Nat) {S S':St} {t low x:Nat},Fv S->joinR tu m f S t low=some (x,S')->Fv S'/\(m<2^64->x<2^64)
 | 0,S,S',t,low,x,hi,hj=>by
  rw[rf] at hj;obtain⟨S1,h1,h2⟩:=aB.1 hj;injection h2 with e1 e2
  subst e1 e2;exact⟨jV hi h1,id⟩
 | f+1,S,S',t,low,x,hi,hj=>by
  rw[re] at hj;split at hj
  ·obtain⟨S1,h1,h2⟩:=aB.1 hj;injection h2 with e1 e2
   subst e1 e2;exact⟨jV hi h1,id⟩
  ·split at hj
   ·cases hj
   ·rename_i x1 S1 h1;split at hj
    ·cases hj
    ·rename_i S2 h2;obtain⟨h3,h4⟩:=lM hj;exact⟨AX (jV (lU tu f hi h1).1 h2) h3,fun _=>h4⟩
theorem LP {tu:Bool}{S S':St}{t m low x:Nat}(hi:Fv S)(h:topR tu S t m low=some (x,S')):Fv S'/\(m<2^64->x<2^64):=by
 unfold topR at h
 split at h
 ·cases h
 ·rename_i y S1 h1;obtain⟨i1,l1⟩:=lU tu 200 hi h1
  grind [Option.map_eq_some_iff,jV]
theorem wG {S S':St}{l m r:Nat}{R:Nat×Nat}(hi:Fv S)(h:redJ S l m r=some (R,S')):Fv S'/\(m<2^64->R.1<2^64)/\R.2=0:=by
 grind [redJ,Option.map_eq_some_iff,LP,Jo,id]
end
section
open Go.RowKit Tryz Go.BigFrame Go.Maps Go.WideMaps Lf
variable{S:St}{Y:Nat->Prop}{ps:Nat}{w:World}{x1:Nat}{x:Nat}
def dP(ps:Nat)(tu:Bool):Value:=.agg #[PV ps,.bool tu]
theorem DX{bj ps:Nat}{tu:Bool}(hb:w.1[bj]?=some (.cells #[PV ps,.bool tu] 284 (0,0)))(a b:Nat):
 Ct 242 #[Xu a,Xu b,PV bj] w fun e w'=>e=.returned (.tuple #[Xu (if tu=true then b else a:Nat),Xu (if tu=true then a else b:Nat)])/\w=w':=by
 obtain⟨c0,c1⟩:=Fp hb;clear hb
 cases tu
 all_goals
  go_enter func242,ntmps242;go_wp2_with fail;go_ret2;exact⟨rfl,rfl⟩
theorem jX(h:Ig w ps S Y)(hi:Fv S)(tu:Bool)(hh:Nat)(hl:hh<2^64):
 Cb 222 #[dP ps tu,Xu hh] w (.tuple #[Xu (z_ S tu hh).1,Xu (z_ S tu hh).2]):=by
 have q0:=heap_alloc_new w (Xd ps tu);have B0:=c_ w (Xd ps tu);have hg:=oQ (h.a_ B0) hi hh hl;unfold z_;obtain⟨⟨⟨k0,k1,k2,k3,k4,k5⟩,er⟩,hE⟩:∃r,f_ S hh=r:=⟨_,rfl⟩;rw[hE] at hg⊢;unfold eS at hg;simp only at hg⊢;unfold dP;have ad:=fun(W:World) (hW:W.1[w.1.size]?=some (.cells #[PV ps,.bool tu] 284 (0,0)))=>DX hW k2 k3;have ai:∀(args:Array Value) (w:World),(callFunc 242 args).run prog w=.ok (.enter 242 args) w:=fun args w=>by go_simp
 have HG:=kq4 hg ad q0 B0;clear hg ad h hi hE q0 B0;go_enter func222,ntmps222;go_wp2_with fail;refine e9 HG.a fun w1 hb1=>?_;have q1:=(hb1.block w.1.size s_).T HG.c;have B1:=HG.d.T (hb1.M s_);have r2:=((c_ w1 (Xb k0 k1 k2 k3 k4 k5)).block w.1.size (gl q1)).T q1;have B2:=B1.alloc B1.size (Xb k0 k1 k2 k3 k4 k5);have H2:=kq2 r2 B2;clear hb1 q1 B1 r2 B2;go_wp2_with fail;refine Jc (HG.b _ H2.a) ?_
 cases tu
 all_goals
  simp only[if_true,if_false,du];go_wp2_with fail;go_ret2;exact⟨rfl,H2.b⟩
theorem qOaad{P:Prop}(h:P:=by
 have HG:=kq2 hq (Fo.A_ B0 h.yl);clear hq B0 h hi hp;go_enter func223,ntmps223;go_wp2_with fail;refine HG.a.M ?_;rintro e w1 ⟨rfl,h1,k1⟩;have H1:=kq2 h1 (HG.b.T k1);clear h1 k1;go_wp2_with fail;go_ret;exact⟨rfl,H1.O⟩):P:=h
theorem jW{S S':St}(h:Ig w ps S Y)(hi:Fv S)(tu:Bool)(hh a b:Nat)(c:Bool)(hl:hh<2^64)(hal:a<2^64)(hbl:b<2^64)(hp:putJ S tu hh a b c=some S'):
 Ct 223 #[dP ps tu,Xu hh,Xu a,Xu b,.bool c] w fun e w'=>e=.returned (Xu hh)/\Ig w' ps S' Y/\Fo Y w w':=by
 have B0:=c_ w (Xd ps tu);unfold putJ at hp;unfold dP
 cases tu with
 | false=>
  have hq:=nh (h.a_ B0) hi hh a b c hl hal hbl (by simpa using hp);exact qOaad
 | true=>
  have hq:=nh (h.a_ B0) hi hh b a c hl hbl hal (by simpa using hp);exact qOaad
theorem DQ(h:Ig w ps S Y)(hi:Fv S):
 Cb 235 #[PV ps,Xu 0] w (Xi 0):=by
 have hc:=xS h hi;have hl:=fun W (hW:D_ w W)=>sY (h.a_ hW);have HG:=kq2 hc hl;clear hc hl h hi;go_enter func235,ntmps235;go_wp2_with fail;refine e9 HG.a fun w1 hb1=>?_;have H1:=If hb1;clear hb1;go_wp2_with fail;refine e9 (HG.b _ H1.O) fun w2 hb2=>?_;have H2:=If (b_ H1.O hb2);clear hb2;go_wp2_with fail
 go_loopw [7,8,9,10,21] (fun _ _ _ _ k wr=>k=Xi 0/\wr=w2) (fun _ _ _ _ _ _=>0)
 case atStart=>exact⟨rfl,rfl⟩
 case round=>
  obtain⟨rfl,rfl⟩:=hrel;go_wp2_with fail;go_ret;exact⟨rfl,H2.O⟩
theorem Aj:nI 235 where
 enter args w:=by go_simp
 call h hi:=DQ h hi
theorem E3:j6 2 142 235:=by
 intro W;simp only[eL];go_enter func208,ntmps208;go_wp2_with fail;exact bodyPost_ret (v:=.tuple #[.agg #[.func (.func 142) #[] #[],.func (.func 235) #[] #[]],.bool true]) (by simp[results,f208,go_sem]) rfl ⟨rfl,(aa _ _).alloc Ih _⟩
theorem gW(h:Ig w ps S Y)(tu:Bool)(hh:Nat):(z_ S tu hh).1<2^64/\(z_ S tu hh).2<2^64:=by
 have:=fs h hh;unfold z_
 split
 ·exact⟨this.right,this.left⟩
 ·exact⟨this.left,this.right⟩
theorem qOaae{P:Prop}(h:P:=by
 go_wp2_with fail;clear c0 c1;go_ret;exact⟨rfl,H2.a.M (fun k hk=>ab hk),H2.c⟩):P:=h
theorem DU{S S':St}(h:Ig w ps S Y)(hi:Fv S)(tu:Bool)(m t low:Nat)(hm:m<2^64)(ht:t<2^64)(hw:low<2^64)(d:Nat)(hd:d<=200)(h200:d=200)(hp:putJ S tu m t low true=some S'):
 Ct 221 #[dP ps tu,Xu t,Xu m,Xu low,Xi d] w fun e w'=>e=.returned (Xu m)/\Ig w' ps S' Y/\Fo Y w w':=by
 unfold dP;have cp:=fun W (hW:Ig W ps S (fun k=>Y k\/(w.1.size<=k/\k<w.1.size+1)))=>jW hW hi tu m t low true hm ht hw hp;subst h200;unfold dP at cp;have q0:=heap_alloc_new w (Xd ps tu);have B0:=c_ w (Xd ps tu);have an:(w.alloc (Xd ps tu)).1.size=w.1.size+1:=s_
 have z0:=h.wide B0;rw[an] at z0;have k0:Fo Y w (w.alloc (Xd ps tu)):=Fo.A_ B0 h.yl;have au:w.1.size<(w.alloc (Xd ps tu)).1.size:=o_
 have HG:=If cp;clear cp hp hi au an hd;have H0:=kq3 z0 q0 k0;clear z0 q0 k0 B0 h;go_enter func221,ntmps221;go_wp2_with fail;have ap:w.1.size<(w.alloc (Xd ps tu)).1.size:=s_
 have ar:∀x:Fq (Below (w.alloc (Xd ps tu)).1.size (w.alloc (Xd ps tu))),x.to.cell? (y_ w.1.size)=some (PV ps):=fun x=>by rw[t_ ((x.ok.block _ ap).T H0.b)];rfl
 generalize a0:w.alloc (Xd ps tu)=W0 at*;refine iq (D_ W0) k_ k_ (aa _ _).drew (fun _=>?_)
 repeat (first | go_big_quiet_skip | (go_big_quiet_want;go_big_quiet_op;go_big_quiet_on))
 refine wpQuiet_nil ?_;rintro _ ⟨v,rfl⟩;have rr:=(v.ok.block w.1.size ap).T H0.b;have hs:=H0.a.a_ v.ok;have hk:=H0.c.T ((H0.a.B_ v.ok).M (fun k hk=>ab hk));obtain⟨w1,ai⟩:=Ii v.to;rw[ai] at rr hs hk⊢;clear ai v ar;obtain⟨c0,c1⟩:=Fp rr;have H1:=kq3 hs rr hk;clear rr hs hk;go_wp2_with fail;clear c0 c1;refine(HG.O _ H1.a).M ?_;rintro e w2 ⟨rfl,hs,ad⟩;have rr:=(ad.block w.1.size (ae ⟨Nat.le_refl _,aP _⟩)).T H1.b;have hk:=H1.c.T (ad.M (fun k hk=>ab hk));obtain⟨c0,c1⟩:=Fp rr;have H2:=kq3 hs rr hk;clear ad rr hs hk;exact qOaae
theorem DW{S S':St}(h:Ig w ps S Y)(hi:Fv S)(tu:Bool)(m t low:Nat)(hm:m<2^64)(ht:t<2^64)(hw:low<2^64)(d:Nat)(_:d<=200)(h200:d≠200)(hr:G8 S t=false)(hb:F1 S t=F1 S low)(hp:putJ S tu m t low true=some S'):
 Ct 221 #[dP ps tu,Xu t,Xu m,Xu low,Xi d] w fun e w'=>e=.returned (Xu m)/\Ig w' ps S' Y/\Fo Y w w':=by
 unfold dP;have cp:=fun W (hW:Ig W ps S (fun k=>Y k\/(w.1.size<=k/\k<w.1.size+1)))=>jW hW hi tu m t low true hm ht hw hp;have an:=fun W (hW:Ig W ps S (fun k=>Y k\/(w.1.size<=k/\k<w.1.size+1)))=>gq hW hi t ht;have ad:=fun W (hW:Ig W ps S (fun k=>Y k\/(w.1.size<=k/\k<w.1.size+1)))=>gy hW hi t ht;have a0:=fun W (hW:Ig W ps S (fun k=>Y k\/(w.1.size<=k/\k<w.1.size+1)))=>gy hW hi low hw;rw[hr] at an;rw[hb] at ad;generalize F1 S low=bk at*;have hq:((d:Int)==200)=false:=m_
 unfold dP at cp;have q0:=heap_alloc_new w (Xd ps tu);have B0:=c_ w (Xd ps tu);have a2:(w.alloc (Xd ps tu)).1.size=w.1.size+1:=s_
 have z0:=h.wide B0;rw[a2] at z0;have k0:Fo Y w (w.alloc (Xd ps tu)):=Fo.A_ B0 h.yl;have a5:w.1.size<(w.alloc (Xd ps tu)).1.size:=o_
 have HG:=kq4 cp an ad a0;clear cp an ad a0 hp hi a5 a2 hr hb h200;have H0:=kq3 z0 q0 k0;clear z0 q0 k0 B0 h;go_enter func221,ntmps221;go_wp2_with fail;have a3:w.1.size<(w.alloc (Xd ps tu)).1.size:=s_
 have a4:∀x:Fq (Below (w.alloc (Xd ps tu)).1.size (w.alloc (Xd ps tu))),x.to.cell? (y_ w.1.size)=some (PV ps):=fun x=>by rw[t_ ((x.ok.block _ a3).T H0.b)];rfl
 have au:=fun x:Fq (Below (w.alloc (Xd ps tu)).1.size (w.alloc (Xd ps tu)))=>Calls.F_ (HG.b x.to (H0.a.a_ x.ok));have ar:=fun x:Fq (Below (w.alloc (Xd ps tu)).1.size (w.alloc (Xd ps tu)))=>Calls.F_ (HG.c x.to (H0.a.a_ x.ok));have ap:=fun x:Fq (Below (w.alloc (Xd ps tu)).1.size (w.alloc (Xd ps tu)))=>Calls.F_ (HG.d x.to (H0.a.a_ x.ok));generalize a6:w.alloc (Xd ps tu)=W0 at*;refine iq (D_ W0) k_ k_ (aa _ _).drew (fun _=>?_)
 repeat (first | go_big_quiet_skip | (go_big_quiet_want;go_big_quiet_op;first | go_big_quiet_on | (apply Exists.intro;refine⟨fun x=>?_,?_⟩;(· first | with_reducible exact au x | with_reducible exact ar x | with_reducible exact ap x);go_big_quiet_on)))
 refine wpQuiet_nil ?_;rintro _ ⟨v,rfl⟩;have rr:=(v.ok.block w.1.size a3).T H0.b;have hs:=H0.a.a_ v.ok;have hk:=H0.c.T ((H0.a.B_ v.ok).M (fun k hk=>ab hk));obtain⟨w1,a1⟩:=Ii v.to;rw[a1] at rr hs hk⊢;clear a1 v a4 au ar ap;obtain⟨c0,c1⟩:=Fp rr;have H1:=kq3 hs rr hk;clear rr hs hk;go_wp2_with fail;clear c0 c1;refine(HG.a _ H1.a).M ?_;rintro e w2 ⟨rfl,hs,ai⟩;have rr:=(ai.block w.1.size (ae ⟨Nat.le_refl _,aP _⟩)).T H1.b;have hk:=H1.c.T (ai.M (fun k hk=>ab hk));obtain⟨c0,c1⟩:=Fp rr;have H2:=kq3 hs rr hk;clear ai rr hs hk;exact qOaae
theorem DV(h:Ig w ps S Y)(hi:Fv S)(tu:Bool)(m t low:Nat)(_:m<2^64)(ht:t<2^64)(_:low<2^64)(d:Nat)(hd:d<=200)(h200:d≠200)(hr:G8 S t=true){S1 S2:St}(hx1:x1<2^64)(hi1:Fv S1)(_:Fv S2)
 (cr:∀(W:World) (Z:Nat->Prop),Ig W ps S Z->Ct 221 #[dP ps tu,Xu (z_ S tu t).2,Xu m,Xu low,Xi ((d:Int)+1)] W fun e w'=>e=.returned (Xu x1)/\Ig w' ps S1 Z/\Fo Z W w')
 (hp:putJ S1 tu t (z_ S tu t).1 x1 (G8 S t)=some S2):
 Ct 221 #[dP ps tu,Xu t,Xu m,Xu low,Xi d] w fun e w'=>e=.returned (Xu t)/\Ig w' ps S2 Y/\Fo Y w w':=by
 have ar:=gW h tu t;unfold dP at cr⊢;have an:=fun W (hW:Ig W ps S (fun k=>Y k\/(w.1.size<=k/\k<w.1.size+1)))=>gq hW hi t ht;have ai:=fun W (hW:Ig W ps S (fun k=>Y k\/(w.1.size<=k/\k<w.1.size+1)))=>jX hW hi tu t ht;have cp:=fun W (hW:Ig W ps S1 (fun k=>Y k\/(w.1.size<=k/\k<w.1.size+1)))=>jW hW hi1 tu t (z_ S tu t).1 x1 (G8 S t) ht ar.1 hx1 hp;have cr:=fun W (hW:Ig W ps S (fun k=>Y k\/(w.1.size<=k/\k<w.1.size+1)))=>cr W _ hW;try unfold dP at ai
 try unfold dP at cp
 rw[hr] at an cp;obtain⟨⟨a7,own⟩,au⟩:∃r,z_ S tu t=r:=⟨_,rfl⟩;rw[au] at ai cp cr;simp only at ai cp cr;have hq:((d:Int)==200)=false:=m_
 have a6:IntKind.i64.wrap ((d:Int)+1)=(d:Int)+1:=aq _ o_;have q0:=heap_alloc_new w (Xd ps tu);have B0:=c_ w (Xd ps tu);have a1:(w.alloc (Xd ps tu)).1.size=w.1.size+1:=s_
 have z0:=h.wide B0;rw[a1] at z0;have k0:Fo Y w (w.alloc (Xd ps tu)):=Fo.A_ B0 h.yl;have a4:w.1.size<(w.alloc (Xd ps tu)).1.size:=o_
 have HG:=kq4 an ai cp cr;clear an ai cp cr hp hi hi1 a4 a1 hr h200 au ar;have H0:=kq3 z0 q0 k0;clear z0 q0 k0 B0 h;go_enter func221,ntmps221;go_wp2_with fail;have a2:w.1.size<(w.alloc (Xd ps tu)).1.size:=s_
 have a3:∀x:Fq (Below (w.alloc (Xd ps tu)).1.size (w.alloc (Xd ps tu))),x.to.cell? (y_ w.1.size)=some (PV ps):=fun x=>by rw[t_ ((x.ok.block _ a2).T H0.b)];rfl
 have ap:=fun x:Fq (Below (w.alloc (Xd ps tu)).1.size (w.alloc (Xd ps tu)))=>Calls.F_ (HG.a x.to (H0.a.a_ x.ok));generalize a5:w.alloc (Xd ps tu)=W0 at*;refine iq (D_ W0) k_ k_ (aa _ _).drew (fun _=>?_);repeat (first | go_big_quiet_skip | (go_big_quiet_want;go_big_quiet_op;first | go_big_quiet_on | (apply Exists.intro;refine⟨fun x=>?_,?_⟩;(· first | with_reducible exact ap x);go_big_quiet_on)))
 refine wpQuiet_nil ?_;rintro _ ⟨v,rfl⟩;have rr:=(v.ok.block w.1.size a2).T H0.b;have hs:=H0.a.a_ v.ok;have hk:=H0.c.T ((H0.a.B_ v.ok).M (fun k hk=>ab hk));obtain⟨w1,a0⟩:=Ii v.to;rw[a0] at rr hs hk⊢;clear a0 v a3 ap;obtain⟨c0,c1⟩:=Fp rr;have H1:=kq3 hs rr hk;clear rr hs hk;go_wp2_with fail;clear c0 c1;refine e9 (HG.b _ H1.a) fun w2 hb=>?_;have rr:=(hb.block w.1.size (gl H1.b)).T H1.b;have hs:=H1.a.a_ hb;have hk:=H1.c.T ((H1.a.B_ hb).M (fun k hk=>ab hk));obtain⟨c0,c1⟩:=Fp rr;have H2:=kq3 hs rr hk;clear hb rr hs hk;go_wp2_with fail;clear c0 c1;refine e9 (HG.a _ H2.a) fun w3 hb=>?_;have rr:=(hb.block w.1.size (gl H2.b)).T H2.b;have hs:=H2.a.a_ hb;have hk:=H2.c.T ((H2.a.B_ hb).M (fun k hk=>ab hk));obtain⟨c0,c1⟩:=Fp rr;have H3:=kq3 hs rr hk;clear hb rr hs hk;go_wp2_with fail;clear c0 c1;refine(HG.d _ H3.a).M ?_;rintro e w4 ⟨rfl,hs,ad⟩;have rr:=(ad.block w.1.size (ae ⟨Nat.le_refl _,aP _⟩)).T H3.b;have hk:=H3.c.T (ad.M (fun k hk=>ab hk));obtain⟨c0,c1⟩:=Fp rr;have H4:=kq3 hs rr hk;clear ad rr hs hk;go_wp2_with fail;clear c0 c1;refine(HG.c _ H4.a).M ?_;rintro e w5 ⟨rfl,hs,ad⟩;have rr:=(ad.block w.1.size (ae ⟨Nat.le_refl _,aP _⟩)).T H4.b;have hk:=H4.c.T (ad.M (fun k hk=>ab hk));obtain⟨c0,c1⟩:=Fp rr;have H5:=kq3 hs rr hk;clear ad rr hs hk;go_wp2_with fail;clear c0 c1;go_ret;exact⟨rfl,H5.a.M (fun k hk=>ab hk),H5.c⟩
theorem DR(h:Ig w ps S Y)(hi:Fv S)(tu:Bool)(m t low:Nat)(_:m<2^64)(ht:t<2^64)(hw:low<2^64)(d:Nat)(hd:d<=200)(h200:d≠200)(hr:G8 S t=false)(hb:F1 S t≠F1 S low){S1 S2:St}(hx1:x1<2^64)(hi1:Fv S1)(hi2:Fv S2)
 (cr:∀(W:World) (Z:Nat->Prop),Ig W ps S Z->Ct 221 #[dP ps tu,Xu (z_ S tu t).2,Xu m,Xu low,Xi ((d:Int)+1)] W fun e w'=>e=.returned (Xu x1)/\Ig w' ps S1 Z/\Fo Z W w')
 (hp:putJ S1 tu t (z_ S tu t).1 x1 (G8 S t)=some S2) (hf:G8 S2 x1=false):
 Ct 221 #[dP ps tu,Xu t,Xu m,Xu low,Xi d] w fun e w'=>e=.returned (Xu t)/\Ig w' ps S2 Y/\Fo Y w w':=by
 have a3:=gW h tu t;unfold dP at cr⊢;have an:=fun W (hW:Ig W ps S (fun k=>Y k\/(w.1.size<=k/\k<w.1.size+1)))=>gq hW hi t ht;have ai:=fun W (hW:Ig W ps S (fun k=>Y k\/(w.1.size<=k/\k<w.1.size+1)))=>jX hW hi tu t ht;have cp:=fun W (hW:Ig W ps S1 (fun k=>Y k\/(w.1.size<=k/\k<w.1.size+1)))=>jW hW hi1 tu t (z_ S tu t).1 x1 (G8 S t) ht a3.1 hx1 hp;have a2:=fun W (hW:Ig W ps S (fun k=>Y k\/(w.1.size<=k/\k<w.1.size+1)))=>gy hW hi t ht;have a1:=fun W (hW:Ig W ps S (fun k=>Y k\/(w.1.size<=k/\k<w.1.size+1)))=>gy hW hi low hw;have ap:=fun W (hW:Ig W ps S2 (fun k=>Y k\/(w.1.size<=k/\k<w.1.size+1)))=>gq hW hi2 x1 hx1;have cr:=fun W (hW:Ig W ps S (fun k=>Y k\/(w.1.size<=k/\k<w.1.size+1)))=>cr W _ hW;try unfold dP at ai
 try unfold dP at cp
 rw[hr] at an cp;rw[hf] at ap;have bb:(((F1 S t:Nat):Int)==(F1 S low:Nat))=false:=m_
 generalize F1 S t=bk1 at*;generalize F1 S low=bk2 at*;obtain⟨⟨bc,own⟩,a4⟩:∃r,z_ S tu t=r:=⟨_,rfl⟩;rw[a4] at ai cp cr;simp only at ai cp cr;have hq:((d:Int)==200)=false:=m_
 have ba:IntKind.i64.wrap ((d:Int)+1)=(d:Int)+1:=aq _ o_;have q0:=heap_alloc_new w (Xd ps tu);have B0:=c_ w (Xd ps tu);have a6:(w.alloc (Xd ps tu)).1.size=w.1.size+1:=s_
 have z0:=h.wide B0;rw[a6] at z0;have k0:Fo Y w (w.alloc (Xd ps tu)):=Fo.A_ B0 h.yl;have a9:w.1.size<(w.alloc (Xd ps tu)).1.size:=o_
 have HG:=kq7 an ai cp a2 a1 ap cr;clear an ai cp a2 a1 ap cr hp hi hi1 hi2 a9 a6 hr h200 a4 a3 hb hf;have H0:=kq3 z0 q0 k0;clear z0 q0 k0 B0 h;go_enter func221,ntmps221;go_wp2_with fail;have a7:w.1.size<(w.alloc (Xd ps tu)).1.size:=s_
 have a8:∀x:Fq (Below (w.alloc (Xd ps tu)).1.size (w.alloc (Xd ps tu))),x.to.cell? (y_ w.1.size)=some (PV ps):=fun x=>by rw[t_ ((x.ok.block _ a7).T H0.b)];rfl
 have a0:=fun x:Fq (Below (w.alloc (Xd ps tu)).1.size (w.alloc (Xd ps tu)))=>Calls.F_ (HG.a x.to (H0.a.a_ x.ok));have au:=fun x:Fq (Below (w.alloc (Xd ps tu)).1.size (w.alloc (Xd ps tu)))=>Calls.F_ (HG.d x.to (H0.a.a_ x.ok));have ar:=fun x:Fq (Below (w.alloc (Xd ps tu)).1.size (w.alloc (Xd ps tu)))=>Calls.F_ (HG.e x.to (H0.a.a_ x.ok));generalize a':w.alloc (Xd ps tu)=W0 at*;refine iq (D_ W0) k_ k_ (aa _ _).drew (fun _=>?_);repeat (first | go_big_quiet_skip | (go_big_quiet_want;go_big_quiet_op;first | go_big_quiet_on | (apply Exists.intro;refine⟨fun x=>?_,?_⟩;(· first | with_reducible exact a0 x | with_reducible exact au x | with_reducible exact ar x);go_big_quiet_on)))
 refine wpQuiet_nil ?_;rintro _ ⟨v,rfl⟩;have rr:=(v.ok.block w.1.size a7).T H0.b;have hs:=H0.a.a_ v.ok;have hk:=H0.c.T ((H0.a.B_ v.ok).M (fun k hk=>ab hk));obtain⟨w1,a5⟩:=Ii v.to;rw[a5] at rr hs hk⊢;clear a5 v a8 a0 au ar;obtain⟨c0,c1⟩:=Fp rr;have H1:=kq3 hs rr hk;clear rr hs hk;go_wp2_with fail;clear c0 c1;refine e9 (HG.b _ H1.a) fun w2 hb=>?_;have rr:=(hb.block w.1.size (gl H1.b)).T H1.b;have hs:=H1.a.a_ hb;have hk:=H1.c.T ((H1.a.B_ hb).M (fun k hk=>ab hk));obtain⟨c0,c1⟩:=Fp rr;have H2:=kq3 hs rr hk;clear hb rr hs hk;go_wp2_with fail;clear c0 c1;refine e9 (HG.a _ H2.a) fun w3 hb=>?_;have rr:=(hb.block w.1.size (gl H2.b)).T H2.b;have hs:=H2.a.a_ hb;have hk:=H2.c.T ((H2.a.B_ hb).M (fun k hk=>ab hk));obtain⟨c0,c1⟩:=Fp rr;have H3:=kq3 hs rr hk;clear hb rr hs hk;go_wp2_with fail;clear c0 c1;refine(HG.g _ H3.a).M ?_;rintro e w4 ⟨rfl,hs,ad⟩;have rr:=(ad.block w.1.size (ae ⟨Nat.le_refl _,aP _⟩)).T H3.b;have hk:=H3.c.T (ad.M (fun k hk=>ab hk));obtain⟨c0,c1⟩:=Fp rr;have H4:=kq3 hs rr hk;clear ad rr hs hk;go_wp2_with fail;clear c0 c1;refine(HG.c _ H4.a).M ?_;rintro e w5 ⟨rfl,hs,ad⟩;have rr:=(ad.block w.1.size (ae ⟨Nat.le_refl _,aP _⟩)).T H4.b;have hk:=H4.c.T (ad.M (fun k hk=>ab hk));obtain⟨c0,c1⟩:=Fp rr;have H5:=kq3 hs rr hk;clear ad rr hs hk;go_wp2_with fail;clear c0 c1;refine e9 (HG.f _ H5.a) fun w6 hb=>?_;have rr:=(hb.block w.1.size (gl H5.b)).T H5.b;have hs:=H5.a.a_ hb;have hk:=H5.c.T ((H5.a.B_ hb).M (fun k hk=>ab hk));obtain⟨c0,c1⟩:=Fp rr;have H6:=kq3 hs rr hk;clear hb rr hs hk;go_wp2_with fail;clear c0 c1;go_ret;exact⟨rfl,H6.a.M (fun k hk=>ab hk),H6.c⟩
theorem DS(h:Ig w ps S Y)(hi:Fv S)(tu:Bool)(m t low:Nat)(_:m<2^64)(ht:t<2^64)(hw:low<2^64)(d:Nat)(hd:d<=200)(h200:d≠200)(hr:G8 S t=false)(hb:F1 S t≠F1 S low){S1 S2:St}(hx1:x1<2^64)(hi1:Fv S1)(hi2:Fv S2)
 (cr:∀(W:World) (Z:Nat->Prop),Ig W ps S Z->Ct 221 #[dP ps tu,Xu (z_ S tu t).2,Xu m,Xu low,Xi ((d:Int)+1)] W fun e w'=>e=.returned (Xu x1)/\Ig w' ps S1 Z/\Fo Z W w')
 (hp:putJ S1 tu t (z_ S tu t).1 x1 (G8 S t)=some S2) (hf:G8 S2 x1=true) (hg:G8 S2 (z_ S2 tu x1).2=false):
 Ct 221 #[dP ps tu,Xu t,Xu m,Xu low,Xi d] w fun e w'=>e=.returned (Xu t)/\Ig w' ps S2 Y/\Fo Y w w':=by
 have a5:=gW h tu t;unfold dP at cr⊢;have ar:=fun W (hW:Ig W ps S (fun k=>Y k\/(w.1.size<=k/\k<w.1.size+1)))=>gq hW hi t ht;have an:=fun W (hW:Ig W ps S (fun k=>Y k\/(w.1.size<=k/\k<w.1.size+1)))=>jX hW hi tu t ht;have cp:=fun W (hW:Ig W ps S1 (fun k=>Y k\/(w.1.size<=k/\k<w.1.size+1)))=>jW hW hi1 tu t (z_ S tu t).1 x1 (G8 S t) ht a5.1 hx1 hp;have a4:=fun W (hW:Ig W ps S (fun k=>Y k\/(w.1.size<=k/\k<w.1.size+1)))=>gy hW hi t ht;have a3:=fun W (hW:Ig W ps S (fun k=>Y k\/(w.1.size<=k/\k<w.1.size+1)))=>gy hW hi low hw;have au:=fun W (hW:Ig W ps S2 (fun k=>Y k\/(w.1.size<=k/\k<w.1.size+1)))=>gq hW hi2 x1 hx1;have ap:=fun W (hW:Ig W ps S2 (fun k=>Y k\/(w.1.size<=k/\k<w.1.size+1)))=>jX hW hi2 tu x1 hx1;have ai:=fun W (hW:Ig W ps S2 (fun k=>Y k\/(w.1.size<=k/\k<w.1.size+1)))=>gq hW hi2 (z_ S2 tu x1).2 (gW hW tu x1).2;have cr:=fun W (hW:Ig W ps S (fun k=>Y k\/(w.1.size<=k/\k<w.1.size+1)))=>cr W _ hW;try unfold dP at an
 try unfold dP at cp
 try unfold dP at ap
 rw[hr] at ar cp;rw[hf] at au;have bf:(((F1 S t:Nat):Int)==(F1 S low:Nat))=false:=m_
 generalize F1 S t=bk1 at*;generalize F1 S low=bk2 at*;rw[hg] at ai;obtain⟨⟨bj,own⟩,a6⟩:∃r,z_ S tu t=r:=⟨_,rfl⟩;rw[a6] at an cp cr;simp only at an cp cr;obtain⟨⟨sa,sb⟩,a7⟩:∃r,z_ S2 tu x1=r:=⟨_,rfl⟩;rw[a7] at ap ai;simp only at ap ai;have hq:((d:Int)==200)=false:=m_
 have bd:IntKind.i64.wrap ((d:Int)+1)=(d:Int)+1:=aq _ o_;have q0:=heap_alloc_new w (Xd ps tu);have B0:=c_ w (Xd ps tu);have a9:(w.alloc (Xd ps tu)).1.size=w.1.size+1:=s_
 have z0:=h.wide B0;rw[a9] at z0;have k0:Fo Y w (w.alloc (Xd ps tu)):=Fo.A_ B0 h.yl;have bb:w.1.size<(w.alloc (Xd ps tu)).1.size:=o_
 have HG:=kq9 ar an cp a4 a3 au ap ai cr;clear ar an cp a4 a3 au ap ai cr hp hi hi1 hi2 bb a9 hr h200 a6 a5 hb hf hg a7;have H0:=kq3 z0 q0 k0;clear z0 q0 k0 B0 h;go_enter func221,ntmps221;go_wp2_with fail;have a':w.1.size<(w.alloc (Xd ps tu)).1.size:=s_
 have ba:∀x:Fq (Below (w.alloc (Xd ps tu)).1.size (w.alloc (Xd ps tu))),x.to.cell? (y_ w.1.size)=some (PV ps):=fun x=>by rw[t_ ((x.ok.block _ a').T H0.b)];rfl
 have a2:=fun x:Fq (Below (w.alloc (Xd ps tu)).1.size (w.alloc (Xd ps tu)))=>Calls.F_ (HG.a x.to (H0.a.a_ x.ok));have a1:=fun x:Fq (Below (w.alloc (Xd ps tu)).1.size (w.alloc (Xd ps tu)))=>Calls.F_ (HG.d x.to (H0.a.a_ x.ok));have a0:=fun x:Fq (Below (w.alloc (Xd ps tu)).1.size (w.alloc (Xd ps tu)))=>Calls.F_ (HG.e x.to (H0.a.a_ x.ok));generalize bc:w.alloc (Xd ps tu)=W0 at*;refine iq (D_ W0) k_ k_ (aa _ _).drew (fun _=>?_);repeat (first | go_big_quiet_skip | (go_big_quiet_want;go_big_quiet_op;first | go_big_quiet_on | (apply Exists.intro;refine⟨fun x=>?_,?_⟩;(· first | with_reducible exact a2 x | with_reducible exact a1 x | with_reducible exact a0 x);go_big_quiet_on)))
 refine wpQuiet_nil ?_;rintro _ ⟨v,rfl⟩;have rr:=(v.ok.block w.1.size a').T H0.b;have hs:=H0.a.a_ v.ok;have hk:=H0.c.T ((H0.a.B_ v.ok).M (fun k hk=>ab hk));obtain⟨w1,a8⟩:=Ii v.to;rw[a8] at rr hs hk⊢;clear a8 v ba a2 a1 a0;obtain⟨c0,c1⟩:=Fp rr;have H1:=kq3 hs rr hk;clear rr hs hk;go_wp2_with fail;clear c0 c1;refine e9 (HG.b _ H1.a) fun w2 hb=>?_;have rr:=(hb.block w.1.size (gl H1.b)).T H1.b;have hs:=H1.a.a_ hb;have hk:=H1.c.T ((H1.a.B_ hb).M (fun k hk=>ab hk));obtain⟨c0,c1⟩:=Fp rr;have H2:=kq3 hs rr hk;clear hb rr hs hk;go_wp2_with fail;clear c0 c1;refine e9 (HG.a _ H2.a) fun w3 hb=>?_;have rr:=(hb.block w.1.size (gl H2.b)).T H2.b;have hs:=H2.a.a_ hb;have hk:=H2.c.T ((H2.a.B_ hb).M (fun k hk=>ab hk));obtain⟨c0,c1⟩:=Fp rr;have H3:=kq3 hs rr hk;clear hb rr hs hk;go_wp2_with fail;clear c0 c1;refine(HG.i _ H3.a).M ?_;rintro e w4 ⟨rfl,hs,ad⟩;have rr:=(ad.block w.1.size (ae ⟨Nat.le_refl _,aP _⟩)).T H3.b;have hk:=H3.c.T (ad.M (fun k hk=>ab hk));obtain⟨c0,c1⟩:=Fp rr;have H4:=kq3 hs rr hk;clear ad rr hs hk;go_wp2_with fail;clear c0 c1;refine(HG.c _ H4.a).M ?_;rintro e w5 ⟨rfl,hs,ad⟩;have rr:=(ad.block w.1.size (ae ⟨Nat.le_refl _,aP _⟩)).T H4.b;have hk:=H4.c.T (ad.M (fun k hk=>ab hk));obtain⟨c0,c1⟩:=Fp rr;have H5:=kq3 hs rr hk;clear ad rr hs hk;go_wp2_with fail;clear c0 c1;refine e9 (HG.f _ H5.a) fun w6 hb=>?_;have rr:=(hb.block w.1.size (gl H5.b)).T H5.b;have hs:=H5.a.a_ hb;have hk:=H5.c.T ((H5.a.B_ hb).M (fun k hk=>ab hk));obtain⟨c0,c1⟩:=Fp rr;have H6:=kq3 hs rr hk;clear hb rr hs hk;go_wp2_with fail;clear c0 c1;refine e9 (HG.g _ H6.a) fun w7 hb=>?_;have rr:=(hb.block w.1.size (gl H6.b)).T H6.b;have hs:=H6.a.a_ hb;have hk:=H6.c.T ((H6.a.B_ hb).M (fun k hk=>ab hk));obtain⟨c0,c1⟩:=Fp rr;have H7:=kq3 hs rr hk;clear hb rr hs hk;go_wp2_with fail;clear c0 c1;refine e9 (HG.h _ H7.a) fun w8 hb=>?_;have rr:=(hb.block w.1.size (gl H7.b)).T H7.b;have hs:=H7.a.a_ hb;have hk:=H7.c.T ((H7.a.B_ hb).M (fun k hk=>ab hk));obtain⟨c0,c1⟩:=Fp rr;have H8:=kq3 hs rr hk;clear hb rr hs hk;go_wp2_with fail;clear c0 c1;go_ret;exact⟨rfl,H8.a.M (fun k hk=>ab hk),H8.c⟩
theorem DT(h:Ig w ps S Y)(hi:Fv S)(tu:Bool)(m t low:Nat)(_:m<2^64)(ht:t<2^64)(hw:low<2^64)(d:Nat)(hd:d<=200)(h200:d≠200)(hr:G8 S t=false)(hb:F1 S t≠F1 S low){S1 S2:St}(hx1:x1<2^64)(hi1:Fv S1)(hi2:Fv S2)
 (cr:∀(W:World) (Z:Nat->Prop),Ig W ps S Z->Ct 221 #[dP ps tu,Xu (z_ S tu t).2,Xu m,Xu low,Xi ((d:Int)+1)] W fun e w'=>e=.returned (Xu x1)/\Ig w' ps S1 Z/\Fo Z W w')
 (hp:putJ S1 tu t (z_ S tu t).1 x1 (G8 S t)=some S2) (hf:G8 S2 x1=true) (hg:G8 S2 (z_ S2 tu x1).2=true) {S3 S4 S5:St} (hp3:putJ S2 tu (z_ S2 tu x1).2 (z_ S2 tu (z_ S2 tu x1).2).1 (z_ S2 tu (z_ S2 tu x1).2).2 false=some S3)
 (hp4:putJ S3 tu t (z_ S tu t).1 (z_ S2 tu x1).1 false=some S4) (hp5:putJ S4 tu x1 t (z_ S2 tu x1).2 true=some S5):
 Ct 221 #[dP ps tu,Xu t,Xu m,Xu low,Xi d] w fun e w'=>e=.returned (Xu x1)/\Ig w' ps S5 Y/\Fo Y w w':=by
 have a7:=gW h tu t;unfold dP at cr⊢;have a4:=jV hi2 hp3;have bd:=jV a4 hp4;have a5:=fun W (hW:Ig W ps S (fun k=>Y k\/(w.1.size<=k/\k<w.1.size+1)))=>gq hW hi t ht;have a0:=fun W (hW:Ig W ps S (fun k=>Y k\/(w.1.size<=k/\k<w.1.size+1)))=>jX hW hi tu t ht;have cp:=fun W (hW:Ig W ps S1 (fun k=>Y k\/(w.1.size<=k/\k<w.1.size+1)))=>jW hW hi1 tu t (z_ S tu t).1 x1 (G8 S t) ht a7.1 hx1 hp;have bc:=fun W (hW:Ig W ps S (fun k=>Y k\/(w.1.size<=k/\k<w.1.size+1)))=>gy hW hi t ht;have bb:=fun W (hW:Ig W ps S (fun k=>Y k\/(w.1.size<=k/\k<w.1.size+1)))=>gy hW hi low hw;have a6:=fun W (hW:Ig W ps S2 (fun k=>Y k\/(w.1.size<=k/\k<w.1.size+1)))=>gq hW hi2 x1 hx1;have a1:=fun W (hW:Ig W ps S2 (fun k=>Y k\/(w.1.size<=k/\k<w.1.size+1)))=>jX hW hi2 tu x1 hx1;have au:=fun W (hW:Ig W ps S2 (fun k=>Y k\/(w.1.size<=k/\k<w.1.size+1)))=>gq hW hi2 (z_ S2 tu x1).2 (gW hW tu x1).2;have ap:=fun W (hW:Ig W ps S2 (fun k=>Y k\/(w.1.size<=k/\k<w.1.size+1)))=>jX hW hi2 tu (z_ S2 tu x1).2 (gW hW tu x1).2;have ai:=fun W (hW:Ig W ps S2 (fun k=>Y k\/(w.1.size<=k/\k<w.1.size+1)))=>And.intro (gW hW tu x1) (jW hW hi2 tu (z_ S2 tu x1).2 (z_ S2 tu (z_ S2 tu x1).2).1 (z_ S2 tu (z_ S2 tu x1).2).2 false (gW hW tu x1).2 (gW hW tu _).1 (gW hW tu _).2 hp3);have an:=fun W (hW:Ig W ps S3 (fun k=>Y k\/(w.1.size<=k/\k<w.1.size+1)))=>fun(q:(z_ S2 tu x1).1<2^64)=>jW hW a4 tu t (z_ S tu t).1 (z_ S2 tu x1).1 false ht a7.1 q hp4;have ar:=fun W (hW:Ig W ps S4 (fun k=>Y k\/(w.1.size<=k/\k<w.1.size+1)))=>fun(q:(z_ S2 tu x1).2<2^64)=>jW hW bd tu x1 t (z_ S2 tu x1).2 true hx1 ht q hp5;have cr:=fun W (hW:Ig W ps S (fun k=>Y k\/(w.1.size<=k/\k<w.1.size+1)))=>cr W _ hW;try unfold dP at a0
 try unfold dP at cp
 try unfold dP at a1
 try unfold dP at ap
 try unfold dP at ai
 try unfold dP at an
 try unfold dP at ar
 rw[hr] at a5 cp;rw[hf] at a6;have b0:(((F1 S t:Nat):Int)==(F1 S low:Nat))=false:=m_
 generalize F1 S t=bk1 at*;generalize F1 S low=bk2 at*;rw[hg] at au;obtain⟨⟨b1,own⟩,bf⟩:∃r,z_ S tu t=r:=⟨_,rfl⟩;rw[bf] at a0 cp cr an;simp only at a0 cp cr an;obtain⟨⟨sa,sb⟩,bj⟩:∃r,z_ S2 tu x1=r:=⟨_,rfl⟩;rw[bj] at a1 au ap ai an ar;simp only at a1 au ap ai an ar;obtain⟨⟨sc,sd⟩,bk⟩:∃r,z_ S2 tu sb=r:=⟨_,rfl⟩;rw[bk] at ap ai;simp only at ap ai;have hq:((d:Int)==200)=false:=m_
 have bv:IntKind.i64.wrap ((d:Int)+1)=(d:Int)+1:=aq _ o_;have q0:=heap_alloc_new w (Xd ps tu);have B0:=c_ w (Xd ps tu);have bo:(w.alloc (Xd ps tu)).1.size=w.1.size+1:=s_
 have z0:=h.wide B0;rw[bo] at z0;have k0:Fo Y w (w.alloc (Xd ps tu)):=Fo.A_ B0 h.yl;have bt:w.1.size<(w.alloc (Xd ps tu)).1.size:=o_
 have HG:=kq13 a5 a0 cp bc bb a6 a1 au ap ai an ar cr;clear a5 a0 cp bc bb a6 a1 au ap ai an ar cr hp hi hi1 hi2 bt bo hr h200 bf a7 hb hf hg bj bk hp3 hp4 hp5 a4 bd;have H0:=kq3 z0 q0 k0;clear z0 q0 k0 B0 h;go_enter func221,ntmps221;go_wp2_with fail;have bq:w.1.size<(w.alloc (Xd ps tu)).1.size:=s_
 have bs:∀x:Fq (Below (w.alloc (Xd ps tu)).1.size (w.alloc (Xd ps tu))),x.to.cell? (y_ w.1.size)=some (PV ps):=fun x=>by rw[t_ ((x.ok.block _ bq).T H0.b)];rfl
 have ba:=fun x:Fq (Below (w.alloc (Xd ps tu)).1.size (w.alloc (Xd ps tu)))=>Calls.F_ (HG.a x.to (H0.a.a_ x.ok));have a':=fun x:Fq (Below (w.alloc (Xd ps tu)).1.size (w.alloc (Xd ps tu)))=>Calls.F_ (HG.d x.to (H0.a.a_ x.ok));have a9:=fun x:Fq (Below (w.alloc (Xd ps tu)).1.size (w.alloc (Xd ps tu)))=>Calls.F_ (HG.e x.to (H0.a.a_ x.ok));generalize bu:w.alloc (Xd ps tu)=W0 at*;refine iq (D_ W0) k_ k_ (aa _ _).drew (fun _=>?_);repeat (first | go_big_quiet_skip | (go_big_quiet_want;go_big_quiet_op;first | go_big_quiet_on | (apply Exists.intro;refine⟨fun x=>?_,?_⟩;(· first | with_reducible exact ba x | with_reducible exact a' x | with_reducible exact a9 x);go_big_quiet_on)))
 refine wpQuiet_nil ?_;rintro _ ⟨v,rfl⟩;have rr:=(v.ok.block w.1.size bq).T H0.b;have hs:=H0.a.a_ v.ok;have hk:=H0.c.T ((H0.a.B_ v.ok).M (fun k hk=>ab hk));obtain⟨w1,bm⟩:=Ii v.to;rw[bm] at rr hs hk⊢;clear bm v bs ba a' a9;obtain⟨c0,c1⟩:=Fp rr;have H1:=kq3 hs rr hk;clear rr hs hk;go_wp2_with fail;clear c0 c1;refine e9 (HG.b _ H1.a) fun w2 hb=>?_;have rr:=(hb.block w.1.size (gl H1.b)).T H1.b;have hs:=H1.a.a_ hb;have hk:=H1.c.T ((H1.a.B_ hb).M (fun k hk=>ab hk));obtain⟨c0,c1⟩:=Fp rr;have H2:=kq3 hs rr hk;clear hb rr hs hk;go_wp2_with fail;clear c0 c1;refine e9 (HG.a _ H2.a) fun w3 hb=>?_;have rr:=(hb.block w.1.size (gl H2.b)).T H2.b;have hs:=H2.a.a_ hb;have hk:=H2.c.T ((H2.a.B_ hb).M (fun k hk=>ab hk));obtain⟨c0,c1⟩:=Fp rr;have H3:=kq3 hs rr hk;clear hb rr hs hk;go_wp2_with fail;clear c0 c1;refine(HG.m _ H3.a).M ?_;rintro e w4 ⟨rfl,hs,ad⟩;have rr:=(ad.block w.1.size (ae ⟨Nat.le_refl _,aP _⟩)).T H3.b;have hk:=H3.c.T (ad.M (fun k hk=>ab hk));obtain⟨c0,c1⟩:=Fp rr;have H4:=kq3 hs rr hk;clear ad rr hs hk;go_wp2_with fail;clear c0 c1;refine(HG.c _ H4.a).M ?_;rintro e w5 ⟨rfl,hs,ad⟩;have rr:=(ad.block w.1.size (ae ⟨Nat.le_refl _,aP _⟩)).T H4.b;have hk:=H4.c.T (ad.M (fun k hk=>ab hk));obtain⟨c0,c1⟩:=Fp rr;have H5:=kq3 hs rr hk;clear ad rr hs hk;go_wp2_with fail;clear c0 c1;refine e9 (HG.f _ H5.a) fun w6 hb=>?_;have rr:=(hb.block w.1.size (gl H5.b)).T H5.b;have hs:=H5.a.a_ hb;have hk:=H5.c.T ((H5.a.B_ hb).M (fun k hk=>ab hk));obtain⟨c0,c1⟩:=Fp rr;have H6:=kq3 hs rr hk;clear hb rr hs hk;go_wp2_with fail;clear c0 c1;refine e9 (HG.g _ H6.a) fun w7 hb=>?_;have rr:=(hb.block w.1.size (gl H6.b)).T H6.b;have hs:=H6.a.a_ hb;have hk:=H6.c.T ((H6.a.B_ hb).M (fun k hk=>ab hk));obtain⟨c0,c1⟩:=Fp rr;have H7:=kq3 hs rr hk;clear hb rr hs hk;go_wp2_with fail;clear c0 c1;refine e9 (HG.h _ H7.a) fun w8 hb=>?_;have rr:=(hb.block w.1.size (gl H7.b)).T H7.b;have hs:=H7.a.a_ hb;have hk:=H7.c.T ((H7.a.B_ hb).M (fun k hk=>ab hk));obtain⟨c0,c1⟩:=Fp rr;have H8:=kq3 hs rr hk;clear hb rr hs hk;go_wp2_with fail;clear c0 c1;refine e9 (HG.i _ H8.a) fun w9 hb=>?_;have rr:=(hb.block w.1.size (gl H8.b)).T H8.b;have hs:=H8.a.a_ hb;have hk:=H8.c.T ((H8.a.B_ hb).M (fun k hk=>ab hk));obtain⟨c0,c1⟩:=Fp rr;have H9:=kq3 hs rr hk;clear hb rr hs hk;go_wp2_with fail;clear c0 c1;obtain⟨qb,q3⟩:=HG.j _ H9.a;refine q3.M ?_;clear q3;rintro e b2 ⟨rfl,hs,ad⟩;have rr:=(ad.block w.1.size (ae ⟨Nat.le_refl _,aP _⟩)).T H9.b;have hk:=H9.c.T (ad.M (fun k hk=>ab hk));obtain⟨c0,c1⟩:=Fp rr;have a2:=kq3 hs rr hk;have HQ:=If qb;clear ad rr hs hk qb;go_wp2_with fail;clear c0 c1;refine(HG.k _ a2.a HQ.O.1).M ?_;rintro e b4 ⟨rfl,hs,ad⟩;have rr:=(ad.block w.1.size (ae ⟨Nat.le_refl _,aP _⟩)).T a2.b;have hk:=a2.c.T (ad.M (fun k hk=>ab hk));obtain⟨c0,c1⟩:=Fp rr;have a3:=kq3 hs rr hk;clear ad rr hs hk;go_wp2_with fail;clear c0 c1;refine(HG.l _ a3.a HQ.O.2).M ?_;rintro e b8 ⟨rfl,hs,ad⟩;have rr:=(ad.block w.1.size (ae ⟨Nat.le_refl _,aP _⟩)).T a3.b;have hk:=a3.c.T (ad.M (fun k hk=>ab hk));obtain⟨c0,c1⟩:=Fp rr;have a8:=kq3 hs rr hk;clear ad rr hs hk;go_wp2_with fail;clear c0 c1;go_ret;exact⟨rfl,a8.a.M (fun k hk=>ab hk),a8.c⟩
theorem AW{tu:Bool}{S S':St}{t v_ x y:Nat}{is:Bool}(h:fixR tu S t v_ x is=some (y,S')):
 (is=true/\y=t/\S'=S)\/(is=false/\G8 S x=false/\y=t/\S'=S)\/(is=false/\G8 S x=true/\G8 S (z_ S tu x).2=false/\y=t/\S'=S)\/
 (is=false/\G8 S x=true/\G8 S (z_ S tu x).2=true/\y=x/\∃S3 S4,putJ S tu (z_ S tu x).2 (z_ S tu (z_ S tu x).2).1 (z_ S tu (z_ S tu x).2).2 false=some S3/\putJ S3 tu t v_ (z_ S tu x).1 false=some S4/\putJ S4 tu x t (z_ S tu x).2 true=some S'):=by
 unfold fixR at h;cases is with
 | true=>
  rw[if_pos (ab rfl)] at h;injection h with h
  injection h with e1 e2
  exact ab ⟨rfl,e1.S,e2.S⟩
 | false=>
  split at h
  ·rename_i hc;injection h with h
   injection h with e1 e2
   rcases hc with hc | hc
   ·cases hc
   ·exact ae (ab ⟨rfl,hc,e1.S,e2.S⟩)
  ·rename_i hc;have hx:G8 S x=true:=by simpa using hc
   split at h
   ·rename_i hb;injection h with h
    injection h with e1 e2
    exact ae (ae (ab ⟨rfl,hx,hb,e1.S,e2.S⟩))
   ·rename_i hb;have hb:G8 S (z_ S tu x).2=true:=by simpa using hb
    split at h
    ·cases h
    ·rename_i S3 h3;split at h
     ·cases h
     ·rename_i S4 h4;obtain⟨S5,h5,h6⟩:=aB.1 h;injection h6 with e1 e2
      subst e1 e2;exact ae (ae (ae ⟨rfl,hx,hb,rfl,S3,S4,h3,h4,h5⟩))
theorem rX(tu:Bool)(m:Nat)(hm:m<2^64):∀(f d:Nat),d+f=200->∀{w:World} {S S':St} {Y:Nat->Prop} {t low x:Nat},Ig w ps S Y->Fv S->t<2^64->low<2^64->
 joinR tu m f S t low=some (x,S')->
 Ct 221 #[dP ps tu,Xu t,Xu m,Xu low,Xi d] w fun e w'=>e=.returned (Xu x)/\Ig w' ps S' Y/\Fo Y w w':=by
 intro f;induction f with
 | zero=>
  intro d hd w S S' Y t low x h hi ht hw hj;rw[rf] at hj;obtain⟨S1,h1,h2⟩:=aB.1 hj;injection h2 with e1 e2
  subst e1 e2;exact DU h hi tu m t low hm ht hw d o_ o_ h1
 | succ f ih=>
  intro d hd w S S' Y t low x h hi ht hw hj;rw[re] at hj;split at hj
  ·rename_i hc;obtain⟨S1,h1,h2⟩:=aB.1 hj;injection h2 with e1 e2
   subst e1 e2;exact DW h hi tu m t low hm ht hw d o_ o_ hc.1 hc.2 h1
  ·rename_i hc;split at hj
   ·cases hj
   rename_i x1 S1 hj1;split at hj
   ·cases hj
   rename_i S2 hp;obtain⟨hj,-⟩:=lM hj;obtain⟨ai,ad⟩:=lU tu f hi hj1;have ad:=ad hm;have an:=jV ai hp;have cr:=fun(W:World) (Z:Nat->Prop) (hW:Ig W ps S Z)=>ih (d+1) o_ hW hi (gW h tu t).2 hw hj1;rcases AW hj with⟨c1,rfl,rfl⟩ | ⟨c1,c2,rfl,rfl⟩ | ⟨c1,c2,c3,rfl,rfl⟩ | ⟨c1,c2,c3,rfl,S3,S4,h3,h4,h5⟩
   ·exact DV h hi tu m _ low hm ht hw d o_ o_ c1 ad ai an cr hp
   ·exact DR h hi tu m _ low hm ht hw d o_ o_ c1 (fun e=>hc ⟨c1,e⟩) ad ai an cr hp c2
   ·exact DS h hi tu m _ low hm ht hw d o_ o_ c1 (fun e=>hc ⟨c1,e⟩) ad ai an cr hp c2 c3
   ·exact DT h hi tu m t low hm ht hw d o_ o_ c1 (fun e=>hc ⟨c1,e⟩) ad ai an cr hp c2 c3 h3 h4 h5
theorem Ia{S S1:St}(h:Ig w ps S Y)(hi:Fv S)(tu:Bool)(t m low:Nat)(hm:m<2^64)(ht:t<2^64)(hw:low<2^64)(hj:joinR tu m 200 S t low=some (x,S1))(c1:G8 S1 x=true)(c2:G8 S1 (z_ S1 tu x).2=true){S2:St}(hp:putJ S1 tu x (z_ S1 tu x).1 (z_ S1 tu x).2 false=some S2):
 Ct 189 #[dP ps tu,Xu t,Xu m,Xu low] w fun e w'=>e=.returned (Xu x)/\Ig w' ps S2 Y/\Fo Y w w':=by
 obtain⟨ai,hx⟩:=lU tu 200 hi hj;have hx:=hx hm;have cj:=fun W (hW:Ig W ps S (fun k=>Y k\/(w.1.size<=k/\k<w.1.size+1)))=>rX tu m hm 200 0 rfl hW hi ht hw hj;have ap:=fun W (hW:Ig W ps S1 (fun k=>Y k\/(w.1.size<=k/\k<w.1.size+1)))=>jX hW ai tu x hx;have ar:=fun W (hW:Ig W ps S1 (fun k=>Y k\/(w.1.size<=k/\k<w.1.size+1)))=>gq hW ai x hx;have an:=fun W (hW:Ig W ps S1 (fun k=>Y k\/(w.1.size<=k/\k<w.1.size+1)))=>gq hW ai (z_ S1 tu x).2 (gW hW tu x).2;have cp:=fun W (hW:Ig W ps S1 (fun k=>Y k\/(w.1.size<=k/\k<w.1.size+1)))=>jW hW ai tu x (z_ S1 tu x).1 (z_ S1 tu x).2 false hx (gW hW tu x).1 (gW hW tu x).2 hp;rw[c1] at ar;rw[c2] at an;unfold dP at cj;unfold dP at ap;unfold dP at cp;unfold dP;obtain⟨⟨sa,sb⟩,au⟩:∃r,z_ S1 tu x=r:=⟨_,rfl⟩;rw[au] at ap an cp;simp only at ap an cp;have q0:=heap_alloc_new w (Xd ps tu);have B0:=c_ w (Xd ps tu);have a0:(w.alloc (Xd ps tu)).1.size=w.1.size+1:=s_
 have z0:=h.wide B0;rw[a0] at z0;have k0:Fo Y w (w.alloc (Xd ps tu)):=Fo.A_ B0 h.yl;have a1:w.1.size<(w.alloc (Xd ps tu)).1.size:=o_
 have HG:=kq5 cj ap ar an cp;clear cj ap ar an cp hi ai a1 a0 au hj c1 c2 hp;have c0:(w.alloc (Xd ps tu)).cell? (y_ w.1.size)=some (PV ps):=e_ q0
 have c1:(w.alloc (Xd ps tu)).cell? (x_ w.1.size 1)=some (.bool tu):=e_ q0
 have H0:=kq3 z0 q0 k0;clear z0 q0 k0 B0 h;go_enter func189,ntmps189;go_wp2_with fail;clear c0 c1;refine(HG.a _ H0.a).M ?_;rintro e w1 ⟨rfl,hs,ad⟩;have rr:=(ad.block w.1.size (ae ⟨Nat.le_refl _,aP _⟩)).T H0.b;have hk:=H0.c.T (ad.M (fun k hk=>ab hk));obtain⟨c0,c1⟩:=Fp rr;have H1:=kq3 hs rr hk;clear ad rr hs hk;go_wp2_with fail;clear c0 c1;refine e9 (HG.b _ H1.a) fun w2 hb=>?_;have rr:=(hb.block w.1.size (gl H1.b)).T H1.b;have hs:=H1.a.a_ hb;have hk:=H1.c.T ((H1.a.B_ hb).M (fun k hk=>ab hk));obtain⟨c0,c1⟩:=Fp rr;have H2:=kq3 hs rr hk;clear hb rr hs hk;go_wp2_with fail;clear c0 c1;refine e9 (HG.c _ H2.a) fun w3 hb=>?_;have rr:=(hb.block w.1.size (gl H2.b)).T H2.b;have hs:=H2.a.a_ hb;have hk:=H2.c.T ((H2.a.B_ hb).M (fun k hk=>ab hk));obtain⟨c0,c1⟩:=Fp rr;have H3:=kq3 hs rr hk;clear hb rr hs hk;go_wp2_with fail;clear c0 c1;refine e9 (HG.d _ H3.a) fun w4 hb=>?_;have rr:=(hb.block w.1.size (gl H3.b)).T H3.b;have hs:=H3.a.a_ hb;have hk:=H3.c.T ((H3.a.B_ hb).M (fun k hk=>ab hk));obtain⟨c0,c1⟩:=Fp rr;have H4:=kq3 hs rr hk;clear hb rr hs hk;go_wp2_with fail;clear c0 c1;refine(HG.e _ H4.a).M ?_;rintro e w5 ⟨rfl,hs,ad⟩;have rr:=(ad.block w.1.size (ae ⟨Nat.le_refl _,aP _⟩)).T H4.b;have hk:=H4.c.T (ad.M (fun k hk=>ab hk));obtain⟨c0,c1⟩:=Fp rr;have H5:=kq3 hs rr hk;clear ad rr hs hk;go_wp2_with fail;clear c0 c1;go_ret;exact⟨rfl,H5.a.M (fun k hk=>ab hk),H5.c⟩
theorem DZ{S S1:St}(h:Ig w ps S Y)(hi:Fv S)(tu:Bool)(t m low:Nat)(hm:m<2^64)(ht:t<2^64)(hw:low<2^64)(hj:joinR tu m 200 S t low=some (x,S1))(c1:G8 S1 x=true)(c2:G8 S1 (z_ S1 tu x).2=false):
 Ct 189 #[dP ps tu,Xu t,Xu m,Xu low] w fun e w'=>e=.returned (Xu x)/\Ig w' ps S1 Y/\Fo Y w w':=by
 obtain⟨an,hx⟩:=lU tu 200 hi hj;have hx:=hx hm;have cj:=fun W (hW:Ig W ps S (fun k=>Y k\/(w.1.size<=k/\k<w.1.size+1)))=>rX tu m hm 200 0 rfl hW hi ht hw hj;have ai:=fun W (hW:Ig W ps S1 (fun k=>Y k\/(w.1.size<=k/\k<w.1.size+1)))=>jX hW an tu x hx;have ar:=fun W (hW:Ig W ps S1 (fun k=>Y k\/(w.1.size<=k/\k<w.1.size+1)))=>gq hW an x hx;have ad:=fun W (hW:Ig W ps S1 (fun k=>Y k\/(w.1.size<=k/\k<w.1.size+1)))=>gq hW an (z_ S1 tu x).2 (gW hW tu x).2;rw[c1] at ar;rw[c2] at ad;unfold dP at cj;unfold dP at ai;unfold dP;obtain⟨⟨sa,sb⟩,au⟩:∃r,z_ S1 tu x=r:=⟨_,rfl⟩;rw[au] at ai ad;simp only at ai ad;have q0:=heap_alloc_new w (Xd ps tu);have B0:=c_ w (Xd ps tu);have a0:(w.alloc (Xd ps tu)).1.size=w.1.size+1:=s_
 have z0:=h.wide B0;rw[a0] at z0;have k0:Fo Y w (w.alloc (Xd ps tu)):=Fo.A_ B0 h.yl;have a1:w.1.size<(w.alloc (Xd ps tu)).1.size:=o_
 have HG:=kq4 cj ai ar ad;clear cj ai ar ad hi an a1 a0 au hj c1 c2;have c0:(w.alloc (Xd ps tu)).cell? (y_ w.1.size)=some (PV ps):=e_ q0
 have c1:(w.alloc (Xd ps tu)).cell? (x_ w.1.size 1)=some (.bool tu):=e_ q0
 have H0:=kq3 z0 q0 k0;clear z0 q0 k0 B0 h;go_enter func189,ntmps189;go_wp2_with fail;clear c0 c1;refine(HG.a _ H0.a).M ?_;rintro e w1 ⟨rfl,hs,ap⟩;have rr:=(ap.block w.1.size (ae ⟨Nat.le_refl _,aP _⟩)).T H0.b;have hk:=H0.c.T (ap.M (fun k hk=>ab hk));obtain⟨c0,c1⟩:=Fp rr;have H1:=kq3 hs rr hk;clear ap rr hs hk;go_wp2_with fail;clear c0 c1;refine e9 (HG.b _ H1.a) fun w2 hb=>?_;have rr:=(hb.block w.1.size (gl H1.b)).T H1.b;have hs:=H1.a.a_ hb;have hk:=H1.c.T ((H1.a.B_ hb).M (fun k hk=>ab hk));obtain⟨c0,c1⟩:=Fp rr;have H2:=kq3 hs rr hk;clear hb rr hs hk;go_wp2_with fail;clear c0 c1;refine e9 (HG.c _ H2.a) fun w3 hb=>?_;have rr:=(hb.block w.1.size (gl H2.b)).T H2.b;have hs:=H2.a.a_ hb;have hk:=H2.c.T ((H2.a.B_ hb).M (fun k hk=>ab hk));obtain⟨c0,c1⟩:=Fp rr;have H3:=kq3 hs rr hk;clear hb rr hs hk;go_wp2_with fail;clear c0 c1;refine e9 (HG.d _ H3.a) fun w4 hb=>?_;have rr:=(hb.block w.1.size (gl H3.b)).T H3.b;have hs:=H3.a.a_ hb;have hk:=H3.c.T ((H3.a.B_ hb).M (fun k hk=>ab hk));obtain⟨c0,c1⟩:=Fp rr;have H4:=kq3 hs rr hk;clear hb rr hs hk;go_wp2_with fail;clear c0 c1;go_ret;exact⟨rfl,H4.a.M (fun k hk=>ab hk),H4.c⟩
theorem DY{S S1:St}(h:Ig w ps S Y)(hi:Fv S)(tu:Bool)(t m low:Nat)(hm:m<2^64)(ht:t<2^64)(hw:low<2^64)(hj:joinR tu m 200 S t low=some (x,S1))(c1:G8 S1 x=false):
 Ct 189 #[dP ps tu,Xu t,Xu m,Xu low] w fun e w'=>e=.returned (Xu x)/\Ig w' ps S1 Y/\Fo Y w w':=by
 obtain⟨ai,hx⟩:=lU tu 200 hi hj;have hx:=hx hm;have cj:=fun W (hW:Ig W ps S (fun k=>Y k\/(w.1.size<=k/\k<w.1.size+1)))=>rX tu m hm 200 0 rfl hW hi ht hw hj;have ad:=fun W (hW:Ig W ps S1 (fun k=>Y k\/(w.1.size<=k/\k<w.1.size+1)))=>jX hW ai tu x hx;have ap:=fun W (hW:Ig W ps S1 (fun k=>Y k\/(w.1.size<=k/\k<w.1.size+1)))=>gq hW ai x hx;rw[c1] at ap;unfold dP at cj;unfold dP at ad;unfold dP;obtain⟨⟨sa,sb⟩,ar⟩:∃r,z_ S1 tu x=r:=⟨_,rfl⟩;rw[ar] at ad;simp only at ad;have q0:=heap_alloc_new w (Xd ps tu);have B0:=c_ w (Xd ps tu);have au:(w.alloc (Xd ps tu)).1.size=w.1.size+1:=s_
 have z0:=h.wide B0;rw[au] at z0;have k0:Fo Y w (w.alloc (Xd ps tu)):=Fo.A_ B0 h.yl;have a0:w.1.size<(w.alloc (Xd ps tu)).1.size:=o_
 have HG:=kq3 cj ad ap;clear cj ad ap hi ai a0 au ar hj c1;have c0:(w.alloc (Xd ps tu)).cell? (y_ w.1.size)=some (PV ps):=e_ q0
 have c1:(w.alloc (Xd ps tu)).cell? (x_ w.1.size 1)=some (.bool tu):=e_ q0
 have H0:=kq3 z0 q0 k0;clear z0 q0 k0 B0 h;go_enter func189,ntmps189;go_wp2_with fail;clear c0 c1;refine(HG.a _ H0.a).M ?_;rintro e w1 ⟨rfl,hs,an⟩;have rr:=(an.block w.1.size (ae ⟨Nat.le_refl _,aP _⟩)).T H0.b;have hk:=H0.c.T (an.M (fun k hk=>ab hk));obtain⟨c0,c1⟩:=Fp rr;have H1:=kq3 hs rr hk;clear an rr hs hk;go_wp2_with fail;clear c0 c1;refine e9 (HG.b _ H1.a) fun w2 hb=>?_;have rr:=(hb.block w.1.size (gl H1.b)).T H1.b;have hs:=H1.a.a_ hb;have hk:=H1.c.T ((H1.a.B_ hb).M (fun k hk=>ab hk));obtain⟨c0,c1⟩:=Fp rr;have H2:=kq3 hs rr hk;clear hb rr hs hk;go_wp2_with fail;clear c0 c1;refine e9 (HG.c _ H2.a) fun w3 hb=>?_;have rr:=(hb.block w.1.size (gl H2.b)).T H2.b;have hs:=H2.a.a_ hb;have hk:=H2.c.T ((H2.a.B_ hb).M (fun k hk=>ab hk));obtain⟨c0,c1⟩:=Fp rr;have H3:=kq3 hs rr hk;clear hb rr hs hk;go_wp2_with fail;clear c0 c1;go_ret;exact⟨rfl,H3.a.M (fun k hk=>ab hk),H3.c⟩
theorem wE{S S':St}(h:Ig w ps S Y)(hi:Fv S)(tu:Bool)(t m low:Nat)(hm:m<2^64)(ht:t<2^64)(hw:low<2^64)(hj:topR tu S t m low=some (x,S')):
 Ct 189 #[dP ps tu,Xu t,Xu m,Xu low] w fun e w'=>e=.returned (Xu x)/\Ig w' ps S' Y/\Fo Y w w':=by
 unfold topR at hj
 split at hj
 ·cases hj
 ·rename_i y S1 h1
  by_cases c1:G8 S1 y=true
  ·by_cases c2:G8 S1 (z_ S1 tu y).2=true
   ·rw[if_pos ⟨c1,c2⟩] at hj;obtain⟨S2,h2,h3⟩:=aB.1 hj
    injection h3 with e1 e2
    subst e1 e2;exact Ia h hi tu t m low hm ht hw h1 c1 c2 h2
   ·rw[if_neg (fun q=>c2 q.2)] at hj
    injection hj with hj
    injection hj with e1 e2
    subst e1 e2;exact DZ h hi tu t m low hm ht hw h1 c1 (by simpa using c2)
  ·rw[if_neg (fun q=>c1 q.1)] at hj
   injection hj with hj
   injection hj with e1 e2
   subst e1 e2;exact DY h hi tu t m low hm ht hw h1 (by simpa using c1)
theorem qOaab{P:Prop}(h:P:=by
 clear hc;generalize F1 S l=bk1 at*;generalize F1 S r=bk2 at*;have HG:=kq8 ap ad ai an ar au h hp;clear ap ad ai an ar au h hp hi h0 t1 t2 t3;go_enter func142,ntmps142;go_wp2_with fail;refine Jc HG.a ?_;go_wp2_with fail;refine e9 HG.b fun w1 hb=>?_;have H1:=If hb;clear hb;go_wp2_with fail;refine e9 (HG.c _ H1.O) fun w2 hb=>?_;have H2:=If (b_ H1.O hb);clear hb;go_wp2_with fail;refine e9 (HG.d _ H2.O) fun w3 hb=>?_;have H3:=If (b_ H2.O hb);clear hb;go_wp2_with fail;refine e9 (HG.e _ H3.O) fun w4 hb=>?_;have H4:=If (b_ H3.O hb);clear hb;go_wp2_with fail;refine e9 (HG.f _ H4.O) fun w5 hb=>?_;have H5:=If (b_ H4.O hb);clear hb;go_wp2_with fail;refine(HG.h _ H5.O).M ?_;rintro e w6 ⟨rfl,hs,hk⟩;have HE:=kq2 hs ((HG.g.B_ H5.O).T hk);clear hs hk;go_wp2_with fail;go_ret2;exact⟨rfl,HE.O⟩):P:=h
theorem DM{S S':St}(h:Ig w ps S Y)(hi:Fv S)(l m r:Nat)(hl:l<2^64)(hm:m<2^64)(hr:r<2^64)(h0:m≠0)(t1:isT S l=true)(t2:isT S m=true)(t3:isT S r=true)(hc:F1 S r<F1 S l)(hp:topR false S l m r=some (x,S')):
 Ct 142 #[PV ps,Xu l,Xu m,Xu r] w fun e w'=>e=.returned (.tuple #[Xu x,Xi 0])/\Ig w' ps S' Y/\Fo Y w w':=by
 have ap:=fB h hi 0 o_;rw[fU] at ap;have ad:=io h hi l hl;have ai:=fun W (hW:D_ w W)=>io (h.a_ hW) hi m hm;have an:=fun W (hW:D_ w W)=>io (h.a_ hW) hi r hr;have ar:=fun W (hW:D_ w W)=>gy (h.a_ hW) hi l hl;have au:=fun W (hW:D_ w W)=>gy (h.a_ hW) hi r hr;rw[t1] at ad;rw[t2] at ai;rw[t3] at an;have hq:((m:Int)==0)=false:=m_
 have hp:=fun W (hW:D_ w W)=>wE (h.a_ hW) hi false l m r hm hl hr hp;unfold dP at hp;have a0:((F1 S r:Nat):Int)<(F1 S l:Nat):=o_
 exact qOaab
theorem DN{S S':St}(h:Ig w ps S Y)(hi:Fv S)(l m r:Nat)(hl:l<2^64)(hm:m<2^64)(hr:r<2^64)(h0:m≠0)(t1:isT S l=true)(t2:isT S m=true)(t3:isT S r=true)(hc:F1 S l<F1 S r)(hp:topR true S r m l=some (x,S')):
 Ct 142 #[PV ps,Xu l,Xu m,Xu r] w fun e w'=>e=.returned (.tuple #[Xu x,Xi 0])/\Ig w' ps S' Y/\Fo Y w w':=by
 have ap:=fB h hi 0 o_;rw[fU] at ap;have ad:=io h hi l hl;have ai:=fun W (hW:D_ w W)=>io (h.a_ hW) hi m hm;have an:=fun W (hW:D_ w W)=>io (h.a_ hW) hi r hr;have ar:=fun W (hW:D_ w W)=>gy (h.a_ hW) hi l hl;have au:=fun W (hW:D_ w W)=>gy (h.a_ hW) hi r hr;rw[t1] at ad;rw[t2] at ai;rw[t3] at an;have hq:((m:Int)==0)=false:=m_
 have hp:=fun W (hW:D_ w W)=>wE (h.a_ hW) hi true r m l hm hr hl hp;unfold dP at hp;have a0:((F1 S l:Nat):Int)<(F1 S r:Nat):=o_
 have a1:¬((F1 S r:Nat):Int)<(F1 S l:Nat):=o_
 exact qOaab
theorem DO{S S':St}(h:Ig w ps S Y)(hi:Fv S)(l m r:Nat)(hl:l<2^64)(hm:m<2^64)(hr:r<2^64)(h0:m≠0)(t1:isT S l=true)(t2:isT S m=true)(t3:isT S r=true)(hc:F1 S l=F1 S r)(hr1:G8 S l=true)(hp:putRM S m l r false=some S'):
 Ct 142 #[PV ps,Xu l,Xu m,Xu r] w fun e w'=>e=.returned (.tuple #[Xu m,Xi 0])/\Ig w' ps S' Y/\Fo Y w w':=by
 have au:=fB h hi 0 o_;rw[fU] at au;have ad:=io h hi l hl;have ai:=fun W (hW:D_ w W)=>io (h.a_ hW) hi m hm;have an:=fun W (hW:D_ w W)=>io (h.a_ hW) hi r hr;have a0:=fun W (hW:D_ w W)=>gy (h.a_ hW) hi l hl;have ap:=fun W (hW:D_ w W)=>gy (h.a_ hW) hi r hr;rw[t1] at ad;rw[t2] at ai;rw[t3] at an;have hq:((m:Int)==0)=false:=m_
 have hp:=fun W (hW:D_ w W)=>nh (h.a_ hW) hi m l r false hm hl hr hp;have ar:=fun W (hW:D_ w W)=>gq (h.a_ hW) hi l hl;rw[hr1] at ar;rw[<-hc] at ap;clear hc hr1;generalize F1 S l=bk1 at*;have HG:=kq9 au ad ai an a0 ap h ar hp;clear au ad ai an a0 ap h ar hp hi h0 t1 t2 t3;go_enter func142,ntmps142;go_wp2_with fail;refine Jc HG.a ?_;go_wp2_with fail;refine e9 HG.b fun w1 hb=>?_;have H1:=If hb;clear hb;go_wp2_with fail;refine e9 (HG.c _ H1.O) fun w2 hb=>?_;have H2:=If (b_ H1.O hb);clear hb;go_wp2_with fail;refine e9 (HG.d _ H2.O) fun w3 hb=>?_;have H3:=If (b_ H2.O hb);clear hb;go_wp2_with fail;refine e9 (HG.e _ H3.O) fun w4 hb=>?_;have H4:=If (b_ H3.O hb);clear hb;go_wp2_with fail;refine e9 (HG.f _ H4.O) fun w5 hb=>?_;have H5:=If (b_ H4.O hb);clear hb;go_wp2_with fail;refine e9 (HG.h _ H5.O) fun w6 hb=>?_;have H6:=If (b_ H5.O hb);clear hb;go_wp2_with fail;refine(HG.i _ H6.O).M ?_;rintro e w7 ⟨rfl,hs,hk⟩;have HE:=kq2 hs ((HG.g.B_ H6.O).T hk);clear hs hk;go_wp2_with fail;go_ret2;exact⟨rfl,HE.O⟩
theorem qOaaa{P:Prop}(h:P:=by
 have ar:=fun W (hW:D_ w W)=>gq (h.a_ hW) hi l hl;rw[hr1] at ar;rw[<-hc] at ap;clear hc hr1;generalize F1 S l=bk1 at*;have au:=fun W (hW:D_ w W)=>gq (h.a_ hW) hi r hr;rw[hr2] at au;clear hr2;have HG:=kq10 a0 ad ai an a1 ap h ar au hp;clear a0 ad ai an a1 ap h ar au hp hi h0 t1 t2 t3;go_enter func142,ntmps142;go_wp2_with fail;refine Jc HG.a ?_;go_wp2_with fail;refine e9 HG.b fun w1 hb=>?_;have H1:=If hb;clear hb;go_wp2_with fail;refine e9 (HG.c _ H1.O) fun w2 hb=>?_;have H2:=If (b_ H1.O hb);clear hb;go_wp2_with fail;refine e9 (HG.d _ H2.O) fun w3 hb=>?_;have H3:=If (b_ H2.O hb);clear hb;go_wp2_with fail;refine e9 (HG.e _ H3.O) fun w4 hb=>?_;have H4:=If (b_ H3.O hb);clear hb;go_wp2_with fail;refine e9 (HG.f _ H4.O) fun w5 hb=>?_;have H5:=If (b_ H4.O hb);clear hb;go_wp2_with fail;refine e9 (HG.h _ H5.O) fun w6 hb=>?_;have H6:=If (b_ H5.O hb);clear hb;go_wp2_with fail;refine e9 (HG.i _ H6.O) fun w7 hb=>?_;have H7:=If (b_ H6.O hb);clear hb;go_wp2_with fail;refine(HG.j _ H7.O).M ?_;rintro e w8 ⟨rfl,hs,hk⟩;have HE:=kq2 hs ((HG.g.B_ H7.O).T hk);clear hs hk;go_wp2_with fail;go_ret2;exact⟨rfl,HE.O⟩):P:=h
theorem DP{S S':St}(h:Ig w ps S Y)(hi:Fv S)(l m r:Nat)(hl:l<2^64)(hm:m<2^64)(hr:r<2^64)(h0:m≠0)(t1:isT S l=true)(t2:isT S m=true)(t3:isT S r=true)(hc:F1 S l=F1 S r)(hr1:G8 S l=false)(hr2:G8 S r=true)(hp:putRM S m l r false=some S'):
 Ct 142 #[PV ps,Xu l,Xu m,Xu r] w fun e w'=>e=.returned (.tuple #[Xu m,Xi 0])/\Ig w' ps S' Y/\Fo Y w w':=by
 have a0:=fB h hi 0 o_;rw[fU] at a0;have ad:=io h hi l hl;have ai:=fun W (hW:D_ w W)=>io (h.a_ hW) hi m hm;have an:=fun W (hW:D_ w W)=>io (h.a_ hW) hi r hr;have a1:=fun W (hW:D_ w W)=>gy (h.a_ hW) hi l hl;have ap:=fun W (hW:D_ w W)=>gy (h.a_ hW) hi r hr;rw[t1] at ad;rw[t2] at ai;rw[t3] at an;have hq:((m:Int)==0)=false:=m_
 have hp:=fun W (hW:D_ w W)=>nh (h.a_ hW) hi m l r false hm hl hr hp;exact qOaaa
theorem DL{S S':St}(h:Ig w ps S Y)(hi:Fv S)(l m r:Nat)(hl:l<2^64)(hm:m<2^64)(hr:r<2^64)(h0:m≠0)(t1:isT S l=true)(t2:isT S m=true)(t3:isT S r=true)(hc:F1 S l=F1 S r)(hr1:G8 S l=false)(hr2:G8 S r=false)(hp:putRM S m l r true=some S'):
 Ct 142 #[PV ps,Xu l,Xu m,Xu r] w fun e w'=>e=.returned (.tuple #[Xu m,Xi 0])/\Ig w' ps S' Y/\Fo Y w w':=by
 have a0:=fB h hi 0 o_;rw[fU] at a0;have ad:=io h hi l hl;have ai:=fun W (hW:D_ w W)=>io (h.a_ hW) hi m hm;have an:=fun W (hW:D_ w W)=>io (h.a_ hW) hi r hr;have a1:=fun W (hW:D_ w W)=>gy (h.a_ hW) hi l hl;have ap:=fun W (hW:D_ w W)=>gy (h.a_ hW) hi r hr;rw[t1] at ad;rw[t2] at ai;rw[t3] at an;have hq:((m:Int)==0)=false:=m_
 have hp:=fun W (hW:D_ w W)=>nh (h.a_ hW) hi m l r true hm hl hr hp;exact qOaaa
theorem DK{S S':St}(h:Ig w ps S Y)(hi:Fv S)(l m r:Nat)(hl:l<2^64)(hm:m<2^64)(hr:r<2^64){R:Nat×Nat}(hR:redJ S l m r=some (R,S')):
 Ct 142 #[PV ps,Xu l,Xu m,Xu r] w fun e w'=>e=.returned (.tuple #[Xu R.1,Xi R.2])/\Ig w' ps S' Y/\Fo Y w w':=by
 unfold redJ at hR
 split at hR
 ·cases hR
 rename_i hc;simp only[not_or,Bool.not_eq_false] at hc;obtain⟨h0,t1,t2,t3⟩:=hc
 split at hR
 ·rename_i hc;obtain⟨⟨x,S1⟩,h1,h2⟩:=aB.1 hR
  injection h2 with e1 e2
  subst e1 e2;exact DM h hi l m r hl hm hr h0 t1 t2 t3 hc h1
 ·rename_i hc1
  split at hR
  ·rename_i hc;obtain⟨⟨x,S1⟩,h1,h2⟩:=aB.1 hR
   injection h2 with e1 e2
   subst e1 e2;exact DN h hi l m r hl hm hr h0 t1 t2 t3 hc h1
  ·rename_i hc2;obtain⟨S1,h1,h2⟩:=aB.1 hR
   injection h2 with e1 e2
   subst e1 e2;have he:F1 S l=F1 S r:=o_
   cases a1:G8 S l with
   | true=>rw[a1] at h1;exact DO h hi l m r hl hm hr h0 t1 t2 t3 he a1 h1
   | false=>
    cases a2:G8 S r with
    | true=>rw[a1,a2] at h1;exact DP h hi l m r hl hm hr h0 t1 t2 t3 he a1 a2 h1
    | false=>rw[a1,a2] at h1;exact DL h hi l m r hl hm hr h0 t1 t2 t3 he a1 a2 h1
theorem BK:kW 142 redJ where
 enter args w:=by go_simp
 inv hi h:=(wG hi h).1
 lt hi _ hm _ h:=(wG hi h).2.1 hm
 ok h:=by
  unfold redJ at h;split at h
  ·cases h
  ·split at h
   ·obtain⟨_,_,h2⟩:=aB.1 h;injection h2 with e1 e2
    rw[<-e1]
   ·split at h
    ·obtain⟨_,_,h2⟩:=aB.1 h;injection h2 with e1 e2
     rw[<-e1]
    ·obtain⟨_,_,h2⟩:=aB.1 h;injection h2 with e1 e2
     rw[<-e1]
 call h hi hl hm hr hR:=DK h hi _ _ _ hl hm hr hR
theorem ot:jD 2 142 235 redJ:=⟨ae rfl,E3,BK,Aj⟩
end
section
open Lf Tr
variable{S:St}{o:Nat->Nat}
theorem LX(hf:Fw S o){h:Nat}{ws:List Nat}(hl:l_ S h=some ws):∃a r,eO S.a o a r/\ws.length+2<=r/\∃(k:Nat) (x:dR),S.t.p_[k]?=some x/\x.is=1/\h=gj x.gen k/\x.u_=a:=by
 obtain⟨k,x,hx,h1,h2,rfl⟩:=(gT hf.tab).1 hl;obtain⟨r,g1,g2,g3⟩:=hf.live k x hx h1;exact⟨x.u_,r,g1,by rw[Jy];omega,k,x,hx,h1,h2,rfl⟩
theorem LL(hf:Fw S o){l:List Nat}{n:Nat}(h0:0<n)(hn:l.Nodup)(hl:∀h∈l,∃ws,l_ S h=some ws/\n<=ws.length+2):l.length*n<=64*S.a.C6.length:=by
 have key:∀i:Nat,∃a:Nat,∀hi:i<l.length,∃r,eO S.a o a r/\n<=r/\∃(k:Nat) (x:dR),S.t.p_[k]?=some x/\x.is=1/\l[i]=gj x.gen k/\x.u_=a:=fun i=>by
  by_cases hi:i<l.length
  ·obtain⟨ws,h1,h2⟩:=hl _ (aw hi);obtain⟨a,r,p,q,s⟩:=LX hf h1;exact⟨a,fun _=>⟨r,p,o_,s⟩⟩
  ·exact⟨0,fun h=>absurd h hi⟩
 let A:Nat->Nat:=fun i=>(key i).choose
 have hA:∀i (hi:i<l.length),∃r,eO S.a o (A i) r/\n<=r/\∃(k:Nat) (x:dR),S.t.p_[k]?=some x/\x.is=1/\l[i]=gj x.gen k/\x.u_=A i:=fun i hi=>(key i).choose_spec hi;have hd:∀m,m<l.length*n->m / n<l.length/\m % n<n:=fun m hm=>⟨(Nat.div_lt_iff_lt_mul h0).2 hm,Nat.mod_lt _ h0⟩;have ai:((List.range (l.length*n)).map fun m=>A (m / n)+m % n).Nodup:=by
  refine vV (fun x hx y hy he=>?_) List.nodup_range;obtain⟨x1,x2⟩:=hd x (bz.1 hx);obtain⟨y1,y2⟩:=hd y (bz.1 hy);obtain⟨r,p1,q1,k1,s1,a1,b1,c1,d1⟩:=hA _ x1;obtain⟨r',p2,q2,k2,s2,a2,b2,c2,d2⟩:=hA _ y1;have hq:x / n=y / n:=by
   rcases eO.apart hf.own p1 p2 with g | g | g
   ·have e:k1=k2:=hf.inj k1 k2 s1 s2 a1 a2 b1 b2 (by rw[d1,d2];exact g.1);subst e;rw[a1] at a2
    injection a2 with a2
    subst a2;have ad:=c1.T c2.S;have hp:=bW.1 hn
    rcases Nat.lt_trichotomy (x / n) (y / n) with q | q | q
    ·exact absurd ad (hp _ _ x1 y1 q)
    ·exact q
    ·exact absurd ad.S (hp _ _ y1 x1 q)
   ·omega
   ·omega
  rw[hq] at he;rw[<-Nat.div_add_mod x n,<-Nat.div_add_mod y n,hq];omega
 have an:∀y∈(List.range (l.length*n)).map (fun m=>A (m / n)+m % n),y∈S.a.i_.flatMap fun p=>(List.range 64).map fun j=>64*p+j:=by
  intro y hy;obtain⟨m,hm,rfl⟩:=az.1 hy;obtain⟨m1,m2⟩:=hd m (bz.1 hm);obtain⟨r,p1,q1,_⟩:=hA _ m1;have hp:=(p1.ok hf.own (b:=m % n) o_).2.2;exact List.mem_flatMap.2 ⟨(A (m / n)+m % n) / 64,hp,az.2 ⟨(A (m / n)+m % n) % 64,bz.2 o_,o_⟩⟩
 have:=Dk ai an;rw[ak,List.length_range,List.length_flatMap] at this;have e:(S.a.i_.map fun p=>((List.range 64).map fun j=>64*p+j).length)=S.a.i_.map fun _=>64:=by
  refine aY fun p _=>?_
  simp
 have hs:∀k:Nat,(List.replicate k 64).sum=64*k:=fun k=>by
  induction k with
  | zero=>rfl
  | succ k ih=>rw[List.replicate_succ,List.sum_cons,ih];omega
 rw[e,List.map_const',hs,i8] at this;exact this