/- Trees of any face: none, Len, Rank, At, Get: the walks. -/
import Derived.Test.YtpljannolpapgaaGreatDoorRBj
import Derived.Test.YtpljannolpapgaaGreatDoorROa
set_option maxRecDepth 100000
set_option maxHeartbeats 6400000
namespace Go.Proofs.YtpljannolpapgaaGreatDoor
section
open Go.RowKit Tryz Go.BigFrame Go.Maps Go.WideMaps Lf
variable{kv:Value}{ty:TypeId}{w:World}
def FF(w:World)(px ps:Nat)(ty:TypeId)(kv:Value)(l_ td f9:Nat):Prop:=w.1[px]?=some (.cells #[PV ps,Xi l_,Xi td,.iface ty kv,Xu f9] 100)
theorem FF.a_{w w':World}{px ps l_ td f9:Nat}(h:FF w px ps ty kv l_ td f9)(hb:D_ w w'):FF w' px ps ty kv l_ td f9:=(hb.block px (gl h)).T h
theorem FF.w_{w w':World}{px ps l_ td f9:Nat}{Y:Nat->Prop}(h:FF w px ps ty kv l_ td f9)(hk:Fo Y w w')(hy:Y px):FF w' px ps ty kv l_ td f9:=(hk.block px hy).T h
theorem kw{px ps l_ td f9:Nat}(hT:FF w px ps ty kv l_ td f9):
 Ct 48 #[PV px] w fun e w'=>e=.returned (.bool false)/\w=w':=by
 unfold FF at hT;obtain⟨c0,c1,c2,c3,c4⟩:=ld hT;clear hT;go_enter func48,ntmps48;go_wp2_with fail;go_ret;exact⟨rfl,rfl⟩
theorem kN(px ps:Nat)(ty:TypeId)(kv:Value)(l_ td f9:Nat):∃I:World->Prop,(∀w',I w'->FF w' px ps ty kv l_ td f9)/\(∀w',FF w' px ps ty kv l_ td f9->I w'):=⟨fun w'=>FF w' px ps ty kv l_ td f9,fun _ h=>h,fun _ a=>a⟩
theorem IQ{pm px ps A_:Nat}(hM:Ic w pm px ps A_):
 Ct 70 #[PV pm] w fun e w'=>e=.returned (PV ps)/\w=w':=by
 have HG:=If (ki hM);unfold Ic at hM;obtain⟨c0,c1,c2⟩:=fq hM;clear hM;go_enter func70,ntmps70;go_wp2_with fail;refine Jc HG.O ?_;go_wp2_with fail;go_ret;exact⟨rfl,rfl⟩
theorem Ik{pm px ps A_:Nat}(hM:Ic w pm px ps A_):
 Ct 27 #[PV pm] w fun e w'=>e=.returned (Xi A_)/\w=w':=by
 have HG:=If (ki hM);unfold Ic at hM;obtain⟨c0,c1,c2⟩:=fq hM;clear hM;go_enter func27,ntmps27;go_wp2_with fail;refine Jc HG.O ?_;go_wp2_with fail;go_ret;exact⟨rfl,rfl⟩
end
section
open Go.RowKit Tryz Go.BigFrame Go.Maps Go.WideMaps Lf Tr
variable{kv:Value}{ty:TypeId}{w:World}
theorem KU{px ps l_ td f9:Nat}(hT:FF w px ps ty kv l_ td f9):
 Ct 41 #[PV px] w fun e w'=>e=.returned (Xu f9)/\w=w':=by
 have HG:=If (kw hT);unfold FF at hT;obtain⟨c0,c1,c2,c3,c4⟩:=ld hT;clear hT;go_enter func41,ntmps41;go_wp2_with fail;refine Jc HG.O ?_;go_wp2_with fail;go_ret;exact⟨rfl,rfl⟩
theorem KR{px ps l_ td f9:Nat}(hT:FF w px ps ty kv l_ td f9):
 Cb 73 #[PV px] w (.tuple #[Xi l_,Xi td]):=by
 have HG:=If (kw hT);unfold FF at hT;obtain⟨c0,c1,c2,c3,c4⟩:=ld hT;clear hT;go_enter func73,ntmps73;go_wp2_with fail;refine Jc HG.O ?_;go_wp2_with fail
 go_region
 go_wp2_with fail;go_ret2;exact⟨rfl,(aa _ _).drew⟩
def wl(l:List (It×Nd)):List Nat:=l.flatMap fun x=>[x.1.h,x.2.key,x.2.val]
theorem No(l:List (It×Nd)):(wl l).length=3*l.length:=by
 unfold wl
 induction l with
 | nil=>rfl
 | cons x r ih=>rw[co,ag,ih];simp;omega
theorem L9{B:Nat}{v:Value}{l:List Nat}(h:FE w B v l)(hl:l.length<=10000)(x y z:Nat)(hB:B<=w.1.size)(ty:TypeId):
 ∃v' w',(Builtin.append_ #[59,59] ty #[v,.slice (some (y_ w.1.size)) 3 3]).run prog (w.alloc (.cells #[Xu x,Xu y,Xu z] 61))=.ok v' w'/\FE w' B v' (l++[x,y,z])/\w.grownBy w' v.ownBlock/\(v'.ownBlock=v.ownBlock\/∃g,v'.ownBlock=some g/\w.1.size<=g):=by
 obtain⟨v',w',h1,h2,h3,h4⟩:=Ky (xs:=[x,y,z]) (w:=w.alloc (.cells #[Xu x,Xu y,Xu z] 61)) (h.alloc _) m_ (y_ w.1.size) 3 (fun j u hu=>by
  have hn:=World.alloc_heap_new w (.cells #[Xu x,Xu y,Xu z] 61);rw[Addr.add_lit,bz,q_ hn]
  rcases j with _ | _ | _ | j
  ·exact hu
  ·exact hu
  ·exact hu
  ·simp[hV] at hu) m_ ty
 exact⟨v',w',h1,h2,(World.grownBy_alloc w _ _).T h3,h4.imp id fun⟨g,e,hg⟩=>⟨g,e,by simp at hg;omega⟩⟩
theorem LN{pm px ps lim l_ td:Nat}{S:St}{o:Nat->Nat}{Y:Nat->Prop}{t:Tr}(h:Ig w ps S Y)(hf:Fw S o)(hM:Ic w pm px ps lim)(hT:FF w px ps ty kv l_ td t.f9)(hk:l_=1\/l_=2)(ha:Tr.At S t)(hN:t.h_.length<A_ S)(hN2:t.h_.length<=1000):
 Ct 36 #[PV pm] w fun e w'=>∃v,e=.returned v/\FE w' w.1.size v (wl t.h_)/\D_ w w':=by
 have ba:¬((l_:Int)=3):=o_
 have HR:=kq7 h hf hM hT ha hN hN2;clear h hf hM hT ha hN hN2 hk;go_enter func36,ntmps36;go_wp2_with fail;refine Jc (IQ HR.c) ?_;go_wp2_with fail;refine Jc (Gh HR.c) ?_;go_wp2_with fail;refine Jc (KU HR.d) ?_;go_wp2_with fail;refine Jc (Gh HR.c) ?_;go_wp2_with fail;refine dR (KR HR.d) fun w1 hb1=>?_;have H1:=If hb1;clear hb1;go_wp2_with fail;refine(Kr (HR.a.a_ H1.O) HR.b HR.e HR.f HR.g).M ?_;rintro e w2 ⟨v0,rfl,an,ai⟩;obtain⟨A0,c0,rfl⟩:=an.E_;have HV:=kq2 an (b_ H1.O ai);have HS:=kq2 H1.O.size ai.size;clear an ai H1;generalize hn:t.hs.length=n at*;have HN:=If hn;clear hn;have bb:n<=1000:=by rw[<-HN.O,<-nodes_h,am];exact HR.g
 go_wp2_with fail
 go_loopw [7,11,12,13,55] (fun s7 _ _ _ s55 wr=>∃j:Nat,j<=n/\s55=Xi j/\Hid (FE wr w2.1.size s7 (wl (t.h_.take j))/\D_ w2 wr)) (fun _ _ _ _ s55 _=>n-(intOf s55).toNat)
 case atStart=>exact⟨0,o_,rfl,World.ownsRow_nil _ _ _ _,aa _ _⟩
 case round=>
  obtain⟨j,a',rfl,I⟩:=hrel
  by_cases hlt:j<n
  ·have a6:(j:Int)<n:=o_
   have ap:D_ w wr:=b_ HV.b I.O.2;have au:j<t.h_.length:=by rw[<-am (f:=fun x:It×Nd=>x.1.h),nodes_h,HN.O];exact hlt
   have a3:FE wr (w1.1.size+3) (.slice A0 n c0) t.hs:=HV.a.at fun g e=>I.O.2.block g (HV.a.ge g e).2;obtain⟨b,c,e,hb,hc⟩:=a3.cell_at (j:=j) (by rw[HN.O];exact hlt)
   injection e with e1 e2 e3
   subst e1;obtain⟨x,hx⟩:=Ii t.h_[j];have a4:t.hs[j]'(by rw[HN.O];exact hlt)=x.1.h:=by
    rw[<-hx];have:t.hs=t.h_.map (·.1.h):=(nodes_h t).S;simp only[this,bG]
   rw[a4] at hc;obtain⟨l',m',r',x1,x2,_⟩:=nodes_at HR.e x (by rw[<-hx];exact ao _);have a5:i_ S x.1.h=some (eM x.2):=by rw[x1];exact x2.1
   have a2:=J6 (HR.a.a_ ap) HR.b a5;have ar:wl (t.h_.take (j+1))=wl (t.h_.take j)++[x.1.h,x.2.key,x.2.val]:=by
    rw[aw au,hx];unfold wl
    simp
   have a0:(wl (t.h_.take j)).length<=10000:=by rw[No,aK];omega
   have HM:=kq5 a2 ar a0 I.O.1 I.O.2;clear a2 ar a0 ap a3 hb e2 e3 I hx a4 a5 x1 x2 au;generalize x.1.h=xh at*;generalize bc:x.2=xn at*;obtain⟨n1,n2,n3,n4,n5,n6⟩:=xn;unfold eS at HM;simp only at HM;go_wp2_with fail;refine dR HM.a fun w3 hb3=>?_;have q3:(w3.alloc (Xb n1 n2 n3 n4 n5 n6)).1[w3.1.size]?=some (Xb n1 n2 n3 n4 n5 n6):=World.alloc_heap_new _ _;have B4:D_ w2 (w3.alloc (Xb n1 n2 n3 n4 n5 n6)):=(b_ HM.e hb3).alloc (aH HM.e.size hb3.size) _;have O4:FE (w3.alloc (Xb n1 n2 n3 n4 n5 n6)) w2.1.size u7 (wl (t.h_.take j)):=(HM.d.at fun g e=>hb3.block g (HM.d.ge g e).2).alloc _;generalize a9:w3.alloc (Xb n1 n2 n3 n4 n5 n6)=W4 at*;obtain⟨k0,k1,k2,k3,k4,k5⟩:=ia q3;obtain⟨v2,w5,a7,a1,ad,a8⟩:=L9 O4 HM.c xh n1 n2 B4.size 59;have HE:Hid (FE w5 w2.1.size v2 (wl (t.h_.take (j+1)))/\D_ w2 w5):=⟨by rw[HM.b];exact a1,B4.T ⟨ad.os,ad.tape,ad.output,ad.size,fun k hk=>ad.block k (aB hk B4.size) fun e=>by
    have:=(O4.ge k e.S).1;omega⟩⟩
   clear a1 ad a8 q3 B4 O4 hb3
   go_wp2_with (at_builtin;refine Lib.wpList_append_run _ rfl _ _ _ _ rfl _ _ rfl rfl _ _ a7 ?_)
   go_roundw
   case rel=>exact⟨j+1,o_,s_,HE⟩
   case measure=>simp[intOf];omega
  ·obtain rfl:j=n:=o_
   have a6:¬(j:Int)<j:=o_
   go_wp2_with fail;go_ret;have hs:=HV.b.size;refine⟨_,rfl,?_,HV.b.T (I.O.2.M hs)⟩;have e:t.h_.take j=t.h_:=by
    rw[aQ];rw[<-am (f:=fun x:It×Nd=>x.1.h),nodes_h,HN.O];exact Nat.le_refl _
   rw[e] at I;exact FE.base2 I.O.1 hs
end
section
open Go.RowKit Tryz Go.BigFrame Go.Maps Go.WideMaps Lf
variable{S:St}{Y:Nat->Prop}{kv:Value}{p:Nat×Nat}{ty:TypeId}{w:World}
def Lf.treeRepM(jn:Jn)(S:St)(f9:Nat)(a b:List UInt8):Option ((Nat×Nat×Nat)×St):=
 match itemsM S a b with
 | none=>none
 | some (p,S1)=>binRepM jn S1 f9 p.1 p.2
structure jC (w W:World) (px ps:Nat) (ty:TypeId) (kv:Value) (l_ td f9:Nat) (a b:List UInt8) (S:St) (Y:Nat->Prop) (q0 q1:Value):Prop where
 t:FF W px ps ty kv l_ td f9
 y:W.1[w.1.size]?=some (Xn a b)
 q:W.1[w.1.size+1]?=some (.cells #[q0,q1] 104)
 st:Ig W ps S (fun k=>Y k\/(w.1.size<=k/\k<w.1.size+2))
 k:Fo Y w W
theorem jC.drew{w W:World}{px ps l_ td f9:Nat}{a b:List UInt8}{q0 q1:Value}(h:jC w W px ps ty kv l_ td f9 a b S Y q0 q1):jC w W.drew px ps ty kv l_ td f9 a b S Y q0 q1:=
 ⟨h.t,h.y,h.q,h.st.a_ (aa _ _).drew,h.k.T (Fo.drewN Y W 1)⟩
theorem jC.call{w W W':World}{px ps l_ td f9:Nat}{a b:List UInt8}{S S':St}{q0 q1:Value}(h:jC w W px ps ty kv l_ td f9 a b S Y q0 q1)(hpx:Y px)(hs:Ig W' ps S' (fun k=>Y k\/(w.1.size<=k/\k<w.1.size+2)))(hk:Fo (fun k=>Y k\/(w.1.size<=k/\k<w.1.size+2)) W W'):jC w W' px ps ty kv l_ td f9 a b S' Y q0 q1:=
 ⟨h.t.w_ hk (ab hpx),(hk.block _ (ae ⟨o_,o_⟩)).T h.y,(hk.block _ (ae ⟨o_,o_⟩)).T h.q,hs,h.k.T (hk.M fun _ hk=>ab hk)⟩
theorem jC.write{w W W':World}{px ps l_ td f9:Nat}{a b:List UInt8}{q0 q1 r0 r1:Value}(h:jC w W px ps ty kv l_ td f9 a b S Y q0 q1)(hpx:Y px)(hY:∀k,Y k->k<w.1.size)(hz:W'.1.size=W.1.size)(ho:W'.os=W.os/\W'.tape=W.tape/\W'.output=W.output)(hw:∀k,k≠w.1.size+1->W'.1[k]?=W.1[k]?)(hq:W'.1[w.1.size+1]?=some (.cells #[r0,r1] 104)):jC w W' px ps ty kv l_ td f9 a b S Y r0 r1:=by
 have h1:=hY px hpx;refine⟨(hw px o_).T h.t,(hw _ o_).T h.y,hq,h.st.write (ae ⟨o_,o_⟩) h.q ⟨d_,d_⟩ s_ o_ fun k _ hk=>hw k hk,?_⟩;refine h.k.T ⟨ho.1,ho.2.1,ho.2.2,o_,fun k hk=>hw k ?_⟩;have:=hY k hk;omega
theorem ER{px ps l_ td f9:Nat}{S S':St}(h:Ig w ps S Y)(hi:Fv S)(hT:FF w px ps ty kv l_ td f9)(hpx:Y px)(a b:List UInt8)(hm:nJ S a b)(hp:itemsM S a b=some (p,S')):
 Ct 83 #[PV px,eu (a,b)] w fun e w'=>e=.returned (.tuple #[Id p.1 p.2,Xi 0])/\Ig w' ps S' Y/\Fo Y w w'/\Fv S'/\p.1<2^64/\p.2<2^64:=by
 obtain⟨e1,e2,e3⟩:=BI hp;have a2:=wu hm.2.2.1 hi;have a3:=wu hm.2.2.2 a2;have l1:=wv h.tabwf a;have a0:=fun W Z (hW:Ig W ps S Z)=>tP hW hi a hm.1 hm.2.2.1;have au:=fun W Z (hW:Ig W ps (fx S a).2 Z)=>And.intro (tP hW a2 b hm.2.1 hm.2.2.2) (wv hW.tabwf b);rw[e1] at a0 l1;rw[e2] at au;rw[<-e3] at a3 au;generalize (fx S a).2=S1 at*;obtain⟨p1,p2⟩:=p;simp only[eu,Id] at a0 au l1⊢;have B1:=c_ w (Xn a b);have y1:=heap_alloc_new w (Xn a b);have z1:(w.alloc (Xn a b)).1.size=w.1.size+1:=s_
 generalize a9:w.alloc (Xn a b)=w1 at*;have A2:=c_ w1 (.cells #[Xu 0,Xu 0] 104);have B2:=b_ B1 A2;have y2:=(A2.block w.1.size o_).T y1;have q2:=heap_alloc_new w1 (.cells #[Xu 0,Xu 0] 104);have z2:(w1.alloc (.cells #[Xu 0,Xu 0] 104)).1.size=w.1.size+2:=by simp[z1]
 rw[z1] at q2;subst a9;have hY:=h.yl;have hA:jC w ((w.alloc (Xn a b)).alloc (.cells #[Xu 0,Xu 0] 104)) px ps ty kv l_ td f9 a b S Y (Xu 0) (Xu 0):=⟨hT.a_ B2,y2,q2,by have:=h.wide B2;rwa[z2] at this,Fo.v_ B2 hY⟩;have HG:=kq4 a0 au hpx hY;have HL:=kq2 a3 l1;have HA:=If hA;clear a0 au hA B1 B2 y1 y2 q2 A2 z1 z2 hY h hi a2 a3 l1 hm hp e1 e2 e3 hT;go_enter func83,ntmps83;go_wp2_with fail;generalize ((w.alloc (Xn a b)).alloc (.cells #[Xu 0,Xu 0] 104))=W0 at*;obtain⟨I,a1,a5⟩:=lB (fun w'=>FF w' px ps ty kv l_ td f9) (fun w'=>w'.1[w.1.size]?=some (Xn a b));have a4:=fun x:Fq I=>(a1 _ x.ok).1;have a7:=fun x:Fq I=>(a1 _ x.ok).2;simp only[FF] at a4;obtain⟨m0,m1,m2,m3,m4⟩:=iK a4;obtain⟨n0,n1⟩:=mt a7;have HI:=If a5;clear a1 a5 a4 a7;have ar:I W0.drew:=HI.O _ HA.O.drew.t HA.O.drew.y;refine fh I (.take 0 (.take 1 (.take 2 (.take 3 (.take 4 (.take 5 (.go 6 (.take 7 (.take 8 (.take 9 (.take 10 (.go 11 (.go 12 .nil))))))))))))) k_ k_ ar ?_;clear ar
 iterate 6
  refine pT_ ?_
  try simp only[pu]
 refine pD fun K hK=>?_;go_simp;refine(HG.a _ _ HA.O.drew.st).M ?_;rintro e w3 ⟨rfl,h3,k3⟩;have an:=If (HA.O.drew.call HG.c h3 k3);clear h3 k3;have q:=an.O.q;obtain⟨c0,c1⟩:=Fp q;obtain⟨f0,f1⟩:=ef q;clear q
 try go_simp
 refine hK.O _ _ (HI.O _ an.O.t an.O.y) ?_;clear hK K
 try simp only[pu]
 iterate 4
  refine pT_ ?_
  try simp only[pu]
 refine pD fun K hK=>?_;go_simp;have ad:=If (an.O.write (W':=w3.setCell (y_ (w.1.size+1)) (Xu p1)) HG.c HG.d s_ ⟨rfl,rfl,rfl⟩ (fun k hk=>FB hk) (heap_setCell an.O.q));clear c0 c1 f0 f1;generalize w3.setCell (y_ (w.1.size+1)) (Xu p1)=w4 at*
 try go_simp
 refine hK.O _ _ (HI.O _ ad.O.t ad.O.y) ?_;clear hK K
 try simp only[pu]
 refine pD fun K hK=>?_;go_simp
 try go_simp
 refine hK.O _ _ (HI.O _ ad.O.t ad.O.y) ?_;clear hK K
 try simp only[pu]
 refine eP ?_;go_wp2_with fail;have ar:I w4.drew:=HI.O _ ad.O.drew.t ad.O.drew.y;refine fh I (.take 0 (.take 1 (.take 2 (.take 3 (.take 4 (.take 5 (.go 6 (.take 7 (.take 8 (.take 9 (.take 10 (.go 11 (.go 12 .nil))))))))))))) k_ k_ ar ?_;clear ar
 iterate 6
  refine pT_ ?_
  try simp only[pu]
 refine pD fun K hK=>?_;go_simp;obtain⟨a6,l2⟩:=HG.b _ _ ad.O.drew.st;refine a6.M ?_;rintro e w5 ⟨rfl,h3,k3⟩;have ap:=If (ad.O.drew.call HG.c h3 k3);have a8:=If l2;clear h3 k3 a6 l2;have q:=ap.O.q;obtain⟨c0,c1⟩:=Fp q;obtain⟨f0,f1⟩:=ef q;clear q
 try go_simp
 refine hK.O _ _ (HI.O _ ap.O.t ap.O.y) ?_;clear hK K
 try simp only[pu]
 iterate 4
  refine pT_ ?_
  try simp only[pu]
 refine pD fun K hK=>?_;go_simp;have ai:=If (ap.O.write (W':=w5.setCell (x_ (w.1.size+1) 1) (Xu p2)) HG.c HG.d s_ ⟨rfl,rfl,rfl⟩ (fun k hk=>FB hk) (heap_setCell ap.O.q));clear c0 c1 f0 f1;generalize w5.setCell (x_ (w.1.size+1) 1) (Xu p2)=w6 at*
 try go_simp
 refine hK.O _ _ (HI.O _ ai.O.t ai.O.y) ?_;clear hK K
 try simp only[pu]
 refine pD fun K hK=>?_;go_simp
 try go_simp
 refine hK.O _ _ (HI.O _ ai.O.t ai.O.y) ?_;clear hK K
 try simp only[pu]
 refine eP ?_;have q:=ai.O.q;obtain⟨c0,c1⟩:=Fp q;obtain⟨f0,f1⟩:=ef q;have HF:=If (ai.O.write (W':=((w6.setCell (y_ (w.1.size+1)) (Xu p1)).setCell (x_ (w.1.size+1) 1) (Xu p2))) HG.c HG.d s_ ⟨rfl,rfl,rfl⟩ (fun k hk=>fA hk _ _) (ew q _ _));clear q;go_wp2_with fail;generalize ((w6.setCell (y_ (w.1.size+1)) (Xu p1)).setCell (x_ (w.1.size+1) 1) (Xu p2))=w7 at*;have q:=HF.O.q;obtain⟨e0,e1⟩:=Fp q;exact bodyPost_ret (v:=.tuple #[.agg #[Xu p1,Xu p2],Xi 0]) (by simp[results,f83,go_sem,e0,e1]) rfl ⟨rfl,HF.O.st.M fun k hk=>ab hk,HF.O.k,HL.a,HL.b,a8.O⟩
theorem xL{px ps l_ td f9:Nat}(h:Ig w ps S Y)(hi:Fv S)(hT:FF w px ps ty kv l_ td f9)(hpx:Y px)(k v:Nat)(hk:k<2^64)(hv:v<2^64)(hg:(fz S v).2≠8)(hi1:Fv (S.drop k).2):
 Ct 84 #[PV px,Id k v,.bool true] w fun e w'=>e=.returned (SV (fz S v).1)/\Ig w' ps ((S.drop k).2.drop v).2 Y/\Fo Y w w':=by
 have B1:=c_ w (Xe k v);have q1:=heap_alloc_new w (Xe k v);have S1:=h.wide B1;have T1:=hT.a_ B1;have a4:=h.yl;have sw:(w.alloc (Xe k v)).1.size=w.1.size+1:=s_
 rw[sw] at S1;have au:=fun W Z (hW:Ig W ps S Z)=>iz hW hi v hv hg;have a0:=fun W Z (hW:Ig W ps S Z)=>sE hW hi k hk;have a1:=fun W Z (hW:Ig W ps (S.drop k).2 Z)=>sE hW hi1 v hv;simp only[Id];generalize (fz S v).1=t at*;generalize (fz S v).2=er at*;generalize (S.drop k).1=e1 at*;generalize (S.drop k).2=S2 at*;generalize (S2.drop v).1=e2 at*;generalize (S2.drop v).2=S3 at*;have HG:=kq4 au a0 a1 (Fo.v_ B1 a4);clear au a0 a1 h hi hi1 hg;go_enter func84,ntmps84;go_wp2_with fail;generalize w.alloc (Xe k v)=W at*;obtain⟨I,ad,ai⟩:=lB (fun w'=>FF w' px ps ty kv l_ td f9) (fun w'=>w'.1[w.1.size]?=some (Xe k v));have an:=fun x:Fq I=>(ad _ x.ok).1;have a2:=fun x:Fq I=>(ad _ x.ok).2;simp only[FF] at an;obtain⟨m0,m1,m2,m3,m4⟩:=iK an;obtain⟨n0,n1⟩:=mt a2;have a3:I W.drew:=ai _ T1 q1;have HI:=If ai;have HW:=kq3 S1 T1 q1;clear S1 T1 q1 B1 ad ai an a2;refine fh I (.take 0 (.take 1 (.take 2 (.take 3 (.take 4 (.take 5 (.go 6 (.take 7 (.take 8 (.take 9 (.take 10 (.take 11 .nil)))))))))))) k_ k_ a3 ?_
 iterate 6
  refine pT_ ?_
  try simp only[pu]
 refine pD fun K hK=>?_;go_simp;refine dR (HG.a _ _ (HW.a.drewN 1)) fun w2 hb2=>?_;have T2:FF w2 px ps ty kv l_ td f9:=FF.a_ (w:=W.drew) HW.b hb2;have q2:w2.1[w.1.size]?=_:=(hb2.block w.1.size (gl HW.c)).T HW.c;have s2:=(HW.a.drewN 1).a_ hb2;have k2:Fo Y W w2:=(Fo.drewN Y W 1).T ((HW.a.drewN 1).w_ hb2 |>.M fun k hk=>ab hk);have H2:=kq4 s2 T2 q2 (HG.d.T k2);clear s2 T2 q2 hb2 k2
 try go_simp
 refine hK.O _ _ (HI.O _ H2.b H2.c) ?_;clear hK K
 try simp only[pu]
 iterate 5
  refine pT_ ?_
  try simp only[pu]
 refine eP ?_;go_wp2_with fail;have ap:I w2.drew:=HI.O _ H2.b H2.c;refine fh I (.take 0 (.take 1 (.take 2 (.take 3 (.take 4 (.take 5 (.go 6 .nil))))))) k_ k_ ap ?_
 iterate 6
  refine pT_ ?_
  try simp only[pu]
 refine pD fun K hK=>?_;go_simp;refine(HG.b _ _ (H2.a.drewN 1)).M ?_;rintro e w3 ⟨rfl,s3,k3⟩;have T3:FF w3 px ps ty kv l_ td f9:=FF.w_ (w:=w2.drew) H2.b k3 (ab hpx);have q3:=(k3.block w.1.size (ae ⟨Nat.le_refl _,aZ _⟩)).T H2.c;have H3:=kq4 s3 T3 q3 (H2.d.T ((Fo.drewN Y w2 1).T (k3.M fun k hk=>ab hk)));clear s3 T3 q3 k3 ap
 try go_simp
 refine hK.O _ _ (HI.O _ H3.b H3.c) ?_;clear hK K
 try simp only[pu]
 refine eP ?_;go_wp2_with fail;have ar:I w3.drew:=HI.O _ H3.b H3.c;refine fh I (.take 0 (.take 1 (.take 2 (.take 3 (.take 4 (.take 5 (.go 6 .nil))))))) k_ k_ ar ?_
 iterate 6
  refine pT_ ?_
  try simp only[pu]
 refine pD fun K hK=>?_;go_simp;refine(HG.c _ _ (H3.a.drewN 1)).M ?_;rintro e w4 ⟨rfl,s4,k4⟩;have T4:FF w4 px ps ty kv l_ td f9:=FF.w_ (w:=w3.drew) H3.b k4 (ab hpx);have q4:=(k4.block w.1.size (ae ⟨Nat.le_refl _,aZ _⟩)).T H3.c;have H4:=kq2 (s4.M (Z:=Y) fun k hk=>ab hk) (H3.d.T ((Fo.drewN Y w3 1).T (k4.M fun k hk=>ab hk)))
 try go_simp
 refine hK.O _ _ (HI.O _ T4 q4) ?_;clear hK K
 try simp only[pu]
 clear s4 k4 ar T4 q4;refine eP ?_;go_wp2_with fail;go_ret;exact⟨rfl,H4.O⟩
structure KX (w W:World) (px ps:Nat) (ty:TypeId) (kv:Value) (l_ td f9:Nat) (S:St) (Y:Nat->Prop) (b9 ik iv:Nat):Prop where
 t:FF W px ps ty kv l_ td f9
 st:Ig W ps S Y
 k:Fo Y w W
 q:W.1[b9]?=some (Xe ik iv)
 l:w.1.size<=b9
theorem ny{px ps l_ td f9:Nat}(h:Ig w ps S Y)(hi:Fv S)(hT:FF w px ps ty kv l_ td f9)(hpx:Y px)(a b:List UInt8)(hm:nJ S a b){S1:St}(hp:itemsM S a b=some (p,S1))(was:Bool)(tv:List UInt8){R:Nat->Nat->Nat->St->Prop}{R2:Nat->St->Prop}{fm:FuncId}(hme:∀(f:Nat) (v:Value) (w:World),(method (f+1) ty v "loft/backend.insert").run prog w=.ok (fm,v) w)(hen:∀(args:Array Value) (w:World),(callFunc fm args).run prog w=.ok (.enter fm args) w)(hin:∀W Z,Ig W ps S1 Z->p.1<2^64->p.2<2^64->Ct fm #[kv,Xu f9,Id p.1 p.2] W fun e w'=>∃(x ik iv:Nat) (S':St),e=.returned (.tuple #[Xu x,Id ik iv,.bool was,Xi 0])/\Ig w' ps S' Z/\Fo Z W w'/\R x ik iv S')(hgo:∀x ik iv S',R x ik iv S'->∀W Z,Ig W ps S' Z->FF W px ps ty kv l_ td x->Z px->Ct 84 #[PV px,Id ik iv,.bool was] W fun e w'=>∃S3,e=.returned (SV tv)/\Ig w' ps S3 Z/\Fo Z W w'/\R2 x S3):
 Ct 43 #[PV px,eu (a,b)] w fun e w'=>∃(x:Nat) (S3:St),e=.returned (.tuple #[SV tv,.bool was,Xi 0])/\Ig w' ps S3 Y/\Fo (fun k=>Y k/\k≠px) w w'/\FF w' px ps ty kv l_ td x/\R2 x S3:=by
 have a8:(1000<(a.length:Int))=False:=eq_false (by have:=hm.1;omega);have a9:(1000<(b.length:Int))=False:=eq_false (by have:=hm.2.1;omega);have B0:=c_ w (Xn a b);have hn:=kw (hT.a_ B0);have ap:=ER (h.a_ B0) hi (hT.a_ B0) hpx a b hm hp;have hY:=h.yl;have a2:=hT.a_ B0;have a1:=Fo.v_ B0 hY;obtain⟨p1,p2⟩:=p;simp only[eu,Id] at ap hin hgo⊢;have HG:=kq8 hn ap hin hgo hpx hY a2 a1;clear hn ap hin hgo B0 h hi hT hm hp hY a2 a1;go_enter func43,ntmps43;go_wp2_with fail;refine Jc HG.a ?_;go_wp2_with fail;refine HG.b.M ?_;rintro e w1 ⟨rfl,s1,k1,i1,l1,l2⟩;have A2:=c_ w1 (Xe p1 p2);have q2:=heap_alloc_new w1 (Xe p1 p2);have s2:=s1.wide A2;have z2:(w1.alloc (Xe p1 p2)).1.size=w1.1.size+1:=s_
 have K2:=HG.h.T (k1.T (s1.w_ A2));have T2:FF (w1.alloc (Xe p1 p2)) px ps ty kv l_ td f9:=HG.g.w_ (k1.T (s1.w_ A2)) HG.e;have ins:=fun W Z hW=>HG.c W Z hW l1 l2;have a5:w.1.size<=w1.1.size:=by have:=(HG.h.T k1).size;exact this
 rw[z2] at s2;clear s1 k1 i1 A2;go_wp2_with fail;generalize a7:w1.alloc (Xe p1 p2)=w2 at*;generalize a6:w1.1.size=b7 at*;clear a7 a6 w1;have H2:=kq7 T2 s2 K2 q2 ins a5 z2;obtain⟨I,ai,an⟩:=lB (fun w'=>FF w' px ps ty kv l_ td f9) (fun w'=>w'.1[b7]?=some (Xe p1 p2));have ar:=fun x:Fq I=>(ai _ x.ok).1;have a4:=fun x:Fq I=>(ai _ x.ok).2;simp only[FF] at ar;obtain⟨m0,m1,m2,m3,m4⟩:=iK ar;obtain⟨n0,n1⟩:=mt a4;have a0:I w2.drew:=an _ T2 q2;have HI:=If an;clear ai an ar a4 T2 s2 K2 q2 ins a5 z2;refine fh I (.take 0 (.take 1 (.take 2 (.take 3 (.take 4 (.take 5 (.take 6 (.take 7 (.take 8 (.take 9 (.take 10 (.two 11 17 (.take 12 (.take 13 (.take 14 (.take 15 (.take 16 (.go 17 (.go 18 (.go 19 (.go 20 (.go 21 .nil)))))))))) (.go 11 (.take 12 (.take 13 (.take 14 (.take 15 (.take 16 (.go 18 (.go 19 (.go 20 (.go 21 .nil)))))))))))))))))))))) k_ k_ a0 ?_;clear a0
 iterate 11
  refine pT_ ?_
  try simp only[pu]
 refine gL ?h1 ?h2
 case' h1=>
  refine pD fun K hK=>?_;go_simp;refine(H2.e _ _ (H2.b.a_ (aa _ _).drew)).M ?_;rintro e w3 ⟨x,ik,iv,S',rfl,s3,k3,i3⟩;have T3:=FF.w_ (w:=w2.drew) H2.a k3 (ab HG.e);have q3:w3.1[b7]?=some (Xe p1 p2):=(k3.block b7 (ae ⟨Nat.le_refl _,aZ _⟩)).T H2.d;have H3:=kq5 T3 q3 s3 (k3.M (Z:=Y) fun k hk=>ab hk) i3;clear T3 q3 s3 k3 i3
  try go_simp
  refine hK.O _ _ (HI.O _ H3.a H3.b) ?_;clear hK K
  try simp only[pu]
  iterate 5
   refine pT_ ?_
   try simp only[pu]
  refine pD fun K hK=>?_;go_simp;have A4:=c_ w3 (.cells #[Xu 0,Xu 0] 104);have TA:=H3.a.a_ A4;have q4:=(A4.block b7 (gl H3.b)).T H3.b;have sA:=((H3.c.M (Z:=Y) fun k hk=>ab hk).wide A4).M (Z:=fun k=>Y k\/k=w3.1.size) (fun k hk=>hk.imp id fun e=>⟨o_,m_⟩);have kA:=(H2.c.T (Fo.drewN Y w2 1)).T (H3.d.T ((H3.c.M (Z:=Y) fun k hk=>ab hk).w_ A4));have qA:=heap_alloc_new w3 (.cells #[Xu 0,Xu 0] 104);have lA:w.1.size<=w3.1.size:=((H2.c.T (Fo.drewN Y w2 1)).T H3.d).size;have iA:=H3.e;have nb:b7≠w3.1.size:=Nat.ne_of_lt (gl H3.b);clear A4 H3;generalize w3.alloc (.cells #[Xu 0,Xu 0] 104)=W at*;generalize w3.1.size=b9 at*
  try go_simp
  refine hK.O _ _ (HI.O _ TA q4) ?_;clear hK K
  try simp only[pu]
  refine pD fun K hK=>?_;go_simp
  try go_simp
  refine hK.O _ _ (HI.O _ TA q4) ?_;clear hK K
  try simp only[pu]
  obtain⟨c0,c1⟩:=Fp qA;obtain⟨f0,f1⟩:=ef qA;have HA:=kq6 TA sA kA qA lA iA;clear TA sA kA qA lA iA;refine pD fun K hK=>?_;go_simp;have q5:((W.setCell (y_ b9) (Xu ik)).setCell (x_ b9 1) (Xu iv)).1[b7]?=some (Xe p1 p2):=(fA nb _ _).T q4;have ad:px≠b9:=by have:=HG.f px HG.e;have:=HA.e;omega
  have qB:=ew HA.d (Xu ik) (Xu iv);have oB:∀k,k≠b9->((W.setCell (y_ b9) (Xu ik)).setCell (x_ b9 1) (Xu iv)).1[k]?=W.1[k]?:=fun k hk=>fA hk _ _;have sB:Ig ((W.setCell (y_ b9) (Xu ik)).setCell (x_ b9 1) (Xu iv)) ps S' Y:=(HA.b.write (ae rfl) HA.d ⟨d_,d_⟩ s_ s_ fun k _ hk=>oB k hk).M fun k hk=>ab hk;have kB:Fo Y w ((W.setCell (y_ b9) (Xu ik)).setCell (x_ b9 1) (Xu iv)):=HA.c.T ⟨rfl,rfl,rfl,s_,fun k hk=>oB k (by have:=HG.f k hk;have:=HA.e;omega)⟩;have P7:KX w ((W.setCell (y_ b9) (Xu ik)).setCell (x_ b9 1) (Xu iv)) px ps ty kv l_ td f9 S' Y b9 ik iv:=⟨(oB px ad).T HA.a,sB,kB,qB,HA.e⟩;have au:=If HA.f;clear c0 c1 f0 f1 HA qB oB sB kB ad;have H7:=If P7;clear P7;generalize ((W.setCell (y_ b9) (Xu ik)).setCell (x_ b9 1) (Xu iv))=W7 at*
  try go_simp
  refine hK.O _ _ (HI.O _ H7.O.t q5) ?_;clear hK K
  try simp only[pu]
  refine pD fun K hK=>?_;go_simp
  try go_simp
  refine hK.O _ _ (HI.O _ H7.O.t q5) ?_;clear hK K
  try simp only[pu]
  refine pD fun K hK=>?_;go_simp
  try go_simp
  refine hK.O _ _ (HI.O _ H7.O.t q5) ?_;clear hK K
  try simp only[pu]
  refine eP ?_;clear q4 q5 w3 nb
 case' h2=>
  refine pD fun K hK=>?_;go_simp;have A3:=(c_ w2 (.cells #[Xu 0,Xu 0] 104)).drew;have T3:=H2.a.a_ A3;have q3:=(A3.block b7 (gl H2.d)).T H2.d;have qz:(w2.alloc (.cells #[Xu 0,Xu 0] 104)).drew.1[w2.1.size]?=_:=heap_alloc_new w2 (.cells #[Xu 0,Xu 0] 104);have s3:=H2.b.wide A3;have z3:(w2.alloc (.cells #[Xu 0,Xu 0] 104)).drew.1.size=w2.1.size+1:=by show (w2.alloc _).1.size=_;simp
  have k3:=H2.c.T ((H2.b.M (Z:=Y) fun k hk=>ab hk).w_ A3);have nb:b7≠w2.1.size:=by have:=H2.g;omega
  have lz:w.1.size<=w2.1.size:=H2.c.size;rw[z3] at s3;clear A3 z3;generalize (w2.alloc (.cells #[Xu 0,Xu 0] 104)).drew=w3 at*;generalize w2.1.size=b9 at*
  try go_simp
  refine hK.O _ _ (HI.O _ T3 q3) ?_;clear hK K
  try simp only[pu]
  have H3:=kq6 T3 q3 s3 k3 qz lz;clear T3 q3 s3 k3 qz lz;refine pD fun K hK=>?_;go_simp;refine(H2.e _ _ H3.c).M ?_;rintro e W ⟨x,ik,iv,S',rfl,s4,k4,i4⟩;have TA:=FF.w_ (w:=w3) H3.a k4 (ab (ab HG.e));have q4:W.1[b7]?=some (Xe p1 p2):=(k4.block b7 (ab (ae ⟨Nat.le_refl _,aZ _⟩))).T H3.b;have sA:=s4.M (Z:=fun k=>Y k\/k=b9) (fun k hk=>hk.elim (fun h=>ab (ab h)) fun e=>ae ⟨o_,o_⟩);have kA:=H3.d.T (k4.M (Z:=Y) fun k hk=>ab (ab hk));have qA:W.1[b9]?=some (.cells #[Xu 0,Xu 0] 104):=(k4.block b9 (ae ⟨Nat.le_refl _,aZ _⟩)).T H3.e;have lA:=H3.f;have iA:=i4;clear s4 k4 i4 H3
  try go_simp
  refine hK.O _ _ (HI.O _ TA q4) ?_;clear hK K
  try simp only[pu]
  iterate 5
   refine pT_ ?_
   try simp only[pu]
  refine pD fun K hK=>?_;go_simp
  try go_simp
  refine hK.O _ _ (HI.O _ TA q4) ?_;clear hK K
  try simp only[pu]
  obtain⟨c0,c1⟩:=Fp qA;obtain⟨f0,f1⟩:=ef qA;have HA:=kq6 TA sA kA qA lA iA;clear TA sA kA qA lA iA;refine pD fun K hK=>?_;go_simp;have q5:((W.setCell (y_ b9) (Xu ik)).setCell (x_ b9 1) (Xu iv)).1[b7]?=some (Xe p1 p2):=(fA nb _ _).T q4;have ad:px≠b9:=by have:=HG.f px HG.e;have:=HA.e;omega
  have qB:=ew HA.d (Xu ik) (Xu iv);have oB:∀k,k≠b9->((W.setCell (y_ b9) (Xu ik)).setCell (x_ b9 1) (Xu iv)).1[k]?=W.1[k]?:=fun k hk=>fA hk _ _;have sB:Ig ((W.setCell (y_ b9) (Xu ik)).setCell (x_ b9 1) (Xu iv)) ps S' Y:=(HA.b.write (ae rfl) HA.d ⟨d_,d_⟩ s_ s_ fun k _ hk=>oB k hk).M fun k hk=>ab hk;have kB:Fo Y w ((W.setCell (y_ b9) (Xu ik)).setCell (x_ b9 1) (Xu iv)):=HA.c.T ⟨rfl,rfl,rfl,s_,fun k hk=>oB k (by have:=HG.f k hk;have:=HA.e;omega)⟩;have P7:KX w ((W.setCell (y_ b9) (Xu ik)).setCell (x_ b9 1) (Xu iv)) px ps ty kv l_ td f9 S' Y b9 ik iv:=⟨(oB px ad).T HA.a,sB,kB,qB,HA.e⟩;have au:=If HA.f;clear c0 c1 f0 f1 HA qB oB sB kB ad;have H7:=If P7;clear P7;generalize ((W.setCell (y_ b9) (Xu ik)).setCell (x_ b9 1) (Xu iv))=W7 at*
  try go_simp
  refine hK.O _ _ (HI.O _ H7.O.t q5) ?_;clear hK K
  try simp only[pu]
  refine pD fun K hK=>?_;go_simp
  try go_simp
  refine hK.O _ _ (HI.O _ H7.O.t q5) ?_;clear hK K
  try simp only[pu]
  refine pD fun K hK=>?_;go_simp
  try go_simp
  refine hK.O _ _ (HI.O _ H7.O.t q5) ?_;clear hK K
  try simp only[pu]
  refine eP ?_;clear q4 q5 w3 nb
 all_goals
  clear m0 m1 m2 m3 m4 n0 n1 HI I;have t7:=H7.O.t;simp only[FF] at t7;obtain⟨c0,c1,c2,c3,c4⟩:=ld t7;obtain⟨f0,f1,f2,f3,f4⟩:=G2 t7;have ad:px≠b9:=by have:=HG.f px HG.e;have:=H7.O.l;omega
  have t8:FF (W7.setCell (x_ px 4) (Xu x)) px ps ty kv l_ td x:=heap_setCell t7;have q8:=(FB (w:=W7) (b:=px) (i:=4) (v:=Xu x) ad.S).T H7.O.q;have s8:Ig (W7.setCell (x_ px 4) (Xu x)) ps S' Y:=H7.O.st.write HG.e t7 ⟨d_,d_⟩ s_ s_ fun k _ hk=>FB hk;have k8:Fo (fun k=>Y k/\k≠px) w (W7.setCell (x_ px 4) (Xu x)):=(H7.O.k.M fun k hk=>hk.1).T ⟨rfl,rfl,rfl,s_,fun k hk=>FB hk.2⟩;obtain⟨e0,e1⟩:=Fp q8;have H8:=kq3 t8 s8 k8;clear t7 t8 s8 k8 ad q8;go_wp2_with fail;refine(HG.d x ik iv S' au.O _ _ H8.b H8.a HG.e).M ?_;rintro e w9 ⟨S3,rfl,s9,k9,r9⟩;have a3:Ig w9 ps S3 Y/\Fo (fun k=>Y k/\k≠px) w w9/\FF w9 px ps ty kv l_ td x/\R2 x S3:=⟨s9,H8.c.T (k9.M fun k hk=>hk.1),FF.w_ H8.a k9 HG.e,r9⟩;have HF:=If a3;clear a3 s9 k9 H8 c0 c1 c2 c3 c4 f0 f1 f2 f3 f4 e0 e1;go_wp2_with fail;go_ret3;exact⟨x,S3,rfl,HF.O⟩
end
section
open Go.RowKit Tryz Go.BigFrame Go.Maps Go.WideMaps Lf Tr
open Go.Shelf
variable{S:St}{Y:Nat->Prop}
structure fD (w0 w:World) (B ps:Nat) (S:St) (Y:Nat->Prop) (v1 v2 u1 u2:Value) (m1 m2:List Nat):Prop where
 own1:FE w B u1 m1
 own2:FE w B u2 m2
 st:Ig w ps S (fun k=>Y k\/(w0.1.size<=k/\k<w.1.size))
 w_:Fo (fun k=>k<w0.1.size/\v1.ownBlock≠some k/\v2.ownBlock≠some k) w0 w
 p1:u1.ownBlock=v1.ownBlock\/∃g,u1.ownBlock=some g/\w0.1.size<=g
 p2:u2.ownBlock=v2.ownBlock\/∃g,u2.ownBlock=some g/\w0.1.size<=g
 apart:∀g,u1.ownBlock=some g->u2.ownBlock≠some g
 y1:∀g,v1.ownBlock=some g->Y g
 y2:∀g,v2.ownBlock=some g->Y g
theorem fD.swap{w0 w:World}{B ps:Nat}{v1 v2 u1 u2:Value}{m1 m2:List Nat}(h:fD w0 w B ps S Y v1 v2 u1 u2 m1 m2):fD w0 w B ps S Y v2 v1 u2 u1 m2 m1:=
 ⟨h.own2,h.own1,h.st,h.w_.M fun _ hk=>⟨hk.1,hk.2.2,hk.2.1⟩,h.p2,h.p1,fun g h2 h1=>h.apart g h1 h2,h.y2,h.y1⟩
theorem fD.start{w:World}{B ps:Nat}{v1 v2:Value}{m1 m2:List Nat}(h:Ig w ps S Y)(o1:FE w B v1 m1)(o2:FE w B v2 m2)(ap:∀g,v1.ownBlock=some g->v2.ownBlock≠some g)(y1:∀g,v1.ownBlock=some g->Y g)(y2:∀g,v2.ownBlock=some g->Y g):fD w w B ps S Y v1 v2 v1 v2 m1 m2:=
 ⟨o1,o2,h.M fun _ hk=>hk.elim id fun h=>absurd h.1 (Nat.not_le.2 h.2),Fo.refl _ _,ab rfl,ab rfl,ap,y1,y2⟩
theorem fD.a_{w0 w w':World}{B ps:Nat}{v1 v2 u1 u2:Value}{m1 m2:List Nat}(h:fD w0 w B ps S Y v1 v2 u1 u2 m1 m2)(hb:D_ w w'):fD w0 w' B ps S Y v1 v2 u1 u2 m1 m2:=
 ⟨h.own1.at fun x e=>hb.block x (h.own1.block e).2.1,h.own2.at fun x e=>hb.block x (h.own2.block e).2.1,
  (h.st.wide hb).M fun k hk=>by
   rcases hk with hk | hk
   ·exact ab (ab hk)
   ·by_cases hw:k<w.1.size
    ·exact ab (ae ⟨hk.1,hw⟩)
    ·exact ae ⟨o_,hk.2⟩,
  h.w_.T (Fo.v_ hb fun k hk=>by have:=h.w_.size;omega),h.p1,h.p2,h.apart,h.y1,h.y2⟩
theorem fD.ins{w0 w:World}{B ps:Nat}{v1 v2 u1 u2:Value}{m1 m2:List Nat}(h:fD w0 w B ps S Y v1 v2 u1 u2 m1 m2)(htab:fy<B)(hB:B<=w.1.size)(hl:m1.length<=1000){i:Nat}(hi:i<=m1.length){x vb:Nat}(hx:w.1[vb]?=some (.cells #[Xu x] 61 (0,0)))(hne:u1.ownBlock≠some vb):
 Ct 215 #[u1,Xi i,.slice (some (y_ vb)) 1 1] w fun e w'=>∃ad,e=.returned ad/\fD w0 w' B ps S Y v1 v2 ad u2 (m1.take i++x::m1.drop i) m2/\(∀k,k<w.1.size->u1.ownBlock≠some k->w'.1[k]?=w.1[k]?):=by
 refine(uT h.st h.own1 (fun g hg=>?_) htab hl hi hx hne hB).M ?_
 ·rcases h.p1 with e | ⟨g',e,ai⟩
  ·exact ab (h.y1 g (by grind))
  ·rw[e] at hg
   injection hg with hg
   subst hg;exact ae ⟨ai,(h.own1.block e).2.1⟩
 ·rintro e w' ⟨ad,rfl,I⟩;have an:=h.w_.size;have ap:=I.grown.size;refine⟨ad,rfl,⟨I.own,I.row h.own2 fun g hg e=>h.apart g e hg,I.st.M fun k hk=>?_,h.w_.T (I.w_ fun k hk=>⟨o_,fun e=>?_⟩),?_,h.p2,fun g hg e=>?_,h.y1,h.y2⟩,fun k hk hn=>I.u_ hk hn⟩
  ·grind
  ·rcases h.p1 with e1 | ⟨g',e1,ai⟩
   ·exact hk.2.1 (by rw[<-e1];exact e)
   grind
  ·rcases I.at' with e1 | ⟨g,e1,hg⟩
   ·rw[e1];exact h.p1
   grind
  ·rcases I.at' with e1 | ⟨g',e1,ai⟩
   ·exact h.apart g (by grind) e
   ·rw[e1] at hg
    injection hg with hg
    have:=(h.own2.block e).2.1;omega
def JB(bt bl:Nat):Value:=.func (.func 214) #[] #[PV bl,PV bt]
def iQ:Option (It×Nat)->Array Value
 | none=>#[.bool false,Xu 0,Xu 0,Xu 0]
 | some (m,g)=>#[.bool true,Xu m.kh,Xu m.vh,Xu g]
def ky(r:Option (It×Nat)):Value:=.agg (iQ r)
def j4(d:Nat):Prop:=∀{w:World} {ps:Nat} {S:St} {o:Nat->Nat} {Z:Nat->Prop} {bt bl D t:Nat} {v:Value} {L:List Nat} {x:Bt (d+1)} {e:It} (i:Nat),
 Ig w ps S Z->Bt.Walk S o t x->(Bt.h_ x).Nodup->i+d<40->gz w bt bl D ps t v L->lG S t L->(∀h∈L,h∉Bt.h_ x)->Z bl->Z bt->(∀b,v.ownBlock=some b->Z b)->L.length<=1000->
 (∀a∈Bt.its x,a.k≠e.k)->Bt.ItLt (Bt.its x)->e.kh<2^64->e.vh<2^64->Bt.trail (Bt.F0 t e.k x)<=L.length->
 Ct 182 #[FH ps t,Xu (Bt.hd x:Nat),SV e.k,Id e.kh e.vh,JB bt bl,Xi i] w fun en w'=>∃(r:Option (It×Nat)) (S':St) (v':Value) (L' U:List Nat),en=.returned (ky r)/\L=L'++U/\Bt.Put S S' o t x e U r/\Ig w' ps S' Z/\Fo (fun k=>Z k/\k≠bl) w w'/\gz w' bt bl D ps t v' L'/\v'.ownBlock=v.ownBlock/\U.length=Bt.trail (Bt.F0 t e.k x)/\r.isSome=(Bt.F0 t e.k x).all id
structure eH (w:World) (ps:Nat) (Z:Nat->Prop) (bt bl D t:Nat) (v:Value) (bN:Nat) (wc:World) (S':St) (Y:Nat->Prop) (v':Value) (L':List Nat) (vk vv vc:Value) (sz:Nat) (ks vs cs:List Nat):Prop where
 st:Ig wc ps S' Y
 zy:∀k,Z k->Y k
 zl:∀k,Z k->k<w.1.size
 zs:Z bl/\Z bt/\∀b,v.ownBlock=some b->Z b
 w_:Fo (fun k=>Z k/\k≠bl) w wc
 sp:gz wc bt bl D ps t v' L'
 own:v'.ownBlock=v.ownBlock
 box:wc.1[bN]?=some (.cells #[vk,vv,vc,Xu sz] 215 (0,0))
 rows:fN wc (w.1.size+3) vk vv vc ks vs cs
 yb:Y bN/\Y w.1.size/\Y (w.1.size+2)
 yk:∀g,(vk.ownBlock=some g\/vv.ownBlock=some g\/vc.ownBlock=some g)->Y g
 tree:wc.1[w.1.size]?=some (.cells #[PV ps,Xi t] 145 (0,0))
 res:wc.1[w.1.size+2]?=some (.cells #[.bool false,Xu 0,Xu 0,Xu 0] 274 (0,0))
 at3:w.1.size+3<=bN
theorem gz.keeps{w w':World}{bt bl D ps t:Nat}{v:Value}{L:List Nat}(h:gz w bt bl D ps t v L)(e:∀k,iJ bt bl v k->w'.1[k]?=w.1[k]?):gz w' bt bl D ps t v L:=
 ⟨(e bl (ae (ab rfl))).T h.box,(e bt (ab rfl)).T h.tree,h.row.at fun g hg=>e g (ae (ae hg)),h.lo⟩
section
variable {w wc wc':World}{ps:Nat}{Z:Nat->Prop}{bt bl D t:Nat}{v:Value}{bN:Nat}{S' S2:St}{Y Y':Nat->Prop}{v' v2:Value}{L' L2:List Nat}{vk vv vc uk uv uc:Value}{sz sz':Nat}{ks vs cs ks' vs' cs':List Nat}
theorem eH.ne(h:eH w ps Z bt bl D t v bN wc S' Y v' L' vk vv vc sz ks vs cs):vk.ownBlock≠some bN/\vv.ownBlock≠some bN/\vc.ownBlock≠some bN:=by
 have hb:=h.box;refine⟨fun q=>?_,fun q=>?_,fun q=>?_⟩
 ·obtain⟨cs,fr,e⟩:=(h.rows.k.block q).2.2
  grind
 ·obtain⟨cs,fr,e⟩:=(h.rows.v.block q).2.2
  grind
 ·obtain⟨cs,fr,e⟩:=(h.rows.c.block q).2.2
  grind
theorem eH.lt(h:eH w ps Z bt bl D t v bN wc S' Y v' L' vk vv vc sz ks vs cs):bN<wc.1.size:=(gl h.box)
theorem eH.spz(h:eH w ps Z bt bl D t v bN wc S' Y v' L' vk vv vc sz ks vs cs):∀k,iJ bt bl v' k->Z k:=fun k hk=>by
 rcases hk with rfl | rfl | hk
 ·exact h.zs.2.1
 ·exact h.zs.1
 ·exact h.zs.2.2 k (by rw[<-h.own];exact hk)
theorem eH.move(h:eH w ps Z bt bl D t v bN wc S' Y v' L' vk vv vc sz ks vs cs)(st:Ig wc' ps S2 Y')(hy:∀k,Y k->Y' k)(kp:Fo (fun k=>(Z k/\k≠bl)\/k=w.1.size\/k=w.1.size+2) wc wc')(sp:gz wc' bt bl D ps t v2 L2)(own:v2.ownBlock=v.ownBlock)
 (box:wc'.1[bN]?=some (.cells #[uk,uv,uc,Xu sz'] 215 (0,0))) (rows:fN wc' (w.1.size+3) uk uv uc ks' vs' cs') (yk:∀g,(uk.ownBlock=some g\/uv.ownBlock=some g\/uc.ownBlock=some g)->Y' g):eH w ps Z bt bl D t v bN wc' S2 Y' v2 L2 uk uv uc sz' ks' vs' cs':=
 ⟨st,fun k hk=>hy k (h.zy k hk),h.zl,h.zs,h.w_.T (kp.M fun _ hk=>ab hk),sp,own,box,rows,⟨hy _ h.yb.1,hy _ h.yb.2.1,hy _ h.yb.2.2⟩,yk,(kp.block _ (ae (ab rfl))).T h.tree,(kp.block _ (ae (ae rfl))).T h.res,h.at3⟩
theorem eH.a_(h:eH w ps Z bt bl D t v bN wc S' Y v' L' vk vv vc sz ks vs cs)(hb:D_ wc wc'):eH w ps Z bt bl D t v bN wc' S' (fun k=>Y k\/(wc.1.size<=k/\k<wc'.1.size)) v' L' vk vv vc sz ks vs cs:=by
 have ad:=h.st.yl;have ai:=h.w_.size;refine h.move (h.st.wide hb) (fun k hk=>ab hk) (Fo.v_ hb fun k hk=>?_) (h.sp.keeps fun k hk=>hb.block k (ad k (h.zy k (h.spz k hk)))) h.own ((hb.block bN h.lt).T h.box) (h.rows.a_ hb) fun g hg=>ab (h.yk g hg)
 rcases hk with hk | rfl | rfl
 ·exact ad k (h.zy k hk.1)
 ·exact ad _ h.yb.2.1
 ·exact ad _ h.yb.2.2
end
structure gQ (w:World) (ps:Nat) (S:St) (o:Nat->Nat) (Z:Nat->Prop) (bt bl D t:Nat) (v:Value) (L:List Nat) {d:Nat} (x:Bt (d+1)) (e:It) (bN:Nat) (wc:World) (S':St) (Y:Nat->Prop) (v':Value) (L' U:List Nat) (x':Bt (d+1)) (vk vv vc:Value):Prop where
 held:eH w ps Z bt bl D t v bN wc S' Y v' L' vk vv vc (Bt.its x).length (Bt.bn x').j_ (Bt.bn x').C9 (Bt.bn x').A6
 sum:L=L'++U
 mid:Bt.Mid S S' o t x e U x'
 num:U.length+(if(Bn.es x').length=2*t then 1 else 0)=Bt.trail (Bt.F0 t e.k x)
 all:decide ((Bn.es x').length=2*t)=(Bt.F0 t e.k x).all id
theorem fD.drew {w0 w:World}{B ps:Nat}{S:St}{Y:Nat->Prop}{v1 v2 u1 u2:Value}{m1 m2:List Nat}(h:fD w0 w B ps S Y v1 v2 u1 u2 m1 m2):fD w0 w.drew B ps S Y v1 v2 u1 u2 m1 m2:=h.a_ (aa _ w).drew
theorem fD.one {w0 w:World}{B ps:Nat}{S:St}{Y:Nat->Prop}{v1 v2 u1 u2:Value}{m1 m2:List Nat}(h:fD w0 w B ps S Y v1 v2 u1 u2 m1 m2)(x:Nat):fD w0 (w.alloc (Xf x)) B ps S Y v1 v2 u1 u2 m1 m2/\(w.alloc (Xf x)).1[w.1.size]?=some (.cells #[Xu x] 61 (0,0))/\u1.ownBlock≠some w.1.size/\u2.ownBlock≠some w.1.size/\w.1.size<(w.alloc (Xf x)).1.size/\D_ w (w.alloc (Xf x)):=
 ⟨h.a_ ((aa _ w).alloc Ih _),heap_alloc_new w _,fun q=>by have:=(h.own1.block q).2.1;omega,fun q=>by have:=(h.own2.block q).2.1;omega,s_,(aa _ w).alloc Ih _⟩
theorem fD.done {w0 w:World}{B ps:Nat}{S:St}{Y:Nat->Prop}{v1 v2 u1 u2:Value}{m1 m2:List Nat}(T:fD w0 w B ps S Y v1 v2 u1 u2 m1 m2){bN sz:Nat}{vc:Value}(hN:w0.1[bN]?=some (.cells #[v1,v2,vc,Xu sz] 215 (0,0)))(yN:Y bN)(n1:v1.ownBlock≠some bN)(n2:v2.ownBlock≠some bN):
 w.1[bN]?=some (.cells #[v1,v2,vc,Xu sz] 215 (0,0))/\(w.setCell (y_ bN) u1).1[bN]?=some (.cells #[u1,v2,vc,Xu sz] 215 (0,0))/\∀w',w'=(w.setCell (y_ bN) u1).setCell (x_ bN 1) u2->w'.1[bN]?=some (.cells #[u1,u2,vc,Xu sz] 215 (0,0))/\FE w' B u1 m1/\FE w' B u2 m2/\Ig w' ps S (fun k=>Y k\/(w0.1.size<=k/\k<w.1.size))/\Fo (fun k=>k<w0.1.size/\v1.ownBlock≠some k/\v2.ownBlock≠some k/\k≠bN) w0 w'/\w'.1.size=w.1.size:=by
 have hlt:bN<w0.1.size:=(gl hN);have e0:=(T.w_.block bN ⟨hlt,n1,n2⟩).T hN;have e1:(w.setCell (y_ bN) u1).1[bN]?=some (.cells #[u1,v2,vc,Xu sz] 215 (0,0)):=heap_setCell (i:=0) (v:=u1) e0;have e2:((w.setCell (y_ bN) u1).setCell (x_ bN 1) u2).1[bN]?=some (.cells #[u1,u2,vc,Xu sz] 215 (0,0)):=heap_setCell (i:=1) (v:=u2) e1;have ad:∀k,k≠bN->((w.setCell (y_ bN) u1).setCell (x_ bN 1) u2).1[k]?=w.1[k]?:=fun k hk=>(FB hk).T (FB hk);have q1:∀g,u1.ownBlock=some g->g≠bN:=fun g hg q=>by
  rcases T.p1 with e | ⟨g',e,ai⟩
  ·rw[e] at hg;exact n1 (hg.T (q▸rfl))
  grind
 have q2:∀g,u2.ownBlock=some g->g≠bN:=fun g hg q=>by
  rcases T.p2 with e | ⟨g',e,ai⟩
  ·rw[e] at hg;exact n2 (hg.T (q▸rfl))
  grind
 refine⟨e0,e1,?_⟩;rintro w' rfl;refine⟨e2,T.own1.at fun g hg=>ad g (q1 g hg),T.own2.at fun g hg=>ad g (q2 g hg),?_,?_,s_⟩
 ·exact T.st.write (b:=bN) (ab yN) e0 ⟨d_,d_⟩ s_ s_ fun k _ hk=>ad k hk
 ·exact((T.w_.M fun k hk=>⟨hk.1,hk.2.1,hk.2.2.1⟩).T (Fo.mark fun b hb=>hb.2.2.2)).T (Fo.mark fun b hb=>hb.2.2.2)
section
variable {w wc wc':World}{ps:Nat}{Z:Nat->Prop}{bt bl D t:Nat}{v:Value}{bN:Nat}{S' S2:St}{Y Y':Nat->Prop}{v' v2:Value}{L' L2:List Nat}{vk vv vc uk uv uc:Value}{sz sz':Nat}{ks vs cs ks' vs' cs':List Nat}
theorem eH.two(h:eH w ps Z bt bl D t v bN wc S' Y v' L' vk vv vc sz ks vs cs):fD wc wc (w.1.size+3) ps S' Y vk vv vk vv ks vs:=fD.start h.st h.rows.k h.rows.v h.rows.kv (fun g hg=>h.yk g (ab hg)) fun g hg=>h.yk g (ae (ab hg))
theorem qDcab{P:Prop}(h:P:=by
 rcases hk with hk | rfl | rfl
 ·have:=h.zl k hk.1;omega
 ·omega
 omega):P:=h
theorem eH.grow(h:eH w ps Z bt bl D t v bN wc S' Y v' L' vk vv vc sz ks vs cs)(T:fD wc wc' (w.1.size+3) ps S' Y vk vv uk uv ks' vs'):
 wc'.1[bN]?=some (.cells #[vk,vv,vc,Xu sz] 215 (0,0))/\(wc'.setCell (y_ bN) uk).1[bN]?=some (.cells #[uk,vv,vc,Xu sz] 215 (0,0))/\eH w ps Z bt bl D t v bN ((wc'.setCell (y_ bN) uk).setCell (x_ bN 1) uv) S' (fun k=>Y k\/(wc.1.size<=k/\k<wc'.1.size)) v' L' uk uv vc sz ks' vs' cs:=by
 have au:=h.st.yl;have ap:=h.w_.size;have hl:=h.lt;have h3:=h.at3;obtain⟨a0,a1,a2⟩:=T.done h.box h.yb.1 h.ne.1 h.ne.2.1;refine⟨a0,a1,?_⟩;obtain⟨b1,b2,b3,b4,b5,b6⟩:=a2 _ rfl;have an:∀g,(vk.ownBlock=some g\/vv.ownBlock=some g\/vc.ownBlock=some g)->w.1.size+3<=g/\g<wc.1.size:=fun g hg=>by
  rcases hg with hg | hg | hg
  ·exact⟨(h.rows.k.block hg).1,(h.rows.k.block hg).2.1⟩
  ·exact⟨(h.rows.v.block hg).1,(h.rows.v.block hg).2.1⟩
  ·exact⟨(h.rows.c.block hg).1,(h.rows.c.block hg).2.1⟩
 have kz:∀k,k<w.1.size+3->k<wc.1.size/\vk.ownBlock≠some k/\vv.ownBlock≠some k/\k≠bN:=fun k hk=>⟨o_,fun q=>by grind,fun q=>by grind,o_⟩;have ad:∀{u u0:Value},(u.ownBlock=u0.ownBlock\/∃g,u.ownBlock=some g/\wc.1.size<=g)->(∀g,u0.ownBlock=some g->vc.ownBlock≠some g)->∀g,u.ownBlock=some g->vc.ownBlock≠some g:=fun hu ha g hg q=>by
  grind
 refine h.move b4 (fun k hk=>ab hk) (b5.M fun k hk=>kz k ?_) (h.sp.keeps fun k hk=>b5.block k (kz k (by have:=h.zl k (h.spz k hk);omega))) h.own b1 ⟨b2,b3,?_,T.apart,ad T.p1 h.rows.kc,ad T.p2 h.rows.vc⟩ fun g hg=>?_
 ·exact qDcab
 ·refine h.rows.c.at fun g hg=>b5.block g ⟨(an g (ae (ae hg))).2,fun q=>h.rows.kc g q hg,fun q=>h.rows.vc g q hg,fun q=>h.ne.2.2 (q▸hg)⟩
 ·have ar:=b6
  rcases hg with hg | hg | hg
  ·rcases T.p1 with e | ⟨g',e,ai⟩
   ·exact ab (h.yk g (ab (e▸hg)))
   ·exact ae ⟨by grind,(T.own1.block hg).2.1⟩
  ·rcases T.p2 with e | ⟨g',e,ai⟩
   ·exact ab (h.yk g (ae (ab (e▸hg))))
   ·exact ae ⟨by grind,(T.own2.block hg).2.1⟩
  ·exact ab (h.yk g (ae (ae hg)))
theorem eH.grow3(h:eH w ps Z bt bl D t v bN wc S' Y v' L' vk vv vc sz ks vs cs)(I:kG wc wc' (w.1.size+3) ps S' Y vc uc cs'):
 wc'.1[bN]?=some (.cells #[vk,vv,vc,Xu sz] 215 (0,0))/\eH w ps Z bt bl D t v bN (wc'.setCell (x_ bN 2) uc) S' (fun k=>Y k\/(wc.1.size<=k/\k<wc'.1.size)) v' L' vk vv uc sz ks vs cs':=by
 have au:=h.st.yl;have ar:=h.w_.size;have hl:=h.lt;have h3:=h.at3;have e0:=(I.u_ hl h.ne.2.2).T h.box;refine⟨e0,?_⟩;have ap:=fun g (hg:vc.ownBlock=some g)=>h.rows.c.block hg;have an:∀k,k<wc.1.size->k≠bN->vc.ownBlock≠some k->(wc'.setCell (x_ bN 2) uc).1[k]?=wc.1[k]?:=fun k hk h1 h2=>(FB h1).T (I.u_ hk h2);have kz:∀k,k<w.1.size+3->(wc'.setCell (x_ bN 2) uc).1[k]?=wc.1[k]?:=fun k hk=>an k o_ o_ fun q=>by grind
 have ai:∀k,((Z k/\k≠bl)\/k=w.1.size\/k=w.1.size+2)->k<wc.1.size/\vc.ownBlock≠some k/\k≠bN:=fun k hk=>by
  have:k<w.1.size+3:=by
   rcases hk with hk | rfl | rfl
   ·have:=h.zl k hk.1;omega
   ·omega
   ·omega
  grind
 have n3:∀g,uc.ownBlock=some g->g≠bN:=fun g hg q=>by
  rcases I.at' with e | ⟨g',e,ad⟩
  ·rw[e] at hg;exact h.ne.2.2 (hg.T (q▸rfl))
  grind
 refine h.move (I.st.write (b:=bN) (ab h.yb.1) e0 ⟨d_,d_⟩ s_ s_ fun k _ hk=>FB hk) (fun k hk=>ab hk) (Fo.T (b:=wc') ⟨I.grown.os,I.grown.tape,I.grown.output,I.grown.size,fun k hk=>I.u_ (ai k hk).1 (ai k hk).2.1⟩ (Fo.mark fun k hk=>(ai k hk).2.2)) (h.sp.keeps fun k hk=>kz k (by have:=h.zl k (h.spz k hk);omega)) h.own (heap_setCell (i:=2) (v:=uc) e0) ⟨?_,?_,I.own.at fun g hg=>FB (n3 g hg),h.rows.kv,fun g hg q=>?_,fun g hg q=>?_⟩ fun g hg=>?_
 ·exact h.rows.k.at fun g hg=>an g (h.rows.k.block hg).2.1 (fun q=>h.ne.1 (q▸hg)) (h.rows.kc g hg)
 ·exact h.rows.v.at fun g hg=>an g (h.rows.v.block hg).2.1 (fun q=>h.ne.2.1 (q▸hg)) (h.rows.vc g hg)
 ·rcases I.at' with e | ⟨g',e,ad⟩
  ·exact h.rows.kc g hg (e▸q)
  ·rw[e] at q;have q:g'=g:=Option.some.inj q;have:=(h.rows.k.block hg).2.1;omega
 ·rcases I.at' with e | ⟨g',e,ad⟩
  ·exact h.rows.vc g hg (e▸q)
  ·rw[e] at q;have q:g'=g:=Option.some.inj q;have:=(h.rows.v.block hg).2.1;omega
 ·rcases hg with hg | hg | hg
  ·exact ab (h.yk g (ab hg))
  ·exact ab (h.yk g (ae (ab hg)))
  ·rcases I.at' with e | ⟨g',e,ad⟩
   ·exact ab (h.yk g (ae (ae (e▸hg))))
   ·exact ae ⟨by grind,(I.own.block hg).2.1⟩
theorem eH.size(h:eH w ps Z bt bl D t v bN wc S' Y v' L' vk vv vc sz ks vs cs)(n:Nat):eH w ps Z bt bl D t v bN (wc.setCell (x_ bN 3) (Xu n)) S' Y v' L' vk vv vc n ks vs cs:=by
 have hl:=h.lt;have h3:=h.at3;have ad:∀k,k≠bN->(wc.setCell (x_ bN 3) (Xu n)).1[k]?=wc.1[k]?:=fun k h1=>FB h1;refine h.move (h.st.write (b:=bN) h.yb.1 h.box ⟨d_,d_⟩ s_ s_ fun k _ hk=>FB hk) (fun k hk=>hk) (Fo.mark fun k hk=>?_) (h.sp.keeps fun k hk=>ad k (by have:=h.zl k (h.spz k hk);omega)) h.own (heap_setCell (i:=3) (v:=Xu n) h.box) ⟨?_,?_,?_,h.rows.kv,h.rows.kc,h.rows.vc⟩ h.yk
 ·exact qDcab
 ·exact h.rows.k.at fun g hg=>ad g fun q=>h.ne.1 (q▸hg)
 ·exact h.rows.v.at fun g hg=>ad g fun q=>h.ne.2.1 (q▸hg)
 ·exact h.rows.c.at fun g hg=>ad g fun q=>h.ne.2.2 (q▸hg)
theorem eH.kid(h:eH w ps Z bt bl D t v bN wc S' Y v' L' vk vv vc sz ks vs cs)(st:Ig wc' ps S2 Y)(kp:Fo (fun k=>Y k/\k≠bl) wc wc')(sp:gz wc' bt bl D ps t v2 L2)(own:v2.ownBlock=v'.ownBlock):eH w ps Z bt bl D t v bN wc' S2 Y v2 L2 vk vv vc sz ks vs cs:=by
 have ad:=h.zl bl h.zs.1;have h3:=h.at3;have q:=h.yk;have row:∀g,(vk.ownBlock=some g\/vv.ownBlock=some g\/vc.ownBlock=some g)->w.1.size+3<=g->wc'.1[g]?=wc.1[g]?:=fun g hg hg3=>kp.block g ⟨h.yk g hg,o_⟩;refine h.move st (fun k hk=>hk) (kp.M fun k hk=>?_) sp (own.T h.own) ((kp.block bN ⟨h.yb.1,o_⟩).T h.box) ⟨?_,?_,?_,h.rows.kv,h.rows.kc,h.rows.vc⟩ h.yk
 ·rcases hk with hk | rfl | rfl
  ·exact⟨h.zy k hk.1,hk.2⟩
  ·exact⟨h.yb.2.1,o_⟩
  ·exact⟨h.yb.2.2,o_⟩
 ·exact h.rows.k.at fun g hg=>row g (ab hg) (h.rows.k.block hg).1
 ·exact h.rows.v.at fun g hg=>row g (ae (ab hg)) (h.rows.v.block hg).1
 ·exact h.rows.c.at fun g hg=>row g (ae (ae hg)) (h.rows.c.block hg).1
end
namespace Bt
variable{U:List Nat}{d:Nat}{e:It}{k:Nat}
theorem leafPut_bn(x:Bt (d+1))(e:It):(bn (leafPut x e)).j_=(bn x).j_.take (belowB e.k (Bn.es x))++e.kh::(bn x).j_.drop (belowB e.k (Bn.es x))/\(bn (leafPut x e)).C9=(bn x).C9.take (belowB e.k (Bn.es x))++e.vh::(bn x).C9.drop (belowB e.k (Bn.es x))/\(bn (leafPut x e)).A6=(bn x).A6:=by
 refine⟨?_,?_,rfl⟩
 ·show ((Bn.es x).take _++e::(Bn.es x).drop _).map _=((Bn.es x).map _).take _++e.kh::((Bn.es x).map _).drop _
  simp_all
 ·show ((Bn.es x).take _++e::(Bn.es x).drop _).map _=((Bn.es x).map _).take _++e.vh::((Bn.es x).map _).drop _
  simp_all
theorem Ci(x:Bt (d+1))(e:It):(Bn.es (leafPut x e)).length=(Bn.es x).length+1:=lg (kH _) e
theorem BR(x:Bt (d+1))(e:It)(y1:Bt d)(m:It)(y2:Bt d):(Bn.es (ja x (belowB e.k (Bn.es x)) y1 m y2)).length=(Bn.es x).length+1:=lg (kH _) m
theorem kidPut_bn(x:Bt (d+1))(k:Nat)(hk:k<(Bn.ks x).length){y:Bt d}(hy:hd y=hd (Bn.ks x)[k]):(bn (ju x k y)).j_=(bn x).j_/\(bn (ju x k y)).C9=(bn x).C9/\(bn (ju x k y)).A6=(bn x).A6:=by
 refine⟨rfl,rfl,?_⟩
 show ((Bn.ks x).set k y).map hd=(Bn.ks x).map hd
 grind [List.map_set,hd,List.length_map,List.set_getElem_self]
theorem kidSplit_bn(x:Bt (d+1))(k:Nat)(hk:k<(Bn.ks x).length){y1 y2:Bt d}(m:It)(hy:hd y1=hd (Bn.ks x)[k]):(bn (ja x k y1 m y2)).j_=(bn x).j_.take k++m.kh::(bn x).j_.drop k/\(bn (ja x k y1 m y2)).C9=(bn x).C9.take k++m.vh::(bn x).C9.drop k/\(bn (ja x k y1 m y2)).A6=(bn x).A6.take (k+1)++hd y2::(bn x).A6.drop (k+1):=by
 refine⟨?_,?_,?_⟩
 ·show ((Bn.es x).take _++m::(Bn.es x).drop _).map _=((Bn.es x).map _).take _++m.kh::((Bn.es x).map _).drop _
  simp_all
 ·show ((Bn.es x).take _++m::(Bn.es x).drop _).map _=((Bn.es x).map _).take _++m.vh::((Bn.es x).map _).drop _
  simp_all
 ·show ((Bn.ks x).take k++y1::y2::(Bn.ks x).drop (k+1)).map hd=((Bn.ks x).map hd).take (k+1)++hd y2::((Bn.ks x).map hd).drop (k+1)
  rw[aN,bi,bi,du,List.map_drop,hy,aw (by grind),bG]
  simp
theorem num_leaf{t:Nat}(t1:1<=t)(x:Bt 1)(e:It):([]:List Nat).length+(if(Bn.es (leafPut x e)).length=2*t then 1 else 0)=trail (F0 t e.k x)/\decide ((Bn.es (leafPut x e)).length=2*t)=(F0 t e.k x).all id:=by
 rw[Ci,qJ]
 by_cases h:(Bn.es x).length=2*t-1
 ·simp[trail,h,show 2*t-1+1=2*t by omega]
 ·have h2:¬(Bn.es x).length+1=2*t:=o_
  simp[trail,h,h2]
theorem num_none{t d:Nat}(t1:1<=t){x:Bt (d+2)}(ok:Ok t x)(hk:belowB e.k (Bn.es x)=k)(h:k<(Bn.ks x).length)(y:Bt (d+1))(h1:U.length=trail (F0 t e.k (Bn.ks x)[k]))(h2:false=(F0 t e.k (Bn.ks x)[k]).all id):
 U.length+(if(Bn.es (ju x k y)).length=2*t then 1 else 0)=trail (F0 t e.k x)/\decide ((Bn.es (ju x k y)).length=2*t)=(F0 t e.k x).all id:=by
 rw[mI t e.k x hk h];have hl:¬(Bn.es (ju x k y)).length=2*t:=by
  have:=ok.1
  show ¬(Bn.es x).length=2*t
  omega
 have h3:¬(F0 t e.k (Bn.ks x)[k]).all id=true:=by rw[<-h2];simp
 unfold trail
 grind
theorem F3{t d:Nat}(t1:1<=t){x:Bt (d+2)}(hk:belowB e.k (Bn.es x)=k)(h:k<(Bn.ks x).length)(y1:Bt (d+1))(m:It)(y2:Bt (d+1))(h1:U.length=trail (F0 t e.k (Bn.ks x)[k]))(h2:true=(F0 t e.k (Bn.ks x)[k]).all id):
 U.length+(if(Bn.es (ja x k y1 m y2)).length=2*t then 1 else 0)=trail (F0 t e.k x)/\decide ((Bn.es (ja x k y1 m y2)).length=2*t)=(F0 t e.k x).all id:=by
 rw[mI t e.k x hk h];have hl:(Bn.es (ja x k y1 m y2)).length=(Bn.es x).length+1:=by rw[<-hk];exact BR x e y1 m y2
 have h3:=trail_all h2.S;unfold trail
 grind
theorem its_len{t d:Nat}{x:Bt (d+1)}(h:gY t x):(its x).length=(Bn.es x).length+((Bn.ks x).map fun k=>(its k).length).sum:=by
 rw[ga,sZ _ _ (by rcases h.rows with h | h;exact ab h.1;omega),cQ];rfl
end Bt
section
variable {w wc:World}{ps:Nat}{Z:Nat->Prop}{bt bl D t:Nat}{v:Value}{bN:Nat}{S S':St}{o:Nat->Nat}{Y:Nat->Prop}{v':Value}{L L' U:List Nat}{vk vv vc:Value}{sz k:Nat}{e:It}
theorem rJ {x:Bt 1}(hx:Bt.Walk S o t x)(hnd:(Bt.h_ x).Nodup)(hit:Bt.ItLt (Bt.its x))(hkh:e.kh<2^64)(hvh:e.vh<2^64)(hk:belowB e.k (Bn.es x)=k)(hsz:sz=(Bt.its x).length)
 (h:eH w ps Z bt bl D t v bN wc S Y v L vk vv vc sz ((Bt.bn x).j_.take k++e.kh::(Bt.bn x).j_.drop k) ((Bt.bn x).C9.take k++e.vh::(Bt.bn x).C9.drop k) (Bt.bn x).A6):gQ w ps S o Z bt bl D t v L x e bN wc S Y v L [] (Bt.leafPut x e) vk vv vc:=by
 have t1:1<=t:=by have:=hx.t1;omega
 obtain⟨n1,n2⟩:=Bt.num_leaf t1 x e;obtain⟨p1,p2,p3⟩:=Bt.leafPut_bn x e;subst hk hsz;rw[<-p1,<-p2,<-p3] at h;exact⟨h,s_,Bt.mid_leaf hx.fit t1 hx.at' hx.ok hnd hit ⟨hkh,hvh⟩ hx.few,n1,n2⟩
theorem Db {d:Nat}{x:Bt (d+2)}(hx:Bt.Walk S o t x)(hnd:(Bt.h_ x).Nodup)(hit:Bt.ItLt (Bt.its x))(hkh:e.kh<2^64)(hvh:e.vh<2^64)(hLx:∀h∈L,h∉Bt.h_ x)(hk:belowB e.k (Bn.es x)=k)(hkl:k<(Bn.ks x).length)(hsz:sz=(Bt.its x).length)
 (hL:L=L'++U) (hp:Bt.Put S S' o t (Bn.ks x)[k] e U none) (n1:U.length=Bt.trail (Bt.F0 t e.k (Bn.ks x)[k])) (n2:false=(Bt.F0 t e.k (Bn.ks x)[k]).all id)
 (h:eH w ps Z bt bl D t v bN wc S' Y v' L' vk vv vc sz (Bt.bn x).j_ (Bt.bn x).C9 (Bt.bn x).A6):∃x',gQ w ps S o Z bt bl D t v L x e bN wc S' Y v' L' U x' vk vv vc:=by
 have t1:1<=t:=by have:=hx.t1;omega
 subst hk hsz;obtain⟨y,hy,M⟩:=Bt.mid_kid t1 hx.at' hx.ok hnd hx.F1 hit (fun a ha=>by grind) hx.few (fun a ha=>hLx a (hL▸aA _ ha)) hkl hp;obtain⟨p1,p2,p3⟩:=Bt.kidPut_bn x _ hkl (y:=y) hy;obtain⟨m1,m2⟩:=Bt.num_none t1 hx.ok rfl hkl y n1 n2;rw[<-p1,<-p2,<-p3] at h;exact⟨_,h,hL,M,m1,m2⟩
theorem Dc {d:Nat}{x:Bt (d+2)}(hx:Bt.Walk S o t x)(hnd:(Bt.h_ x).Nodup)(hit:Bt.ItLt (Bt.its x))(hkh:e.kh<2^64)(hvh:e.vh<2^64)(hLx:∀h∈L,h∉Bt.h_ x)(hk:belowB e.k (Bn.es x)=k)(hkl:k<(Bn.ks x).length)(hsz:sz=(Bt.its x).length){m:It}{g:Nat}
 (hL:L=L'++U) (hp:Bt.Put S S' o t (Bn.ks x)[k] e U (some (m,g))) (n1:U.length=Bt.trail (Bt.F0 t e.k (Bn.ks x)[k])) (n2:true=(Bt.F0 t e.k (Bn.ks x)[k]).all id)
 (h:eH w ps Z bt bl D t v bN wc S' Y v' L' vk vv vc sz ((Bt.bn x).j_.take k++m.kh::(Bt.bn x).j_.drop k) ((Bt.bn x).C9.take k++m.vh::(Bt.bn x).C9.drop k) ((Bt.bn x).A6.take (k+1)++g::(Bt.bn x).A6.drop (k+1))):∃x',gQ w ps S o Z bt bl D t v L x e bN wc S' Y v' L' U x' vk vv vc:=by
 have t1:1<=t:=by have:=hx.t1;omega
 subst hk hsz;obtain⟨y1,y2,h1,h2,M⟩:=Bt.mid_split t1 hx.at' hx.ok hnd hx.F1 hit (fun a ha=>by grind) hx.few (fun a ha=>hLx a (hL▸aA _ ha)) hkl hp;obtain⟨p1,p2,p3⟩:=Bt.kidSplit_bn x _ hkl (y1:=y1) (y2:=y2) m h1;obtain⟨m1,m2⟩:=Bt.F3 t1 rfl hkl y1 m y2 n1 n2;have h2:Bt.hd (d:=d+1) y2=g:=h2;rw[h2] at p3;rw[<-p1,<-p2,<-p3] at h;exact⟨_,h,hL,M,m1,m2⟩
end
structure jp (w:World) (ps:Nat) (S:St) (o:Nat->Nat) (Z:Nat->Prop) (bt bl D t:Nat) (v:Value) (L:List Nat) {d:Nat} (y:Bt (d+1)) (e:It) (bN:Nat) (vk vv vc:Value) (sz:Nat) (ks vs cs:List Nat) (b:Nat) (wc:World) (r:Option (It×Nat)) (S4:St) (Y4:Nat->Prop) (v4:Value) (L4 U:List Nat):Prop where
 held:eH w ps Z bt bl D t v bN wc S4 Y4 v4 L4 vk vv vc sz ks vs cs
 sum:L=L4++U
 put:Bt.Put S S4 o t y e U r
 num:U.length=Bt.trail (Bt.F0 t e.k y)
 all:r.isSome=(Bt.F0 t e.k y).all id
 up:wc.1[b]?=some (.cells (iQ r) 274 (0,0))
theorem Bt.trail_cons(b:Bool)(r:List Bool):Bt.trail r<=Bt.trail (b::r):=by
 conv=>rhs;unfold Bt.trail
 by_cases h:r.all id=true
 ·rw[if_pos h,Bt.trail_all h]
  split<;>omega
 grind
section
variable {w wc wc':World}{ps:Nat}{Z:Nat->Prop}{bt bl D t:Nat}{v:Value}{bN:Nat}{S S' S2:St}{o:Nat->Nat}{Y Y':Nat->Prop}{v' v2:Value}{L L' L2:List Nat}{vk vv vc uk uv uc:Value}{sz sz' k:Nat}{ks vs cs ks' vs' cs':List Nat}{e:It}
theorem eH.u_(h:eH w ps Z bt bl D t v bN wc S' Y v' L' vk vv vc sz ks vs cs){b:Nat}{cs0:Array Value}{fr:Nat×Nat}(hb:Y b)(h3:w.1.size+3<=b)(hx:wc.1[b]?=some (.cells cs0 274 fr))(hz:cs0.size<64)(kp:Fo (fun k=>k≠b) wc wc'):eH w ps Z bt bl D t v bN wc' S' Y v' L' vk vv vc sz ks vs cs:=by
 have n3:∀{u:Value} {l:List Nat},FE wc (w.1.size+3) u l->∀g,u.ownBlock=some g->g≠b:=fun hu g hg q=>by
  obtain⟨ad,ai,e1⟩:=(hu.block hg).2.2
  grind
 have nb:bN≠b:=fun q=>by
  have e1:=h.box
  grind
 refine h.move (h.st.write (b:=b) hb hx ⟨d_,d_⟩ hz kp.size fun k _ hk=>kp.block k hk) (fun k hk=>hk) (kp.M fun k hk=>?_) (h.sp.keeps fun k hk=>kp.block k (by have:=h.zl k (h.spz k hk);omega)) h.own ((kp.block bN nb).T h.box) ⟨?_,?_,?_,h.rows.kv,h.rows.kc,h.rows.vc⟩ h.yk
 ·exact qDcab
 ·exact h.rows.k.at fun g hg=>kp.block g (n3 h.rows.k g hg)
 ·exact h.rows.v.at fun g hg=>kp.block g (n3 h.rows.v g hg)
 ·exact h.rows.c.at fun g hg=>kp.block g (n3 h.rows.c g hg)
theorem Bt.Walk.kid_lt {d:Nat}{x:Bt (d+2)}(hx:Bt.Walk S o t x)(hk:belowB e.k (Bn.es x)=k):k<(Bn.ks x).length:=hk▸hx.klen e.k
theorem BG {d:Nat}(hrec:j4 d){x:Bt (d+2)}(hx:Bt.Walk S o t x)(hnd:(Bt.h_ x).Nodup){i:Nat}(hid:i+(d+1)<40)(spare:lG S t L)(hLx:∀h∈L,h∉Bt.h_ x)(hL:L.length<=1000)(hnew:∀a∈Bt.its x,a.k≠e.k)(hit:Bt.ItLt (Bt.its x))(hkh:e.kh<2^64)(hvh:e.vh<2^64)(htr:Bt.trail (Bt.F0 t e.k x)<=L.length)(hk:belowB e.k (Bn.es x)=k)(hkl:k<(Bn.ks x).length)
 {Y1:Nat->Prop} (Hd:eH w ps Z bt bl D t v bN wc S Y1 v L vk vv vc sz ks vs cs):
 Ct 182 #[FH ps t,Xu (Bt.hd (Bn.ks x)[k]:Nat),SV e.k,Id e.kh e.vh,JB bt bl,Xi ((i:Int)+1)] wc fun en w'=>∃(r:Option (It×Nat)) (S4:St) (v4:Value) (L4 U:List Nat),en=.returned (ky r)/\(L=L4++U/\Bt.Put S S4 o t (Bn.ks x)[k] e U r/\U.length=Bt.trail (Bt.F0 t e.k (Bn.ks x)[k])/\r.isSome=(Bt.F0 t e.k (Bn.ks x)[k]).all id/\eH w ps Z bt bl D t v bN w' S4 Y1 v4 L4 vk vv vc sz ks vs cs/\Fo (fun k=>Y1 k/\k≠bl) wc w'):=by
 have hm:=ao hkl;have ad:∀a∈Bt.its (Bn.ks x)[k],a∈Bt.its x:=fun a ha=>Bt.kid_its hx.ok.okN hm ha;have ai:(Bt.h_ (Bn.ks x)[k]).Nodup:=by
  rw[Bt.nodes_parts hkl] at hnd;grind
 have an:Bt.trail (Bt.F0 t e.k (Bn.ks x)[k])<=L.length:=by
  grind [mI,Nat.le_trans,Bt.trail_cons]
 have hc:=hrec (i+1) Hd.st (hx.kid hm) ai o_ Hd.sp spare (fun h hh q=>hLx h hh (Bt.mem_nodes_kid hm q)) (Hd.zy _ Hd.zs.1) (Hd.zy _ Hd.zs.2.1) (fun b hb=>Hd.zy _ (Hd.zs.2.2 b hb)) hL (fun a ha=>hnew a (ad a ha)) (fun a ha=>hit a (ad a ha)) hkh hvh an;have e1:((i+1:Nat):Int)=(i:Int)+1:=o_
 refine hc.M ?_;rintro en w' ⟨r,S4,v4,L4,U,rfl,h1,h2,h3,h4,h5,h6,h7,h8⟩;exact⟨r,S4,v4,L4,U,rfl,h1,h2,h7,h8,Hd.kid h3 h4 h5 h6,h4⟩
end
section
variable {w wc wc':World}{ps:Nat}{Z:Nat->Prop}{bt bl D t:Nat}{v:Value}{bN:Nat}{S S4:St}{o:Nat->Nat}{Y:Nat->Prop}{v4:Value}{L L4 U:List Nat}{vk vv vc:Value}{sz:Nat}{ks vs cs:List Nat}{e:It}{d:Nat}{y:Bt (d+1)}{r:Option (It×Nat)}{Y1:Nat->Prop}{w0:World}
theorem jp.new(h:L=L4++U/\Bt.Put S S4 o t y e U r/\U.length=Bt.trail (Bt.F0 t e.k y)/\r.isSome=(Bt.F0 t e.k y).all id/\eH w ps Z bt bl D t v bN wc S4 Y v4 L4 vk vv vc sz ks vs cs/\Fo (fun k=>Y1 k/\k≠bl) w0 wc):
 jp w ps S o Z bt bl D t v L y e bN vk vv vc sz ks vs cs wc.1.size (wc.alloc (.cells (iQ r) 274)) r S4 (fun k=>Y k\/(wc.1.size<=k/\k<(wc.alloc (.cells (iQ r) 274)).1.size)) v4 L4 U:=
 ⟨h.2.2.2.2.1.a_ ((aa _ wc).alloc Ih _),h.1,h.2.1,h.2.2.1,h.2.2.2.1,heap_alloc_new wc _⟩
theorem jp.set(h:L=L4++U/\Bt.Put S S4 o t y e U r/\U.length=Bt.trail (Bt.F0 t e.k y)/\r.isSome=(Bt.F0 t e.k y).all id/\eH w ps Z bt bl D t v bN wc S4 Y v4 L4 vk vv vc sz ks vs cs/\Fo (fun k=>Y1 k/\k≠bl) w0 wc){b:Nat}(hb:Y b)(h3:w.1.size+3<=b){z0 z1 z2 z3 c0 c1 c2 c3:Value}(hx:wc.1[b]?=some (.cells #[z0,z1,z2,z3] 274 (0,0)))(hr:iQ r=#[c0,c1,c2,c3]):
 jp w ps S o Z bt bl D t v L y e bN vk vv vc sz ks vs cs b ((((wc.setCell (y_ b) (c0)).setCell (x_ b 1) (c1)).setCell (x_ b 2) (c2)).setCell (x_ b 3) (c3)) r S4 Y v4 L4 U:=
 ⟨h.2.2.2.2.1.u_ hb h3 hx s_ ((((Fo.mark fun _ h=>h).T (Fo.mark fun _ h=>h)).T (Fo.mark fun _ h=>h)).T (Fo.mark fun _ h=>h)),h.1,h.2.1,h.2.2.1,h.2.2.2.1,by
  rw[hr];exact heap_setCell (i:=3) (v:=c3) (heap_setCell (i:=2) (v:=c2) (heap_setCell (i:=1) (v:=c1) (heap_setCell (i:=0) (v:=c0) hx)))⟩
theorem jp.ne {b:Nat}(h:jp w ps S o Z bt bl D t v L y e bN vk vv vc sz ks vs cs b wc r S4 Y v4 L4 U):b<wc.1.size/\vk.ownBlock≠some b/\vv.ownBlock≠some b/\vc.ownBlock≠some b/\b≠bN:=by
 have hb:=h.up;refine⟨(gl hb),fun q=>?_,fun q=>?_,fun q=>?_,fun q=>?_⟩
 ·obtain⟨cs,fr,e⟩:=(h.held.rows.k.block q).2.2
  grind
 ·obtain⟨cs,fr,e⟩:=(h.held.rows.v.block q).2.2
  grind
 ·obtain⟨cs,fr,e⟩:=(h.held.rows.c.block q).2.2
  grind
 ·have e:=h.held.box
  grind
end
theorem Bt.bnok_of {S:St}{o:Nat->Nat}(hf:Fw S o){t:Nat}(t1:2<=t)(t2:t<=16){d:Nat}{x:Bt (d+1)}(hk:∀k∈Bn.ks x,Bt.At S t k)(ok:Bt.Ok t x):iU t (Bt.bn x):=by
 refine⟨t1,t2,by unfold Bt.bn;rw[am];exact ok.1,by unfold Bt.bn;grind,?_⟩;have hq:=ok.2.1;unfold Bt.bn;simp only[am]
 by_cases hd0:d=0
 ·grind
 ·rw[if_neg hd0] at hq;refine ae ⟨hq,?_⟩
  grind [List.contains_iff_mem,Bt.At.hd_ok]
section
variable {w wc wc':World}{ps:Nat}{Z:Nat->Prop}{bt bl D t:Nat}{v:Value}{bN:Nat}{S S4 S2:St}{o:Nat->Nat}{Y:Nat->Prop}{v4 v2:Value}{L L4 L2 U:List Nat}{vk vv vc:Value}{sz:Nat}{ks vs cs:List Nat}{e:It}{d:Nat}
theorem eH.fin(h:eH w ps Z bt bl D t v bN wc S2 Y v2 L2 vk vv vc sz ks vs cs){z0 z1 z2 z3:Value}(hx:wc.1[w.1.size+2]?=some (.cells #[z0,z1,z2,z3] 274 (0,0)))(c0 c1 c2 c3:Value)(wd:World)(hwd:wd=((((wc.setCell (y_ (w.1.size+2)) (c0)).setCell (x_ (w.1.size+2) 1) (c1)).setCell (x_ (w.1.size+2) 2) (c2)).setCell (x_ (w.1.size+2) 3) (c3))):
 Ig wd ps S2 Z/\Fo (fun k=>Z k/\k≠bl) w wd/\gz wd bt bl D ps t v2 L2/\wd.1[w.1.size+2]?=some (.cells #[c0,c1,c2,c3] 274 (0,0)):=by
 subst hwd;have kp:Fo (fun k=>k≠w.1.size+2) wc ((((wc.setCell (y_ (w.1.size+2)) (c0)).setCell (x_ (w.1.size+2) 1) (c1)).setCell (x_ (w.1.size+2) 2) (c2)).setCell (x_ (w.1.size+2) 3) (c3)):=(((Fo.mark fun _ h=>h).T (Fo.mark fun _ h=>h)).T (Fo.mark fun _ h=>h)).T (Fo.mark fun _ h=>h);refine⟨(h.st.write (b:=w.1.size+2) h.yb.2.2 hx ⟨d_,d_⟩ s_ kp.size fun k _ hk=>kp.block k hk).M fun k hk=>h.zy k hk,h.w_.T (kp.M fun k hk=>by have:=h.zl k hk.1;omega),h.sp.keeps fun k hk=>kp.block k (by have:=h.zl k (h.spz k hk);omega),?_⟩;exact heap_setCell (i:=3) (v:=c3) (heap_setCell (i:=2) (v:=c2) (heap_setCell (i:=1) (v:=c1) (heap_setCell (i:=0) (v:=c0) hx)))
theorem gQ.putting {x:Bt (d+1)}{U:List Nat}{x':Bt (d+1)}{L':List Nat}{v':Value}{S':St}(M:gQ w ps S o Z bt bl D t v L x e bN wc S' Y v' L' U x' vk vv vc):Fv S'/\S'.len (Bn.h x)=(6*t,0)/\Bn.h x<2^64/\(Bt.its x').length=(Bt.its x).length+1/\(Bt.bn x').j_.length=(Bn.es x').length/\(Bt.bn x').C9.length=(Bn.es x').length/\(Bt.bn x').A6.length=(Bn.ks x').length:=by
 obtain⟨ws,hr,hw⟩:=M.mid.own;refine⟨M.mid.fit.inv,by rw[jw M.mid.fit.tab hr,hw],(fL M.mid.fit hr).2.1,by rw[M.mid.its,Bt.insB_length],?_,?_,?_⟩
 ·unfold Bt.bn
  grind
 ·unfold Bt.bn
  grind
 ·unfold Bt.bn
  grind
end
theorem FE.some {w:World}{D:Nat}{v:Value}{l:List Nat}(h:FE w D v l)(hl:0<l.length):∃b c,v=.slice (some (y_ b)) l.length c/\l.length<=c:=by
 rcases h.2 with⟨e,e2⟩ | ⟨b,c,ad,e,hb,ai,ar,an,ap,ht⟩
 ·exact absurd e2 (by intro q;simp[q] at hl)
 grind
theorem FD.take {w:World}{b n c c' j:Nat}{l:List Nat}(h:FD w (.slice (some (y_ b)) n c) l)(hj:j<=l.length):FD w (.slice (some (y_ b)) j c') (l.take j):=by
 obtain⟨A,c1,e,hc⟩:=h
 injection e with e1 e2 e3
 subst e1;refine⟨_,c',by rw[aK,Nat.min_eq_left hj],fun k hk=>?_⟩;have ad:k<l.length:=by rw[aK] at hk;omega
 grind
theorem FD.drop {w:World}{b n c c' j:Nat}{l:List Nat}(h:FD w (.slice (some (y_ b)) n c) l)(hj:j<=l.length):FD w (.slice (some (x_ b j)) (n-j) c') (l.drop j):=by
 obtain⟨A,c1,e,hc⟩:=h
 injection e with e1 e2 e3
 subst e1;refine⟨_,c',by rw[bT,e2],fun k hk=>?_⟩;have ad:j+k<l.length:=by rw[bT] at hk;omega
 grind
structure eV (wc wd:World) (ps:Nat) (S':St) (Y:Nat->Prop) (bL bR:Nat) (l r:Array Value):Prop where
 st:Ig wd ps S' (fun k=>Y k\/k=bL\/k=bR)
 yl:∀k,Y k->k<wc.1.size
 kp:Fo Y wc wd
 bl:wd.1[bL]?=some (.cells l 215 (0,0))
 br:wd.1[bR]?=some (.cells r 215 (0,0))
 ge:wc.1.size<=bL/\wc.1.size<=bR/\bL≠bR
section
variable {wc wd wd':World}{ps:Nat}{S' S2:St}{Y:Nat->Prop}{bL bR:Nat}{l r:Array Value}
theorem eV.start(st:Ig wc ps S' Y)(l r:Array Value):eV wc ((wc.alloc (.cells l 215)).alloc (.cells r 215)).drew ps S' Y wc.1.size (wc.1.size+1) l r:=by
 have z1:(wc.alloc (.cells l 215)).1.size=wc.1.size+1:=s_
 have c1:=(aa (wc.alloc (.cells l 215)).1.size (wc.alloc (.cells l 215))).alloc Ih (.cells r 215);have b2:=(c_ wc (.cells l 215)).T (c1.M (by rw[z1];omega));have q2:=heap_alloc_new (wc.alloc (.cells l 215)) (.cells r 215);rw[z1] at q2;have hs:((wc.alloc (.cells l 215)).alloc (.cells r 215)).drew.1.size=wc.1.size+2:=s_
 refine⟨(st.wide b2.drew).M fun k hk=>?_,st.yl,st.w_ b2.drew,((c1.block wc.1.size (by rw[z1];omega)).T (heap_alloc_new wc (.cells l 215))),q2,Nat.le_refl _,o_,o_⟩
 grind
theorem eV.turn(h:eV wc wd ps S' Y bL bR l r):eV wc wd ps S' Y bR bL r l:=
 ⟨h.st.M fun k hk=>by rcases hk with hk | hk | hk;exact ab hk;exact ae (ae hk);exact ae (ab hk),h.yl,h.kp,h.br,h.bl,h.ge.2.1,h.ge.1,h.ge.2.2.S⟩
theorem eV.lt(h:eV wc wd ps S' Y bL bR l r):bL<wd.1.size/\bR<wd.1.size:=⟨(gl h.bl),(gl h.br)⟩
theorem eV.a_(h:eV wc wd ps S' Y bL bR l r)(hb:D_ wd wd'):eV wc wd' ps S' Y bL bR l r:=
 ⟨h.st.a_ hb,h.yl,h.kp.T (Fo.v_ hb fun k hk=>by have:=h.yl k hk;have:=h.kp.size;omega),(hb.block _ h.lt.1).T h.bl,(hb.block _ h.lt.2).T h.br,h.ge⟩
theorem eV.put(h:eV wc wd ps S' Y bL bR l r)(st:Ig wd' ps S2 (fun k=>Y k\/k=bL\/k=bR))(kp:Fo (fun k=>Y k\/k=bL\/k=bR) wd wd'):eV wc wd' ps S2 Y bL bR l r:=
 ⟨st,h.yl,h.kp.T (kp.M fun _ hk=>ab hk),(kp.block _ (ae (ab rfl))).T h.bl,(kp.block _ (ae (ae rfl))).T h.br,h.ge⟩
theorem eV.setL(h:eV wc wd ps S' Y bL bR l r)(hl:l.size<64)(i:Nat)(v:Value)(l':Array Value)(e:(wd.setCell (x_ bL i) v).1[bL]?=some (.cells l' 215 (0,0))):eV wc (wd.setCell (x_ bL i) v) ps S' Y bL bR l' r:=
 ⟨h.st.write (b:=bL) (ae (ab rfl)) h.bl ⟨d_,d_⟩ hl s_ fun k _ hk=>FB hk,h.yl,h.kp.T (Fo.mark fun k hk=>by have:=h.yl k hk;have:=h.ge.1;omega),e,(FB (Ne.S h.ge.2.2)).T h.br,h.ge⟩
theorem eV.row(h:eV wc wd ps S' Y bL bR l r){v:Value}{u:List Nat}(hu:FD wc v u)(hy:∀g,v.ownBlock=some g->Y g):FD wd v u:=hu.keeps fun g hg _=>h.kp.block g (hy g hg)
end
section
variable {wc wd:World}{ps:Nat}{S':St}{Y:Nat->Prop}{bL bR:Nat}{a b c z a' b' c' z':Value}
theorem eV.setL2(h:eV wc wd ps S' Y bL bR #[a,b,c,z] #[a',b',c',z'])(v:Value):eV wc (wd.setCell (x_ bL 2) v) ps S' Y bL bR #[a,b,v,z] #[a',b',c',z']:=h.setL s_ 2 v _ (heap_setCell (i:=2) (v:=v) h.bl)
theorem eV.setL3(h:eV wc wd ps S' Y bL bR #[a,b,c,z] #[a',b',c',z'])(v:Value):eV wc (wd.setCell (x_ bL 3) v) ps S' Y bL bR #[a,b,c,v] #[a',b',c',z']:=h.setL s_ 3 v _ (heap_setCell (i:=3) (v:=v) h.bl)
theorem eV.setR2(h:eV wc wd ps S' Y bL bR #[a,b,c,z] #[a',b',c',z'])(v:Value):eV wc (wd.setCell (x_ bR 2) v) ps S' Y bL bR #[a,b,c,z] #[a',b',v,z']:=(h.turn.setL2 v).turn
theorem eV.setR3(h:eV wc wd ps S' Y bL bR #[a,b,c,z] #[a',b',c',z'])(v:Value):eV wc (wd.setCell (x_ bR 3) v) ps S' Y bL bR #[a,b,c,z] #[a',b',c',v]:=(h.turn.setL3 v).turn
end
theorem EC {α:Type}(f:α->Nat)(l:List α)(a j:Nat):(((l.drop a).take j).map f).sum<=(l.map f).sum:=by
 have h1:(l.map f).sum=((l.take a).map f).sum+((l.drop a).map f).sum:=by rw[<-dG,<-aN,aU]
 grind [List.take_append_drop]
theorem ED {α:Type}(f:α->Nat)(l:List α){j:Nat}(h:j<l.length):((l.take (j+1)).map f).sum=((l.take j).map f).sum+f l[j]:=by
 grind [List.take_succ_eq_append_getElem]
namespace Bt
theorem Put.same {S S':St}{o:Nat->Nat}{t d:Nat}{x:Bt (d+1)}{e:It}{U V:List Nat}{r:Option (It×Nat)}(h:Put S S' o t x e U r)(hv:∀y,y∈U↔y∈V):Put S S' o t x e V r:=by
 refine⟨h.fit,h.grew,fun y h1 h2=>h.fr y h1 fun q=>h2 ((hv y).1 q),?_⟩;have:=h.res
 cases r with
 | none=>
  obtain⟨y,a,b,c,d,e,f,g⟩:=this;exact⟨y,a,b,c,d,e,f,fun z=>(g z).T (or_congr Iff.rfl (hv z))⟩
 | some q=>
  obtain⟨m,g⟩:=q;obtain⟨y1,y2,a1,a2,a3,a4,a5,a6,a7,a8,a9,ad,ai⟩:=this;exact⟨y1,y2,a1,a2,a3,a4,a5,a6,a7,a8,a9,ad,fun z=>(ai z).T (or_congr Iff.rfl (hv z))⟩
end Bt
namespace Bt
theorem leftOf_bn(t:Nat){d:Nat}(x:Bt (d+1)):(bn (G_ t x)).j_=(bn x).j_.take t/\(bn (G_ t x)).C9=(bn x).C9.take t/\(bn (G_ t x)).A6=(bn x).A6.take (t+1):=by
 refine⟨?_,?_,?_⟩
 ·show ((Bn.es x).take t).map _=((Bn.es x).map _).take t
  simp_all
 ·show ((Bn.es x).take t).map _=((Bn.es x).map _).take t
  simp_all
 ·show ((Bn.ks x).take (t+1)).map _=((Bn.ks x).map _).take (t+1)
  simp_all
theorem rightOf_bn(t:Nat){d:Nat}(x:Bt (d+1))(g:Nat):(bn (G5 t x g)).j_=(bn x).j_.drop (t+1)/\(bn (G5 t x g)).C9=(bn x).C9.drop (t+1)/\(bn (G5 t x g)).A6=(bn x).A6.drop (t+1)/\(bn (G5 t x g)).A6=((Bn.ks x).drop (t+1)).map hd:=by
 refine⟨?_,?_,?_,rfl⟩
 ·show ((Bn.es x).drop (t+1)).map _=((Bn.es x).map _).drop (t+1)
  simp_all
 ·show ((Bn.es x).drop (t+1)).map _=((Bn.es x).map _).drop (t+1)
  simp_all
 ·show ((Bn.ks x).drop (t+1)).map _=((Bn.ks x).map _).drop (t+1)
  simp_all
end Bt
section
variable {w wc:World}{ps:Nat}{Z:Nat->Prop}{bt bl D t:Nat}{v:Value}{bN:Nat}{S S':St}{o:Nat->Nat}{Y:Nat->Prop}{v':Value}{L L' U:List Nat}{vk vv vc:Value}{e:It}{d:Nat}{x x':Bt (d+1)}
theorem gQ.spare(M:gQ w ps S o Z bt bl D t v L x e bN wc S' Y v' L' U x' vk vv vc)(htr:Bt.trail (Bt.F0 t e.k x)<=L.length)(spare:lG S t L)(hLx:∀h∈L,h∉Bt.h_ x)(hn:(Bn.es x').length=2*t):∃L2 g,L'=L2++[g]/\g∉U/\g∉Bt.h_ x/\g≠Bn.h x/\∃wg,i_ S g=some wg/\i_ S' g=some wg/\wg.length=6*t:=by
 have ap:=M.num;have an:L.length=L'.length+U.length:=by rw[M.sum,ag]
 have ai:L'≠[]:=fun q=>by grind
 obtain⟨L2,g,hg⟩:∃L2 g,L'=L2++[g]:=⟨L'.dropLast,L'.getLast ai,(List.dropLast_concat_getLast ai).S⟩;have hm:g∈L:=by rw[M.sum,hg];simp
 have ad:=spare.nd;rw[M.sum,hg] at ad;have hU:g∉U:=fun q=>(aF.1 ad).2.2 g s_ g q rfl;obtain⟨wg,h1,h2⟩:=spare.recs g hm;exact⟨L2,g,hg,hU,hLx g hm,fun q=>hLx g hm (q▸Bt.hd_mem x),wg,h1,(M.mid.fr g (hLx g hm) hU).T h1,h2⟩
theorem gQ.halves(M:gQ w ps S o Z bt bl D t v L x e bN wc S' Y v' L' U x' vk vv vc)(t1:2<=t)(hn:(Bn.es x').length=2*t)(g:Nat):Bt.Ok t (Bt.G_ t x')/\Bt.Ok t (Bt.G5 t x' g)/\(Bt.its x').length=(Bt.its (Bt.G_ t x')).length+1+(Bt.its (Bt.G5 t x' g)).length/\(∀k∈Bn.ks (Bt.G_ t x'),Bt.At S' t k)/\(∀k∈Bn.ks (Bt.G5 t x' g),Bt.At S' t k)/\(Bt.its (Bt.G5 t x' g)).length=(Bn.es x').length-(t+1)+(((Bn.ks x').drop (t+1)).map fun k=>(Bt.its k).length).sum:=by
 obtain⟨c1,c2,c3,c4,c5⟩:=M.mid.okN.split o_ hn g;refine⟨c2,c3,?_,fun k hk=>M.mid.A6 k (bD hk),fun k hk=>M.mid.A6 k (bB hk),?_⟩
 ·grind
 ·rw[Bt.its_len c3.okN]
  show ((Bn.es x').drop (t+1)).length+_=_
  rw[bT]
  rfl
theorem gQ.lts(M:gQ w ps S o Z bt bl D t v L x e bN wc S' Y v' L' U x' vk vv vc)(t1:2<=t)(hn:(Bn.es x').length=2*t)(g:Nat):iT (Bt.bn (Bt.G_ t x'))/\iT (Bt.bn (Bt.G5 t x' g)):=by
 have hs:=(M.halves t1 hn g).2.2.1;have hz:(Bt.its x').length<2^64:=M.mid.lt.size;have ad:∀q∈Bn.es x',q.kh<2^64/\q.vh<2^64:=fun q hq=>⟨M.mid.lt.j_ _ (az.2 ⟨q,hq,rfl⟩),M.mid.lt.C9 _ (az.2 ⟨q,hq,rfl⟩)⟩;exact⟨Bt.bnLt_of M.mid.fit (fun q hq=>ad q (bD hq)) (fun k hk=>M.mid.A6 k (bD hk)) o_,Bt.bnLt_of M.mid.fit (fun q hq=>ad q (bB hq)) (fun k hk=>M.mid.A6 k (bB hk)) o_⟩
end
theorem ri {S':St}{o:Nat->Nat}{t ps:Nat}:∀{d:Nat} {k:Bt d},Fw S' o->2<=t->t<=16->Bt.At S' t k->Bt.Ok t k->(Bt.its k).length<2^62->∀(W:World) (Yx:Nat->Prop),Ig W ps S' Yx->Cb 175 #[FH ps t,Xu (Bt.hd k:Nat)] W (Xi (Bt.its k).length)
 | 0,k,_,_,_,_,_,_=>nomatch k
 | _+1,_,hf,t1,t2,ha,ok,hz=>fun _ _ hst=>nS hst hf.inv (Bt.At.read hf t1 t2 ha ok) hz
section
variable {w wc:World}{ps:Nat}{Z:Nat->Prop}{bt bl D t:Nat}{v:Value}{bN:Nat}{S S':St}{o:Nat->Nat}{Y:Nat->Prop}{v':Value}{L L' U:List Nat}{vk vv vc:Value}{e:It}{d:Nat}{x x':Bt (d+1)}
theorem gQ.left_put(M:gQ w ps S o Z bt bl D t v L x e bN wc S' Y v' L' U x' vk vv vc)(t1:2<=t)(t2:t<=16)(hn:(Bn.es x').length=2*t){g:Nat}(hgx:g≠Bn.h x){wg:List Nat}(hg:i_ S' g=some wg):Fw (FC S' (Bn.h x) 0 (v8 t (Bt.bn (Bt.G_ t x')))) o/\i_ (FC S' (Bn.h x) 0 (v8 t (Bt.bn (Bt.G_ t x')))) g=some wg:=by
 obtain⟨ws,hr,hw⟩:=M.mid.own;have hh:Bt.hd (Bt.G_ t x')=Bn.h x:=M.mid.hd;have hp:=Bt.put_node (x:=Bt.G_ t x') M.mid.fit (fun k hk=>M.mid.A6 k (bD hk)) (fun k hk=>by
  show Bn.h x'∉_
  exact Bt.hd_kids M.mid.nd k (bD hk)) (by rw[hh];exact hr) hw (M.lts t1 hn 0).1 (by show ((Bn.es x').take t).length<1000;rw[aK];omega)
 grind
theorem gQ.done(M:gQ w ps S o Z bt bl D t v L x e bN wc S' Y v' L' U x' vk vv vc)(t1:2<=t)(t2:t<=16)(hn:(Bn.es x').length=2*t){g:Nat}(hU:g∉U)(hx:g∉Bt.h_ x){wg:List Nat}(h1:i_ S g=some wg)(h2:wg.length=6*t)(ht:t<(Bn.es x').length):
 Bt.Put S (FC (FC S' (Bn.h x) 0 (v8 t (Bt.bn (Bt.G_ t x')))) g 0 (v8 t (Bt.bn (Bt.G5 t x' g)))) o t x e (g::U) (some ((Bn.es x')[t],g))/\(g::U).length=Bt.trail (Bt.F0 t e.k x)/\true=(Bt.F0 t e.k x).all id:=by
 have ai:=M.num;have ad:=M.all;rw[if_pos hn] at ai;rw[decide_eq_true hn] at ad;exact⟨(M.mid.cut o_ t2 hn hU hx h1 h2).same fun y=>by grind,o_,ad⟩
end
end
section
open Lf
namespace Tr
variable{S:St}{d:It}{o:Nat->Nat}{t:Tr}
def gV(l:List (List UInt8×List UInt8))(a b:List UInt8):List (List UInt8×List UInt8):=
 l.filter (fun p=>decide (Fu p.1 a<0))++(a,b)::l.filter (fun p=>decide (0<Fu p.1 a))
theorem AQ{a:List UInt8}{L M:List (List UInt8×List UInt8)}(x:List (List UInt8×List UInt8))(hx:∀p∈x,p.1=a)(hL:∀p∈L,Fu p.1 a<0)(hM:∀p∈M,Fu a p.1<0):
 (L++x++M).filter (fun p=>decide (Fu p.1 a<0))=L/\(L++x++M).filter (fun p=>decide (0<Fu p.1 a))=M:=by
 have h1:L.filter (fun p=>decide (Fu p.1 a<0))=L:=List.filter_eq_self.2 fun p hp=>by simpa using hL p hp
 have h2:M.filter (fun p=>decide (0<Fu p.1 a))=M:=List.filter_eq_self.2 fun p hp=>by have:=hM p hp;rw[ie] at this;simp;omega
 have h3:L.filter (fun p=>decide (0<Fu p.1 a))=[]:=dq.2 fun p hp=>by have:=hL p hp;simp;omega
 have h4:M.filter (fun p=>decide (Fu p.1 a<0))=[]:=dq.2 fun p hp=>by have:=hM p hp;rw[ie] at this;simp;omega
 have h5:x.filter (fun p=>decide (Fu p.1 a<0))=[]:=dq.2 fun p hp=>by rw[hx p hp,fX];simp
 have h6:x.filter (fun p=>decide (0<Fu p.1 a))=[]:=dq.2 fun p hp=>by rw[hx p hp,fX];simp
 grind
theorem rO(a b:List It):F_ (a++b)=F_ a++F_ b:=by unfold F_;simp
theorem oO{a b:List UInt8}{tl tr mid:List It}(hd:d.k=a/\d.v=b)(hm:∀x∈mid,x.k=a)(h1:∀x∈tl,Fu x.k a<0)(h2:∀x∈tr,Fu a x.k<0):
 F_ (tl++d::tr)=gV (F_ (tl++mid++tr)) a b:=by
 obtain⟨f1,f2⟩:=AQ (a:=a) (L:=F_ tl) (M:=F_ tr) (F_ mid) (fun p hp=>by obtain⟨x,hx,rfl⟩:=az.1 hp;exact hm x hx) (fun p hp=>by obtain⟨x,hx,rfl⟩:=az.1 hp;exact h1 x hx) (fun p hp=>by obtain⟨x,hx,rfl⟩:=az.1 hp;exact h2 x hx);grind [gV,rO,F_]
theorem gu.frame{S S':St}(h:gu S d)(h1:i_ S' d.kh=i_ S d.kh)(h2:i_ S' d.vh=i_ S d.vh):gu S' d:=⟨h1.T h.k,h2.T h.v,h.lk,h.lv⟩
theorem fC.some{Ok:Tr->Prop}(h:fC Ok S o t):∀y∈eB t.its,i_ S y≠none:=by
 intro y hy;obtain⟨d,hd,e⟩:=gU.1 hy;have hb:=h.F4 d hd
 rcases e with rfl | rfl | rfl
 ·obtain⟨n,hn⟩:=h.at'.rec d.h (az.2 ⟨d,hd,rfl⟩)
  grind
 ·rw[hb.k]
  simp
 ·rw[hb.v]
  simp
theorem fC.frame{Ok:Tr->Prop}{S S':St}{o o':Nat->Nat}(h:fC Ok S o t)(hf:Fw S' o')(hs:∀y∈eB t.its,i_ S' y=i_ S y):fC Ok S' o' t where
 fit:=hf
 at':=h.at'.frame fun y hy=>by
  obtain⟨d,hd,rfl⟩:=az.1 hy;exact hs _ (gU.2 ⟨d,hd,ab rfl⟩)
 ok:=h.ok
 nd:=h.nd
 F4 d hd:=(h.F4 d hd).frame (hs _ (gU.2 ⟨d,hd,ae (ab rfl)⟩)) (hs _ (gU.2 ⟨d,hd,ae (ae rfl)⟩))
 F1:=h.F1
theorem xF(hf:Fw S o){a b:List UInt8}(ha:a.length<=1000)(hb:b.length<=1000)(hr:fc S 7 3):
 ∃ka vb hn S2 S3 o3,itemsM S a b=some ((ka,vb),S2)/\ft S2 ⟨ka,vb,0,0,0,1⟩=((hn,0),S3)/\pJ S a b/\Fw S3 o3/\i_ S ka=none/\i_ S vb=none/\i_ S hn=none/\ka≠vb/\ka≠hn/\vb≠hn/\
  i_ S3 ka=some (FK a)/\i_ S3 vb=some (FK b)/\i_ S3 hn=some (eM ⟨ka,vb,0,0,0,1⟩)/\(∀h',h'≠ka->h'≠vb->h'≠hn->i_ S3 h'=i_ S h')/\ej S S3 7 3:=by
 obtain⟨ka,S1,o1,e1,f1,n1,l1,q1,g1,k1⟩:=oL hf ha (hr.M o_ o_);obtain⟨vb,S2,o2,e2,f2,n2,l2,q2,g2,k2⟩:=oL f1 hb (fc.grew (hr.M (p':=3+3) (q':=1+1) o_ o_) g1);have ad:ka≠vb:=by rintro rfl;rw[l1] at n2;cases n2
 have r2:fc S2 1 1:=fc.grew (hr.M (p':=(3+3)+1) (q':=(1+1)+1) o_ o_) (g1.T g2);have ar:ji ⟨ka,vb,0,0,0,1⟩:=⟨(fL f1 l1).2.1,(fL f2 l2).2.1,s_,s_,s_,s_⟩;obtain⟨hn,S3,o3,e3,f3,n3,l3,q3,g3,k3⟩:=Cq f2 ar r2;have ai:ka≠hn:=by rintro rfl;rw[q2 _ ad,l1] at n3;cases n3
 have an:vb≠hn:=by rintro rfl;rw[l2] at n3;cases n3
 have ap:itemsM S a b=some ((ka,vb),S2):=by
  unfold itemsM;rw[e1];simp only;rw[e2];simp
 refine⟨ka,vb,hn,S2,S3,o3,ap,e3,⟨⟨ha,hb,k1,by rw[e1];exact k2⟩,fun p S4 h4=>?_⟩,f3,n1,(q1 _ ad.S).S.T n2,((q1 _ ai.S).S.T (q2 _ an.S).S).T n3,ad,ai,an,(q3 _ ai).T ((q2 _ ad).T l1),(q3 _ an).T l2,l3,fun h' w1 w2 w3=>(q3 h' w3).T ((q2 h' w2).T (q1 h' w1)),((g1.T g2).T g3).M o_ o_⟩;grind
theorem ze{Ok:Tr->Prop}{S S3 S5:St}{o o5:Nat->Nat}{t u tl tr:Tr}{mid:List It}(h:fC Ok S o t)(hi:t.its=tl.its++mid++tr.its)(iu:u.its=tl.its++d::tr.its)
 (hd:∀y,y=d.h\/y=d.kh\/y=d.vh->i_ S y=none) (hdn:d.kh≠d.vh/\d.kh≠d.h/\d.vh≠d.h) (f5:Fw S5 o5) (au:At S5 u) (ou:Ok u)
 (h3:∀y∈eB t.its,i_ S3 y=i_ S y) (hb3:gu S3 d) (h5:∀y,y∉t.hs->y≠d.h->i_ S5 y=i_ S3 y)
 (h1:∀x∈tl.its,Fu x.k d.k<0) (h2:∀x∈tr.its,Fu d.k x.k<0):fC Ok S5 o5 u:=by
 have ar:∀x,x∈tl.its\/x∈tr.its->x∈t.its:=fun x hx=>by
  grind
 have ai:∀y∈eB t.its,y≠d.h/\y≠d.kh/\y≠d.vh:=fun y hy=>by
  have:=h.some y hy;refine⟨?_,?_,?_⟩<;>rintro rfl
  ·exact this (hd _ (ab rfl))
  ·exact this (hd _ (ae (ab rfl)))
  grind
 have ad:=h.nd;have e:eB t.its=eB tl.its++(eB mid++eB tr.its):=by rw[hi,iX,iX,aV]
 rw[e] at ad ai;obtain⟨n1,n2,n3⟩:=aF.1 ad;obtain⟨n4,n5,n6⟩:=aF.1 n2;refine⟨f5,au,ou,?_,?_,?_⟩
 ·rw[iu,iX,mx];grind
 ·intro x hx;rw[iu] at hx;have hold:x∈t.its->gu S5 x:=fun hm=>by
   have hs:=(h.hs).2 x hm;have hk:x.kh∈eB t.its:=gU.2 ⟨x,hm,ae (ab rfl)⟩;have hv:x.vh∈eB t.its:=gU.2 ⟨x,hm,ae (ae rfl)⟩;refine(h.F4 x hm).frame ((h5 _ hs.1 ?_).T (h3 _ hk)) ((h5 _ hs.2 ?_).T (h3 _ hv))
   ·exact(ai _ (by rw[<-e];exact hk)).1
   grind
  rcases aq.1 hx with hx | hx
  ·grind
  ·rcases ah.1 hx with rfl | hx
   ·have an:∀y,y=x.h\/y=x.kh\/y=x.vh->y∉t.hs:=fun y hy hm=>by
     obtain⟨z,hz,rfl⟩:=az.1 hm;exact h.some _ (gU.2 ⟨z,hz,ab rfl⟩) (hd _ hy)
    exact hb3.frame (h5 _ (an _ (ae (ab rfl))) hdn.2.1) (h5 _ (an _ (ae (ae rfl))) hdn.2.2)
   grind
 ·have ap:=h.F1;rw[hi] at ap;obtain⟨s1,s2,s3⟩:=bE.1 ap;obtain⟨s4,s5,s6⟩:=bE.1 s1;rw[iu];refine bE.2 ⟨s4,bC.2 ⟨fun y hy=>h2 y hy,s2⟩,fun x hx y hy=>?_⟩;rcases ah.1 hy with rfl | hy
  ·exact h1 x hx
  grind
theorem uW{jn:Jn}{Ok:Tr->Prop}(J:kV jn Ok){S S3:St}{o o3:Nat->Nat}(h:fC Ok S o t)(hc:t.its.length<98)(f3:Fw S3 o3)(ha:d.k.length<=1000)(hv:d.v.length<=1000)
 (hd:∀y,y=d.h\/y=d.kh\/y=d.vh->i_ S y=none) (hdn:d.kh≠d.vh/\d.kh≠d.h/\d.vh≠d.h) (hk:i_ S3 d.kh=some (FK d.k)) (hvv:i_ S3 d.vh=some (FK d.v)) {n0:Nd} (hn:i_ S3 d.h=some (eM n0)) (hn1:n0.key=d.kh) (hn2:n0.val=d.vh)
 (h3:∀y∈eB t.its,i_ S3 y=i_ S y):
 ∃u old S5 tl tr mid,insertOkM jn S3 t.f9 d.h=some ((u.f9,old),S5)/\fC Ok S5 o3 u/\t.its=tl++mid++tr/\u.its=tl++d::tr/\(∀x∈tl,Fu x.k d.k<0)/\(∀x∈tr,Fu d.k x.k<0)/\ej S3 S5 0 0/\
  (∀y,y∉t.hs->y≠d.h->i_ S5 y=i_ S3 y)/\((old=0/\mid=[])\/∃(x:It) (n1:Nd),mid=[x]/\old=x.h/\x.k=d.k/\i_ S5 x.h=some (eM n1)/\n1.key=x.kh/\n1.val=x.vh):=by
 have h':=h.frame f3 h3;have ai:=h.hs;have ad:d.h∉t.hs:=fun hm=>by
  obtain⟨z,hz,e⟩:=az.1 hm;grind [gU]
 have ap:=gw f3 hn;have ba:=(fL f3 hn).1;obtain⟨tl,m,tr,S4,e4,f4,al,ar,a8,a9,o4,g4,hm,hlt,au⟩:=sn J d.k 200 f3 h'.at' h'.ok ai.1 (fun x hx=>⟨h'.F4 x hx,(ai.2 x hx).1⟩) h'.F1 o_ o_;have a4:i_ S4 d.h=some (eM n0):=(o4 _ ad).T hn;obtain⟨mid,a0,a2⟩:∃mid:List It,t.its=tl.its++mid++tr.its/\((m=0/\mid=[])\/∃(x:It) (n1:Nd),mid=[x]/\m=x.h/\x.k=d.k/\i_ S4 x.h=some (eM n1)/\n1.key=x.kh/\n1.val=x.vh):=by
  grind
 have a6:t.hs=tl.hs++(mid.map (·.h))++tr.hs:=by unfold Tr.hs;grind
 have a1:=ai.1;rw[a6] at a1 ad;obtain⟨n1,n2,n3⟩:=aF.1 a1;obtain⟨n4,n5,n6⟩:=aF.1 n1;simp only[aq,not_or] at ad;have a5:(tl.hs++d.h::tr.hs).Nodup:=aF.2 ⟨n4,aI.2 ⟨ad.2,n2⟩,fun x hx y hy q=>by
  grind⟩
 have a3:tl.its.length+tr.its.length<99:=by grind
 obtain⟨u,S5,e5,D5,a',iu⟩:=J.join f4 al ar a8 a9 a4 hn1 hn2 a5 a3;have an:∀y,y∉t.hs->y≠d.h->i_ S5 y=i_ S3 y:=fun y hy hy2=>by
  refine(D5.u_ y fun hm=>?_).T (o4 y hy);grind
 refine⟨u,m,S5,tl.its,tr.its,mid,?_,?_,a0,iu,hlt,au,g4.T D5.grew,an,?_⟩
 ·unfold insertOkM;rw[ap];simp only;rw[hn1,jt f3 ha hk];rw[if_neg (by
   have:isT S3 d.h=true:=by unfold isT;rw[ap];simp
   rw[h'.at'.isT f3,this];simp;omega)]
  grind [jq]
 ·exact ze h a0 iu hd hdn D5.fit D5.at' a' h3 ⟨hk,hvv,ha,hv⟩ an hlt au
 ·rcases a2 with⟨e0,e⟩ | ⟨x,a7,ex,e0,ek,q1,q2,q3⟩
  ·grind
  ·refine ae ⟨x,a7,ex,e0,ek,(D5.u_ _ fun hm=>?_).T q1,q2,q3⟩;grind
def tm(S S':St)(l:List It):Prop:=∀y,y∉eB l->i_ S y≠none->i_ S' y=i_ S y
def KY(S S':St)(l l':List It):Prop:=∀y,i_ S' y≠none->y∈eB l'\/i_ S y≠none/\y∉eB l
theorem qDcaa{P:Prop}(h:P:=by
 simp only[aq,ah] at hy⊢
 rcases hy with q | rfl | rfl | rfl | q
 ·exact ab (ab (ab q))
 ·exact ae r3
 ·exact ae r1
 ·exact ae r2
 ·exact ab (ae q)):P:=h
theorem DI{jn:Jn}{Ok:Tr->Prop}(J:kV jn Ok)(h:fC Ok S o t)(hc:t.its.length<98){a b:List UInt8}(ha:a.length<=1000)(hb:b.length<=1000)(hr:fc S 7 3)(hno:∀d∈t.its,d.k≠a):
 ∃u S' o',pJ S a b/\treePutM jn S t.f9 a b=some (u.f9,S')/\fC Ok S' o' u/\F_ u.its=gV (F_ t.its) a b/\u.its.length=t.its.length+1/\ej S S' 7 3/\tm S S' t.its/\(∀y∈eB u.its,y∈eB t.its\/i_ S y=none)/\KY S S' t.its u.its:=by
 obtain⟨ka,vb,hn,S2,S3,o3,a0,a1,a2,f3,r1,r2,r3,d1,d2,d3,l1,l2,l3,q3,g3⟩:=xF h.fit ha hb hr;have an:∀y,i_ S y≠none->i_ S3 y=i_ S y:=fun y hy=>q3 y (by rintro rfl;exact hy r1) (by rintro rfl;exact hy r2) (by rintro rfl;exact hy r3);obtain⟨u,a3,S5,tl,tr,mid,e5,B5,ad,iu,hlt,au,g5,ap,ar⟩:=uW J (d:=⟨hn,ka,vb,a,b⟩) h hc f3 ha hb (by rintro y (rfl | rfl | rfl)<;>assumption) ⟨d1,d2,d3⟩ l1 l2 l3 rfl rfl (fun y hy=>an y (h.some y hy));have ai:a3=0/\mid=[]:=by
  rcases ar with q | ⟨x,n1,ex,_,ek,_⟩
  ·exact q
  ·exact absurd ek (hno x (by rw[ad,ex];simp))
 refine⟨u,S5,o3,a2,?_,B5,?_,?_,(g3.T g5).M o_ o_,fun y hy hs=>(ap y (fun hm=>?_) ?_).T (an y hs),fun y hy=>?_,fun y hy=>Classical.byCases (p:=y∈eB u.its) ab fun hm=>ae ?_⟩
 ·unfold treePutM;rw[a0];simp only;unfold binInsM;rw[a1];simp only;rw[if_neg s_,e5];simp only;rw[if_pos ai.1]
 ·rw[iu,ad];exact oO ⟨rfl,rfl⟩ (fun x hx=>by rw[ai.2] at hx;cases hx) hlt au
 ·rw[iu,ad,ai.2]
  simp;omega
 ·obtain⟨z,hz,rfl⟩:=az.1 hm;exact hy (gU.2 ⟨z,hz,ab rfl⟩)
 ·rintro rfl;exact hs r3
 ·rw[iu,iX,mx] at hy;rw[ad,iX,iX];exact qDcaa
 ·rw[iu,iX,mx] at hm;simp only[aq,ah,not_or] at hm;obtain⟨p1,p2,p3,p4,p5⟩:=hm;have hm:y∉eB t.its:=by
   rw[ad,ai.2,aW,iX];simp only[aq,not_or];exact⟨p1,p5⟩
  refine⟨fun q=>hy ?_,hm⟩;rw[ap y (fun hs=>hm ?_) p2,q3 y p3 p4 p2]
  ·exact q
  ·obtain⟨z,hz,rfl⟩:=az.1 hs;exact gU.2 ⟨z,hz,ab rfl⟩
theorem DJ{jn:Jn}{Ok:Tr->Prop}(J:kV jn Ok)(h:fC Ok S o t)(hc:t.its.length<98){a b:List UInt8}(ha:a.length<=1000)(hb:b.length<=1000)(hr:fc S 7 3){x:It}(hx:x∈t.its)(hxk:x.k=a):
 ∃u S6 S8 o',pJ S a b/\treeRepM jn S t.f9 a b=some ((u.f9,x.kh,x.vh),S6)/\Fw S6 o'/\fz S6 x.vh=(x.v,0)/\Fv (S6.drop x.kh).2/\S8=((S6.drop x.kh).2.drop x.vh).2/\fC Ok S8 o' u/\F_ u.its=gV (F_ t.its) a b/\u.its.length=t.its.length/\ej S S8 7 3/\tm S S8 t.its/\(∀y∈eB u.its,y∈eB t.its\/i_ S y=none)/\KY S S8 t.its u.its:=by
 obtain⟨ka,vb,hn,S2,S3,o3,a9,ba,bb,f3,r1,r2,r3,d1,d2,d3,l1,l2,l3,q3,g3⟩:=xF h.fit ha hb hr;have an:∀y,i_ S y≠none->i_ S3 y=i_ S y:=fun y hy=>q3 y (by rintro rfl;exact hy r1) (by rintro rfl;exact hy r2) (by rintro rfl;exact hy r3);obtain⟨u,bd,S5,tl,tr,mid,e5,B5,ai,iu,hlt,a4,g5,ap,a8⟩:=uW J (d:=⟨hn,ka,vb,a,b⟩) h hc f3 ha hb (by rintro y (rfl | rfl | rfl)<;>assumption) ⟨d1,d2,d3⟩ l1 l2 l3 rfl rfl (fun y hy=>an y (h.some y hy));have a':∃n1:Nd,mid=[x]/\bd=x.h/\i_ S5 x.h=some (eM n1)/\n1.key=x.kh/\n1.val=x.vh:=by
  have au:∀z,(z∈tl\/z∈tr)->z≠x:=by
   rintro z hz rfl
   rcases hz with hz | hz
   ·have:=hlt z hz;simp only[hxk,fX] at this;omega
   ·have:=a4 z hz;simp only[hxk,fX] at this;omega
  rcases a8 with⟨_,q⟩ | ⟨z,n1,ez,eo,_,e1,e2,e3⟩
  ·rw[ai,q] at hx;simp only[aW,aq] at hx;exact absurd rfl (au x hx)
  ·have:z=x:=by
    rw[ai,ez] at hx;simp only[aq,ah,bX,or_false] at hx
    rcases hx with (hx | hx) | hx
    ·exact absurd rfl (au x (ab hx))
    ·exact hx.S
    ·exact absurd rfl (au x (ae hx))
   subst this;exact⟨n1,ez,eo,e1,e2,e3⟩
 obtain⟨n1,em,eo,x1,x2,x3⟩:=a';have a0:=h.F4 x hx;have bc:x.h∈eB t.its:=gU.2 ⟨x,hx,ab rfl⟩;have a1:x.kh∈eB t.its:=gU.2 ⟨x,hx,ae (ab rfl)⟩;have a2:x.vh∈eB t.its:=gU.2 ⟨x,hx,ae (ae rfl)⟩;have a7:=h.nd;have ar:eB t.its=eB tl++([x.h,x.kh,x.vh]++eB tr):=by rw[ai,em,iX,iX,aV];rfl
 rw[ar] at a7;have ad:x.h∉eB u.its/\x.kh∉eB u.its/\x.vh∉eB u.its/\x.kh≠x.h/\x.vh≠x.h/\x.kh≠x.vh:=by
  obtain⟨p1,p2,p3⟩:=aF.1 a7;obtain⟨p4,p5,p6⟩:=aF.1 p2;have hw:∀y∈ [x.h,x.kh,x.vh],y∉eB u.its:=fun y hy hm=>by
   rw[iu,iX,mx] at hm;have a3:i_ S y≠none:=h.some y (by rw[ar];simp only[aq];exact ae (ab hy))
   rcases aq.1 hm with hm | hm
   ·exact p3 y hm y (by simp only[aq];exact ab hy) rfl
   ·simp only[ah] at hm
    rcases hm with hm | hm | hm | hm
    ·exact a3 (hm▸r3)
    ·exact a3 (hm▸r1)
    ·exact a3 (hm▸r2)
    ·exact p6 y hy y hm rfl
  simp only[aI,ah,bX,or_false,not_or] at p4;exact⟨hw _ s_,hw _ s_,hw _ s_,fun q=>p4.1.1 q.S,fun q=>p4.1.2 q.S,p4.2.1⟩
 have a6:x.kh∉t.hs/\x.vh∉t.hs:=h.hs.2 x hx;have a5:x.kh≠hn/\x.vh≠hn:=⟨fun q=>h.some _ a1 (q▸r3),fun q=>h.some _ a2 (q▸r3)⟩;have k5:i_ S5 x.kh=some (FK x.k):=(ap _ a6.1 a5.1).T ((an _ (h.some _ a1)).T a0.k);have v5:i_ S5 x.vh=some (FK x.v):=(ap _ a6.2 a5.2).T ((an _ (h.some _ a2)).T a0.v);obtain⟨S6,e6,f6,m6,o6,g6⟩:=AH B5.fit x1;have k6:=(o6 _ ad.2.2.2.1).T k5;have v6:=(o6 _ ad.2.2.2.2.1).T v5;obtain⟨S7,e7,f7,m7,o7,g7⟩:=mQ f6 k6;have v7:=(o7 _ ad.2.2.2.2.2.S).T v6;obtain⟨S8,e8,f8,m8,o8,g8⟩:=mQ f7 v7;refine⟨u,S6,S8,o3,bb,?_,f6,jt f6 a0.lv v6,by rw[e7];exact f7.inv,by rw[e7,e8],B5.frame f8 (fun y hy=>?_),?_,?_,((((g3.T g5).T g6).T g7).T g8).M o_ o_,fun y hy hs=>?_,fun y hy=>?_,fun y hy=>Classical.byCases (p:=y∈eB u.its) ab fun hm=>ae ?_⟩
 ·unfold treeRepM;rw[a9];simp only;unfold binRepM;rw[ba];simp only;rw[if_neg s_,e5];simp only;rw[eo,e6];simp only;rw[gw B5.fit x1,x2,x3]
 ·have w1:y≠x.h:=fun q=>ad.1 (q▸hy);have w2:y≠x.kh:=fun q=>ad.2.1 (q▸hy);have w3:y≠x.vh:=fun q=>ad.2.2.1 (q▸hy);exact(o8 y w3).T ((o7 y w2).T (o6 y w1))
 ·rw[iu,ai];exact oO ⟨rfl,rfl⟩ (fun z hz=>by rw[em] at hz;simp only[ah,bX,or_false] at hz;rw[hz];exact hxk) hlt a4
 ·rw[iu,ai,em]
  simp
 ·have w1:y≠x.h:=fun q=>hy (q▸bc);have w2:y≠x.kh:=fun q=>hy (q▸a1);have w3:y≠x.vh:=fun q=>hy (q▸a2);refine(o8 y w3).T ((o7 y w2).T ((o6 y w1).T ((ap y (fun hm=>?_) ?_).T (an y hs))))
  ·obtain⟨z,hz,rfl⟩:=az.1 hm;exact hy (gU.2 ⟨z,hz,ab rfl⟩)
  ·rintro rfl;exact hs r3
 ·rw[iu,iX,mx] at hy;rw[ai,iX,iX];exact qDcaa
 ·rw[iu,iX,mx] at hm;simp only[aq,ah,not_or] at hm;obtain⟨p1,p2,p3,p4,p5⟩:=hm;have w1:y≠x.h:=by
   rintro rfl;exact hy ((o8 _ ad.2.2.2.2.1.S).T ((o7 _ ad.2.2.2.1.S).T m6))
  have w2:y≠x.kh:=by
   rintro rfl;exact hy ((o8 _ ad.2.2.2.2.2).T m7)
  have w3:y≠x.vh:=by
   rintro rfl;exact hy m8
  have hm:y∉eB t.its:=by
   rw[ar];simp only[aq,ah,bX,or_false,not_or];exact⟨p1,⟨w1,w2,w3⟩,p5⟩
  refine⟨fun q=>hy ?_,hm⟩;rw[o8 y w3,o7 y w2,o6 y w1,ap y (fun hs=>hm ?_) p2,q3 y p3 p4 p2]
  ·exact q
  ·obtain⟨z,hz,rfl⟩:=az.1 hs;exact gU.2 ⟨z,hz,ab rfl⟩
end Tr
end
section
open Lf Tr
def ff(l:List It):List Nat:=l.flatMap fun d=>[d.kh,d.vh]
theorem gh {l:List It}{y:Nat}:y∈ff l↔∃d∈l,y=d.kh\/y=d.vh:=by
 unfold ff;grind
theorem nO(a b:List It):ff (a++b)=ff a++ff b:=by unfold ff;grind
namespace Bt
structure Tree (S:St) (o:Nat->Nat) (t:Nat) {d:Nat} (x:Bt (d+1)):Prop where
 fit:Fw S o
 t1:2<=t
 t2:t<=16
 at':At S t x
 ok:Ok t x
 F1:(its x).Pairwise eU
 F4:∀a∈its x,gu S a
 few:(its x).length<1000000
 h_:(h_ x).Nodup
 texts:(ff (its x)).Nodup
 apart:∀h∈Bt.h_ x,h∉ff (its x)
 pos:1<=nk x
variable {S S':St}{o o':Nat->Nat}{t d:Nat}{x:Bt (d+1)}
theorem Tree.walk(h:Tree S o t x):Walk S o t x:=
 ⟨h.fit,h.t1,h.t2,h.at',h.ok,h.F1,⟨fun a ha=>(blobs_lt h.fit (h.F4 a ha)).1,fun a ha=>jt h.fit (h.F4 a ha).lk (h.F4 a ha).k⟩,h.few⟩
theorem Tree.lts(h:Tree S o t x):ItLt (its x):=fun a ha=>blobs_lt h.fit (h.F4 a ha)
theorem Tree.low(h:Tree S o t x):d<19:=by
 have h1:=pow_le t h.t1 h.ok h.pos;have h2:=h.few
 rcases cE d 19 with h3 | h3
 ·omega
 ·have:2^20<=2^(d+1):=cU d_ o_;omega
def recs(x:Bt (d+1)):List Nat:=Bt.h_ x++ff (its x)
theorem Tree.has(h:Tree S o t x):∀y∈recs x,i_ S y≠none:=fun y hy q=>by
 rcases aq.1 hy with hy | hy
 ·obtain⟨n,e⟩:=h.at'.rec y hy;rw[q] at e;cases e
 ·obtain⟨a,ha,e⟩:=gh.1 hy;have hb:=h.F4 a ha;rcases e with rfl | rfl
  ·have:=hb.k;rw[q] at this;cases this
  ·have:=hb.v;rw[q] at this;cases this
theorem Tree.frame(h:Tree S o t x)(hf:Fw S' o')(hs:∀y∈recs x,i_ S' y=i_ S y):Tree S' o' t x:=
 ⟨hf,h.t1,h.t2,h.at'.frame fun y hy=>hs y (aD _ hy),h.ok,h.F1,fun a ha=>(h.F4 a ha).frame (hs _ (aA _ (gh.2 ⟨a,ha,ab rfl⟩))) (hs _ (aA _ (gh.2 ⟨a,ha,ae rfl⟩))),h.few,h.h_,h.texts,h.apart,h.pos⟩
theorem blobH_ins {e:It}:∀{l:List It},∀y,y∈ff (insB e l)↔y=e.kh\/y=e.vh\/y∈ff l:=fun {l} y=>by
 constructor
 ·intro hy;obtain⟨a,ha,q⟩:=gh.1 hy;rcases kg.1 ha with rfl | ha
  ·rcases q with q | q
   ·exact ab q
   ·exact ae (ab q)
  ·exact ae (ae (gh.2 ⟨a,ha,q⟩))
 ·rintro(q | q | hy)
  ·exact gh.2 ⟨e,kg.2 (ab rfl),ab q⟩
  ·exact gh.2 ⟨e,kg.2 (ab rfl),ae q⟩
  ·obtain⟨a,ha,q⟩:=gh.1 hy;exact gh.2 ⟨a,kg.2 (ae ha),q⟩
theorem zA {e:It}{l:List It}:(ff (insB e l)).Perm (e.kh::e.vh::ff l):=by
 have h:(insB e l).Perm (e::l):=by
  refine List.perm_middle.T ?_;rw[aU]
 unfold ff
 grind
structure New (S:St) (x:Bt (d+1)) (e:It):Prop where
 F4:gu S e
 ne:e.kh≠e.vh
 off:e.kh∉recs x/\e.vh∉recs x
 key:∀a∈its x,a.k≠e.k
 few:(its x).length+1<1000000
theorem New.texts {e:It}(n:New S x e)(h:Tree S o t x){L:List Nat}(hL:∀y∈L,i_ S y=none):(ff (insB e (its x))).Nodup/\∀y∈ff (insB e (its x)),y∉Bt.h_ x/\y∉L:=by
 refine⟨zA.nodup_iff.2 (aI.2 ⟨fun hm=>?_,aI.2 ⟨fun hm=>n.off.2 (aA _ hm),h.texts⟩⟩),fun y hy=>?_⟩
 ·rcases ah.1 hm with q | hm
  ·exact n.ne q
  ·exact n.off.1 (aA _ hm)
 ·have hk:i_ S y≠none:=by
   intro q;obtain⟨a,ha,e1⟩:=gh.1 hy;have hb:gu S a:=by
    rcases kg.1 ha with rfl | ha
    ·exact n.F4
    ·exact h.F4 a ha
   rcases e1 with rfl | rfl
   ·have:=hb.k
    grind
   ·have:=hb.v
    grind
  refine⟨fun hm=>?_,fun hm=>hk (hL y hm)⟩
  rcases(blobH_ins y).1 hy with q | q | hb
  ·exact n.off.1 (q▸aD _ hm)
  ·exact n.off.2 (q▸aD _ hm)
  ·exact h.apart y hm hb
theorem New.stay {e:It}(n:New S x e)(h:Tree S o t x){L:List Nat}(hL:∀y∈L,i_ S y=none)(hS:∀y,y∉Bt.h_ x->y∉L->i_ S' y=i_ S y):∀a∈insB e (its x),gu S' a:=fun a ha=>by
 have hb:gu S a:=by
  rcases kg.1 ha with rfl | ha
  ·exact n.F4
  ·exact h.F4 a ha
 have hd:=(n.texts h hL).2;have h1:=hd a.kh (gh.2 ⟨a,ha,ab rfl⟩);have h2:=hd a.vh (gh.2 ⟨a,ha,ae rfl⟩);exact hb.frame (hS _ h1.1 h1.2) (hS _ h2.1 h2.2)
theorem Tree.insert_none(h:Tree S o t x){e:It}(n:New S x e){S1 S2:St}{o1:Nat->Nat}{L U:List Nat}(hL:∀y∈L,i_ S y=none)(h1:∀y,y∉L->i_ S1 y=i_ S y)(hU:∀y∈U,y∈L)(p:Put S1 S2 o1 t x e U none):
 ∃y:Bt (d+1),hd y=hd x/\Tree S2 o1 t y/\its y=insB e (its x)/\(∀z,z∈Bt.h_ y↔z∈Bt.h_ x\/z∈U):=by
 obtain⟨y,a1,a2,a3,a4,a5,a6,a7⟩:=p.res;have hs:∀z,z∉Bt.h_ x->z∉L->i_ S2 z=i_ S z:=fun z q1 q2=>(p.fr z q1 fun q=>q2 (hU z q)).T (h1 z q2);obtain⟨t3,t4⟩:=n.texts h hL;refine⟨y,a1,⟨p.fit,h.t1,h.t2,a2,a3,by rw[a5];exact uR h.F1 n.key,by rw[a5];exact n.stay h hL hs,by rw[a5,insB_length];exact n.few,a6,by rw[a5];exact t3,fun z hz hb=>?_,aH h.pos a4⟩,a5,a7⟩;rw[a5] at hb
 rcases(a7 z).1 hz with q | q
 ·exact(t4 z hb).1 q
 ·exact(t4 z hb).2 (hU z q)
def F8(g:Nat)(m:It)(y1 y2:Bt (d+1)):Bt (d+2):=(⟨g,[m],[y1,y2]⟩:Bn (Bt (d+1)))
theorem wJ(g:Nat)(m:It)(y1 y2:Bt (d+1)):Bt.h_ (F8 g m y1 y2)=g::(Bt.h_ y1++Bt.h_ y2):=by
 show g::([y1,y2].map Bt.h_).flatten=_
 simp
theorem Tree.insert_root(h:Tree S o t x){e:It}(n:New S x e){S1 S2:St}{o1:Nat->Nat}{L U:List Nat}(hL:∀y∈L,i_ S y=none)(h1:∀y,y∉L->i_ S1 y=i_ S y)(hU:∀y∈U,y∈L){m:It}{g:Nat}(p:Put S1 S2 o1 t x e U (some (m,g))){r:Nat}(hr:r∈L)(hrU:r∉U){ws:List Nat}(hw:i_ S1 r=some ws)(hl:ws.length=6*t):
 ∃y1 y2:Bt (d+1),hd y1=hd x/\hd y2=g/\At S2 t y1/\At S2 t y2/\Ok t y1/\Ok t y2/\(its y1).length+(its y2).length+1<1000000/\Ok t (F8 r m y1 y2)/\iT (bn (F8 r m y1 y2))/\(i_ S2 r=some ws)/\Tree (FC S2 r 0 (v8 t (bn (F8 r m y1 y2)))) o1 t (F8 r m y1 y2)/\its (F8 r m y1 y2)=insB e (its x)/\(∀z∈Bt.h_ (F8 r m y1 y2),z∈Bt.h_ x\/z∈L)/\(∀z,z≠r->i_ (FC S2 r 0 (v8 t (bn (F8 r m y1 y2)))) z=i_ S2 z)/\ej S2 (FC S2 r 0 (v8 t (bn (F8 r m y1 y2)))) 0 0/\∀z,z∈Bt.h_ x\/z∈U\/z=r->z∈Bt.h_ (F8 r m y1 y2):=by
 obtain⟨y1,y2,a1,a2,a3,a4,a5,a6,a7,a8,a9,bb,ai⟩:=p.res;have a':r∉Bt.h_ x:=fun q=>h.has r (aD _ q) (hL r hr);have a0:i_ S2 r=some ws:=(p.fr r a' hrU).T hw;have hs:∀z,z∉Bt.h_ x->z∉L->i_ S2 z=i_ S z:=fun z q1 q2=>(p.fr z q1 fun q=>q2 (hU z q)).T (h1 z q2);obtain⟨t3,t4⟩:=n.texts h hL;have an:r∉Bt.h_ y1++Bt.h_ y2:=fun q=>((ai r).1 q).elim a' hrU;have ad:its (F8 r m y1 y2)=insB e (its x):=a9;have t1:=h.t1;have ok:Ok t (F8 r m y1 y2):=by
  refine⟨by show 1<=2*t-1;omega,by show 2=if d+1=0 then 0 else 1+1;rw[if_neg o_],fun k hk=>?_⟩;have hk:k∈ [y1,y2]:=hk
  rcases ah.1 hk with rfl | hk
  ·exact⟨a5,o_⟩
  ·rw[aE.1 hk];exact⟨a6,o_⟩
 have bc:(its y1).length+(its y2).length+1<1000000:=by
  have e1:=congrArg List.length a9;rw[ag,aj,insB_length] at e1;have:=n.few;omega
 have ar:∀k∈Bn.ks (F8 r m y1 y2),At S2 t k:=fun k hk=>by
  have hk:k∈ [y1,y2]:=hk
  rcases ah.1 hk with rfl | hk
  ·exact a3
  ·rw[aE.1 hk];exact a4
 have ba:=n.stay h hL hs;have ap:iT (bn (F8 r m y1 y2)):=bnLt_of p.fit (fun a ha=>blobs_lt p.fit (ba a (by rw[<-ad];exact lN ok.okN ha))) ar (by rw[ad,insB_length];have:=n.few;omega);have bd:∀k∈Bn.ks (F8 r m y1 y2),hd (F8 r m y1 y2)∉Bt.h_ k:=fun k hk q=>by
  have hk:k∈ [y1,y2]:=hk;have q:r∈Bt.h_ k:=q
  rcases ah.1 hk with rfl | hk
  ·exact an (aD _ q)
  ·rw[aE.1 hk] at q;exact an (aA _ q)
 obtain⟨p1,p2,p3,p4⟩:=put_node (x:=F8 r m y1 y2) p.fit ar bd (ws:=ws) a0 hl ap (by show 1<1000;omega);have p3:∀z,z≠r->i_ (FC S2 r 0 (v8 t (bn (F8 r m y1 y2)))) z=i_ S2 z:=p3;have au:∀z∈Bt.h_ (F8 r m y1 y2),z∈Bt.h_ x\/z∈L:=fun z hz=>by
  rw[wJ] at hz
  rcases ah.1 hz with rfl | hz
  ·exact ae hr
  ·exact((ai z).1 hz).imp id (hU z)
 refine⟨y1,y2,a1,a2,a3,a4,a5,a6,bc,ok,ap,a0,⟨p1,h.t1,h.t2,p2,ok,by rw[ad];exact uR h.F1 n.key,?_,by rw[ad,insB_length];exact n.few,?_,by rw[ad];exact t3,fun z hz hb=>?_,Nat.le_refl 1⟩,ad,au,p3,p4,fun z hz=>?_⟩
 ·rw[ad];intro a ha;have h5:=t4 a.kh (gh.2 ⟨a,ha,ab rfl⟩);have h6:=t4 a.vh (gh.2 ⟨a,ha,ae rfl⟩);exact(ba a ha).frame (p3 _ fun q=>h5.2 (q▸hr)) (p3 _ fun q=>h6.2 (q▸hr))
 ·rw[wJ];exact aI.2 ⟨an,bb⟩
 ·rw[ad] at hb
  rcases au z hz with q | q
  ·exact(t4 z hb).1 q
  ·exact(t4 z hb).2 q
 ·rw[wJ]
  rcases hz with q | q | rfl
  ·exact ak _ ((ai z).2 (.inl q))
  ·exact ak _ ((ai z).2 (.inr q))
  ·exact av ..
end Bt
end
section
open Go.RowKit Tryz Go.BigFrame Go.Maps Go.WideMaps Lf Tr
namespace Bt
variable{d:Nat}{j:Nat}
theorem LY:∀(es:List It) (ks:List (List It)),(ks=[]\/ks.length=es.length+1)->(ei es ks).length=es.length+(ks.map List.length).sum
 | [],[],_=>rfl
 | [],[k],_=>by simp[ei]
 | [],_::_::_,h=>by
  rcases h with h | h
  ·cases h
  ·simp at h
 | e::es,[],_=>by rw[jY];simp
 | e::es,k::ks,h=>by
  have h:ks.length=es.length+1:=by
   rcases h with h | h
   ·cases h
   ·simpa using h
  have:=LY es ks (.inr h);simp only[ei,ag,aj,this,bi,List.sum_cons];omega
def partS {d:Nat}(x:Bt (d+1))(j:Nat):Nat:=(Bn.es x).length+(((Bn.ks x).take j).map fun k=>(its k).length).sum
theorem partS_kid(x:Bt (d+1))(hj:j<(Bn.ks x).length):partS x (j+1)=partS x j+(its (Bn.ks x)[j]).length:=by
 unfold partS;rw[aw hj,aN,dG]
 simp
 omega
theorem partS_all(x:Bt (d+1))(h:(Bn.ks x).length=0\/(Bn.ks x).length=(Bn.es x).length+1)(hj:(Bn.ks x).length<=j):partS x j=(its x).length:=by
 rw[ga,LY _ _ (h.imp (fun h=>by rw[bI.1 h];rfl) fun h=>by rw[am,h]),cQ];unfold partS;rw[aQ hj];rfl
theorem partS_le(x:Bt (d+1))(h:(Bn.ks x).length=0\/(Bn.ks x).length=(Bn.es x).length+1)(j:Nat):partS x j<=(its x).length:=by
 rw[<-partS_all x h Ih];unfold partS;rw[cB]
 conv=>rhs;rw[<-aU j (Bn.ks x),aN,dG]
 omega
end Bt
theorem Lg {ps t:Nat}{S:St}{o:Nat->Nat}{w:World}{Y:Nat->Prop}(h:Ig w ps S Y):∀{d:Nat} (k:Bt d),Bt.Walk S o t k->Cb 175 #[FH ps t,Xu (Bt.hd k)] w (Xi (Bt.its k).length)
 | 0,k,_=>nomatch k
 | _+1,_,hk=>nS h hk.fit.inv hk.read hk.size.2
theorem Me {ps t:Nat}{S:St}{o:Nat->Nat}:∀(d:Nat) (x:Bt d),Bt.Walk S o t x->∀{w:World} {Y:Nat->Prop} {top:Bool},Ig w ps S Y->(if top=true then 1 else t-1)<=Bt.nk x->d<=40->(Bt.its x).length<=5000->
 Cb 172 #[FH ps t,Xu (Bt.hd x:Nat),.bool top,Xi ((d:Int)-1)] w (.bool true):=by
 intro d;induction d with
 | zero=>exact fun x=>nomatch x
 | succ d ih=>
  intro x hx w Y top h hk hd hl;have B0:=c_ w (Xc ps t);have q0:=heap_alloc_new w (Xc ps t);obtain⟨Wa,bk⟩:=Ii (w.alloc (Xc ps t));rw[bk] at B0 q0;have hg:=kI (h.a_ B0) hx.fit.inv hx.read;have bt:=hx.es.2.2;have a9:=hx.ok.2.1;have a':=hx.ok.2.2;have b1:=hx.t2;have b0:=hx.t1;obtain⟨c0,c1⟩:=Fp q0;have HG:=kq9 hg B0 q0 ih hx h hl a9 a';unfold FH;have If:((d+1:Nat):Int)-1=(d:Int):=o_
  rw[If];have ba:Bt.nk x=(Bn.es x).length:=rfl;rw[ba] at hk;clear hg B0 q0 ih hx h hl a9 a' If ba;go_enter func172,ntmps172;go_wp2_with fail;refine HG.a.M ?_;rintro e w1 ⟨vk,vv,vc,rfl,hr,hb⟩;obtain⟨kA,kc,rfl⟩:=hr.k.E_;obtain⟨vA,vC,rfl⟩:=hr.v.E_;obtain⟨cA,cc,rfl⟩:=hr.c.E_;unfold eC;obtain⟨z,hz⟩:=Ii (Bt.bn x).size;obtain⟨ke,ad⟩:=Ii (Bn.es x).length;obtain⟨m,hm⟩:=Ii (Bn.ks x).length;have lk:(Bt.bn x).j_.length=ke:=by rw[<-ad];exact am _
  have lv:(Bt.bn x).C9.length=ke:=by rw[<-ad];exact am _
  have lc:(Bt.bn x).A6.length=m:=by rw[<-hm];exact am _
  rw[hz,lk,lv,lc];rw[ad] at hk bt;have au:m=if d=0 then 0 else ke+1:=by rw[<-hm,<-ad];exact HG.h
  have A1:=c_ w1 (.cells #[.slice kA ke kc,.slice vA ke vC,.slice cA m cc,Xu z] 215);have q1:=heap_alloc_new w1 (.cells #[.slice kA ke kc,.slice vA ke vC,.slice cA m cc,Xu z] 215);obtain⟨W2,bj⟩:=Ii (w1.alloc (.cells #[.slice kA ke kc,.slice vA ke vC,.slice cA m cc,Xu z] 215));rw[bj] at A1 q1;have t2:=(A1.block _ (aB (gl HG.c) hb.size)).T ((hb.block _ (gl HG.c)).T HG.c);have b2:=HG.b.T ((hb.M HG.b.size).T (A1.M (aH HG.b.size hb.size)));have bd:=hr.c.at (w':=W2) fun g e=>A1.block g (hr.c.ge g e).2;obtain⟨y0,y1,y2,y3⟩:=Fy q1;obtain⟨a0,a1⟩:=Fp t2;have H2:=kq8 b2 bd q1 t2 ad hm lc hz;have bs:IntKind.i64.wrap ((t:Int)-1)=(t:Int)-1:=ax _ o_;have bx:m<=40:=by rw[au];split<;>omega
  obtain⟨b,f1,f2,f3,f4⟩:∃b:Bool,((m:Int)==0)=b/\((d:Int)==0)=b/\(m==0)=b/\(d==0)=b:=by
   refine⟨decide (d=0),?_,?_,?_,?_⟩<;>by_cases q:d=0<;>simp[au,q]<;>omega
  have bu:IntKind.i64.wrap ((d:Int)-1)=(d:Int)-1:=ax _ o_;clear A1 q1 t2 b2 bd hr hb ad hm lk lv lc hz au;cases top
  case' false=>
   have hlt:¬((ke:Int)<(t:Int)-1):=by simp at hk;omega
   go_wp2_with fail
  case' true=>
   have hlt:¬((ke:Int)<1):=by simp at hk;omega
   go_wp2_with fail
  all_goals
   clear y0 y1 y2 y3 a0 a1 c0 c1 hlt f1 f2 f3 f4 bs;go_loopw [8,12,14,49] (fun _ s12 _ s49 wr=>∃j:Nat,s49=Xi j/\j<=m/\s12=Xi (Bt.partS x j)/\Hid (D_ W2 wr)) (fun _ _ _ s49 _=>m-(intOf s49).toNat)
   case atStart=>exact⟨0,rfl,o_,by unfold Bt.partS;rw[H2.e];simp,aa _ _⟩
   case round=>
    obtain⟨j,rfl,hj,rfl,J0⟩:=hrel;have ai:=b_ H2.a J0.O;by_cases hjl:j<m
    ·have ap:j<(Bn.ks x).length:=by rw[H2.f];exact hjl
     have a7:=H2.b.at (w':=wr) fun g e=>J0.O.block g (H2.b.ge g e).2;obtain⟨bc,c3,e3,_,bf⟩:=a7.cell_at (j:=j) (by rw[H2.g];exact hjl);obtain⟨rfl,rfl⟩:cA=some (y_ bc)/\cc=c3:=by cases e3;exact⟨rfl,rfl⟩
     obtain⟨kid,ar⟩:=Ii ((Bn.ks x)[j]'(ap));have rc:wr.cell? (x_ bc j)=some (Xu (Bt.hd kid)):=by rw[bf,<-ar];simp[Bt.bn]
     have a2:kid∈Bn.ks x:=ar▸ao ap;have bb:Bt.partS x (j+1)=Bt.partS x j+(Bt.its kid).length:=by rw[Bt.partS_kid x ap,ar]
     have an:(Bn.ks x).length=0\/(Bn.ks x).length=(Bn.es x).length+1:=by have:=HG.h;split at this<;>omega
     have bo:=Bt.partS_le x an (j+1);have h1:=HG.g;have a5:=HG.e.kid a2;have hi:=HG.d kid a5 (top:=false) (HG.f.a_ ai) (by have:=(HG.i kid a2).2;simp;omega) o_ o_;have hs:=fun W (hW:D_ w W)=>Lg (HG.f.a_ hW) kid a5;unfold FH at hi hs;have tq:=(J0.O.block _ (gl H2.d)).T H2.d;obtain⟨a0,a1⟩:=Fp tq;have bm:(j:Int)<m:=o_
     have bq:IntKind.i64.wrap ((Bt.partS x j:Int)+((Bt.its kid).length:Nat))=((Bt.partS x (j+1):Nat):Int):=by rw[bb,ax _ o_];omega
     obtain⟨bv,a8⟩:=Ii (Bt.hd kid);rw[a8] at hi rc hs;have HE:=kq4 hi hs ai tq;clear hi hs ai tq bb bo h1 a5 a2 ar bf a7 e3 a8 an;generalize (Bt.its kid).length=kl at*;generalize Bt.partS x j=pj at*;obtain⟨pk,a4⟩:=Ii (Bt.partS x (j+1));rw[a4] at bq;have HQ:=If a4;clear a4 ap;go_wp2_with fail;refine dR HE.a fun w3 hb3=>?_;have B3:=b_ HE.c hb3;have t3:=(hb3.block _ (gl HE.d)).T HE.d;clear a0 a1 rc;obtain⟨a0,a1⟩:=Fp t3;have H3:=kq2 B3 (b_ J0.O hb3);clear B3 t3 hb3;go_wp2_with fail;refine dR (HE.b w3 H3.a) fun w4 hb4=>?_;have H4:=If (b_ H3.b hb4);clear hb4 a0 a1;go_wp2_with fail;go_roundw
     case rel=>exact⟨j+1,s_,o_,by rw[HQ.O],H4.O⟩
     case measure=>simp[intOf];omega
    ·obtain rfl:j=m:=o_
     have bm:¬(j:Int)<j:=o_
     have an:(Bn.ks x).length=0\/(Bn.ks x).length=(Bn.es x).length+1:=by have:=HG.h;split at this<;>omega
     have a3:=Bt.partS_all x an (j:=j) (by rw[H2.f];omega);have a6:Bt.partS x j=z:=by rw[a3,<-H2.h];rfl
     have b4:z<=5000:=by rw[<-a6,a3];exact HG.g
     rw[a6];have q3:=(J0.O.block _ (gl H2.c)).T H2.c;obtain⟨y0,y1,y2,y3⟩:=Fy q3;have HB:=If ai;clear a3 a6 an q3 ai;go_wp2_with fail;go_ret;exact⟨rfl,HB.O⟩
