/- Trees of any l_ checked and listed: parts, bulk, Tree: the walks. -/
import Derived.Test.YtpljannolpapgaaGreatDoorRRg
import Derived.Test.YtpljannolpapgaaGreatDoorRLu
set_option maxRecDepth 100000
set_option maxHeartbeats 25600000
namespace Go.Proofs.YtpljannolpapgaaGreatDoor
open Go.RowKit Tryz Go.BigFrame Go.Maps Go.WideMaps Lf Tr
variable{B:Nat}{S:St}{Y:Nat->Prop}{l_:Nat}{kv:Value}{o:Nat->Nat}{ps:Nat}{f9:Nat}{t:Nat}{ty:TypeId}{v:Value}{w:World}
theorem LQ(h:Ig w ps S Y)(hi:Fv S){j c:FuncId}(hk:j6 l_ j c)(hen:∀(args:Array Value) (w:World),(callFunc c args).run prog w=.ok (.enter c args) w)(hcc:∀W,D_ w W->Ct c #[PV ps,Xu f9] W fun e w'=>e=.returned (Xi 0)/\D_ W w'):
 Cb 134 #[PV ps,Xi l_,Xu f9] w (Xi 0):=by
 have ha:=yG h hi hk;simp only[gS,eL] at ha;have HG:=kq2 ha hcc;go_enter func134,ntmps134;go_wp2_with fail;refine dR HG.a fun w1 hb1=>?_;have H1:=If (hb1.alloc hb1.size (.cells #[PV ps,.func (.func j) #[] #[],.func (.func c) #[] #[]] 265));go_wp2_with fail;refine dR (HG.b _ H1.O) fun w2 hb2=>?_;have H2:=If (b_ H1.O hb2);go_wp2_with fail;go_ret;exact⟨rfl,H2.O⟩
theorem Lh(h:Ig w ps S Y)(hi:Fv S)(hk:l_=1\/l_=2)(t:Int)(hc:Cb 134 #[PV ps,Xi l_,Xu f9] w (Xi 0)):
 Cb 86 #[PV ps,Xi l_,Xi t,Xu f9] w (Xi 0):=by
 have hq:((l_:Int)==3)=false:=by grind
 have HG:=kq2 (zY h hi hk t) hc;go_enter func86,ntmps86;go_wp2_with fail;refine Jc HG.a ?_;go_wp2_with fail;refine dR HG.b fun w2 hb2=>?_;have H2:=If hb2;go_wp2_with fail;go_ret;exact⟨rfl,H2.O⟩
theorem Kq{px ps l_ td f9:Nat}(hT:FF w px ps ty kv l_ td f9)(hs:∀W,D_ w W->Cb 86 #[PV ps,Xi l_,Xi td,Xu f9] W (Xi 0)):
 Cb 56 #[PV px] w (Xi 0):=by
 obtain⟨I,ap,ad⟩:=kN px ps ty kv l_ td f9;have ai:=fun x:Fq I=>ap _ x.ok;simp only[FF] at ai;obtain⟨m0,m1,m2,m3,m4⟩:=iK ai;have an:I w.drew:=ad _ hT;have HG:=kq4 (kw hT) (hs _ (aa _ w).drew) hT ad;go_enter func56,ntmps56;go_wp2_with fail;refine Jc HG.a ?_;go_wp2_with fail;refine fh I (.take 0 (.take 1 (.take 2 (.take 3 (.take 4 (.take 5 (.take 6 (.take 7 (.take 8 (.take 9 (.take 10 (.take 11 (.take 12 (.take 13 (.take 14 (.take 15 (.go 16 (.go 17 .nil)))))))))))))))))) k_ k_ an ?_
 iterate 16
  refine pT_ ?_
 refine pD fun K hK=>?_;go_simp;refine dR HG.b fun w2 hb2=>?_;have B2:=kq2 (FF.a_ (w:=w.drew) HG.c hb2) ((aa w.1.size w).drew.T hb2);refine hK.O _ _ (HG.d _ B2.a) ?_;refine pD fun K hK=>?_;go_simp;refine hK.O _ _ (HG.d _ B2.a) ?_;refine eP ?_;go_wp2_with fail;go_ret;exact⟨rfl,B2.b⟩
theorem KT{px ps l_ td f9:Nat}{L:List Pr}(hT:FF w px ps ty kv l_ td f9)(hs:∀W,D_ w W->Ct 59 #[PV ps,Xi l_,Xi td,Xu f9] W fun e w'=>∃v,e=.returned (.tuple #[v,Xi 0])/\w'.ownsRow W.1.size 40 2 v L.length (FJ L)/\D_ W w'):
 Ct 26 #[PV px] w fun e w'=>∃v,e=.returned v/\w'.ownsRow w.1.size 40 2 v L.length (FJ L)/\D_ w w':=by
 obtain⟨I,ar,ad⟩:=kN px ps ty kv l_ td f9;have an:=fun x:Fq I=>ar _ x.ok;simp only[FF] at an;obtain⟨m0,m1,m2,m3,m4⟩:=iK an;have ap:I w.drew:=ad _ hT;have HG:=kq4 (kw hT) (hs _ (aa _ w).drew) hT ad;go_enter func26,ntmps26;go_wp2_with fail;refine Jc HG.a ?_;go_wp2_with fail;refine fh I (.take 0 (.take 1 (.take 2 (.take 3 (.take 4 (.take 5 (.take 6 (.take 7 (.take 8 (.take 9 (.take 10 (.take 11 (.take 12 (.take 13 (.take 14 (.take 15 (.go 16 (.take 17 (.take 18 (.take 19 (.go 20 (.go 21 .nil)))))))))))))))))))))) k_ k_ ap ?_
 iterate 16
  refine pT_ ?_
  try simp only[pu]
 refine pD fun K hK=>?_;go_simp;refine HG.b.M ?_;rintro e w2 ⟨v,rfl,au,ai⟩;have B2:=kq3 (FF.a_ (w:=w.drew) HG.c ai) ((aa w.1.size w).drew.T ai) au;refine hK.O _ _ (HG.d _ B2.a) ?_
 iterate 3
  refine pT_ ?_
 refine pD fun K hK=>?_;go_simp;refine hK.O _ _ (HG.d _ B2.a) ?_;refine pD fun K hK=>?_;go_simp;refine hK.O _ _ (HG.d _ B2.a) ?_;refine eP ?_;go_wp2_with fail;go_ret;exact⟨v,rfl,B2.c,B2.b⟩
theorem L6{l:List Pr}(h:w.ownsRow B 40 2 v l.length (FJ l))(hl:l.length<=10000)(p:Pr)(hB:B<=w.1.size)(ty:TypeId):
 ∃v' w',(Builtin.append_ #[22,22] ty #[v,.slice (some (y_ w.1.size)) 1 1]).run prog (w.alloc (Xn p.1 p.2))=.ok v' w'/\w'.ownsRow B 40 2 v' (l++[p]).length (FJ (l++[p]))/\Below B w w':=by
 obtain⟨v',w',h1,h2,h3⟩:=F9 (w:=w.alloc (Xn p.1 p.2)) (h.alloc _) (PRow.one (heap_alloc_new w _) (c:=1)) (by grind) m_ ty;exact⟨v',w',h1,h2,((aa B w).alloc hB _).T h3⟩
def L1(S:St)(ps:Nat)(l_ t:Int)(f9:Nat)(L:List It)(w:World):Prop:=
 l_=3/\(∀W,D_ w W->Ct 74 #[PV ps,Xi t,Xu f9] W fun e w'=>∃v,e=.returned v/\py w' W.1.size v L/\D_ W w')\/
 l_≠3/\(∀W,D_ w W->Ct 75 #[PV ps,Xu f9] W fun e w'=>∃v,e=.returned v/\FE w' W.1.size v (L.map (·.h))/\D_ W w')/\∀a∈L,∃n:Nd,i_ S a.h=some (eM n)/\n.key=a.kh/\n.val=a.vh
theorem Ko{B B':Nat}{e:TypeId}{s:Nat}{n:Nat}{xs:List Value}(h:w.ownsRow B e s v n xs)(hB:B'<=B):w.ownsRow B' e s v n xs:=⟨h.1,h.2.imp id fun⟨g,cap,cur,a,b,c⟩=>⟨g,cap,cur,a,aH hB b,c⟩⟩
theorem py.below2{w w':World}{l:List It}(h:py w B v l)(hb:D_ w w'):py w' B v l:=LP h hb
theorem qYiaa{P:Prop}(h:P:=by
 go_wp2_with (at_builtin;refine Lib.wpList_append_run _ rfl _ _ _ _ rfl _ _ rfl rfl _ _ a5 ?_)
 go_roundg (n-(j+1))
 case rel=>exact⟨j+1,s_,o_,o_,HF⟩
 case measure=>omega):P:=h
theorem Lj{ps f9:Nat}{l_ t:Int}{L:List It}(h:Ig w ps S Y)(hf:Fw S o)(hk:1<=l_/\l_<=3)(hck:Cb 86 #[PV ps,Xi l_,Xi t,Xu f9] w (Xi 0))(C_:L1 S ps l_ t f9 L w)(hb:∀a∈L,gu S a)(hl:L.length<=1000):
 Ct 59 #[PV ps,Xi l_,Xi t,Xu f9] w fun e w'=>∃v,e=.returned (.tuple #[v,Xi 0])/\w'.ownsRow w.1.size 40 2 v (F_ L).length (FJ (F_ L))/\D_ w w':=by
 have a':=fun(W:World) (hW:D_ w W) (a:It) (ha:a∈L)=>And.intro (JV (h.a_ hW) hf (hb a ha).lk (hb a ha).k) (JV (h.a_ hW) hf (hb a ha).lv (hb a ha).v);have bc:=fun(W:World) (hW:D_ w W) {hh:Nat} {n:Nd} (hn:i_ S hh=some (eM n))=>J6 (h.a_ hW) hf hn;obtain⟨n,hn⟩:=Ii L.length;have HC:=kq4 hck a' C_ @bc;have HE:=If hn;rw[hn] at hl;clear h hf hck C_ hb a' bc hn;go_enter func59,ntmps59;go_wp2_with fail;refine dR HC.a fun w1 hb1=>?_;have H1:=If hb1;clear hb1
 go_upto_if 32 with fail
 go_cut [11] from 13 (fun s11 wx=>Hid (py wx w.1.size s11 L/\D_ w wx))
 case first=>
  rcases HC.c with⟨h3,a9⟩ | ⟨h3,bj,ar⟩
  ·have HB:=If a9;clear a9;have bm:(l_==3)=true:=by simp[h3]
   subst h3;go_wp2_with fail;refine(HB.O w1 H1.O).M ?_;rintro e w2 ⟨v,rfl,hv,an⟩;have H2:Hid (py w2 w.1.size v L/\D_ w w2):=⟨Ko hv H1.O.size,b_ H1.O an⟩;clear hv an;go_wp2_with fail
   go_meet
   exact H2
  ·have HW:=kq2 bj ar;clear bj ar;have bm:(l_==3)=false:=by simp[h3]
   go_wp2_with fail;refine(HW.a w1 H1.O).M ?_;rintro e w2 ⟨v,rfl,hv,an⟩;obtain⟨A,c,rfl⟩:=hv.E_;rw[am,HE.O];have H2:=kq2 hv (b_ H1.O an);clear hv an;go_wp2_with fail
   go_loopg [11,13,14,15,41] n (fun k s11 _ _ _ s41 wr=>∃j:Nat,s41=Xi j/\j<=n/\n-j<=k/\Hid (py wr w2.1.size s11 (L.take j)/\D_ w2 wr))
   case atStart=>exact⟨0,rfl,o_,o_,World.ownsRow_nil _ _ _ _,aa _ _⟩
   case round=>
    obtain⟨j,rfl,hj,bk,I⟩:=hrel
    by_cases hlt:j<n
    ·have a4:(j:Int)<n:=o_
     have ad:j<L.length:=by rw[HE.O];exact hlt
     have ba:D_ w wr:=b_ H2.b I.O.2;have bf:FE wr w1.1.size (.slice A (L.map (·.h)).length c) (L.map (·.h)):=H2.a.at fun g e=>I.O.2.block g (H2.a.ge g e).2;obtain⟨b,c',e,_,hc⟩:=bf.cell_at (j:=j) (by rw[am];exact ad)
     injection e with e1 e2 e3
     subst e1;clear e2 e3;rw[bG] at hc;obtain⟨nd,ar,a2,a3⟩:=HW.b L[j] (ao ad);have a0:=HC.d wr ba ar;have ai:L.take (j+1)=L.take j++[L[j]]:=aw ad;obtain⟨d,hd⟩:=Ii L[j];rw[hd] at hc a0 ai a2 a3;obtain⟨n1,n2,n3,n4,n5,n6⟩:=nd;simp only at a2 a3;subst a2 a3;unfold eS at a0;simp only at a0;have ap:(L.take j).length<=10000:=by rw[aK];omega
     have HM:=kq5 a0 ai ap I.O.1 I.O.2;clear a0 ai ap ba bf I hd ar;go_wp2_with fail;refine dR HM.a fun w3 hb3=>?_;have q3:(w3.alloc (Xb d.kh d.vh n3 n4 n5 n6)).1[w3.1.size]?=some (Xb d.kh d.vh n3 n4 n5 n6):=World.alloc_heap_new _ _;have B4:D_ w2 (w3.alloc (Xb d.kh d.vh n3 n4 n5 n6)):=(b_ HM.e hb3).alloc (aH HM.e.size hb3.size) _;have O4:py (w3.alloc (Xb d.kh d.vh n3 n4 n5 n6)) w2.1.size u11 (L.take j):=(HM.d.below2 hb3).alloc _;generalize bq:w3.alloc (Xb d.kh d.vh n3 n4 n5 n6)=W4 at*;obtain⟨k0,k1,k2,k3,k4,k5⟩:=ia q3;obtain⟨v2,w5,a5,au,bb,bo⟩:=K7 O4 HM.c d B4.size 135;have HF:Hid (py w5 w2.1.size v2 (L.take (j+1))/\D_ w2 w5):=⟨by rw[HM.b];exact au,B4.grown bb B4.size fun g e=>(World.ownsRow.lt O4 g e).1⟩;clear au bb bo q3 B4 O4 hb3;exact qYiaa
    ·obtain rfl:j=n:=o_
     have a4:¬(j:Int)<j:=o_
     have I1:=I.O.1;rw[<-HE.O,cB] at I1;have H3:Hid (py wr w.1.size u11 L/\D_ w wr):=⟨Ko I1 H2.b.size,b_ H2.b I.O.2⟩;clear I1;go_wp2_with fail
     go_meet
     exact H3
 case rest=>
  clear H1;have H3:=hcut;clear hcut;obtain⟨A,c,he⟩:=H3.O.1.slice;subst he;have K3:=kq2 H3.O.1 H3.O.2;rw[HE.O];clear H3;go_wp2_with fail
  go_loopg [16,18,19,20,21,22,62] n (fun k s16 _ _ _ _ _ s62 wr=>∃j:Nat,s62=Xi j/\j<=n/\n-j<=k/\Hid (wr.ownsRow wc.1.size 40 2 s16 (F_ (L.take j)).length (FJ (F_ (L.take j)))/\D_ wc wr))
  case atStart=>exact⟨0,rfl,o_,o_,World.ownsRow_nil _ _ _ _,aa _ _⟩
  case round=>
   obtain⟨j,rfl,hj,bk,I⟩:=hrel
   by_cases hlt:j<n
   ·have a4:(j:Int)<n:=o_
    have ad:j<L.length:=by rw[HE.O];exact hlt
    obtain⟨b,c',e,_,c1,c2⟩:=K3.a.cell_at ad
    injection e with e1 e2 e3
    subst e1;clear e2 e3;have o1:=(I.O.2.cell (p:=⟨b,j*2,none⟩) (fK c1)).T c1;have o2:=(I.O.2.cell (p:=⟨b,j*2+1,none⟩) (fK c2)).T c2;have ha:=ao ad;have ai:L.take (j+1)=L.take j++[L[j]]:=aw ad;obtain⟨a,a7⟩:=Ii L[j];rw[a7] at o1 o2 ha ai;have a1:D_ w wr:=b_ K3.b I.O.2;have A1:=c_ wr (Xe a.kh a.vh);have p1:=heap_alloc_new wr (Xe a.kh a.vh);obtain⟨W1,a6⟩:=Ii (wr.alloc (Xe a.kh a.vh));rw[a6] at A1 p1;have I2:=kq3 A1 (b_ a1 A1) p1;have HA:=kq2 ha ai;clear c1 c2 ha a7 A1 a1 ai;obtain⟨f0,f1⟩:=Fp p1;clear p1;go_wp2_with fail;refine dR (HC.b W1 I2.b a HA.a).1 fun w7 hb7=>?_;have p7:=(hb7.block _ (gl I2.c)).T I2.c;have I7:=kq3 (b_ I2.a hb7) (b_ I2.b hb7) p7;clear hb7 f0 f1 a6 o1 o2;obtain⟨f0,f1⟩:=Fp p7;clear p7;go_wp2_with fail;refine dR (HC.b w7 I7.b a HA.a).2 fun w8 hb8=>?_;have B8:D_ wr w8:=b_ I7.a hb8;have bd:wc.1.size<=w8.1.size:=aH I.O.2.size B8.size;have ap:(F_ (L.take j)).length<=10000:=by rw[jT,aK];omega
    obtain⟨v2,w9,a5,au,a8⟩:=L6 (LP I.O.1 B8) ap (a.k,a.v) bd 22;have HF:Hid (w9.ownsRow wc.1.size 40 2 v2 (F_ (L.take (j+1))).length (FJ (F_ (L.take (j+1))))/\D_ wc w9):=⟨by rw[HA.b];unfold F_;rw[aN];exact au,(b_ I.O.2 B8).T a8⟩;clear au a8 B8 bd ap hb8 f0 f1;exact qYiaa
   ·obtain rfl:j=n:=o_
    have a4:¬(j:Int)<j:=o_
    have I1:=I.O.1;rw[<-HE.O,cB] at I1;have HF:=kq2 (Ko I1 K3.b.size) (b_ K3.b I.O.2);clear I1;go_wp2_with fail;go_ret2;exact⟨_,rfl,HF.O⟩
theorem Ml{ps f9:Nat}(h:Ig w ps S Y)(hi:Fv S)(t1:2<=t)(t2:t<=16)(hc:Cb 133 #[PV ps,Xi t,Xu f9] w (Xi 0)):
 Cb 86 #[PV ps,Xi 3,Xi t,Xu f9] w (Xi 0):=by
 have HG:=kq2 (zZ h hi t1 t2) hc;clear h hi hc;go_enter func86,ntmps86;go_wp2_with fail;refine Jc HG.a ?_;go_wp2_with fail;refine dR HG.b fun w1 hb=>?_;have H:=If hb;clear hb;go_wp2_with fail;go_ret;exact⟨rfl,H.O⟩
def JR(K:jo):Prop:=∀{w:World} {px ps f9:Nat} {S:St} {o:Nat->Nat} {Y:Nat->Prop} {L:List Pr} {R:List Nat},Ig w ps S Y->K.Hold S o f9 L R->L.length<=98->K.On w px ps f9->
 (Cb 56 #[PV px] w (Xi 0))/\
 Ct 26 #[PV px] w fun e w'=>∃v,e=.returned v/\w'.ownsRow w.1.size 40 2 v L.length (FJ L)/\D_ w w'
theorem La{j c:FuncId}{jn:Jn}{Ok:Tr->Prop}(hk:jD l_ j c jn)(hen:∀(args:Array Value) (w:World),(callFunc c args).run prog w=.ok (.enter c args) w)(hcc:∀{w:World} {ps:Nat} {S:St} {o:Nat->Nat} {Y:Nat->Prop} {t:Tr},Ig w ps S Y->fC Ok S o t->t.its.length<=1000->Ct c #[PV ps,Xu t.f9] w fun e w'=>e=.returned (Xi 0)/\D_ w w'):JR (jH l_ Ok):=by
 intro w px ps f9 S o Y L R h hH hl hT;obtain⟨t,hB,rfl,rfl,rfl⟩:=hH;rw[jT] at hl;have hN:t.its.length<=1000:=o_
 have ad:=fun(W:World) (hW:D_ w W)=>Lh (h.a_ hW) hB.fit.inv hk.is 0 (LQ (h.a_ hW) hB.fit.inv hk.way hen fun W' hW'=>hcc (h.a_ (b_ hW hW')) hB hN);refine⟨Kq hT ad,KT hT fun W hW=>Lj (h.a_ hW) hB.fit (by have:=hk.is;omega) (ad W hW) (.inr ⟨by have:=hk.is;omega,fun W' hW'=>(Kr (h.a_ (b_ hW hW')) hB.fit hB.at' (by rw[nodes_len];exact hB.A_) (by rw[nodes_len];exact hN)).M ?_,fun a ha=>At.item hB.at' a ha⟩) hB.F4 hN⟩;rintro e w' ⟨v,rfl,ho,hb⟩;exact⟨v,rfl,Ko ho o_,hb⟩
theorem LJ(t1:2<=t)(t2:t<=16):JR (mS t):=by
 intro w px ps f9 S o Y L R h hH hl hT
 rcases hH with⟨h0,rfl,rfl,rfl⟩ | ⟨d,x,hx,rfl,rfl,rfl⟩
 ·refine⟨Kq hT fun W hW=>(qc (h.a_ hW) h0.fit.inv t1 t2).M fun _ _ ⟨q1,q2⟩=>⟨q1,q2▸aa _ _⟩,KT hT fun W hW=>(Ab (h.a_ hW) h0.fit t1 t2).M ?_⟩;rintro e w' ⟨rfl,hb⟩;exact⟨_,rfl,World.ownsRow_nil _ _ _ _,hb⟩
 ·rw[jT] at hl;have ad:=fun(W:World) (hW:D_ w W)=>Ml (h.a_ hW) hx.fit.inv t1 t2 (Mi hx (h.a_ hW) o_);exact⟨Kq hT ad,KT hT fun W hW=>Lj (h.a_ hW) hx.fit o_ (ad W hW) (.inl ⟨rfl,fun W' hW'=>KC hx.walk (h.a_ (b_ hW hW')) (Nat.lt_trans hx.low d_) (Nat.le_succ_of_le hx.many) o_⟩) hx.F4 o_⟩
theorem LO{K:jo}(lk:JR K){ps px:Nat}(h:Ig w ps S Y)(hf:Fw S o)(h0:K.Hold S o 0 [] [])(hb:∀{W},K.On w px ps 0->D_ w W->K.On W px ps 0)(hT:K.On w px ps 0)(A_:Nat)(hl:A_<=1000):
 Ct 22 #[PV ps,PV px,Xi A_] w fun e w'=>∃pm,e=.returned (.tuple #[PV pm,Xi 0])/\Ic w' pm px ps A_/\D_ w w'/\w.1.size<=pm:=by
 have e0:zq A_ []=0:=by unfold zq;rw[if_neg o_];rfl
 refine(Nj (L:=[]) h hf.inv (lk h h0 s_ hT).1 (fun W hW=>(lk (h.a_ hW) h0 s_ (hb hT hW)).2) s_ A_).M ?_;rintro e w' ⟨v,rfl,hv,ad⟩;unfold JS at hv;rw[if_pos e0] at hv;obtain⟨pm,rfl,hm,ai⟩:=hv;exact⟨pm,by rw[e0];rfl,hm,ad,ai⟩
theorem Lx{j c:FuncId}{jn:Jn}{Ok:Tr->Prop}{T:Prop}(hk:jD l_ j c jn)(hok:T)(hnil:Ok .nil)(lk:JR (jH l_ Ok))(t:Int):yA l_ t (jH l_ Ok) T where
 ok:=hok
 zero hf:=⟨.nil,⟨hf,trivial,hnil,dl,fun _ h=>(bX h).elim,List.Pairwise.nil⟩,rfl,rfl,rfl⟩
 new h hf:=ES h hf.inv hk t
 of h hf hT A_ hl:=LO lk h hf ⟨.nil,⟨hf,trivial,hnil,dl,fun _ h=>(bX h).elim,List.Pairwise.nil⟩,rfl,rfl,rfl⟩ (NL _ _).onBelow hT A_ hl
theorem M7{T:Prop}(hok:T)(t1:2<=t)(t2:t<=16):yA 3 t (mS t) T where
 ok:=hok
 zero hf:=.inl ⟨⟨hf,t1,t2⟩,rfl,rfl,rfl⟩
 new h hf:=Cv h hf.inv t1 t2
 of h hf hT A_ hl:=LO (LJ t1 t2) h hf (.inl ⟨⟨hf,t1,t2⟩,rfl,rfl,rfl⟩) (NO _).onBelow hT A_ hl
theorem ii:JR (jH 1 eZ):=La vi (enters_of func234 k_ rfl) fun h hB hN=>K8 h hB hN
theorem LF:JR (jH 2 Rb):=La ot (enters_of func235 k_ rfl) fun h hB hN=>Nw h hB hN
theorem Tr.ofN_nodes:∀t:Tr,wl t.h_=eB t.its
 | .nil=>rfl
 | .node l d m r=>by
  show wl (h_ l++(d,nd l d m r)::h_ r)=eB (l.its++d::r.its)
  rw[iX,mx,<-ofN_nodes l,<-ofN_nodes r];simp[wl,nd]
theorem Kj(l:List It):(eB l).length=3*l.length:=by
 induction l with
 | nil=>rfl
 | cons d r ih=>rw[mx];simp only[aj,ih];omega
section
variable {X:Nat->Prop}{w W:World}{ps pm px:Nat}{S:St}{o:Nat->Nat}{Y:Nat->Prop}{t:Tr}
end
theorem Kw {S:St}{o:Nat->Nat}(hf:Fw S o){l:List Nat}(hd:l.Nodup)(hs:∀x∈l,i_ S x≠none):l.length<=S.t.p_.length:=by
 have:=hd.length_le_of_subset (l₂:=S.all) fun x hx=>(hf.mem_all x).2 (hs x hx);rw[Kc] at this;exact aH this hf.live_le
def Ki(K:jo):Prop:=∀{w:World} {pm px ps lim f9:Nat} {S:St} {o:Nat->Nat} {Y:Nat->Prop} {L:List Pr} {R:List Nat},Ig w ps S Y->K.Hold S o f9 L R->L.length<=98->Ic w pm px ps lim->K.On w px ps f9->
 Ct 36 #[PV pm] w fun e w'=>∃v,e=.returned v/\FE w' w.1.size v R/\D_ w w'
theorem Lc {l_:Nat}(hk:l_=1\/l_=2)(Ok:Tr->Prop):Ki (jH l_ Ok):=by
 intro w pm px ps lim f9 S o Y L R h hH hl hM hT;obtain⟨t,hB,rfl,rfl,rfl⟩:=hH;rw[jT] at hl;rw[<-Tr.ofN_nodes];exact LN h hB.fit hM hT hk hB.at' (by rw[nodes_len];exact hB.A_) (by rw[nodes_len];omega)
theorem Nh {t:Nat}(t1:2<=t)(t2:t<=16):Ki (mS t):=by
 intro w pm px ps lim f9 S o Y L R h hH hl hM hT
 rcases hH with⟨h0,rfl,rfl,rfl⟩ | ⟨d,x,hx,rfl,rfl,rfl⟩
 ·exact Nq h h0.fit hM hT t1 t2
 ·rw[jT] at hl;exact Np h hx hM hT o_
def Kh(K:jo):Prop:=∀{S:St} {o:Nat->Nat} {f9:Nat} {L:List Pr} {R:List Nat},K.Hold S o f9 L R->R.Nodup
theorem Lb(l_:Nat)(Ok:Tr->Prop):Kh (jH l_ Ok):=by
 rintro S o f9 L R ⟨t,hB,rfl,rfl,rfl⟩;exact hB.nd
theorem Ng(t:Nat):Kh (mS t):=by
 rintro S o f9 L R (⟨_,_,_,rfl⟩ | ⟨d,x,hx,_,_,rfl⟩)
 ·exact dl
 ·exact aF.2 ⟨hx.h_,hx.texts,fun a ha b hb e=>hx.apart a ha (e▸hb)⟩
theorem M9(hins:∀d,j4 d)(l_ t:Int)(h:l_=1\/l_=2\/l_=3/\2<=t/\t<=16):∃K,yB l_ t K/\JR K/\Ki K/\Kh K:=by
 rcases h with rfl | rfl | ⟨rfl,q1,q2⟩
 ·exact⟨_,Lx vi (NK vi va) va.nil ii t,ii,Lc (.inl rfl) _,Lb _ _⟩
 ·exact⟨_,Lx ot (NK ot oq) oq.nil LF t,LF,Lc (.inr rfl) _,Lb _ _⟩
 ·obtain⟨n,rfl⟩:∃n:Nat,t=n:=⟨t.toNat,o_⟩;exact⟨_,M7 (NQ hins n) o_ o_,LJ o_ o_,Nh o_ o_,Ng _⟩
structure JP (S0 S:St) (R:List Nat):Prop where
 just:∀y,i_ S y≠none->y∈R\/i_ S0 y≠none
 w_:∀y,i_ S0 y≠none->y∉R/\i_ S y=i_ S0 y
 most:S.t.most=S0.t.most
theorem JP.put {S0 S S3:St}{R R3:List Nat}(h:JP S0 S R)(hm:S3.t.most=S.t.most)(h1:∀y∈R3,y∈R\/i_ S y=none)(h2:∀y,i_ S3 y≠none->y∈R3\/i_ S y≠none/\y∉R)(h3:∀y,y∉R->i_ S y≠none->i_ S3 y=i_ S y):JP S0 S3 R3 where
 just y hy:=(h2 y hy).imp id fun q=>(h.just y q.1).resolve_left q.2
 w_ y hy:=by
  obtain⟨k1,k2⟩:=h.w_ y hy;have hn:i_ S y≠none:=by rw[k2];exact hy
  exact⟨fun hm=>(h1 y hm).elim k1 hn,(h3 y k1 hn).T k2⟩
 most:=hm.T h.most
section
variable {P:List (List UInt8×List UInt8)->Prop}{K:jo}{w w3 W:World}{ps pm px f9:Nat}{S S0:St}{o:Nat->Nat}{X Y:Nat->Prop}{L:List (List UInt8×List UInt8)}{R:List Nat}
theorem fi.belowB(ok:dU K){A_:Nat}(h:fi K w W ps pm px A_ f9 S Y L){W':World}(hb:D_ W W'):fi K w W' ps pm px A_ f9 S Y L:=
 ⟨h.st.a_ hb,h.hold,ok.onBelow h.on hb,h.map.a_ hb,b_ h.bl hb,h.own,h.yx,h.ym,h.lx,h.lm,h.ne⟩
theorem NR {l_ t:Int}{T:Prop}(hk:yA l_ t K T)(bs:dU K)(h:Ig W ps S Y)(hf:Fw S o)(hb:D_ w W)(hown:∀k,k<w.1.size->Y k)(A_:Nat)(hl:A_<=1000):
 Ct 52 #[PV ps,Xi l_,Xi t,Xi A_] W fun e w'=>∃(pm px:Nat) (Z:Nat->Prop),e=.returned (.tuple #[PV pm,Xi 0])/\fi K w w' ps pm px A_ 0 S Z []/\(∀k,Y k->Z k)/\D_ W w'/\W.1.size<=px/\W.1.size<=pm:=by
 refine(CR h l_ t A_ K bs.onLt bs.onBelow (hk.new h hf) fun V px hV hT=>hk.of hV hf hT A_ hl).M ?_;rintro e w' ⟨pm,px,rfl,hM,hT,ad,lm,lx,ne⟩;exact⟨pm,px,fun k=>Y k\/(W.1.size<=k/\k<w'.1.size),rfl,⟨h.wide ad,⟨o,[],hk.zero hf⟩,hT,hM,b_ hb ad,fun k hk=>ab (hown k hk),ae ⟨lx,bs.onLt hT⟩,ae ⟨lm,(gl hM)⟩,aH hb.size lx,aH hb.size lm,ne⟩,fun k hk=>ab hk,ad,lx,lm⟩
theorem Kb.putR {p q:Nat}(ok:dT K P)(h:Kb K X w w3 W ps pm px f9 S Y L)(hH:K.Hold S o f9 L R)(hB:JP S0 S R)(hs:fc S (20+p) (9+q))(a b:List UInt8)(ha:a.length<=1000)(hb:b.length<=1000)(hc:L.length<98)(hP:P L):
 Ct 24 #[PV pm,SV a,SV b] W fun e w'=>e=.returned (.tuple #[SV ((Bt.getL L a).getD []),.bool (Bt.getL L a).isSome,Xi 0])/\∃x S3 o3 R3,Kb K X w w3 w' ps pm px x S3 Y (gV L a b)/\K.Hold S3 o3 x (gV L a b) R3/\JP S0 S3 R3/\fc S3 p q:=by
 refine CS h.m.map a b _ _ ha hb ((ok.put h.m.st hH hc h.m.on h.m.yx hP a b ha hb (hs.M o_ o_)).M ?_);rintro e w' ⟨x,S3,rfl,k1,k2,k3,k4⟩;obtain⟨o3,R3,k5,k6,k7⟩:=k4.holds;exact⟨rfl,x,S3,o3,R3,⟨⟨k1,⟨o3,R3,k5⟩,k3,(k2.block pm ⟨h.m.ym,h.m.ne⟩).T h.m.map,h.m.bl.T (Fo.a_ (k2.M fun k hk=>⟨h.m.own k hk,fun q=>by have:=h.m.lx;omega⟩)),h.m.own,h.m.yx,h.m.ym,h.m.lx,h.m.lm,h.m.ne⟩,h.x,h.kp.T (k2.M fun k hk=>h.x k hk)⟩,k5,hB.put k4.grew.most k6 k7 k4.apart,fc.grew hs k4.grew⟩
theorem Nt {l_ t:Int}(hk:yB l_ t K)(h:Ig W ps S X)(hf:Fw S o)(hb:D_ w W)(hown:∀k,k<w.1.size->X k){v:Value}{l:List (List UInt8×List UInt8)}(hv:PRow W v l)(hvw:∀V,Fo X W V->PRow V v l)(hn:l.length<=40)(hl:pK l){p q:Nat}(hsp:fc S (20*l.length+p) (9*l.length+q)):
 Ct 30 #[PV ps,Xi l_,Xi t,v] W fun e w'=>∃pm:Nat,e=.returned (PV pm)/\W.1.size<=pm/\∃px f9 S' o' Y R,W.1.size<=px/\Kb K X w W w' ps pm px f9 S' Y (im l)/\K.Hold S' o' f9 (im l) R/\JP S S' R/\fc S' p q:=by
 have ai:∀k,X k->k<W.1.size:=h.yl;refine(LR hv o_ (fun pm i w'=>W.1.size<=pm/\∃px f9 S' o' Y R,W.1.size<=px/\Kb K X w W w' ps pm px f9 S' Y (im (l.take i))/\K.Hold S' o' f9 (im (l.take i)) R/\JP S S' R/\fc S' (20*(l.length-i)+p) (9*(l.length-i)+q)) ?_ ?_ ?_ ?_).M ?_
 ·refine(NR hk hk.ok.todU h hf hb hown 1000 o_).M ?_;rintro e w' ⟨pm,px,Z,rfl,h1,hz,h2,h3,h4⟩;exact⟨pm,rfl,h4,px,0,S,o,Z,[],h3,⟨h1,fun k hk=>⟨hz k hk,by have:=ai k hk;omega⟩,Fo.v_ h2 ai⟩,hk.zero hf,⟨fun y hy=>ae hy,fun y _=>⟨bX,rfl⟩,rfl⟩,hsp⟩
 ·rintro pm i V ⟨_,px,f9,S',o',Y',R,_,h1,_⟩;exact hvw V h1.kp
 ·rintro pm i V ⟨h0,px,f9,S',o',Y',R,hp,h1,h2⟩;exact⟨h0,px,f9,S',o',Y',R,hp,⟨h1.m.belowB hk.ok.todU (aa _ _).drew,h1.x,h1.kp.T (Fo.v_ (aa _ _).drew fun k hk=>h1.m.st.yl k (h1.x k hk).1)⟩,h2⟩
 ·rintro pm i V hi ⟨h0,px,f9,S',o',Y',R,hp,h1,h2,h3,h4⟩;have ad:=hl l[i] (ao hi);have an:=wt (l.take i);rw[aK] at an;refine(h1.putR (p:=20*(l.length-(i+1))+p) (q:=9*(l.length-(i+1))+q) hk.ok h2 h3 (h4.M o_ o_) l[i].1 l[i].2 ad.1 ad.2 o_ trivial).M ?_;rintro e w' ⟨rfl,x,S3,o3,R3,h5,h6⟩;have e:gV (im (l.take i)) l[i].1 l[i].2=im (l.take (i+1)):=by rw[xB hi,DF]
  rw[e] at h5 h6;exact⟨_,_,0,rfl,h0,px,x,S3,o3,Y',R3,hp,h5,h6⟩
 ·rintro e w' ⟨pm,rfl,h0,px,f9,S',o',Y',R,hp,h1,h2,h3,h4⟩;rw[cB] at h1 h2;exact⟨pm,rfl,h0,px,f9,S',o',Y',R,hp,h1,h2,h3,h4.M o_ o_⟩
theorem Nf(h:Ig W ps S Y)(hf:Fw S o)(n:Int){p q:Nat}(hsp:fc S (64+p) (1+q)):
 Ct 31 #[PV ps,Xi n] W fun e w'=>∃(hh:Nat) (b:Bool) (S':St) (o':Nat->Nat),e=.returned (.tuple #[Xu hh,Xi (if b=true then 0 else 2:Nat)])/\Ig w' ps S' Y/\Fw S' o'/\Fo Y W w'/\fc S' p q/\S'.t.most=S.t.most/\(b=false->S'=S)/\(b=true->i_ S hh=none/\i_ S' hh≠none/\∀y,y≠hh->i_ S' y=i_ S y)/\(0<=n->n<=3998->b=true):=by
 by_cases hn:n<0\/3998<n
 ·refine(Nz h n hn).M ?_;rintro e w' ⟨rfl,hb⟩;exact⟨0,false,S,o,rfl,h.a_ hb,hf,h.w_ hb,hsp.M o_ o_,rfl,fun _=>rfl,fun e=>(nomatch e),fun _ _=>by omega⟩
 ·obtain⟨m,rfl⟩:∃m:Nat,n=m:=⟨n.toNat,o_⟩;have hm:m<=3998:=o_
  have ai:fa (m+2)<=64:=by
   unfold fa;rw[if_neg o_]
   split<;>omega
  obtain⟨hh,S',o',ws,e,f',r0,_,r1,r2,hg,ho⟩:=oz hf hm (hsp.M o_ o_);have ad:=sH h m hm ho;rw[e] at ad;refine ad.M ?_;rintro e w' ⟨rfl,h1,h2⟩;exact⟨hh,true,S',o',rfl,h1,f',h2,fc.grew hsp (hg.M ai Ih),hg.most,fun e=>(nomatch e),fun _=>⟨r0,by rw[r1];simp,r2⟩,fun _ _=>rfl⟩
end
structure Ha (w:World) (ps:Nat) (m:Nat×Nat×List Nat):Prop where
 st:∀W,D_ w W->Ct 70 #[PV m.1] W fun e w'=>e=.returned (PV m.2.1)/\W=w'
 of:m.2.1=ps->∀W,D_ w W->Ct 36 #[PV m.1] W fun e w'=>∃v,e=.returned v/\FE w' W.1.size v m.2.2/\D_ W w'
 own:∃cs ty,w.1[m.2.1]?=some (.cells cs ty (0,0))
 hlt:∀x∈m.2.2,x<2^64
theorem Ha.a_ {w W:World}{ps:Nat}{m:Nat×Nat×List Nat}(h:Ha w ps m)(hb:D_ w W):Ha W ps m where
 st V hV:=h.st V (b_ hb hV)
 of e V hV:=h.of e V (b_ hb hV)
 own:=by
  obtain⟨cs,ty,e⟩:=h.own;exact⟨cs,ty,(hb.block _ (gl e)).T e⟩
 hlt:=h.hlt
theorem Ha.ok {w:World}{ps bm:Nat}{ms:List (Nat×Nat×List Nat)}(h:∀m∈ms,Ha w ps m){ty:TypeId}(hc:w.1[bm]?=some (.cells (ms.map fun m=>PV m.1).toArray ty))(hl:(e9 ps ms).length<=10000/\ms.length<=1000):JM w ps bm ms where
 cell i hi:=by
  rw[q_ hc];simp[hi]
 lt:=(gl hc)
 st m hm:=(h m hm).st
 of m hm:=(h m hm).of
 own m hm:=(h m hm).own
 hlt m hm:=(h m hm).hlt
 len:=hl
theorem Ha.mk' {P:List (List UInt8×List UInt8)->Prop}{K:jo}(ok:dT K P)(hO:Ki K){w:World}{ps pm px f9 lim:Nat}{S:St}{o:Nat->Nat}{Y:Nat->Prop}{L:List Pr}{R:List Nat}(st:Ig w ps S Y)(hH:K.Hold S o f9 L R)(hl:L.length<=98)(hM:Ic w pm px ps lim)(hT:K.On w px ps f9):Ha w ps (pm,ps,R) where
 st W hW:=IQ (hM.a_ hW)
 of _ W hW:=hO (st.a_ hW) hH hl (hM.a_ hW) (ok.onBelow hT hW)
 own:=by
  obtain⟨_,_,_,_,_,hI⟩:=st;exact⟨_,_,hI.hd⟩
 hlt x hx:=by
  obtain⟨ws,hw⟩:=bH.1 (ok.has hH x hx);exact(fL (ok.fit hH) hw).2.1
theorem MX {P:List (List UInt8×List UInt8)->Prop}{K:jo}(ok:dT K P)(hd:Kh K){S:St}{o:Nat->Nat}{f9:Nat}{L:List Pr}{R:List Nat}(h:K.Hold S o f9 L R):R.length<=S.t.p_.length:=Kw (ok.fit h) (hd h) (ok.has h)
theorem KE(ps pm:Nat)(R:List Nat):e9 ps [(pm,ps,R)]=R:=by simp[e9]
theorem Nn {S:St}{o:Nat->Nat}(hf:Fw S o){R l:List Nat}(h1:∀y,i_ S y≠none->y∈R\/y∈l)(h2:∀y∈l,i_ S y≠none/\y∉R)(hd:l.Nodup):(mn R S.all).Perm l:=by
 refine(List.perm_ext_iff_of_nodup (hf.all_nodup.filter _) hd).2 fun a=>?_
 show a∈mn R S.all↔_
 rw[show a∈mn R S.all↔a∈S.all/\a∉R by simp[mn],hf.mem_all];exact⟨fun q=>(h1 a q.1).resolve_left q.2,h2 a⟩
theorem Nu {q n l:Nat}{o:Nat->Nat}(hf:Fw ⟨⟨q,[]⟩,⟨n,l,[]⟩⟩ o)(y:Nat):i_ ⟨⟨q,[]⟩,⟨n,l,[]⟩⟩ y=none:=by
 cases h:i_ ⟨⟨q,[]⟩,⟨n,l,[]⟩⟩ y with
 | none=>rfl
 | some ws=>
  obtain⟨k,x,h1,_⟩:=(gT hf.tab).1 h
  simp at h1
section
variable {w W:World}{pc pm px ps hh:Nat}{S:St}{o:Nat->Nat}{Y:Nat->Prop}
theorem vy(hC:Ju w pc pm ps 0 0):
 Ct 77 #[PV pc] w fun e w'=>e=.returned (Xi 7)/\w=w':=by
 unfold Ju at hC;obtain⟨c0,c1,c2,c3⟩:=Fy hC;clear hC;go_enter func77,ntmps77;go_wp2_with fail;go_ret;exact⟨rfl,rfl⟩
theorem Oz(hC:Ju w pc pm ps hh 0)(h0:hh≠0):
 Ct 114 #[PV pc] w fun e w'=>e=.returned (.tuple #[.string ⟨#[]⟩,Xi 5])/\w=w':=by
 have HG:=If (ee hC h0);unfold Ju at hC;obtain⟨c0,c1,c2,c3⟩:=Fy hC;clear hC h0;go_enter func114,ntmps114;go_wp2_with fail;refine Jc HG.O ?_;go_wp2_with fail;go_ret2;exact⟨rfl,rfl⟩
theorem OM(hC:Ju w pc pm ps 0 0):
 Ct 114 #[PV pc] w fun e w'=>e=.returned (.tuple #[.string ⟨#[]⟩,Xi 7])/\w=w':=by
 have HG:=If (vy hC);clear hC;go_enter func114,ntmps114;go_wp2_with fail;refine Jc HG.O ?_;go_wp2_with fail;go_ret2;exact⟨rfl,rfl⟩
theorem Oy(hC:Ju w pc pm ps hh 0)(h0:hh≠0):
 Ct 115 #[PV pc] w fun e w'=>e=.returned (Xu hh)/\w=w':=by
 have HG:=If (ee hC h0);unfold Ju at hC;obtain⟨c0,c1,c2,c3⟩:=Fy hC;clear hC h0;go_enter func115,ntmps115;go_wp2_with fail;refine Jc HG.O ?_;go_wp2_with fail;go_ret;exact⟨rfl,rfl⟩
theorem OL(hC:Ju w pc pm ps 0 0):
 Ct 115 #[PV pc] w fun e w'=>e=.returned (Xu 0)/\w=w':=by
 have HG:=If (vy hC);clear hC;go_enter func115,ntmps115;go_wp2_with fail;refine Jc HG.O ?_;go_wp2_with fail;go_ret;exact⟨rfl,rfl⟩
theorem OA(hC:Ju w pc pm ps hh 0)(h0:hh≠0):
 Ct 71 #[PV pc] w fun e w'=>e=.returned (PV ps)/\w=w':=by
 have HG:=If (ee hC h0);unfold Ju at hC;obtain⟨c0,c1,c2,c3⟩:=Fy hC;clear hC h0;go_enter func71,ntmps71;go_wp2_with fail;refine Jc HG.O ?_;go_wp2_with fail;go_ret;exact⟨rfl,rfl⟩
theorem ON(hC:Ju w pc pm ps 0 0):
 Ct 71 #[PV pc] w fun e w'=>e=.returned (.pointer none)/\w=w':=by
 have HG:=If (vy hC);clear hC;go_enter func71,ntmps71;go_wp2_with fail;refine Jc HG.O ?_;go_wp2_with fail;go_ret;exact⟨rfl,rfl⟩
theorem NV.open(hC:Ju w pc pm ps hh 0)(h0:hh≠0)(hl:hh<2^64)(ho:∃cs ty,w.1[ps]?=some (.cells cs ty (0,0))):NV w ⟨PV pc,hh,some ps⟩ where
 key W hW:=(Oz (hC.a_ hW) h0).M fun _ _ q=>⟨_,5,q.1,d_,q.2⟩
 handle W hW:=Oy (hC.a_ hW) h0
 store W hW:=OA (hC.a_ hW) h0
 own p e:=Option.some.inj e▸ho
 has _ e:=nomatch e
 hlt:=hl
theorem NV.closed(hC:Ju w pc pm ps 0 0):NV w ⟨PV pc,0,none⟩ where
 key W hW:=(OM (hC.a_ hW)).M fun _ _ q=>⟨_,7,q.1,d_,q.2⟩
 handle W hW:=OL (hC.a_ hW)
 store W hW:=ON (hC.a_ hW)
 own p e:=nomatch e
 has e:=absurd rfl e
 hlt:=by show 0<2^64;decide
theorem OB(h:Ig W ps S Y)(hf:Fw S o)(hM:Ic W pm px ps 1000){p q:Nat}(hsp:fc S (64+p) (1+q)):
 Ct 35 #[PV pm] W fun e w'=>∃(pc hh:Nat) (S':St) (o':Nat->Nat),e=.returned (.tuple #[PV pc,Xi 0])/\Ig w' ps S' (fun k=>Y k\/k=pc)/\Fw S' o'/\Fo Y W w'/\fc S' p q/\S'.t.most=S.t.most/\(i_ S hh=none/\i_ S' hh≠none/\∀y,y≠hh->i_ S' y=i_ S y)/\Ju w' pc pm ps hh 0/\W.1.size<=pc:=by
 have ad:=Nf h hf (many 1000:Nat) hsp;have HG:=kq4 (IQ hM) (Ik hM) (xD 1000 W o_) ad;clear h hf hM hsp ad;go_enter func35,ntmps35;go_wp2_with fail;refine Jc HG.a ?_;go_wp2_with fail;refine Jc HG.b ?_;go_wp2_with fail;refine Jc HG.c ?_;go_wp2_with fail;refine HG.d.M ?_;rintro e w2 ⟨hh,b,S',o',rfl,h1,h2,h3,h4,h5,h6,h7,h8⟩;obtain rfl:=h8 o_ (by unfold many;split<;>omega);have h7:=h7 rfl;have A2:=c_ w2 (.cells #[PV pm,PV ps,Xu hh,Xi 0] 132);have q2:=heap_alloc_new w2 (.cells #[PV pm,PV ps,Xu hh,Xi 0] 132);have hw:=h1.wide A2;have hk:=h3.T (Fo.v_ A2 fun k hk=>h1.yl k hk);have hz:=h3.size;have H2:=kq8 hw q2 hk h2 h4 h5 h7 hz;clear h1 h2 h3 h4 h5 h6 h7 h8 A2 q2 hw hk hz;simp only[if_true];go_wp2_with fail;go_ret2;obtain⟨hw,q2,hk,h2,h4,h5,h7,hz⟩:=H2.O;exact⟨w2.1.size,rfl,hh,S',hw.M fun k hk=>hk.imp id fun e=>by subst e;exact⟨Nat.le_refl _,s_⟩,⟨o',h2⟩,hk,h4,h5,h7,q2,hz⟩
end
section
variable {S:St}{o:Nat->Nat}{R1 R2 hs:List Nat}
end
theorem Ha.okc {w:World}{ps bm:Nat}{ms:List (Nat×Nat×List Nat)}(h:∀m∈ms,Ha w ps m){cs:Array Value}{ty:TypeId}(hc:w.1[bm]?=some (.cells cs ty))(hi:∀i (hi:i<ms.length),cs[i]?=some (PV ms[i].1))(hl:(e9 ps ms).length<=10000/\ms.length<=1000):JM w ps bm ms where
 cell i hil:=(q_ hc).T (hi i hil)
 lt:=(gl hc)
 st m hm:=(h m hm).st
 of m hm:=(h m hm).of
 own m hm:=(h m hm).own
 hlt m hm:=(h m hm).hlt
 len:=hl
def NX(w:World)(m:Nat×Nat×List Nat):Prop:=∃px:Nat,(∀W,D_ w W->Ct 23 #[PV m.1] W fun e w'=>e=.returned (PV px)/\W=w')/\∀W,D_ w W->Ct 56 #[PV px] W fun e w'=>e=.returned (Xi 0)/\D_ W w'
theorem N2 {w:World}{A:Option Addr}{cs:List Cu}{ps bm cm cc n1 n2:Nat}{S:St}{o:Nat->Nat}{Y:Nat->Prop}{ms:List (Nat×Nat×List Nat)}(h:Ig w ps S Y)(hf:Fw S o)(hm:JM w ps bm ms)(hcs:NT w A cs){r:Nat}(hr:NU w ps S ms cs r)(e1:ms.length=n1)(e2:cs.length=n2):
 Cb 34 #[PV ps,.slice (some (y_ bm)) n1 cm,.slice A n2 cc] w (Xi r):=by
 subst e1 e2;exact Oe h hf hm hcs hr
section
variable {ps po pc:Nat}{S T:St}{X Z:Nat->Prop}{w w1 w2 w':World}
theorem dP.start(h1:Ig w1 ps S (fun k=>k<w.1.size))(h2:Ig w2 po T (fun k=>k<w1.1.size))(hb:D_ w1 w2)(hn:w.1.size<=w1.1.size)(ht:fy<w.1.size):
 ∃X Z:Nat->Prop,dP ps po S T X Z w2/\(∀k,k<w.1.size->X k)/\(∀k,k<w1.1.size->Z k):=by
 obtain⟨pa,pm,ph,pt,v,hi⟩:=h1.wide hb;obtain⟨qa,qm,qh,qt,u,hj⟩:=h2;refine⟨_,_,⟨⟨pa,pm,ph,pt,v,hi.heads⟩,⟨qa,qm,qh,qt,u,hj.heads⟩,fun k hk=>?_,fun k q=>ae q,fun k q=>ae q,ab (ab ht),ab o_⟩,fun k hk=>ab (ab hk),fun k hk=>ab hk⟩
 by_cases h:k<w1.1.size
 ·exact ae (ab h)
 ·exact ab (ab (ae ⟨o_,hk⟩))
theorem dP.u_(h:dP ps po S T X Z w){cs:Array Value}{ty:TypeId}{fr:Nat×Nat}(hc:w.1[pc]?=some (.cells cs ty fr))(hty:ty≠94/\ty≠160)(hx:X pc)(hpt:pc≠fy)(hk:Fo (fun k=>Z k/\k≠pc) w w'):Ig w' ps S X:=by
 obtain⟨pa,pm,ph,pt,v,hi⟩:=h.a;have ad:∀k,dO w k->k≠pc:=by
  rintro k ⟨ai,ap,an,e,q⟩ rfl;rw[hc] at e
  injection e with e
  injection e with _ e _
  rcases q with rfl | rfl
  ·exact hty.1 e
  ·exact hty.2 e
 have h1:dO w ps:=⟨_,_,_,hi.hd,ab rfl⟩;have h2:dO w ph:=⟨_,_,_,hi.heap.hp,ae rfl⟩;refine⟨pa,pm,ph,pt,v,hi.of_keep hk.size fun k hkl hcs=>hk.block k ?_⟩
 rcases hcs with q | rfl | rfl | rfl
 ·exact⟨(h.cov k hkl).resolve_left q,fun e=>q (e▸hx)⟩
 ·exact⟨h.hb _ h1,ad _ h1⟩
 ·exact⟨h.hb _ h2,ad _ h2⟩
 ·exact⟨h.tab.2,fun e=>hpt e.S⟩
theorem OO {pm hh:Nat}{o:Nat->Nat}{W:World}(h:Ig W ps S Z)(hf:Fw S o)(hC:Ju W pc pm ps hh 0)(hy:Z pc)(hr:i_ S hh≠none):
 Ct 37 #[PV pc] W fun e w'=>e=.returned (Xi 0)/\Fo (fun k=>Z k/\k≠pc) W w'/\Ju w' pc pm ps 0 0:=by
 obtain⟨ws,ai⟩:=bH.1 hr;have hl:=fL hf ai;obtain⟨S',e1,_⟩:=mQ hf ai;have hd:=sE (h.drewN 1) hf.inv hh hl.2.1;rw[e1] at hd;obtain⟨I,ar,ad⟩:=Bb pc pm ps hh 0;have an:=fun x:Fq I=>ar _ x.ok;simp only[Ju] at an;obtain⟨m0,m1,m2,m3⟩:=iB an;have ap:I W.drew:=ad _ (hC.a_ (aa _ _).drew);have HG:=kq5 (ee hC o_) hd ad hC hy;clear hC h hd ar ad an hl ai hf hr e1 hy;go_enter func37,ntmps37;go_wp2_with fail;refine Jc HG.a ?_;go_wp2_with fail;refine fh I (.take 0 (.take 1 (.take 2 (.take 3 (.take 4 (.take 5 (.take 6 (.take 7 (.go 8 .nil))))))))) k_ k_ ap ?_;clear ap
 iterate 8
  refine pT_ ?_
  try simp only[pu]
 refine pD fun K hK=>?_;go_simp;refine HG.b.M ?_;rintro e w2 ⟨rfl,_,kp⟩;have kp:Fo Z W w2:=⟨kp.os,kp.tape,kp.output,kp.size,kp.block⟩;have hC:Ju w2 pc pm ps hh 0:=HG.d.w_ kp HG.e
 try go_simp
 refine hK.O _ _ (HG.c _ hC) ?_;clear hK K
 try simp only[pu]
 refine eP ?_;unfold Ju at hC;obtain⟨c0,c1,c2,c3⟩:=Fy hC;obtain⟨f0,f1,f2,f3⟩:=fO hC;have q3:=heap_setCell (i:=2) (v:=Xu 0) hC;have k3:Fo (fun k=>Z k/\k≠pc) W (w2.setCell (x_ pc 2) (Xu 0)):=⟨kp.os,kp.tape,kp.output,aH kp.size s_,fun k hk=>(FB hk.2).T (kp.block k hk.1)⟩;have H3:=kq2 k3 (show Ju (w2.setCell (x_ pc 2) (Xu 0)) pc pm ps 0 0 from q3);clear k3 hC q3 kp;go_wp2_with fail;go_ret;exact⟨rfl,H3.O⟩
theorem NT.two {bc:Nat}{c d:Cu}{ty:TypeId}(hc:w.1[bc]?=some (.cells #[c.v,d.v] ty))(h1:NV w c)(h2:NV w d):NT w (some (y_ bc)) [c,d] where
 cell i hi:=by
  have hi:i<2:=hi;refine⟨bc,0,rfl,?_⟩;rw[bz,q_ hc];have:i=0\/i=1:=o_
  rcases this with rfl | rfl<;>rfl
 is x hx:=by
  rcases ah.1 hx with rfl | hx
  ·exact h1
  ·rw[aE] at hx;subst hx;exact h2
 len:=s_
theorem NT.one {bc:Nat}{c:Cu}{ty:TypeId}(hc:w.1[bc]?=some (.cells #[c.v] ty))(h1:NV w c):NT w (some (y_ bc)) [c] where
 cell i hi:=by
  have hi:i<1:=hi;obtain rfl:i=0:=o_
  refine⟨bc,0,rfl,?_⟩;rw[bz,q_ hc];rfl
 is x hx:=by
  rw[aE] at hx;subst hx;exact h1
 len:=s_
theorem Ha.far {pm px q lim:Nat}(hM:Ic w pm px q lim)(hne:q≠ps)(ho:∃cs ty,w.1[q]?=some (.cells cs ty (0,0))):Ha w ps (pm,q,[]) where
 st _ hW:=IQ (hM.a_ hW)
 of e:=absurd e hne
 own:=ho
 hlt _ hx:=nomatch hx
end
section
variable {w:World}{ps bm cm pm px:Nat}{S:St}{o:Nat->Nat}{Y:Nat->Prop}{R:List Nat}{ty:TypeId}
theorem Ha.ok1(mi:Ha w ps (pm,ps,R))(hc:w.1[bm]?=some (.cells #[PV pm] ty))(hl:R.length<=10000):JM w ps bm [(pm,ps,R)]:=Ha.ok (fun x hx=>by
 rw[aE] at hx;subst hx;exact mi) hc ⟨by rw[KE];exact hl,s_⟩
end
theorem PRow.at2 {W W':World}{b n c:Nat}{l:List (List UInt8×List UInt8)}(h:PRow W (.slice (some (y_ b)) n c) l)(e:W'.1[b]?=W.1[b]?):PRow W' (.slice (some (y_ b)) n c) l:=by
 obtain⟨A,c',e1,hc⟩:=h;refine⟨A,c',e1,fun i hi=>?_⟩;obtain⟨g,o,e4,k0,k1⟩:=hc i hi
 injection e1 with q1 q2 q3
 rw[<-q1] at e4
 injection e4 with e4
 injection e4 with e5 e6
 subst e5 e6;exact⟨_,_,q1.S,(xA e).T k0,(xA e).T k1⟩
section
variable {w:World}{ps bm cm pm px:Nat}{S:St}{o:Nat->Nat}{Y:Nat->Prop}{R:List Nat}{ty:TypeId}
theorem OD(h:Ig w ps S Y)(hf:Fw S o)(mi:Ha w ps (pm,ps,R))(hc:w.1[bm]?=some (.cells #[PV pm] ty))(hl:R.length<=10000):
 Ct 32 #[PV ps,.slice (some (y_ bm)) 1 cm,n_] w fun e w'=>∃v,e=.returned v/\FE w' w.1.size v (mn R S.all)/\D_ w w':=by
 have:=Oh (cm:=cm) (cc:=0) h hf (mi.ok1 hc hl) (NT.nil w none);rwa[KE,show dS ps []=[] from rfl,aW] at this
theorem N7(h:Ig w ps S Y)(hf:Fw S o)(mi:Ha w ps (pm,ps,R))(hc:w.1[bm]?=some (.cells #[PV pm] ty))(hl:R.length<=10000)(hM:Ic w pm px ps 1000)
 (hck:∀W,D_ w W->Cb 56 #[PV px] W (Xi 0)) {r:Nat}
 (hr:(r=0/\(∀x∈S.all,R.count x=1)/\∀x∈R,x∈S.all)\/(r=8/\∃x∈S.all,R.count x≠1)):
 Cb 34 #[PV ps,.slice (some (y_ bm)) 1 cm,n_] w (Xi r):=by
 refine Oe (cm:=cm) (cc:=0) h hf (mi.ok1 hc hl) (NT.nil w none) (ae ⟨fun m hm=>by rw[aE] at hm;subst hm;rfl,fun c hc=>(nomatch hc),fun m hm=>by
  rw[aE] at hm;subst hm;exact⟨px,fun V hV=>Gh (hM.a_ hV),hck⟩,?_⟩)
 rw[KE,show dS ps []=[] from rfl,aW];exact hr
end
theorem Ol {w:World}(ht:gA w):
 Cb 29 #[] w (.bool true):=by
 have bt:=xp ht 262144 1000 4294967295 o_ o_ o_;have ba:=ux 262144 1000 4294967295 o_ o_ o_;obtain⟨L,hL⟩:∃L:List (List UInt8×List UInt8),[([97],[]),([98],[]),([99],[])]=L:=⟨_,rfl⟩;have ar:(im L).length=3:=by subst hL;decide
 have an:pK L:=by
  subst hL;intro p hp;simp only[ah,bX,or_false] at hp
  rcases hp with rfl | rfl | rfl<;>decide
 have bb:L.length=3:=by subst hL;rfl
 have hk:yB 1 0 (jH 1 eZ):=Lx vi (NK vi va) va.nil ii 0;have HG:=kq7 bt ba ar an bb hk hL;clear bt ba ar an bb hk hL ht;go_enter func29,ntmps29;go_wp2_with fail;refine HG.a.M ?_;rintro e w1 ⟨ps,rfl,bs,a4⟩;have B2:=c_ w1 (.cells #[SV [97],SV [],SV [98],SV [],SV [99],SV []] 40);have r2:PRow (w1.alloc (.cells #[SV [97],SV [],SV [98],SV [],SV [99],SV []] 40)) (.slice (some (y_ w1.1.size)) 3 3) L:=HG.g▸PRow.new w1 [([97],[]),([98],[]),([99],[])] 40;have b1:Ig (w1.alloc (.cells #[SV [97],SV [],SV [98],SV [],SV [99],SV []] 40)) ps ⟨⟨262144,[]⟩,⟨1000,4294967295,[]⟩⟩ (fun k=>k<w.1.size\/k=w1.1.size):=(bs.wide B2).M fun k hk=>hk.imp id fun e=>by subst e;exact⟨Nat.le_refl _,s_⟩
 have bo:=Nt (w:=w) HG.f b1 HG.b (b_ a4 B2) (fun k hk=>ab hk) r2 (fun V hV=>r2.at2 (hV.block _ (ae rfl))) (by have:=HG.e;omega) HG.d (p:=64) (q:=1) (by rw[HG.e];exact⟨d_,d_⟩);have H1:=If bo;clear bo r2 b1 B2 bs a4;go_wp2_with fail;refine H1.O.M ?_;rintro e w3 ⟨pm,rfl,_,px,f9,S,o,Y,R,_,hX,hH,hB,bu⟩;have ok:=HG.f.ok;have a8:R.length=9:=by
  obtain⟨t,_,_,e1,rfl⟩:=id hH;have:=congrArg List.length e1;rw[jT,HG.c] at this;rw[Kj,<-this]
 have ar:=HG.c;have mi:=Ha.mk' ok (Lc (.inl rfl) _) hX.m.st hH o_ hX.m.map hX.m.on;have ap:=fun(V:World) (hV:D_ w3 V)=>(ii (hX.m.st.a_ hV) hH o_ (ok.onBelow hX.m.on hV)).1;have bj:=Lb _ _ hH;have ai:∀y,i_ S y≠none->y∈R:=fun y hy=>(hB.just y hy).resolve_right fun q=>q (Nu HG.b y);have a7:(∀x∈S.all,R.count x=1)/\∀x∈R,x∈S.all:=⟨fun x hx=>by rw[bj.count,if_pos (ai x (((ok.fit hH).mem_all x).1 hx))],fun x hx=>((ok.fit hH).mem_all x).2 (ok.has hH x hx)⟩;have B4:=c_ w3 (.cells #[PV pm] 45);have a9:=N7 (cm:=1) (hX.m.st.a_ B4) (ok.fit hH) (mi.a_ B4) (World.alloc_heap_new w3 (.cells #[PV pm] 45)) o_ (hX.m.map.a_ B4) (fun V hV=>ap V (b_ B4 hV)) (r:=0) (ab ⟨rfl,a7⟩);have H3:=kq7 a9 hX.m hH ai bu a8 B4;have HO:=kq2 ok ar;clear a9 hX hH ai bu a8 bj a7 B4 mi ap hB H1 ar;go_wp2_with fail;refine dR H3.a fun w5 hb5=>?_;have B5:=b_ H3.g hb5;have bd:=Nf (H3.b.st.a_ B5) (HO.a.fit H3.c) 1 (p:=0) (q:=0) H3.e;have H5:=kq2 bd B5;clear bd hb5 B5;go_wp2_with fail;refine H5.a.M ?_;rintro e w6 ⟨hh,b,S6,o6,rfl,au,ad,a0,_,_,_,bf,b0⟩;obtain rfl:=b0 o_ o_;obtain⟨r0,r1,r2⟩:=bf rfl;have bk:∀y,i_ S y≠none->y≠hh:=fun y hy e=>hy (e▸r0);have a1:=HO.a.frame H3.c ad fun y hy=>r2 y (bk y (HO.a.has H3.c y hy));have a2:Ic w6 pm px ps 1000:=(a0.block pm H3.b.ym).T (H3.b.map.a_ H5.b);have a3:=HO.a.onKeep (HO.a.onBelow H3.b.on H5.b) a0 H3.b.yx;have mi:=Ha.mk' HO.a (Lc (.inl rfl) _) au a1 (by have:=HO.b;omega) a2 a3;have ap:=fun(V:World) (hV:D_ w6 V)=>(ii (au.a_ hV) a1 (by have:=HO.b;omega) (HO.a.onBelow a3 hV)).1;have a6:hh∉R:=fun q=>HO.a.has H3.c _ q r0;have bc:mn R S6.all=[hh]:=List.perm_singleton.1 (Nn ad (fun y hy=>by
  by_cases e:y=hh
  ·exact ae (by simp[e])
  ·rw[r2 y e] at hy;exact ab (H3.d y hy)) (fun y hy=>by
  rw[aE] at hy;subst hy;exact⟨r1,a6⟩) s_)
 have b6:D_ w w6:=(b_ H3.b.bl H5.b).T (a0.M fun k hk=>H3.b.own k hk).a_;have B7:=c_ w6 (.cells #[PV pm] 45);have an:=OD (cm:=1) (au.a_ B7) ad (mi.a_ B7) (World.alloc_heap_new w6 (.cells #[PV pm] 45)) (by have:=H3.f;omega);rw[bc] at an;have bq:∃x∈S6.all,R.count x≠1:=⟨hh,(ad.mem_all hh).2 r1,by rw[dI.2 a6];decide⟩;have H6:=kq9 an au ad mi @ap a2 bq b6 B7;clear an au ad mi ap a2 a3 a1 bq b6 B7 bc a6 bk r0 r1 r2 a0 bf b0;simp only[if_true];go_wp2_with fail;refine H6.a.M ?_;rintro e w8 ⟨v,rfl,bv,a'⟩;obtain⟨b,c,rfl,hb,hc⟩:=bv.cell_at (j:=0) s_;have hc:w8.cell? (y_ b)=some (Xu hh):=hc;have B8:=b_ H6.i a';have bm:=H6.d.of rfl _ B8;have H8:=kq3 bm B8 hc;clear bm hc a' bv hb B8;simp only[bp];go_wp2_with fail;refine H8.a.M ?_;rintro e w9 ⟨v9,rfl,bx,a5⟩;obtain⟨A9,c9,rfl⟩:=bx.E_;have h9:R.length=9:=H3.f;simp only[h9];have b2:=(a5.cell (p:=y_ b) (cell_lt H8.c)).T H8.c;have B9:=b_ H8.b a5;have BA:D_ w6 (w9.alloc (.cells #[PV pm] 45)):=B9.alloc B9.size _;have ai:=N7 (cm:=1) (H6.b.a_ BA) H6.c (H6.d.a_ BA) (World.alloc_heap_new w9 (.cells #[PV pm] 45)) o_ (H6.f.a_ BA) (fun V hV=>H6.e V (b_ BA hV)) (r:=8) (ae ⟨rfl,H6.g⟩);have HF:=kq2 ai (b_ H6.h BA);clear ai a5 B9 BA bx h9;go_wp2_with fail;refine dR HF.a fun w11 hb11=>?_;have HE:=If (b_ HF.b hb11);clear hb11;go_wp2_with fail;go_ret;exact⟨rfl,HE.O⟩
theorem qYiab{P:Prop}(h:P:=by
 go_wp2_with fail;refine Jc HX.O ?_;go_wp2_with fail
 go_meet
 exact⟨rfl,rfl⟩):P:=h
theorem reachErrors_walk(l_ t:Int){v:Value}{l:List (List UInt8×List UInt8)}{w:World}(ht:gA w)(hv:PRow w v l):
 Cb 7 #[Xi l_,Xi t,v] w (.bool true):=by
 have e3:=fun W (hW:D_ w W)=>Ol (ht.of_block (hW.block _ ht.lt));have fj:=Gd l_ t w;have d7:=fun hl=>Cm (w:=w) hv hl;obtain⟨A,c,rfl,hc⟩:=hv;have hv:PRow w (.slice A l.length c) l:=⟨A,c,rfl,hc⟩;obtain⟨n,hn⟩:=Ii l.length;rw[hn] at hv d7⊢;obtain⟨b2,e5⟩:=Ii (!FO l_ t || decide (20<n) || jb l);have HG:=kq4 e3 ht hv hn;have HF:=kq2 fj d7;have HB:=If e5;clear e3 ht hv hc hn fj d7 e5;go_enter func7,ntmps7
 go_upto_region 1 with fail
 go_cut [35] from 23 (fun s35 wx=>s35=.bool b2/\wx=w)
 case first=>
  cases q1:FO l_ t with
  | false=>
   have hf:=HF.a;rw[q1] at hf;have HX:=If hf;have hb:b2=true:=by rw[<-HB.O];simp[q1]
   subst hb;clear hf q1;exact qYiab
  | true=>
  have hf:=HF.a;rw[q1] at hf;have HX:=If hf;clear hf
  by_cases q3:20<n
  ·have h':(20<(n:Int))=True:=eq_true o_;have hb:b2=true:=by rw[<-HB.O];simp[q3]
   subst hb;clear q1 q3;exact qYiab
  have h':(20<(n:Int))=False:=eq_false o_;have hf:=HF.b o_;have hb:b2=jb l:=by rw[<-HB.O,q1,decide_eq_false q3];simp
  rw[<-hb] at hf;have HY:=If hf;clear hf q1 q3 hb;go_wp2_with fail;refine Jc HX.O ?_;go_wp2_with fail;refine Jc HY.O ?_;go_wp2_with fail
  go_meet
  exact⟨rfl,rfl⟩
 case rest=>
 obtain⟨rfl,rfl⟩:=hcut
 cases b2 with
 | true=>
  go_wp2_with fail;refine dR (HG.a _ (aa _ _)) fun w9 hb=>?_;have HX:=If hb;clear hb;go_wp2_with fail;go_ret;exact⟨rfl,HX.O⟩
 | false=>
 obtain⟨w,h8⟩:∃w,w=wc:=⟨_,rfl⟩;subst h8;have hb:=HB.O;simp only[Bool.or_eq_false_iff,Bool.not_eq_false',decide_eq_false_iff_not,Nat.not_lt] at hb;obtain⟨⟨b1,b3⟩,b5⟩:=hb;obtain⟨K,hK,fn,hO,dn⟩:=M9 uS l_ t (by unfold FO at b1;exact of_decide_eq_true b1);have gc:=xp HG.b 262144 4000 4294967295 o_ o_ o_;have gf:=fun W (hW:D_ w W)=>NA (HG.b.of_block (hW.block _ HG.b.lt)) 262144 4000 4294967295 o_ o_ o_;have fk:=ux 262144 4000 4294967295 o_ o_ o_;have gg:fc ⟨⟨262144,[]⟩,⟨4000,4294967295,[]⟩⟩ (20*20+64) (9*20+1):=⟨d_,d_⟩;have fm:l.length<=20:=by have:=HG.d;omega
 have HS:=kq6 gc gf fk gg (Cl b5) fm;have HK:=kq4 hK @fn @hO @dn;clear gc gf fk gg fm hK fn hO dn b1 b3 b5 HB HF;go_wp2_with fail;refine HS.a.M ?_;rintro e w1 ⟨ps,rfl,f',e4⟩;have H1:=kq2 f' e4;clear f' e4;go_wp2_with fail;refine(HS.b _ H1.b).M ?_;rintro e w2 ⟨po,rfl,gb,d4,h9⟩;obtain⟨X0,Z0,T2,x0,z0⟩:=dP.start (w:=w) H1.a gb d4 H1.b.size HG.b.lt;have B2:=b_ H1.b d4;have d8:po≠ps:=by have:=H1.a.lt;omega
 have ck:=Nt (w:=w) HK.a T2.a HS.c B2 x0 (v:=.slice A n c) (l:=l) (HG.c.a_ B2) (fun V hV=>HG.c.a_ (B2.T (hV.M x0).a_)) (by have:=HS.f;omega) HS.e (p:=64) (q:=1) (HS.d.M (by have:=HS.f;omega) (by have:=HS.f;omega));have gn:=H1.b.size;have c3:=If d8;have H2:=kq5 ck T2 z0 d8 gn;clear gb d4 h9 T2 x0 z0 B2 ck d8 H1 gn;go_wp2_with fail;refine H2.a.M ?_;rintro e w3 ⟨pa,rfl,la,bu,ra,S1,o1,Y1,R,gs,an,cb,ca,cn⟩;obtain⟨X1,Z1,T3,x1,z1,n1⟩:=H2.b.step an.m.st (fun k hk=>(an.x k hk).1) an.kp;have zw:∀k,k<w.1.size->Z1 k:=fun k hk=>z1 k (H2.c k (aB hk H2.e));have xw:∀k,k<w.1.size->X1 k:=fun k hk=>x1 k (an.m.own k hk);have ck:=Nt (w:=w) HK.a T3.b HS.c an.m.bl zw (v:=.slice A n c) (l:=l) (HG.c.a_ an.m.bl) (fun V hV=>HG.c.a_ (an.m.bl.T (hV.M zw).a_)) (by have:=HS.f;omega) HS.e (p:=64) (q:=1) (HS.d.M (by have:=HS.f;omega) (by have:=HS.f;omega));have e2:=(gl an.m.map);have H3:=kq12 ck an.m cb ca cn T3 xw zw (x1 _ an.m.ym) (x1 _ an.m.yx) (n1 _ la e2) (n1 _ gs (HK.a.ok.onLt an.m.on));clear ck an cb ca cn T3 x1 z1 n1 zw xw la gs e2;go_wp2_with fail;refine H3.a.M ?_;rintro e w4 ⟨pb,rfl,lb,hg,rb,T1,q1,Y2,R2,-,ar,ep,-,gk⟩;obtain⟨-,m3,cb,ca,cn,T3,xw,zw,bb,bc,ad,ai⟩:=H3.O;obtain⟨Z2,X2,T4,z2,x2,n2⟩:=T3.swap.step ar.m.st (fun k hk=>(ar.x k hk).1) ar.kp;have ds:∀k,Z1 k->Z2 k:=fun k hk=>z2 k (ar.x k hk).1;have M4:Ic w4 pa bu ps 1000:=(ar.kp.block pa ad).T m3.map;have O4:=HK.a.ok.onKeep m3.on ar.kp ai;have e6:=(gl ar.m.map);have cj:=OB (p:=0) (q:=0) T4.a (HK.a.ok.fit ep) ar.m.map gk;have bj:pa<w4.1.size:=(gl M4);have H4:=If (And.intro cj (And.intro ar.m.map (And.intro T4 (And.intro M4 (And.intro O4 (And.intro (fun k hk=>x2 k (xw k hk):∀k,k<w.1.size->X2 k) (And.intro (fun k hk=>ds k (zw k hk):∀k,k<w.1.size->Z2 k) (And.intro (x2 _ bb) (And.intro (x2 _ bc) (And.intro (ds _ ad) (And.intro (ds _ ai) (And.intro (z2 _ ar.m.ym) (And.intro (n2 _ lb e6) (And.intro ar.m.bl bj))))))))))))));have HQ:=kq3 cb ca cn;clear ar ep gk m3 cb ca cn T3 xw zw bb bc ad ai T4 z2 x2 n2 ds M4 O4 e6 cj lb H3 H2 bj;go_wp2_with fail;refine H4.O.1.M ?_;rintro e w5 ⟨pc,hc,T2,q2,rfl,g1,g2,g3,-,-,g6,g7,g8⟩;obtain⟨-,ed,T4,M4,O4,xw,zw,bb,bc,ad,ai,he,cp,B4,bj⟩:=H4.O;obtain⟨Z3,X3,T5,z3,x3,n3⟩:=T4.step g1 (fun k hk=>ab hk) g3;have M5:Ic w5 pa bu ps 1000:=(g3.block pa ad).T M4;have O5:=HK.a.ok.onKeep O4 g3 ai;have b0:Ic w5 pb hg po 1000:=(g3.block pb he).T ed;have a':=(gl g7);have cj:=OB (p:=0) (q:=0) T5.b (HK.a.ok.fit HQ.a) M5 HQ.c;have H5:=If (And.intro cj (And.intro T5 (And.intro M5 (And.intro O5 (And.intro b0 (And.intro g7 (And.intro (And.intro g2 g6) (And.intro (fun k hk=>x3 k (xw k hk):∀k,k<w.1.size->X3 k) (And.intro (x3 _ bb) (And.intro (x3 _ bc) (And.intro (x3 _ cp) (And.intro (z3 _ (ab ad)) (And.intro (z3 _ (ab ai)) (And.intro (n3 _ g8 a') (And.intro (z3 _ (ae rfl)) (And.intro (B4.T (g3.M zw).a_) (And.intro bj (And.intro g8 (And.intro a' (And.intro (HK.a.ok.onLt O4) (And.intro B4.size (fun k hk=>z3 k (ab (zw k hk)):∀k,k<w.1.size->Z3 k))))))))))))))))))))));clear cj g1 g2 g3 g6 g7 g8 ed T4 M4 O4 xw zw bb bc ad ai he cp B4 T5 z3 x3 n3 M5 O5 b0 H4 a' bj;go_wp2_with fail;refine H5.O.1.M ?_;rintro e w6 ⟨pd,hd,S2,q3,rfl,f1,f2,f3,-,f5,f6,f7,f8⟩;obtain⟨-,T5,M5,O5,b0,g7,b',xw,bb,bc,cp,ad,ai,bt,cq,B5,bj,g8,a',h7,d9,hr⟩:=H5.O;obtain⟨X4,Z4,T6,x4,z4,n4⟩:=T5.swap.step f1 (fun k hk=>ab hk) f3;have M6:Ic w6 pa bu ps 1000:=(f3.block pa bb).T M5;have O6:=HK.a.ok.onKeep O5 f3 bc;have eg:Ic w6 pb hg po 1000:=(f3.block pb cp).T b0;have c6:Ju w6 pc pb po hc 0:=g7.w_ f3 bt;have fb:=(gl f7);have ap:=HK.a.ok.frame HQ.a f2 fun y hy=>f6.2.2 y fun e=>HK.a.ok.has HQ.a y hy (e▸f6.1);have au:(im l).length<=98:=aH (wt l) (by have:=HS.f;omega);have mi:=Ha.mk' HK.a.ok HK.c T6.a ap au M6 O6;have dn:=HK.d ap;have ba:hd≠0/\hd<2^64:=by
  obtain⟨ws,hw⟩:=bH.1 f6.2.1;have:=fL f2 hw;omega
 have d5:hc≠0/\hc<2^64:=by
  obtain⟨ws,hw⟩:=bH.1 b'.2.2.1;have:=fL b'.1 hw;omega
 obtain⟨_,_,_,_,_,ch⟩:=T6.a;obtain⟨_,_,_,_,_,d3⟩:=T6.b;have gv:=Ha.far (ps:=ps) eg c3.O ⟨_,_,d3.hd⟩;have b9:=NV.open f7 ba.1 ba.2 ⟨_,_,ch.hd⟩;have c9:=NV.open c6 d5.1 d5.2 ⟨_,_,d3.hd⟩;have bs:hd∉R:=fun q=>HK.a.ok.has HQ.a _ q f6.1;have bf:∀y,i_ S2 y≠none↔y∈R\/y=hd:=fun y=>by
  by_cases e:y=hd
  ·subst e;exact⟨fun _=>ae rfl,fun _=>f6.2.1⟩
  ·rw[f6.2.2 y e];exact⟨fun q=>ab ((HQ.b.just y q).resolve_right fun z=>z (Nu HS.c y)),fun q=>HK.a.ok.has HQ.a y (q.resolve_right e)⟩
 have bd:R.length<=10000:=by
  have h1:=MX HK.a.ok HK.d HQ.a;have h2:=(HK.a.ok.fit HQ.a).tab.len;have h3:S1.t.most=4000:=HQ.b.most;omega
 have dc:=fun(V:World) (hV:D_ w6 V)=>(HK.b (T6.a.a_ hV) ap au (HK.a.ok.onBelow O6 hV)).1;obtain⟨W7,ez⟩:∃W,w6.alloc (.cells #[PV pa] 45)=W:=⟨_,rfl⟩;have A7:=c_ w6 (.cells #[PV pa] 45);have q7:=World.alloc_heap_new w6 (.cells #[PV pa] 45);have s7:(w6.alloc (.cells #[PV pa] 45)).1.size=w6.1.size+1:=s_
 rw[ez] at A7 q7 s7;obtain⟨W8,e0⟩:∃W,W7.alloc (.cells #[PV pa,.pointer none] 45)=W:=⟨_,rfl⟩;have A8:=c_ W7 (.cells #[PV pa,.pointer none] 45);have q8:=World.alloc_heap_new W7 (.cells #[PV pa,.pointer none] 45);have s8:(W7.alloc (.cells #[PV pa,.pointer none] 45)).1.size=W7.1.size+1:=s_
 rw[e0] at A8 q8 s8;have B8:=b_ A7 A8;obtain⟨W9,e1⟩:∃W,W8.alloc (.cells #[PV pd,.pointer none] 70)=W:=⟨_,rfl⟩;have A9:=c_ W8 (.cells #[PV pd,.pointer none] 70);have q9:=World.alloc_heap_new W8 (.cells #[PV pd,.pointer none] 70);rw[e1] at A9 q9;have B9:=b_ B8 A9;obtain⟨c7,er⟩:∃W,W9.alloc (.cells #[PV pa,PV pb] 45)=W:=⟨_,rfl⟩;have cx:=c_ W9 (.cells #[PV pa,PV pb] 45);have dp:=World.alloc_heap_new W9 (.cells #[PV pa,PV pb] 45);rw[er] at cx dp;have dv:=b_ B9 cx;obtain⟨h6,ev⟩:∃W,c7.alloc (.cells #[PV pd] 70)=W:=⟨_,rfl⟩;have bx:=c_ c7 (.cells #[PV pd] 70);have d':=World.alloc_heap_new c7 (.cells #[PV pd] 70);rw[ev] at bx d';have bm:=b_ dv bx;have hh:=(bx.block _ (gl dp)).T dp;have ea:=((b_ A8 A9).block _ (gl q7)).T q7;have a1:=pV (Am (.slice (some (y_ w6.1.size)) 1 1) n_ W7);have a2:Ct 34 #[PV ps,.slice (some (y_ W7.1.size)) 2 2,n_] W8 fun e w'=>e=.returned (Xi 1)/\W8=w':=
  pV (Ay (A:=none) (cm:=2) (cc:=0) (ms:=[(PV pa,some ps),(.pointer none,none)]) (cs:=[]) (T6.a.a_ B8) f2 ⟨fun i hi=>by
   have hi:i<2:=hi;rw[q_ q8];have:i=0\/i=1:=o_
   rcases this with rfl | rfl<;>rfl,fun m hm=>by
   rcases ah.1 hm with rfl | hm
   ·exact IQ (M6.a_ B8)
   ·rw[aE] at hm;subst hm;exact OJ (ab rfl),fun i hi=>absurd hi (Nat.not_lt_zero i),fun c hc=>(nomatch hc),ab ⟨(.pointer none,none),s_,rfl⟩,s_⟩)
 have a3:Ct 34 #[PV ps,.slice (some (y_ w6.1.size)) 1 1,.slice (some (y_ W8.1.size)) 2 2] W9 fun e w'=>e=.returned (Xi 1)/\W9=w':=
  pV (Ay (A:=some (y_ W8.1.size)) (cm:=1) (cc:=2) (ms:=[(PV pa,some ps)]) (cs:=[(PV pd,5),(.pointer none,1)]) (T6.a.a_ B9) f2 ⟨fun i hi=>by
   have hi:i<1:=hi;obtain rfl:i=0:=o_
   rw[q_ ea]
   rfl,fun m hm=>by
   rw[aE] at hm;subst hm;exact IQ (M6.a_ B9),fun i hi=>by
   have hi:i<2:=hi;refine⟨_,0,rfl,?_⟩;rw[bz,q_ q9];have:i=0\/i=1:=o_
   rcases this with rfl | rfl<;>rfl,fun c hc=>by
   rcases ah.1 hc with rfl | hc
   ·exact(Oz (f7.a_ B9) ba.1).M fun _ _ q=>⟨_,q.1,q.2⟩
   ·rw[aE] at hc;subst hc;exact(OY (ab rfl)).M fun _ _ q=>⟨_,q.1,q.2⟩,ae ⟨s_,⟨(.pointer none,1),s_,rfl⟩⟩,s_⟩)
 have gp:∀x∈ [(pa,ps,R),(pb,po,[])],Ha h6 ps x:=fun x hx=>by
  rcases ah.1 hx with rfl | hx
  ·exact mi.a_ bm
  ·rw[aE] at hx;subst hx;exact gv.a_ bm
 have a4:=N2 (n1:=2) (n2:=1) (cm:=2) (cc:=1) (r:=2) (T6.a.a_ bm) f2 (Ha.okc gp hh (fun i hi=>by
  have hi:i<2:=hi;have:i=0\/i=1:=o_
  rcases this with rfl | rfl<;>rfl) ⟨by simp only[e9,co,List.flatMap_nil,if_true,aW,if_neg c3.O];exact bd,s_⟩) (NT.one (c:=⟨PV pd,hd,some ps⟩) d' (b9.a_ bm)) (ab ⟨rfl,ab ⟨(pb,po,[]),s_,c3.O⟩⟩) rfl rfl
 have dk:=fun(V:World) (hV:D_ w6 V) (qV:V.1[w6.1.size]?=some (.cells #[PV pa] 45))=>(mi.a_ hV).ok1 qV bd;have HA:=kq4 a1 a2 a3 a4;have HM:=kq11 @dk b9 c9 bs bf T6 f2 dc M6 O6 ap;have c':=B5.T (f3.M xw).a_;have hz:Hid (∀k,k<w.1.size->Z4 k):=If fun k hk=>z4 k (hr k hk);have h0:=If (aH d9 g8:w.1.size<=pc);have h5:Hid (S2.t.most=4000):=If (f5.T HQ.b.most);have HC:=If (And.intro b'.1 (And.intro b'.2.2.1 (And.intro c6 (And.intro (x4 _ (ab bt)) (And.intro (z4 _ cq) (And.intro (z4 _ ad) (And.intro (z4 _ ai) (And.intro (n4 _ f8 fb) (And.intro f7 (And.intro (by omega:pa≠pc) (And.intro (by omega:bu≠pc) (And.intro (by omega:pd≠pc) (And.intro (Nat.ne_of_gt (aB HG.b.lt (aH d9 g8)):pc≠fy) (And.intro (by have:=f3.size;omega:w6.1.size≠pc) (And.intro au (And.intro c' (And.intro bm (And.intro ea (And.intro ba.1 (And.intro A9 (And.intro cx bx)))))))))))))))))))));clear hr f5 a1 a2 a3 a4 dk b9 c9 bs bf T6 f2 dc M6 O6 ap c' b' c6 bt cq ad ai bb bc cp fb f7 f8 f1 f3 f6 g7 g8 au bm ea hh a' h7 d9 bj T5 M5 O5 b0 eg xw B5 x4 z4 n4 mi gv dn ba d5 ch d3 bd A7 q7 s7 A8 q8 s8 B8 A9 q9 B9 cx dp dv bx d' gp;go_wp2_with fail;refine Jc HA.a ?_;go_wp2_with fail;refine Jc HA.b ?_;go_wp2_with fail;refine Jc HA.c ?_;go_wp2_with fail;refine dR HA.d fun w12 hb12=>?_;clear ez e0 e1 er ev;have d0:=b_ HC.O.2.2.2.2.2.2.2.2.2.2.2.2.2.2.2.2.1 hb12;have bo:D_ w6 (w12.alloc (.cells #[PV pd,PV pc] 70)):=d0.alloc d0.size _;have hj:=World.alloc_heap_new w12 (.cells #[PV pd,PV pc] 70);have eb:(w12.alloc (.cells #[PV pd,PV pc] 70)).1[w6.1.size]?=some (.cells #[PV pa] 45):=by
  have h1:=HC.O.2.2.2.2.2.2.2.2.2.2.2.2.2.2.2.2.2;have h2:=(b_ h1.2.2.2.1 h1.2.2.2.2);have h3:=(h2.block _ (gl h1.1)).T h1.1;have h4:=(hb12.block _ (gl h3)).T h3;exact((c_ w12 _).block _ (gl h4)).T h4
 have a5:=N2 (n1:=1) (n2:=2) (cm:=1) (cc:=2) (r:=2) (HM.f.a.a_ bo) HM.g (HM.a _ bo eb) (NT.two (c:=⟨PV pd,hd,some ps⟩) (d:=⟨PV pc,hc,some po⟩) hj (HM.b.a_ bo) (HM.c.a_ bo)) (ab ⟨rfl,ae ⟨⟨PV pc,hc,some po⟩,s_,po,rfl,c3.O⟩⟩) rfl rfl;have bq:=kq3 a5 bo eb;clear a5 bo hj eb d0 hb12;go_wp2_with fail;refine dR bq.a fun w14 hb14=>?_;have a0:=b_ bq.b hb14;have bv:=(hb14.block _ (gl bq.c)).T bq.c;obtain⟨X5,Z5,T7,x5,z5,-,n5⟩:=HM.f.a_ a0;obtain⟨eo,hq,c6,bt,cq,ad,ai,cv,f7,g0,g4,g5,g9,g',au,c',-,-,-⟩:=HC.O;have b4:=c6.a_ a0;have a':=OO T7.b eo b4 (z5 _ cq) hq;have fw:w6.1.size<w14.1.size:=(gl bv);have HX:=kq11 a' T7 b4 (x5 _ bt) (z5 _ ad) (z5 _ ai) (z5 _ cv) (n5 _ Ih fw) bv a0 (fun k hk=>z5 k (hz.O k hk):∀k,k<w.1.size->Z5 k);clear a' T7 b4 x5 z5 n5 bv a0 hb14 fw eo hq c6 bt cq ad ai cv f7 au c' bq;go_wp2_with fail;refine Jc (OZ _) ?_;go_wp2_with fail;refine Jc (OR (Am _ _ _)) ?_;go_wp2_with fail;refine HX.a.M ?_;rintro e a8 ⟨rfl,kp,em⟩;have bk:=HX.b.u_ HX.c ⟨d_,d_⟩ HX.d g9 kp;obtain⟨dk,b9,c9,bs,bf,T6,f2,dc,M6,O6,ap⟩:=HM.O;obtain⟨-,T7,b4,-,ad,ai,cv,el,bv,a0,zw⟩:=HX.O;have c4:Ic a8 pa bu ps 1000:=(kp.block pa ⟨ad,g0⟩).T (M6.a_ a0);have c5:=HK.a.ok.onKeep (HK.a.ok.onBelow O6 a0) kp ⟨ai,g4⟩;have en:Ju a8 pd pa ps hd 0:=(kp.block pd ⟨cv,g5⟩).T (HC.O.2.2.2.2.2.2.2.2.1.a_ a0);have cw:=(kp.block _ ⟨el,g'⟩).T bv;have au:=HC.O.2.2.2.2.2.2.2.2.2.2.2.2.2.2.1;have mi:=Ha.mk' HK.a.ok HK.c bk ap au c4 c5;obtain⟨_,_,_,_,_,ch⟩:=id bk;have ba:=fL f2 (bH.1 ((bf hd).2 (ae rfl))).choose_spec;have d6:hd≠0:=o_
 have cd:=NV.open en d6 ba.2.1 ⟨_,_,ch.hd⟩;have cc:=NV.closed em;have ek:D_ w a8:=(b_ HC.O.2.2.2.2.2.2.2.2.2.2.2.2.2.2.2.1 a0).T (kp.M fun k hk=>⟨zw k hk,fun e=>by have:=h0.O;omega⟩).a_;have a9:=c_ a8 (.cells #[PV pd,PV pc] 70);have ho:=World.alloc_heap_new a8 (.cells #[PV pd,PV pc] 70);have bd:R.length<=10000:=by
  have h1:=(HK.d ap).length_le_of_subset (l₂:=S2.all) fun x hx=>(f2.mem_all x).2 ((bf x).2 (ab hx));have h2:=f2.live_le;have h3:=f2.tab.len;have h4:S2.t.most=4000:=h5.O;rw[Kc] at h1;omega
 have e8:∀V,D_ a8 V->∀m∈ [(pa,ps,R)],NX V m:=fun V hV m hm=>by
  rw[aE] at hm;subst hm;exact⟨bu,fun U hU=>Gh (c4.a_ (b_ hV hU)),fun U hU=>(HK.b (bk.a_ (b_ hV hU)) ap au (HK.a.ok.onBelow c5 (b_ hV hU))).1⟩
 have e7:dS ps [⟨PV pd,hd,some ps⟩,⟨PV pc,0,none⟩]=[hd]:=by
  show (if hd≠0/\some ps=some ps then[hd] else[])++((if(0:Nat)≠0/\none=some ps then[0] else[])++[])=[hd]
  rw[if_pos ⟨d6,rfl⟩,if_neg fun q=>q.1 rfl]
  rfl
 have fv:(R++[hd]).Nodup:=aF.2 ⟨HK.d ap,s_,fun a ha b hb e=>by
  rw[aE] at hb;subst hb;exact bs (e▸ha)⟩
 have dd:∀x,x∈S2.all↔x∈R++[hd]:=fun x=>by rw[f2.mem_all,bf,aq,aE]
 have e':∀c∈([⟨PV pd,hd,some ps⟩,⟨PV pc,0,none⟩]:List Cu),∀q,c.s=some q->q=ps:=fun c hc q e=>by
  rcases ah.1 hc with rfl | hc
  ·exact(Option.some.inj e).S
  ·rw[aE] at hc;subst hc
   cases e
 have a6:=N2 (n1:=1) (n2:=2) (cm:=1) (cc:=2) (r:=0) (bk.a_ a9) f2 ((mi.a_ a9).ok1 ((a9.block _ (gl cw)).T cw) bd) (NT.two (c:=⟨PV pd,hd,some ps⟩) (d:=⟨PV pc,0,none⟩) ho (cd.a_ a9) (cc.a_ a9)) (ae ⟨s_,e',e8 _ a9,ab ⟨rfl,by
  rw[KE,e7];exact⟨fun x hx=>by rw[fv.count,if_pos ((dd x).1 hx)],fun x hx=>(dd x).2 hx⟩⟩⟩) rfl rfl
 have a7:=fun(V:World) (hV:D_ a8 V)=>N7 (cm:=1) (r:=8) (bk.a_ hV) f2 (mi.a_ hV) ((hV.block _ (gl cw)).T cw) bd (c4.a_ hV) (fun U hU=>(HK.b (bk.a_ (b_ hV hU)) ap au (HK.a.ok.onBelow c5 (b_ hV hU))).1) (ae ⟨rfl,hd,(dd hd).2 s_,by
  rw[dI.2 bs];decide⟩)
 have HY:=kq4 a6 @a7 a9 ek;clear a6 a7 a9 ek kp em bk dk b9 c9 bs bf T6 f2 dc M6 O6 ap T7 b4 ad ai cv el bv a0 zw c4 c5 en cw au mi ch ba cd cc ho bd e8 e7 fv dd e' g0 g4 g5 g9 g' d6;go_wp2_with fail;refine dR HY.a fun w17 hb17=>?_;have d1:=If (b_ HY.c hb17);clear hb17;go_wp2_with fail;refine dR (HY.b _ d1.O) fun w18 hb18=>?_;have ec:=b_ d1.O hb18;have d2:=If (b_ HY.d ec);clear hb18 ec;go_wp2_with fail;refine dR (HG.a _ d2.O) fun w19 hb19=>?_;have hu:=If (b_ d2.O hb19);clear hb19;go_wp2_with fail;go_ret;exact⟨rfl,hu.O⟩