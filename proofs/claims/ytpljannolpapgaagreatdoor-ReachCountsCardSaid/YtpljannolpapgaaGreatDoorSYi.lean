/- Trees of any j_ checked and listed: parts, bulk, Tree: the walks. -/
import Derived.Test.YtpljannolpapgaaGreatDoorSRg
import Derived.Test.YtpljannolpapgaaGreatDoorSLu
set_option maxRecDepth 100000
set_option maxHeartbeats 25600000
namespace Go.Proofs.YtpljannolpapgaaGreatDoor
open Go.RowKit Tryz Go.BigFrame Go.Maps Go.WideMaps Lf Tr
variable{B:Nat}{S:St}{Y:Nat->Prop}{j_:Nat}{kv:Value}{o:Nat->Nat}{ps:Nat}{f9:Nat}{t:Nat}{ty:TypeId}{v:Value}{w:World}
theorem LQ(h:Ig w ps S Y)(hi:Fv S){j c:FuncId}(hk:j6 j_ j c)(hen:∀(args:Array Value) (w:World),(callFunc c args).run prog w=.ok (.enter c args) w)(hcc:∀W,D_ w W->Ct c #[PV ps,Xu f9] W fun e w'=>e=.returned (Xi 0)/\D_ W w'):
 Cb 134 #[PV ps,Xi j_,Xu f9] w (Xi 0):=by
 have ha:=yG h hi hk;simp only[gS,eL] at ha;have HG:=kq2 ha hcc;go_enter func134,ntmps134;go_wp2_with fail;refine dR HG.a fun w1 hb1=>?_;have H1:=If (hb1.alloc hb1.size (.cells #[PV ps,.func (.func j) #[] #[],.func (.func c) #[] #[]] 265));go_wp2_with fail;refine dR (HG.b _ H1.O) fun w2 hb2=>?_;have H2:=If (b_ H1.O hb2);go_wp2_with fail;go_ret;exact⟨rfl,H2.O⟩
theorem Lh(h:Ig w ps S Y)(hi:Fv S)(hk:j_=1\/j_=2)(t:Int)(hc:Cb 134 #[PV ps,Xi j_,Xu f9] w (Xi 0)):
 Cb 86 #[PV ps,Xi j_,Xi t,Xu f9] w (Xi 0):=by
 have hq:((j_:Int)==3)=false:=by grind
 have HG:=kq2 (zY h hi hk t) hc;go_enter func86,ntmps86;go_wp2_with fail;refine Jc HG.a ?_;go_wp2_with fail;refine dR HG.b fun w2 hb2=>?_;have H2:=If hb2;go_wp2_with fail;go_ret;exact⟨rfl,H2.O⟩
theorem Kq{px ps j_ td f9:Nat}(hT:FF w px ps ty kv j_ td f9)(hs:∀W,D_ w W->Cb 86 #[PV ps,Xi j_,Xi td,Xu f9] W (Xi 0)):
 Cb 56 #[PV px] w (Xi 0):=by
 obtain⟨I,ap,ad⟩:=kN px ps ty kv j_ td f9;have ai:=fun x:Fq I=>ap _ x.ok;simp only[FF] at ai;obtain⟨m0,m1,m2,m3,m4⟩:=iK ai;have an:I w.drew:=ad _ hT;have HG:=kq4 (kw hT) (hs _ (aa _ w).drew) hT ad;go_enter func56,ntmps56;go_wp2_with fail;refine Jc HG.a ?_;go_wp2_with fail;refine fh I (.take 0 (.take 1 (.take 2 (.take 3 (.take 4 (.take 5 (.take 6 (.take 7 (.take 8 (.take 9 (.take 10 (.take 11 (.take 12 (.take 13 (.take 14 (.take 15 (.go 16 (.go 17 .nil)))))))))))))))))) k_ k_ an ?_
 iterate 16
  refine pT_ ?_
 refine pD fun K hK=>?_;go_simp;refine dR HG.b fun w2 hb2=>?_;have B2:=kq2 (FF.a_ (w:=w.drew) HG.c hb2) ((aa w.1.size w).drew.T hb2);refine hK.O _ _ (HG.d _ B2.a) ?_;refine pD fun K hK=>?_;go_simp;refine hK.O _ _ (HG.d _ B2.a) ?_;refine eP ?_;go_wp2_with fail;go_ret;exact⟨rfl,B2.b⟩
theorem KT{px ps j_ td f9:Nat}{L:List Pr}(hT:FF w px ps ty kv j_ td f9)(hs:∀W,D_ w W->Ct 59 #[PV ps,Xi j_,Xi td,Xu f9] W fun e w'=>∃v,e=.returned (.tuple #[v,Xi 0])/\w'.ownsRow W.1.size 40 2 v L.length (FJ L)/\D_ W w'):
 Ct 26 #[PV px] w fun e w'=>∃v,e=.returned v/\w'.ownsRow w.1.size 40 2 v L.length (FJ L)/\D_ w w':=by
 obtain⟨I,ar,ad⟩:=kN px ps ty kv j_ td f9;have an:=fun x:Fq I=>ar _ x.ok;simp only[FF] at an;obtain⟨m0,m1,m2,m3,m4⟩:=iK an;have ap:I w.drew:=ad _ hT;have HG:=kq4 (kw hT) (hs _ (aa _ w).drew) hT ad;go_enter func26,ntmps26;go_wp2_with fail;refine Jc HG.a ?_;go_wp2_with fail;refine fh I (.take 0 (.take 1 (.take 2 (.take 3 (.take 4 (.take 5 (.take 6 (.take 7 (.take 8 (.take 9 (.take 10 (.take 11 (.take 12 (.take 13 (.take 14 (.take 15 (.go 16 (.take 17 (.take 18 (.take 19 (.go 20 (.go 21 .nil)))))))))))))))))))))) k_ k_ ap ?_
 iterate 16
  refine pT_ ?_
  try simp only[pu]
 refine pD fun K hK=>?_;go_simp;refine HG.b.M ?_;rintro e w2 ⟨v,rfl,au,ai⟩;have B2:=kq3 (FF.a_ (w:=w.drew) HG.c ai) ((aa w.1.size w).drew.T ai) au;refine hK.O _ _ (HG.d _ B2.a) ?_
 iterate 3
  refine pT_ ?_
 refine pD fun K hK=>?_;go_simp;refine hK.O _ _ (HG.d _ B2.a) ?_;refine pD fun K hK=>?_;go_simp;refine hK.O _ _ (HG.d _ B2.a) ?_;refine eP ?_;go_wp2_with fail;go_ret;exact⟨v,rfl,B2.c,B2.b⟩
theorem L6{l:List Pr}(h:w.ownsRow B 40 2 v l.length (FJ l))(hl:l.length<=10000)(p:Pr)(hB:B<=w.1.size)(ty:TypeId):
 ∃v' w',(Builtin.append_ #[22,22] ty #[v,.slice (some (y_ w.1.size)) 1 1]).run prog (w.alloc (Xn p.1 p.2))=.ok v' w'/\w'.ownsRow B 40 2 v' (l++[p]).length (FJ (l++[p]))/\Below B w w':=by
 obtain⟨v',w',h1,h2,h3⟩:=F9 (w:=w.alloc (Xn p.1 p.2)) (h.alloc _) (PRow.one (heap_alloc_new w _) (c:=1)) (by grind) m_ ty;exact⟨v',w',h1,h2,((aa B w).alloc hB _).T h3⟩
def L1(S:St)(ps:Nat)(j_ t:Int)(f9:Nat)(L:List It)(w:World):Prop:=
 j_=3/\(∀W,D_ w W->Ct 74 #[PV ps,Xi t,Xu f9] W fun e w'=>∃v,e=.returned v/\py w' W.1.size v L/\D_ W w')\/
 j_≠3/\(∀W,D_ w W->Ct 75 #[PV ps,Xu f9] W fun e w'=>∃v,e=.returned v/\FE w' W.1.size v (L.map (·.h))/\D_ W w')/\∀a∈L,∃n:Nd,i_ S a.h=some (eM n)/\n.key=a.kh/\n.val=a.vh
theorem Ko{B B':Nat}{e:TypeId}{s:Nat}{n:Nat}{xs:List Value}(h:w.ownsRow B e s v n xs)(hB:B'<=B):w.ownsRow B' e s v n xs:=⟨h.1,h.2.imp id fun⟨g,cap,cur,a,b,c⟩=>⟨g,cap,cur,a,aH hB b,c⟩⟩
theorem py.below2{w w':World}{l:List It}(h:py w B v l)(hb:D_ w w'):py w' B v l:=LP h hb
theorem qYiac{P:Prop}(h:P:=by
 go_wp2_with (at_builtin;refine Lib.wpList_append_run _ rfl _ _ _ _ rfl _ _ rfl rfl _ _ a5 ?_)
 go_roundg (n-(j+1))
 case rel=>exact⟨j+1,s_,o_,o_,HF⟩
 case measure=>omega):P:=h
theorem Lj{ps f9:Nat}{j_ t:Int}{L:List It}(h:Ig w ps S Y)(hf:Fw S o)(hk:1<=j_/\j_<=3)(hck:Cb 86 #[PV ps,Xi j_,Xi t,Xu f9] w (Xi 0))(C6:L1 S ps j_ t f9 L w)(hb:∀a∈L,gu S a)(hl:L.length<=1000):
 Ct 59 #[PV ps,Xi j_,Xi t,Xu f9] w fun e w'=>∃v,e=.returned (.tuple #[v,Xi 0])/\w'.ownsRow w.1.size 40 2 v (F1 L).length (FJ (F1 L))/\D_ w w':=by
 have a':=fun(W:World) (hW:D_ w W) (a:It) (ha:a∈L)=>And.intro (JV (h.a_ hW) hf (hb a ha).lk (hb a ha).k) (JV (h.a_ hW) hf (hb a ha).lv (hb a ha).v);have bc:=fun(W:World) (hW:D_ w W) {hh:Nat} {n:Nd} (hn:i_ S hh=some (eM n))=>J6 (h.a_ hW) hf hn;obtain⟨n,hn⟩:=Ii L.length;have HC:=kq4 hck a' C6 @bc;have HE:=If hn;rw[hn] at hl;clear h hf hck C6 hb a' bc hn;go_enter func59,ntmps59;go_wp2_with fail;refine dR HC.a fun w1 hb1=>?_;have H1:=If hb1;clear hb1
 go_upto_if 32 with fail
 go_cut [11] from 13 (fun s11 wx=>Hid (py wx w.1.size s11 L/\D_ w wx))
 case first=>
  rcases HC.c with⟨h3,a9⟩ | ⟨h3,bj,ar⟩
  ·have HB:=If a9;clear a9;have bm:(j_==3)=true:=by simp[h3]
   subst h3;go_wp2_with fail;refine(HB.O w1 H1.O).M ?_;rintro e w2 ⟨v,rfl,hv,an⟩;have H2:Hid (py w2 w.1.size v L/\D_ w w2):=⟨Ko hv H1.O.size,b_ H1.O an⟩;clear hv an;go_wp2_with fail
   go_meet
   exact H2
  ·have HW:=kq2 bj ar;clear bj ar;have bm:(j_==3)=false:=by simp[h3]
   go_wp2_with fail;refine(HW.a w1 H1.O).M ?_;rintro e w2 ⟨v,rfl,hv,an⟩;obtain⟨A,c,rfl⟩:=hv.C9;rw[ao,HE.O];have H2:=kq2 hv (b_ H1.O an);clear hv an;go_wp2_with fail
   go_loopg [11,13,14,15,41] n (fun k s11 _ _ _ s41 wr=>∃j:Nat,s41=Xi j/\j<=n/\n-j<=k/\Hid (py wr w2.1.size s11 (L.take j)/\D_ w2 wr))
   case atStart=>exact⟨0,rfl,o_,o_,World.ownsRow_nil _ _ _ _,aa _ _⟩
   case round=>
    obtain⟨j,rfl,hj,bk,I⟩:=hrel
    by_cases hlt:j<n
    ·have a4:(j:Int)<n:=o_
     have ad:j<L.length:=by rw[HE.O];exact hlt
     have ba:D_ w wr:=b_ H2.b I.O.2;have bf:FE wr w1.1.size (.slice A (L.map (·.h)).length c) (L.map (·.h)):=H2.a.at fun g e=>I.O.2.block g (H2.a.ge g e).2;obtain⟨b,c',e,_,hc⟩:=bf.cell_at (j:=j) (by rw[ao];exact ad)
     injection e with e1 e2 e3
     subst e1;clear e2 e3;rw[bH] at hc;obtain⟨nd,ar,a2,a3⟩:=HW.b L[j] (av ad);have a0:=HC.d wr ba ar;have ai:L.take (j+1)=L.take j++[L[j]]:=ay ad;obtain⟨d,hd⟩:=Ii L[j];rw[hd] at hc a0 ai a2 a3;obtain⟨n1,n2,n3,n4,n5,n6⟩:=nd;simp only at a2 a3;subst a2 a3;unfold eS at a0;simp only at a0;have ap:(L.take j).length<=10000:=by rw[aM];omega
     have HM:=kq5 a0 ai ap I.O.1 I.O.2;clear a0 ai ap ba bf I hd ar;go_wp2_with fail;refine dR HM.a fun w3 hb3=>?_;have q3:(w3.alloc (Xb d.kh d.vh n3 n4 n5 n6)).1[w3.1.size]?=some (Xb d.kh d.vh n3 n4 n5 n6):=World.alloc_heap_new _ _;have B4:D_ w2 (w3.alloc (Xb d.kh d.vh n3 n4 n5 n6)):=(b_ HM.e hb3).alloc (aH HM.e.size hb3.size) _;have O4:py (w3.alloc (Xb d.kh d.vh n3 n4 n5 n6)) w2.1.size u11 (L.take j):=(HM.d.below2 hb3).alloc _;generalize bq:w3.alloc (Xb d.kh d.vh n3 n4 n5 n6)=W4 at*;obtain⟨k0,k1,k2,k3,k4,k5⟩:=ia q3;obtain⟨v2,w5,a5,au,bb,bo⟩:=K7 O4 HM.c d B4.size 135;have HF:Hid (py w5 w2.1.size v2 (L.take (j+1))/\D_ w2 w5):=⟨by rw[HM.b];exact au,B4.grown bb B4.size fun g e=>(World.ownsRow.lt O4 g e).1⟩;clear au bb bo q3 B4 O4 hb3;exact qYiac
    ·obtain rfl:j=n:=o_
     have a4:¬(j:Int)<j:=o_
     have I1:=I.O.1;rw[<-HE.O,cC] at I1;have H3:Hid (py wr w.1.size u11 L/\D_ w wr):=⟨Ko I1 H2.b.size,b_ H2.b I.O.2⟩;clear I1;go_wp2_with fail
     go_meet
     exact H3
 case rest=>
  clear H1;have H3:=hcut;clear hcut;obtain⟨A,c,he⟩:=H3.O.1.slice;subst he;have K3:=kq2 H3.O.1 H3.O.2;rw[HE.O];clear H3;go_wp2_with fail
  go_loopg [16,18,19,20,21,22,62] n (fun k s16 _ _ _ _ _ s62 wr=>∃j:Nat,s62=Xi j/\j<=n/\n-j<=k/\Hid (wr.ownsRow wc.1.size 40 2 s16 (F1 (L.take j)).length (FJ (F1 (L.take j)))/\D_ wc wr))
  case atStart=>exact⟨0,rfl,o_,o_,World.ownsRow_nil _ _ _ _,aa _ _⟩
  case round=>
   obtain⟨j,rfl,hj,bk,I⟩:=hrel
   by_cases hlt:j<n
   ·have a4:(j:Int)<n:=o_
    have ad:j<L.length:=by rw[HE.O];exact hlt
    obtain⟨b,c',e,_,c1,c2⟩:=K3.a.cell_at ad
    injection e with e1 e2 e3
    subst e1;clear e2 e3;have o1:=(I.O.2.cell (p:=⟨b,j*2,none⟩) (fK c1)).T c1;have o2:=(I.O.2.cell (p:=⟨b,j*2+1,none⟩) (fK c2)).T c2;have ha:=av ad;have ai:L.take (j+1)=L.take j++[L[j]]:=ay ad;obtain⟨a,a7⟩:=Ii L[j];rw[a7] at o1 o2 ha ai;have a1:D_ w wr:=b_ K3.b I.O.2;have A1:=c_ wr (Xe a.kh a.vh);have p1:=heap_alloc_new wr (Xe a.kh a.vh);obtain⟨W1,a6⟩:=Ii (wr.alloc (Xe a.kh a.vh));rw[a6] at A1 p1;have I2:=kq3 A1 (b_ a1 A1) p1;have HA:=kq2 ha ai;clear c1 c2 ha a7 A1 a1 ai;obtain⟨f0,f1⟩:=Fp p1;clear p1;go_wp2_with fail;refine dR (HC.b W1 I2.b a HA.a).1 fun w7 hb7=>?_;have p7:=(hb7.block _ (gl I2.c)).T I2.c;have I7:=kq3 (b_ I2.a hb7) (b_ I2.b hb7) p7;clear hb7 f0 f1 a6 o1 o2;obtain⟨f0,f1⟩:=Fp p7;clear p7;go_wp2_with fail;refine dR (HC.b w7 I7.b a HA.a).2 fun w8 hb8=>?_;have B8:D_ wr w8:=b_ I7.a hb8;have bd:wc.1.size<=w8.1.size:=aH I.O.2.size B8.size;have ap:(F1 (L.take j)).length<=10000:=by rw[jT,aM];omega
    obtain⟨v2,w9,a5,au,a8⟩:=L6 (LP I.O.1 B8) ap (a.k,a.v) bd 22;have HF:Hid (w9.ownsRow wc.1.size 40 2 v2 (F1 (L.take (j+1))).length (FJ (F1 (L.take (j+1))))/\D_ wc w9):=⟨by rw[HA.b];unfold F1;rw[aK];exact au,(b_ I.O.2 B8).T a8⟩;clear au a8 B8 bd ap hb8 f0 f1;exact qYiac
   ·obtain rfl:j=n:=o_
    have a4:¬(j:Int)<j:=o_
    have I1:=I.O.1;rw[<-HE.O,cC] at I1;have HF:=kq2 (Ko I1 K3.b.size) (b_ K3.b I.O.2);clear I1;go_wp2_with fail;go_ret2;exact⟨_,rfl,HF.O⟩
theorem Ml{ps f9:Nat}(h:Ig w ps S Y)(hi:Fv S)(t1:2<=t)(t2:t<=16)(hc:Cb 133 #[PV ps,Xi t,Xu f9] w (Xi 0)):
 Cb 86 #[PV ps,Xi 3,Xi t,Xu f9] w (Xi 0):=by
 have HG:=kq2 (zZ h hi t1 t2) hc;clear h hi hc;go_enter func86,ntmps86;go_wp2_with fail;refine Jc HG.a ?_;go_wp2_with fail;refine dR HG.b fun w1 hb=>?_;have H:=If hb;clear hb;go_wp2_with fail;go_ret;exact⟨rfl,H.O⟩
def JR(K:jo):Prop:=∀{w:World} {px ps f9:Nat} {S:St} {o:Nat->Nat} {Y:Nat->Prop} {L:List Pr} {R:List Nat},Ig w ps S Y->K.Hold S o f9 L R->L.length<=98->K.On w px ps f9->
 (Cb 56 #[PV px] w (Xi 0))/\
 Ct 26 #[PV px] w fun e w'=>∃v,e=.returned v/\w'.ownsRow w.1.size 40 2 v L.length (FJ L)/\D_ w w'
theorem La{j c:FuncId}{jn:Jn}{Ok:Tr->Prop}(hk:jD j_ j c jn)(hen:∀(args:Array Value) (w:World),(callFunc c args).run prog w=.ok (.enter c args) w)(hcc:∀{w:World} {ps:Nat} {S:St} {o:Nat->Nat} {Y:Nat->Prop} {t:Tr},Ig w ps S Y->fC Ok S o t->t.its.length<=1000->Ct c #[PV ps,Xu t.f9] w fun e w'=>e=.returned (Xi 0)/\D_ w w'):JR (jH j_ Ok):=by
 intro w px ps f9 S o Y L R h hH hl hT;obtain⟨t,hB,rfl,rfl,rfl⟩:=hH;rw[jT] at hl;have hN:t.its.length<=1000:=o_
 have ad:=fun(W:World) (hW:D_ w W)=>Lh (h.a_ hW) hB.fit.inv hk.is 0 (LQ (h.a_ hW) hB.fit.inv hk.way hen fun W' hW'=>hcc (h.a_ (b_ hW hW')) hB hN);refine⟨Kq hT ad,KT hT fun W hW=>Lj (h.a_ hW) hB.fit (by have:=hk.is;omega) (ad W hW) (.inr ⟨by have:=hk.is;omega,fun W' hW'=>(Kr (h.a_ (b_ hW hW')) hB.fit hB.at' (by rw[nodes_len];exact hB.A6) (by rw[nodes_len];exact hN)).M ?_,fun a ha=>At.item hB.at' a ha⟩) hB.F7 hN⟩;rintro e w' ⟨v,rfl,ho,hb⟩;exact⟨v,rfl,Ko ho o_,hb⟩
theorem LJ(t1:2<=t)(t2:t<=16):JR (mS t):=by
 intro w px ps f9 S o Y L R h hH hl hT
 rcases hH with⟨h0,rfl,rfl,rfl⟩ | ⟨d,x,hx,rfl,rfl,rfl⟩
 ·refine⟨Kq hT fun W hW=>(qc (h.a_ hW) h0.fit.inv t1 t2).M fun _ _ ⟨q1,q2⟩=>⟨q1,q2▸aa _ _⟩,KT hT fun W hW=>(Ab (h.a_ hW) h0.fit t1 t2).M ?_⟩;rintro e w' ⟨rfl,hb⟩;exact⟨_,rfl,World.ownsRow_nil _ _ _ _,hb⟩
 ·rw[jT] at hl;have ad:=fun(W:World) (hW:D_ w W)=>Ml (h.a_ hW) hx.fit.inv t1 t2 (Mi hx (h.a_ hW) o_);exact⟨Kq hT ad,KT hT fun W hW=>Lj (h.a_ hW) hx.fit o_ (ad W hW) (.inl ⟨rfl,fun W' hW'=>KC hx.walk (h.a_ (b_ hW hW')) (Nat.lt_trans hx.low d_) (Nat.le_succ_of_le hx.many) o_⟩) hx.F7 o_⟩
theorem LO{K:jo}(lk:JR K){ps px:Nat}(h:Ig w ps S Y)(hf:Fw S o)(h0:K.Hold S o 0 [] [])(hb:∀{W},K.On w px ps 0->D_ w W->K.On W px ps 0)(hT:K.On w px ps 0)(A6:Nat)(hl:A6<=1000):
 Ct 22 #[PV ps,PV px,Xi A6] w fun e w'=>∃pm,e=.returned (.tuple #[PV pm,Xi 0])/\Ic w' pm px ps A6/\D_ w w'/\w.1.size<=pm:=by
 have e0:zq A6 []=0:=by unfold zq;rw[if_neg o_];rfl
 refine(Nj (L:=[]) h hf.inv (lk h h0 s_ hT).1 (fun W hW=>(lk (h.a_ hW) h0 s_ (hb hT hW)).2) s_ A6).M ?_;rintro e w' ⟨v,rfl,hv,ad⟩;unfold JS at hv;rw[if_pos e0] at hv;obtain⟨pm,rfl,hm,ai⟩:=hv;exact⟨pm,by rw[e0];rfl,hm,ad,ai⟩
theorem Lx{j c:FuncId}{jn:Jn}{Ok:Tr->Prop}{T:Prop}(hk:jD j_ j c jn)(hok:T)(hnil:Ok .nil)(lk:JR (jH j_ Ok))(t:Int):yA j_ t (jH j_ Ok) T where
 ok:=hok
 zero hf:=⟨.nil,⟨hf,trivial,hnil,cV,fun _ h=>(bX h).elim,List.Pairwise.nil⟩,rfl,rfl,rfl⟩
 new h hf:=ES h hf.inv hk t
 of h hf hT A6 hl:=LO lk h hf ⟨.nil,⟨hf,trivial,hnil,cV,fun _ h=>(bX h).elim,List.Pairwise.nil⟩,rfl,rfl,rfl⟩ (NL _ _).onBelow hT A6 hl
theorem M7{T:Prop}(hok:T)(t1:2<=t)(t2:t<=16):yA 3 t (mS t) T where
 ok:=hok
 zero hf:=.inl ⟨⟨hf,t1,t2⟩,rfl,rfl,rfl⟩
 new h hf:=Cv h hf.inv t1 t2
 of h hf hT A6 hl:=LO (LJ t1 t2) h hf (.inl ⟨⟨hf,t1,t2⟩,rfl,rfl,rfl⟩) (NO _).onBelow hT A6 hl
theorem ii:JR (jH 1 eZ):=La vi (enters_of func234 k_ rfl) fun h hB hN=>K8 h hB hN
theorem LF:JR (jH 2 Rb):=La ot (enters_of func235 k_ rfl) fun h hB hN=>Nw h hB hN
theorem Tr.ofN_nodes:∀t:Tr,wl t.h_=eB t.its
 | .nil=>rfl
 | .node l d m r=>by
  show wl (h_ l++(d,nd l d m r)::h_ r)=eB (l.its++d::r.its)
  rw[iX,mx,<-ofN_nodes l,<-ofN_nodes r];simp[wl,nd]
theorem Kj(l:List It):(eB l).length=3*l.length:=by
 induction l with
 | nil=>rfl
 | cons d r ih=>rw[mx];simp only[aj,ih];omega
section
variable {X:Nat->Prop}{w W:World}{ps pm px:Nat}{S:St}{o:Nat->Nat}{Y:Nat->Prop}{t:Tr}
end
def Ki(K:jo):Prop:=∀{w:World} {pm px ps lim f9:Nat} {S:St} {o:Nat->Nat} {Y:Nat->Prop} {L:List Pr} {R:List Nat},Ig w ps S Y->K.Hold S o f9 L R->L.length<=98->Ic w pm px ps lim->K.On w px ps f9->
 Ct 36 #[PV pm] w fun e w'=>∃v,e=.returned v/\FE w' w.1.size v R/\D_ w w'
theorem Lc {j_:Nat}(hk:j_=1\/j_=2)(Ok:Tr->Prop):Ki (jH j_ Ok):=by
 intro w pm px ps lim f9 S o Y L R h hH hl hM hT;obtain⟨t,hB,rfl,rfl,rfl⟩:=hH;rw[jT] at hl;rw[<-Tr.ofN_nodes];exact LN h hB.fit hM hT hk hB.at' (by rw[nodes_len];exact hB.A6) (by rw[nodes_len];omega)
theorem Nh {t:Nat}(t1:2<=t)(t2:t<=16):Ki (mS t):=by
 intro w pm px ps lim f9 S o Y L R h hH hl hM hT
 rcases hH with⟨h0,rfl,rfl,rfl⟩ | ⟨d,x,hx,rfl,rfl,rfl⟩
 ·exact Nq h h0.fit hM hT t1 t2
 ·rw[jT] at hl;exact Np h hx hM hT o_
def Kh(K:jo):Prop:=∀{S:St} {o:Nat->Nat} {f9:Nat} {L:List Pr} {R:List Nat},K.Hold S o f9 L R->R.Nodup
theorem Lb(j_:Nat)(Ok:Tr->Prop):Kh (jH j_ Ok):=by
 rintro S o f9 L R ⟨t,hB,rfl,rfl,rfl⟩;exact hB.nd
theorem Ng(t:Nat):Kh (mS t):=by
 rintro S o f9 L R (⟨_,_,_,rfl⟩ | ⟨d,x,hx,_,_,rfl⟩)
 ·exact cV
 ·exact ax.2 ⟨hx.h_,hx.texts,fun a ha b hb e=>hx.apart a ha (e▸hb)⟩
structure JP (S0 S:St) (R:List Nat):Prop where
 just:∀y,i_ S y≠none->y∈R\/i_ S0 y≠none
 w_:∀y,i_ S0 y≠none->y∉R/\i_ S y=i_ S0 y
 most:S.t.most=S0.t.most
theorem JP.put {S0 S S3:St}{R R3:List Nat}(h:JP S0 S R)(hm:S3.t.most=S.t.most)(h1:∀y∈R3,y∈R\/i_ S y=none)(h2:∀y,i_ S3 y≠none->y∈R3\/i_ S y≠none/\y∉R)(h3:∀y,y∉R->i_ S y≠none->i_ S3 y=i_ S y):JP S0 S3 R3 where
 just y hy:=(h2 y hy).imp id fun q=>(h.just y q.1).resolve_left q.2
 w_ y hy:=by
  obtain⟨k1,k2⟩:=h.w_ y hy;have hn:i_ S y≠none:=by rw[k2];exact hy
  exact⟨fun hm=>(h1 y hm).elim k1 hn,(h3 y k1 hn).T k2⟩
 most:=hm.T h.most
section
variable {P:List (List UInt8×List UInt8)->Prop}{K:jo}{w w3 W:World}{ps pm px f9:Nat}{S S0:St}{o:Nat->Nat}{X Y:Nat->Prop}{L:List (List UInt8×List UInt8)}{R:List Nat}
theorem fi.belowB(ok:dU K){A6:Nat}(h:fi K w W ps pm px A6 f9 S Y L){W':World}(hb:D_ W W'):fi K w W' ps pm px A6 f9 S Y L:=
 ⟨h.st.a_ hb,h.hold,ok.onBelow h.on hb,h.map.a_ hb,b_ h.bl hb,h.own,h.yx,h.ym,h.lx,h.lm,h.ne⟩
theorem NR {j_ t:Int}{T:Prop}(hk:yA j_ t K T)(bs:dU K)(h:Ig W ps S Y)(hf:Fw S o)(hb:D_ w W)(hown:∀k,k<w.1.size->Y k)(A6:Nat)(hl:A6<=1000):
 Ct 52 #[PV ps,Xi j_,Xi t,Xi A6] W fun e w'=>∃(pm px:Nat) (Z:Nat->Prop),e=.returned (.tuple #[PV pm,Xi 0])/\fi K w w' ps pm px A6 0 S Z []/\(∀k,Y k->Z k)/\D_ W w'/\W.1.size<=px/\W.1.size<=pm:=by
 refine(CR h j_ t A6 K bs.onLt bs.onBelow (hk.new h hf) fun V px hV hT=>hk.of hV hf hT A6 hl).M ?_;rintro e w' ⟨pm,px,rfl,hM,hT,ad,lm,lx,ne⟩;exact⟨pm,px,fun k=>Y k\/(W.1.size<=k/\k<w'.1.size),rfl,⟨h.wide ad,⟨o,[],hk.zero hf⟩,hT,hM,b_ hb ad,fun k hk=>ab (hown k hk),ae ⟨lx,bs.onLt hT⟩,ae ⟨lm,(gl hM)⟩,aH hb.size lx,aH hb.size lm,ne⟩,fun k hk=>ab hk,ad,lx,lm⟩
theorem Kb.putR {p q:Nat}(ok:dT K P)(h:Kb K X w w3 W ps pm px f9 S Y L)(hH:K.Hold S o f9 L R)(hB:JP S0 S R)(hs:fc S (20+p) (9+q))(a b:List UInt8)(ha:a.length<=1000)(hb:b.length<=1000)(hc:L.length<98)(hP:P L):
 Ct 24 #[PV pm,SV a,SV b] W fun e w'=>e=.returned (.tuple #[SV ((Bt.getL L a).getD []),.bool (Bt.getL L a).isSome,Xi 0])/\∃x S3 o3 R3,Kb K X w w3 w' ps pm px x S3 Y (gV L a b)/\K.Hold S3 o3 x (gV L a b) R3/\JP S0 S3 R3/\fc S3 p q:=by
 refine CS h.m.map a b _ _ ha hb ((ok.put h.m.st hH hc h.m.on h.m.yx hP a b ha hb (hs.M o_ o_)).M ?_);rintro e w' ⟨x,S3,rfl,k1,k2,k3,k4⟩;obtain⟨o3,R3,k5,k6,k7⟩:=k4.holds;exact⟨rfl,x,S3,o3,R3,⟨⟨k1,⟨o3,R3,k5⟩,k3,(k2.block pm ⟨h.m.ym,h.m.ne⟩).T h.m.map,h.m.bl.T (Fo.a_ (k2.M fun k hk=>⟨h.m.own k hk,fun q=>by have:=h.m.lx;omega⟩)),h.m.own,h.m.yx,h.m.ym,h.m.lx,h.m.lm,h.m.ne⟩,h.x,h.kp.T (k2.M fun k hk=>h.x k hk)⟩,k5,hB.put k4.grew.most k6 k7 k4.apart,fc.grew hs k4.grew⟩
theorem Nt {j_ t:Int}(hk:yB j_ t K)(h:Ig W ps S X)(hf:Fw S o)(hb:D_ w W)(hown:∀k,k<w.1.size->X k){v:Value}{l:List (List UInt8×List UInt8)}(hv:PRow W v l)(hvw:∀V,Fo X W V->PRow V v l)(hn:l.length<=40)(hl:pK l){p q:Nat}(hsp:fc S (20*l.length+p) (9*l.length+q)):
 Ct 30 #[PV ps,Xi j_,Xi t,v] W fun e w'=>∃pm:Nat,e=.returned (PV pm)/\W.1.size<=pm/\∃px f9 S' o' Y R,W.1.size<=px/\Kb K X w W w' ps pm px f9 S' Y (im l)/\K.Hold S' o' f9 (im l) R/\JP S S' R/\fc S' p q:=by
 have ai:∀k,X k->k<W.1.size:=h.yl;refine(LR hv o_ (fun pm i w'=>W.1.size<=pm/\∃px f9 S' o' Y R,W.1.size<=px/\Kb K X w W w' ps pm px f9 S' Y (im (l.take i))/\K.Hold S' o' f9 (im (l.take i)) R/\JP S S' R/\fc S' (20*(l.length-i)+p) (9*(l.length-i)+q)) ?_ ?_ ?_ ?_).M ?_
 ·refine(NR hk hk.ok.todU h hf hb hown 1000 o_).M ?_;rintro e w' ⟨pm,px,Z,rfl,h1,hz,h2,h3,h4⟩;exact⟨pm,rfl,h4,px,0,S,o,Z,[],h3,⟨h1,fun k hk=>⟨hz k hk,by have:=ai k hk;omega⟩,Fo.v_ h2 ai⟩,hk.zero hf,⟨fun y hy=>ae hy,fun y _=>⟨bX,rfl⟩,rfl⟩,hsp⟩
 ·rintro pm i V ⟨_,px,f9,S',o',Y',R,_,h1,_⟩;exact hvw V h1.kp
 ·rintro pm i V ⟨h0,px,f9,S',o',Y',R,hp,h1,h2⟩;exact⟨h0,px,f9,S',o',Y',R,hp,⟨h1.m.belowB hk.ok.todU (aa _ _).drew,h1.x,h1.kp.T (Fo.v_ (aa _ _).drew fun k hk=>h1.m.st.yl k (h1.x k hk).1)⟩,h2⟩
 ·rintro pm i V hi ⟨h0,px,f9,S',o',Y',R,hp,h1,h2,h3,h4⟩;have ad:=hl l[i] (av hi);have an:=wt (l.take i);rw[aM] at an;refine(h1.putR (p:=20*(l.length-(i+1))+p) (q:=9*(l.length-(i+1))+q) hk.ok h2 h3 (h4.M o_ o_) l[i].1 l[i].2 ad.1 ad.2 o_ trivial).M ?_;rintro e w' ⟨rfl,x,S3,o3,R3,h5,h6⟩;have e:gV (im (l.take i)) l[i].1 l[i].2=im (l.take (i+1)):=by rw[xB hi,DF]
  rw[e] at h5 h6;exact⟨_,_,0,rfl,h0,px,x,S3,o3,Y',R3,hp,h5,h6⟩
 ·rintro e w' ⟨pm,rfl,h0,px,f9,S',o',Y',R,hp,h1,h2,h3,h4⟩;rw[cC] at h1 h2;exact⟨pm,rfl,h0,px,f9,S',o',Y',R,hp,h1,h2,h3,h4.M o_ o_⟩
theorem Nf(h:Ig W ps S Y)(hf:Fw S o)(n:Int){p q:Nat}(hsp:fc S (64+p) (1+q)):
 Ct 31 #[PV ps,Xi n] W fun e w'=>∃(hh:Nat) (b:Bool) (S':St) (o':Nat->Nat),e=.returned (.tuple #[Xu hh,Xi (if b=true then 0 else 2:Nat)])/\Ig w' ps S' Y/\Fw S' o'/\Fo Y W w'/\fc S' p q/\S'.t.most=S.t.most/\(b=false->S'=S)/\(b=true->i_ S hh=none/\i_ S' hh≠none/\∀y,y≠hh->i_ S' y=i_ S y)/\(0<=n->n<=3998->b=true):=by
 by_cases hn:n<0\/3998<n
 ·refine(Nz h n hn).M ?_;rintro e w' ⟨rfl,hb⟩;exact⟨0,false,S,o,rfl,h.a_ hb,hf,h.w_ hb,hsp.M o_ o_,rfl,fun _=>rfl,fun e=>(nomatch e),fun _ _=>by omega⟩
 ·obtain⟨m,rfl⟩:∃m:Nat,n=m:=⟨n.toNat,o_⟩;have hm:m<=3998:=o_
  have ai:fa (m+2)<=64:=by
   unfold fa;rw[if_neg o_]
   split<;>omega
  obtain⟨hh,S',o',ws,e,f',r0,_,r1,r2,hg,ho⟩:=oz hf hm (hsp.M o_ o_);have ad:=sH h m hm ho;rw[e] at ad;refine ad.M ?_;rintro e w' ⟨rfl,h1,h2⟩;exact⟨hh,true,S',o',rfl,h1,f',h2,fc.grew hsp (hg.M ai Ih),hg.most,fun e=>(nomatch e),fun _=>⟨r0,by rw[r1];simp,r2⟩,fun _ _=>rfl⟩
end
structure JU (S4 S:St) (lr:List Nat):Prop where
 same:∀y,i_ S4 y≠none->i_ S y=i_ S4 y
 just:∀y,i_ S y≠none->i_ S4 y≠none\/y∈lr
 has:∀y∈lr,i_ S y≠none/\i_ S4 y=none
 nd:lr.Nodup
 most:S.t.most=S4.t.most
theorem JU.refl(S:St):JU S S []:=⟨fun _ _=>rfl,fun _ hy=>ab hy,fun _ hy=>(nomatch hy),cV,rfl⟩
theorem JU.add {S4 S S':St}{lr:List Nat}{hh:Nat}(h:JU S4 S lr)(r:i_ S hh=none/\i_ S' hh≠none/\∀y,y≠hh->i_ S' y=i_ S y)(hm:S'.t.most=S.t.most):JU S4 S' (lr++[hh]):=by
 obtain⟨r0,r1,r2⟩:=r;have ad:∀y,i_ S y≠none->y≠hh:=fun y hy e=>hy (e▸r0);refine⟨fun y hy=>?_,fun y hy=>?_,fun y hy=>?_,?_,hm.T h.most⟩
 ·have e:=h.same y hy;exact(r2 y (ad y (by rw[e];exact hy))).T e
 ·by_cases e:y=hh
  ·subst e;exact ae s_
  ·rw[r2 y e] at hy;exact(h.just y hy).imp id (aB _)
 ·rcases ak.1 hy with hy | hy
  ·obtain⟨q1,q2⟩:=h.has y hy;exact⟨by rw[r2 y (ad y q1)];exact q1,q2⟩
  ·rw[aE] at hy;subst hy;refine⟨r1,Classical.byContradiction fun q=>?_⟩;have e:=h.same _ q;rw[r0] at e;exact q e.S
 ·refine ax.2 ⟨h.nd,s_,fun a ha b hb=>?_⟩;rw[aE] at hb;subst hb;exact ad a (h.has a ha).1
structure Ha (w:World) (ps:Nat) (m:Nat×Nat×List Nat):Prop where
 st:∀W,D_ w W->Ct 70 #[PV m.1] W fun e w'=>e=.returned (PV m.2.1)/\W=w'
 of:m.2.1=ps->∀W,D_ w W->Ct 36 #[PV m.1] W fun e w'=>∃v,e=.returned v/\FE w' W.1.size v m.2.2/\D_ W w'
 own:∃cs ty,w.1[m.2.1]?=some (.cells cs ty (0,0))
 hlt:∀x∈m.2.2,x<2^64
theorem Ha.a_ {w W:World}{ps:Nat}{m:Nat×Nat×List Nat}(h:Ha w ps m)(hb:D_ w W):Ha W ps m where
 st V hV:=h.st V (b_ hb hV)
 of e V hV:=h.of e V (b_ hb hV)
 own:=by
  obtain⟨cs,ty,e⟩:=h.own;exact⟨cs,ty,(hb.block _ (gl e)).T e⟩
 hlt:=h.hlt
theorem Ha.ok {w:World}{ps bm:Nat}{ms:List (Nat×Nat×List Nat)}(h:∀m∈ms,Ha w ps m){ty:TypeId}(hc:w.1[bm]?=some (.cells (ms.map fun m=>PV m.1).toArray ty))(hl:(e9 ps ms).length<=10000/\ms.length<=1000):JM w ps bm ms where
 cell i hi:=by
  rw[q_ hc];simp[hi]
 lt:=(gl hc)
 st m hm:=(h m hm).st
 of m hm:=(h m hm).of
 own m hm:=(h m hm).own
 hlt m hm:=(h m hm).hlt
 len:=hl
theorem Ha.mk' {P:List (List UInt8×List UInt8)->Prop}{K:jo}(ok:dT K P)(hO:Ki K){w:World}{ps pm px f9 lim:Nat}{S:St}{o:Nat->Nat}{Y:Nat->Prop}{L:List Pr}{R:List Nat}(st:Ig w ps S Y)(hH:K.Hold S o f9 L R)(hl:L.length<=98)(hM:Ic w pm px ps lim)(hT:K.On w px ps f9):Ha w ps (pm,ps,R) where
 st W hW:=IQ (hM.a_ hW)
 of _ W hW:=hO (st.a_ hW) hH hl (hM.a_ hW) (ok.onBelow hT hW)
 own:=by
  obtain⟨_,_,_,_,_,hI⟩:=st;exact⟨_,_,hI.hd⟩
 hlt x hx:=by
  obtain⟨ws,hw⟩:=bW.1 (ok.has hH x hx);exact(fL (ok.fit hH) hw).2.1
theorem KE(ps pm:Nat)(R:List Nat):e9 ps [(pm,ps,R)]=R:=by simp[e9]
theorem Nn {S:St}{o:Nat->Nat}(hf:Fw S o){R l:List Nat}(h1:∀y,i_ S y≠none->y∈R\/y∈l)(h2:∀y∈l,i_ S y≠none/\y∉R)(hd:l.Nodup):(mn R S.all).Perm l:=by
 refine(List.perm_ext_iff_of_nodup (hf.all_nodup.filter _) hd).2 fun a=>?_
 show a∈mn R S.all↔_
 rw[show a∈mn R S.all↔a∈S.all/\a∉R by simp[mn],hf.mem_all];exact⟨fun q=>(h1 a q.1).resolve_left q.2,h2 a⟩
theorem Nu {q n l:Nat}{o:Nat->Nat}(hf:Fw ⟨⟨q,[]⟩,⟨n,l,[]⟩⟩ o)(y:Nat):i_ ⟨⟨q,[]⟩,⟨n,l,[]⟩⟩ y=none:=by
 cases h:i_ ⟨⟨q,[]⟩,⟨n,l,[]⟩⟩ y with
 | none=>rfl
 | some ws=>
  obtain⟨k,x,h1,_⟩:=(gT hf.tab).1 h
  simp at h1
section
variable {w W:World}{pc pm px ps hh:Nat}{S:St}{o:Nat->Nat}{Y:Nat->Prop}
theorem Oz(hC:Ju w pc pm ps hh 0)(h0:hh≠0):
 Ct 114 #[PV pc] w fun e w'=>e=.returned (.tuple #[.string ⟨#[]⟩,Xi 5])/\w=w':=by
 have HG:=If (ee hC h0);unfold Ju at hC;obtain⟨c0,c1,c2,c3⟩:=Fy hC;clear hC h0;go_enter func114,ntmps114;go_wp2_with fail;refine Jc HG.O ?_;go_wp2_with fail;go_ret2;exact⟨rfl,rfl⟩
theorem Oy(hC:Ju w pc pm ps hh 0)(h0:hh≠0):
 Ct 115 #[PV pc] w fun e w'=>e=.returned (Xu hh)/\w=w':=by
 have HG:=If (ee hC h0);unfold Ju at hC;obtain⟨c0,c1,c2,c3⟩:=Fy hC;clear hC h0;go_enter func115,ntmps115;go_wp2_with fail;refine Jc HG.O ?_;go_wp2_with fail;go_ret;exact⟨rfl,rfl⟩
theorem OA(hC:Ju w pc pm ps hh 0)(h0:hh≠0):
 Ct 71 #[PV pc] w fun e w'=>e=.returned (PV ps)/\w=w':=by
 have HG:=If (ee hC h0);unfold Ju at hC;obtain⟨c0,c1,c2,c3⟩:=Fy hC;clear hC h0;go_enter func71,ntmps71;go_wp2_with fail;refine Jc HG.O ?_;go_wp2_with fail;go_ret;exact⟨rfl,rfl⟩
theorem NV.open(hC:Ju w pc pm ps hh 0)(h0:hh≠0)(hl:hh<2^64)(ho:∃cs ty,w.1[ps]?=some (.cells cs ty (0,0))):NV w ⟨PV pc,hh,some ps⟩ where
 key W hW:=(Oz (hC.a_ hW) h0).M fun _ _ q=>⟨_,5,q.1,d_,q.2⟩
 handle W hW:=Oy (hC.a_ hW) h0
 store W hW:=OA (hC.a_ hW) h0
 own p e:=Option.some.inj e▸ho
 has _ e:=nomatch e
 hlt:=hl
theorem OB(h:Ig W ps S Y)(hf:Fw S o)(hM:Ic W pm px ps 1000){p q:Nat}(hsp:fc S (64+p) (1+q)):
 Ct 35 #[PV pm] W fun e w'=>∃(pc hh:Nat) (S':St) (o':Nat->Nat),e=.returned (.tuple #[PV pc,Xi 0])/\Ig w' ps S' (fun k=>Y k\/k=pc)/\Fw S' o'/\Fo Y W w'/\fc S' p q/\S'.t.most=S.t.most/\(i_ S hh=none/\i_ S' hh≠none/\∀y,y≠hh->i_ S' y=i_ S y)/\Ju w' pc pm ps hh 0/\W.1.size<=pc:=by
 have ad:=Nf h hf (many 1000:Nat) hsp;have HG:=kq4 (IQ hM) (Ik hM) (xD 1000 W o_) ad;clear h hf hM hsp ad;go_enter func35,ntmps35;go_wp2_with fail;refine Jc HG.a ?_;go_wp2_with fail;refine Jc HG.b ?_;go_wp2_with fail;refine Jc HG.c ?_;go_wp2_with fail;refine HG.d.M ?_;rintro e w2 ⟨hh,b,S',o',rfl,h1,h2,h3,h4,h5,h6,h7,h8⟩;obtain rfl:=h8 o_ (by unfold many;split<;>omega);have h7:=h7 rfl;have A2:=c_ w2 (.cells #[PV pm,PV ps,Xu hh,Xi 0] 132);have q2:=heap_alloc_new w2 (.cells #[PV pm,PV ps,Xu hh,Xi 0] 132);have hw:=h1.wide A2;have hk:=h3.T (Fo.v_ A2 fun k hk=>h1.yl k hk);have hz:=h3.size;have H2:=kq8 hw q2 hk h2 h4 h5 h7 hz;clear h1 h2 h3 h4 h5 h6 h7 h8 A2 q2 hw hk hz;simp only[if_true];go_wp2_with fail;go_ret2;obtain⟨hw,q2,hk,h2,h4,h5,h7,hz⟩:=H2.O;exact⟨w2.1.size,rfl,hh,S',hw.M fun k hk=>hk.imp id fun e=>by subst e;exact⟨Nat.le_refl _,s_⟩,⟨o',h2⟩,hk,h4,h5,h7,q2,hz⟩
end
theorem Ig.grownT {w w':World}{ps:Nat}{S:St}{Y:Nat->Prop}{row:Option Nat}{ty:TypeId}(hty:ty≠94/\ty≠160)(h:Ig w ps S Y)(hg:w.grownBy w' row)(hr:∀g,row=some g->Y g/\g≠fy/\∃cs fr,w.1[g]?=some (.cells cs ty fr)):Ig w' ps S (fun k=>Y k\/(w.1.size<=k/\k<w'.1.size)):=by
 cases row with
 | none=>exact h.wide ⟨hg.os,hg.tape,hg.output,hg.size,fun k hk=>hg.block k hk s_⟩
 | some g=>
  obtain⟨h1,h2,cs,fr,h3⟩:=hr g rfl;have au:=(gl h3);obtain⟨w2,ad⟩:∃w2:World,w2= { w' with heap:=w'.heap.setIfInBounds g (.cells cs ty fr) }:=⟨_,rfl⟩;have an:w2.1.size=w'.1.size:=by rw[ad];simp
  have ai:∀k,w2.1[k]?=if g=k then some (.cells cs ty fr) else w'.1[k]?:=fun k=>by
   rw[ad]
   show (w'.heap.setIfInBounds g _)[k]?=_
   rw[du]
   split
   ·rename_i e;subst e;rw[if_pos (by have:=hg.size;omega)]
   ·rfl
  have ap:D_ w w2:=by
   refine⟨by rw[ad];exact hg.os,by rw[ad];exact hg.tape,by rw[ad];exact hg.output,by rw[an];exact hg.size,fun k hk=>?_⟩;rw[ai]
   split
   ·rename_i e;subst e;exact h3.S
   ·rename_i e;exact hg.block k hk (fun q=>e (Option.some.inj q).S)
  have hz:=h.wide ap;rw[an] at hz;obtain⟨pa,pm,ph,pt,v,hz⟩:=hz;refine⟨pa,pm,ph,pt,v,hz.of_keep (by rw[an];exact Nat.le_refl _) fun k hk hc=>?_⟩;have ar:k≠g:=by
   rintro rfl
   rcases hc with hc | rfl | rfl | rfl
   ·exact hc (ab h1)
   ·have:=hz.hd;rw[ai,if_pos rfl] at this
    injection this with this
    injection this with _ this
    exact hty.1 this
   ·have:=hz.heap.hp;rw[ai,if_pos rfl] at this
    injection this with this
    injection this with _ this
    exact hty.2 this
   ·exact h2 rfl
  rw[ai,if_neg (fun e=>ar e.S)]
def pV(l:List Nat):List Value:=l.map fun x:Nat=>PV x
theorem OC:(prog.info? 70).map (fun i=>(i.zero,i.size,i.bytes))=some (some (.pointer none),1,8):=k_
abbrev BY(w:World)(B:Nat)(v:Value)(l:List Nat):Prop:=w.ownsRow B 70 1 v l.length (pV l)
theorem Oj {w:World}{B:Nat}{v:Value}{l:List Nat}(h:BY w B v l)(hl:l.length<=100000)(x:Nat)(hB:B<=w.1.size)(ty:TypeId):
 ∃v' w',(Builtin.append_ #[73,73] ty #[v,.slice (some (y_ w.1.size)) 1 1]).run prog (w.alloc (.cells #[PV x] 70))=.ok v' w'/\BY w' B v' (l++[x])/\w.grownBy w' v.ownBlock/\(v'.ownBlock=v.ownBlock\/∃g,v'.ownBlock=some g/\w.1.size<=g):=by
 obtain⟨i,hi,ad,ai,an⟩:=info_parts OC;obtain⟨v',w',h1,h2,h3,_,h4⟩:=run_append_own_at (P:=prog) (w:=w.alloc (.cells #[PV x] 70)) B 73 ty 70 i (.pointer none) 1 8 underlying73 hi ad ai an rfl d_ v l.length (pV l) (h.alloc _) (y_ w.1.size) 1 1 [PV x] rfl (cell_one_new _ _ _) (by simp[Value.oneCell']) (by unfold maxLen;omega) o_ m_;refine⟨v',w',h1,?_,(World.grownBy_alloc w _ _).T h3,?_⟩
 ·have e:pV (l++[x])=pV l++[PV x]:=by simp[pV]
  unfold BY;rw[e,af];exact h2
 ·rcases h4 with h4 | h4
  ·exact ab h4
  ·exact ae ⟨_,h4,s_⟩
theorem BY.at {w w':World}{D:Nat}{v:Value}{l:List Nat}(h:BY w D v l)(e:∀g,v.ownBlock=some g->w'.1[g]?=w.1[g]?):BY w' D v l:=by
 refine⟨h.1,?_⟩
 rcases h.2 with hn | ⟨g,ad,cur,rfl,hb,ai,an⟩
 ·exact .inl hn
 ·exact .inr ⟨g,ad,cur,rfl,hb,(e g rfl).T ai,an⟩
theorem BY.ge {w:World}{D:Nat}{v:Value}{l:List Nat}(h:BY w D v l):∀g,v.ownBlock=some g->D<=g/\g<w.1.size:=World.ownsRow.lt h
theorem BY.C9 {w:World}{D:Nat}{v:Value}{l:List Nat}(h:BY w D v l):∃A c,v=.slice A l.length c:=by
 rcases h.2 with⟨rfl,e⟩ | ⟨g,ad,cur,rfl,_⟩
 ·exact⟨none,0,by rw[e]⟩
 ·exact⟨_,_,rfl⟩
theorem BY.block {w:World}{B:Nat}{v:Value}{l:List Nat}(h:BY w B v l){g:Nat}(hg:v.ownBlock=some g):B<=g/\g<w.1.size/\∃cs fr,w.1[g]?=some (.cells cs 70 fr):=by
 rcases h.2 with⟨e,_⟩ | ⟨b,c,cur,e,hb,ad,ap,ai,an,ht⟩
 ·rw[e] at hg
  cases hg
 ·rw[e] at hg
  cases hg
  exact⟨hb,(gl ad),_,_,ad⟩
theorem BY.cell_at {w:World}{D:Nat}{v:Value}{l:List Nat}(h:BY w D v l){j:Nat}(hj:j<l.length):∃b c,v=.slice (some (y_ b)) l.length c/\D<=b/\w.cell? (x_ b j)=some (PV l[j]):=by
 rcases id h.2 with⟨_,e0⟩ | ⟨b,c,cur,e,_⟩
 ·rw[e0] at hj
  simp at hj
 ·have e2:=World.ownsRow.cells h (g:=b) (by rw[e];rfl) j (PV l[j]) (by simp[pV,hj]);rw[Addr.add_lit,bA] at e2;exact⟨b,c,e,(h.ge b (by rw[e];rfl)).1,e2⟩
structure v8 (ps pm B:Nat) (S4:St) (X:Nat->Prop) (w4:World) (p q:Nat) (v:Value) (l:List Nat) (lr:List (Nat×Nat)) (W:World) (S:St) (o:Nat->Nat):Prop where
 st:Ig W ps S (fun k=>(X k\/k∈lr.map Prod.fst)\/v.ownBlock=some k)
 fit:Fw S o
 kp:Fo X w4 W
 own:BY W B v l
 lo:fy<B/\B<=W.1.size
 off:∀k,X k->k<B
 cur:∀c∈lr,Ju W c.1 pm ps c.2 0/\B<=c.1/\v.ownBlock≠some c.1
 rc:JU S4 S (lr.map Prod.snd)
 sp:fc S p q
section
variable {ps pm px B:Nat}{S4 S:St}{o:Nat->Nat}{X:Nat->Prop}{w4 W w2:World}{p q:Nat}{v v2:Value}{l:List Nat}{lr:List (Nat×Nat)}
theorem v8.start(h:Ig w4 ps S4 X)(hf:Fw S4 o)(ht:fy<w4.1.size)(hsp:fc S4 p q):v8 ps pm w4.1.size S4 X w4 p q n_ [] [] w4 S4 o where
 st:=h.M fun k hk=>by
  rcases hk with (hk | hk) | hk
  ·exact hk
  ·cases hk
  ·cases hk
 fit:=hf
 kp:=Fo.refl _ _
 own:=World.ownsRow_nil _ _ _ _
 lo:=⟨ht,Nat.le_refl _⟩
 off:=h.yl
 cur _ hc:=nomatch hc
 rc:=JU.refl _
 sp:=hsp
theorem v8.open(hM:Ic w4 pm px ps 1000)(hx:X pm)(h:v8 ps pm B S4 X w4 (64+p) (1+q) v l lr W S o):
 Ct 35 #[PV pm] W fun e w'=>∃(pc hh:Nat) (S':St) (o':Nat->Nat),e=.returned (.tuple #[PV pc,Xi 0])/\v8 ps pm B S4 X w4 p q v l (lr++[(pc,hh)]) w' S' o':=by
 refine(OB h.st h.fit ((h.kp.block pm hx).T hM) h.sp).M ?_;rintro e w' ⟨pc,hh,S',o',rfl,h1,h2,h3,h4,hm,h5,h6,h7⟩;have hB:=h.lo.2;refine⟨pc,hh,S',o',rfl,h1.M fun k hk=>?_,h2,h.kp.T (h3.M fun k hk=>ab (ab hk)),h.own.at fun g e=>h3.block g (ae e),⟨h.lo.1,aH hB h3.size⟩,h.off,fun c hc=>?_,?_,h4⟩
 ·rw[aK,ak] at hk
  rcases hk with (hk | hk | hk) | hk
  ·exact ab (ab (ab hk))
  ·exact ab (ab (ae hk))
  ·exact ae (aE.1 hk)
  ·exact ab (ae hk)
 ·rcases ak.1 hc with hc | hc
  ·obtain⟨q1,q2⟩:=h.cur c hc;exact⟨q1.w_ h3 (ab (ae (List.mem_map_of_mem hc))),q2⟩
  ·rw[aE] at hc;subst hc;refine⟨h6,by simp only;omega,fun e=>?_⟩;have:=(h.own.ge _ e).2;simp only at this;omega
 ·rw[aK];exact h.rc.add h5 hm
theorem v8.append {x:Nat}(h:v8 ps pm B S4 X w4 p q v l lr W S o)(ho2:BY w2 B v2 (l++[x]))(hg:W.grownBy w2 v.ownBlock)(hv:v2.ownBlock=v.ownBlock\/∃g,v2.ownBlock=some g/\W.1.size<=g):v8 ps pm B S4 X w4 p q v2 (l++[x]) lr w2 S o where
 st:=by
  refine(h.st.grownT ⟨d_,d_⟩ hg fun g e=>⟨ae e,by have:=(h.own.ge g e).1;have:=h.lo.1;omega,(h.own.block e).2.2⟩).M fun k hk=>?_;rcases hk with hk | hk
  ·exact ab (ab hk)
  ·rcases hv with e | ⟨g,e,hg⟩
   ·rw[e] at hk;exact ab (ae hk)
   ·rw[e] at hk;obtain rfl:g=k:=Option.some.inj hk;exact ae ⟨hg,(ho2.ge g e).2⟩
 fit:=h.fit
 kp:=h.kp.T ⟨hg.os,hg.tape,hg.output,hg.size,fun k hk=>hg.block k (h.st.yl k (ab (ab hk))) fun e=>by
  have:=(h.own.ge k e.S).1;have:=h.off k hk;omega⟩
 own:=ho2
 lo:=⟨h.lo.1,aH h.lo.2 hg.size⟩
 off:=h.off
 cur c hc:=by
  obtain⟨q1,q2,q3⟩:=h.cur c hc;have hl:=(gl q1);refine⟨(hg.block _ hl fun e=>q3 e.S).T q1,q2,?_⟩;rcases hv with e | ⟨g,e,hg⟩
  ·rw[e];exact q3
  ·rw[e];intro z;have:=Option.some.inj z;omega
 rc:=h.rc
 sp:=h.sp
def v8.cu(ps:Nat)(lr:List (Nat×Nat)):List Cu:=lr.map fun c=>⟨PV c.1,c.2,some ps⟩
theorem v8.cat(ps:Nat)(lr:List (Nat×Nat))(h0:∀c∈lr,c.2≠0):dS ps (v8.cu ps lr)=lr.map Prod.snd:=by
 induction lr with
 | nil=>rfl
 | cons c lr ih=>
  have h1:=ih fun c hc=>h0 c (am _ hc);unfold dS at h1⊢;unfold v8.cu at h1⊢;rw[bg,co,h1,if_pos ⟨h0 c (aq ..),rfl⟩]
  rfl
theorem v8.pos(h:v8 ps pm B S4 X w4 p q v l lr W S o):∀c∈lr,c.2≠0/\c.2<2^64:=fun c hc=>by
 obtain⟨ws,hw⟩:=bW.1 (h.rc.has c.2 (List.mem_map_of_mem hc)).1;have:=fL h.fit hw;omega
theorem v8.is(h:v8 ps pm B S4 X w4 p q v l lr W S o):∀c∈v8.cu ps lr,NV W c:=fun c hc=>by
 obtain⟨d,hd,rfl⟩:=aC.1 hc;obtain⟨_,_,_,_,_,hI⟩:=h.st;exact NV.open (h.cur d hd).1 (h.pos d hd).1 (h.pos d hd).2 ⟨_,_,hI.hd⟩
theorem v8.ok {A:Option Addr}{c:Nat}(h:v8 ps pm B S4 X w4 p q (.slice A (lr.map Prod.fst).length c) (lr.map Prod.fst) lr W S o)(hl:lr.length<=1000):NT W A (v8.cu ps lr) where
 cell i hi:=by
  have ad:i<(lr.map Prod.fst).length:=by unfold v8.cu at hi;simpa using hi
  obtain⟨b,c,e,_,e2⟩:=h.own.cell_at ad;injection e with e _ _
  refine⟨b,0,e,?_⟩;rw[bA,e2];simp[v8.cu]
 is:=h.is
 len:=by unfold v8.cu;simpa using hl
end
theorem Oo {w:World}{ps:Nat}{S:St}{Y:Nat->Prop}(h:Ig w ps S Y)(hi:Fv S){t:Nat}(t1:2<=t)(t2:t<=16)(hh:Nat)(hl:hh<2^64)(hlen:S.len hh=(6,0)):
 Cb 166 #[PV ps,Xi t,Xu hh] w (.tuple #[eC n_ n_ n_ 0,Xi 8]):=by
 have ad:=fun W (hW:D_ w W)=>fB (h.a_ hW) hi 0 o_;have ai:=fun W (hW:D_ w W)=>fB (h.a_ hW) hi hh hl;rw[fU] at ad;rw[hlen] at ai;have ap:((6:Int) !=6*(t:Int))=true:=m_
 have ar:¬(6:Int)=6*(t:Int):=o_
 have an:=fun W=>om t1 t2▸nP (t:Int) W;have six:=uz w ps hh;have HG:=kq3 ad ai an;clear ad ai an h hi hlen;unfold eC;generalize au:((((w.alloc (Xg ps)).alloc (Xf hh)).alloc (.cells #[n_,n_,n_,Xu 0] 215)).alloc (.cells #[Xi 0] 27))=w4 at*;have e3:=six.b3;have e5:=six.b5;have e6:=six.b6;have e7:=six.b7;have x0:(w4).cell? (y_ w.1.size)=some (PV ps):=e_ e3
 have y0:(w4).cell? (y_ (w.1.size+1))=some (Xu hh):=e_ e5
 obtain⟨z0,z1,z2,z3⟩:=Fy e6;obtain⟨f0,f1,f2,f3⟩:=fO e6;have c0:(w4).cell? (y_ (w.1.size+1+1+1))=some (Xi 0):=e_ e7
 have g0:(w4).frozen? (y_ (w.1.size+1+1+1))=false:=AT e7;have S4:=If six;clear e3 e5 e6 e7 six;go_enter func166,ntmps166;go_wp2_with fail;refine Jc (HG.a _ S4.O.a_) ?_;go_wp2_with fail;refine Jc (HG.c _) ?_;go_wp2_with fail;refine Jc (HG.b _ S4.O.a_) ?_;go_wp2_with fail;have p6:=oZ (u0:=.slice none 0 0) (u1:=.slice none 0 0) (u2:=.slice none 0 0) (u3:=Xu 0) S4.O.b6;have B6:=oY (u0:=.slice none 0 0) (u1:=.slice none 0 0) (u2:=.slice none 0 0) (u3:=Xu 0) (b:=w.1.size+1+1) S4.O.a_ o_;have p7:=(sy (w:=w4) (b:=w.1.size+1+1) (k:=w.1.size+1+1+1) (u0:=.slice none 0 0) (u1:=.slice none 0 0) (u2:=.slice none 0 0) (u3:=Xu 0) o_).T S4.O.b7;generalize ((((w4.setCell (y_ (w.1.size+1+1)) n_).setCell (x_ (w.1.size+1+1) 1) n_).setCell (x_ (w.1.size+1+1) 2) n_).setCell (x_ (w.1.size+1+1) 3) (Xu 0))=W5 at*;have r7:=heap_setCell (i:=0) (v:=Xi 8) p7;have r6:=(FB (w:=W5) (b:=w.1.size+1+1+1) (i:=0) (v:=Xi 8) (k:=w.1.size+1+1) o_).T p6;have B7:=B6.setCell (p:=y_ (w.1.size+1+1+1)) (by show w.1.size<=w.1.size+1+1+1;omega) (Xi 8);generalize W5.setCell (y_ (w.1.size+1+1+1)) (Xi 8)=W6 at*;obtain⟨e0,e1,e2,e3⟩:=Fy r6;have d0:W6.cell? (y_ (w.1.size+1+1+1))=some (Xi 8):=e_ r7
 exact bodyPost_ret (v:=.tuple #[.agg #[n_,n_,n_,Xu 0],Xi 8]) (by simp[results,f166,go_sem,e0,e1,e2,e3,d0]) rfl ⟨rfl,B7⟩
theorem Oq {w:World}{ps:Nat}{S:St}{Y:Nat->Prop}(h:Ig w ps S Y)(hi:Fv S){t:Nat}(t1:2<=t)(t2:t<=16)(hh:Nat)(hl:hh<2^64)(hlen:S.len hh=(6,0)):
 Cb 126 #[FH ps t,Xu hh] w (.tuple #[eC n_ n_ n_ 0,.bool false]):=by
 have B0:=(c_ w (Xc ps t)).alloc s_ (.cells #[n_,n_,n_,Xu 0] 215);have z1:(w.alloc (Xc ps t)).1.size=w.1.size+1:=s_
 have q1:=heap_alloc_new w (Xc ps t);have q2:=heap_alloc_new (w.alloc (Xc ps t)) (.cells #[n_,n_,n_,Xu 0] 215);have q3:=(((aa (w.alloc (Xc ps t)).1.size (w.alloc (Xc ps t))).alloc Ih (.cells #[n_,n_,n_,Xu 0] 215)).block w.1.size s_).T q1;rw[z1] at q2;generalize hW:(w.alloc (Xc ps t)).alloc (.cells #[n_,n_,n_,Xu 0] 215)=W0 at*;have hg:=Oo (h.a_ B0) hi t1 t2 hh hl hlen;obtain⟨x0,x1⟩:=Fp q3;have hz:w.1.size+2<=W0.1.size:=by rw[<-hW];simp
 unfold FH;unfold eC at hg⊢;have HG:=kq5 hg B0 q2 hW hz;clear hg B0 h hi q1 q2 q3 z1 hz hlen;go_enter func126,ntmps126;go_wp2_with fail;refine dR HG.a fun w1 hb=>?_;have A1:=c_ w1 (.cells #[n_,n_,n_,Xu 0] 215);have p1:=heap_alloc_new w1 (.cells #[n_,n_,n_,Xu 0] 215);have r2:=(A1.block (w.1.size+1) (by have:=hb.size;have:=HG.e;omega)).T ((hb.block (w.1.size+1) (by have:=HG.e;omega)).T HG.c);have BA:=HG.b.T ((b_ hb A1).M HG.b.size);have HB:=kq3 BA r2 p1;clear hb A1 p1 r2 BA;have r2:=HB.b;have p1:=HB.c;obtain⟨x0,x1,x2,x3⟩:=Fy p1;obtain⟨y0,y1,y2,y3⟩:=Fy r2;obtain⟨f0,f1,f2,f3⟩:=fO r2;clear r2 p1 hW;go_wp2_with fail;generalize w1.alloc (.cells #[n_,n_,n_,Xu 0] 215)=W1 at*;have e5:=oZ (u0:=.slice none 0 0) (u1:=.slice none 0 0) (u2:=.slice none 0 0) (u3:=Xu 0) HB.b;have B5:=oY (u0:=.slice none 0 0) (u1:=.slice none 0 0) (u2:=.slice none 0 0) (u3:=Xu 0) (b:=w.1.size+1) HB.a o_;generalize ((((W1.setCell (y_ (w.1.size+1)) n_).setCell (x_ (w.1.size+1) 1) n_).setCell (x_ (w.1.size+1) 2) n_).setCell (x_ (w.1.size+1) 3) (Xu 0))=W9 at*;obtain⟨e0,e1,e2,e3⟩:=Fy e5;exact bodyPost_ret (v:=.tuple #[.agg #[n_,n_,n_,Xu 0],.bool false]) (by simp[results,f126,go_sem,e0,e1,e2,e3]) rfl ⟨rfl,B5⟩
theorem Ot {w:World}{ps:Nat}{S:St}{o:Nat->Nat}{Y:Nat->Prop}(h:Ig w ps S Y)(hf:Fw S o){t:Nat}(t1:2<=t)(t2:t<=16)(z:Nat)(hh:Nat)(hl:hh<2^64)(hlen:S.len hh=(6,0)):
 Cb 80 #[FH ps t,n_,Xu hh,Xi z,Xi 0] w n_:=by
 have B0:=c_ w (Xc ps t);have q0:=heap_alloc_new w (Xc ps t);have hg:=Oq (h.a_ B0) hf.inv t1 t2 hh hl hlen;unfold FH eC at hg;obtain⟨c0,c1⟩:=Fp q0;have HG:=kq2 hg B0;clear hg B0 h hf q0 hl hlen;unfold FH;go_enter func80,ntmps80;go_wp2_with fail;refine dR HG.a fun w1 hb1=>?_;have B1:=b_ HG.b hb1;have H1:=If (B1.alloc B1.size (.cells #[n_,n_,n_,Xu 0] 215));clear hb1 B1 c0 c1;go_wp2_with fail;go_ret;exact⟨rfl,H1.O⟩
theorem Ou {w:World}{ps t f9:Nat}{S:St}{o:Nat->Nat}{Y:Nat->Prop}(h:Ig w ps S Y)(hf:Fw S o)(t1:2<=t)(t2:t<=16)(hl:f9<2^64)(hlen:f9=0\/S.len f9=(6,0)):
 Cb 40 #[PV ps,Xi t,Xu f9] w n_:=by
 have ar:=kZ h hf.inv t1 t2;have B0:=c_ w (Xc ps t);have q0:=heap_alloc_new w (Xc ps t);have ai:=KB (h.a_ B0.drew) t1 t2;have an:∀W,D_ w W->Cb 80 #[FH ps t,n_,Xu f9,Xi (S.words / (6*t)+1:Nat),Xi 0] W n_:=fun W hW=>by
  rcases hlen with rfl | hlen
  ·exact Mh (h.a_ hW) hf t1 t2 _
  ·exact Ot (h.a_ hW) hf t1 t2 _ f9 hl hlen
 unfold FH at ai an;generalize S.words / (6*t)+1=z at*;have HG:=kq5 ar ai an B0 q0;obtain⟨I,ap,ad⟩:=ic fun w'=>w'.1[w.1.size]?=some (Xc ps t);have au:=fun x:Fq I=>ap _ x.ok;obtain⟨m0,m1⟩:=mt au;have a0:I (w.alloc (Xc ps t)).drew:=ad _ q0;have HI:=If ad;clear ar ai an B0 q0 h hf ap ad au hlen;go_enter func40,ntmps40;go_wp2_with fail;refine Jc HG.a ?_;go_wp2_with fail;refine fh I (.take 0 (.take 1 (.take 2 (.go 3 (.go 4 (.go 5 .nil)))))) k_ k_ a0 ?_
 iterate 3
  refine pT_ ?_
  try simp only[pu]
 refine pD fun K hK=>?_;go_simp;refine dR HG.b fun w1 hb1=>?_;have B1:=b_ HG.d.drew hb1;have q1:=(hb1.block w.1.size (gl HG.e)).T HG.e;have H1:=kq2 B1 q1;clear hb1 B1 q1
 try go_simp
 refine hK.O _ _ (HI.O _ H1.b) ?_;clear hK K
 try simp only[pu]
 refine pD fun K hK=>?_;go_simp;refine dR (HG.c _ H1.a) fun w2 h3=>?_;have H2:=kq2 (b_ H1.a h3) ((h3.block w.1.size (gl H1.b)).T H1.b);clear h3
 try go_simp
 refine hK.O _ _ (HI.O _ H2.b) ?_;clear hK K
 try simp only[pu]
 refine pD fun K hK=>?_;go_simp
 try go_simp
 refine hK.O _ _ (HI.O _ H2.b) ?_;clear hK K
 try simp only[pu]
 refine eP ?_;go_wp2_with fail;go_ret;exact⟨rfl,H2.a⟩
theorem qYiad{P:Prop}(h:P:=by
 go_wp2_with fail;go_ret;exact⟨rfl,rfl⟩):P:=h
theorem Ov {w:World}{ps f9:Nat}{S:St}{Y:Nat->Prop}(h:Ig w ps S Y)(hi:Fv S)(t:Int)(ht:¬(2<=t/\t<=16)):
 Cb 40 #[PV ps,Xi t,Xu f9] w n_:=by
 have ad:=fB h hi 0 o_;rw[fU] at ad;have ai:∀W,Ct 125 #[Xi t] W fun e w'=>e=.returned (Xi 0)/\W=w':=fun W=>by
  have hb:=nP t W;rw[show isDeg t=false by unfold isDeg;rw[<-Bool.decide_and];exact decide_eq_false ht] at hb;have HG:=If hb;clear hb;go_enter func125,ntmps125;go_wp2_with fail;refine Jc HG.O ?_;exact qYiad
 have an:Ct 79 #[PV ps,Xi t] w fun e w'=>e=.returned (Xi 2)/\w=w':=by
  have HG:=kq2 ad ai;clear ad ai h hi;go_enter func79,ntmps79;go_wp2_with fail;refine Jc HG.a ?_;go_wp2_with fail;refine Jc (HG.b _) ?_;exact qYiad
 have HG:=If an;clear an ad ai h hi;go_enter func40,ntmps40;go_wp2_with fail;refine Jc HG.O ?_;go_wp2_with fail;go_ret;exact⟨rfl,aa _ _⟩
structure N0 (j_ t:Int) (K:jo):Prop where
 h_:∀{w:World} {ps f9:Nat} {S:St} {o:Nat->Nat} {Y:Nat->Prop} {L:List Pr} {R:List Nat},Ig w ps S Y->K.Hold S o f9 L R->
  Ct 40 #[PV ps,Xi t,Xu f9] w fun e w'=>∃v N,e=.returned v/\FE w' w.1.size v N/\D_ w w'/\(R.length:Int)=if j_=3 then 2*(L.length:Int)+(N.length:Nat) else 3*(L.length:Int)
 len:∀{w:World} {px ps f9:Nat} {S:St} {o:Nat->Nat} {Y:Nat->Prop} {L:List Pr} {R:List Nat},Ig w ps S Y->K.Hold S o f9 L R->L.length<98->K.On w px ps f9->
  Cb 19 #[PV px] w (Xi (L.length:Nat))
 f9:∀{w:World} {px ps f9:Nat},K.On w px ps f9->Ct 41 #[PV px] w fun e w'=>e=.returned (Xu f9)/\w=w'
theorem N9 {j_:Nat}(hk:j_=1\/j_=2)(Ok:Tr->Prop)(t:Int):N0 j_ t (jH j_ Ok) where
 h_ {w ps f9 S o Y L R} h hH:=by
  obtain⟨u,hB,rfl,rfl,rfl⟩:=hH;have hn:Cb 40 #[PV ps,Xi t,Xu u.f9] w n_:=by
   by_cases ht:2<=t/\t<=16
   ·obtain⟨n,rfl⟩:∃n:Nat,t=n:=⟨t.toNat,o_⟩;refine Ou h hB.fit o_ o_ (hB.at'.root_lt hB.fit) ?_;have ha:=hB.at';cases u with
    | nil=>exact ab rfl
    | node l d m r=>exact ae (jw hB.fit.tab ha.1)
   ·exact Ov h hB.fit.inv t ht
  refine dR hn fun w' hb=>?_;refine⟨_,[],rfl,World.ownsRow_nil _ _ _ _,hb,?_⟩;rw[Kj,jT,if_neg o_];omega
 len h hH hc hT:=Om h hH hc hT
 f9 hT:=KU hT
theorem OE {t:Nat}:N0 3 t (mS t) where
 h_ h hH:=by
  refine(KD h hH).M ?_;rintro e w' ⟨v,N,rfl,h1,h2,_,h3⟩;refine⟨v,N,rfl,h1,h2,?_⟩;rw[if_pos rfl];rcases h3 with⟨_,_,rfl,rfl,rfl⟩ | ⟨d,x,hx,_,rfl,rfl,rfl⟩
  ·rfl
  ·unfold Bt.recs;rw[af,Kd,jT];omega
 len h hH _ hT:=CF h hH hT
 f9 hT:=KU hT
theorem Ob(hins:∀d,j4 d)(j_ t:Int)(h:j_=1\/j_=2\/j_=3/\2<=t/\t<=16):∃K,yB j_ t K/\JR K/\Ki K/\Kh K/\N0 j_ t K:=by
 rcases h with rfl | rfl | ⟨rfl,q1,q2⟩
 ·exact⟨_,Lx vi (NK vi va) va.nil ii t,ii,Lc (.inl rfl) _,Lb _ _,N9 (.inl rfl) _ t⟩
 ·exact⟨_,Lx ot (NK ot oq) oq.nil LF t,LF,Lc (.inr rfl) _,Lb _ _,N9 (.inr rfl) _ t⟩
 ·obtain⟨n,rfl⟩:∃n:Nat,t=n:=⟨t.toNat,o_⟩;exact⟨_,M7 (NQ hins n) o_ o_,LJ o_ o_,Nh o_ o_,Ng _,OE⟩
theorem N8 {w:World}{B B2:Nat}{v x:Value}{l l2:List Nat}(h:FE w B v l)(hx:FE w B2 x l2)(hl:l.length+l2.length<=100000)(hB:B<=w.1.size)(ty:TypeId):
 ∃v' w',(Builtin.append_ #[59,59] ty #[v,x]).run prog w=.ok v' w'/\FE w' B v' (l++l2)/\w.grownBy w' v.ownBlock/\(v'.ownBlock=v.ownBlock\/∃g,v'.ownBlock=some g/\w.1.size<=g):=by
 rcases id hx.2 with⟨rfl,e⟩ | ⟨b,c,cur,e,_⟩
 ·have e0:l2=[]:=bG.1 e;subst e0;refine⟨v,w,?_,by rw[aU];exact h,⟨rfl,rfl,rfl,Nat.le_refl _,fun _ _ _=>rfl⟩,ab rfl⟩;obtain⟨i,hi,ai,an,ap⟩:=info_parts uP;have ht:=underlying59
  rcases id h.2 with⟨rfl,_⟩ | ⟨g,ad,cur,rfl,_,_,hc,_⟩
  ·simp[Builtin.append_,run_underlying ht,sizeOf,typeInfo,hi,Builtin.lenOf,Builtin.firstCells]
  ·simp[Builtin.append_,run_underlying ht,sizeOf,typeInfo,hi,Builtin.lenOf,Builtin.firstCells,hc,storeCells]
 ·subst e;refine Ky h hl (y_ b) c (fun j u hu=>?_) hB ty;exact World.ownsRow.cells hx (g:=b) rfl j u hu
theorem Oi(j_ n h_ r:Int)(w:World)(hr:r=if j_=3 then 2*n+h_ else 3*n)(h0:0<=n/\n<=1000)(h1:0<=r/\r<=1000000):
 Ct 38 #[Xi j_,Xi n,Xi h_] w fun e w'=>e=.returned (Xi r)/\w=w':=by
 by_cases hk:j_=3
 ·rw[if_pos hk] at hr;subst hk;subst hr;have q1:IntKind.i64.wrap (2*n)=2*n:=aw _ o_;have q2:IntKind.i64.wrap (2*n+h_)=2*n+h_:=aw _ o_;go_enter func38,ntmps38;exact qYiad
 ·rw[if_neg hk] at hr;subst hr;have q1:IntKind.i64.wrap (3*n)=3*n:=aw _ o_;go_enter func38,ntmps38;exact qYiad
structure Ao (S:St) (R1 R2 hs:List Nat):Prop where
 all:∀y,i_ S y≠none↔y∈R1\/y∈R2\/y∈hs
 nd:(R1++(R2++hs)).Nodup
section
variable {S:St}{o:Nat->Nat}{R1 R2 hs:List Nat}
theorem Ao.mk' {S0 S1 S2:St}(h0:∀y,i_ S0 y=none)(h1:JP S0 S1 R1)(h2:JP S1 S2 R2)(h3:JU S2 S hs)(a1:∀y∈R1,i_ S1 y≠none)(a2:∀y∈R2,i_ S2 y≠none)(d1:R1.Nodup)(d2:R2.Nodup):Ao S R1 R2 hs where
 all y:=by
  constructor
  ·intro hy;rcases h3.just y hy with q | q
   ·rcases h2.just y q with q | q
    ·exact ae (ab q)
    ·exact ab ((h1.just y q).resolve_right fun z=>z (h0 y))
   ·exact ae (ae q)
  ·rintro(q | q | q)
   ·have e:=(h2.w_ y (a1 y q)).2;rw[h3.same y (by rw[e];exact a1 y q),e];exact a1 y q
   ·rw[h3.same y (a2 y q)];exact a2 y q
   ·exact(h3.has y q).1
 nd:=by
  refine ax.2 ⟨d1,ax.2 ⟨d2,h3.nd,fun a ha b hb e=>?_⟩,fun a ha b hb e=>?_⟩
  ·subst e;exact a2 a ha (h3.has a hb).2
  ·subst e;rcases ak.1 hb with q | q
   ·exact(h2.w_ a (a1 a ha)).1 q
   ·have e:=(h2.w_ a (a1 a ha)).2;exact a1 a ha (e▸(h3.has a q).2)
theorem Ao.len(h:Ao S R1 R2 hs)(hf:Fw S o):S.all.length=R1.length+R2.length+hs.length:=by
 have hp:S.all.Perm (R1++(R2++hs)):=(List.perm_ext_iff_of_nodup hf.all_nodup h.nd).2 fun a=>by
  rw[hf.mem_all,h.all,ak,ak]
 rw[hp.length_eq,af,af,dz]
theorem Ao.lost0(h:Ao S R1 R2 hs)(hf:Fw S o):mn (R1++R2++hs) S.all=[]:=by
 refine(Nn hf (l:=[]) (fun y hy=>ab ?_) (fun y hy=>nomatch hy) cV).eq_nil;rw[aS,ak,ak];exact(h.all y).1 hy
theorem Ao.lost2(h:Ao S R1 R2 hs)(hf:Fw S o):(mn (R1++hs) S.all).length=R2.length:=by
 obtain⟨d1,d2,d3⟩:=ax.1 h.nd;obtain⟨d4,d5,d6⟩:=ax.1 d2;refine(Nn hf (l:=R2) (fun y hy=>?_) (fun y hy=>⟨(h.all y).2 (ae (ab hy)),fun q=>?_⟩) d4).length_eq
 ·rcases(h.all y).1 hy with q | q | q
  ·exact ab (aB _ q)
  ·exact ae q
  ·exact ab (aA _ q)
 ·rcases ak.1 q with q | q
  ·exact d3 y q y (aB _ hy) rfl
  ·exact d6 y hy y q rfl
theorem Ao.lostC(h:Ao S R1 R2 hs)(hf:Fw S o):(mn (R1++R2) S.all).length=hs.length:=by
 obtain⟨d1,d2,d3⟩:=ax.1 h.nd;obtain⟨d4,d5,d6⟩:=ax.1 d2;refine(Nn hf (l:=hs) (fun y hy=>?_) (fun y hy=>⟨(h.all y).2 (ae (ae hy)),fun q=>?_⟩) d5).length_eq
 ·rcases(h.all y).1 hy with q | q | q
  ·exact ab (aB _ q)
  ·exact ab (aA _ q)
  ·exact ae q
 ·rcases ak.1 q with q | q
  ·exact d3 y q y (aA _ hy) rfl
  ·exact d6 y q y hy rfl
theorem Ao.once(h:Ao S R1 R2 hs)(hf:Fw S o):(∀x∈S.all,(R1++R2++hs).count x=1)/\∀x∈R1++R2++hs,x∈S.all:=by
 have hd:(R1++R2++hs).Nodup:=by rw[aS];exact h.nd
 have hm:∀x,x∈S.all↔x∈R1++R2++hs:=fun x=>by rw[hf.mem_all,h.all,aS,ak,ak]
 exact⟨fun x hx=>by rw[hd.count,if_pos ((hm x).1 hx)],fun x hx=>(hm x).2 hx⟩
theorem Ao.first(h:Ao S R1 R2 hs)(hf:Fw S o):(R2=[]/\(∀x∈S.all,(R1++hs).count x=1)/\∀x∈R1++hs,x∈S.all)\/(R2≠[]/\∃x∈S.all,(R1++hs).count x≠1):=by
 cases R2 with
 | nil=>
  have:=h.once hf;rw[aU] at this;exact ab ⟨rfl,this⟩
 | cons a R2=>
  refine ae ⟨s_,a,(hf.mem_all a).2 ((h.all a).2 (ae (ab (aq ..)))),?_⟩;obtain⟨d1,d2,d3⟩:=ax.1 h.nd;obtain⟨d4,d5,d6⟩:=ax.1 d2;rw[dL.2 fun q=>?_]
  ·decide
  ·rcases ak.1 q with q | q
   ·exact d3 a q a s_ rfl
   ·exact d6 a (aq ..) a q rfl
theorem Ao.twice(h:Ao S R1 R2 hs)(hf:Fw S o):(R1=[]/\(∀x∈S.all,(R1++R2++R1++hs).count x=1)/\∀x∈R1++R2++R1++hs,x∈S.all)\/(R1≠[]/\∃x∈S.all,(R1++R2++R1++hs).count x≠1):=by
 cases R1 with
 | nil=>
  have:=h.once hf;rw[aT] at this;exact ab ⟨rfl,by rw[aT,aU];exact this⟩
 | cons a R1=>
  refine ae ⟨s_,a,(hf.mem_all a).2 ((h.all a).2 (ab (aq ..))),?_⟩;rw[di,di,di,List.count_cons_self];omega
end
theorem NY(ps pa pb:Nat)(R1 R2:List Nat):e9 ps [(pa,ps,R1),(pb,ps,R2)]=R1++R2:=by simp[e9]
theorem N4(ps pa pb pc:Nat)(R1 R2 R3:List Nat):e9 ps [(pa,ps,R1),(pb,ps,R2),(pc,ps,R3)]=R1++R2++R3:=by simp[e9]
theorem Ha.okc {w:World}{ps bm:Nat}{ms:List (Nat×Nat×List Nat)}(h:∀m∈ms,Ha w ps m){cs:Array Value}{ty:TypeId}(hc:w.1[bm]?=some (.cells cs ty))(hi:∀i (hi:i<ms.length),cs[i]?=some (PV ms[i].1))(hl:(e9 ps ms).length<=10000/\ms.length<=1000):JM w ps bm ms where
 cell i hil:=(q_ hc).T (hi i hil)
 lt:=(gl hc)
 st m hm:=(h m hm).st
 of m hm:=(h m hm).of
 own m hm:=(h m hm).own
 hlt m hm:=(h m hm).hlt
 len:=hl
def NX(w:World)(m:Nat×Nat×List Nat):Prop:=∃px:Nat,(∀W,D_ w W->Ct 23 #[PV m.1] W fun e w'=>e=.returned (PV px)/\W=w')/\∀W,D_ w W->Ct 56 #[PV px] W fun e w'=>e=.returned (Xi 0)/\D_ W w'
theorem NU.a_ {w W:World}{ps r:Nat}{S:St}{ms:List (Nat×Nat×List Nat)}{cs:List Cu}(h:NU w ps S ms cs r)(hb:D_ w W):NU W ps S ms cs r:=by
 rcases h with h | ⟨h1,h2,h3,h4⟩
 ·exact ab h
 ·refine ae ⟨h1,h2,fun m hm=>?_,h4⟩;obtain⟨px,q1,q2⟩:=h3 m hm;exact⟨px,fun V hV=>q1 V (b_ hb hV),fun V hV=>q2 V (b_ hb hV)⟩
theorem N2 {w:World}{A:Option Addr}{cs:List Cu}{ps bm cm cc n1 n2:Nat}{S:St}{o:Nat->Nat}{Y:Nat->Prop}{ms:List (Nat×Nat×List Nat)}(h:Ig w ps S Y)(hf:Fw S o)(hm:JM w ps bm ms)(hcs:NT w A cs){r:Nat}(hr:NU w ps S ms cs r)(e1:ms.length=n1)(e2:cs.length=n2):
 Cb 34 #[PV ps,.slice (some (y_ bm)) n1 cm,.slice A n2 cc] w (Xi r):=by
 subst e1 e2;exact Oe h hf hm hcs hr
theorem N6 {w:World}{A:Option Addr}{cs:List Cu}{ps bm cm cc n1 n2:Nat}{S:St}{o:Nat->Nat}{Y:Nat->Prop}{ms:List (Nat×Nat×List Nat)}(h:Ig w ps S Y)(hf:Fw S o)(hm:JM w ps bm ms)(hcs:NT w A cs){k:Nat}(hl:(mn (e9 ps ms++dS ps cs) S.all).length=k)(e1:ms.length=n1)(e2:cs.length=n2):
 Ct 32 #[PV ps,.slice (some (y_ bm)) n1 cm,.slice A n2 cc] w fun e w'=>∃a c,e=.returned (.slice a k c)/\D_ w w':=by
 subst e1 e2;refine(Oh h hf hm hcs).M ?_;rintro e w' ⟨v,rfl,hv,hb⟩;obtain⟨a,c,rfl⟩:=hv.C9;exact⟨a,c,by rw[hl],hb⟩
section
variable {w:World}{ps bm cm pm px:Nat}{S:St}{o:Nat->Nat}{Y:Nat->Prop}{R:List Nat}{ty:TypeId}
theorem Ha.ok1(mi:Ha w ps (pm,ps,R))(hc:w.1[bm]?=some (.cells #[PV pm] ty))(hl:R.length<=10000):JM w ps bm [(pm,ps,R)]:=Ha.ok (fun x hx=>by
 rw[aE] at hx;subst hx;exact mi) hc ⟨by rw[KE];exact hl,s_⟩
end
theorem PRow.at2 {W W':World}{b n c:Nat}{l:List (List UInt8×List UInt8)}(h:PRow W (.slice (some (y_ b)) n c) l)(e:W'.1[b]?=W.1[b]?):PRow W' (.slice (some (y_ b)) n c) l:=by
 obtain⟨A,c',e1,hc⟩:=h;refine⟨A,c',e1,fun i hi=>?_⟩;obtain⟨g,o,e4,k0,k1⟩:=hc i hi
 injection e1 with q1 q2 q3
 rw[<-q1] at e4
 injection e4 with e4
 injection e4 with e5 e6
 subst e5 e6;exact⟨_,_,q1.S,(xA e).T k0,(xA e).T k1⟩
section
variable {w:World}{ps bm cm pm px:Nat}{S:St}{o:Nat->Nat}{Y:Nat->Prop}{R:List Nat}{ty:TypeId}
theorem OD(h:Ig w ps S Y)(hf:Fw S o)(mi:Ha w ps (pm,ps,R))(hc:w.1[bm]?=some (.cells #[PV pm] ty))(hl:R.length<=10000):
 Ct 32 #[PV ps,.slice (some (y_ bm)) 1 cm,n_] w fun e w'=>∃v,e=.returned v/\FE w' w.1.size v (mn R S.all)/\D_ w w':=by
 have:=Oh (cm:=cm) (cc:=0) h hf (mi.ok1 hc hl) (NT.nil w none);rwa[KE,show dS ps []=[] from rfl,aU] at this
theorem N7(h:Ig w ps S Y)(hf:Fw S o)(mi:Ha w ps (pm,ps,R))(hc:w.1[bm]?=some (.cells #[PV pm] ty))(hl:R.length<=10000)(hM:Ic w pm px ps 1000)
 (hck:∀W,D_ w W->Cb 56 #[PV px] W (Xi 0)) {r:Nat}
 (hr:(r=0/\(∀x∈S.all,R.count x=1)/\∀x∈R,x∈S.all)\/(r=8/\∃x∈S.all,R.count x≠1)):
 Cb 34 #[PV ps,.slice (some (y_ bm)) 1 cm,n_] w (Xi r):=by
 refine Oe (cm:=cm) (cc:=0) h hf (mi.ok1 hc hl) (NT.nil w none) (ae ⟨fun m hm=>by rw[aE] at hm;subst hm;rfl,fun c hc=>(nomatch hc),fun m hm=>by
  rw[aE] at hm;subst hm;exact⟨px,fun V hV=>Gh (hM.a_ hV),hck⟩,?_⟩)
 rw[KE,show dS ps []=[] from rfl,aU];exact hr
end
theorem Ol {w:World}(ht:gA w):
 Cb 29 #[] w (.bool true):=by
 have bt:=xp ht 262144 1000 4294967295 o_ o_ o_;have ba:=ux 262144 1000 4294967295 o_ o_ o_;obtain⟨L,hL⟩:∃L:List (List UInt8×List UInt8),[([97],[]),([98],[]),([99],[])]=L:=⟨_,rfl⟩;have ar:(im L).length=3:=by subst hL;decide
 have an:pK L:=by
  subst hL;intro p hp;simp only[ah,bX,or_false] at hp
  rcases hp with rfl | rfl | rfl<;>decide
 have bb:L.length=3:=by subst hL;rfl
 have hk:yB 1 0 (jH 1 eZ):=Lx vi (NK vi va) va.nil ii 0;have HG:=kq7 bt ba ar an bb hk hL;clear bt ba ar an bb hk hL ht;go_enter func29,ntmps29;go_wp2_with fail;refine HG.a.M ?_;rintro e w1 ⟨ps,rfl,bs,a4⟩;have B2:=c_ w1 (.cells #[SV [97],SV [],SV [98],SV [],SV [99],SV []] 40);have r2:PRow (w1.alloc (.cells #[SV [97],SV [],SV [98],SV [],SV [99],SV []] 40)) (.slice (some (y_ w1.1.size)) 3 3) L:=HG.g▸PRow.new w1 [([97],[]),([98],[]),([99],[])] 40;have b1:Ig (w1.alloc (.cells #[SV [97],SV [],SV [98],SV [],SV [99],SV []] 40)) ps ⟨⟨262144,[]⟩,⟨1000,4294967295,[]⟩⟩ (fun k=>k<w.1.size\/k=w1.1.size):=(bs.wide B2).M fun k hk=>hk.imp id fun e=>by subst e;exact⟨Nat.le_refl _,s_⟩
 have bo:=Nt (w:=w) HG.f b1 HG.b (b_ a4 B2) (fun k hk=>ab hk) r2 (fun V hV=>r2.at2 (hV.block _ (ae rfl))) (by have:=HG.e;omega) HG.d (p:=64) (q:=1) (by rw[HG.e];exact⟨d_,d_⟩);have H1:=If bo;clear bo r2 b1 B2 bs a4;go_wp2_with fail;refine H1.O.M ?_;rintro e w3 ⟨pm,rfl,_,px,f9,S,o,Y,R,_,hX,hH,hB,bu⟩;have ok:=HG.f.ok;have a8:R.length=9:=by
  obtain⟨t,_,_,e1,rfl⟩:=id hH;have:=congrArg List.length e1;rw[jT,HG.c] at this;rw[Kj,<-this]
 have ar:=HG.c;have mi:=Ha.mk' ok (Lc (.inl rfl) _) hX.m.st hH o_ hX.m.map hX.m.on;have ap:=fun(V:World) (hV:D_ w3 V)=>(ii (hX.m.st.a_ hV) hH o_ (ok.onBelow hX.m.on hV)).1;have bj:=Lb _ _ hH;have ai:∀y,i_ S y≠none->y∈R:=fun y hy=>(hB.just y hy).resolve_right fun q=>q (Nu HG.b y);have a7:(∀x∈S.all,R.count x=1)/\∀x∈R,x∈S.all:=⟨fun x hx=>by rw[bj.count,if_pos (ai x (((ok.fit hH).mem_all x).1 hx))],fun x hx=>((ok.fit hH).mem_all x).2 (ok.has hH x hx)⟩;have B4:=c_ w3 (.cells #[PV pm] 45);have a9:=N7 (cm:=1) (hX.m.st.a_ B4) (ok.fit hH) (mi.a_ B4) (World.alloc_heap_new w3 (.cells #[PV pm] 45)) o_ (hX.m.map.a_ B4) (fun V hV=>ap V (b_ B4 hV)) (r:=0) (ab ⟨rfl,a7⟩);have H3:=kq7 a9 hX.m hH ai bu a8 B4;have HO:=kq2 ok ar;clear a9 hX hH ai bu a8 bj a7 B4 mi ap hB H1 ar;go_wp2_with fail;refine dR H3.a fun w5 hb5=>?_;have B5:=b_ H3.g hb5;have bd:=Nf (H3.b.st.a_ B5) (HO.a.fit H3.c) 1 (p:=0) (q:=0) H3.e;have H5:=kq2 bd B5;clear bd hb5 B5;go_wp2_with fail;refine H5.a.M ?_;rintro e w6 ⟨hh,b,S6,o6,rfl,au,ad,a0,_,_,_,bf,b0⟩;obtain rfl:=b0 o_ o_;obtain⟨r0,r1,r2⟩:=bf rfl;have bk:∀y,i_ S y≠none->y≠hh:=fun y hy e=>hy (e▸r0);have a1:=HO.a.frame H3.c ad fun y hy=>r2 y (bk y (HO.a.has H3.c y hy));have a2:Ic w6 pm px ps 1000:=(a0.block pm H3.b.ym).T (H3.b.map.a_ H5.b);have a3:=HO.a.onKeep (HO.a.onBelow H3.b.on H5.b) a0 H3.b.yx;have mi:=Ha.mk' HO.a (Lc (.inl rfl) _) au a1 (by have:=HO.b;omega) a2 a3;have ap:=fun(V:World) (hV:D_ w6 V)=>(ii (au.a_ hV) a1 (by have:=HO.b;omega) (HO.a.onBelow a3 hV)).1;have a6:hh∉R:=fun q=>HO.a.has H3.c _ q r0;have bc:mn R S6.all=[hh]:=List.perm_singleton.1 (Nn ad (fun y hy=>by
  by_cases e:y=hh
  ·exact ae (by simp[e])
  ·rw[r2 y e] at hy;exact ab (H3.d y hy)) (fun y hy=>by
  rw[aE] at hy;subst hy;exact⟨r1,a6⟩) s_)
 have b6:D_ w w6:=(b_ H3.b.bl H5.b).T (a0.M fun k hk=>H3.b.own k hk).a_;have B7:=c_ w6 (.cells #[PV pm] 45);have an:=OD (cm:=1) (au.a_ B7) ad (mi.a_ B7) (World.alloc_heap_new w6 (.cells #[PV pm] 45)) (by have:=H3.f;omega);rw[bc] at an;have bq:∃x∈S6.all,R.count x≠1:=⟨hh,(ad.mem_all hh).2 r1,by rw[dL.2 a6];decide⟩;have H6:=kq9 an au ad mi @ap a2 bq b6 B7;clear an au ad mi ap a2 a3 a1 bq b6 B7 bc a6 bk r0 r1 r2 a0 bf b0;simp only[if_true];go_wp2_with fail;refine H6.a.M ?_;rintro e w8 ⟨v,rfl,bv,a'⟩;obtain⟨b,c,rfl,hb,hc⟩:=bv.cell_at (j:=0) s_;have hc:w8.cell? (y_ b)=some (Xu hh):=hc;have B8:=b_ H6.i a';have bm:=H6.d.of rfl _ B8;have H8:=kq3 bm B8 hc;clear bm hc a' bv hb B8;simp only[bp];go_wp2_with fail;refine H8.a.M ?_;rintro e w9 ⟨v9,rfl,bx,a5⟩;obtain⟨A9,c9,rfl⟩:=bx.C9;have h9:R.length=9:=H3.f;simp only[h9];have b2:=(a5.cell (p:=y_ b) (cell_lt H8.c)).T H8.c;have B9:=b_ H8.b a5;have BA:D_ w6 (w9.alloc (.cells #[PV pm] 45)):=B9.alloc B9.size _;have ai:=N7 (cm:=1) (H6.b.a_ BA) H6.c (H6.d.a_ BA) (World.alloc_heap_new w9 (.cells #[PV pm] 45)) o_ (H6.f.a_ BA) (fun V hV=>H6.e V (b_ BA hV)) (r:=8) (ae ⟨rfl,H6.g⟩);have HF:=kq2 ai (b_ H6.h BA);clear ai a5 B9 BA bx h9;go_wp2_with fail;refine dR HF.a fun w11 hb11=>?_;have HE:=If (b_ HF.b hb11);clear hb11;go_wp2_with fail;go_ret;exact⟨rfl,HE.O⟩
theorem qYiab{P:Prop}(h:P:=by
 clear hb;subst bf;go_wp2_with fail;refine Jc HX.O ?_;go_wp2_with fail;refine Jc HY.O ?_;go_wp2_with fail;refine Jc HZ.O ?_;go_wp2_with fail;refine Jc HW.O ?_;go_wp2_with fail
 go_meet
 exact⟨rfl,rfl⟩):P:=h
theorem qYiaa{P:Prop}(h:P:=by
 go_wp2_with fail;refine Jc HX.O ?_;go_wp2_with fail;refine Jc HY.O ?_;go_wp2_with fail
 go_meet
 exact⟨rfl,rfl⟩):P:=h
theorem reachCounts_walk(one two t:Int){v u:Value}{l m:List (List UInt8×List UInt8)}(n:Int){w:World}(ht:gA w)(hv:PRow w v l)(hu:PRow w u m):
 Cb 8 #[Xi one,Xi two,Xi t,v,u,Xi n] w (.bool true):=by
 have gn:=fun W (hW:D_ w W)=>Ol (ht.of_block (hW.block _ ht.lt));have he:=Gd one t w;have hg:=Gd two t w;have eg:=fun hl=>Cm (w:=w) hv hl;have ek:=fun hl=>Cm (w:=w) hu hl;obtain⟨A,c,rfl,hc⟩:=hv;have hv:PRow w (.slice A l.length c) l:=⟨A,c,rfl,hc⟩;obtain⟨Au,cu,rfl,ha⟩:=hu;have hu:PRow w (.slice Au m.length cu) m:=⟨Au,cu,rfl,ha⟩;obtain⟨n1,en⟩:=Ii l.length;obtain⟨n2,eo⟩:=Ii m.length;rw[en] at hv eg⊢;rw[eo] at hu ek⊢;obtain⟨ap,g3⟩:=Ii (!FO one t || !FO two t || decide (40<n1) || decide (40<n2) || jb l || jb m || decide (n<0) || decide (5<n));have HG:=kq6 gn ht hv hu en eo;have HF:=kq4 he hg eg ek;have HB:=If g3;clear gn ht hv hc hu ha en eo he hg eg ek g3;go_enter func8,ntmps8
 go_upto_region 1 with fail
 go_cut [67] from 32 (fun s67 wx=>s67=.bool ap/\wx=w)
 case first=>
  cases q1:FO one t with
  | false=>
   have hf:=HF.a;rw[q1] at hf;have HX:=If hf;have hb:ap=true:=by rw[<-HB.O];simp[q1]
   subst hb;clear hf q1;go_wp2_with fail;refine Jc HX.O ?_;go_wp2_with fail
   go_meet
   exact⟨rfl,rfl⟩
  | true=>
  have hf:=HF.a;rw[q1] at hf;have HX:=If hf;clear hf
  cases q2:FO two t with
  | false=>
   have hf:=HF.b;rw[q2] at hf;have HY:=If hf;have hb:ap=true:=by rw[<-HB.O];simp[q2]
   subst hb;clear hf q1 q2;exact qYiaa
  | true=>
  have hf:=HF.b;rw[q2] at hf;have HY:=If hf;clear hf
  by_cases q3:40<n1
  ·have l3:(40<(n1:Int))=True:=eq_true o_;have hb:ap=true:=by rw[<-HB.O];simp[q3]
   subst hb;clear q1 q2 q3;exact qYiaa
  have l3:(40<(n1:Int))=False:=eq_false o_
  by_cases q4:40<n2
  ·have l4:(40<(n2:Int))=True:=eq_true o_;have hb:ap=true:=by rw[<-HB.O];simp[q4]
   subst hb;clear q1 q2 q3 q4;exact qYiaa
  have l4:(40<(n2:Int))=False:=eq_false o_
  cases q5:jb l with
  | true=>
   have hf:=HF.c o_;rw[q5] at hf;have HZ:=If hf;have hb:ap=true:=by rw[<-HB.O];simp[q5]
   subst hb;clear hf q1 q2 q3 q4 q5;go_wp2_with fail;refine Jc HX.O ?_;go_wp2_with fail;refine Jc HY.O ?_;go_wp2_with fail;refine Jc HZ.O ?_;go_wp2_with fail
   go_meet
   exact⟨rfl,rfl⟩
  | false=>
  have hf:=HF.c o_;rw[q5] at hf;have HZ:=If hf;clear hf;obtain⟨b6,d6⟩:=Ii (jb m);have hf:=HF.d o_;rw[d6] at hf;have HW:=If hf;clear hf;have hb:ap=(b6 || (decide (n<0) || decide (5<n))):=by rw[<-HB.O,q1,q2,q5,decide_eq_false q3,decide_eq_false q4,d6];simp[Bool.or_assoc]
  clear q1 q2 q3 q4 q5 d6
  cases b6 with
  | true=>
   have bf:ap=true:=by rw[hb];simp
   exact qYiab
  | false=>
  by_cases q7:n<0
  ·have bf:ap=true:=by rw[hb];simp[q7]
   exact qYiab
  ·have bf:ap=decide (5<n):=by rw[hb];simp[q7]
   clear hb;subst bf;go_wp2_with fail;refine Jc HX.O ?_;go_wp2_with fail;refine Jc HY.O ?_;go_wp2_with fail;refine Jc HZ.O ?_;go_wp2_with fail;refine Jc HW.O ?_;go_wp2_with fail
   go_meet
   exact⟨by rw[decide_eq_false (show ¬n<0 by omega)];rfl,rfl⟩
 case rest=>
 obtain⟨rfl,rfl⟩:=hcut
 cases ap with
 | true=>
  go_wp2_with fail;refine dR (HG.a _ (aa _ _)) fun w9 hb=>?_;have HX:=If hb;clear hb;go_wp2_with fail;go_ret;exact⟨rfl,HX.O⟩
 | false=>
 obtain⟨w,ll⟩:∃w,w=wc:=⟨_,rfl⟩;subst ll;have hb:=HB.O;simp only[Bool.or_eq_false_iff,Bool.not_eq_false',decide_eq_false_iff_not,Nat.not_lt,Int.not_lt] at hb;obtain⟨⟨⟨⟨⟨⟨⟨b1,b2⟩,b3⟩,b4⟩,b5⟩,b6⟩,b7⟩,b8⟩:=hb;obtain⟨nc,rfl⟩:∃nc:Nat,n=nc:=⟨n.toNat,o_⟩;have mv:nc<=5:=o_
 obtain⟨K1,fm,h4,gc,ik,g9⟩:=Ob uS one t (by unfold FO at b1;exact of_decide_eq_true b1);obtain⟨K2,fn,h5,gf,iu,g'⟩:=Ob uS two t (by unfold FO at b2;exact of_decide_eq_true b2);have j1:=xp HG.b 262144 4000 4294967295 o_ o_ o_;have hm:=ux 262144 4000 4294967295 o_ o_ o_;have j2:fc ⟨⟨262144,[]⟩,⟨4000,4294967295,[]⟩⟩ (20*40+(20*40+64*5)) (9*40+(9*40+5)):=⟨d_,d_⟩;have bq:l.length<=40:=by have:=HG.e;omega
 have bs:m.length<=40:=by have:=HG.f;omega
 have HS:=kq7 j1 hm j2 (Cl b5) (Cl b6) bq bs;have ad:=kq5 fm @h4 @gc @ik g9;have ai:=kq5 fn @h5 @gf @iu g';clear j1 hm j2 bq bs fm h4 gc ik g9 fn h5 gf iu g' b1 b2 b3 b4 b5 b6 b7 b8 HB HF;go_wp2_with fail;refine HS.a.M ?_;rintro e w1 ⟨ps,rfl,jv,cb⟩;have bv:=Nt (w:=w) ad.a jv HS.b cb (fun k hk=>hk) (v:=.slice A n1 c) (l:=l) (HG.c.a_ cb) (fun V hV=>HG.c.a_ (cb.T hV.a_)) HS.f HS.d (p:=20*40+64*5) (q:=9*40+5) (HS.c.M (by have:=HS.f;omega) (by have:=HS.f;omega));have H1:=If bv;clear jv cb bv;go_wp2_with fail;refine H1.O.M ?_;rintro e w4 ⟨pa,rfl,la,c7,ra,S1,o1,Y1,R1,l1,a0,d5,fk,j3⟩;have ec:∀V,Fo Y1 w4 V->D_ w V:=fun V hV=>a0.m.bl.T (hV.M a0.m.own).a_;have bv:=Nt (w:=w) ai.a a0.m.st (ad.a.ok.fit d5) a0.m.bl a0.m.own (v:=.slice Au n2 cu) (l:=m) (HG.d.a_ a0.m.bl) (fun V hV=>HG.d.a_ (ec V hV)) HS.g HS.e (p:=64*5) (q:=5) (j3.M (by have:=HS.g;omega) (by have:=HS.g;omega));have H4:=kq4 bv a0.m d5 fk;clear bv a0 d5 fk j3 ec la l1 H1;go_wp2_with fail;refine H4.a.M ?_;rintro e w5 ⟨pb,rfl,lb,kz,rb,S2,o2,Y2,R2,l2,a1,b',d4,j5⟩;have gk:∀y∈R1,i_ S1 y≠none:=ad.a.ok.has H4.c;have ar:K1.Hold S2 o2 ra (im l) R1:=ad.a.ok.frame H4.c (ai.a.ok.fit b') fun y hy=>(d4.w_ y (gk y hy)).2;have a4:Ic w5 pa c7 ps 1000:=(a1.kp.block pa H4.b.ym).T H4.b.map;have au:=ad.a.ok.onKeep H4.b.on a1.kp H4.b.yx;have gb:=v8.start (pm:=pb) a1.m.st (ai.a.ok.fit b') (aF HG.b.lt a1.m.bl.size) j5;have kj:=(a1.x pa H4.b.ym).1;have kl:=(a1.x c7 H4.b.yx).1;have H5:=kq9 a1.m b' d4 ar a4 au gb kj kl;clear a1 b' d4 j5 gk ar a4 au gb kj kl lb l2;go_wp2_with fail
 go_loopw [17,18,19,20] (fun s17 s18 _ _ wr=>∃i:Nat,i<=nc/\s18=Xi i/\Hid (∃lr S o,lr.length=i/\v8 ps pb w5.1.size S2 Y2 w5 (64*(5-i)) (5-i) s17 (lr.map Prod.fst) lr wr S o)) (fun _ s18 _ _ _=>nc-(intOf s18).toNat)
 case atStart=>exact⟨0,o_,rfl,[],S2,o2,rfl,H5.g⟩
 case round=>
  obtain⟨i,m0,rfl,I⟩:=hrel
  by_cases hi:i<nc
  ·have k4:(i:Int)<nc:=o_
   obtain⟨lr,S,o,a5,mk⟩:=I.O;rw[show 64*(5-i)=64+64*(5-(i+1)) by omega,show 5-i=1+(5-(i+1)) by omega] at mk;have i3:=mk.open H5.a.map H5.a.ym;have HM:=kq2 i3 a5;clear i3 a5 mk I;go_wp2_with fail;refine HM.a.M ?_;rintro e w6 ⟨pc,hh,S',o',rfl,hM⟩;obtain⟨v2,w3,c5,i1,ho,c6⟩:=Oj hM.own (by have:=HM.b;simp;omega) pc hM.lo.2 73;have HE:Hid (∃lr S o,lr.length=i+1/\v8 ps pb w5.1.size S2 Y2 w5 (64*(5-(i+1))) (5-(i+1)) v2 (lr.map Prod.fst) lr w3 S o):=⟨lr++[(pc,hh)],S',o',by have:=HM.b;simp;omega,by
    have:=hM.append i1 ho c6;rwa[show (lr++[(pc,hh)]).map Prod.fst=lr.map Prod.fst++[pc] by simp]⟩
   clear i1 ho c6 hM HM
   go_wp2_with (at_builtin;refine Lib.wpList_append_run _ rfl _ _ _ _ rfl _ _ rfl rfl _ _ c5 ?_)
   go_roundw
   case rel=>exact⟨i+1,o_,s_,HE⟩
   case measure=>simp[intOf];omega
  ·obtain rfl:i=nc:=o_
   have k4:¬(i:Int)<i:=o_
   obtain⟨lr,S,o,a5,mk⟩:=I.O;clear I;obtain⟨wm,k'⟩:∃wm,wm=wr:=⟨_,rfl⟩;subst k';have eb:∀y,i_ S2 y≠none->i_ S y=i_ S2 y:=mk.rc.same;have ar:K1.Hold S o ra (im l) R1:=ad.a.ok.frame H5.d mk.fit fun y hy=>eb y (ad.a.ok.has H5.d y hy);have a7:K2.Hold S o rb (im m) R2:=ai.a.ok.frame H5.b mk.fit fun y hy=>eb y (ai.a.ok.has H5.b y hy);have a4:Ic wm pa c7 ps 1000:=(mk.kp.block pa H5.h).T H5.e;have au:=ad.a.ok.onKeep H5.f mk.kp H5.i;have ca:Ic wm pb kz ps 1000:=(mk.kp.block pb H5.a.ym).T H5.a.map;have bd:=ai.a.ok.onKeep H5.a.on mk.kp H5.a.yx;have bu:(im l).length<=40:=aH (wt l) HS.f;have ib:(im m).length<=40:=aH (wt m) HS.g;have g4:D_ w wm:=H5.a.bl.T (mk.kp.M fun k hk=>H5.a.own k hk).a_;have c3:=Ao.mk' (Nu HS.b) H4.d H5.c mk.rc (ad.a.ok.has H4.c) (ai.a.ok.has H5.b) (ad.d ar) (ai.d a7);have k6:S.t.most=4000:=mk.rc.most.T (H5.c.most.T H4.d.most);have c5:R1.length+R2.length<=4000:=by
    have h1:=c3.len mk.fit;have h2:=mk.fit.live_le;have h3:=mk.fit.tab.len;rw[Kc] at h1;omega
   have jk:R1.length<=4000:=o_
   have kn:=Ha.mk' ad.a.ok ad.c mk.st ar o_ a4 au;have kq:=Ha.mk' ai.a.ok ai.c mk.st a7 o_ ca bd;have g5:=fun(V:World) (hV:D_ wm V)=>(ad.b (mk.st.a_ hV) ar o_ (ad.a.ok.onBelow au hV)).1;have g6:=fun(V:World) (hV:D_ wm V)=>(ai.b (mk.st.a_ hV) a7 o_ (ai.a.ok.onBelow bd hV)).1;have h6:=fun(V:World) (hV:D_ wm V)=>CQ (a4.a_ hV) (ad.e.len (mk.st.a_ hV) ar o_ (ad.a.ok.onBelow au hV));have h7:=fun(V:World) (hV:D_ wm V)=>CQ (ca.a_ hV) (ai.e.len (mk.st.a_ hV) a7 o_ (ai.a.ok.onBelow bd hV));have iv:=fun(V:World) (hV:D_ wm V)=>ad.e.h_ (mk.st.a_ hV) ar;have i0:=fun(V:World) (hV:D_ wm V)=>ai.e.h_ (mk.st.a_ hV) a7;have jn:=fun(V:World) (hV:D_ wm V)=>ad.e.f9 (ad.a.ok.onBelow au hV);have js:=fun(V:World) (hV:D_ wm V)=>ai.e.f9 (ai.a.ok.onBelow bd hV);obtain⟨Ac,cc,rfl⟩:=mk.own.C9;have i4:=mk.pos;have d':=mk.ok o_;have ch:=v8.cat ps lr fun c hc=>(i4 c hc).1;have ea:∀c∈v8.cu ps lr,∀q,c.s=some q->q=ps:=fun c hc q e=>by
    obtain⟨d,_,rfl⟩:=aC.1 hc;exact(Option.some.inj e).S
   have g7:(lr.map Prod.fst).length=i:=by rw[ao];exact a5
   have d8:(v8.cu ps lr).length=i:=by unfold v8.cu;rw[ao];exact a5
   have d9:(lr.map Prod.snd).length=i:=by rw[ao];exact a5
   obtain⟨hs,hq⟩:=Ii (lr.map Prod.snd);rw[hq] at c3 ch d9;obtain⟨cs,g8⟩:=Ii (v8.cu ps lr);rw[g8] at d' ch d8 ea;have HA:=kq8 mk.st mk.fit kn kq @g5 @g6 a4 ca;have HN:=kq5 bu ib jk c5 c3;have HL:=kq6 @h6 @h7 @iv @i0 @jn @js;have HC:=kq5 d' ch d8 d9 ea;have HB:=If g4;rw[g7];clear mk a5 eb ar a7 a4 au ca bd bu ib g4 c3 k6 jk c5 kn kq g5 g6 h6 h7 iv i0 jn js i4 d' ch g7 d8 d9 hq g8 ea;go_wp2_with fail;refine(HA.c.of rfl _ (aa _ _)).M ?_;rintro e w7 ⟨vx,rfl,hx,bx⟩;obtain⟨Ax,cx,rfl⟩:=hx.C9;have H7:=kq2 hx bx;clear hx bx;go_wp2_with fail;refine(HA.d.of rfl _ H7.b).M ?_;rintro e w8 ⟨vy,rfl,hy,d3⟩;obtain⟨Ay,cy,rfl⟩:=hy.C9;obtain⟨k1,cp⟩:=Ii R1.length;obtain⟨k2,bo⟩:=Ii R2.length;have H8:=kq5 (H7.a.at fun g e=>d3.block g (H7.a.ge g e).2) hy (b_ H7.b d3) cp bo;rw[cp,bo];have m2:k1<=4000:=by rw[<-cp];exact HN.c
   have m3:k2<=4000:=by have:=HN.d;omega
   clear hy d3 cp bo H7;have up:=fun(V:World) (hV:D_ w8 V)=>b_ H8.c hV;have HU:=If @up;clear up;go_wp2_with fail;refine dR (HL.a _ (HU.O _ (aa _ _))) fun w9 hb9=>?_;have H9:=If hb9;clear hb9;go_wp2_with fail;refine Jc (Gh (HA.g.a_ (HU.O _ H9.O))) ?_;go_wp2_with fail;refine Jc (HL.e _ (HU.O _ H9.O)) ?_;go_wp2_with fail;refine(HL.c _ (HU.O _ H9.O)).M ?_;rintro e nj ⟨vn,N,rfl,h9,gp,i6⟩;obtain⟨An,cn,rfl⟩:=h9.C9;have b0:=fun W=>Oi one ((im l).length:Nat) (N.length:Nat) (k1:Int) W (by rw[<-i6,H8.d]) ⟨o_,by have:=HN.a;omega⟩ ⟨o_,o_⟩;generalize N.length=nn at*;have b9:=kq2 b0 (b_ H9.O gp);clear h9 gp i6 b0;go_wp2_with fail;refine Jc (b9.a _) ?_;go_wp2_with fail;refine dR (HL.b _ (HU.O _ b9.b)) fun w11 hb11=>?_;have bb:=If (b_ b9.b hb11);clear hb11;go_wp2_with fail;refine Jc (Gh (HA.h.a_ (HU.O _ bb.O))) ?_;go_wp2_with fail;refine Jc (HL.f _ (HU.O _ bb.O)) ?_;go_wp2_with fail;refine(HL.d _ (HU.O _ bb.O)).M ?_;rintro e an ⟨vn,M,rfl,h',gs,i'⟩;obtain⟨Am,cm,rfl⟩:=h'.C9;have b0:=fun W=>Oi two ((im m).length:Nat) (M.length:Nat) (k2:Int) W (by rw[<-i',H8.e]) ⟨o_,by have:=HN.b;omega⟩ ⟨o_,o_⟩;generalize M.length=mm at*;have a6:=kq2 b0 (b_ bb.O gs);clear h' gs i' b0;go_wp2_with fail;refine Jc (a6.a _) ?_;have e0:=c_ an (.cells #[] 61);have O:FE (an.alloc (.cells #[] 61)) an.1.size (.slice (some (y_ an.1.size)) 0 0) []:=⟨rfl,.inr ⟨an.1.size,0,#[],rfl,Nat.le_refl _,heap_alloc_new an _,s_,s_,s_,rfl⟩⟩;have ke:FE (an.alloc (.cells #[] 61)) wm.1.size (.slice Ax R1.length cx) R1:=(H8.a.at fun g e=>a6.b.block g (H8.a.ge g e).2).alloc _;obtain⟨m',k0,ev,er,cj,k8⟩:=N8 O ke (by have:=H8.d;simp only[aJ];omega) s_ 59;have kf:FE k0 w7.1.size (.slice Ay R2.length cy) R2:=by
    have h1:FE (an.alloc (.cells #[] 61)) w7.1.size (.slice Ay R2.length cy) R2:=(H8.b.at fun g e=>a6.b.block g (H8.b.ge g e).2).alloc _;refine h1.at fun g e=>cj.block g (h1.ge g e).2 fun q=>?_;have h2:=(H8.b.ge g e).2;have h3:=a6.b.size;have q:g=an.1.size:=Option.some.inj q;omega
   obtain⟨nb,a',c4,cw,hn,k9⟩:=N8 er kf (by have:=H8.d;have:=H8.e;rw[aT];omega) (aH s_ cj.size) 59;rw[aT] at cw;obtain⟨l5,md,rfl⟩:=cw.C9;have e8:D_ w8 a':=by
    have h1:D_ an k0:=e0.grown cj s_ fun k e=>by
     have e:an.1.size=k:=Option.some.inj e;omega
    have h2:D_ an a':=h1.grown hn h1.size fun k e=>(er.ge k e).1;exact b_ a6.b h2
   rw[H8.d] at ev;rw[H8.e] at c4;obtain⟨kk,cq⟩:=Ii (R1++R2).length;have hr:kk=k1+k2:=by rw[<-cq,af,H8.d,H8.e]
   rw[cq] at c4;have HP:=kq3 cw e8 cq;have e':=If hr;have ec:kk<=8000:=o_
   clear e0 O ke er cj k8 kf cw hn k9 e8 cq hr
   go_wp2_with (at_builtin;first | refine Lib.wpList_append_run _ rfl _ _ _ _ rfl _ _ rfl rfl _ _ ev ?_ | refine Lib.wpList_append_run _ rfl _ _ _ _ rfl _ _ rfl rfl _ _ c4 ?_)
   clear ev c4
   go_loopw [24,25,26,27] (fun s24 _ _ _ wq=>∃j:Nat,j<=kk/\s24=Xi j/\Hid (D_ a' wq)) (fun s24 _ _ _ _=>kk-(intOf s24).toNat)
   case atStart=>exact⟨0,o_,rfl,aa _ _⟩
   case round=>
    obtain⟨j,m1,rfl,J⟩:=hrel;obtain⟨wq,lc⟩:∃wq,wq=wr:=⟨_,rfl⟩;subst lc
    by_cases hj:j<kk
    ·have k5:(j:Int)<kk:=o_
     have ck:j<(R1++R2).length:=by rw[HP.c];exact hj
     obtain⟨b1,d1,e1,_,y1⟩:=HP.a.cell_at ck
     injection e1 with e1 e4 e5
     subst e1;have x1:=(J.O.cell (p:=x_ b1 j) (cell_lt y1)).T y1;have h8:=av ck;have j0:i_ S (R1++R2)[j]≠none:=(HN.e.all _).2 ((ak.1 h8).imp id ab);obtain⟨ws,ez⟩:=bW.1 j0;have ed:=fB (HA.a.a_ (HU.O _ (b_ HP.b J.O))) HA.b.inv (R1++R2)[j] (fL HA.b ez).2.1;rw[jw HA.b.tab ez] at ed;have ih:∀k (a9:k<(R1++R2).length),k<j->(R1++R2)[j]≠(R1++R2)[k]:=fun k a9 hk e=>by
      have hd:(R1++R2).Nodup:=(ax.1 (by rw[aS];exact HN.e.nd:(R1++R2++hs).Nodup)).1;exact bY.1 hd k j a9 ck hk e.S
     have HQ:=kq3 ed ih J.O;generalize (R1++R2)[j]=z at*;clear e4 e5 y1 h8 j0 ez ed ih ck J;go_wp2_with fail;refine Jc HQ.a ?_;go_wp2_with fail
     go_loopw [27] (fun s27 wz=>∃k:Nat,k<=j/\s27=Xi k/\Hid (D_ a' wz)) (fun s27 _=>j-(intOf s27).toNat)
     case atStart=>exact⟨0,o_,rfl,HQ.c⟩
     case round=>
      obtain⟨k,m5,rfl,M⟩:=hrel;obtain⟨wz,lz⟩:∃wz,wz=wr:=⟨_,rfl⟩;subst lz
      by_cases hk:k<j
      ·have bo:(k:Int)<j:=o_
       have m4:(k:Int)<kk:=o_
       have a9:k<(R1++R2).length:=by rw[HP.c];omega
       obtain⟨b2,d2,e2,_,y2⟩:=HP.a.cell_at a9
       injection e2 with e2 e6 e7
       injection e2 with e2
       injection e2 with e2
       subst e2;have x2:=(M.O.cell (p:=x_ b1 k) (cell_lt y2)).T y2;have x3:=(M.O.cell (p:=x_ b1 j) (by have:=cell_lt y2;exact this)).T (HQ.c.cell (p:=x_ b1 j) (by have:=cell_lt y2;exact this) |>.S.T x1);have m6:=HQ.b k a9 hk;generalize (R1++R2)[k]=y at*;have l0:¬((z:Int)=(y:Int)):=o_
       have m8:((z:Int)==(y:Int))=false:=by simpa using l0
       clear e6 e7 y2 a9 x1;go_wp2_with fail
       go_quiet (fail)
       go_wp2_with fail;go_roundw
       case rel=>exact⟨k+1,o_,s_,If (M.O.T ⟨rfl,rfl,rfl,Nat.le_refl _,fun _ _=>rfl⟩)⟩
       case measure=>simp[intOf];omega
      ·obtain rfl:k=j:=o_
       have bo:¬(k:Int)<k:=o_
       go_wp2_with fail;go_roundw
       case rel=>exact⟨k+1,o_,s_,M⟩
       case measure=>simp[intOf];omega
    ·obtain rfl:j=kk:=o_
     have k5:¬(j:Int)<j:=o_
     have c':=b_ HP.b J.O;have dc:D_ w8 (wq.alloc (.cells #[PV pa,PV pb] 45)):=c'.alloc c'.size _;have c9:=World.alloc_heap_new wq (.cells #[PV pa,PV pb] 45);have e3:=c_ wq (.cells #[PV pa,PV pb] 45);have km:(wq.alloc (.cells #[PV pa,PV pb] 45)).1.size=wq.1.size+1:=s_
     obtain⟨W,hW⟩:=Ii (wq.alloc (.cells #[PV pa,PV pb] 45));rw[hW] at dc c9 e3 km;have a2:=HU.O _ dc;have bt:=HA.c.a_ a2;have em:=HA.d.a_ a2;have a3:=HA.a.a_ a2;have bk:=fun(V:World) (hV:D_ W V)=>b_ a2 hV;have j':∀x∈ [(pa,ps,R1),(pb,ps,R2)],Ha W ps x:=fun x hx=>by
      rcases ah.1 hx with rfl | hx
      ·exact bt
      ·rw[aE] at hx;subst hx;exact em
     have i2:∀x∈ [(pa,ps,R1)],Ha W ps x:=fun x hx=>by
      rw[aE] at hx;subst hx;exact bt
     have j8:∀x∈ [(pa,ps,R1),(pb,ps,R2),(pa,ps,R1)],Ha W ps x:=fun x hx=>by
      rcases ah.1 hx with rfl | hx
      ·exact bt
      ·rcases ah.1 hx with rfl | hx
       ·exact em
       ·rw[aE] at hx;subst hx;exact bt
     have bs:(e9 ps [(pa,ps,R1),(pb,ps,R2)]).length<=10000:=by rw[NY,af];have:=HN.d;omega
     have bq:(e9 ps [(pa,ps,R1)]).length<=10000:=by rw[KE];have:=HN.c;omega
     have hw:(e9 ps [(pa,ps,R1),(pb,ps,R2),(pa,ps,R1)]).length<=10000:=by rw[N4,af,af];have:=HN.d;omega
     have cv:JM W ps wq.1.size [(pa,ps,R1),(pb,ps,R2)]:=Ha.okc j' c9 (fun z hz=>by
      have hz:z<2:=hz;have:z=0\/z=1:=o_
      rcases this with rfl | rfl<;>rfl) ⟨bs,s_⟩
     have el:JM W ps wq.1.size [(pa,ps,R1)]:=Ha.okc i2 c9 (fun z hz=>by
      have hz:z<1:=hz;obtain rfl:z=0:=o_
      rfl) ⟨bq,s_⟩
     have a8:=HC.a.a_ a2;have bj:NX W (pa,ps,R1):=⟨c7,fun V hV=>Gh (HA.g.a_ (bk V hV)),fun V hV=>HA.e V (bk V hV)⟩;have d7:NX W (pb,ps,R2):=⟨kz,fun V hV=>Gh (HA.h.a_ (bk V hV)),fun V hV=>HA.f V (bk V hV)⟩;have jj:NU W ps S [(pa,ps,R1),(pb,ps,R2)] cs 0:=ae ⟨s_,HC.e,fun z hz=>by
      rcases ah.1 hz with rfl | hz
      ·exact bj
      ·rw[aE] at hz;subst hz;exact d7,ab ⟨rfl,by rw[NY,HC.b];exact HN.e.once HA.b⟩⟩
     obtain⟨r2,c6,jc⟩:∃r2:Nat,(r2=0/\k2=0\/r2=8/\¬(k2:Int)=0/\((k2:Int)==0)=false)/\NU W ps S [(pa,ps,R1)] cs r2:=by
      have hx:∀z∈ [(pa,ps,R1)],NX W z:=fun z hz=>by
       rw[aE] at hz;subst hz;exact bj
      rcases HN.e.first HA.b with⟨e,q⟩ | ⟨e,q⟩
      ·exact⟨0,ab ⟨rfl,by rw[<-H8.e,e];rfl⟩,ae ⟨s_,HC.e,hx,ab ⟨rfl,by rw[KE,HC.b];exact q⟩⟩⟩
      ·have h0:¬(k2:Int)=0:=by have:=cJ.2 e;have:=H8.e;omega
       exact⟨8,ae ⟨rfl,h0,by simpa using h0⟩,ae ⟨s_,HC.e,hx,ae ⟨rfl,by rw[KE,HC.b];exact q⟩⟩⟩
     obtain⟨r1,k7,i5⟩:∃r1:Nat,(r1=0/\k1=0\/r1=8/\¬(k1:Int)=0/\((k1:Int)==0)=false)/\NU W ps S [(pa,ps,R1),(pb,ps,R2),(pa,ps,R1)] cs r1:=by
      have hx:∀z∈ [(pa,ps,R1),(pb,ps,R2),(pa,ps,R1)],NX W z:=fun z hz=>by
       rcases ah.1 hz with rfl | hz
       ·exact bj
       ·rcases ah.1 hz with rfl | hz
        ·exact d7
        ·rw[aE] at hz;subst hz;exact bj
      rcases HN.e.twice HA.b with⟨e,q⟩ | ⟨e,q⟩
      ·exact⟨0,ab ⟨rfl,by rw[<-H8.d,e];rfl⟩,ae ⟨s_,HC.e,hx,ab ⟨rfl,by rw[N4,HC.b];exact q⟩⟩⟩
      ·have h0:¬(k1:Int)=0:=by have:=cJ.2 e;have:=H8.d;omega
       exact⟨8,ae ⟨rfl,h0,by simpa using h0⟩,ae ⟨s_,HC.e,hx,ae ⟨rfl,by rw[N4,HC.b];exact q⟩⟩⟩
     have fj:=fun(V:World) (hV:D_ W V)=>N2 (n1:=2) (cm:=2) (cc:=cc) (a3.a_ hV) HA.b (cv.a_ hV) (a8.a_ hV) (jj.a_ hV) rfl HC.c;have fw:=fun(V:World) (hV:D_ W V)=>N6 (n1:=2) (cm:=2) (cc:=cc) (k:=0) (a3.a_ hV) HA.b (cv.a_ hV) (a8.a_ hV) (by rw[NY,HC.b,HN.e.lost0 HA.b];rfl) rfl HC.c;have fv:=fun(V:World) (hV:D_ W V)=>N6 (n1:=1) (cm:=2) (cc:=cc) (k:=k2) (a3.a_ hV) HA.b (el.a_ hV) (a8.a_ hV) (by rw[KE,HC.b,HN.e.lost2 HA.b];exact H8.e) rfl HC.c;have fb:=fun(V:World) (hV:D_ W V)=>N2 (n1:=1) (cm:=2) (cc:=cc) (a3.a_ hV) HA.b (el.a_ hV) (a8.a_ hV) (jc.a_ hV) rfl HC.c;have f':=fun(V:World) (hV:D_ W V)=>N6 (A:=none) (cs:=[]) (n1:=2) (n2:=0) (cm:=2) (cc:=0) (k:=i) (a3.a_ hV) HA.b (cv.a_ hV) (NT.nil V none) (by rw[NY,show dS ps []=[] from rfl,aU,HN.e.lostC HA.b];exact HC.d) rfl rfl;have bc:=fun(V:World) (hV:D_ W V) (bm:Nat) (ty:TypeId) (hb:V.1[bm]?=some (.cells #[PV pa,PV pb,PV pa] ty))=>N2 (n1:=3) (cm:=3) (cc:=cc) (a3.a_ hV) HA.b (Ha.okc (fun x hx=>(j8 x hx).a_ hV) hb (fun z hz=>by
      have hz:z<3:=hz;have:z=0\/z=1\/z=2:=o_
      rcases this with rfl | rfl | rfl<;>rfl) ⟨hw,s_⟩) (a8.a_ hV) (i5.a_ hV) rfl HC.c
     have gg:=fun(V:World) (hV:D_ W V)=>KQ (a3.a_ hV) HA.b;have bu:S.all.length=j+i:=by rw[HN.e.len HA.b,H8.d,H8.e,HC.d,e'.O]
     obtain⟨na,ep⟩:=Ii S.all.length;rw[ep] at bu;have m7:IntKind.i64.wrap ((j:Int)+(i:Int))=(na:Int):=by have:=e'.O;rw[aw _ o_];omega
     have kd:=b_ HB.O a2;have HT:=kq9 @fj @fw @fv @fb @f' @bc @gg ep kd;clear fj fw fv fb f' bc gg ep kd bu cv el a8 bj d7 jj jc i5 a3 bt em j' i2 j8 bq bs hw bk a2 c9 e3 dc c' J km;go_wp2_with fail;refine dR (HT.a _ (aa _ _)) fun w18 hb18=>?_;have dd:=If hb18;clear hb18 hW;go_wp2_with fail;refine(HT.b _ dd.O).M ?_;rintro e nl ⟨l',mi,rfl,gv⟩;have dk:=If (b_ dd.O gv);clear gv;go_wp2_with fail;refine(HT.g _ dk.O).M ?_;rintro e nm ⟨nf,rfl,ka,g0⟩;obtain⟨l8,ml,rfl⟩:=ka.C9;rw[HT.h];have dn:=If (b_ dk.O g0);clear ka g0;go_wp2_with fail;refine(HT.c _ dn.O).M ?_;rintro e np ⟨mb,mr,rfl,g1⟩;have dp:=If (b_ dn.O g1);clear g1;go_wp2_with fail;refine dR (HT.d _ dp.O) fun w22 hb22=>?_;have ba:=b_ dp.O hb22;have bc:=HT.f _ (ba.alloc ba.size (.cells #[PV pa,PV pb,PV pa] 45)) w22.1.size _ (World.alloc_heap_new w22 _);have ds:=kq2 bc (ba.alloc ba.size (.cells #[PV pa,PV pb,PV pa] 45));clear hb22 ba bc;go_wp2_with fail;refine dR ds.a fun w23 hb23=>?_;have dv:=If (b_ ds.b hb23);clear hb23
     rcases c6 with⟨rfl,rfl⟩ | ⟨rfl,z2,y2⟩<;>rcases k7 with⟨rfl,rfl⟩ | ⟨rfl,z1,y1⟩
     all_goals
      go_wp2_with fail;refine(HT.e _ dv.O).M ?_;rintro e nq ⟨mc,ms,rfl,g2⟩;have d0:=If (HT.i.T ((b_ dv.O g2).M HT.i.size));clear g2;go_wp2_with fail;refine dR (HG.a _ d0.O) fun w25 hb25=>?_;have k3:=If (b_ d0.O hb25);clear hb25;go_wp2_with fail;go_ret;exact⟨rfl,k3.O⟩