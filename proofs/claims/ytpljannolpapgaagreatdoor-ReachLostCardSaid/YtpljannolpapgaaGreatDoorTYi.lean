/- Trees of any l_ checked and listed: parts, bulk, Tree: the walks. -/
import Derived.Test.YtpljannolpapgaaGreatDoorTYg
import Derived.Test.YtpljannolpapgaaGreatDoorTRg
import Derived.Test.YtpljannolpapgaaGreatDoorTLu
import Derived.Test.YtpljannolpapgaaGreatDoorTNf
set_option maxRecDepth 100000
set_option maxHeartbeats 12800000
namespace Go.Proofs.YtpljannolpapgaaGreatDoor
open Go.RowKit Tryz Go.BigFrame Go.Maps Go.WideMaps Lf Tr
variable{B:Nat}{S:St}{Y:Nat->Prop}{l_:Nat}{kv:Value}{o:Nat->Nat}{ps:Nat}{f9:Nat}{t:Nat}{ty:TypeId}{v:Value}{w:World}
theorem LQ(h:Ig w ps S Y)(hi:Fv S){j c:FuncId}(hk:j6 l_ j c)(hen:∀(args:Array Value) (w:World),(callFunc c args).run prog w=.ok (.enter c args) w)(hcc:∀W,D_ w W->Ct c #[PV ps,Xu f9] W fun e w'=>e=.returned (Xi 0)/\D_ W w'):
 Cb 134 #[PV ps,Xi l_,Xu f9] w (Xi 0):=by
 have ha:=yG h hi hk;simp only[gS,eL] at ha;have HG:=kq2 ha hcc;go_enter func134,ntmps134;go_wp2_with fail;refine b8 HG.a fun w1 hb1=>?_;have H1:=If (hb1.alloc hb1.size (.cells #[PV ps,.func (.func j) #[] #[],.func (.func c) #[] #[]] 265));go_wp2_with fail;refine b8 (HG.b _ H1.O) fun w2 hb2=>?_;have H2:=If (b_ H1.O hb2);go_wp2_with fail;go_ret;exact⟨rfl,H2.O⟩
theorem Lh(h:Ig w ps S Y)(hi:Fv S)(hk:l_=1\/l_=2)(t:Int)(hc:Cb 134 #[PV ps,Xi l_,Xu f9] w (Xi 0)):
 Cb 86 #[PV ps,Xi l_,Xi t,Xu f9] w (Xi 0):=by
 have hq:((l_:Int)==3)=false:=by grind
 have HG:=kq2 (zY h hi hk t) hc;go_enter func86,ntmps86;go_wp2_with fail;refine Jc HG.a ?_;go_wp2_with fail;refine b8 HG.b fun w2 hb2=>?_;have H2:=If hb2;go_wp2_with fail;go_ret;exact⟨rfl,H2.O⟩
theorem Kq{px ps l_ td f9:Nat}(hT:FF w px ps ty kv l_ td f9)(hs:∀W,D_ w W->Cb 86 #[PV ps,Xi l_,Xi td,Xu f9] W (Xi 0)):
 Cb 56 #[PV px] w (Xi 0):=by
 obtain⟨I,ap,ad⟩:=kN px ps ty kv l_ td f9;have ai:=fun x:Fq I=>ap _ x.ok;simp only[FF] at ai;obtain⟨m0,m1,m2,m3,m4⟩:=iK ai;have an:I w.drew:=ad _ hT;have HG:=kq4 (kw hT) (hs _ (aa _ w).drew) hT ad;go_enter func56,ntmps56;go_wp2_with fail;refine Jc HG.a ?_;go_wp2_with fail;refine fh I (.take 0 (.take 1 (.take 2 (.take 3 (.take 4 (.take 5 (.take 6 (.take 7 (.take 8 (.take 9 (.take 10 (.take 11 (.take 12 (.take 13 (.take 14 (.take 15 (.go 16 (.go 17 .nil)))))))))))))))))) k_ k_ an ?_
 iterate 16
  refine pT_ ?_
 refine pD fun K hK=>?_;go_simp;refine b8 HG.b fun w2 hb2=>?_;have B2:=kq2 (FF.a_ (w:=w.drew) HG.c hb2) ((aa w.1.size w).drew.T hb2);refine hK.O _ _ (HG.d _ B2.a) ?_;refine pD fun K hK=>?_;go_simp;refine hK.O _ _ (HG.d _ B2.a) ?_;refine eP ?_;go_wp2_with fail;go_ret;exact⟨rfl,B2.b⟩
theorem KT{px ps l_ td f9:Nat}{L:List Pr}(hT:FF w px ps ty kv l_ td f9)(hs:∀W,D_ w W->Ct 59 #[PV ps,Xi l_,Xi td,Xu f9] W fun e w'=>∃v,e=.returned (.tuple #[v,Xi 0])/\w'.ownsRow W.1.size 40 2 v L.length (FJ L)/\D_ W w'):
 Ct 26 #[PV px] w fun e w'=>∃v,e=.returned v/\w'.ownsRow w.1.size 40 2 v L.length (FJ L)/\D_ w w':=by
 obtain⟨I,ar,ad⟩:=kN px ps ty kv l_ td f9;have an:=fun x:Fq I=>ar _ x.ok;simp only[FF] at an;obtain⟨m0,m1,m2,m3,m4⟩:=iK an;have ap:I w.drew:=ad _ hT;have HG:=kq4 (kw hT) (hs _ (aa _ w).drew) hT ad;go_enter func26,ntmps26;go_wp2_with fail;refine Jc HG.a ?_;go_wp2_with fail;refine fh I (.take 0 (.take 1 (.take 2 (.take 3 (.take 4 (.take 5 (.take 6 (.take 7 (.take 8 (.take 9 (.take 10 (.take 11 (.take 12 (.take 13 (.take 14 (.take 15 (.go 16 (.take 17 (.take 18 (.take 19 (.go 20 (.go 21 .nil)))))))))))))))))))))) k_ k_ ap ?_
 iterate 16
  refine pT_ ?_
  try simp only[pu]
 refine pD fun K hK=>?_;go_simp;refine HG.b.M ?_;rintro e w2 ⟨v,rfl,au,ai⟩;have B2:=kq3 (FF.a_ (w:=w.drew) HG.c ai) ((aa w.1.size w).drew.T ai) au;refine hK.O _ _ (HG.d _ B2.a) ?_
 iterate 3
  refine pT_ ?_
 refine pD fun K hK=>?_;go_simp;refine hK.O _ _ (HG.d _ B2.a) ?_;refine pD fun K hK=>?_;go_simp;refine hK.O _ _ (HG.d _ B2.a) ?_;refine eP ?_;go_wp2_with fail;go_ret;exact⟨v,rfl,B2.c,B2.b⟩
theorem L6{l:List Pr}(h:w.ownsRow B 40 2 v l.length (FJ l))(hl:l.length<=10000)(p:Pr)(hB:B<=w.1.size)(ty:TypeId):
 ∃v' w',(Builtin.append_ #[22,22] ty #[v,.slice (some (y_ w.1.size)) 1 1]).run prog (w.alloc (Xn p.1 p.2))=.ok v' w'/\w'.ownsRow B 40 2 v' (l++[p]).length (FJ (l++[p]))/\Below B w w':=by
 obtain⟨v',w',h1,h2,h3⟩:=F9 (w:=w.alloc (Xn p.1 p.2)) (h.alloc _) (PRow.one (heap_alloc_new w _) (c:=1)) (by grind) m_ ty;exact⟨v',w',h1,h2,((aa B w).alloc hB _).T h3⟩
def L1(S:St)(ps:Nat)(l_ t:Int)(f9:Nat)(L:List It)(w:World):Prop:=
 l_=3/\(∀W,D_ w W->Ct 74 #[PV ps,Xi t,Xu f9] W fun e w'=>∃v,e=.returned v/\py w' W.1.size v L/\D_ W w')\/
 l_≠3/\(∀W,D_ w W->Ct 75 #[PV ps,Xu f9] W fun e w'=>∃v,e=.returned v/\FE w' W.1.size v (L.map (·.h))/\D_ W w')/\∀a∈L,∃n:Nd,i_ S a.h=some (eM n)/\n.key=a.kh/\n.val=a.vh
theorem Ko{B B':Nat}{e:TypeId}{s:Nat}{n:Nat}{xs:List Value}(h:w.ownsRow B e s v n xs)(hB:B'<=B):w.ownsRow B' e s v n xs:=⟨h.1,h.2.imp id fun⟨g,cap,cur,a,b,c⟩=>⟨g,cap,cur,a,aG hB b,c⟩⟩
theorem py.below2{w w':World}{l:List It}(h:py w B v l)(hb:D_ w w'):py w' B v l:=LP h hb
theorem qYiad{P:Prop}(h:P:=by
 go_wp2_with (at_builtin;refine Lib.wpList_append_run _ rfl _ _ _ _ rfl _ _ rfl rfl _ _ a5 ?_)
 go_roundg (n-(j+1))
 case rel=>exact⟨j+1,s_,o_,o_,HF⟩
 case measure=>omega):P:=h
theorem Lj{ps f9:Nat}{l_ t:Int}{L:List It}(h:Ig w ps S Y)(hf:Fw S o)(hk:1<=l_/\l_<=3)(hck:Cb 86 #[PV ps,Xi l_,Xi t,Xu f9] w (Xi 0))(C6:L1 S ps l_ t f9 L w)(hb:∀a∈L,gu S a)(hl:L.length<=1000):
 Ct 59 #[PV ps,Xi l_,Xi t,Xu f9] w fun e w'=>∃v,e=.returned (.tuple #[v,Xi 0])/\w'.ownsRow w.1.size 40 2 v (F0 L).length (FJ (F0 L))/\D_ w w':=by
 have a':=fun(W:World) (hW:D_ w W) (a:It) (ha:a∈L)=>And.intro (JV (h.a_ hW) hf (hb a ha).lk (hb a ha).k) (JV (h.a_ hW) hf (hb a ha).lv (hb a ha).v);have bc:=fun(W:World) (hW:D_ w W) {hh:Nat} {n:Nd} (hn:i_ S hh=some (eM n))=>J6 (h.a_ hW) hf hn;obtain⟨n,hn⟩:=Ii L.length;have HC:=kq4 hck a' C6 @bc;have HE:=If hn;rw[hn] at hl;clear h hf hck C6 hb a' bc hn;go_enter func59,ntmps59;go_wp2_with fail;refine b8 HC.a fun w1 hb1=>?_;have H1:=If hb1;clear hb1
 go_upto_if 32 with fail
 go_cut [11] from 13 (fun s11 wx=>Hid (py wx w.1.size s11 L/\D_ w wx))
 case first=>
  rcases HC.c with⟨h3,a9⟩ | ⟨h3,bj,ar⟩
  ·have HB:=If a9;clear a9;have bm:(l_==3)=true:=by simp[h3]
   subst h3;go_wp2_with fail;refine(HB.O w1 H1.O).M ?_;rintro e w2 ⟨v,rfl,hv,an⟩;have H2:Hid (py w2 w.1.size v L/\D_ w w2):=⟨Ko hv H1.O.size,b_ H1.O an⟩;clear hv an;go_wp2_with fail
   go_meet
   exact H2
  ·have HW:=kq2 bj ar;clear bj ar;have bm:(l_==3)=false:=by simp[h3]
   go_wp2_with fail;refine(HW.a w1 H1.O).M ?_;rintro e w2 ⟨v,rfl,hv,an⟩;obtain⟨A,c,rfl⟩:=hv.E_;rw[am,HE.O];have H2:=kq2 hv (b_ H1.O an);clear hv an;go_wp2_with fail
   go_loopg [11,13,14,15,41] n (fun k s11 _ _ _ s41 wr=>∃j:Nat,s41=Xi j/\j<=n/\n-j<=k/\Hid (py wr w2.1.size s11 (L.take j)/\D_ w2 wr))
   case atStart=>exact⟨0,rfl,o_,o_,World.ownsRow_nil _ _ _ _,aa _ _⟩
   case round=>
    obtain⟨j,rfl,hj,bk,I⟩:=hrel
    by_cases hlt:j<n
    ·have a4:(j:Int)<n:=o_
     have ad:j<L.length:=by rw[HE.O];exact hlt
     have ba:D_ w wr:=b_ H2.b I.O.2;have bf:FE wr w1.1.size (.slice A (L.map (·.h)).length c) (L.map (·.h)):=H2.a.at fun g e=>I.O.2.block g (H2.a.ge g e).2;obtain⟨b,c',e,_,hc⟩:=bf.cell_at (j:=j) (by rw[am];exact ad)
     injection e with e1 e2 e3
     subst e1;clear e2 e3;rw[bG] at hc;obtain⟨nd,ar,a2,a3⟩:=HW.b L[j] (aq ad);have a0:=HC.d wr ba ar;have ai:L.take (j+1)=L.take j++[L[j]]:=aw ad;obtain⟨d,hd⟩:=Ii L[j];rw[hd] at hc a0 ai a2 a3;obtain⟨n1,n2,n3,n4,n5,n6⟩:=nd;simp only at a2 a3;subst a2 a3;unfold eS at a0;simp only at a0;have ap:(L.take j).length<=10000:=by rw[aM];omega
     have HM:=kq5 a0 ai ap I.O.1 I.O.2;clear a0 ai ap ba bf I hd ar;go_wp2_with fail;refine b8 HM.a fun w3 hb3=>?_;have q3:(w3.alloc (Xb d.kh d.vh n3 n4 n5 n6)).1[w3.1.size]?=some (Xb d.kh d.vh n3 n4 n5 n6):=World.alloc_heap_new _ _;have B4:D_ w2 (w3.alloc (Xb d.kh d.vh n3 n4 n5 n6)):=(b_ HM.e hb3).alloc (aG HM.e.size hb3.size) _;have O4:py (w3.alloc (Xb d.kh d.vh n3 n4 n5 n6)) w2.1.size u11 (L.take j):=(HM.d.below2 hb3).alloc _;generalize bq:w3.alloc (Xb d.kh d.vh n3 n4 n5 n6)=W4 at*;obtain⟨k0,k1,k2,k3,k4,k5⟩:=ia q3;obtain⟨v2,w5,a5,au,bb,bo⟩:=K7 O4 HM.c d B4.size 135;have HF:Hid (py w5 w2.1.size v2 (L.take (j+1))/\D_ w2 w5):=⟨by rw[HM.b];exact au,B4.grown bb B4.size fun g e=>(World.ownsRow.lt O4 g e).1⟩;clear au bb bo q3 B4 O4 hb3;exact qYiad
    ·obtain rfl:j=n:=o_
     have a4:¬(j:Int)<j:=o_
     have I1:=I.O.1;rw[<-HE.O,ct] at I1;have H3:Hid (py wr w.1.size u11 L/\D_ w wr):=⟨Ko I1 H2.b.size,b_ H2.b I.O.2⟩;clear I1;go_wp2_with fail
     go_meet
     exact H3
 case rest=>
  clear H1;have H3:=hcut;clear hcut;obtain⟨A,c,he⟩:=H3.O.1.slice;subst he;have K3:=kq2 H3.O.1 H3.O.2;rw[HE.O];clear H3;go_wp2_with fail
  go_loopg [16,18,19,20,21,22,62] n (fun k s16 _ _ _ _ _ s62 wr=>∃j:Nat,s62=Xi j/\j<=n/\n-j<=k/\Hid (wr.ownsRow wc.1.size 40 2 s16 (F0 (L.take j)).length (FJ (F0 (L.take j)))/\D_ wc wr))
  case atStart=>exact⟨0,rfl,o_,o_,World.ownsRow_nil _ _ _ _,aa _ _⟩
  case round=>
   obtain⟨j,rfl,hj,bk,I⟩:=hrel
   by_cases hlt:j<n
   ·have a4:(j:Int)<n:=o_
    have ad:j<L.length:=by rw[HE.O];exact hlt
    obtain⟨b,c',e,_,c1,c2⟩:=K3.a.cell_at ad
    injection e with e1 e2 e3
    subst e1;clear e2 e3;have o1:=(I.O.2.cell (p:=⟨b,j*2,none⟩) (fK c1)).T c1;have o2:=(I.O.2.cell (p:=⟨b,j*2+1,none⟩) (fK c2)).T c2;have ha:=aq ad;have ai:L.take (j+1)=L.take j++[L[j]]:=aw ad;obtain⟨a,a7⟩:=Ii L[j];rw[a7] at o1 o2 ha ai;have a1:D_ w wr:=b_ K3.b I.O.2;have A1:=c_ wr (Xe a.kh a.vh);have p1:=heap_alloc_new wr (Xe a.kh a.vh);obtain⟨W1,a6⟩:=Ii (wr.alloc (Xe a.kh a.vh));rw[a6] at A1 p1;have I2:=kq3 A1 (b_ a1 A1) p1;have HA:=kq2 ha ai;clear c1 c2 ha a7 A1 a1 ai;obtain⟨f0,f1⟩:=Fp p1;clear p1;go_wp2_with fail;refine b8 (HC.b W1 I2.b a HA.a).1 fun w7 hb7=>?_;have p7:=(hb7.block _ (gl I2.c)).T I2.c;have I7:=kq3 (b_ I2.a hb7) (b_ I2.b hb7) p7;clear hb7 f0 f1 a6 o1 o2;obtain⟨f0,f1⟩:=Fp p7;clear p7;go_wp2_with fail;refine b8 (HC.b w7 I7.b a HA.a).2 fun w8 hb8=>?_;have B8:D_ wr w8:=b_ I7.a hb8;have bd:wc.1.size<=w8.1.size:=aG I.O.2.size B8.size;have ap:(F0 (L.take j)).length<=10000:=by rw[jT,aM];omega
    obtain⟨v2,w9,a5,au,a8⟩:=L6 (LP I.O.1 B8) ap (a.k,a.v) bd 22;have HF:Hid (w9.ownsRow wc.1.size 40 2 v2 (F0 (L.take (j+1))).length (FJ (F0 (L.take (j+1))))/\D_ wc w9):=⟨by rw[HA.b];unfold F0;rw[aQ];exact au,(b_ I.O.2 B8).T a8⟩;clear au a8 B8 bd ap hb8 f0 f1;exact qYiad
   ·obtain rfl:j=n:=o_
    have a4:¬(j:Int)<j:=o_
    have I1:=I.O.1;rw[<-HE.O,ct] at I1;have HF:=kq2 (Ko I1 K3.b.size) (b_ K3.b I.O.2);clear I1;go_wp2_with fail;go_ret2;exact⟨_,rfl,HF.O⟩
theorem Ml{ps f9:Nat}(h:Ig w ps S Y)(hi:Fv S)(t1:2<=t)(t2:t<=16)(hc:Cb 133 #[PV ps,Xi t,Xu f9] w (Xi 0)):
 Cb 86 #[PV ps,Xi 3,Xi t,Xu f9] w (Xi 0):=by
 have HG:=kq2 (zZ h hi t1 t2) hc;clear h hi hc;go_enter func86,ntmps86;go_wp2_with fail;refine Jc HG.a ?_;go_wp2_with fail;refine b8 HG.b fun w1 hb=>?_;have H:=If hb;clear hb;go_wp2_with fail;go_ret;exact⟨rfl,H.O⟩
def JR(K:jo):Prop:=∀{w:World} {px ps f9:Nat} {S:St} {o:Nat->Nat} {Y:Nat->Prop} {L:List Pr} {R:List Nat},Ig w ps S Y->K.Hold S o f9 L R->L.length<=98->K.On w px ps f9->
 (Cb 56 #[PV px] w (Xi 0))/\
 Ct 26 #[PV px] w fun e w'=>∃v,e=.returned v/\w'.ownsRow w.1.size 40 2 v L.length (FJ L)/\D_ w w'
theorem La{j c:FuncId}{jn:Jn}{Ok:Tr->Prop}(hk:jD l_ j c jn)(hen:∀(args:Array Value) (w:World),(callFunc c args).run prog w=.ok (.enter c args) w)(hcc:∀{w:World} {ps:Nat} {S:St} {o:Nat->Nat} {Y:Nat->Prop} {t:Tr},Ig w ps S Y->fC Ok S o t->t.its.length<=1000->Ct c #[PV ps,Xu t.f9] w fun e w'=>e=.returned (Xi 0)/\D_ w w'):JR (jH l_ Ok):=by
 intro w px ps f9 S o Y L R h hH hl hT;obtain⟨t,hB,rfl,rfl,rfl⟩:=hH;rw[jT] at hl;have hN:t.its.length<=1000:=o_
 have ad:=fun(W:World) (hW:D_ w W)=>Lh (h.a_ hW) hB.fit.inv hk.is 0 (LQ (h.a_ hW) hB.fit.inv hk.way hen fun W' hW'=>hcc (h.a_ (b_ hW hW')) hB hN);refine⟨Kq hT ad,KT hT fun W hW=>Lj (h.a_ hW) hB.fit (by have:=hk.is;omega) (ad W hW) (.inr ⟨by have:=hk.is;omega,fun W' hW'=>(Kr (h.a_ (b_ hW hW')) hB.fit hB.at' (by rw[nodes_len];exact hB.A6) (by rw[nodes_len];exact hN)).M ?_,fun a ha=>At.item hB.at' a ha⟩) hB.F5 hN⟩;rintro e w' ⟨v,rfl,ho,hb⟩;exact⟨v,rfl,Ko ho o_,hb⟩
theorem LJ(t1:2<=t)(t2:t<=16):JR (mS t):=by
 intro w px ps f9 S o Y L R h hH hl hT
 rcases hH with⟨h0,rfl,rfl,rfl⟩ | ⟨d,x,hx,rfl,rfl,rfl⟩
 ·refine⟨Kq hT fun W hW=>(qc (h.a_ hW) h0.fit.inv t1 t2).M fun _ _ ⟨q1,q2⟩=>⟨q1,q2▸aa _ _⟩,KT hT fun W hW=>(Ab (h.a_ hW) h0.fit t1 t2).M ?_⟩;rintro e w' ⟨rfl,hb⟩;exact⟨_,rfl,World.ownsRow_nil _ _ _ _,hb⟩
 ·rw[jT] at hl;have ad:=fun(W:World) (hW:D_ w W)=>Ml (h.a_ hW) hx.fit.inv t1 t2 (Mi hx (h.a_ hW) o_);exact⟨Kq hT ad,KT hT fun W hW=>Lj (h.a_ hW) hx.fit o_ (ad W hW) (.inl ⟨rfl,fun W' hW'=>KC hx.walk (h.a_ (b_ hW hW')) (Nat.lt_trans hx.low d_) (Nat.le_succ_of_le hx.many) o_⟩) hx.F5 o_⟩
theorem LO{K:jo}(lk:JR K){ps px:Nat}(h:Ig w ps S Y)(hf:Fw S o)(h0:K.Hold S o 0 [] [])(hb:∀{W},K.On w px ps 0->D_ w W->K.On W px ps 0)(hT:K.On w px ps 0)(A6:Nat)(hl:A6<=1000):
 Ct 22 #[PV ps,PV px,Xi A6] w fun e w'=>∃pm,e=.returned (.tuple #[PV pm,Xi 0])/\Ic w' pm px ps A6/\D_ w w'/\w.1.size<=pm:=by
 have e0:zq A6 []=0:=by unfold zq;rw[if_neg o_];rfl
 refine(Nj (L:=[]) h hf.inv (lk h h0 s_ hT).1 (fun W hW=>(lk (h.a_ hW) h0 s_ (hb hT hW)).2) s_ A6).M ?_;rintro e w' ⟨v,rfl,hv,ad⟩;unfold JS at hv;rw[if_pos e0] at hv;obtain⟨pm,rfl,hm,ai⟩:=hv;exact⟨pm,by rw[e0];rfl,hm,ad,ai⟩
theorem Lx{j c:FuncId}{jn:Jn}{Ok:Tr->Prop}{T:Prop}(hk:jD l_ j c jn)(hok:T)(hnil:Ok .nil)(lk:JR (jH l_ Ok))(t:Int):yA l_ t (jH l_ Ok) T where
 ok:=hok
 zero hf:=⟨.nil,⟨hf,trivial,hnil,da,fun _ h=>(bT h).elim,List.Pairwise.nil⟩,rfl,rfl,rfl⟩
 new h hf:=ES h hf.inv hk t
 of h hf hT A6 hl:=LO lk h hf ⟨.nil,⟨hf,trivial,hnil,da,fun _ h=>(bT h).elim,List.Pairwise.nil⟩,rfl,rfl,rfl⟩ (NL _ _).onBelow hT A6 hl
theorem M7{T:Prop}(hok:T)(t1:2<=t)(t2:t<=16):yA 3 t (mS t) T where
 ok:=hok
 zero hf:=.inl ⟨⟨hf,t1,t2⟩,rfl,rfl,rfl⟩
 new h hf:=Cv h hf.inv t1 t2
 of h hf hT A6 hl:=LO (LJ t1 t2) h hf (.inl ⟨⟨hf,t1,t2⟩,rfl,rfl,rfl⟩) (NO _).onBelow hT A6 hl
theorem ii:JR (jH 1 eZ):=La vi (enters_of func234 k_ rfl) fun h hB hN=>K8 h hB hN
theorem LF:JR (jH 2 Rb):=La ot (enters_of func235 k_ rfl) fun h hB hN=>Nw h hB hN
theorem Tr.ofN_nodes:∀t:Tr,wl t.h_=eB t.its
 | .nil=>rfl
 | .node l d m r=>by
  show wl (h_ l++(d,nd l d m r)::h_ r)=eB (l.its++d::r.its)
  rw[iX,mx,<-ofN_nodes l,<-ofN_nodes r];simp[wl,nd]
theorem Kj(l:List It):(eB l).length=3*l.length:=by
 induction l with
 | nil=>rfl
 | cons d r ih=>rw[mx];simp only[aj,ih];omega
section
variable {X:Nat->Prop}{w W:World}{ps pm px:Nat}{S:St}{o:Nat->Nat}{Y:Nat->Prop}{t:Tr}
end
theorem Kw {S:St}{o:Nat->Nat}(hf:Fw S o){l:List Nat}(hd:l.Nodup)(hs:∀x∈l,i_ S x≠none):l.length<=S.t.p_.length:=by
 have:=hd.length_le_of_subset (l₂:=S.all) fun x hx=>(hf.mem_all x).2 (hs x hx);rw[Kc] at this;exact aG this hf.live_le
def Ki(K:jo):Prop:=∀{w:World} {pm px ps lim f9:Nat} {S:St} {o:Nat->Nat} {Y:Nat->Prop} {L:List Pr} {R:List Nat},Ig w ps S Y->K.Hold S o f9 L R->L.length<=98->Ic w pm px ps lim->K.On w px ps f9->
 Ct 36 #[PV pm] w fun e w'=>∃v,e=.returned v/\FE w' w.1.size v R/\D_ w w'
theorem Lc {l_:Nat}(hk:l_=1\/l_=2)(Ok:Tr->Prop):Ki (jH l_ Ok):=by
 intro w pm px ps lim f9 S o Y L R h hH hl hM hT;obtain⟨t,hB,rfl,rfl,rfl⟩:=hH;rw[jT] at hl;rw[<-Tr.ofN_nodes];exact LN h hB.fit hM hT hk hB.at' (by rw[nodes_len];exact hB.A6) (by rw[nodes_len];omega)
theorem Nh {t:Nat}(t1:2<=t)(t2:t<=16):Ki (mS t):=by
 intro w pm px ps lim f9 S o Y L R h hH hl hM hT
 rcases hH with⟨h0,rfl,rfl,rfl⟩ | ⟨d,x,hx,rfl,rfl,rfl⟩
 ·exact Nq h h0.fit hM hT t1 t2
 ·rw[jT] at hl;exact Np h hx hM hT o_
def Kh(K:jo):Prop:=∀{S:St} {o:Nat->Nat} {f9:Nat} {L:List Pr} {R:List Nat},K.Hold S o f9 L R->R.Nodup
theorem Lb(l_:Nat)(Ok:Tr->Prop):Kh (jH l_ Ok):=by
 rintro S o f9 L R ⟨t,hB,rfl,rfl,rfl⟩;exact hB.nd
theorem Ng(t:Nat):Kh (mS t):=by
 rintro S o f9 L R (⟨_,_,_,rfl⟩ | ⟨d,x,hx,_,_,rfl⟩)
 ·exact da
 ·exact aD.2 ⟨hx.h_,hx.texts,fun a ha b hb e=>hx.apart a ha (e▸hb)⟩
theorem M9(hins:∀d,j4 d)(l_ t:Int)(h:l_=1\/l_=2\/l_=3/\2<=t/\t<=16):∃K,yB l_ t K/\JR K/\Ki K/\Kh K:=by
 rcases h with rfl | rfl | ⟨rfl,q1,q2⟩
 ·exact⟨_,Lx vi (NK vi va) va.nil ii t,ii,Lc (.inl rfl) _,Lb _ _⟩
 ·exact⟨_,Lx ot (NK ot oq) oq.nil LF t,LF,Lc (.inr rfl) _,Lb _ _⟩
 ·obtain⟨n,rfl⟩:∃n:Nat,t=n:=⟨t.toNat,o_⟩;exact⟨_,M7 (NQ hins n) o_ o_,LJ o_ o_,Nh o_ o_,Ng _⟩
structure JP (S0 S:St) (R:List Nat):Prop where
 just:∀y,i_ S y≠none->y∈R\/i_ S0 y≠none
 A_:∀y,i_ S0 y≠none->y∉R/\i_ S y=i_ S0 y
 most:S.t.most=S0.t.most
theorem JP.put {S0 S S3:St}{R R3:List Nat}(h:JP S0 S R)(hm:S3.t.most=S.t.most)(h1:∀y∈R3,y∈R\/i_ S y=none)(h2:∀y,i_ S3 y≠none->y∈R3\/i_ S y≠none/\y∉R)(h3:∀y,y∉R->i_ S y≠none->i_ S3 y=i_ S y):JP S0 S3 R3 where
 just y hy:=(h2 y hy).imp id fun q=>(h.just y q.1).resolve_left q.2
 A_ y hy:=by
  obtain⟨k1,k2⟩:=h.A_ y hy;have hn:i_ S y≠none:=by rw[k2];exact hy
  exact⟨fun hm=>(h1 y hm).elim k1 hn,(h3 y k1 hn).T k2⟩
 most:=hm.T h.most
section
variable {P:List (List UInt8×List UInt8)->Prop}{K:jo}{w w3 W:World}{ps pm px f9:Nat}{S S0:St}{o:Nat->Nat}{X Y:Nat->Prop}{L:List (List UInt8×List UInt8)}{R:List Nat}
theorem fi.belowB(ok:dU K){A6:Nat}(h:fi K w W ps pm px A6 f9 S Y L){W':World}(hb:D_ W W'):fi K w W' ps pm px A6 f9 S Y L:=
 ⟨h.st.a_ hb,h.hold,ok.onBelow h.on hb,h.map.a_ hb,b_ h.bl hb,h.own,h.yx,h.ym,h.lx,h.lm,h.ne⟩
theorem NR {l_ t:Int}{T:Prop}(hk:yA l_ t K T)(bs:dU K)(h:Ig W ps S Y)(hf:Fw S o)(hb:D_ w W)(hown:∀k,k<w.1.size->Y k)(A6:Nat)(hl:A6<=1000):
 Ct 52 #[PV ps,Xi l_,Xi t,Xi A6] W fun e w'=>∃(pm px:Nat) (Z:Nat->Prop),e=.returned (.tuple #[PV pm,Xi 0])/\fi K w w' ps pm px A6 0 S Z []/\(∀k,Y k->Z k)/\D_ W w'/\W.1.size<=px/\W.1.size<=pm:=by
 refine(CR h l_ t A6 K bs.onLt bs.onBelow (hk.new h hf) fun V px hV hT=>hk.of hV hf hT A6 hl).M ?_;rintro e w' ⟨pm,px,rfl,hM,hT,ad,lm,lx,ne⟩;exact⟨pm,px,fun k=>Y k\/(W.1.size<=k/\k<w'.1.size),rfl,⟨h.wide ad,⟨o,[],hk.zero hf⟩,hT,hM,b_ hb ad,fun k hk=>ab (hown k hk),ae ⟨lx,bs.onLt hT⟩,ae ⟨lm,(gl hM)⟩,aG hb.size lx,aG hb.size lm,ne⟩,fun k hk=>ab hk,ad,lx,lm⟩
theorem Kb.putR {p q:Nat}(ok:dT K P)(h:Kb K X w w3 W ps pm px f9 S Y L)(hH:K.Hold S o f9 L R)(hB:JP S0 S R)(hs:fc S (20+p) (9+q))(a b:List UInt8)(ha:a.length<=1000)(hb:b.length<=1000)(hc:L.length<98)(hP:P L):
 Ct 24 #[PV pm,SV a,SV b] W fun e w'=>e=.returned (.tuple #[SV ((Bt.getL L a).getD []),.bool (Bt.getL L a).isSome,Xi 0])/\∃x S3 o3 R3,Kb K X w w3 w' ps pm px x S3 Y (gV L a b)/\K.Hold S3 o3 x (gV L a b) R3/\JP S0 S3 R3/\fc S3 p q:=by
 refine CS h.m.map a b _ _ ha hb ((ok.put h.m.st hH hc h.m.on h.m.yx hP a b ha hb (hs.M o_ o_)).M ?_);rintro e w' ⟨x,S3,rfl,k1,k2,k3,k4⟩;obtain⟨o3,R3,k5,k6,k7⟩:=k4.holds;exact⟨rfl,x,S3,o3,R3,⟨⟨k1,⟨o3,R3,k5⟩,k3,(k2.block pm ⟨h.m.ym,h.m.ne⟩).T h.m.map,h.m.bl.T (Fo.a_ (k2.M fun k hk=>⟨h.m.own k hk,fun q=>by have:=h.m.lx;omega⟩)),h.m.own,h.m.yx,h.m.ym,h.m.lx,h.m.lm,h.m.ne⟩,h.x,h.kp.T (k2.M fun k hk=>h.x k hk)⟩,k5,hB.put k4.grew.most k6 k7 k4.apart,fc.grew hs k4.grew⟩
theorem Nt {l_ t:Int}(hk:yB l_ t K)(h:Ig W ps S X)(hf:Fw S o)(hb:D_ w W)(hown:∀k,k<w.1.size->X k){v:Value}{l:List (List UInt8×List UInt8)}(hv:PRow W v l)(hvw:∀V,Fo X W V->PRow V v l)(hn:l.length<=40)(hl:pK l){p q:Nat}(hsp:fc S (20*l.length+p) (9*l.length+q)):
 Ct 30 #[PV ps,Xi l_,Xi t,v] W fun e w'=>∃pm:Nat,e=.returned (PV pm)/\W.1.size<=pm/\∃px f9 S' o' Y R,W.1.size<=px/\Kb K X w W w' ps pm px f9 S' Y (im l)/\K.Hold S' o' f9 (im l) R/\JP S S' R/\fc S' p q:=by
 have ai:∀k,X k->k<W.1.size:=h.yl;refine(LR hv o_ (fun pm i w'=>W.1.size<=pm/\∃px f9 S' o' Y R,W.1.size<=px/\Kb K X w W w' ps pm px f9 S' Y (im (l.take i))/\K.Hold S' o' f9 (im (l.take i)) R/\JP S S' R/\fc S' (20*(l.length-i)+p) (9*(l.length-i)+q)) ?_ ?_ ?_ ?_).M ?_
 ·refine(NR hk hk.ok.todU h hf hb hown 1000 o_).M ?_;rintro e w' ⟨pm,px,Z,rfl,h1,hz,h2,h3,h4⟩;exact⟨pm,rfl,h4,px,0,S,o,Z,[],h3,⟨h1,fun k hk=>⟨hz k hk,by have:=ai k hk;omega⟩,Fo.v_ h2 ai⟩,hk.zero hf,⟨fun y hy=>ae hy,fun y _=>⟨bT,rfl⟩,rfl⟩,hsp⟩
 ·rintro pm i V ⟨_,px,f9,S',o',Y',R,_,h1,_⟩;exact hvw V h1.kp
 ·rintro pm i V ⟨h0,px,f9,S',o',Y',R,hp,h1,h2⟩;exact⟨h0,px,f9,S',o',Y',R,hp,⟨h1.m.belowB hk.ok.todU (aa _ _).drew,h1.x,h1.kp.T (Fo.v_ (aa _ _).drew fun k hk=>h1.m.st.yl k (h1.x k hk).1)⟩,h2⟩
 ·rintro pm i V hi ⟨h0,px,f9,S',o',Y',R,hp,h1,h2,h3,h4⟩;have ad:=hl l[i] (aq hi);have an:=wt (l.take i);rw[aM] at an;refine(h1.putR (p:=20*(l.length-(i+1))+p) (q:=9*(l.length-(i+1))+q) hk.ok h2 h3 (h4.M o_ o_) l[i].1 l[i].2 ad.1 ad.2 o_ trivial).M ?_;rintro e w' ⟨rfl,x,S3,o3,R3,h5,h6⟩;have e:gV (im (l.take i)) l[i].1 l[i].2=im (l.take (i+1)):=by rw[xB hi,DF]
  rw[e] at h5 h6;exact⟨_,_,0,rfl,h0,px,x,S3,o3,Y',R3,hp,h5,h6⟩
 ·rintro e w' ⟨pm,rfl,h0,px,f9,S',o',Y',R,hp,h1,h2,h3,h4⟩;rw[ct] at h1 h2;exact⟨pm,rfl,h0,px,f9,S',o',Y',R,hp,h1,h2,h3,h4.M o_ o_⟩
theorem Nf(h:Ig W ps S Y)(hf:Fw S o)(n:Int){p q:Nat}(hsp:fc S (64+p) (1+q)):
 Ct 31 #[PV ps,Xi n] W fun e w'=>∃(hh:Nat) (b:Bool) (S':St) (o':Nat->Nat),e=.returned (.tuple #[Xu hh,Xi (if b=true then 0 else 2:Nat)])/\Ig w' ps S' Y/\Fw S' o'/\Fo Y W w'/\fc S' p q/\S'.t.most=S.t.most/\(b=false->S'=S)/\(b=true->i_ S hh=none/\i_ S' hh≠none/\∀y,y≠hh->i_ S' y=i_ S y)/\(0<=n->n<=3998->b=true):=by
 by_cases hn:n<0\/3998<n
 ·refine(Nz h n hn).M ?_;rintro e w' ⟨rfl,hb⟩;exact⟨0,false,S,o,rfl,h.a_ hb,hf,h.A_ hb,hsp.M o_ o_,rfl,fun _=>rfl,fun e=>(nomatch e),fun _ _=>by omega⟩
 ·obtain⟨m,rfl⟩:∃m:Nat,n=m:=⟨n.toNat,o_⟩;have hm:m<=3998:=o_
  have ai:fa (m+2)<=64:=by
   unfold fa;rw[if_neg o_]
   split<;>omega
  obtain⟨hh,S',o',ws,e,f',r0,_,r1,r2,hg,ho⟩:=oz hf hm (hsp.M o_ o_);have ad:=sH h m hm ho;rw[e] at ad;refine ad.M ?_;rintro e w' ⟨rfl,h1,h2⟩;exact⟨hh,true,S',o',rfl,h1,f',h2,fc.grew hsp (hg.M ai Ih),hg.most,fun e=>(nomatch e),fun _=>⟨r0,by rw[r1];simp,r2⟩,fun _ _=>rfl⟩
end
structure JU (S4 S:St) (lr:List Nat):Prop where
 same:∀y,i_ S4 y≠none->i_ S y=i_ S4 y
 just:∀y,i_ S y≠none->i_ S4 y≠none\/y∈lr
 has:∀y∈lr,i_ S y≠none/\i_ S4 y=none
 nd:lr.Nodup
 most:S.t.most=S4.t.most
theorem JU.refl(S:St):JU S S []:=⟨fun _ _=>rfl,fun _ hy=>ab hy,fun _ hy=>(nomatch hy),da,rfl⟩
theorem JU.add {S4 S S':St}{lr:List Nat}{hh:Nat}(h:JU S4 S lr)(r:i_ S hh=none/\i_ S' hh≠none/\∀y,y≠hh->i_ S' y=i_ S y)(hm:S'.t.most=S.t.most):JU S4 S' (lr++[hh]):=by
 obtain⟨r0,r1,r2⟩:=r;have ad:∀y,i_ S y≠none->y≠hh:=fun y hy e=>hy (e▸r0);refine⟨fun y hy=>?_,fun y hy=>?_,fun y hy=>?_,?_,hm.T h.most⟩
 ·have e:=h.same y hy;exact(r2 y (ad y (by rw[e];exact hy))).T e
 ·by_cases e:y=hh
  ·subst e;exact ae s_
  ·rw[r2 y e] at hy;exact(h.just y hy).imp id (aB _)
 ·rcases ao.1 hy with hy | hy
  ·obtain⟨q1,q2⟩:=h.has y hy;exact⟨by rw[r2 y (ad y q1)];exact q1,q2⟩
  ·rw[aH] at hy;subst hy;refine⟨r1,Classical.byContradiction fun q=>?_⟩;have e:=h.same _ q;rw[r0] at e;exact q e.S
 ·refine aD.2 ⟨h.nd,s_,fun a ha b hb=>?_⟩;rw[aH] at hb;subst hb;exact ad a (h.has a ha).1
structure rs (ps B:Nat) (S4:St) (X:Nat->Prop) (w4:World) (p q:Nat) (v:Value) (l lr:List Nat) (W:World) (S:St) (o:Nat->Nat):Prop where
 st:Ig W ps S (fun k=>X k\/v.ownBlock=some k)
 fit:Fw S o
 kp:Fo X w4 W
 own:FE W B v l
 lo:fy<B/\B<=W.1.size
 off:∀k,X k->k<B
 rc:JU S4 S lr
 sp:fc S p q
theorem rs.start {ps:Nat}{S4:St}{o:Nat->Nat}{X:Nat->Prop}{w4:World}{p q:Nat}(h:Ig w4 ps S4 X)(hf:Fw S4 o)(ht:fy<w4.1.size)(hsp:fc S4 p q):rs ps w4.1.size S4 X w4 p q n_ [] [] w4 S4 o where
 st:=h.M fun _ hk=>hk.elim id fun e=>nomatch e
 fit:=hf
 kp:=Fo.refl _ _
 own:=World.ownsRow_nil _ _ _ _
 lo:=⟨ht,Nat.le_refl _⟩
 off:=h.yl
 rc:=JU.refl _
 sp:=hsp
theorem rs.make {ps B:Nat}{S4 S:St}{o:Nat->Nat}{X:Nat->Prop}{w4 W:World}{p q:Nat}{v:Value}{l:List Nat}(h:rs ps B S4 X w4 (64+p) (1+q) v l l W S o)(n:Int):
 Ct 31 #[PV ps,Xi n] W fun e w'=>∃(hh:Nat) (S':St) (o':Nat->Nat),e=.returned (.tuple #[Xu hh,Xi 0])/\rs ps B S4 X w4 p q v l (l++[hh]) w' S' o'\/e=.returned (.tuple #[Xu hh,Xi 2])/\rs ps B S4 X w4 p q v l l w' S' o':=by
 refine(Nf h.st h.fit n h.sp).M ?_;rintro e w' ⟨hh,b,S',o',rfl,h1,h2,h3,h4,hm,h5,h6,_⟩;have ad:=h.kp.T (h3.M fun k hk=>ab hk);have an:=h.own.at fun g e=>h3.block g (ae e);have ai:fy<B/\B<=w'.1.size:=⟨h.lo.1,aG h.lo.2 h3.size⟩;refine⟨hh,S',o',?_⟩
 cases b with
 | false=>
  have hS:=h5 rfl;subst hS;exact ae ⟨rfl,h1,h2,ad,an,ai,h.off,h.rc,h4⟩
 | true=>exact ab ⟨rfl,h1,h2,ad,an,ai,h.off,h.rc.add (h6 rfl) hm,h4⟩
theorem rs.append {ps B x:Nat}{S4 S:St}{o:Nat->Nat}{X:Nat->Prop}{w4 W w2:World}{p q:Nat}{v v2:Value}{l lr:List Nat}(h:rs ps B S4 X w4 p q v l lr W S o)(ho2:FE w2 B v2 (l++[x]))(hg:W.grownBy w2 v.ownBlock)(hv:v2.ownBlock=v.ownBlock\/∃g,v2.ownBlock=some g/\W.1.size<=g):rs ps B S4 X w4 p q v2 (l++[x]) lr w2 S o where
 st:=h.st.row h.lo.1 h.own ho2 hg hv
 fit:=h.fit
 kp:=h.kp.T ⟨hg.os,hg.tape,hg.output,hg.size,fun k hk=>hg.block k (h.st.yl k (ab hk)) fun e=>by
  have:=(h.own.ge k e.S).1;have:=h.off k hk;omega⟩
 own:=ho2
 lo:=⟨h.lo.1,aG h.lo.2 hg.size⟩
 off:=h.off
 rc:=h.rc
 sp:=h.sp
structure Ha (w:World) (ps:Nat) (m:Nat×Nat×List Nat):Prop where
 st:∀W,D_ w W->Ct 70 #[PV m.1] W fun e w'=>e=.returned (PV m.2.1)/\W=w'
 of:m.2.1=ps->∀W,D_ w W->Ct 36 #[PV m.1] W fun e w'=>∃v,e=.returned v/\FE w' W.1.size v m.2.2/\D_ W w'
 own:∃cs ty,w.1[m.2.1]?=some (.cells cs ty (0,0))
 hlt:∀x∈m.2.2,x<2^64
theorem Ha.a_ {w W:World}{ps:Nat}{m:Nat×Nat×List Nat}(h:Ha w ps m)(hb:D_ w W):Ha W ps m where
 st V hV:=h.st V (b_ hb hV)
 of e V hV:=h.of e V (b_ hb hV)
 own:=by
  obtain⟨cs,ty,e⟩:=h.own;exact⟨cs,ty,(hb.block _ (gl e)).T e⟩
 hlt:=h.hlt
theorem Ha.ok {w:World}{ps bm:Nat}{ms:List (Nat×Nat×List Nat)}(h:∀m∈ms,Ha w ps m){ty:TypeId}(hc:w.1[bm]?=some (.cells (ms.map fun m=>PV m.1).toArray ty))(hl:(e9 ps ms).length<=10000/\ms.length<=1000):JM w ps bm ms where
 cell i hi:=by
  rw[r_ hc];simp[hi]
 lt:=(gl hc)
 st m hm:=(h m hm).st
 of m hm:=(h m hm).of
 own m hm:=(h m hm).own
 hlt m hm:=(h m hm).hlt
 len:=hl
theorem Ha.mk' {P:List (List UInt8×List UInt8)->Prop}{K:jo}(ok:dT K P)(hO:Ki K){w:World}{ps pm px f9 lim:Nat}{S:St}{o:Nat->Nat}{Y:Nat->Prop}{L:List Pr}{R:List Nat}(st:Ig w ps S Y)(hH:K.Hold S o f9 L R)(hl:L.length<=98)(hM:Ic w pm px ps lim)(hT:K.On w px ps f9):Ha w ps (pm,ps,R) where
 st W hW:=IQ (hM.a_ hW)
 of _ W hW:=hO (st.a_ hW) hH hl (hM.a_ hW) (ok.onBelow hT hW)
 own:=by
  obtain⟨_,_,_,_,_,hI⟩:=st;exact⟨_,_,hI.hd⟩
 hlt x hx:=by
  obtain⟨ws,hw⟩:=dG.1 (ok.has hH x hx);exact(fL (ok.fit hH) hw).2.1
theorem MX {P:List (List UInt8×List UInt8)->Prop}{K:jo}(ok:dT K P)(hd:Kh K){S:St}{o:Nat->Nat}{f9:Nat}{L:List Pr}{R:List Nat}(h:K.Hold S o f9 L R):R.length<=S.t.p_.length:=Kw (ok.fit h) (hd h) (ok.has h)
theorem KE(ps pm:Nat)(R:List Nat):e9 ps [(pm,ps,R)]=R:=by simp[e9]
theorem LL(ks a b:List Nat):mn ks (a++b)=mn ks a++mn ks b:=List.filter_append ..
theorem Nm {ks l:List Nat}{i:Nat}(hi:i<l.length)(hn:l[i]∉ks):(mn ks l)[(mn ks (l.take i)).length]?=some l[i]:=by
 have e:l=l.take i++l[i]::l.drop (i+1):=by rw[List.getElem_cons_drop,aS]
 have e2:mn ks l=mn ks (l.take i)++l[i]::mn ks (l.drop (i+1)):=by
  conv=>lhs;rw[e]
  rw[LL]
  congr 1
  exact dN (by simpa using hn)
 rw[e2,dC Ih,Nat.sub_self]
 rfl
theorem Nn {S:St}{o:Nat->Nat}(hf:Fw S o){R l:List Nat}(h1:∀y,i_ S y≠none->y∈R\/y∈l)(h2:∀y∈l,i_ S y≠none/\y∉R)(hd:l.Nodup):(mn R S.all).Perm l:=by
 refine(List.perm_ext_iff_of_nodup (hf.all_nodup.filter _) hd).2 fun a=>?_
 show a∈mn R S.all↔_
 rw[show a∈mn R S.all↔a∈S.all/\a∉R by simp[mn],hf.mem_all];exact⟨fun q=>(h1 a q.1).resolve_left q.2,h2 a⟩
theorem Nu {q n l:Nat}{o:Nat->Nat}(hf:Fw ⟨⟨q,[]⟩,⟨n,l,[]⟩⟩ o)(y:Nat):i_ ⟨⟨q,[]⟩,⟨n,l,[]⟩⟩ y=none:=by
 cases h:i_ ⟨⟨q,[]⟩,⟨n,l,[]⟩⟩ y with
 | none=>rfl
 | some ws=>
  obtain⟨k,x,h1,_⟩:=(gT hf.tab).1 h
  simp at h1
def L0(w:World)(v:Value)(l:List Int):Prop:=∃A c,v=.slice A l.length c/\∀(i:Nat) (h:i<l.length),∃g o,A=some (x_ g o)/\w.cell? ⟨g,o+i,none⟩=some (Xi l[i])
section
variable {w:World}{ps bm cm pm px:Nat}{S:St}{o:Nat->Nat}{Y:Nat->Prop}{R:List Nat}{ty:TypeId}
theorem Ha.ok1(mi:Ha w ps (pm,ps,R))(hc:w.1[bm]?=some (.cells #[PV pm] ty))(hl:R.length<=10000):JM w ps bm [(pm,ps,R)]:=Ha.ok (fun x hx=>by
 rw[aH] at hx;subst hx;exact mi) hc ⟨by rw[KE];exact hl,s_⟩
theorem NN(h:Ig w ps S Y)(hf:Fw S o)(mi:Ha w ps (pm,ps,R))(hc:w.1[bm]?=some (.cells #[PV pm] ty))(hl:R.length<=10000):
 Ct 32 #[PV ps,.slice (some (y_ bm)) 1 cm,n_] w fun e w'=>∃v,e=.returned v/\FE w' w.1.size v (mn R S.all)/\D_ w w':=by
 have:=LT (cm:=cm) h hf (mi.ok1 hc hl);rwa[KE] at this
theorem BB(h:Ig w ps S Y)(hf:Fw S o)(mi:Ha w ps (pm,ps,R))(hc:w.1[bm]?=some (.cells #[PV pm] ty))(hl:R.length<=10000)(hM:Ic w pm px ps 1000)
 (hck:∀W,D_ w W->Cb 56 #[PV px] W (Xi 0)) {r:Nat}
 (hr:(r=0/\(∀x∈S.all,R.count x=1)/\∀x∈R,x∈S.all)\/(r=8/\∃x∈S.all,R.count x≠1)):
 Cb 34 #[PV ps,.slice (some (y_ bm)) 1 cm,n_] w (Xi r):=by
 refine KO (cm:=cm) h hf (mi.ok1 hc hl) (fun m hm=>by rw[aH] at hm;subst hm;rfl) (fun m hm=>by
  rw[aH] at hm;subst hm;exact⟨px,fun V hV=>Gh (hM.a_ hV),hck⟩) ?_
 rw[KE];exact hr
end
theorem PRow.at2 {W W':World}{b n c:Nat}{l:List (List UInt8×List UInt8)}(h:PRow W (.slice (some (y_ b)) n c) l)(e:W'.1[b]?=W.1[b]?):PRow W' (.slice (some (y_ b)) n c) l:=by
 obtain⟨A,c',e1,hc⟩:=h;refine⟨A,c',e1,fun i hi=>?_⟩;obtain⟨g,o,e4,k0,k1⟩:=hc i hi
 injection e1 with q1 q2 q3
 rw[<-q1] at e4
 injection e4 with e4
 injection e4 with e5 e6
 subst e5 e6;exact⟨_,_,q1.S,(xA e).T k0,(xA e).T k1⟩
theorem NP {w:World}(ht:gA w):
 Cb 29 #[] w (.bool true):=by
 have bt:=xp ht 262144 1000 4294967295 o_ o_ o_;have ba:=ux 262144 1000 4294967295 o_ o_ o_;obtain⟨L,hL⟩:∃L:List (List UInt8×List UInt8),[([97],[]),([98],[]),([99],[])]=L:=⟨_,rfl⟩;have ar:(im L).length=3:=by subst hL;decide
 have an:pK L:=by
  subst hL;intro p hp;simp only[ah,bT,or_false] at hp
  rcases hp with rfl | rfl | rfl<;>decide
 have bb:L.length=3:=by subst hL;rfl
 have hk:yB 1 0 (jH 1 eZ):=Lx vi (NK vi va) va.nil ii 0;have HG:=kq7 bt ba ar an bb hk hL;clear bt ba ar an bb hk hL ht;go_enter func29,ntmps29;go_wp2_with fail;refine HG.a.M ?_;rintro e w1 ⟨ps,rfl,bs,a4⟩;have B2:=c_ w1 (.cells #[SV [97],SV [],SV [98],SV [],SV [99],SV []] 40);have r2:PRow (w1.alloc (.cells #[SV [97],SV [],SV [98],SV [],SV [99],SV []] 40)) (.slice (some (y_ w1.1.size)) 3 3) L:=HG.g▸PRow.new w1 [([97],[]),([98],[]),([99],[])] 40;have b1:Ig (w1.alloc (.cells #[SV [97],SV [],SV [98],SV [],SV [99],SV []] 40)) ps ⟨⟨262144,[]⟩,⟨1000,4294967295,[]⟩⟩ (fun k=>k<w.1.size\/k=w1.1.size):=(bs.wide B2).M fun k hk=>hk.imp id fun e=>by subst e;exact⟨Nat.le_refl _,s_⟩
 have bo:=Nt (w:=w) HG.f b1 HG.b (b_ a4 B2) (fun k hk=>ab hk) r2 (fun V hV=>r2.at2 (hV.block _ (ae rfl))) (by have:=HG.e;omega) HG.d (p:=64) (q:=1) (by rw[HG.e];exact⟨d_,d_⟩);have H1:=If bo;clear bo r2 b1 B2 bs a4;go_wp2_with fail;refine H1.O.M ?_;rintro e w3 ⟨pm,rfl,_,px,f9,S,o,Y,R,_,hX,hH,hB,bu⟩;have ok:=HG.f.ok;have a8:R.length=9:=by
  obtain⟨t,_,_,e1,rfl⟩:=id hH;have:=congrArg List.length e1;rw[jT,HG.c] at this;rw[Kj,<-this]
 have ar:=HG.c;have mi:=Ha.mk' ok (Lc (.inl rfl) _) hX.m.st hH o_ hX.m.map hX.m.on;have ap:=fun(V:World) (hV:D_ w3 V)=>(ii (hX.m.st.a_ hV) hH o_ (ok.onBelow hX.m.on hV)).1;have bj:=Lb _ _ hH;have ai:∀y,i_ S y≠none->y∈R:=fun y hy=>(hB.just y hy).resolve_right fun q=>q (Nu HG.b y);have a7:(∀x∈S.all,R.count x=1)/\∀x∈R,x∈S.all:=⟨fun x hx=>by rw[bj.count,if_pos (ai x (((ok.fit hH).mem_all x).1 hx))],fun x hx=>((ok.fit hH).mem_all x).2 (ok.has hH x hx)⟩;have B4:=c_ w3 (.cells #[PV pm] 45);have a9:=BB (cm:=1) (hX.m.st.a_ B4) (ok.fit hH) (mi.a_ B4) (World.alloc_heap_new w3 (.cells #[PV pm] 45)) o_ (hX.m.map.a_ B4) (fun V hV=>ap V (b_ B4 hV)) (r:=0) (ab ⟨rfl,a7⟩);have H3:=kq7 a9 hX.m hH ai bu a8 B4;have HO:=kq2 ok ar;clear a9 hX hH ai bu a8 bj a7 B4 mi ap hB H1 ar;go_wp2_with fail;refine b8 H3.a fun w5 hb5=>?_;have B5:=b_ H3.g hb5;have bd:=Nf (H3.b.st.a_ B5) (HO.a.fit H3.c) 1 (p:=0) (q:=0) H3.e;have H5:=kq2 bd B5;clear bd hb5 B5;go_wp2_with fail;refine H5.a.M ?_;rintro e w6 ⟨hh,b,S6,o6,rfl,au,ad,a0,_,_,_,bf,b0⟩;obtain rfl:=b0 o_ o_;obtain⟨r0,r1,r2⟩:=bf rfl;have bk:∀y,i_ S y≠none->y≠hh:=fun y hy e=>hy (e▸r0);have a1:=HO.a.frame H3.c ad fun y hy=>r2 y (bk y (HO.a.has H3.c y hy));have a2:Ic w6 pm px ps 1000:=(a0.block pm H3.b.ym).T (H3.b.map.a_ H5.b);have a3:=HO.a.onKeep (HO.a.onBelow H3.b.on H5.b) a0 H3.b.yx;have mi:=Ha.mk' HO.a (Lc (.inl rfl) _) au a1 (by have:=HO.b;omega) a2 a3;have ap:=fun(V:World) (hV:D_ w6 V)=>(ii (au.a_ hV) a1 (by have:=HO.b;omega) (HO.a.onBelow a3 hV)).1;have a6:hh∉R:=fun q=>HO.a.has H3.c _ q r0;have bc:mn R S6.all=[hh]:=List.perm_singleton.1 (Nn ad (fun y hy=>by
  by_cases e:y=hh
  ·exact ae (by simp[e])
  ·rw[r2 y e] at hy;exact ab (H3.d y hy)) (fun y hy=>by
  rw[aH] at hy;subst hy;exact⟨r1,a6⟩) s_)
 have b6:D_ w w6:=(b_ H3.b.bl H5.b).T (a0.M fun k hk=>H3.b.own k hk).a_;have B7:=c_ w6 (.cells #[PV pm] 45);have an:=NN (cm:=1) (au.a_ B7) ad (mi.a_ B7) (World.alloc_heap_new w6 (.cells #[PV pm] 45)) (by have:=H3.f;omega);rw[bc] at an;have bq:∃x∈S6.all,R.count x≠1:=⟨hh,(ad.mem_all hh).2 r1,by rw[dL.2 a6];decide⟩;have H6:=kq9 an au ad mi @ap a2 bq b6 B7;clear an au ad mi ap a2 a3 a1 bq b6 B7 bc a6 bk r0 r1 r2 a0 bf b0;simp only[if_true];go_wp2_with fail;refine H6.a.M ?_;rintro e w8 ⟨v,rfl,bv,a'⟩;obtain⟨b,c,rfl,hb,hc⟩:=bv.cell_at (j:=0) s_;have hc:w8.cell? (y_ b)=some (Xu hh):=hc;have B8:=b_ H6.i a';have bm:=H6.d.of rfl _ B8;have H8:=kq3 bm B8 hc;clear bm hc a' bv hb B8;simp only[bi];go_wp2_with fail;refine H8.a.M ?_;rintro e w9 ⟨v9,rfl,bx,a5⟩;obtain⟨A9,c9,rfl⟩:=bx.E_;have h9:R.length=9:=H3.f;simp only[h9];have b2:=(a5.cell (p:=y_ b) (cell_lt H8.c)).T H8.c;have B9:=b_ H8.b a5;have BA:D_ w6 (w9.alloc (.cells #[PV pm] 45)):=B9.alloc B9.size _;have ai:=BB (cm:=1) (H6.b.a_ BA) H6.c (H6.d.a_ BA) (World.alloc_heap_new w9 (.cells #[PV pm] 45)) o_ (H6.f.a_ BA) (fun V hV=>H6.e V (b_ BA hV)) (r:=8) (ae ⟨rfl,H6.g⟩);have HF:=kq2 ai (b_ H6.h BA);clear ai a5 B9 BA bx h9;go_wp2_with fail;refine b8 HF.a fun w11 hb11=>?_;have HE:=If (b_ HF.b hb11);clear hb11;go_wp2_with fail;go_ret;exact⟨rfl,HE.O⟩
theorem qYiaf{P:Prop}(h:P:=by
 go_roundw
 case rel=>exact⟨i+1,o_,s_,HE⟩
 case measure=>simp[intOf];omega):P:=h
theorem qYiae{P:Prop}(h:P:=by
 go_enter func5,ntmps5;go_wp2_with fail;refine Jc HF.a ?_;go_wp2_with fail;refine Jc HF.b ?_;exact qYiab):P:=h
theorem qYiac{P:Prop}(h:P:=by
 go_wp2_with fail;refine b8 HY.a fun w12 hb12=>?_;have HX:=If (b_ HY.b hb12);clear hb12;go_wp2_with fail;refine b8 (HG.a _ HX.O) fun w13 hb13=>?_;have HW:=If (b_ HX.O hb13);clear hb13;go_wp2_with fail;go_ret;exact⟨rfl,HW.O⟩):P:=h
theorem qYiab{P:Prop}(h:P:=by
 go_wp2_with fail;refine b8 (HG.a _ (aa _ _)) fun w9 hb=>?_;have HB:=If hb;clear hb;go_wp2_with fail;go_ret;exact⟨rfl,HB.O⟩):P:=h
theorem qYiaa{P:Prop}(h:P:=by
 go_wp2_with fail
 go_quiet (fail)
 go_wp2_with fail;go_roundw
 case rel=>exact⟨j+1,o_,s_,by rw[HE.b],If (HE.a.T ⟨rfl,rfl,rfl,Nat.le_refl _,fun _ _=>rfl⟩)⟩
 case measure=>simp[intOf];omega):P:=h
theorem reachLost_walk(l_ t:Int){v u:Value}{l:List (List UInt8×List UInt8)}{more:List Int}{w:World}(ht:gA w)(hv:PRow w v l)(hu:L0 w u more):
 Cb 5 #[Xi l_,Xi t,v,u] w (.bool true):=by
 have b':=fun W (hW:D_ w W)=>NP (ht.of_block (hW.block _ ht.lt));have an:=Gd l_ t w;have ad:=fun hl=>Cm (w:=w) hv hl;obtain⟨A,c,rfl,hc⟩:=hv;have hv:PRow w (.slice A l.length c) l:=⟨A,c,rfl,hc⟩;obtain⟨Au,cu,rfl,hu⟩:=hu;obtain⟨n,hn⟩:=Ii l.length;obtain⟨m,hm⟩:=Ii more.length;rw[hn] at hv ad⊢;rw[hm];have HG:=kq6 b' ht hv hn hu hm;clear b' ht hv hc hu hm hn
 cases q1:FO l_ t with
 | false=>
  rw[q1] at an;have HF:=If an;clear an ad q1;go_enter func5,ntmps5;go_wp2_with fail;refine Jc HF.O ?_;exact qYiab
 | true=>
 rw[q1] at an
 by_cases k3:30<n
 ·have d9:(30<(n:Int))=True:=eq_true o_;have HF:=If an;clear an ad q1 k3;go_enter func5,ntmps5;go_wp2_with fail;refine Jc HF.O ?_;exact qYiab
 have d9:(30<(n:Int))=False:=eq_false o_;have ad:=ad o_
 cases q4:jb l with
 | true=>
  rw[q4] at ad;have HF:=kq2 an ad;clear an ad q1 k3 q4;exact qYiae
 | false=>
 rw[q4] at ad
 by_cases k5:20<m
 ·have d':(20<(m:Int))=True:=eq_true o_;have HF:=kq2 an ad;clear an ad q1 k3 q4 k5;exact qYiae
 have d':(20<(m:Int))=False:=eq_false o_;have ck:l_=1\/l_=2\/l_=3/\2<=t/\t<=16:=by unfold FO at q1;exact of_decide_eq_true q1
 obtain⟨K,hK,au,hO,cv⟩:=M9 uS l_ t ck;have ai:=xp HG.b 262144 4000 4294967295 o_ o_ o_;have cc:=ux 262144 4000 4294967295 o_ o_ o_;have dc:fc ⟨⟨262144,[]⟩,⟨4000,4294967295,[]⟩⟩ (20*30+64*20) (9*30+20):=⟨d_,d_⟩;have c':pK l:=Cl q4;have a8:l.length<=30:=by have:=HG.d;omega
 have HF:=kq7 an ad ai cc dc c' a8;have HK:=kq4 hK @au @hO @cv;clear an ad ai cc dc c' hK au hO cv ck q1 q4 a8;go_enter func5,ntmps5;go_wp2_with fail;refine Jc HF.a ?_;go_wp2_with fail;refine Jc HF.b ?_;go_wp2_with fail;refine HF.c.M ?_;rintro e w1 ⟨ps,rfl,c6,a6⟩;have cx:=Nt (w:=w) HK.a c6 HF.d a6 (fun k hk=>hk) (v:=.slice A n c) (l:=l) (HG.c.a_ a6) (fun V hV=>HG.c.a_ (a6.T hV.a_)) (by have:=HF.g;omega) HF.f (p:=64*20) (q:=20) (HF.e.M (by have:=HF.g;omega) (by have:=HF.g;omega));have H1:=If cx;clear c6 a6 cx;go_wp2_with fail;refine H1.O.M ?_;rintro e w4 ⟨pa,rfl,la,px,f9,S4,o4,Y,R,lx,hX,hH,hB,c7⟩;have b0:=rs.start hX.m.st (HK.a.ok.fit hH) (aE HG.b.lt hX.m.bl.size) c7;have H4:=kq4 hX.m hH hB b0;clear hX hH hB c7 b0 la lx H1;go_wp2_with fail
 go_loopw [12,13,14,15] (fun s12 s13 _ _ wr=>∃i:Nat,i<=m/\s13=Xi i/\Hid (∃l' S o,l'.length<=i/\rs ps w4.1.size S4 Y w4 (64*(20-i)) (20-i) s12 l' l' wr S o)) (fun _ s13 _ _ _=>m-(intOf s13).toNat)
 case atStart=>exact⟨0,o_,rfl,[],S4,o4,s_,H4.d⟩
 case round=>
  obtain⟨i,eb,rfl,I⟩:=hrel
  by_cases hi:i<m
  ·have bj:(i:Int)<m:=o_
   have cj:i<more.length:=by rw[HG.f];exact hi
   obtain⟨g,o2,rfl,bf⟩:=HG.e i cj;obtain⟨l',S,o,a1,mk⟩:=I.O;have a0:=H4.a.bl.T (mk.kp.M fun k hk=>H4.a.own k hk).a_;have bf:=(a0.cell (p:=⟨g,o2+i,none⟩) (cell_lt bf)).T bf;generalize more[i]=z at*;rw[show 64*(20-i)=64+64*(20-(i+1)) by omega,show 20-i=1+(20-(i+1)) by omega] at mk;have cp:=mk.make z;have HM:=kq2 cp a1;clear cp a1 mk I a0 cj;go_wp2_with fail;refine HM.a.M ?_;rintro e w5 ⟨hh,S',o',⟨rfl,hM⟩ | ⟨rfl,hM⟩⟩
   ·obtain⟨v2,w3,d5,cw,ch,dd⟩:=jF hM.own (by have:=HM.b;omega) hh hM.lo.2 59;have HE:Hid (∃l' S o,l'.length<=i+1/\rs ps w4.1.size S4 Y w4 (64*(20-(i+1))) (20-(i+1)) v2 l' l' w3 S o):=⟨l'++[hh],S',o',by have:=HM.b;simp;omega,hM.append cw ch dd⟩;clear cw ch dd hM HM
    go_wp2_with (at_builtin;refine Lib.wpList_append_run _ rfl _ _ _ _ rfl _ _ rfl rfl _ _ d5 ?_)
    exact qYiaf
   ·have HE:Hid (∃l' S o,l'.length<=i+1/\rs ps w4.1.size S4 Y w4 (64*(20-(i+1))) (20-(i+1)) u12 l' l' w5 S o):=⟨l',S',o',by have:=HM.b;omega,hM⟩;clear hM HM;go_wp2_with fail;exact qYiaf
  ·obtain rfl:i=m:=o_
   have bj:¬(i:Int)<i:=o_
   obtain⟨l1,S,o,a1,mk⟩:=I.O;clear I;obtain⟨wm,d7⟩:∃wm,wm=wr:=⟨_,rfl⟩;subst d7;have a2:K.Hold S o f9 (im l) R:=HK.a.ok.frame H4.b mk.fit fun y hy=>mk.rc.same y (HK.a.ok.has H4.b y hy);have bb:Ic wm pa px ps 1000:=(mk.kp.block pa H4.a.ym).T H4.a.map;have bc:=HK.a.ok.onKeep H4.a.on mk.kp H4.a.yx;have bm:(im l).length<=98:=aG (wt l) (by have:=HF.g;omega);have mi:=Ha.mk' HK.a.ok HK.c mk.st a2 bm bb bc;have cb:=fun(V:World) (hV:D_ wm V)=>(HK.b (mk.st.a_ hV) a2 bm (HK.a.ok.onBelow bc hV)).1;have b4:R.length<=4000:=by
    have h1:=MX HK.a.ok HK.d a2;have h2:=mk.fit.tab.len;have h3:S.t.most=4000:=mk.rc.most.T H4.c.most;omega
   have bt:∀y,i_ S y≠none->y∈R\/y∈l1:=fun y hy=>(mk.rc.just y hy).imp (fun q=>(H4.c.just y q).resolve_right fun q=>q (Nu HF.d y)) id;have bs:∀y∈l1,i_ S y≠none/\y∉R:=fun y hy=>⟨(mk.rc.has y hy).1,fun q=>HK.a.ok.has H4.b y q (mk.rc.has y hy).2⟩;have a':=Nn mk.fit bt bs mk.rc.nd;have ca:D_ w wm:=H4.a.bl.T (mk.kp.M fun k hk=>H4.a.own k hk).a_;have A5:=c_ wm (.cells #[PV pa] 45);have bo:=NN (cm:=1) (mk.st.a_ A5) mk.fit (mi.a_ A5) (World.alloc_heap_new wm (.cells #[PV pa] 45)) o_;have c5:FE (wm.alloc (.cells #[PV pa] 45)) w4.1.size u12 l1:=mk.own.alloc _;obtain⟨Ao,co,rfl⟩:=mk.own.E_;obtain⟨lo,ad⟩:=Ii (mn R S.all);rw[ad] at bo a';obtain⟨n1,a9⟩:=Ii l1.length;have cq:lo.length=n1:=a'.length_eq.T a9;have ed:n1<=20:=o_
   have HA:=kq7 mk.st mk.fit @mi @cb b4 a' ad;have HN:=kq6 a9 cq bt bs a2 bb;have H5:=kq4 bo c5 ca A5;rw[a9];clear mk a2 bb bc bm mi cb b4 bt bs a' ca A5 bo c5 ad a9 cq a1;go_wp2_with fail;refine H5.a.M ?_;rintro e w8 ⟨v8,rfl,bu,bd⟩;obtain⟨A8,c8,rfl⟩:=bu.E_;rw[HN.b];have B8:=b_ H5.d bd;have b9:=KQ (HA.a.a_ B8) HA.b;have R8:=H5.b.at fun g e=>bd.block g (H5.b.ge g e).2;have H8:=kq4 b9 R8 bu B8;clear b9 R8 bu B8 bd;go_wp2_with fail;refine H8.a.M ?_;rintro e w9 ⟨v9,rfl,bv,a7⟩;obtain⟨A9,c9,rfl⟩:=bv.E_;have R9:=H8.b.at fun g e=>a7.block g (H8.b.ge g e).2;have Q9:=H8.c.at fun g e=>a7.block g (H8.c.ge g e).2;rw[HN.a] at R9;rw[HN.b] at Q9;have a8:S.all.length<=65536:=by rw[Kc];exact aG HA.b.live_le (aG HA.b.tab.len HA.b.tab.most.2)
   have B9:=b_ H8.d a7;have Z9:=bv;obtain⟨na,bq⟩:=Ii S.all.length;rw[bq] at Z9 a8⊢;have H9:=kq5 R9 Q9 Z9 B9 bq;clear R9 Q9 Z9 bv B9 a7 bq
   go_upto_block 2 with fail
   go_cut [18,19] from 80 (fun s18 _ wc=>s18=Xi n1/\Hid (D_ w9 wc))
   case first=>
    go_wp2_with fail
    go_loopw [18,19] (fun s18 s19 wq=>∃j:Nat,j<=na/\s19=Xi j/\s18=Xi ((mn R (S.all.take j)).length:Nat)/\Hid (D_ w9 wq)) (fun _ s19 _=>na-(intOf s19).toNat)
    case atStart=>exact⟨0,o_,rfl,rfl,aa _ _⟩
    case round=>
     obtain⟨j,d3,rfl,rfl,J⟩:=hrel;obtain⟨wq,bx⟩:∃wq,wq=wr:=⟨_,rfl⟩;subst bx;have a1:(mn R (S.all.take j)).length<=n1:=by
      have e:mn R S.all=mn R (S.all.take j)++mn R (S.all.drop j):=by rw[<-LL,aS]
      rw[HA.g] at e;have:=congrArg List.length e;rw[ag,HN.b] at this;omega
     by_cases hja:j<na
     ·have d0:(j:Int)<na:=o_
      have ap:j<S.all.length:=by rw[H9.e];exact hja
      have a4:= @Nm R S.all j ap;have ai:=LM R S.all ap;obtain⟨kk,ar⟩:=Ii (mn R (S.all.take j)).length;rw[ar] at a1 a4⊢
      by_cases hk:kk<n1
      ·have d4:(kk:Int)<n1:=o_
       have a5:kk<lo.length:=by rw[HN.b];exact hk
       obtain⟨b1,d1,e1,_,y1⟩:=H9.c.cell_at ap;obtain⟨b2,d2,e2,_,y2⟩:=H9.b.cell_at a5
       injection e1 with e1 e4 e5
       injection e2 with e2 e6 e7
       subst e1 e2;have x1:=(J.O.cell (p:=x_ b1 j) (cell_lt y1)).T y1;have x2:=(J.O.cell (p:=x_ b2 kk) (cell_lt y2)).T y2;clear y1 y2;have au:∀z∈lo,z∉R:=fun z hz=>by
        rw[<-HA.g] at hz
        simpa[mn] using(du.1 hz).2
       have au:=au _ (aq a5);have hq:S.all[j]∉R->lo[kk]=S.all[j]:=fun q=>by
        have:=a4 q;rw[HA.g,af a5] at this;exact Option.some.inj this
       by_cases hx:S.all[j]∈R
       ·have hz:¬S.all[j]=lo[kk]:=fun e=>au (e▸hx);have a3:(mn R (S.all.take (j+1))).length=kk:=by rw[ai,if_pos hx,ar]
        generalize S.all[j]=za at*;generalize lo[kk]=zb at*;have dk:¬((za:Int)=(zb:Int)):=o_
        have HE:=kq2 J.O a3;clear e4 e5 e6 e7 a4 ai au hq hx ar a3 J ap a5;exact qYiaa
       ·have hz:=hq hx;have a3:(mn R (S.all.take (j+1))).length=kk+1:=by rw[ai,if_neg hx,ag,ar];rfl
        rw[hz] at x2;generalize S.all[j]=za at*;have HE:=kq2 J.O a3;clear e4 e5 e6 e7 a4 ai au hq hx ar a3 hz J ap a5;go_wp2_with fail
        go_quiet (fail)
        go_wp2_with fail;go_roundw
        case rel=>exact⟨j+1,o_,s_,by rw[HE.b];simp,If (HE.a.T ⟨rfl,rfl,rfl,Nat.le_refl _,fun _ _=>rfl⟩)⟩
        case measure=>simp[intOf];omega
      ·obtain rfl:kk=n1:=o_
       have d4:¬(kk:Int)<kk:=o_
       clear a4 ai ar ap;go_wp2_with fail
       go_meet
       exact⟨rfl,J⟩
     ·obtain rfl:j=na:=o_
      have d0:¬(j:Int)<j:=o_
      have ar:(mn R (S.all.take j)).length=n1:=by
       rw[aN (by rw[H9.e];exact Nat.le_refl _),HA.g];exact HN.b
      rw[ar];clear ar a1;go_wp2_with fail
      go_meet
      exact⟨rfl,J⟩
   case rest=>
    obtain⟨rfl,dp⟩:=hcut;obtain⟨dn,d6⟩:∃dn,dn=wc:=⟨_,rfl⟩;subst d6;have ee:((n1:Int) !=n1)=false:=s_
    go_wp2_with fail
    go_loopw [20,21,22] (fun s20 _ _ wq=>∃i:Nat,i<=n1/\s20=Xi i/\Hid (D_ w9 wq)) (fun s20 _ _ _=>n1-(intOf s20).toNat)
    case atStart=>exact⟨0,o_,rfl,dp⟩
    case round=>
     obtain⟨i,ec,rfl,I⟩:=hrel;obtain⟨wq,bx⟩:∃wq,wq=wr:=⟨_,rfl⟩;subst bx
     by_cases hi:i<n1
     ·have bj:(i:Int)<n1:=o_
      have bk:i<l1.length:=by rw[HN.a];exact hi
      obtain⟨b1,d1,e1,_,x1⟩:=H9.a.cell_at bk
      injection e1 with e1 e4 e5
      subst e1;have cn:l1[i]∈lo:=HA.f.mem_iff.2 (aq bk);generalize l1[i]=x at*;have HX:=kq2 x1 cn;clear e4 e5 x1 cn bk;go_wp2_with fail
      go_loopw [21,22] (fun s21 s22 wz=>∃j:Nat,j<=n1/\s22=Xi j/\s21=.bool (decide (x∈lo.take j))/\Hid (D_ w9 wz)) (fun _ s22 _=>n1-(intOf s22).toNat)
      case atStart=>exact⟨0,o_,rfl,s_,I⟩
      case round=>
       obtain⟨j,d3,rfl,rfl,J⟩:=hrel;obtain⟨wz,d8⟩:∃wz,wz=wr:=⟨_,rfl⟩;subst d8
       by_cases hj:j<n1
       ·have dv:(j:Int)<n1:=o_
        have ap:j<lo.length:=by rw[HN.b];exact hj
        obtain⟨b2,d2,e2,_,x2⟩:=H9.b.cell_at ap
        injection e2 with e2 e6 e7
        subst e2;have x1:=(J.O.cell (p:=x_ b1 i) (cell_lt HX.a)).T HX.a;have x2:=(J.O.cell (p:=x_ b2 j) (cell_lt x2)).T x2;have ai:x∈lo.take (j+1)↔x∈lo.take j\/x=lo[j]:=by rw[aw ap,ao,aH]
        generalize lo[j]=z at*;clear e6 e7 ap
        by_cases hx:x∈lo.take j
        ·have HE:=kq2 J.O (decide_eq_true (ai.2 (ab hx)));rw[decide_eq_true hx];clear ai hx J;exact qYiaa
        ·rw[decide_eq_false hx]
         by_cases hz:z=x
         ·subst hz;have HE:=kq2 J.O (decide_eq_true (ai.2 (ae rfl)));clear ai hx J;exact qYiaa
         ·have dk:¬((z:Int)=(x:Int)):=o_
          have eg:((z:Int)==(x:Int))=false:=by simpa using dk
          have HE:=kq2 J.O (decide_eq_false (fun q=>(ai.1 q).elim hx fun e=>hz e.S));clear ai hx J;exact qYiaa
       ·obtain rfl:j=n1:=o_
        have dv:¬(j:Int)<j:=o_
        have ht:x∈lo.take j:=by rw[aN (by rw[HN.b];exact Nat.le_refl _)];exact HX.b
        rw[decide_eq_true ht];clear ht;go_wp2_with fail;go_roundw
        case rel=>exact⟨i+1,o_,s_,J⟩
        case measure=>simp[intOf];omega
     ·obtain rfl:i=n1:=o_
      have bj:¬(i:Int)<i:=o_
      have BZ:=b_ H9.d I.O;have BY:D_ wm (wq.alloc (.cells #[PV pa] 45)):=BZ.alloc BZ.size _;have ba:=fun(r:Nat)=>BB (cm:=1) (r:=r) (HA.a.a_ BY) HA.b (HA.c.a_ BY) (World.alloc_heap_new wq (.cells #[PV pa] 45)) (by have:=HA.e;omega) (HN.f.a_ BY) fun V hV=>HA.d V (b_ BY hV);have a0:=b_ H5.c BY
      by_cases h0:i=0
      ·have c3:=ba 0 (ab ⟨rfl,fun x hx=>by
        rcases HN.c x ((HA.b.mem_all x).1 hx) with q | q
        ·rw[(HK.d HN.e).count,if_pos q]
        ·have:=dQ q;have:=HN.a;omega,fun x hx=>(HA.b.mem_all x).2 (HK.a.ok.has HN.e x hx)⟩)
       have HY:=kq2 c3 a0;clear ba c3 a0 BY BZ I;subst h0;exact qYiac
      ·have ds:¬(i:Int)=0:=o_
       have ea:((i:Int)==0)=false:=by simpa using ds
       have c4:=ba 8 (ae ⟨rfl,l1[0]'(by have:=HN.a;omega),(HA.b.mem_all _).2 (HN.d _ (aq _)).1,by
        rw[dL.2 (HN.d _ (aq _)).2];decide⟩)
       have HY:=kq2 c4 a0;clear ba c4 a0 BY BZ I;exact qYiac