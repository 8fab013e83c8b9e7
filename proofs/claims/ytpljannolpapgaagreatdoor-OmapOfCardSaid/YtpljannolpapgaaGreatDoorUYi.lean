/- Trees of any h_ checked and listed: parts, bulk, Tree: the walks. -/
import Derived.Test.YtpljannolpapgaaGreatDoorURg
import Derived.Test.YtpljannolpapgaaGreatDoorUSa
import Derived.Test.YtpljannolpapgaaGreatDoorULu
set_option maxRecDepth 100000
set_option maxHeartbeats 25600000
namespace Go.Proofs.YtpljannolpapgaaGreatDoor
open Go.RowKit Tryz Go.BigFrame Go.Maps Go.WideMaps Lf Tr
variable{B:Nat}{S:St}{Y:Nat->Prop}{e:TypeId}{h_:Nat}{kv:Value}{n:Nat}{o:Nat->Nat}{ps:Nat}{f9:Nat}{s:Nat}{t:Nat}{ty:TypeId}{v:Value}{w:World}
theorem LG(h:Ig w ps S Y)(hi:Fv S){j c:FuncId}(hk:j6 h_ j c)(hen:∀(args:Array Value) (w:World),(callFunc c args).run prog w=.ok (.enter c args) w)(hcc:∀W,D_ w W->Ct c #[PV ps,Xu f9] W fun e w'=>e=.returned (Xi 0)/\D_ W w'):
 Cb 134 #[PV ps,Xi h_,Xu f9] w (Xi 0):=by
 have ha:=yG h hi hk;simp only[gS,eL] at ha;have HG:=kq2 ha hcc;clear ha hcc h hi hk;go_enter func134,ntmps134;go_wp2_with fail;refine e9 HG.a fun w1 hb1=>?_;have H1:=If (hb1.alloc hb1.size (.cells #[PV ps,.func (.func j) #[] #[],.func (.func c) #[] #[]] 265));clear hb1;go_wp2_with fail;refine e9 (HG.b _ H1.O) fun w2 hb2=>?_;have H2:=If (b_ H1.O hb2);clear hb2;go_wp2_with fail;go_ret;exact⟨rfl,H2.O⟩
theorem K6(h:Ig w ps S Y)(hi:Fv S)(hk:h_=1\/h_=2)(t:Int)(hc:Cb 134 #[PV ps,Xi h_,Xu f9] w (Xi 0)):
 Cb 86 #[PV ps,Xi h_,Xi t,Xu f9] w (Xi 0):=by
 have ha:=zY h hi hk t;have hq:((h_:Int)==3)=false:=m_
 have HG:=kq2 ha hc;clear ha hc h hi hk;go_enter func86,ntmps86;go_wp2_with fail;refine Jc HG.a ?_;go_wp2_with fail;refine e9 HG.b fun w2 hb2=>?_;have H2:=If hb2;clear hb2;go_wp2_with fail;go_ret;exact⟨rfl,H2.O⟩
theorem LQ{px ps h_ td f9:Nat}(hT:FF w px ps ty kv h_ td f9)(hs:∀W,D_ w W->Cb 86 #[PV ps,Xi h_,Xi td,Xu f9] W (Xi 0)):
 Cb 56 #[PV px] w (Xi 0):=by
 have hn:=kw hT;have hs:=hs _ (aa _ w).drew;obtain⟨I,an,ad⟩:=kN px ps ty kv h_ td f9;have ai:=fun x:Fq I=>an _ x.ok;simp only[FF] at ai;obtain⟨m0,m1,m2,m3,m4⟩:=iK ai;have ap:I w.drew:=ad _ hT;have HG:=kq4 hn hs hT ad;clear hn hs hT an ad ai;go_enter func56,ntmps56;go_wp2_with fail;refine Jc HG.a ?_;go_wp2_with fail;refine fh I (.take 0 (.take 1 (.take 2 (.take 3 (.take 4 (.take 5 (.take 6 (.take 7 (.take 8 (.take 9 (.take 10 (.take 11 (.take 12 (.take 13 (.take 14 (.take 15 (.go 16 (.go 17 .nil)))))))))))))))))) k_ k_ ap ?_
 iterate 16
  refine pT_ ?_
  try simp only[pu]
 refine pD fun K hK=>?_;go_simp;refine e9 HG.b fun w2 hb2=>?_;have T2:=FF.a_ (w:=w.drew) HG.c hb2;have B2:=kq2 T2 ((aa w.1.size w).drew.T hb2);clear T2 hb2
 try go_simp
 refine hK.O _ _ (HG.d _ B2.a) ?_;clear hK K
 try simp only[pu]
 refine pD fun K hK=>?_;go_simp
 try go_simp
 refine hK.O _ _ (HG.d _ B2.a) ?_;clear hK K
 try simp only[pu]
 refine eP ?_;go_wp2_with fail;go_ret;exact⟨rfl,B2.b⟩
theorem Mi{px ps h_ td f9:Nat}{L:List Pr}(hT:FF w px ps ty kv h_ td f9)(hs:∀W,D_ w W->Ct 59 #[PV ps,Xi h_,Xi td,Xu f9] W fun e w'=>∃v,e=.returned (.tuple #[v,Xi 0])/\w'.ownsRow W.1.size 40 2 v L.length (FJ L)/\D_ W w'):
 Ct 26 #[PV px] w fun e w'=>∃v,e=.returned v/\w'.ownsRow w.1.size 40 2 v L.length (FJ L)/\D_ w w':=by
 have hn:=kw hT;have hs:=hs _ (aa _ w).drew;obtain⟨I,ap,ad⟩:=kN px ps ty kv h_ td f9;have an:=fun x:Fq I=>ap _ x.ok;simp only[FF] at an;obtain⟨m0,m1,m2,m3,m4⟩:=iK an;have au:I w.drew:=ad _ hT;have HG:=kq4 hn hs hT ad;clear hn hs hT ap ad an;go_enter func26,ntmps26;go_wp2_with fail;refine Jc HG.a ?_;go_wp2_with fail;refine fh I (.take 0 (.take 1 (.take 2 (.take 3 (.take 4 (.take 5 (.take 6 (.take 7 (.take 8 (.take 9 (.take 10 (.take 11 (.take 12 (.take 13 (.take 14 (.take 15 (.go 16 (.take 17 (.take 18 (.take 19 (.go 20 (.go 21 .nil)))))))))))))))))))))) k_ k_ au ?_
 iterate 16
  refine pT_ ?_
  try simp only[pu]
 refine pD fun K hK=>?_;go_simp;refine HG.b.M ?_;rintro e w2 ⟨v,rfl,ar,ai⟩;have T2:=FF.a_ (w:=w.drew) HG.c ai;have B2:=kq3 T2 ((aa w.1.size w).drew.T ai) ar;clear T2 ai ar
 try go_simp
 refine hK.O _ _ (HG.d _ B2.a) ?_;clear hK K
 try simp only[pu]
 iterate 3
  refine pT_ ?_
  try simp only[pu]
 refine pD fun K hK=>?_;go_simp
 try go_simp
 refine hK.O _ _ (HG.d _ B2.a) ?_;clear hK K
 try simp only[pu]
 refine pD fun K hK=>?_;go_simp
 try go_simp
 refine hK.O _ _ (HG.d _ B2.a) ?_;clear hK K
 try simp only[pu]
 refine eP ?_;go_wp2_with fail;go_ret;exact⟨v,rfl,B2.c,B2.b⟩
theorem Mx{l:List Pr}(h:w.ownsRow B 40 2 v l.length (FJ l))(hl:l.length<=10000)(p:Pr)(hB:B<=w.1.size)(ty:TypeId):
 ∃v' w',(Builtin.append_ #[22,22] ty #[v,.slice (some (y_ w.1.size)) 1 1]).run prog (w.alloc (Xk p.1 p.2))=.ok v' w'/\w'.ownsRow B 40 2 v' (l++[p]).length (FJ (l++[p]))/\Below B w w':=by
 obtain⟨v',w',h1,h2,h3⟩:=F9 (w:=w.alloc (Xk p.1 p.2)) (h.alloc _) (PRow.one (heap_alloc_new w _) (c:=1)) m_ m_ ty;exact⟨v',w',h1,h2,((aa B w).alloc hB _).T h3⟩
def Mw(S:St)(ps:Nat)(h_ t:Int)(f9:Nat)(L:List It)(w:World):Prop:=
 h_=3/\(∀W,D_ w W->Ct 74 #[PV ps,Xi t,Xu f9] W fun e w'=>∃v,e=.returned v/\qj w' W.1.size v L/\D_ W w')\/
 h_≠3/\(∀W,D_ w W->Ct 75 #[PV ps,Xu f9] W fun e w'=>∃v,e=.returned v/\FE w' W.1.size v (L.map (·.h))/\D_ W w')/\∀a∈L,∃n:Nd,l_ S a.h=some (eM n)/\n.key=a.kh/\n.val=a.vh
theorem Me{B B':Nat}{xs:List Value}(h:w.ownsRow B e s v n xs)(hB:B'<=B):w.ownsRow B' e s v n xs:=⟨h.1,h.2.imp id fun⟨g,cap,cur,a,b,c⟩=>⟨g,cap,cur,a,aI hB b,c⟩⟩
theorem qj.below2{w w':World}{l:List It}(h:qj w B v l)(hb:D_ w w'):qj w' B v l:=BY h hb
theorem qYiaa{P:Prop}(h:P:=by
 go_wp2_with (at_builtin;refine Lib.wpList_append_run _ rfl _ _ _ _ rfl _ _ rfl rfl _ _ a5 ?_)
 go_roundg (n-(j+1))
 case rel=>exact⟨j+1,s_,o_,o_,HF⟩
 case measure=>omega):P:=h
theorem Mo{ps f9:Nat}{h_ t:Int}{L:List It}(h:Ig w ps S Y)(hf:Fw S o)(hk:1<=h_/\h_<=3)(hck:Cb 86 #[PV ps,Xi h_,Xi t,Xu f9] w (Xi 0))(E_:Mw S ps h_ t f9 L w)(hb:∀a∈L,gu S a)(hl:L.length<=1000):
 Ct 59 #[PV ps,Xi h_,Xi t,Xu f9] w fun e w'=>∃v,e=.returned (.tuple #[v,Xi 0])/\w'.ownsRow w.1.size 40 2 v (F5 L).length (FJ (F5 L))/\D_ w w':=by
 have a':=fun(W:World) (hW:D_ w W) (a:It) (ha:a∈L)=>And.intro (Ki (h.a_ hW) hf (hb a ha).lk (hb a ha).k) (Ki (h.a_ hW) hf (hb a ha).lv (hb a ha).v);have bc:=fun(W:World) (hW:D_ w W) {hh:Nat} {n:Nd} (hn:l_ S hh=some (eM n))=>Hb (h.a_ hW) hf hn;obtain⟨n,hn⟩:=Ii L.length;have HC:=kq4 hck a' E_ @bc;have HE:=If hn;rw[hn] at hl;clear h hf hck E_ hb a' bc hn;go_enter func59,ntmps59;go_wp2_with fail;refine e9 HC.a fun w1 hb1=>?_;have H1:=If hb1;clear hb1
 go_upto_if 32 with fail
 go_cut [11] from 13 (fun s11 wx=>Hid (qj wx w.1.size s11 L/\D_ w wx))
 case first=>
  rcases HC.c with⟨h3,a9⟩ | ⟨h3,bj,ar⟩
  ·have HB:=If a9;clear a9;have bm:(h_==3)=true:=by simp[h3]
   subst h3;go_wp2_with fail;refine(HB.O w1 H1.O).M ?_;rintro e w2 ⟨v,rfl,hv,an⟩;have H2:Hid (qj w2 w.1.size v L/\D_ w w2):=⟨Me hv H1.O.size,b_ H1.O an⟩;clear hv an;go_wp2_with fail
   go_meet
   exact H2
  ·have HW:=kq2 bj ar;clear bj ar;have bm:(h_==3)=false:=by simp[h3]
   go_wp2_with fail;refine(HW.a w1 H1.O).M ?_;rintro e w2 ⟨v,rfl,hv,an⟩;obtain⟨A,c,rfl⟩:=hv.F8;rw[ak,HE.O];have H2:=kq2 hv (b_ H1.O an);clear hv an;go_wp2_with fail
   go_loopg [11,13,14,15,41] n (fun k s11 _ _ _ s41 wr=>∃j:Nat,s41=Xi j/\j<=n/\n-j<=k/\Hid (qj wr w2.1.size s11 (L.take j)/\D_ w2 wr))
   case atStart=>exact⟨0,rfl,o_,o_,World.ownsRow_nil _ _ _ _,aa _ _⟩
   case round=>
    obtain⟨j,rfl,hj,bk,I⟩:=hrel
    by_cases hlt:j<n
    ·have a4:(j:Int)<n:=o_
     have ad:j<L.length:=by rw[HE.O];exact hlt
     have ba:D_ w wr:=b_ H2.b I.O.2;have bf:FE wr w1.1.size (.slice A (L.map (·.h)).length c) (L.map (·.h)):=H2.a.at fun g e=>I.O.2.block g (H2.a.ge g e).2;obtain⟨b,c',e,_,hc⟩:=bf.cell_at (j:=j) (by rw[ak];exact ad)
     injection e with e1 e2 e3
     subst e1;clear e2 e3;rw[bP] at hc;obtain⟨nd,ar,a2,a3⟩:=HW.b L[j] (aw ad);have a0:=HC.d wr ba ar;have ai:L.take (j+1)=L.take j++[L[j]]:=aA ad;obtain⟨d,hd⟩:=Ii L[j];rw[hd] at hc a0 ai a2 a3;obtain⟨n1,n2,n3,n4,n5,n6⟩:=nd;simp only at a2 a3;subst a2 a3;unfold eS at a0;simp only at a0;have ap:(L.take j).length<=10000:=by rw[aF];omega
     have HM:=kq5 a0 ai ap I.O.1 I.O.2;clear a0 ai ap ba bf I hd ar;go_wp2_with fail;refine e9 HM.a fun w3 hb3=>?_;have q3:(w3.alloc (Xb d.kh d.vh n3 n4 n5 n6)).1[w3.1.size]?=some (Xb d.kh d.vh n3 n4 n5 n6):=World.alloc_heap_new _ _;have B4:D_ w2 (w3.alloc (Xb d.kh d.vh n3 n4 n5 n6)):=(b_ HM.e hb3).alloc (aI HM.e.size hb3.size) _;have O4:qj (w3.alloc (Xb d.kh d.vh n3 n4 n5 n6)) w2.1.size u11 (L.take j):=(HM.d.below2 hb3).alloc _;generalize bq:w3.alloc (Xb d.kh d.vh n3 n4 n5 n6)=W4 at*;obtain⟨k0,k1,k2,k3,k4,k5⟩:=ia q3;obtain⟨v2,w5,a5,au,bb,bo⟩:=Mk O4 HM.c d B4.size 135;have HF:Hid (qj w5 w2.1.size v2 (L.take (j+1))/\D_ w2 w5):=⟨by rw[HM.b];exact au,B4.grown bb B4.size fun g e=>(World.ownsRow.lt O4 g e).1⟩;clear au bb bo q3 B4 O4 hb3;exact qYiaa
    ·obtain rfl:j=n:=o_
     have a4:¬(j:Int)<j:=o_
     have I1:=I.O.1;rw[<-HE.O,cY] at I1;have H3:Hid (qj wr w.1.size u11 L/\D_ w wr):=⟨Me I1 H2.b.size,b_ H2.b I.O.2⟩;clear I1;go_wp2_with fail
     go_meet
     exact H3
 case rest=>
  clear H1;have H3:=hcut;clear hcut;obtain⟨A,c,he⟩:=H3.O.1.slice;subst he;have K3:=kq2 H3.O.1 H3.O.2;rw[HE.O];clear H3;go_wp2_with fail
  go_loopg [16,18,19,20,21,22,62] n (fun k s16 _ _ _ _ _ s62 wr=>∃j:Nat,s62=Xi j/\j<=n/\n-j<=k/\Hid (wr.ownsRow wc.1.size 40 2 s16 (F5 (L.take j)).length (FJ (F5 (L.take j)))/\D_ wc wr))
  case atStart=>exact⟨0,rfl,o_,o_,World.ownsRow_nil _ _ _ _,aa _ _⟩
  case round=>
   obtain⟨j,rfl,hj,bk,I⟩:=hrel
   by_cases hlt:j<n
   ·have a4:(j:Int)<n:=o_
    have ad:j<L.length:=by rw[HE.O];exact hlt
    obtain⟨b,c',e,_,c1,c2⟩:=K3.a.cell_at ad
    injection e with e1 e2 e3
    subst e1;clear e2 e3;have o1:=(I.O.2.cell (p:=⟨b,j*2,none⟩) (fK c1)).T c1;have o2:=(I.O.2.cell (p:=⟨b,j*2+1,none⟩) (fK c2)).T c2;have ha:=aw ad;have ai:L.take (j+1)=L.take j++[L[j]]:=aA ad;obtain⟨a,a7⟩:=Ii L[j];rw[a7] at o1 o2 ha ai;have a1:D_ w wr:=b_ K3.b I.O.2;have A1:=c_ wr (Xe a.kh a.vh);have p1:=heap_alloc_new wr (Xe a.kh a.vh);obtain⟨W1,a6⟩:=Ii (wr.alloc (Xe a.kh a.vh));rw[a6] at A1 p1;have I2:=kq3 A1 (b_ a1 A1) p1;have HA:=kq2 ha ai;clear c1 c2 ha a7 A1 a1 ai;obtain⟨f0,f1⟩:=Fp p1;clear p1;go_wp2_with fail;refine e9 (HC.b W1 I2.b a HA.a).1 fun w7 hb7=>?_;have p7:=(hb7.block _ (gl I2.c)).T I2.c;have I7:=kq3 (b_ I2.a hb7) (b_ I2.b hb7) p7;clear hb7 f0 f1 a6 o1 o2;obtain⟨f0,f1⟩:=Fp p7;clear p7;go_wp2_with fail;refine e9 (HC.b w7 I7.b a HA.a).2 fun w8 hb8=>?_;have B8:D_ wr w8:=b_ I7.a hb8;have bd:wc.1.size<=w8.1.size:=aI I.O.2.size B8.size;have ap:(F5 (L.take j)).length<=10000:=by rw[jT,aF];omega
    obtain⟨v2,w9,a5,au,a8⟩:=Mx (BY I.O.1 B8) ap (a.k,a.v) bd 22;have HF:Hid (w9.ownsRow wc.1.size 40 2 v2 (F5 (L.take (j+1))).length (FJ (F5 (L.take (j+1))))/\D_ wc w9):=⟨by rw[HA.b];unfold F5;rw[aQ];exact au,(b_ I.O.2 B8).T a8⟩;clear au a8 B8 bd ap hb8 f0 f1;exact qYiaa
   ·obtain rfl:j=n:=o_
    have a4:¬(j:Int)<j:=o_
    have I1:=I.O.1;rw[<-HE.O,cY] at I1;have HF:=kq2 (Me I1 K3.b.size) (b_ K3.b I.O.2);clear I1;go_wp2_with fail;go_ret2;exact⟨_,rfl,HF.O⟩
theorem MG{ps f9:Nat}(h:Ig w ps S Y)(hi:Fv S)(t1:2<=t)(t2:t<=16)(hc:Cb 133 #[PV ps,Xi t,Xu f9] w (Xi 0)):
 Cb 86 #[PV ps,Xi 3,Xi t,Xu f9] w (Xi 0):=by
 have HG:=kq2 (zZ h hi t1 t2) hc;clear h hi hc;go_enter func86,ntmps86;go_wp2_with fail;refine Jc HG.a ?_;go_wp2_with fail;refine e9 HG.b fun w1 hb=>?_;have H:=If hb;clear hb;go_wp2_with fail;go_ret;exact⟨rfl,H.O⟩
def Mb(K:jo):Prop:=∀{w:World} {px ps f9:Nat} {S:St} {o:Nat->Nat} {Y:Nat->Prop} {L:List Pr} {R:List Nat},Ig w ps S Y->K.Hold S o f9 L R->L.length<=98->K.On w px ps f9->
 (Cb 56 #[PV px] w (Xi 0))/\
 Ct 26 #[PV px] w fun e w'=>∃v,e=.returned v/\w'.ownsRow w.1.size 40 2 v L.length (FJ L)/\D_ w w'
theorem Ml{j c:FuncId}{jn:Jn}{Ok:Tr->Prop}(hk:jD h_ j c jn)(hen:∀(args:Array Value) (w:World),(callFunc c args).run prog w=.ok (.enter c args) w)(hcc:∀{w:World} {ps:Nat} {S:St} {o:Nat->Nat} {Y:Nat->Prop} {t:Tr},Ig w ps S Y->fC Ok S o t->t.its.length<=1000->Ct c #[PV ps,Xu t.f9] w fun e w'=>e=.returned (Xi 0)/\D_ w w'):Mb (jH h_ Ok):=by
 intro w px ps f9 S o Y L R h hH hl hT;obtain⟨t,hB,rfl,rfl,rfl⟩:=hH;rw[jT] at hl;have hN:t.its.length<=1000:=o_
 have ad:=fun(W:World) (hW:D_ w W)=>K6 (h.a_ hW) hB.fit.inv hk.is 0 (LG (h.a_ hW) hB.fit.inv hk.way hen fun W' hW'=>hcc (h.a_ (b_ hW hW')) hB hN);refine⟨LQ hT ad,Mi hT fun W hW=>Mo (h.a_ hW) hB.fit (by have:=hk.is;omega) (ad W hW) (.inr ⟨by have:=hk.is;omega,fun W' hW'=>(KO (h.a_ (b_ hW hW')) hB.fit hB.at' (by rw[nodes_len];exact hB.r_) (by rw[nodes_len];exact hN)).M ?_,fun a ha=>At.item hB.at' a ha⟩) hB.G7 hN⟩;rintro e w' ⟨v,rfl,ho,hb⟩;exact⟨v,rfl,Me ho o_,hb⟩
theorem M8(t1:2<=t)(t2:t<=16):Mb (mS t):=by
 intro w px ps f9 S o Y L R h hH hl hT
 rcases hH with⟨h0,rfl,rfl,rfl⟩ | ⟨d,x,hx,rfl,rfl,rfl⟩
 ·refine⟨LQ hT fun W hW=>(qc (h.a_ hW) h0.fit.inv t1 t2).M fun _ _ ⟨q1,q2⟩=>⟨q1,q2▸aa _ _⟩,Mi hT fun W hW=>(Ab (h.a_ hW) h0.fit t1 t2).M ?_⟩;rintro e w' ⟨rfl,hb⟩;exact⟨_,rfl,World.ownsRow_nil _ _ _ _,hb⟩
 ·rw[jT] at hl;have ad:=fun(W:World) (hW:D_ w W)=>MG (h.a_ hW) hx.fit.inv t1 t2 (MD hx (h.a_ hW) o_);exact⟨LQ hT ad,Mi hT fun W hW=>Mo (h.a_ hW) hx.fit o_ (ad W hW) (.inl ⟨rfl,fun W' hW'=>Mn hx.walk (h.a_ (b_ hW hW')) (Nat.lt_trans hx.low d_) (Nat.le_succ_of_le hx.many) o_⟩) hx.G7 o_⟩
theorem Ni{K:jo}(lk:Mb K){ps px:Nat}(h:Ig w ps S Y)(hf:Fw S o)(h0:K.Hold S o 0 [] [])(hb:∀{W},K.On w px ps 0->D_ w W->K.On W px ps 0)(hT:K.On w px ps 0)(r_:Nat)(hl:r_<=1000):
 Ct 22 #[PV ps,PV px,Xi r_] w fun e w'=>∃pm,e=.returned (.tuple #[PV pm,Xi 0])/\Ic w' pm px ps r_/\D_ w w'/\w.1.size<=pm:=by
 have e0:wm r_ []=0:=by unfold wm;rw[if_neg o_];rfl
 refine(M9 (L:=[]) h hf.inv (lk h h0 s_ hT).1 (fun W hW=>(lk (h.a_ hW) h0 s_ (hb hT hW)).2) s_ r_).M ?_;rintro e w' ⟨v,rfl,hv,ad⟩;unfold L0 at hv;rw[if_pos e0] at hv;obtain⟨pm,rfl,hm,ai⟩:=hv;exact⟨pm,by rw[e0];rfl,hm,ad,ai⟩
theorem Nf{j c:FuncId}{jn:Jn}{Ok:Tr->Prop}(hk:jD h_ j c jn)(hok:Nc (jH h_ Ok))(hnil:Ok .nil)(lk:Mb (jH h_ Ok))(t:Int):tp h_ t (jH h_ Ok) where
 ok:=hok
 zero hf:=⟨.nil,⟨hf,trivial,hnil,dA,fun _ h=>(dE h).elim,List.Pairwise.nil⟩,rfl,rfl,rfl⟩
 new h hf:=ES h hf.inv hk t
 of h hf hT r_ hl:=Ni lk h hf ⟨.nil,⟨hf,trivial,hnil,dA,fun _ h=>(dE h).elim,List.Pairwise.nil⟩,rfl,rfl,rfl⟩ hok.onBelow hT r_ hl
theorem Nk(hok:Nc (mS t))(t1:2<=t)(t2:t<=16):tp 3 t (mS t) where
 ok:=hok
 zero hf:=.inl ⟨⟨hf,t1,t2⟩,rfl,rfl,rfl⟩
 new h hf:=Cv h hf.inv t1 t2
 of h hf hT r_ hl:=Ni (M8 t1 t2) h hf (.inl ⟨⟨hf,t1,t2⟩,rfl,rfl,rfl⟩) hok.onBelow hT r_ hl
theorem Nh:Mb (jH 2 Rb):=Ml ot (enters_of func235 k_ rfl) fun h hB hN=>Na h hB hN
theorem Ng(t:Int):tp 2 t (jH 2 Rb):=Nf ot (pU ot oq) oq.nil Nh t
theorem M7(hins:∀d,j4 d)(h_ t:Int)(h:h_=1\/h_=2\/h_=3/\2<=t/\t<=16):∃K,tp h_ t K/\Mb K:=by
 rcases h with rfl | rfl | ⟨rfl,q1,q2⟩
 ·have lk:Mb (jH 1 eZ):=Ml vi (enters_of func234 k_ rfl) fun h hB hN=>KX h hB hN;exact⟨_,Nf vi (pU vi va) va.nil lk t,lk⟩
 ·exact⟨_,Ng t,Nh⟩
 ·obtain⟨n,rfl⟩:∃n:Nat,t=n:=⟨t.toNat,o_⟩;exact⟨_,Nk (Cw hins n) o_ o_,M8 o_ o_⟩
theorem fi.look{K:jo}(lk:Mb K){w W:World}{ps pm px r_ f9:Nat}{L:List Pr}(h:fi K w W ps pm px r_ f9 S Y L)(hl:L.length<=98):
 (Cb 56 #[PV px] W (Xi 0))/\Ct 26 #[PV px] W fun e w'=>∃v,e=.returned v/\w'.ownsRow W.1.size 40 2 v L.length (FJ L)/\D_ W w':=by
 obtain⟨o,R,hH⟩:=h.hold;exact lk h.st hH hl h.on
theorem fi.of{P:List Pr->Prop}{K:jo}(ok:gB K P)(lk:Mb K){w W:World}{ps pm px r_ f9:Nat}{L:List Pr}(h:fi K w W ps pm px r_ f9 S Y L)(hl:L.length<=98)(m:Int):
 Ct 22 #[PV ps,PV px,Xi m] W fun e w'=>∃v,e=.returned (.tuple #[v,Xi (wm m L:Nat)])/\(if wm m L=0 then ∃(ad:Nat) (Y':Nat->Prop),v=PV ad/\(∀k,Y k->Y' k)/\fi K w w' ps ad px m.toNat f9 S Y' L else v=.pointer none)/\D_ W w':=by
 have hi:Fv S:=by
  obtain⟨o,R,hH⟩:=h.hold;exact(ok.fit hH).inv
 refine(M9 h.st hi (h.look lk hl).1 (fun V hV=>((h.a_ ok hV).look lk hl).2) o_ m).M ?_;rintro e w' ⟨v,rfl,hv,hb⟩;refine⟨v,rfl,?_,hb⟩;unfold L0 at hv
 split
 ·rename_i h0;rw[if_pos h0] at hv;obtain⟨ad,rfl,hm,ai⟩:=hv;have hw:=h.wide ok hb;have an:=ok.onLt h.on;have hs:ad<w'.1.size:=(gl hm);exact⟨ad,_,rfl,fun _=> .inl,hw.st,hw.hold,hw.on,hm,hw.bl,hw.own,hw.yx,.inr ⟨ai,hs⟩,hw.lx,aI h.bl.size ai,o_⟩
 ·rename_i h0;rw[if_neg h0] at hv;exact hv
theorem Nb{w w':World}{xs:List Value}(h:w.ownsRow B e s v n xs)(hk:∀g,v.ownBlock=some g->w'.1[g]?=w.1[g]?):w'.ownsRow B e s v n xs:=⟨h.1,h.2.imp id fun⟨g,cap,cur,a,b,c,d⟩=>⟨g,cap,cur,a,b,(hk g (by rw[a];rfl)).T c,d⟩⟩
theorem fi.putK{P:List Pr->Prop}{K:jo}(ok:gB K P){w W:World}{ps pm px r_ f9:Nat}{L:List Pr}(h:fi K w W ps pm px r_ f9 S Y L)(hs:fc S 20 9)(a b:List UInt8)(ha:a.length<=r_)(hb:b.length<=r_)(hl:r_<=1000)(hc:L.length<98)(hP:P L):
 Ct 24 #[PV pm,SV a,SV b] W fun e w'=>e=.returned (.tuple #[SV ((Bt.getL L a).getD []),.bool (Bt.getL L a).isSome,Xi 0])/\Fo (fun k=>Y k/\k≠px) W w'/\∃(x:Nat) (S3:St),fi K w w' ps pm px r_ x S3 Y (gV L a b):=by
 obtain⟨o,R,hH⟩:=h.hold;refine CS h.map a b _ _ ha hb ((ok.put h.st hH hc h.on h.yx hP a b o_ o_ (hs.M o_ o_)).M ?_);rintro e w' ⟨x,S3,rfl,k1,k2,k3,k4⟩;obtain⟨o3,R3,k5,_⟩:=k4.holds;exact⟨rfl,k2,x,S3,⟨k1,⟨o3,R3,k5⟩,k3,(k2.block pm ⟨h.ym,h.ne⟩).T h.map,h.bl.T (Fo.a_ (k2.M fun k hk=>⟨h.own k hk,fun q=>by have:=h.lx;omega⟩)),h.own,h.yx,h.ym,h.lx,h.lm,h.ne⟩⟩
theorem qYiab{P:Prop}(h:P:=by
 go_wp2_with fail
 go_meet
 exact⟨rfl,rfl⟩):P:=h
theorem omapOf_walk(h_ t m:Int){l:List Pr}(key val:List UInt8)(ht:gA w)(hv:PRow w v l):
 Cb 4 #[Xi h_,Xi t,Xi m,v,SV key,SV val] w (.bool true):=by
 have bs:=fun W (hW:D_ w W)=>Nj (Ng 0) (ht.of_block (hW.block _ ht.lt));have b0:=Gd h_ t w;have b4:=fun h=>Cm (w:=w) hv h;have a2:=fun h60 hsh W (hW:D_ w W)=>Hv (hv.a_ hW) h60 (hsh:pK l);obtain⟨Al,cl,rfl,bv⟩:=hv;have hv:PRow w (.slice Al l.length cl) l:=⟨Al,cl,rfl,bv⟩;obtain⟨n,hn⟩:=Ii l.length;have HG:=kq4 bs b0 b4 ht;have HV:=kq2 hv hn;have HO:=If a2;rw[hn] at HG HV HO⊢;clear bs b0 b4 a2 ht hv bv
 by_cases hg:FO h_ t=false\/40<n\/jb l=true\/1000<key.length\/1000<val.length
 ·obtain⟨fb,a1⟩:=Ii (FO h_ t);obtain⟨lb,ap⟩:=Ii (jb l);rw[a1,ap] at HG hg;have cp:fb=false\/(fb=true/\(40<(n:Int))=True)\/(fb=true/\(40<(n:Int))=False/\n<=100000/\lb=true)\/(fb=true/\(40<(n:Int))=False/\n<=100000/\lb=false/\(1000<(key.length:Int))=True)\/(fb=true/\(40<(n:Int))=False/\n<=100000/\lb=false/\(1000<(key.length:Int))=False/\(1000<(val.length:Int))=True):=by
   cases fb with
   | false=>exact ab rfl
   | true=>
    refine ae ?_
    by_cases h1:40<n
    ·exact ab ⟨rfl,eq_true o_⟩
    refine ae ?_
    cases lb with
    | true=>exact ab ⟨rfl,eq_false o_,o_,rfl⟩
    | false=>
     refine ae ?_
     by_cases h2:1000<key.length
     ·exact ab ⟨rfl,eq_false o_,o_,rfl,eq_true o_⟩
     ·exact ae ⟨rfl,eq_false o_,o_,rfl,eq_false o_,eq_true (by simp[h1,h2] at hg;omega)⟩
  clear hg a1 ap hn
  rcases cp with rfl | ⟨rfl,g1⟩ | ⟨rfl,g1,g2,rfl⟩ | ⟨rfl,g1,g2,rfl,g3⟩ | ⟨rfl,g1,g2,rfl,g3,g4⟩
  all_goals
   go_enter func4,ntmps4;go_wp2_with fail;refine Jc HG.b ?_;go_wp2_with fail
   try (refine(HG.c (by assumption)).M ?_;rintro e w1 ⟨rfl,rfl⟩;go_wp2_with fail)
   refine e9 (HG.a _ (aa _ _)) fun w1 hb1=>?_;have H1:=If hb1;clear hb1;go_wp2_with fail;go_ret;exact⟨rfl,H1.O⟩
 ·have a1:FO h_ t=true:=by
   cases h:FO h_ t with
   | false=>exact absurd (ab h) hg
   | true=>rfl
  have ap:jb l=false:=by
   cases h:jb l with
   | true=>exact absurd (ae (ae (ab h))) hg
   | false=>rfl
  have cx:n<=40:=o_
  have hk:key.length<=1000:=o_
  have c5:val.length<=1000:=o_
  have g1:(40<(n:Int))=False:=eq_false o_;have g3:(1000<(key.length:Int))=False:=eq_false o_;have g4:(1000<(val.length:Int))=False:=eq_false o_;rw[a1,ap] at HG;obtain⟨K,hK,bm⟩:=M7 uS h_ t (of_decide_eq_true a1);have a3:=Cp hK HG.d HV.a o_ (Cl ap) (fun _ _=>trivial);have a2:=HO.O o_ (Cl ap);have bj:=GF l;have b2:=wt l;have ai:=kq2 hK.ok @bm;obtain⟨L,hL⟩:=Ii (im l);rw[hL] at a3 a2 bj b2;rw[hn] at a3;have cn:L.length<=40:=o_
  have HM:=kq3 a3 a2 bj;clear a3 a2 bj b2 hL hK bm a1 ap hg HO;go_enter func4,ntmps4;go_wp2_with fail;refine Jc HG.b ?_;go_wp2_with fail;refine Jc (HG.c o_) ?_;go_wp2_with fail;clear g1 g3 g4;refine HM.a.M ?_;rintro e w1 ⟨ps,pm,px,f9,S,Y,rfl,hM,hS⟩;have H1:=kq2 hM (hS.M (p':=20*100) (q':=9*100) o_ o_);clear hM hS;go_wp2_with fail;refine(HM.b _ H1.a.bl).M ?_;rintro e w2 ⟨v2,rfl,ba,bt⟩;have H2:=kq2 (H1.a.wide ai.a bt) ba;have E_:∀g,v2.ownBlock=some g->(Y g\/(w1.1.size<=g/\g<w2.1.size))/\g≠px:=fun g e=>by
   have h1:=World.ownsRow.lt ba g e;have h2:=ai.a.onLt H1.a.on;exact⟨.inr h1,o_⟩
  have HR:=If E_;clear E_;clear ba bt;go_wp2_with fail;refine Jc (Gh H2.a.map) ?_;go_wp2_with fail;refine(H2.a.of ai.a ai.b o_ m).M ?_;rintro e w3 ⟨v3,rfl,ck,a5⟩;have H3:=kq3 ck (b_ H2.a.bl a5) (BY H2.b a5);obtain⟨q,hq⟩:=Ii (wm m L);have HQ:=If hq;rw[hq] at H3⊢;clear ck a5 hq
  go_upto_region 9 with fail
  go_cut [73] from 68 (fun s73 wx=>s73=.bool (decide (m<0\/1000<m))/\wx=w3)
  case first=>
   by_cases m1:m<0
   ·go_wp2_with fail
    go_meet
    exact⟨by rw[decide_eq_true (.inl m1)],rfl⟩
   ·by_cases m2:1000<m
    ·go_wp2_with fail
     go_meet
     exact⟨by rw[decide_eq_true (.inr m2)],rfl⟩
    ·go_wp2_with fail
     go_meet
     exact⟨by rw[decide_eq_false o_],rfl⟩
  case rest=>
  obtain⟨rfl,rfl⟩:=hcut;obtain⟨bd,a6⟩:=Ii (decide (m<0\/1000<m));have HD:=If a6;rw[a6];clear a6
  go_upto_if 73 with fail
  go_cut [19] from 68 (fun s19 wx=>s19=Xi (if bd=true then 2 else 0:Nat)/\wx=wc)
  case first=>
   cases bd
   all_goals
    exact qYiab
  case rest=>
   obtain⟨rfl,rfl⟩:=hcut;obtain⟨A2,c2,rfl,bu⟩:=PRow.of_owns H3.c;obtain⟨nl,a9⟩:=Ii L.length;have HE:=kq2 bu a9;rw[a9] at cn⊢;clear bu a9
   go_upto_block 0 with fail
   go_cut [19,20] from 74 (fun s19 _ wx=>s19=Xi q/\wx=wc)
   case first=>
    cases bd
    case' true=>
     have cv:q=2:=by rw[<-HQ.O];exact if_pos (of_decide_eq_true HD.O)
     subst cv;have he:(if true=true then 2 else 0:Nat)=2:=rfl;rw[he];go_wp2_with fail
     go_loopw [19,20] (fun s19 s20 wr=>s19=Xi 2/\s20=Xi 0/\wr=wc) (fun _ _ _=>0)
     case atStart=>exact⟨rfl,rfl,rfl⟩
     case round=>
      obtain⟨rfl,rfl,rfl⟩:=hrel;go_wp2_with fail
      all_goals
       go_meet
       exact⟨rfl,rfl⟩
    case' false=>
     have b8:¬(m<0\/1000<m):=of_decide_eq_false HD.O;have cb:q=if v8 m L=true then 4 else 0:=by rw[<-HQ.O];exact if_neg b8
     have bk:=If cb;have he:(if false=true then 2 else 0:Nat)=0:=rfl;rw[he];clear cb he;go_wp2_with fail
     go_loopw [19,20] (fun s19 s20 wr=>∃i:Nat,s20=Xi i/\i<=nl/\(s19=Xi 0/\Hid (v8 m (L.take i)=false)\/s19=Xi 4/\Hid (v8 m L=true))/\wr=wc) (fun _ s20 _=>nl-(intOf s20).toNat)
     case atStart=>exact⟨0,rfl,o_,.inl ⟨rfl,If rfl⟩,rfl⟩
     case round=>
      obtain⟨i,rfl,hi,hs,rfl⟩:=hrel
      rcases hs with⟨rfl,ho⟩ | ⟨rfl,ho⟩
      ·by_cases hlt:i<nl
       ·have cq:(i:Int)<nl:=o_
        have a7:i<L.length:=by have:=HE.b;omega
        obtain⟨g,o,rfl,c0,c1⟩:=HE.a i a7;have a':=Mu a7 ho.O;obtain⟨pk,ca⟩:=Ii L[i];rw[ca] at c0 c1 a';obtain⟨a,b⟩:=pk;have HN:=If a';clear ca a7 a' ho
        by_cases ha:m<(a.length:Int)
        ·go_wp2_with fail;go_roundw
         case rel=>exact⟨i+1,s_,o_,.inr ⟨rfl,If (HN.O.2 (by rw[HN.O.1,decide_eq_true ha];rfl))⟩,by first | rfl | trivial⟩
         case measure=>simp[intOf];omega
        ·by_cases hb:m<(b.length:Int)
         ·go_wp2_with fail;go_roundw
          case rel=>exact⟨i+1,s_,o_,.inr ⟨rfl,If (HN.O.2 (by rw[HN.O.1,decide_eq_true hb,Bool.or_true]))⟩,by first | rfl | trivial⟩
          case measure=>simp[intOf];omega
         ·go_wp2_with fail;go_roundw
          case rel=>exact⟨i+1,s_,o_,.inl ⟨rfl,If (by rw[HN.O.1,decide_eq_false ha,decide_eq_false hb];rfl)⟩,by first | rfl | trivial⟩
          case measure=>simp[intOf];omega
       ·obtain rfl:i=nl:=o_
        have hF:v8 m L=false:=by have:=ho.O;rwa[aJ (by rw[HE.b];exact Nat.le_refl _)] at this
        have ad:q=0:=by rw[bk.O,hF];rfl
        subst ad;clear hF;have cq:¬(i:Int)<i:=o_
        exact qYiab
      ·have cw:q=4:=by rw[bk.O,if_pos ho.O]
       subst cw
       by_cases hlt:(i:Int)<nl
       all_goals
        exact qYiab
   case rest=>
    obtain⟨rfl,rfl⟩:=hcut
    by_cases ad:q=0
    ·have hv:=H3.a;rw[if_pos ad] at hv;obtain⟨po,Y',rfl,bq,hM⟩:=hv;have b8:¬(m<0\/1000<m):=fun hb=>by
      have:=HQ.O;unfold wm at this;rw[if_pos hb] at this;omega
     subst ad;have a8:((m.toNat:Nat):Int)=m:=o_
     have hr:=BY H3.c (aa _ wc);have HP:=kq4 hM hr a8 bq;clear hM hr a8 bq
     by_cases hkv:m<key.length\/m<val.length
     ·have bc:=CT HP.a.map key val o_;have HL:=If bc;have hg:(m<(key.length:Int))\/¬(m<(key.length:Int))/\(m<(val.length:Int)):=o_
      clear bc hkv
      rcases hg with g1 | ⟨g1,g2⟩
      all_goals
       go_wp2_with fail;refine Jc HL.O ?_;go_wp2_with fail;refine Jc (Gh HP.a.map) ?_;go_wp2_with fail;refine(HP.a.look ai.b (by rw[HE.b];omega)).2.M ?_;rintro e w4 ⟨v4,rfl,b9,au⟩;have ar:=F0 (PRow.of_owns b9) (PRow.of_owns (BY HP.b au)) (by rw[HE.b];omega) (by rw[HE.b];omega);rw[show FQ L L=true from decide_eq_true rfl,HE.b] at ar;have H4:=kq2 ar (b_ H3.b au);clear ar b9 au;go_wp2_with fail;refine e9 H4.a fun w5 an=>?_;have H5:=If (b_ H4.b an);clear an;go_wp2_with fail;refine e9 (HG.a _ H5.O) fun w6 a0=>?_;have H6:=If (b_ H5.O a0);clear a0;go_wp2_with fail;go_ret;exact⟨rfl,H6.O⟩
     ·have bf:=HP.a.putK ai.a (H1.b.M o_ o_) key val o_ o_ o_ (by rw[HE.b];omega) trivial;have g1:¬(m<(key.length:Int)):=o_
      have g2:¬(m<(val.length:Int)):=o_
      obtain⟨rs,cj⟩:=Ii ((Bt.getL L key).getD []);obtain⟨rb,ch⟩:=Ii (Bt.getL L key).isSome;rw[cj,ch] at bf;have HL:=If bf;clear bf hkv cj ch;go_wp2_with fail;refine HL.O.M ?_;rintro e w4 ⟨rfl,b1,x,S3,bo⟩;have cc:=Nb H3.c fun g e=>b1.block g ⟨HP.d g (HR.O g e).1,(HR.O g e).2⟩;have H4:=kq2 bo cc;clear b1 bo cc;go_wp2_with fail;refine Jc (Ik H4.a.map) ?_;have a8:=HP.c;go_wp2_with fail;refine Jc (Gh H4.a.map) ?_;have bc:=DG L key val;go_wp2_with fail;refine(H4.a.look ai.b (by have:=HE.b;omega)).2.M ?_;rintro e w5 ⟨v5,rfl,b',an⟩;have a4:=Ib (PRow.of_owns (BY H4.b an)) (Gl.of (BY H4.b an)) (by have:=HE.b;omega) key val o_;rw[HE.b] at a4;unfold eu at a4;have H5:=kq3 a4 b' (b_ H4.a.bl an);clear a4 b' an;go_wp2_with fail;refine H5.a.M ?_;rintro e w6 ⟨v6,rfl,bb,a0⟩;rw[G5 HM.c] at bb;have ar:=F0 (PRow.of_owns (BY H5.b a0)) (PRow.of_owns bb) (by have:=HE.b;omega) (by have:=HE.b;omega);rw[show FQ (gV L key val) (gV L key val)=true from decide_eq_true rfl] at ar;have H6:=kq2 ar (b_ H5.c a0);clear ar bb a0;go_wp2_with fail;refine e9 H6.a fun w7 hb7=>?_;have H7:=If (b_ H6.b hb7);clear hb7;go_wp2_with fail;refine e9 (HG.a _ H7.O) fun w8 hb8=>?_;have H8:=If (b_ H7.O hb8);clear hb8;go_wp2_with fail;go_ret;exact⟨rfl,H8.O⟩
    ·have hv:=H3.a;rw[if_neg ad] at hv;subst hv;have c3:((q:Int)==0)=false:=by simp[ad]
     have c4:((q:Int) !=0)=true:=by simp[ad]
     clear ad;go_wp2_with fail;refine e9 (HG.a _ H3.b) fun w4 au=>?_;have H4:=If (b_ H3.b au);clear au;go_wp2_with fail;go_ret;exact⟨rfl,H4.O⟩