/- Trees of any l_ as rows of F_: what they answer, whatever their l_. -/
import Derived.Test.YtpljannolpapgaaGreatDoorRDg
import Derived.Test.YtpljannolpapgaaGreatDoorRYl
set_option maxRecDepth 100000
set_option maxHeartbeats 6400000
namespace Go.Proofs.YtpljannolpapgaaGreatDoor
open Go.RowKit Tryz Go.BigFrame Go.Maps Go.WideMaps Lf Tr
variable{S:St}{Y:Nat->Prop}{o:Nat->Nat}{ps:Nat}{t:Nat}{w:World}
structure jo where
 On:World->Nat->Nat->Nat->Prop
 Hold:St->(Nat->Nat)->Nat->List (List UInt8×List UInt8)->List Nat->Prop
structure dU (K:jo):Prop where
 onBelow:∀{w w':World} {px ps f9:Nat},K.On w px ps f9->D_ w w'->K.On w' px ps f9
 onKeep:∀{w w':World} {px ps f9:Nat} {Y:Nat->Prop},K.On w px ps f9->Fo Y w w'->Y px->K.On w' px ps f9
 onLt:∀{w:World} {px ps f9:Nat},K.On w px ps f9->px<w.1.size
 onAt:∀{w w':World} {px ps f9:Nat},K.On w px ps f9->w'.1[px]?=w.1[px]?->K.On w' px ps f9
 fit:∀{S:St} {o:Nat->Nat} {f9:Nat} {L:List (List UInt8×List UInt8)} {R:List Nat},K.Hold S o f9 L R->Fw S o
 has:∀{S:St} {o:Nat->Nat} {f9:Nat} {L:List (List UInt8×List UInt8)} {R:List Nat},K.Hold S o f9 L R->∀y∈R,i_ S y≠none
 frame:∀{S S':St} {o o':Nat->Nat} {f9:Nat} {L:List (List UInt8×List UInt8)} {R:List Nat},K.Hold S o f9 L R->Fw S' o'->(∀y∈R,i_ S' y=i_ S y)->K.Hold S' o' f9 L R
 F1:∀{S:St} {o:Nat->Nat} {f9:Nat} {L:List (List UInt8×List UInt8)} {R:List Nat},K.Hold S o f9 L R->L.Pairwise fun p q=>Fu p.1 q.1<0
structure pL (K:jo):Prop extends dU K where
 len:∀{w:World} {px ps f9:Nat} {S:St} {o:Nat->Nat} {Y:Nat->Prop} {L:List (List UInt8×List UInt8)} {R:List Nat},Ig w ps S Y->K.Hold S o f9 L R->L.length<98->K.On w px ps f9->
  Cb 19 #[PV px] w (Xi (L.length:Nat))
 rank:∀{w:World} {px ps f9:Nat} {S:St} {o:Nat->Nat} {Y:Nat->Prop} {L:List (List UInt8×List UInt8)} {R:List Nat},Ig w ps S Y->K.Hold S o f9 L R->L.length<98->K.On w px ps f9->∀k:List UInt8,
  Cb 16 #[PV px,SV k] w (Xi (eK L k:Nat))
 get:∀{w:World} {px ps f9:Nat} {S:St} {o:Nat->Nat} {Y:Nat->Prop} {L:List (List UInt8×List UInt8)} {R:List Nat},Ig w ps S Y->K.Hold S o f9 L R->L.length<98->K.On w px ps f9->∀k:List UInt8,
  Cb 17 #[PV px,SV k] w (.tuple #[SV ((Bt.getL L k).getD []),.bool (Bt.getL L k).isSome])
 at':∀{w:World} {px ps f9:Nat} {S:St} {o:Nat->Nat} {Y:Nat->Prop} {L:List (List UInt8×List UInt8)} {R:List Nat},Ig w ps S Y->K.Hold S o f9 L R->L.length<98->K.On w px ps f9->∀(k:Nat) (p:List UInt8×List UInt8),L[k]?=some p->
  Cb 18 #[PV px,Xi k] w (.tuple #[eu p,Xi 0])
 atRef:∀{w:World} {px ps f9:Nat} {S:St} {o:Nat->Nat} {Y:Nat->Prop} {L:List (List UInt8×List UInt8)} {R:List Nat},Ig w ps S Y->K.Hold S o f9 L R->L.length<98->K.On w px ps f9->∀k:Int,k<2^62->(k<0\/(L.length:Int)<=k)->
  Cb 18 #[PV px,Xi k] w (.tuple #[eu ([],[]),Xi 2])
structure dT (K:jo) (P:List (List UInt8×List UInt8)->Prop):Prop extends dU K where
 put:∀{w:World} {px ps f9:Nat} {S:St} {o:Nat->Nat} {Y:Nat->Prop} {L:List (List UInt8×List UInt8)} {R:List Nat},Ig w ps S Y->K.Hold S o f9 L R->L.length<98->K.On w px ps f9->Y px->P L->∀a b:List UInt8,a.length<=1000->b.length<=1000->fc S 20 9->
  Ct 43 #[PV px,eu (a,b)] w fun e w'=>∃(x:Nat) (S3:St),e=.returned (.tuple #[SV ((Bt.getL L a).getD []),.bool (Bt.getL L a).isSome,Xi 0])/\Ig w' ps S3 Y/\Fo (fun k=>Y k/\k≠px) w w'/\K.On w' px ps x/\iV S L R K.Hold a b 20 9 x S3
structure gB (K:jo) (P:List (List UInt8×List UInt8)->Prop):Prop extends pL K,dT K P
def mS(t:Nat):jo:=⟨fun w px ps f9=>jE w px ps t f9,fun S o f9 L R=>Bt.Holds S o t f9 L R⟩
theorem uY{l:List It}(h:l.Pairwise eU):(F_ l).Pairwise fun p q=>Fu p.1 q.1<0:=by
 exact dM.2 (h.imp fun {a b} q=>q)
theorem NO(t:Nat):dU (mS t) where
 onBelow h hb:=FF.a_ h hb
 onKeep h hk hy:=FF.w_ h hk hy
 onLt h:=(gl h)
 onAt h e:=e.T h
 fit h:=Bt.Holds.fit h
 has h:=Bt.Holds.has h
 frame h:=Bt.Holds.frame h
 F1 h:=by
  rcases h with⟨_,_,rfl,_⟩ | ⟨_,_,h,_,rfl,_⟩
  ·exact List.Pairwise.nil
  ·exact uY h.F1
theorem NQ(hins:∀d,j4 d)(t:Nat){P:List (List UInt8×List UInt8)->Prop}:dT (mS t) P:=
 { NO t with put:=fun h hH hc hT hpx _ _ b ha hb hr=>CG (fun _ _=>hins) h hH hT hpx b ha hb o_ hr }
def jH(l_:Nat)(Ok:Tr->Prop):jo:=⟨fun w px ps f9=>FF w px ps 162 (fE ps l_) l_ 0 f9,fun S o f9 L R=>∃t:Tr,fC Ok S o t/\f9=t.f9/\L=F_ t.its/\R=eB t.its⟩
theorem At.item {S:St}:∀{t:Tr},Tr.At S t->∀d∈t.its,∃n0:Nd,i_ S d.h=some (eM n0)/\n0.key=d.kh/\n0.val=d.vh
 | .nil,_,d,hd=>by cases hd
 | .node l e m r,ha,d,hd=>by
  obtain⟨h1,h2,h3⟩:=ha;rcases aq.1 (show d∈l.its++e::r.its from hd) with hd | hd
  ·exact At.item h2 d hd
  ·rcases ah.1 hd with rfl | hd
   ·exact⟨_,h1,rfl,rfl⟩
   ·exact At.item h3 d hd
theorem nZ(L:List (List UInt8×List UInt8))(a:List UInt8):eK L a<=L.length:=ct
theorem uj(args:Array Value)(w:World):(callFunc 301 args).run prog w=.ok (.enter 301 args) w:=by simp_all
theorem NL(l_:Nat)(Ok:Tr->Prop):dU (jH l_ Ok) where
 onBelow h hb:=FF.a_ h hb
 onKeep h hk hy:=FF.w_ h hk hy
 onLt h:=(gl h)
 onAt h e:=e.T h
 fit h:=by obtain⟨t,h,_⟩:=h;exact h.fit
 has h:=by obtain⟨t,h,_,_,rfl⟩:=h;exact h.some
 frame h hf hs:=by obtain⟨t,h,h1,h2,rfl⟩:=h;exact⟨t,h.frame hf hs,h1,h2,rfl⟩
 F1 h:=by obtain⟨t,h,_,rfl,_⟩:=h;exact uY h.F1
theorem NK{l_:Nat}{j c:FuncId}{jn:Jn}{Ok:Tr->Prop}(hk:jD l_ j c jn)(J:kV jn Ok){P:List (List UInt8×List UInt8)->Prop}:dT (jH l_ Ok) P where
 todU:=NL l_ Ok
 put {w px ps f9 S o Y L R} h hH hc hT hpx _ a b ha hb' hr:=by
  obtain⟨t,hb,rfl,rfl,rfl⟩:=hH;rw[jT] at hc;have a0:=hr.M (p':=7) (q':=3) o_ o_;have hl:=hb.at'.root_lt hb.fit;cases hf:Bt.G7 a t.its with
  | none=>
   have ap:Bt.getL (F_ t.its) a=none:=by rw[Bt.getL_pairs,hf];rfl
   have a2:∀z∈t.its,z.k≠a:=fun z hz q=>by
    unfold Bt.G7 at hf;have:=bS.1 hf z hz;rw[q] at this;simp at this
   rw[ap];obtain⟨u,S',o',po,ad,hB,ar,_,hg,an,au⟩:=DI J hb hc ha hb' a0 a2;unfold treePutM at ad;split at ad
   ·cases ad
   rename_i p S1 hit;have ai:iV S (F_ t.its) (eB t.its) (jH l_ Ok).Hold a b 20 9 u.f9 S':=⟨⟨o',eB u.its,⟨u,hB,rfl,ar.S,rfl⟩,au⟩,hg.M o_ o_,an⟩;refine ny h hb.fit.inv hT hpx a b po.1 hit false [] (R:=fun x ik iv S2=>x=u.f9/\ik=0/\iv=0/\S2=S') (R2:=fun x S2=>iV S (F_ t.its) (eB t.its) (jH l_ Ok).Hold a b 20 9 x S2) vQ uj (fun W Z hW hp1 hp2=>?_) fun x ik iv S2 hR W Z hW _ _=>?_
   ·refine(zc hW (po.2 _ _ hit) hk t.f9 p.1 p.2 hl hp1 hp2 ad).M ?_;rintro e w' ⟨rfl,h1,h2,_,_⟩;exact⟨_,_,_,S',rfl,h1,h2,rfl,rfl,rfl,rfl⟩
   ·obtain⟨rfl,rfl,rfl,rfl⟩:=hR;refine dR (sV px 0 0 W) fun w' hb=>?_;exact⟨_,rfl,hW.a_ hb,hW.w_ hb,ai⟩
  | some d=>
   have ap:Bt.getL (F_ t.its) a=some d.v:=by rw[Bt.getL_pairs,hf];rfl
   rw[ap];have hd:d∈t.its:=by unfold Bt.G7 at hf;exact cI hf
   have a1:d.k=a:=by unfold Bt.G7 at hf;simpa using List.find?_some hf
   have hlt:=Bt.blobs_lt hb.fit (hb.F4 d hd);obtain⟨u,S6,S8,o',po,ad,f6,b6,i6,e8,hB,ar,_,hg,an,au⟩:=DJ J hb hc ha hb' a0 hd a1;unfold treeRepM at ad;split at ad
   ·cases ad
   rename_i p S1 hit;have ai:iV S (F_ t.its) (eB t.its) (jH l_ Ok).Hold a b 20 9 u.f9 S8:=⟨⟨o',eB u.its,⟨u,hB,rfl,ar.S,rfl⟩,au⟩,hg.M o_ o_,an⟩;refine ny h hb.fit.inv hT hpx a b po.1 hit true d.v (R:=fun x ik iv S2=>x=u.f9/\ik=d.kh/\iv=d.vh/\S2=S6) (R2:=fun x S2=>iV S (F_ t.its) (eB t.its) (jH l_ Ok).Hold a b 20 9 x S2) vQ uj (fun W Z hW hp1 hp2=>?_) fun x ik iv S2 hR W Z hW hTW hZ=>?_
   ·refine(zd hW (po.2 _ _ hit) hk t.f9 p.1 p.2 hl hp1 hp2 ad f6.inv).M ?_;rintro e w' ⟨rfl,h1,h2,_,_⟩;exact⟨_,_,_,S6,rfl,h1,h2,rfl,rfl,rfl,rfl⟩
   ·obtain⟨rfl,rfl,rfl,rfl⟩:=hR;refine(xL hW f6.inv hTW hZ d.kh d.vh hlt.1 hlt.2 (by rw[b6];simp) i6).M ?_;rintro e w' ⟨rfl,h1,h2⟩;rw[b6];rw[<-e8] at h1;exact⟨S8,rfl,h1,h2,ai⟩
theorem KB(h:Ig w ps S Y)(t1:2<=t)(t2:t<=16):
 Cb 81 #[FH ps t] w (Xi (S.words / (6*t)+1:Nat)):=by
 have B0:=c_ w (Xc ps t);have q0:=heap_alloc_new w (Xc ps t);have an:=fun W (hW:D_ w W)=>xo (h.a_ hW);have au:=fun W=>pW t t1 t2 W;have a4:=nB h;obtain⟨wd,ap⟩:=Ii S.words;rw[ap] at a4 an;have hq:((wd:Int)).tdiv (6*(t:Int))=((wd / (6*t):Nat):Int):=by
  rw[show (6*(t:Int))=((6*t:Nat):Int) by omega];exact(Int.ofNat_tdiv wd (6*t)).S
 have a3:wd / (6*t)<=wd:=Nat.div_le_self _ _;obtain⟨qq,ai⟩:=Ii (wd / (6*t));rw[ai] at hq a3;have h6:((6*(t:Int))==0)=false:=m_
 have a5:(6*(t:Int))≠0:=o_
 have a6:IntKind.i64.wrap ((qq:Int))=(qq:Int):=ax _ o_;have a7:IntKind.i64.wrap ((qq:Int)+1)=(qq:Int)+1:=ax _ o_;have HG:=kq4 an au B0 q0;obtain⟨W0,a2⟩:=Ii (w.alloc (Xc ps t));rw[a2] at HG;obtain⟨I,ar,ad⟩:=ic fun w'=>w'.1[w.1.size]?=some (Xc ps t);have a0:=fun x:Fq I=>ar _ x.ok;obtain⟨m0,m1⟩:=mt a0;have a1:I W0.drew:=ad _ HG.d;have HI:=If ad;have HQ:=kq2 ap ai;clear ar ad a0 an au B0 q0 h ap ai;unfold FH;go_enter func81,ntmps81;go_wp2_with fail;refine fh I (.take 0 (.take 1 (.take 3 (.take 4 (.go 2 (.go 5 (.take 6 (.take 7 (.go 8 .nil))))))))) k_ k_ a1 ?_
 iterate 4
  refine pT_ ?_
  try simp only[pu]
 refine pD fun K hK=>?_;go_simp;refine dR (HG.a _ (HG.c.drew)) fun w1 hb1=>?_;have H1:=kq2 (b_ HG.c.drew hb1) (HI.O _ ((hb1.block w.1.size (gl HG.d)).T HG.d));clear hb1
 try go_simp
 refine hK.O _ _ (H1.b) ?_;clear hK K
 try simp only[pu]
 refine pD fun K hK=>?_;go_simp;refine Jc (HG.b w1) ?_
 try go_simp
 refine hK.O _ _ (H1.b) ?_;clear hK K
 try simp only[pu]
 iterate 2
  refine pT_ ?_
  try simp only[pu]
 refine pD fun K hK=>?_;go_simp
 try go_simp
 refine hK.O _ _ (H1.b) ?_;clear hK K
 try simp only[pu]
 refine eP ?_;go_wp2_with fail;go_ret;exact⟨by rw[HQ.a,HQ.b];first | rfl | simp,H1.a⟩
theorem zM(h:Ig w ps S Y)(t1:2<=t)(t2:t<=16):
 Ct 81 #[FH ps t] w fun e w'=>(∃z:Nat,e=.returned (Xi z)/\1<=z)/\D_ w w':=
 (KB h t1 t2).M fun _ _ ⟨h1,h2⟩=>⟨⟨_,h1,Nat.le_add_left ..⟩,h2⟩
theorem zL(h:Ig w ps S Y)(hf:Fw S o)(t1:2<=t)(t2:t<=16)(bl:Nat):
 Cb 120 #[FH ps t,n_,Xu 0,.pointer (some (y_ bl)),Xi 0] w n_:=by
 have B0:=c_ w (Xc ps t);have hg:=nQ (h.a_ B0) hf.inv t1 t2 0 o_ (oy (rZ hf));unfold FH eC at hg;have HG:=kq2 hg B0;clear hg B0 h hf;unfold FH;go_enter func120,ntmps120;go_wp2_with fail;refine dR HG.a fun w1 hb1=>?_;have B1:=b_ HG.b hb1;have H1:=If (B1.alloc B1.size (.cells #[n_,n_,n_,Xu 0] 215));clear hb1 B1;go_wp2_with fail;go_ret;exact⟨rfl,H1.O⟩
theorem zV(h:Ig w ps S Y)(hf:Fw S o)(t1:2<=t)(t2:t<=16):
 Cb 74 #[PV ps,Xi t,Xu 0] w n_:=by
 have ar:=kZ h hf.inv t1 t2;have B0:=c_ w (Xc ps t);have q0:=heap_alloc_new w (Xc ps t);have ad:=zM (h.a_ B0) t1 t2;have an:=fun W (hW:D_ w W) bl=>zL (h.a_ hW) hf t1 t2 bl;unfold FH at ad an;obtain⟨W0,ap⟩:=Ii (w.alloc (Xc ps t));rw[ap] at B0 q0 ad;obtain⟨x0,x1⟩:=Fp q0;have HG:=kq5 ar ad an B0 q0;clear ar ad an B0 q0 h hf;go_enter func74,ntmps74;go_wp2_with fail;refine Jc HG.a ?_;go_wp2_with fail;refine HG.b.M ?_;rintro e w1 ⟨⟨z,rfl,hz⟩,ai⟩;have q1:=(ai.block w.1.size (gl HG.e)).T HG.e;have B1:=b_ HG.d ai;have A2:=c_ w1 (Xh z);have q2:=(A2.block w.1.size (gl q1)).T q1;have B2:=b_ B1 A2;clear ap x0 x1;obtain⟨W1,au⟩:=Ii (w1.alloc (Xh z));rw[au] at q2 B2;obtain⟨x0,x1⟩:=Fp q2;have H2:=If B2;clear ai q1 B1 A2 q2 B2;go_wp2_with fail;refine dR (HG.c _ H2.O _) fun w3 hb3=>?_;have H3:=If (b_ H2.O hb3);clear hb3;go_wp2_with fail;go_ret;exact⟨rfl,H3.O⟩
theorem Ab(h:Ig w ps S Y)(hf:Fw S o)(t1:2<=t)(t2:t<=16):
 Cb 59 #[PV ps,Xi 3,Xi t,Xu 0] w (.tuple #[n_,Xi 0]):=by
 have hc:=qc h hf.inv t1 t2;have hl:=fun W (hW:D_ w W)=>zV (h.a_ hW) hf t1 t2;have HG:=kq2 hc hl;clear hc hl h hf;go_enter func59,ntmps59;go_wp2_with fail;refine Jc HG.a ?_;have H1:=If (aa w.1.size w);go_wp2_with fail;refine dR (HG.b _ H1.O) fun w2 hb2=>?_;have H2:=If (b_ H1.O hb2);clear hb2;go_wp2_with fail
 go_loopw [16,18,19,20,21,22,62] (fun l1 _ _ _ _ _ k wr=>l1=.slice none 0 0/\k=Xi 0/\wr=w2) (fun _ _ _ _ _ _ _ _=>0)
 case atStart=>exact⟨rfl,rfl,rfl⟩
 case round=>
  obtain⟨rfl,rfl,rfl⟩:=hrel;go_wp2_with fail;go_ret2;exact⟨rfl,H2.O⟩
theorem CR(h:Ig w ps S Y)(l_ t:Int)(A_:Nat)(K:jo)(hlt:∀{w px ps f9},K.On w px ps f9->px<w.1.size)(hbl:∀{w w' px ps f9},K.On w px ps f9->D_ w w'->K.On w' px ps f9)(hn:Ct 13 #[PV ps,Xi l_,Xi t] w fun e w'=>∃px,e=.returned (.tuple #[PV px,Xi 0])/\K.On w' px ps 0/\D_ w w'/\w.1.size<=px)(ho:∀W px,Ig W ps S Y->K.On W px ps 0->Ct 22 #[PV ps,PV px,Xi A_] W fun e w'=>∃pm,e=.returned (.tuple #[PV pm,Xi 0])/\Ic w' pm px ps A_/\D_ W w'/\W.1.size<=pm):
 Ct 52 #[PV ps,Xi l_,Xi t,Xi A_] w fun e w'=>∃pm px,e=.returned (.tuple #[PV pm,Xi 0])/\Ic w' pm px ps A_/\K.On w' px ps 0/\D_ w w'/\w.1.size<=pm/\w.1.size<=px/\pm≠px:=by
 have ho:=fun W px (hW:D_ w W) (hT:K.On W px ps 0)=>ho W px (h.a_ hW) hT;have HG:=kq2 hn ho;clear hn ho h;go_enter func52,ntmps52;go_wp2_with fail;refine HG.a.M ?_;rintro e w1 ⟨px,rfl,hT,ad,lx⟩;have H1:=kq3 hT ad lx;clear hT ad lx;go_wp2_with fail;refine(HG.b _ px H1.b H1.a).M ?_;rintro e w2 ⟨pm,rfl,hM,ai,lm⟩;have H2:=kq3 hM ai lm;clear hM ai lm;go_wp2_with fail;go_ret2;have hlt:=hlt H1.a;exact⟨pm,px,rfl,H2.a,hbl H1.a H2.b,b_ H1.b H2.b,aH H1.b.size H2.c,H1.c,by have:=H2.c;omega⟩
structure yA (l_ t:Int) (K:jo) (T:Prop):Prop where
 ok:T
 zero:∀{S:St} {o:Nat->Nat},Fw S o->K.Hold S o 0 [] []
 new:∀{w:World} {ps:Nat} {S:St} {o:Nat->Nat} {Y:Nat->Prop},Ig w ps S Y->Fw S o->Ct 13 #[PV ps,Xi l_,Xi t] w fun e w'=>∃px,e=.returned (.tuple #[PV px,Xi 0])/\K.On w' px ps 0/\D_ w w'/\w.1.size<=px
 of:∀{w:World} {ps px:Nat} {S:St} {o:Nat->Nat} {Y:Nat->Prop},Ig w ps S Y->Fw S o->K.On w px ps 0->∀A_:Nat,A_<=1000->Ct 22 #[PV ps,PV px,Xi A_] w fun e w'=>∃pm,e=.returned (.tuple #[PV pm,Xi 0])/\Ic w' pm px ps A_/\D_ w w'/\w.1.size<=pm
abbrev yB(l_ t:Int)(K:jo):Prop:=yA l_ t K (dT K fun _=>True)
theorem Mj{ps t d:Nat}{x:Bt (d+1)}(hx:Bt.Walk S o t x)(h:Ig w ps S Y)(hd:d<40):
 Cb 173 #[PV ps,Xi t,Xu (Bt.hd x)] w (Xi ((d+1:Nat):Int)):=by
 have a2:=kZ h hx.fit.inv hx.t1 hx.t2;have an:=fun W (hW:D_ w W) (d':Nat) (y:Bt (d'+1)) (hy:Bt.Walk S o t y)=>kI (h.a_ hW) hy.fit.inv hy.read;unfold FH at an;have HG:=kq3 a2 an hx;clear a2 an hx h;go_enter func173,ntmps173;go_wp2_with fail;refine Jc HG.a ?_;go_wp2_with fail
 go_loopw [2,6,7,8,9,24,32] (fun s2 _ s7 _ _ _ _ wr=>∃(j d':Nat) (y:Bt (d'+1)),s2=Xu (Bt.hd y)/\s7=Xi j/\j<=d/\Hid (j+d'=d/\Bt.Walk S o t y/\D_ w wr)) (fun _ _ s7 _ _ _ _ _=>40-(intOf s7).toNat)
 case atStart=>exact⟨0,d,x,rfl,rfl,o_,o_,HG.c,aa _ _⟩
 case round=>
  obtain⟨j,d',y,rfl,rfl,hj,J0⟩:=hrel;have a9:((j:Int)==40)=false:=m_
  have hg:=HG.b wr J0.O.2.2 d' y J0.O.2.1;have HE:=If hg;obtain⟨hy,ar⟩:=Ii (Bt.hd y);rw[ar] at HE;rw[ar];clear hg ar;go_wp2_with fail;refine HE.O.M ?_;rintro e w2 ⟨vk,vv,vc,rfl,hr,hb⟩;obtain⟨kA,kc,rfl⟩:=hr.k.E_;obtain⟨vA,vC,rfl⟩:=hr.v.E_;obtain⟨cA,cc,rfl⟩:=hr.c.E_;unfold eC;have ad:=J0.O.2.1.ok.2.1;obtain⟨m,hm⟩:=Ii (Bn.ks y).length;have lc:(Bt.bn y).A6.length=m:=by rw[<-hm];exact am _
  have a6:=J0.O.2.1.es.2.2;rw[hm] at ad;rw[lc];have A1:=b_ J0.O.2.2 hb;obtain⟨nk,a4⟩:=Ii (Bt.bn y).j_.length;obtain⟨nv,a5⟩:=Ii (Bt.bn y).C9.length;obtain⟨z,hz⟩:=Ii (Bt.bn y).size;rw[a4,a5,hz];have N1:=c_ w2 (.cells #[.slice kA nk kc,.slice vA nv vC,.slice cA m cc,Xu z] 215);have q1:=heap_alloc_new w2 (.cells #[.slice kA nk kc,.slice vA nv vC,.slice cA m cc,Xu z] 215);obtain⟨W2,a8⟩:=Ii (w2.alloc (.cells #[.slice kA nk kc,.slice vA nv vC,.slice cA m cc,Xu z] 215));rw[a8] at N1 q1;have B1:=b_ A1 N1;have ai:=hr.c.at (w':=W2) fun g e=>N1.block g (hr.c.ge g e).2;clear a4 a5 hz N1 A1 hb hr
  rcases(show d'=0\/∃d2,d'=d2+1 by rcases d' with _ | d2<;>simp) with rfl | ⟨d2,rfl⟩
  ·rw[if_pos rfl] at ad;have f1:((m:Int)==0)=true:=by rw[ad];rfl
   have f2:(m==0)=true:=by rw[ad];rfl
   have a1:j=d:=by have:=J0.O.1;omega
   have HB:=kq2 B1 a1;obtain⟨y0,y1,y2,y3⟩:=Fy q1;clear B1 lc ad a1 ai q1 hm a6;go_wp2_with fail;go_ret;exact⟨by rw[HB.b];rfl,HB.a⟩
  ·rw[if_neg o_] at ad;have au:0<(Bn.ks y).length:=o_
   have f1:((m:Int)==0)=false:=m_
   have f2:(m==0)=false:=m_
   have f3:(0:Int)<m:=o_
   obtain⟨bc,c3,e3,_,a7⟩:=ai.cell_at (j:=0) (by rw[lc];omega);obtain⟨rfl,rfl⟩:cA=some (y_ bc)/\cc=c3:=by cases e3;exact⟨rfl,rfl⟩
   obtain⟨kid,a0⟩:=Ii ((Bn.ks y)[0]'(au));have rc:W2.cell? (y_ bc)=some (Xu (Bt.hd kid)):=by rw[a7,<-a0];simp[Bt.bn]
   have a3:kid∈Bn.ks y:=a0▸ao au;have HB:=kq2 B1 (J0.O.2.1.kid a3);obtain⟨y0,y1,y2,y3⟩:=Fy q1;have a':j+(d2+1)=d:=J0.O.1;clear B1 lc ad ai q1 hm a6 e3 a7 a0 a3 au;obtain⟨ba,ap⟩:=Ii (Bt.hd kid);rw[ap] at rc;have HQ:=If ap;clear ap;go_wp2_with fail;go_roundw
   case rel=>exact⟨j+1,d2,kid,by rw[HQ.O],s_,o_,o_,HB.b,HB.a⟩
   case measure=>simp[intOf];omega
theorem KC{ps t d:Nat}{x:Bt (d+1)}(hx:Bt.Walk S o t x)(h:Ig w ps S Y)(hd:d<40)(hn:(Bt.h_ x).length<=S.words / (6*t)+1)(hl:(Bt.its x).length<=5000):
 Ct 74 #[PV ps,Xi t,Xu (Bt.hd x)] w fun e w'=>∃v,e=.returned v/\py w' w.1.size v (Bt.its x)/\D_ w w':=by
 have ap:=kZ h hx.fit.inv hx.t1 hx.t2;have B0:=c_ w (Xc ps t);have q0:=heap_alloc_new w (Xc ps t);have ad:=KB (h.a_ B0) hx.t1 hx.t2;obtain⟨W0,an⟩:=Ii (w.alloc (Xc ps t));rw[an] at B0 q0 ad;obtain⟨N,hN⟩:=Ii (S.words / (6*t)+1);rw[hN] at ad hn;have ar:N<=100000:=by
  have:=nB h;have:S.words / (6*t)<=S.words / 12:=Nat.div_le_div_left (by have:=hx.t1;omega) o_;omega
 have ai:=fun(w1:World) (v:Value) (bl:Nat) (hL:cu w bl w1 v [] N)=>Mf (d+1) x hx (dp:=0) h hL o_ hn ar (by simpa using hl);unfold FH at ad ai;obtain⟨x0,x1⟩:=Fp q0;have HG:=kq5 ap ad ai B0 q0;clear ap ad ai B0 q0 h hN hn hl hx;go_enter func74,ntmps74;go_wp2_with fail;refine Jc HG.a ?_;go_wp2_with fail;refine dR HG.b fun w1 hb1=>?_;have q1:=(hb1.block w.1.size (gl HG.e)).T HG.e;have B1:=b_ HG.d hb1;have A2:=c_ w1 (Xh N);have q2:=(A2.block w.1.size (gl q1)).T q1;have B2:=b_ B1 A2;have b2:=heap_alloc_new w1 (Xh N);clear an x0 x1;obtain⟨W1,au⟩:=Ii (w1.alloc (Xh N));rw[au] at q2 B2 b2;obtain⟨x0,x1⟩:=Fp q2;have H2:=If (show cu w w1.1.size W1 n_ [] N from⟨B2,World.ownsRow_nil _ _ _ _,b2,B1.size⟩);clear hb1 q1 B1 A2 q2 B2 b2;go_wp2_with fail;refine(HG.c W1 _ _ H2.O).M ?_;rintro e w3 ⟨v3,rfl,h3,k3⟩;have H3:=kq2 h3.own h3.bel;clear h3 k3;go_wp2_with fail;go_ret;exact⟨_,rfl,H3.O⟩
structure qW (w:World) (ps:Nat) (S:St) (Y:Nat->Prop) (D:Nat) (v:Value) (L:List Nat):Prop where
 st:Ig w ps S (fun k=>Y k\/v.ownBlock=some k)
 own:FE w D v L
 lo:fy<D/\D<=w.1.size
 off:∀g,v.ownBlock=some g->¬Y g
section
variable {w w':World}{ps D:Nat}{S:St}{Y Z:Nat->Prop}{v:Value}{L:List Nat}
theorem qW.wide(h:qW w ps S Y D v L)(hb:D_ w w'):qW w' ps S (fun k=>Y k\/(w.1.size<=k/\k<w'.1.size)) D v L:=by
 refine⟨(h.st.wide hb).M fun k hk=>?_,h.own.at fun g e=>hb.block g (h.own.ge g e).2,⟨h.lo.1,aH h.lo.2 hb.size⟩,fun g e hk=>?_⟩
 ·rcases hk with (hk | hk) | hk
  ·exact ab (ab hk)
  ·exact ae hk
  ·exact ab (ae hk)
 ·rcases hk with hk | hk
  ·exact h.off g e hk
  ·have:=(h.own.ge g e).2;omega
theorem qW.M(h:qW w ps S Y D v L)(hz:∀k,Z k->Y k):qW w ps S Z D v L:=⟨h.st.M fun k hk=>hk.imp (hz k) id,h.own,h.lo,fun g e hk=>h.off g e (hz g hk)⟩
theorem qW.a_(h:qW w ps S Y D v L)(hb:D_ w w'):qW w' ps S Y D v L:=(h.wide hb).M fun _ hk=>ab hk
theorem qW.append(h:qW w ps S Y D v L)(hl:L.length<=100000)(x:Nat)(ty:TypeId):
 ∃v' w',(Builtin.append_ #[59,59] ty #[v,.slice (some (y_ w.1.size)) 1 1]).run prog (w.alloc (Xf x))=.ok v' w'/\qW w' ps S Y D v' (L++[x])/\Fo Y w w'/\Below D w w':=by
 obtain⟨v2,w2,ar,ai,ad,an⟩:=jF h.own hl x h.lo.2 ty;have ap:∀k,Y k->k<w.1.size:=fun k hk=>h.st.yl k (ab hk);refine⟨v2,w2,ar,⟨h.st.row h.lo.1 h.own ai ad an,ai,⟨h.lo.1,aH h.lo.2 ad.size⟩,fun g e hk=>?_⟩,⟨ad.os,ad.tape,ad.output,ad.size,fun k hk=>ad.block k (ap k hk) fun e=>h.off k e.S hk⟩,ad.os,ad.tape,ad.output,ad.size,fun k hk=>ad.block k (aB hk h.lo.2) fun e=>by have:=(h.own.ge k e.S).1;omega⟩
 rcases an with q | ⟨g',q,hg⟩
 ·rw[q] at e;exact h.off g e hk
 ·rw[q] at e;obtain rfl:g'=g:=Option.some.inj e;have:=ap _ hk;omega
end
theorem Mg {ps t:Nat}{S:St}{o:Nat->Nat}:∀(d:Nat) (x:Bt d),Bt.Walk S o t x->∀{w:World} {Y:Nat->Prop} {D most dp:Nat} {v:Value} {L:List Nat},qW w ps S Y D v L->dp+d<=40->L.length+(Bt.h_ x).length<=most->most<=100000->
 Ct 80 #[FH ps t,v,Xu (Bt.hd x:Nat),Xi most,Xi dp] w fun e w'=>∃v',e=.returned v'/\qW w' ps S Y D v' (L++Bt.h_ x)/\Fo Y w w'/\Below D w w':=by
 intro d;induction d with
 | zero=>exact fun x=>nomatch x
 | succ d ih=>
  intro x hx w Y D most dp v L h hd hl hm;have hn:(Bt.h_ x).length=1+((Bn.ks x).map fun k=>Bt.h_ k).flatten.length:=by
   show (Bn.h x::((Bn.ks x).map fun k=>Bt.h_ k).flatten).length=_
   rw[aj,Nat.add_comm]
  have B0:=c_ w (Xc ps t);have q0:=heap_alloc_new w (Xc ps t);have z0:(w.alloc (Xc ps t)).1.size=w.1.size+1:=s_
  have hg:=kI ((h.a_ B0).st) hx.fit.inv hx.read;obtain⟨A,c,rfl⟩:=h.own.E_;have a5:((most:Int)<=(L.length:Int))=False:=eq_false o_;have a3:((dp:Int)==40)=false:=m_
  have HG:=kq7 hg h B0 q0 ih hx hl;unfold FH;obtain⟨c0,c1⟩:=Fp q0;clear hg h B0 q0 ih hl hx;go_enter func80,ntmps80;go_wp2_with fail;refine HG.a.M ?_;rintro e w1 ⟨vk,vv,vc,rfl,hr,hb⟩;obtain⟨kA,km,kc,rfl⟩:=hr.k.slice;obtain⟨vA,vm,vC,rfl⟩:=hr.v.slice;obtain⟨cA,cc,rfl⟩:=hr.c.E_;unfold eC;obtain⟨n,au⟩:=Ii (Bt.bn x).size;obtain⟨m,ai⟩:=Ii (Bt.bn x).A6.length;have an:m=(Bn.ks x).length:=by rw[<-ai];exact am _
  have a6:m<=100:=by
   have h1:=HG.f.ok.1;have h2:=HG.f.ok.2.1;have:=HG.f.t2;rw[an];split at h2<;>omega
  rw[au,ai];have A1:=c_ w1 (.cells #[.slice kA km kc,.slice vA vm vC,.slice cA m cc,Xu n] 215);have q1:=heap_alloc_new w1 (.cells #[.slice kA km kc,.slice vA vm vC,.slice cA m cc,Xu n] 215);have C1:=b_ HG.c hb;have C2:=b_ C1 A1;have o2:=HG.b.wide C2;have z2:(w1.alloc (.cells #[.slice kA km kc,.slice vA vm vC,.slice cA m cc,Xu n] 215)).1.size=w1.1.size+1:=s_
  have s1:=C1.size;obtain⟨v3,w3,ap,o3,k3,e3⟩:=o2.append (by have:=HG.g;omega) (Bt.hd x) 59;have bl:∀k,w.1.size<=k->k<w1.1.size+1->w3.1[k]?=(w1.alloc (.cells #[.slice kA km kc,.slice vA vm vC,.slice cA m cc,Xu n] 215)).1[k]?:=fun k h1 h2=>k3.block k (ae ⟨h1,by rw[z2];exact h2⟩);have q3:=(bl w1.1.size s1 o_).T q1;have t3:=(bl w.1.size Ih o_).T ((A1.block _ (by have:=hb.size;omega)).T ((hb.block _ o_).T HG.d));obtain⟨b0,b1,b2,b3⟩:=Fy q3;rw[z2] at o3 k3 ap;have C_:∀W,Fo (fun k=>Y k\/(w.1.size<=k/\k<w1.1.size+1)) w3 W->FD W (.slice cA m cc) ((Bn.ks x).map Bt.hd):=fun W hW=>by
   have hw:=hr.c;rw[ai] at hw;refine hw.C_.keeps fun g e _=>?_;have ar:=hw.ge g e;rw[z0] at ar;exact(hW.block g (ae ⟨o_,o_⟩)).T ((bl g o_ o_).T (A1.block g ar.2))
  have o3:qW w3 ps S (fun k=>Y k\/(w.1.size<=k/\k<w1.1.size+1)) D v3 (L++Bt.hd x::(((Bn.ks x).take 0).map fun k=>Bt.h_ k).flatten):=o3;have H3:=kq4 o3 C_ t3 (k3.M (Z:=Y) fun k hk=>ab hk);have a1:=If (Fo.v_ C2 fun k hk=>HG.b.st.yl k (ab hk):Fo Y w _);have HE:=If ((C2.M HG.b.lo.2).T e3);have HB:=kq4 s1 hn an hm;clear e3 hn au ai an hm o3 C_ t3 k3 q3 bl q1 C1 C2 o2 A1 hr hb s1 z0 z2;go_wp2_with (at_builtin;refine Lib.wpList_append_run _ rfl _ _ _ _ rfl _ _ rfl rfl _ _ ap ?_)
  clear b0 b1 b2 b3 c0 c1 ap;go_loopw [1,14,41] (fun s1 _ s41 wr=>∃j:Nat,s41=Xi j/\j<=m/\Hid (qW wr ps S (fun k=>Y k\/(w.1.size<=k/\k<w1.1.size+1)) D s1 (L++Bt.hd x::(((Bn.ks x).take j).map fun k=>Bt.h_ k).flatten)/\Fo (fun k=>Y k\/(w.1.size<=k/\k<w1.1.size+1)) w3 wr/\Below D w3 wr)) (fun _ _ s41 _=>m-(intOf s41).toNat)
  case atStart=>exact⟨0,rfl,o_,H3.a,Fo.refl _ _,aa _ _⟩
  case round=>
   obtain⟨j,rfl,a4,J0⟩:=hrel;by_cases hj:j<m
   ·have a2:(j:Int)<m:=o_
    have ad:j<(Bn.ks x).length:=by have:=HB.c;omega
    obtain⟨g,o5,rfl,r0⟩:=(H3.b _ J0.O.2.1).at (af ad);have t5:=(J0.O.2.1.block w.1.size (ae ⟨Nat.le_refl _,by have:=HB.a;omega⟩)).T H3.c;obtain⟨c0,c1⟩:=Fp t5;have a0:(L++Bt.hd x::(((Bn.ks x).take j).map fun k=>Bt.h_ k).flatten).length+(Bt.h_ (Bn.ks x)[j]).length<=most:=by
     have h1:=HG.g;rw[HB.b] at h1;have h2:(((Bn.ks x).take (j+1)).map fun k=>Bt.h_ k).flatten.length<=((Bn.ks x).map fun k=>Bt.h_ k).flatten.length:=by
      conv=>rhs;rw[<-aU (j+1) (Bn.ks x),aN,cg,ag]
      omega
     rw[aw ad,aN,cg,ag] at h2;simp only[bi,List.map_nil,dy,List.flatten_nil,aW] at h2;simp only[ag,aj];omega
    have hi:=HG.e (Bn.ks x)[j] (HG.f.kid (ao ad)) (dp:=dp+1) (most:=most) J0.O.1 o_ a0 HB.d;have HI:=If hi;clear hi a0 t5;unfold FH at HI;go_wp2_with fail;refine HI.O.M ?_;rintro e w5 ⟨v5,rfl,o5,k5,e5⟩;have H5:=kq3 o5 (J0.O.2.1.T k5) (J0.O.2.2.T e5);clear o5 k5 e5 c0 c1 r0;go_wp2_with fail;go_roundw
    case rel=>
     refine⟨j+1,s_,o_,?_,H5.O.2⟩;have:=H5.a;rw[aV] at this;rw[aw ad,aN,cg,bi,List.map_nil,dy,List.flatten_nil,aW];exact this
    case measure=>simp[intOf];omega
   ·obtain rfl:j=m:=o_
    have a2:¬(j:Int)<j:=o_
    have h1:=J0.O.1;rw[aQ (Nat.le_of_eq HB.c.S)] at h1;have H5:=kq2 (h1.M (Z:=Y) fun k hk=>ab hk) (H3.d.T (J0.O.2.1.M fun k hk=>ab hk));clear h1;go_wp2_with fail;go_ret;exact⟨_,rfl,H5.a,(a1.O).T H5.b,HE.O.T J0.O.2.2⟩
theorem FE.base {w:World}{B B':Nat}{v:Value}{l:List Nat}(h:FE w B v l)(hB:B'<=B):FE w B' v l:=
 ⟨h.1,h.2.imp id fun⟨g,cap,cur,a,b,c⟩=>⟨g,cap,cur,a,aH hB b,c⟩⟩
def Bt.NodesOf(S:St)(o:Nat->Nat)(t f9:Nat)(L:List (List UInt8×List UInt8))(R N:List Nat):Prop:=
 (Empty S o t/\f9=0/\L=[]/\R=[]/\N=[])\/∃(d:Nat) (x:Bt (d+1)),Tree S o t x/\f9=hd x/\L=F_ (its x)/\R=recs x/\N=Bt.h_ x
theorem Bt.Tree.many {S:St}{o:Nat->Nat}{t d:Nat}{x:Bt (d+1)}(h:Tree S o t x):(Bt.h_ x).length<=S.words / (6*t):=by
 have t1:=h.t1;have:=Nv h.fit (n:=6*t) o_ h.h_ fun y hy=>by
  obtain⟨n,hn⟩:=h.at'.rec y hy;exact⟨_,hn,by rw[jJ];omega⟩
 unfold St.words;rw[Nat.le_div_iff_mul_le o_,Nat.mul_comm _ 64];exact this
theorem Mh {w:World}{ps:Nat}{S:St}{o:Nat->Nat}{Y:Nat->Prop}(h:Ig w ps S Y)(hf:Fw S o){t:Nat}(t1:2<=t)(t2:t<=16)(z:Nat):
 Cb 80 #[FH ps t,n_,Xu 0,Xi z,Xi 0] w n_:=by
 have B0:=c_ w (Xc ps t);have q0:=heap_alloc_new w (Xc ps t);have hg:=nQ (h.a_ B0) hf.inv t1 t2 0 o_ (oy (rZ hf));unfold FH eC at hg;obtain⟨c0,c1⟩:=Fp q0;have HG:=kq2 hg B0;clear hg B0 h hf q0;unfold FH;go_enter func80,ntmps80;go_wp2_with fail;refine dR HG.a fun w1 hb1=>?_;have B1:=b_ HG.b hb1;have H1:=If (B1.alloc B1.size (.cells #[n_,n_,n_,Xu 0] 215));clear hb1 B1 c0 c1;go_wp2_with fail;go_ret;exact⟨rfl,H1.O⟩
theorem KD {w:World}{ps t f9:Nat}{S:St}{o:Nat->Nat}{Y:Nat->Prop}{L:List (List UInt8×List UInt8)}{R:List Nat}(h:Ig w ps S Y)(hH:Bt.Holds S o t f9 L R):
 Ct 40 #[PV ps,Xi t,Xu f9] w fun e w'=>∃v N,e=.returned v/\FE w' w.1.size v N/\D_ w w'/\N.length<=50000/\Bt.NodesOf S o t f9 L R N:=by
 obtain⟨t1,t2⟩:=hH.deg;have hf:=hH.fit;have ar:=kZ h hf.inv t1 t2;have B0:=c_ w (Xc ps t);have q0:=heap_alloc_new w (Xc ps t);have ai:=KB (h.a_ B0.drew) t1 t2;have a2:=nB h;have au:=J8 h;have an:∀W,D_ w W->Ct 80 #[FH ps t,n_,Xu f9,Xi (S.words / (6*t)+1:Nat),Xi 0] W fun e w'=>∃v N,e=.returned v/\FE w' W.1.size v N/\D_ W w'/\N.length<=50000/\Bt.NodesOf S o t f9 L R N:=fun W hW=>by
  have a3:S.words / (6*t)<=22000:=by
   rw[<-Nat.lt_succ_iff,Nat.div_lt_iff_lt_mul o_];omega
  have hO:qW W ps S Y W.1.size n_ []:=⟨(h.a_ hW).M (fun k hk=>hk.elim id (fun e=>nomatch e)),World.ownsRow_nil _ _ _ _,⟨aB au hW.size,Nat.le_refl _⟩,(fun g e=>nomatch e)⟩
  rcases hH with⟨hE,rfl,rfl,rfl⟩ | ⟨d,x,hx,rfl,rfl,rfl⟩
  ·refine(Mh (h.a_ hW) hE.fit t1 t2 _).M ?_;rintro e w' ⟨rfl,hb⟩;exact⟨_,[],rfl,World.ownsRow_nil _ _ _ _,hb,cC _,ab ⟨hE,rfl,rfl,rfl,rfl⟩⟩
  ·refine(Mg (d+1) x hx.walk (dp:=0) hO (by have:=hx.low;omega) (by have:=hx.many;simp;omega) o_).M ?_;rintro e w' ⟨v',rfl,h1,h2,h3⟩;exact⟨v',_,rfl,h1.own,h3,by have:=hx.many;simp;omega,ae ⟨d,x,hx,rfl,rfl,rfl,rfl⟩⟩
 unfold FH at ai an;generalize S.words / (6*t)+1=z at*;have HG:=kq5 ar ai an B0 q0;obtain⟨I,ap,ad⟩:=ic fun w'=>w'.1[w.1.size]?=some (Xc ps t);have a0:=fun x:Fq I=>ap _ x.ok;obtain⟨m0,m1⟩:=mt a0;have a1:I (w.alloc (Xc ps t)).drew:=ad _ q0;have HI:=If ad;clear ar ai an B0 q0 h hH hf ap ad a0 a2 au;go_enter func40,ntmps40;go_wp2_with fail;refine Jc HG.a ?_;go_wp2_with fail;refine fh I (.take 0 (.take 1 (.take 2 (.go 3 (.go 4 (.go 5 .nil)))))) k_ k_ a1 ?_
 iterate 3
  refine pT_ ?_
  try simp only[pu]
 refine pD fun K hK=>?_;go_simp;refine dR HG.b fun w1 hb1=>?_;have B1:=b_ HG.d.drew hb1;have q1:=(hb1.block w.1.size (gl HG.e)).T HG.e;have H1:=kq2 B1 q1;clear hb1 B1 q1
 try go_simp
 refine hK.O _ _ (HI.O _ H1.b) ?_;clear hK K
 try simp only[pu]
 refine pD fun K hK=>?_;go_simp;refine(HG.c _ H1.a).M ?_;rintro e w2 ⟨v,N,rfl,h2,h3,h4⟩;have H2:=kq4 (FE.base h2 H1.a.size) (b_ H1.a h3) h4 ((h3.block w.1.size (gl H1.b)).T H1.b);clear h2 h3 h4
 try go_simp
 refine hK.O _ _ (HI.O _ H2.d) ?_;clear hK K
 try simp only[pu]
 refine pD fun K hK=>?_;go_simp
 try go_simp
 refine hK.O _ _ (HI.O _ H2.d) ?_;clear hK K
 try simp only[pu]
 refine eP ?_;go_wp2_with fail;go_ret;exact⟨_,N,rfl,H2.a,H2.b,H2.c⟩
structure JJ (W0 w2:World) (b:Nat) (N:List Nat) (L:List It) (v:Value) (j:Nat) (W:World):Prop where
 bel:D_ W0 W
 own:FE W W0.1.size v (N++ff (L.take j))
 it:W.1[b]?=w2.1[b]?
 ne:v.ownBlock≠some b
 lt:b<W.1.size
theorem JJ.a_ {W0 w2 W W':World}{b j:Nat}{N:List Nat}{L:List It}{v:Value}(h:JJ W0 w2 b N L v j W)(hb:D_ W W'):JJ W0 w2 b N L v j W':=
 ⟨b_ h.bel hb,oJ h.own hb,(hb.block _ h.lt).T h.it,h.ne,aB h.lt hb.size⟩
theorem Le {L:List It}{j:Nat}(hj:j<L.length):ff (L.take (j+1))=ff (L.take j)++[L[j].kh,L[j].vh]:=by
 rw[aw hj,nO];rfl
theorem Kd(L:List It):(ff L).length=2*L.length:=by
 induction L with
 | nil=>rfl
 | cons d L ih=>
  have:ff (d::L)=[d.kh,d.vh]++ff L:=rfl;rw[this,ag,ih]
  simp
  omega
theorem Bt.NodesOf.of {S:St}{o:Nat->Nat}{t d:Nat}{x:Bt (d+1)}{N:List Nat}{r:Nat}(h:Bt.NodesOf S o t r (F_ (Bt.its x)) (Bt.recs x) N):N=Bt.h_ x:=by
 rcases h with⟨_,_,_,h,_⟩ | ⟨d',x',ad,_,h2,h3,rfl⟩
 ·have:(Bt.recs x).length=0:=by rw[h];rfl
  unfold Bt.recs at this;rw[ag] at this;have:=List.length_pos_of_mem (Bt.hd_mem x);omega
 ·have hl:(Bt.its x').length=(Bt.its x).length:=by
   have:=congrArg List.length h2
   simpa[F_] using this.S
  unfold Bt.recs at h3;exact((List.append_inj' h3 (by rw[Kd,Kd,hl])).1).S
theorem qIbab{P:Prop}(h:P:=by
 injection e with e _ _
 injection e with e
 injection e with e
 subst e;exact⟨h1,h2⟩):P:=h
theorem Mi {ps t d:Nat}{S:St}{o:Nat->Nat}{x:Bt (d+1)}(hT:Bt.Tree S o t x){w:World}{Y:Nat->Prop}(h:Ig w ps S Y)(hl:(Bt.its x).length<=1000):
 Cb 133 #[PV ps,Xi t,Xu (Bt.hd x)] w (Xi 0):=by
 have hx:=hT.walk;have hf:=hT.fit;have hd:d<40:=Nat.lt_trans hT.low d_;have b4:=kZ h hf.inv hx.t1 hx.t2;have B0:=c_ w (Xc ps t);have q0:=heap_alloc_new w (Xc ps t);obtain⟨W0,bc⟩:=Ii (w.alloc (Xc ps t));have a0:w.1.size<W0.1.size:=by rw[<-bc];simp
 rw[bc] at B0 q0;have ck:=KD (h.a_ B0) (ae ⟨d,x,hT,rfl,rfl,rfl⟩);have b2:=fun(W:World) (hW:D_ w W)=>Mj hx (h.a_ hW) hd;have bk:=fun(W:World) (hW:D_ w W)=>Me (d+1) x hx (h.a_ hW) (top:=true) hT.pos o_ o_;rw[show ((d+1:Nat):Int)-1=(d:Int) by omega] at bk;have cb:=fun(W:World) (hW:D_ w W)=>KC hx (h.a_ hW) hd (Nat.le_succ_of_le hT.many) o_;have cq:=fun(W:World) (hW:D_ w W)=>Lg (h.a_ hW) x hx;have bx:=fun(W:World) (hW:D_ w W) (a:It) (ha:a∈Bt.its x)=>And.intro (JV (h.a_ hW) hf (hT.F4 a ha).lk (hT.F4 a ha).k) (JV (h.a_ hW) hf (hT.F4 a ha).lv (hT.F4 a ha).v);have b9:=fun(W:World) (hW:D_ w W) (a:It) (ha:a∈Bt.its x)=>zK (h.a_ hW) hf.inv t a.kh (Bt.blobs_lt hf (hT.F4 a ha)).1 (jt hf (hT.F4 a ha).lk (hT.F4 a ha).k);have cp:¬Bt.hd x=0:=fun e=>by
  obtain⟨n,q⟩:=hT.at'.rec _ (Bt.hd_mem x);rw[e,rZ hf] at q
  cases q
 have hlt:∀y∈Bt.recs x,y<2^64:=fun y hy=>by
  cases e:i_ S y with
  | none=>exact absurd e (hT.has y hy)
  | some r=>exact(fL hf e).2.1
 have cj:(Bt.recs x).Nodup:=aF.2 ⟨hT.h_,hT.texts,fun a ha b hb e=>hT.apart a ha (e▸hb)⟩;have HR:=kq4 hlt cj hT B0;have HC:=kq6 b2 bk cb cq bx b9;have HN:=kq3 ck b4 q0;obtain⟨r,hr⟩:=Ii (Bt.hd x);rw[hr] at HC HN cp⊢;obtain⟨n,hn⟩:=Ii (Bt.its x).length;rw[hn] at hl;have HE:=If hn;unfold FH at HC;clear ck b2 bk cb cq bx b9 hlt cj b4 q0 B0 hx hf h hr hn;have c9:IntKind.i64.wrap (d:Int)=(d:Int):=ax _ o_;have dp:(r==0)=false:=by simp[cp]
 go_enter func133,ntmps133;go_wp2_with fail;refine Jc HN.b ?_;go_wp2_with fail;refine HN.a.M ?_;rintro e w1 ⟨v1,N,rfl,ho,ar,c3,bt⟩;obtain rfl:=Bt.NodesOf.of bt;have ai:Bt.h_ x≠[]:=List.ne_nil_of_mem (Bt.hd_mem x);obtain⟨b1,c1,rfl,_⟩:=ho.some (di.2 ai);have au:=fun(W:World) (hW:D_ w1 W)=>Lo (oJ ho hW) o_ ai hT.h_ fun y hy=>HR.a y (aD _ hy);obtain⟨nn,bm⟩:=Ii (Bt.h_ x).length;rw[bm] at au⊢;have dn:nn<=50000:=o_
 have cw:∀W,D_ w1 W->D_ w W:=fun W hW=>HR.d.T ((b_ ar hW).M (Nat.le_of_lt a0));have H1:=kq6 au ho ar cw ai bm;obtain⟨I,ap,ad⟩:=ic fun w'=>∀k,k<w1.1.size->w'.1[k]?=w1.1[k]?;have a2:=fun x:Fq I=>(ap _ x.ok w.1.size (aB a0 ar.size)).T ((ar.block _ a0).T HN.c);obtain⟨m0,m1⟩:=mt a2;have a5:I w1.drew:=ad _ fun _ _=>rfl;have HI:=If ad;clear au ho ar c3 ai bm ap ad a2 bt bc cw;go_wp2_with fail;refine fh I (.take 0 (.go 1 (.take 2 (.take 3 (.take 4 (.take 5 (.take 6 (.take 7 (.go 8 (.take 9 (.go 10 (.take 11 (.take 12 .nil))))))))))))) k_ k_ a5 ?_;refine pT_ ?_
 try simp only[pu]
 refine pD fun K hK=>?_;go_simp;refine dR (H1.a _ (aa _ w1).drew) fun w3 hb3=>?_;have B3:D_ w1 w3:=(aa _ w1).drew.T hb3;have a3:=If B3;clear hb3 B3
 try go_simp
 refine hK.O _ _ (HI.O _ a3.O.block) ?_;clear hK K
 try simp only[pu]
 iterate 6
  refine pT_ ?_
  try simp only[pu]
 refine pD fun K hK=>?_;go_simp;refine dR (HC.a _ (H1.d _ a3.O)) fun w4 hb4=>?_;have a4:=If (b_ a3.O hb4);clear hb4
 try go_simp
 refine hK.O _ _ (HI.O _ a4.O.block) ?_;clear hK K
 try simp only[pu]
 refine pT_ ?_
 try simp only[pu]
 refine pD fun K hK=>?_;go_simp;refine dR (HC.b _ (H1.d _ a4.O)) fun w5 hb5=>?_;have a1:=If (b_ a4.O hb5);clear hb5
 try go_simp
 refine hK.O _ _ (HI.O _ a1.O.block) ?_;clear hK K
 try simp only[pu]
 iterate 2
  refine pT_ ?_
  try simp only[pu]
 refine eP ?_;clear a5;go_wp2_with fail;refine(HC.c _ (H1.d _ a1.O)).M ?_;rintro e w6 ⟨v6,rfl,a7,bj⟩;have bo:0<(Bt.its x).length:=by
  have h1:=Bt.pow_le t HR.c.t1 HR.c.ok HR.c.pos;have h2:=Nat.two_pow_pos d;rw[Nat.pow_succ] at h1;omega
 obtain⟨b,c,rfl,-,-,-⟩:=a7.cell_at bo;have b0:∀(j:Nat) (hj:j<(Bt.its x).length),w6.cell? ⟨b,j*2,none⟩=some (Xu (Bt.its x)[j].kh)/\w6.cell? ⟨b,j*2+1,none⟩=some (Xu (Bt.its x)[j].vh):=fun j hj=>by
  obtain⟨b',c',e,_,h1,h2⟩:=a7.cell_at hj;exact qIbab
 have bv:w5.1.size<=b/\b<w6.1.size:=World.ownsRow.lt a7 b rfl;have bq:=a1.O.size;have K0:JJ W0 w6 b (Bt.h_ x) (Bt.its x) (.slice (some (y_ b1)) nn c1) 0 w6:=by
  have o:=oJ H1.b (a1.O.T (bj.M bq));have hg:=(FE.ge H1.b b1 rfl).2;rw[H1.f] at o;refine⟨H1.c.T ((a1.O.T (bj.M bq)).M H1.c.size),?_,rfl,fun e=>?_,bv.2⟩
  ·rw[bW]
   show FE w6 W0.1.size _ (Bt.h_ x++[])
   rw[aW];exact o
  ·have e:b1=b:=by simpa[Value.ownBlock] using e
   omega
 have HK:=kq3 K0 b0 bo;clear K0 b0 bo a7 bj bq bv;rw[HE.O];go_wp2_with fail
 go_loopg [9,11,12,13,14,15,16,51] n (fun k s9 _ _ _ _ _ _ s51 wr=>∃j:Nat,s51=Xi j/\j<=n/\n-j<=k/\Hid (JJ W0 w6 b (Bt.h_ x) (Bt.its x) s9 j wr))
 case atStart=>exact⟨0,rfl,o_,o_,HK.a⟩
 case round=>
  obtain⟨j,rfl,hj,dc,I1⟩:=hrel
  by_cases hlt:j<n
  ·have c4:(j:Int)<n:=o_
   have a8:j<(Bt.its x).length:=by have:=HE.O;omega
   have hc:=HK.b j a8;have ha:=ao a8;have o1:=(xA (o:=j*2) I1.O.it).T hc.1;have o2:=(xA (o:=j*2+1) I1.O.it).T hc.2;have an:D_ w wr:=HR.d.T (I1.O.bel.M o_);obtain⟨a,bf⟩:=Ii ((Bt.its x)[j]);rw[bf] at o1 o2 ha;have HA:=kq2 bf ha;have A1:=c_ wr (Xe a.kh a.vh);have p1:=heap_alloc_new wr (Xe a.kh a.vh);obtain⟨W1,bu⟩:=Ii (wr.alloc (Xe a.kh a.vh));rw[bu] at A1 p1;have I2:=kq3 (I1.O.a_ A1) (b_ an A1) p1;clear hc ha bf A1 an;obtain⟨f0,f1⟩:=Fp p1;clear p1;go_wp2_with fail;refine dR (HC.e W1 I2.b a HA.b).1 fun w7 hb7=>?_;have p7:=(hb7.block _ (gl I2.c)).T I2.c;have I7:=kq3 (I2.a.a_ hb7) (b_ I2.b hb7) p7;clear hb7 f0 f1 bu o1 o2;obtain⟨f0,f1⟩:=Fp p7;clear p7;go_wp2_with fail;refine dR (HC.e w7 I7.b a HA.b).2 fun w8 hb8=>?_;have p8:=(hb8.block _ (gl I7.c)).T I7.c;have I8:=kq3 (I7.a.a_ hb8) (b_ I7.b hb8) p8;clear hb8 f0 f1 p8
   go_upto_region 16 with fail
   go_cut [92] from 52 to 100 (fun s92 wx=>s92=.bool false/\Hid (D_ w8 wx))
   case first=>
    cases j with
    | zero=>
     go_quiet (fail)
     go_wp2_with fail
     go_meet
     exact⟨rfl,rfl,rfl,rfl,Nat.le_refl _,fun _ _=>rfl⟩
    | succ k=>
     have a9:k<(Bt.its x).length:=o_
     have ba:=cJ.1 HR.c.F1 k (k+1) a9 a8 (aZ k);rw[HA.a] at ba;obtain⟨a',bd⟩:=Ii ((Bt.its x)[k]);have ch:a'∈Bt.its x:=bd▸ao a9;have hc:=(xA (o:=k*2) I8.a.it).T (HK.b k a9).1;rw[bd] at ba hc;have c7:Fu a'.k a.k<0:=ba;have dk:IntKind.i64.wrap (k:Int)=(k:Int):=ax _ o_;have dd:(k:Int)<n:=o_
     have c6:decide (0<=Fu a'.k a.k)=false:=m_
     have ca:=fun(W:World) (hW:D_ w8 W)=>HC.f W (b_ I8.b hW) a' ch;obtain⟨I,ap,ad⟩:=ic fun w'=>∀k,k<w8.1.size->w'.1[k]?=w8.1[k]?;have a2:=fun x:Fq I=>(ap _ x.ok w.1.size (aB a0 I8.a.bel.size)).T ((I8.a.bel.block _ a0).T HN.c);obtain⟨m0,m1⟩:=mt a2;have o0:∀x:Fq I,x.to.cell? ⟨b,k*2,none⟩=some (Xu (a'.kh:Nat)):=fun x=>(j9 (ap _ x.ok b I8.a.lt)).T hc;have a5:I w8.drew:=ad _ fun _ _=>rfl;have HJ:=kq2 ad ca;clear ap ad a2 hc ca ba ch bd a9;refine fh I (.take 0 (.take 1 (.take 2 (.take 3 (.take 4 (.take 5 (.take 6 (.take 7 (.take 8 (.take 9 (.take 10 (.take 11 (.take 12 (.take 13 (.take 14 (.take 15 (.take 16 (.take 18 (.go 17 (.go 19 (.take 20 (.take 21 (.take 22 .nil))))))))))))))))))))))) k_ k_ a5 ?_
     iterate 18
      refine pT_ ?_
      try simp only[pu]
     refine pD fun K hK=>?_;go_simp;refine dR (HJ.b _ (aa _ w8).drew) fun w9 hb9=>?_;have bb:Hid (D_ w8 w9):=(aa _ w8).drew.T hb9;clear hb9
     try go_simp
     refine hK.O _ _ (HJ.a _ bb.O.block) ?_;clear hK K
     try simp only[pu]
     refine pD fun K hK=>?_;go_simp;refine Jc (sT _ _ _) ?_
     try go_simp
     refine hK.O _ _ (HJ.a _ bb.O.block) ?_;clear hK K
     try simp only[pu]
     iterate 3
      refine pT_ ?_
      try simp only[pu]
     refine eP ?_;go_wp2_with fail
     go_meet
     exact⟨rfl,bb⟩
   case rest=>
    obtain⟨rfl,J⟩:=hcut;have I9:=I8.a.a_ J.O;have p9:=(J.O.block _ (gl I8.c)).T I8.c;have bs:=I9.bel.size;have cc:(Bt.h_ x++ff ((Bt.its x).take j)).length<=90000:=by
     rw[ag,Kd,aK,H1.f];omega
    obtain⟨v2,w9,c5,cn,a6,cx⟩:=Kz I9.own cc a.kh a.vh bs 59;have K9:Hid (JJ W0 w6 b (Bt.h_ x) (Bt.its x) v2 (j+1) w9):=by
     refine⟨I9.bel.grown a6 bs fun k e=>(FE.ge I9.own k e).1,?_,(a6.block b I9.lt fun e=>I9.ne e.S).T I9.it,fun e=>?_,aB I9.lt a6.size⟩
     ·rw[Le a8,HA.a,<-aV];exact cn
     ·rcases cx with q | ⟨g,q,hq⟩
      ·exact I9.ne (q▸e)
      ·rw[q] at e
       injection e with e
       have:=I9.lt;omega
    clear I9 bs cc cn a6 cx;obtain⟨f0,f1⟩:=Fp p9;clear p9
    go_wp2_with (at_builtin;refine Lib.wpList_append_run _ rfl _ _ _ _ rfl _ _ rfl rfl _ _ c5 ?_)
    go_roundg (n-(j+1))
    case rel=>exact⟨j+1,s_,o_,o_,K9⟩
    case measure=>omega
  ·obtain rfl:j=n:=o_
   have c4:¬(j:Int)<j:=o_
   have cv:(Bt.its x).take j=Bt.its x:=by rw[<-HE.O,cB]
   have ho:=I1.O.own;rw[cv] at ho;have ai:Bt.h_ x++ff (Bt.its x)≠[]:=fun e=>H1.e (List.append_eq_nil_iff.1 e).1;have au:=Lo ho (by rw[ag,Kd,HE.O,H1.f];omega) ai HR.b HR.a;have an:D_ w wr:=HR.d.T (I1.O.bel.M o_);have p:=(I1.O.bel.block _ a0).T HN.c;have H9:=kq3 au an p;clear au ho cv ai an p;go_wp2_with fail;refine dR H9.a fun w7 hb7=>?_;have p:=(hb7.block _ (gl H9.c)).T H9.c;have hs:=HC.d w7 (b_ H9.b hb7);rw[HE.O] at hs;have H7:=kq2 hs (b_ H9.b hb7);clear hs hb7;obtain⟨f0,f1⟩:=Fp p;clear p;go_wp2_with fail;refine dR H7.a fun w8 hb8=>?_;have H8:=If (b_ H7.b hb8);clear hb8;go_wp2_with fail;go_ret;exact⟨rfl,H8.O⟩
theorem Nq {w:World}{pm px ps lim t:Nat}{S:St}{o:Nat->Nat}{Y:Nat->Prop}(h:Ig w ps S Y)(hf:Fw S o)(hM:Ic w pm px ps lim)(hT:jE w px ps t 0)(t1:2<=t)(t2:t<=16):
 Ct 36 #[PV pm] w fun e w'=>∃v,e=.returned v/\FE w' w.1.size v []/\D_ w w':=by
 have an:∀W,D_ w W->Ct 40 #[PV ps,Xi t,Xu 0] W fun e w'=>∃v,e=.returned v/\FE w' W.1.size v []/\D_ W w':=fun W hW=>by
  refine(KD (f9:=0) (L:=[]) (R:=[]) (h.a_ hW) (ab ⟨⟨hf,t1,t2⟩,rfl,rfl,rfl⟩)).M ?_;rintro e w' ⟨v,N,rfl,h1,h2,_,h3⟩
  rcases h3 with⟨_,_,_,_,rfl⟩ | ⟨d,x,hx,h0,_⟩
  ·exact⟨v,rfl,h1,h2⟩
  ·exact absurd h0.S (Bt.At.hd_ok hx.fit hx.at').1
 have ai:=fun W (hW:D_ w W)=>zV (h.a_ hW) hf t1 t2;have HR:=kq4 hM hT an ai;clear h hf hM hT an ai t1 t2;unfold jE at HR;have ap:¬(0:Int)<0:=o_
 go_enter func36,ntmps36;go_wp2_with fail;refine Jc (IQ HR.a) ?_;go_wp2_with fail;refine Jc (Gh HR.a) ?_;go_wp2_with fail;refine Jc (KU HR.b) ?_;go_wp2_with fail;refine Jc (Gh HR.a) ?_;go_wp2_with fail;refine dR (KR HR.b) fun w1 hb1=>?_;have H1:=If hb1;clear hb1;go_wp2_with fail;refine(HR.c _ H1.O).M ?_;rintro e w2 ⟨v,rfl,hv,ad⟩;have H2:=kq3 hv (b_ H1.O ad) H1.O.size;clear hv ad;go_wp2_with fail;refine dR (HR.d _ H2.b) fun w3 hb3=>?_;have H3:=kq2 (FE.base2 (H2.a.at fun g e=>hb3.block g (H2.a.ge g e).2) H2.c) (b_ H2.b hb3);clear hb3;go_wp2_with fail
 go_loopw [7,9,38] (fun s7 _ s38 wq=>s7=v/\s38=Xi 0/\wq=w3) (fun _ _ _ _=>0)
 case atStart=>exact⟨rfl,rfl,rfl⟩
 obtain⟨rfl,rfl,hw⟩:=hrel;have hw:=hw.S;subst hw;go_wp2_with fail;go_ret;exact⟨_,rfl,H3.a,H3.b⟩
theorem Nz {w:World}{ps:Nat}{S:St}{Y:Nat->Prop}(h:Ig w ps S Y)(n:Int)(hn:n<0\/3998<n):
 Cb 31 #[PV ps,Xi n] w (.tuple #[Xu 0,Xi 2]):=by
 have hb:=((aa _ w).alloc Ih (Xg ps)).alloc s_ (.cells #[Xi 0] 27);have ad:=sI (h.a_ hb);have HG:=kq2 ad hb;clear ad hb h
 by_cases h0:n<0
 ·go_enter_defers func31,ntmps31
  go_wp2_with fail;refine Jc HG.a ?_;go_wp2_with fail;refine⟨.tuple #[Xu 0,Xi 2],?_,rfl,((aa _ w).alloc Ih _).alloc s_ _⟩
  simp[results,f31,go_sem]
 ·have ai:(3998:Int)<n:=o_
  go_enter_defers func31,ntmps31
  go_wp2_with fail;refine Jc HG.a ?_;go_wp2_with fail;refine⟨.tuple #[Xu 0,Xi 2],?_,rfl,((aa _ w).alloc Ih _).alloc s_ _⟩
  simp[results,f31,go_sem]
theorem Np {w:World}{pm px ps lim t d:Nat}{S:St}{o:Nat->Nat}{x:Bt (d+1)}{Y:Nat->Prop}(h:Ig w ps S Y)(hT:Bt.Tree S o t x)(hM:Ic w pm px ps lim)(hP:jE w px ps t (Bt.hd x))(hl:(Bt.its x).length<=1000):
 Ct 36 #[PV pm] w fun e w'=>∃v,e=.returned v/\FE w' w.1.size v (Bt.h_ x++ff (Bt.its x))/\D_ w w':=by
 have hx:=hT.walk;have hd:d<40:=Nat.lt_trans hT.low d_;have au:=fun(W:World) (hW:D_ w W)=>KD (h.a_ hW) (ae ⟨d,x,hT,rfl,rfl,rfl⟩);have ar:=fun(W:World) (hW:D_ w W)=>KC hx (h.a_ hW) hd (Nat.le_succ_of_le hT.many) o_;have a':0<(Bt.its x).length:=by
  have h1:=Bt.pow_le t hx.t1 hx.ok hT.pos;have h2:=Nat.two_pow_pos d;rw[Nat.pow_succ] at h1;omega
 obtain⟨r,hr⟩:=Ii (Bt.hd x);rw[hr] at au ar hP;obtain⟨n,hn⟩:=Ii (Bt.its x).length;have HE:=kq3 hn a' hl;have HR:=kq4 hM hP au ar;clear h hT hM hP au ar hx hd a' hn hl hr;unfold jE at HR;go_enter func36,ntmps36;go_wp2_with fail;refine Jc (IQ HR.a) ?_;go_wp2_with fail;refine Jc (Gh HR.a) ?_;go_wp2_with fail;refine Jc (KU HR.b) ?_;go_wp2_with fail;refine Jc (Gh HR.a) ?_;go_wp2_with fail;refine dR (KR HR.b) fun w1 hb1=>?_;have H1:=If hb1;clear hb1;go_wp2_with fail;refine(HR.c _ H1.O).M ?_;rintro e w2 ⟨v,N,rfl,hv,a3,a1,a2⟩;obtain rfl:=Bt.NodesOf.of a2;obtain⟨nn,a8⟩:=Ii (Bt.h_ x).length;have H2:=kq5 hv (b_ H1.O a3) H1.O.size a1 a8;clear hv a3 a1 a2 a8;go_wp2_with fail;refine(HR.d _ H2.b).M ?_;rintro e w3 ⟨v3,rfl,ai,ap⟩;obtain⟨b,c,rfl,-,-,-⟩:=ai.cell_at HE.b;have a5:∀(j:Nat) (hj:j<(Bt.its x).length),w3.cell? ⟨b,j*2,none⟩=some (Xu (Bt.its x)[j].kh)/\w3.cell? ⟨b,j*2+1,none⟩=some (Xu (Bt.its x)[j].vh):=fun j hj=>by
  obtain⟨b',c',e,_,h1,h2⟩:=ai.cell_at hj;exact qIbab
 have a4:w2.1.size<=b/\b<w3.1.size:=World.ownsRow.lt ai b rfl;have K0:JJ w w3 b (Bt.h_ x) (Bt.its x) v 0 w3:=by
  have hB:=b_ H2.b ap;refine⟨hB,?_,rfl,fun e=>?_,a4.2⟩
  ·rw[bW]
   show FE w3 w.1.size _ (Bt.h_ x++[])
   rw[aW];exact FE.base2 (H2.a.at fun g e=>ap.block g (H2.a.ge g e).2) H2.c
  ·have:=(H2.a.ge b e).2;omega
 have HK:=kq2 K0 a5;clear K0 a5 ai ap a4;have bf:n<=1000:=by rw[<-HE.a];exact HE.c
 rw[HE.a];go_wp2_with fail
 go_loopw [7,9,38] (fun s7 _ s38 wr=>∃j:Nat,j<=n/\s38=Xi j/\Hid (JJ w w3 b (Bt.h_ x) (Bt.its x) s7 j wr)) (fun _ _ s38 _=>n-(intOf s38).toNat)
 case atStart=>exact⟨0,o_,rfl,HK.a⟩
 case round=>
  obtain⟨j,hj,rfl,I1⟩:=hrel
  by_cases hlt:j<n
  ·have bc:(j:Int)<n:=o_
   have a6:j<(Bt.its x).length:=by have:=HE.a;omega
   have hc:=HK.b j a6;have o1:=(xA (o:=j*2) I1.O.it).T hc.1;have o2:=(xA (o:=j*2+1) I1.O.it).T hc.2;obtain⟨a,an⟩:=Ii ((Bt.its x)[j]);rw[an] at o1 o2;have HA:=If an;have A1:=c_ wr (Xe a.kh a.vh);have p1:=heap_alloc_new wr (Xe a.kh a.vh);obtain⟨W1,bb⟩:=Ii (wr.alloc (Xe a.kh a.vh));rw[bb] at A1 p1;have I9:=I1.O.a_ A1;have a0:=I9.bel.size;have a7:(Bt.h_ x++ff ((Bt.its x).take j)).length<=90000:=by
    have h1:=H2.d;have h2:=HE.c;rw[ag,Kd,aK];omega
   obtain⟨v2,w9,bd,a9,ad,ba⟩:=Kz I9.own a7 a.kh a.vh a0 59;have K9:Hid (JJ w w3 b (Bt.h_ x) (Bt.its x) v2 (j+1) w9):=by
    refine⟨I9.bel.grown ad a0 fun k e=>(FE.ge I9.own k e).1,?_,(ad.block b I9.lt fun e=>I9.ne e.S).T I9.it,fun e=>?_,aB I9.lt ad.size⟩
    ·rw[Le a6,HA.O,<-aV];exact a9
    ·rcases ba with q | ⟨g,q,hq⟩
     ·exact I9.ne (q▸e)
     ·rw[q] at e
      injection e with e
      have:=I9.lt;omega
   clear I9 a0 a7 a9 ad ba hc an A1;obtain⟨f0,f1⟩:=Fp p1;clear p1
   go_wp2_with (at_builtin;refine Lib.wpList_append_run _ rfl _ _ _ _ rfl _ _ rfl rfl _ _ bd ?_)
   go_roundw
   case rel=>exact⟨j+1,o_,s_,K9⟩
   case measure=>simp[intOf];omega
  ·obtain rfl:j=n:=o_
   have bc:¬(j:Int)<j:=o_
   go_wp2_with fail;go_ret;have ho:=I1.O.own;rw[show (Bt.its x).take j=Bt.its x by rw[<-HE.a,cB]] at ho;exact⟨_,rfl,ho,I1.O.bel⟩
def gI(L:List (List UInt8×List UInt8))(a:List UInt8):Int:=if(Bt.getL L a).isSome=true then(eK L a:Int) else(eK L a:Int)-1
structure fi (K:jo) (w W:World) (ps pm px A_ f9:Nat) (S:St) (Y:Nat->Prop) (L:List (List UInt8×List UInt8)):Prop where
 st:Ig W ps S Y
 hold:∃o R,K.Hold S o f9 L R
 on:K.On W px ps f9
 map:Ic W pm px ps A_
 bl:D_ w W
 own:∀k,k<w.1.size->Y k
 yx:Y px
 ym:Y pm
 lx:w.1.size<=px
 lm:w.1.size<=pm
 ne:pm≠px
section
variable {P:List (List UInt8×List UInt8)->Prop}{K:jo}{w W:World}{ps pm px A_ f9:Nat}{S:St}{Y:Nat->Prop}{L:List (List UInt8×List UInt8)}
theorem fi.a_(ok:gB K P)(h:fi K w W ps pm px A_ f9 S Y L){W':World}(hb:D_ W W'):fi K w W' ps pm px A_ f9 S Y L:=
 ⟨h.st.a_ hb,h.hold,ok.onBelow h.on hb,h.map.a_ hb,b_ h.bl hb,h.own,h.yx,h.ym,h.lx,h.lm,h.ne⟩
theorem fi.len(ok:gB K P)(h:fi K w W ps pm px A_ f9 S Y L)(hc:L.length<98):
 Cb 39 #[PV pm] W (Xi (L.length:Nat)):=by
 obtain⟨o,R,hH⟩:=h.hold;exact CQ h.map (ok.len h.st hH hc h.on)
theorem fi.rank(ok:gB K P)(h:fi K w W ps pm px A_ f9 S Y L)(hc:L.length<98)(a:List UInt8):
 Cb 99 #[PV pm,SV a] W (Xi (eK L a:Nat)):=by
 obtain⟨o,R,hH⟩:=h.hold;exact CU h.map a (ok.rank h.st hH hc h.on a)
theorem fi.place(ok:gB K P)(h:fi K w W ps pm px A_ f9 S Y L)(hc:L.length<98)(a:List UInt8):
 ∀V,D_ W V->Cb 98 #[PV pm,SV a] V (Xi (gI L a)):=fun V hV=>by
 obtain⟨o,R,hH⟩:=h.hold;have h':=h.a_ ok hV;exact CL h'.map a (n:=eK L a) (by have:=nZ L a;omega) (Bt.getL L a).isSome ((Bt.getL L a).getD []) (ok.rank h'.st hH hc h'.on a) fun U hU=>ok.get (h'.a_ ok hU).st hH hc (h'.a_ ok hU).on a
theorem fi.put {p q:Nat}(ok:gB K P)(h:fi K w W ps pm px A_ f9 S Y L)(hs:fc S (20+p) (9+q))(a b:List UInt8)(ha:a.length<=A_)(hb:b.length<=A_)(hl:A_<=1000)(hc:L.length<98)(hP:P L):
 Ct 24 #[PV pm,SV a,SV b] W fun e w'=>e=.returned (.tuple #[SV ((Bt.getL L a).getD []),.bool (Bt.getL L a).isSome,Xi 0])/\∃(x:Nat) (S3:St),fi K w w' ps pm px A_ x S3 Y (gV L a b)/\fc S3 p q:=by
 obtain⟨o,R,hH⟩:=h.hold;refine CS h.map a b _ _ ha hb ((ok.put h.st hH hc h.on h.yx hP a b o_ o_ (hs.M o_ o_)).M ?_);rintro e w' ⟨x,S3,rfl,h1,h2,h3,h4⟩;obtain⟨o3,R3,h5,_⟩:=h4.holds;exact⟨rfl,x,S3,⟨h1,⟨o3,R3,h5⟩,h3,(h2.block pm ⟨h.ym,h.ne⟩).T h.map,h.bl.T (Fo.a_ (h2.M fun k hk=>⟨h.own k hk,fun q=>by have:=h.lx;omega⟩)),h.own,h.yx,h.ym,h.lx,h.lm,h.ne⟩,fc.grew hs h4.grew⟩
end
theorem fi.wide {P:List (List UInt8×List UInt8)->Prop}{K:jo}(ok:gB K P){w W W':World}{ps pm px A_ f9:Nat}{S:St}{Y:Nat->Prop}{L:List (List UInt8×List UInt8)}(h:fi K w W ps pm px A_ f9 S Y L)(hb:D_ W W'):
 fi K w W' ps pm px A_ f9 S (fun k=>Y k\/(W.1.size<=k/\k<W'.1.size)) L:=
 ⟨h.st.wide hb,h.hold,ok.onBelow h.on hb,h.map.a_ hb,b_ h.bl hb,fun k hk=>ab (h.own k hk),ab h.yx,ab h.ym,h.lx,h.lm,h.ne⟩
def im(l:List (List UInt8×List UInt8)):List (List UInt8×List UInt8):=l.foldl (fun L p=>gV L p.1 p.2) []
theorem DF(l:List (List UInt8×List UInt8))(p:List UInt8×List UInt8):im (l++[p])=gV (im l) p.1 p.2:=by
 unfold im;rw[List.foldl_append];rfl
theorem xQ(p q:List UInt8×List UInt8->Bool)(h:∀x,¬(p x=true/\q x=true)):∀L:List (List UInt8×List UInt8),(L.filter p).length+(L.filter q).length<=L.length
 | []=>Nat.le_refl _
 | x::L=>by
  have ih:=xQ p q h L;have hx:=h x;rw[List.filter_cons,List.filter_cons,aj];split<;>split<;>(try simp only[aj])<;>first | omega | (exfalso;exact hx ⟨by assumption,by assumption⟩)
theorem DG(L:List (List UInt8×List UInt8))(a b:List UInt8):(gV L a b).length<=L.length+1:=by
 unfold gV;rw[ag,aj];have:=xQ (fun p=>decide (Fu p.1 a<0)) (fun p=>decide (0<Fu p.1 a)) (fun x ⟨h1,h2⟩=>by simp at h1 h2;omega) L;omega
theorem wo:∀(l L:List (List UInt8×List UInt8)),(l.foldl (fun L p=>gV L p.1 p.2) L).length<=L.length+l.length
 | [],_=>Nat.le_refl _
 | p::l,L=>by
  have h1:=wo l (gV L p.1 p.2);have h2:=DG L p.1 p.2;rw[List.foldl_cons,aj];omega
theorem wt(l:List (List UInt8×List UInt8)):(im l).length<=l.length:=by
 have h:=wo l [];rwa[aL,bz] at h
theorem xB {α:Type}{l:List α}{i:Nat}(h:i<l.length):l.take (i+1)=l.take i++[l[i]]:=by
 rw[List.take_add_one,af h];rfl
def FO(l_ t:Int):Bool:=decide (l_=1\/l_=2\/l_=3/\2<=t/\t<=16)
theorem qIbaa{P:Prop}(h:P:=by
 go_enter func9,ntmps9;go_wp2_with fail;go_ret;exact⟨rfl,rfl⟩):P:=h
theorem Gd(l_ t:Int)(w:World):
 Ct 9 #[Xi l_,Xi t] w fun e w'=>e=.returned (.bool (FO l_ t))/\w=w':=by
 by_cases h1:l_=1
 ·rw[show FO l_ t=true from decide_eq_true (ab h1)];subst h1;exact qIbaa
 by_cases h2:l_=2
 ·rw[show FO l_ t=true from decide_eq_true (ae (ab h2))];subst h2;exact qIbaa
 by_cases h3:l_=3
 ·subst h3
  by_cases h4:2<=t
  ·by_cases h5:t<=16
   ·rw[show FO 3 t=true from decide_eq_true (ae (ae ⟨rfl,h4,h5⟩))];exact qIbaa
   ·rw[show FO 3 t=false from decide_eq_false o_];exact qIbaa
  ·rw[show FO 3 t=false from decide_eq_false o_];exact qIbaa
 ·rw[show FO l_ t=false from decide_eq_false o_];have e1:(l_==1)=false:=by simpa using h1
  have e2:(l_==2)=false:=by simpa using h2
  have e3:(l_==3)=false:=by simpa using h3
  exact qIbaa
def pK(l:List (List UInt8×List UInt8)):Prop:=∀p∈l,p.1.length<=1000/\p.2.length<=1000
theorem LR {l_ t:Int}{w:World}{ps:Nat}{v:Value}{l:List (List UInt8×List UInt8)}(hv:PRow w v l)(hn:l.length<=60)(M:Nat->Nat->World->Prop)
 (hnew:Ct 52 #[PV ps,Xi l_,Xi t,Xi 1000] w fun e w'=>∃pm,e=.returned (.tuple #[PV pm,Xi 0])/\M pm 0 w')
 (hbl:∀pm i W,M pm i W->PRow W v l) (hdr:∀pm i W,M pm i W->M pm i W.drew)
 (hput:∀pm i W (hi:i<l.length),M pm i W->Ct 24 #[PV pm,SV l[i].1,SV l[i].2] W fun e w'=>∃(r:List UInt8) (b:Bool) (g:Nat),e=.returned (.tuple #[SV r,.bool b,Xi g])/\M pm (i+1) w'):
 Ct 30 #[PV ps,Xi l_,Xi t,v] w fun e w'=>∃pm,e=.returned (PV pm)/\M pm l.length w':=by
 obtain⟨A,c,rfl,hc⟩:=hv;have HG:=kq5 hnew hbl hdr hput hc;obtain⟨n,au⟩:=Ii l.length;have HN:=If au;rw[au] at hn⊢;clear hnew hbl hdr hput hc au;go_enter func30,ntmps30;go_wp2_with fail;refine HG.a.M ?_;rintro e w1 ⟨pm,rfl,hm⟩;have H1:=If hm;clear hm;go_wp2_with fail;go_loopw [11] (fun s11 wr=>∃i:Nat,s11=Xi i/\i<=n/\Hid (M pm i wr)) (fun s11 _=>n-(intOf s11).toNat)
 case atStart=>exact⟨0,rfl,o_,H1.O⟩
 case round=>
  obtain⟨i,rfl,a4,I0⟩:=hrel;by_cases hi:i<n
  ·have hlt:(i:Int)<n:=o_
   have ar:i<l.length:=by rw[HN.O];exact hi
   have hM:=I0.O;obtain⟨A',c',e',ai⟩:=HG.b _ _ _ hM;injection e' with e1 e2 e3
   subst e1;obtain⟨g,o,rfl,d0,d1⟩:=ai i ar;clear ai e2 e3;have hp:=HG.d pm i wr.drew ar (HG.c _ _ _ hM);obtain⟨⟨a,b⟩,a1⟩:∃pk,l[i]=pk:=⟨_,rfl⟩;rw[a1] at hp d0 d1;obtain⟨I,an,ap⟩:=lB (fun w'=>w'.cell? ⟨g,o+i*2,none⟩=some (SV a)) (fun w'=>w'.cell? ⟨g,o+i*2+1,none⟩=some (SV b));have o0:=fun x:Fq I=>(an _ x.ok).1;have o1:=fun x:Fq I=>(an _ x.ok).2;have a2:I wr.drew:=ap _ d0 d1;have a0:∀W,M pm (i+1) W->W.cell? ⟨g,o+i*2,none⟩=some (SV a)/\W.cell? ⟨g,o+i*2+1,none⟩=some (SV b):=fun W h=>by
    obtain⟨A',c',e',ai⟩:=HG.b _ _ _ h;injection e' with e1 e2 e3
    obtain⟨g2,o2,e4,k0,k1⟩:=ai i ar;rw[<-e1] at e4;injection e4 with e4
    injection e4 with e5 e6
    subst e5 e6;rw[a1] at k0 k1;exact⟨k0,k1⟩
   have HP:=kq3 hp ap a0;clear an ap hM d0 d1 hp a0;go_wp2_with fail;refine fh I (.take 0 (.take 1 (.take 2 (.take 3 (.take 4 (.take 5 (.take 6 (.take 7 (.take 8 (.take 9 (.take 10 (.go 11 .nil)))))))))))) k_ k_ a2 ?_;iterate 11
    refine' pT ?_ ?_;rotate_left
    ·intro x;go_simp;try rfl
    try simp only[pu]
   refine pD fun K hK=>?_;go_simp;refine HP.a.M ?_;rintro e w3 ⟨r,q,g2,rfl,ad⟩;have a3:I w3:=HP.b _ (HP.c _ ad).1 (HP.c _ ad).2;have H3:=If ad;clear ad;try go_simp
   refine hK.O _ _ a3 ?_;clear hK K;try simp only[pu]
   refine eP ?_;go_wp2_with fail;go_roundw
   case rel=>exact⟨i+1,s_,o_,H3.O⟩
   case measure=>simp[intOf];omega
  ·obtain rfl:i=n:=o_
   have hlt:¬(i:Int)<i:=o_
   go_wp2_with fail;go_ret;exact⟨pm,rfl,I0.O⟩
