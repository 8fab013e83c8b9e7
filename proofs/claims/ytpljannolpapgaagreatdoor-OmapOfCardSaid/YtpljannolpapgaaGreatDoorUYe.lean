/- Walks of no tree: Check, in, List: the walks. -/
import Derived.Test.YtpljannolpapgaaGreatDoorUKi
import Derived.Test.YtpljannolpapgaaGreatDoorUUx
set_option maxRecDepth 100000
set_option maxHeartbeats 3200000
namespace Go.Proofs.YtpljannolpapgaaGreatDoor
section
open Go.RowKit Tryz Go.BigFrame Go.Maps Go.WideMaps Lf
open Go.Shelf
variable{S:St}{Y:Nat->Prop}{ps:Nat}{w:World}
attribute [local go_sem] Oper.semAt_some
theorem xS(h:Ig w ps S Y)(hi:Fv S):
 Cb 144 #[PV ps,Xu 0] w (Xi 0):=by
 have B0:=c_ w (Xh ps);have B1:=B0.alloc B0.size (.cells #[Xi 0] 27);have ad:=fB (h.a_ B1) hi 0 o_;rw[fU] at ad;have HG:=kq2 ad B1;clear ad h hi B0 B1;go_enter func144,ntmps144;go_wp2_with fail;refine Jc HG.a ?_;go_wp2_with fail;exact bodyPost_ret (v:=Xi 0) (by simp[results,f144,go_sem]) rfl ⟨rfl,HG.b⟩
theorem EY(ps f9:Nat)(w:World):
 Ct 121 #[PV ps,Xu f9] w fun e w'=>e=.returned (.func (.func 161) #[] #[PV w.1.size,PV (w.1.size+1)])/\w'=(w.alloc (Xh ps)).alloc (Xf f9):=by
 go_enter func121,ntmps121
 go_wp2
 go_ret;exact⟨rfl,rfl⟩
def AJ(x:Empty):Array Value:=nomatch x
theorem BC(h:Ig w ps S Y)(Bs Br:Nat)(hBs:Bs<w.1.size/\w.cell? (y_ Bs)=some (PV ps))(hBr:Br<w.1.size/\w.cell? (y_ Br)=some (Xu 0)):
 SeqStopsK Fence.wide 6 prog 161 #[PV Bs,PV Br] AJ (Below w.1.size) (fun xs=>xs=[]) (fun _=>True) 0 w:=fun l J Jx W hW hJ hJx hY h0=>by
 have ar:Fence.wide.fn 162:=trivial;have an:CallsIn Fence.wide 5 prog 162 #[PV ps] W _:=callsIn_wide.2 (sX (h.a_ hW));have hL:1<=r_ S/\r_ S<=40000:=by have:=nB h;unfold r_;omega
 generalize r_ S=L at*;have cs:=(hW.cell (p:=y_ Bs) hBs.1).T hBs.2;have cr:=(hW.cell (p:=y_ Br) hBr.1).T hBr.2;have HL:=If an;have HJ:=kq5 hJ h0 hW hBs hBr;have ai:=If hW;clear an hW hJ hJx hY h0 hBs hBr h;refine callsIn_of_wp func161 rfl trivial ?_ rfl;simp only[ntmps161,aT,ah,aK,Nat.reduceAdd,Nat.reduceSub,aN,aO,aX,aR,aU,aM];gi_wp2_with fail;refine HL.O.M ?_;rintro e w1 ⟨rfl,ad⟩;have j1:=HJ.a _ _ _ none HJ.b (lf ad) (fun r e=>by cases e);have cs:=(ad.cell (p:=y_ Bs) (aH HJ.d.1 ai.O.size)).T cs;have cr:=(ad.cell (p:=y_ Br) (aH HJ.e.1 ai.O.size)).T cr;have H1:=If j1;clear HL ad j1;have ap:(0:Int)<L:=o_
 gi_wp2_with fail;gi_loopw [4,6,7,8,9,10,11] (fun l0 k _ _ _ _ _ wr=>l0=.slice none 0 0/\k=Xi 0/\wr=w1) (fun _ _ _ _ _ _ _ _=>0)
 case atStart=>exact⟨rfl,rfl,rfl⟩
 case round=>
  obtain⟨rfl,rfl,rfl⟩:=hrel;gi_wp2_with fail;gi_loopw [4,6,7,8] (fun l0 k _ _ wr'=>l0=.slice none 0 0/\k=Xi 0/\wr'=wr) (fun _ _ _ _ _=>0)
  case atStart=>exact⟨rfl,rfl,rfl⟩
  case round=>
   obtain⟨rfl,rfl,rfl⟩:=hrel;gi_wp2_with fail;refine bodyPost_ret (results_none rfl _ _ _) rfl ?_;exact⟨⟨_,rfl⟩,.inl ⟨[],rfl,H1.O⟩⟩
theorem E0(h:Ig w ps S Y):
 CallsIn Fence.wide 7 prog 75 #[PV ps,Xu 0] w fun e w'=>e=.returned n_/\D_ w w':=by
 have h1:1<=7:=o_
 have ap:Fence.wide.fn 121:=trivial;have ai:∀W,CallsIn Fence.wide 6 prog 121 #[PV ps,Xu 0] W _:=fun W=>callsIn_wide.2 (EY ps 0 W);have HR:=If h;clear h;refine callsIn_of_wp_marks func75 rfl trivial ?_ rfl;simp only[ntmps75,aT,ah,aK,Nat.reduceAdd,Nat.reduceSub,aN,aO,aX,aR,aU,aM];gi_wp2_with fail;refine(ai _).M ?_;rintro e w4 ⟨rfl,rfl⟩;gi_wp2_with fail;have k0:=((Bx.new w n_ 59).alloc (Xh ps)).alloc (.cells #[Xu 0] 61);have k1:=(Bx.new (w.alloc (.cells #[n_] 59)) (PV ps) 26).alloc (.cells #[Xu 0] 61);have k2:=Bx.new ((w.alloc (.cells #[n_] 59)).alloc (Xh ps)) (Xu 0) 61;have hb:=((c_ w (.cells #[n_] 59)).alloc s_ (Xh ps)).alloc m_ (.cells #[Xu 0] 61);simp only[World.size_alloc] at k0 k1 k2;generalize (((w.alloc (.cells #[n_] 59)).alloc (Xh ps)).alloc (.cells #[Xu 0] 61))=W0 at*;refine wpIn_rangeFunc_ownH rfl h1 (gf:=161) (lb:=#[PV (w.1.size+1),PV (w.1.size+1+1)]) rfl trivial (enters_of func161 k_ rfl)
  (BC (HR.O.a_ hb) _ _ ⟨Cx.lt (show Cx W0 _ 0 _ from k1),k1.1⟩ ⟨Cx.lt (show Cx W0 _ 0 _ from k2),k2.1⟩) (fun h k=>h.T k) (fun W l o o' h1 h2 h3 h4=>nN W l o o' o_ h2 h3 h4) (aa _ _) (fun x=>nomatch x)
  (fun _ W=>Bx W w.1.size n_/\D_ w W)
  (fun _ _ _=>False)
  (OwnFrom.and (Own.from (fun s A B row hs hg hr=>hs.kept hg hr) _) (ownFrom_below Ih hb.size))
  (fun cd=>Own.from (fun s A B row hs hg hr=>hs) _)
  ⟨k0,hb⟩
  (fun x _ _=>nomatch x)
  (fun x=>nomatch x)
  ?assign ?body ?done ?stop
 case assign=>exact fun l ad x=>nomatch x
 case body=>exact fun l ad x=>nomatch x
 case done=>
  rintro D ys W hD _ ⟨k0,hB⟩ hK;obtain⟨c1,f1⟩:=id k0;have an:w.1.size<=D:=aI hb.size hD;have HI:=kq2 hB k0;clear hB k0 k1 k2 hb
  gi_wp2
  refine⟨s_,.inl ⟨_,_,rfl,run_takeDeferred hK,?_⟩⟩;refine⟨.slice none 0 0,by simp[results,f75,go_sem],rfl,HI.a.T (nN W D _ _ an hK rfl rfl)⟩
 case stop=>
  rintro D cd ad W hD ar hF;exact hF.elim
theorem sY(h:Ig w ps S Y):
 Cb 75 #[PV ps,Xu 0] w n_:=callsIn_wide.1 (E0 h)
end
section
open Go.RowKit Tryz Go.BigFrame Go.Maps Go.WideMaps Lf
variable{R:Nat×Nat}{S:St}{Y:Nat->Prop}{h_:Nat}{ps:Nat}{w:World}{z:Nat}
theorem yT(h:Ig w ps S Y)(hi:Fv S):
 Cb 234 #[PV ps,Xu 0] w (Xi 0):=by
 have hc:=xS h hi;have hl:=fun W (hW:D_ w W)=>sY (h.a_ hW);have HG:=kq2 hc hl;clear hc hl h hi;go_enter func234,ntmps234;go_wp2_with fail;refine e9 HG.a fun w1 hb1=>?_;have H1:=If hb1;clear hb1;go_wp2_with fail;refine e9 (HG.b _ H1.O) fun w2 hb2=>?_;have H2:=If (b_ H1.O hb2);clear hb2;go_wp2_with fail
 go_loopw [7,8,9,10,21] (fun _ _ _ _ k wr=>k=Xi 0/\wr=w2) (fun _ _ _ _ _ _=>0)
 case atStart=>exact⟨rfl,rfl⟩
 case round=>
  obtain⟨rfl,rfl⟩:=hrel;go_wp2_with fail;go_ret;exact⟨rfl,H2.O⟩
structure nI (c:FuncId):Prop where
 enter:∀(args:Array Value) (w:World),(callFunc c args).run prog w=.ok (.enter c args) w
 call:∀{w:World} {ps:Nat} {S:St} {Y:Nat->Prop},Ig w ps S Y->Fv S->Ct c #[PV ps,Xu 0] w fun e w'=>e=.returned (Xi 0)/\D_ w w'
theorem Ai:nI 234 where
 enter args w:=by go_simp
 call h hi:=yT h hi
theorem Dr(h:Ig w ps S Y)(hi:Fv S){j c:FuncId}(hk:j6 h_ j c)(hc:nI c):
 Cb 134 #[PV ps,Xi h_,Xu 0] w (Xi 0):=by
 have ha:=yG h hi hk;have ai:=hc.enter;have ad:=fun W (hW:D_ w W)=>hc.call (h.a_ hW) hi;simp only[gS,eL] at ha;have HG:=kq2 ha ad;clear ha ad h hi hk hc;go_enter func134,ntmps134;go_wp2_with fail;refine e9 HG.a fun w1 hb1=>?_;have H1:=If (hb1.alloc hb1.size (.cells #[PV ps,.func (.func j) #[] #[],.func (.func c) #[] #[]] 265));clear hb1;go_wp2_with fail;refine e9 (HG.b _ H1.O) fun w2 hb2=>?_;have H2:=If (b_ H1.O hb2);clear hb2;go_wp2_with fail;go_ret;exact⟨rfl,H2.O⟩
theorem zY(h:Ig w ps S Y)(hi:Fv S)(hk:h_=1\/h_=2)(t:Int):
 Ct 87 #[PV ps,Xi h_,Xi t] w fun e w'=>e=.returned (Xi 0)/\w=w':=by
 have ad:=fB h hi 0 o_;rw[fU] at ad;have HG:=If ad;clear ad h hi
 rcases hk with rfl | rfl
 all_goals
  go_enter func87,ntmps87;go_wp2_with fail;refine Jc HG.O ?_;go_wp2_with fail;go_ret;exact⟨rfl,rfl⟩
structure jD (h_:Nat) (j c:FuncId) (jn:Jn):Prop where
 is:h_=1\/h_=2
 way:j6 h_ j c
 joins:kW j jn
 checks:nI c
theorem JF(h:Ig w ps S Y)(hi:Fv S){j c:FuncId}{jn:Jn}(hk:jD h_ j c jn)(t:Int):
 Cb 86 #[PV ps,Xi h_,Xi t,Xu 0] w (Xi 0):=by
 have ha:=zY h hi hk.is t;have hc:=Dr h hi hk.way hk.checks;have hq:((h_:Int)==3)=false:=by have:=hk.is;simp;omega
 have HG:=kq2 ha hc;clear ha hc h hi hk;go_enter func86,ntmps86;go_wp2_with fail;refine Jc HG.a ?_;go_wp2_with fail;refine e9 HG.b fun w2 hb2=>?_;have H2:=If hb2;clear hb2;go_wp2_with fail;go_ret;exact⟨rfl,H2.O⟩
theorem EW(h:Ig w ps S Y)(hi:Fv S)(f9:Nat)(k:Int)(hk:k<0):
 Ct 305 #[PV ps,Xu f9,Xi k] w fun e w'=>e=.returned (.tuple #[Xu 0,Xi 2])/\w=w':=by
 have ad:=fB h hi 0 o_;rw[fU] at ad;have HG:=If ad;clear ad h hi;go_enter func305,ntmps305;go_wp2_with fail;refine Jc HG.O ?_;go_wp2_with fail;go_ret2;exact⟨rfl,rfl⟩
theorem EV(h:Ig w ps S Y)(hi:Fv S)(f9:Nat)(hl:f9<2^64)(k:Nat)(hk:k<2^62)(hR:kD S f9 k=some R):
 Cb 305 #[PV ps,Xu f9,Xi k] w (.tuple #[Xu R.1,Xi R.2]):=by
 have an:=fB h hi 0 o_;rw[fU] at an;unfold kD at hR
 cases hz:fY S f9 with
 | none=>rw[hz] at hR;cases hR
 | some z=>
 rw[hz] at hR;simp only at hR;have bs:z<2^62:=by have:=G_ hz;omega
 have ai:=kP h hi f9 hl hz
 by_cases hzk:z<=k
 ·rw[if_pos hzk] at hR;have hR:=Option.some.inj hR;have bq:(z:Int)<=k:=o_
  have HG:=kq3 an ai hR;clear an ai hR h hi hz hzk;go_enter func305,ntmps305;go_wp2_with fail;refine Jc HG.a ?_;go_wp2_with fail;refine e9 HG.b fun w1 hb=>?_;have HB:=If hb;clear hb;go_wp2_with fail;go_ret2;obtain rfl:=HG.c;exact⟨rfl,HB.O⟩
 rw[if_neg hzk] at hR;have bq:(k:Int)<z:=o_
 have bk:=nB h;have hL:r_ S<=40000:=by unfold r_;omega
 obtain⟨L,a8⟩:=Ii (r_ S);have a1:=fun W (hW:D_ w W)=>sX (h.a_ hW);rw[a8] at a1 hL hR;have bb:=fun hh=>fs h hh;have HG:=kq7 an h hi hR bb ai a1;clear an h hi hR bk a8 bb a1 ai hz hzk;go_enter func305,ntmps305;go_wp2_with fail;refine Jc HG.a ?_;go_wp2_with fail;refine e9 HG.f fun w0 hb0=>?_;have ap:=If hb0;clear hb0;go_wp2_with fail;refine e9 (HG.g _ ap.O) fun w1 hb1=>?_;have bc:=If (b_ ap.O hb1);clear hb1;go_wp2_with fail
 go_loopw [1,2,11,12,13,14] (fun r b i _ _ _ wr=>∃f f9 kk ii:Nat,r=Xu f9/\b=Xi kk/\i=Xi ii/\f+ii=L/\f9<2^64/\kk<2^62/\Hid (j8 S f f9 kk=some R/\D_ w wr)) (fun _ _ i _ _ _ _=>L-(intOf i).toNat)
 case atStart=>exact⟨L,f9,k,0,rfl,rfl,rfl,o_,hl,hk,HG.d,bc.O⟩
 case round=>
  obtain⟨f,f9,kk,ii,rfl,rfl,rfl,hf,bo,bj,ad⟩:=hrel;have bu:ii<=40000:=o_
  cases f with
  | zero=>
   have bv:ii=L:=o_
   have a9:R=(0,2):=by have h9:=ad.O.1;rw[yK] at h9;exact(Option.some.inj h9).S
   have HE:=kq2 a9 ad.O.2;have bt:(L:Int)<=ii:=o_
   clear a9 ad;go_wp2_with fail;go_ret2;obtain rfl:=HE.a;exact⟨rfl,HE.b⟩
  | succ f=>
   have b0:(ii:Int)<L:=o_
   have hd:=ad.O.1;rw[tF] at hd;have a0:=HG.b.a_ ad.O.2;have hg:=iO a0 HG.c f9 bo;have a5:=HG.e f9;obtain⟨⟨nd,er⟩,hE⟩:∃r,f_ S f9=r:=⟨_,rfl⟩;rw[hE] at hg a5 hd;simp only at hg a5 hd;obtain⟨k0,k1,k2,k3,k4,k5⟩:=nd;obtain⟨n0,n1,n2,n3,n4,n5⟩:=a5;simp only at n0 n1 n2 n3 n4 n5;have a4:eS ⟨k0,k1,k2,k3,k4,k5⟩=.agg #[Xu k0,Xu k1,Xu k2,Xu k3,Xu k4,Xu k5]:=rfl;rw[a4] at hg
   cases er with
   | succ er=>
    rw[if_pos o_] at hd;have hd:=Option.some.inj hd;have bm:(((er+1:Nat):Int) !=0)=true:=m_
    obtain⟨g1,a'⟩:=Ii (er+1);rw[a'] at hg bm;have HE:=kq3 hg hd ad.O.2;clear hg hd ad a0 hE a' a4;go_wp2_with fail;refine e9 HE.a fun w2 hb2=>?_;have bd:=If ((b_ HE.c hb2).alloc (aI HE.c.size hb2.size) (Xb k0 k1 k2 k3 k4 k5));clear hb2;go_wp2_with fail;go_ret2;obtain rfl:=HE.b;exact⟨rfl,bd.O⟩
   | zero=>
    rw[if_neg o_] at hd
    cases hz:fY S k2 with
    | none=>rw[hz] at hd;cases hd
    | some z=>
     rw[hz] at hd;simp only at hd;have bs:z<2^62:=by have:=G_ hz;omega
     have HE:=kq3 hg ad.O.2 hz;clear hg ad a0 hE hz;go_wp2_with fail;refine e9 HE.a fun w2 hb2=>?_;have au:=(b_ HE.b hb2).alloc (aI HE.b.size hb2.size) (Xb k0 k1 k2 k3 k4 k5);have ai:=kP (HG.b.a_ au) HG.c k2 n2 HE.c;have hx:=heap_alloc_new w2 (Xb k0 k1 k2 k3 k4 k5);have ba:w2.1.size<(w2.alloc (Xb k0 k1 k2 k3 k4 k5)).1.size:=s_
     have HK:=kq4 ai au hx ba;clear hb2 au ai hx ba a4;go_wp2_with fail;refine e9 HK.a fun w3 hb3=>?_;have a7:=b_ HK.b hb3;have a6:=(hb3.block _ HK.d).T HK.c;have a2:w3.cell? (x_ w2.1.size 2)=some (Xu k2):=e_ a6
     have a3:w3.cell? (x_ w2.1.size 3)=some (Xu k3):=e_ a6
     have ar:=If a7;clear hb3 a7 a6
     by_cases hc:kk<z
     ·rw[if_pos hc] at hd;have bf:(kk:Int)<z:=o_
      have HD:=If hd;clear hd;go_wp2_with fail;go_roundw
      case rel=>exact⟨f,k2,kk,ii+1,rfl,rfl,s_,o_,n2,bj,HD.O,ar.O⟩
      case measure=>simp[intOf];omega
     ·rw[if_neg hc] at hd
      by_cases hc2:z<kk
      ·rw[if_pos hc2] at hd;have bf:(z:Int)<kk:=o_
       have HD:=If hd;clear hd;go_wp2_with fail;go_roundw
       case rel=>exact⟨f,k3,kk-(z+1),ii+1,rfl,by rw[show ((kk-(z+1):Nat):Int)=(kk:Int)-((z:Int)+1) by omega],s_,o_,n3,o_,HD.O,ar.O⟩
       case measure=>simp[intOf];omega
      ·rw[if_neg hc2] at hd;obtain rfl:kk=z:=o_
       have hd:=Option.some.inj hd;have HD:=If hd;clear hd;go_wp2_with fail;go_ret2;obtain rfl:=HD.O;exact⟨rfl,ar.O⟩
theorem fA{W:World}{b c:Nat}(h:c≠b)(v0 v1:Value):((W.setCell (y_ b) (v0)).setCell (x_ b 1) (v1)).1[c]?=W.1[c]?:=by rw[FB h,FB h]
def fE(ps h_:Nat):Value:=.agg #[PV ps,Xi h_]
def Id(k v:Nat):Value:=.agg #[Xu k,Xu v]
theorem zh(h:Ig w ps S Y)(hi:Fv S)(h_ f9:Nat)(hl:f9<2^64)(hz:fY S f9=some z):
 Cb 304 #[fE ps h_,Xu f9] w (Xi z):=by
 have B0:=c_ w (Xg ps h_);have hs:=kP (h.a_ B0) hi f9 hl hz;have HG:=kq2 hs B0;clear hs B0 h hi hz;simp only[fE];go_enter func304,ntmps304;go_wp2_with fail;refine e9 HG.a fun w1 hb1=>?_;have H1:=If (b_ HG.b hb1);clear hb1;go_wp2_with fail;go_ret;exact⟨rfl,H1.O⟩
theorem zf(h:Ig w ps S Y)(hi:Fv S)(h_ f9:Nat)(hl:f9<2^64)(k:List UInt8)(hz:oP S f9 k=some z):
 Cb 302 #[fE ps h_,Xu f9,SV k] w (Xi z):=by
 have B0:=c_ w (Xg ps h_);have hs:=E1 (h.a_ B0) hi f9 hl k hz;have HG:=kq2 hs B0;clear hs B0 h hi hz;simp only[fE];go_enter func302,ntmps302;go_wp2_with fail;refine e9 HG.a fun w1 hb1=>?_;have H1:=If (b_ HG.b hb1);clear hb1;go_wp2_with fail;go_ret;exact⟨rfl,H1.O⟩
theorem my(h:Ig w ps S Y)(hi:Fv S)(h_ hh:Nat)(hl:hh<2^64):
 Cb 306 #[fE ps h_,Xu hh] w (Id (f_ S hh).1.key (f_ S hh).1.val):=by
 have B1:=c_ w (Xg ps h_);have B0:=B1.alloc B1.size (.cells #[Xu 0,Xu 0] 104);have z1:=heap_alloc_new (w.alloc (Xg ps h_)) (.cells #[Xu 0,Xu 0] 104);simp only[World.size_alloc] at z1;have hg:=iO (h.a_ B0) hi hh hl;obtain⟨⟨⟨k0,k1,k2,k3,k4,k5⟩,er⟩,hE⟩:∃q,f_ S hh=q:=⟨_,rfl⟩;rw[hE] at hg⊢;simp only[eS] at hg;have HG:=kq3 hg B0 z1;clear hg B0 B1 h hi hE z1;simp only[fE,Id];go_enter func306,ntmps306;go_wp2_with fail;refine e9 HG.a fun w1 hb1=>?_;have ad:=hb1.alloc hb1.size (Xb k0 k1 k2 k3 k4 k5);have q1:=heap_alloc_new w1 (Xb k0 k1 k2 k3 k4 k5);have z1:=(ad.block (w.1.size+1) s_).T HG.c;have B1:=b_ HG.b ad;clear hb1 ad;obtain⟨c0,c1⟩:=Fp z1;obtain⟨f0,f1⟩:=ef z1;have HW:=kq2 B1 z1;clear B1 z1 q1;go_wp2_with fail;have q3:=ew HW.b (Xu k0) (Xu k1);have B3:=eT HW.a (bH w.1.size) (Xu k0) (Xu k1);generalize (((w1.alloc (Xb k0 k1 k2 k3 k4 k5)).setCell (y_ (w.1.size+1)) (Xu k0)).setCell (x_ (w.1.size+1) 1) (Xu k1))=W3 at*;obtain⟨e0,e1⟩:=Fp q3;exact bodyPost_ret (v:=.agg #[Xu k0,Xu k1]) (by simp[results,f306,go_sem,e0,e1]) rfl ⟨rfl,B3⟩
theorem tK(h:Ig w ps S Y)(hi:Fv S)(h_ f9:Nat)(hl:f9<2^64)(k:Nat)(hk:k<2^62)(hR:kD S f9 k=some R)(hR1:R.1<2^64):
 Cb 299 #[fE ps h_,Xu f9,Xi k] w (.tuple #[Id (f_ S R.1).1.key (f_ S R.1).1.val,Xi R.2]):=by
 have B1:=c_ w (Xg ps h_);have q1:=heap_alloc_new w (Xg ps h_);have B0:=B1.alloc B1.size (.cells #[Xu 0,Xu 0] 104);have z1:=heap_alloc_new (w.alloc (Xg ps h_)) (.cells #[Xu 0,Xu 0] 104);have q1:=(((aa (w.alloc (Xg ps h_)).1.size (w.alloc (Xg ps h_))).alloc Ih (.cells #[Xu 0,Xu 0] 104)).block w.1.size s_).T q1;simp only[World.size_alloc] at z1;have ha:=EV (h.a_ B0) hi f9 hl k hk hR;have ad:=fun W (hW:D_ w W)=>my (h.a_ hW) hi h_ R.1 hR1;simp only[Id,fE] at ad⊢;generalize (f_ S R.1).1.key=k0 at*;generalize (f_ S R.1).1.val=k1 at*;obtain⟨r,er⟩:=R;simp only at ha ad⊢;have HG:=kq5 ha ad B0 z1 q1;clear ha ad B0 B1 h hi hR z1 q1 hR1;go_enter func299,ntmps299;go_wp2_with fail;refine e9 HG.a fun w1 hb1=>?_;have z1:=(hb1.block (w.1.size+1) s_).T HG.d;have q1:=(hb1.block w.1.size m_).T HG.e;obtain⟨c0,c1⟩:=Fp q1;have H1:=kq2 (b_ HG.c hb1) z1;clear hb1 z1 q1;go_wp2_with fail;refine e9 (HG.b _ H1.a) fun w2 hb2=>?_;have z2:=(hb2.block (w.1.size+1) (gl H1.b)).T H1.b;obtain⟨d0,d1⟩:=Fp z2;obtain⟨f0,f1⟩:=ef z2;have HW:=kq2 (b_ H1.a hb2) z2;clear hb2 z2 c0 c1;go_wp2_with fail;have q3:=ew HW.b (Xu k0) (Xu k1);have B3:=eT HW.a (bH w.1.size) (Xu k0) (Xu k1);generalize ((w2.setCell (y_ (w.1.size+1)) (Xu k0)).setCell (x_ (w.1.size+1) 1) (Xu k1))=W3 at*;obtain⟨e0,e1⟩:=Fp q3;exact bodyPost_ret (v:=.tuple #[.agg #[Xu k0,Xu k1],Xi er]) (by simp[results,f299,go_sem,e0,e1]) rfl ⟨rfl,B3⟩
theorem pO(S:St):fZ S 0=7:=by
 unfold fZ;rw[fU];rfl
theorem qM(S:St):f_ S 0=(Nd.zero,7):=by
 unfold f_;rw[pO];rfl
theorem zk(h:Ig w ps S Y)(hi:Fv S)(h_:Nat):
 Cb 309 #[fE ps h_,Xu 0] w (.tuple #[Id 0 0,.bool false]):=by
 have B1:=c_ w (Xg ps h_);have q1:=heap_alloc_new w (Xg ps h_);have B0:=B1.alloc B1.size (.cells #[Xu 0,Xu 0] 104);have z1:=heap_alloc_new (w.alloc (Xg ps h_)) (.cells #[Xu 0,Xu 0] 104);have q1:=(((aa (w.alloc (Xg ps h_)).1.size (w.alloc (Xg ps h_))).alloc Ih (.cells #[Xu 0,Xu 0] 104)).block w.1.size s_).T q1;simp only[World.size_alloc] at z1;have ai:=my (h.a_ B0) hi h_ 0 d_;have ar:=fun W (hW:D_ w W)=>vT (h.a_ hW) hi 0 d_ (by rw[pO];decide);rw[qM] at ai;rw[pO] at ar;simp only[Id,fE,Nd.zero] at ai⊢;have HG:=kq5 ai ar B0 z1 q1;clear ai ar B0 B1 h hi z1 q1;go_enter func309,ntmps309;go_wp2_with fail;refine e9 HG.a fun w1 hb1=>?_;have ad:=hb1.alloc hb1.size (.cells #[Xu 0,Xu 0] 104);have y1:=heap_alloc_new w1 (.cells #[Xu 0,Xu 0] 104);have z1:=(ad.block (w.1.size+1) s_).T HG.d;have q1:=(ad.block w.1.size m_).T HG.e;have B2:=b_ HG.c ad;go_wp2_with fail;generalize w1.alloc (.cells #[Xu 0,Xu 0] 104)=W at*;obtain⟨I,an,ap⟩:∃I:World->Prop,(∀w',I w'->w'.1[w.1.size]?=some (Xg ps h_)/\w'.1[w1.1.size]?=some (.cells #[Xu 0,Xu 0] 104))/\(∀w',w'.1[w.1.size]?=some (Xg ps h_)->w'.1[w1.1.size]?=some (.cells #[Xu 0,Xu 0] 104)->I w'):=⟨fun w'=>w'.1[w.1.size]?=some (Xg ps h_)/\w'.1[w1.1.size]?=some (.cells #[Xu 0,Xu 0] 104),fun _ h=>h,fun _ a b=>⟨a,b⟩⟩;have au:=fun x:Fq I=>(an _ x.ok).1;have a0:=fun x:Fq I=>(an _ x.ok).2;obtain⟨a3,a4⟩:=ft au;obtain⟨a5,a6⟩:=ft a0;obtain⟨e0,e1⟩:=Fp z1;obtain⟨f0,f1⟩:=ef z1;have a2:w1.1.size≠w.1.size+1:=by have:=hb1.size;simp at this;omega
 have HW:=kq4 B2 z1 q1 y1;have HI:=If ap;have a1:I W.drew:=ap _ q1 y1;clear B2 z1 q1 y1 hb1 ad au a0 an ap;refine nF I [(true,0),(true,1),(true,2),(true,3),(false,4),(true,5),(false,6),(false,7)] k_ k_ a1 ?_
 iterate 4
  refine' mT ?_ ?_;rotate_left
  ·intro x;go_simp
   try rfl
  try simp only[pu]
 refine mD fun K hK=>?_;go_simp;refine Jc (HG.b _ HW.a.drew) ?_
 try go_simp
 refine hK.O _ _ (HI.O _ HW.c HW.d) ?_;clear hK K
 try simp only[pu]
 refine' mT ?_ ?_;rotate_left
 ·intro x;go_simp
  try rfl
 try simp only[pu]
 refine mD fun K hK=>?_;go_simp;have q3:((W.setCell (y_ (w.1.size+1)) (Xu 0)).setCell (x_ (w.1.size+1) 1) (Xu 0)).drew.1[w.1.size+1]?=_:=ew HW.b (Xu 0) (Xu 0);have B3:=(eT HW.a (bH w.1.size) (Xu 0) (Xu 0)).drew;have r3:((W.setCell (y_ (w.1.size+1)) (Xu 0)).setCell (x_ (w.1.size+1) 1) (Xu 0)).drew.1[w.1.size]?=_:=(fA o_ (Xu 0) (Xu 0)).T HW.c;have y3:((W.setCell (y_ (w.1.size+1)) (Xu 0)).setCell (x_ (w.1.size+1) 1) (Xu 0)).drew.1[w1.1.size]?=_:=(fA a2 (Xu 0) (Xu 0)).T HW.d;generalize ((W.setCell (y_ (w.1.size+1)) (Xu 0)).setCell (x_ (w.1.size+1) 1) (Xu 0)).drew=W3 at*
 try go_simp
 refine hK.O _ _ (HI.O _ r3 y3) ?_;clear hK K
 try simp only[pu]
 refine mD fun K hK=>?_;go_simp
 try go_simp
 refine hK.O _ _ (HI.O _ r3 y3) ?_;clear hK K
 try simp only[pu]
 refine mX ?_;obtain⟨g0,g1⟩:=Fp q3;clear e0 e1 f0 f1 q3 r3 y3;have HB:=If B3;clear B3;go_wp2_with fail;exact bodyPost_ret (v:=.tuple #[.agg #[Xu 0,Xu 0],.bool false]) (by simp[results,f309,go_sem,g0,g1]) rfl ⟨rfl,HB.O⟩
theorem Ig.write{w w':World}{b:Nat}{cs:Array Value}{t:TypeId}{fr:Nat×Nat}(h:Ig w ps S Y)(hy:Y b)(hb:w.1[b]?=some (.cells cs t fr))(ht:t≠94/\t≠160)(hz:cs.size<64)
 (hs:w.1.size<=w'.1.size) (hw:∀k,k<w.1.size->k≠b->w'.1[k]?=w.1[k]?):Ig w' ps S Y:=by
 obtain⟨pa,pm,ph,pt,v,h⟩:=h;refine⟨pa,pm,ph,pt,v,h.of_keep hs fun k hk hc=>hw k hk ?_⟩;rintro rfl;rcases hc with hc | rfl | rfl | rfl
 ·exact hc hy
 ·have:=h.hd;rw[hb] at this;injection this with this
  injection this with _ this
  exact ht.1 this
 ·have:=h.heap.hp;rw[hb] at this;injection this with this
  injection this with _ this
  exact ht.2 this
 ·have:=h.heap.tab 63 d_;rw[t_ hb,dt o_] at this;cases this
def Lf.binInsM(jn:Jn)(S:St)(f9 k v:Nat):Option (Nat×St):=
 if(nV S ⟨k,v,0,0,0,1⟩).1.2≠0 then none
 else match insertOkM jn (nV S ⟨k,v,0,0,0,1⟩).2 f9 (nV S ⟨k,v,0,0,0,1⟩).1.1 with
  | none=>none
  | some ((now,old),S1)=>if old=0 then some (now,S1) else none
theorem y8{jn:Jn}{S S':St}{f9 k v x:Nat}(h:binInsM jn S f9 k v=some (x,S')):
 (nV S ⟨k,v,0,0,0,1⟩).1.2=0/\insertOkM jn (nV S ⟨k,v,0,0,0,1⟩).2 f9 (nV S ⟨k,v,0,0,0,1⟩).1.1=some ((x,0),S'):=by
 unfold binInsM at h
 split at h
 ·cases h
 ·rename_i h0
  split at h
  ·cases h
  ·rename_i now old S1 h1
   split at h
   ·rename_i h2;have h:=Option.some.inj h
    injection h with e1 e2
    subst e1 e2 h2;exact⟨df.1 h0,h1⟩
   ·cases h
theorem Cr(S:St)(n:Nd):(nV S n).1.1=(S.make 6).1.1\/(nV S n).1.1=0:=by
 unfold nV
 split
 ·rename_i h s1 e
  left;rw[e]
 ·right;rfl
theorem KC(hw:iW S.t)(n:Nd):(nV S n).1.1<2^64:=by
 rcases Cr S n with e | e
 ·rw[e];exact oA hw 6
 ·rw[e];decide
theorem vz(hm:iw S 6)(n:Nd):Fv (nV S n).2:=by
 have h2:=hm.2;unfold nV
 split
 ·rename_i h s1 e;rw[e] at h2;exact rT h2 _ _
 ·rename_i e0 h er s1 e;rw[e] at h2;exact h2
theorem zc{S S':St}(h:Ig w ps S Y)(hm:iw S 6){j c:FuncId}{jn:Jn}(hk:jD h_ j c jn)(f9 k v:Nat)(hl:f9<2^64)(hkl:k<2^64)(hvl:v<2^64){x:Nat}(hx:binInsM jn S f9 k v=some (x,S')):
 Ct 301 #[fE ps h_,Xu f9,Id k v] w fun e w'=>e=.returned (.tuple #[Xu x,Id 0 0,.bool false,Xi 0])/\Ig w' ps S' Y/\Fo Y w w'/\Fv S'/\x<2^64:=by
 obtain⟨h0,h1⟩:=y8 hx;have ap:=vz hm ⟨k,v,0,0,0,1⟩;have a3:=KC h.tabwf ⟨k,v,0,0,0,1⟩;have ai:=fun W Z (hW:Ig W ps S Z)=>vU hW hm ⟨k,v,0,0,0,1⟩ ⟨hkl,hvl,s_,s_,s_,s_⟩;generalize nV S ⟨k,v,0,0,0,1⟩=M at*;obtain⟨⟨m,em⟩,S1⟩:=M;simp only at h0 h1 ap a3 ai;subst h0;have a2:=fun W Z (hW:Ig W ps S1 Z)=>In hW ap hk.joins hk.way f9 m hl a3 h1;have ar:=fun W Z (hi2:Fv S') (hW:Ig W ps S' Z)=>zk hW hi2 h_;simp only[fE,Id,eS] at ai ar⊢;have B1:=c_ w (Xg ps h_);have q1:=heap_alloc_new w (Xg ps h_);generalize a4:w.alloc (Xg ps h_)=w1 at*;have z1:w1.1.size=w.1.size+1:=by rw[<-a4];simp
 have A2:=c_ w1 (Xe k v);have B2:=B1.alloc B1.size (Xe k v);have q2:=(A2.block w.1.size o_).T q1;have z2:(w1.alloc (Xe k v)).1.size=w.1.size+2:=by simp[z1]
 generalize a8:w1.alloc (Xe k v)=w2 at*;have A3:=c_ w2 (.cells #[Xu 0,Xu 0] 104);have q3:=(A3.block w.1.size o_).T q2;have B3:=B2.alloc B2.size (.cells #[Xu 0,Xu 0] 104);have y3:=heap_alloc_new w2 (.cells #[Xu 0,Xu 0] 104);rw[z2] at y3;have z3:(w2.alloc (.cells #[Xu 0,Xu 0] 104)).1.size=w.1.size+3:=by simp[z2]
 subst a8 a4;have hY:=h.yl;have HG:=kq9 ai a2 ar (h.wide B3) q3 y3 z3 B3 hY;clear ai a2 ar h q1 q2 q3 y3 A2 A3 B1 B2 B3 z1 z2 z3 ap h1 hm hk hY hx;go_enter func301,ntmps301;go_wp2_with fail;refine(HG.a _ _ HG.d).M ?_;rintro e w4 ⟨rfl,h4,k4⟩;have q4:=(k4.block w.1.size (ae ⟨Nat.le_refl _,by have:=HG.g;omega⟩)).T HG.e;have y4:=(k4.block (w.1.size+2) (ae ⟨o_,by have:=HG.g;omega⟩)).T HG.f;obtain⟨c0,c1⟩:=Fp q4;have H4:=kq4 h4 k4 q4 y4;clear h4 k4 q4 y4;go_wp2_with fail;obtain⟨hp,a1,a5,-⟩:=HG.b _ _ H4.a;refine hp.M ?_;rintro e w5 ⟨rfl,h5,k5⟩;have q5:=(k5.block w.1.size (ae ⟨Nat.le_refl _,by have:=HG.g;omega⟩)).T H4.c;have y5:=(k5.block (w.1.size+2) (ae ⟨o_,by have:=HG.g;omega⟩)).T H4.d;obtain⟨d0,d1⟩:=Fp q5;have H5:=kq5 h5 (H4.b.T k5) a1 a5 y5;clear h5 k5 q5 y5 hp a1 a5 c0 c1;go_wp2_with fail;refine e9 (HG.c _ _ H5.c H5.a) fun w6 hb6=>?_;have y6:=(hb6.block (w.1.size+2) (gl H5.e)).T H5.e;obtain⟨e0,e1⟩:=Fp y6;obtain⟨f0,f1⟩:=ef y6;have q7:((w6.setCell (y_ (w.1.size+2)) (Xu 0)).setCell (x_ (w.1.size+2) 1) (Xu 0)).1[w.1.size+2]?=_:=ew y6 (Xu 0) (Xu 0);have o7:∀k,k≠w.1.size+2->((w6.setCell (y_ (w.1.size+2)) (Xu 0)).setCell (x_ (w.1.size+2) 1) (Xu 0)).1[k]?=w6.1[k]?:=fun k hk=>fA hk _ _;have z7:((w6.setCell (y_ (w.1.size+2)) (Xu 0)).setCell (x_ (w.1.size+2) 1) (Xu 0)).1.size=w6.1.size:=s_
 have s7:((w6.setCell (y_ (w.1.size+2)) (Xu 0)).setCell (x_ (w.1.size+2) 1) (Xu 0)).os=w6.os/\((w6.setCell (y_ (w.1.size+2)) (Xu 0)).setCell (x_ (w.1.size+2) 1) (Xu 0)).tape=w6.tape/\((w6.setCell (y_ (w.1.size+2)) (Xu 0)).setCell (x_ (w.1.size+2) 1) (Xu 0)).output=w6.output:=⟨rfl,rfl,rfl⟩;have a9:∀k,Y k->k<w.1.size:=HG.i;have h6:=H5.a.a_ hb6;have k6:=H5.b.T (H5.a.B_ hb6);have H6:=kq9 h6 k6 H5.c H5.d y6 q7 o7 z7 s7;clear hb6 y6 d0 d1 h6 k6 o7 z7 s7 q7;go_wp2_with fail;generalize ((w6.setCell (y_ (w.1.size+2)) (Xu 0)).setCell (x_ (w.1.size+2) 1) (Xu 0))=w7 at*;have q7:=H6.f;obtain⟨I,au,an⟩:∃I:World->Prop,(∀w',I w'->w'.1[w.1.size+2]?=some (.cells #[Xu 0,Xu 0] 104))/\(∀w',w'.1[w.1.size+2]?=some (.cells #[Xu 0,Xu 0] 104)->I w'):=⟨fun w'=>w'.1[w.1.size+2]?=some (.cells #[Xu 0,Xu 0] 104),fun _ h=>h,fun _ a=>a⟩;have a6:=fun x:Fq I=>au _ x.ok;obtain⟨m0,m1⟩:=ft a6;obtain⟨g0,g1⟩:=Fp q7;obtain⟨h0,h1⟩:=ef q7;have HI:=If an;have a7:I w7.drew:=an _ q7;have HQ:=If q7;clear e0 e1 f0 f1 q7 au an a6;refine nF I [(true,0),(true,1),(true,2),(true,3),(false,4),(false,5),(false,6),(false,7)] k_ k_ a7 ?_
 iterate 4
  refine' mT ?_ ?_;rotate_left
  ·intro x;go_simp
   try rfl
  try simp only[pu]
 refine mD fun K hK=>?_;go_simp
 try go_simp
 refine hK.O _ _ (HI.O _ HQ.O) ?_;clear hK K
 try simp only[pu]
 refine mD fun K hK=>?_;go_simp;have q8:((w7.setCell (y_ (w.1.size+2)) (Xu 0)).setCell (x_ (w.1.size+2) 1) (Xu 0)).drew.1[w.1.size+2]?=_:=ew HQ.O (Xu 0) (Xu 0);have o8:∀k,k≠w.1.size+2->((w7.setCell (y_ (w.1.size+2)) (Xu 0)).setCell (x_ (w.1.size+2) 1) (Xu 0)).drew.1[k]?=w7.1[k]?:=fun k hk=>fA hk _ _;have z8:((w7.setCell (y_ (w.1.size+2)) (Xu 0)).setCell (x_ (w.1.size+2) 1) (Xu 0)).drew.1.size=w7.1.size:=by show ((w7.setCell (y_ (w.1.size+2)) (Xu 0)).setCell (x_ (w.1.size+2) 1) (Xu 0)).1.size=_;simp
 have s8:((w7.setCell (y_ (w.1.size+2)) (Xu 0)).setCell (x_ (w.1.size+2) 1) (Xu 0)).drew.os=w7.os/\((w7.setCell (y_ (w.1.size+2)) (Xu 0)).setCell (x_ (w.1.size+2) 1) (Xu 0)).drew.tape=w7.tape/\((w7.setCell (y_ (w.1.size+2)) (Xu 0)).setCell (x_ (w.1.size+2) 1) (Xu 0)).drew.output=w7.output:=⟨rfl,rfl,rfl⟩;generalize ((w7.setCell (y_ (w.1.size+2)) (Xu 0)).setCell (x_ (w.1.size+2) 1) (Xu 0)).drew=w8 at*
 try go_simp
 refine hK.O _ _ (HI.O _ q8) ?_;clear hK K
 try simp only[pu]
 refine mD fun K hK=>?_;go_simp
 try go_simp
 refine hK.O _ _ (HI.O _ q8) ?_;clear hK K
 try simp only[pu]
 refine mD fun K hK=>?_;go_simp
 try go_simp
 refine hK.O _ _ (HI.O _ q8) ?_;clear hK K
 try simp only[pu]
 refine mX ?_;obtain⟨e0,e1⟩:=Fp q8;have a0:Ig w8 ps S' Y/\Fo Y w w8:=by
  obtain⟨h6,k6,-,-,y6,-,o7,z7,s7⟩:=H6.O;have hY:=HG.i;have hz:=HG.g;have hw:∀k,k≠w.1.size+2->w8.1[k]?=w6.1[k]?:=fun k hk=>(o8 k hk).T (o7 k hk);refine⟨(h6.write (ae ⟨o_,o_⟩) y6 ⟨d_,d_⟩ s_ o_ fun k _ hk=>hw k hk).M fun k hk=>ab hk,?_⟩;have ad:=(Fo.A_ HG.h hY).T (k6.M fun k hk=>ab hk);exact⟨(s8.1.T s7.1).T ad.os,(s8.2.1.T s7.2.1).T ad.tape,(s8.2.2.T s7.2.2).T ad.output,by have:=ad.size;omega,fun k hk=>(hw k (by have:=hY k hk;omega)).T (ad.block k hk)⟩
 have HF:=If a0;clear a0 q8 o8 z8 s8 g0 g1 h0 h1 m0 m1;go_wp2_with fail;exact bodyPost_ret (v:=.tuple #[Xu x,.agg #[Xu 0,Xu 0],.bool false,Xi 0]) (by simp[results,f301,go_sem,e0,e1]) rfl ⟨rfl,HF.O.1,HF.O.2,H6.c,H6.d⟩
def tt(w:World)(px ps h_ f9:Nat):Prop:=w.1[px]?=some (.cells #[PV ps,Xi h_,Xi 0,.iface 162 (fE ps h_),Xu f9] 100)
theorem Da(f:Nat)(v:Value)(w:World):(method (f+1) 162 v "loft/backend.size").run prog w=.ok (304,v) w:=k_
theorem C9(f:Nat)(v:Value)(w:World):(method (f+1) 162 v "loft/backend.rank").run prog w=.ok (302,v) w:=k_
theorem rI(f:Nat)(v:Value)(w:World):(method (f+1) 162 v "loft/backend.at").run prog w=.ok (299,v) w:=k_
theorem vQ(f:Nat)(v:Value)(w:World):(method (f+1) 162 v "loft/backend.insert").run prog w=.ok (301,v) w:=k_
theorem lB(A B:World->Prop):∃I:World->Prop,(∀w',I w'->A w'/\B w')/\(∀w',A w'->B w'->I w'):=⟨fun w'=>A w'/\B w',fun _ h=>h,fun _ a b=>⟨a,b⟩⟩
def Lf.treeAtM(S:St)(f9 k:Nat):Option (List UInt8×List UInt8):=
 match kD S f9 k with
 | none=>none
 | some (h,e)=>if e≠0\/18446744073709551616<=h then none else
  match gD S (f_ S h).1.key,gD S (f_ S h).1.val with
  | some a,some b=>some (a,b)
  | _,_=>none
theorem EQ{f9 k:Nat}{p:List UInt8×List UInt8}(h:treeAtM S f9 k=some p):∃hh,hh<2^64/\kD S f9 k=some (hh,0)/\gD S (f_ S hh).1.key=some p.1/\gD S (f_ S hh).1.val=some p.2:=by
 unfold treeAtM at h
 split at h
 ·cases h
 rename_i hh e h1
 split at h
 ·cases h
 rename_i hc;simp only[not_or,df,Nat.not_le] at hc
 split at h
 ·rename_i a b h2 h3;have h:=Option.some.inj h;subst h;exact⟨hh,hc.2,by rw[h1,hc.1],h2,h3⟩
 ·cases h
def eu(p:List UInt8×List UInt8):Value:=.agg #[SV p.1,SV p.2]
theorem sS{hh:Nat}{t:List UInt8}(h:gD S hh=some t):(fz S hh).2≠8/\(fz S hh).1=t:=by
 unfold gD at h
 split at h
 ·cases h
 ·rename_i h8;exact⟨h8,Option.some.inj h⟩
end
section
open Lf
namespace Tr
variable{S:St}{k:Nat}{key:List UInt8}{o:Nat->Nat}{t:Tr}
def eB(l:List It):List Nat:=l.flatMap fun d=>[d.h,d.kh,d.vh]
def F5(l:List It):List (List UInt8×List UInt8):=l.map fun d=>(d.k,d.v)
structure fC (Ok:Tr->Prop) (S:St) (o:Nat->Nat) (t:Tr):Prop where
 fit:Fw S o
 at':At S t
 ok:Ok t
 nd:(eB t.its).Nodup
 G7:∀d∈t.its,gu S d
 G6:t.its.Pairwise eU
theorem iX(a b:List It):eB (a++b)=eB a++eB b:=by unfold eB;grind
theorem mx(d:It)(b:List It):eB (d::b)=d.h::d.kh::d.vh::eB b:=rfl
theorem gU{l:List It}{y:Nat}:y∈eB l↔∃d∈l,y=d.h\/y=d.kh\/y=d.vh:=by
 unfold eB;grind
theorem tB:∀{l:List It},(eB l).Nodup->(l.map (·.h)).Nodup/\∀d∈l,d.kh∉l.map (·.h)/\d.vh∉l.map (·.h)
 | [],_=>⟨dA,fun _ hd=>by cases hd⟩
 | d::l,h=>by
  rw[mx] at h;obtain⟨h1,h2⟩:=aG.1 h;obtain⟨h3,h4⟩:=aG.1 h2;obtain⟨h5,h6⟩:=aG.1 h4;obtain⟨g1,g2⟩:=tB h6;simp only[aj,not_or] at h1 h3;have ad:∀x∈l,x.h∈eB l/\x.kh∈eB l/\x.vh∈eB l:=fun x hx=>⟨gU.2 ⟨x,hx,ab rfl⟩,gU.2 ⟨x,hx,ae (ab rfl)⟩,gU.2 ⟨x,hx,ae (ae rfl)⟩⟩;have hm:∀y,y∉eB l->y∉l.map (·.h):=fun y hy hm=>by
   obtain⟨x,hx,rfl⟩:=az.1 hm;exact hy (ad x hx).1
  refine⟨aG.2 ⟨hm _ h1.2.2,g1⟩,fun x hx=>?_⟩;rw[bg];simp only[aj,not_or];rcases aj.1 hx with rfl | hx
  ·exact⟨⟨fun e=>h1.1 e.S,hm _ h3.2⟩,fun e=>h1.2.1 e.S,hm _ h5⟩
  ·exact⟨⟨fun e=>h1.2.2 (e▸(ad x hx).2.1),(g2 x hx).1⟩,fun e=>h1.2.2 (e▸(ad x hx).2.2),(g2 x hx).2⟩
theorem fC.hs{Ok:Tr->Prop}(h:fC Ok S o t):t.hs.Nodup/\∀d∈t.its,d.kh∉t.hs/\d.vh∉t.hs:=tB h.nd
theorem Dk{l m:List Nat}(h:l.Nodup)(hs:∀y∈l,y∈m):l.length<=m.length:=by
 induction l generalizing m with
 | nil=>exact cC _
 | cons x r ih=>
  obtain⟨h1,h2⟩:=aG.1 h;have hx:=hs x (ao ..);have:=ih h2 (m:=m.erase x) fun y hy=>by
   grind
  rw[List.length_erase_of_mem hx] at this;have:0<m.length:=List.length_pos_of_mem hx;simp only[ah];omega
theorem vV {f:Nat->Nat}:∀{l:List Nat},(∀x∈l,∀y∈l,f x=f y->x=y)->l.Nodup->(l.map f).Nodup
 | [],_,_=>dA
 | x::l,h,hn=>by
  obtain⟨h1,h2⟩:=aG.1 hn;rw[bg];refine aG.2 ⟨fun hm=>?_,vV (fun a ha b hb=>h a (am _ ha) b (am _ hb)) h2⟩;obtain⟨y,hy,e⟩:=az.1 hm;have:=h y (am _ hy) x (ao ..) e;exact h1 (this▸hy)
theorem EB(n:Nat):(List.replicate n 8).sum=n*8:=by
 simp_all
theorem AI(hf:Fw S o){h:Nat}{ws:List Nat}(hl:l_ S h=some ws)(hw:6<=ws.length):∃a r,eO S.a o a r/\8<=r/\∃(k:Nat) (x:dR),S.t.p_[k]?=some x/\x.is=1/\h=gj x.gen k/\x.u_=a:=by
 obtain⟨k,x,hx,h1,h2,rfl⟩:=(gT hf.tab).1 hl;obtain⟨r,g1,g2,g3⟩:=hf.live k x hx h1;grind [Jy]
theorem D6(hf:Fw S o){l:List Nat}(hn:l.Nodup)(hl:∀h∈l,∃ws,l_ S h=some ws/\6<=ws.length):l.length<=8*S.a.C6.length:=by
 have key:∀h∈l,∃a r,eO S.a o a r/\8<=r/\∃(k:Nat) (x:dR),S.t.p_[k]?=some x/\x.is=1/\h=gj x.gen k/\x.u_=a:=fun h hm=>by
  obtain⟨ws,h1,h2⟩:=hl h hm;exact AI hf h1 h2
 let f:Nat->Nat:=fun h=>if hm:h∈l then(key h hm).choose / 8 else 0
 have ad:∀h (hm:h∈l),f h=(key h hm).choose / 8:=fun h hm=>by grind
 have ai:(l.map f).Nodup:=by
  refine vV ?_ hn;intro x hx y hy he;rw[ad x hx,ad y hy] at he;obtain⟨r,p1,q1,k1,s1,a1,b1,c1,d1⟩:=(key x hx).choose_spec;obtain⟨r',p2,q2,k2,s2,a2,b2,c2,d2⟩:=(key y hy).choose_spec;generalize (key x hx).choose=A at*;generalize (key y hy).choose=B at*
  rcases eO.apart hf.own p1 p2 with g | g | g
  ·have e:k1=k2:=hf.inj k1 k2 s1 s2 a1 a2 b1 b2 (by rw[d1,d2];exact g.1);subst e;rw[a1] at a2
   injection a2 with a2
   subst a2;rw[c1,c2]
  ·omega
  omega
 have an:∀y∈l.map f,y∈S.a.i_.flatMap fun p=>(List.range 8).map fun j=>8*p+j:=by
  intro y hy;obtain⟨h,hm,rfl⟩:=az.1 hy;rw[ad h hm];obtain⟨r,p1,q1,_⟩:=(key h hm).choose_spec;generalize (key h hm).choose=A at*;refine List.mem_flatMap.2 ⟨A / 64,((p1.ok hf.own (b:=0) o_).2.2),az.2 ⟨A / 8 % 8,bz.2 o_,o_⟩⟩
 have:=Dk ai an;rw[ak,List.length_flatMap] at this;have e:(S.a.i_.map fun p=>((List.range 8).map fun j=>8*p+j).length)=S.a.i_.map fun _=>8:=by
  grind
 rw[e,List.map_const',EB,i8] at this;omega
theorem At.rec {S:St}:∀{t:Tr},At S t->∀h∈t.hs,∃n:Nd,l_ S h=some (eM n)
 | nil,_,h,hm=>by cases hm
 | node l d m r,⟨h1,h2,h3⟩,h,hm=>by
  rw[eY] at hm;rcases ay.1 hm with hm | hm
  ·exact h2.rec h hm
  ·rcases aj.1 hm with rfl | hm
   ·exact⟨_,h1⟩
   ·exact h3.rec h hm
theorem fC.r_{Ok:Tr->Prop}(h:fC Ok S o t):t.its.length<Lf.r_ S:=by
 have:=D6 h.fit h.hs.1 fun y hy=>by
  obtain⟨n,hn⟩:=h.at'.rec y hy;exact⟨_,hn,by simp[eM]⟩
 grind [Tr.hs,List.length_map,Lf.r_,St.words]
def Fr(key:List UInt8)(l:List It):Nat:=l.countP fun d=>decide (Fu d.k key<0)
theorem lJ(key:List UInt8)(a b:List It):Fr key (a++b)=Fr key a+Fr key b:=List.countP_append
theorem lI{l:List It}(h:∀d∈l,Fu d.k key<0):Fr key l=l.length:=List.countP_eq_length.2 fun d hd=>by simpa using h d hd
theorem lK{l:List It}(h:∀d∈l,¬Fu d.k key<0):Fr key l=0:=List.countP_eq_zero.2 fun d hd=>by simpa using h d hd
theorem Mh {S:St}{o:Nat->Nat}(hf:Fw S o)(key:List UInt8):∀(f:Nat) {t:Tr} {b:Nat},At S t->(∀d∈t.its,gu S d)->t.its.Pairwise eU->t.its.length<=f->b+t.its.length<1000000->
 ∃hh,ij S key f t.f9 b=some (hh,b+Fr key t.its)/\((hh=0/\∀d∈t.its,d.k≠key)\/∃d∈t.its,d.k=key/\hh=d.h)
 | 0,t,b,ha,hb,hs,hl,hc=>by
  cases t with
  | nil=>exact⟨0,rfl,ab ⟨rfl,fun _ hd=>by grind⟩⟩
  | node l d m r=>simp[its] at hl
 | f+1,t,b,ha,hb,hs,hl,hc=>by
  cases t with
  | nil=>exact⟨0,by rw[JO];rfl,ab ⟨rfl,fun _ hd=>by cases hd⟩⟩
  | node l d m r=>
   have g1:=ha.f_ hf;obtain⟨h1,h2,h3⟩:=ha;have ar:=(fL hf h1).1;have hi:(node l d m r).its=l.its++d::r.its:=rfl;rw[hi] at hb hs hl hc⊢;simp only[ag,ah] at hl hc;obtain⟨s1,s2,s3⟩:=bw.1 hs;obtain⟨s4,s5⟩:=bi.1 s2;have ai:=hb d s_;have er:(node l d m r).f9=d.h:=rfl;rw[er,JO,if_neg o_,g1,if_neg s_];simp only[nd];rw[At.blob hf ai.lk ai.k];simp only;rw[lJ];by_cases c1:Fu key d.k<0
   ·rw[if_pos c1];obtain⟨hh,e,q⟩:=Mh hf key f h2 (fun x hx=>hb x (by simp[hx])) s1 o_ (b:=b) o_;have hz:Fr key (d::r.its)=0:=lK fun x hx=>by
     rcases aj.1 hx with rfl | hx
     ·rw[ie];omega
     ·have:=ig c1 (s4 x hx);rw[ie];omega
    refine⟨hh,by rw[e,hz];rfl,?_⟩;rcases q with⟨q1,q2⟩ | ⟨x,hx,q⟩
    ·left
     refine⟨q1,fun x hx=>?_⟩;rcases ay.1 hx with hx | hx
     ·exact q2 x hx
     ·intro e;rcases aj.1 hx with rfl | hx
      ·rw[<-e,fX] at c1;omega
      ·have:=ig c1 (s4 x hx);rw[e,fX] at this;omega
    grind
   ·rw[if_neg c1,(h2.size hf o_)];simp only;by_cases c2:0<Fu key d.k
    ·rw[if_pos c2,oI o_];simp only;have ad:Fu d.k key<0:=by rw[ie];omega
     obtain⟨hh,e,q⟩:=Mh hf key f h3 (fun x hx=>hb x (by simp[hx])) s5 o_ (b:=b+(l.its.length+1)) o_;have hz:Fr key l.its=l.its.length:=lI fun x hx=>ig (s3 x hx d (ao ..)) ad;have ap:Fr key (d::r.its)=Fr key r.its+1:=by
      unfold Fr;rw[List.countP_cons,if_pos (by simpa using ad)]
     refine⟨hh,by rw[e,hz,ap];congr 2;omega,?_⟩;rcases q with⟨q1,q2⟩ | ⟨x,hx,q⟩
     ·left
      refine⟨q1,fun x hx=>?_⟩;rcases ay.1 hx with hx | hx
      ·intro e;have:=ig (s3 x hx d (ao ..)) ad;rw[e,fX] at this;omega
      ·rcases aj.1 hx with rfl | hx
       ·intro e;rw[e,fX] at c2;omega
       ·exact q2 x hx
     grind
    ·rw[if_neg c2,oI o_];have an:key=d.k:=jL o_;have hz:Fr key l.its=l.its.length:=lI fun x hx=>by rw[an];exact s3 x hx d (ao ..)
     have ap:Fr key (d::r.its)=0:=lK fun x hx=>by
      grind [fX,eU,ie]
     exact⟨d.h,by simp_all,ae ⟨d,s_,an.S,rfl⟩⟩
theorem pP {S:St}{o:Nat->Nat}(hf:Fw S o):∀(f:Nat) {t:Tr} {k:Nat} (_:At S t) (_:t.its.length<=f) (_:t.its.length<1000000) (hk:k<t.its.length),j8 S f t.f9 k=some (t.its[k].h,0)
 | 0,t,k,ha,hl,hc,hk=>by omega
 | f+1,t,k,ha,hl,hc,hk=>by
  cases t with
  | nil=>simp[its] at hk
  | node l d m r=>
   have g1:=ha.f_ hf;obtain⟨h1,h2,h3⟩:=ha;have hi:(node l d m r).its=l.its++d::r.its:=rfl;have ad:(node l d m r).its.length=l.its.length+(r.its.length+1):=by grind
   have er:(node l d m r).f9=d.h:=rfl;rw[er,tF,g1,if_neg s_];simp only[nd];rw[(h2.size hf o_)];simp only;by_cases c1:k<l.its.length
   ·rw[if_pos c1,pP hf f h2 o_ o_ c1];grind
   ·rw[if_neg c1];by_cases c2:l.its.length<k
    ·rw[if_pos c2,pP hf f h3 (k:=k-(l.its.length+1)) o_ o_ o_];simp only[hi];rw[List.getElem_append_right o_,List.getElem_cons,dif_neg o_];congr 3
    grind
theorem fC.down{Ok:Tr->Prop}(h:fC Ok S o t)(hc:t.its.length<100000)(key:List UInt8):∃hh,ij S key (Lf.r_ S) t.f9 0=some (hh,Fr key t.its)/\((hh=0/\∀d∈t.its,d.k≠key)\/∃d∈t.its,d.k=key/\hh=d.h):=by
 obtain⟨hh,e,q⟩:=Mh h.fit key (Lf.r_ S) h.at' h.G7 h.G6 (by have:=h.r_;omega) (b:=0) o_;grind
theorem fC.place{Ok:Tr->Prop}(h:fC Ok S o t)(hc:t.its.length<100000)(hk:k<t.its.length):treeAtM S t.f9 k=some (t.its[k].k,t.its[k].v):=by
 have hm:t.its[k]∈t.its:=aw hk;have hb:=h.G7 _ hm;have hw:kD S t.f9 k=some (t.its[k].h,0):=by
  unfold kD;rw[h.at'.size h.fit o_];simp only;rw[if_neg o_,pP h.fit _ h.at' (by have:=h.r_;omega) o_ hk]
 have ad:∃n0:Nd,l_ S t.its[k].h=some (eM n0)/\n0.key=t.its[k].kh/\n0.val=t.its[k].vh:=by
  have:∀{t:Tr},At S t->∀d∈t.its,∃n0:Nd,l_ S d.h=some (eM n0)/\n0.key=d.kh/\n0.val=d.vh:=by
   intro t
   induction t with
   | nil=>intro _ d hd;cases hd
   | node l e m r ih1 ih2=>
    intro ha d hd;obtain⟨h1,h2,h3⟩:=ha
    rcases ay.1 (show d∈l.its++e::r.its from hd) with hd | hd
    ·grind
    ·rcases aj.1 hd with rfl | hd
     ·exact⟨_,h1,rfl,rfl⟩
     grind
  exact this h.at' _ hm
 obtain⟨n0,e1,e2,e3⟩:=ad;unfold treeAtM;rw[hw];simp only;rw[if_neg (by have:=(fL h.fit e1).2.1;omega),gw h.fit e1];simp only;rw[e2,e3,At.blob h.fit hb.lk hb.k,At.blob h.fit hb.lv hb.v]
theorem fC.over{Ok:Tr->Prop}(h:fC Ok S o t)(hc:t.its.length<100000)(hk:t.its.length<=k):kD S t.f9 k=some (0,2):=by
 unfold kD;rw[h.at'.size h.fit o_];grind
end Tr
end
section
open Lf Tr
structure Bn (K:Type) where
 h:Nat
 es:List It
 ks:List K
def Bt:Nat->Type
 | 0=>Empty
 | d+1=>Bn (Bt d)
namespace Bt
variable{d:Nat}{k:Nat}{key:List UInt8}
def ei:List It->List (List It)->List It
 | [],[]=>[]
 | [],k::_=>k
 | e::es,[]=>e::ei es []
 | e::es,k::ks=>k++e::ei es ks
def lo:List It->List (List It)->List It
 | e::es,k::ks=>k++e::lo es ks
 | _,_=>[]
def hd: {d:Nat} ->Bt d->Nat
 | 0,x=>nomatch x
 | _+1,x=>Bn.h x
def nk: {d:Nat} ->Bt d->Nat
 | 0,x=>nomatch x
 | _+1,x=>(Bn.es x).length
def its: {d:Nat} ->Bt d->List It
 | 0,x=>nomatch x
 | _+1,x=>ei (Bn.es x) ((Bn.ks x).map fun k=>its k)
def j_: {d:Nat} ->Bt d->List Nat
 | 0,x=>nomatch x
 | _+1,x=>Bn.h x::((Bn.ks x).map fun k=>j_ k).flatten
def Ok(t:Nat): {d:Nat} ->Bt d->Prop
 | 0,x=>nomatch x
 | d+1,x=>(Bn.es x).length<=2*t-1/\((Bn.ks x).length=if d=0 then 0 else(Bn.es x).length+1)/\∀k∈Bn.ks x,Ok t k/\t<=nk k+1
theorem dQ(x:Bt (d+1)):its x=ei (Bn.es x) ((Bn.ks x).map its):=rfl
theorem jQ(x:Bt (d+1)):j_ x=Bn.h x::((Bn.ks x).map j_).flatten:=rfl
theorem jY:∀es:List It,ei es []=es
 | []=>rfl
 | e::es=>by rw[ei,jY es]
theorem I6(l:List (Bt 0)):l=[]:=by
 cases l with
 | nil=>rfl
 | cons a _=>exact nomatch (a:Empty)
theorem its_leaf(x:Bt 1):its x=Bn.es x:=by rw[dQ,I6 (Bn.ks x)];exact jY _
theorem xU:∀(es:List It) (ks:List (List It)) (k:Nat),k<=es.length->ks.length=es.length+1->ei es ks=lo (es.take k) (ks.take k)++ei (es.drop k) (ks.drop k)
 | _,_,0,_,_=>by simp[lo]
 | [],_,k+1,h,_=>by simp at h
 | e::es,[],k+1,_,h=>by simp at h
 | e::es,a::ks,k+1,h1,h2=>by
  simp only[ah,Nat.add_le_add_iff_right,cN] at h1 h2;have:=xU es ks k h1 h2;simp only[bT,bX,lo,ei,this,bp,aM]
def gJ(es:List It)(ks:List (List It))(k:Nat):List It:=
 match es.drop k with
 | []=>[]
 | e::r=>e::ei r (ks.drop (k+1))
theorem nA{es:List It}{ks:List (List It)}(h1:k<=es.length)(h2:ks.length=es.length+1):ei es ks=lo (es.take k) (ks.take k)++(ks.getD k []++gJ es ks k):=by
 grind [xU,List.drop_eq_getElem_cons,List.getElem?_eq_getElem,gJ,ei]
theorem mP{es:List It}{ks:List (List It)}(h:k<es.length):gJ es ks k=es[k]::ei (es.drop (k+1)) (ks.drop (k+1)):=by
 unfold gJ;rw[aZ h]
theorem uL{es:List It}{ks:List (List It)}(h:es.length<=k):gJ es ks k=[]:=by
 unfold gJ;rw[co h]
theorem lo_length:∀(es:List It) (ks:List (List It)),es.length=ks.length->(lo es ks).length=es.length+(ks.map List.length).sum
 | [],[],_=>rfl
 | [],_::_,h=>by simp at h
 | _::_,[],h=>by simp at h
 | e::es,k::ks,h=>by
  simp only[ah,cN] at h;have:=lo_length es ks h;simp only[lo,ag,ah,this,bg,List.sum_cons];omega
theorem Mt:∀(es:List It) (ks:List (List It)) (e:It) (k:List It),es.length=ks.length->lo (es++[e]) (ks++[k])=lo es ks++(k++[e])
 | [],[],_,_,_=>rfl
 | [],_::_,_,_,h=>by simp at h
 | _::_,[],_,_,h=>by simp at h
 | a::es,b::ks,e,k,h=>by
  simp only[ah,cN] at h;have:=Mt es ks e k h;simp only[aM,lo,this,bp]
theorem JD:∀(es:List It) (ks:List (List It)),(ks=[]\/ks.length=es.length+1)->es.Sublist (ei es ks)
 | [],_,_=>List.nil_sublist _
 | e::es,[],_=>by rw[jY];grind
 | e::es,k::ks,h=>by
  have h:ks.length=es.length+1:=by
   rcases h with h | h
   ·cases h
   ·simpa using h
  exact((JD es ks (ae h)).cons_cons e).T (List.sublist_append_right _ _)
theorem Lv{a b c:It}(h:eU a b)(g:eU b c):eU a c:=ig h g
theorem vu {key:List UInt8}:∀(es:List It) (ks:List (List It)),es.length=ks.length->(lo es ks).Pairwise eU->(∀e∈es,Fu e.k key<0)->∀d∈lo es ks,Fu d.k key<0
 | [],_,_,_,_,d,hd=>by cases hd
 | _::_,[],h,_,_,d,hd=>by simp at h
 | e::es,k::ks,h,hp,hb,d,hd=>by
  simp only[ah,cN] at h;rw[lo] at hp hd;obtain⟨p1,p2,p3⟩:=bw.1 hp;have he:=hb e (ao ..);rcases ay.1 hd with hd | hd
  ·exact ig (p3 d hd e (ao ..)) he
  ·rcases aj.1 hd with rfl | hd
   ·exact he
   ·exact vu es ks h (bi.1 p2).2 (fun e he=>hb e (am _ he)) d hd
theorem lL {key:List UInt8}:∀{l:List It},l.Pairwise eU->(∀d∈l.take (Fr key l),Fu d.k key<0)/\(∀d∈l.drop (Fr key l),¬Fu d.k key<0)/\Fr key l<=l.length
 | [],_=>⟨by grind,by grind,Nat.le_refl _⟩
 | e::l,h=>by
  obtain⟨h1,h2⟩:=bi.1 h;obtain⟨g1,g2,g3⟩:=lL (key:=key) h2;by_cases he:Fu e.k key<0
  ·have hb:Fr key (e::l)=Fr key l+1:=by unfold Fr;rw[dm (by simpa using he)]
   grind
  ·have ad:∀d∈l,¬Fu d.k key<0:=fun d hd hlt=>he (ig (h1 d hd) hlt);have hb:Fr key (e::l)=0:=lK fun d hd=>by
    rcases aj.1 hd with rfl | hd
    ·exact he
    ·exact ad d hd
   grind
def H_(key:List UInt8)(l:List It):Option It:=l.find? fun d=>d.k==key
theorem oa{a b:List It}(h:∀d∈a,d.k≠key):H_ key (a++b)=H_ key b:=by
 grind [H_,List.find?_eq_none,hd]
theorem findB_none{a:List It}(h:∀d∈a,d.k≠key):H_ key a=none:=bK.2 fun d hd=>by simpa using h d hd
theorem AR{a b:List It}(h:∀d∈b,d.k≠key):H_ key (a++b)=H_ key a:=by
 grind [H_,List.find?_eq_none,hd,List.find?]
theorem ur{e:It}{l:List It}(h:e.k=key):H_ key (e::l)=some e:=by
 unfold H_;grind
theorem ne_of_lt{d:It}(h:Fu d.k key<0):d.k≠key:=fun e=>by rw[e,fX] at h;omega
theorem ne_of_gt{d:It}(h:0<Fu d.k key):d.k≠key:=fun e=>by rw[e,fX] at h;omega
structure ix (key:List UInt8) (es:List It) (ks:List (List It)):Prop where
 len:ks.length=es.length+1
 lo:∀d∈lo (es.take (Fr key es)) (ks.take (Fr key es)),Fu d.k key<0
 le:Fr key es<=es.length
 hi:∀d∈gJ es ks (Fr key es),¬Fu d.k key<0
 kid:(ks.getD (Fr key es) []).Pairwise eU
 hiS:(gJ es ks (Fr key es)).Pairwise eU
 kh:∀a∈ks.getD (Fr key es) [],∀b∈gJ es ks (Fr key es),eU a b
theorem l7{es:List It}{ks:List (List It)}(h:ks.length=es.length+1)(hs:(ei es ks).Pairwise eU):ix key es ks:=by
 have ad:es.Pairwise eU:=hs.sublist (JD es ks (ae h));obtain⟨b1,b2,b3⟩:=lL (key:=key) ad;have hw:=nA (ks:=ks) b3 h;rw[hw] at hs;obtain⟨p1,p2,p3⟩:=bw.1 hs;obtain⟨q1,q2,q3⟩:=bw.1 p2;refine⟨h,vu _ _ (by grind) p1 b1,b3,?_,q1,q2,q3⟩;intro d hd
 by_cases hk:Fr key es<es.length
 ·rw[mP hk] at hd q2;have he:=b2 es[Fr key es] (by rw[aZ hk];grind)
  rcases aj.1 hd with rfl | hd
  ·omega
  ·exact fun hlt=>he (ig ((bi.1 q2).1 d hd) hlt)
 ·rw[uL o_] at hd
  grind
theorem ix.parts{es:List It}{ks:List (List It)}(h:ix key es ks):ei es ks=Bt.lo (es.take (Fr key es)) (ks.take (Fr key es))++(ks.getD (Fr key es) []++gJ es ks (Fr key es)):=nA h.le h.len
theorem ix.lo_len{es:List It}{ks:List (List It)}(h:ix key es ks):(Bt.lo (es.take (Fr key es)) (ks.take (Fr key es))).length=Fr key es+((ks.take (Fr key es)).map List.length).sum:=by
 have h1:=h.le;have h2:=h.len;grind [lo_length,List.length_take]
theorem ix.a_{es:List It}{ks:List (List It)}(h:ix key es ks):Fr key (ei es ks)=Fr key es+((ks.take (Fr key es)).map List.length).sum+Fr key (ks.getD (Fr key es) []):=by
 rw[h.parts,lJ,lJ,lI h.lo,lK h.hi,h.lo_len];rfl
theorem ix.here{es:List It}{ks:List (List It)}(h:ix key es ks)(hk:Fr key es<es.length)(he:(es[Fr key es]).k=key):H_ key (ei es ks)=some es[Fr key es]/\Fr key (ks.getD (Fr key es) [])=(ks.getD (Fr key es) []).length:=by
 have ad:∀d∈ks.getD (Fr key es) [],Fu d.k key<0:=fun d hd=>by
  have:=h.kh d hd es[Fr key es] (by rw[mP hk];exact ao ..);unfold eU at this
  grind
 refine⟨?_,lI ad⟩;rw[h.parts,oa fun d hd=>ne_of_lt (h.lo d hd),oa fun d hd=>ne_of_lt (ad d hd),mP hk,ur he]
theorem ix.down{es:List It}{ks:List (List It)}(h:ix key es ks)(hn:∀hk:Fr key es<es.length,(es[Fr key es]).k≠key):H_ key (ei es ks)=H_ key (ks.getD (Fr key es) []):=by
 rw[h.parts,oa fun d hd=>ne_of_lt (h.lo d hd),AR];intro d hd
 by_cases hk:Fr key es<es.length
 ·have h2:=h.hi;have h3:=h.hiS;rw[mP hk] at hd h2 h3;have e0:=h2 _ (ao ..);have e1:0<Fu (es[Fr key es]).k key:=by
   grind [Int.lt_trichotomy,Fu,Fr,absurd,jL]
  rcases aj.1 hd with rfl | hd
  ·grind
  ·have:=(bi.1 h3).1 d hd;have h4:Fu key d.k<0:=ig (by rw[ie];omega) this
   grind
 ·rw[uL o_] at hd
  grind
theorem vl{es:List It}(hs:es.Pairwise eU)(hn:∀hk:Fr key es<es.length,(es[Fr key es]).k≠key):∀d∈es,d.k≠key:=by
 obtain⟨b1,b2,b3⟩:=lL (key:=key) hs;intro d hd;rw[<-aV (Fr key es) es] at hd
 rcases ay.1 hd with hd | hd
 ·exact ne_of_lt (b1 d hd)
 ·by_cases hk:Fr key es<es.length
  ·have ad:=hs.drop (i:=Fr key es);rw[aZ hk] at hd b2 ad;have e1:0<Fu (es[Fr key es]).k key:=by
    rcases dg (Fu (es[Fr key es]).k key) 0 with g | g | g
    ·exact absurd g (b2 _ (ao ..))
    ·exact absurd (jL g) (hn hk)
    ·exact g
   rcases aj.1 hd with rfl | hd
   ·exact ne_of_gt e1
   ·have:=(bi.1 ad).1 d hd;have h4:Fu key d.k<0:=ig (by rw[ie];omega) this;exact fun e=>by rw[e,fX] at h4;omega
  grind
theorem Kv{es:List It}(hs:es.Pairwise eU)(hk:Fr key es<es.length)(he:(es[Fr key es]).k=key):H_ key es=some es[Fr key es]:=by
 obtain⟨b1,b2,b3⟩:=lL (key:=key) hs
 conv=>lhs;rw[<-aV (Fr key es) es]
 grind [oa,hd,ne_of_lt,List.drop_eq_getElem_cons,ur]
theorem Ok.C_{t d:Nat}{x:Bt (d+2)}(h:Ok t x):(Bn.ks x).length=(Bn.es x).length+1:=by
 have:=h.2.1;grind
theorem Ok.rows{t d:Nat}{x:Bt (d+2)}(h:Ok t x):((Bn.ks x).map its).length=(Bn.es x).length+1:=by
 rw[ak];exact h.C_
theorem jN{ks:List (Bt d)}(h:k<ks.length):(ks.map its).getD k []=its ks[k]:=by
 grind
theorem pow_le(t:Nat)(ht:2<=t):∀{d:Nat} {x:Bt d},Ok t x->1<=nk x->2^d<=(its x).length+1
 | 0,x,_,_=>nomatch x
 | 1,x,_,h=>by
  rw[its_leaf];have:1<=(Bn.es x).length:=h;omega
 | d+2,x,h,h1=>by
  have hk:=Ok.C_ h;have h1:1<=(Bn.es x).length:=h1;obtain⟨e,es,he⟩:=dq (l:=Bn.es x) o_;have ad:2<=(Bn.ks x).length:=o_
  obtain⟨a,r,hr⟩:=dq (l:=Bn.ks x) o_;obtain⟨b,r2,ai⟩:=dq (l:=r) (by rw[hr] at ad;simp at ad;omega);subst ai;have ha:=h.2.2 a (by rw[hr];exact ao ..);have hb:=h.2.2 b (by rw[hr];exact am _ (ao ..));have pa:=pow_le t ht ha.1 o_;have pb:=pow_le t ht hb.1 o_;have hi:its (d:=d+2) x=its a++e::ei es (its b::r2.map its):=by
   rw[dQ,he,hr];rfl
  have hw:(its b).length<=(ei es (its b::r2.map its)).length:=by
   cases es with
   | nil=>simp[ei]
   | cons f es=>simp[ei]
  grind
end Bt
namespace Bt
variable{e:It}{k:Nat}
theorem nz:∀(A B:List It) (C D:List (List It)),A.length=C.length->ei (A++B) (C++D)=lo A C++ei B D
 | [],_,[],_,_=>rfl
 | [],_,_::_,_,h=>by simp at h
 | _::_,_,[],_,h=>by simp at h
 | a::A,B,c::C,D,h=>by
  simp only[ah,cN] at h;simp only[aM,ei,lo,nz A B C D h,bp]
theorem xV(es:List It)(ks:List (List It))(k:Nat)(r:List It):ei (es.drop k) (r::ks.drop (k+1))=r++gJ es ks k:=by
 grind [gJ,ei]
theorem oW{α:Type}{l:List α}(h:k<l.length):l=l.take k++l[k]::l.drop (k+1):=by
 simp_all
theorem E6{es:List It}{ks:List (List It)}(h1:k<=es.length)(h2:ks.length=es.length+1)(r:List It):ei es (ks.set k r)=lo (es.take k) (ks.take k)++(r++gJ es ks k):=by
 have hk:k<ks.length:=o_
 have e1:ks.set k r=ks.take k++r::ks.drop (k+1):=by rw[db,if_pos hk]
 grind [List.take_append_drop,nz,List.length_take,xV]
theorem E4{es:List It}{ks:List (List It)}(h1:k<=es.length)(h2:ks.length=es.length+1)(m:It)(r1 r2:List It):
 ei (es.take k++m::es.drop k) (ks.take k++r1::r2::ks.drop (k+1))=lo (es.take k) (ks.take k)++(r1++m::(r2++gJ es ks k)):=by
 grind [nz,List.length_take,ei,xV]
theorem E5{es:List It}{ks:List (List It)}{i:Nat}(h1:i<es.length)(h2:ks.length=es.length+1):ei es ks=ei (es.take i) (ks.take (i+1))++es[i]::ei (es.drop (i+1)) (ks.drop (i+1)):=by
 have hk:i<ks.length:=o_
 have e3:ks.take (i+1)=ks.take i++[ks[i]]:=by rw[aA hk]
 have e4:=nz (es.take i) [] (ks.take i) [ks[i]] (by rw[aF,aF];omega)
 grind [oW,nz,List.length_take,ei]
theorem sZ:∀(es:List It) (ks:List (List It)),ks=[]\/ks.length=es.length+1->(ei es ks).length=es.length+(ks.map List.length).sum
 | [],[],_=>rfl
 | [],[k],_=>by simp[ei]
 | [],_::_::_,h=>by grind
 | e::es,[],_=>by rw[jY];simp
 | e::es,k::ks,h=>by
  have h:ks.length=es.length+1:=by simpa using h
  have:=sZ es ks (ae h);simp only[ei,ag,ah,this,bg,List.sum_cons];omega
def insB(e:It)(l:List It):List It:=l.take (Fr e.k l)++e::l.drop (Fr e.k l)
theorem BE{A K B:List It}(hA:∀d∈A,Fu d.k e.k<0)(hB:∀d∈B,¬Fu d.k e.k<0):insB e (A++(K++B))=A++(insB e K++B):=by
 have hb:Fr e.k (A++(K++B))=A.length+Fr e.k K:=by rw[lJ,lJ,lI hA,lK hB];rfl
 have hk:Fr e.k K<=K.length:=cD;unfold insB;rw[hb,List.take_append,List.drop_append,aJ o_,show A.drop (A.length+Fr e.k K)=[] from co o_,dr,List.take_append,List.drop_append,
  Nat.sub_eq_zero_of_le hk,cz,c8,bI,aU]
 grind
theorem insB_length(e:It)(l:List It):(insB e l).length=l.length+1:=by
 have:Fr e.k l<=l.length:=cD;grind [insB,List.length_append,List.length_cons,List.length_take,List.length_drop]
theorem kg{e d:It}{l:List It}:d∈insB e l↔d=e\/d∈l:=by
 grind [insB,List.take_append_drop,Fr]
theorem uR{l:List It}(hs:l.Pairwise eU)(hn:∀d∈l,d.k≠e.k):(insB e l).Pairwise eU:=by
 obtain⟨b1,b2,b3⟩:=lL (key:=e.k) hs;have ad:∀d∈l.drop (Fr e.k l),eU e d:=fun d hd=>by
  have h1:=b2 d hd;have h2:=hn d (bA hd)
  grind [eU,ie,Int.lt_trichotomy,Fu,absurd,jL]
 refine bw.2 ⟨hs.take,bi.2 ⟨ad,hs.drop⟩,fun a ha b hb=>?_⟩
 rcases aj.1 hb with rfl | hb
 ·exact b1 a ha
 ·exact Lv (b1 a ha) (ad b hb)
theorem CZ{d:Nat}(ks:List (Bt d))(k:Nat)(y:Bt d):(ks.set k y).map its=(ks.map its).set k (its y):=List.map_set ..
theorem ix.insert{es:List It}{ks:List (List It)}(h:ix e.k es ks):insB e (ei es ks)=Bt.lo (es.take (Fr e.k es)) (ks.take (Fr e.k es))++(insB e (ks.getD (Fr e.k es) [])++gJ es ks (Fr e.k es)):=by
 rw[h.parts,BE h.lo h.hi]
def gY(t:Nat){d:Nat}(x:Bt (d+1)):Prop:=(Bn.es x).length<=2*t/\((Bn.ks x).length=if d=0 then 0 else(Bn.es x).length+1)/\∀k∈Bn.ks x,Ok t k/\t<=nk k+1
def leafPut {d:Nat}(x:Bt (d+1))(e:It):Bt (d+1):=(⟨Bn.h x,(Bn.es x).take (Fr e.k (Bn.es x))++e::(Bn.es x).drop (Fr e.k (Bn.es x)),Bn.ks x⟩:Bn (Bt d))
def ju {d:Nat}(x:Bt (d+1))(k:Nat)(y:Bt d):Bt (d+1):=(⟨Bn.h x,Bn.es x,(Bn.ks x).set k y⟩:Bn (Bt d))
def ja {d:Nat}(x:Bt (d+1))(k:Nat)(y1:Bt d)(m:It)(y2:Bt d):Bt (d+1):=(⟨Bn.h x,(Bn.es x).take k++m::(Bn.es x).drop k,(Bn.ks x).take k++y1::y2::(Bn.ks x).drop (k+1)⟩:Bn (Bt d))
def I_(t:Nat){d:Nat}(x:Bt (d+1)):Bt (d+1):=(⟨Bn.h x,(Bn.es x).take t,(Bn.ks x).take (t+1)⟩:Bn (Bt d))
def I4(t:Nat){d:Nat}(x:Bt (d+1))(h:Nat):Bt (d+1):=(⟨h,(Bn.es x).drop (t+1),(Bn.ks x).drop (t+1)⟩:Bn (Bt d))
theorem Ch(x:Bt 1)(e:It):its (leafPut x e)=insB e (its x):=by
 rw[its_leaf,its_leaf];rfl
theorem lg{es:List It}(h:k<=es.length)(m:It):(es.take k++m::es.drop k).length=es.length+1:=by
 grind
theorem vj{t:Nat}(ht:1<=t){x:Bt 1}(h:Ok t x)(e:It):gY t (leafPut x e):=by
 refine⟨?_,h.2.1,h.2.2⟩;have:=h.1
 show ((Bn.es x).take (Fr e.k (Bn.es x))++e::(Bn.es x).drop (Fr e.k (Bn.es x))).length<=2*t
 grind
theorem BO{t d:Nat}{x:Bt (d+2)}(h:Ok t x)(k:Nat)(hk:k<=(Bn.es x).length)(y:Bt (d+1)):its (ju x k y)=lo ((Bn.es x).take k) (((Bn.ks x).map its).take k)++(its y++gJ (Bn.es x) ((Bn.ks x).map its) k):=by
 show ei (Bn.es x) (((Bn.ks x).set k y).map its)=_
 rw[CZ,E6 hk h.rows]
theorem BQ{t d:Nat}{x:Bt (d+2)}(h:Ok t x)(k:Nat)(hk:k<=(Bn.es x).length)(y1:Bt (d+1))(m:It)(y2:Bt (d+1)):its (ja x k y1 m y2)=lo ((Bn.es x).take k) (((Bn.ks x).map its).take k)++(its y1++m::(its y2++gJ (Bn.es x) ((Bn.ks x).map its) k)):=by
 rw[dQ,<-E4 hk h.rows]
 show ei _ (((Bn.ks x).take k++y1::y2::(Bn.ks x).drop (k+1)).map its)=_
 rw[aQ,bg,bg,dj,List.map_drop]
 rfl
theorem BP{t d:Nat}(ht:1<=t){x:Bt (d+2)}(h:Ok t x)(k:Nat){y:Bt (d+1)}(hy:Ok t y)(hn:t<=nk y+1):gY t (ju x k y):=by
 refine⟨?_,?_,fun z hz=>?_⟩
 ·have:=h.1
  show (Bn.es x).length<=2*t;omega
 ·show ((Bn.ks x).set k y).length=_;rw[bx];exact h.2.1
 ·rcases de hz with hz | rfl
  ·exact h.2.2 z hz
  grind
theorem BS{t d:Nat}(ht:1<=t){x:Bt (d+2)}(h:Ok t x)(k:Nat)(hk:k<=(Bn.es x).length){y1 y2:Bt (d+1)}(m:It)(h1:Ok t y1)(n1:t<=nk y1+1)(h2:Ok t y2)(n2:t<=nk y2+1):gY t (ja x k y1 m y2):=by
 have ad:=Ok.C_ h;refine⟨?_,?_,fun z hz=>?_⟩
 ·have:=h.1
  show ((Bn.es x).take k++m::(Bn.es x).drop k).length<=2*t
  grind
 ·rw[if_neg o_]
  show ((Bn.ks x).take k++y1::y2::(Bn.ks x).drop (k+1)).length=((Bn.es x).take k++m::(Bn.es x).drop k).length+1
  grind
 ·rcases ay.1 (show z∈(Bn.ks x).take k++y1::y2::(Bn.ks x).drop (k+1) from hz) with hz | hz
  ·exact h.2.2 z (bB hz)
  ·rcases aj.1 hz with rfl | hz
   ·grind
   ·rcases aj.1 hz with rfl | hz
    ·grind
    ·exact h.2.2 z (bA hz)
theorem gY.ok{t d:Nat}{x:Bt (d+1)}(h:gY t x)(hl:(Bn.es x).length<2*t):Ok t x:=⟨o_,h.2.1,h.2.2⟩
theorem gY.rows{t d:Nat}{x:Bt (d+1)}(h:gY t x):((Bn.ks x).map its=[]/\d=0)\/(((Bn.ks x).map its).length=(Bn.es x).length+1/\d≠0):=by
 by_cases hd:d=0
 ·subst hd;exact ab ⟨by rw[I6 (Bn.ks x)];rfl,rfl⟩
 ·have:=h.2.1
  grind
theorem gY.split{t d:Nat}(ht:1<=t){x:Bt (d+1)}(h:gY t x)(hl:(Bn.es x).length=2*t)(g:Nat):its x=its (I_ t x)++(Bn.es x)[t]' o_::its (I4 t x g)/\Ok t (I_ t x)/\Ok t (I4 t x g)/\nk (I_ t x)=t/\nk (I4 t x g)+1=t:=by
 have hL:nk (I_ t x)=t:=by show ((Bn.es x).take t).length=t;grind
 have hR:nk (I4 t x g)+1=t:=by show ((Bn.es x).drop (t+1)).length+1=t;grind
 have hk:=h.2.1;refine⟨?_,⟨by have:((Bn.es x).take t).length=t:=hL;show ((Bn.es x).take t).length<=_;omega,?_,fun z hz=>h.2.2 z (bB hz)⟩,⟨by have:((Bn.es x).drop (t+1)).length+1=t:=hR;show ((Bn.es x).drop (t+1)).length<=_;omega,?_,fun z hz=>h.2.2 z (bA hz)⟩,hL,hR⟩
 ·rw[dQ,dQ,dQ]
  show _=ei ((Bn.es x).take t) (((Bn.ks x).take (t+1)).map its)++_::ei ((Bn.es x).drop (t+1)) (((Bn.ks x).drop (t+1)).map its)
  rw[dj,List.map_drop]
  rcases h.rows with⟨h0,_⟩ | ⟨h0,_⟩
  ·rw[h0,List.take_nil,List.drop_nil,jY,jY,jY];exact oW o_
  ·exact E5 o_ h0
 ·show ((Bn.ks x).take (t+1)).length=if d=0 then 0 else((Bn.es x).take t).length+1
  grind
 ·show ((Bn.ks x).drop (t+1)).length=if d=0 then 0 else((Bn.es x).drop (t+1)).length+1
  grind
theorem qYeaa{P:Prop}(h:P:=by
 rcases h.rows with⟨h0,_⟩ | ⟨h0,_⟩
 ·exact ab h0
 omega):P:=h
theorem its_length{t d:Nat}{x:Bt (d+1)}(h:gY t x):(its x).length=(Bn.es x).length+((Bn.ks x).map fun k=>(its k).length).sum:=by
 rw[dQ,sZ]
 ·rw[cy]
  rfl
 ·exact qYeaa
theorem Ok.okN{t d:Nat}{x:Bt (d+1)}(h:Ok t x):gY t x:=⟨by have:=h.1;omega,h.2.1,h.2.2⟩
end Bt
structure jg (S:St) (t h:Nat) (n:BN):Prop where
 ok:iU t n
 lt:h<2^64
 len:S.len h=(6*t,0)
 get:∀k,k<6*t->S.get h k=(wAt t n n.i_.length n.C_.length k,0)
 words:∀v∈w_ t n,v<2^64
theorem zC {S:St}{o:Nat->Nat}(hf:Fw S o){t h:Nat}{n:BN}(hl:l_ S h=some (w_ t n))(hn:iU t n):jg S t h n:=by
 have h1:=jw hf.tab hl;have h2:=fL hf hl;rw[jJ] at h1;refine⟨hn,h2.2.1,h1,fun k hk=>?_,h2.2.2.2⟩;rw[ru hf hl (by rw[jJ];exact hk)];grind [w_,List.getElem?_range]
structure iT (n:BN):Prop where
 i_:∀v∈n.i_,v<2^64
 F4:∀v∈n.F4,v<2^64
 C_:∀v∈n.C_,v<2^64
 size:n.size<2^64
theorem qK {l:List Nat}(h:∀v∈l,v<2^64)(k:Nat):l.getD k 0<2^64:=by
 grind [List.getElem?_eq_getElem,List.getElem_mem,List.getElem?_eq_none]
theorem kX {t:Nat}{n:BN}(h:iT n)(hk:n.i_.length<2^64):∀v∈w_ t n,v<2^64:=by
 intro v hv;obtain⟨j,_,rfl⟩:=az.1 hv;have h1:=qK h.i_ ((j-2) / 2);have h2:=qK h.F4 ((j-2) / 2);have h3:=qK h.C_ (j-4*t);have h4:=h.size;unfold wAt;grind
namespace Bt
variable{S:St}{d:Nat}{e:It}{o:Nat->Nat}{t:Nat}
def bn {d:Nat}(x:Bt (d+1)):BN:=⟨(Bn.es x).map (·.kh),(Bn.es x).map (·.vh),(Bn.ks x).map hd,(its x).length⟩
def At(S:St)(t:Nat): {d:Nat} ->Bt d->Prop
 | 0,x=>nomatch x
 | _+1,x=>l_ S (Bn.h x)=some (w_ t (bn x))/\∀k∈Bn.ks x,At S t k
theorem At.hd_ok(hf:Fw S o):∀{d:Nat} {x:Bt d},At S t x->hd x≠0/\hd x<2^64
 | 0,x,_=>nomatch x
 | d+1,x,h=>by
  have:=fL hf h.1;refine⟨fun e=>?_,this.2.1⟩;have e:Bn.h x=0:=e;have:=this.1;omega
theorem At.bnok(hf:Fw S o)(t1:2<=t)(t2:t<=16){x:Bt (d+1)}(h:At S t x)(ok:Ok t x):iU t (bn x):=by
 refine⟨t1,t2,by unfold bn;rw[ak];exact ok.1,by unfold bn;grind,?_⟩;have hk:=ok.2.1;unfold bn;simp only[ak]
 by_cases hd0:d=0
 ·grind
 ·rw[if_neg hd0] at hk;refine ae ⟨hk,?_⟩;rw[Bool.eq_false_iff];intro hc;obtain⟨k,ad,e⟩:=az.1 (da.1 hc);exact(At.hd_ok hf (h.2 k ad)).1 e
theorem At.read(hf:Fw S o)(t1:2<=t)(t2:t<=16){x:Bt (d+1)}(h:At S t x)(ok:Ok t x):jg S t (hd x) (bn x):=zC hf h.1 (h.bnok hf t1 t2 ok)
theorem At.frame {S S':St}{t:Nat}:∀{d:Nat} {x:Bt d},At S t x->(∀h∈j_ x,l_ S' h=l_ S h)->At S' t x
 | 0,x,_,_=>nomatch x
 | d+1,x,h,hf=>by
  refine⟨(hf _ (ao ..)).T h.1,fun k hk=>(h.2 k hk).frame fun y hy=>hf y (am _ ?_)⟩;exact cI.2 ⟨_,az.2 ⟨k,hk,rfl⟩,hy⟩
theorem mem_nodes_kid{x:Bt (d+1)}{k:Bt d}(hk:k∈Bn.ks x){y:Nat}(hy:y∈j_ k):y∈j_ x:=am _ (cI.2 ⟨_,az.2 ⟨k,hk,rfl⟩,hy⟩)
theorem hd_mem:∀{d:Nat} (x:Bt d),hd x∈j_ x
 | 0,x=>nomatch x
 | _+1,_=>ao ..
theorem At.rec {S:St}{t:Nat}:∀{d:Nat} {x:Bt d},At S t x->∀h∈j_ x,∃n,l_ S h=some (w_ t n)
 | 0,x,_,_,_=>nomatch x
 | d+1,x,h,y,hy=>by
  rcases aj.1 hy with rfl | hy
  ·exact⟨_,h.1⟩
  ·obtain⟨l,hl,hy⟩:=cI.1 hy;obtain⟨k,hk,rfl⟩:=az.1 hl;exact(h.2 k hk).rec y hy
theorem bnLt_of(hf:Fw S o){t d:Nat}{x:Bt (d+1)}(hb:∀e∈Bn.es x,e.kh<2^64/\e.vh<2^64)(hk:∀k∈Bn.ks x,At S t k)(hl:(its x).length<2^64):iT (bn x):=by
 refine⟨fun v hv=>?_,fun v hv=>?_,fun v hv=>?_,hl⟩
 ·obtain⟨e,he,rfl⟩:=az.1 hv
  grind
 ·obtain⟨e,he,rfl⟩:=az.1 hv
  grind
 ·obtain⟨k,ad,rfl⟩:=az.1 hv;exact(At.hd_ok hf (hk k ad)).2
theorem blobs_lt(hf:Fw S o)(h:gu S e):e.kh<2^64/\e.vh<2^64:=⟨(fL hf h.k).2.1,(fL hf h.v).2.1⟩
theorem lN{x:Bt (d+1)}(h:gY t x)(he:e∈Bn.es x):e∈its x:=by
 rw[dQ];refine(JD _ _ ?_).subset he;exact qYeaa
theorem vM:∀(es:List It) (ks:List (List It)),(ks=[]\/ks.length=es.length+1)->∀k∈ks,∀e∈k,e∈ei es ks
 | _,[],_,k,hk,_,_=>by cases hk
 | [],[a],_,k,hk,e,he=>by
  rcases aj.1 hk with rfl | hk
  ·exact he
  ·cases hk
 | [],_::_::_,h,_,_,_,_=>by simp at h
 | f::es,a::ks,h,k,hk,e,he=>by
  rw[ei];rcases aj.1 hk with rfl | hk
  ·exact aD _ he
  ·exact aE _ (am _ (vM es ks (ae (by simpa using h)) k hk e he))
theorem kid_its{x:Bt (d+1)}(h:gY t x){k:Bt d}(hk:k∈Bn.ks x)(he:e∈its k):e∈its x:=by
 refine vM _ _ ?_ (its k) (az.2 ⟨k,hk,rfl⟩) e he;exact qYeaa
def G0(t:Nat)(key:List UInt8): {d:Nat} ->Bt d->List Bool
 | 0,x=>nomatch x
 | _+1,x=>decide ((Bn.es x).length=2*t-1)::(match (Bn.ks x)[Fr key (Bn.es x)]? with | none=>[] | some k=>G0 t key k)
def trail:List Bool->Nat
 | []=>0
 | b::r=>if r.all id=true then(if b=true then r.length+1 else r.length) else trail r
def needB:Nat->Bool->List Bool->Nat
 | full,all,[]=>full+if all=true then 1 else 0
 | full,all,b::r=>if b=true then needB (full+1) all r else needB 0 false r
theorem trail_all:∀{r:List Bool},r.all id=true->trail r=r.length
 | [],_=>rfl
 | b::r,h=>by
  simp only[List.all_cons,aL,id] at h;unfold trail;rw[if_pos h.2,if_pos h.1];rfl
theorem rK:∀(p:List Bool) (full:Nat) (all:Bool),needB full all p=if p.all id=true then full+p.length+(if all=true then 1 else 0) else trail p
 | [],full,all=>by unfold needB;simp
 | b::r,full,all=>by
  unfold needB trail;cases b with
  | true=>
   rw[if_pos rfl,rK r];simp only[List.all_cons,id,Bool.true_and,ah];by_cases h:r.all id=true
   ·rw[if_pos h,if_pos h];omega
   ·rw[if_neg h,if_neg h,if_neg h]
  | false=>
   rw[if_neg s_,rK r];simp only[List.all_cons,id,Bool.false_and];by_cases h:r.all id=true
   ·rw[if_pos h,if_neg s_,if_pos h,if_neg s_];simp
   ·rw[if_neg h,if_neg s_,if_neg h]
theorem need_zero(p:List Bool):needB 0 true p=trail p+if p.all id=true then 1 else 0:=by
 rw[rK]
 by_cases h:p.all id=true
 ·rw[if_pos h,if_pos h,trail_all h]
  simp
 grind
end Bt
end
section
open Go.RowKit Tryz Go.BigFrame Go.Maps Go.WideMaps Lf Tr
variable{S:St}{Y:Nat->Prop}{k:List UInt8}{n:BN}{ps:Nat}{t:Nat}{w:World}
def FH(ps t:Nat):Value:=.agg #[PV ps,Xi t]
theorem zK(h:Ig w ps S Y)(hi:Fv S)(t hh:Nat)(hl:hh<2^64)(hg:fz S hh=(k,0)):
 Cb 174 #[FH ps t,Xu hh] w (SV k):=by
 have ad:D_ w (w.alloc (Xc ps t)):=(aa _ w).alloc Ih _;have ai:=hg;have hg:=iz (h.a_ ad) hi hh hl (by rw[hg];show (0:Nat)≠8;decide);rw[ai] at hg;unfold FH;have HG:=kq2 hg ad;clear hg ad h hi ai;go_enter func174,ntmps174;go_wp2_with fail;refine e9 HG.a fun w1 hb=>?_;have HB:=If (b_ HG.b hb);clear hb;go_wp2_with fail;go_ret;exact⟨rfl,HB.O⟩
theorem zP(h:Ig w ps S Y)(hi:Fv S)(t hh:Nat)(hl:hh<2^64)(hg:fz S hh=(k,0))(key:List UInt8){b:Nat}(hb:w.1[b]?=some (.cells #[PV ps,Xi t] 145 (0,0))):
 Cb 237 #[Xu hh,SV key,PV b] w (Xi (Fu k key)):=by
 have hk:=zK h hi t hh hl hg;unfold FH at hk;obtain⟨c0,c1⟩:=Fp hb;have HG:=If hk;have HC:=fun W=>If (sT k key W);clear hk h hi hg hb;go_enter func237,ntmps237;go_wp2_with fail;refine e9 HG.O fun w1 hb=>?_;have HB:=If hb;clear hb;go_wp2_with fail;refine Jc (HC _).O ?_;go_wp2_with fail;go_ret;exact⟨rfl,HB.O⟩
def fo(key:List UInt8)(es:List It):Bool:=match es[Fr key es]? with | some e=>decide (e.k=key) | none=>false
theorem yY{key:List UInt8}{es:List It}{k:Nat}(h1:∀(j:Nat) (h:j<es.length),j<k->Fu es[j].k key<0)(h2:∀(j:Nat) (h:j<es.length),k<=j->0<=Fu es[j].k key)(hk:k<=es.length):Fr key es=k:=by
 conv=>lhs;rw[<-aV k es]
 rw[lJ,lI,lK,aF]
 ·omega
 ·intro d hd;obtain⟨j,hj,rfl⟩:=ci.1 hd;rw[List.getElem_drop];have:=h2 (k+j) (by rw[bJ] at hj;omega) o_;omega
 ·intro d hd;obtain⟨j,hj,rfl⟩:=ci.1 hd;rw[List.getElem_take];rw[aF] at hj;exact h1 _ _ o_
theorem G3{v:Value}{es:List It}(h:FD w v (es.map (·.kh)))(hl:es.length<=100000)(hs:es.Pairwise eU)(key:List UInt8){f b:Nat}(hen:∀(args:Array Value) (w:World),(callFunc f args).run prog w=.ok (.enter f args) w)
 (hcall:∀W,D_ w W->∀(j:Nat) (hj:j<es.length),Ct f #[Xu (es[j].kh:Nat),SV key,PV b] W fun e w'=>e=.returned (Xi (Fu es[j].k key))/\D_ W w'):
 Cb 236 #[v,SV key,.func (.func f) #[] #[PV b]] w (.tuple #[Xi (Fr key es:Nat),.bool (fo key es)]):=by
 obtain⟨A,c,rfl,hc⟩:=h;have hc:∀(i:Nat) (h:i<es.length),∃g o,A=some (x_ g o)/\w.cell? ⟨g,o+i,none⟩=some (Xu (es[i].kh:Nat)):=fun i h=>by
  obtain⟨g,o,e1,e2⟩:=hc i (by simpa using h);rw[bP] at e2;exact⟨g,o,e1,e2⟩
 rw[ak];obtain⟨n,hn⟩:=Ii es.length;have a1:∀(i j:Nat) (hi:i<es.length) (hj:j<es.length),i<=j->Fu es[j].k key<0->Fu es[i].k key<0:=fun i j hi hj hij hlt=>by
  rcases cB i j with h | h
  ·exact ig (bW.1 hs i j hi hj h) hlt
  ·obtain rfl:i=j:=o_
   exact hlt
 rw[hn] at hl⊢;have H:=kq4 hc hcall a1 hn;clear hc hcall a1 hs;go_enter func236,ntmps236;go_wp2_with fail;go_loopw [9,10] (fun s9 s10 wr=>∃lo hi:Nat,lo<=hi/\hi<=n/\s9=Xi lo/\s10=Xi hi/\Hid (D_ w wr/\(∀(j:Nat) (h:j<es.length),j<lo->Fu es[j].k key<0)/\(∀(j:Nat) (h:j<es.length),hi<=j->0<=Fu es[j].k key))) (fun s9 s10 _=>(intOf s10).toNat-(intOf s9).toNat)
 case atStart=>exact⟨0,n,o_,o_,rfl,rfl,aa _ _,fun _ _ h=>absurd h o_,fun j h1 h2=>absurd h1 o_⟩
 case round=>
  obtain⟨lo,hi,a5,a0,rfl,rfl,I⟩:=hrel;by_cases hlt:lo<hi
  ·obtain⟨m,hm⟩:=Ii ((lo+hi) / 2);have ar:m<es.length:=o_
   have a4:(lo:Int)<hi:=o_
   have q1:IntKind.i64.wrap ((lo:Int)+hi)=(lo:Int)+hi:=aq _ o_;obtain⟨g,o,rfl,c1⟩:=H.a m ar;have c2:=(I.O.1.cell (p:=⟨g,o+m,none⟩) (fK c1)).T c1;have an:=H.b wr I.O.1 m ar;have a6:((lo:Int)+hi) / 2=(m:Nat):=o_
   have a7:(m:Int)<n:=o_
   have HK:=kq2 an hm;obtain⟨e,he⟩:=Ii es[m];have HE:=If he;rw[he] at c2 HK;clear an he c1 hm;by_cases hcp:Fu e.k key<0
   ·go_wp2_with fail;refine e9 HK.a fun w' hb=>?_;have ai:D_ w w'/\(∀(j:Nat) (h:j<es.length),j<m+1->Fu es[j].k key<0)/\(∀(j:Nat) (h:j<es.length),hi<=j->0<=Fu es[j].k key):=
     ⟨b_ I.O.1 hb,fun j h1 h2=>H.c j m h1 ar o_ (by rw[HE.O];exact hcp),I.O.2.2⟩
    have HI:=If ai;clear ai hb;go_wp2_with fail;go_roundw
    case rel=>exact⟨m+1,hi,by have:=HK.b;omega,a0,s_,rfl,HI⟩
    case measure=>have:=HK.b;simp[intOf];omega
   ·go_wp2_with fail;refine e9 HK.a fun w' hb=>?_;have ai:D_ w w'/\(∀(j:Nat) (h:j<es.length),j<lo->Fu es[j].k key<0)/\(∀(j:Nat) (h:j<es.length),m<=j->0<=Fu es[j].k key):=
     ⟨b_ I.O.1 hb,I.O.2.1,fun j h1 h2=>Int.not_lt.1 fun hx=>by have:=H.c m j ar h1 h2 hx;rw[HE.O] at this;omega⟩
    have HI:=If ai;clear ai hb;go_wp2_with fail;go_roundw
    case rel=>exact⟨lo,m,by have:=HK.b;omega,o_,rfl,rfl,HI⟩
    case measure=>have:=HK.b;simp[intOf];omega
  ·obtain rfl:lo=hi:=o_
   have a4:¬(lo:Int)<lo:=o_
   have ad:=yY I.O.2.1 I.O.2.2 (by rw[H.d];exact a0);by_cases hln:lo<n
   ·have au:lo<es.length:=o_
    have a3:(lo:Int)<n:=o_
    obtain⟨g,o,rfl,c1⟩:=H.a lo au;have c2:=(I.O.1.cell (p:=⟨g,o+lo,none⟩) (fK c1)).T c1;have an:=H.b wr I.O.1 lo au;have ap:fo key es=decide (Fu es[lo].k key=0):=by
     unfold fo;rw[ad,af au];exact decide_eq_decide.2 ⟨fun e=>by rw[e,fX],jL⟩
    have HK:=kq3 an ad ap;obtain⟨e,he⟩:=Ii es[lo];rw[he] at c2 HK;clear an he c1 ad ap;generalize a2:Fu e.k key=q at*;clear a2;by_cases hq0:q=0
    ·subst hq0;go_wp2_with fail;refine HK.a.M ?_;rintro e' w' ⟨rfl,hb⟩;have HI:=If (b_ I.O.1 hb);clear hb;go_wp2_with fail;go_ret2;exact⟨by rw[HK.b,HK.c];rfl,HI.O⟩
    ·have a8:(q==0)=false:=by simp;exact hq0
     go_wp2_with fail;refine HK.a.M ?_;rintro e' w' ⟨rfl,hb⟩;have HI:=If (b_ I.O.1 hb);clear hb;go_wp2_with fail;go_ret2;exact⟨by rw[HK.b,HK.c,decide_eq_false hq0];rfl,HI.O⟩
   ·have a3:¬(lo:Int)<n:=o_
    have ap:fo key es=false:=by
     unfold fo;rw[ad,aS o_]
    have HK:=kq2 ad ap;clear ad ap;go_wp2_with fail;go_ret2;exact⟨by rw[HK.a,HK.b];rfl,I.O.1⟩
structure pv (S:St) (es:List It):Prop where
 lt:∀e∈es,e.kh<2^64
 get:∀e∈es,fz S e.kh=(e.k,0)
theorem nR(h:Ig w ps S Y)(hi:Fv S)(t:Nat){es:List It}{vk vv vc:Value}{sz:Nat}(hk:FD w vk (es.map (·.kh)))(hl:es.length<=100000)(hs:es.Pairwise eU)(he:pv S es)(key:List UInt8):
 Cb 211 #[FH ps t,eC vk vv vc sz,SV key] w (.tuple #[Xi (Fr key es:Nat),.bool (fo key es)]):=by
 have B0:=(c_ w (Xc ps t)).alloc s_ (.cells #[vk,vv,vc,Xu sz] 215);have z1:(w.alloc (Xc ps t)).1.size=w.1.size+1:=s_
 have q1:=heap_alloc_new w (Xc ps t);have q2:=heap_alloc_new (w.alloc (Xc ps t)) (.cells #[vk,vv,vc,Xu sz] 215);have q3:=(((aa (w.alloc (Xc ps t)).1.size (w.alloc (Xc ps t))).alloc Ih (.cells #[vk,vv,vc,Xu sz] 215)).block w.1.size s_).T q1;rw[z1] at q2;have ad:∀(args:Array Value) (w:World),(callFunc 237 args).run prog w=.ok (.enter 237 args) w:=fun args w=>by go_simp
 generalize hW:(w.alloc (Xc ps t)).alloc (.cells #[vk,vv,vc,Xu sz] 215)=W0 at*;have ai:=G3 (hk.a_ B0) hl hs key (f:=237) (b:=w.1.size) ad fun W hW j hj=>zP (h.a_ (b_ B0 hW)) hi t _ (he.lt _ (aw hj)) (he.get _ (aw hj)) key ((hW.block w.1.size (gl q3)).T q3);obtain⟨c0,c1,c2,c3⟩:=Fy q2;unfold FH eC;have HG:=kq3 ai B0 hW;clear ai B0 h hi hk he q1 q2 q3 ad hs;go_enter func211,ntmps211;have hW:=HG.c;go_wp2_with fail;refine e9 HG.a fun w1 hb=>?_;have HB:=If (b_ HG.b hb);clear hb;go_wp2_with fail;go_ret2;exact⟨rfl,HB.O⟩
theorem kI(h:Ig w ps S Y)(hi:Fv S){t hh:Nat}(hb:jg S t hh n):
 Ct 126 #[FH ps t,Xu hh] w fun e w'=>∃vk vv vc,e=.returned (.tuple #[eC vk vv vc n.size,.bool true])/\fN w' w.1.size vk vv vc n.i_ n.F4 n.C_/\D_ w w':=by
 have B0:=(c_ w (Xc ps t)).alloc s_ (.cells #[n_,n_,n_,Xu 0] 215);have z1:(w.alloc (Xc ps t)).1.size=w.1.size+1:=s_
 have q1:=heap_alloc_new w (Xc ps t);have q2:=heap_alloc_new (w.alloc (Xc ps t)) (.cells #[n_,n_,n_,Xu 0] 215);have q3:=(((aa (w.alloc (Xc ps t)).1.size (w.alloc (Xc ps t))).alloc Ih (.cells #[n_,n_,n_,Xu 0] 215)).block w.1.size s_).T q1;rw[z1] at q2;generalize hW:(w.alloc (Xc ps t)).alloc (.cells #[n_,n_,n_,Xu 0] 215)=W0 at*;obtain⟨sz,ar⟩:=Ii n.size;have hg:=zE (h.a_ B0) hi hb.ok hh hb.lt hb.len hb.get hb.words;unfold eC at hg;rw[ar] at hg;obtain⟨c0,c1⟩:=Fp q3;have hz:w.1.size+2<=W0.1.size:=by rw[<-hW];simp
 unfold FH;have HG:=kq5 hg B0 q2 hW hz;clear hg B0 h hi hb q1 q2 q3 z1 hz;go_enter func126,ntmps126;go_wp2_with fail;refine HG.a.M ?_;rintro e w1 ⟨vk,vv,vc,rfl,rows,hb⟩;obtain⟨Ak,ck,rfl⟩:=rows.k.F8;obtain⟨Av,cv,rfl⟩:=rows.v.F8;obtain⟨Ac,cc,rfl⟩:=rows.c.F8;obtain⟨ks,ai⟩:∃l,n.i_=l:=⟨_,rfl⟩;obtain⟨vs,an⟩:∃l,n.F4=l:=⟨_,rfl⟩;obtain⟨cs,ad⟩:∃l,n.C_=l:=⟨_,rfl⟩;rw[ai,an,ad] at rows⊢;rw[ai,an,ad] at HG;generalize a2:ks.length=lk at rows⊢;generalize a3:vs.length=lv at rows⊢;generalize a1:cs.length=lc at rows⊢;have A1:=c_ w1 (.cells #[(.slice Ak lk ck),(.slice Av lv cv),(.slice Ac lc cc),Xu sz] 215);have p1:=heap_alloc_new w1 (.cells #[(.slice Ak lk ck),(.slice Av lv cv),(.slice Ac lc cc),Xu sz] 215);have r2:=(A1.block (w.1.size+1) (by have:=hb.size;have:=HG.e;omega)).T ((hb.block (w.1.size+1) (by have:=HG.e;omega)).T HG.c);have ap:w.1.size+1≠w1.1.size:=by have:=hb.size;have:=HG.e;omega
 have BA:=HG.b.T ((b_ hb A1).M HG.b.size);have au:=rows.lift (W':=w1.alloc (.cells #[(.slice Ak lk ck),(.slice Av lv cv),(.slice Ac lc cc),Xu sz] 215)) (D':=W0.1.size) Ih fun g _ hg=>A1.block g hg;have r1:=(hb.block (w.1.size+1) (by have:=HG.e;omega)).T HG.c;have HB:=kq6 au BA r2 p1 r1 ap;clear rows hb A1 p1 r2 BA au ap r1;obtain⟨W1,a0⟩:=Ii (w1.alloc (.cells #[(.slice Ak lk ck),(.slice Av lv cv),(.slice Ac lc cc),Xu sz] 215));rw[a0] at HB;have r2:=HB.c;have p1:=HB.d;obtain⟨x0,x1,x2,x3⟩:=Fy p1;obtain⟨y0,y1,y2,y3⟩:=Fy r2;obtain⟨f0,f1,f2,f3⟩:=fO r2;clear r2 p1;go_wp2_with fail;have e5:=oZ (u0:=(.slice Ak lk ck)) (u1:=(.slice Av lv cv)) (u2:=(.slice Ac lc cc)) (u3:=Xu sz) HB.c;have B5:=oY (u0:=(.slice Ak lk ck)) (u1:=(.slice Av lv cv)) (u2:=(.slice Ac lc cc)) (u3:=Xu sz) (b:=w.1.size+1) HB.b o_;have R5:=HB.a.lift (W':=((((W1.setCell (y_ (w.1.size+1)) ((.slice Ak lk ck))).setCell (x_ (w.1.size+1) 1) ((.slice Av lv cv))).setCell (x_ (w.1.size+1) 2) ((.slice Ac lc cc))).setCell (x_ (w.1.size+1) 3) (Xu sz))) (D':=w.1.size) (by have:=HG.e;omega) fun g hg _=>sy (by have:=HG.e;omega);generalize ((((W1.setCell (y_ (w.1.size+1)) ((.slice Ak lk ck))).setCell (x_ (w.1.size+1) 1) ((.slice Av lv cv))).setCell (x_ (w.1.size+1) 2) ((.slice Ac lc cc))).setCell (x_ (w.1.size+1) 3) (Xu sz))=W9 at*;obtain⟨e0,e1,e2,e3⟩:=Fy e5;exact bodyPost_ret (v:=.tuple #[.agg #[(.slice Ak lk ck),(.slice Av lv cv),(.slice Ac lc cc),Xu sz],.bool true]) (by simp[results,f126,go_sem,e0,e1,e2,e3]) rfl ⟨.slice Ak lk ck,.slice Av lv cv,.slice Ac lc cc,by rw[ar];rfl,by rw[ai,an,ad];exact R5,B5⟩
theorem nS(h:Ig w ps S Y)(hi:Fv S){t hh:Nat}(hb:jg S t hh n)(hz:n.size<2^62):
 Cb 175 #[FH ps t,Xu hh] w (Xi n.size):=by
 have B0:=c_ w (Xc ps t);have hg:=kI (h.a_ B0) hi hb;obtain⟨sz,ad⟩:=Ii n.size;unfold FH eC at hg;unfold FH;rw[ad] at hz hg⊢;have hw:IntKind.i64.wrap (sz:Int)=(sz:Int):=aq _ o_;have HG:=kq2 hg B0;clear hg B0 h hi hb;go_enter func175,ntmps175;go_wp2_with fail;refine HG.a.M ?_;rintro e w1 ⟨vk,vv,vc,rfl,rows,hb⟩;obtain⟨Ak,ck,rfl⟩:=rows.k.F8;obtain⟨Av,cv,rfl⟩:=rows.v.F8;obtain⟨Ac,cc,rfl⟩:=rows.c.F8;generalize n.i_.length=lk at*;generalize n.F4.length=lv at*;generalize n.C_.length=lc at*;clear rows;have HB:=If ((b_ HG.b hb).alloc (aI HG.b.size hb.size) (.cells #[.slice Ak lk ck,.slice Av lv cv,.slice Ac lc cc,Xu sz] 215));clear hb;go_wp2_with fail;go_ret;exact⟨rfl,HB.O⟩
theorem zF(h:Ig w ps S Y)(hi:Fv S)(t1:2<=t)(t2:t<=16)(hh:Nat)(hl:hh<2^64)(hlen:S.len hh=(0,7)):
 Cb 166 #[PV ps,Xi t,Xu hh] w (.tuple #[eC n_ n_ n_ 0,Xi 7]):=by
 have ad:=fun W (hW:D_ w W)=>fB (h.a_ hW) hi 0 o_;have ai:=fun W (hW:D_ w W)=>fB (h.a_ hW) hi hh hl;rw[fU] at ad;rw[hlen] at ai;have an:=fun W=>om t1 t2▸nP (t:Int) W;have six:=uz w ps hh;have HG:=kq3 ad ai an;clear ad ai an h hi hlen;unfold eC;generalize ap:((((w.alloc (Xh ps)).alloc (Xf hh)).alloc (.cells #[n_,n_,n_,Xu 0] 215)).alloc (.cells #[Xi 0] 27))=w4 at*;have e3:=six.b3;have e5:=six.b5;have e6:=six.b6;have e7:=six.b7;have x0:(w4).cell? (y_ w.1.size)=some (PV ps):=e_ e3
 have y0:(w4).cell? (y_ (w.1.size+1))=some (Xu hh):=e_ e5
 obtain⟨z0,z1,z2,z3⟩:=Fy e6;obtain⟨f0,f1,f2,f3⟩:=fO e6;have c0:(w4).cell? (y_ (w.1.size+1+1+1))=some (Xi 0):=e_ e7
 have g0:(w4).frozen? (y_ (w.1.size+1+1+1))=false:=AT e7;have S4:=If six;clear e3 e5 e6 e7 six;go_enter func166,ntmps166;go_wp2_with fail;refine Jc (HG.a _ S4.O.a_) ?_;go_wp2_with fail;refine Jc (HG.c _) ?_;go_wp2_with fail;refine Jc (HG.b _ S4.O.a_) ?_;go_wp2_with fail;have p6:=oZ (u0:=.slice none 0 0) (u1:=.slice none 0 0) (u2:=.slice none 0 0) (u3:=Xu 0) S4.O.b6;have B6:=oY (u0:=.slice none 0 0) (u1:=.slice none 0 0) (u2:=.slice none 0 0) (u3:=Xu 0) (b:=w.1.size+1+1) S4.O.a_ o_;have p7:=(sy (w:=w4) (b:=w.1.size+1+1) (k:=w.1.size+1+1+1) (u0:=.slice none 0 0) (u1:=.slice none 0 0) (u2:=.slice none 0 0) (u3:=Xu 0) o_).T S4.O.b7;generalize ((((w4.setCell (y_ (w.1.size+1+1)) n_).setCell (x_ (w.1.size+1+1) 1) n_).setCell (x_ (w.1.size+1+1) 2) n_).setCell (x_ (w.1.size+1+1) 3) (Xu 0))=W5 at*;have r7:=heap_setCell (i:=0) (v:=Xi 7) p7;have r6:=(FB (w:=W5) (b:=w.1.size+1+1+1) (i:=0) (v:=Xi 7) (k:=w.1.size+1+1) o_).T p6;have B7:=B6.setCell (p:=y_ (w.1.size+1+1+1)) (by show w.1.size<=w.1.size+1+1+1;omega) (Xi 7);generalize W5.setCell (y_ (w.1.size+1+1+1)) (Xi 7)=W6 at*;obtain⟨e0,e1,e2,e3⟩:=Fy r6;have d0:W6.cell? (y_ (w.1.size+1+1+1))=some (Xi 7):=e_ r7
 exact bodyPost_ret (v:=.tuple #[.agg #[n_,n_,n_,Xu 0],Xi 7]) (by simp[results,f166,go_sem,e0,e1,e2,e3,d0]) rfl ⟨rfl,B7⟩
theorem nQ(h:Ig w ps S Y)(hi:Fv S)(t1:2<=t)(t2:t<=16)(hh:Nat)(hl:hh<2^64)(hlen:S.len hh=(0,7)):
 Cb 126 #[FH ps t,Xu hh] w (.tuple #[eC n_ n_ n_ 0,.bool false]):=by
 have B0:=(c_ w (Xc ps t)).alloc s_ (.cells #[n_,n_,n_,Xu 0] 215);have z1:(w.alloc (Xc ps t)).1.size=w.1.size+1:=s_
 have q1:=heap_alloc_new w (Xc ps t);have q2:=heap_alloc_new (w.alloc (Xc ps t)) (.cells #[n_,n_,n_,Xu 0] 215);have q3:=(((aa (w.alloc (Xc ps t)).1.size (w.alloc (Xc ps t))).alloc Ih (.cells #[n_,n_,n_,Xu 0] 215)).block w.1.size s_).T q1;rw[z1] at q2;generalize hW:(w.alloc (Xc ps t)).alloc (.cells #[n_,n_,n_,Xu 0] 215)=W0 at*;have hg:=zF (h.a_ B0) hi t1 t2 hh hl hlen;obtain⟨x0,x1⟩:=Fp q3;have hz:w.1.size+2<=W0.1.size:=by rw[<-hW];simp
 unfold FH;unfold eC at hg⊢;have HG:=kq5 hg B0 q2 hW hz;clear hg B0 h hi q1 q2 q3 z1 hz hlen;go_enter func126,ntmps126;go_wp2_with fail;refine e9 HG.a fun w1 hb=>?_;have A1:=c_ w1 (.cells #[n_,n_,n_,Xu 0] 215);have p1:=heap_alloc_new w1 (.cells #[n_,n_,n_,Xu 0] 215);have r2:=(A1.block (w.1.size+1) (by have:=hb.size;have:=HG.e;omega)).T ((hb.block (w.1.size+1) (by have:=HG.e;omega)).T HG.c);have BA:=HG.b.T ((b_ hb A1).M HG.b.size);have HB:=kq3 BA r2 p1;clear hb A1 p1 r2 BA;have r2:=HB.b;have p1:=HB.c;obtain⟨x0,x1,x2,x3⟩:=Fy p1;obtain⟨y0,y1,y2,y3⟩:=Fy r2;obtain⟨f0,f1,f2,f3⟩:=fO r2;clear r2 p1 hW;go_wp2_with fail;generalize w1.alloc (.cells #[n_,n_,n_,Xu 0] 215)=W1 at*;have e5:=oZ (u0:=.slice none 0 0) (u1:=.slice none 0 0) (u2:=.slice none 0 0) (u3:=Xu 0) HB.b;have B5:=oY (u0:=.slice none 0 0) (u1:=.slice none 0 0) (u2:=.slice none 0 0) (u3:=Xu 0) (b:=w.1.size+1) HB.a o_;generalize ((((W1.setCell (y_ (w.1.size+1)) n_).setCell (x_ (w.1.size+1) 1) n_).setCell (x_ (w.1.size+1) 2) n_).setCell (x_ (w.1.size+1) 3) (Xu 0))=W9 at*;obtain⟨e0,e1,e2,e3⟩:=Fy e5;exact bodyPost_ret (v:=.tuple #[.agg #[n_,n_,n_,Xu 0],.bool false]) (by simp[results,f126,go_sem,e0,e1,e2,e3]) rfl ⟨rfl,B5⟩
theorem zQ(h:Ig w ps S Y)(hi:Fv S)(t1:2<=t)(t2:t<=16)(hh:Nat)(hl:hh<2^64)(hlen:S.len hh=(0,7)):
 Cb 175 #[FH ps t,Xu hh] w (Xi 0):=by
 have B0:=c_ w (Xc ps t);have hg:=nQ (h.a_ B0) hi t1 t2 hh hl hlen;unfold FH eC at hg;unfold FH;have HG:=kq2 hg B0;clear hg B0 h hi hlen;go_enter func175,ntmps175;go_wp2_with fail;refine e9 HG.a fun w1 hb=>?_;have HB:=If ((b_ HG.b hb).alloc (aI HG.b.size hb.size) (.cells #[n_,n_,n_,Xu 0] 215));clear hb;go_wp2_with fail;go_ret;exact⟨rfl,HB.O⟩
theorem kZ(h:Ig w ps S Y)(hi:Fv S)(t1:2<=t)(t2:t<=16):
 Ct 79 #[PV ps,Xi t] w fun e w'=>e=.returned (Xi 0)/\w=w':=by
 have ad:=fB h hi 0 o_;rw[fU] at ad;have ai:=fun W=>pW t t1 t2 W;have hq:((6*(t:Int))==0)=false:=m_
 have an:¬(t:Int)=0:=o_
 have HG:=kq2 ad ai;clear ad ai h hi;go_enter func79,ntmps79;go_wp2_with fail;refine Jc HG.a ?_;go_wp2_with fail;refine Jc (HG.b _) ?_;go_wp2_with fail;go_ret;exact⟨rfl,rfl⟩
theorem zX{ps t hh z:Nat}(hs:Cb 175 #[FH ps t,Xu hh] w (Xi z)):
 Cb 324 #[PV ps,Xi t,Xu hh] w (Xi z):=by
 unfold FH at hs;have HG:=If hs;clear hs;go_enter func324,ntmps324;go_wp2_with fail;refine e9 HG.O fun w1 hb=>?_;have HB:=If hb;clear hb;go_wp2_with fail;go_ret;exact⟨rfl,HB.O⟩
end
section
open Lf Tr
namespace Bt
variable{S:St}{U:List Nat}{d:Nat}{e:It}{i:Nat}{k:Nat}{o:Nat->Nat}
theorem vW{A K B Y U:List Nat}(h:(A++(K++B)).Nodup)(hy:Y.Nodup)(hs:∀z∈Y,z∈K\/z∈U)(hu:∀z∈U,z∉A/\z∉B):(A++(Y++B)).Nodup:=by
 grind
theorem nodes_parts{x:Bt (d+1)}(h:k<(Bn.ks x).length):j_ x=(Bn.h x::(((Bn.ks x).take k).map j_).flatten)++(j_ (Bn.ks x)[k]++(((Bn.ks x).drop (k+1)).map j_).flatten):=by
 have e:(Bn.ks x).map j_=((Bn.ks x).take k).map j_++j_ (Bn.ks x)[k]::((Bn.ks x).drop (k+1)).map j_:=by rw[<-bg,<-aQ,<-oW h]
 rw[jQ,e,bY,dz]
 rfl
theorem ve{x:Bt (d+1)}(h:k<(Bn.ks x).length)(y:Bt d):j_ (ju x k y)=(Bn.h x::(((Bn.ks x).take k).map j_).flatten)++(j_ y++(((Bn.ks x).drop (k+1)).map j_).flatten):=by
 show Bn.h x::(((Bn.ks x).set k y).map j_).flatten=_
 rw[db,if_pos h,aQ,bg,bY,dz]
 rfl
theorem vf(x:Bt (d+1))(k:Nat)(y1:Bt d)(m:It)(y2:Bt d):j_ (ja x k y1 m y2)=(Bn.h x::(((Bn.ks x).take k).map j_).flatten)++((j_ y1++j_ y2)++(((Bn.ks x).drop (k+1)).map j_).flatten):=by
 show Bn.h x::(((Bn.ks x).take k++y1::y2::(Bn.ks x).drop (k+1)).map j_).flatten=_
 grind
theorem put_node(hf:Fw S o){t d:Nat}{x:Bt (d+1)}(hk:∀k∈Bn.ks x,At S t k)(hn:∀k∈Bn.ks x,hd x∉j_ k){ws:List Nat}(hr:l_ S (hd x)=some ws)(hw:ws.length=6*t)(hl:iT (bn x))(he:(Bn.es x).length<1000):
 Fw (FC S (hd x) 0 (w_ t (bn x))) o/\At (FC S (hd x) 0 (w_ t (bn x))) t x/\(∀h,h≠hd x->l_ (FC S (hd x) 0 (w_ t (bn x))) h=l_ S h)/\ej S (FC S (hd x) 0 (w_ t (bn x))) 0 0:=by
 obtain⟨q1,q2,q3,q4⟩:=mR hf hr (l:=w_ t (bn x)) (by rw[jJ,hw]) (kX hl (by unfold bn;grind));refine⟨q1,⟨q2,fun k hkm=>(hk k hkm).frame fun h hm=>q3 h fun e=>hn k hkm (e▸hm)⟩,q3,q4⟩
theorem hd_kids{x:Bt (d+1)}(h:(j_ x).Nodup):∀k∈Bn.ks x,hd x∉j_ k:=fun k hk hm=>by
 rw[jQ] at h;exact(aG.1 h).1 (cI.2 ⟨_,az.2 ⟨k,hk,rfl⟩,hm⟩)
structure Mid (S S':St) (o:Nat->Nat) (t:Nat) {d:Nat} (x:Bt (d+1)) (e:It) (U:List Nat) (x':Bt (d+1)):Prop where
 fit:Fw S' o
 grew:ej S S' 0 0
 fr:∀h,h∉j_ x->h∉U->l_ S' h=l_ S h
 hd:Bn.h x'=Bn.h x
 okN:gY t x'
 its:Bt.its x'=insB e (Bt.its x)
 C_:∀k∈Bn.ks x',At S' t k
 nd:(j_ x').Nodup
 sub:∀h∈j_ x',h∈j_ x\/h∈U
 own:∃ws,l_ S' (Bn.h x)=some ws/\ws.length=6*t
 grow:(Bn.es x).length<=(Bn.es x').length
 lt:iT (bn x')
structure Put (S S':St) (o:Nat->Nat) (t:Nat) {d:Nat} (x:Bt (d+1)) (e:It) (U:List Nat) (r:Option (It×Nat)):Prop where
 fit:Fw S' o
 grew:ej S S' 0 0
 fr:∀h,h∉j_ x->h∉U->l_ S' h=l_ S h
 res:match r with
  | none=>∃y:Bt (d+1),Bn.h y=Bn.h x/\At S' t y/\Ok t y/\nk x<=nk y/\Bt.its y=insB e (Bt.its x)/\(j_ y).Nodup/\(∀h∈j_ y,h∈j_ x\/h∈U)
  | some (m,g)=>∃y1 y2:Bt (d+1),Bn.h y1=Bn.h x/\Bn.h y2=g/\At S' t y1/\At S' t y2/\Ok t y1/\Ok t y2/\nk y1=t/\nk y2+1=t/\Bt.its y1++m::Bt.its y2=insB e (Bt.its x)/\(j_ y1++j_ y2).Nodup/\(∀h∈j_ y1++j_ y2,h∈j_ x\/h∈U)
theorem mid_leaf(hf:Fw S o){t:Nat}(t1:1<=t){x:Bt 1}(ha:At S t x)(ok:Ok t x)(hnd:(j_ x).Nodup)(hb:∀d∈its x,d.kh<2^64/\d.vh<2^64)(he:e.kh<2^64/\e.vh<2^64)(hl:(its x).length<1000000):Mid S S o t x e [] (leafPut x e):=by
 have hi:=Ch x e;refine⟨hf,ej.refl S,fun _ _ _=>rfl,rfl,vj t1 ok e,hi,ha.2,hnd,fun h hh=>ab hh,⟨_,ha.1,jJ _ _⟩,?_,?_⟩
 ·show _<=((Bn.es x).take (Fr e.k (Bn.es x))++e::(Bn.es x).drop (Fr e.k (Bn.es x))).length
  grind
 ·refine bnLt_of hf (fun d hd=>?_) ha.2 ?_
  ·have ad:d∈insB e (its x):=by rw[<-hi];exact lN (vj t1 ok e) hd
   grind [kg]
  ·rw[hi,insB_length];omega
theorem vg{S S':St}{t d:Nat}{x:Bt (d+1)}(ha:At S t x)(hnd:(j_ x).Nodup)(hU:∀h∈U,h∉j_ x)(hi:i<(Bn.ks x).length)(fr:∀h,h∉j_ (Bn.ks x)[i]->h∉U->l_ S' h=l_ S h):
 (∀k∈(Bn.ks x).take i++(Bn.ks x).drop (i+1),At S' t k)/\l_ S' (Bn.h x)=l_ S (Bn.h x):=by
 rw[nodes_parts hi] at hnd hU;obtain⟨h1,h2,h3⟩:=aC.1 hnd;obtain⟨h4,h5,h6⟩:=aC.1 h2;refine⟨fun k hk=>?_,fr _ (fun hm=>h3 _ (ao ..) _ (aD _ hm) rfl) fun hm=>hU _ hm (aD _ (ao ..))⟩
 rcases ay.1 hk with hk | hk
 ·refine(ha.2 k (bB hk)).frame fun h hh=>?_;have hm:h∈(((Bn.ks x).take i).map j_).flatten:=cI.2 ⟨_,az.2 ⟨k,hk,rfl⟩,hh⟩
  grind
 ·refine(ha.2 k (bA hk)).frame fun h hh=>?_;have hm:h∈(((Bn.ks x).drop (i+1)).map j_).flatten:=cI.2 ⟨_,az.2 ⟨k,hk,rfl⟩,hh⟩
  grind
theorem tw{x:Bt (d+1)}(hi:i<(Bn.ks x).length)(hU:∀h∈U,h∉j_ x):∀z∈U,z∉(Bn.h x::(((Bn.ks x).take i).map j_).flatten)/\z∉(((Bn.ks x).drop (i+1)).map j_).flatten:=fun z hz=>by
 have:=hU z hz;rw[nodes_parts hi] at this;exact⟨fun q=>this (aD _ q),fun q=>this (aE _ (aE _ q))⟩
abbrev ItLt(l:List It):Prop:=∀d∈l,d.kh<2^64/\d.vh<2^64
theorem mid_kid{S S':St}{t d:Nat}(t1:1<=t){x:Bt (d+2)}(ha:At S t x)(ok:Ok t x)(hnd:(j_ x).Nodup)(hs:(its x).Pairwise eU)(hb:ItLt (its x))(he:ItLt [e])(hl:(its x).length<1000000)(hU:∀h∈U,h∉j_ x)
 (hi:Fr e.k (Bn.es x)<(Bn.ks x).length) (hp:Put S S' o t (Bn.ks x)[Fr e.k (Bn.es x)] e U none):∃y,Bn.h y=hd (Bn.ks x)[Fr e.k (Bn.es x)]/\Mid S S' o t x e U (ju x (Fr e.k (Bn.es x)) y):=by
 obtain⟨y,y1,y2,y3,y4,y5,y6,y7⟩:=hp.res;obtain⟨ks,hr⟩:=vg ha hnd hU hi hp.fr;have hk:=ok.2.2 _ (aw hi);have ar:Fr e.k (Bn.es x)<=(Bn.es x).length:=cD;have an:=BP t1 ok (Fr e.k (Bn.es x)) y3 o_;have ad:its (ju x (Fr e.k (Bn.es x)) y)=insB e (its x):=by
  have:=(l7 (key:=e.k) ok.rows (by rw[<-dQ];exact hs)).insert;grind [jN,dQ,BO]
 have ai:∀k∈(Bn.ks x).set (Fr e.k (Bn.es x)) y,At S' t k:=fun k hk=>by
  rw[db,if_pos hi] at hk;grind
 refine⟨y,y1,hp.fit,hp.grew,fun h h1 h2=>hp.fr h (fun q=>h1 (mem_nodes_kid (aw hi) q)) h2,rfl,an,ad,ai,?_,fun h hh=>?_,⟨_,hr.T ha.1,jJ _ _⟩,Nat.le_refl _,?_⟩
 ·rw[ve hi];rw[nodes_parts hi] at hnd;exact vW hnd y6 y7 (tw hi hU)
 ·grind [ve,nodes_parts,List.mem_append_left,List.mem_append_right,id]
 ·refine bnLt_of hp.fit (fun d hd=>?_) ai ?_
  ·have ap:d∈insB e (its x):=by rw[<-ad];exact lN an hd
   grind [kg,List.mem_cons_self]
  ·rw[ad,insB_length];omega
theorem mid_split{S S':St}{t d:Nat}(t1:1<=t){x:Bt (d+2)}(ha:At S t x)(ok:Ok t x)(hnd:(j_ x).Nodup)(hs:(its x).Pairwise eU)(hb:ItLt (its x))(he:ItLt [e])(hl:(its x).length<1000000)(hU:∀h∈U,h∉j_ x)
 (hi:Fr e.k (Bn.es x)<(Bn.ks x).length) {m:It} {g:Nat} (hp:Put S S' o t (Bn.ks x)[Fr e.k (Bn.es x)] e U (some (m,g))):∃y1 y2,Bn.h y1=hd (Bn.ks x)[Fr e.k (Bn.es x)]/\Bn.h y2=g/\Mid S S' o t x e U (ja x (Fr e.k (Bn.es x)) y1 m y2):=by
 obtain⟨y1,y2,a1,a2,a3,a4,a5,a6,a7,a8,a9,ap,ar⟩:=hp.res;obtain⟨ks,hr⟩:=vg ha hnd hU hi hp.fr;have hk:=ok.2.2 _ (aw hi);have au:Fr e.k (Bn.es x)<=(Bn.es x).length:=cD;have an:=BS t1 ok (Fr e.k (Bn.es x)) au m a5 o_ a6 o_;have ad:its (ja x (Fr e.k (Bn.es x)) y1 m y2)=insB e (its x):=by
  have:=(l7 (key:=e.k) ok.rows (by rw[<-dQ];exact hs)).insert;grind [jN,dQ,BQ,List.append_assoc]
 have ai:∀k∈(Bn.ks x).take (Fr e.k (Bn.es x))++y1::y2::(Bn.ks x).drop (Fr e.k (Bn.es x)+1),At S' t k:=fun k hk=>by
  grind
 refine⟨y1,y2,a1,a2,hp.fit,hp.grew,fun h h1 h2=>hp.fr h (fun q=>h1 (mem_nodes_kid (aw hi) q)) h2,rfl,an,ad,ai,?_,fun h hh=>?_,⟨_,hr.T ha.1,jJ _ _⟩,?_,?_⟩
 ·rw[vf];rw[nodes_parts hi] at hnd;exact vW hnd ap ar (tw hi hU)
 ·grind [vf,nodes_parts,List.mem_append_left,List.mem_append_right,id]
 ·show (Bn.es x).length<=((Bn.es x).take (Fr e.k (Bn.es x))++m::(Bn.es x).drop (Fr e.k (Bn.es x))).length
  grind
 ·refine bnLt_of hp.fit (fun d hd=>?_) ai ?_
  ·have a0:d∈insB e (its x):=by rw[<-ad];exact lN an hd
   grind [kg,List.mem_cons_self]
  ·rw[ad,insB_length];omega
theorem Mid.put{S S':St}{t d:Nat}{x:Bt (d+1)}{x':Bt (d+1)}(h:Mid S S' o t x e U x')(t2:t<=16)(hl:(Bn.es x').length<2*t):Put S (FC S' (Bn.h x) 0 (w_ t (bn x'))) o t x e U none:=by
 obtain⟨ws,hr,hw⟩:=h.own;have hh:Bt.hd x'=Bn.h x:=h.hd;have hp:=put_node h.fit h.C_ (hd_kids h.nd) (by grind) hw h.lt o_;rw[hh] at hp;obtain⟨p1,p2,p3,p4⟩:=hp;refine⟨p1,(h.grew.T p4).M o_ o_,fun y h1 h2=>(p3 y fun q=>h1 (q▸hd_mem x)).T (h.fr y h1 h2),⟨x',h.hd,p2,h.okN.ok hl,h.grow,h.its,h.nd,h.sub⟩⟩
theorem Mid.cut{S S':St}{t d:Nat}(t1:1<=t)(t2:t<=16){x:Bt (d+1)}{x':Bt (d+1)}(h:Mid S S' o t x e U x')(hl:(Bn.es x').length=2*t){g:Nat}(hg1:g∉U)(hg2:g∉j_ x){wg:List Nat}(hg3:l_ S g=some wg)(hg4:wg.length=6*t):
 Put S (FC (FC S' (Bn.h x) 0 (w_ t (bn (I_ t x')))) g 0 (w_ t (bn (I4 t x' g)))) o t x e (U++[g]) (some ((Bn.es x')[t]' o_,g)):=by
 obtain⟨ws,hr,hw⟩:=h.own;obtain⟨c1,c2,c3,c4,c5⟩:=h.okN.split t1 hl g;have a0:=h.nd;rw[jQ] at a0;obtain⟨n1,n2⟩:=aG.1 a0;have an:g∉j_ x':=fun q=>(h.sub g q).elim hg2 hg1;have au:∀k∈Bn.ks (I_ t x'),k∈Bn.ks x':=fun k hk=>bB hk;have ai:∀k∈Bn.ks (I4 t x' g),k∈Bn.ks x':=fun k hk=>bA hk;have hh:Bt.hd (I_ t x')=Bn.h x:=h.hd;have eN:((Bn.ks x').map j_).flatten=(((Bn.ks x').take (t+1)).map j_).flatten++(((Bn.ks x').drop (t+1)).map j_).flatten:=by
  conv=>lhs;rw[<-aV (t+1) (Bn.ks x'),aQ,bY]
 have ar:∀q∈Bn.es x',q.kh<2^64/\q.vh<2^64:=fun q hq=>⟨h.lt.i_ _ (az.2 ⟨q,hq,rfl⟩),h.lt.F4 _ (az.2 ⟨q,hq,rfl⟩)⟩;have ap:=h.lt.size;have ap:(Bt.its x').length<2^64:=ap;rw[c1,ag,ah] at ap;have ad:=h.C_;have a5:iT (bn (I_ t x')):=bnLt_of h.fit (fun q hq=>ar q (bB hq)) (fun k hk=>ad k (au k hk)) o_;have a6:iT (bn (I4 t x' g)):=bnLt_of h.fit (fun q hq=>ar q (bA hq)) (fun k hk=>ad k (ai k hk)) o_;have hp:=put_node (x:=I_ t x') h.fit (fun k hk=>ad k (au k hk)) (fun k hk=>by
  show Bn.h x'∉_
  grind) (by grind) hw a5 (by show ((Bn.es x').take t).length<1000;grind)
 rw[hh] at hp;obtain⟨p1,p2,p3,p4⟩:=hp;have a1:g≠Bn.h x:=fun q=>hg2 (q▸hd_mem x);have a3:l_ (FC S' (Bn.h x) 0 (w_ t (bn (I_ t x')))) g=some wg:=(p3 g a1).T ((h.fr g hg2 hg1).T hg3);have a2:∀k∈Bn.ks (I4 t x' g),At (FC S' (Bn.h x) 0 (w_ t (bn (I_ t x')))) t k:=fun k hk=>(ad k (ai k hk)).frame fun y hy=>p3 y fun q=>hd_kids h.nd k (ai k hk) (by
  show Bn.h x'∈j_ k
  rw[h.hd,<-q];omega)
 obtain⟨r1,r2,r3,r4⟩:=put_node (x:=I4 t x' g) p1 a2 (fun k hk q=>an (mem_nodes_kid (ai k hk) q)) (ws:=wg) a3 hg4 a6 (by show ((Bn.es x').drop (t+1)).length<1000;grind);have r3:∀y,y≠g->_:=r3;have hL:At (FC (FC S' (Bn.h x) 0 (w_ t (bn (I_ t x')))) g 0 (w_ t (bn (I4 t x' g)))) t (I_ t x'):=p2.frame fun y hy=>r3 y fun q=>by
  subst q;refine an ?_;rw[jQ] at hy⊢
  rcases aj.1 hy with hy | hy
  ·exact hy▸ao ..
  ·refine am _ ?_;rw[eN];exact aD _ hy
 have a4:∀y∈j_ (I_ t x')++j_ (I4 t x' g),y∈j_ x'\/y=g:=fun y hy=>by
  rw[jQ x',eN]
  rcases ay.1 hy with hy | hy
  ·rcases aj.1 hy with hy | hy
   ·exact ab (hy▸ao ..)
   ·exact ab (am _ (aD _ hy))
  ·rcases aj.1 hy with hy | hy
   ·exact ae hy
   ·exact ab (am _ (aE _ hy))
 refine⟨r1,((h.grew.T p4).T r4).M o_ o_,fun y h1 h2=>?_,⟨I_ t x',I4 t x' g,h.hd,rfl,hL,r2,c2,c3,c4,c5,?_,?_,fun y hy=>?_⟩⟩
 ·have h3:y∉U/\y≠g:=⟨fun q=>h2 (aD _ q),fun q=>h2 (aE _ (q▸ao ..))⟩;exact(r3 y h3.2).T ((p3 y fun q=>h1 (q▸hd_mem x)).T (h.fr y h1 h3.1))
 ·rw[<-h.its,c1]
 ·rw[eN] at n1 n2;obtain⟨m1,m2,m3⟩:=aC.1 n2;rw[jQ x',eN] at an
  show ((Bn.h x'::(((Bn.ks x').take (t+1)).map j_).flatten)++(g::(((Bn.ks x').drop (t+1)).map j_).flatten)).Nodup
  grind
 ·rcases a4 y hy with hy | rfl
  ·exact(h.sub y hy).imp id fun q=>aD _ q
  grind
end Bt
def pc(a:List (It×Nd)):List UInt8:=match a.getLast? with | some z=>z.1.k | none=>[]
def ma(a:List (It×Nd)):List Nat:=eB (a.map (·.1))
def mj(f9:Nat)(a:List (It×Nd)):List Nat:=f9::a.flatMap fun z=>[z.2.left,z.2.right]
theorem Ku(a:List (It×Nd))(z:It×Nd):pc (a++[z])=z.1.k:=by unfold pc;simp
theorem Lo(a:List (It×Nd))(z:It×Nd):ma (a++[z])=ma a++[z.1.h,z.1.kh,z.1.vh]:=by
 unfold ma;rw[aQ,iX];rfl
theorem LM(f9:Nat)(a:List (It×Nd))(z:It×Nd):mj f9 (a++[z])=mj f9 a++[z.2.left,z.2.right]:=by
 unfold mj;grind
theorem Kn(a:List (It×Nd)):(ma a).length=3*a.length:=by
 unfold ma eB
 induction a with
 | nil=>rfl
 | cons z a ih=>simp only[bg,cU,ag,ah,aK] at ih⊢;omega
theorem J7(f9:Nat)(a:List (It×Nd)):(mj f9 a).length=2*a.length+1:=by
 unfold mj
 induction a with
 | nil=>rfl
 | cons z a ih=>simp only[cU,ag,ah,aK] at ih⊢;omega
structure Ke (S:St) (t:Tr) (a:List (It×Nd)) (z:It×Nd):Prop where
 rec':l_ S z.1.h=some (eM z.2)
 key:z.2.key=z.1.kh
 val:z.2.val=z.1.vh
 bl:gu S z.1
 sub:∃l m r,z.2=nd l z.1 m r/\At S (.node l z.1 m r)/\l.its.length+r.its.length<t.its.length
 less:a=[]\/Fu (pc a) z.1.k<0
 h1:z.1.h∉ma a
 h2:z.1.kh∉ma a++[z.1.h]
 h3:z.1.vh∉ma a++[z.1.h]++[z.1.kh]
 al:a.length<t.its.length
theorem LC {Ok:Tr->Prop}{S:St}{o:Nat->Nat}{t:Tr}(h:fC Ok S o t){a:List (It×Nd)}{z:It×Nd}{r:List (It×Nd)}(e:a++z::r=t.j_):Ke S t a z:=by
 have hz:z∈t.j_:=by rw[<-e];simp
 obtain⟨l,m,r',e1,e2,e3,_,_⟩:=nodes_at h.at' z hz;have hi:a.map (·.1)++z.1::r.map (·.1)=t.its:=by rw[<-nodes_its,<-e];simp
 have hd:z.1∈t.its:=by rw[<-hi];simp
 have hn:=h.nd;have hs:=h.G6;rw[<-hi] at hn hs;rw[iX,mx] at hn;obtain⟨_,n2,n3⟩:=aC.1 hn;obtain⟨m1,n4⟩:=aG.1 n2;obtain⟨m2,n5⟩:=aG.1 n4;simp only[aj,not_or] at m1 m2;have ne:∀{x y:Nat},x∈ma a->y∈z.1.h::z.1.kh::z.1.vh::eB (r.map (·.1))->x≠y:=fun hx hy q=>n3 _ hx _ hy q;have hl:a.length<t.its.length:=by rw[<-hi];simp
 refine⟨e1▸e2.1,by rw[e1];rfl,by rw[e1];rfl,h.G7 _ hd,⟨l,m,r',e1,e2,e3⟩,?_,fun q=>ne q s_ rfl,fun q=>?_,fun q=>?_,hl⟩
 ·rcases List.eq_nil_or_concat a with q | ⟨b,y,q⟩
  ·exact .inl q
  ·right
   subst q;rw[List.concat_eq_append,Ku];exact(bw.1 hs).2.2 y.1 s_ z.1 (ao ..)
 ·rcases ay.1 q with q | q
  ·exact ne q s_ rfl
  ·exact m1.1 (aW.1 q).S
 grind
theorem Tr.root_in:∀t:Tr,t.f9=0\/∃d∈t.its,t.f9=d.h
 | .nil=> .inl rfl
 | .node l d m r=> .inr ⟨d,by show d∈l.its++d::r.its;simp,rfl⟩
theorem LN {S:St}{t:Tr}(h:At S t):∀x∈mj t.f9 t.j_,x=0\/x∈ma t.j_:=by
 have key:∀u:Tr,(∀y∈u.its,y∈t.its)->u.f9=0\/u.f9∈ma t.j_:=fun u hu=>by
  rcases u.root_in with q | ⟨d,hd,q⟩
  ·exact .inl q
  grind [ma,nodes_its,gU]
 intro x hx
 rcases aj.1 hx with rfl | hx
 ·grind
 ·obtain⟨z,hz,hx⟩:=List.mem_flatMap.1 hx;obtain⟨l,m,r,e1,_,_,e4,e5⟩:=nodes_at h z hz;rw[e1] at hx
  rcases aj.1 hx with rfl | hx
  ·exact key l e4
  ·rw[aW] at hx;subst hx;exact key r e5
theorem Ln {Ok:Tr->Prop}{S:St}{o:Nat->Nat}{t:Tr}(h:fC Ok S o t):(ma t.j_).Nodup:=by
 unfold ma;rw[nodes_its];exact h.nd
end
section
open Go.RowKit Tryz Go.BigFrame Go.Maps Go.WideMaps Lf
theorem sV(px k v:Nat)(w:World):
 Cb 84 #[PV px,Id k v,.bool false] w (.string ⟨#[]⟩):=by
 simp only[Id];go_enter func84,ntmps84;go_wp2_with fail;go_ret;exact⟨rfl,(aa _ w).alloc Ih _⟩
def Lf.itemsM(S:St)(a b:List UInt8):Option ((Nat×Nat)×St):=
 if(fx S a).1.2≠0\/(fx (fx S a).2 b).1.2≠0 then none
 else some (((fx S a).1.1,(fx (fx S a).2 b).1.1),(fx (fx S a).2 b).2)
def nJ(S:St)(a b:List UInt8):Prop:=a.length<=1000/\b.length<=1000/\iw S (many a.length)/\iw (fx S a).2 (many b.length)
theorem wu {S:St}{a:List UInt8}(hm:iw S (many a.length))(hi:Fv S):Fv (fx S a).2:=by
 have h2:=hm.2;unfold fx
 split
 ·exact hi
 ·split
  ·rename_i e;rw[e] at h2;exact(rV _ _ _ 0 h2).1
  ·rename_i e;rw[e] at h2;exact h2
theorem wv {S:St}(hw:iW S.t)(a:List UInt8):(fx S a).1.1<2^64:=by
 have:=oA hw (many a.length);unfold fx
 split
 ·simp
 ·split
  ·rename_i e;rw[e] at this;exact this
  ·simp
theorem BI {S S':St}{a b:List UInt8}{p:Nat×Nat}(h:itemsM S a b=some (p,S')):(fx S a).1=(p.1,0)/\(fx (fx S a).2 b).1=(p.2,0)/\S'=(fx (fx S a).2 b).2:=by
 unfold itemsM at h
 split at h
 ·cases h
 ·rename_i hc;simp only[not_or,df] at hc;have h:=Option.some.inj h
  injection h with e1 e2
  subst e1 e2;exact⟨Prod.ext rfl hc.1,Prod.ext rfl hc.2,rfl⟩
def Lf.treePutM(jn:Jn)(S:St)(f9:Nat)(a b:List UInt8):Option (Nat×St):=
 match itemsM S a b with
 | none=>none
 | some (p,S1)=>binInsM jn S1 f9 p.1 p.2
def pJ(S:St)(a b:List UInt8):Prop:=nJ S a b/\∀p S1,itemsM S a b=some (p,S1)->iw S1 6
