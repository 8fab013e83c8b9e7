/- Trees taken apart and put together: Insert: the walk. -/
import Derived.Test.YtpljannolpapgaaGreatDoorVJe
import Derived.Test.YtpljannolpapgaaGreatDoorVQx
set_option maxRecDepth 100000
set_option maxHeartbeats 6400000
namespace Go.Proofs.YtpljannolpapgaaGreatDoor
section
open Go.RowKit Tryz Go.BigFrame Go.Maps Go.WideMaps Lf
def Lf.insertOkM(jn:Jn)(S:St)(root m:Nat):Option ((Nat×Nat)×St):=
 if isT S root=false\/isT S m=false\/m=0\/(fz S (getNode S m).1.key).2≠0 then none
 else match kr jn (fz S (getNode S m).1.key).1 200 S root with
  | none=>none
  | some ((l,old,r),S1)=>(jq jn S1 l m r).map fun x=>((x.1,old),x.2)
theorem In {w:World}{ps:Nat}{S S':St}{Y:Nat->Prop}(h:Ig w ps S Y)(hi:Fv S){kind:Nat}{j c:FuncId}{jn:Jn}(hjn:kW j jn)(hk:j6 kind j c)(root m:Nat)(hl:root<2^64)(hm:m<2^64){R:Nat×Nat}(hR:insertOkM jn S root m=some (R,S')):
 (Ct 308 #[PV ps,Xi kind,Xu root,Xu m] w fun e w'=>e=.returned (.tuple #[Xu R.1,Xu R.2,Xi 0])/\Ig w' ps S' Y/\Fo Y w w')/\Fv S'/\R.1<2^64/\R.2<2^64:=by
 unfold insertOkM at hR
 split at hR
 ·cases hR
 rename_i hc;simp only[not_or,Bool.not_eq_false,da] at hc;obtain⟨t1,t2,m0,a0⟩:=hc
 split at hR
 ·cases hR
 rename_i l old r S1 hs;obtain⟨⟨x,S2⟩,ar,he⟩:=aD.1 hR
 injection he with e1 e2
 simp only at e1 e2 ar;subst e1 e2;have hlt:=fs h m;obtain⟨-,ap,ad,hold,ai⟩:=uf (c:=c) hjn _ 200 0 rfl h hi hl hs;have a3:=fun W Z (hW:Ig W ps S Z)=>(uf (c:=c) hjn _ 200 0 rfl hW hi hl hs).1;have a2:=nW hjn ar;have a1:=fun W Z (hW:Ig W ps S1 Z)=>qn (c:=c) hW ap hjn l m r ad hm ai ar;refine⟨?_,hjn.inv ap a2,(by have q:=hjn.lt ap (by first | exact hm | exact ad | exact ai) (by first | exact hm | exact ad | exact ai) (by first | exact hm | exact ad | exact ai) a2;exact q),hold⟩;have hg:=fun W (hW:Below w.heap.size w W)=>iO (h.below hW) hi m hm;have hb:=fun W (hW:Below w.heap.size w W)=>iz (h.below hW) hi (getNode S m).1.key hlt.key (by rw[a0];decide);have hw:=fun W (hW:Below w.heap.size w W) rb t fr hrb=>yH (t:=t) (fr:=fr) (h.below hW) hi hk root m hl hm t1 t2 rb hrb;rw[a0] at hb;generalize (fz S (getNode S m).1.key).1=key at*;obtain⟨⟨⟨k0,k1,k2,k3,k4,k5⟩,er⟩,hE⟩:∃q,getNode S m=q:=⟨_,rfl⟩;rw[hE] at hg hb;simp only[gS,eL,eS] at hg hb hw a3 a1⊢;have a7:((m:Int)==0)=false:=by simp;omega
 have HG:=kq6 hg hb hw a3 a1 h;clear hg hb hw a3 a1 h hi hE hjn hk hR t1 t2 m0 a0 hs ar hlt ap ad hold ai a2;go_enter func308,ntmps308;go_wp2_with fail;refine b8 (HG.c _ ((aa _ w).alloc Ih _) _ _ _ (heap_alloc_new w _)) fun w1 hb1=>?_;have B1:=((aa w.heap.size w).alloc Ih (.cells #[Xu root,Xu m] 61)).trans (hb1.mono (by simp));have q1:=heap_alloc_new w1 (.cells #[PV ps,.func (.func j) #[] #[],.func (.func c) #[] #[]] 265);have an:=B1.alloc B1.size (.cells #[PV ps,.func (.func j) #[] #[],.func (.func c) #[] #[]] 265);have z1:=B1.size;clear hb1 B1;go_wp2_with fail;generalize w1.alloc (.cells #[PV ps,.func (.func j) #[] #[],.func (.func c) #[] #[]] 265)=W1 at*;generalize w1.heap.size=b11 at*;refine b8 (HG.a _ an) fun w2 hb2=>?_;have au:=hb2.alloc hb2.size (Xb k0 k1 k2 k3 k4 k5);have q2:=heap_alloc_new w2 (Xb k0 k1 k2 k3 k4 k5);have r2:=(au.block b11 (gl q1)).trans q1;have B2:=an.trans (au.mono an.size);obtain⟨d0,d1,d2,d3,d4,d5⟩:=ia q2;have H2:=kq3 B2 r2 z1;clear hb2 au q2 r2 B2 an q1 z1;go_wp2_with fail;refine b8 (HG.b _ H2.a) fun w3 hb3=>?_;have r3:=(hb3.block b11 (gl H2.b)).trans H2.b;obtain⟨e0,e1,e2⟩:=fq r3;have a6:=(gl r3);have H3:=kq2 (H2.a.trans (hb3.mono H2.a.size)) r3;clear hb3 r3 d0 d1 d2 d3 d4 d5;go_wp2_with fail;refine(HG.d _ _ (HG.f.wide H3.a)).mono ?_;rintro e w4 ⟨rfl,h4,a4⟩;have r4:=(a4.block b11 (ae ⟨H2.c,a6⟩)).trans H3.b;obtain⟨f0,f1,f2⟩:=fq r4;have H4:=kq2 h4 a4;clear h4 a4 r4 e0 e1 e2;go_wp2_with fail;refine(HG.e _ _ H4.a).mono ?_;rintro e w5 ⟨rfl,h5,a5⟩;have H5:=kq2 (h5.mono (Z:=Y) fun k hk=>ab hk) ((Fo.of_below H3.a HG.f.yl).trans ((H4.b.trans a5).mono fun k hk=>ab hk));clear h5 a5 f0 f1 f2;go_wp2_with fail;go_ret3;exact⟨rfl,H5.out⟩
end
section
open Go.RowKit Tryz Go.BigFrame Go.Maps Go.WideMaps Lf
open Go.Shelf
variable{S:St}{Y:Nat->Prop}{ps:Nat}{w:World}
attribute [local go_sem] Oper.semAt_some
theorem xS(h:Ig w ps S Y)(hi:Fv S):
 Cb 144 #[PV ps,Xu 0] w (Xi 0):=by
 have B0:=(aa w.heap.size w).alloc Ih (Xh ps);have B1:=B0.alloc B0.size (.cells #[Xi 0] 27);have ad:=fB (h.below B1) hi 0 (by omega);rw[fU] at ad;have HG:=kq2 ad B1;clear ad h hi B0 B1;go_enter func144,ntmps144;go_wp2_with fail;refine Jc HG.a ?_;go_wp2_with fail;exact bodyPost_ret (v:=Xi 0) (by simp[results,f144,go_sem]) rfl ⟨rfl,HG.b⟩
theorem EY(ps root:Nat)(w:World):
 Ct 121 #[PV ps,Xu root] w fun e w'=>e=.returned (.func (.func 161) #[] #[PV w.heap.size,PV (w.heap.size+1)])/\w'=(w.alloc (Xh ps)).alloc (Xf root):=by
 go_enter func121,ntmps121
 go_wp2
 go_ret;exact⟨rfl,rfl⟩
def AJ(x:Empty):Array Value:=nomatch x
theorem BC(h:Ig w ps S Y)(Bs Br:Nat)(hBs:Bs<w.heap.size/\w.cell? ⟨Bs,0,none⟩=some (PV ps))(hBr:Br<w.heap.size/\w.cell? ⟨Br,0,none⟩=some (Xu 0)):
 SeqStopsK Fence.wide 6 prog 161 #[PV Bs,PV Br] AJ (Below w.heap.size) (fun xs=>xs=[]) (fun _=>True) 0 w:=fun l J Jx W hW hJ hJx hY h0=>by
 have ar:Fence.wide.fn 162:=trivial;have an:CallsIn Fence.wide 5 prog 162 #[PV ps] W _:=callsIn_wide.2 (sX (h.below hW));have hL:1<=limit S/\limit S<=40000:=by have:=nB h;unfold limit;omega
 generalize limit S=L at*;have cs:=(hW.cell (p:=⟨Bs,0,none⟩) hBs.1).trans hBs.2;have cr:=(hW.cell (p:=⟨Br,0,none⟩) hBr.1).trans hBr.2;have HL:=If an;have HJ:=kq5 hJ h0 hW hBs hBr;have ai:=If hW;clear an hW hJ hJx hY h0 hBs hBr h;refine callsIn_of_wp func161 rfl trivial ?_ rfl;simp only[ntmps161,aR,ag,aM,Nat.reduceAdd,Nat.reduceSub,aN,aO,aU,aQ,aY,aK];gi_wp2_with fail;refine HL.out.mono ?_;rintro e w1 ⟨rfl,ad⟩;have j1:=HJ.a _ _ _ none HJ.b (lf ad) (fun r e=>by cases e);have cs:=(ad.cell (p:=⟨Bs,0,none⟩) (aJ HJ.d.1 ai.out.size)).trans cs;have cr:=(ad.cell (p:=⟨Br,0,none⟩) (aJ HJ.e.1 ai.out.size)).trans cr;have H1:=If j1;clear HL ad j1;have ap:(0:Int)<L:=by omega
 gi_wp2_with fail;gi_loopw [4,6,7,8,9,10,11] (fun l0 k _ _ _ _ _ wr=>l0=.slice none 0 0/\k=Xi 0/\wr=w1) (fun _ _ _ _ _ _ _ _=>0)
 case atStart=>exact⟨rfl,rfl,rfl⟩
 case round=>
  obtain⟨rfl,rfl,rfl⟩:=hrel;gi_wp2_with fail;gi_loopw [4,6,7,8] (fun l0 k _ _ wr'=>l0=.slice none 0 0/\k=Xi 0/\wr'=wr) (fun _ _ _ _ _=>0)
  case atStart=>exact⟨rfl,rfl,rfl⟩
  case round=>
   obtain⟨rfl,rfl,rfl⟩:=hrel;gi_wp2_with fail;refine bodyPost_ret (results_none rfl _ _ _) rfl ?_;exact⟨⟨_,rfl⟩,.inl ⟨[],rfl,H1.out⟩⟩
theorem E0(h:Ig w ps S Y):
 CallsIn Fence.wide 7 prog 75 #[PV ps,Xu 0] w fun e w'=>e=.returned (.slice none 0 0)/\Below w.heap.size w w':=by
 have h1:1<=7:=by omega
 have ap:Fence.wide.fn 121:=trivial;have ai:∀W,CallsIn Fence.wide 6 prog 121 #[PV ps,Xu 0] W _:=fun W=>callsIn_wide.2 (EY ps 0 W);have HR:=If h;clear h;refine callsIn_of_wp_marks func75 rfl trivial ?_ rfl;simp only[ntmps75,aR,ag,aM,Nat.reduceAdd,Nat.reduceSub,aN,aO,aU,aQ,aY,aK];gi_wp2_with fail;refine(ai _).mono ?_;rintro e w4 ⟨rfl,rfl⟩;gi_wp2_with fail;have k0:=((Bx.new w (.slice none 0 0) 59).alloc (Xh ps)).alloc (.cells #[Xu 0] 61);have k1:=(Bx.new (w.alloc (.cells #[.slice none 0 0] 59)) (PV ps) 26).alloc (.cells #[Xu 0] 61);have k2:=Bx.new ((w.alloc (.cells #[.slice none 0 0] 59)).alloc (Xh ps)) (Xu 0) 61;have hb:=(((aa w.heap.size w).alloc Ih (.cells #[.slice none 0 0] 59)).alloc (by simp) (Xh ps)).alloc (by simp;omega) (.cells #[Xu 0] 61);simp only[World.size_alloc] at k0 k1 k2;generalize (((w.alloc (.cells #[.slice none 0 0] 59)).alloc (Xh ps)).alloc (.cells #[Xu 0] 61))=W0 at*;refine wpIn_rangeFunc_ownH rfl h1 (gf:=161) (lb:=#[PV (w.heap.size+1),PV (w.heap.size+1+1)]) rfl trivial (enters_of func161 (by kernel_rfl) rfl)
  (BC (HR.out.below hb) _ _ ⟨Cx.lt (show Cx W0 _ 0 _ from k1),k1.1⟩ ⟨Cx.lt (show Cx W0 _ 0 _ from k2),k2.1⟩) (fun h k=>h.trans k) (fun W l o o' h1 h2 h3 h4=>nN W l o o' (by omega) h2 h3 h4) (aa _ _) (fun x=>nomatch x)
  (fun _ W=>Bx W w.heap.size (.slice none 0 0)/\Below w.heap.size w W)
  (fun _ _ _=>False)
  (OwnFrom.and (Own.from (fun s A B row hs hg hr=>hs.kept hg hr) _) (ownFrom_below Ih hb.size))
  (fun cd=>Own.from (fun s A B row hs hg hr=>hs) _)
  ⟨k0,hb⟩
  (fun x _ _=>nomatch x)
  (fun x=>nomatch x)
  ?assign ?body ?done ?stop
 case assign=>exact fun l ad x=>nomatch x
 case body=>exact fun l ad x=>nomatch x
 case done=>
  rintro D ys W hD _ ⟨k0,hB⟩ hK;obtain⟨c1,f1⟩:=id k0;have an:w.heap.size<=D:=aB hb.size hD;have HI:=kq2 hB k0;clear hB k0 k1 k2 hb
  gi_wp2
  refine⟨by simp,.inl ⟨_,_,rfl,run_takeDeferred hK,?_⟩⟩;refine⟨.slice none 0 0,by simp[results,f75,go_sem],rfl,HI.a.trans (nN W D _ _ an hK rfl rfl)⟩
 case stop=>
  rintro D cd ad W hD ar hF;exact hF.elim
theorem sY(h:Ig w ps S Y):
 Cb 75 #[PV ps,Xu 0] w (.slice none 0 0):=callsIn_wide.1 (E0 h)
end
section
open Go.RowKit Tryz Go.BigFrame Go.Maps Go.WideMaps Lf
variable{R:Nat×Nat}{S:St}{Y:Nat->Prop}{fm:FuncId}{kind:Nat}{kv:Value}{p:Nat×Nat}{ps:Nat}{ty:TypeId}{w:World}{z:Nat}
theorem yT(h:Ig w ps S Y)(hi:Fv S):
 Cb 234 #[PV ps,Xu 0] w (Xi 0):=by
 have hc:=xS h hi;have hl:=fun W (hW:Below w.heap.size w W)=>sY (h.below hW);have HG:=kq2 hc hl;clear hc hl h hi;go_enter func234,ntmps234;go_wp2_with fail;refine b8 HG.a fun w1 hb1=>?_;have H1:=If hb1;clear hb1;go_wp2_with fail;refine b8 (HG.b _ H1.out) fun w2 hb2=>?_;have H2:=If (H1.out.trans (hb2.mono H1.out.size));clear hb2;go_wp2_with fail
 go_loopw [7,8,9,10,21] (fun _ _ _ _ k wr=>k=Xi 0/\wr=w2) (fun _ _ _ _ _ _=>0)
 case atStart=>exact⟨rfl,rfl⟩
 case round=>
  obtain⟨rfl,rfl⟩:=hrel;go_wp2_with fail;go_ret;exact⟨rfl,H2.out⟩
structure nI (c:FuncId):Prop where
 enter:∀(args:Array Value) (w:World),(callFunc c args).run prog w=.ok (.enter c args) w
 call:∀{w:World} {ps:Nat} {S:St} {Y:Nat->Prop},Ig w ps S Y->Fv S->Ct c #[PV ps,Xu 0] w fun e w'=>e=.returned (Xi 0)/\Below w.heap.size w w'
theorem Ai:nI 234 where
 enter args w:=by go_simp
 call h hi:=yT h hi
theorem Dr(h:Ig w ps S Y)(hi:Fv S){j c:FuncId}(hk:j6 kind j c)(hc:nI c):
 Cb 134 #[PV ps,Xi kind,Xu 0] w (Xi 0):=by
 have ha:=yG h hi hk;have ai:=hc.enter;have ad:=fun W (hW:Below w.heap.size w W)=>hc.call (h.below hW) hi;simp only[gS,eL] at ha;have HG:=kq2 ha ad;clear ha ad h hi hk hc;go_enter func134,ntmps134;go_wp2_with fail;refine b8 HG.a fun w1 hb1=>?_;have H1:=If (hb1.alloc hb1.size (.cells #[PV ps,.func (.func j) #[] #[],.func (.func c) #[] #[]] 265));clear hb1;go_wp2_with fail;refine b8 (HG.b _ H1.out) fun w2 hb2=>?_;have H2:=If (H1.out.trans (hb2.mono H1.out.size));clear hb2;go_wp2_with fail;go_ret;exact⟨rfl,H2.out⟩
theorem zY(h:Ig w ps S Y)(hi:Fv S)(hk:kind=1\/kind=2)(t:Int):
 Ct 87 #[PV ps,Xi kind,Xi t] w fun e w'=>e=.returned (Xi 0)/\w=w':=by
 have ad:=fB h hi 0 (by omega);rw[fU] at ad;have HG:=If ad;clear ad h hi
 rcases hk with rfl | rfl
 all_goals
  go_enter func87,ntmps87;go_wp2_with fail;refine Jc HG.out ?_;go_wp2_with fail;go_ret;exact⟨rfl,rfl⟩
structure jD (kind:Nat) (j c:FuncId) (jn:Jn):Prop where
 is:kind=1\/kind=2
 way:j6 kind j c
 joins:kW j jn
 checks:nI c
theorem JF(h:Ig w ps S Y)(hi:Fv S){j c:FuncId}{jn:Jn}(hk:jD kind j c jn)(t:Int):
 Cb 86 #[PV ps,Xi kind,Xi t,Xu 0] w (Xi 0):=by
 have ha:=zY h hi hk.is t;have hc:=Dr h hi hk.way hk.checks;have hq:((kind:Int)==3)=false:=by have:=hk.is;simp;omega
 have HG:=kq2 ha hc;clear ha hc h hi hk;go_enter func86,ntmps86;go_wp2_with fail;refine Jc HG.a ?_;go_wp2_with fail;refine b8 HG.b fun w2 hb2=>?_;have H2:=If hb2;clear hb2;go_wp2_with fail;go_ret;exact⟨rfl,H2.out⟩
theorem Aa(h:Ig w ps S Y)(hi:Fv S){j c:FuncId}{jn:Jn}(hk:jD kind j c jn)(t:Int):
 Cb 59 #[PV ps,Xi kind,Xi t,Xu 0] w (.tuple #[.slice none 0 0,Xi 0]):=by
 have hc:=JF h hi hk t;have hl:=fun W (hW:Below w.heap.size w W)=>sY (h.below hW);have hq:((kind:Int)==3)=false:=by have:=hk.is;simp;omega
 have HG:=kq2 hc hl;clear hc hl h hi hk;go_enter func59,ntmps59;go_wp2_with fail;refine b8 HG.a fun w1 hb1=>?_;have H1:=If hb1;clear hb1;go_wp2_with fail;refine b8 (HG.b _ H1.out) fun w2 hb2=>?_;have H2:=If (H1.out.trans (hb2.mono H1.out.size));clear hb2;go_wp2_with fail
 go_loopw [11,13,14,15,41] (fun l0 _ _ _ k wr=>l0=.slice none 0 0/\k=Xi 0/\wr=w2) (fun _ _ _ _ _ _=>0)
 case atStart=>exact⟨rfl,rfl,rfl⟩
 case round=>
  obtain⟨rfl,rfl,rfl⟩:=hrel;go_wp2_with fail
  go_loopw [16,18,19,20,21,22,62] (fun l1 _ _ _ _ _ k wr'=>l1=.slice none 0 0/\k=Xi 0/\wr'=wr) (fun _ _ _ _ _ _ _ _=>0)
  case atStart=>exact⟨rfl,rfl,rfl⟩
  case round=>
   obtain⟨rfl,rfl,rfl⟩:=hrel;go_wp2_with fail;go_ret2;exact⟨rfl,H2.out⟩
theorem EW(h:Ig w ps S Y)(hi:Fv S)(root:Nat)(k:Int)(hk:k<0):
 Ct 305 #[PV ps,Xu root,Xi k] w fun e w'=>e=.returned (.tuple #[Xu 0,Xi 2])/\w=w':=by
 have ad:=fB h hi 0 (by omega);rw[fU] at ad;have HG:=If ad;clear ad h hi;go_enter func305,ntmps305;go_wp2_with fail;refine Jc HG.out ?_;go_wp2_with fail;go_ret2;exact⟨rfl,rfl⟩
theorem EV(h:Ig w ps S Y)(hi:Fv S)(root:Nat)(hl:root<2^64)(k:Nat)(hk:k<2^62)(hR:kD S root k=some R):
 Cb 305 #[PV ps,Xu root,Xi k] w (.tuple #[Xu R.1,Xi R.2]):=by
 have an:=fB h hi 0 (by omega);rw[fU] at an;unfold kD at hR
 cases hz:fY S root with
 | none=>rw[hz] at hR;cases hR
 | some z=>
 rw[hz] at hR;simp only at hR;have bs:z<2^62:=by have:=num_some hz;omega
 have ai:=kP h hi root hl hz
 by_cases hzk:z<=k
 ·rw[if_pos hzk] at hR;have hR:=Option.some.inj hR;have bq:(z:Int)<=k:=by omega
  have HG:=kq3 an ai hR;clear an ai hR h hi hz hzk;go_enter func305,ntmps305;go_wp2_with fail;refine Jc HG.a ?_;go_wp2_with fail;refine b8 HG.b fun w1 hb=>?_;have HB:=If hb;clear hb;go_wp2_with fail;go_ret2;obtain rfl:=HG.c;exact⟨rfl,HB.out⟩
 rw[if_neg hzk] at hR;have bq:(k:Int)<z:=by omega
 have bk:=nB h;have hL:limit S<=40000:=by unfold limit;omega
 obtain⟨L,a8⟩:=Ii (limit S);have a1:=fun W (hW:Below w.heap.size w W)=>sX (h.below hW);rw[a8] at a1 hL hR;have bb:=fun hh=>fs h hh;have HG:=kq7 an h hi hR bb ai a1;clear an h hi hR bk a8 bb a1 ai hz hzk;go_enter func305,ntmps305;go_wp2_with fail;refine Jc HG.a ?_;go_wp2_with fail;refine b8 HG.f fun w0 hb0=>?_;have ap:=If hb0;clear hb0;go_wp2_with fail;refine b8 (HG.g _ ap.out) fun w1 hb1=>?_;have bc:=If (ap.out.trans (hb1.mono ap.out.size));clear hb1;go_wp2_with fail
 go_loopw [1,2,11,12,13,14] (fun r b i _ _ _ wr=>∃f root kk ii:Nat,r=Xu root/\b=Xi kk/\i=Xi ii/\f+ii=L/\root<2^64/\kk<2^62/\Hid (j8 S f root kk=some R/\Below w.heap.size w wr)) (fun _ _ i _ _ _ _=>L-(intOf i).toNat)
 case atStart=>exact⟨L,root,k,0,rfl,rfl,rfl,by omega,hl,hk,HG.d,bc.out⟩
 case round=>
  obtain⟨f,root,kk,ii,rfl,rfl,rfl,hf,bo,bj,ad⟩:=hrel;have bu:ii<=40000:=by omega
  cases f with
  | zero=>
   have bv:ii=L:=by omega
   have a9:R=(0,2):=by have h9:=ad.out.1;rw[yK] at h9;exact(Option.some.inj h9).symm
   have HE:=kq2 a9 ad.out.2;have bt:(L:Int)<=ii:=by omega
   clear a9 ad;go_wp2_with fail;go_ret2;obtain rfl:=HE.a;exact⟨rfl,HE.b⟩
  | succ f=>
   have hlt:(ii:Int)<L:=by omega
   have hd:=ad.out.1;rw[tF] at hd;have a0:=HG.b.below ad.out.2;have hg:=iO a0 HG.c root bo;have a5:=HG.e root;obtain⟨⟨nd,er⟩,hE⟩:∃r,getNode S root=r:=⟨_,rfl⟩;rw[hE] at hg a5 hd;simp only at hg a5 hd;obtain⟨k0,k1,k2,k3,k4,k5⟩:=nd;obtain⟨n0,n1,n2,n3,n4,n5⟩:=a5;simp only at n0 n1 n2 n3 n4 n5;have a4:eS ⟨k0,k1,k2,k3,k4,k5⟩=.agg #[Xu k0,Xu k1,Xu k2,Xu k3,Xu k4,Xu k5]:=rfl;rw[a4] at hg
   cases er with
   | succ er=>
    rw[if_pos (by omega)] at hd;have hd:=Option.some.inj hd;have bm:(((er+1:Nat):Int) !=0)=true:=by simp;omega
    obtain⟨g1,a'⟩:=Ii (er+1);rw[a'] at hg bm;have HE:=kq3 hg hd ad.out.2;clear hg hd ad a0 hE a' a4;go_wp2_with fail;refine b8 HE.a fun w2 hb2=>?_;have bd:=If ((HE.c.trans (hb2.mono HE.c.size)).alloc (aB HE.c.size hb2.size) (Xb k0 k1 k2 k3 k4 k5));clear hb2;go_wp2_with fail;go_ret2;obtain rfl:=HE.b;exact⟨rfl,bd.out⟩
   | zero=>
    rw[if_neg (by omega)] at hd
    cases hz:fY S k2 with
    | none=>rw[hz] at hd;cases hd
    | some z=>
     rw[hz] at hd;simp only at hd;have bs:z<2^62:=by have:=num_some hz;omega
     have HE:=kq3 hg ad.out.2 hz;clear hg ad a0 hE hz;go_wp2_with fail;refine b8 HE.a fun w2 hb2=>?_;have au:=(HE.b.trans (hb2.mono HE.b.size)).alloc (aB HE.b.size hb2.size) (Xb k0 k1 k2 k3 k4 k5);have ai:=kP (HG.b.below au) HG.c k2 n2 HE.c;have hx:=heap_alloc_new w2 (Xb k0 k1 k2 k3 k4 k5);have ba:w2.heap.size<(w2.alloc (Xb k0 k1 k2 k3 k4 k5)).heap.size:=by simp
     have HK:=kq4 ai au hx ba;clear hb2 au ai hx ba a4;go_wp2_with fail;refine b8 HK.a fun w3 hb3=>?_;have a7:=HK.b.trans (hb3.mono HK.b.size);have a6:=(hb3.block _ HK.d).trans HK.c;have a2:w3.cell? ⟨w2.heap.size,2,none⟩=some (Xu k2):=by rw[cell_of_block a6];rfl
     have a3:w3.cell? ⟨w2.heap.size,3,none⟩=some (Xu k3):=by rw[cell_of_block a6];rfl
     have ar:=If a7;clear hb3 a7 a6
     by_cases hc:kk<z
     ·rw[if_pos hc] at hd;have bf:(kk:Int)<z:=by omega
      have HD:=If hd;clear hd;go_wp2_with fail;go_roundw
      case rel=>exact⟨f,k2,kk,ii+1,rfl,rfl,by simp,by omega,n2,bj,HD.out,ar.out⟩
      case measure=>simp[intOf];omega
     ·rw[if_neg hc] at hd
      by_cases hc2:z<kk
      ·rw[if_pos hc2] at hd;have bf:(z:Int)<kk:=by omega
       have HD:=If hd;clear hd;go_wp2_with fail;go_roundw
       case rel=>exact⟨f,k3,kk-(z+1),ii+1,rfl,by rw[show ((kk-(z+1):Nat):Int)=(kk:Int)-((z:Int)+1) by omega],by simp,by omega,n3,by omega,HD.out,ar.out⟩
       case measure=>simp[intOf];omega
      ·rw[if_neg hc2] at hd;obtain rfl:kk=z:=by omega
       have hd:=Option.some.inj hd;have HD:=If hd;clear hd;go_wp2_with fail;go_ret2;obtain rfl:=HD.out;exact⟨rfl,ar.out⟩
theorem fA{W:World}{b c:Nat}(h:c≠b)(v0 v1:Value):((W.setCell ⟨b,0,none⟩ (v0)).setCell ⟨b,1,none⟩ (v1)).heap[c]?=W.heap[c]?:=by rw[FB h,FB h]
def fE(ps kind:Nat):Value:=.agg #[PV ps,Xi kind]
def Id(k v:Nat):Value:=.agg #[Xu k,Xu v]
theorem zh(h:Ig w ps S Y)(hi:Fv S)(kind root:Nat)(hl:root<2^64)(hz:fY S root=some z):
 Cb 304 #[fE ps kind,Xu root] w (Xi z):=by
 have B0:=(aa w.heap.size w).alloc Ih (Xg ps kind);have hs:=kP (h.below B0) hi root hl hz;have HG:=kq2 hs B0;clear hs B0 h hi hz;simp only[fE];go_enter func304,ntmps304;go_wp2_with fail;refine b8 HG.a fun w1 hb1=>?_;have H1:=If (HG.b.trans (hb1.mono HG.b.size));clear hb1;go_wp2_with fail;go_ret;exact⟨rfl,H1.out⟩
theorem zf(h:Ig w ps S Y)(hi:Fv S)(kind root:Nat)(hl:root<2^64)(k:List UInt8)(hz:oP S root k=some z):
 Cb 302 #[fE ps kind,Xu root,SV k] w (Xi z):=by
 have B0:=(aa w.heap.size w).alloc Ih (Xg ps kind);have hs:=E1 (h.below B0) hi root hl k hz;have HG:=kq2 hs B0;clear hs B0 h hi hz;simp only[fE];go_enter func302,ntmps302;go_wp2_with fail;refine b8 HG.a fun w1 hb1=>?_;have H1:=If (HG.b.trans (hb1.mono HG.b.size));clear hb1;go_wp2_with fail;go_ret;exact⟨rfl,H1.out⟩
theorem my(h:Ig w ps S Y)(hi:Fv S)(kind hh:Nat)(hl:hh<2^64):
 Cb 306 #[fE ps kind,Xu hh] w (Id (getNode S hh).1.key (getNode S hh).1.val):=by
 have B1:=(aa w.heap.size w).alloc Ih (Xg ps kind);have B0:=B1.alloc B1.size (.cells #[Xu 0,Xu 0] 104);have z1:=heap_alloc_new (w.alloc (Xg ps kind)) (.cells #[Xu 0,Xu 0] 104);simp only[World.size_alloc] at z1;have hg:=iO (h.below B0) hi hh hl;obtain⟨⟨⟨k0,k1,k2,k3,k4,k5⟩,er⟩,hE⟩:∃q,getNode S hh=q:=⟨_,rfl⟩;rw[hE] at hg⊢;simp only[eS] at hg;have HG:=kq3 hg B0 z1;clear hg B0 B1 h hi hE z1;simp only[fE,Id];go_enter func306,ntmps306;go_wp2_with fail;refine b8 HG.a fun w1 hb1=>?_;have ad:=hb1.alloc hb1.size (Xb k0 k1 k2 k3 k4 k5);have q1:=heap_alloc_new w1 (Xb k0 k1 k2 k3 k4 k5);have z1:=(ad.block (w.heap.size+1) (by simp)).trans HG.c;have B1:=HG.b.trans (ad.mono HG.b.size);clear hb1 ad;obtain⟨c0,c1⟩:=Fp z1;obtain⟨f0,f1⟩:=ef z1;have HW:=kq2 B1 z1;clear B1 z1 q1;go_wp2_with fail;have q3:=ew HW.b (Xu k0) (Xu k1);have B3:=eT HW.a (ct w.heap.size) (Xu k0) (Xu k1);generalize (((w1.alloc (Xb k0 k1 k2 k3 k4 k5)).setCell ⟨(w.heap.size+1),0,none⟩ (Xu k0)).setCell ⟨(w.heap.size+1),1,none⟩ (Xu k1))=W3 at*;obtain⟨e0,e1⟩:=Fp q3;exact bodyPost_ret (v:=.agg #[Xu k0,Xu k1]) (by simp[results,f306,go_sem,e0,e1]) rfl ⟨rfl,B3⟩
theorem tK(h:Ig w ps S Y)(hi:Fv S)(kind root:Nat)(hl:root<2^64)(k:Nat)(hk:k<2^62)(hR:kD S root k=some R)(hR1:R.1<2^64):
 Cb 299 #[fE ps kind,Xu root,Xi k] w (.tuple #[Id (getNode S R.1).1.key (getNode S R.1).1.val,Xi R.2]):=by
 have B1:=(aa w.heap.size w).alloc Ih (Xg ps kind);have q1:=heap_alloc_new w (Xg ps kind);have B0:=B1.alloc B1.size (.cells #[Xu 0,Xu 0] 104);have z1:=heap_alloc_new (w.alloc (Xg ps kind)) (.cells #[Xu 0,Xu 0] 104);have q1:=(((aa (w.alloc (Xg ps kind)).heap.size (w.alloc (Xg ps kind))).alloc Ih (.cells #[Xu 0,Xu 0] 104)).block w.heap.size (by simp)).trans q1;simp only[World.size_alloc] at z1;have ha:=EV (h.below B0) hi root hl k hk hR;have ad:=fun W (hW:Below w.heap.size w W)=>my (h.below hW) hi kind R.1 hR1;simp only[Id,fE] at ad⊢;generalize (getNode S R.1).1.key=k0 at*;generalize (getNode S R.1).1.val=k1 at*;obtain⟨r,er⟩:=R;simp only at ha ad⊢;have HG:=kq5 ha ad B0 z1 q1;clear ha ad B0 B1 h hi hR z1 q1 hR1;go_enter func299,ntmps299;go_wp2_with fail;refine b8 HG.a fun w1 hb1=>?_;have z1:=(hb1.block (w.heap.size+1) (by simp)).trans HG.d;have q1:=(hb1.block w.heap.size (by simp;omega)).trans HG.e;obtain⟨c0,c1⟩:=Fp q1;have H1:=kq2 (HG.c.trans (hb1.mono HG.c.size)) z1;clear hb1 z1 q1;go_wp2_with fail;refine b8 (HG.b _ H1.a) fun w2 hb2=>?_;have z2:=(hb2.block (w.heap.size+1) (gl H1.b)).trans H1.b;obtain⟨d0,d1⟩:=Fp z2;obtain⟨f0,f1⟩:=ef z2;have HW:=kq2 (H1.a.trans (hb2.mono H1.a.size)) z2;clear hb2 z2 c0 c1;go_wp2_with fail;have q3:=ew HW.b (Xu k0) (Xu k1);have B3:=eT HW.a (ct w.heap.size) (Xu k0) (Xu k1);generalize ((w2.setCell ⟨(w.heap.size+1),0,none⟩ (Xu k0)).setCell ⟨(w.heap.size+1),1,none⟩ (Xu k1))=W3 at*;obtain⟨e0,e1⟩:=Fp q3;exact bodyPost_ret (v:=.tuple #[.agg #[Xu k0,Xu k1],Xi er]) (by simp[results,f299,go_sem,e0,e1]) rfl ⟨rfl,B3⟩
theorem pO(S:St):fZ S 0=7:=by
 unfold fZ;rw[fU];rfl
theorem qM(S:St):getNode S 0=(Nd.zero,7):=by
 unfold getNode;rw[pO];rfl
theorem zk(h:Ig w ps S Y)(hi:Fv S)(kind:Nat):
 Cb 309 #[fE ps kind,Xu 0] w (.tuple #[Id 0 0,.bool false]):=by
 have B1:=(aa w.heap.size w).alloc Ih (Xg ps kind);have q1:=heap_alloc_new w (Xg ps kind);have B0:=B1.alloc B1.size (.cells #[Xu 0,Xu 0] 104);have z1:=heap_alloc_new (w.alloc (Xg ps kind)) (.cells #[Xu 0,Xu 0] 104);have q1:=(((aa (w.alloc (Xg ps kind)).heap.size (w.alloc (Xg ps kind))).alloc Ih (.cells #[Xu 0,Xu 0] 104)).block w.heap.size (by simp)).trans q1;simp only[World.size_alloc] at z1;have ai:=my (h.below B0) hi kind 0 (by decide);have ar:=fun W (hW:Below w.heap.size w W)=>vT (h.below hW) hi 0 (by decide) (by rw[pO];decide);rw[qM] at ai;rw[pO] at ar;simp only[Id,fE,Nd.zero] at ai⊢;have HG:=kq5 ai ar B0 z1 q1;clear ai ar B0 B1 h hi z1 q1;go_enter func309,ntmps309;go_wp2_with fail;refine b8 HG.a fun w1 hb1=>?_;have ad:=hb1.alloc hb1.size (.cells #[Xu 0,Xu 0] 104);have y1:=heap_alloc_new w1 (.cells #[Xu 0,Xu 0] 104);have z1:=(ad.block (w.heap.size+1) (by simp)).trans HG.d;have q1:=(ad.block w.heap.size (by simp;omega)).trans HG.e;have B2:=HG.c.trans (ad.mono HG.c.size);go_wp2_with fail;generalize w1.alloc (.cells #[Xu 0,Xu 0] 104)=W at*;obtain⟨I,an,ap⟩:∃I:World->Prop,(∀w',I w'->w'.heap[w.heap.size]?=some (Xg ps kind)/\w'.heap[w1.heap.size]?=some (.cells #[Xu 0,Xu 0] 104))/\(∀w',w'.heap[w.heap.size]?=some (Xg ps kind)->w'.heap[w1.heap.size]?=some (.cells #[Xu 0,Xu 0] 104)->I w'):=⟨fun w'=>w'.heap[w.heap.size]?=some (Xg ps kind)/\w'.heap[w1.heap.size]?=some (.cells #[Xu 0,Xu 0] 104),fun _ h=>h,fun _ a b=>⟨a,b⟩⟩;have au:=fun x:Fq I=>(an _ x.ok).1;have a0:=fun x:Fq I=>(an _ x.ok).2;obtain⟨a3,a4⟩:=fw au;obtain⟨a5,a6⟩:=fw a0;obtain⟨e0,e1⟩:=Fp z1;obtain⟨f0,f1⟩:=ef z1;have a2:w1.heap.size≠w.heap.size+1:=by have:=hb1.size;simp at this;omega
 have HW:=kq4 B2 z1 q1 y1;have HI:=If ap;have a1:I W.drew:=ap _ q1 y1;clear B2 z1 q1 y1 hb1 ad au a0 an ap;refine nF I [(true,0),(true,1),(true,2),(true,3),(false,4),(true,5),(false,6),(false,7)] (by kernel_rfl) (by kernel_rfl) a1 ?_
 iterate 4
  refine' mT ?_ ?_;rotate_left
  ·intro x;go_simp
   try rfl
  try simp only[pu]
 refine mD fun K hK=>?_;go_simp;refine Jc (HG.b _ HW.a.drew) ?_
 try go_simp
 refine hK.out _ _ (HI.out _ HW.c HW.d) ?_;clear hK K
 try simp only[pu]
 refine' mT ?_ ?_;rotate_left
 ·intro x;go_simp
  try rfl
 try simp only[pu]
 refine mD fun K hK=>?_;go_simp;have q3:((W.setCell ⟨(w.heap.size+1),0,none⟩ (Xu 0)).setCell ⟨(w.heap.size+1),1,none⟩ (Xu 0)).drew.heap[w.heap.size+1]?=_:=ew HW.b (Xu 0) (Xu 0);have B3:=(eT HW.a (ct w.heap.size) (Xu 0) (Xu 0)).drew;have r3:((W.setCell ⟨(w.heap.size+1),0,none⟩ (Xu 0)).setCell ⟨(w.heap.size+1),1,none⟩ (Xu 0)).drew.heap[w.heap.size]?=_:=(fA (by omega) (Xu 0) (Xu 0)).trans HW.c;have y3:((W.setCell ⟨(w.heap.size+1),0,none⟩ (Xu 0)).setCell ⟨(w.heap.size+1),1,none⟩ (Xu 0)).drew.heap[w1.heap.size]?=_:=(fA a2 (Xu 0) (Xu 0)).trans HW.d;generalize ((W.setCell ⟨(w.heap.size+1),0,none⟩ (Xu 0)).setCell ⟨(w.heap.size+1),1,none⟩ (Xu 0)).drew=W3 at*
 try go_simp
 refine hK.out _ _ (HI.out _ r3 y3) ?_;clear hK K
 try simp only[pu]
 refine mD fun K hK=>?_;go_simp
 try go_simp
 refine hK.out _ _ (HI.out _ r3 y3) ?_;clear hK K
 try simp only[pu]
 refine mX ?_;obtain⟨g0,g1⟩:=Fp q3;clear e0 e1 f0 f1 q3 r3 y3;have HB:=If B3;clear B3;go_wp2_with fail;exact bodyPost_ret (v:=.tuple #[.agg #[Xu 0,Xu 0],.bool false]) (by simp[results,f309,go_sem,g0,g1]) rfl ⟨rfl,HB.out⟩
theorem Ig.write{w w':World}{b:Nat}{cs:Array Value}{t:TypeId}{fr:Nat×Nat}(h:Ig w ps S Y)(hy:Y b)(hb:w.heap[b]?=some (.cells cs t fr))(ht:t≠94/\t≠160)(hz:cs.size<64)
 (hs:w.heap.size<=w'.heap.size) (hw:∀k,k<w.heap.size->k≠b->w'.heap[k]?=w.heap[k]?):Ig w' ps S Y:=by
 obtain⟨pa,pm,ph,pt,v,h⟩:=h;refine⟨pa,pm,ph,pt,v,h.of_keep hs fun k hk hc=>hw k hk ?_⟩;rintro rfl;rcases hc with hc | rfl | rfl | rfl
 ·exact hc hy
 ·have:=h.hd;rw[hb] at this;injection this with this
  injection this with _ this
  exact ht.1 this
 ·have:=h.heap.hp;rw[hb] at this;injection this with this
  injection this with _ this
  exact ht.2 this
 ·have:=h.heap.tab 63 (by decide);rw[cell_of_block hb,dm (by omega)] at this;cases this
def Lf.binInsM(jn:Jn)(S:St)(root k v:Nat):Option (Nat×St):=
 if(ga S ⟨k,v,0,0,0,1⟩).1.2≠0 then none
 else match insertOkM jn (ga S ⟨k,v,0,0,0,1⟩).2 root (ga S ⟨k,v,0,0,0,1⟩).1.1 with
  | none=>none
  | some ((now,old),S1)=>if old=0 then some (now,S1) else none
theorem y8{jn:Jn}{S S':St}{root k v x:Nat}(h:binInsM jn S root k v=some (x,S')):
 (ga S ⟨k,v,0,0,0,1⟩).1.2=0/\insertOkM jn (ga S ⟨k,v,0,0,0,1⟩).2 root (ga S ⟨k,v,0,0,0,1⟩).1.1=some ((x,0),S'):=by
 unfold binInsM at h
 split at h
 ·cases h
 ·rename_i h0
  split at h
  ·cases h
  ·rename_i now old S1 h1
   split at h
   ·rename_i h2;have h:=Option.some.inj h
    injection h with e1 e2
    subst e1 e2 h2;exact⟨da.1 h0,h1⟩
   ·cases h
theorem Cr(S:St)(n:Nd):(ga S n).1.1=(S.make 6).1.1\/(ga S n).1.1=0:=by
 unfold ga
 split
 ·rename_i h s1 e
  left;rw[e]
 ·right;rfl
theorem KC(hw:iW S.t)(n:Nd):(ga S n).1.1<2^64:=by
 rcases Cr S n with e | e
 ·rw[e];exact oA hw 6
 ·rw[e];decide
theorem vz(hm:iw S 6)(n:Nd):Fv (ga S n).2:=by
 have h2:=hm.2;unfold ga
 split
 ·rename_i h s1 e;rw[e] at h2;exact rT h2 _ _
 ·rename_i e0 h er s1 e;rw[e] at h2;exact h2
theorem qYdaa{P:Prop}(h:P:=by
 obtain⟨h6,k6,-,-,y6,-,o7,z7,s7⟩:=H6.out;have hY:=HG.i;have hz:=HG.g;have hw:∀k,k≠w.heap.size+2->w8.heap[k]?=w6.heap[k]?:=fun k hk=>(o8 k hk).trans (o7 k hk);refine⟨(h6.write (ae ⟨by omega,by omega⟩) y6 ⟨by decide,by decide⟩ (by simp) (by omega) fun k _ hk=>hw k hk).mono fun k hk=>ab hk,?_⟩;have ad:=(Fo.of_below HG.h hY).trans (k6.mono fun k hk=>ab hk);exact⟨(s8.1.trans s7.1).trans ad.os,(s8.2.1.trans s7.2.1).trans ad.tape,(s8.2.2.trans s7.2.2).trans ad.output,by have:=ad.size;omega,fun k hk=>(hw k (by have:=hY k hk;omega)).trans (ad.block k hk)⟩):P:=h
theorem zc{S S':St}(h:Ig w ps S Y)(hm:iw S 6){j c:FuncId}{jn:Jn}(hk:jD kind j c jn)(root k v:Nat)(hl:root<2^64)(hkl:k<2^64)(hvl:v<2^64){x:Nat}(hx:binInsM jn S root k v=some (x,S')):
 Ct 301 #[fE ps kind,Xu root,Id k v] w fun e w'=>e=.returned (.tuple #[Xu x,Id 0 0,.bool false,Xi 0])/\Ig w' ps S' Y/\Fo Y w w'/\Fv S'/\x<2^64:=by
 obtain⟨h0,h1⟩:=y8 hx;have ap:=vz hm ⟨k,v,0,0,0,1⟩;have a3:=KC h.tabwf ⟨k,v,0,0,0,1⟩;have ai:=fun W Z (hW:Ig W ps S Z)=>vU hW hm ⟨k,v,0,0,0,1⟩ ⟨hkl,hvl,by simp,by simp,by simp,by simp⟩;generalize ga S ⟨k,v,0,0,0,1⟩=M at*;obtain⟨⟨m,em⟩,S1⟩:=M;simp only at h0 h1 ap a3 ai;subst h0;have a2:=fun W Z (hW:Ig W ps S1 Z)=>In hW ap hk.joins hk.way root m hl a3 h1;have ar:=fun W Z (hi2:Fv S') (hW:Ig W ps S' Z)=>zk hW hi2 kind;simp only[fE,Id,eS] at ai ar⊢;have B1:=(aa w.heap.size w).alloc Ih (Xg ps kind);have q1:=heap_alloc_new w (Xg ps kind);generalize a4:w.alloc (Xg ps kind)=w1 at*;have z1:w1.heap.size=w.heap.size+1:=by rw[<-a4];simp
 have A2:=(aa w1.heap.size w1).alloc Ih (Xe k v);have B2:=B1.alloc B1.size (Xe k v);have q2:=(A2.block w.heap.size (by omega)).trans q1;have z2:(w1.alloc (Xe k v)).heap.size=w.heap.size+2:=by simp[z1]
 generalize a8:w1.alloc (Xe k v)=w2 at*;have A3:=(aa w2.heap.size w2).alloc Ih (.cells #[Xu 0,Xu 0] 104);have q3:=(A3.block w.heap.size (by omega)).trans q2;have B3:=B2.alloc B2.size (.cells #[Xu 0,Xu 0] 104);have y3:=heap_alloc_new w2 (.cells #[Xu 0,Xu 0] 104);rw[z2] at y3;have z3:(w2.alloc (.cells #[Xu 0,Xu 0] 104)).heap.size=w.heap.size+3:=by simp[z2]
 subst a8 a4;have hY:=h.yl;have HG:=kq9 ai a2 ar (h.wide B3) q3 y3 z3 B3 hY;clear ai a2 ar h q1 q2 q3 y3 A2 A3 B1 B2 B3 z1 z2 z3 ap h1 hm hk hY hx;go_enter func301,ntmps301;go_wp2_with fail;refine(HG.a _ _ HG.d).mono ?_;rintro e w4 ⟨rfl,h4,k4⟩;have q4:=(k4.block w.heap.size (ae ⟨Nat.le_refl _,by have:=HG.g;omega⟩)).trans HG.e;have y4:=(k4.block (w.heap.size+2) (ae ⟨by omega,by have:=HG.g;omega⟩)).trans HG.f;obtain⟨c0,c1⟩:=Fp q4;have H4:=kq4 h4 k4 q4 y4;clear h4 k4 q4 y4;go_wp2_with fail;obtain⟨hp,a1,a5,-⟩:=HG.b _ _ H4.a;refine hp.mono ?_;rintro e w5 ⟨rfl,h5,k5⟩;have q5:=(k5.block w.heap.size (ae ⟨Nat.le_refl _,by have:=HG.g;omega⟩)).trans H4.c;have y5:=(k5.block (w.heap.size+2) (ae ⟨by omega,by have:=HG.g;omega⟩)).trans H4.d;obtain⟨d0,d1⟩:=Fp q5;have H5:=kq5 h5 (H4.b.trans k5) a1 a5 y5;clear h5 k5 q5 y5 hp a1 a5 c0 c1;go_wp2_with fail;refine b8 (HG.c _ _ H5.c H5.a) fun w6 hb6=>?_;have y6:=(hb6.block (w.heap.size+2) (gl H5.e)).trans H5.e;obtain⟨e0,e1⟩:=Fp y6;obtain⟨f0,f1⟩:=ef y6;have q7:((w6.setCell ⟨(w.heap.size+2),0,none⟩ (Xu 0)).setCell ⟨(w.heap.size+2),1,none⟩ (Xu 0)).heap[w.heap.size+2]?=_:=ew y6 (Xu 0) (Xu 0);have o7:∀k,k≠w.heap.size+2->((w6.setCell ⟨(w.heap.size+2),0,none⟩ (Xu 0)).setCell ⟨(w.heap.size+2),1,none⟩ (Xu 0)).heap[k]?=w6.heap[k]?:=fun k hk=>fA hk _ _;have z7:((w6.setCell ⟨(w.heap.size+2),0,none⟩ (Xu 0)).setCell ⟨(w.heap.size+2),1,none⟩ (Xu 0)).heap.size=w6.heap.size:=by simp
 have s7:((w6.setCell ⟨(w.heap.size+2),0,none⟩ (Xu 0)).setCell ⟨(w.heap.size+2),1,none⟩ (Xu 0)).os=w6.os/\((w6.setCell ⟨(w.heap.size+2),0,none⟩ (Xu 0)).setCell ⟨(w.heap.size+2),1,none⟩ (Xu 0)).tape=w6.tape/\((w6.setCell ⟨(w.heap.size+2),0,none⟩ (Xu 0)).setCell ⟨(w.heap.size+2),1,none⟩ (Xu 0)).output=w6.output:=⟨rfl,rfl,rfl⟩;have a9:∀k,Y k->k<w.heap.size:=HG.i;have h6:=H5.a.below hb6;have k6:=H5.b.trans (H5.a.keep hb6);have H6:=kq9 h6 k6 H5.c H5.d y6 q7 o7 z7 s7;clear hb6 y6 d0 d1 h6 k6 o7 z7 s7 q7;go_wp2_with fail;generalize ((w6.setCell ⟨(w.heap.size+2),0,none⟩ (Xu 0)).setCell ⟨(w.heap.size+2),1,none⟩ (Xu 0))=w7 at*;have q7:=H6.f;obtain⟨I,au,an⟩:∃I:World->Prop,(∀w',I w'->w'.heap[w.heap.size+2]?=some (.cells #[Xu 0,Xu 0] 104))/\(∀w',w'.heap[w.heap.size+2]?=some (.cells #[Xu 0,Xu 0] 104)->I w'):=⟨fun w'=>w'.heap[w.heap.size+2]?=some (.cells #[Xu 0,Xu 0] 104),fun _ h=>h,fun _ a=>a⟩;have a6:=fun x:Fq I=>au _ x.ok;obtain⟨m0,m1⟩:=fw a6;obtain⟨g0,g1⟩:=Fp q7;obtain⟨h0,h1⟩:=ef q7;have HI:=If an;have a7:I w7.drew:=an _ q7;have HQ:=If q7;clear e0 e1 f0 f1 q7 au an a6;refine nF I [(true,0),(true,1),(true,2),(true,3),(false,4),(false,5),(false,6),(false,7)] (by kernel_rfl) (by kernel_rfl) a7 ?_
 iterate 4
  refine' mT ?_ ?_;rotate_left
  ·intro x;go_simp
   try rfl
  try simp only[pu]
 refine mD fun K hK=>?_;go_simp
 try go_simp
 refine hK.out _ _ (HI.out _ HQ.out) ?_;clear hK K
 try simp only[pu]
 refine mD fun K hK=>?_;go_simp;have q8:((w7.setCell ⟨(w.heap.size+2),0,none⟩ (Xu 0)).setCell ⟨(w.heap.size+2),1,none⟩ (Xu 0)).drew.heap[w.heap.size+2]?=_:=ew HQ.out (Xu 0) (Xu 0);have o8:∀k,k≠w.heap.size+2->((w7.setCell ⟨(w.heap.size+2),0,none⟩ (Xu 0)).setCell ⟨(w.heap.size+2),1,none⟩ (Xu 0)).drew.heap[k]?=w7.heap[k]?:=fun k hk=>fA hk _ _;have z8:((w7.setCell ⟨(w.heap.size+2),0,none⟩ (Xu 0)).setCell ⟨(w.heap.size+2),1,none⟩ (Xu 0)).drew.heap.size=w7.heap.size:=by show ((w7.setCell ⟨(w.heap.size+2),0,none⟩ (Xu 0)).setCell ⟨(w.heap.size+2),1,none⟩ (Xu 0)).heap.size=_;simp
 have s8:((w7.setCell ⟨(w.heap.size+2),0,none⟩ (Xu 0)).setCell ⟨(w.heap.size+2),1,none⟩ (Xu 0)).drew.os=w7.os/\((w7.setCell ⟨(w.heap.size+2),0,none⟩ (Xu 0)).setCell ⟨(w.heap.size+2),1,none⟩ (Xu 0)).drew.tape=w7.tape/\((w7.setCell ⟨(w.heap.size+2),0,none⟩ (Xu 0)).setCell ⟨(w.heap.size+2),1,none⟩ (Xu 0)).drew.output=w7.output:=⟨rfl,rfl,rfl⟩;generalize ((w7.setCell ⟨(w.heap.size+2),0,none⟩ (Xu 0)).setCell ⟨(w.heap.size+2),1,none⟩ (Xu 0)).drew=w8 at*
 try go_simp
 refine hK.out _ _ (HI.out _ q8) ?_;clear hK K
 try simp only[pu]
 refine mD fun K hK=>?_;go_simp
 try go_simp
 refine hK.out _ _ (HI.out _ q8) ?_;clear hK K
 try simp only[pu]
 refine mD fun K hK=>?_;go_simp
 try go_simp
 refine hK.out _ _ (HI.out _ q8) ?_;clear hK K
 try simp only[pu]
 refine mX ?_;obtain⟨e0,e1⟩:=Fp q8;have a0:Ig w8 ps S' Y/\Fo Y w w8:=by
  exact qYdaa
 have HF:=If a0;clear a0 q8 o8 z8 s8 g0 g1 h0 h1 m0 m1;go_wp2_with fail;exact bodyPost_ret (v:=.tuple #[Xu x,.agg #[Xu 0,Xu 0],.bool false,Xi 0]) (by simp[results,f301,go_sem,e0,e1]) rfl ⟨rfl,HF.out.1,HF.out.2,H6.c,H6.d⟩
def tt(w:World)(px ps kind root:Nat):Prop:=w.heap[px]?=some (.cells #[PV ps,Xi kind,Xi 0,.iface 162 (fE ps kind),Xu root] 100)
theorem Da(f:Nat)(v:Value)(w:World):(method (f+1) 162 v "loft/backend.size").run prog w=.ok (304,v) w:=by kernel_rfl
theorem C9(f:Nat)(v:Value)(w:World):(method (f+1) 162 v "loft/backend.rank").run prog w=.ok (302,v) w:=by kernel_rfl
theorem rI(f:Nat)(v:Value)(w:World):(method (f+1) 162 v "loft/backend.at").run prog w=.ok (299,v) w:=by kernel_rfl
theorem vQ(f:Nat)(v:Value)(w:World):(method (f+1) 162 v "loft/backend.insert").run prog w=.ok (301,v) w:=by kernel_rfl
theorem lB(A B:World->Prop):∃I:World->Prop,(∀w',I w'->A w'/\B w')/\(∀w',A w'->B w'->I w'):=⟨fun w'=>A w'/\B w',fun _ h=>h,fun _ a b=>⟨a,b⟩⟩
def Lf.treeAtM(S:St)(root k:Nat):Option (List UInt8×List UInt8):=
 match kD S root k with
 | none=>none
 | some (h,e)=>if e≠0\/18446744073709551616<=h then none else
  match gD S (getNode S h).1.key,gD S (getNode S h).1.val with
  | some a,some b=>some (a,b)
  | _,_=>none
theorem EQ{root k:Nat}{p:List UInt8×List UInt8}(h:treeAtM S root k=some p):∃hh,hh<2^64/\kD S root k=some (hh,0)/\gD S (getNode S hh).1.key=some p.1/\gD S (getNode S hh).1.val=some p.2:=by
 unfold treeAtM at h
 split at h
 ·cases h
 rename_i hh e h1
 split at h
 ·cases h
 rename_i hc;simp only[not_or,da,Nat.not_le] at hc
 split at h
 ·rename_i a b h2 h3;have h:=Option.some.inj h;subst h;exact⟨hh,hc.2,by rw[h1,hc.1],h2,h3⟩
 ·cases h
def eu(p:List UInt8×List UInt8):Value:=.agg #[SV p.1,SV p.2]
theorem sS{hh:Nat}{t:List UInt8}(h:gD S hh=some t):(fz S hh).2≠8/\(fz S hh).1=t:=by
 unfold gD at h
 split at h
 ·cases h
 ·rename_i h8;exact⟨h8,Option.some.inj h⟩
theorem sV(px k v:Nat)(w:World):
 Cb 84 #[PV px,Id k v,.bool false] w (.string ⟨#[]⟩):=by
 simp only[Id];go_enter func84,ntmps84;go_wp2_with fail;go_ret;exact⟨rfl,(aa _ w).alloc Ih _⟩
def Lf.itemsM(S:St)(a b:List UInt8):Option ((Nat×Nat)×St):=
 if(fx S a).1.2≠0\/(fx (fx S a).2 b).1.2≠0 then none
 else some (((fx S a).1.1,(fx (fx S a).2 b).1.1),(fx (fx S a).2 b).2)
def nJ(S:St)(a b:List UInt8):Prop:=a.length<=1000/\b.length<=1000/\iw S (many a.length)/\iw (fx S a).2 (many b.length)
theorem wu{a:List UInt8}(hm:iw S (many a.length))(hi:Fv S):Fv (fx S a).2:=by
 have h2:=hm.2;unfold fx
 split
 ·exact hi
 ·split
  ·rename_i e;rw[e] at h2;exact(rV _ _ _ 0 h2).1
  ·rename_i e;rw[e] at h2;exact h2
theorem wv(hw:iW S.t)(a:List UInt8):(fx S a).1.1<2^64:=by
 have:=oA hw (many a.length);unfold fx
 split
 ·simp
 ·split
  ·rename_i e;rw[e] at this;exact this
  ·simp
theorem BI{S S':St}{a b:List UInt8}(h:itemsM S a b=some (p,S')):(fx S a).1=(p.1,0)/\(fx (fx S a).2 b).1=(p.2,0)/\S'=(fx (fx S a).2 b).2:=by
 unfold itemsM at h
 split at h
 ·cases h
 ·rename_i hc;simp only[not_or,da] at hc;have h:=Option.some.inj h
  injection h with e1 e2
  subst e1 e2;exact⟨Prod.ext rfl hc.1,Prod.ext rfl hc.2,rfl⟩
def Lf.treePutM(jn:Jn)(S:St)(root:Nat)(a b:List UInt8):Option (Nat×St):=
 match itemsM S a b with
 | none=>none
 | some (p,S1)=>binInsM jn S1 root p.1 p.2
def pJ(S:St)(a b:List UInt8):Prop:=nJ S a b/\∀p S1,itemsM S a b=some (p,S1)->iw S1 6
theorem ET(h:Ig w ps S Y)(hi:Fv S){j c:FuncId}{jn:Jn}(hk:jD kind j c jn)(t:Int):
 Ct 47 #[PV ps,Xi kind,Xi t,Xu 0] w fun e w'=>∃px,e=.returned (.tuple #[PV px,Xi 0])/\tt w' px ps kind 0/\Below w.heap.size w w'/\w.heap.size<=px:=by
 have hc:=JF h hi hk t;have hq:((kind:Int)==3)=false:=by have:=hk.is;simp;omega
 have HG:=If hc;clear hc h hi hk;go_enter func47,ntmps47;go_wp2_with fail;refine b8 HG.out fun w1 hb1=>?_;have q:=heap_alloc_new w1 (.cells #[PV ps,Xi kind,Xi 0,.iface 162 (fE ps kind),Xu 0] 100);have B:=hb1.alloc hb1.size (.cells #[PV ps,Xi kind,Xi 0,.iface 162 (fE ps kind),Xu 0] 100);simp only[fE] at q B;have HB:=kq3 q B hb1.size;clear q B hb1;go_wp2_with fail;go_ret2;exact⟨w1.heap.size,rfl,HB.a,HB.b,HB.c⟩
theorem ES(h:Ig w ps S Y)(hi:Fv S){j c:FuncId}{jn:Jn}(hk:jD kind j c jn)(t:Int):
 Ct 13 #[PV ps,Xi kind,Xi t] w fun e w'=>∃px,e=.returned (.tuple #[PV px,Xi 0])/\tt w' px ps kind 0/\Below w.heap.size w w'/\w.heap.size<=px:=by
 have HG:=If (ET h hi hk t);clear h hi hk;go_enter func13,ntmps13;go_wp2_with fail;refine HG.out.mono ?_;rintro e w1 ⟨px,rfl,hr⟩;have HB:=If hr;clear hr;go_wp2_with fail;go_ret2;exact⟨px,rfl,HB.out⟩
def Ic(w:World)(pm px ps limit:Nat):Prop:=w.heap[pm]?=some (.cells #[PV ps,PV px,Xi limit] 116)
theorem Ic.below{w w':World}{pm px ps limit:Nat}(h:Ic w pm px ps limit)(hb:Below w.heap.size w w'):Ic w' pm px ps limit:=(hb.block pm (gl h)).trans h
theorem ki{pm px ps limit:Nat}(hM:Ic w pm px ps limit):
 Ct 57 #[PV pm] w fun e w'=>e=.returned (.bool false)/\w=w':=by
 unfold Ic at hM;obtain⟨c0,c1,c2⟩:=fq hM;clear hM;go_enter func57,ntmps57;go_wp2_with fail;go_ret;exact⟨rfl,rfl⟩
theorem Gh{pm px ps limit:Nat}(hM:Ic w pm px ps limit):
 Ct 23 #[PV pm] w fun e w'=>e=.returned (PV px)/\w=w':=by
 have HG:=If (ki hM);unfold Ic at hM;obtain⟨c0,c1,c2⟩:=fq hM;clear hM;go_enter func23,ntmps23;go_wp2_with fail;refine Jc HG.out ?_;go_wp2_with fail;go_ret;exact⟨rfl,rfl⟩
theorem vH{pm px ps limit:Nat}(hM:Ic w pm px ps limit)(a b:List UInt8)(ha:a.length<=limit)(hb:b.length<=limit):
 Ct 58 #[PV pm,SV a,SV b] w fun e w'=>e=.returned (Xi 0)/\w=w':=by
 have HG:=If (ki hM);unfold Ic at hM;obtain⟨c0,c1,c2⟩:=fq hM;have ad:((limit:Int)<(a.length:Int))=False:=eq_false (by omega);have ai:((limit:Int)<(b.length:Int))=False:=eq_false (by omega);clear hM ha hb;go_enter func58,ntmps58;go_wp2_with fail;refine Jc HG.out ?_;go_wp2_with fail;go_ret;exact⟨rfl,rfl⟩
theorem EX(h:Ig w ps S Y)(hi:Fv S)(root:Nat)(hl:root<2^64)(k:List UInt8)(hR:ij S k (limit S) root 0=some R):
 Cb 307 #[PV ps,Xu root,SV k] w (.tuple #[Xu R.1,.bool (decide (R.1≠0))]):=by
 have HG:=If (xT h hi root hl k hR);obtain⟨a,b⟩:=R;simp only at HG⊢;clear hR h hi;go_enter func307,ntmps307;go_wp2_with fail;refine b8 HG.out fun w1 hb=>?_;have HB:=If hb;clear hb;go_wp2_with fail;go_ret2;refine⟨?_,HB.out⟩;have:((a:Int) !=0)=decide (a≠0):=by by_cases e:a=0<;>simp[e]<;>omega
 rw[<-this]
 rfl
theorem tL(h:Ig w ps S Y)(hi:Fv S)(kind root:Nat)(hl:root<2^64)(k:List UInt8)(hR:ij S k (limit S) root 0=some R)(hR1:R.1<2^64):
 Cb 300 #[fE ps kind,Xu root,SV k] w (.tuple #[Id (getNode S R.1).1.key (getNode S R.1).1.val,.bool (decide (R.1≠0))]):=by
 have B1:=(aa w.heap.size w).alloc Ih (Xg ps kind);have q1:=heap_alloc_new w (Xg ps kind);have B0:=B1.alloc B1.size (.cells #[Xu 0,Xu 0] 104);have z1:=heap_alloc_new (w.alloc (Xg ps kind)) (.cells #[Xu 0,Xu 0] 104);have q1:=(((aa (w.alloc (Xg ps kind)).heap.size (w.alloc (Xg ps kind))).alloc Ih (.cells #[Xu 0,Xu 0] 104)).block w.heap.size (by simp)).trans q1;simp only[World.size_alloc] at z1;have ha:=EX (h.below B0) hi root hl k hR;have ad:=fun W (hW:Below w.heap.size w W)=>my (h.below hW) hi kind R.1 hR1;simp only[Id,fE] at ad⊢;generalize (getNode S R.1).1.key=k0 at*;generalize (getNode S R.1).1.val=k1 at*;generalize decide (R.1≠0)=z at*;have HG:=kq5 ha ad B0 z1 q1;clear ha ad B0 B1 h hi z1 q1;go_enter func300,ntmps300;go_wp2_with fail;refine b8 HG.a fun w1 hb1=>?_;have z1:=(hb1.block (w.heap.size+1) (by simp)).trans HG.d;have q1:=(hb1.block w.heap.size (by simp;omega)).trans HG.e;obtain⟨c0,c1⟩:=Fp q1;have H1:=kq2 (HG.c.trans (hb1.mono HG.c.size)) z1;clear hb1 z1 q1;go_wp2_with fail;refine b8 (HG.b _ H1.a) fun w2 hb2=>?_;have z2:=(hb2.block (w.heap.size+1) (gl H1.b)).trans H1.b;obtain⟨d0,d1⟩:=Fp z2;obtain⟨f0,f1⟩:=ef z2;have HW:=kq2 (H1.a.trans (hb2.mono H1.a.size)) z2;clear hb2 z2 c0 c1;go_wp2_with fail;have q3:=ew HW.b (Xu k0) (Xu k1);have B3:=eT HW.a (ct w.heap.size) (Xu k0) (Xu k1);generalize ((w2.setCell ⟨(w.heap.size+1),0,none⟩ (Xu k0)).setCell ⟨(w.heap.size+1),1,none⟩ (Xu k1))=W3 at*;obtain⟨e0,e1⟩:=Fp q3;exact bodyPost_ret (v:=.tuple #[.agg #[Xu k0,Xu k1],.bool z]) (by simp[results,f300,go_sem,e0,e1]) rfl ⟨rfl,B3⟩
theorem za(h:Ig w ps S Y)(hi:Fv S)(kind root:Nat)(k:Int)(hk:k<0):
 Cb 299 #[fE ps kind,Xu root,Xi k] w (.tuple #[Id (getNode S 0).1.key (getNode S 0).1.val,Xi 2]):=by
 have B1:=(aa w.heap.size w).alloc Ih (Xg ps kind);have q1:=heap_alloc_new w (Xg ps kind);have B0:=B1.alloc B1.size (.cells #[Xu 0,Xu 0] 104);have z1:=heap_alloc_new (w.alloc (Xg ps kind)) (.cells #[Xu 0,Xu 0] 104);have q1:=(((aa (w.alloc (Xg ps kind)).heap.size (w.alloc (Xg ps kind))).alloc Ih (.cells #[Xu 0,Xu 0] 104)).block w.heap.size (by simp)).trans q1;simp only[World.size_alloc] at z1;have ha:=EW (h.below B0) hi root k hk;have ai:=fun W (hW:Below w.heap.size w W)=>my (h.below hW) hi kind 0 (by decide);simp only[Id,fE] at ai⊢;generalize (getNode S 0).1.key=k0 at*;generalize (getNode S 0).1.val=k1 at*;have HG:=kq5 ha ai B0 z1 q1;clear ha ai B0 B1 h hi z1 q1;go_enter func299,ntmps299;go_wp2_with fail;refine Jc HG.a ?_;have ad:=aa ((w.alloc (Xg ps kind)).alloc (.cells #[Xu 0,Xu 0] 104)).heap.size ((w.alloc (Xg ps kind)).alloc (.cells #[Xu 0,Xu 0] 104));generalize an:(w.alloc (Xg ps kind)).alloc (.cells #[Xu 0,Xu 0] 104)=w1 at*;have z1:=(ad.block (w.heap.size+1) (by rw[<-an];simp)).trans HG.d;have q1:=(ad.block w.heap.size (by rw[<-an];simp;omega)).trans HG.e;obtain⟨c0,c1⟩:=Fp q1;have H1:=kq2 (HG.c.trans (ad.mono HG.c.size)) z1;clear ad z1 q1 an;go_wp2_with fail;refine b8 (HG.b _ H1.a) fun w2 hb2=>?_;have z2:=(hb2.block (w.heap.size+1) (gl H1.b)).trans H1.b;obtain⟨d0,d1⟩:=Fp z2;obtain⟨f0,f1⟩:=ef z2;have HW:=kq2 (H1.a.trans (hb2.mono H1.a.size)) z2;clear hb2 z2 c0 c1;go_wp2_with fail;have q3:=ew HW.b (Xu k0) (Xu k1);have B3:=eT HW.a (ct w.heap.size) (Xu k0) (Xu k1);generalize ((w2.setCell ⟨(w.heap.size+1),0,none⟩ (Xu k0)).setCell ⟨(w.heap.size+1),1,none⟩ (Xu k1))=W3 at*;obtain⟨e0,e1⟩:=Fp q3;exact bodyPost_ret (v:=.tuple #[.agg #[Xu k0,Xu k1],Xi 2]) (by simp[results,f299,go_sem,e0,e1]) rfl ⟨rfl,B3⟩
theorem vP(f:Nat)(v:Value)(w:World):(method (f+1) 162 v "loft/backend.find").run prog w=.ok (300,v) w:=by kernel_rfl
def FF(w:World)(px ps:Nat)(ty:TypeId)(kv:Value)(kind td root:Nat):Prop:=w.heap[px]?=some (.cells #[PV ps,Xi kind,Xi td,.iface ty kv,Xu root] 100)
theorem FF.below{w w':World}{px ps kind td root:Nat}(h:FF w px ps ty kv kind td root)(hb:Below w.heap.size w w'):FF w' px ps ty kv kind td root:=(hb.block px (gl h)).trans h
theorem FF.keep{w w':World}{px ps kind td root:Nat}(h:FF w px ps ty kv kind td root)(hk:Fo Y w w')(hy:Y px):FF w' px ps ty kv kind td root:=(hk.block px hy).trans h
theorem kw{px ps kind td root:Nat}(hT:FF w px ps ty kv kind td root):
 Ct 48 #[PV px] w fun e w'=>e=.returned (.bool false)/\w=w':=by
 unfold FF at hT;obtain⟨c0,c1,c2,c3,c4⟩:=ld hT;clear hT;go_enter func48,ntmps48;go_wp2_with fail;go_ret;exact⟨rfl,rfl⟩
theorem kN(px ps:Nat)(ty:TypeId)(kv:Value)(kind td root:Nat):∃I:World->Prop,(∀w',I w'->FF w' px ps ty kv kind td root)/\(∀w',FF w' px ps ty kv kind td root->I w'):=⟨fun w'=>FF w' px ps ty kv kind td root,fun _ h=>h,fun _ a=>a⟩
theorem qYdab{P:Prop}(h:P:=by
 refine mD fun K hK=>?_;go_simp;refine b8 HG.b fun w2 hb2=>?_;have T2:=FF.below (w:=w.drew) HG.c hb2;have B2:=kq2 T2 ((aa w.heap.size w).drew.trans hb2);clear T2 hb2
 try go_simp
 refine hK.out _ _ (HG.d _ B2.a) ?_;clear hK K
 try simp only[pu]
 refine mD fun K hK=>?_;go_simp
 try go_simp
 refine hK.out _ _ (HG.d _ B2.a) ?_;clear hK K
 try simp only[pu]
 refine mX ?_;go_wp2_with fail;go_ret;exact⟨rfl,B2.b⟩):P:=h
theorem xM{px ps kind td root:Nat}(hT:FF w px ps ty kv kind td root)(hme:∀(f:Nat) (v:Value) (w:World),(method (f+1) ty v "loft/backend.size").run prog w=.ok (fm,v) w)(hen:∀(args:Array Value) (w:World),(callFunc fm args).run prog w=.ok (.enter fm args) w)(hs:∀W,Below w.heap.size w W->Ct fm #[kv,Xu root] W fun e w'=>e=.returned (Xi z)/\Below W.heap.size W w'):
 Cb 19 #[PV px] w (Xi z):=by
 have hn:=kw hT;have hs:=hs _ (aa _ w).drew;obtain⟨I,an,ad⟩:=kN px ps ty kv kind td root;have ai:=fun x:Fq I=>an _ x.ok;simp only[FF] at ai;obtain⟨m0,m1,m2,m3,m4⟩:=iK ai;have ap:I w.drew:=ad _ hT;have HG:=kq4 hn hs hT ad;clear hn hs hT an ad ai;go_enter func19,ntmps19;go_wp2_with fail;refine Jc HG.a ?_;go_wp2_with fail;refine nF I [(true,0),(true,1),(true,2),(true,3),(true,4),(true,5),(true,6),(true,7),(true,8),(true,9),(false,10),(false,11)] (by kernel_rfl) (by kernel_rfl) ap ?_
 iterate 10
  refine' mT ?_ ?_;rotate_left
  ·intro x;go_simp
   try rfl
  try simp only[pu]
 exact qYdab
theorem xO{px ps kind td root:Nat}(hT:FF w px ps ty kv kind td root)(k:List UInt8)(hme:∀(f:Nat) (v:Value) (w:World),(method (f+1) ty v "loft/backend.rank").run prog w=.ok (fm,v) w)(hen:∀(args:Array Value) (w:World),(callFunc fm args).run prog w=.ok (.enter fm args) w)(hs:∀W,Below w.heap.size w W->Ct fm #[kv,Xu root,SV k] W fun e w'=>e=.returned (Xi z)/\Below W.heap.size W w'):
 Cb 16 #[PV px,SV k] w (Xi z):=by
 have hn:=kw hT;have hs:=hs _ (aa _ w).drew;obtain⟨I,an,ad⟩:=kN px ps ty kv kind td root;have ai:=fun x:Fq I=>an _ x.ok;simp only[FF] at ai;obtain⟨m0,m1,m2,m3,m4⟩:=iK ai;have ap:I w.drew:=ad _ hT;have HG:=kq4 hn hs hT ad;clear hn hs hT an ad ai;go_enter func16,ntmps16;go_wp2_with fail;refine Jc HG.a ?_;go_wp2_with fail;refine nF I [(true,0),(true,1),(true,2),(true,3),(true,4),(true,5),(true,6),(true,7),(true,8),(true,9),(true,10),(false,11),(false,12)] (by kernel_rfl) (by kernel_rfl) ap ?_
 iterate 11
  refine' mT ?_ ?_;rotate_left
  ·intro x;go_simp
   try rfl
  try simp only[pu]
 exact qYdab
theorem xH{px ps kind td root:Nat}(hT:FF w px ps ty kv kind td root)(k:Int)(p:List UInt8×List UInt8)(k0 k1 e1 e2:Nat)(er:Int)(her:er=0\/er=2/\p=([],[]))(hme:∀(f:Nat) (v:Value) (w:World),(method (f+1) ty v "loft/backend.at").run prog w=.ok (fm,v) w)(hen:∀(args:Array Value) (w:World),(callFunc fm args).run prog w=.ok (.enter fm args) w)(hs:∀W,Below w.heap.size w W->Ct fm #[kv,Xu root,Xi k] W fun e w'=>e=.returned (.tuple #[.agg #[Xu k0,Xu k1],Xi er])/\Below W.heap.size W w')(hg1:er=0->∀W,Below w.heap.size w W->Cb 51 #[PV ps,Xu k0] W (.tuple #[SV p.1,Xi e1]))(hg2:er=0->∀W,Below w.heap.size w W->Cb 51 #[PV ps,Xu k1] W (.tuple #[SV p.2,Xi e2])):
 Cb 18 #[PV px,Xi k] w (.tuple #[eu p,Xi er]):=by
 have B0:=(aa w.heap.size w).alloc Ih (.cells #[.string ⟨#[]⟩,.string ⟨#[]⟩] 40);have y0:=heap_alloc_new w (.cells #[.string ⟨#[]⟩,.string ⟨#[]⟩] 40);have hn:=kw (hT.below B0);obtain⟨p1,p2⟩:=p;simp only[eu] at hg1 hg2⊢;obtain⟨I,au,a0⟩:=kN px ps ty kv kind td root;have ar:=fun x:Fq I=>au _ x.ok;simp only[FF] at ar;obtain⟨m0,m1,m2,m3,m4⟩:=iK ar;have ap:I ((w.alloc (.cells #[.string ⟨#[]⟩,.string ⟨#[]⟩] 40)).drew):=a0 _ (hT.below B0.drew);have HG:=kq9 hn hs hT a0 B0 y0 hg1 hg2 her;clear hn hs hT au a0 ar B0 y0 hg1 hg2 her;go_enter func18,ntmps18;go_wp2_with fail;refine Jc HG.a ?_;go_wp2_with fail;have HU:=kq3 HG.g HG.h HG.i;refine fh I (.take 0 (.take 1 (.take 2 (.take 3 (.take 4 (.take 5 (.take 6 (.take 7 (.take 8 (.take 9 (.take 10 (.two 11 15 (.take 12 (.take 13 (.take 14 (.go 15 (.go 16 (.go 17 .nil)))))) (.go 11 (.take 12 (.take 13 (.take 14 (.go 16 (.go 17 .nil)))))))))))))))))) (by kernel_rfl) (by kernel_rfl) ap ?_
 iterate 11
  refine' pT ?_ ?_;rotate_left
  ·intro x;go_simp
   try rfl
  try simp only[pu]
 refine gL ?h1 ?h2
 case' h1=>
  refine pD fun K hK=>?_;go_simp;refine b8 (HG.b _ HG.e.drew) fun w2 hb2=>?_;have T2:=FF.below (w:=(w.alloc (.cells #[.string ⟨#[]⟩,.string ⟨#[]⟩] 40)).drew) (HG.c.below HG.e.drew) hb2;have y2:=(hb2.block w.heap.size (by show w.heap.size<(w.alloc _).heap.size;simp)).trans HG.f;have B2:=kq3 T2 (HG.e.drew.trans (hb2.mono HG.e.drew.size)) y2;clear T2 hb2 y2
  try go_simp
  refine hK.out _ _ (HG.d _ B2.a) ?_;clear hK K
  try simp only[pu]
  iterate 3
   refine' pT ?_ ?_;rotate_left
   ·intro x;go_simp
    try rfl
   try simp only[pu]
  refine pD fun K hK=>?_;go_simp;have A2:=(aa w2.heap.size w2).alloc Ih (.cells #[Xu 0,Xu 0] 104);have TA:=B2.a.below A2;have BA:=B2.b.trans (A2.mono B2.b.size);have yA:=(A2.block w.heap.size (gl B2.c)).trans B2.c;have qA:=heap_alloc_new w2 (.cells #[Xu 0,Xu 0] 104);have a2:w.heap.size<w2.heap.size:=(gl B2.c);clear A2 B2;generalize w2.alloc (.cells #[Xu 0,Xu 0] 104)=W at*;generalize w2.heap.size=b6 at*
  try go_simp
  refine hK.out _ _ (HG.d _ TA) ?_;clear hK K
  try simp only[pu]
  obtain⟨c0,c1⟩:=Fp qA;obtain⟨f0,f1⟩:=ef qA;have HA:=kq5 TA BA yA qA a2;clear TA BA yA qA a2;refine pD fun K hK=>?_;go_simp;have qB:=ew HA.d (Xu k0) (Xu k1);have BB:=eT HA.b (Nat.le_of_lt HA.e) (Xu k0) (Xu k1);have yB:=(fA (Nat.ne_of_lt HA.e) (Xu k0) (Xu k1)).trans HA.c;have TB:FF ((W.setCell ⟨b6,0,none⟩ (Xu k0)).setCell ⟨b6,1,none⟩ (Xu k1)) px ps ty kv kind td root:=HG.c.below BB;have a3:=HA.e;clear c0 c1 f0 f1 HA;generalize ((W.setCell ⟨b6,0,none⟩ (Xu k0)).setCell ⟨b6,1,none⟩ (Xu k1))=W7 at*
  try go_simp
  refine hK.out _ _ (HG.d _ TB) ?_;clear hK K
  try simp only[pu]
  refine pD fun K hK=>?_;go_simp
  try go_simp
  refine hK.out _ _ (HG.d _ TB) ?_;clear hK K
  try simp only[pu]
  refine eP ?_;have H7:=kq5 TB BB yB qB a3;clear TB BB yB qB a3;clear w2
 case' h2=>
  refine pD fun K hK=>?_;go_simp;have A2:=(aa (w.alloc (.cells #[.string ⟨#[]⟩,.string ⟨#[]⟩] 40)).heap.size (w.alloc (.cells #[.string ⟨#[]⟩,.string ⟨#[]⟩] 40))).alloc Ih (.cells #[Xu 0,Xu 0] 104);have BA:=(HG.e.trans (A2.mono HG.e.size)).drew;have qA:((w.alloc (.cells #[.string ⟨#[]⟩,.string ⟨#[]⟩] 40)).alloc (.cells #[Xu 0,Xu 0] 104)).drew.heap[(w.alloc (.cells #[.string ⟨#[]⟩,.string ⟨#[]⟩] 40)).heap.size]?=_:=heap_alloc_new (w.alloc (.cells #[.string ⟨#[]⟩,.string ⟨#[]⟩] 40)) (.cells #[Xu 0,Xu 0] 104);have yA:((w.alloc (.cells #[.string ⟨#[]⟩,.string ⟨#[]⟩] 40)).alloc (.cells #[Xu 0,Xu 0] 104)).drew.heap[w.heap.size]?=_:=(A2.block w.heap.size (by simp)).trans HG.f;have TA:=HG.c.below BA;simp only[World.size_alloc] at qA;clear A2;generalize ((w.alloc (.cells #[.string ⟨#[]⟩,.string ⟨#[]⟩] 40)).alloc (.cells #[Xu 0,Xu 0] 104)).drew=w1 at*
  try go_simp
  refine hK.out _ _ (HG.d _ TA) ?_;clear hK K
  try simp only[pu]
  have an:=kq4 TA BA yA qA;clear TA BA yA qA;refine pD fun K hK=>?_;go_simp;refine b8 (HG.b _ an.b) fun W hb2=>?_;have TA:=an.a.below hb2;have BA:=an.b.trans (hb2.mono an.b.size);have yA:=(hb2.block w.heap.size (gl an.c)).trans an.c;have qA:=(hb2.block (w.heap.size+1) (gl an.d)).trans an.d;have a2:w.heap.size<w.heap.size+1:=by omega
  clear hb2 an;generalize w.heap.size+1=b6 at*
  try go_simp
  refine hK.out _ _ (HG.d _ TA) ?_;clear hK K
  try simp only[pu]
  iterate 3
   refine' pT ?_ ?_;rotate_left
   ·intro x;go_simp
    try rfl
   try simp only[pu]
  obtain⟨c0,c1⟩:=Fp qA;obtain⟨f0,f1⟩:=ef qA;have HA:=kq5 TA BA yA qA a2;clear TA BA yA qA a2;refine pD fun K hK=>?_;go_simp;have qB:=ew HA.d (Xu k0) (Xu k1);have BB:=eT HA.b (Nat.le_of_lt HA.e) (Xu k0) (Xu k1);have yB:=(fA (Nat.ne_of_lt HA.e) (Xu k0) (Xu k1)).trans HA.c;have TB:FF ((W.setCell ⟨b6,0,none⟩ (Xu k0)).setCell ⟨b6,1,none⟩ (Xu k1)) px ps ty kv kind td root:=HG.c.below BB;have a3:=HA.e;clear c0 c1 f0 f1 HA;generalize ((W.setCell ⟨b6,0,none⟩ (Xu k0)).setCell ⟨b6,1,none⟩ (Xu k1))=W7 at*
  try go_simp
  refine hK.out _ _ (HG.d _ TB) ?_;clear hK K
  try simp only[pu]
  refine pD fun K hK=>?_;go_simp
  try go_simp
  refine hK.out _ _ (HG.d _ TB) ?_;clear hK K
  try simp only[pu]
  refine eP ?_;have H7:=kq5 TB BB yB qB a3;clear TB BB yB qB a3;clear w1
 all_goals
  rcases HU.c with rfl | ⟨rfl,e⟩
  ·have HT:=If HG.c;clear ap HG m0 m1 m2 m3 m4 I;obtain⟨I,au,a0⟩:=lB (fun w'=>FF w' px ps ty kv kind td root) (fun w'=>w'.heap[b6]?=some (Xe k0 k1));have ar:=fun x:Fq I=>(au _ x.ok).1;have a5:=fun x:Fq I=>(au _ x.ok).2;simp only[FF] at ar;obtain⟨m0,m1,m2,m3,m4⟩:=iK ar;obtain⟨n0,n1⟩:=fw a5;have HI:=If a0;clear au a0 ar a5;have ad:=H7;clear H7;have ap:I W7.drew:=HI.out _ ad.out.1 ad.out.2.2.2.1;go_wp2_with fail;refine fh I (.take 0 (.take 1 (.take 2 (.take 3 (.take 4 (.take 5 (.go 6 (.take 7 (.take 8 (.take 9 (.take 10 (.go 11 .nil)))))))))))) (by kernel_rfl) (by kernel_rfl) ap ?_;clear ap
   iterate 6
    refine' pT ?_ ?_;rotate_left
    ·intro x;go_simp
     try rfl
    try simp only[pu]
   refine pD fun K hK=>?_;go_simp;refine b8 (HU.a (by trivial) _ ad.out.2.1.drew) fun w8 hb=>?_;have T2:=FF.below (w:=W7.drew) (ad.out.1.below (aa _ _).drew) hb;have B2:=ad.out.2.1.drew.trans (hb.mono ad.out.2.1.drew.size);have y2:=(hb.block w.heap.size (gl ad.out.2.2.1)).trans ad.out.2.2.1;have q2:=(hb.block b6 (gl ad.out.2.2.2.1)).trans ad.out.2.2.2.1;clear hb;obtain⟨c0,c1⟩:=Fp y2;obtain⟨f0,f1⟩:=ef y2;have HX:=kq5 T2 B2 y2 q2 ad.out.2.2.2.2;clear T2 B2 y2 q2
   try go_simp
   refine hK.out _ _ (HI.out _ HX.a HX.d) ?_;clear hK K
   try simp only[pu]
   iterate 4
    refine' pT ?_ ?_;rotate_left
    ·intro x;go_simp
     try rfl
    try simp only[pu]
   refine pD fun K hK=>?_;go_simp;have y3:=heap_setCell HX.c (v:=SV p1) (i:=0);have B3:=HX.b.setCell (p:=⟨w.heap.size,0,none⟩) Ih (SV p1);have q3:=(FB (w:=w8) (b:=w.heap.size) (i:=0) (v:=SV p1) (Nat.ne_of_gt HX.e)).trans HX.d;have T3:FF (w8.setCell ⟨w.heap.size,0,none⟩ (SV p1)) px ps ty kv kind td root:=HT.out.below B3;have a1:=HX.e;clear c0 c1 f0 f1 HX;generalize w8.setCell ⟨w.heap.size,0,none⟩ (SV p1)=w8s at*
   try go_simp
   refine hK.out _ _ (HI.out _ T3 q3) ?_;clear hK K
   try simp only[pu]
   refine eP ?_;have ai:=kq5 T3 B3 y3 q3 a1;clear T3 B3 y3 q3 a1;have ap:I w8s.drew:=HI.out _ ai.a ai.d;go_wp2_with fail;refine fh I (.take 0 (.take 1 (.take 2 (.take 3 (.take 4 (.take 5 (.go 6 (.take 7 (.take 8 (.take 9 (.take 10 (.go 11 .nil)))))))))))) (by kernel_rfl) (by kernel_rfl) ap ?_;clear ap
   iterate 6
    refine' pT ?_ ?_;rotate_left
    ·intro x;go_simp
     try rfl
    try simp only[pu]
   refine pD fun K hK=>?_;go_simp;refine b8 (HU.b (by trivial) _ ai.b.drew) fun w9 hb=>?_;have T2:=FF.below (w:=w8s.drew) (ai.a.below (aa _ _).drew) hb;have B2:=ai.b.drew.trans (hb.mono ai.b.drew.size);have y2:=(hb.block w.heap.size (gl ai.c)).trans ai.c;have q2:=(hb.block b6 (gl ai.d)).trans ai.d;clear hb;obtain⟨c0,c1⟩:=Fp y2;obtain⟨f0,f1⟩:=ef y2;have HX:=kq5 T2 B2 y2 q2 ai.e;clear T2 B2 y2 q2
   try go_simp
   refine hK.out _ _ (HI.out _ HX.a HX.d) ?_;clear hK K
   try simp only[pu]
   iterate 4
    refine' pT ?_ ?_;rotate_left
    ·intro x;go_simp
     try rfl
    try simp only[pu]
   refine pD fun K hK=>?_;go_simp;have y3:=heap_setCell HX.c (v:=SV p2) (i:=1);have B3:=HX.b.setCell (p:=⟨w.heap.size,1,none⟩) Ih (SV p2);have q3:=(FB (w:=w9) (b:=w.heap.size) (i:=1) (v:=SV p2) (Nat.ne_of_gt HX.e)).trans HX.d;have T3:FF (w9.setCell ⟨w.heap.size,1,none⟩ (SV p2)) px ps ty kv kind td root:=HT.out.below B3;have a1:=HX.e;clear c0 c1 f0 f1 HX;generalize w9.setCell ⟨w.heap.size,1,none⟩ (SV p2)=w9s at*
   try go_simp
   refine hK.out _ _ (HI.out _ T3 q3) ?_;clear hK K
   try simp only[pu]
   refine eP ?_;have a4:=kq5 T3 B3 y3 q3 a1;clear T3 B3 y3 q3 a1;have y:=a4.c;have y':w9s.heap[w.heap.size]?=some (.cells #[SV p1,SV p2] 40):=y;obtain⟨c0,c1⟩:=Fp y';obtain⟨f0,f1⟩:=ef y';have q5:=ew y' (SV p1) (SV p2);have B5:=eT a4.b Ih (SV p1) (SV p2);have HB:=kq2 q5 B5;clear y y' q5 B5;go_wp2_with fail;obtain⟨q5,B5⟩:=HB.out;generalize ((w9s.setCell ⟨w.heap.size,0,none⟩ (SV p1)).setCell ⟨w.heap.size,1,none⟩ (SV p2))=wF at*;obtain⟨e0,e1⟩:=Fp q5;exact bodyPost_ret (v:=.tuple #[.agg #[SV p1,SV p2],Xi 0]) (by simp[results,f18,go_sem,e0,e1]) rfl ⟨rfl,B5⟩
  ·obtain⟨rfl,rfl⟩:=Prod.mk.inj e;clear HU;have y:=H7.c;obtain⟨c0,c1⟩:=Fp y;obtain⟨f0,f1⟩:=ef y;have q5:=ew y (.string ⟨#[]⟩) (.string ⟨#[]⟩);have B5:=eT H7.b Ih (.string ⟨#[]⟩) (.string ⟨#[]⟩);have HB:=kq2 q5 B5;clear y q5 B5;go_wp2_with fail;obtain⟨q5,B5⟩:=HB.out;generalize ((W7.setCell ⟨w.heap.size,0,none⟩ (.string ⟨#[]⟩)).setCell ⟨w.heap.size,1,none⟩ (.string ⟨#[]⟩))=wF at*;obtain⟨e0,e1⟩:=Fp q5;exact bodyPost_ret (v:=.tuple #[.agg #[.string ⟨#[]⟩,.string ⟨#[]⟩],Xi 2]) (by simp[results,f18,go_sem,e0,e1]) rfl ⟨rfl,B5⟩
theorem nu{px ps kind td root:Nat}(hT:FF w px ps ty kv kind td root)(k:List UInt8)(k0 k1:Nat)(is:Bool)(t:List UInt8)(e1:Nat)(ht:is=false->t=[])(hg:is=true->∀W,Below w.heap.size w W->Cb 51 #[PV ps,Xu k1] W (.tuple #[SV t,Xi e1]))(hme:∀(f:Nat) (v:Value) (w:World),(method (f+1) ty v "loft/backend.find").run prog w=.ok (fm,v) w)(hen:∀(args:Array Value) (w:World),(callFunc fm args).run prog w=.ok (.enter fm args) w)(hs:∀W,Below w.heap.size w W->Ct fm #[kv,Xu root,SV k] W fun e w'=>e=.returned (.tuple #[.agg #[Xu k0,Xu k1],.bool is])/\Below W.heap.size W w'):
 Cb 17 #[PV px,SV k] w (.tuple #[SV t,.bool is]):=by
 have B0:=aa w.heap.size w;have hn:=kw (hT.below B0);obtain⟨I,ap,ai⟩:=kN px ps ty kv kind td root;have an:=fun x:Fq I=>ap _ x.ok;simp only[FF] at an;obtain⟨m0,m1,m2,m3,m4⟩:=iK an;have ar:I w.drew:=ai _ (hT.below B0.drew);have a4:=True.intro;have HI:=If ai;have HG:=kq4 hn hs hT B0;have HU:=kq2 hg ht;clear hn hs hT ap ai an B0 hg ht;go_enter func17,ntmps17;go_wp2_with fail;refine Jc HG.a ?_;go_wp2_with fail;refine fh I (.take 0 (.take 1 (.take 2 (.take 3 (.take 4 (.take 5 (.take 6 (.take 7 (.take 8 (.take 9 (.take 10 (.two 11 15 (.take 12 (.take 13 (.take 14 (.go 15 (.go 16 (.go 17 .nil)))))) (.go 11 (.take 12 (.take 13 (.take 14 (.go 16 (.go 17 .nil)))))))))))))))))) (by kernel_rfl) (by kernel_rfl) ar ?_
 iterate 11
  refine' pT ?_ ?_;rotate_left
  ·intro x;go_simp
   try rfl
  try simp only[pu]
 refine gL ?h1 ?h2
 case' h1=>
  refine pD fun K hK=>?_;go_simp;refine b8 (HG.b _ HG.d.drew) fun w2 hb2=>?_;have T2:=FF.below (w:=w.drew) (HG.c.below HG.d.drew) hb2;have a1:=HG.d.drew.trans (hb2.mono HG.d.drew.size);have B2:=kq2 T2 a1;clear T2 hb2 a1
  try go_simp
  refine hK.out _ _ (HI.out _ B2.a) ?_;clear hK K
  try simp only[pu]
  iterate 3
   refine' pT ?_ ?_;rotate_left
   ·intro x;go_simp
    try rfl
   try simp only[pu]
  refine pD fun K hK=>?_;go_simp;have A2:=(aa w2.heap.size w2).alloc Ih (.cells #[Xu 0,Xu 0] 104);have TA:=B2.a.below A2;have BA:=B2.b.trans (A2.mono B2.b.size);have qA:=heap_alloc_new w2 (.cells #[Xu 0,Xu 0] 104);have au:w.heap.size<=w2.heap.size:=B2.b.size;clear A2 B2;generalize w2.alloc (.cells #[Xu 0,Xu 0] 104)=W at*;generalize w2.heap.size=b6 at*
  try go_simp
  refine hK.out _ _ (HI.out _ TA) ?_;clear hK K
  try simp only[pu]
  obtain⟨c0,c1⟩:=Fp qA;obtain⟨f0,f1⟩:=ef qA;have HA:=kq4 TA BA qA au;clear TA BA qA au;refine pD fun K hK=>?_;go_simp;have qB:=ew HA.c (Xu k0) (Xu k1);have BB:=eT HA.b (HA.d) (Xu k0) (Xu k1);have TB:FF ((W.setCell ⟨b6,0,none⟩ (Xu k0)).setCell ⟨b6,1,none⟩ (Xu k1)) px ps ty kv kind td root:=HG.c.below BB;have a0:=HA.d;clear c0 c1 f0 f1 HA;generalize ((W.setCell ⟨b6,0,none⟩ (Xu k0)).setCell ⟨b6,1,none⟩ (Xu k1))=W7 at*
  try go_simp
  refine hK.out _ _ (HI.out _ TB) ?_;clear hK K
  try simp only[pu]
  refine pD fun K hK=>?_;go_simp
  try go_simp
  refine hK.out _ _ (HI.out _ TB) ?_;clear hK K
  try simp only[pu]
  refine eP ?_;have H7:=kq4 TB BB qB a0;clear TB BB qB a0;clear w2
 case' h2=>
  refine pD fun K hK=>?_;go_simp;have A2:=(aa w.heap.size w).alloc Ih (.cells #[Xu 0,Xu 0] 104);have BA:=(HG.d.trans (A2.mono HG.d.size)).drew;have qA:(w.alloc (.cells #[Xu 0,Xu 0] 104)).drew.heap[w.heap.size]?=_:=heap_alloc_new w (.cells #[Xu 0,Xu 0] 104);have TA:=HG.c.below BA;clear A2;generalize (w.alloc (.cells #[Xu 0,Xu 0] 104)).drew=w1 at*
  try go_simp
  refine hK.out _ _ (HI.out _ TA) ?_;clear hK K
  try simp only[pu]
  have ad:=kq3 TA BA qA;clear TA BA qA;refine pD fun K hK=>?_;go_simp;refine b8 (HG.b _ ad.b) fun W hb2=>?_;have TA:=ad.a.below hb2;have BA:=ad.b.trans (hb2.mono ad.b.size);have qA:=(hb2.block w.heap.size (gl ad.c)).trans ad.c;obtain⟨b6,a2⟩:=Ii w.heap.size;have au:w.heap.size<=b6:=by omega
  rw[a2] at qA;simp only[a2];clear hb2 ad
  try go_simp
  refine hK.out _ _ (HI.out _ TA) ?_;clear hK K
  try simp only[pu]
  iterate 3
   refine' pT ?_ ?_;rotate_left
   ·intro x;go_simp
    try rfl
   try simp only[pu]
  obtain⟨c0,c1⟩:=Fp qA;obtain⟨f0,f1⟩:=ef qA;have HA:=kq4 TA BA qA au;clear TA BA qA au;refine pD fun K hK=>?_;go_simp;have qB:=ew HA.c (Xu k0) (Xu k1);have BB:=eT HA.b (HA.d) (Xu k0) (Xu k1);have TB:FF ((W.setCell ⟨b6,0,none⟩ (Xu k0)).setCell ⟨b6,1,none⟩ (Xu k1)) px ps ty kv kind td root:=HG.c.below BB;have a0:=HA.d;clear c0 c1 f0 f1 HA;generalize ((W.setCell ⟨b6,0,none⟩ (Xu k0)).setCell ⟨b6,1,none⟩ (Xu k1))=W7 at*
  try go_simp
  refine hK.out _ _ (HI.out _ TB) ?_;clear hK K
  try simp only[pu]
  refine pD fun K hK=>?_;go_simp
  try go_simp
  refine hK.out _ _ (HI.out _ TB) ?_;clear hK K
  try simp only[pu]
  refine eP ?_;have H7:=kq4 TB BB qB a0;clear TB BB qB a0;clear w1
 all_goals
  cases is
  ·have ht:=HU.b rfl;clear HU;subst ht;go_wp2_with fail;go_ret2;exact⟨rfl,H7.b⟩
  ·clear HI ar a4 m0 m1 m2 m3 m4 I;obtain⟨I,ap,ai⟩:=lB (fun w'=>FF w' px ps ty kv kind td root) (fun w'=>w'.heap[b6]?=some (Xe k0 k1));have an:=fun x:Fq I=>(ap _ x.ok).1;have a3:=fun x:Fq I=>(ap _ x.ok).2;simp only[FF] at an;obtain⟨m0,m1,m2,m3,m4⟩:=iK an;obtain⟨n0,n1⟩:=fw a3;have HI:=If ai;have ar:I W7.drew:=ai _ H7.a H7.c;clear ap ai an a3;go_wp2_with fail;refine fh I (.take 0 (.take 1 (.take 2 (.take 3 (.take 4 (.take 5 (.go 6 (.take 7 (.take 8 (.take 9 (.go 10 (.go 11 .nil)))))))))))) (by kernel_rfl) (by kernel_rfl) ar ?_;clear ar
   iterate 6
    refine' pT ?_ ?_;rotate_left
    ·intro x;go_simp
     try rfl
    try simp only[pu]
   refine pD fun K hK=>?_;go_simp;refine b8 (HU.a (by trivial) _ H7.b.drew) fun w8 hb=>?_;have T2:=FF.below (w:=W7.drew) (H7.a.below (aa _ _).drew) hb;have q2:=(hb.block b6 (gl H7.c)).trans H7.c;have HX:=kq3 T2 q2 (H7.b.drew.trans (hb.mono H7.b.drew.size));clear hb T2 q2
   try go_simp
   refine hK.out _ _ (HI.out _ HX.a HX.b) ?_;clear hK K
   try simp only[pu]
   iterate 3
    refine' pT ?_ ?_;rotate_left
    ·intro x;go_simp
     try rfl
    try simp only[pu]
   refine pD fun K hK=>?_;go_simp
   try go_simp
   refine hK.out _ _ (HI.out _ HX.a HX.b) ?_;clear hK K
   try simp only[pu]
   refine pD fun K hK=>?_;go_simp
   try go_simp
   refine hK.out _ _ (HI.out _ HX.a HX.b) ?_;clear hK K
   try simp only[pu]
   refine eP ?_;go_wp2_with fail;go_ret2;exact⟨rfl,HX.c⟩
theorem La(t:Hs)(hh:Nat):(t.close hh).2.most=t.most/\(t.close hh).2.last=t.last:=by
 unfold Hs.close;split<;>exact⟨rfl,rfl⟩
theorem sE(h:Ig w ps S Y)(hi:Fv S)(hh:Nat)(hl:hh<2^64):
 Ct 78 #[PV ps,Xu hh] w fun e w'=>e=.returned (Xi ((S.drop hh).1:Nat))/\Ig w' ps (S.drop hh).2 Y/\Fo Y w w':=by
 have ad:=sD h hi hh hl;have a1:=hi.addr_le hh
 rcases S.at_cases hh with⟨addr,n,h1,h2,_⟩ | ⟨h1,h2⟩
 ·have hR:S.drop hh=((S.t.close hh).1,⟨(iM S.a addr).2,(S.t.close hh).2⟩):=by unfold St.drop;rw[h1];rfl
  rw[hR];rw[h1] at ad a1;simp only at ad a1;have HG:=kq2 ad h;clear ad hR h1 h2 h;go_enter func78,ntmps78;go_wp2_with fail;refine Jc HG.a ?_;have hS:=HG.b;have a0:=Fo.refl Y w;obtain⟨pa,pm,ph,pt,v,hS⟩:=hS;obtain⟨_,_,_,c3,c4⟩:=hS.cells;have H1:=kq2 hS a0;clear hS a0;go_wp2_with fail;refine(Bu H1.a.heap addr (by omega)).mono ?_;rintro e w2 ⟨rfl,ar,an⟩;have ai:=H1.a.arena ar an;obtain⟨_,_,_,_,a3⟩:=ai.cells;have H2:=kq2 ai (H1.b.trans (an.mono fun k hk=>ab hk));clear c3 c4 ar an ai;go_wp2_with fail;refine(EI H2.a.tab hh hl (fun k=>k<w2.heap.size/\k≠pt/\v.ownBlock≠some k) (fun b hb e=>hb.2.2 e.symm)).mono ?_;rintro e w3 ⟨rfl,a2,ap⟩;have au:=H2.a.table a2 (La _ _) _ (fun k h1 h2 h3=>⟨h1,h2,h3⟩) ap (fun b hb=>hb.2.2);have H3:=kq2 au (H2.b.trans (ap.mono fun k hk=>⟨H2.a.yl k hk,(H2.a.off k (ab hk)).1,(H2.a.off k (ab hk)).2⟩));clear a2 ap au;go_wp2_with fail;go_ret;exact⟨rfl,⟨_,_,_,_,_,H3.a⟩,H3.b⟩
 ·have hR:S.drop hh=(7,S):=by unfold St.drop;rw[h1];rfl
  rw[hR];rw[h1] at ad;have HG:=kq2 ad h;clear ad hR h1 h2 h;go_enter func78,ntmps78;go_wp2_with fail;refine Jc HG.a ?_;have H1:=kq2 HG.b (Fo.refl Y w);go_wp2_with fail;go_ret;exact⟨rfl,H1.out⟩
theorem Di(h:Ig w ps S Y)(hi:Fv S)(hh:Nat)(hl:hh<2^64):
 Ct 145 #[PV ps,Xu hh] w fun e w'=>e=.returned (Xi ((jr S hh).1:Nat))/\Ig w' ps (jr S hh).2 Y/\Fo Y w w':=by
 by_cases ha:fZ S hh=0
 ·have has:=oG h hi hh hl;have ad:=sE h hi hh hl;have hR:jr S hh=S.drop hh:=by unfold jr;rw[ha];rfl
  rw[hR];rw[ha] at has;have HG:=kq2 has ad;clear has ad hR ha h hi;go_enter func145,ntmps145;go_wp2_with fail;refine Jc HG.a ?_;go_wp2_with fail;refine b8 HG.b fun w1 hb=>?_;have H1:=If hb;clear hb;go_wp2_with fail;go_ret;exact⟨rfl,H1.out⟩
 ·have hR:jr S hh=(fZ S hh,S):=by unfold jr;split<;>simp_all
  rw[hR];refine Jc (vT h hi hh hl ha) ?_;exact⟨rfl,h,Fo.refl _ _⟩
theorem zi{S S':St}(h:Ig w ps S Y)(hi:Fv S)(kind o:Nat)(hl:o<2^64)(hd:jr S o=(0,S')):
 Ct 309 #[fE ps kind,Xu o] w fun e w'=>e=.returned (.tuple #[Id (getNode S o).1.key (getNode S o).1.val,.bool true])/\Ig w' ps S' Y/\Fo Y w w':=by
 have B1:=(aa w.heap.size w).alloc Ih (Xg ps kind);have q1:=heap_alloc_new w (Xg ps kind);have B0:=B1.alloc B1.size (.cells #[Xu 0,Xu 0] 104);have z1:=heap_alloc_new (w.alloc (Xg ps kind)) (.cells #[Xu 0,Xu 0] 104);have q1:=(((aa (w.alloc (Xg ps kind)).heap.size (w.alloc (Xg ps kind))).alloc Ih (.cells #[Xu 0,Xu 0] 104)).block w.heap.size (by simp)).trans q1;simp only[World.size_alloc] at z1;have ar:=my (h.below B0) hi kind o hl;have ap:=fun W Z (hW:Ig W ps S Z)=>Di hW hi o hl;rw[hd] at ap;simp only[Id,fE] at ar⊢;generalize (getNode S o).1.key=a0 at*;generalize (getNode S o).1.val=a1 at*;have HG:=kq6 ar ap B0 z1 q1 h;have a2:=h.yl;clear ar ap B0 B1 h hi z1 q1 hd;go_enter func309,ntmps309;go_wp2_with fail;refine b8 HG.a fun w1 hb1=>?_;have ad:=hb1.alloc hb1.size (Xe a0 a1);have y1:=heap_alloc_new w1 (Xe a0 a1);have z1:=(ad.block (w.heap.size+1) (by simp)).trans HG.d;have q1:=(ad.block w.heap.size (by simp;omega)).trans HG.e;have B2:=HG.c.trans (ad.mono HG.c.size);have S2:=HG.f.wide B2;have sz:w.heap.size+2<=w1.heap.size:=by have:=hb1.size;simp at this;omega
 have sw:(w1.alloc (Xe a0 a1)).heap.size=w1.heap.size+1:=by simp
 go_wp2_with fail;rw[sw] at S2;generalize w1.alloc (Xe a0 a1)=W at*;obtain⟨I,ai,an⟩:∃I:World->Prop,(∀w',I w'->w'.heap[w.heap.size]?=some (Xg ps kind)/\w'.heap[w1.heap.size]?=some (Xe a0 a1))/\(∀w',w'.heap[w.heap.size]?=some (Xg ps kind)->w'.heap[w1.heap.size]?=some (Xe a0 a1)->I w'):=⟨fun w'=>w'.heap[w.heap.size]?=some (Xg ps kind)/\w'.heap[w1.heap.size]?=some (Xe a0 a1),fun _ h=>h,fun _ a b=>⟨a,b⟩⟩;have au:=fun x:Fq I=>(ai _ x.ok).1;have a3:=fun x:Fq I=>(ai _ x.ok).2;obtain⟨a7,a8⟩:=fw au;obtain⟨a9,a'⟩:=fw a3;have a6:w1.heap.size≠w.heap.size+1:=by omega
 have HW:=kq5 B2 z1 q1 y1 S2;have HI:=If an;have a5:I W.drew:=an _ q1 y1;clear B2 z1 q1 y1 hb1 ad au a3 ai an S2;refine fh I (.take 0 (.take 1 (.take 2 (.take 3 (.go 4 (.take 5 (.go 6 (.go 7 .nil)))))))) (by kernel_rfl) (by kernel_rfl) a5 ?_
 iterate 4
  refine' pT ?_ ?_;rotate_left
  ·intro x;go_simp
   try rfl
  try simp only[pu]
 refine pD fun K hK=>?_;go_simp;refine(HG.b _ _ (HW.e.drewN 1)).mono ?_;rintro e w3 ⟨rfl,s3,k3⟩;have e3:=fun k (hk:w.heap.size<=k/\k<w1.heap.size+1)=>k3.block k (ae hk);have q3:=(e3 w.heap.size ⟨Nat.le_refl _,by omega⟩).trans HW.c;have y3:=(e3 w1.heap.size ⟨by omega,by omega⟩).trans HW.d;have z3:=(e3 (w.heap.size+1) ⟨by omega,by omega⟩).trans HW.b;have a4:Fo Y w w3:=(Fo.of_below HW.a a2).trans ((Fo.drewN Y W 1).trans (k3.mono fun k hk=>ab hk));have H3:=kq5 s3 a4 q3 y3 z3;clear e3 s3 k3 a4 q3 y3 z3
 try go_simp
 refine hK.out _ _ (HI.out _ H3.c H3.d) ?_;clear hK K
 try simp only[pu]
 refine' pT ?_ ?_;rotate_left
 ·intro x;go_simp
  try rfl
 try simp only[pu]
 have z3:=H3.e;obtain⟨e0,e1⟩:=Fp z3;obtain⟨f0,f1⟩:=ef z3;clear z3;refine pD fun K hK=>?_;go_simp;have q4:((w3.setCell ⟨(w.heap.size+1),0,none⟩ (Xu a0)).setCell ⟨(w.heap.size+1),1,none⟩ (Xu a1)).heap[w.heap.size+1]?=_:=ew H3.e (Xu a0) (Xu a1);have o4:∀k,k≠w.heap.size+1->((w3.setCell ⟨(w.heap.size+1),0,none⟩ (Xu a0)).setCell ⟨(w.heap.size+1),1,none⟩ (Xu a1)).heap[k]?=w3.heap[k]?:=fun k hk=>fA hk _ _;have s4:Ig ((w3.setCell ⟨(w.heap.size+1),0,none⟩ (Xu a0)).setCell ⟨(w.heap.size+1),1,none⟩ (Xu a1)) ps S' Y:=(H3.a.write (b:=w.heap.size+1) (ae ⟨by omega,by omega⟩) H3.e ⟨by decide,by decide⟩ (by simp) (by simp) fun k _ hk=>o4 k hk).mono fun k hk=>ab hk;have k4:Fo Y w ((w3.setCell ⟨(w.heap.size+1),0,none⟩ (Xu a0)).setCell ⟨(w.heap.size+1),1,none⟩ (Xu a1)):=H3.b.trans ⟨rfl,rfl,rfl,by simp,fun k hk=>o4 k (by have:=a2 k hk;omega)⟩;have r4:=(o4 w.heap.size (by omega)).trans H3.c;have y4:=(o4 w1.heap.size a6).trans H3.d;have H4:=kq5 s4 k4 q4 r4 y4;clear o4 s4 k4 q4 r4 y4 e0 e1 f0 f1;generalize ((w3.setCell ⟨(w.heap.size+1),0,none⟩ (Xu a0)).setCell ⟨(w.heap.size+1),1,none⟩ (Xu a1))=W4 at*
 try go_simp
 refine hK.out _ _ (HI.out _ H4.d H4.e) ?_;clear hK K
 try simp only[pu]
 refine pD fun K hK=>?_;go_simp
 try go_simp
 refine hK.out _ _ (HI.out _ H4.d H4.e) ?_;clear hK K
 try simp only[pu]
 refine eP ?_;have q5:=H4.c;obtain⟨g0,g1⟩:=Fp q5;clear q5;go_wp2_with fail;exact bodyPost_ret (v:=.tuple #[.agg #[Xu a0,Xu a1],.bool true]) (by simp[results,f309,go_sem,g0,g1]) rfl ⟨rfl,H4.a,H4.b⟩
def Lf.binRepM(jn:Jn)(S:St)(root k v:Nat):Option ((Nat×Nat×Nat)×St):=
 if(ga S ⟨k,v,0,0,0,1⟩).1.2≠0 then none
 else match insertOkM jn (ga S ⟨k,v,0,0,0,1⟩).2 root (ga S ⟨k,v,0,0,0,1⟩).1.1 with
  | none=>none
  | some ((now,o),S1)=>match jr S1 o with
   | (0,S2)=>some ((now,(getNode S1 o).1.key,(getNode S1 o).1.val),S2)
   | _=>none
theorem y9{jn:Jn}{S S':St}{root k v:Nat}{R:Nat×Nat×Nat}(h:binRepM jn S root k v=some (R,S')):
 ∃o S1,(ga S ⟨k,v,0,0,0,1⟩).1.2=0/\insertOkM jn (ga S ⟨k,v,0,0,0,1⟩).2 root (ga S ⟨k,v,0,0,0,1⟩).1.1=some ((R.1,o),S1)/\jr S1 o=(0,S')/\R.2.1=(getNode S1 o).1.key/\R.2.2=(getNode S1 o).1.val:=by
 unfold binRepM at h
 split at h
 ·cases h
 ·rename_i h0
  split at h
  ·cases h
  ·rename_i now o S1 h1
   split at h
   ·rename_i S2 h2;have h:=Option.some.inj h
    injection h with e1 e2
    subst e1 e2;exact⟨o,S1,da.1 h0,h1,h2,rfl,rfl⟩
   ·cases h
theorem zd{S S':St}(h:Ig w ps S Y)(hm:iw S 6){j c:FuncId}{jn:Jn}(hk:jD kind j c jn)(root k v:Nat)(hl:root<2^64)(hkl:k<2^64)(hvl:v<2^64){R:Nat×Nat×Nat}(hx:binRepM jn S root k v=some (R,S'))(hi':Fv S'):
 Ct 301 #[fE ps kind,Xu root,Id k v] w fun e w'=>e=.returned (.tuple #[Xu R.1,Id R.2.1 R.2.2,.bool true,Xi 0])/\Ig w' ps S' Y/\Fo Y w w'/\Fv S'/\R.1<2^64:=by
 obtain⟨o,S2,h0,h1,h2,e1,e2⟩:=y9 hx;obtain⟨x,ik,iv⟩:=R;simp only at h1 e1 e2⊢;have ar:=vz hm ⟨k,v,0,0,0,1⟩;have a4:=KC h.tabwf ⟨k,v,0,0,0,1⟩;have ai:=fun W Z (hW:Ig W ps S Z)=>vU hW hm ⟨k,v,0,0,0,1⟩ ⟨hkl,hvl,by simp,by simp,by simp,by simp⟩;generalize ga S ⟨k,v,0,0,0,1⟩=M at*;obtain⟨⟨m,em⟩,S1⟩:=M;simp only at h0 h1 ar a4 ai;subst h0;have a3:=fun W Z (hW:Ig W ps S1 Z)=>In hW ar hk.joins hk.way root m hl a4 h1;have an:=fun W Z (hi2:Fv S2) (ho:o<2^64) (hW:Ig W ps S2 Z)=>zi hW hi2 kind o ho h2;rw[<-e1,<-e2] at an;simp only[fE,Id,eS] at ai an⊢;have B1:=(aa w.heap.size w).alloc Ih (Xg ps kind);have q1:=heap_alloc_new w (Xg ps kind);generalize a6:w.alloc (Xg ps kind)=w1 at*;have z1:w1.heap.size=w.heap.size+1:=by rw[<-a6];simp
 have A2:=(aa w1.heap.size w1).alloc Ih (Xe k v);have B2:=B1.alloc B1.size (Xe k v);have q2:=(A2.block w.heap.size (by omega)).trans q1;have z2:(w1.alloc (Xe k v)).heap.size=w.heap.size+2:=by simp[z1]
 generalize a':w1.alloc (Xe k v)=w2 at*;have A3:=(aa w2.heap.size w2).alloc Ih (.cells #[Xu 0,Xu 0] 104);have q3:=(A3.block w.heap.size (by omega)).trans q2;have B3:=B2.alloc B2.size (.cells #[Xu 0,Xu 0] 104);have y3:=heap_alloc_new w2 (.cells #[Xu 0,Xu 0] 104);rw[z2] at y3;have z3:(w2.alloc (.cells #[Xu 0,Xu 0] 104)).heap.size=w.heap.size+3:=by simp[z2]
 subst a' a6;have hY:=h.yl;have HG:=kq9 ai a3 an (h.wide B3) q3 y3 z3 B3 hY;clear ai a3 an h q1 q2 q3 y3 A2 A3 B1 B2 B3 z1 z2 z3 ar h1 h2 e1 e2 hm hk hY hx;go_enter func301,ntmps301;go_wp2_with fail;refine(HG.a _ _ HG.d).mono ?_;rintro e w4 ⟨rfl,h4,k4⟩;have q4:=(k4.block w.heap.size (ae ⟨Nat.le_refl _,by have:=HG.g;omega⟩)).trans HG.e;have y4:=(k4.block (w.heap.size+2) (ae ⟨by omega,by have:=HG.g;omega⟩)).trans HG.f;obtain⟨c0,c1⟩:=Fp q4;have H4:=kq4 h4 k4 q4 y4;clear h4 k4 q4 y4;go_wp2_with fail;obtain⟨hp,a2,a7,a5⟩:=HG.b _ _ H4.a;refine hp.mono ?_;rintro e w5 ⟨rfl,h5,k5⟩;have q5:=(k5.block w.heap.size (ae ⟨Nat.le_refl _,by have:=HG.g;omega⟩)).trans H4.c;have y5:=(k5.block (w.heap.size+2) (ae ⟨by omega,by have:=HG.g;omega⟩)).trans H4.d;obtain⟨d0,d1⟩:=Fp q5;have H5:=kq6 h5 (H4.b.trans k5) a2 a7 y5 a5;clear h5 k5 q5 y5 hp a2 a7 a5 c0 c1;go_wp2_with fail;refine(HG.c _ _ H5.c H5.f H5.a).mono ?_;rintro e w6 ⟨rfl,h6,au⟩;have y6:=(au.block (w.heap.size+2) (ae ⟨by omega,by have:=HG.g;omega⟩)).trans H5.e;obtain⟨e0,e1⟩:=Fp y6;obtain⟨f0,f1⟩:=ef y6;have q7:((w6.setCell ⟨(w.heap.size+2),0,none⟩ (Xu ik)).setCell ⟨(w.heap.size+2),1,none⟩ (Xu iv)).heap[w.heap.size+2]?=_:=ew y6 (Xu ik) (Xu iv);have o7:∀k,k≠w.heap.size+2->((w6.setCell ⟨(w.heap.size+2),0,none⟩ (Xu ik)).setCell ⟨(w.heap.size+2),1,none⟩ (Xu iv)).heap[k]?=w6.heap[k]?:=fun k hk=>fA hk _ _;have z7:((w6.setCell ⟨(w.heap.size+2),0,none⟩ (Xu ik)).setCell ⟨(w.heap.size+2),1,none⟩ (Xu iv)).heap.size=w6.heap.size:=by simp
 have s7:((w6.setCell ⟨(w.heap.size+2),0,none⟩ (Xu ik)).setCell ⟨(w.heap.size+2),1,none⟩ (Xu iv)).os=w6.os/\((w6.setCell ⟨(w.heap.size+2),0,none⟩ (Xu ik)).setCell ⟨(w.heap.size+2),1,none⟩ (Xu iv)).tape=w6.tape/\((w6.setCell ⟨(w.heap.size+2),0,none⟩ (Xu ik)).setCell ⟨(w.heap.size+2),1,none⟩ (Xu iv)).output=w6.output:=⟨rfl,rfl,rfl⟩;have ba:∀k,Y k->k<w.heap.size:=HG.i;have k6:=H5.b.trans au;have H6:=kq9 h6 k6 H5.c H5.d y6 q7 o7 z7 s7;clear y6 d0 d1 h6 k6 au o7 z7 s7 q7;go_wp2_with fail;generalize ((w6.setCell ⟨(w.heap.size+2),0,none⟩ (Xu ik)).setCell ⟨(w.heap.size+2),1,none⟩ (Xu iv))=w7 at*;have q7:=H6.f;obtain⟨I,a0,ap⟩:∃I:World->Prop,(∀w',I w'->w'.heap[w.heap.size+2]?=some (Xe ik iv))/\(∀w',w'.heap[w.heap.size+2]?=some (Xe ik iv)->I w'):=⟨fun w'=>w'.heap[w.heap.size+2]?=some (Xe ik iv),fun _ h=>h,fun _ a=>a⟩;have a8:=fun x:Fq I=>a0 _ x.ok;obtain⟨m0,m1⟩:=fw a8;obtain⟨g0,g1⟩:=Fp q7;obtain⟨h0,h1⟩:=ef q7;have HI:=If ap;have a9:I w7.drew:=ap _ q7;have HQ:=If q7;clear e0 e1 f0 f1 q7 a0 ap a8;refine nF I [(true,0),(true,1),(true,2),(true,3),(false,4),(false,5),(false,6),(false,7)] (by kernel_rfl) (by kernel_rfl) a9 ?_
 iterate 4
  refine' mT ?_ ?_;rotate_left
  ·intro x;go_simp
   try rfl
  try simp only[pu]
 refine mD fun K hK=>?_;go_simp
 try go_simp
 refine hK.out _ _ (HI.out _ HQ.out) ?_;clear hK K
 try simp only[pu]
 refine mD fun K hK=>?_;go_simp;have q8:((w7.setCell ⟨(w.heap.size+2),0,none⟩ (Xu ik)).setCell ⟨(w.heap.size+2),1,none⟩ (Xu iv)).drew.heap[w.heap.size+2]?=_:=ew HQ.out (Xu ik) (Xu iv);have o8:∀k,k≠w.heap.size+2->((w7.setCell ⟨(w.heap.size+2),0,none⟩ (Xu ik)).setCell ⟨(w.heap.size+2),1,none⟩ (Xu iv)).drew.heap[k]?=w7.heap[k]?:=fun k hk=>fA hk _ _;have z8:((w7.setCell ⟨(w.heap.size+2),0,none⟩ (Xu ik)).setCell ⟨(w.heap.size+2),1,none⟩ (Xu iv)).drew.heap.size=w7.heap.size:=by show ((w7.setCell ⟨(w.heap.size+2),0,none⟩ (Xu ik)).setCell ⟨(w.heap.size+2),1,none⟩ (Xu iv)).heap.size=_;simp
 have s8:((w7.setCell ⟨(w.heap.size+2),0,none⟩ (Xu ik)).setCell ⟨(w.heap.size+2),1,none⟩ (Xu iv)).drew.os=w7.os/\((w7.setCell ⟨(w.heap.size+2),0,none⟩ (Xu ik)).setCell ⟨(w.heap.size+2),1,none⟩ (Xu iv)).drew.tape=w7.tape/\((w7.setCell ⟨(w.heap.size+2),0,none⟩ (Xu ik)).setCell ⟨(w.heap.size+2),1,none⟩ (Xu iv)).drew.output=w7.output:=⟨rfl,rfl,rfl⟩;generalize ((w7.setCell ⟨(w.heap.size+2),0,none⟩ (Xu ik)).setCell ⟨(w.heap.size+2),1,none⟩ (Xu iv)).drew=w8 at*
 try go_simp
 refine hK.out _ _ (HI.out _ q8) ?_;clear hK K
 try simp only[pu]
 refine mD fun K hK=>?_;go_simp
 try go_simp
 refine hK.out _ _ (HI.out _ q8) ?_;clear hK K
 try simp only[pu]
 refine mD fun K hK=>?_;go_simp
 try go_simp
 refine hK.out _ _ (HI.out _ q8) ?_;clear hK K
 try simp only[pu]
 refine mX ?_;obtain⟨e0,e1⟩:=Fp q8;have a1:Ig w8 ps S' Y/\Fo Y w w8:=by
  exact qYdaa
 have HF:=If a1;clear a1 q8 o8 z8 s8 g0 g1 h0 h1 m0 m1;go_wp2_with fail;exact bodyPost_ret (v:=.tuple #[Xu x,.agg #[Xu ik,Xu iv],.bool true,Xi 0]) (by simp[results,f301,go_sem,e0,e1]) rfl ⟨rfl,HF.out.1,HF.out.2,hi',H6.d⟩
def Lf.treeRepM(jn:Jn)(S:St)(root:Nat)(a b:List UInt8):Option ((Nat×Nat×Nat)×St):=
 match itemsM S a b with
 | none=>none
 | some (p,S1)=>binRepM jn S1 root p.1 p.2
structure jC (w W:World) (px ps:Nat) (ty:TypeId) (kv:Value) (kind td root:Nat) (a b:List UInt8) (S:St) (Y:Nat->Prop) (q0 q1:Value):Prop where
 t:FF W px ps ty kv kind td root
 y:W.heap[w.heap.size]?=some (.cells #[SV a,SV b] 40)
 q:W.heap[w.heap.size+1]?=some (.cells #[q0,q1] 104)
 st:Ig W ps S (fun k=>Y k\/(w.heap.size<=k/\k<w.heap.size+2))
 k:Fo Y w W
theorem jC.drew{w W:World}{px ps kind td root:Nat}{a b:List UInt8}{q0 q1:Value}(h:jC w W px ps ty kv kind td root a b S Y q0 q1):jC w W.drew px ps ty kv kind td root a b S Y q0 q1:=
 ⟨h.t,h.y,h.q,h.st.below (aa _ _).drew,h.k.trans (Fo.drewN Y W 1)⟩
theorem jC.call{w W W':World}{px ps kind td root:Nat}{a b:List UInt8}{S S':St}{q0 q1:Value}(h:jC w W px ps ty kv kind td root a b S Y q0 q1)(hpx:Y px)(hs:Ig W' ps S' (fun k=>Y k\/(w.heap.size<=k/\k<w.heap.size+2)))(hk:Fo (fun k=>Y k\/(w.heap.size<=k/\k<w.heap.size+2)) W W'):jC w W' px ps ty kv kind td root a b S' Y q0 q1:=
 ⟨h.t.keep hk (ab hpx),(hk.block _ (ae ⟨by omega,by omega⟩)).trans h.y,(hk.block _ (ae ⟨by omega,by omega⟩)).trans h.q,hs,h.k.trans (hk.mono fun _ hk=>ab hk)⟩
theorem jC.write{w W W':World}{px ps kind td root:Nat}{a b:List UInt8}{q0 q1 r0 r1:Value}(h:jC w W px ps ty kv kind td root a b S Y q0 q1)(hpx:Y px)(hY:∀k,Y k->k<w.heap.size)(hz:W'.heap.size=W.heap.size)(ho:W'.os=W.os/\W'.tape=W.tape/\W'.output=W.output)(hw:∀k,k≠w.heap.size+1->W'.heap[k]?=W.heap[k]?)(hq:W'.heap[w.heap.size+1]?=some (.cells #[r0,r1] 104)):jC w W' px ps ty kv kind td root a b S Y r0 r1:=by
 have h1:=hY px hpx;refine⟨(hw px (by omega)).trans h.t,(hw _ (by omega)).trans h.y,hq,h.st.write (ae ⟨by omega,by omega⟩) h.q ⟨by decide,by decide⟩ (by simp) (by omega) fun k _ hk=>hw k hk,?_⟩;refine h.k.trans ⟨ho.1,ho.2.1,ho.2.2,by omega,fun k hk=>hw k ?_⟩;have:=hY k hk;omega
theorem ER{px ps kind td root:Nat}{S S':St}(h:Ig w ps S Y)(hi:Fv S)(hT:FF w px ps ty kv kind td root)(hpx:Y px)(a b:List UInt8)(hm:nJ S a b)(hp:itemsM S a b=some (p,S')):
 Ct 83 #[PV px,eu (a,b)] w fun e w'=>e=.returned (.tuple #[Id p.1 p.2,Xi 0])/\Ig w' ps S' Y/\Fo Y w w'/\Fv S'/\p.1<2^64/\p.2<2^64:=by
 obtain⟨e1,e2,e3⟩:=BI hp;have a2:=wu hm.2.2.1 hi;have a3:=wu hm.2.2.2 a2;have l1:=wv h.tabwf a;have a0:=fun W Z (hW:Ig W ps S Z)=>tP hW hi a hm.1 hm.2.2.1;have au:=fun W Z (hW:Ig W ps (fx S a).2 Z)=>And.intro (tP hW a2 b hm.2.1 hm.2.2.2) (wv hW.tabwf b);rw[e1] at a0 l1;rw[e2] at au;rw[<-e3] at a3 au;generalize (fx S a).2=S1 at*;obtain⟨p1,p2⟩:=p;simp only[eu,Id] at a0 au l1⊢;have B1:=(aa w.heap.size w).alloc Ih (.cells #[SV a,SV b] 40);have y1:=heap_alloc_new w (.cells #[SV a,SV b] 40);have z1:(w.alloc (.cells #[SV a,SV b] 40)).heap.size=w.heap.size+1:=by simp
 generalize a9:w.alloc (.cells #[SV a,SV b] 40)=w1 at*;have A2:=(aa w1.heap.size w1).alloc Ih (.cells #[Xu 0,Xu 0] 104);have B2:=B1.trans (A2.mono B1.size);have y2:=(A2.block w.heap.size (by omega)).trans y1;have q2:=heap_alloc_new w1 (.cells #[Xu 0,Xu 0] 104);have z2:(w1.alloc (.cells #[Xu 0,Xu 0] 104)).heap.size=w.heap.size+2:=by simp[z1]
 rw[z1] at q2;subst a9;have hY:=h.yl;have hA:jC w ((w.alloc (.cells #[SV a,SV b] 40)).alloc (.cells #[Xu 0,Xu 0] 104)) px ps ty kv kind td root a b S Y (Xu 0) (Xu 0):=⟨hT.below B2,y2,q2,by have:=h.wide B2;rwa[z2] at this,Fo.of_below B2 hY⟩;have HG:=kq4 a0 au hpx hY;have HL:=kq2 a3 l1;have HA:=If hA;clear a0 au hA B1 B2 y1 y2 q2 A2 z1 z2 hY h hi a2 a3 l1 hm hp e1 e2 e3 hT;go_enter func83,ntmps83;go_wp2_with fail;generalize ((w.alloc (.cells #[SV a,SV b] 40)).alloc (.cells #[Xu 0,Xu 0] 104))=W0 at*;obtain⟨I,a1,a5⟩:=lB (fun w'=>FF w' px ps ty kv kind td root) (fun w'=>w'.heap[w.heap.size]?=some (.cells #[SV a,SV b] 40));have a4:=fun x:Fq I=>(a1 _ x.ok).1;have a7:=fun x:Fq I=>(a1 _ x.ok).2;simp only[FF] at a4;obtain⟨m0,m1,m2,m3,m4⟩:=iK a4;obtain⟨n0,n1⟩:=fw a7;have HI:=If a5;clear a1 a5 a4 a7;have ar:I W0.drew:=HI.out _ HA.out.drew.t HA.out.drew.y;refine fh I (.take 0 (.take 1 (.take 2 (.take 3 (.take 4 (.take 5 (.go 6 (.take 7 (.take 8 (.take 9 (.take 10 (.go 11 (.go 12 .nil))))))))))))) (by kernel_rfl) (by kernel_rfl) ar ?_;clear ar
 iterate 6
  refine' pT ?_ ?_;rotate_left
  ·intro x;go_simp
   try rfl
  try simp only[pu]
 refine pD fun K hK=>?_;go_simp;refine(HG.a _ _ HA.out.drew.st).mono ?_;rintro e w3 ⟨rfl,h3,k3⟩;have an:=If (HA.out.drew.call HG.c h3 k3);clear h3 k3;have q:=an.out.q;obtain⟨c0,c1⟩:=Fp q;obtain⟨f0,f1⟩:=ef q;clear q
 try go_simp
 refine hK.out _ _ (HI.out _ an.out.t an.out.y) ?_;clear hK K
 try simp only[pu]
 iterate 4
  refine' pT ?_ ?_;rotate_left
  ·intro x;go_simp
   try rfl
  try simp only[pu]
 refine pD fun K hK=>?_;go_simp;have ad:=If (an.out.write (W':=w3.setCell ⟨w.heap.size+1,0,none⟩ (Xu p1)) HG.c HG.d (by simp) ⟨rfl,rfl,rfl⟩ (fun k hk=>FB hk) (heap_setCell an.out.q));clear c0 c1 f0 f1;generalize w3.setCell ⟨w.heap.size+1,0,none⟩ (Xu p1)=w4 at*
 try go_simp
 refine hK.out _ _ (HI.out _ ad.out.t ad.out.y) ?_;clear hK K
 try simp only[pu]
 refine pD fun K hK=>?_;go_simp
 try go_simp
 refine hK.out _ _ (HI.out _ ad.out.t ad.out.y) ?_;clear hK K
 try simp only[pu]
 refine eP ?_;go_wp2_with fail;have ar:I w4.drew:=HI.out _ ad.out.drew.t ad.out.drew.y;refine fh I (.take 0 (.take 1 (.take 2 (.take 3 (.take 4 (.take 5 (.go 6 (.take 7 (.take 8 (.take 9 (.take 10 (.go 11 (.go 12 .nil))))))))))))) (by kernel_rfl) (by kernel_rfl) ar ?_;clear ar
 iterate 6
  refine' pT ?_ ?_;rotate_left
  ·intro x;go_simp
   try rfl
  try simp only[pu]
 refine pD fun K hK=>?_;go_simp;obtain⟨a6,l2⟩:=HG.b _ _ ad.out.drew.st;refine a6.mono ?_;rintro e w5 ⟨rfl,h3,k3⟩;have ap:=If (ad.out.drew.call HG.c h3 k3);have a8:=If l2;clear h3 k3 a6 l2;have q:=ap.out.q;obtain⟨c0,c1⟩:=Fp q;obtain⟨f0,f1⟩:=ef q;clear q
 try go_simp
 refine hK.out _ _ (HI.out _ ap.out.t ap.out.y) ?_;clear hK K
 try simp only[pu]
 iterate 4
  refine' pT ?_ ?_;rotate_left
  ·intro x;go_simp
   try rfl
  try simp only[pu]
 refine pD fun K hK=>?_;go_simp;have ai:=If (ap.out.write (W':=w5.setCell ⟨w.heap.size+1,1,none⟩ (Xu p2)) HG.c HG.d (by simp) ⟨rfl,rfl,rfl⟩ (fun k hk=>FB hk) (heap_setCell ap.out.q));clear c0 c1 f0 f1;generalize w5.setCell ⟨w.heap.size+1,1,none⟩ (Xu p2)=w6 at*
 try go_simp
 refine hK.out _ _ (HI.out _ ai.out.t ai.out.y) ?_;clear hK K
 try simp only[pu]
 refine pD fun K hK=>?_;go_simp
 try go_simp
 refine hK.out _ _ (HI.out _ ai.out.t ai.out.y) ?_;clear hK K
 try simp only[pu]
 refine eP ?_;have q:=ai.out.q;obtain⟨c0,c1⟩:=Fp q;obtain⟨f0,f1⟩:=ef q;have HF:=If (ai.out.write (W':=((w6.setCell ⟨(w.heap.size+1),0,none⟩ (Xu p1)).setCell ⟨(w.heap.size+1),1,none⟩ (Xu p2))) HG.c HG.d (by simp) ⟨rfl,rfl,rfl⟩ (fun k hk=>fA hk _ _) (ew q _ _));clear q;go_wp2_with fail;generalize ((w6.setCell ⟨(w.heap.size+1),0,none⟩ (Xu p1)).setCell ⟨(w.heap.size+1),1,none⟩ (Xu p2))=w7 at*;have q:=HF.out.q;obtain⟨e0,e1⟩:=Fp q;exact bodyPost_ret (v:=.tuple #[.agg #[Xu p1,Xu p2],Xi 0]) (by simp[results,f83,go_sem,e0,e1]) rfl ⟨rfl,HF.out.st.mono fun k hk=>ab hk,HF.out.k,HL.a,HL.b,a8.out⟩
theorem xL{px ps kind td root:Nat}(h:Ig w ps S Y)(hi:Fv S)(hT:FF w px ps ty kv kind td root)(hpx:Y px)(k v:Nat)(hk:k<2^64)(hv:v<2^64)(hg:(fz S v).2≠8)(hi1:Fv (S.drop k).2):
 Ct 84 #[PV px,Id k v,.bool true] w fun e w'=>e=.returned (SV (fz S v).1)/\Ig w' ps ((S.drop k).2.drop v).2 Y/\Fo Y w w':=by
 have B1:=(aa w.heap.size w).alloc Ih (Xe k v);have q1:=heap_alloc_new w (Xe k v);have S1:=h.wide B1;have T1:=hT.below B1;have a4:=h.yl;have sw:(w.alloc (Xe k v)).heap.size=w.heap.size+1:=by simp
 rw[sw] at S1;have au:=fun W Z (hW:Ig W ps S Z)=>iz hW hi v hv hg;have a0:=fun W Z (hW:Ig W ps S Z)=>sE hW hi k hk;have a1:=fun W Z (hW:Ig W ps (S.drop k).2 Z)=>sE hW hi1 v hv;simp only[Id];generalize (fz S v).1=t at*;generalize (fz S v).2=er at*;generalize (S.drop k).1=e1 at*;generalize (S.drop k).2=S2 at*;generalize (S2.drop v).1=e2 at*;generalize (S2.drop v).2=S3 at*;have HG:=kq4 au a0 a1 (Fo.of_below B1 a4);clear au a0 a1 h hi hi1 hg;go_enter func84,ntmps84;go_wp2_with fail;generalize w.alloc (Xe k v)=W at*;obtain⟨I,ad,ai⟩:=lB (fun w'=>FF w' px ps ty kv kind td root) (fun w'=>w'.heap[w.heap.size]?=some (Xe k v));have an:=fun x:Fq I=>(ad _ x.ok).1;have a2:=fun x:Fq I=>(ad _ x.ok).2;simp only[FF] at an;obtain⟨m0,m1,m2,m3,m4⟩:=iK an;obtain⟨n0,n1⟩:=fw a2;have a3:I W.drew:=ai _ T1 q1;have HI:=If ai;have HW:=kq3 S1 T1 q1;clear S1 T1 q1 B1 ad ai an a2;refine fh I (.take 0 (.take 1 (.take 2 (.take 3 (.take 4 (.take 5 (.go 6 (.take 7 (.take 8 (.take 9 (.take 10 (.take 11 .nil)))))))))))) (by kernel_rfl) (by kernel_rfl) a3 ?_
 iterate 6
  refine' pT ?_ ?_;rotate_left
  ·intro x;go_simp
   try rfl
  try simp only[pu]
 refine pD fun K hK=>?_;go_simp;refine b8 (HG.a _ _ (HW.a.drewN 1)) fun w2 hb2=>?_;have T2:FF w2 px ps ty kv kind td root:=FF.below (w:=W.drew) HW.b hb2;have q2:w2.heap[w.heap.size]?=_:=(hb2.block w.heap.size (gl HW.c)).trans HW.c;have s2:=(HW.a.drewN 1).below hb2;have k2:Fo Y W w2:=(Fo.drewN Y W 1).trans ((HW.a.drewN 1).keep hb2 |>.mono fun k hk=>ab hk);have H2:=kq4 s2 T2 q2 (HG.d.trans k2);clear s2 T2 q2 hb2 k2
 try go_simp
 refine hK.out _ _ (HI.out _ H2.b H2.c) ?_;clear hK K
 try simp only[pu]
 iterate 5
  refine' pT ?_ ?_;rotate_left
  ·intro x;go_simp
   try rfl
  try simp only[pu]
 refine eP ?_;go_wp2_with fail;have ap:I w2.drew:=HI.out _ H2.b H2.c;refine fh I (.take 0 (.take 1 (.take 2 (.take 3 (.take 4 (.take 5 (.go 6 .nil))))))) (by kernel_rfl) (by kernel_rfl) ap ?_
 iterate 6
  refine' pT ?_ ?_;rotate_left
  ·intro x;go_simp
   try rfl
  try simp only[pu]
 refine pD fun K hK=>?_;go_simp;refine(HG.b _ _ (H2.a.drewN 1)).mono ?_;rintro e w3 ⟨rfl,s3,k3⟩;have T3:FF w3 px ps ty kv kind td root:=FF.keep (w:=w2.drew) H2.b k3 (ab hpx);have q3:=(k3.block w.heap.size (ae ⟨Nat.le_refl _,aV _⟩)).trans H2.c;have H3:=kq4 s3 T3 q3 (H2.d.trans ((Fo.drewN Y w2 1).trans (k3.mono fun k hk=>ab hk)));clear s3 T3 q3 k3 ap
 try go_simp
 refine hK.out _ _ (HI.out _ H3.b H3.c) ?_;clear hK K
 try simp only[pu]
 refine eP ?_;go_wp2_with fail;have ar:I w3.drew:=HI.out _ H3.b H3.c;refine fh I (.take 0 (.take 1 (.take 2 (.take 3 (.take 4 (.take 5 (.go 6 .nil))))))) (by kernel_rfl) (by kernel_rfl) ar ?_
 iterate 6
  refine' pT ?_ ?_;rotate_left
  ·intro x;go_simp
   try rfl
  try simp only[pu]
 refine pD fun K hK=>?_;go_simp;refine(HG.c _ _ (H3.a.drewN 1)).mono ?_;rintro e w4 ⟨rfl,s4,k4⟩;have T4:FF w4 px ps ty kv kind td root:=FF.keep (w:=w3.drew) H3.b k4 (ab hpx);have q4:=(k4.block w.heap.size (ae ⟨Nat.le_refl _,aV _⟩)).trans H3.c;have H4:=kq2 (s4.mono (Z:=Y) fun k hk=>ab hk) (H3.d.trans ((Fo.drewN Y w3 1).trans (k4.mono fun k hk=>ab hk)))
 try go_simp
 refine hK.out _ _ (HI.out _ T4 q4) ?_;clear hK K
 try simp only[pu]
 clear s4 k4 ar T4 q4;refine eP ?_;go_wp2_with fail;go_ret;exact⟨rfl,H4.out⟩
structure Kc (w W:World) (px ps:Nat) (ty:TypeId) (kv:Value) (kind td root:Nat) (S:St) (Y:Nat->Prop) (b9 ik iv:Nat):Prop where
 t:FF W px ps ty kv kind td root
 st:Ig W ps S Y
 k:Fo Y w W
 q:W.heap[b9]?=some (Xe ik iv)
 l:w.heap.size<=b9
theorem ny{px ps kind td root:Nat}(h:Ig w ps S Y)(hi:Fv S)(hT:FF w px ps ty kv kind td root)(hpx:Y px)(a b:List UInt8)(hm:nJ S a b){S1:St}(hp:itemsM S a b=some (p,S1))(was:Bool)(tv:List UInt8){R:Nat->Nat->Nat->St->Prop}{R2:Nat->St->Prop}(hme:∀(f:Nat) (v:Value) (w:World),(method (f+1) ty v "loft/backend.insert").run prog w=.ok (fm,v) w)(hen:∀(args:Array Value) (w:World),(callFunc fm args).run prog w=.ok (.enter fm args) w)(hin:∀W Z,Ig W ps S1 Z->p.1<2^64->p.2<2^64->Ct fm #[kv,Xu root,Id p.1 p.2] W fun e w'=>∃(x ik iv:Nat) (S':St),e=.returned (.tuple #[Xu x,Id ik iv,.bool was,Xi 0])/\Ig w' ps S' Z/\Fo Z W w'/\R x ik iv S')(hgo:∀x ik iv S',R x ik iv S'->∀W Z,Ig W ps S' Z->FF W px ps ty kv kind td x->Z px->Ct 84 #[PV px,Id ik iv,.bool was] W fun e w'=>∃S3,e=.returned (SV tv)/\Ig w' ps S3 Z/\Fo Z W w'/\R2 x S3):
 Ct 43 #[PV px,eu (a,b)] w fun e w'=>∃(x:Nat) (S3:St),e=.returned (.tuple #[SV tv,.bool was,Xi 0])/\Ig w' ps S3 Y/\Fo (fun k=>Y k/\k≠px) w w'/\FF w' px ps ty kv kind td x/\R2 x S3:=by
 have a8:(1000<(a.length:Int))=False:=eq_false (by have:=hm.1;omega);have a9:(1000<(b.length:Int))=False:=eq_false (by have:=hm.2.1;omega);have B0:=(aa w.heap.size w).alloc Ih (.cells #[SV a,SV b] 40);have hn:=kw (hT.below B0);have ap:=ER (h.below B0) hi (hT.below B0) hpx a b hm hp;have hY:=h.yl;have a2:=hT.below B0;have a1:=Fo.of_below B0 hY;obtain⟨p1,p2⟩:=p;simp only[eu,Id] at ap hin hgo⊢;have HG:=kq8 hn ap hin hgo hpx hY a2 a1;clear hn ap hin hgo B0 h hi hT hm hp hY a2 a1;go_enter func43,ntmps43;go_wp2_with fail;refine Jc HG.a ?_;go_wp2_with fail;refine HG.b.mono ?_;rintro e w1 ⟨rfl,s1,k1,i1,l1,l2⟩;have A2:=(aa w1.heap.size w1).alloc Ih (Xe p1 p2);have q2:=heap_alloc_new w1 (Xe p1 p2);have s2:=s1.wide A2;have z2:(w1.alloc (Xe p1 p2)).heap.size=w1.heap.size+1:=by simp
 have K2:=HG.h.trans (k1.trans (s1.keep A2));have T2:FF (w1.alloc (Xe p1 p2)) px ps ty kv kind td root:=HG.g.keep (k1.trans (s1.keep A2)) HG.e;have ins:=fun W Z hW=>HG.c W Z hW l1 l2;have a5:w.heap.size<=w1.heap.size:=by have:=(HG.h.trans k1).size;exact this
 rw[z2] at s2;clear s1 k1 i1 A2;go_wp2_with fail;generalize a7:w1.alloc (Xe p1 p2)=w2 at*;generalize a6:w1.heap.size=b7 at*;clear a7 a6 w1;have H2:=kq7 T2 s2 K2 q2 ins a5 z2;obtain⟨I,ai,an⟩:=lB (fun w'=>FF w' px ps ty kv kind td root) (fun w'=>w'.heap[b7]?=some (Xe p1 p2));have ar:=fun x:Fq I=>(ai _ x.ok).1;have a4:=fun x:Fq I=>(ai _ x.ok).2;simp only[FF] at ar;obtain⟨m0,m1,m2,m3,m4⟩:=iK ar;obtain⟨n0,n1⟩:=fw a4;have a0:I w2.drew:=an _ T2 q2;have HI:=If an;clear ai an ar a4 T2 s2 K2 q2 ins a5 z2;refine fh I (.take 0 (.take 1 (.take 2 (.take 3 (.take 4 (.take 5 (.take 6 (.take 7 (.take 8 (.take 9 (.take 10 (.two 11 17 (.take 12 (.take 13 (.take 14 (.take 15 (.take 16 (.go 17 (.go 18 (.go 19 (.go 20 (.go 21 .nil)))))))))) (.go 11 (.take 12 (.take 13 (.take 14 (.take 15 (.take 16 (.go 18 (.go 19 (.go 20 (.go 21 .nil)))))))))))))))))))))) (by kernel_rfl) (by kernel_rfl) a0 ?_;clear a0
 iterate 11
  refine' pT ?_ ?_;rotate_left
  ·intro x;go_simp
   try rfl
  try simp only[pu]
 refine gL ?h1 ?h2
 case' h1=>
  refine pD fun K hK=>?_;go_simp;refine(H2.e _ _ (H2.b.below (aa _ _).drew)).mono ?_;rintro e w3 ⟨x,ik,iv,S',rfl,s3,k3,i3⟩;have T3:=FF.keep (w:=w2.drew) H2.a k3 (ab HG.e);have q3:w3.heap[b7]?=some (Xe p1 p2):=(k3.block b7 (ae ⟨Nat.le_refl _,aV _⟩)).trans H2.d;have H3:=kq5 T3 q3 s3 (k3.mono (Z:=Y) fun k hk=>ab hk) i3;clear T3 q3 s3 k3 i3
  try go_simp
  refine hK.out _ _ (HI.out _ H3.a H3.b) ?_;clear hK K
  try simp only[pu]
  iterate 5
   refine' pT ?_ ?_;rotate_left
   ·intro x;go_simp
    try rfl
   try simp only[pu]
  refine pD fun K hK=>?_;go_simp;have A4:=(aa w3.heap.size w3).alloc Ih (.cells #[Xu 0,Xu 0] 104);have TA:=H3.a.below A4;have q4:=(A4.block b7 (gl H3.b)).trans H3.b;have sA:=((H3.c.mono (Z:=Y) fun k hk=>ab hk).wide A4).mono (Z:=fun k=>Y k\/k=w3.heap.size) (fun k hk=>hk.imp id fun e=>⟨by omega,by simp;omega⟩);have kA:=(H2.c.trans (Fo.drewN Y w2 1)).trans (H3.d.trans ((H3.c.mono (Z:=Y) fun k hk=>ab hk).keep A4));have qA:=heap_alloc_new w3 (.cells #[Xu 0,Xu 0] 104);have lA:w.heap.size<=w3.heap.size:=((H2.c.trans (Fo.drewN Y w2 1)).trans H3.d).size;have iA:=H3.e;have nb:b7≠w3.heap.size:=Nat.ne_of_lt (gl H3.b);clear A4 H3;generalize w3.alloc (.cells #[Xu 0,Xu 0] 104)=W at*;generalize w3.heap.size=b9 at*
  try go_simp
  refine hK.out _ _ (HI.out _ TA q4) ?_;clear hK K
  try simp only[pu]
  refine pD fun K hK=>?_;go_simp
  try go_simp
  refine hK.out _ _ (HI.out _ TA q4) ?_;clear hK K
  try simp only[pu]
  obtain⟨c0,c1⟩:=Fp qA;obtain⟨f0,f1⟩:=ef qA;have HA:=kq6 TA sA kA qA lA iA;clear TA sA kA qA lA iA;refine pD fun K hK=>?_;go_simp;have q5:((W.setCell ⟨b9,0,none⟩ (Xu ik)).setCell ⟨b9,1,none⟩ (Xu iv)).heap[b7]?=some (Xe p1 p2):=(fA nb _ _).trans q4;have ad:px≠b9:=by have:=HG.f px HG.e;have:=HA.e;omega
  have qB:=ew HA.d (Xu ik) (Xu iv);have oB:∀k,k≠b9->((W.setCell ⟨b9,0,none⟩ (Xu ik)).setCell ⟨b9,1,none⟩ (Xu iv)).heap[k]?=W.heap[k]?:=fun k hk=>fA hk _ _;have sB:Ig ((W.setCell ⟨b9,0,none⟩ (Xu ik)).setCell ⟨b9,1,none⟩ (Xu iv)) ps S' Y:=(HA.b.write (ae rfl) HA.d ⟨by decide,by decide⟩ (by simp) (by simp) fun k _ hk=>oB k hk).mono fun k hk=>ab hk;have kB:Fo Y w ((W.setCell ⟨b9,0,none⟩ (Xu ik)).setCell ⟨b9,1,none⟩ (Xu iv)):=HA.c.trans ⟨rfl,rfl,rfl,by simp,fun k hk=>oB k (by have:=HG.f k hk;have:=HA.e;omega)⟩;have P7:Kc w ((W.setCell ⟨b9,0,none⟩ (Xu ik)).setCell ⟨b9,1,none⟩ (Xu iv)) px ps ty kv kind td root S' Y b9 ik iv:=⟨(oB px ad).trans HA.a,sB,kB,qB,HA.e⟩;have au:=If HA.f;clear c0 c1 f0 f1 HA qB oB sB kB ad;have H7:=If P7;clear P7;generalize ((W.setCell ⟨b9,0,none⟩ (Xu ik)).setCell ⟨b9,1,none⟩ (Xu iv))=W7 at*
  try go_simp
  refine hK.out _ _ (HI.out _ H7.out.t q5) ?_;clear hK K
  try simp only[pu]
  refine pD fun K hK=>?_;go_simp
  try go_simp
  refine hK.out _ _ (HI.out _ H7.out.t q5) ?_;clear hK K
  try simp only[pu]
  refine pD fun K hK=>?_;go_simp
  try go_simp
  refine hK.out _ _ (HI.out _ H7.out.t q5) ?_;clear hK K
  try simp only[pu]
  refine eP ?_;clear q4 q5 w3 nb
 case' h2=>
  refine pD fun K hK=>?_;go_simp;have A3:=((aa w2.heap.size w2).alloc Ih (.cells #[Xu 0,Xu 0] 104)).drew;have T3:=H2.a.below A3;have q3:=(A3.block b7 (gl H2.d)).trans H2.d;have qz:(w2.alloc (.cells #[Xu 0,Xu 0] 104)).drew.heap[w2.heap.size]?=_:=heap_alloc_new w2 (.cells #[Xu 0,Xu 0] 104);have s3:=H2.b.wide A3;have z3:(w2.alloc (.cells #[Xu 0,Xu 0] 104)).drew.heap.size=w2.heap.size+1:=by show (w2.alloc _).heap.size=_;simp
  have k3:=H2.c.trans ((H2.b.mono (Z:=Y) fun k hk=>ab hk).keep A3);have nb:b7≠w2.heap.size:=by have:=H2.g;omega
  have lz:w.heap.size<=w2.heap.size:=H2.c.size;rw[z3] at s3;clear A3 z3;generalize (w2.alloc (.cells #[Xu 0,Xu 0] 104)).drew=w3 at*;generalize w2.heap.size=b9 at*
  try go_simp
  refine hK.out _ _ (HI.out _ T3 q3) ?_;clear hK K
  try simp only[pu]
  have H3:=kq6 T3 q3 s3 k3 qz lz;clear T3 q3 s3 k3 qz lz;refine pD fun K hK=>?_;go_simp;refine(H2.e _ _ H3.c).mono ?_;rintro e W ⟨x,ik,iv,S',rfl,s4,k4,i4⟩;have TA:=FF.keep (w:=w3) H3.a k4 (ab (ab HG.e));have q4:W.heap[b7]?=some (Xe p1 p2):=(k4.block b7 (ab (ae ⟨Nat.le_refl _,aV _⟩))).trans H3.b;have sA:=s4.mono (Z:=fun k=>Y k\/k=b9) (fun k hk=>hk.elim (fun h=>ab (ab h)) fun e=>ae ⟨by omega,by omega⟩);have kA:=H3.d.trans (k4.mono (Z:=Y) fun k hk=>ab (ab hk));have qA:W.heap[b9]?=some (.cells #[Xu 0,Xu 0] 104):=(k4.block b9 (ae ⟨Nat.le_refl _,aV _⟩)).trans H3.e;have lA:=H3.f;have iA:=i4;clear s4 k4 i4 H3
  try go_simp
  refine hK.out _ _ (HI.out _ TA q4) ?_;clear hK K
  try simp only[pu]
  iterate 5
   refine' pT ?_ ?_;rotate_left
   ·intro x;go_simp
    try rfl
   try simp only[pu]
  refine pD fun K hK=>?_;go_simp
  try go_simp
  refine hK.out _ _ (HI.out _ TA q4) ?_;clear hK K
  try simp only[pu]
  obtain⟨c0,c1⟩:=Fp qA;obtain⟨f0,f1⟩:=ef qA;have HA:=kq6 TA sA kA qA lA iA;clear TA sA kA qA lA iA;refine pD fun K hK=>?_;go_simp;have q5:((W.setCell ⟨b9,0,none⟩ (Xu ik)).setCell ⟨b9,1,none⟩ (Xu iv)).heap[b7]?=some (Xe p1 p2):=(fA nb _ _).trans q4;have ad:px≠b9:=by have:=HG.f px HG.e;have:=HA.e;omega
  have qB:=ew HA.d (Xu ik) (Xu iv);have oB:∀k,k≠b9->((W.setCell ⟨b9,0,none⟩ (Xu ik)).setCell ⟨b9,1,none⟩ (Xu iv)).heap[k]?=W.heap[k]?:=fun k hk=>fA hk _ _;have sB:Ig ((W.setCell ⟨b9,0,none⟩ (Xu ik)).setCell ⟨b9,1,none⟩ (Xu iv)) ps S' Y:=(HA.b.write (ae rfl) HA.d ⟨by decide,by decide⟩ (by simp) (by simp) fun k _ hk=>oB k hk).mono fun k hk=>ab hk;have kB:Fo Y w ((W.setCell ⟨b9,0,none⟩ (Xu ik)).setCell ⟨b9,1,none⟩ (Xu iv)):=HA.c.trans ⟨rfl,rfl,rfl,by simp,fun k hk=>oB k (by have:=HG.f k hk;have:=HA.e;omega)⟩;have P7:Kc w ((W.setCell ⟨b9,0,none⟩ (Xu ik)).setCell ⟨b9,1,none⟩ (Xu iv)) px ps ty kv kind td root S' Y b9 ik iv:=⟨(oB px ad).trans HA.a,sB,kB,qB,HA.e⟩;have au:=If HA.f;clear c0 c1 f0 f1 HA qB oB sB kB ad;have H7:=If P7;clear P7;generalize ((W.setCell ⟨b9,0,none⟩ (Xu ik)).setCell ⟨b9,1,none⟩ (Xu iv))=W7 at*
  try go_simp
  refine hK.out _ _ (HI.out _ H7.out.t q5) ?_;clear hK K
  try simp only[pu]
  refine pD fun K hK=>?_;go_simp
  try go_simp
  refine hK.out _ _ (HI.out _ H7.out.t q5) ?_;clear hK K
  try simp only[pu]
  refine pD fun K hK=>?_;go_simp
  try go_simp
  refine hK.out _ _ (HI.out _ H7.out.t q5) ?_;clear hK K
  try simp only[pu]
  refine eP ?_;clear q4 q5 w3 nb
 all_goals
  clear m0 m1 m2 m3 m4 n0 n1 HI I;have t7:=H7.out.t;simp only[FF] at t7;obtain⟨c0,c1,c2,c3,c4⟩:=ld t7;obtain⟨f0,f1,f2,f3,f4⟩:=G2 t7;have ad:px≠b9:=by have:=HG.f px HG.e;have:=H7.out.l;omega
  have t8:FF (W7.setCell ⟨px,4,none⟩ (Xu x)) px ps ty kv kind td x:=heap_setCell t7;have q8:=(FB (w:=W7) (b:=px) (i:=4) (v:=Xu x) ad.symm).trans H7.out.q;have s8:Ig (W7.setCell ⟨px,4,none⟩ (Xu x)) ps S' Y:=H7.out.st.write HG.e t7 ⟨by decide,by decide⟩ (by simp) (by simp) fun k _ hk=>FB hk;have k8:Fo (fun k=>Y k/\k≠px) w (W7.setCell ⟨px,4,none⟩ (Xu x)):=(H7.out.k.mono fun k hk=>hk.1).trans ⟨rfl,rfl,rfl,by simp,fun k hk=>FB hk.2⟩;obtain⟨e0,e1⟩:=Fp q8;have H8:=kq3 t8 s8 k8;clear t7 t8 s8 k8 ad q8;go_wp2_with fail;refine(HG.d x ik iv S' au.out _ _ H8.b H8.a HG.e).mono ?_;rintro e w9 ⟨S3,rfl,s9,k9,r9⟩;have a3:Ig w9 ps S3 Y/\Fo (fun k=>Y k/\k≠px) w w9/\FF w9 px ps ty kv kind td x/\R2 x S3:=⟨s9,H8.c.trans (k9.mono fun k hk=>hk.1),FF.keep H8.a k9 HG.e,r9⟩;have HF:=If a3;clear a3 s9 k9 H8 c0 c1 c2 c3 c4 f0 f1 f2 f3 f4 e0 e1;go_wp2_with fail;go_ret3;exact⟨x,S3,rfl,HF.out⟩