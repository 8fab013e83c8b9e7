/- Trees taken apart and put together: Insert: the walk. -/
import Derived.Test.YtcibkdbpicledaaGreatDoorZKj
set_option maxRecDepth 100000
set_option maxHeartbeats 3200000
namespace Go.Proofs.YtcibkdbpicledaaGreatDoor
section
open Go.RowKit Tryz Go.BigFrame Go.Maps Go.WideMaps Lf
def Lf.insertOkM(jn:Jn)(S:St)(root m:Nat):Option ((Nat×Nat)×St):=
 if isT S root=false\/isT S m=false\/m=0\/(fz S (getNode S m).1.key).2≠0 then none
 else match kr jn (fz S (getNode S m).1.key).1 200 S root with
  | none=>none
  | some ((l,old,r),S1)=>(jq jn S1 l m r).map fun x=>((x.1,old),x.2)
theorem wk {w:World}{ps:Nat}{S S':St}{Y:Nat->Prop}(h:Ig w ps S Y)(hi:Fv S){kind:Nat}{j c:FuncId}{jn:Jn}(hjn:kW j jn)(hk:j6 kind j c)(root m:Nat)(hl:root<2^64)(hm:m<2^64){R:Nat×Nat}(hR:insertOkM jn S root m=some (R,S')):
 (Ct 296 #[PV ps,.int .i64 kind,.int .u64 root,.int .u64 m] w fun e w'=>e=.returned (.tuple #[.int .u64 R.1,.int .u64 R.2,.int .i64 0])/\Ig w' ps S' Y/\Fo Y w w')/\Fv S'/\R.1<2^64/\R.2<2^64:=by
 unfold insertOkM at hR
 split at hR
 ·cases hR
 rename_i hc;simp only[not_or,Bool.not_eq_false,de] at hc;obtain⟨t1,t2,m0,a0⟩:=hc
 split at hR
 ·cases hR
 rename_i l old r S1 hs;obtain⟨⟨x,S2⟩,ao,he⟩:=aB.1 hR
 injection he with e1 e2
 simp only at e1 e2 ao;subst e1 e2;have a6:=fs h m;obtain⟨-,an,ad,hold,ai⟩:=uf (c:=c) hjn _ 200 0 rfl h hi hl hs;have a3:=fun W Z (hW:Ig W ps S Z)=>(uf (c:=c) hjn _ 200 0 rfl hW hi hl hs).1;have a2:=nW hjn ao;have a1:=fun W Z (hW:Ig W ps S1 Z)=>qn (c:=c) hW an hjn l m r ad hm ai ao;refine⟨?_,hjn.inv an a2,(by have q:=hjn.lt an (by first | exact hm | exact ad | exact ai) (by first | exact hm | exact ad | exact ai) (by first | exact hm | exact ad | exact ai) a2;exact q),hold⟩;have hg:=fun W (hW:Below w.heap.size w W)=>iO (h.below hW) hi m hm;have hb:=fun W (hW:Below w.heap.size w W)=>iz (h.below hW) hi (getNode S m).1.key a6.key (by rw[a0];decide);have hw:=fun W (hW:Below w.heap.size w W) rb t fr hrb=>yH (t:=t) (fr:=fr) (h.below hW) hi hk root m hl hm t1 t2 rb hrb;rw[a0] at hb;generalize (fz S (getNode S m).1.key).1=key at*;obtain⟨⟨⟨k0,k1,k2,k3,k4,k5⟩,er⟩,hE⟩:∃q,getNode S m=q:=⟨_,rfl⟩;rw[hE] at hg hb;simp only[gS,eL,eS] at hg hb hw a3 a1⊢;have a9:((m:Int)==0)=false:=by simp;omega
 have HG:=kq6 hg hb hw a3 a1 h;clear hg hb hw a3 a1 h hi hE hjn hk hR t1 t2 m0 a0 hs ao a6 an ad hold ai a2;go_enter func296,ntmps296;go_wp2_with fail;refine(HG.c _ ((aa _ w).alloc Ih _) _ _ _ (heap_alloc_new w _)).mono ?_;rintro e w1 ⟨rfl,a5⟩;have B1:=((aa w.heap.size w).alloc Ih (.cells #[.int .u64 root,.int .u64 m] 83)).trans (a5.mono (by simp));have q1:=heap_alloc_new w1 (.cells #[PV ps,.func (.func j) #[] #[],.func (.func c) #[] #[]] 265);have al:=B1.alloc B1.size (.cells #[PV ps,.func (.func j) #[] #[],.func (.func c) #[] #[]] 265);have z1:=B1.size;clear a5 B1;go_wp2_with fail;generalize w1.alloc (.cells #[PV ps,.func (.func j) #[] #[],.func (.func c) #[] #[]] 265)=W1 at*;generalize w1.heap.size=b11 at*;refine(HG.a _ al).mono ?_;rintro e w2 ⟨rfl,ar⟩;have ap:=ar.alloc ar.size (.cells #[.int .u64 k0,.int .u64 k1,.int .u64 k2,.int .u64 k3,.int .u64 k4,.int .u64 k5] 232);have q2:=heap_alloc_new w2 (.cells #[.int .u64 k0,.int .u64 k1,.int .u64 k2,.int .u64 k3,.int .u64 k4,.int .u64 k5] 232);have r2:=(ap.block b11 (gl q1)).trans q1;have B2:=al.trans (ap.mono al.size);obtain⟨d0,d1,d2,d3,d4,d5⟩:=ia q2;have H2:=kq3 B2 r2 z1;clear ar ap q2 r2 B2 al q1 z1;go_wp2_with fail;refine(HG.b _ H2.a).mono ?_;rintro e w3 ⟨rfl,au⟩;have r3:=(au.block b11 (gl H2.b)).trans H2.b;obtain⟨e0,e1,e2⟩:=fq r3;have a8:=(gl r3);have H3:=kq2 (H2.a.trans (au.mono H2.a.size)) r3;clear au r3 d0 d1 d2 d3 d4 d5;go_wp2_with fail;refine(HG.d _ _ (HG.f.wide H3.a)).mono ?_;rintro e w4 ⟨rfl,h4,a4⟩;have r4:=(a4.block b11 (ae ⟨H2.c,a8⟩)).trans H3.b;obtain⟨f0,f1,f2⟩:=fq r4;have H4:=kq2 h4 a4;clear h4 a4 r4 e0 e1 e2;go_wp2_with fail;refine(HG.e _ _ H4.a).mono ?_;rintro e w5 ⟨rfl,h5,a7⟩;have H5:=kq2 (h5.mono (Z:=Y) fun k hk=>ab hk) ((Fo.of_below H3.a HG.f.yl).trans ((H4.b.trans a7).mono fun k hk=>ab hk));clear h5 a7 f0 f1 f2;go_wp2_with fail;go_ret3;exact⟨rfl,H5.out⟩
end
section
open Go.RowKit Tryz Go.BigFrame Go.Maps Go.WideMaps Lf
open Go.Shelf
variable{S:St}{Y:Nat->Prop}{ps:Nat}{w:World}
attribute [local go_sem] Oper.semAt_some
theorem xS(h:Ig w ps S Y)(hi:Fv S):
 Cb 221 #[PV ps,.int .u64 0] w (.int .i64 0):=by
 have B0:=(aa w.heap.size w).alloc Ih (.cells #[PV ps] 25);have B1:=B0.alloc B0.size (.cells #[.int .i64 0] 30);have ad:=fB (h.below B1) hi 0 (by omega);rw[fU] at ad;have HG:=kq2 ad B1;clear ad h hi B0 B1;go_enter func221,ntmps221;go_wp2_with fail;refine HG.a.mono ?_;rintro e w1 ⟨rfl,rfl⟩;go_wp2_with fail;exact bodyPost_ret (v:=.int .i64 0) (by simp[results,f221,go_sem]) rfl ⟨rfl,HG.b⟩
theorem EY(ps root:Nat)(w:World):
 Ct 167 #[PV ps,.int .u64 root] w fun e w'=>e=.returned (.func (.func 186) #[] #[PV w.heap.size,PV (w.heap.size+1)])/\w'=(w.alloc (.cells #[PV ps] 25)).alloc (.cells #[.int .u64 root] 83):=by
 go_enter func167,ntmps167
 go_wp2
 go_ret;exact⟨rfl,rfl⟩
def AJ(x:Empty):Array Value:=nomatch x
theorem BC(h:Ig w ps S Y)(Bs Br:Nat)(hBs:Bs<w.heap.size/\w.cell? ⟨Bs,0,none⟩=some (PV ps))(hBr:Br<w.heap.size/\w.cell? ⟨Br,0,none⟩=some (.int .u64 0)):
 SeqStopsK Fence.wide 6 prog 186 #[PV Bs,PV Br] AJ (Below w.heap.size) (fun xs=>xs=[]) (fun _=>True) 0 w:=fun l J Jx W hW hJ hJx hY h0=>by
 have ao:Fence.wide.fn 187:=trivial;have al:CallsIn Fence.wide 5 prog 187 #[PV ps] W _:=callsIn_wide.2 (sX (h.below hW));have hL:1<=limit S/\limit S<=40000:=by have:=nB h;unfold limit;omega
 generalize limit S=L at*;have cs:=(hW.cell (p:=⟨Bs,0,none⟩) hBs.1).trans hBs.2;have cr:=(hW.cell (p:=⟨Br,0,none⟩) hBr.1).trans hBr.2;have HL:=If al;have HJ:=kq5 hJ h0 hW hBs hBr;have ai:=If hW;clear al hW hJ hJx hY h0 hBs hBr h;refine callsIn_of_wp func186 rfl trivial ?_ rfl;simp only[ntmps186,bp,ak,aK,Nat.reduceAdd,Nat.reduceSub,aV,aW,bw,aZ,aU,aP];gi_wp2_with fail;refine HL.out.mono ?_;rintro e w1 ⟨rfl,ad⟩;have j1:=HJ.a _ _ _ none HJ.b (lf ad) (fun r e=>by cases e);have cs:=(ad.cell (p:=⟨Bs,0,none⟩) (bD HJ.d.1 ai.out.size)).trans cs;have cr:=(ad.cell (p:=⟨Br,0,none⟩) (bD HJ.e.1 ai.out.size)).trans cr;have H1:=If j1;clear HL ad j1;have an:(0:Int)<L:=by omega
 gi_wp2_with fail;gi_loopw [4,6,7,8,9,10,11] (fun l0 k _ _ _ _ _ wr=>l0=.slice none 0 0/\k=.int .i64 0/\wr=w1) (fun _ _ _ _ _ _ _ _=>0)
 case atStart=>exact⟨rfl,rfl,rfl⟩
 case round=>
  obtain⟨rfl,rfl,rfl⟩:=hrel;gi_wp2_with fail;gi_loopw [4,6,7,8] (fun l0 k _ _ wr'=>l0=.slice none 0 0/\k=.int .i64 0/\wr'=wr) (fun _ _ _ _ _=>0)
  case atStart=>exact⟨rfl,rfl,rfl⟩
  case round=>
   obtain⟨rfl,rfl,rfl⟩:=hrel;gi_wp2_with fail;refine bodyPost_ret (results_none rfl _ _ _) rfl ?_;exact⟨⟨_,rfl⟩,.inl ⟨[],rfl,H1.out⟩⟩
theorem E0(h:Ig w ps S Y):
 CallsIn Fence.wide 7 prog 139 #[PV ps,.int .u64 0] w fun e w'=>e=.returned (.slice none 0 0)/\Below w.heap.size w w':=by
 have h1:1<=7:=by omega
 have an:Fence.wide.fn 167:=trivial;have ai:∀W,CallsIn Fence.wide 6 prog 167 #[PV ps,.int .u64 0] W _:=fun W=>callsIn_wide.2 (EY ps 0 W);have HR:=If h;clear h;refine callsIn_of_wp_marks func139 rfl trivial ?_ rfl;simp only[ntmps139,bp,ak,aK,Nat.reduceAdd,Nat.reduceSub,aV,aW,bw,aZ,aU,aP];gi_wp2_with fail;refine(ai _).mono ?_;rintro e w4 ⟨rfl,rfl⟩;gi_wp2_with fail;have k0:=((Bx.new w (.slice none 0 0) 229).alloc (.cells #[PV ps] 25)).alloc (.cells #[.int .u64 0] 83);have k1:=(Bx.new (w.alloc (.cells #[.slice none 0 0] 229)) (PV ps) 25).alloc (.cells #[.int .u64 0] 83);have k2:=Bx.new ((w.alloc (.cells #[.slice none 0 0] 229)).alloc (.cells #[PV ps] 25)) (.int .u64 0) 83;have hb:=(((aa w.heap.size w).alloc Ih (.cells #[.slice none 0 0] 229)).alloc (by simp) (.cells #[PV ps] 25)).alloc (by simp;omega) (.cells #[.int .u64 0] 83);simp only[World.size_alloc] at k0 k1 k2;generalize (((w.alloc (.cells #[.slice none 0 0] 229)).alloc (.cells #[PV ps] 25)).alloc (.cells #[.int .u64 0] 83))=W0 at*;refine wpIn_rangeFunc_ownH rfl h1 (gf:=186) (lb:=#[PV (w.heap.size+1),PV (w.heap.size+1+1)]) rfl trivial (enters_of func186 (by kernel_rfl) rfl)
  (BC (HR.out.below hb) _ _ ⟨Cx.lt (show Cx W0 _ 0 _ from k1),k1.1⟩ ⟨Cx.lt (show Cx W0 _ 0 _ from k2),k2.1⟩) (fun h k=>h.trans k) (fun W l o o' h1 h2 h3 h4=>nN W l o o' (by omega) h2 h3 h4) (aa _ _) (fun x=>nomatch x)
  (fun _ W=>Bx W w.heap.size (.slice none 0 0)/\Below w.heap.size w W)
  (fun _ _ _=>False)
  (OwnFrom.and (Own.from (fun s A B row hs hg hr=>hs.kept hg hr) _) (ownFrom_below Ih hb.size))
  (fun cd=>Own.from (fun s A B row hs hg hr=>hs) _)
  ⟨k0,hb⟩
  (fun x _ _=>nomatch x)
  (fun x=>nomatch x)
  ?assign ?body ?done ?stop
 case assign=>exact fun l ad x=>nomatch x
 case body=>exact fun l ad x=>nomatch x
 case done=>
  rintro D ys W hD _ ⟨k0,hB⟩ hK;obtain⟨c1,f1⟩:=id k0;have al:w.heap.size<=D:=aO hb.size hD;have HI:=kq2 hB k0;clear hB k0 k1 k2 hb
  gi_wp2
  refine⟨by simp,.inl ⟨_,_,rfl,run_takeDeferred hK,?_⟩⟩;refine⟨.slice none 0 0,by simp[results,f139,go_sem],rfl,HI.a.trans (nN W D _ _ al hK rfl rfl)⟩
 case stop=>
  rintro D cd ad W hD ao hF;exact hF.elim
theorem sY(h:Ig w ps S Y):
 Cb 139 #[PV ps,.int .u64 0] w (.slice none 0 0):=callsIn_wide.1 (E0 h)
end
section
open Go.RowKit Tryz Go.BigFrame Go.Maps Go.WideMaps Lf
variable{R:Nat×Nat}{S:St}{Y:Nat->Prop}{kind:Nat}{ps:Nat}{w:World}{z:Nat}
theorem yT(h:Ig w ps S Y)(hi:Fv S):
 Cb 198 #[PV ps,.int .u64 0] w (.int .i64 0):=by
 have hc:=xS h hi;have hl:=fun W (hW:Below w.heap.size w W)=>sY (h.below hW);have HG:=kq2 hc hl;clear hc hl h hi;go_enter func198,ntmps198;go_wp2_with fail;refine HG.a.mono ?_;rintro e w1 ⟨rfl,ad⟩;have H1:=If ad;clear ad;go_wp2_with fail;refine(HG.b _ H1.out).mono ?_;rintro e w2 ⟨rfl,ai⟩;have H2:=If (H1.out.trans (ai.mono H1.out.size));clear ai;go_wp2_with fail
 go_loopw [7,8,9,10,21] (fun _ _ _ _ k wr=>k=.int .i64 0/\wr=w2) (fun _ _ _ _ _ _=>0)
 case atStart=>exact⟨rfl,rfl⟩
 case round=>
  obtain⟨rfl,rfl⟩:=hrel;go_wp2_with fail;go_ret;exact⟨rfl,H2.out⟩
structure nI (c:FuncId):Prop where
 enter:∀(args:Array Value) (w:World),(callFunc c args).run prog w=.ok (.enter c args) w
 call:∀{w:World} {ps:Nat} {S:St} {Y:Nat->Prop},Ig w ps S Y->Fv S->Ct c #[PV ps,.int .u64 0] w fun e w'=>e=.returned (.int .i64 0)/\Below w.heap.size w w'
theorem Ai:nI 198 where
 enter args w:=by go_simp
 call h hi:=yT h hi
theorem Dr(h:Ig w ps S Y)(hi:Fv S){j c:FuncId}(hk:j6 kind j c)(hc:nI c):
 Cb 137 #[PV ps,.int .i64 kind,.int .u64 0] w (.int .i64 0):=by
 have ha:=yG h hi hk;have an:=hc.enter;have al:=fun W (hW:Below w.heap.size w W)=>hc.call (h.below hW) hi;simp only[gS,eL] at ha;have HG:=kq2 ha al;clear ha al h hi hk hc;go_enter func137,ntmps137;go_wp2_with fail;refine HG.a.mono ?_;rintro e w1 ⟨rfl,ad⟩;have H1:=If (ad.alloc ad.size (.cells #[PV ps,.func (.func j) #[] #[],.func (.func c) #[] #[]] 265));clear ad;go_wp2_with fail;refine(HG.b _ H1.out).mono ?_;rintro e w2 ⟨rfl,ai⟩;have H2:=If (H1.out.trans (ai.mono H1.out.size));clear ai;go_wp2_with fail;go_ret;exact⟨rfl,H2.out⟩
theorem zY(h:Ig w ps S Y)(hi:Fv S)(hk:kind=1\/kind=2)(t:Int):
 Ct 135 #[PV ps,.int .i64 kind,.int .i64 t] w fun e w'=>e=.returned (.int .i64 0)/\w=w':=by
 have ad:=fB h hi 0 (by omega);rw[fU] at ad;have HG:=If ad;clear ad h hi
 rcases hk with rfl | rfl
 all_goals
  go_enter func135,ntmps135;go_wp2_with fail;refine HG.out.mono ?_;rintro e w1 ⟨rfl,rfl⟩;go_wp2_with fail;go_ret;exact⟨rfl,rfl⟩
structure jD (kind:Nat) (j c:FuncId) (jn:Jn):Prop where
 is:kind=1\/kind=2
 way:j6 kind j c
 joins:kW j jn
 checks:nI c
theorem qa(h:Ig w ps S Y)(hi:Fv S){j c:FuncId}{jn:Jn}(hk:jD kind j c jn)(t:Int):
 Cb 107 #[PV ps,.int .i64 kind,.int .i64 t,.int .u64 0] w (.int .i64 0):=by
 have ha:=zY h hi hk.is t;have hc:=Dr h hi hk.way hk.checks;have hq:((kind:Int)==3)=false:=by have:=hk.is;simp;omega
 have HG:=kq2 ha hc;clear ha hc h hi hk;go_enter func107,ntmps107;go_wp2_with fail;refine HG.a.mono ?_;rintro e w1 ⟨rfl,rfl⟩;go_wp2_with fail;refine HG.b.mono ?_;rintro e w2 ⟨rfl,ad⟩;have H2:=If ad;clear ad;go_wp2_with fail;go_ret;exact⟨rfl,H2.out⟩
theorem Aa(h:Ig w ps S Y)(hi:Fv S){j c:FuncId}{jn:Jn}(hk:jD kind j c jn)(t:Int):
 Cb 108 #[PV ps,.int .i64 kind,.int .i64 t,.int .u64 0] w (.tuple #[.slice none 0 0,.int .i64 0]):=by
 have hc:=qa h hi hk t;have hl:=fun W (hW:Below w.heap.size w W)=>sY (h.below hW);have hq:((kind:Int)==3)=false:=by have:=hk.is;simp;omega
 have HG:=kq2 hc hl;clear hc hl h hi hk;go_enter func108,ntmps108;go_wp2_with fail;refine HG.a.mono ?_;rintro e w1 ⟨rfl,ad⟩;have H1:=If ad;clear ad;go_wp2_with fail;refine(HG.b _ H1.out).mono ?_;rintro e w2 ⟨rfl,ai⟩;have H2:=If (H1.out.trans (ai.mono H1.out.size));clear ai;go_wp2_with fail
 go_loopw [11,13,14,15,41] (fun l0 _ _ _ k wr=>l0=.slice none 0 0/\k=.int .i64 0/\wr=w2) (fun _ _ _ _ _ _=>0)
 case atStart=>exact⟨rfl,rfl,rfl⟩
 case round=>
  obtain⟨rfl,rfl,rfl⟩:=hrel;go_wp2_with fail
  go_loopw [16,18,19,20,21,22,62] (fun l1 _ _ _ _ _ k wr'=>l1=.slice none 0 0/\k=.int .i64 0/\wr'=wr) (fun _ _ _ _ _ _ _ _=>0)
  case atStart=>exact⟨rfl,rfl,rfl⟩
  case round=>
   obtain⟨rfl,rfl,rfl⟩:=hrel;go_wp2_with fail;go_ret2;exact⟨rfl,H2.out⟩
theorem EW(h:Ig w ps S Y)(hi:Fv S)(root:Nat)(k:Int)(hk:k<0):
 Ct 292 #[PV ps,.int .u64 root,.int .i64 k] w fun e w'=>e=.returned (.tuple #[.int .u64 0,.int .i64 2])/\w=w':=by
 have ad:=fB h hi 0 (by omega);rw[fU] at ad;have HG:=If ad;clear ad h hi;go_enter func292,ntmps292;go_wp2_with fail;refine HG.out.mono ?_;rintro e w1 ⟨rfl,rfl⟩;go_wp2_with fail;go_ret2;exact⟨rfl,rfl⟩
theorem EV(h:Ig w ps S Y)(hi:Fv S)(root:Nat)(hl:root<2^64)(k:Nat)(hk:k<2^62)(hR:kD S root k=some R):
 Cb 292 #[PV ps,.int .u64 root,.int .i64 k] w (.tuple #[.int .u64 R.1,.int .i64 R.2]):=by
 have an:=fB h hi 0 (by omega);rw[fU] at an;unfold kD at hR
 cases hz:fY S root with
 | none=>rw[hz] at hR;cases hR
 | some z=>
 rw[hz] at hR;simp only at hR;have bv:z<2^62:=by have:=num_some hz;omega
 have al:=kP h hi root hl hz
 by_cases hzk:z<=k
 ·rw[if_pos hzk] at hR;have hR:=Option.some.inj hR;have bu:(z:Int)<=k:=by omega
  have HG:=kq3 an al hR;clear an al hR h hi hz hzk;go_enter func292,ntmps292;go_wp2_with fail;refine HG.a.mono ?_;rintro e w1 ⟨rfl,rfl⟩;go_wp2_with fail;refine HG.b.mono ?_;rintro e w1 ⟨rfl,hb⟩;have HB:=If hb;clear hb;go_wp2_with fail;go_ret2;obtain rfl:=HG.c;exact⟨rfl,HB.out⟩
 rw[if_neg hzk] at hR;have bu:(k:Int)<z:=by omega
 have bo:=nB h;have hL:limit S<=40000:=by unfold limit;omega
 obtain⟨L,a8⟩:=Ii (limit S);have a1:=fun W (hW:Below w.heap.size w W)=>sX (h.below hW);rw[a8] at a1 hL hR;have bd:=fun hh=>fs h hh;have HG:=kq7 an h hi hR bd al a1;clear an h hi hR bo a8 bd a1 al hz hzk;go_enter func292,ntmps292;go_wp2_with fail;refine HG.a.mono ?_;rintro e w1 ⟨rfl,rfl⟩;go_wp2_with fail;refine HG.f.mono ?_;rintro e w0 ⟨rfl,a'⟩;have ao:=If a';clear a';go_wp2_with fail;refine(HG.g _ ao.out).mono ?_;rintro e w1 ⟨rfl,ba⟩;have bf:=If (ao.out.trans (ba.mono ao.out.size));clear ba;go_wp2_with fail
 go_loopw [1,2,11,12,13,14] (fun r b i _ _ _ wr=>∃f root kk ii:Nat,r=.int .u64 root/\b=.int .i64 kk/\i=.int .i64 ii/\f+ii=L/\root<2^64/\kk<2^62/\Hid (j8 S f root kk=some R/\Below w.heap.size w wr)) (fun _ _ i _ _ _ _=>L-(intOf i).toNat)
 case atStart=>exact⟨L,root,k,0,rfl,rfl,rfl,by omega,hl,hk,HG.d,bf.out⟩
 case round=>
  obtain⟨f,root,kk,ii,rfl,rfl,rfl,hf,bt,bm,ad⟩:=hrel;have b1:ii<=40000:=by omega
  cases f with
  | zero=>
   have b2:ii=L:=by omega
   have a9:R=(0,2):=by have h9:=ad.out.1;rw[yK] at h9;exact(Option.some.inj h9).symm
   have HE:=kq2 a9 ad.out.2;have b0:(L:Int)<=ii:=by omega
   clear a9 ad;go_wp2_with fail;go_ret2;obtain rfl:=HE.a;exact⟨rfl,HE.b⟩
  | succ f=>
   have b4:(ii:Int)<L:=by omega
   have hd:=ad.out.1;rw[tF] at hd;have au:=HG.b.below ad.out.2;have hg:=iO au HG.c root bt;have a5:=HG.e root;obtain⟨⟨nd,er⟩,hE⟩:∃r,getNode S root=r:=⟨_,rfl⟩;rw[hE] at hg a5 hd;simp only at hg a5 hd;obtain⟨k0,k1,k2,k3,k4,k5⟩:=nd;obtain⟨n0,n1,n2,n3,n4,n5⟩:=a5;simp only at n0 n1 n2 n3 n4 n5;have a4:eS ⟨k0,k1,k2,k3,k4,k5⟩=.agg #[.int .u64 k0,.int .u64 k1,.int .u64 k2,.int .u64 k3,.int .u64 k4,.int .u64 k5]:=rfl;rw[a4] at hg
   cases er with
   | succ er=>
    rw[if_pos (by omega)] at hd;have hd:=Option.some.inj hd;have bs:(((er+1:Nat):Int) !=0)=true:=by simp;omega
    obtain⟨g1,bb⟩:=Ii (er+1);rw[bb] at hg bs;have HE:=kq3 hg hd ad.out.2;clear hg hd ad au hE bb a4;go_wp2_with fail;refine HE.a.mono ?_;rintro e w2 ⟨rfl,ai⟩;have bj:=If ((HE.c.trans (ai.mono HE.c.size)).alloc (aO HE.c.size ai.size) (.cells #[.int .u64 k0,.int .u64 k1,.int .u64 k2,.int .u64 k3,.int .u64 k4,.int .u64 k5] 232));clear ai;go_wp2_with fail;go_ret2;obtain rfl:=HE.b;exact⟨rfl,bj.out⟩
   | zero=>
    rw[if_neg (by omega)] at hd
    cases hz:fY S k2 with
    | none=>rw[hz] at hd;cases hd
    | some z=>
     rw[hz] at hd;simp only at hd;have bv:z<2^62:=by have:=num_some hz;omega
     have HE:=kq3 hg ad.out.2 hz;clear hg ad au hE hz;go_wp2_with fail;refine HE.a.mono ?_;rintro e w2 ⟨rfl,ai⟩;have ar:=(HE.b.trans (ai.mono HE.b.size)).alloc (aO HE.b.size ai.size) (.cells #[.int .u64 k0,.int .u64 k1,.int .u64 k2,.int .u64 k3,.int .u64 k4,.int .u64 k5] 232);have al:=kP (HG.b.below ar) HG.c k2 n2 HE.c;have hx:=heap_alloc_new w2 (.cells #[.int .u64 k0,.int .u64 k1,.int .u64 k2,.int .u64 k3,.int .u64 k4,.int .u64 k5] 232);have bc:w2.heap.size<(w2.alloc (.cells #[.int .u64 k0,.int .u64 k1,.int .u64 k2,.int .u64 k3,.int .u64 k4,.int .u64 k5] 232)).heap.size:=by simp
     have HK:=kq4 al ar hx bc;clear ai ar al hx bc a4;go_wp2_with fail;refine HK.a.mono ?_;rintro e w3 ⟨rfl,a0⟩;have a7:=HK.b.trans (a0.mono HK.b.size);have a6:=(a0.block _ HK.d).trans HK.c;have a2:w3.cell? ⟨w2.heap.size,2,none⟩=some (.int .u64 k2):=by rw[Fs a6];rfl
     have a3:w3.cell? ⟨w2.heap.size,3,none⟩=some (.int .u64 k3):=by rw[Fs a6];rfl
     have ap:=If a7;clear a0 a7 a6
     by_cases hc:kk<z
     ·rw[if_pos hc] at hd;have bk:(kk:Int)<z:=by omega
      have HD:=If hd;clear hd;go_wp2_with fail;go_roundw
      case rel=>exact⟨f,k2,kk,ii+1,rfl,rfl,by simp,by omega,n2,bm,HD.out,ap.out⟩
      case measure=>simp[intOf];omega
     ·rw[if_neg hc] at hd
      by_cases hc2:z<kk
      ·rw[if_pos hc2] at hd;have bk:(z:Int)<kk:=by omega
       have HD:=If hd;clear hd;go_wp2_with fail;go_roundw
       case rel=>exact⟨f,k3,kk-(z+1),ii+1,rfl,by rw[show ((kk-(z+1):Nat):Int)=(kk:Int)-((z:Int)+1) by omega],by simp,by omega,n3,by omega,HD.out,ap.out⟩
       case measure=>simp[intOf];omega
      ·rw[if_neg hc2] at hd;obtain rfl:kk=z:=by omega
       have hd:=Option.some.inj hd;have HD:=If hd;clear hd;go_wp2_with fail;go_ret2;obtain rfl:=HD.out;exact⟨rfl,ap.out⟩
theorem fA{W:World}{b c:Nat}(h:c≠b)(v0 v1:Value):((W.setCell ⟨b,0,none⟩ (v0)).setCell ⟨b,1,none⟩ (v1)).heap[c]?=W.heap[c]?:=by rw[FB h,FB h]
def fE(ps kind:Nat):Value:=.agg #[PV ps,.int .i64 kind]
def Id(k v:Nat):Value:=.agg #[.int .u64 k,.int .u64 v]
theorem zh(h:Ig w ps S Y)(hi:Fv S)(kind root:Nat)(hl:root<2^64)(hz:fY S root=some z):
 Cb 291 #[fE ps kind,.int .u64 root] w (.int .i64 z):=by
 have B0:=(aa w.heap.size w).alloc Ih (.cells #[PV ps,.int .i64 kind] 185);have hs:=kP (h.below B0) hi root hl hz;have HG:=kq2 hs B0;clear hs B0 h hi hz;simp only[fE];go_enter func291,ntmps291;go_wp2_with fail;refine HG.a.mono ?_;rintro e w1 ⟨rfl,ad⟩;have H1:=If (HG.b.trans (ad.mono HG.b.size));clear ad;go_wp2_with fail;go_ret;exact⟨rfl,H1.out⟩
theorem zf(h:Ig w ps S Y)(hi:Fv S)(kind root:Nat)(hl:root<2^64)(k:List UInt8)(hz:oP S root k=some z):
 Cb 289 #[fE ps kind,.int .u64 root,SV k] w (.int .i64 z):=by
 have B0:=(aa w.heap.size w).alloc Ih (.cells #[PV ps,.int .i64 kind] 185);have hs:=E1 (h.below B0) hi root hl k hz;have HG:=kq2 hs B0;clear hs B0 h hi hz;simp only[fE];go_enter func289,ntmps289;go_wp2_with fail;refine HG.a.mono ?_;rintro e w1 ⟨rfl,ad⟩;have H1:=If (HG.b.trans (ad.mono HG.b.size));clear ad;go_wp2_with fail;go_ret;exact⟨rfl,H1.out⟩
theorem my(h:Ig w ps S Y)(hi:Fv S)(kind hh:Nat)(hl:hh<2^64):
 Cb 293 #[fE ps kind,.int .u64 hh] w (Id (getNode S hh).1.key (getNode S hh).1.val):=by
 have B1:=(aa w.heap.size w).alloc Ih (.cells #[PV ps,.int .i64 kind] 185);have B0:=B1.alloc B1.size (.cells #[.int .u64 0,.int .u64 0] 137);have z1:=heap_alloc_new (w.alloc (.cells #[PV ps,.int .i64 kind] 185)) (.cells #[.int .u64 0,.int .u64 0] 137);simp only[World.size_alloc] at z1;have hg:=iO (h.below B0) hi hh hl;obtain⟨⟨⟨k0,k1,k2,k3,k4,k5⟩,er⟩,hE⟩:∃q,getNode S hh=q:=⟨_,rfl⟩;rw[hE] at hg⊢;simp only[eS] at hg;have HG:=kq3 hg B0 z1;clear hg B0 B1 h hi hE z1;simp only[fE,Id];go_enter func293,ntmps293;go_wp2_with fail;refine HG.a.mono ?_;rintro e w1 ⟨rfl,ai⟩;have ad:=ai.alloc ai.size (.cells #[.int .u64 k0,.int .u64 k1,.int .u64 k2,.int .u64 k3,.int .u64 k4,.int .u64 k5] 232);have q1:=heap_alloc_new w1 (.cells #[.int .u64 k0,.int .u64 k1,.int .u64 k2,.int .u64 k3,.int .u64 k4,.int .u64 k5] 232);have z1:=(ad.block (w.heap.size+1) (by simp)).trans HG.c;have B1:=HG.b.trans (ad.mono HG.b.size);clear ai ad;obtain⟨c0,c1⟩:=Fp z1;obtain⟨f0,f1⟩:=ef z1;have HW:=kq2 B1 z1;clear B1 z1 q1;go_wp2_with fail;have q3:=ew HW.b (.int .u64 k0) (.int .u64 k1);have B3:=eT HW.a (bM w.heap.size) (.int .u64 k0) (.int .u64 k1);generalize (((w1.alloc (.cells #[.int .u64 k0,.int .u64 k1,.int .u64 k2,.int .u64 k3,.int .u64 k4,.int .u64 k5] 232)).setCell ⟨(w.heap.size+1),0,none⟩ (.int .u64 k0)).setCell ⟨(w.heap.size+1),1,none⟩ (.int .u64 k1))=W3 at*;obtain⟨e0,e1⟩:=Fp q3;exact bodyPost_ret (v:=.agg #[.int .u64 k0,.int .u64 k1]) (by simp[results,f293,go_sem,e0,e1]) rfl ⟨rfl,B3⟩
theorem tK(h:Ig w ps S Y)(hi:Fv S)(kind root:Nat)(hl:root<2^64)(k:Nat)(hk:k<2^62)(hR:kD S root k=some R)(hR1:R.1<2^64):
 Cb 286 #[fE ps kind,.int .u64 root,.int .i64 k] w (.tuple #[Id (getNode S R.1).1.key (getNode S R.1).1.val,.int .i64 R.2]):=by
 have B1:=(aa w.heap.size w).alloc Ih (.cells #[PV ps,.int .i64 kind] 185);have q1:=heap_alloc_new w (.cells #[PV ps,.int .i64 kind] 185);have B0:=B1.alloc B1.size (.cells #[.int .u64 0,.int .u64 0] 137);have z1:=heap_alloc_new (w.alloc (.cells #[PV ps,.int .i64 kind] 185)) (.cells #[.int .u64 0,.int .u64 0] 137);have q1:=(((aa (w.alloc (.cells #[PV ps,.int .i64 kind] 185)).heap.size (w.alloc (.cells #[PV ps,.int .i64 kind] 185))).alloc Ih (.cells #[.int .u64 0,.int .u64 0] 137)).block w.heap.size (by simp)).trans q1;simp only[World.size_alloc] at z1;have ha:=EV (h.below B0) hi root hl k hk hR;have ai:=fun W (hW:Below w.heap.size w W)=>my (h.below hW) hi kind R.1 hR1;simp only[Id,fE] at ai⊢;generalize (getNode S R.1).1.key=k0 at*;generalize (getNode S R.1).1.val=k1 at*;obtain⟨r,er⟩:=R;simp only at ha ai⊢;have HG:=kq5 ha ai B0 z1 q1;clear ha ai B0 B1 h hi hR z1 q1 hR1;go_enter func286,ntmps286;go_wp2_with fail;refine HG.a.mono ?_;rintro e w1 ⟨rfl,ad⟩;have z1:=(ad.block (w.heap.size+1) (by simp)).trans HG.d;have q1:=(ad.block w.heap.size (by simp;omega)).trans HG.e;obtain⟨c0,c1⟩:=Fp q1;have H1:=kq2 (HG.c.trans (ad.mono HG.c.size)) z1;clear ad z1 q1;go_wp2_with fail;refine(HG.b _ H1.a).mono ?_;rintro e w2 ⟨rfl,al⟩;have z2:=(al.block (w.heap.size+1) (gl H1.b)).trans H1.b;obtain⟨d0,d1⟩:=Fp z2;obtain⟨f0,f1⟩:=ef z2;have HW:=kq2 (H1.a.trans (al.mono H1.a.size)) z2;clear al z2 c0 c1;go_wp2_with fail;have q3:=ew HW.b (.int .u64 k0) (.int .u64 k1);have B3:=eT HW.a (bM w.heap.size) (.int .u64 k0) (.int .u64 k1);generalize ((w2.setCell ⟨(w.heap.size+1),0,none⟩ (.int .u64 k0)).setCell ⟨(w.heap.size+1),1,none⟩ (.int .u64 k1))=W3 at*;obtain⟨e0,e1⟩:=Fp q3;exact bodyPost_ret (v:=.tuple #[.agg #[.int .u64 k0,.int .u64 k1],.int .i64 er]) (by simp[results,f286,go_sem,e0,e1]) rfl ⟨rfl,B3⟩
theorem pO(S:St):fZ S 0=7:=by
 unfold fZ;rw[fU];rfl
theorem qM(S:St):getNode S 0=(Nd.zero,7):=by
 unfold getNode;rw[pO];rfl
theorem zk(h:Ig w ps S Y)(hi:Fv S)(kind:Nat):
 Cb 297 #[fE ps kind,.int .u64 0] w (.tuple #[Id 0 0,.bool false]):=by
 have B1:=(aa w.heap.size w).alloc Ih (.cells #[PV ps,.int .i64 kind] 185);have q1:=heap_alloc_new w (.cells #[PV ps,.int .i64 kind] 185);have B0:=B1.alloc B1.size (.cells #[.int .u64 0,.int .u64 0] 137);have z1:=heap_alloc_new (w.alloc (.cells #[PV ps,.int .i64 kind] 185)) (.cells #[.int .u64 0,.int .u64 0] 137);have q1:=(((aa (w.alloc (.cells #[PV ps,.int .i64 kind] 185)).heap.size (w.alloc (.cells #[PV ps,.int .i64 kind] 185))).alloc Ih (.cells #[.int .u64 0,.int .u64 0] 137)).block w.heap.size (by simp)).trans q1;simp only[World.size_alloc] at z1;have al:=my (h.below B0) hi kind 0 (by decide);have ap:=fun W (hW:Below w.heap.size w W)=>vT (h.below hW) hi 0 (by decide) (by rw[pO];decide);rw[qM] at al;rw[pO] at ap;simp only[Id,fE,Nd.zero] at al⊢;have HG:=kq5 al ap B0 z1 q1;clear al ap B0 B1 h hi z1 q1;go_enter func297,ntmps297;go_wp2_with fail;refine HG.a.mono ?_;rintro e w1 ⟨rfl,ai⟩;have ad:=ai.alloc ai.size (.cells #[.int .u64 0,.int .u64 0] 137);have y1:=heap_alloc_new w1 (.cells #[.int .u64 0,.int .u64 0] 137);have z1:=(ad.block (w.heap.size+1) (by simp)).trans HG.d;have q1:=(ad.block w.heap.size (by simp;omega)).trans HG.e;have B2:=HG.c.trans (ad.mono HG.c.size);go_wp2_with fail;generalize w1.alloc (.cells #[.int .u64 0,.int .u64 0] 137)=W at*;obtain⟨I,an,ao⟩:∃I:World->Prop,(∀w',I w'->w'.heap[w.heap.size]?=some (.cells #[PV ps,.int .i64 kind] 185)/\w'.heap[w1.heap.size]?=some (.cells #[.int .u64 0,.int .u64 0] 137))/\(∀w',w'.heap[w.heap.size]?=some (.cells #[PV ps,.int .i64 kind] 185)->w'.heap[w1.heap.size]?=some (.cells #[.int .u64 0,.int .u64 0] 137)->I w'):=⟨fun w'=>w'.heap[w.heap.size]?=some (.cells #[PV ps,.int .i64 kind] 185)/\w'.heap[w1.heap.size]?=some (.cells #[.int .u64 0,.int .u64 0] 137),fun _ h=>h,fun _ a b=>⟨a,b⟩⟩;have ar:=fun x:Fq I=>(an _ x.ok).1;have au:=fun x:Fq I=>(an _ x.ok).2;obtain⟨a2,a3⟩:=fw ar;obtain⟨a4,a5⟩:=fw au;obtain⟨e0,e1⟩:=Fp z1;obtain⟨f0,f1⟩:=ef z1;have a1:w1.heap.size≠w.heap.size+1:=by have:=ai.size;simp at this;omega
 have HW:=kq4 B2 z1 q1 y1;have HI:=If ao;have a0:I W.drew:=ao _ q1 y1;clear B2 z1 q1 y1 ai ad ar au an ao;refine nF I [(true,0),(true,1),(true,2),(true,3),(false,4),(true,5),(false,6),(false,7)] (by kernel_rfl) (by kernel_rfl) a0 ?_
 iterate 4
  refine' mT ?_ ?_;rotate_left
  ·intro x;go_simp
   try rfl
  try simp only[pu]
 refine mD fun K hK=>?_;go_simp;refine(HG.b _ HW.a.drew).mono ?_;rintro e w3 ⟨rfl,rfl⟩
 try go_simp
 refine hK.out _ _ (HI.out _ HW.c HW.d) ?_;clear hK K
 try simp only[pu]
 refine' mT ?_ ?_;rotate_left
 ·intro x;go_simp
  try rfl
 try simp only[pu]
 refine mD fun K hK=>?_;go_simp;have q3:((W.setCell ⟨(w.heap.size+1),0,none⟩ (.int .u64 0)).setCell ⟨(w.heap.size+1),1,none⟩ (.int .u64 0)).drew.heap[w.heap.size+1]?=_:=ew HW.b (.int .u64 0) (.int .u64 0);have B3:=(eT HW.a (bM w.heap.size) (.int .u64 0) (.int .u64 0)).drew;have r3:((W.setCell ⟨(w.heap.size+1),0,none⟩ (.int .u64 0)).setCell ⟨(w.heap.size+1),1,none⟩ (.int .u64 0)).drew.heap[w.heap.size]?=_:=(fA (by omega) (.int .u64 0) (.int .u64 0)).trans HW.c;have y3:((W.setCell ⟨(w.heap.size+1),0,none⟩ (.int .u64 0)).setCell ⟨(w.heap.size+1),1,none⟩ (.int .u64 0)).drew.heap[w1.heap.size]?=_:=(fA a1 (.int .u64 0) (.int .u64 0)).trans HW.d;generalize ((W.setCell ⟨(w.heap.size+1),0,none⟩ (.int .u64 0)).setCell ⟨(w.heap.size+1),1,none⟩ (.int .u64 0)).drew=W3 at*
 try go_simp
 refine hK.out _ _ (HI.out _ r3 y3) ?_;clear hK K
 try simp only[pu]
 refine mD fun K hK=>?_;go_simp
 try go_simp
 refine hK.out _ _ (HI.out _ r3 y3) ?_;clear hK K
 try simp only[pu]
 refine mX ?_;obtain⟨g0,g1⟩:=Fp q3;clear e0 e1 f0 f1 q3 r3 y3;have HB:=If B3;clear B3;go_wp2_with fail;exact bodyPost_ret (v:=.tuple #[.agg #[.int .u64 0,.int .u64 0],.bool false]) (by simp[results,f297,go_sem,g0,g1]) rfl ⟨rfl,HB.out⟩
theorem Ig.write{w w':World}{b:Nat}{cs:Array Value}{t:TypeId}{fr:Nat×Nat}(h:Ig w ps S Y)(hy:Y b)(hb:w.heap[b]?=some (.cells cs t fr))(ht:t≠130/\t≠177)(hz:cs.size<64)
 (hs:w.heap.size<=w'.heap.size) (hw:∀k,k<w.heap.size->k≠b->w'.heap[k]?=w.heap[k]?):Ig w' ps S Y:=by
 obtain⟨pa,pm,ph,pt,v,h⟩:=h;refine⟨pa,pm,ph,pt,v,h.of_keep hs fun k hk hc=>hw k hk ?_⟩;rintro rfl;rcases hc with hc | rfl | rfl | rfl
 ·exact hc hy
 ·have:=h.hd;rw[hb] at this;injection this with this
  injection this with _ this
  exact ht.1 this
 ·have:=h.heap.hp;rw[hb] at this;injection this with this
  injection this with _ this
  exact ht.2 this
 ·have:=h.heap.tab 63 (by decide);rw[Fs hb,cY (by omega)] at this;cases this
def Lf.binInsM(jn:Jn)(S:St)(root k v:Nat):Option (Nat×St):=
 if(ft S ⟨k,v,0,0,0,1⟩).1.2≠0 then none
 else match insertOkM jn (ft S ⟨k,v,0,0,0,1⟩).2 root (ft S ⟨k,v,0,0,0,1⟩).1.1 with
  | none=>none
  | some ((now,old),S1)=>if old=0 then some (now,S1) else none
theorem y8{jn:Jn}{S S':St}{root k v x:Nat}(h:binInsM jn S root k v=some (x,S')):
 (ft S ⟨k,v,0,0,0,1⟩).1.2=0/\insertOkM jn (ft S ⟨k,v,0,0,0,1⟩).2 root (ft S ⟨k,v,0,0,0,1⟩).1.1=some ((x,0),S'):=by
 unfold binInsM at h
 split at h
 ·cases h
 ·rename_i h0
  split at h
  ·cases h
  ·rename_i now old S1 h1
   split at h
   ·rename_i h2;have h:=Option.some.inj h
    injection h with e1 e2
    subst e1 e2 h2;exact⟨de.1 h0,h1⟩
   ·cases h
theorem Cr(S:St)(n:Nd):(ft S n).1.1=(S.make 6).1.1\/(ft S n).1.1=0:=by
 unfold ft
 split
 ·rename_i h s1 e
  left;rw[e]
 ·right;rfl
theorem vA(hw:iW S.t)(n:Nd):(ft S n).1.1<2^64:=by
 rcases Cr S n with e | e
 ·rw[e];exact oA hw 6
 ·rw[e];decide
theorem vz(hm:iw S 6)(n:Nd):Fv (ft S n).2:=by
 have h2:=hm.2;unfold ft
 split
 ·rename_i h s1 e;rw[e] at h2;exact rT h2 _ _
 ·rename_i e0 h er s1 e;rw[e] at h2;exact h2
theorem zc{S S':St}(h:Ig w ps S Y)(hm:iw S 6){j c:FuncId}{jn:Jn}(hk:jD kind j c jn)(root k v:Nat)(hl:root<2^64)(hkl:k<2^64)(hvl:v<2^64){x:Nat}(hx:binInsM jn S root k v=some (x,S')):
 Ct 288 #[fE ps kind,.int .u64 root,Id k v] w fun e w'=>e=.returned (.tuple #[.int .u64 x,Id 0 0,.bool false,.int .i64 0])/\Ig w' ps S' Y/\Fo Y w w'/\Fv S'/\x<2^64:=by
 obtain⟨h0,h1⟩:=y8 hx;have ao:=vz hm ⟨k,v,0,0,0,1⟩;have a2:=vA h.tabwf ⟨k,v,0,0,0,1⟩;have al:=fun W Z (hW:Ig W ps S Z)=>vU hW hm ⟨k,v,0,0,0,1⟩ ⟨hkl,hvl,by simp,by simp,by simp,by simp⟩;generalize ft S ⟨k,v,0,0,0,1⟩=M at*;obtain⟨⟨m,em⟩,S1⟩:=M;simp only at h0 h1 ao a2 al;subst h0;have a1:=fun W Z (hW:Ig W ps S1 Z)=>wk hW ao hk.joins hk.way root m hl a2 h1;have ap:=fun W Z (hi2:Fv S') (hW:Ig W ps S' Z)=>zk hW hi2 kind;simp only[fE,Id,eS] at al ap⊢;have B1:=(aa w.heap.size w).alloc Ih (.cells #[PV ps,.int .i64 kind] 185);have q1:=heap_alloc_new w (.cells #[PV ps,.int .i64 kind] 185);generalize a3:w.alloc (.cells #[PV ps,.int .i64 kind] 185)=w1 at*;have z1:w1.heap.size=w.heap.size+1:=by rw[<-a3];simp
 have A2:=(aa w1.heap.size w1).alloc Ih (.cells #[.int .u64 k,.int .u64 v] 137);have B2:=B1.alloc B1.size (.cells #[.int .u64 k,.int .u64 v] 137);have q2:=(A2.block w.heap.size (by omega)).trans q1;have z2:(w1.alloc (.cells #[.int .u64 k,.int .u64 v] 137)).heap.size=w.heap.size+2:=by simp[z1]
 generalize a7:w1.alloc (.cells #[.int .u64 k,.int .u64 v] 137)=w2 at*;have A3:=(aa w2.heap.size w2).alloc Ih (.cells #[.int .u64 0,.int .u64 0] 137);have q3:=(A3.block w.heap.size (by omega)).trans q2;have B3:=B2.alloc B2.size (.cells #[.int .u64 0,.int .u64 0] 137);have y3:=heap_alloc_new w2 (.cells #[.int .u64 0,.int .u64 0] 137);rw[z2] at y3;have z3:(w2.alloc (.cells #[.int .u64 0,.int .u64 0] 137)).heap.size=w.heap.size+3:=by simp[z2]
 subst a7 a3;have hY:=h.yl;have HG:=kq9 al a1 ap (h.wide B3) q3 y3 z3 B3 hY;clear al a1 ap h q1 q2 q3 y3 A2 A3 B1 B2 B3 z1 z2 z3 ao h1 hm hk hY hx;go_enter func288,ntmps288;go_wp2_with fail;refine(HG.a _ _ HG.d).mono ?_;rintro e w4 ⟨rfl,h4,k4⟩;have q4:=(k4.block w.heap.size (ae ⟨Nat.le_refl _,by have:=HG.g;omega⟩)).trans HG.e;have y4:=(k4.block (w.heap.size+2) (ae ⟨by omega,by have:=HG.g;omega⟩)).trans HG.f;obtain⟨c0,c1⟩:=Fp q4;have H4:=kq4 h4 k4 q4 y4;clear h4 k4 q4 y4;go_wp2_with fail;obtain⟨hp,a0,a4,-⟩:=HG.b _ _ H4.a;refine hp.mono ?_;rintro e w5 ⟨rfl,h5,k5⟩;have q5:=(k5.block w.heap.size (ae ⟨Nat.le_refl _,by have:=HG.g;omega⟩)).trans H4.c;have y5:=(k5.block (w.heap.size+2) (ae ⟨by omega,by have:=HG.g;omega⟩)).trans H4.d;obtain⟨d0,d1⟩:=Fp q5;have H5:=kq5 h5 (H4.b.trans k5) a0 a4 y5;clear h5 k5 q5 y5 hp a0 a4 c0 c1;go_wp2_with fail;refine(HG.c _ _ H5.c H5.a).mono ?_;rintro e w6 ⟨rfl,ai⟩;have y6:=(ai.block (w.heap.size+2) (gl H5.e)).trans H5.e;obtain⟨e0,e1⟩:=Fp y6;obtain⟨f0,f1⟩:=ef y6;have q7:((w6.setCell ⟨(w.heap.size+2),0,none⟩ (.int .u64 0)).setCell ⟨(w.heap.size+2),1,none⟩ (.int .u64 0)).heap[w.heap.size+2]?=_:=ew y6 (.int .u64 0) (.int .u64 0);have o7:∀k,k≠w.heap.size+2->((w6.setCell ⟨(w.heap.size+2),0,none⟩ (.int .u64 0)).setCell ⟨(w.heap.size+2),1,none⟩ (.int .u64 0)).heap[k]?=w6.heap[k]?:=fun k hk=>fA hk _ _;have z7:((w6.setCell ⟨(w.heap.size+2),0,none⟩ (.int .u64 0)).setCell ⟨(w.heap.size+2),1,none⟩ (.int .u64 0)).heap.size=w6.heap.size:=by simp
 have s7:((w6.setCell ⟨(w.heap.size+2),0,none⟩ (.int .u64 0)).setCell ⟨(w.heap.size+2),1,none⟩ (.int .u64 0)).os=w6.os/\((w6.setCell ⟨(w.heap.size+2),0,none⟩ (.int .u64 0)).setCell ⟨(w.heap.size+2),1,none⟩ (.int .u64 0)).tape=w6.tape/\((w6.setCell ⟨(w.heap.size+2),0,none⟩ (.int .u64 0)).setCell ⟨(w.heap.size+2),1,none⟩ (.int .u64 0)).output=w6.output:=⟨rfl,rfl,rfl⟩;have a8:∀k,Y k->k<w.heap.size:=HG.i;have h6:=H5.a.below ai;have k6:=H5.b.trans (H5.a.keep ai);have H6:=kq9 h6 k6 H5.c H5.d y6 q7 o7 z7 s7;clear ai y6 d0 d1 h6 k6 o7 z7 s7 q7;go_wp2_with fail;generalize ((w6.setCell ⟨(w.heap.size+2),0,none⟩ (.int .u64 0)).setCell ⟨(w.heap.size+2),1,none⟩ (.int .u64 0))=w7 at*;have q7:=H6.f;obtain⟨I,ar,an⟩:∃I:World->Prop,(∀w',I w'->w'.heap[w.heap.size+2]?=some (.cells #[.int .u64 0,.int .u64 0] 137))/\(∀w',w'.heap[w.heap.size+2]?=some (.cells #[.int .u64 0,.int .u64 0] 137)->I w'):=⟨fun w'=>w'.heap[w.heap.size+2]?=some (.cells #[.int .u64 0,.int .u64 0] 137),fun _ h=>h,fun _ a=>a⟩;have a5:=fun x:Fq I=>ar _ x.ok;obtain⟨m0,m1⟩:=fw a5;obtain⟨g0,g1⟩:=Fp q7;obtain⟨h0,h1⟩:=ef q7;have HI:=If an;have a6:I w7.drew:=an _ q7;have HQ:=If q7;clear e0 e1 f0 f1 q7 ar an a5;refine nF I [(true,0),(true,1),(true,2),(true,3),(false,4),(false,5),(false,6),(false,7)] (by kernel_rfl) (by kernel_rfl) a6 ?_
 iterate 4
  refine' mT ?_ ?_;rotate_left
  ·intro x;go_simp
   try rfl
  try simp only[pu]
 refine mD fun K hK=>?_;go_simp
 try go_simp
 refine hK.out _ _ (HI.out _ HQ.out) ?_;clear hK K
 try simp only[pu]
 refine mD fun K hK=>?_;go_simp;have q8:((w7.setCell ⟨(w.heap.size+2),0,none⟩ (.int .u64 0)).setCell ⟨(w.heap.size+2),1,none⟩ (.int .u64 0)).drew.heap[w.heap.size+2]?=_:=ew HQ.out (.int .u64 0) (.int .u64 0);have o8:∀k,k≠w.heap.size+2->((w7.setCell ⟨(w.heap.size+2),0,none⟩ (.int .u64 0)).setCell ⟨(w.heap.size+2),1,none⟩ (.int .u64 0)).drew.heap[k]?=w7.heap[k]?:=fun k hk=>fA hk _ _;have z8:((w7.setCell ⟨(w.heap.size+2),0,none⟩ (.int .u64 0)).setCell ⟨(w.heap.size+2),1,none⟩ (.int .u64 0)).drew.heap.size=w7.heap.size:=by show ((w7.setCell ⟨(w.heap.size+2),0,none⟩ (.int .u64 0)).setCell ⟨(w.heap.size+2),1,none⟩ (.int .u64 0)).heap.size=_;simp
 have s8:((w7.setCell ⟨(w.heap.size+2),0,none⟩ (.int .u64 0)).setCell ⟨(w.heap.size+2),1,none⟩ (.int .u64 0)).drew.os=w7.os/\((w7.setCell ⟨(w.heap.size+2),0,none⟩ (.int .u64 0)).setCell ⟨(w.heap.size+2),1,none⟩ (.int .u64 0)).drew.tape=w7.tape/\((w7.setCell ⟨(w.heap.size+2),0,none⟩ (.int .u64 0)).setCell ⟨(w.heap.size+2),1,none⟩ (.int .u64 0)).drew.output=w7.output:=⟨rfl,rfl,rfl⟩;generalize ((w7.setCell ⟨(w.heap.size+2),0,none⟩ (.int .u64 0)).setCell ⟨(w.heap.size+2),1,none⟩ (.int .u64 0)).drew=w8 at*
 try go_simp
 refine hK.out _ _ (HI.out _ q8) ?_;clear hK K
 try simp only[pu]
 refine mD fun K hK=>?_;go_simp
 try go_simp
 refine hK.out _ _ (HI.out _ q8) ?_;clear hK K
 try simp only[pu]
 refine mD fun K hK=>?_;go_simp
 try go_simp
 refine hK.out _ _ (HI.out _ q8) ?_;clear hK K
 try simp only[pu]
 refine mX ?_;obtain⟨e0,e1⟩:=Fp q8;have au:Ig w8 ps S' Y/\Fo Y w w8:=by
  obtain⟨h6,k6,-,-,y6,-,o7,z7,s7⟩:=H6.out;have hY:=HG.i;have hz:=HG.g;have hw:∀k,k≠w.heap.size+2->w8.heap[k]?=w6.heap[k]?:=fun k hk=>(o8 k hk).trans (o7 k hk);refine⟨(h6.write (ae ⟨by omega,by omega⟩) y6 ⟨by decide,by decide⟩ (by simp) (by omega) fun k _ hk=>hw k hk).mono fun k hk=>ab hk,?_⟩;have ad:=(Fo.of_below HG.h hY).trans (k6.mono fun k hk=>ab hk);exact⟨(s8.1.trans s7.1).trans ad.os,(s8.2.1.trans s7.2.1).trans ad.tape,(s8.2.2.trans s7.2.2).trans ad.output,by have:=ad.size;omega,fun k hk=>(hw k (by have:=hY k hk;omega)).trans (ad.block k hk)⟩
 have HF:=If au;clear au q8 o8 z8 s8 g0 g1 h0 h1 m0 m1;go_wp2_with fail;exact bodyPost_ret (v:=.tuple #[.int .u64 x,.agg #[.int .u64 0,.int .u64 0],.bool false,.int .i64 0]) (by simp[results,f288,go_sem,e0,e1]) rfl ⟨rfl,HF.out.1,HF.out.2,H6.c,H6.d⟩
def tt(w:World)(px ps kind root:Nat):Prop:=w.heap[px]?=some (.cells #[PV ps,.int .i64 kind,.int .i64 0,.iface 185 (fE ps kind),.int .u64 root] 134)
theorem Da(f:Nat)(v:Value)(w:World):(method (f+1) 185 v "loft/backend.size").run prog w=.ok (291,v) w:=by kernel_rfl
theorem C9(f:Nat)(v:Value)(w:World):(method (f+1) 185 v "loft/backend.rank").run prog w=.ok (289,v) w:=by kernel_rfl
theorem rI(f:Nat)(v:Value)(w:World):(method (f+1) 185 v "loft/backend.at").run prog w=.ok (286,v) w:=by kernel_rfl
theorem vQ(f:Nat)(v:Value)(w:World):(method (f+1) 185 v "loft/backend.insert").run prog w=.ok (288,v) w:=by kernel_rfl
theorem lB(A B:World->Prop):∃I:World->Prop,(∀w',I w'->A w'/\B w')/\(∀w',A w'->B w'->I w'):=⟨fun w'=>A w'/\B w',fun _ h=>h,fun _ a b=>⟨a,b⟩⟩
def Lf.treeAtM(S:St)(root k:Nat):Option (List UInt8×List UInt8):=
 match kD S root k with
 | none=>none
 | some (h,e)=>if e≠0\/18446744073709551616<=h then none else
  match gD S (getNode S h).1.key,gD S (getNode S h).1.val with
  | some a,some b=>some (a,b)
  | _,_=>none
theorem EQ{root k:Nat}{p:List UInt8×List UInt8}(h:treeAtM S root k=some p):∃hh,hh<2^64/\kD S root k=some (hh,0)/\gD S (getNode S hh).1.key=some p.1/\gD S (getNode S hh).1.val=some p.2:=by
 unfold treeAtM at h
 split at h
 ·cases h
 rename_i hh e h1
 split at h
 ·cases h
 rename_i hc;simp only[not_or,de,Nat.not_le] at hc
 split at h
 ·rename_i a b h2 h3;have h:=Option.some.inj h;subst h;exact⟨hh,hc.2,by rw[h1,hc.1],h2,h3⟩
 ·cases h
def eu(p:List UInt8×List UInt8):Value:=.agg #[SV p.1,SV p.2]
theorem sS{hh:Nat}{t:List UInt8}(h:gD S hh=some t):(fz S hh).2≠8/\(fz S hh).1=t:=by
 unfold gD at h
 split at h
 ·cases h
 ·rename_i h8;exact⟨h8,Option.some.inj h⟩
theorem sV(px k v:Nat)(w:World):
 Cb 83 #[PV px,Id k v,.bool false] w (.string ⟨#[]⟩):=by
 simp only[Id];go_enter func83,ntmps83;go_wp2_with fail;go_ret;exact⟨rfl,(aa _ w).alloc Ih _⟩
def Lf.itemsM(S:St)(a b:List UInt8):Option ((Nat×Nat)×St):=
 if(fx S a).1.2≠0\/(fx (fx S a).2 b).1.2≠0 then none
 else some (((fx S a).1.1,(fx (fx S a).2 b).1.1),(fx (fx S a).2 b).2)
def nJ(S:St)(a b:List UInt8):Prop:=a.length<=1000/\b.length<=1000/\iw S (many a.length)/\iw (fx S a).2 (many b.length)
theorem wu{a:List UInt8}(hm:iw S (many a.length))(hi:Fv S):Fv (fx S a).2:=by
 have h2:=hm.2;unfold fx
 split
 ·exact hi
 ·split
  ·rename_i e;rw[e] at h2;exact(rV _ _ _ 0 h2).1
  ·rename_i e;rw[e] at h2;exact h2
theorem wv(hw:iW S.t)(a:List UInt8):(fx S a).1.1<2^64:=by
 have:=oA hw (many a.length);unfold fx
 split
 ·simp
 ·split
  ·rename_i e;rw[e] at this;exact this
  ·simp
theorem BI{S S':St}{a b:List UInt8}{p:Nat×Nat}(h:itemsM S a b=some (p,S')):(fx S a).1=(p.1,0)/\(fx (fx S a).2 b).1=(p.2,0)/\S'=(fx (fx S a).2 b).2:=by
 unfold itemsM at h
 split at h
 ·cases h
 ·rename_i hc;simp only[not_or,de] at hc;have h:=Option.some.inj h
  injection h with e1 e2
  subst e1 e2;exact⟨Prod.ext rfl hc.1,Prod.ext rfl hc.2,rfl⟩
def Lf.treePutM(jn:Jn)(S:St)(root:Nat)(a b:List UInt8):Option (Nat×St):=
 match itemsM S a b with
 | none=>none
 | some (p,S1)=>binInsM jn S1 root p.1 p.2
def pJ(S:St)(a b:List UInt8):Prop:=nJ S a b/\∀p S1,itemsM S a b=some (p,S1)->iw S1 6
theorem ET(h:Ig w ps S Y)(hi:Fv S){j c:FuncId}{jn:Jn}(hk:jD kind j c jn)(t:Int):
 Ct 84 #[PV ps,.int .i64 kind,.int .i64 t,.int .u64 0] w fun e w'=>∃px,e=.returned (.tuple #[PV px,.int .i64 0])/\tt w' px ps kind 0/\Below w.heap.size w w'/\w.heap.size<=px:=by
 have hc:=qa h hi hk t;have hq:((kind:Int)==3)=false:=by have:=hk.is;simp;omega
 have HG:=If hc;clear hc h hi hk;go_enter func84,ntmps84;go_wp2_with fail;refine HG.out.mono ?_;rintro e w1 ⟨rfl,ad⟩;have q:=heap_alloc_new w1 (.cells #[PV ps,.int .i64 kind,.int .i64 0,.iface 185 (fE ps kind),.int .u64 0] 134);have B:=ad.alloc ad.size (.cells #[PV ps,.int .i64 kind,.int .i64 0,.iface 185 (fE ps kind),.int .u64 0] 134);simp only[fE] at q B;have HB:=kq3 q B ad.size;clear q B ad;go_wp2_with fail;go_ret2;exact⟨w1.heap.size,rfl,HB.a,HB.b,HB.c⟩
theorem ES(h:Ig w ps S Y)(hi:Fv S){j c:FuncId}{jn:Jn}(hk:jD kind j c jn)(t:Int):
 Ct 59 #[PV ps,.int .i64 kind,.int .i64 t] w fun e w'=>∃px,e=.returned (.tuple #[PV px,.int .i64 0])/\tt w' px ps kind 0/\Below w.heap.size w w'/\w.heap.size<=px:=by
 have HG:=If (ET h hi hk t);clear h hi hk;go_enter func59,ntmps59;go_wp2_with fail;refine HG.out.mono ?_;rintro e w1 ⟨px,rfl,hr⟩;have HB:=If hr;clear hr;go_wp2_with fail;go_ret2;exact⟨px,rfl,HB.out⟩
def Ic(w:World)(pm px ps limit:Nat):Prop:=w.heap[pm]?=some (.cells #[PV ps,PV px,.int .i64 limit] 92)
theorem Ic.below{w w':World}{pm px ps limit:Nat}(h:Ic w pm px ps limit)(hb:Below w.heap.size w w'):Ic w' pm px ps limit:=(hb.block pm (gl h)).trans h
theorem ki{pm px ps limit:Nat}(hM:Ic w pm px ps limit):
 Ct 48 #[PV pm] w fun e w'=>e=.returned (.bool false)/\w=w':=by
 unfold Ic at hM;obtain⟨c0,c1,c2⟩:=fq hM;clear hM;go_enter func48,ntmps48;go_wp2_with fail;go_ret;exact⟨rfl,rfl⟩
theorem vH{pm px ps limit:Nat}(hM:Ic w pm px ps limit)(a b:List UInt8)(ha:a.length<=limit)(hb:b.length<=limit):
 Ct 57 #[PV pm,SV a,SV b] w fun e w'=>e=.returned (.int .i64 0)/\w=w':=by
 have HG:=If (ki hM);unfold Ic at hM;obtain⟨c0,c1,c2⟩:=fq hM;have ad:((limit:Int)<(a.length:Int))=False:=eq_false (by omega);have ai:((limit:Int)<(b.length:Int))=False:=eq_false (by omega);clear hM ha hb;go_enter func57,ntmps57;go_wp2_with fail;refine HG.out.mono ?_;rintro e w1 ⟨rfl,rfl⟩;go_wp2_with fail;go_ret;exact⟨rfl,rfl⟩
theorem EX(h:Ig w ps S Y)(hi:Fv S)(root:Nat)(hl:root<2^64)(k:List UInt8)(hR:ij S k (limit S) root 0=some R):
 Cb 294 #[PV ps,.int .u64 root,SV k] w (.tuple #[.int .u64 R.1,.bool (decide (R.1≠0))]):=by
 have HG:=If (xT h hi root hl k hR);obtain⟨a,b⟩:=R;simp only at HG⊢;clear hR h hi;go_enter func294,ntmps294;go_wp2_with fail;refine HG.out.mono ?_;rintro e w1 ⟨rfl,hb⟩;have HB:=If hb;clear hb;go_wp2_with fail;go_ret2;refine⟨?_,HB.out⟩;have:((a:Int) !=0)=decide (a≠0):=by by_cases e:a=0<;>simp[e]<;>omega
 rw[<-this]
 rfl
theorem tL(h:Ig w ps S Y)(hi:Fv S)(kind root:Nat)(hl:root<2^64)(k:List UInt8)(hR:ij S k (limit S) root 0=some R)(hR1:R.1<2^64):
 Cb 287 #[fE ps kind,.int .u64 root,SV k] w (.tuple #[Id (getNode S R.1).1.key (getNode S R.1).1.val,.bool (decide (R.1≠0))]):=by
 have B1:=(aa w.heap.size w).alloc Ih (.cells #[PV ps,.int .i64 kind] 185);have q1:=heap_alloc_new w (.cells #[PV ps,.int .i64 kind] 185);have B0:=B1.alloc B1.size (.cells #[.int .u64 0,.int .u64 0] 137);have z1:=heap_alloc_new (w.alloc (.cells #[PV ps,.int .i64 kind] 185)) (.cells #[.int .u64 0,.int .u64 0] 137);have q1:=(((aa (w.alloc (.cells #[PV ps,.int .i64 kind] 185)).heap.size (w.alloc (.cells #[PV ps,.int .i64 kind] 185))).alloc Ih (.cells #[.int .u64 0,.int .u64 0] 137)).block w.heap.size (by simp)).trans q1;simp only[World.size_alloc] at z1;have ha:=EX (h.below B0) hi root hl k hR;have al:=fun W (hW:Below w.heap.size w W)=>my (h.below hW) hi kind R.1 hR1;simp only[Id,fE] at al⊢;generalize (getNode S R.1).1.key=k0 at*;generalize (getNode S R.1).1.val=k1 at*;generalize decide (R.1≠0)=z at*;have HG:=kq5 ha al B0 z1 q1;clear ha al B0 B1 h hi z1 q1;go_enter func287,ntmps287;go_wp2_with fail;refine HG.a.mono ?_;rintro e w1 ⟨rfl,ad⟩;have z1:=(ad.block (w.heap.size+1) (by simp)).trans HG.d;have q1:=(ad.block w.heap.size (by simp;omega)).trans HG.e;obtain⟨c0,c1⟩:=Fp q1;have H1:=kq2 (HG.c.trans (ad.mono HG.c.size)) z1;clear ad z1 q1;go_wp2_with fail;refine(HG.b _ H1.a).mono ?_;rintro e w2 ⟨rfl,ai⟩;have z2:=(ai.block (w.heap.size+1) (gl H1.b)).trans H1.b;obtain⟨d0,d1⟩:=Fp z2;obtain⟨f0,f1⟩:=ef z2;have HW:=kq2 (H1.a.trans (ai.mono H1.a.size)) z2;clear ai z2 c0 c1;go_wp2_with fail;have q3:=ew HW.b (.int .u64 k0) (.int .u64 k1);have B3:=eT HW.a (bM w.heap.size) (.int .u64 k0) (.int .u64 k1);generalize ((w2.setCell ⟨(w.heap.size+1),0,none⟩ (.int .u64 k0)).setCell ⟨(w.heap.size+1),1,none⟩ (.int .u64 k1))=W3 at*;obtain⟨e0,e1⟩:=Fp q3;exact bodyPost_ret (v:=.tuple #[.agg #[.int .u64 k0,.int .u64 k1],.bool z]) (by simp[results,f287,go_sem,e0,e1]) rfl ⟨rfl,B3⟩
theorem za(h:Ig w ps S Y)(hi:Fv S)(kind root:Nat)(k:Int)(hk:k<0):
 Cb 286 #[fE ps kind,.int .u64 root,.int .i64 k] w (.tuple #[Id (getNode S 0).1.key (getNode S 0).1.val,.int .i64 2]):=by
 have B1:=(aa w.heap.size w).alloc Ih (.cells #[PV ps,.int .i64 kind] 185);have q1:=heap_alloc_new w (.cells #[PV ps,.int .i64 kind] 185);have B0:=B1.alloc B1.size (.cells #[.int .u64 0,.int .u64 0] 137);have z1:=heap_alloc_new (w.alloc (.cells #[PV ps,.int .i64 kind] 185)) (.cells #[.int .u64 0,.int .u64 0] 137);have q1:=(((aa (w.alloc (.cells #[PV ps,.int .i64 kind] 185)).heap.size (w.alloc (.cells #[PV ps,.int .i64 kind] 185))).alloc Ih (.cells #[.int .u64 0,.int .u64 0] 137)).block w.heap.size (by simp)).trans q1;simp only[World.size_alloc] at z1;have ha:=EW (h.below B0) hi root k hk;have al:=fun W (hW:Below w.heap.size w W)=>my (h.below hW) hi kind 0 (by decide);simp only[Id,fE] at al⊢;generalize (getNode S 0).1.key=k0 at*;generalize (getNode S 0).1.val=k1 at*;have HG:=kq5 ha al B0 z1 q1;clear ha al B0 B1 h hi z1 q1;go_enter func286,ntmps286;go_wp2_with fail;refine HG.a.mono ?_;rintro e w1 ⟨rfl,rfl⟩;have ad:=aa ((w.alloc (.cells #[PV ps,.int .i64 kind] 185)).alloc (.cells #[.int .u64 0,.int .u64 0] 137)).heap.size ((w.alloc (.cells #[PV ps,.int .i64 kind] 185)).alloc (.cells #[.int .u64 0,.int .u64 0] 137));generalize an:(w.alloc (.cells #[PV ps,.int .i64 kind] 185)).alloc (.cells #[.int .u64 0,.int .u64 0] 137)=w1 at*;have z1:=(ad.block (w.heap.size+1) (by rw[<-an];simp)).trans HG.d;have q1:=(ad.block w.heap.size (by rw[<-an];simp;omega)).trans HG.e;obtain⟨c0,c1⟩:=Fp q1;have H1:=kq2 (HG.c.trans (ad.mono HG.c.size)) z1;clear ad z1 q1 an;go_wp2_with fail;refine(HG.b _ H1.a).mono ?_;rintro e w2 ⟨rfl,ai⟩;have z2:=(ai.block (w.heap.size+1) (gl H1.b)).trans H1.b;obtain⟨d0,d1⟩:=Fp z2;obtain⟨f0,f1⟩:=ef z2;have HW:=kq2 (H1.a.trans (ai.mono H1.a.size)) z2;clear ai z2 c0 c1;go_wp2_with fail;have q3:=ew HW.b (.int .u64 k0) (.int .u64 k1);have B3:=eT HW.a (bM w.heap.size) (.int .u64 k0) (.int .u64 k1);generalize ((w2.setCell ⟨(w.heap.size+1),0,none⟩ (.int .u64 k0)).setCell ⟨(w.heap.size+1),1,none⟩ (.int .u64 k1))=W3 at*;obtain⟨e0,e1⟩:=Fp q3;exact bodyPost_ret (v:=.tuple #[.agg #[.int .u64 k0,.int .u64 k1],.int .i64 2]) (by simp[results,f286,go_sem,e0,e1]) rfl ⟨rfl,B3⟩
theorem vP(f:Nat)(v:Value)(w:World):(method (f+1) 185 v "loft/backend.find").run prog w=.ok (287,v) w:=by kernel_rfl
theorem Di(h:Ig w ps S Y)(hi:Fv S)(hh:Nat)(hl:hh<2^64):
 Ct 303 #[PV ps,.int .u64 hh] w fun e w'=>e=.returned (.int .i64 ((jr S hh).1:Nat))/\Ig w' ps (jr S hh).2 Y/\Fo Y w w':=by
 by_cases ha:fZ S hh=0
 ·have has:=oG h hi hh hl;have ad:=sE h hi hh hl;have hR:jr S hh=S.drop hh:=by unfold jr;rw[ha];rfl
  rw[hR];rw[ha] at has;have HG:=kq2 has ad;clear has ad hR ha h hi;go_enter func303,ntmps303;go_wp2_with fail;refine HG.a.mono ?_;rintro e w1 ⟨rfl,rfl⟩;go_wp2_with fail;refine HG.b.mono ?_;rintro e w1 ⟨rfl,hb⟩;have H1:=If hb;clear hb;go_wp2_with fail;go_ret;exact⟨rfl,H1.out⟩
 ·have hR:jr S hh=(fZ S hh,S):=by unfold jr;split<;>simp_all
  rw[hR];refine(vT h hi hh hl ha).mono ?_;rintro e w' ⟨rfl,rfl⟩;exact⟨rfl,h,Fo.refl _ _⟩
theorem zi{S S':St}(h:Ig w ps S Y)(hi:Fv S)(kind o:Nat)(hl:o<2^64)(hd:jr S o=(0,S')):
 Ct 297 #[fE ps kind,.int .u64 o] w fun e w'=>e=.returned (.tuple #[Id (getNode S o).1.key (getNode S o).1.val,.bool true])/\Ig w' ps S' Y/\Fo Y w w':=by
 have B1:=(aa w.heap.size w).alloc Ih (.cells #[PV ps,.int .i64 kind] 185);have q1:=heap_alloc_new w (.cells #[PV ps,.int .i64 kind] 185);have B0:=B1.alloc B1.size (.cells #[.int .u64 0,.int .u64 0] 137);have z1:=heap_alloc_new (w.alloc (.cells #[PV ps,.int .i64 kind] 185)) (.cells #[.int .u64 0,.int .u64 0] 137);have q1:=(((aa (w.alloc (.cells #[PV ps,.int .i64 kind] 185)).heap.size (w.alloc (.cells #[PV ps,.int .i64 kind] 185))).alloc Ih (.cells #[.int .u64 0,.int .u64 0] 137)).block w.heap.size (by simp)).trans q1;simp only[World.size_alloc] at z1;have ap:=my (h.below B0) hi kind o hl;have ao:=fun W Z (hW:Ig W ps S Z)=>Di hW hi o hl;rw[hd] at ao;simp only[Id,fE] at ap⊢;generalize (getNode S o).1.key=a0 at*;generalize (getNode S o).1.val=a1 at*;have HG:=kq6 ap ao B0 z1 q1 h;have au:=h.yl;clear ap ao B0 B1 h hi z1 q1 hd;go_enter func297,ntmps297;go_wp2_with fail;refine HG.a.mono ?_;rintro e w1 ⟨rfl,ai⟩;have ad:=ai.alloc ai.size (.cells #[.int .u64 a0,.int .u64 a1] 137);have y1:=heap_alloc_new w1 (.cells #[.int .u64 a0,.int .u64 a1] 137);have z1:=(ad.block (w.heap.size+1) (by simp)).trans HG.d;have q1:=(ad.block w.heap.size (by simp;omega)).trans HG.e;have B2:=HG.c.trans (ad.mono HG.c.size);have S2:=HG.f.wide B2;have sz:w.heap.size+2<=w1.heap.size:=by have:=ai.size;simp at this;omega
 have sw:(w1.alloc (.cells #[.int .u64 a0,.int .u64 a1] 137)).heap.size=w1.heap.size+1:=by simp
 go_wp2_with fail;rw[sw] at S2;generalize w1.alloc (.cells #[.int .u64 a0,.int .u64 a1] 137)=W at*;obtain⟨I,al,an⟩:∃I:World->Prop,(∀w',I w'->w'.heap[w.heap.size]?=some (.cells #[PV ps,.int .i64 kind] 185)/\w'.heap[w1.heap.size]?=some (.cells #[.int .u64 a0,.int .u64 a1] 137))/\(∀w',w'.heap[w.heap.size]?=some (.cells #[PV ps,.int .i64 kind] 185)->w'.heap[w1.heap.size]?=some (.cells #[.int .u64 a0,.int .u64 a1] 137)->I w'):=⟨fun w'=>w'.heap[w.heap.size]?=some (.cells #[PV ps,.int .i64 kind] 185)/\w'.heap[w1.heap.size]?=some (.cells #[.int .u64 a0,.int .u64 a1] 137),fun _ h=>h,fun _ a b=>⟨a,b⟩⟩;have ar:=fun x:Fq I=>(al _ x.ok).1;have a2:=fun x:Fq I=>(al _ x.ok).2;obtain⟨a6,a7⟩:=fw ar;obtain⟨a8,a9⟩:=fw a2;have a5:w1.heap.size≠w.heap.size+1:=by omega
 have HW:=kq5 B2 z1 q1 y1 S2;have HI:=If an;have a4:I W.drew:=an _ q1 y1;clear B2 z1 q1 y1 ai ad ar a2 al an S2;refine fh I (.take 0 (.take 1 (.take 2 (.take 3 (.go 4 (.take 5 (.go 6 (.go 7 .nil)))))))) (by kernel_rfl) (by kernel_rfl) a4 ?_
 iterate 4
  refine' pT ?_ ?_;rotate_left
  ·intro x;go_simp
   try rfl
  try simp only[pu]
 refine pD fun K hK=>?_;go_simp;refine(HG.b _ _ (HW.e.drewN 1)).mono ?_;rintro e w3 ⟨rfl,s3,k3⟩;have e3:=fun k (hk:w.heap.size<=k/\k<w1.heap.size+1)=>k3.block k (ae hk);have q3:=(e3 w.heap.size ⟨Nat.le_refl _,by omega⟩).trans HW.c;have y3:=(e3 w1.heap.size ⟨by omega,by omega⟩).trans HW.d;have z3:=(e3 (w.heap.size+1) ⟨by omega,by omega⟩).trans HW.b;have a3:Fo Y w w3:=(Fo.of_below HW.a au).trans ((Fo.drewN Y W 1).trans (k3.mono fun k hk=>ab hk));have H3:=kq5 s3 a3 q3 y3 z3;clear e3 s3 k3 a3 q3 y3 z3
 try go_simp
 refine hK.out _ _ (HI.out _ H3.c H3.d) ?_;clear hK K
 try simp only[pu]
 refine' pT ?_ ?_;rotate_left
 ·intro x;go_simp
  try rfl
 try simp only[pu]
 have z3:=H3.e;obtain⟨e0,e1⟩:=Fp z3;obtain⟨f0,f1⟩:=ef z3;clear z3;refine pD fun K hK=>?_;go_simp;have q4:((w3.setCell ⟨(w.heap.size+1),0,none⟩ (.int .u64 a0)).setCell ⟨(w.heap.size+1),1,none⟩ (.int .u64 a1)).heap[w.heap.size+1]?=_:=ew H3.e (.int .u64 a0) (.int .u64 a1);have o4:∀k,k≠w.heap.size+1->((w3.setCell ⟨(w.heap.size+1),0,none⟩ (.int .u64 a0)).setCell ⟨(w.heap.size+1),1,none⟩ (.int .u64 a1)).heap[k]?=w3.heap[k]?:=fun k hk=>fA hk _ _;have s4:Ig ((w3.setCell ⟨(w.heap.size+1),0,none⟩ (.int .u64 a0)).setCell ⟨(w.heap.size+1),1,none⟩ (.int .u64 a1)) ps S' Y:=(H3.a.write (b:=w.heap.size+1) (ae ⟨by omega,by omega⟩) H3.e ⟨by decide,by decide⟩ (by simp) (by simp) fun k _ hk=>o4 k hk).mono fun k hk=>ab hk;have k4:Fo Y w ((w3.setCell ⟨(w.heap.size+1),0,none⟩ (.int .u64 a0)).setCell ⟨(w.heap.size+1),1,none⟩ (.int .u64 a1)):=H3.b.trans ⟨rfl,rfl,rfl,by simp,fun k hk=>o4 k (by have:=au k hk;omega)⟩;have r4:=(o4 w.heap.size (by omega)).trans H3.c;have y4:=(o4 w1.heap.size a5).trans H3.d;have H4:=kq5 s4 k4 q4 r4 y4;clear o4 s4 k4 q4 r4 y4 e0 e1 f0 f1;generalize ((w3.setCell ⟨(w.heap.size+1),0,none⟩ (.int .u64 a0)).setCell ⟨(w.heap.size+1),1,none⟩ (.int .u64 a1))=W4 at*
 try go_simp
 refine hK.out _ _ (HI.out _ H4.d H4.e) ?_;clear hK K
 try simp only[pu]
 refine pD fun K hK=>?_;go_simp
 try go_simp
 refine hK.out _ _ (HI.out _ H4.d H4.e) ?_;clear hK K
 try simp only[pu]
 refine eP ?_;have q5:=H4.c;obtain⟨g0,g1⟩:=Fp q5;clear q5;go_wp2_with fail;exact bodyPost_ret (v:=.tuple #[.agg #[.int .u64 a0,.int .u64 a1],.bool true]) (by simp[results,f297,go_sem,g0,g1]) rfl ⟨rfl,H4.a,H4.b⟩