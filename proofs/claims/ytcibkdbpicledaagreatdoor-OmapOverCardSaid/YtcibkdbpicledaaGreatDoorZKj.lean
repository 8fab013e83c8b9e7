/- Nodes: Put, Make: the walks. -/
import Derived.Test.YtcibkdbpicledaaGreatDoorZJe
import Derived.Laws.EntriesVeiled
import Derived.Test.YtcibkdbpicledaaGreatDoorZHg
set_option maxRecDepth 100000
set_option maxHeartbeats 6400000
namespace Go.Proofs.YtcibkdbpicledaaGreatDoor
open Go.RowKit Tryz Go.BigFrame Go.Maps Go.WideMaps Lf
variable{S:St}{W:World}{Y:Nat->Prop}{b:Nat}{fr:Nat×Nat}{kind:Nat}{ps:Nat}{t:TypeId}{w:World}{z:Nat}
def vR(n:Nd):List Nat:=[n.key,n.val,n.left,n.right,n.mark,n.size]
def jh(ps hh:Nat)(n:Nd)(Y:Nat->Prop)(w2:World)(F:St)(k:Nat)(wr:World):Prop:=∃Sk,Ig wr ps Sk Y/\Fv Sk/\FC Sk hh k ((vR n).drop k)=F/\Fo Y w2 wr
theorem jh.step{ps hh:Nat}{n:Nd}{w2:World}{F:St}{k:Nat}{wr:World}(h:jh ps hh n Y w2 F k wr)(hl:hh<2^64)(x:Nat)(hx:x<2^64)(hk:k<6)(hxk:(vR n)[k]?=some x):
 Ct 99 #[PV ps,.int .u64 hh,.int .i64 k,.int .u64 x] wr fun e w'=>∃er:Int,e=.returned (.int .i64 er)/\jh ps hh n Y w2 F (k+1) w':=by
 obtain⟨Sk,h1,h2,h3,h4⟩:=h;refine(xl h1 h2 hh k x hl (by omega) hx).mono ?_;rintro e w' ⟨rfl,h5,h6⟩;obtain⟨ad,hv⟩:=aA.1 hxk;rw[aY ad,hv] at h3;exact⟨_,rfl,_,h5,h2.put hh k x,h3,h4.trans h6⟩
theorem lS(a0 a1 a2 a3 a4 a5:Value)(w:World):
 (Instr.index 273 (.agg #[a0,a1,a2,a3,a4,a5]) (.int .i64 0)).run prog w=.ok a0 w/\
 (Instr.index 273 (.agg #[a0,a1,a2,a3,a4,a5]) (.int .i64 1)).run prog w=.ok a1 w/\
 (Instr.index 273 (.agg #[a0,a1,a2,a3,a4,a5]) (.int .i64 2)).run prog w=.ok a2 w/\
 (Instr.index 273 (.agg #[a0,a1,a2,a3,a4,a5]) (.int .i64 3)).run prog w=.ok a3 w/\
 (Instr.index 273 (.agg #[a0,a1,a2,a3,a4,a5]) (.int .i64 4)).run prog w=.ok a4 w/\
 (Instr.index 273 (.agg #[a0,a1,a2,a3,a4,a5]) (.int .i64 5)).run prog w=.ok a5 w:=by
 refine⟨?_,?_,?_,?_,?_,?_⟩<;>kernel_rfl
theorem rM(h:Ig w ps S Y)(hi:Fv S)(hh:Nat)(hl:hh<2^64)(n:Nd)(hn:ji n):
 Ct 254 #[PV ps,.int .u64 hh,eS n] w fun e w'=>e=.returned (.int .i64 ((gM S hh n).1:Nat))/\Ig w' ps (gM S hh n).2 Y/\Fo Y w w':=by
 have hY:=h.yl;obtain⟨R,hR⟩:=Ii (gM S hh n);rw[hR];unfold gM at hR;have hf:=fun W=>Dj n W;have hP:∀{F:St} {w2:World},True:=trivial;obtain⟨k0,k1,k2,k3,k4,k5⟩:=n;obtain⟨l0,l1,l2,l3,l4,l5⟩:=hn;simp only at l0 l1 l2 l3 l4 l5;unfold eS at hf⊢;simp only at hf⊢;have ai:Below w.heap.size w (w.alloc (.cells #[.int .u64 k0,.int .u64 k1,.int .u64 k2,.int .u64 k3,.int .u64 k4,.int .u64 k5] 232)):=(aa _ w).alloc Ih _;have has:=oG (h.below ai) hi hh hl;obtain⟨a,ha⟩:=Ii (fZ S hh);rw[ha] at has hR
 cases a with
 | succ a=>
  have ad:R=(a+1,S):=by rw[<-hR];rfl
  have ar:(((a+1:Nat):Int) !=0)=true:=by simp;omega
  obtain⟨g1,ap⟩:=Ii (a+1);rw[ap] at has ad ar;have HG:=kq4 has ad ai h;clear has hR ad ap h hi ha hf ai hY;go_enter func254,ntmps254;go_wp2_with fail;refine HG.a.mono ?_;rintro e w1 ⟨rfl,rfl⟩;go_wp2_with fail;go_ret;obtain rfl:=HG.b;exact⟨rfl,HG.d.below HG.c,HG.d.keep HG.c⟩
 | zero=>
  have ad:R=(0,FC S hh 0 [k0,k1,k2,k3,k4,k5]):=by rw[<-hR];rfl
  have HG:=kq6 has ad ai h hi hf;clear has hR ad h hi ha hf ai hY;go_enter func254,ntmps254;go_wp2_with fail;refine HG.a.mono ?_;rintro e w1 ⟨rfl,rfl⟩;go_wp2_with fail;refine(HG.f _).mono ?_;rintro e w2 ⟨rfl,ao⟩;have an:=HG.c.trans (ao.mono HG.c.size);have H0:jh ps hh ⟨k0,k1,k2,k3,k4,k5⟩ Y w2 R.2 0 w2:=⟨S,HG.d.below an,HG.e,by rw[HG.b];rfl,Fo.refl _ _⟩;have HB:=If an;clear an ao;go_wp2_with fail
  go_loopw [8,9,18] (fun _ _ i wr=>(i=.int .i64 0/\jh ps hh ⟨k0,k1,k2,k3,k4,k5⟩ Y w2 R.2 0 wr)\/(i=.int .i64 1/\jh ps hh ⟨k0,k1,k2,k3,k4,k5⟩ Y w2 R.2 1 wr)\/(i=.int .i64 2/\jh ps hh ⟨k0,k1,k2,k3,k4,k5⟩ Y w2 R.2 2 wr)\/(i=.int .i64 3/\jh ps hh ⟨k0,k1,k2,k3,k4,k5⟩ Y w2 R.2 3 wr)\/(i=.int .i64 4/\jh ps hh ⟨k0,k1,k2,k3,k4,k5⟩ Y w2 R.2 4 wr)\/(i=.int .i64 5/\jh ps hh ⟨k0,k1,k2,k3,k4,k5⟩ Y w2 R.2 5 wr)\/(i=.int .i64 6/\jh ps hh ⟨k0,k1,k2,k3,k4,k5⟩ Y w2 R.2 6 wr)) (fun _ _ i _=>6-(intOf i).toNat)
  case atStart=>exact ab ⟨rfl,H0⟩
  case round=>
   rcases hrel with⟨rfl,hP⟩ | ⟨rfl,hP⟩ | ⟨rfl,hP⟩ | ⟨rfl,hP⟩ | ⟨rfl,hP⟩ | ⟨rfl,hP⟩ | ⟨rfl,hP⟩
   ·have HS:=If (hP.step hl k0 l0 (by decide) rfl);have al:=fun w=>(lS (.int .u64 k0) (.int .u64 k1) (.int .u64 k2) (.int .u64 k3) (.int .u64 k4) (.int .u64 k5) w).1;clear hP H0;go_wp2_with fail;refine HS.out.mono ?_;rintro e w3 ⟨er,rfl,hP⟩;go_wp2_with fail;go_roundw
    case rel=>exact ae (ab ⟨rfl,hP⟩)
    case measure=>simp[intOf]
   ·have HS:=If (hP.step hl k1 l1 (by decide) rfl);have al:=fun w=>(lS (.int .u64 k0) (.int .u64 k1) (.int .u64 k2) (.int .u64 k3) (.int .u64 k4) (.int .u64 k5) w).2.1;clear hP H0;go_wp2_with fail;refine HS.out.mono ?_;rintro e w3 ⟨er,rfl,hP⟩;go_wp2_with fail;go_roundw
    case rel=>exact ae (ae (ab ⟨rfl,hP⟩))
    case measure=>simp[intOf]
   ·have HS:=If (hP.step hl k2 l2 (by decide) rfl);have al:=fun w=>(lS (.int .u64 k0) (.int .u64 k1) (.int .u64 k2) (.int .u64 k3) (.int .u64 k4) (.int .u64 k5) w).2.2.1;clear hP H0;go_wp2_with fail;refine HS.out.mono ?_;rintro e w3 ⟨er,rfl,hP⟩;go_wp2_with fail;go_roundw
    case rel=>exact ae (ae (ae (ab ⟨rfl,hP⟩)))
    case measure=>simp[intOf]
   ·have HS:=If (hP.step hl k3 l3 (by decide) rfl);have al:=fun w=>(lS (.int .u64 k0) (.int .u64 k1) (.int .u64 k2) (.int .u64 k3) (.int .u64 k4) (.int .u64 k5) w).2.2.2.1;clear hP H0;go_wp2_with fail;refine HS.out.mono ?_;rintro e w3 ⟨er,rfl,hP⟩;go_wp2_with fail;go_roundw
    case rel=>exact ae (ae (ae (ae (ab ⟨rfl,hP⟩))))
    case measure=>simp[intOf]
   ·have HS:=If (hP.step hl k4 l4 (by decide) rfl);have al:=fun w=>(lS (.int .u64 k0) (.int .u64 k1) (.int .u64 k2) (.int .u64 k3) (.int .u64 k4) (.int .u64 k5) w).2.2.2.2.1;clear hP H0;go_wp2_with fail;refine HS.out.mono ?_;rintro e w3 ⟨er,rfl,hP⟩;go_wp2_with fail;go_roundw
    case rel=>exact ae (ae (ae (ae (ae (ab ⟨rfl,hP⟩)))))
    case measure=>simp[intOf]
   ·have HS:=If (hP.step hl k5 l5 (by decide) rfl);have al:=fun w=>(lS (.int .u64 k0) (.int .u64 k1) (.int .u64 k2) (.int .u64 k3) (.int .u64 k4) (.int .u64 k5) w).2.2.2.2.2;clear hP H0;go_wp2_with fail;refine HS.out.mono ?_;rintro e w3 ⟨er,rfl,hP⟩;go_wp2_with fail;go_roundw
    case rel=>exact ae (ae (ae (ae (ae (ae ⟨rfl,hP⟩)))))
    case measure=>simp[intOf]
   ·have HP:=If hP;clear hP H0;go_wp2_with fail;go_ret;obtain⟨Sk,h1,h2,h3,h4⟩:=HP.out;have e1:R.1=0:=by rw[HG.b]
    have e2:Sk=R.2:=h3;rw[e1,<-e2];exact⟨rfl,h1,(Fo.of_below HB.out HG.d.yl).trans h4⟩
theorem vU(h:Ig w ps S Y)(hm:iw S 6)(n:Nd)(hn:ji n):
 Ct 295 #[PV ps,eS n] w fun e w'=>e=.returned (.tuple #[.int .u64 ((ft S n).1.1:Nat),.int .i64 ((ft S n).1.2:Nat)])/\Ig w' ps (ft S n).2 Y/\Fo Y w w':=by
 have al:=fun W (hW:Below w.heap.size w W)=>sH (h.wide hW) 6 (by omega) hm.1;have a6:=oA h.tabwf 6;have ai:=hm.2;obtain⟨R,hR⟩:=Ii (ft S n);rw[hR];unfold ft at hR;obtain⟨⟨⟨hh,er⟩,S1⟩,hS⟩:∃r,S.make 6=r:=⟨_,rfl⟩;rw[hS] at al a6 ai hR;simp only at al a6 ai;have an:=fun W Z (hW:Ig W ps S1 Z)=>rM hW ai hh a6 n hn;obtain⟨k0,k1,k2,k3,k4,k5⟩:=n;unfold eS at an⊢;simp only at an⊢;have ar:Below w.heap.size w (w.alloc (.cells #[.int .u64 k0,.int .u64 k1,.int .u64 k2,.int .u64 k3,.int .u64 k4,.int .u64 k5] 232)):=(aa _ w).alloc Ih _;have kx:=heap_alloc_new w (.cells #[.int .u64 k0,.int .u64 k1,.int .u64 k2,.int .u64 k3,.int .u64 k4,.int .u64 k5] 232);have HG:=kq6 (al _ ar) hR ar h an kx;clear al hR ar hm ai hS hn an kx;go_enter func295,ntmps295;go_wp2_with fail;refine HG.a.mono ?_;rintro e w1 ⟨rfl,h1,a7⟩;have hx:w1.heap[w.heap.size]?=some (.cells #[.int .u64 k0,.int .u64 k1,.int .u64 k2,.int .u64 k3,.int .u64 k4,.int .u64 k5] 232 (0,0)):=(a7.block _ (ae ⟨Nat.le_refl _,by simp⟩)).trans HG.f;have a0:w1.cell? ⟨w.heap.size,0,none⟩=some (.int .u64 k0):=by rw[Fs hx];rfl
 have a1:w1.cell? ⟨w.heap.size,1,none⟩=some (.int .u64 k1):=by rw[Fs hx];rfl
 have a2:w1.cell? ⟨w.heap.size,2,none⟩=some (.int .u64 k2):=by rw[Fs hx];rfl
 have a3:w1.cell? ⟨w.heap.size,3,none⟩=some (.int .u64 k3):=by rw[Fs hx];rfl
 have a4:w1.cell? ⟨w.heap.size,4,none⟩=some (.int .u64 k4):=by rw[Fs hx];rfl
 have a5:w1.cell? ⟨w.heap.size,5,none⟩=some (.int .u64 k5):=by rw[Fs hx];rfl
 have ap:=h1.mono (Z:=Y) fun k hk=>ab hk;have a8:=(Fo.of_below HG.c h.yl).trans (a7.mono (Z:=Y) fun k hk=>ab hk);have H1:=kq3 ap a8 (HG.e w1 Y ap);clear h1 a7 hx ap a8 h
 cases er with
 | succ er=>
  have ad:R=((0,er+1),S1):=by rw[<-HG.b];rfl
  have a':(((er+1:Nat):Int) !=0)=true:=by simp;omega
  obtain⟨g1,au⟩:=Ii (er+1);rw[au] at ad a';simp only[au];have ao:=If ad;clear ad au;go_wp2_with fail;go_ret2;obtain rfl:=ao.out;exact⟨rfl,H1.a,H1.b⟩
 | zero=>
  have ad:R=((hh,(gM S1 hh ⟨k0,k1,k2,k3,k4,k5⟩).1),(gM S1 hh ⟨k0,k1,k2,k3,k4,k5⟩).2):=by rw[<-HG.b];rfl
  have ao:=If ad;clear ad;go_wp2_with fail;refine H1.c.mono ?_;rintro e w2 ⟨rfl,h2,a9⟩;have H2:=kq2 h2 (H1.b.trans a9);clear h2 a9;go_wp2_with fail;go_ret2;obtain rfl:=ao.out;exact⟨rfl,H2.out⟩
theorem fs(h:Ig w ps S Y)(hh:Nat):ji (getNode S hh).1:=by
 have g:=fun k=>uC h hh k;unfold getNode
 split
 ·exact⟨g 0,g 1,g 2,g 3,g 4,g 5⟩
 ·have z:0<2^64:=by decide
  exact⟨z,z,z,z,z,z⟩
theorem num_some{x y:Nat}(h:num x=some y):y=x/\x<2^62:=by
 unfold num at h
 split at h
 ·rename_i hx
  injection h with h;exact⟨h.symm,by omega⟩
 ·cases h
theorem nB(h:Ig w ps S Y):S.words<=262144:=by
 obtain⟨_,_,_,_,_,h⟩:=h;have:=h.heap.wf.room;have:=h.heap.wf.quota;unfold St.words;omega
theorem sX(h:Ig w ps S Y):
 Cb 187 #[PV ps] w (.int .i64 (limit S:Nat)):=by
 have hw:=xo h;have ad:=nB h;unfold limit;generalize S.words=m at*;have HG:=If hw;clear hw h;go_enter func187,ntmps187;go_wp2_with fail;refine HG.out.mono ?_;rintro e w1 ⟨rfl,hb⟩;have HB:=If hb;clear hb;go_wp2_with fail;go_ret;exact⟨by simp,HB.out⟩
theorem EZ(h:Ig w ps S Y)(hi:Fv S)(n:Nd)(hn:n.key<2^64){t:List UInt8}(ht:gD S n.key=some t):
 Cb 305 #[PV ps,eS n] w (SV t):=by
 unfold gD at ht
 split at ht
 ·cases ht
 ·rename_i h8
  injection ht with ht
  obtain⟨k0,k1,k2,k3,k4,k5⟩:=n;simp only at hn ht h8;have ad:Below w.heap.size w (w.alloc (.cells #[.int .u64 k0,.int .u64 k1,.int .u64 k2,.int .u64 k3,.int .u64 k4,.int .u64 k5] 232)):=(aa _ w).alloc Ih _;have hg:=iz (h.below ad) hi k0 hn h8;rw[ht] at hg;generalize (fz S k0).2=er at*;unfold eS;simp only;have HG:=kq2 hg ad;clear hg ad h hi ht h8;go_enter func305,ntmps305;go_wp2_with fail;refine HG.a.mono ?_;rintro e w1 ⟨rfl,hb⟩;have HB:=If (HG.b.trans (hb.mono HG.b.size));clear hb;go_wp2_with fail;go_ret;exact⟨rfl,HB.out⟩
theorem qKjae{P:Prop}(h:P:=by
 unfold getNode at he⊢
 split
 ·rename_i e;rw[e] at he;exact absurd rfl he
 ·rfl):P:=h
theorem qKjac{P:Prop}(h:P:=by
 go_wp2_with fail;refine HG.out.mono ?_;rintro e w1 ⟨rfl,hb⟩;have HB:=If (hb.alloc hb.size (.cells #[.int .u64 0,.int .u64 0,.int .u64 0,.int .u64 0,.int .u64 0,.int .u64 0] 232));clear hb;go_wp2_with fail;go_ret;exact⟨rfl,HB.out⟩):P:=h
theorem qKjab{P:Prop}(h:P:=by
 go_wp2_with fail;refine HG.out.mono ?_;rintro e w1 ⟨rfl,hb⟩;have HB:=If (hb.alloc hb.size (.cells #[.int .u64 k0,.int .u64 k1,.int .u64 k2,.int .u64 k3,.int .u64 k4,.int .u64 k5] 232));clear hb;go_wp2_with fail;go_ret;exact⟨rfl,HB.out⟩):P:=h
theorem kP(h:Ig w ps S Y)(hi:Fv S)(hh:Nat)(hl:hh<2^64)(hz:fY S hh=some z):
 Cb 253 #[PV ps,.int .u64 hh] w (.int .i64 z):=by
 have hg:=iO h hi hh hl;unfold fY sj at hz;obtain⟨rfl,al⟩:=num_some hz;clear hz;have ad:(getNode S hh).2≠0->(getNode S hh).1=Nd.zero:=fun he=>by
  exact qKjae
 obtain⟨⟨⟨k0,k1,k2,k3,k4,k5⟩,er⟩,hE⟩:∃r,getNode S hh=r:=⟨_,rfl⟩;rw[hE] at hg al ad⊢;simp only at hg al ad⊢;unfold eS at hg;simp only at hg
 cases er with
 | succ er=>
  have h0:=ad (by omega)
  injection h0 with h0 h1 h2 h3 h4 h5
  subst h0 h1 h2 h3 h4 h5;have an:(((er+1:Nat):Int) !=0)=true:=by simp;omega
  obtain⟨g1,ai⟩:=Ii (er+1);rw[ai] at hg an;have HG:=If hg;clear hg h hi hE ad ai;go_enter func253,ntmps253;exact qKjac
 | zero=>
  have HG:=If hg;clear hg h hi hE ad;go_enter func253,ntmps253;exact qKjab
theorem fJ(h:Ig w ps S Y)(hi:Fv S)(hh:Nat)(hl:hh<2^64)(hz:eE S hh=some z):
 Cb 222 #[PV ps,.int .u64 hh] w (.int .i64 z):=by
 have hg:=iO h hi hh hl;unfold eE mU at hz;obtain⟨rfl,al⟩:=num_some hz;clear hz;have ad:(getNode S hh).2≠0->(getNode S hh).1=Nd.zero:=fun he=>by
  exact qKjae
 obtain⟨⟨⟨k0,k1,k2,k3,k4,k5⟩,er⟩,hE⟩:∃r,getNode S hh=r:=⟨_,rfl⟩;rw[hE] at hg al ad⊢;simp only at hg al ad⊢;unfold eS at hg;simp only at hg
 cases er with
 | succ er=>
  have h0:=ad (by omega)
  injection h0 with h0 h1 h2 h3 h4 h5
  subst h0 h1 h2 h3 h4 h5;have an:(((er+1:Nat):Int) !=0)=true:=by simp;omega
  obtain⟨g1,ai⟩:=Ii (er+1);rw[ai] at hg an;have HG:=If hg;clear hg h hi hE ad ai;go_enter func222,ntmps222;exact qKjac
 | zero=>
  have HG:=If hg;clear hg h hi hE ad;go_enter func222,ntmps222;exact qKjab
theorem qKjad{P:Prop}(h:P:=by
 go_wp2_with fail;go_ret2;obtain rfl:=HE.a;exact⟨rfl,HE.b⟩):P:=h
theorem xT(h:Ig w ps S Y)(hi:Fv S)(root:Nat)(hl:root<2^64)(k:List UInt8){R:Nat×Nat}(hR:ij S k (limit S) root 0=some R):
 Cb 300 #[PV ps,.int .u64 root,SV k] w (.tuple #[.int .u64 R.1,.int .i64 R.2]):=by
 have a5:=sX h;have bo:=nB h;have hL:limit S<=40000:=by unfold limit;omega
 obtain⟨L,a9⟩:=Ii (limit S);rw[a9] at a5 hL hR;have bf:=fun hh=>fs h hh;have HG:=kq5 a5 h hi hR bf;clear a5 h hi hR bo a9 bf;go_enter func300,ntmps300;go_wp2_with fail;refine HG.a.mono ?_;rintro e w1 ⟨rfl,a'⟩;have bj:=If a';clear a';go_wp2_with fail
 go_loopw [1,7,9,10,11,12] (fun r b i _ _ _ wr=>∃f root bb ii:Nat,r=.int .u64 root/\b=.int .i64 bb/\i=.int .i64 ii/\f+ii=L/\root<2^64/\bb<2^62/\Hid (ij S k f root bb=some R/\Below w.heap.size w wr)) (fun _ _ i _ _ _ _=>L-(intOf i).toNat)
 case atStart=>exact⟨L,root,0,0,rfl,rfl,rfl,by omega,hl,by omega,HG.d,bj.out⟩
 case round=>
  obtain⟨f,root,bb,ii,rfl,rfl,rfl,hf,bt,bm,ad⟩:=hrel;have b0:ii<=40000:=by omega
  cases f with
  | zero=>
   have b1:ii=L:=by omega
   have ao:R=(0,bb):=by have h9:=ad.out.1;rw[AF] at h9;exact(Option.some.inj h9).symm
   have HE:=kq2 ao ad.out.2;clear ao ad
   by_cases hr0:root=0
   ·subst hr0;exact qKjad
   ·have hq:((root:Int) !=0)=true:=by simp;omega
    have bv:(L:Int)<=ii:=by omega
    clear hr0;exact qKjad
  | succ f=>
   by_cases hr0:root=0
   ·have ao:R=(0,bb):=by have h9:=ad.out.1;rw[n8,if_pos hr0] at h9;exact(Option.some.inj h9).symm
    have HE:=kq2 ao ad.out.2;clear ao ad;subst hr0;exact qKjad
   ·have hq:((root:Int) !=0)=true:=by simp;omega
    have b4:(ii:Int)<L:=by omega
    have hd:=ad.out.1;rw[n8,if_neg hr0] at hd;have a1:=HG.b.below ad.out.2;have hg:=iO a1 HG.c root bt;have a6:=HG.e root;obtain⟨⟨nd,er⟩,hE⟩:∃r,getNode S root=r:=⟨_,rfl⟩;rw[hE] at hg a6 hd;simp only at hg a6 hd;obtain⟨k0,k1,k2,k3,k4,k5⟩:=nd;obtain⟨n0,n1,n2,n3,n4,n5⟩:=a6;simp only at n0 n1 n2 n3 n4 n5;have ap:eS ⟨k0,k1,k2,k3,k4,k5⟩=.agg #[.int .u64 k0,.int .u64 k1,.int .u64 k2,.int .u64 k3,.int .u64 k4,.int .u64 k5]:=rfl;rw[ap] at hg
    cases er with
    | succ er=>
     rw[if_pos (by omega)] at hd;have hd:=Option.some.inj hd;have bs:(((er+1:Nat):Int) !=0)=true:=by simp;omega
     obtain⟨g1,ba⟩:=Ii (er+1);rw[ba] at hg bs;have HE:=kq3 hg hd ad.out.2;clear hg hd ad a1 hE hr0 ba ap;go_wp2_with fail;refine HE.a.mono ?_;rintro e w2 ⟨rfl,ai⟩;have bk:=If ((HE.c.trans (ai.mono HE.c.size)).alloc (aO HE.c.size ai.size) (.cells #[.int .u64 k0,.int .u64 k1,.int .u64 k2,.int .u64 k3,.int .u64 k4,.int .u64 k5] 232));clear ai;go_wp2_with fail;go_ret2;obtain rfl:=HE.b;exact⟨rfl,bk.out⟩
    | zero=>
     rw[if_neg (by omega)] at hd
     cases ht:gD S k0 with
     | none=>rw[ht] at hd;cases hd
     | some t=>
      rw[ht] at hd;simp only at hd;have HE:=kq3 hg ad.out.2 ht;clear hg ad a1 hE hr0 ht;go_wp2_with fail;refine HE.a.mono ?_;rintro e w2 ⟨rfl,ai⟩;have a0:=(HE.b.trans (ai.mono HE.b.size)).alloc (aO HE.b.size ai.size) (.cells #[.int .u64 k0,.int .u64 k1,.int .u64 k2,.int .u64 k3,.int .u64 k4,.int .u64 k5] 232);have hk:=EZ (HG.b.below a0) HG.c ⟨k0,k1,k2,k3,k4,k5⟩ n0 HE.c;rw[ap] at hk;have hx:=heap_alloc_new w2 (.cells #[.int .u64 k0,.int .u64 k1,.int .u64 k2,.int .u64 k3,.int .u64 k4,.int .u64 k5] 232);have bc:w2.heap.size<(w2.alloc (.cells #[.int .u64 k0,.int .u64 k1,.int .u64 k2,.int .u64 k3,.int .u64 k4,.int .u64 k5] 232)).heap.size:=by simp
      have HK:=kq4 hk a0 hx bc;clear ai a0 hk hx bc ap;go_wp2_with fail;refine HK.a.mono ?_;rintro e w3 ⟨rfl,a4⟩;have HC:=If (sT k t w3);have a8:=HK.b.trans (a4.mono HK.b.size);have a7:=(a4.block _ HK.d).trans HK.c;have a2:w3.cell? ⟨w2.heap.size,2,none⟩=some (.int .u64 k2):=by rw[Fs a7];rfl
      have a3:w3.cell? ⟨w2.heap.size,3,none⟩=some (.int .u64 k3):=by rw[Fs a7];rfl
      have al:=If a8;clear a4 a8 a7;go_wp2_with fail;refine HC.out.mono ?_;rintro e w4 ⟨rfl,rfl⟩;generalize Fu k t=c at*
      by_cases hc:c<0
      ·rw[if_pos hc] at hd;have HD:=If hd;clear hd;go_wp2_with fail;go_roundw
       case rel=>exact⟨f,k2,bb,ii+1,rfl,rfl,by simp,by omega,n2,bm,HD.out,al.out⟩
       case measure=>simp[intOf];omega
      ·rw[if_neg hc] at hd
       cases hz:fY S k2 with
       | none=>rw[hz] at hd;cases hd
       | some z=>
        rw[hz] at hd;simp only at hd;have b8:z<2^62:=by have:=num_some hz;omega
        have ar:=kP (HG.b.below al.out) HG.c k2 n2 hz
        by_cases hc2:0<c
        ·rw[if_pos hc2] at hd
         cases hn:num (bb+(z+1)) with
         | none=>rw[hn] at hd;cases hd
         | some b2=>
          rw[hn] at hd;simp only at hd;obtain⟨rfl,bd⟩:=num_some hn;have HD:=kq2 hd ar;clear hd ar hn hz;go_wp2_with fail;refine HD.b.mono ?_;rintro e w5 ⟨rfl,an⟩;have bu:w5.cell? ⟨w2.heap.size,3,none⟩=some (.int .u64 k3):=by
           rw[<-a3];refine an.cell (p:=⟨w2.heap.size,3,none⟩) ?_;unfold World.cell? at a3
           split at a3
           ·rename_i heq;exact(gl heq)
           ·cases a3
          have au:=If (al.out.trans (an.mono al.out.size));clear an;go_wp2_with fail;go_roundw
          case rel=>exact⟨f,k3,bb+(z+1),ii+1,rfl,by simp,by simp,by omega,n3,bd,HD.a,au.out⟩
          case measure=>simp[intOf];omega
        ·rw[if_neg hc2] at hd;obtain rfl:c=0:=by omega
         cases hn:num (bb+z) with
         | none=>rw[hn] at hd;cases hd
         | some b2=>
          rw[hn] at hd;simp only at hd;obtain⟨rfl,bd⟩:=num_some hn;have hd:=Option.some.inj hd;have HD:=kq2 hd ar;clear hd ar hn hz;go_wp2_with fail;refine HD.b.mono ?_;rintro e w5 ⟨rfl,an⟩;have au:=If (al.out.trans (an.mono al.out.size));clear an;go_wp2_with fail;go_ret2;obtain rfl:=HD.a;exact⟨by simp,au.out⟩
theorem E1(h:Ig w ps S Y)(hi:Fv S)(root:Nat)(hl:root<2^64)(k:List UInt8)(hR:oP S root k=some z):
 Cb 298 #[PV ps,.int .u64 root,SV k] w (.int .i64 z):=by
 unfold oP at hR
 cases hd:ij S k (limit S) root 0 with
 | none=>rw[hd] at hR;cases hR
 | some R=>
  rw[hd] at hR
  injection hR with hR
  have HG:=kq2 (xT h hi root hl k hd) hR;clear h hi hd hR;go_enter func298,ntmps298;go_wp2_with fail;refine HG.a.mono ?_;rintro e w1 ⟨rfl,hb⟩;have HB:=If hb;clear hb;go_wp2_with fail;go_ret;obtain rfl:=HG.b;exact⟨rfl,HB.out⟩
def gP(n:Nd)(h:Nat):Value:=.agg #[.int .u64 n.key,.int .u64 n.val,.int .u64 n.left,.int .u64 n.right,.int .u64 n.mark,.int .u64 n.size,.int .u64 h]
theorem Ew{u0 u1 u2 u3 u4 u5 u6:Value}(h:W.heap[b]?=some (.cells #[u0,u1,u2,u3,u4,u5,u6] t fr))(v0 v1 v2 v3 v4 v5 v6:Value):(((((((W.setCell ⟨b,0,none⟩ (v0)).setCell ⟨b,1,none⟩ (v1)).setCell ⟨b,2,none⟩ (v2)).setCell ⟨b,3,none⟩ (v3)).setCell ⟨b,4,none⟩ (v4)).setCell ⟨b,5,none⟩ (v5)).setCell ⟨b,6,none⟩ (v6)).heap[b]?=some (.cells #[v0,v1,v2,v3,v4,v5,v6] t fr):=by
 rw[heap_setCell (heap_setCell (heap_setCell (heap_setCell (heap_setCell (heap_setCell (heap_setCell h))))))];rfl
theorem Ev{w W:World}(h:Below w.heap.size w W)(hb:w.heap.size<=b)(v0 v1 v2 v3 v4 v5 v6:Value):Below w.heap.size w (((((((W.setCell ⟨b,0,none⟩ (v0)).setCell ⟨b,1,none⟩ (v1)).setCell ⟨b,2,none⟩ (v2)).setCell ⟨b,3,none⟩ (v3)).setCell ⟨b,4,none⟩ (v4)).setCell ⟨b,5,none⟩ (v5)).setCell ⟨b,6,none⟩ (v6)):=
 ((((((h.setCell (p:=⟨b,0,none⟩) hb _).setCell (p:=⟨b,1,none⟩) hb _).setCell (p:=⟨b,2,none⟩) hb _).setCell (p:=⟨b,3,none⟩) hb _).setCell (p:=⟨b,4,none⟩) hb _).setCell (p:=⟨b,5,none⟩) hb _).setCell (p:=⟨b,6,none⟩) hb _
theorem gR(h:Ig w ps S Y)(hi:Fv S)(hh:Nat)(hl:hh<2^64):
 Cb 220 #[PV ps,.int .u64 hh] w (gP (getNode S hh).1 hh):=by
 have ad:Below w.heap.size w (w.alloc (.cells #[.int .u64 0,.int .u64 0,.int .u64 0,.int .u64 0,.int .u64 0,.int .u64 0,.int .u64 0] 319)):=(aa _ w).alloc Ih _;have hg:=iO (h.below ad) hi hh hl;obtain⟨⟨⟨k0,k1,k2,k3,k4,k5⟩,er⟩,hE⟩:∃r,getNode S hh=r:=⟨_,rfl⟩;rw[hE] at hg⊢;unfold eS at hg;unfold gP;simp only at hg⊢;have hx:=heap_alloc_new w (.cells #[.int .u64 0,.int .u64 0,.int .u64 0,.int .u64 0,.int .u64 0,.int .u64 0,.int .u64 0] 319);have HG:=kq3 hg ad hx;clear hg ad h hi hE hx;go_enter func220,ntmps220;go_wp2_with fail;refine HG.a.mono ?_;rintro e w1 ⟨rfl,hb⟩;have r0:=(hb.block w.heap.size (by simp)).trans HG.c;obtain⟨b0,b1,b2,b3,b4,b5,b6⟩:=gG r0;obtain⟨f0,f1,f2,f3,f4,f5,f6⟩:=qI r0;have an:w.heap.size<w1.heap.size:=(gl r0);have HB:=kq2 r0 (HG.b.trans (hb.mono HG.b.size));clear r0 hb;go_wp2_with fail;have hX:=Ew HB.a (.int .u64 k0) (.int .u64 k1) (.int .u64 k2) (.int .u64 k3) (.int .u64 k4) (.int .u64 k5) (.int .u64 hh);have hY:=Ev HB.b (Nat.le_refl w.heap.size) (.int .u64 k0) (.int .u64 k1) (.int .u64 k2) (.int .u64 k3) (.int .u64 k4) (.int .u64 k5) (.int .u64 hh);have ao:(((((((w1.setCell ⟨w.heap.size,0,none⟩ (.int .u64 k0)).setCell ⟨w.heap.size,1,none⟩ (.int .u64 k1)).setCell ⟨w.heap.size,2,none⟩ (.int .u64 k2)).setCell ⟨w.heap.size,3,none⟩ (.int .u64 k3)).setCell ⟨w.heap.size,4,none⟩ (.int .u64 k4)).setCell ⟨w.heap.size,5,none⟩ (.int .u64 k5)).setCell ⟨w.heap.size,6,none⟩ (.int .u64 hh)).heap.size=w1.heap.size:=by simp
 generalize (((((((w1.setCell ⟨w.heap.size,0,none⟩ (.int .u64 k0)).setCell ⟨w.heap.size,1,none⟩ (.int .u64 k1)).setCell ⟨w.heap.size,2,none⟩ (.int .u64 k2)).setCell ⟨w.heap.size,3,none⟩ (.int .u64 k3)).setCell ⟨w.heap.size,4,none⟩ (.int .u64 k4)).setCell ⟨w.heap.size,5,none⟩ (.int .u64 k5)).setCell ⟨w.heap.size,6,none⟩ (.int .u64 hh))=W9 at*;have ai:(W9.alloc (.cells #[.int .u64 k0,.int .u64 k1,.int .u64 k2,.int .u64 k3,.int .u64 k4,.int .u64 k5] 232)).heap[w.heap.size]?=some (.cells #[.int .u64 k0,.int .u64 k1,.int .u64 k2,.int .u64 k3,.int .u64 k4,.int .u64 k5,.int .u64 hh] 319 (0,0)):=by rw[heap_alloc_old _ _ (by omega)];exact hX
 have al:=hY.alloc hY.size (.cells #[.int .u64 k0,.int .u64 k1,.int .u64 k2,.int .u64 k3,.int .u64 k4,.int .u64 k5] 232);generalize W9.alloc (.cells #[.int .u64 k0,.int .u64 k1,.int .u64 k2,.int .u64 k3,.int .u64 k4,.int .u64 k5] 232)=W10 at*;obtain⟨e0,e1,e2,e3,e4,e5,e6⟩:=gG ai;exact bodyPost_ret (v:=.agg #[.int .u64 k0,.int .u64 k1,.int .u64 k2,.int .u64 k3,.int .u64 k4,.int .u64 k5,.int .u64 hh]) (by simp[results,f220,go_sem,e0,e1,e2,e3,e4,e5,e6]) rfl ⟨rfl,al⟩
theorem pQ(h:Ig w ps S Y)(hi:Fv S)(hh:Nat)(hl:hh<2^64):
 Cb 218 #[PV ps,.int .u64 hh] w (.bool (isT S hh)):=by
 have hg:=iO h hi hh hl;obtain⟨R,hR⟩:=Ii (isT S hh);rw[hR];unfold isT at hR;obtain⟨⟨⟨k0,k1,k2,k3,k4,k5⟩,er⟩,hE⟩:∃r,getNode S hh=r:=⟨_,rfl⟩;rw[hE] at hg hR;unfold eS at hg;simp only at hg hR;have ad:R=(((hh:Int)==0) || ((er:Int)==0)):=by
  rw[<-hR]
  by_cases a:hh=0<;>by_cases b:er=0<;>simp[a,b]<;>omega
 have HG:=kq2 hg ad;clear hg h hi hE hR ad
 by_cases h0:hh=0
 ·subst h0;go_enter func218,ntmps218;go_wp2_with fail;refine HG.a.mono ?_;rintro e w1 ⟨rfl,hb⟩;have HB:=If (hb.alloc hb.size (.cells #[.int .u64 k0,.int .u64 k1,.int .u64 k2,.int .u64 k3,.int .u64 k4,.int .u64 k5] 232));clear hb;go_wp2_with fail;go_ret;obtain rfl:=HG.b;exact⟨by simp,HB.out⟩
 ·have hq:((hh:Int)==0)=false:=by simp;omega
  go_enter func218,ntmps218;go_wp2_with fail;refine HG.a.mono ?_;rintro e w1 ⟨rfl,hb⟩;have HB:=If (hb.alloc hb.size (.cells #[.int .u64 k0,.int .u64 k1,.int .u64 k2,.int .u64 k3,.int .u64 k4,.int .u64 k5] 232));clear hb;go_wp2_with fail;go_ret;obtain rfl:=HG.b;exact⟨by simp[hq],HB.out⟩
theorem rT(hi:Fv S)(hh:Nat)(n:Nd):Fv (gM S hh n).2:=by
 unfold gM
 split
 ·exact(rV hh _ S 0 hi).1
 ·exact hi
theorem Ht{S S':St}{n:Nd}{h l r:Nat}(hw:fu S n h l r=some S'):∃a b x y,eE S l=some a/\eE S r=some b/\fY S l=some x/\fY S r=some y/\S'=(gM S h { n with left:=l,right:=r,mark:=max a b+1,size:=x+y+1 }).2:=by
 unfold fu at hw
 split at hw
 ·rename_i a b x y h1 h2 h3 h4;exact⟨a,b,x,y,h1,h2,h3,h4,(Option.some.inj hw).symm⟩
 ·cases hw
theorem gX{S S':St}{n:Nd}{h l r:Nat}(hi:Fv S)(hw:fu S n h l r=some S'):Fv S':=by
 obtain⟨_,_,_,_,_,_,_,_,rfl⟩:=Ht hw;exact rT hi _ _
theorem jG{S S':St}(h:Ig w ps S Y)(hi:Fv S)(n:Nd)(hn:ji n)(hh l r:Nat)(hl:hh<2^64)(hll:l<2^64)(hrl:r<2^64)(hw:fu S n hh l r=some S'):
 Ct 247 #[gP n hh,PV ps,.int .u64 l,.int .u64 r] w fun e w'=>e=.returned (.int .u64 hh)/\Ig w' ps S' Y/\Fo Y w w':=by
 obtain⟨a,b,x,y,h1,h2,h3,h4,rfl⟩:=Ht hw;have ha:a<2^62:=by have:=num_some h1;omega
 have hb:b<2^62:=by have:=num_some h2;omega
 have hx:x<2^62:=by have:=num_some h3;omega
 have hy:y<2^62:=by have:=num_some h4;omega
 obtain⟨m,hm⟩:=Ii (max a b);have a5:m<2^62:=by omega
 have a4:max (a:Int) (b:Int)=(m:Int):=by omega
 rw[hm];obtain⟨k0,k1,k2,k3,k4,k5⟩:=n;obtain⟨n0,n1,n2,n3,n4,n5⟩:=hn;simp only at n0 n1 n2 n3 n4 n5;simp only[gP];have ao:=fun W Z (hW:Ig W ps S Z)=>rM hW hi hh hl ⟨k0,k1,l,r,m+1,x+y+1⟩ ⟨n0,n1,hll,hrl,by simp only;omega,by simp only;omega⟩;have a2:eS ⟨k0,k1,l,r,m+1,x+y+1⟩=.agg #[.int .u64 k0,.int .u64 k1,.int .u64 l,.int .u64 r,.int .u64 ((m:Int)+1),.int .u64 ((x:Int)+y+1)]:=by simp[eS]
 rw[a2] at ao;have q0:=heap_alloc_new w (.cells #[.int .u64 k0,.int .u64 k1,.int .u64 l,.int .u64 r,.int .u64 k4,.int .u64 k5,.int .u64 hh] 319);have qb:Below w.heap.size w (w.alloc (.cells #[.int .u64 k0,.int .u64 k1,.int .u64 l,.int .u64 r,.int .u64 k4,.int .u64 k5,.int .u64 hh] 319)):=(aa _ w).alloc Ih _;have ap:=fun W (hW:Below w.heap.size w W)=>fJ (h.below hW) hi l hll h1;have ar:=fun W (hW:Below w.heap.size w W)=>fJ (h.below hW) hi r hrl h2;have au:=fun W (hW:Below w.heap.size w W)=>kP (h.below hW) hi l hll h3;have a0:=fun W (hW:Below w.heap.size w W)=>kP (h.below hW) hi r hrl h4;have HG:=kq8 ap ar au a0 ao h q0 qb;clear ap ar au a0 ao h q0 qb h1 h2 h3 h4 hw hm hi a2;go_enter func247,ntmps247;go_wp2_with fail;refine(HG.a _ HG.h).mono ?_;rintro e w1 ⟨rfl,ad⟩;have r1:=(ad.block w.heap.size (by simp)).trans HG.g;have H1:=kq2 (HG.h.trans (ad.mono (by simp))) r1;clear ad r1;go_wp2_with fail;refine(HG.b _ H1.a).mono ?_;rintro e w2 ⟨rfl,ai⟩;have r2:=(ai.block w.heap.size (gl H1.b)).trans H1.b;obtain⟨c0,c1,c2,c3,c4,c5,c6⟩:=gG r2;obtain⟨f0,f1,f2,f3,f4,f5,f6⟩:=qI r2;have H2:=kq2 (H1.a.trans (ai.mono H1.a.size)) r2;clear ai r2;go_wp2_with fail;have r3:(w2.setCell ⟨w.heap.size,4,none⟩ (.int .u64 ((m:Int)+1))).heap[w.heap.size]?=some (.cells #[.int .u64 k0,.int .u64 k1,.int .u64 l,.int .u64 r,.int .u64 ((m:Int)+1),.int .u64 k5,.int .u64 hh] 319 (0,0)):=by rw[heap_setCell H2.b];rfl
 have B3:=H2.a.setCell (p:=⟨w.heap.size,4,none⟩) (Nat.le_refl w.heap.size) (.int .u64 ((m:Int)+1));generalize w2.setCell ⟨w.heap.size,4,none⟩ (.int .u64 ((m:Int)+1))=w3 at*;refine(HG.c _ B3).mono ?_;rintro e w4 ⟨rfl,al⟩;have H4:=kq2 (B3.trans (al.mono B3.size)) ((al.block w.heap.size (gl r3)).trans r3);clear al r3 B3 c0 c1 c2 c3 c4 c5 c6 f0 f1 f2 f3 f4 f5 f6;go_wp2_with fail;refine(HG.d _ H4.a).mono ?_;rintro e w5 ⟨rfl,an⟩;have r5:=(an.block w.heap.size (gl H4.b)).trans H4.b;obtain⟨c0,c1,c2,c3,c4,c5,c6⟩:=gG r5;obtain⟨f0,f1,f2,f3,f4,f5,f6⟩:=qI r5;have H5:=kq2 (H4.a.trans (an.mono H4.a.size)) r5;clear an r5;go_wp2_with fail;have r6:(w5.setCell ⟨w.heap.size,5,none⟩ (.int .u64 ((x:Int)+y+1))).heap[w.heap.size]?=some (.cells #[.int .u64 k0,.int .u64 k1,.int .u64 l,.int .u64 r,.int .u64 ((m:Int)+1),.int .u64 ((x:Int)+y+1),.int .u64 hh] 319 (0,0)):=by rw[heap_setCell H5.b];rfl
 have B6:=H5.a.setCell (p:=⟨w.heap.size,5,none⟩) (Nat.le_refl w.heap.size) (.int .u64 ((x:Int)+y+1));have a1:w.heap.size<(w5.setCell ⟨w.heap.size,5,none⟩ (.int .u64 ((x:Int)+y+1))).heap.size:=(gl r6);refine(HG.e _ _ (HG.f.wide B6)).mono ?_;rintro e w7 ⟨rfl,h7,k7⟩;have r7:=(k7.block w.heap.size (ae ⟨Nat.le_refl _,a1⟩)).trans r6;have a3:w7.cell? ⟨w.heap.size,6,none⟩=some (.int .u64 hh):=by rw[Fs r7];rfl
 have H7:=kq2 (h7.mono (Z:=Y) fun k hk=>ab hk) ((Fo.of_below B6 HG.f.yl).trans (k7.mono fun k hk=>ab hk));clear h7 k7 r7 r6 B6 a1 c0 c1 c2 c3 c4 c5 c6 f0 f1 f2 f3 f4 f5 f6;go_wp2_with fail;go_ret;exact⟨rfl,H7.out⟩
def eL(f:FuncId):Value:=.func (.func f) #[] #[]
def j6(kind:Nat)(j c:FuncId):Prop:=∀W,Cb 184 #[.int .i64 kind] W (.tuple #[.agg #[eL j,eL c],.bool true])
def gS(ps:Nat)(j c:FuncId):Value:=.agg #[PV ps,eL j,eL c]
theorem ew{u0 u1:Value}(h:W.heap[b]?=some (.cells #[u0,u1] t fr))(v0 v1:Value):((W.setCell ⟨b,0,none⟩ (v0)).setCell ⟨b,1,none⟩ (v1)).heap[b]?=some (.cells #[v0,v1] t fr):=by
 rw[heap_setCell (heap_setCell h)];rfl
theorem eT{w W:World}(h:Below w.heap.size w W)(hb:w.heap.size<=b)(v0 v1:Value):Below w.heap.size w ((W.setCell ⟨b,0,none⟩ (v0)).setCell ⟨b,1,none⟩ (v1)):=
 (h.setCell (p:=⟨b,0,none⟩) hb _).setCell (p:=⟨b,1,none⟩) hb _
theorem xf{u0 u1 u2:Value}(h:W.heap[b]?=some (.cells #[u0,u1,u2] t fr))(v0 v1 v2:Value):(((W.setCell ⟨b,0,none⟩ (v0)).setCell ⟨b,1,none⟩ (v1)).setCell ⟨b,2,none⟩ (v2)).heap[b]?=some (.cells #[v0,v1,v2] t fr):=by
 rw[heap_setCell (heap_setCell (heap_setCell h))];rfl
theorem xe{w W:World}(h:Below w.heap.size w W)(hb:w.heap.size<=b)(v0 v1 v2:Value):Below w.heap.size w (((W.setCell ⟨b,0,none⟩ (v0)).setCell ⟨b,1,none⟩ (v1)).setCell ⟨b,2,none⟩ (v2)):=
 ((h.setCell (p:=⟨b,0,none⟩) hb _).setCell (p:=⟨b,1,none⟩) hb _).setCell (p:=⟨b,2,none⟩) hb _
theorem E2:j6 1 197 198:=by
 intro W;simp only[eL];go_enter func184,ntmps184;go_wp2_with fail;exact bodyPost_ret (v:=.tuple #[.agg #[.func (.func 197) #[] #[],.func (.func 198) #[] #[]],.bool true]) (by simp[results,f184,go_sem]) rfl ⟨rfl,(aa _ _).alloc Ih _⟩
theorem qKjaa{P:Prop}(h:P:=by
 obtain⟨c0,c1,c2⟩:=fq r2;obtain⟨f0,f1,f2⟩:=uA r2;obtain⟨d0,d1⟩:=Fp q2;have HX:=kq2 r2 B2;clear r2 B2 q2;go_wp2_with fail;have q3:=xf HX.a (PV ps) (.func (.func j) #[] #[]) (.func (.func c) #[] #[]);have B3:=xe HX.b (Nat.le_refl w.heap.size) (PV ps) (.func (.func j) #[] #[]) (.func (.func c) #[] #[]);generalize (((wr.setCell ⟨w.heap.size,0,none⟩ (PV ps)).setCell ⟨w.heap.size,1,none⟩ (.func (.func j) #[] #[])).setCell ⟨w.heap.size,2,none⟩ (.func (.func c) #[] #[]))=W3 at*;obtain⟨e0,e1,e2⟩:=fq q3;exact bodyPost_ret (v:=.tuple #[.agg #[PV ps,.func (.func j) #[] #[],.func (.func c) #[] #[]],.int .i64 0]) (by simp[results,f164,go_sem,e0,e1,e2]) rfl ⟨rfl,B3⟩):P:=h
theorem yG(h:Ig w ps S Y)(hi:Fv S){j c:FuncId}(hk:j6 kind j c):
 Cb 164 #[PV ps,.int .i64 kind,.string ⟨#[]⟩,.slice none 0 0] w (.tuple #[gS ps j c,.int .i64 0]):=by
 have q0:=heap_alloc_new w (.cells #[.pointer none,.nilFunc,.nilFunc] 265);have B0:=(aa w.heap.size w).alloc Ih (.cells #[.pointer none,.nilFunc,.nilFunc] 265);have al:=fB (h.below B0) hi 0 (by omega);rw[fU] at al;simp only[gS,j6,eL] at hk⊢;have HG:=kq4 al hk q0 B0;clear al hk h hi q0 B0;go_enter func164,ntmps164;go_wp2_with fail;refine HG.a.mono ?_;rintro e w1 ⟨rfl,rfl⟩;go_wp2_with fail;refine(HG.b _).mono ?_;rintro e w2 ⟨rfl,ai⟩;have ad:=ai.alloc ai.size (.cells #[.func (.func j) #[] #[],.func (.func c) #[] #[]] 263);have r2:=(ad.block w.heap.size (by simp)).trans HG.c;have q2:=heap_alloc_new w2 (.cells #[.func (.func j) #[] #[],.func (.func c) #[] #[]] 263);have B2:=HG.d.trans (ad.mono HG.d.size);go_wp2_with fail;generalize w2.alloc (.cells #[.func (.func j) #[] #[],.func (.func c) #[] #[]] 263)=W at*;generalize w2.heap.size=bt at*;have HR:=kq3 r2 B2 q2;clear r2 B2 ai ad q2
 go_loopw [15,16,17,40] (fun _ _ _ i wr=>i=.int .i64 0/\wr=W) (fun _ _ _ _ _=>0)
 case atStart=>exact⟨rfl,rfl⟩
 case round=>
  obtain⟨rfl,rfl⟩:=hrel;obtain⟨r2,B2,q2⟩:=HR.out;exact qKjaa
theorem yH(h:Ig w ps S Y)(hi:Fv S){j c:FuncId}(hk:j6 kind j c)(a b:Nat)(ha:a<2^64)(hb:b<2^64)(hta:isT S a=true)(htb:isT S b=true)(rb:Nat)(hr:w.heap[rb]?=some (.cells #[.int .u64 a,.int .u64 b] t fr)):
 Cb 164 #[PV ps,.int .i64 kind,.string ⟨#[]⟩,.slice (some ⟨rb,0,none⟩) 2 2] w (.tuple #[gS ps j c,.int .i64 0]):=by
 have q0:=heap_alloc_new w (.cells #[.pointer none,.nilFunc,.nilFunc] 265);have B0:=(aa w.heap.size w).alloc Ih (.cells #[.pointer none,.nilFunc,.nilFunc] 265);have a6:=fB (h.below B0) hi 0 (by omega);rw[fU] at a6;have ap:=fun W (hW:Below w.heap.size w W)=>iO (h.below hW) hi a ha;have ar:=fun W (hW:Below w.heap.size w W)=>iO (h.below hW) hi b hb;have al:∀er:Nat,(getNode S a).2=er->(((a:Int) !=0) && ((er:Int) !=0))=false:=fun er he=>by
  unfold isT at hta;simp only[he,Bool.or_eq_true,decide_eq_true_eq] at hta
  rcases hta with e | e<;>simp[e]
 have an:∀er:Nat,(getNode S b).2=er->(((b:Int) !=0) && ((er:Int) !=0))=false:=fun er he=>by
  unfold isT at htb;simp only[he,Bool.or_eq_true,decide_eq_true_eq] at htb
  rcases htb with e | e<;>simp[e]
 obtain⟨⟨⟨a0,a1,a2,a3,a4,a5⟩,ea⟩,a7⟩:∃q,getNode S a=q:=⟨_,rfl⟩;obtain⟨⟨⟨b0,b1,b2,b3,b4,b5⟩,eb⟩,a8⟩:∃q,getNode S b=q:=⟨_,rfl⟩;rw[a7] at ap al;rw[a8] at ar an;have al:=al ea rfl;have an:=an eb rfl;simp only[gS,j6,eL,eS] at hk ap ar⊢;have HG:=kq7 a6 hk q0 B0 ap ar hr;clear a6 hk h hi q0 B0 ap ar hta htb a7 a8 hr;have HZ:=kq2 al an;clear al an;go_enter func164,ntmps164;go_wp2_with fail;refine HG.a.mono ?_;rintro e w1 ⟨rfl,rfl⟩;go_wp2_with fail;refine(HG.b _).mono ?_;rintro e w2 ⟨rfl,ao⟩;have au:=ao.alloc ao.size (.cells #[.func (.func j) #[] #[],.func (.func c) #[] #[]] 263);have r2:=(au.block w.heap.size (by simp)).trans HG.c;have q2:=heap_alloc_new w2 (.cells #[.func (.func j) #[] #[],.func (.func c) #[] #[]] 263);have B2:=HG.d.trans (au.mono HG.d.size);have a9:w.heap.size<w2.heap.size:=by have:=ao.size;simp at this;omega
 go_wp2_with fail;generalize w2.alloc (.cells #[.func (.func j) #[] #[],.func (.func c) #[] #[]] 263)=W at*;generalize w2.heap.size=bt at*;have HR:=kq4 r2 B2 q2 a9;clear r2 B2 ao au q2 a9
 go_loopw [15,16,17,40] (fun _ _ _ i wr=>(i=.int .i64 0/\Below W.heap.size W wr)\/(i=.int .i64 1/\Below W.heap.size W wr)\/(i=.int .i64 2/\Below W.heap.size W wr)) (fun _ _ _ i _=>2-(intOf i).toNat)
 case atStart=>exact ab ⟨rfl,aa _ _⟩
 case round=>
  obtain⟨rfl,hW⟩ | ⟨rfl,hW⟩ | ⟨rfl,hW⟩:=hrel
  ·have ai:=((HR.b.trans (hW.mono HR.b.size)).block rb (gl HG.g)).trans HG.g;obtain⟨c0,c1⟩:=Fp ai;have HW:=If hW;clear hW ai;go_wp2_with fail;refine(HG.e _ (HR.b.trans (HW.out.mono HR.b.size))).mono ?_;rintro e w5 ⟨rfl,ad⟩;have H5:=If ((HW.out.trans (ad.mono HW.out.size)).alloc (HW.out.trans (ad.mono HW.out.size)).size (.cells #[.int .u64 a0,.int .u64 a1,.int .u64 a2,.int .u64 a3,.int .u64 a4,.int .u64 a5] 232));clear ad;have hz:=HZ.a;go_wp2_with fail
   all_goals exact⟨ae (ab ⟨rfl,H5.out⟩),by simp[intOf]⟩
  ·have ai:=((HR.b.trans (hW.mono HR.b.size)).block rb (gl HG.g)).trans HG.g;obtain⟨c0,c1⟩:=Fp ai;have HW:=If hW;clear hW ai;go_wp2_with fail;refine(HG.f _ (HR.b.trans (HW.out.mono HR.b.size))).mono ?_;rintro e w5 ⟨rfl,ad⟩;have H5:=If ((HW.out.trans (ad.mono HW.out.size)).alloc (HW.out.trans (ad.mono HW.out.size)).size (.cells #[.int .u64 b0,.int .u64 b1,.int .u64 b2,.int .u64 b3,.int .u64 b4,.int .u64 b5] 232));clear ad;have hz:=HZ.b;go_wp2_with fail
   all_goals exact⟨ae (ae ⟨rfl,H5.out⟩),by simp[intOf]⟩
  ·obtain⟨r2,B2,q2,-⟩:=HR.out
   replace B2:=B2.trans (hW.mono B2.size)
   replace r2:=(hW.block _ (gl r2)).trans r2
   replace q2:=(hW.block _ (gl q2)).trans q2
   exact qKjaa
theorem xj{u0 u1 u2 u3 u4 u5:Value}(h:W.heap[b]?=some (.cells #[u0,u1,u2,u3,u4,u5] t fr))(v0 v1 v2 v3 v4 v5:Value):((((((W.setCell ⟨b,0,none⟩ (v0)).setCell ⟨b,1,none⟩ (v1)).setCell ⟨b,2,none⟩ (v2)).setCell ⟨b,3,none⟩ (v3)).setCell ⟨b,4,none⟩ (v4)).setCell ⟨b,5,none⟩ (v5)).heap[b]?=some (.cells #[v0,v1,v2,v3,v4,v5] t fr):=by
 rw[heap_setCell (heap_setCell (heap_setCell (heap_setCell (heap_setCell (heap_setCell h)))))];rfl
theorem xh{w W:World}(h:Below w.heap.size w W)(hb:w.heap.size<=b)(v0 v1 v2 v3 v4 v5:Value):Below w.heap.size w ((((((W.setCell ⟨b,0,none⟩ (v0)).setCell ⟨b,1,none⟩ (v1)).setCell ⟨b,2,none⟩ (v2)).setCell ⟨b,3,none⟩ (v3)).setCell ⟨b,4,none⟩ (v4)).setCell ⟨b,5,none⟩ (v5)):=
 (((((h.setCell (p:=⟨b,0,none⟩) hb _).setCell (p:=⟨b,1,none⟩) hb _).setCell (p:=⟨b,2,none⟩) hb _).setCell (p:=⟨b,3,none⟩) hb _).setCell (p:=⟨b,4,none⟩) hb _).setCell (p:=⟨b,5,none⟩) hb _
structure kW (j:FuncId) (jn:Jn):Prop where
 enter:∀(args:Array Value) (w:World),(callFunc j args).run prog w=.ok (.enter j args) w
 inv:∀{S S':St} {l m r:Nat} {R:Nat×Nat},Fv S->jn S l m r=some (R,S')->Fv S'
 lt:∀{S S':St} {l m r:Nat} {R:Nat×Nat},Fv S->l<2^64->m<2^64->r<2^64->jn S l m r=some (R,S')->R.1<2^64
 ok:∀{S S':St} {l m r:Nat} {R:Nat×Nat},jn S l m r=some (R,S')->R.2=0
 call:∀{w:World} {ps:Nat} {S S':St} {Y:Nat->Prop} {l m r:Nat} {R:Nat×Nat},Ig w ps S Y->Fv S->l<2^64->m<2^64->r<2^64->jn S l m r=some (R,S')->
  Ct j #[PV ps,.int .u64 l,.int .u64 m,.int .u64 r] w fun e w'=>e=.returned (.tuple #[.int .u64 R.1,.int .i64 R.2])/\Ig w' ps S' Y/\Fo Y w w'
theorem nW{j:FuncId}{jn:Jn}(hj:kW j jn){S S':St}{l m r x:Nat}(h:jq jn S l m r=some (x,S')):jn S l m r=some ((x,0),S'):=by
 unfold jq at h;obtain⟨⟨⟨a,b⟩,S1⟩,h1,h2⟩:=aB.1 h;have:=hj.ok h1;simp only at this;subst this;simp only[if_true] at h2
 injection h2 with e1 e2
 rw[h1,e1,e2]
theorem qn{S S':St}(h:Ig w ps S Y)(hi:Fv S){j c:FuncId}{jn:Jn}(hj:kW j jn)(l m r:Nat)(hl:l<2^64)(hm:m<2^64)(hr:r<2^64){x:Nat}(hx:jq jn S l m r=some (x,S')):
 Ct 302 #[gS ps j c,.int .u64 l,.int .u64 m,.int .u64 r] w fun e w'=>e=.returned (.int .u64 x)/\Ig w' ps S' Y/\Fo Y w w':=by
 have h1:=nW hj hx;have q0:=heap_alloc_new w (.cells #[PV ps,eL j,eL c] 265);have B0:=(aa w.heap.size w).alloc Ih (.cells #[PV ps,eL j,eL c] 265);have hc:=hj.call (h.below B0) hi hl hm hr h1;simp only[gS,eL] at q0 B0 hc⊢;have ad:=hj.enter;have HG:=kq4 hc B0 q0 h;clear hc q0 B0 h hi hj hx h1;go_enter func302,ntmps302;go_wp2_with fail;refine HG.a.mono ?_;rintro e w1 ⟨rfl,h1,k1⟩;have H1:=kq2 h1 ((Fo.of_below HG.b HG.d.yl).trans k1);clear h1 k1;go_wp2_with fail;go_ret;exact⟨rfl,H1.out⟩
theorem AD(h:Ig w ps S Y)(hi:Fv S){j c:FuncId}(hh:Nat)(hl:hh<2^64){t:List UInt8}(ht:gD S (getNode S hh).1.key=some t):
 Cb 306 #[gS ps j c,.int .u64 hh] w (.tuple #[SV t,eS (getNode S hh).1]):=by
 have an:=fs h hh;have hg:=fun W (hW:Below w.heap.size w W)=>iO (h.below hW) hi hh hl;obtain⟨⟨⟨k0,k1,k2,k3,k4,k5⟩,er⟩,hE⟩:∃q,getNode S hh=q:=⟨_,rfl⟩;rw[hE] at hg an ht⊢;unfold gD at ht
 split at ht
 ·cases ht
 rename_i h8;have ht:=Option.some.inj ht;have hb:=fun W (hW:Below w.heap.size w W)=>iz (h.below hW) hi k0 an.key h8;simp only at hb ht;rw[ht] at hb;generalize (fz S k0).2=eb at*;have q0:=heap_alloc_new w (.cells #[PV ps,eL j,eL c] 265);have B1:=(aa w.heap.size w).alloc Ih (.cells #[PV ps,eL j,eL c] 265);have Bz:=(aa (w.alloc (.cells #[PV ps,eL j,eL c] 265)).heap.size (w.alloc (.cells #[PV ps,eL j,eL c] 265))).alloc Ih (.cells #[.int .u64 0,.int .u64 0,.int .u64 0,.int .u64 0,.int .u64 0,.int .u64 0] 232);have q1:=(Bz.block w.heap.size (by simp)).trans q0;have z1:=heap_alloc_new (w.alloc (.cells #[PV ps,eL j,eL c] 265)) (.cells #[.int .u64 0,.int .u64 0,.int .u64 0,.int .u64 0,.int .u64 0,.int .u64 0] 232);have B0:=B1.trans (Bz.mono B1.size);simp only[World.size_alloc] at z1;simp only[gS,eL,eS] at B0 hg q1 z1⊢;have HG:=kq5 hg hb B0 q1 z1;clear hg hb B0 h hi an hE ht h8 q0 q1 B1 Bz z1;go_enter func306,ntmps306;go_wp2_with fail;refine(HG.a _ HG.c).mono ?_;rintro e w1 ⟨rfl,al⟩;have ad:=al.alloc al.size (.cells #[.int .u64 k0,.int .u64 k1,.int .u64 k2,.int .u64 k3,.int .u64 k4,.int .u64 k5] 232);have q2:=heap_alloc_new w1 (.cells #[.int .u64 k0,.int .u64 k1,.int .u64 k2,.int .u64 k3,.int .u64 k4,.int .u64 k5] 232);have r2:=(ad.block w.heap.size (by simp;omega)).trans HG.d;have z2:=(ad.block (w.heap.size+1) (by simp)).trans HG.e;obtain⟨c0,c1,c2⟩:=fq r2;have H2:=kq3 (HG.c.trans (ad.mono HG.c.size)) q2 z2;clear al ad q2 r2 z2;go_wp2_with fail;refine(HG.b _ H2.a).mono ?_;rintro e w3 ⟨rfl,ai⟩;have q3:=(ai.block _ (gl H2.b)).trans H2.b;have z3:=(ai.block _ (gl H2.c)).trans H2.c;obtain⟨d0,d1,d2,d3,d4,d5⟩:=ia q3;obtain⟨e0,e1,e2,e3,e4,e5⟩:=ia z3;obtain⟨f0,f1,f2,f3,f4,f5⟩:=lP z3;have H3:=kq2 (H2.a.trans (ai.mono H2.a.size)) z3;clear ai q3 z3;go_wp2_with fail
 go_region
 go_wp2_with fail;have q6:((((((w3.setCell ⟨(w.heap.size+1),0,none⟩ (.int .u64 k0)).setCell ⟨(w.heap.size+1),1,none⟩ (.int .u64 k1)).setCell ⟨(w.heap.size+1),2,none⟩ (.int .u64 k2)).setCell ⟨(w.heap.size+1),3,none⟩ (.int .u64 k3)).setCell ⟨(w.heap.size+1),4,none⟩ (.int .u64 k4)).setCell ⟨(w.heap.size+1),5,none⟩ (.int .u64 k5)).drew.heap[w.heap.size+1]?=_:=xj H3.b (.int .u64 k0) (.int .u64 k1) (.int .u64 k2) (.int .u64 k3) (.int .u64 k4) (.int .u64 k5);have B6:=(xh H3.a (bM w.heap.size) (.int .u64 k0) (.int .u64 k1) (.int .u64 k2) (.int .u64 k3) (.int .u64 k4) (.int .u64 k5)).drew;generalize ((((((w3.setCell ⟨(w.heap.size+1),0,none⟩ (.int .u64 k0)).setCell ⟨(w.heap.size+1),1,none⟩ (.int .u64 k1)).setCell ⟨(w.heap.size+1),2,none⟩ (.int .u64 k2)).setCell ⟨(w.heap.size+1),3,none⟩ (.int .u64 k3)).setCell ⟨(w.heap.size+1),4,none⟩ (.int .u64 k4)).setCell ⟨(w.heap.size+1),5,none⟩ (.int .u64 k5)).drew=W6 at*;obtain⟨g0,g1,g2,g3,g4,g5⟩:=ia q6;exact bodyPost_ret (v:=.tuple #[SV t,.agg #[.int .u64 k0,.int .u64 k1,.int .u64 k2,.int .u64 k3,.int .u64 k4,.int .u64 k5]]) (by simp[results,f306,go_sem,g0,g1,g2,g3,g4,g5]) rfl ⟨rfl,B6⟩
theorem uf{j c:FuncId}{jn:Jn}(hjn:kW j jn)(key:List UInt8):∀(f d:Nat),d+f=200->∀{w:World} {S S':St} {Y:Nat->Prop} {root l m r:Nat},Ig w ps S Y->Fv S->root<2^64->
 kr jn key f S root=some ((l,m,r),S')->
 (Ct 301 #[gS ps j c,.int .u64 root,SV key,.int .i64 d] w fun e w'=>e=.returned (.tuple #[.int .u64 l,.int .u64 m,.int .u64 r])/\Ig w' ps S' Y/\Fo Y w w')/\Fv S'/\l<2^64/\m<2^64/\r<2^64:=by
 intro f;induction f with
 | zero=>
  intro d hd w S S' Y root l m r h hi hl hs;obtain rfl:d=200:=by omega
  rw[wZ] at hs;have hs:=Option.some.inj hs;injection hs with e1 e2
  injection e1 with e1 e3
  injection e3 with e3 e4
  subst e1 e2 e3 e4;refine⟨?_,hi,by decide,by decide,by decide⟩;have HG:=kq2 (h.below ((aa w.heap.size w).alloc Ih (.cells #[PV ps,.func (.func j) #[] #[],.func (.func c) #[] #[]] 265))) (h.keep ((aa w.heap.size w).alloc Ih (.cells #[PV ps,.func (.func j) #[] #[],.func (.func c) #[] #[]] 265)));simp only[gS,eL];clear h hi hd hjn;go_enter func301,ntmps301;go_wp2_with fail;all_goals (go_ret3;exact⟨rfl,HG.out⟩)
 | succ f ih=>
  intro d hd w S S' Y root l m r h hi hl hs;rw[sk] at hs;split at hs
  ·rename_i h0;subst h0;have hs:=Option.some.inj hs;injection hs with e1 e2
   injection e1 with e1 e3
   injection e3 with e3 e4
   subst e1 e2 e3 e4;refine⟨?_,hi,by decide,by decide,by decide⟩;have HG:=kq2 (h.below ((aa w.heap.size w).alloc Ih (.cells #[PV ps,.func (.func j) #[] #[],.func (.func c) #[] #[]] 265))) (h.keep ((aa w.heap.size w).alloc Ih (.cells #[PV ps,.func (.func j) #[] #[],.func (.func c) #[] #[]] 265)));simp only[gS,eL];clear h hi hd hjn ih;go_enter func301,ntmps301;go_wp2_with fail;all_goals (go_ret3;exact⟨rfl,HG.out⟩)
  ·rename_i h0;split at hs
   ·cases hs
   rename_i k hk;have hq:((root:Int)==0)=false:=by simp;omega
   have bb:((d:Int)==200)=false:=by simp;omega
   have bc:IntKind.i64.wrap ((d:Int)+1)=(d:Int)+1:=aD _ (by omega);have ad:=fs h root;have q0:=heap_alloc_new w (.cells #[PV ps,eL j,eL c] 265);have B0:=(aa w.heap.size w).alloc Ih (.cells #[PV ps,eL j,eL c] 265);have ao:=fun W (hW:Below w.heap.size w W)=>AD (j:=j) (c:=c) (h.below hW) hi root hl hk;have a5:=fun W=>sT key k W;split at hs
   ·rename_i hc;have a':(Fu key k<0)=True:=eq_true hc;split at hs
    ·cases hs
    rename_i l1 m1 r1 S1 h1;obtain⟨⟨x,S2⟩,au,he⟩:=aB.1 hs;injection he with e1 e2
    injection e1 with e1 e3
    injection e3 with e3 e4
    simp only at e1 e3 e4 au;subst e1 e2 e3 e4;have an:=fun W Z (hW:Ig W ps S Z)=>(ih (d+1) (by omega) hW hi ad.left h1).1;obtain⟨-,ar,a1,a6,a3⟩:=ih (d+1) (by omega) h hi ad.left h1;have a4:=nW hjn au;have al:=fun W Z (hW:Ig W ps S1 Z)=>qn (c:=c) hW ar hjn r1 root (getNode S root).1.right a3 hl ad.right au;refine⟨?_,hjn.inv ar a4,a1,a6,(by have q:=hjn.lt ar (by first | exact hl | exact a3 | exact ad.right) (by first | exact hl | exact a3 | exact ad.right) (by first | exact hl | exact a3 | exact ad.right) a4;exact q)⟩;obtain⟨⟨⟨k0,k1,k2,k3,k4,k5⟩,er⟩,hE⟩:∃q,getNode S root=q:=⟨_,rfl⟩;rw[hE] at ao ad an al;simp only at ad an al;simp only[gS,eL,eS] at q0 B0 ao an al⊢;have HG:=kq7 ao a5 q0 B0 an al h;clear ao a5 q0 B0 an al h hi hE hk h1 hs au ar hjn ih hd h0 ad a1 a6 a3 a4 hl;go_enter func301,ntmps301;go_wp2_with fail;refine(HG.a _ HG.d).mono ?_;rintro e w1 ⟨rfl,ai⟩;have ap:=ai.alloc ai.size (.cells #[.int .u64 k0,.int .u64 k1,.int .u64 k2,.int .u64 k3,.int .u64 k4,.int .u64 k5] 232);have q2:=heap_alloc_new w1 (.cells #[.int .u64 k0,.int .u64 k1,.int .u64 k2,.int .u64 k3,.int .u64 k4,.int .u64 k5] 232);have r2:=(ap.block w.heap.size (by simp)).trans HG.c;have a2:w.heap.size<=w1.heap.size:=by have:=ai.size;simp at this;omega
    have B2:=HG.d.trans (ap.mono HG.d.size);go_wp2_with fail;generalize w1.alloc (.cells #[.int .u64 k0,.int .u64 k1,.int .u64 k2,.int .u64 k3,.int .u64 k4,.int .u64 k5] 232)=W at*;generalize w1.heap.size=b12 at*;refine(HG.b _).mono ?_;rintro e w2 ⟨rfl,rfl⟩;obtain⟨c0,c1,c2⟩:=fq r2;obtain⟨d0,d1,d2,d3,d4,d5⟩:=ia q2;have l8:=(gl r2);have a9:=(gl q2);have H2:=kq3 B2 r2 q2;have a8:=If a2;clear ai ap q2 r2 B2 a2;go_wp2_with fail;refine(HG.e _ _ (HG.g.wide H2.a)).mono ?_;rintro e w3 ⟨rfl,h3,a0⟩;have r3:=(a0.block w.heap.size (ae ⟨Nat.le_refl _,l8⟩)).trans H2.b;have q3:=(a0.block b12 (ae ⟨a8.out,a9⟩)).trans H2.c;obtain⟨e0,e1,e2⟩:=fq r3;obtain⟨g0,g1,g2,g3,g4,g5⟩:=ia q3;have H3:=kq2 h3 a0;clear h3 a0 r3 q3 c0 c1 c2 d0 d1 d2 d3 d4 d5;go_wp2_with fail;refine(HG.f _ _ H3.a).mono ?_;rintro e w4 ⟨rfl,h4,a7⟩;have H4:=kq2 (h4.mono (Z:=Y) fun k hk=>ab hk) ((Fo.of_below H2.a HG.g.yl).trans ((H3.b.trans a7).mono fun k hk=>ab hk));clear h4 a7 e0 e1 e2 g0 g1 g2 g3 g4 g5;go_wp2_with fail;go_ret3;exact⟨rfl,H4.out⟩
   ·rename_i hc;split at hs
    ·rename_i hc2;have a':(Fu key k<0)=False:=eq_false hc;have ba:(0<Fu key k)=True:=eq_true hc2;split at hs
     ·cases hs
     rename_i l1 m1 r1 S1 h1;obtain⟨⟨x,S2⟩,au,he⟩:=aB.1 hs;injection he with e1 e2
     injection e1 with e1 e3
     injection e3 with e3 e4
     simp only at e1 e3 e4 au;subst e1 e2 e3 e4;have an:=fun W Z (hW:Ig W ps S Z)=>(ih (d+1) (by omega) hW hi ad.right h1).1;obtain⟨-,ar,a1,a6,a3⟩:=ih (d+1) (by omega) h hi ad.right h1;have a4:=nW hjn au;have al:=fun W Z (hW:Ig W ps S1 Z)=>qn (c:=c) hW ar hjn (getNode S root).1.left root l1 ad.left hl a1 au;refine⟨?_,hjn.inv ar a4,(by have q:=hjn.lt ar (by first | exact hl | exact a1 | exact ad.left) (by first | exact hl | exact a1 | exact ad.left) (by first | exact hl | exact a1 | exact ad.left) a4;exact q),a6,a3⟩;obtain⟨⟨⟨k0,k1,k2,k3,k4,k5⟩,er⟩,hE⟩:∃q,getNode S root=q:=⟨_,rfl⟩;rw[hE] at ao ad an al;simp only at ad an al;simp only[gS,eL,eS] at q0 B0 ao an al⊢;have HG:=kq7 ao a5 q0 B0 an al h;clear ao a5 q0 B0 an al h hi hE hk h1 hs au ar hjn ih hd h0 ad a1 a6 a3 a4 hl;go_enter func301,ntmps301;go_wp2_with fail;refine(HG.a _ HG.d).mono ?_;rintro e w1 ⟨rfl,ai⟩;have ap:=ai.alloc ai.size (.cells #[.int .u64 k0,.int .u64 k1,.int .u64 k2,.int .u64 k3,.int .u64 k4,.int .u64 k5] 232);have q2:=heap_alloc_new w1 (.cells #[.int .u64 k0,.int .u64 k1,.int .u64 k2,.int .u64 k3,.int .u64 k4,.int .u64 k5] 232);have r2:=(ap.block w.heap.size (by simp)).trans HG.c;have a2:w.heap.size<=w1.heap.size:=by have:=ai.size;simp at this;omega
     have B2:=HG.d.trans (ap.mono HG.d.size);go_wp2_with fail;generalize w1.alloc (.cells #[.int .u64 k0,.int .u64 k1,.int .u64 k2,.int .u64 k3,.int .u64 k4,.int .u64 k5] 232)=W at*;generalize w1.heap.size=b12 at*;refine(HG.b _).mono ?_;rintro e w2 ⟨rfl,rfl⟩;obtain⟨c0,c1,c2⟩:=fq r2;obtain⟨d0,d1,d2,d3,d4,d5⟩:=ia q2;have l8:=(gl r2);have a9:=(gl q2);have H2:=kq3 B2 r2 q2;have a8:=If a2;clear ai ap q2 r2 B2 a2;go_wp2_with fail;refine(HG.e _ _ (HG.g.wide H2.a)).mono ?_;rintro e w3 ⟨rfl,h3,a0⟩;have r3:=(a0.block w.heap.size (ae ⟨Nat.le_refl _,l8⟩)).trans H2.b;have q3:=(a0.block b12 (ae ⟨a8.out,a9⟩)).trans H2.c;obtain⟨e0,e1,e2⟩:=fq r3;obtain⟨g0,g1,g2,g3,g4,g5⟩:=ia q3;have H3:=kq2 h3 a0;clear h3 a0 r3 q3 c0 c1 c2 d0 d1 d2 d3 d4 d5;go_wp2_with fail;refine(HG.f _ _ H3.a).mono ?_;rintro e w4 ⟨rfl,h4,a7⟩;have H4:=kq2 (h4.mono (Z:=Y) fun k hk=>ab hk) ((Fo.of_below H2.a HG.g.yl).trans ((H3.b.trans a7).mono fun k hk=>ab hk));clear h4 a7 e0 e1 e2 g0 g1 g2 g3 g4 g5;go_wp2_with fail;go_ret3;exact⟨rfl,H4.out⟩
    ·rename_i hc2;have a':(Fu key k<0)=False:=eq_false hc;have ba:(0<Fu key k)=False:=eq_false hc2;have hs:=Option.some.inj hs;injection hs with e1 e2
     injection e1 with e1 e3
     injection e3 with e3 e4
     subst e1 e2 e3 e4;refine⟨?_,hi,ad.left,hl,ad.right⟩;have an:=True.intro;have al:=True.intro;obtain⟨⟨⟨k0,k1,k2,k3,k4,k5⟩,er⟩,hE⟩:∃q,getNode S root=q:=⟨_,rfl⟩;rw[hE] at ao ad⊢;simp only at ad⊢;simp only[gS,eL,eS] at q0 B0 ao⊢;have HG:=kq5 ao a5 q0 B0 h;clear ao a5 q0 B0 an al h hi hE hk hjn ih hd h0 ad hl;go_enter func301,ntmps301;go_wp2_with fail;refine(HG.a _ HG.d).mono ?_;rintro e w1 ⟨rfl,ai⟩;have ap:=ai.alloc ai.size (.cells #[.int .u64 k0,.int .u64 k1,.int .u64 k2,.int .u64 k3,.int .u64 k4,.int .u64 k5] 232);have q2:=heap_alloc_new w1 (.cells #[.int .u64 k0,.int .u64 k1,.int .u64 k2,.int .u64 k3,.int .u64 k4,.int .u64 k5] 232);have r2:=(ap.block w.heap.size (by simp)).trans HG.c;have a2:w.heap.size<=w1.heap.size:=by have:=ai.size;simp at this;omega
     have B2:=HG.d.trans (ap.mono HG.d.size);go_wp2_with fail;generalize w1.alloc (.cells #[.int .u64 k0,.int .u64 k1,.int .u64 k2,.int .u64 k3,.int .u64 k4,.int .u64 k5] 232)=W at*;generalize w1.heap.size=b12 at*;refine(HG.b _).mono ?_;rintro e w2 ⟨rfl,rfl⟩;obtain⟨c0,c1,c2⟩:=fq r2;obtain⟨d0,d1,d2,d3,d4,d5⟩:=ia q2;have l8:=(gl r2);have a9:=(gl q2);have H2:=kq3 B2 r2 q2;have a8:=If a2;clear ai ap q2 r2 B2 a2;go_wp2_with fail;go_quiet (fail)
     go_wp2_with fail;go_ret3;exact⟨rfl,HG.e.below (H2.a.trans ⟨rfl,rfl,rfl,Nat.le_refl _,fun _ _=>rfl⟩),HG.e.keep (H2.a.trans ⟨rfl,rfl,rfl,Nat.le_refl _,fun _ _=>rfl⟩)⟩
theorem Ax(t:Hs)(hh:Nat):(t.close hh).2.most=t.most/\(t.close hh).2.last=t.last:=by
 unfold Hs.close;split<;>exact⟨rfl,rfl⟩
theorem sE(h:Ig w ps S Y)(hi:Fv S)(hh:Nat)(hl:hh<2^64):
 Ct 75 #[PV ps,.int .u64 hh] w fun e w'=>e=.returned (.int .i64 ((S.drop hh).1:Nat))/\Ig w' ps (S.drop hh).2 Y/\Fo Y w w':=by
 have ad:=sD h hi hh hl;have au:=hi.addr_le hh
 rcases S.at_cases hh with⟨addr,n,h1,h2,_⟩ | ⟨h1,h2⟩
 ·have hR:S.drop hh=((S.t.close hh).1,⟨(iM S.a addr).2,(S.t.close hh).2⟩):=by unfold St.drop;rw[h1];rfl
  rw[hR];rw[h1] at ad au;simp only at ad au;have HG:=kq2 ad h;clear ad hR h1 h2 h;go_enter func75,ntmps75;go_wp2_with fail;refine HG.a.mono ?_;rintro e w1 ⟨rfl,rfl⟩;have hS:=HG.b;have ar:=Fo.refl Y w;obtain⟨pa,pm,ph,pt,v,hS⟩:=hS;obtain⟨_,_,_,c3,c4⟩:=hS.cells;have H1:=kq2 hS ar;clear hS ar;go_wp2_with fail;refine(Bu H1.a.heap addr (by omega)).mono ?_;rintro e w2 ⟨rfl,ao,al⟩;have ai:=H1.a.arena ao al;obtain⟨_,_,_,_,a1⟩:=ai.cells;have H2:=kq2 ai (H1.b.trans (al.mono fun k hk=>ab hk));clear c3 c4 ao al ai;go_wp2_with fail;refine(EI H2.a.tab hh hl (fun k=>k<w2.heap.size/\k≠pt/\v.ownBlock≠some k) (fun b hb e=>hb.2.2 e.symm)).mono ?_;rintro e w3 ⟨rfl,a0,an⟩;have ap:=H2.a.table a0 (Ax _ _) _ (fun k h1 h2 h3=>⟨h1,h2,h3⟩) an (fun b hb=>hb.2.2);have H3:=kq2 ap (H2.b.trans (an.mono fun k hk=>⟨H2.a.yl k hk,(H2.a.off k (ab hk)).1,(H2.a.off k (ab hk)).2⟩));clear a0 an ap;go_wp2_with fail;go_ret;exact⟨rfl,⟨_,_,_,_,_,H3.a⟩,H3.b⟩
 ·have hR:S.drop hh=(7,S):=by unfold St.drop;rw[h1];rfl
  rw[hR];rw[h1] at ad;have HG:=kq2 ad h;clear ad hR h1 h2 h;go_enter func75,ntmps75;go_wp2_with fail;refine HG.a.mono ?_;rintro e w1 ⟨rfl,rfl⟩;have H1:=kq2 HG.b (Fo.refl Y w);go_wp2_with fail;go_ret;exact⟨rfl,H1.out⟩