/- Trees balanced by two colours: get, black, red, is, put: the walks. -/
import Derived.Test.YtcibkdbpicledaaGreatDoorZYd
import Derived.Test.YtcibkdbpicledaaGreatDoorZFd
set_option maxRecDepth 100000
set_option maxHeartbeats 6400000
namespace Go.Proofs.YtcibkdbpicledaaGreatDoor
section
open Go.RowKit Tryz Go.BigFrame Go.Maps Go.WideMaps Lf
variable{S:St}{Y:Nat->Prop}{ps:Nat}{w:World}
theorem uy(a0 a1 a2 a3 a4 a5:Value)(w:World):(Instr.field 232 (.agg #[a0,a1,a2,a3,a4,a5]) 4).run prog w=.ok a4 w:=by kernel_rfl
def Lf.blackT(S:St)(h:Nat):Nat:=(getNode S h).1.mark / 2
def Lf.redT(S:St)(h:Nat):Bool:=decide ((getNode S h).1.mark % 2=1)
def Lf.putRM(S:St)(h l r:Nat)(isRed:Bool):Option St:=
 match fY S l,fY S r with
 | some x,some y=>if 4611686018427387904<=blackT S l then none else
  some (gM S h { (getNode S h).1 with left:=l,right:=r,mark:=blackT S l*2+(if isRed then 1 else 2),size:=x+y+1 }).2
 | _,_=>none
theorem wA{S S':St}{h l r:Nat}{c:Bool}(hp:putRM S h l r c=some S'):∃x y,fY S l=some x/\fY S r=some y/\blackT S l<2^62/\
 S'=(gM S h { (getNode S h).1 with left:=l,right:=r,mark:=blackT S l*2+(if c then 1 else 2),size:=x+y+1 }).2:=by
 unfold putRM at hp;split at hp
 ·rename_i x y h1 h2;split at hp
  ·cases hp
  ·exact⟨x,y,h1,h2,by omega,(Option.some.inj hp).symm⟩
 ·cases hp
theorem oQ(h:Ig w ps S Y)(hi:Fv S)(hh:Nat)(hl:hh<2^64):
 Cb 228 #[PV ps,.int .u64 hh] w (eS (getNode S hh).1):=by
 have B0:=(aa w.heap.size w).alloc Ih (.cells #[.int .u64 0,.int .u64 0,.int .u64 0,.int .u64 0,.int .u64 0,.int .u64 0] 232);have q0:=heap_alloc_new w (.cells #[.int .u64 0,.int .u64 0,.int .u64 0,.int .u64 0,.int .u64 0,.int .u64 0] 232);have hg:=iO (h.below B0) hi hh hl;obtain⟨⟨⟨k0,k1,k2,k3,k4,k5⟩,er⟩,hE⟩:∃r,getNode S hh=r:=⟨_,rfl⟩;rw[hE] at hg⊢;unfold eS at hg⊢;simp only at hg⊢;have HG:=kq3 hg B0 q0;clear hg h hi hE B0 q0;go_enter func228,ntmps228;go_wp2_with fail;refine HG.a.mono ?_;rintro e w1 ⟨rfl,hb⟩;have ad:=hb.alloc hb.size (.cells #[.int .u64 k0,.int .u64 k1,.int .u64 k2,.int .u64 k3,.int .u64 k4,.int .u64 k5] 232);have r0:=(ad.block w.heap.size (by simp)).trans HG.c;have B1:=HG.b.trans (ad.mono HG.b.size);obtain⟨c0,c1,c2,c3,c4,c5⟩:=ia r0;obtain⟨f0,f1,f2,f3,f4,f5⟩:=lP r0;have HB:=kq2 r0 B1;clear r0 B1 ad hb;go_wp2_with fail;have q6:=xj HB.a (.int .u64 k0) (.int .u64 k1) (.int .u64 k2) (.int .u64 k3) (.int .u64 k4) (.int .u64 k5);have B6:=xh HB.b (Nat.le_refl w.heap.size) (.int .u64 k0) (.int .u64 k1) (.int .u64 k2) (.int .u64 k3) (.int .u64 k4) (.int .u64 k5);generalize (((((((w1.alloc (.cells #[.int .u64 k0,.int .u64 k1,.int .u64 k2,.int .u64 k3,.int .u64 k4,.int .u64 k5] 232)).setCell ⟨w.heap.size,0,none⟩ (.int .u64 k0)).setCell ⟨w.heap.size,1,none⟩ (.int .u64 k1)).setCell ⟨w.heap.size,2,none⟩ (.int .u64 k2)).setCell ⟨w.heap.size,3,none⟩ (.int .u64 k3)).setCell ⟨w.heap.size,4,none⟩ (.int .u64 k4)).setCell ⟨w.heap.size,5,none⟩ (.int .u64 k5))=W6 at q6 B6⊢;obtain⟨g0,g1,g2,g3,g4,g5⟩:=ia q6;exact bodyPost_ret (v:=.agg #[.int .u64 k0,.int .u64 k1,.int .u64 k2,.int .u64 k3,.int .u64 k4,.int .u64 k5]) (by simp[results,f228,go_sem,g0,g1,g2,g3,g4,g5]) rfl ⟨rfl,B6⟩
theorem gy(h:Ig w ps S Y)(hi:Fv S)(hh:Nat)(hl:hh<2^64):
 Cb 224 #[PV ps,.int .u64 hh] w (.int .u64 (blackT S hh:Nat)):=by
 have hg:=oQ h hi hh hl;unfold blackT;obtain⟨⟨⟨k0,k1,k2,k3,k4,k5⟩,er⟩,hE⟩:∃r,getNode S hh=r:=⟨_,rfl⟩;rw[hE] at hg⊢;unfold eS at hg;simp only at hg⊢;have ad:=uy;have HG:=If hg;clear hg h hi hE;go_enter func224,ntmps224;go_wp2_with fail;refine HG.out.mono ?_;rintro e w1 ⟨rfl,hb⟩;have HB:=If hb;clear hb;go_wp2_with fail;go_ret;exact⟨by simp,HB.out⟩
theorem gq(h:Ig w ps S Y)(hi:Fv S)(hh:Nat)(hl:hh<2^64):
 Cb 227 #[PV ps,.int .u64 hh] w (.bool (redT S hh)):=by
 have hg:=oQ h hi hh hl;have ad:=(fs h hh).mark;unfold redT;obtain⟨⟨⟨k0,k1,k2,k3,k4,k5⟩,er⟩,hE⟩:∃r,getNode S hh=r:=⟨_,rfl⟩;rw[hE] at hg ad⊢;unfold eS at hg;simp only at hg ad⊢;have ai:bits BinOp.and IntKind.u64 (k4:Int) 1=((k4 % 2:Nat):Int):=by
  have h1:=bits_and_u64_nat k4 1 ad (by decide);rw[show ((1:Nat):Int)=1 from rfl] at h1;rw[h1,Nat.and_one_is_mod]
 have HA:=If ai;clear ai;have al:=uy;have HG:=If hg;clear hg h hi hE;go_enter func227,ntmps227;go_wp2_with fail;refine HG.out.mono ?_;rintro e w1 ⟨rfl,hb⟩;have HB:=If hb;clear hb;go_wp2_with fail;go_ret;refine⟨?_,HB.out⟩;rw[HA.out]
 rcases dB k4 with e | e<;>simp[e]
theorem io(h:Ig w ps S Y)(hi:Fv S)(hh:Nat)(hl:hh<2^64):
 Cb 223 #[PV ps,.int .u64 hh] w (.bool (isT S hh)):=by
 have hg:=iO h hi hh hl;obtain⟨R,hR⟩:=Ii (isT S hh);rw[hR];unfold isT at hR;obtain⟨⟨⟨k0,k1,k2,k3,k4,k5⟩,er⟩,hE⟩:∃r,getNode S hh=r:=⟨_,rfl⟩;rw[hE] at hg hR;unfold eS at hg;simp only at hg hR;have ad:R=(((hh:Int)==0) || ((er:Int)==0)):=by
  rw[<-hR]
  by_cases a:hh=0<;>by_cases b:er=0<;>simp[a,b]<;>omega
 have HG:=kq2 hg ad;clear hg h hi hE hR ad
 by_cases h0:hh=0
 ·subst h0;go_enter func223,ntmps223;go_wp2_with fail;refine HG.a.mono ?_;rintro e w1 ⟨rfl,hb⟩;have HB:=If (hb.alloc hb.size (.cells #[.int .u64 k0,.int .u64 k1,.int .u64 k2,.int .u64 k3,.int .u64 k4,.int .u64 k5] 232));clear hb;go_wp2_with fail;go_ret;obtain rfl:=HG.b;exact⟨by simp,HB.out⟩
 ·have hq:((hh:Int)==0)=false:=by simp;omega
  go_enter func223,ntmps223;go_wp2_with fail;refine HG.a.mono ?_;rintro e w1 ⟨rfl,hb⟩;have HB:=If (hb.alloc hb.size (.cells #[.int .u64 k0,.int .u64 k1,.int .u64 k2,.int .u64 k3,.int .u64 k4,.int .u64 k5] 232));clear hb;go_wp2_with fail;go_ret;obtain rfl:=HG.b;exact⟨by simp[hq],HB.out⟩
theorem qMaaa{P:Prop}(h:P:=by
 have B6:=H5.a.setCell (p:=⟨b,5,none⟩) H2.c (.int .u64 ((x:Int)+y+1));refine(HG.e _ _ (HG.f.wide B6)).mono ?_;rintro e w7 ⟨rfl,h7,k7⟩;have H7:=kq2 (h7.mono (Z:=Y) fun k hk=>ab hk) ((Fo.of_below B6 HG.f.yl).trans (k7.mono fun k hk=>ab hk));clear h7 k7 r6 B6 c0 c1 c2 c3 c4 c5 f0 f1 f2 f3 f4 f5;go_wp2_with fail;go_ret;exact⟨rfl,H7.out⟩):P:=h
theorem nh{S S':St}(h:Ig w ps S Y)(hi:Fv S)(hh l r:Nat)(c:Bool)(hl:hh<2^64)(hll:l<2^64)(hrl:r<2^64)(hp:putRM S hh l r c=some S'):
 Ct 226 #[PV ps,.int .u64 hh,.int .u64 l,.int .u64 r,.bool c] w fun e w'=>e=.returned (.int .u64 hh)/\Ig w' ps S' Y/\Fo Y w w':=by
 obtain⟨x,y,h1,h2,a1,rfl⟩:=wA hp;have hx:x<2^62:=by have:=num_some h1;omega
 have hy:y<2^62:=by have:=num_some h2;omega
 have ao:=fs h hh;have hg:=oQ h hi hh hl;have hb:=fun W (hW:Below w.heap.size w W)=>gy (h.below hW) hi l hll;have ar:=fun W (hW:Below w.heap.size w W)=>kP (h.below hW) hi l hll h1;have au:=fun W (hW:Below w.heap.size w W)=>kP (h.below hW) hi r hrl h2;generalize blackT S l=bk at*;obtain⟨⟨⟨k0,k1,k2,k3,k4,k5⟩,er⟩,hE⟩:∃q,getNode S hh=q:=⟨_,rfl⟩;rw[hE] at hg ao⊢;simp only at ao⊢;have ap:=fun W Z (hW:Ig W ps S Z)=>rM hW hi hh hl ⟨k0,k1,l,r,bk*2+(if c then 1 else 2),x+y+1⟩ ⟨ao.key,ao.val,hll,hrl,by simp only;split<;>omega,by simp only;omega⟩;have a0:eS ⟨k0,k1,l,r,bk*2+(if c then 1 else 2),x+y+1⟩=.agg #[.int .u64 k0,.int .u64 k1,.int .u64 l,.int .u64 r,.int .u64 ((bk*2+(if c then 1 else 2):Nat):Int),.int .u64 ((x:Int)+y+1)]:=by simp[eS]
 rw[a0] at ap;unfold eS at hg;simp only at hg;have HG:=kq6 hg hb ar au ap h;have a3:IntKind.u64.wrap ((bk:Int)*2)=(bk:Int)*2:=by rw[IntKind.wrap_u64];omega
 have a4:IntKind.u64.wrap ((bk:Int)*2+2)=(bk:Int)*2+2:=by rw[IntKind.wrap_u64];omega
 have a2:bits BinOp.or IntKind.u64 ((bk:Int)*2) 1=(bk:Int)*2+1:=by
  rw[show ((bk:Int)*2)=((bk*2:Nat):Int) by simp,show (1:Int)=((1:Nat):Int) from rfl,bits_or_u64_nat _ _ (by omega) (by decide)];have:bk*2 ||| 1=bk*2+1:=by
   rw[show bk*2=bk<<<1 by simp[Nat.shiftLeft_eq]];exact(cU (by decide) bk).symm
  omega
 clear hg hb ar au ap a0 h hi hE hp h1 h2 ao
 cases c with
 | true=>
  simp only[if_true] at HG⊢;go_enter func226,ntmps226;go_wp2_with fail;refine HG.a.mono ?_;rintro e w1 ⟨rfl,ad⟩;have q1:=heap_alloc_new w1 (.cells #[.int .u64 k0,.int .u64 k1,.int .u64 l,.int .u64 r,.int .u64 k4,.int .u64 k5] 232);have B1:=ad.alloc ad.size (.cells #[.int .u64 k0,.int .u64 k1,.int .u64 l,.int .u64 r,.int .u64 k4,.int .u64 k5] 232);have z1:=ad.size;clear ad;go_wp2_with fail;generalize w1.alloc (.cells #[.int .u64 k0,.int .u64 k1,.int .u64 l,.int .u64 r,.int .u64 k4,.int .u64 k5] 232)=W at*;generalize w1.heap.size=b at*;refine(HG.b _ B1).mono ?_;rintro e w2 ⟨rfl,ai⟩;have r2:=(ai.block b (gl q1)).trans q1;obtain⟨c0,c1,c2,c3,c4,c5⟩:=ia r2;obtain⟨f0,f1,f2,f3,f4,f5⟩:=lP r2;have H2:=kq3 (B1.trans (ai.mono B1.size)) r2 z1;clear ai r2 B1 q1 z1;go_wp2_with fail;have r3:((w2.setCell ⟨b,4,none⟩ (.int .u64 ((bk:Int)*2))).setCell ⟨b,4,none⟩ (.int .u64 ((bk:Int)*2+1))).heap[b]?=some (.cells #[.int .u64 k0,.int .u64 k1,.int .u64 l,.int .u64 r,.int .u64 ((bk:Int)*2+1),.int .u64 k5] 232):=by rw[heap_setCell (heap_setCell H2.b)];rfl
  have B3:=(H2.a.setCell (p:=⟨b,4,none⟩) H2.c (.int .u64 ((bk:Int)*2))).setCell (p:=⟨b,4,none⟩) H2.c (.int .u64 ((bk:Int)*2+1));generalize ((w2.setCell ⟨b,4,none⟩ (.int .u64 ((bk:Int)*2))).setCell ⟨b,4,none⟩ (.int .u64 ((bk:Int)*2+1)))=w3 at*;clear c0 c1 c2 c3 c4 c5 f0 f1 f2 f3 f4 f5;refine(HG.c _ B3).mono ?_;rintro e w4 ⟨rfl,al⟩;have H4:=kq2 (B3.trans (al.mono B3.size)) ((al.block b (gl r3)).trans r3);clear al r3 B3;go_wp2_with fail;refine(HG.d _ H4.a).mono ?_;rintro e w5 ⟨rfl,an⟩;have r5:=(an.block b (gl H4.b)).trans H4.b;obtain⟨c0,c1,c2,c3,c4,c5⟩:=ia r5;obtain⟨f0,f1,f2,f3,f4,f5⟩:=lP r5;have H5:=kq2 (H4.a.trans (an.mono H4.a.size)) r5;clear an r5;go_wp2_with fail;have r6:(w5.setCell ⟨b,5,none⟩ (.int .u64 ((x:Int)+y+1))).heap[b]?=some (.cells #[.int .u64 k0,.int .u64 k1,.int .u64 l,.int .u64 r,.int .u64 ((bk:Int)*2+1),.int .u64 ((x:Int)+y+1)] 232):=heap_setCell H5.b;exact qMaaa
 | false=>
  simp only[aS,if_false] at HG⊢;go_enter func226,ntmps226;go_wp2_with fail;refine HG.a.mono ?_;rintro e w1 ⟨rfl,ad⟩;have q1:=heap_alloc_new w1 (.cells #[.int .u64 k0,.int .u64 k1,.int .u64 l,.int .u64 r,.int .u64 k4,.int .u64 k5] 232);have B1:=ad.alloc ad.size (.cells #[.int .u64 k0,.int .u64 k1,.int .u64 l,.int .u64 r,.int .u64 k4,.int .u64 k5] 232);have z1:=ad.size;clear ad;go_wp2_with fail;generalize w1.alloc (.cells #[.int .u64 k0,.int .u64 k1,.int .u64 l,.int .u64 r,.int .u64 k4,.int .u64 k5] 232)=W at*;generalize w1.heap.size=b at*;refine(HG.b _ B1).mono ?_;rintro e w2 ⟨rfl,ai⟩;have r2:=(ai.block b (gl q1)).trans q1;obtain⟨c0,c1,c2,c3,c4,c5⟩:=ia r2;obtain⟨f0,f1,f2,f3,f4,f5⟩:=lP r2;have H2:=kq3 (B1.trans (ai.mono B1.size)) r2 z1;clear ai r2 B1 q1 z1;go_wp2_with fail;have r3:((w2.setCell ⟨b,4,none⟩ (.int .u64 ((bk:Int)*2))).setCell ⟨b,4,none⟩ (.int .u64 ((bk:Int)*2+2))).heap[b]?=some (.cells #[.int .u64 k0,.int .u64 k1,.int .u64 l,.int .u64 r,.int .u64 ((bk:Int)*2+2),.int .u64 k5] 232):=by rw[heap_setCell (heap_setCell H2.b)];rfl
  have B3:=(H2.a.setCell (p:=⟨b,4,none⟩) H2.c (.int .u64 ((bk:Int)*2))).setCell (p:=⟨b,4,none⟩) H2.c (.int .u64 ((bk:Int)*2+2));generalize ((w2.setCell ⟨b,4,none⟩ (.int .u64 ((bk:Int)*2))).setCell ⟨b,4,none⟩ (.int .u64 ((bk:Int)*2+2)))=w3 at*;clear c0 c1 c2 c3 c4 c5 f0 f1 f2 f3 f4 f5;refine(HG.c _ B3).mono ?_;rintro e w4 ⟨rfl,al⟩;have H4:=kq2 (B3.trans (al.mono B3.size)) ((al.block b (gl r3)).trans r3);clear al r3 B3;go_wp2_with fail;refine(HG.d _ H4.a).mono ?_;rintro e w5 ⟨rfl,an⟩;have r5:=(an.block b (gl H4.b)).trans H4.b;obtain⟨c0,c1,c2,c3,c4,c5⟩:=ia r5;obtain⟨f0,f1,f2,f3,f4,f5⟩:=lP r5;have H5:=kq2 (H4.a.trans (an.mono H4.a.size)) r5;clear an r5;go_wp2_with fail;have r6:(w5.setCell ⟨b,5,none⟩ (.int .u64 ((x:Int)+y+1))).heap[b]?=some (.cells #[.int .u64 k0,.int .u64 k1,.int .u64 l,.int .u64 r,.int .u64 ((bk:Int)*2+2),.int .u64 ((x:Int)+y+1)] 232):=heap_setCell H5.b;exact qMaaa
end
section
open Lf
def Lf.sidesT(S:St)(tu:Bool)(h:Nat):Nat×Nat:=if tu=true then((getNode S h).1.right,(getNode S h).1.left) else((getNode S h).1.left,(getNode S h).1.right)
def Lf.putJ(S:St)(tu:Bool)(h other own:Nat)(c:Bool):Option St:=if tu=true then putRM S h own other c else putRM S h other own c
def Lf.fixR(tu:Bool)(S:St)(t other x:Nat)(is:Bool):Option (Nat×St):=
 if is=true\/redT S x=false then some (t,S)
 else if redT S (sidesT S tu x).2=false then some (t,S)
 else match putJ S tu (sidesT S tu x).2 (sidesT S tu (sidesT S tu x).2).1 (sidesT S tu (sidesT S tu x).2).2 false with
  | none=>none
  | some S1=>match putJ S1 tu t other (sidesT S tu x).1 false with
   | none=>none
   | some S2=>(putJ S2 tu x t (sidesT S tu x).2 true).map fun S3=>(x,S3)
def Lf.joinR(tu:Bool)(m:Nat):Nat->St->Nat->Nat->Option (Nat×St)
 | 0,S,t,low=>(putJ S tu m t low true).map fun S'=>(m,S')
 | f+1,S,t,low=>
  if redT S t=false/\blackT S t=blackT S low then(putJ S tu m t low true).map fun S'=>(m,S')
  else match joinR tu m f S (sidesT S tu t).2 low with
   | none=>none
   | some (x,S1)=>
    match putJ S1 tu t (sidesT S tu t).1 x (redT S t) with
    | none=>none
    | some S2=>chk (fixR tu S2 t (sidesT S tu t).1 x (redT S t))
theorem rf(tu:Bool)(m:Nat)(S:St)(t low:Nat):joinR tu m 0 S t low=(putJ S tu m t low true).map fun S'=>(m,S'):=rfl
theorem re(tu:Bool)(m f:Nat)(S:St)(t low:Nat):joinR tu m (f+1) S t low=
 if redT S t=false/\blackT S t=blackT S low then(putJ S tu m t low true).map fun S'=>(m,S')
 else match joinR tu m f S (sidesT S tu t).2 low with
  | none=>none
  | some (x,S1)=>
   match putJ S1 tu t (sidesT S tu t).1 x (redT S t) with
   | none=>none
   | some S2=>chk (fixR tu S2 t (sidesT S tu t).1 x (redT S t)):=rfl
def Lf.topR(tu:Bool)(S:St)(t m low:Nat):Option (Nat×St):=
 match joinR tu m 200 S t low with
 | none=>none
 | some (h,S1)=>
  if redT S1 h=true/\redT S1 (sidesT S1 tu h).2=true then(putJ S1 tu h (sidesT S1 tu h).1 (sidesT S1 tu h).2 false).map fun S2=>(h,S2)
  else some (h,S1)
def Lf.redJ(S:St)(l m r:Nat):Option ((Nat×Nat)×St):=
 if m=0\/isT S l=false\/isT S m=false\/isT S r=false then none
 else if blackT S r<blackT S l then(topR false S l m r).map fun x=>((x.1,0),x.2)
 else if blackT S l<blackT S r then(topR true S r m l).map fun x=>((x.1,0),x.2)
 else(putRM S m l r (!redT S l && !redT S r)).map fun S'=>((m,0),S')
theorem wz {S S':St}{h l r:Nat}{c:Bool}(hi:Fv S)(hp:putRM S h l r c=some S'):Fv S':=by
 obtain⟨_,_,_,_,_,rfl⟩:=wA hp;exact rT hi _ _
theorem jV {S S':St}{tu:Bool}{h a b:Nat}{c:Bool}(hi:Fv S)(hp:putJ S tu h a b c=some S'):Fv S':=by
 unfold putJ at hp;split at hp<;>exact wz hi hp
theorem AX {tu:Bool}{S S':St}{t other x y:Nat}{is:Bool}(hi:Fv S)(h:fixR tu S t other x is=some (y,S')):Fv S':=by
 unfold fixR at h
 split at h
 ·injection h with h;injection h with _ e;rw[<-e];exact hi
 ·split at h
  ·injection h with h;injection h with _ e;rw[<-e];exact hi
  ·split at h
   ·cases h
   ·rename_i S1 h1
    split at h
    ·cases h
    ·rename_i S2 h2;obtain⟨S3,h3,h4⟩:=aB.1 h
     injection h4 with _ e
     rw[<-e];exact jV (jV (jV hi h1) h2) h3
theorem lU(tu:Bool){m:Nat}:∀(f:Nat) {S S':St} {t low x:Nat},Fv S->joinR tu m f S t low=some (x,S')->Fv S'/\(m<2^64->x<2^64)
 | 0,S,S',t,low,x,hi,hj=>by
  rw[rf] at hj;obtain⟨S1,h1,h2⟩:=aB.1 hj;injection h2 with e1 e2
  subst e1 e2;exact⟨jV hi h1,id⟩
 | f+1,S,S',t,low,x,hi,hj=>by
  rw[re] at hj;split at hj
  ·obtain⟨S1,h1,h2⟩:=aB.1 hj;injection h2 with e1 e2
   subst e1 e2;exact⟨jV hi h1,id⟩
  ·split at hj
   ·cases hj
   ·rename_i x1 S1 h1;split at hj
    ·cases hj
    ·rename_i S2 h2;obtain⟨h3,h4⟩:=lM hj;exact⟨AX (jV (lU tu f hi h1).1 h2) h3,fun _=>h4⟩
theorem pi {tu:Bool}{S S':St}{t m low x:Nat}(hi:Fv S)(h:topR tu S t m low=some (x,S')):Fv S'/\(m<2^64->x<2^64):=by
 unfold topR at h
 split at h
 ·cases h
 ·rename_i y S1 h1;obtain⟨i1,l1⟩:=lU tu 200 hi h1
  split at h
  ·obtain⟨S2,h2,h3⟩:=aB.1 h
   injection h3 with e1 e2
   subst e1 e2;exact⟨jV i1 h2,l1⟩
  ·injection h with h
   injection h with e1 e2
   subst e1 e2;exact⟨i1,l1⟩
theorem qMaac{P:Prop}(h:P:=by
 obtain⟨x,h1,h2⟩:=aB.1 h
 injection h2 with e1 e2
 subst e1 e2;exact⟨(pi hi h1).1,(pi hi h1).2,rfl⟩):P:=h
theorem wG {S S':St}{l m r:Nat}{R:Nat×Nat}(hi:Fv S)(h:redJ S l m r=some (R,S')):Fv S'/\(m<2^64->R.1<2^64)/\R.2=0:=by
 unfold redJ at h
 split at h
 ·cases h
 ·split at h
  ·exact qMaac
  ·split at h
   ·exact qMaac
   ·obtain⟨S1,h1,h2⟩:=aB.1 h
    injection h2 with e1 e2
    subst e1 e2;exact⟨wz hi h1,id,rfl⟩
end
section
open Go.RowKit Tryz Go.BigFrame Go.Maps Go.WideMaps Lf
variable{S:St}{Y:Nat->Prop}{ps:Nat}{w:World}
def eq(ps:Nat)(tu:Bool):Value:=.agg #[PV ps,.bool tu]
theorem DX{bj ps:Nat}{tu:Bool}(hb:w.heap[bj]?=some (.cells #[PV ps,.bool tu] 324 (0,0)))(a b:Nat):
 Ct 264 #[.int .u64 a,.int .u64 b,PV bj] w fun e w'=>e=.returned (.tuple #[.int .u64 (if tu=true then b else a:Nat),.int .u64 (if tu=true then a else b:Nat)])/\w=w':=by
 obtain⟨c0,c1⟩:=Fp hb;clear hb
 cases tu
 all_goals
  go_enter func264,ntmps264;go_wp2_with fail;go_ret2;exact⟨rfl,rfl⟩
theorem jX(h:Ig w ps S Y)(hi:Fv S)(tu:Bool)(hh:Nat)(hl:hh<2^64):
 Cb 251 #[eq ps tu,.int .u64 hh] w (.tuple #[.int .u64 (sidesT S tu hh).1,.int .u64 (sidesT S tu hh).2]):=by
 have q0:=heap_alloc_new w (.cells #[PV ps,.bool tu] 324);have B0:=(aa w.heap.size w).alloc Ih (.cells #[PV ps,.bool tu] 324);have hg:=oQ (h.below B0) hi hh hl;unfold sidesT;obtain⟨⟨⟨k0,k1,k2,k3,k4,k5⟩,er⟩,hE⟩:∃r,getNode S hh=r:=⟨_,rfl⟩;rw[hE] at hg⊢;unfold eS at hg;simp only at hg⊢;unfold eq;have ai:=fun(W:World) (hW:W.heap[w.heap.size]?=some (.cells #[PV ps,.bool tu] 324 (0,0)))=>DX hW k2 k3;have al:∀(args:Array Value) (w:World),(callFunc 264 args).run prog w=.ok (.enter 264 args) w:=fun args w=>by go_simp
 have HG:=kq4 hg ai q0 B0;clear hg ai h hi hE q0 B0;go_enter func251,ntmps251;go_wp2_with fail;refine HG.a.mono ?_;rintro e w1 ⟨rfl,ad⟩;have q1:=(ad.block w.heap.size (by simp)).trans HG.c;have B1:=HG.d.trans (ad.mono (by simp));have r2:=(((aa w1.heap.size w1).alloc Ih (.cells #[.int .u64 k0,.int .u64 k1,.int .u64 k2,.int .u64 k3,.int .u64 k4,.int .u64 k5] 232)).block w.heap.size (gl q1)).trans q1;have B2:=B1.alloc B1.size (.cells #[.int .u64 k0,.int .u64 k1,.int .u64 k2,.int .u64 k3,.int .u64 k4,.int .u64 k5] 232);have H2:=kq2 r2 B2;clear ad q1 B1 r2 B2;go_wp2_with fail;refine(HG.b _ H2.a).mono ?_;rintro e w2 ⟨rfl,rfl⟩
 cases tu
 all_goals
  simp only[if_true,if_false,aS];go_wp2_with fail;go_ret2;exact⟨rfl,H2.b⟩
theorem qMaab{P:Prop}(h:P:=by
 have HG:=kq2 hq (Fo.of_below B0 h.yl);clear hq B0 h hi hp;go_enter func252,ntmps252;go_wp2_with fail;refine HG.a.mono ?_;rintro e w1 ⟨rfl,h1,k1⟩;have H1:=kq2 h1 (HG.b.trans k1);clear h1 k1;go_wp2_with fail;go_ret;exact⟨rfl,H1.out⟩):P:=h
theorem jW{S S':St}(h:Ig w ps S Y)(hi:Fv S)(tu:Bool)(hh a b:Nat)(c:Bool)(hl:hh<2^64)(hal:a<2^64)(hbl:b<2^64)(hp:putJ S tu hh a b c=some S'):
 Ct 252 #[eq ps tu,.int .u64 hh,.int .u64 a,.int .u64 b,.bool c] w fun e w'=>e=.returned (.int .u64 hh)/\Ig w' ps S' Y/\Fo Y w w':=by
 have B0:=(aa w.heap.size w).alloc Ih (.cells #[PV ps,.bool tu] 324);unfold putJ at hp;unfold eq
 cases tu with
 | false=>
  have hq:=nh (h.below B0) hi hh a b c hl hal hbl (by simpa using hp);exact qMaab
 | true=>
  have hq:=nh (h.below B0) hi hh b a c hl hbl hal (by simpa using hp);exact qMaab
theorem DQ(h:Ig w ps S Y)(hi:Fv S):
 Cb 200 #[PV ps,.int .u64 0] w (.int .i64 0):=by
 have hc:=xS h hi;have hl:=fun W (hW:Below w.heap.size w W)=>sY (h.below hW);have HG:=kq2 hc hl;clear hc hl h hi;go_enter func200,ntmps200;go_wp2_with fail;refine HG.a.mono ?_;rintro e w1 ⟨rfl,ad⟩;have H1:=If ad;clear ad;go_wp2_with fail;refine(HG.b _ H1.out).mono ?_;rintro e w2 ⟨rfl,ai⟩;have H2:=If (H1.out.trans (ai.mono H1.out.size));clear ai;go_wp2_with fail
 go_loopw [7,8,9,10,21] (fun _ _ _ _ k wr=>k=.int .i64 0/\wr=w2) (fun _ _ _ _ _ _=>0)
 case atStart=>exact⟨rfl,rfl⟩
 case round=>
  obtain⟨rfl,rfl⟩:=hrel;go_wp2_with fail;go_ret;exact⟨rfl,H2.out⟩
theorem Aj:nI 200 where
 enter args w:=by go_simp
 call h hi:=DQ h hi
theorem E3:j6 2 199 200:=by
 intro W;simp only[eL];go_enter func184,ntmps184;go_wp2_with fail;exact bodyPost_ret (v:=.tuple #[.agg #[.func (.func 199) #[] #[],.func (.func 200) #[] #[]],.bool true]) (by simp[results,f184,go_sem]) rfl ⟨rfl,(aa _ _).alloc Ih _⟩
theorem vI{pm px ps limit:Nat}(hM:Ic w pm px ps limit)(pl:FuncId)(hen:∀(args:Array Value) (w:World),(callFunc pl args).run prog w=.ok (.enter pl args) w)(a:List UInt8)(k:Int)(s1 s2:List UInt8)
 (hpl:∀W,Below w.heap.size w W->Ct pl #[PV pm,SV a] W fun e w'=>e=.returned (.int .i64 k)/\Below W.heap.size W w')
 (hat:∀W,Below w.heap.size w W->Cb 53 #[PV px,.int .i64 k] W (.tuple #[.agg #[SV s1,SV s2],.int .i64 0])):
 Cb 51 #[PV pm,eL pl,SV a] w (.tuple #[.agg #[SV s1,SV s2],.int .i64 0]):=by
 have B0:=(aa w.heap.size w).alloc Ih (.cells #[.string ⟨#[]⟩,.string ⟨#[]⟩] 34);have y0:=heap_alloc_new w (.cells #[.string ⟨#[]⟩,.string ⟨#[]⟩] 34);have hn:=ki (hM.below B0);obtain⟨I,a3,au⟩:∃I:World->Prop,(∀w',I w'->Ic w' pm px ps limit)/\(∀w',Ic w' pm px ps limit->I w'):=⟨fun w'=>Ic w' pm px ps limit,fun _ h=>h,fun _ a=>a⟩;have a0:=fun x:Fq I=>a3 _ x.ok;simp only[Ic] at a0;obtain⟨m0,m1,m2⟩:=qf a0;have a2:I (w.alloc (.cells #[.string ⟨#[]⟩,.string ⟨#[]⟩] 34)).drew:=au _ (hM.below B0.drew);have HI:=If au;have HG:=kq6 hn hpl hat hM B0 y0;clear hn hpl hat hM a3 au a0 B0 y0;simp only[eL];go_enter func51,ntmps51;go_wp2_with fail;refine HG.a.mono ?_;rintro e w1 ⟨rfl,rfl⟩;go_wp2_with fail;refine fh I (.take 0 (.take 1 (.take 2 (.take 3 (.take 4 (.take 5 (.take 6 (.two 7 12 (.two 8 12 (.take 9 (.take 10 (.take 11 (.go 12 (.go 13 (.go 14 .nil)))))) (.go 8 (.take 9 (.take 10 (.take 11 (.go 13 (.go 14 .nil))))))) (.go 7 (.go 8 (.take 9 (.take 10 (.take 11 (.go 13 (.go 14 .nil))))))))))))))) (by kernel_rfl) (by kernel_rfl) a2 ?_;iterate 7
  refine' pT ?_ ?_;rotate_left
  ·intro x;go_simp;try rfl
  try simp only[pu]
 refine gL ?h1 ?h2
 case' h1=>
  refine pD fun K hK=>?_;go_simp;refine(HG.b _ HG.e.drew).mono ?_;rintro e w2 ⟨rfl,al⟩;have ar:=HG.e.drew.trans (al.mono HG.e.drew.size);have a5:=(al.block w.heap.size (gl HG.f)).trans HG.f;have a4:Ic w2 pm px ps limit:=HG.d.below ar;try go_simp
  refine hK.out _ _ (HI.out _ a4) ?_;clear hK K;try simp only[pu]
  have ai:=kq2 ar a5;clear a5 ar a4 al;refine gL ?h3 ?h4
  case' h3=>
   refine pD fun K hK=>?_;go_simp;refine(HG.c _ ai.a).mono ?_;rintro e w3 ⟨rfl,ad⟩;have ao:=ai.a.trans (ad.mono ai.a.size);have ap:=(ad.block w.heap.size (gl ai.b)).trans ai.b;have a1:Ic w3 pm px ps limit:=HG.d.below ao;clear ad;try go_simp
   refine hK.out _ _ (HI.out _ a1) ?_;clear hK K;try simp only[pu]
   iterate 3
    refine' pT ?_ ?_;rotate_left
    ·intro x;go_simp;try rfl
    try simp only[pu]
   refine pD fun K hK=>?_;go_simp;have A4:=(aa w3.heap.size w3).alloc Ih (.cells #[.string ⟨#[]⟩,.string ⟨#[]⟩] 34);have mA:=a1.below A4;have BA:=ao.trans (A4.mono ao.size);have yA:=(A4.block w.heap.size (gl ap)).trans ap;have qA:=heap_alloc_new w3 (.cells #[.string ⟨#[]⟩,.string ⟨#[]⟩] 34);have an:w.heap.size<w3.heap.size:=(gl ap);clear A4 a1 ao ap ai;generalize w3.alloc (.cells #[.string ⟨#[]⟩,.string ⟨#[]⟩] 34)=W at*;generalize w3.heap.size=b8 at*;try go_simp
   refine hK.out _ _ (HI.out _ mA) ?_;clear hK K;try simp only[pu]
   obtain⟨c0,c1⟩:=Fp qA;obtain⟨f0,f1⟩:=ef qA;have HA:=kq5 mA BA yA qA an;clear mA BA yA qA an;refine pD fun K hK=>?_;go_simp;have qB:=ew HA.d (SV s1) (SV s2);have BB:=eT HA.b (cO HA.e) (SV s1) (SV s2);have yB:=(fA (cP HA.e) (SV s1) (SV s2)).trans HA.c;have mB:Ic ((W.setCell ⟨b8,0,none⟩ (SV s1)).setCell ⟨b8,1,none⟩ (SV s2)) pm px ps limit:=HG.d.below BB;clear c0 c1 f0 f1 HA;generalize ((W.setCell ⟨b8,0,none⟩ (SV s1)).setCell ⟨b8,1,none⟩ (SV s2))=W7 at*;try go_simp
   refine hK.out _ _ (HI.out _ mB) ?_;clear hK K;try simp only[pu]
   refine pD fun K hK=>?_;go_simp;try go_simp
   refine hK.out _ _ (HI.out _ mB) ?_;clear hK K;try simp only[pu]
   refine eP ?_;have H7:=kq3 BB yB qB;clear BB yB qB mB;clear w2 w3
  case' h4=>
   refine pD fun K hK=>?_;go_simp;have A4:=(aa w2.heap.size w2).alloc Ih (.cells #[.string ⟨#[]⟩,.string ⟨#[]⟩] 34);have BZ:=ai.a.trans (A4.mono ai.a.size);have yZ:=(A4.block w.heap.size (gl ai.b)).trans ai.b;have qZ:=heap_alloc_new w2 (.cells #[.string ⟨#[]⟩,.string ⟨#[]⟩] 34);have mZ:Ic (w2.alloc (.cells #[.string ⟨#[]⟩,.string ⟨#[]⟩] 34)) pm px ps limit:=HG.d.below BZ;have an:w.heap.size<w2.heap.size:=(gl ai.b);clear A4 ai;generalize w2.alloc (.cells #[.string ⟨#[]⟩,.string ⟨#[]⟩] 34)=w4 at*;generalize w2.heap.size=b8 at*;try go_simp
   refine hK.out _ _ (HI.out _ mZ) ?_;clear hK K;try simp only[pu]
   have HZ:=kq3 BZ yZ qZ;clear BZ yZ qZ mZ;refine pD fun K hK=>?_;go_simp;refine(HG.c _ HZ.a).mono ?_;rintro e W ⟨rfl,ad⟩;have BW:=HZ.a.trans (ad.mono HZ.a.size);have yW:=(ad.block w.heap.size (gl HZ.b)).trans HZ.b;have qW:=(ad.block _ (gl HZ.c)).trans HZ.c;have mW:Ic W pm px ps limit:=HG.d.below BW;clear ad;try go_simp
   refine hK.out _ _ (HI.out _ mW) ?_;clear hK K;try simp only[pu]
   have mA:=mW;have BA:=BW;have yA:=yW;have qA:=qW;clear mW BW yW qW HZ;iterate 3
    refine' pT ?_ ?_;rotate_left
    ·intro x;go_simp;try rfl
    try simp only[pu]
   obtain⟨c0,c1⟩:=Fp qA;obtain⟨f0,f1⟩:=ef qA;have HA:=kq5 mA BA yA qA an;clear mA BA yA qA an;refine pD fun K hK=>?_;go_simp;have qB:=ew HA.d (SV s1) (SV s2);have BB:=eT HA.b (cO HA.e) (SV s1) (SV s2);have yB:=(fA (cP HA.e) (SV s1) (SV s2)).trans HA.c;have mB:Ic ((W.setCell ⟨b8,0,none⟩ (SV s1)).setCell ⟨b8,1,none⟩ (SV s2)) pm px ps limit:=HG.d.below BB;clear c0 c1 f0 f1 HA;generalize ((W.setCell ⟨b8,0,none⟩ (SV s1)).setCell ⟨b8,1,none⟩ (SV s2))=W7 at*;try go_simp
   refine hK.out _ _ (HI.out _ mB) ?_;clear hK K;try simp only[pu]
   refine pD fun K hK=>?_;go_simp;try go_simp
   refine hK.out _ _ (HI.out _ mB) ?_;clear hK K;try simp only[pu]
   refine eP ?_;have H7:=kq3 BB yB qB;clear BB yB qB mB;clear w2 w4
 case' h2=>
  refine pD fun K hK=>?_;go_simp;have A2:=((aa (w.alloc (.cells #[.string ⟨#[]⟩,.string ⟨#[]⟩] 34)).heap.size (w.alloc (.cells #[.string ⟨#[]⟩,.string ⟨#[]⟩] 34))).alloc Ih (.cells #[.string ⟨#[]⟩,.string ⟨#[]⟩] 34)).drew;have BZ:=HG.e.trans (A2.mono HG.e.size);have qZ:((w.alloc (.cells #[.string ⟨#[]⟩,.string ⟨#[]⟩] 34)).alloc (.cells #[.string ⟨#[]⟩,.string ⟨#[]⟩] 34)).drew.heap[(w.alloc (.cells #[.string ⟨#[]⟩,.string ⟨#[]⟩] 34)).heap.size]?=_:=heap_alloc_new (w.alloc (.cells #[.string ⟨#[]⟩,.string ⟨#[]⟩] 34)) (.cells #[.string ⟨#[]⟩,.string ⟨#[]⟩] 34);have yZ:((w.alloc (.cells #[.string ⟨#[]⟩,.string ⟨#[]⟩] 34)).alloc (.cells #[.string ⟨#[]⟩,.string ⟨#[]⟩] 34)).drew.heap[w.heap.size]?=_:=(A2.block w.heap.size (by simp)).trans HG.f;have mZ:Ic ((w.alloc (.cells #[.string ⟨#[]⟩,.string ⟨#[]⟩] 34)).alloc (.cells #[.string ⟨#[]⟩,.string ⟨#[]⟩] 34)).drew pm px ps limit:=HG.d.below BZ;simp only[World.size_alloc] at qZ;clear A2;generalize ((w.alloc (.cells #[.string ⟨#[]⟩,.string ⟨#[]⟩] 34)).alloc (.cells #[.string ⟨#[]⟩,.string ⟨#[]⟩] 34)).drew=w4 at*;try go_simp
  refine hK.out _ _ (HI.out _ mZ) ?_;clear hK K;try simp only[pu]
  have HZ:=kq3 BZ yZ qZ;clear BZ yZ qZ mZ;refine pD fun K hK=>?_;go_simp;refine(HG.b _ HZ.a).mono ?_;rintro e w5 ⟨rfl,al⟩;have B5:=HZ.a.trans (al.mono HZ.a.size);have y5:=(al.block w.heap.size (gl HZ.b)).trans HZ.b;have q5:=(al.block _ (gl HZ.c)).trans HZ.c;have m5:Ic w5 pm px ps limit:=HG.d.below B5;clear al HZ;try go_simp
  refine hK.out _ _ (HI.out _ m5) ?_;clear hK K;try simp only[pu]
  have HZ:=kq3 B5 y5 q5;clear B5 y5 q5 m5;refine pD fun K hK=>?_;go_simp;refine(HG.c _ HZ.a).mono ?_;rintro e W ⟨rfl,ad⟩;have BW:=HZ.a.trans (ad.mono HZ.a.size);have yW:=(ad.block w.heap.size (gl HZ.b)).trans HZ.b;have qW:=(ad.block _ (gl HZ.c)).trans HZ.c;have mW:Ic W pm px ps limit:=HG.d.below BW;clear ad;try go_simp
  refine hK.out _ _ (HI.out _ mW) ?_;clear hK K;try simp only[pu]
  have mA:=mW;have BA:=BW;have yA:=yW;have qA:=qW;have an:w.heap.size<w.heap.size+1:=by omega
  clear mW BW yW qW HZ;generalize w.heap.size+1=b8 at*;iterate 3
   refine' pT ?_ ?_;rotate_left
   ·intro x;go_simp;try rfl
   try simp only[pu]
  obtain⟨c0,c1⟩:=Fp qA;obtain⟨f0,f1⟩:=ef qA;have HA:=kq5 mA BA yA qA an;clear mA BA yA qA an;refine pD fun K hK=>?_;go_simp;have qB:=ew HA.d (SV s1) (SV s2);have BB:=eT HA.b (cO HA.e) (SV s1) (SV s2);have yB:=(fA (cP HA.e) (SV s1) (SV s2)).trans HA.c;have mB:Ic ((W.setCell ⟨b8,0,none⟩ (SV s1)).setCell ⟨b8,1,none⟩ (SV s2)) pm px ps limit:=HG.d.below BB;clear c0 c1 f0 f1 HA;generalize ((W.setCell ⟨b8,0,none⟩ (SV s1)).setCell ⟨b8,1,none⟩ (SV s2))=W7 at*;try go_simp
  refine hK.out _ _ (HI.out _ mB) ?_;clear hK K;try simp only[pu]
  refine pD fun K hK=>?_;go_simp;try go_simp
  refine hK.out _ _ (HI.out _ mB) ?_;clear hK K;try simp only[pu]
  refine eP ?_;have H7:=kq3 BB yB qB;clear BB yB qB mB;clear w4 w5
 all_goals
  clear HI a2 m0 m1 m2 I;have y:=H7.b;have q:=H7.c;obtain⟨c0,c1⟩:=Fp y;obtain⟨f0,f1⟩:=ef y;obtain⟨d0,d1⟩:=Fp q;have q5:=ew y (SV s1) (SV s2);have B5:=eT H7.a Ih (SV s1) (SV s2);have HB:=kq2 q5 B5;clear y q q5 B5;go_wp2_with fail;obtain⟨q5,B5⟩:=HB.out;generalize ((W7.setCell ⟨w.heap.size,0,none⟩ ((SV s1))).setCell ⟨w.heap.size,1,none⟩ ((SV s2)))=wF at*;obtain⟨e0,e1⟩:=Fp q5;exact bodyPost_ret (v:=.tuple #[.agg #[(SV s1),(SV s2)],.int .i64 0]) (by simp[results,f51,go_sem,e0,e1]) rfl ⟨rfl,B5⟩
theorem vJ{pm px ps limit:Nat}(hM:Ic w pm px ps limit)(pl:FuncId)(hen:∀(args:Array Value) (w:World),(callFunc pl args).run prog w=.ok (.enter pl args) w)(a:List UInt8)(k:Int)(s1 s2:List UInt8)
 (hpl:∀W,Below w.heap.size w W->Ct pl #[PV pm,SV a] W fun e w'=>e=.returned (.int .i64 k)/\Below W.heap.size W w')
 (hat:∀W,Below w.heap.size w W->Cb 53 #[PV px,.int .i64 k] W (.tuple #[.agg #[SV s1,SV s2],.int .i64 2])):
 Cb 51 #[PV pm,eL pl,SV a] w (.tuple #[.agg #[.string ⟨#[]⟩,.string ⟨#[]⟩],.int .i64 5]):=by
 have B0:=(aa w.heap.size w).alloc Ih (.cells #[.string ⟨#[]⟩,.string ⟨#[]⟩] 34);have y0:=heap_alloc_new w (.cells #[.string ⟨#[]⟩,.string ⟨#[]⟩] 34);have hn:=ki (hM.below B0);obtain⟨I,a3,au⟩:∃I:World->Prop,(∀w',I w'->Ic w' pm px ps limit)/\(∀w',Ic w' pm px ps limit->I w'):=⟨fun w'=>Ic w' pm px ps limit,fun _ h=>h,fun _ a=>a⟩;have a0:=fun x:Fq I=>a3 _ x.ok;simp only[Ic] at a0;obtain⟨m0,m1,m2⟩:=qf a0;have a2:I (w.alloc (.cells #[.string ⟨#[]⟩,.string ⟨#[]⟩] 34)).drew:=au _ (hM.below B0.drew);have HI:=If au;have HG:=kq6 hn hpl hat hM B0 y0;clear hn hpl hat hM a3 au a0 B0 y0;simp only[eL];go_enter func51,ntmps51;go_wp2_with fail;refine HG.a.mono ?_;rintro e w1 ⟨rfl,rfl⟩;go_wp2_with fail;refine fh I (.take 0 (.take 1 (.take 2 (.take 3 (.take 4 (.take 5 (.take 6 (.two 7 12 (.two 8 12 (.take 9 (.take 10 (.take 11 (.go 12 (.go 13 (.go 14 .nil)))))) (.go 8 (.take 9 (.take 10 (.take 11 (.go 13 (.go 14 .nil))))))) (.go 7 (.go 8 (.take 9 (.take 10 (.take 11 (.go 13 (.go 14 .nil))))))))))))))) (by kernel_rfl) (by kernel_rfl) a2 ?_;iterate 7
  refine' pT ?_ ?_;rotate_left
  ·intro x;go_simp;try rfl
  try simp only[pu]
 refine gL ?h1 ?h2
 case' h1=>
  refine pD fun K hK=>?_;go_simp;refine(HG.b _ HG.e.drew).mono ?_;rintro e w2 ⟨rfl,al⟩;have ar:=HG.e.drew.trans (al.mono HG.e.drew.size);have a5:=(al.block w.heap.size (gl HG.f)).trans HG.f;have a4:Ic w2 pm px ps limit:=HG.d.below ar;try go_simp
  refine hK.out _ _ (HI.out _ a4) ?_;clear hK K;try simp only[pu]
  have ai:=kq2 ar a5;clear a5 ar a4 al;refine gL ?h3 ?h4
  case' h3=>
   refine pD fun K hK=>?_;go_simp;refine(HG.c _ ai.a).mono ?_;rintro e w3 ⟨rfl,ad⟩;have ao:=ai.a.trans (ad.mono ai.a.size);have ap:=(ad.block w.heap.size (gl ai.b)).trans ai.b;have a1:Ic w3 pm px ps limit:=HG.d.below ao;clear ad;try go_simp
   refine hK.out _ _ (HI.out _ a1) ?_;clear hK K;try simp only[pu]
   iterate 3
    refine' pT ?_ ?_;rotate_left
    ·intro x;go_simp;try rfl
    try simp only[pu]
   refine pD fun K hK=>?_;go_simp;have A4:=(aa w3.heap.size w3).alloc Ih (.cells #[.string ⟨#[]⟩,.string ⟨#[]⟩] 34);have mA:=a1.below A4;have BA:=ao.trans (A4.mono ao.size);have yA:=(A4.block w.heap.size (gl ap)).trans ap;have qA:=heap_alloc_new w3 (.cells #[.string ⟨#[]⟩,.string ⟨#[]⟩] 34);have an:w.heap.size<w3.heap.size:=(gl ap);clear A4 a1 ao ap ai;generalize w3.alloc (.cells #[.string ⟨#[]⟩,.string ⟨#[]⟩] 34)=W at*;generalize w3.heap.size=b8 at*;try go_simp
   refine hK.out _ _ (HI.out _ mA) ?_;clear hK K;try simp only[pu]
   obtain⟨c0,c1⟩:=Fp qA;obtain⟨f0,f1⟩:=ef qA;have HA:=kq5 mA BA yA qA an;clear mA BA yA qA an;refine pD fun K hK=>?_;go_simp;have qB:=ew HA.d (SV s1) (SV s2);have BB:=eT HA.b (cO HA.e) (SV s1) (SV s2);have yB:=(fA (cP HA.e) (SV s1) (SV s2)).trans HA.c;have mB:Ic ((W.setCell ⟨b8,0,none⟩ (SV s1)).setCell ⟨b8,1,none⟩ (SV s2)) pm px ps limit:=HG.d.below BB;clear c0 c1 f0 f1 HA;generalize ((W.setCell ⟨b8,0,none⟩ (SV s1)).setCell ⟨b8,1,none⟩ (SV s2))=W7 at*;try go_simp
   refine hK.out _ _ (HI.out _ mB) ?_;clear hK K;try simp only[pu]
   refine pD fun K hK=>?_;go_simp;try go_simp
   refine hK.out _ _ (HI.out _ mB) ?_;clear hK K;try simp only[pu]
   refine eP ?_;have H7:=kq3 BB yB qB;clear BB yB qB mB;clear w2 w3
  case' h4=>
   refine pD fun K hK=>?_;go_simp;have A4:=(aa w2.heap.size w2).alloc Ih (.cells #[.string ⟨#[]⟩,.string ⟨#[]⟩] 34);have BZ:=ai.a.trans (A4.mono ai.a.size);have yZ:=(A4.block w.heap.size (gl ai.b)).trans ai.b;have qZ:=heap_alloc_new w2 (.cells #[.string ⟨#[]⟩,.string ⟨#[]⟩] 34);have mZ:Ic (w2.alloc (.cells #[.string ⟨#[]⟩,.string ⟨#[]⟩] 34)) pm px ps limit:=HG.d.below BZ;have an:w.heap.size<w2.heap.size:=(gl ai.b);clear A4 ai;generalize w2.alloc (.cells #[.string ⟨#[]⟩,.string ⟨#[]⟩] 34)=w4 at*;generalize w2.heap.size=b8 at*;try go_simp
   refine hK.out _ _ (HI.out _ mZ) ?_;clear hK K;try simp only[pu]
   have HZ:=kq3 BZ yZ qZ;clear BZ yZ qZ mZ;refine pD fun K hK=>?_;go_simp;refine(HG.c _ HZ.a).mono ?_;rintro e W ⟨rfl,ad⟩;have BW:=HZ.a.trans (ad.mono HZ.a.size);have yW:=(ad.block w.heap.size (gl HZ.b)).trans HZ.b;have qW:=(ad.block _ (gl HZ.c)).trans HZ.c;have mW:Ic W pm px ps limit:=HG.d.below BW;clear ad;try go_simp
   refine hK.out _ _ (HI.out _ mW) ?_;clear hK K;try simp only[pu]
   have mA:=mW;have BA:=BW;have yA:=yW;have qA:=qW;clear mW BW yW qW HZ;iterate 3
    refine' pT ?_ ?_;rotate_left
    ·intro x;go_simp;try rfl
    try simp only[pu]
   obtain⟨c0,c1⟩:=Fp qA;obtain⟨f0,f1⟩:=ef qA;have HA:=kq5 mA BA yA qA an;clear mA BA yA qA an;refine pD fun K hK=>?_;go_simp;have qB:=ew HA.d (SV s1) (SV s2);have BB:=eT HA.b (cO HA.e) (SV s1) (SV s2);have yB:=(fA (cP HA.e) (SV s1) (SV s2)).trans HA.c;have mB:Ic ((W.setCell ⟨b8,0,none⟩ (SV s1)).setCell ⟨b8,1,none⟩ (SV s2)) pm px ps limit:=HG.d.below BB;clear c0 c1 f0 f1 HA;generalize ((W.setCell ⟨b8,0,none⟩ (SV s1)).setCell ⟨b8,1,none⟩ (SV s2))=W7 at*;try go_simp
   refine hK.out _ _ (HI.out _ mB) ?_;clear hK K;try simp only[pu]
   refine pD fun K hK=>?_;go_simp;try go_simp
   refine hK.out _ _ (HI.out _ mB) ?_;clear hK K;try simp only[pu]
   refine eP ?_;have H7:=kq3 BB yB qB;clear BB yB qB mB;clear w2 w4
 case' h2=>
  refine pD fun K hK=>?_;go_simp;have A2:=((aa (w.alloc (.cells #[.string ⟨#[]⟩,.string ⟨#[]⟩] 34)).heap.size (w.alloc (.cells #[.string ⟨#[]⟩,.string ⟨#[]⟩] 34))).alloc Ih (.cells #[.string ⟨#[]⟩,.string ⟨#[]⟩] 34)).drew;have BZ:=HG.e.trans (A2.mono HG.e.size);have qZ:((w.alloc (.cells #[.string ⟨#[]⟩,.string ⟨#[]⟩] 34)).alloc (.cells #[.string ⟨#[]⟩,.string ⟨#[]⟩] 34)).drew.heap[(w.alloc (.cells #[.string ⟨#[]⟩,.string ⟨#[]⟩] 34)).heap.size]?=_:=heap_alloc_new (w.alloc (.cells #[.string ⟨#[]⟩,.string ⟨#[]⟩] 34)) (.cells #[.string ⟨#[]⟩,.string ⟨#[]⟩] 34);have yZ:((w.alloc (.cells #[.string ⟨#[]⟩,.string ⟨#[]⟩] 34)).alloc (.cells #[.string ⟨#[]⟩,.string ⟨#[]⟩] 34)).drew.heap[w.heap.size]?=_:=(A2.block w.heap.size (by simp)).trans HG.f;have mZ:Ic ((w.alloc (.cells #[.string ⟨#[]⟩,.string ⟨#[]⟩] 34)).alloc (.cells #[.string ⟨#[]⟩,.string ⟨#[]⟩] 34)).drew pm px ps limit:=HG.d.below BZ;simp only[World.size_alloc] at qZ;clear A2;generalize ((w.alloc (.cells #[.string ⟨#[]⟩,.string ⟨#[]⟩] 34)).alloc (.cells #[.string ⟨#[]⟩,.string ⟨#[]⟩] 34)).drew=w4 at*;try go_simp
  refine hK.out _ _ (HI.out _ mZ) ?_;clear hK K;try simp only[pu]
  have HZ:=kq3 BZ yZ qZ;clear BZ yZ qZ mZ;refine pD fun K hK=>?_;go_simp;refine(HG.b _ HZ.a).mono ?_;rintro e w5 ⟨rfl,al⟩;have B5:=HZ.a.trans (al.mono HZ.a.size);have y5:=(al.block w.heap.size (gl HZ.b)).trans HZ.b;have q5:=(al.block _ (gl HZ.c)).trans HZ.c;have m5:Ic w5 pm px ps limit:=HG.d.below B5;clear al HZ;try go_simp
  refine hK.out _ _ (HI.out _ m5) ?_;clear hK K;try simp only[pu]
  have HZ:=kq3 B5 y5 q5;clear B5 y5 q5 m5;refine pD fun K hK=>?_;go_simp;refine(HG.c _ HZ.a).mono ?_;rintro e W ⟨rfl,ad⟩;have BW:=HZ.a.trans (ad.mono HZ.a.size);have yW:=(ad.block w.heap.size (gl HZ.b)).trans HZ.b;have qW:=(ad.block _ (gl HZ.c)).trans HZ.c;have mW:Ic W pm px ps limit:=HG.d.below BW;clear ad;try go_simp
  refine hK.out _ _ (HI.out _ mW) ?_;clear hK K;try simp only[pu]
  have mA:=mW;have BA:=BW;have yA:=yW;have qA:=qW;have an:w.heap.size<w.heap.size+1:=by omega
  clear mW BW yW qW HZ;generalize w.heap.size+1=b8 at*;iterate 3
   refine' pT ?_ ?_;rotate_left
   ·intro x;go_simp;try rfl
   try simp only[pu]
  obtain⟨c0,c1⟩:=Fp qA;obtain⟨f0,f1⟩:=ef qA;have HA:=kq5 mA BA yA qA an;clear mA BA yA qA an;refine pD fun K hK=>?_;go_simp;have qB:=ew HA.d (SV s1) (SV s2);have BB:=eT HA.b (cO HA.e) (SV s1) (SV s2);have yB:=(fA (cP HA.e) (SV s1) (SV s2)).trans HA.c;have mB:Ic ((W.setCell ⟨b8,0,none⟩ (SV s1)).setCell ⟨b8,1,none⟩ (SV s2)) pm px ps limit:=HG.d.below BB;clear c0 c1 f0 f1 HA;generalize ((W.setCell ⟨b8,0,none⟩ (SV s1)).setCell ⟨b8,1,none⟩ (SV s2))=W7 at*;try go_simp
  refine hK.out _ _ (HI.out _ mB) ?_;clear hK K;try simp only[pu]
  refine pD fun K hK=>?_;go_simp;try go_simp
  refine hK.out _ _ (HI.out _ mB) ?_;clear hK K;try simp only[pu]
  refine eP ?_;have H7:=kq3 BB yB qB;clear BB yB qB mB;clear w4 w5
 all_goals
  clear HI a2 m0 m1 m2 I;have y:=H7.b;have q:=H7.c;obtain⟨c0,c1⟩:=Fp y;obtain⟨f0,f1⟩:=ef y;obtain⟨d0,d1⟩:=Fp q;have q5:=ew y (.string ⟨#[]⟩) (.string ⟨#[]⟩);have B5:=eT H7.a Ih (.string ⟨#[]⟩) (.string ⟨#[]⟩);have HB:=kq2 q5 B5;clear y q q5 B5;go_wp2_with fail;obtain⟨q5,B5⟩:=HB.out;generalize ((W7.setCell ⟨w.heap.size,0,none⟩ ((.string ⟨#[]⟩))).setCell ⟨w.heap.size,1,none⟩ ((.string ⟨#[]⟩)))=wF at*;obtain⟨e0,e1⟩:=Fp q5;exact bodyPost_ret (v:=.tuple #[.agg #[(.string ⟨#[]⟩),(.string ⟨#[]⟩)],.int .i64 5]) (by simp[results,f51,go_sem,e0,e1]) rfl ⟨rfl,B5⟩
theorem CW{pm px ps limit:Nat}(hM:Ic w pm px ps limit)(a:List UInt8)
 (hg:Cb 50 #[PV px,SV a] w (.tuple #[.string ⟨#[]⟩,.bool false])):
 Cb 15 #[PV pm,SV a] w (.tuple #[.string ⟨#[]⟩,.int .i64 5]):=by
 have HG:=kq2 (ki hM) hg;unfold Ic at hM;obtain⟨c0,c1,c2⟩:=fq hM;clear hM hg;go_enter func15,ntmps15;go_wp2_with fail;refine HG.a.mono ?_;rintro e w1 ⟨rfl,rfl⟩;go_wp2_with fail;refine HG.b.mono ?_;rintro e w2 ⟨rfl,hb⟩;have HB:=If hb;clear hb;go_wp2_with fail;go_ret2;exact⟨rfl,HB.out⟩
theorem CX{pm px ps limit:Nat}(hM:Ic w pm px ps limit)(a t:List UInt8)
 (hg:Cb 50 #[PV px,SV a] w (.tuple #[SV t,.bool true])):
 Cb 15 #[PV pm,SV a] w (.tuple #[SV t,.int .i64 0]):=by
 have HG:=kq2 (ki hM) hg;unfold Ic at hM;obtain⟨c0,c1,c2⟩:=fq hM;clear hM hg;go_enter func15,ntmps15;go_wp2_with fail;refine HG.a.mono ?_;rintro e w1 ⟨rfl,rfl⟩;go_wp2_with fail;refine HG.b.mono ?_;rintro e w2 ⟨rfl,hb⟩;have HB:=If hb;clear hb;go_wp2_with fail;go_ret2;exact⟨rfl,HB.out⟩
