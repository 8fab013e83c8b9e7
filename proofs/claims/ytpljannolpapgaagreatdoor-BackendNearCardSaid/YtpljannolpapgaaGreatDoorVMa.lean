/- Trees balanced by two colours: get, black, red, is, put: the walks. -/
import Derived.Test.YtpljannolpapgaaGreatDoorVYd
import Derived.Test.YtpljannolpapgaaGreatDoorVFg
set_option maxRecDepth 100000
set_option maxHeartbeats 6400000
namespace Go.Proofs.YtpljannolpapgaaGreatDoor
section
open Go.RowKit Tryz Go.BigFrame Go.Maps Go.WideMaps Lf
variable{S:St}{Y:Nat->Prop}{ps:Nat}{w:World}
theorem uy(a0 a1 a2 a3 a4 a5:Value)(w:World):(Instr.field 139 (.agg #[a0,a1,a2,a3,a4,a5]) 4).run prog w=.ok a4 w:=by kernel_rfl
def Lf.blackT(S:St)(h:Nat):Nat:=(getNode S h).1.mark / 2
def Lf.redT(S:St)(h:Nat):Bool:=decide ((getNode S h).1.mark % 2=1)
def Lf.putRM(S:St)(h l r:Nat)(isRed:Bool):Option St:=
 match fY S l,fY S r with
 | some x,some y=>if 4611686018427387904<=blackT S l then none else
  some (gM S h { (getNode S h).1 with left:=l,right:=r,mark:=blackT S l*2+(if isRed then 1 else 2),size:=x+y+1 }).2
 | _,_=>none
theorem wA{S S':St}{h l r:Nat}{c:Bool}(hp:putRM S h l r c=some S'):∃x y,fY S l=some x/\fY S r=some y/\blackT S l<2^62/\
 S'=(gM S h { (getNode S h).1 with left:=l,right:=r,mark:=blackT S l*2+(if c then 1 else 2),size:=x+y+1 }).2:=by
 unfold putRM at hp;split at hp
 ·rename_i x y h1 h2;split at hp
  ·cases hp
  ·exact⟨x,y,h1,h2,by omega,(Option.some.inj hp).symm⟩
 ·cases hp
theorem oQ(h:Ig w ps S Y)(hi:Fv S)(hh:Nat)(hl:hh<2^64):
 Cb 220 #[PV ps,Xu hh] w (eS (getNode S hh).1):=by
 have B0:=(ab w.heap.size w).alloc Ih (.cells #[Xu 0,Xu 0,Xu 0,Xu 0,Xu 0,Xu 0] 139);have q0:=heap_alloc_new w (.cells #[Xu 0,Xu 0,Xu 0,Xu 0,Xu 0,Xu 0] 139);have hg:=iO (h.below B0) hi hh hl;obtain⟨⟨⟨k0,k1,k2,k3,k4,k5⟩,er⟩,hE⟩:∃r,getNode S hh=r:=⟨_,rfl⟩;rw[hE] at hg⊢;unfold eS at hg⊢;simp only at hg⊢;have HG:=kq3 hg B0 q0;clear hg h hi hE B0 q0;go_enter func220,ntmps220;go_wp2_with fail;refine wx HG.a fun w1 hb=>?_;have ad:=hb.alloc hb.size (Xd k0 k1 k2 k3 k4 k5);have r0:=(ad.block w.heap.size (by simp)).trans HG.c;have B1:=HG.b.trans (ad.mono HG.b.size);obtain⟨c0,c1,c2,c3,c4,c5⟩:=ia r0;obtain⟨f0,f1,f2,f3,f4,f5⟩:=lP r0;have HB:=kq2 r0 B1;clear r0 B1 ad hb;go_wp2_with fail;have q6:=xj HB.a (Xu k0) (Xu k1) (Xu k2) (Xu k3) (Xu k4) (Xu k5);have B6:=xh HB.b (Nat.le_refl w.heap.size) (Xu k0) (Xu k1) (Xu k2) (Xu k3) (Xu k4) (Xu k5);generalize (((((((w1.alloc (Xd k0 k1 k2 k3 k4 k5)).setCell ⟨w.heap.size,0,none⟩ (Xu k0)).setCell ⟨w.heap.size,1,none⟩ (Xu k1)).setCell ⟨w.heap.size,2,none⟩ (Xu k2)).setCell ⟨w.heap.size,3,none⟩ (Xu k3)).setCell ⟨w.heap.size,4,none⟩ (Xu k4)).setCell ⟨w.heap.size,5,none⟩ (Xu k5))=W6 at q6 B6⊢;obtain⟨g0,g1,g2,g3,g4,g5⟩:=ia q6;exact bodyPost_ret (v:=.agg #[Xu k0,Xu k1,Xu k2,Xu k3,Xu k4,Xu k5]) (by simp[results,f220,go_sem,g0,g1,g2,g3,g4,g5]) rfl ⟨rfl,B6⟩
theorem gy(h:Ig w ps S Y)(hi:Fv S)(hh:Nat)(hl:hh<2^64):
 Cb 188 #[PV ps,Xu hh] w (Xu (blackT S hh:Nat)):=by
 have hg:=oQ h hi hh hl;unfold blackT;obtain⟨⟨⟨k0,k1,k2,k3,k4,k5⟩,er⟩,hE⟩:∃r,getNode S hh=r:=⟨_,rfl⟩;rw[hE] at hg⊢;unfold eS at hg;simp only at hg⊢;have ad:=uy;have HG:=If hg;clear hg h hi hE;go_enter func188,ntmps188;go_wp2_with fail;refine wx HG.out fun w1 hb=>?_;have HB:=If hb;clear hb;go_wp2_with fail;go_ret;exact⟨by simp,HB.out⟩
theorem gq(h:Ig w ps S Y)(hi:Fv S)(hh:Nat)(hl:hh<2^64):
 Cb 191 #[PV ps,Xu hh] w (.bool (redT S hh)):=by
 have hg:=oQ h hi hh hl;have ad:=(fs h hh).mark;unfold redT;obtain⟨⟨⟨k0,k1,k2,k3,k4,k5⟩,er⟩,hE⟩:∃r,getNode S hh=r:=⟨_,rfl⟩;rw[hE] at hg ad⊢;unfold eS at hg;simp only at hg ad⊢;have ai:bits BinOp.and IntKind.u64 (k4:Int) 1=((k4 % 2:Nat):Int):=by
  have h1:=bits_and_u64_nat k4 1 ad (by decide);rw[show ((1:Nat):Int)=1 from rfl] at h1;rw[h1,Nat.and_one_is_mod]
 have HA:=If ai;clear ai;have al:=uy;have HG:=If hg;clear hg h hi hE;go_enter func191,ntmps191;go_wp2_with fail;refine wx HG.out fun w1 hb=>?_;have HB:=If hb;clear hb;go_wp2_with fail;go_ret;refine⟨?_,HB.out⟩;rw[HA.out]
 rcases dx k4 with e | e<;>simp[e]
theorem io(h:Ig w ps S Y)(hi:Fv S)(hh:Nat)(hl:hh<2^64):
 Cb 187 #[PV ps,Xu hh] w (.bool (isT S hh)):=by
 have hg:=iO h hi hh hl;obtain⟨R,hR⟩:=Ii (isT S hh);rw[hR];unfold isT at hR;obtain⟨⟨⟨k0,k1,k2,k3,k4,k5⟩,er⟩,hE⟩:∃r,getNode S hh=r:=⟨_,rfl⟩;rw[hE] at hg hR;unfold eS at hg;simp only at hg hR;have ad:R=(((hh:Int)==0) || ((er:Int)==0)):=by
  rw[<-hR]
  by_cases a:hh=0<;>by_cases b:er=0<;>simp[a,b]<;>omega
 have HG:=kq2 hg ad;clear hg h hi hE hR ad
 by_cases h0:hh=0
 ·subst h0;go_enter func187,ntmps187;go_wp2_with fail;refine wx HG.a fun w1 hb=>?_;have HB:=If (hb.alloc hb.size (Xd k0 k1 k2 k3 k4 k5));clear hb;go_wp2_with fail;go_ret;obtain rfl:=HG.b;exact⟨by simp,HB.out⟩
 ·have hq:((hh:Int)==0)=false:=by simp;omega
  go_enter func187,ntmps187;go_wp2_with fail;refine wx HG.a fun w1 hb=>?_;have HB:=If (hb.alloc hb.size (Xd k0 k1 k2 k3 k4 k5));clear hb;go_wp2_with fail;go_ret;obtain rfl:=HG.b;exact⟨by simp[hq],HB.out⟩
theorem qMaac{P:Prop}(h:P:=by
 have B6:=H5.a.setCell (p:=⟨b,5,none⟩) H2.c (Xu ((x:Int)+y+1));refine(HG.e _ _ (HG.f.wide B6)).mono ?_;rintro e w7 ⟨rfl,h7,k7⟩;have H7:=kq2 (h7.mono (Z:=Y) fun k hk=>aa hk) ((Fo.of_below B6 HG.f.yl).trans (k7.mono fun k hk=>aa hk));clear h7 k7 r6 B6 c0 c1 c2 c3 c4 c5 f0 f1 f2 f3 f4 f5;go_wp2_with fail;go_ret;exact⟨rfl,H7.out⟩):P:=h
theorem nh{S S':St}(h:Ig w ps S Y)(hi:Fv S)(hh l r:Nat)(c:Bool)(hl:hh<2^64)(hll:l<2^64)(hrl:r<2^64)(hp:putRM S hh l r c=some S'):
 Ct 190 #[PV ps,Xu hh,Xu l,Xu r,.bool c] w fun e w'=>e=.returned (Xu hh)/\Ig w' ps S' Y/\Fo Y w w':=by
 obtain⟨x,y,h1,h2,au,rfl⟩:=wA hp;have hx:x<2^62:=by have:=num_some h1;omega
 have hy:y<2^62:=by have:=num_some h2;omega
 have ad:=fs h hh;have hg:=oQ h hi hh hl;have hb:=fun W (hW:Below w.heap.size w W)=>gy (h.below hW) hi l hll;have al:=fun W (hW:Below w.heap.size w W)=>kP (h.below hW) hi l hll h1;have an:=fun W (hW:Below w.heap.size w W)=>kP (h.below hW) hi r hrl h2;generalize blackT S l=bk at*;obtain⟨⟨⟨k0,k1,k2,k3,k4,k5⟩,er⟩,hE⟩:∃q,getNode S hh=q:=⟨_,rfl⟩;rw[hE] at hg ad⊢;simp only at ad⊢;have ai:=fun W Z (hW:Ig W ps S Z)=>rM hW hi hh hl ⟨k0,k1,l,r,bk*2+(if c then 1 else 2),x+y+1⟩ ⟨ad.key,ad.val,hll,hrl,by simp only;split<;>omega,by simp only;omega⟩;have ar:eS ⟨k0,k1,l,r,bk*2+(if c then 1 else 2),x+y+1⟩=.agg #[Xu k0,Xu k1,Xu l,Xu r,Xu ((bk*2+(if c then 1 else 2):Nat):Int),Xu ((x:Int)+y+1)]:=by simp[eS]
 rw[ar] at ai;unfold eS at hg;simp only at hg;have HG:=kq6 hg hb al an ai h;have a1:IntKind.u64.wrap ((bk:Int)*2)=(bk:Int)*2:=by rw[IntKind.wrap_u64];omega
 have a2:IntKind.u64.wrap ((bk:Int)*2+2)=(bk:Int)*2+2:=by rw[IntKind.wrap_u64];omega
 have a0:bits BinOp.or IntKind.u64 ((bk:Int)*2) 1=(bk:Int)*2+1:=by
  rw[show ((bk:Int)*2)=((bk*2:Nat):Int) by simp,show (1:Int)=((1:Nat):Int) from rfl,bits_or_u64_nat _ _ (by omega) (by decide)];have:bk*2 ||| 1=bk*2+1:=by
   rw[show bk*2=bk<<<1 by simp[Nat.shiftLeft_eq]];exact(cM (by decide) bk).symm
  omega
 clear hg hb al an ai ar h hi hE hp h1 h2 ad
 cases c with
 | true=>
  simp only[if_true] at HG⊢;go_enter func190,ntmps190;go_wp2_with fail;refine wx HG.a fun w1 hb1=>?_;have q1:=heap_alloc_new w1 (Xd k0 k1 l r k4 k5);have B1:=hb1.alloc hb1.size (Xd k0 k1 l r k4 k5);have z1:=hb1.size;clear hb1;go_wp2_with fail;generalize w1.alloc (Xd k0 k1 l r k4 k5)=W at*;generalize w1.heap.size=b at*;refine wx (HG.b _ B1) fun w2 hb2=>?_;have r2:=(hb2.block b (gl q1)).trans q1;obtain⟨c0,c1,c2,c3,c4,c5⟩:=ia r2;obtain⟨f0,f1,f2,f3,f4,f5⟩:=lP r2;have H2:=kq3 (B1.trans (hb2.mono B1.size)) r2 z1;clear hb2 r2 B1 q1 z1;go_wp2_with fail;have r3:((w2.setCell ⟨b,4,none⟩ (Xu ((bk:Int)*2))).setCell ⟨b,4,none⟩ (Xu ((bk:Int)*2+1))).heap[b]?=some (Xd k0 k1 l r ((bk:Int)*2+1) k5):=by rw[heap_setCell (heap_setCell H2.b)];rfl
  have B3:=(H2.a.setCell (p:=⟨b,4,none⟩) H2.c (Xu ((bk:Int)*2))).setCell (p:=⟨b,4,none⟩) H2.c (Xu ((bk:Int)*2+1));generalize ((w2.setCell ⟨b,4,none⟩ (Xu ((bk:Int)*2))).setCell ⟨b,4,none⟩ (Xu ((bk:Int)*2+1)))=w3 at*;clear c0 c1 c2 c3 c4 c5 f0 f1 f2 f3 f4 f5;refine wx (HG.c _ B3) fun w4 hb4=>?_;have H4:=kq2 (B3.trans (hb4.mono B3.size)) ((hb4.block b (gl r3)).trans r3);clear hb4 r3 B3;go_wp2_with fail;refine wx (HG.d _ H4.a) fun w5 hb5=>?_;have r5:=(hb5.block b (gl H4.b)).trans H4.b;obtain⟨c0,c1,c2,c3,c4,c5⟩:=ia r5;obtain⟨f0,f1,f2,f3,f4,f5⟩:=lP r5;have H5:=kq2 (H4.a.trans (hb5.mono H4.a.size)) r5;clear hb5 r5;go_wp2_with fail;have r6:(w5.setCell ⟨b,5,none⟩ (Xu ((x:Int)+y+1))).heap[b]?=some (Xd k0 k1 l r ((bk:Int)*2+1) ((x:Int)+y+1)):=heap_setCell H5.b;exact qMaac
 | false=>
  simp only[cU,if_false] at HG⊢;go_enter func190,ntmps190;go_wp2_with fail;refine wx HG.a fun w1 hb1=>?_;have q1:=heap_alloc_new w1 (Xd k0 k1 l r k4 k5);have B1:=hb1.alloc hb1.size (Xd k0 k1 l r k4 k5);have z1:=hb1.size;clear hb1;go_wp2_with fail;generalize w1.alloc (Xd k0 k1 l r k4 k5)=W at*;generalize w1.heap.size=b at*;refine wx (HG.b _ B1) fun w2 hb2=>?_;have r2:=(hb2.block b (gl q1)).trans q1;obtain⟨c0,c1,c2,c3,c4,c5⟩:=ia r2;obtain⟨f0,f1,f2,f3,f4,f5⟩:=lP r2;have H2:=kq3 (B1.trans (hb2.mono B1.size)) r2 z1;clear hb2 r2 B1 q1 z1;go_wp2_with fail;have r3:((w2.setCell ⟨b,4,none⟩ (Xu ((bk:Int)*2))).setCell ⟨b,4,none⟩ (Xu ((bk:Int)*2+2))).heap[b]?=some (Xd k0 k1 l r ((bk:Int)*2+2) k5):=by rw[heap_setCell (heap_setCell H2.b)];rfl
  have B3:=(H2.a.setCell (p:=⟨b,4,none⟩) H2.c (Xu ((bk:Int)*2))).setCell (p:=⟨b,4,none⟩) H2.c (Xu ((bk:Int)*2+2));generalize ((w2.setCell ⟨b,4,none⟩ (Xu ((bk:Int)*2))).setCell ⟨b,4,none⟩ (Xu ((bk:Int)*2+2)))=w3 at*;clear c0 c1 c2 c3 c4 c5 f0 f1 f2 f3 f4 f5;refine wx (HG.c _ B3) fun w4 hb4=>?_;have H4:=kq2 (B3.trans (hb4.mono B3.size)) ((hb4.block b (gl r3)).trans r3);clear hb4 r3 B3;go_wp2_with fail;refine wx (HG.d _ H4.a) fun w5 hb5=>?_;have r5:=(hb5.block b (gl H4.b)).trans H4.b;obtain⟨c0,c1,c2,c3,c4,c5⟩:=ia r5;obtain⟨f0,f1,f2,f3,f4,f5⟩:=lP r5;have H5:=kq2 (H4.a.trans (hb5.mono H4.a.size)) r5;clear hb5 r5;go_wp2_with fail;have r6:(w5.setCell ⟨b,5,none⟩ (Xu ((x:Int)+y+1))).heap[b]?=some (Xd k0 k1 l r ((bk:Int)*2+2) ((x:Int)+y+1)):=heap_setCell H5.b;exact qMaac
end
section
open Lf
def Lf.sidesT(S:St)(tu:Bool)(h:Nat):Nat×Nat:=if tu=true then((getNode S h).1.right,(getNode S h).1.left) else((getNode S h).1.left,(getNode S h).1.right)
def Lf.putJ(S:St)(tu:Bool)(h other own:Nat)(c:Bool):Option St:=if tu=true then putRM S h own other c else putRM S h other own c
def Lf.fixR(tu:Bool)(S:St)(t other x:Nat)(is:Bool):Option (Nat×St):=
 if is=true\/redT S x=false then some (t,S)
 else if redT S (sidesT S tu x).2=false then some (t,S)
 else match putJ S tu (sidesT S tu x).2 (sidesT S tu (sidesT S tu x).2).1 (sidesT S tu (sidesT S tu x).2).2 false with
  | none=>none
  | some S1=>match putJ S1 tu t other (sidesT S tu x).1 false with
   | none=>none
   | some S2=>(putJ S2 tu x t (sidesT S tu x).2 true).map fun S3=>(x,S3)
def Lf.joinR(tu:Bool)(m:Nat):Nat->St->Nat->Nat->Option (Nat×St)
 | 0,S,t,low=>(putJ S tu m t low true).map fun S'=>(m,S')
 | f+1,S,t,low=>
  if redT S t=false/\blackT S t=blackT S low then(putJ S tu m t low true).map fun S'=>(m,S')
  else match joinR tu m f S (sidesT S tu t).2 low with
   | none=>none
   | some (x,S1)=>
    match putJ S1 tu t (sidesT S tu t).1 x (redT S t) with
    | none=>none
    | some S2=>chk (fixR tu S2 t (sidesT S tu t).1 x (redT S t))
theorem rf(tu:Bool)(m:Nat)(S:St)(t low:Nat):joinR tu m 0 S t low=(putJ S tu m t low true).map fun S'=>(m,S'):=rfl
theorem re(tu:Bool)(m f:Nat)(S:St)(t low:Nat):joinR tu m (f+1) S t low=
 if redT S t=false/\blackT S t=blackT S low then(putJ S tu m t low true).map fun S'=>(m,S')
 else match joinR tu m f S (sidesT S tu t).2 low with
  | none=>none
  | some (x,S1)=>
   match putJ S1 tu t (sidesT S tu t).1 x (redT S t) with
   | none=>none
   | some S2=>chk (fixR tu S2 t (sidesT S tu t).1 x (redT S t)):=rfl
def Lf.topR(tu:Bool)(S:St)(t m low:Nat):Option (Nat×St):=
 match joinR tu m 200 S t low with
 | none=>none
 | some (h,S1)=>
  if redT S1 h=true/\redT S1 (sidesT S1 tu h).2=true then(putJ S1 tu h (sidesT S1 tu h).1 (sidesT S1 tu h).2 false).map fun S2=>(h,S2)
  else some (h,S1)
def Lf.redJ(S:St)(l m r:Nat):Option ((Nat×Nat)×St):=
 if m=0\/isT S l=false\/isT S m=false\/isT S r=false then none
 else if blackT S r<blackT S l then(topR false S l m r).map fun x=>((x.1,0),x.2)
 else if blackT S l<blackT S r then(topR true S r m l).map fun x=>((x.1,0),x.2)
 else(putRM S m l r (!redT S l && !redT S r)).map fun S'=>((m,0),S')
theorem Jo {S S':St}{h l r:Nat}{c:Bool}(hi:Fv S)(hp:putRM S h l r c=some S'):Fv S':=by
 obtain⟨_,_,_,_,_,rfl⟩:=wA hp;exact rT hi _ _
theorem jV {S S':St}{tu:Bool}{h a b:Nat}{c:Bool}(hi:Fv S)(hp:putJ S tu h a b c=some S'):Fv S':=by
 unfold putJ at hp;split at hp<;>exact Jo hi hp
theorem AX {tu:Bool}{S S':St}{t other x y:Nat}{is:Bool}(hi:Fv S)(h:fixR tu S t other x is=some (y,S')):Fv S':=by
 unfold fixR at h
 split at h
 ·injection h with h;injection h with _ e;rw[<-e];exact hi
 ·split at h
  ·injection h with h;injection h with _ e;rw[<-e];exact hi
  ·split at h
   ·cases h
   ·rename_i S1 h1
    split at h
    ·cases h
    ·rename_i S2 h2;obtain⟨S3,h3,h4⟩:=aC.1 h
     injection h4 with _ e
     rw[<-e];exact jV (jV (jV hi h1) h2) h3
theorem lU(tu:Bool){m:Nat}:∀(f:Nat) {S S':St} {t low x:Nat},Fv S->joinR tu m f S t low=some (x,S')->Fv S'/\(m<2^64->x<2^64)
 | 0,S,S',t,low,x,hi,hj=>by
  rw[rf] at hj;obtain⟨S1,h1,h2⟩:=aC.1 hj;injection h2 with e1 e2
  subst e1 e2;exact⟨jV hi h1,id⟩
 | f+1,S,S',t,low,x,hi,hj=>by
  rw[re] at hj;split at hj
  ·obtain⟨S1,h1,h2⟩:=aC.1 hj;injection h2 with e1 e2
   subst e1 e2;exact⟨jV hi h1,id⟩
  ·split at hj
   ·cases hj
   ·rename_i x1 S1 h1;split at hj
    ·cases hj
    ·rename_i S2 h2;obtain⟨h3,h4⟩:=lM hj;exact⟨AX (jV (lU tu f hi h1).1 h2) h3,fun _=>h4⟩
theorem pi {tu:Bool}{S S':St}{t m low x:Nat}(hi:Fv S)(h:topR tu S t m low=some (x,S')):Fv S'/\(m<2^64->x<2^64):=by
 unfold topR at h
 split at h
 ·cases h
 ·rename_i y S1 h1;obtain⟨i1,l1⟩:=lU tu 200 hi h1
  split at h
  ·obtain⟨S2,h2,h3⟩:=aC.1 h
   injection h3 with e1 e2
   subst e1 e2;exact⟨jV i1 h2,l1⟩
  ·injection h with h
   injection h with e1 e2
   subst e1 e2;exact⟨i1,l1⟩
theorem qMaae{P:Prop}(h:P:=by
 obtain⟨x,h1,h2⟩:=aC.1 h
 injection h2 with e1 e2
 subst e1 e2;exact⟨(pi hi h1).1,(pi hi h1).2,rfl⟩):P:=h
theorem wG {S S':St}{l m r:Nat}{R:Nat×Nat}(hi:Fv S)(h:redJ S l m r=some (R,S')):Fv S'/\(m<2^64->R.1<2^64)/\R.2=0:=by
 unfold redJ at h
 split at h
 ·cases h
 ·split at h
  ·exact qMaae
  ·split at h
   ·exact qMaae
   ·obtain⟨S1,h1,h2⟩:=aC.1 h
    injection h2 with e1 e2
    subst e1 e2;exact⟨Jo hi h1,id,rfl⟩
namespace Tr
variable{S:St}{d:It}{f:Nat->Nat}{m:Nat}{o:Tr}{t:Tr}{u:Tr}{w:Tr}
theorem jf{A B:List Nat}{d:Nat}(h:(A++d::B).Nodup):A.Nodup/\B.Nodup/\d∉A/\d∉B/\∀y∈A,y∉B:=by
 obtain⟨h1,h2,h3⟩:=av.1 h;obtain⟨h4,h5⟩:=aE.1 h2;exact⟨h1,h5,fun hm=>h3 _ hm _ (aq ..) rfl,h4,fun y hy hm=>h3 _ hy _ (ah _ hm) rfl⟩
theorem lh{A B:List Nat}{d:Nat}(h1:A.Nodup)(h2:B.Nodup)(h3:d∉A)(h4:d∉B)(h5:∀y∈A,y∉B):(A++d::B).Nodup:=
 av.2 ⟨h1,aE.2 ⟨h4,h2⟩,fun a ha b hb e=>by
  subst e;rcases ag.1 hb with e | e
  ·exact h3 (e▸ha)
  ·exact h5 a ha e⟩
def nt(tu:Bool)(o:Tr)(d:It)(m:Nat)(w:Tr):Tr:=if tu=true then node w d m o else node o d m w
theorem il(tu:Bool)(o:Tr)(d:It)(m:Nat)(w:Tr):(nt tu o d m w).root=d.h:=by cases tu<;>rfl
theorem fg(tu:Bool)(o:Tr)(d:It)(m:Nat)(w:Tr):(nt tu o d m w).mark=m:=by cases tu<;>rfl
theorem jR(tu:Bool)(o:Tr)(d:It)(m:Nat)(w:Tr):(nt tu o d m w).its=if tu=true then w.its++d::o.its else o.its++d::w.its:=by cases tu<;>rfl
theorem kJ(tu:Bool)(o:Tr)(d:It)(m:Nat)(w:Tr):(nt tu o d m w).its.length=o.its.length+w.its.length+1:=by
 rw[jR];cases tu<;>simp<;>omega
theorem jS(tu:Bool)(o:Tr)(d:It)(m:Nat)(w:Tr)(y:Nat):y∈(nt tu o d m w).hs↔y∈o.hs\/y=d.h\/y∈w.hs:=by
 cases tu
 ·show y∈(node o d m w).hs↔_
  rw[eY]
  simp
 ·show y∈(node w d m o).hs↔_
  rw[eY]
  simp;constructor
  ·rintro(h | h | h)
   ·exact ae (ae h)
   ·exact ae (aa h)
   ·exact aa h
  ·rintro(h | h | h)
   ·exact ae (ae h)
   ·exact ae (aa h)
   ·exact aa h
theorem qMaaf{P:Prop}(h:P:=by
 intro h;obtain⟨h1,h2,h3,h4,h5⟩:=jf h;exact lh h2 h1 h4 h3 fun y hy hm=>h5 y hm hy):P:=h
theorem lZ(tu:Bool)(o:Tr)(d:It)(m:Nat)(w:Tr):(nt tu o d m w).hs.Nodup↔(o.hs++d.h::w.hs).Nodup:=by
 cases tu
 ·show (node o d m w).hs.Nodup↔_
  rw[eY]
 ·show (node w d m o).hs.Nodup↔_
  rw[eY]
  constructor
  ·exact qMaaf
  ·exact qMaaf
theorem lY{tu:Bool}(h:At S (nt tu o d m w)):At S o/\At S w/\∃n0,reco S d.h=some (eM n0)/\n0.key=d.kh/\n0.val=d.vh:=by
 cases tu
 ·exact⟨h.2.1,h.2.2,_,h.1,rfl,rfl⟩
 ·exact⟨h.2.2,h.2.1,_,h.1,rfl,rfl⟩
theorem oH(hf:Fw S f){tu:Bool}(h:At S (nt tu o d m w)):sidesT S tu d.h=(o.root,w.root):=by
 unfold sidesT
 cases tu
 ·have h:At S (node o d m w):=h;rw[h.getNode hf]
  rfl
 ·have h:At S (node w d m o):=h;rw[h.getNode hf]
  rfl
theorem At.red(hf:Fw S f)(h:At S t):redT S t.root=decide (t.mark % 2=1):=by
 unfold redT;have:=(h.mark_eq hf).1;unfold mU at this;rw[this]
theorem At.black(hf:Fw S f)(h:At S t):blackT S t.root=t.mark / 2:=by
 unfold blackT;have:=(h.mark_eq hf).1;unfold mU at this;rw[this]
def Sr(t:Tr):Prop:=t.mark<100000/\t.its.length<100000
theorem rW(hf:Fw S f){l r:Tr}{n0:Nd}(c:Bool)(hl:At S l)(hr:At S r)(hd:reco S d.h=some (eM n0))(hk0:n0.key=d.kh)(hv0:n0.val=d.vh)(hnl:d.h∉l.hs)(hnr:d.h∉r.hs)(sl:Sr l)(sr:Sr r):
 ∃S',putRM S d.h l.root r.root c=some S'/\Fw S' f/\At S' (node l d (l.mark / 2*2+(if c then 1 else 2)) r)/\(∀h',h'≠d.h->reco S' h'=reco S h')/\ej S S' 0 0:=by
 have hw:=(fL hf hd).2.2.2;have ai:d.kh<2^64:=by rw[<-hk0];exact hw _ (by simp[eM])
 have au:d.vh<2^64:=by rw[<-hv0];exact hw _ (by simp[eM])
 have h1:=sl.1;have h2:=sl.2;have h3:=sr.2;have al:(node l d (l.mark / 2*2+(if c then 1 else 2)) r).its.length=l.its.length+(r.its.length+1):=by simp[its]
 have ar:ji (nd l d (l.mark / 2*2+(if c then 1 else 2)) r):=by
  refine⟨ai,au,hl.root_lt hf,hr.root_lt hf,?_,?_⟩
  ·show l.mark / 2*2+(if c then 1 else 2)<_
   cases c<;>simp<;>omega
  ·show (node l d (l.mark / 2*2+(if c then 1 else 2)) r).its.length<_;omega
 obtain⟨S',e,ad,an,ho,hg⟩:=ww hf hd ar;refine⟨S',?_,ad,⟨an,hl.frame fun h hm=>ho h fun e=>hnl (e▸hm),hr.frame fun h hm=>ho h fun e=>hnr (e▸hm)⟩,ho,hg⟩;unfold putRM;rw[hl.size hf (by omega),hr.size hf (by omega),hl.black hf,gw hf hd];simp only;rw[if_neg (by omega)];have:({ n0 with left:=l.root,right:=r.root,mark:=l.mark / 2*2+(if c then 1 else 2),size:=l.its.length+r.its.length+1 }:Nd)=nd l d (l.mark / 2*2+(if c then 1 else 2)) r:=by
  unfold nd;rw[hk0,hv0,al]
  congr 1
 rw[this,e]
theorem lu(hf:Fw S f)(tu:Bool){o w:Tr}{n0:Nd}(c:Bool)(ho:At S o)(hw:At S w)(hd:reco S d.h=some (eM n0))(hk0:n0.key=d.kh)(hv0:n0.val=d.vh)(hno:d.h∉o.hs)(hnw:d.h∉w.hs)(so:Sr o)(sw:Sr w)(hb:o.mark / 2=w.mark / 2):
 ∃S',putJ S tu d.h o.root w.root c=some S'/\Fw S' f/\At S' (nt tu o d (o.mark / 2*2+(if c then 1 else 2)) w)/\(∀h',h'≠d.h->reco S' h'=reco S h')/\ej S S' 0 0:=by
 cases tu
 ·exact rW hf c ho hw hd hk0 hv0 hno hnw so sw
 ·have:=rW hf c hw ho hd hk0 hv0 hnw hno sw so;rw[<-hb] at this;exact this
def Rb:Tr->Prop
 | nil=>True
 | node l _ m r=>Rb l/\Rb r/\l.mark / 2=r.mark / 2/\((m=l.mark / 2*2+1/\l.mark % 2=0/\r.mark % 2=0)\/m=l.mark / 2*2+2)
theorem Rb.mark_le:∀{t:Tr},Rb t->t.mark<=2*t.its.length
 | nil,_=>Nat.le_refl _
 | node l d m r,⟨h1,h2,h3,h4⟩=>by
  have:=h1.mark_le;have:=h2.mark_le;show m<=2*(l.its++d::r.its).length
  simp only[aD,ak];omega
theorem Rb.sr(h:Rb t)(hl:t.its.length<40000):Sr t:=⟨by have:=h.mark_le;omega,by omega⟩
structure jl (o w:Tr) (m:Nat):Prop where
 ro:Rb o
 rw':Rb w
 bh:o.mark / 2=w.mark / 2
 col:(m=o.mark / 2*2+1/\o.mark % 2=0/\w.mark % 2=0)\/m=o.mark / 2*2+2
theorem jl.nt{tu:Bool}{o w:Tr}(h:jl o w m):Rb (Tr.nt tu o d m w):=by
 obtain⟨h1,h2,h3,h4⟩:=h
 cases tu
 ·exact⟨h1,h2,h3,h4⟩
 ·refine⟨h2,h1,h3.symm,?_⟩
  rcases h4 with h4 | h4
  ·left;omega
  ·right;omega
theorem Rb.node_nt(tu:Bool)(h:Rb t)(hm:t.mark≠0):∃o d m w,t=Tr.nt tu o d m w/\jl o w m:=by
 cases t with
 | nil=>exact absurd rfl hm
 | node l d m r=>
  obtain⟨h1,h2,h3,h4⟩:=h
  cases tu
  ·exact⟨l,d,m,r,rfl,h1,h2,h3,h4⟩
  ·refine⟨r,d,m,l,rfl,h2,h1,h3.symm,?_⟩
   rcases h4 with h4 | h4
   ·left;omega
   ·right;omega
def iS(tu:Bool)(u:Tr):Prop:=∃o d m w,u=Tr.nt tu o d m w/\Rb o/\Rb w/\o.mark % 2=0/\o.mark / 2=w.mark / 2/\m=o.mark / 2*2+1
def kR(tu:Bool)(u:Tr):Prop:=∃o d m w,u=Tr.nt tu o d m w/\Rb o/\(Rb w\/iS tu w)/\o.mark % 2=0/\o.mark / 2=w.mark / 2/\m=o.mark / 2*2+1
theorem iS.two{tu:Bool}(h:iS tu u):kR tu u:=by
 obtain⟨o,d,m,w,h1,h2,h3,h4⟩:=h;exact⟨o,d,m,w,h1,h2,aa h3,h4⟩
theorem iS.odd{tu:Bool}(h:iS tu u):u.mark % 2=1:=by
 obtain⟨o,d,m,w,rfl,_,_,_,_,h⟩:=h;rw[fg];omega
theorem kR.odd{tu:Bool}(h:kR tu u):u.mark % 2=1:=by
 obtain⟨o,d,m,w,rfl,_,_,_,_,h⟩:=h;rw[fg];omega
theorem yz{tu:Bool}(h:Rb u\/kR tu u)(hr:u.mark % 2=1):kR tu u:=by
 rcases h with h | h
 ·obtain⟨o,d,m,w,rfl,h1,h2,h3,h4⟩:=h.node_nt tu (by omega);rw[fg] at hr;have h4:m=o.mark / 2*2+1/\o.mark % 2=0/\w.mark % 2=0:=by rcases h4 with h4 | h4<;>omega
  exact⟨o,d,m,w,rfl,h1,aa h2,h4.2.1,h3,h4.1⟩
 ·exact h
theorem tA{tu:Bool}(h:Rb u\/iS tu u)(hr:u.mark % 2=1):iS tu u:=by
 rcases h with h | h
 ·obtain⟨o,d,m,w,rfl,h1,h2,h3,h4⟩:=h.node_nt tu (by omega);rw[fg] at hr;have h4:m=o.mark / 2*2+1/\o.mark % 2=0/\w.mark % 2=0:=by rcases h4 with h4 | h4<;>omega
  exact⟨o,d,m,w,rfl,h1,h2,h4.2.1,h3,h4.1⟩
 ·exact h
def jO(tu:Bool)(a:List It)(d:It)(b:List It):List It:=if tu=true then b++d::a else a++d::b
theorem AY(hf:Fw S f){tu:Bool}{oth x:Tr}{e:It}(ha:At S (nt tu oth e (oth.mark / 2*2+2) x))(hnd:(nt tu oth e (oth.mark / 2*2+2) x).hs.Nodup)(hlen:(nt tu oth e (oth.mark / 2*2+2) x).its.length<40000)
 (ro:Rb oth) (rx:Rb x\/kR tu x) (hb:oth.mark / 2=x.mark / 2):
 ∃u S',fixR tu S e.h oth.root x.root false=some (u.root,S')/\lF S S' f (nt tu oth e (oth.mark / 2*2+2) x).hs u/\u.its=(nt tu oth e (oth.mark / 2*2+2) x).its/\Rb u/\u.mark / 2=oth.mark / 2+1:=by
 obtain⟨ho,hx,n0,bb,a9,bo⟩:=lY ha;have ai:=hx.red hf;by_cases c1:x.mark % 2=1
 ·obtain⟨a,xd,xm,b,rfl,ra,rb,ea,eb,em⟩:=yz rx c1;rw[fg] at hb c1;have hs:=oH hf hx;obtain⟨a4,ad,n1,bc,a',bs⟩:=lY hx;have an:=ad.red hf;by_cases c2:b.mark % 2=1
  ·obtain⟨c,bd,bm,d',rfl,rc,rd,ec,ed,b'⟩:=tA rb c2;rw[fg] at eb c2;have bk:=oH hf ad;obtain⟨a5,a6,n2,bf,ba,bt⟩:=lY ad;rw[lZ] at hnd;obtain⟨d1,d2,d3,d4,d5⟩:=jf hnd;rw[lZ] at d2;obtain⟨d6,d7,d8,d9,al⟩:=jf d2;rw[lZ] at d7;obtain⟨b2,b4,ar,au,b9⟩:=jf d7;simp only[jS,not_or] at d4 d5 d9 al;rw[kJ,kJ,kJ] at hlen;have so:=ro.sr (by omega);have sa:=ra.sr (by omega);have sc:=rc.sr (by omega);have sd:=rd.sr (by omega);obtain⟨S1,e1,f1,a1,o1,g1⟩:=lu hf tu false a5 a6 bf ba bt ar au sc sd ed;have bj:At S1 oth:=ho.frame fun y hy=>o1 y fun q=>(d5 y hy).2.2.2.1 q;have a0:At S1 a:=a4.frame fun y hy=>o1 y fun q=>(al y hy).2.1 q;have a8:reco S1 e.h=some (eM n0):=(o1 _ fun q=>d4.2.2.2.1 q).trans bb;have bu:reco S1 xd.h=some (eM n1):=(o1 _ fun q=>d9.2.1 q).trans bc;obtain⟨S2,e2,f2,a2,o2,g2⟩:=lu f1 tu false bj a0 a8 a9 bo d3 d4.1 so sa (by omega);have a7:At S2 (nt tu c bd (c.mark / 2*2+2) d'):=a1.frame fun y hy=>o2 y fun q=>by
    rw[jS] at hy;subst q;rcases hy with hy | hy | hy
    ·exact d4.2.2.1 hy
    ·exact d4.2.2.2.1 hy
    ·exact d4.2.2.2.2 hy
   have bv:reco S2 xd.h=some (eM n1):=(o2 _ fun q=>d4.2.1 q.symm).trans bu;have st:Sr (nt tu oth e (oth.mark / 2*2+2) a):=⟨by rw[fg];have:=so.1;have:=ro.mark_le;omega,by rw[kJ];omega⟩;have sb:Sr (nt tu c bd (c.mark / 2*2+2) d'):=⟨by rw[fg];have:=rc.mark_le;omega,by rw[kJ];omega⟩;obtain⟨S3,e3,f3,a3,o3,g3⟩:=lu f2 tu true a2 a7 bv a' bs (by rw[jS];simp only[not_or];exact⟨fun q=>(d5 _ q).2.1 rfl,fun q=>d4.2.1 q.symm,d8⟩) (by rw[jS];simp only[not_or];exact d9) st sb (by rw[fg,fg];simp only[cU,if_false];omega);refine⟨_,S3,?_,⟨f3,a3,?_,(g1.trans g2).trans g3⟩,?_,?_,?_⟩
   ·unfold fixR;rw[ai,fg];rw[if_neg (by simp;omega),il,hs];simp only;rw[an,fg,if_neg (by simp;omega),il,bk];simp only;rw[e1];simp only;rw[e2];simp only;rw[il,il] at e3;rw[e3,il];rfl
   ·intro y hy;simp only[jS,not_or] at hy;exact(o3 y hy.2.2.2.1).trans ((o2 y hy.2.1).trans (o1 y hy.2.2.2.2.2.1))
   ·cases tu<;>simp[jR]
   ·refine jl.nt ⟨jl.nt ⟨ro,ra,by omega,ae rfl⟩,jl.nt ⟨rc,rd,ed,ae rfl⟩,?_,aa ⟨rfl,?_,?_⟩⟩<;>simp only[fg,cU,if_false]<;>omega
   ·simp only[fg,cU,if_false,if_true];omega
  ·refine⟨nt tu oth e (oth.mark / 2*2+2) (nt tu a xd xm b),S,?_,⟨hf,ha,fun _ _=>rfl,ej.refl S⟩,rfl,?_,?_⟩
   ·unfold fixR;rw[ai,fg,if_neg (by simp;omega),il,hs];simp only;rw[an,if_pos (by simp;omega),il]
   ·have b0:Rb b:=by
     rcases rb with h | h
     ·exact h
     ·have:=h.odd;omega
    refine jl.nt ⟨ro,jl.nt ⟨ra,b0,eb,aa ⟨em,ea,by omega⟩⟩,?_,ae rfl⟩;rw[fg];omega
   ·rw[fg];omega
 ·have b1:Rb x:=by
   rcases rx with h | h
   ·exact h
   ·have:=h.odd;omega
  refine⟨nt tu oth e (oth.mark / 2*2+2) x,S,?_,⟨hf,ha,fun _ _=>rfl,ej.refl S⟩,rfl,jl.nt ⟨ro,b1,hb,ae rfl⟩,by rw[fg];omega⟩;unfold fixR;rw[ai,if_pos (by right;simp;omega),il]
end Tr
end
section
open Lf Tr
variable{S:St}{o:Nat->Nat}
theorem J4(hf:Fw S o){h:Nat}{ws:List Nat}(hl:reco S h=some ws):∃a r,eO S.a o a r/\ws.length+2<=r/\∃(k:Nat) (x:fb),S.t.slots[k]?=some x/\x.is=1/\h=gj x.gen k/\x.addr=a:=by
 obtain⟨k,x,hx,h1,h2,rfl⟩:=(gT hf.tab).1 hl;obtain⟨r,g1,g2,g3⟩:=hf.live k x hx h1;exact⟨x.addr,r,g1,by rw[Jy];omega,k,x,hx,h1,h2,rfl⟩
theorem JY(hf:Fw S o){l:List Nat}{n:Nat}(h0:0<n)(hn:l.Nodup)(hl:∀h∈l,∃ws,reco S h=some ws/\n<=ws.length+2):l.length*n<=64*S.a.pages.length:=by
 have key:∀i:Nat,∃a:Nat,∀hi:i<l.length,∃r,eO S.a o a r/\n<=r/\∃(k:Nat) (x:fb),S.t.slots[k]?=some x/\x.is=1/\l[i]=gj x.gen k/\x.addr=a:=fun i=>by
  by_cases hi:i<l.length
  ·obtain⟨ws,h1,h2⟩:=hl _ (aF hi);obtain⟨a,r,p,q,s⟩:=J4 hf h1;exact⟨a,fun _=>⟨r,p,by omega,s⟩⟩
  ·exact⟨0,fun h=>absurd h hi⟩
 let A:Nat->Nat:=fun i=>(key i).choose
 have hA:∀i (hi:i<l.length),∃r,eO S.a o (A i) r/\n<=r/\∃(k:Nat) (x:fb),S.t.slots[k]?=some x/\x.is=1/\l[i]=gj x.gen k/\x.addr=A i:=fun i hi=>(key i).choose_spec hi;have hd:∀m,m<l.length*n->m / n<l.length/\m % n<n:=fun m hm=>⟨(Nat.div_lt_iff_lt_mul h0).2 hm,Nat.mod_lt _ h0⟩;have ai:((List.range (l.length*n)).map fun m=>A (m / n)+m % n).Nodup:=by
  refine vV (fun x hx y hy he=>?_) List.nodup_range;obtain⟨x1,x2⟩:=hd x (bw.1 hx);obtain⟨y1,y2⟩:=hd y (bw.1 hy);obtain⟨r,p1,q1,k1,s1,a1,b1,c1,d1⟩:=hA _ x1;obtain⟨r',p2,q2,k2,s2,a2,b2,c2,d2⟩:=hA _ y1;have hq:x / n=y / n:=by
   rcases eO.apart hf.own p1 p2 with g | g | g
   ·have e:k1=k2:=hf.inj k1 k2 s1 s2 a1 a2 b1 b2 (by rw[d1,d2];exact g.1);subst e;rw[a1] at a2
    injection a2 with a2
    subst a2;have ad:=c1.trans c2.symm;have hp:=bJ.1 hn
    rcases Nat.lt_trichotomy (x / n) (y / n) with q | q | q
    ·exact absurd ad (hp _ _ x1 y1 q)
    ·exact q
    ·exact absurd ad.symm (hp _ _ y1 x1 q)
   ·omega
   ·omega
  rw[hq] at he;rw[<-Nat.div_add_mod x n,<-Nat.div_add_mod y n,hq];omega
 have al:∀y∈(List.range (l.length*n)).map (fun m=>A (m / n)+m % n),y∈S.a.keys.flatMap fun p=>(List.range 64).map fun j=>64*p+j:=by
  intro y hy;obtain⟨m,hm,rfl⟩:=aA.1 hy;obtain⟨m1,m2⟩:=hd m (bw.1 hm);obtain⟨r,p1,q1,_⟩:=hA _ m1;have hp:=(p1.ok hf.own (b:=m % n) (by omega)).2.2;exact dz.2 ⟨(A (m / n)+m % n) / 64,hp,aA.2 ⟨(A (m / n)+m % n) % 64,bw.2 (by omega),by omega⟩⟩
 have:=Dk ai al;rw[ao,List.length_range,List.length_flatMap] at this;have e:(S.a.keys.map fun p=>((List.range 64).map fun j=>64*p+j).length)=S.a.keys.map fun _=>64:=by
  refine aP fun p _=>?_
  simp
 have hs:∀k:Nat,(List.replicate k 64).sum=64*k:=fun k=>by
  induction k with
  | zero=>rfl
  | succ k ih=>rw[List.replicate_succ,List.sum_cons,ih];omega
 rw[e,List.map_const',hs,i8] at this;exact this
end
section
open Go.RowKit Tryz Go.BigFrame Go.Maps Go.WideMaps Lf
variable{R:Nat×Nat}{S:St}{Y:Nat->Prop}{ps:Nat}{w:World}{x1:Nat}{x:Nat}
theorem lT(n:Nd){m:Nat}:∀(f:Nat) {S S':St} {l r x:Nat},Fv S->joinB n m f S l r=some (x,S')->Fv S'/\(m<2^64->x<2^64)
 | 0,S,S',l,r,x,hi,hj=>by
  rw[qY] at hj;obtain⟨S1,h1,h2⟩:=aC.1 hj;injection h2 with e1 e2
  subst e1 e2;exact⟨gX hi h1,id⟩
 | f+1,S,S',l,r,x,hi,hj=>by
  rw[qX] at hj;split at hj
  ·split at hj
   ·split at hj
    ·cases hj
    ·rename_i x1 S1 h1;split at hj
     ·cases hj
     ·rename_i S2 h2;obtain⟨hb,hx⟩:=lM hj;exact⟨tH (gX (lT n f hi h1).1 h2) hb,fun _=>hx⟩
   ·split at hj
    ·split at hj
     ·cases hj
     ·rename_i x1 S1 h1;split at hj
      ·cases hj
      ·rename_i S2 h2;obtain⟨hb,hx⟩:=lM hj;exact⟨tH (gX (lT n f hi h1).1 h2) hb,fun _=>hx⟩
    ·obtain⟨S1,h1,h2⟩:=aC.1 hj;injection h2 with e1 e2
     subst e1 e2;exact⟨gX hi h1,id⟩
  ·cases hj
theorem yU(n:Nd)(hn:ji n)(m:Nat)(hm:m<2^64):∀(f d:Nat),d+f=100->∀{w:World} {S S':St} {Y:Nat->Prop} {l r x:Nat},Ig w ps S Y->Fv S->l<2^64->r<2^64->
 joinB n m f S l r=some (x,S')->
 Ct 185 #[PV ps,Xu l,Xu r,gP n m,Xi d] w fun e w'=>e=.returned (Xu x)/\Ig w' ps S' Y/\Fo Y w w':=by
 intro f;induction f with
 | zero=>
  intro d hd w S S' Y l r x h hi hl hr hj;obtain rfl:d=100:=by omega
  rw[qY] at hj;obtain⟨S1,h1,h2⟩:=aC.1 hj;injection h2 with e1 e2
  subst e1 e2;obtain⟨a,b,-,-,ha,hb,-,-,-⟩:=Ht h1;have hA:=fun W (hW:Below w.heap.size w W)=>fJ (h.below hW) hi l hl ha;have hB:=fun W (hW:Below w.heap.size w W)=>fJ (h.below hW) hi r hr hb;have hW:=fun W Z (hW:Ig W ps S Z)=>jG hW hi n hn m l r hm hl hr h1;obtain⟨k0,k1,k2,k3,k4,k5⟩:=n;simp only[gP] at hW⊢;have q0:=heap_alloc_new w (Xa k0 k1 k2 k3 k4 k5 m);have B0:=(ab w.heap.size w).alloc Ih (Xa k0 k1 k2 k3 k4 k5 m);have HG:=kq6 hA hB hW h q0 B0;clear hA hB hW h hi hj h1 ha hb q0 B0 hd hn;go_enter func185,ntmps185;go_wp2_with fail;refine wx (HG.a _ HG.f) fun w1 hb1=>?_;have H1:=kq2 (HG.f.trans (hb1.mono HG.f.size)) ((hb1.block w.heap.size (by simp)).trans HG.e);clear hb1;go_wp2_with fail;refine wx (HG.b _ H1.a) fun w2 hb2=>?_;have r2:=(hb2.block w.heap.size (gl H1.b)).trans H1.b;obtain⟨c0,c1,c2,c3,c4,c5,c6⟩:=gG r2;have H2:=If (H1.a.trans (hb2.mono H1.a.size));clear hb2 r2;go_wp2_with fail;refine(HG.c _ _ (HG.d.below H2.out)).mono ?_;rintro e w3 ⟨rfl,h3,a8⟩;have H3:=kq2 h3 ((Fo.of_below H2.out HG.d.yl).trans a8);clear h3 a8;go_wp2_with fail;go_ret;exact⟨rfl,H3.out⟩
 | succ f ih=>
  intro d hd w S S' Y l r x h hi hl hr hj;rw[qX] at hj;split at hj
  case h_2=>cases hj
  rename_i a b ha hb;have bd:a<2^62:=by have:=num_some ha;omega
  have bf:b<2^62:=by have:=num_some hb;omega
  have hA:=fun W (hW:Below w.heap.size w W)=>fJ (h.below hW) hi l hl ha;have hB:=fun W (hW:Below w.heap.size w W)=>fJ (h.below hW) hi r hr hb;have bj:((d:Int)==100)=false:=by simp;omega
  split at hj
  ·rename_i hba;have ba:((b:Int)+1<a)=True:=eq_true (by omega);split at hj
   ·cases hj
   rename_i x1 S1 hj1;split at hj
   ·cases hj
   rename_i S2 hj2;obtain⟨hj,a'⟩:=lM hj;obtain⟨a1,ai⟩:=lT n f hi hj1;have ai:=ai hm;have a4:=gX a1 hj2;have ad:=fs h l;have hg:=fun W (hW:Below w.heap.size w W)=>gR (h.below hW) hi l hl;have cr:=fun W Z (hW:Ig W ps S Z)=>ih (d+1) (by omega) hW hi ad.right hr hj1;have cw:=fun W Z (hW:Ig W ps S1 Z)=>jG hW a1 (getNode S l).1 ad l (getNode S l).1.left x1 hl ad.left ai hj2;have cb:=fun W Z (hW:Ig W ps S2 Z)=>tG hW a4 _ hl hj;obtain⟨⟨⟨g0,g1,g2,g3,g4,g5⟩,er⟩,hE⟩:∃r,getNode S l=r:=⟨_,rfl⟩;rw[hE] at hg cr cw;obtain⟨k0,k1,k2,k3,k4,k5⟩:=n;simp only[gP] at hg cr cw⊢;have bb:IntKind.i64.wrap ((d:Int)+1)=(d:Int)+1:=aB _ (by omega);have q0:=heap_alloc_new w (Xa k0 k1 k2 k3 k4 k5 m);have B0:=(ab w.heap.size w).alloc Ih (Xa k0 k1 k2 k3 k4 k5 m);have HG:=kq9 hA hB hg h q0 B0 cr cw cb;clear hA hB hg cr cw cb h hi a1 a4 hj hj1 hj2 ha hb q0 B0 ih hn ad a' ai hE;go_enter func185,ntmps185;go_wp2_with fail;refine wx (HG.a _ HG.f) fun w1 hb1=>?_;have H1:=kq2 (HG.f.trans (hb1.mono HG.f.size)) ((hb1.block w.heap.size (by simp)).trans HG.e);clear hb1;go_wp2_with fail;refine wx (HG.b _ H1.a) fun w2 hb2=>?_;have H2:=kq2 (H1.a.trans (hb2.mono H1.a.size)) ((hb2.block w.heap.size (gl H1.b)).trans H1.b);clear hb2;go_wp2_with fail;refine wx (HG.c _ H2.a) fun w3 hb3=>?_;have r3:=(hb3.block w.heap.size (gl H2.b)).trans H2.b;have B3:=H2.a.trans (hb3.mono H2.a.size);have q4:=heap_alloc_new w3 (Xa g0 g1 g2 g3 g4 g5 l);have r4:=(((ab w3.heap.size w3).alloc Ih (Xa g0 g1 g2 g3 g4 g5 l)).block w.heap.size (gl r3)).trans r3;have B4:=B3.alloc B3.size (Xa g0 g1 g2 g3 g4 g5 l);clear hb3 r3;have a5:=B3.size;go_wp2_with fail;generalize w3.alloc (Xa g0 g1 g2 g3 g4 g5 l)=W at*;generalize w3.heap.size=b13 at*;have a3:=(gl r4);have a2:=(gl q4);have zw:=HG.d.wide B4;have HZ:=kq5 zw r4 q4 B4 a5;obtain⟨I,au,a0⟩:∃I:World->Prop,(∀w',I w'->w'.heap[w.heap.size]?=some (Xa k0 k1 k2 k3 k4 k5 m)/\w'.heap[b13]?=some (Xa g0 g1 g2 g3 g4 g5 l))/\(∀w',w'.heap[w.heap.size]?=some (Xa k0 k1 k2 k3 k4 k5 m)->w'.heap[b13]?=some (Xa g0 g1 g2 g3 g4 g5 l)->I w'):=⟨fun w'=>w'.heap[w.heap.size]?=some (Xa k0 k1 k2 k3 k4 k5 m)/\w'.heap[b13]?=some (Xa g0 g1 g2 g3 g4 g5 l),fun _ h=>h,fun _ a b=>⟨a,b⟩⟩;have a6:=fun x:Fq I=>(au _ x.ok).1;have a7:=fun x:Fq I=>(au _ x.ok).2;obtain⟨y0,y1,y2,y3,y4,y5,y6⟩:=iZ a6;obtain⟨z0,z1,z2,z3,z4,z5,z6⟩:=iZ a7;have HI:=If a0;have a9:I W.drew:=a0 _ r4 q4;clear a6 a7 q4 r4 zw B4 a5 au a0;refine Jz I [0,1,2,3,4,5,6,7,8,9,10,11,12,13] [14,15,16,17] (by kernel_rfl) (by kernel_rfl) a9 ?_;iterate 14
    refine' hC ?_ ?_;rotate_left
    ·intro x;go_simp;try rfl
    simp only[pu]
   refine mo ?_;clear y0 y1 y2 y3 y4 y5 y6 z0 z1 z2 z3 z4 z5 z6;refine gF _ (by rfl) (by rfl) (fun K hK=>?_);go_simp;refine(HG.g _ _ (HZ.a.below (ab _ _).drew)).mono ?_;rintro e w5 ⟨rfl,h5,al⟩;have u5:w5.heap[w.heap.size]?=_:=(al.block _ (ae ⟨Nat.le_refl _,a3⟩)).trans HZ.b;have v5:w5.heap[b13]?=_:=(al.block _ (ae ⟨HZ.e,a2⟩)).trans HZ.c;have H5:=kq4 h5 al u5 v5;clear h5 al u5 v5;try go_simp
   refine hK.out _ _ (HI.out _ H5.c H5.d) ?_;clear hK K;try simp only[pu]
   refine gF _ (by rfl) (by rfl) (fun K hK=>?_);go_simp;refine(HG.h _ _ H5.a).mono ?_;rintro e w6 ⟨rfl,h6,an⟩;have u6:w6.heap[w.heap.size]?=_:=(an.block _ (ae ⟨Nat.le_refl _,a3⟩)).trans H5.c;have v6:w6.heap[b13]?=_:=(an.block _ (ae ⟨HZ.e,a2⟩)).trans H5.d;have H6:=kq4 h6 (H5.b.trans an) u6 v6;clear h6 an u6 v6;try go_simp
   refine hK.out _ _ (HI.out _ H6.c H6.d) ?_;clear hK K;try simp only[pu]
   refine gF _ (by rfl) (by rfl) (fun K hK=>?_);go_simp;refine(HG.i _ _ H6.a).mono ?_;rintro e w7 ⟨rfl,h7,ar⟩;have u7:w7.heap[w.heap.size]?=_:=(ar.block _ (ae ⟨Nat.le_refl _,a3⟩)).trans H6.c;have v7:w7.heap[b13]?=_:=(ar.block _ (ae ⟨HZ.e,a2⟩)).trans H6.d;have H7:=kq4 h7 (H6.b.trans ar) u7 v7;clear h7 ar u7 v7;try go_simp
   refine hK.out _ _ (HI.out _ H7.c H7.d) ?_;clear hK K;try simp only[pu]
   refine gF _ (by rfl) (by rfl) (fun K hK=>?_);try go_simp
   refine hK.out _ _ (HI.out _ H7.c H7.d) ?_;clear hK K;try simp only[pu]
   refine mp ?_;go_wp2_with fail;go_ret;exact⟨rfl,H7.a.mono fun k hk=>aa hk,(Fo.of_below HZ.d.drew HG.d.yl).trans (H7.b.mono fun k hk=>aa hk)⟩
  ·split at hj
   ·rename_i hab;have ba:((b:Int)+1<a)=False:=eq_false (by omega);have bc:((a:Int)+1<b)=True:=eq_true (by omega);split at hj
    ·cases hj
    rename_i x1 S1 hj1;split at hj
    ·cases hj
    rename_i S2 hj2;obtain⟨hj,a'⟩:=lM hj;obtain⟨a1,ai⟩:=lT n f hi hj1;have ai:=ai hm;have a4:=gX a1 hj2;have ad:=fs h r;have hg:=fun W (hW:Below w.heap.size w W)=>gR (h.below hW) hi r hr;have cr:=fun W Z (hW:Ig W ps S Z)=>ih (d+1) (by omega) hW hi hl ad.left hj1;have cw:=fun W Z (hW:Ig W ps S1 Z)=>jG hW a1 (getNode S r).1 ad r x1 (getNode S r).1.right hr ai ad.right hj2;have cb:=fun W Z (hW:Ig W ps S2 Z)=>tG hW a4 _ hr hj;obtain⟨⟨⟨g0,g1,g2,g3,g4,g5⟩,er⟩,hE⟩:∃q,getNode S r=q:=⟨_,rfl⟩;rw[hE] at hg cr cw;obtain⟨k0,k1,k2,k3,k4,k5⟩:=n;simp only[gP] at hg cr cw⊢;have bb:IntKind.i64.wrap ((d:Int)+1)=(d:Int)+1:=aB _ (by omega);have q0:=heap_alloc_new w (Xa k0 k1 k2 k3 k4 k5 m);have B0:=(ab w.heap.size w).alloc Ih (Xa k0 k1 k2 k3 k4 k5 m);have HG:=kq9 hA hB hg h q0 B0 cr cw cb;clear hA hB hg cr cw cb h hi a1 a4 hj hj1 hj2 ha hb q0 B0 ih hn ad a' ai hE;go_enter func185,ntmps185;go_wp2_with fail;refine wx (HG.a _ HG.f) fun w1 hb1=>?_;have H1:=kq2 (HG.f.trans (hb1.mono HG.f.size)) ((hb1.block w.heap.size (by simp)).trans HG.e);clear hb1;go_wp2_with fail;refine wx (HG.b _ H1.a) fun w2 hb2=>?_;have H2:=kq2 (H1.a.trans (hb2.mono H1.a.size)) ((hb2.block w.heap.size (gl H1.b)).trans H1.b);clear hb2;go_wp2_with fail;refine wx (HG.c _ H2.a) fun w3 hb3=>?_;have r3:=(hb3.block w.heap.size (gl H2.b)).trans H2.b;have B3:=H2.a.trans (hb3.mono H2.a.size);have q4:=heap_alloc_new w3 (Xa g0 g1 g2 g3 g4 g5 r);have r4:=(((ab w3.heap.size w3).alloc Ih (Xa g0 g1 g2 g3 g4 g5 r)).block w.heap.size (gl r3)).trans r3;have B4:=B3.alloc B3.size (Xa g0 g1 g2 g3 g4 g5 r);clear hb3 r3;have a5:=B3.size;go_wp2_with fail;generalize w3.alloc (Xa g0 g1 g2 g3 g4 g5 r)=W at*;generalize w3.heap.size=b13 at*;have a3:=(gl r4);have a2:=(gl q4);have zw:=HG.d.wide B4;have HZ:=kq5 zw r4 q4 B4 a5;obtain⟨I,au,a0⟩:∃I:World->Prop,(∀w',I w'->w'.heap[w.heap.size]?=some (Xa k0 k1 k2 k3 k4 k5 m)/\w'.heap[b13]?=some (Xa g0 g1 g2 g3 g4 g5 r))/\(∀w',w'.heap[w.heap.size]?=some (Xa k0 k1 k2 k3 k4 k5 m)->w'.heap[b13]?=some (Xa g0 g1 g2 g3 g4 g5 r)->I w'):=⟨fun w'=>w'.heap[w.heap.size]?=some (Xa k0 k1 k2 k3 k4 k5 m)/\w'.heap[b13]?=some (Xa g0 g1 g2 g3 g4 g5 r),fun _ h=>h,fun _ a b=>⟨a,b⟩⟩;have a6:=fun x:Fq I=>(au _ x.ok).1;have a7:=fun x:Fq I=>(au _ x.ok).2;obtain⟨y0,y1,y2,y3,y4,y5,y6⟩:=iZ a6;obtain⟨z0,z1,z2,z3,z4,z5,z6⟩:=iZ a7;have HI:=If a0;have a9:I W.drew:=a0 _ r4 q4;clear a6 a7 q4 r4 zw B4 a5 au a0;refine Jz I [0,1,2,3,4,5,6,7,8,9,10,12,13,14] [11,15,16,17] (by kernel_rfl) (by kernel_rfl) a9 ?_;iterate 14
     refine' hC ?_ ?_;rotate_left
     ·intro x;go_simp;try rfl
     simp only[pu]
    refine mo ?_;clear y0 y1 y2 y3 y4 y5 y6 z0 z1 z2 z3 z4 z5 z6;refine gF _ (by rfl) (by rfl) (fun K hK=>?_);go_simp;refine(HG.g _ _ (HZ.a.below (ab _ _).drew)).mono ?_;rintro e w5 ⟨rfl,h5,al⟩;have u5:w5.heap[w.heap.size]?=_:=(al.block _ (ae ⟨Nat.le_refl _,a3⟩)).trans HZ.b;have v5:w5.heap[b13]?=_:=(al.block _ (ae ⟨HZ.e,a2⟩)).trans HZ.c;have H5:=kq4 h5 al u5 v5;clear h5 al u5 v5;try go_simp
    refine hK.out _ _ (HI.out _ H5.c H5.d) ?_;clear hK K;try simp only[pu]
    refine gF _ (by rfl) (by rfl) (fun K hK=>?_);go_simp;refine(HG.h _ _ H5.a).mono ?_;rintro e w6 ⟨rfl,h6,an⟩;have u6:w6.heap[w.heap.size]?=_:=(an.block _ (ae ⟨Nat.le_refl _,a3⟩)).trans H5.c;have v6:w6.heap[b13]?=_:=(an.block _ (ae ⟨HZ.e,a2⟩)).trans H5.d;have H6:=kq4 h6 (H5.b.trans an) u6 v6;clear h6 an u6 v6;try go_simp
    refine hK.out _ _ (HI.out _ H6.c H6.d) ?_;clear hK K;try simp only[pu]
    refine gF _ (by rfl) (by rfl) (fun K hK=>?_);go_simp;refine(HG.i _ _ H6.a).mono ?_;rintro e w7 ⟨rfl,h7,ar⟩;have u7:w7.heap[w.heap.size]?=_:=(ar.block _ (ae ⟨Nat.le_refl _,a3⟩)).trans H6.c;have v7:w7.heap[b13]?=_:=(ar.block _ (ae ⟨HZ.e,a2⟩)).trans H6.d;have H7:=kq4 h7 (H6.b.trans ar) u7 v7;clear h7 ar u7 v7;try go_simp
    refine hK.out _ _ (HI.out _ H7.c H7.d) ?_;clear hK K;try simp only[pu]
    refine gF _ (by rfl) (by rfl) (fun K hK=>?_);try go_simp
    refine hK.out _ _ (HI.out _ H7.c H7.d) ?_;clear hK K;try simp only[pu]
    refine mp ?_;go_wp2_with fail;go_ret;exact⟨rfl,H7.a.mono fun k hk=>aa hk,(Fo.of_below HZ.d.drew HG.d.yl).trans (H7.b.mono fun k hk=>aa hk)⟩
   ·rename_i hba hab;have ba:((b:Int)+1<a)=False:=eq_false (by omega);have bc:((a:Int)+1<b)=False:=eq_false (by omega);obtain⟨S1,h1,h2⟩:=aC.1 hj;injection h2 with e1 e2
    subst e1 e2;have hW:=fun W Z (hW:Ig W ps S Z)=>jG hW hi n hn m l r hm hl hr h1;obtain⟨k0,k1,k2,k3,k4,k5⟩:=n;simp only[gP] at hW⊢;have q0:=heap_alloc_new w (Xa k0 k1 k2 k3 k4 k5 m);have B0:=(ab w.heap.size w).alloc Ih (Xa k0 k1 k2 k3 k4 k5 m);have HG:=kq6 hA hB hW h q0 B0;clear hA hB hW h hi hj h1 ha hb q0 B0 hn ih;go_enter func185,ntmps185;go_wp2_with fail;refine wx (HG.a _ HG.f) fun w1 hb1=>?_;have H1:=kq2 (HG.f.trans (hb1.mono HG.f.size)) ((hb1.block w.heap.size (by simp)).trans HG.e);clear hb1;go_wp2_with fail;refine wx (HG.b _ H1.a) fun w2 hb2=>?_;have r2:=(hb2.block w.heap.size (gl H1.b)).trans H1.b;obtain⟨c0,c1,c2,c3,c4,c5,c6⟩:=gG r2;have H2:=If (H1.a.trans (hb2.mono H1.a.size));clear hb2 r2;go_wp2_with fail;refine(HG.c _ _ (HG.d.below H2.out)).mono ?_;rintro e w3 ⟨rfl,h3,a8⟩;have H3:=kq2 h3 ((Fo.of_below H2.out HG.d.yl).trans a8);clear h3 a8;go_wp2_with fail;go_ret;exact⟨rfl,H3.out⟩
theorem nL{S S':St}{l m r:Nat}(h:avlJ S l m r=some (R,S')):
 m≠0/\isT S l=true/\isT S m=true/\isT S r=true/\joinB (getNode S m).1 m 100 S l r=some (R.1,S')/\R.2=0:=by
 unfold avlJ at h
 split at h
 ·cases h
 ·rename_i hc;obtain⟨⟨x,S1⟩,h1,h2⟩:=aC.1 h
  injection h2 with e1 e2
  subst e1 e2;simp only[not_or,Bool.not_eq_false] at hc;exact⟨hc.1,hc.2.1,hc.2.2.1,hc.2.2.2,h1,rfl⟩
theorem yM{S S':St}(h:Ig w ps S Y)(hi:Fv S)(l m r:Nat)(hl:l<2^64)(hm:m<2^64)(hr:r<2^64)(hR:avlJ S l m r=some (R,S')):
 Ct 141 #[PV ps,Xu l,Xu m,Xu r] w fun e w'=>e=.returned (.tuple #[Xu R.1,Xi R.2])/\Ig w' ps S' Y/\Fo Y w w':=by
 obtain⟨h0,h1,h2,h3,h4,h5⟩:=nL hR;obtain⟨x,er⟩:=R;simp only at h4 h5;subst h5;have an:=fB h hi 0 (by omega);rw[fU] at an;have ad:=pQ h hi l hl;have ai:=fun W (hW:Below w.heap.size w W)=>pQ (h.below hW) hi m hm;have al:=fun W (hW:Below w.heap.size w W)=>pQ (h.below hW) hi r hr;have hg:=fun W (hW:Below w.heap.size w W)=>gR (h.below hW) hi m hm;have hj:=fun W (hW:Below w.heap.size w W)=>yU (getNode S m).1 (fs h m) m hm 100 0 rfl (h.below hW) hi hl hr h4;rw[h1] at ad;rw[h2] at ai;rw[h3] at al;obtain⟨⟨⟨k0,k1,k2,k3,k4,k5⟩,er⟩,hE⟩:∃q,getNode S m=q:=⟨_,rfl⟩;rw[hE] at hg hj;simp only[gP] at hg hj;have hq:((m:Int)==0)=false:=by simp;omega
 have HG:=kq7 an ad ai al hg hj h;clear an ad ai al hg hj h hi hE h0 h1 h2 h3 h4 hR;go_enter func141,ntmps141;go_wp2_with fail;refine Jc HG.a ?_;go_wp2_with fail;refine wx HG.b fun w1 hb1=>?_;have H1:=If hb1;clear hb1;go_wp2_with fail;refine wx (HG.c _ H1.out) fun w2 hb2=>?_;have H2:=If (H1.out.trans (hb2.mono H1.out.size));clear hb2;go_wp2_with fail;refine wx (HG.d _ H2.out) fun w3 hb3=>?_;have H3:=If (H2.out.trans (hb3.mono H2.out.size));clear hb3;go_wp2_with fail;refine wx (HG.e _ H3.out) fun w4 hb4=>?_;have H4:=If (H3.out.trans (hb4.mono H3.out.size));clear hb4;go_wp2_with fail;refine(HG.f _ H4.out).mono ?_;rintro e w5 ⟨rfl,h5,ar⟩;have H5:=kq2 h5 ((HG.g.keep H4.out).trans ar);clear h5 ar;go_wp2_with fail;go_ret2;exact⟨rfl,H5.out⟩
theorem BJ:mz 141 avlJ where
 enter args w:=by go_simp
 inv hi h:=(lT _ 100 hi (nL h).2.2.2.2.1).1
 lt hi _ hm _ h:=(lT _ 100 hi (nL h).2.2.2.2.1).2 hm
 ok h:=(nL h).2.2.2.2.2
 call h hi hl hm hr hR:=yM h hi _ _ _ hl hm hr hR
theorem vi:jD 1 141 234 avlJ:=⟨aa rfl,E2,BJ,Ai⟩
def eq(ps:Nat)(tu:Bool):Value:=.agg #[PV ps,.bool tu]
theorem DX{bj ps:Nat}{tu:Bool}(hb:w.heap[bj]?=some (.cells #[PV ps,.bool tu] 284 (0,0)))(a b:Nat):
 Ct 242 #[Xu a,Xu b,PV bj] w fun e w'=>e=.returned (.tuple #[Xu (if tu=true then b else a:Nat),Xu (if tu=true then a else b:Nat)])/\w=w':=by
 obtain⟨c0,c1⟩:=Fp hb;clear hb
 cases tu
 all_goals
  go_enter func242,ntmps242;go_wp2_with fail;go_ret2;exact⟨rfl,rfl⟩
theorem jX(h:Ig w ps S Y)(hi:Fv S)(tu:Bool)(hh:Nat)(hl:hh<2^64):
 Cb 222 #[eq ps tu,Xu hh] w (.tuple #[Xu (sidesT S tu hh).1,Xu (sidesT S tu hh).2]):=by
 have q0:=heap_alloc_new w (Xb ps tu);have B0:=(ab w.heap.size w).alloc Ih (Xb ps tu);have hg:=oQ (h.below B0) hi hh hl;unfold sidesT;obtain⟨⟨⟨k0,k1,k2,k3,k4,k5⟩,er⟩,hE⟩:∃r,getNode S hh=r:=⟨_,rfl⟩;rw[hE] at hg⊢;unfold eS at hg;simp only at hg⊢;unfold eq;have ad:=fun(W:World) (hW:W.heap[w.heap.size]?=some (.cells #[PV ps,.bool tu] 284 (0,0)))=>DX hW k2 k3;have ai:∀(args:Array Value) (w:World),(callFunc 242 args).run prog w=.ok (.enter 242 args) w:=fun args w=>by go_simp
 have HG:=kq4 hg ad q0 B0;clear hg ad h hi hE q0 B0;go_enter func222,ntmps222;go_wp2_with fail;refine wx HG.a fun w1 hb1=>?_;have q1:=(hb1.block w.heap.size (by simp)).trans HG.c;have B1:=HG.d.trans (hb1.mono (by simp));have r2:=(((ab w1.heap.size w1).alloc Ih (Xd k0 k1 k2 k3 k4 k5)).block w.heap.size (gl q1)).trans q1;have B2:=B1.alloc B1.size (Xd k0 k1 k2 k3 k4 k5);have H2:=kq2 r2 B2;clear hb1 q1 B1 r2 B2;go_wp2_with fail;refine Jc (HG.b _ H2.a) ?_
 cases tu
 all_goals
  simp only[if_true,if_false,cU];go_wp2_with fail;go_ret2;exact⟨rfl,H2.b⟩
theorem qMaad{P:Prop}(h:P:=by
 have HG:=kq2 hq (Fo.of_below B0 h.yl);clear hq B0 h hi hp;go_enter func223,ntmps223;go_wp2_with fail;refine HG.a.mono ?_;rintro e w1 ⟨rfl,h1,k1⟩;have H1:=kq2 h1 (HG.b.trans k1);clear h1 k1;go_wp2_with fail;go_ret;exact⟨rfl,H1.out⟩):P:=h
theorem jW{S S':St}(h:Ig w ps S Y)(hi:Fv S)(tu:Bool)(hh a b:Nat)(c:Bool)(hl:hh<2^64)(hal:a<2^64)(hbl:b<2^64)(hp:putJ S tu hh a b c=some S'):
 Ct 223 #[eq ps tu,Xu hh,Xu a,Xu b,.bool c] w fun e w'=>e=.returned (Xu hh)/\Ig w' ps S' Y/\Fo Y w w':=by
 have B0:=(ab w.heap.size w).alloc Ih (Xb ps tu);unfold putJ at hp;unfold eq
 cases tu with
 | false=>
  have hq:=nh (h.below B0) hi hh a b c hl hal hbl (by simpa using hp);exact qMaad
 | true=>
  have hq:=nh (h.below B0) hi hh b a c hl hbl hal (by simpa using hp);exact qMaad
theorem DQ(h:Ig w ps S Y)(hi:Fv S):
 Cb 235 #[PV ps,Xu 0] w (Xi 0):=by
 have hc:=xS h hi;have hl:=fun W (hW:Below w.heap.size w W)=>sY (h.below hW);have HG:=kq2 hc hl;clear hc hl h hi;go_enter func235,ntmps235;go_wp2_with fail;refine wx HG.a fun w1 hb1=>?_;have H1:=If hb1;clear hb1;go_wp2_with fail;refine wx (HG.b _ H1.out) fun w2 hb2=>?_;have H2:=If (H1.out.trans (hb2.mono H1.out.size));clear hb2;go_wp2_with fail
 go_loopw [7,8,9,10,21] (fun _ _ _ _ k wr=>k=Xi 0/\wr=w2) (fun _ _ _ _ _ _=>0)
 case atStart=>exact⟨rfl,rfl⟩
 case round=>
  obtain⟨rfl,rfl⟩:=hrel;go_wp2_with fail;go_ret;exact⟨rfl,H2.out⟩
theorem Aj:nI 235 where
 enter args w:=by go_simp
 call h hi:=DQ h hi
theorem E3:j6 2 142 235:=by
 intro W;simp only[eL];go_enter func208,ntmps208;go_wp2_with fail;exact bodyPost_ret (v:=.tuple #[.agg #[.func (.func 142) #[] #[],.func (.func 235) #[] #[]],.bool true]) (by simp[results,f208,go_sem]) rfl ⟨rfl,(ab _ _).alloc Ih _⟩
theorem gW(h:Ig w ps S Y)(tu:Bool)(hh:Nat):(sidesT S tu hh).1<2^64/\(sidesT S tu hh).2<2^64:=by
 have:=fs h hh;unfold sidesT
 split
 ·exact⟨this.right,this.left⟩
 ·exact⟨this.left,this.right⟩
theorem qMaag{P:Prop}(h:P:=by
 go_wp2_with fail;clear c0 c1;go_ret;exact⟨rfl,H2.a.mono (fun k hk=>aa hk),H2.c⟩):P:=h
theorem DU{S S':St}(h:Ig w ps S Y)(hi:Fv S)(tu:Bool)(m t low:Nat)(hm:m<2^64)(ht:t<2^64)(hw:low<2^64)(d:Nat)(hd:d<=200)(h200:d=200)(hp:putJ S tu m t low true=some S'):
 Ct 221 #[eq ps tu,Xu t,Xu m,Xu low,Xi d] w fun e w'=>e=.returned (Xu m)/\Ig w' ps S' Y/\Fo Y w w':=by
 unfold eq;have cp:=fun W (hW:Ig W ps S (fun k=>Y k\/(w.heap.size<=k/\k<w.heap.size+1)))=>jW hW hi tu m t low true hm ht hw hp;subst h200;unfold eq at cp;have q0:=heap_alloc_new w (Xb ps tu);have B0:=(ab w.heap.size w).alloc Ih (Xb ps tu);have al:(w.alloc (Xb ps tu)).heap.size=w.heap.size+1:=by simp
 have z0:=h.wide B0;rw[al] at z0;have k0:Fo Y w (w.alloc (Xb ps tu)):=Fo.of_below B0 h.yl;have au:w.heap.size<(w.alloc (Xb ps tu)).heap.size:=by omega
 have HG:=If cp;clear cp hp hi au al hd;have H0:=kq3 z0 q0 k0;clear z0 q0 k0 B0 h;go_enter func221,ntmps221;go_wp2_with fail;have an:w.heap.size<(w.alloc (Xb ps tu)).heap.size:=by simp
 have ar:∀x:Fq (Below (w.alloc (Xb ps tu)).heap.size (w.alloc (Xb ps tu))),x.to.cell? ⟨w.heap.size,0,none⟩=some (PV ps):=fun x=>by rw[cell_of_block ((x.ok.block _ an).trans H0.b)];rfl
 generalize a0:w.alloc (Xb ps tu)=W0 at*;refine iq (Below W0.heap.size W0) (by kernel_rfl) (by kernel_rfl) (ab _ _).drew (fun _=>?_)
 repeat (first | go_big_quiet_skip | (go_big_quiet_want;go_big_quiet_op;go_big_quiet_on))
 refine wpQuiet_nil ?_;rintro _ ⟨v,rfl⟩;have rr:=(v.ok.block w.heap.size an).trans H0.b;have hs:=H0.a.below v.ok;have hk:=H0.c.trans ((H0.a.keep v.ok).mono (fun k hk=>aa hk));obtain⟨w1,ai⟩:=Ii v.to;rw[ai] at rr hs hk⊢;clear ai v ar;obtain⟨c0,c1⟩:=Fp rr;have H1:=kq3 hs rr hk;clear rr hs hk;go_wp2_with fail;clear c0 c1;refine(HG.out _ H1.a).mono ?_;rintro e w2 ⟨rfl,hs,ad⟩;have rr:=(ad.block w.heap.size (ae ⟨Nat.le_refl _,aG _⟩)).trans H1.b;have hk:=H1.c.trans (ad.mono (fun k hk=>aa hk));obtain⟨c0,c1⟩:=Fp rr;have H2:=kq3 hs rr hk;clear ad rr hs hk;exact qMaag
theorem DW{S S':St}(h:Ig w ps S Y)(hi:Fv S)(tu:Bool)(m t low:Nat)(hm:m<2^64)(ht:t<2^64)(hw:low<2^64)(d:Nat)(_:d<=200)(h200:d≠200)(hr:redT S t=false)(hb:blackT S t=blackT S low)(hp:putJ S tu m t low true=some S'):
 Ct 221 #[eq ps tu,Xu t,Xu m,Xu low,Xi d] w fun e w'=>e=.returned (Xu m)/\Ig w' ps S' Y/\Fo Y w w':=by
 unfold eq;have cp:=fun W (hW:Ig W ps S (fun k=>Y k\/(w.heap.size<=k/\k<w.heap.size+1)))=>jW hW hi tu m t low true hm ht hw hp;have al:=fun W (hW:Ig W ps S (fun k=>Y k\/(w.heap.size<=k/\k<w.heap.size+1)))=>gq hW hi t ht;have ad:=fun W (hW:Ig W ps S (fun k=>Y k\/(w.heap.size<=k/\k<w.heap.size+1)))=>gy hW hi t ht;have a0:=fun W (hW:Ig W ps S (fun k=>Y k\/(w.heap.size<=k/\k<w.heap.size+1)))=>gy hW hi low hw;rw[hr] at al;rw[hb] at ad;generalize blackT S low=bk at*;have hq:((d:Int)==200)=false:=by simp;omega
 unfold eq at cp;have q0:=heap_alloc_new w (Xb ps tu);have B0:=(ab w.heap.size w).alloc Ih (Xb ps tu);have a2:(w.alloc (Xb ps tu)).heap.size=w.heap.size+1:=by simp
 have z0:=h.wide B0;rw[a2] at z0;have k0:Fo Y w (w.alloc (Xb ps tu)):=Fo.of_below B0 h.yl;have a5:w.heap.size<(w.alloc (Xb ps tu)).heap.size:=by omega
 have HG:=kq4 cp al ad a0;clear cp al ad a0 hp hi a5 a2 hr hb h200;have H0:=kq3 z0 q0 k0;clear z0 q0 k0 B0 h;go_enter func221,ntmps221;go_wp2_with fail;have a3:w.heap.size<(w.alloc (Xb ps tu)).heap.size:=by simp
 have a4:∀x:Fq (Below (w.alloc (Xb ps tu)).heap.size (w.alloc (Xb ps tu))),x.to.cell? ⟨w.heap.size,0,none⟩=some (PV ps):=fun x=>by rw[cell_of_block ((x.ok.block _ a3).trans H0.b)];rfl
 have au:=fun x:Fq (Below (w.alloc (Xb ps tu)).heap.size (w.alloc (Xb ps tu)))=>Calls.keeps_below (HG.b x.to (H0.a.below x.ok));have ar:=fun x:Fq (Below (w.alloc (Xb ps tu)).heap.size (w.alloc (Xb ps tu)))=>Calls.keeps_below (HG.c x.to (H0.a.below x.ok));have an:=fun x:Fq (Below (w.alloc (Xb ps tu)).heap.size (w.alloc (Xb ps tu)))=>Calls.keeps_below (HG.d x.to (H0.a.below x.ok));generalize a6:w.alloc (Xb ps tu)=W0 at*;refine iq (Below W0.heap.size W0) (by kernel_rfl) (by kernel_rfl) (ab _ _).drew (fun _=>?_)
 repeat (first | go_big_quiet_skip | (go_big_quiet_want;go_big_quiet_op;first | go_big_quiet_on | (apply Exists.intro;refine⟨fun x=>?_,?_⟩;(· first | with_reducible exact au x | with_reducible exact ar x | with_reducible exact an x);go_big_quiet_on)))
 refine wpQuiet_nil ?_;rintro _ ⟨v,rfl⟩;have rr:=(v.ok.block w.heap.size a3).trans H0.b;have hs:=H0.a.below v.ok;have hk:=H0.c.trans ((H0.a.keep v.ok).mono (fun k hk=>aa hk));obtain⟨w1,a1⟩:=Ii v.to;rw[a1] at rr hs hk⊢;clear a1 v a4 au ar an;obtain⟨c0,c1⟩:=Fp rr;have H1:=kq3 hs rr hk;clear rr hs hk;go_wp2_with fail;clear c0 c1;refine(HG.a _ H1.a).mono ?_;rintro e w2 ⟨rfl,hs,ai⟩;have rr:=(ai.block w.heap.size (ae ⟨Nat.le_refl _,aG _⟩)).trans H1.b;have hk:=H1.c.trans (ai.mono (fun k hk=>aa hk));obtain⟨c0,c1⟩:=Fp rr;have H2:=kq3 hs rr hk;clear ai rr hs hk;exact qMaag
theorem DV(h:Ig w ps S Y)(hi:Fv S)(tu:Bool)(m t low:Nat)(_:m<2^64)(ht:t<2^64)(_:low<2^64)(d:Nat)(hd:d<=200)(h200:d≠200)(hr:redT S t=true){S1 S2:St}(hx1:x1<2^64)(hi1:Fv S1)(_:Fv S2)
 (cr:∀(W:World) (Z:Nat->Prop),Ig W ps S Z->Ct 221 #[eq ps tu,Xu (sidesT S tu t).2,Xu m,Xu low,Xi ((d:Int)+1)] W fun e w'=>e=.returned (Xu x1)/\Ig w' ps S1 Z/\Fo Z W w')
 (hp:putJ S1 tu t (sidesT S tu t).1 x1 (redT S t)=some S2):
 Ct 221 #[eq ps tu,Xu t,Xu m,Xu low,Xi d] w fun e w'=>e=.returned (Xu t)/\Ig w' ps S2 Y/\Fo Y w w':=by
 have ar:=gW h tu t;unfold eq at cr⊢;have al:=fun W (hW:Ig W ps S (fun k=>Y k\/(w.heap.size<=k/\k<w.heap.size+1)))=>gq hW hi t ht;have ai:=fun W (hW:Ig W ps S (fun k=>Y k\/(w.heap.size<=k/\k<w.heap.size+1)))=>jX hW hi tu t ht;have cp:=fun W (hW:Ig W ps S1 (fun k=>Y k\/(w.heap.size<=k/\k<w.heap.size+1)))=>jW hW hi1 tu t (sidesT S tu t).1 x1 (redT S t) ht ar.1 hx1 hp;have cr:=fun W (hW:Ig W ps S (fun k=>Y k\/(w.heap.size<=k/\k<w.heap.size+1)))=>cr W _ hW;try unfold eq at ai
 try unfold eq at cp
 rw[hr] at al cp;obtain⟨⟨a7,own⟩,au⟩:∃r,sidesT S tu t=r:=⟨_,rfl⟩;rw[au] at ai cp cr;simp only at ai cp cr;have hq:((d:Int)==200)=false:=by simp;omega
 have a6:IntKind.i64.wrap ((d:Int)+1)=(d:Int)+1:=aB _ (by omega);have q0:=heap_alloc_new w (Xb ps tu);have B0:=(ab w.heap.size w).alloc Ih (Xb ps tu);have a1:(w.alloc (Xb ps tu)).heap.size=w.heap.size+1:=by simp
 have z0:=h.wide B0;rw[a1] at z0;have k0:Fo Y w (w.alloc (Xb ps tu)):=Fo.of_below B0 h.yl;have a4:w.heap.size<(w.alloc (Xb ps tu)).heap.size:=by omega
 have HG:=kq4 al ai cp cr;clear al ai cp cr hp hi hi1 a4 a1 hr h200 au ar;have H0:=kq3 z0 q0 k0;clear z0 q0 k0 B0 h;go_enter func221,ntmps221;go_wp2_with fail;have a2:w.heap.size<(w.alloc (Xb ps tu)).heap.size:=by simp
 have a3:∀x:Fq (Below (w.alloc (Xb ps tu)).heap.size (w.alloc (Xb ps tu))),x.to.cell? ⟨w.heap.size,0,none⟩=some (PV ps):=fun x=>by rw[cell_of_block ((x.ok.block _ a2).trans H0.b)];rfl
 have an:=fun x:Fq (Below (w.alloc (Xb ps tu)).heap.size (w.alloc (Xb ps tu)))=>Calls.keeps_below (HG.a x.to (H0.a.below x.ok));generalize a5:w.alloc (Xb ps tu)=W0 at*;refine iq (Below W0.heap.size W0) (by kernel_rfl) (by kernel_rfl) (ab _ _).drew (fun _=>?_);repeat (first | go_big_quiet_skip | (go_big_quiet_want;go_big_quiet_op;first | go_big_quiet_on | (apply Exists.intro;refine⟨fun x=>?_,?_⟩;(· first | with_reducible exact an x);go_big_quiet_on)))
 refine wpQuiet_nil ?_;rintro _ ⟨v,rfl⟩;have rr:=(v.ok.block w.heap.size a2).trans H0.b;have hs:=H0.a.below v.ok;have hk:=H0.c.trans ((H0.a.keep v.ok).mono (fun k hk=>aa hk));obtain⟨w1,a0⟩:=Ii v.to;rw[a0] at rr hs hk⊢;clear a0 v a3 an;obtain⟨c0,c1⟩:=Fp rr;have H1:=kq3 hs rr hk;clear rr hs hk;go_wp2_with fail;clear c0 c1;refine wx (HG.b _ H1.a) fun w2 hb=>?_;have rr:=(hb.block w.heap.size (gl H1.b)).trans H1.b;have hs:=H1.a.below hb;have hk:=H1.c.trans ((H1.a.keep hb).mono (fun k hk=>aa hk));obtain⟨c0,c1⟩:=Fp rr;have H2:=kq3 hs rr hk;clear hb rr hs hk;go_wp2_with fail;clear c0 c1;refine wx (HG.a _ H2.a) fun w3 hb=>?_;have rr:=(hb.block w.heap.size (gl H2.b)).trans H2.b;have hs:=H2.a.below hb;have hk:=H2.c.trans ((H2.a.keep hb).mono (fun k hk=>aa hk));obtain⟨c0,c1⟩:=Fp rr;have H3:=kq3 hs rr hk;clear hb rr hs hk;go_wp2_with fail;clear c0 c1;refine(HG.d _ H3.a).mono ?_;rintro e w4 ⟨rfl,hs,ad⟩;have rr:=(ad.block w.heap.size (ae ⟨Nat.le_refl _,aG _⟩)).trans H3.b;have hk:=H3.c.trans (ad.mono (fun k hk=>aa hk));obtain⟨c0,c1⟩:=Fp rr;have H4:=kq3 hs rr hk;clear ad rr hs hk;go_wp2_with fail;clear c0 c1;refine(HG.c _ H4.a).mono ?_;rintro e w5 ⟨rfl,hs,ad⟩;have rr:=(ad.block w.heap.size (ae ⟨Nat.le_refl _,aG _⟩)).trans H4.b;have hk:=H4.c.trans (ad.mono (fun k hk=>aa hk));obtain⟨c0,c1⟩:=Fp rr;have H5:=kq3 hs rr hk;clear ad rr hs hk;go_wp2_with fail;clear c0 c1;go_ret;exact⟨rfl,H5.a.mono (fun k hk=>aa hk),H5.c⟩
theorem DR(h:Ig w ps S Y)(hi:Fv S)(tu:Bool)(m t low:Nat)(_:m<2^64)(ht:t<2^64)(hw:low<2^64)(d:Nat)(hd:d<=200)(h200:d≠200)(hr:redT S t=false)(hb:blackT S t≠blackT S low){S1 S2:St}(hx1:x1<2^64)(hi1:Fv S1)(hi2:Fv S2)
 (cr:∀(W:World) (Z:Nat->Prop),Ig W ps S Z->Ct 221 #[eq ps tu,Xu (sidesT S tu t).2,Xu m,Xu low,Xi ((d:Int)+1)] W fun e w'=>e=.returned (Xu x1)/\Ig w' ps S1 Z/\Fo Z W w')
 (hp:putJ S1 tu t (sidesT S tu t).1 x1 (redT S t)=some S2) (hf:redT S2 x1=false):
 Ct 221 #[eq ps tu,Xu t,Xu m,Xu low,Xi d] w fun e w'=>e=.returned (Xu t)/\Ig w' ps S2 Y/\Fo Y w w':=by
 have a3:=gW h tu t;unfold eq at cr⊢;have al:=fun W (hW:Ig W ps S (fun k=>Y k\/(w.heap.size<=k/\k<w.heap.size+1)))=>gq hW hi t ht;have ai:=fun W (hW:Ig W ps S (fun k=>Y k\/(w.heap.size<=k/\k<w.heap.size+1)))=>jX hW hi tu t ht;have cp:=fun W (hW:Ig W ps S1 (fun k=>Y k\/(w.heap.size<=k/\k<w.heap.size+1)))=>jW hW hi1 tu t (sidesT S tu t).1 x1 (redT S t) ht a3.1 hx1 hp;have a2:=fun W (hW:Ig W ps S (fun k=>Y k\/(w.heap.size<=k/\k<w.heap.size+1)))=>gy hW hi t ht;have a1:=fun W (hW:Ig W ps S (fun k=>Y k\/(w.heap.size<=k/\k<w.heap.size+1)))=>gy hW hi low hw;have an:=fun W (hW:Ig W ps S2 (fun k=>Y k\/(w.heap.size<=k/\k<w.heap.size+1)))=>gq hW hi2 x1 hx1;have cr:=fun W (hW:Ig W ps S (fun k=>Y k\/(w.heap.size<=k/\k<w.heap.size+1)))=>cr W _ hW;try unfold eq at ai
 try unfold eq at cp
 rw[hr] at al cp;rw[hf] at an;have bb:(((blackT S t:Nat):Int)==(blackT S low:Nat))=false:=by simp;omega
 generalize blackT S t=bk1 at*;generalize blackT S low=bk2 at*;obtain⟨⟨bc,own⟩,a4⟩:∃r,sidesT S tu t=r:=⟨_,rfl⟩;rw[a4] at ai cp cr;simp only at ai cp cr;have hq:((d:Int)==200)=false:=by simp;omega
 have ba:IntKind.i64.wrap ((d:Int)+1)=(d:Int)+1:=aB _ (by omega);have q0:=heap_alloc_new w (Xb ps tu);have B0:=(ab w.heap.size w).alloc Ih (Xb ps tu);have a6:(w.alloc (Xb ps tu)).heap.size=w.heap.size+1:=by simp
 have z0:=h.wide B0;rw[a6] at z0;have k0:Fo Y w (w.alloc (Xb ps tu)):=Fo.of_below B0 h.yl;have a9:w.heap.size<(w.alloc (Xb ps tu)).heap.size:=by omega
 have HG:=kq7 al ai cp a2 a1 an cr;clear al ai cp a2 a1 an cr hp hi hi1 hi2 a9 a6 hr h200 a4 a3 hb hf;have H0:=kq3 z0 q0 k0;clear z0 q0 k0 B0 h;go_enter func221,ntmps221;go_wp2_with fail;have a7:w.heap.size<(w.alloc (Xb ps tu)).heap.size:=by simp
 have a8:∀x:Fq (Below (w.alloc (Xb ps tu)).heap.size (w.alloc (Xb ps tu))),x.to.cell? ⟨w.heap.size,0,none⟩=some (PV ps):=fun x=>by rw[cell_of_block ((x.ok.block _ a7).trans H0.b)];rfl
 have a0:=fun x:Fq (Below (w.alloc (Xb ps tu)).heap.size (w.alloc (Xb ps tu)))=>Calls.keeps_below (HG.a x.to (H0.a.below x.ok));have au:=fun x:Fq (Below (w.alloc (Xb ps tu)).heap.size (w.alloc (Xb ps tu)))=>Calls.keeps_below (HG.d x.to (H0.a.below x.ok));have ar:=fun x:Fq (Below (w.alloc (Xb ps tu)).heap.size (w.alloc (Xb ps tu)))=>Calls.keeps_below (HG.e x.to (H0.a.below x.ok));generalize a':w.alloc (Xb ps tu)=W0 at*;refine iq (Below W0.heap.size W0) (by kernel_rfl) (by kernel_rfl) (ab _ _).drew (fun _=>?_);repeat (first | go_big_quiet_skip | (go_big_quiet_want;go_big_quiet_op;first | go_big_quiet_on | (apply Exists.intro;refine⟨fun x=>?_,?_⟩;(· first | with_reducible exact a0 x | with_reducible exact au x | with_reducible exact ar x);go_big_quiet_on)))
 refine wpQuiet_nil ?_;rintro _ ⟨v,rfl⟩;have rr:=(v.ok.block w.heap.size a7).trans H0.b;have hs:=H0.a.below v.ok;have hk:=H0.c.trans ((H0.a.keep v.ok).mono (fun k hk=>aa hk));obtain⟨w1,a5⟩:=Ii v.to;rw[a5] at rr hs hk⊢;clear a5 v a8 a0 au ar;obtain⟨c0,c1⟩:=Fp rr;have H1:=kq3 hs rr hk;clear rr hs hk;go_wp2_with fail;clear c0 c1;refine wx (HG.b _ H1.a) fun w2 hb=>?_;have rr:=(hb.block w.heap.size (gl H1.b)).trans H1.b;have hs:=H1.a.below hb;have hk:=H1.c.trans ((H1.a.keep hb).mono (fun k hk=>aa hk));obtain⟨c0,c1⟩:=Fp rr;have H2:=kq3 hs rr hk;clear hb rr hs hk;go_wp2_with fail;clear c0 c1;refine wx (HG.a _ H2.a) fun w3 hb=>?_;have rr:=(hb.block w.heap.size (gl H2.b)).trans H2.b;have hs:=H2.a.below hb;have hk:=H2.c.trans ((H2.a.keep hb).mono (fun k hk=>aa hk));obtain⟨c0,c1⟩:=Fp rr;have H3:=kq3 hs rr hk;clear hb rr hs hk;go_wp2_with fail;clear c0 c1;refine(HG.g _ H3.a).mono ?_;rintro e w4 ⟨rfl,hs,ad⟩;have rr:=(ad.block w.heap.size (ae ⟨Nat.le_refl _,aG _⟩)).trans H3.b;have hk:=H3.c.trans (ad.mono (fun k hk=>aa hk));obtain⟨c0,c1⟩:=Fp rr;have H4:=kq3 hs rr hk;clear ad rr hs hk;go_wp2_with fail;clear c0 c1;refine(HG.c _ H4.a).mono ?_;rintro e w5 ⟨rfl,hs,ad⟩;have rr:=(ad.block w.heap.size (ae ⟨Nat.le_refl _,aG _⟩)).trans H4.b;have hk:=H4.c.trans (ad.mono (fun k hk=>aa hk));obtain⟨c0,c1⟩:=Fp rr;have H5:=kq3 hs rr hk;clear ad rr hs hk;go_wp2_with fail;clear c0 c1;refine wx (HG.f _ H5.a) fun w6 hb=>?_;have rr:=(hb.block w.heap.size (gl H5.b)).trans H5.b;have hs:=H5.a.below hb;have hk:=H5.c.trans ((H5.a.keep hb).mono (fun k hk=>aa hk));obtain⟨c0,c1⟩:=Fp rr;have H6:=kq3 hs rr hk;clear hb rr hs hk;go_wp2_with fail;clear c0 c1;go_ret;exact⟨rfl,H6.a.mono (fun k hk=>aa hk),H6.c⟩
theorem DS(h:Ig w ps S Y)(hi:Fv S)(tu:Bool)(m t low:Nat)(_:m<2^64)(ht:t<2^64)(hw:low<2^64)(d:Nat)(hd:d<=200)(h200:d≠200)(hr:redT S t=false)(hb:blackT S t≠blackT S low){S1 S2:St}(hx1:x1<2^64)(hi1:Fv S1)(hi2:Fv S2)
 (cr:∀(W:World) (Z:Nat->Prop),Ig W ps S Z->Ct 221 #[eq ps tu,Xu (sidesT S tu t).2,Xu m,Xu low,Xi ((d:Int)+1)] W fun e w'=>e=.returned (Xu x1)/\Ig w' ps S1 Z/\Fo Z W w')
 (hp:putJ S1 tu t (sidesT S tu t).1 x1 (redT S t)=some S2) (hf:redT S2 x1=true) (hg:redT S2 (sidesT S2 tu x1).2=false):
 Ct 221 #[eq ps tu,Xu t,Xu m,Xu low,Xi d] w fun e w'=>e=.returned (Xu t)/\Ig w' ps S2 Y/\Fo Y w w':=by
 have a5:=gW h tu t;unfold eq at cr⊢;have ar:=fun W (hW:Ig W ps S (fun k=>Y k\/(w.heap.size<=k/\k<w.heap.size+1)))=>gq hW hi t ht;have al:=fun W (hW:Ig W ps S (fun k=>Y k\/(w.heap.size<=k/\k<w.heap.size+1)))=>jX hW hi tu t ht;have cp:=fun W (hW:Ig W ps S1 (fun k=>Y k\/(w.heap.size<=k/\k<w.heap.size+1)))=>jW hW hi1 tu t (sidesT S tu t).1 x1 (redT S t) ht a5.1 hx1 hp;have a4:=fun W (hW:Ig W ps S (fun k=>Y k\/(w.heap.size<=k/\k<w.heap.size+1)))=>gy hW hi t ht;have a3:=fun W (hW:Ig W ps S (fun k=>Y k\/(w.heap.size<=k/\k<w.heap.size+1)))=>gy hW hi low hw;have au:=fun W (hW:Ig W ps S2 (fun k=>Y k\/(w.heap.size<=k/\k<w.heap.size+1)))=>gq hW hi2 x1 hx1;have an:=fun W (hW:Ig W ps S2 (fun k=>Y k\/(w.heap.size<=k/\k<w.heap.size+1)))=>jX hW hi2 tu x1 hx1;have ai:=fun W (hW:Ig W ps S2 (fun k=>Y k\/(w.heap.size<=k/\k<w.heap.size+1)))=>gq hW hi2 (sidesT S2 tu x1).2 (gW hW tu x1).2;have cr:=fun W (hW:Ig W ps S (fun k=>Y k\/(w.heap.size<=k/\k<w.heap.size+1)))=>cr W _ hW;try unfold eq at al
 try unfold eq at cp
 try unfold eq at an
 rw[hr] at ar cp;rw[hf] at au;have bf:(((blackT S t:Nat):Int)==(blackT S low:Nat))=false:=by simp;omega
 generalize blackT S t=bk1 at*;generalize blackT S low=bk2 at*;rw[hg] at ai;obtain⟨⟨bj,own⟩,a6⟩:∃r,sidesT S tu t=r:=⟨_,rfl⟩;rw[a6] at al cp cr;simp only at al cp cr;obtain⟨⟨sa,sb⟩,a7⟩:∃r,sidesT S2 tu x1=r:=⟨_,rfl⟩;rw[a7] at an ai;simp only at an ai;have hq:((d:Int)==200)=false:=by simp;omega
 have bd:IntKind.i64.wrap ((d:Int)+1)=(d:Int)+1:=aB _ (by omega);have q0:=heap_alloc_new w (Xb ps tu);have B0:=(ab w.heap.size w).alloc Ih (Xb ps tu);have a9:(w.alloc (Xb ps tu)).heap.size=w.heap.size+1:=by simp
 have z0:=h.wide B0;rw[a9] at z0;have k0:Fo Y w (w.alloc (Xb ps tu)):=Fo.of_below B0 h.yl;have bb:w.heap.size<(w.alloc (Xb ps tu)).heap.size:=by omega
 have HG:=kq9 ar al cp a4 a3 au an ai cr;clear ar al cp a4 a3 au an ai cr hp hi hi1 hi2 bb a9 hr h200 a6 a5 hb hf hg a7;have H0:=kq3 z0 q0 k0;clear z0 q0 k0 B0 h;go_enter func221,ntmps221;go_wp2_with fail;have a':w.heap.size<(w.alloc (Xb ps tu)).heap.size:=by simp
 have ba:∀x:Fq (Below (w.alloc (Xb ps tu)).heap.size (w.alloc (Xb ps tu))),x.to.cell? ⟨w.heap.size,0,none⟩=some (PV ps):=fun x=>by rw[cell_of_block ((x.ok.block _ a').trans H0.b)];rfl
 have a2:=fun x:Fq (Below (w.alloc (Xb ps tu)).heap.size (w.alloc (Xb ps tu)))=>Calls.keeps_below (HG.a x.to (H0.a.below x.ok));have a1:=fun x:Fq (Below (w.alloc (Xb ps tu)).heap.size (w.alloc (Xb ps tu)))=>Calls.keeps_below (HG.d x.to (H0.a.below x.ok));have a0:=fun x:Fq (Below (w.alloc (Xb ps tu)).heap.size (w.alloc (Xb ps tu)))=>Calls.keeps_below (HG.e x.to (H0.a.below x.ok));generalize bc:w.alloc (Xb ps tu)=W0 at*;refine iq (Below W0.heap.size W0) (by kernel_rfl) (by kernel_rfl) (ab _ _).drew (fun _=>?_);repeat (first | go_big_quiet_skip | (go_big_quiet_want;go_big_quiet_op;first | go_big_quiet_on | (apply Exists.intro;refine⟨fun x=>?_,?_⟩;(· first | with_reducible exact a2 x | with_reducible exact a1 x | with_reducible exact a0 x);go_big_quiet_on)))
 refine wpQuiet_nil ?_;rintro _ ⟨v,rfl⟩;have rr:=(v.ok.block w.heap.size a').trans H0.b;have hs:=H0.a.below v.ok;have hk:=H0.c.trans ((H0.a.keep v.ok).mono (fun k hk=>aa hk));obtain⟨w1,a8⟩:=Ii v.to;rw[a8] at rr hs hk⊢;clear a8 v ba a2 a1 a0;obtain⟨c0,c1⟩:=Fp rr;have H1:=kq3 hs rr hk;clear rr hs hk;go_wp2_with fail;clear c0 c1;refine wx (HG.b _ H1.a) fun w2 hb=>?_;have rr:=(hb.block w.heap.size (gl H1.b)).trans H1.b;have hs:=H1.a.below hb;have hk:=H1.c.trans ((H1.a.keep hb).mono (fun k hk=>aa hk));obtain⟨c0,c1⟩:=Fp rr;have H2:=kq3 hs rr hk;clear hb rr hs hk;go_wp2_with fail;clear c0 c1;refine wx (HG.a _ H2.a) fun w3 hb=>?_;have rr:=(hb.block w.heap.size (gl H2.b)).trans H2.b;have hs:=H2.a.below hb;have hk:=H2.c.trans ((H2.a.keep hb).mono (fun k hk=>aa hk));obtain⟨c0,c1⟩:=Fp rr;have H3:=kq3 hs rr hk;clear hb rr hs hk;go_wp2_with fail;clear c0 c1;refine(HG.i _ H3.a).mono ?_;rintro e w4 ⟨rfl,hs,ad⟩;have rr:=(ad.block w.heap.size (ae ⟨Nat.le_refl _,aG _⟩)).trans H3.b;have hk:=H3.c.trans (ad.mono (fun k hk=>aa hk));obtain⟨c0,c1⟩:=Fp rr;have H4:=kq3 hs rr hk;clear ad rr hs hk;go_wp2_with fail;clear c0 c1;refine(HG.c _ H4.a).mono ?_;rintro e w5 ⟨rfl,hs,ad⟩;have rr:=(ad.block w.heap.size (ae ⟨Nat.le_refl _,aG _⟩)).trans H4.b;have hk:=H4.c.trans (ad.mono (fun k hk=>aa hk));obtain⟨c0,c1⟩:=Fp rr;have H5:=kq3 hs rr hk;clear ad rr hs hk;go_wp2_with fail;clear c0 c1;refine wx (HG.f _ H5.a) fun w6 hb=>?_;have rr:=(hb.block w.heap.size (gl H5.b)).trans H5.b;have hs:=H5.a.below hb;have hk:=H5.c.trans ((H5.a.keep hb).mono (fun k hk=>aa hk));obtain⟨c0,c1⟩:=Fp rr;have H6:=kq3 hs rr hk;clear hb rr hs hk;go_wp2_with fail;clear c0 c1;refine wx (HG.g _ H6.a) fun w7 hb=>?_;have rr:=(hb.block w.heap.size (gl H6.b)).trans H6.b;have hs:=H6.a.below hb;have hk:=H6.c.trans ((H6.a.keep hb).mono (fun k hk=>aa hk));obtain⟨c0,c1⟩:=Fp rr;have H7:=kq3 hs rr hk;clear hb rr hs hk;go_wp2_with fail;clear c0 c1;refine wx (HG.h _ H7.a) fun w8 hb=>?_;have rr:=(hb.block w.heap.size (gl H7.b)).trans H7.b;have hs:=H7.a.below hb;have hk:=H7.c.trans ((H7.a.keep hb).mono (fun k hk=>aa hk));obtain⟨c0,c1⟩:=Fp rr;have H8:=kq3 hs rr hk;clear hb rr hs hk;go_wp2_with fail;clear c0 c1;go_ret;exact⟨rfl,H8.a.mono (fun k hk=>aa hk),H8.c⟩
theorem DT(h:Ig w ps S Y)(hi:Fv S)(tu:Bool)(m t low:Nat)(_:m<2^64)(ht:t<2^64)(hw:low<2^64)(d:Nat)(hd:d<=200)(h200:d≠200)(hr:redT S t=false)(hb:blackT S t≠blackT S low){S1 S2:St}(hx1:x1<2^64)(hi1:Fv S1)(hi2:Fv S2)
 (cr:∀(W:World) (Z:Nat->Prop),Ig W ps S Z->Ct 221 #[eq ps tu,Xu (sidesT S tu t).2,Xu m,Xu low,Xi ((d:Int)+1)] W fun e w'=>e=.returned (Xu x1)/\Ig w' ps S1 Z/\Fo Z W w')
 (hp:putJ S1 tu t (sidesT S tu t).1 x1 (redT S t)=some S2) (hf:redT S2 x1=true) (hg:redT S2 (sidesT S2 tu x1).2=true) {S3 S4 S5:St} (hp3:putJ S2 tu (sidesT S2 tu x1).2 (sidesT S2 tu (sidesT S2 tu x1).2).1 (sidesT S2 tu (sidesT S2 tu x1).2).2 false=some S3)
 (hp4:putJ S3 tu t (sidesT S tu t).1 (sidesT S2 tu x1).1 false=some S4) (hp5:putJ S4 tu x1 t (sidesT S2 tu x1).2 true=some S5):
 Ct 221 #[eq ps tu,Xu t,Xu m,Xu low,Xi d] w fun e w'=>e=.returned (Xu x1)/\Ig w' ps S5 Y/\Fo Y w w':=by
 have a7:=gW h tu t;unfold eq at cr⊢;have a4:=jV hi2 hp3;have bd:=jV a4 hp4;have a5:=fun W (hW:Ig W ps S (fun k=>Y k\/(w.heap.size<=k/\k<w.heap.size+1)))=>gq hW hi t ht;have a0:=fun W (hW:Ig W ps S (fun k=>Y k\/(w.heap.size<=k/\k<w.heap.size+1)))=>jX hW hi tu t ht;have cp:=fun W (hW:Ig W ps S1 (fun k=>Y k\/(w.heap.size<=k/\k<w.heap.size+1)))=>jW hW hi1 tu t (sidesT S tu t).1 x1 (redT S t) ht a7.1 hx1 hp;have bc:=fun W (hW:Ig W ps S (fun k=>Y k\/(w.heap.size<=k/\k<w.heap.size+1)))=>gy hW hi t ht;have bb:=fun W (hW:Ig W ps S (fun k=>Y k\/(w.heap.size<=k/\k<w.heap.size+1)))=>gy hW hi low hw;have a6:=fun W (hW:Ig W ps S2 (fun k=>Y k\/(w.heap.size<=k/\k<w.heap.size+1)))=>gq hW hi2 x1 hx1;have a1:=fun W (hW:Ig W ps S2 (fun k=>Y k\/(w.heap.size<=k/\k<w.heap.size+1)))=>jX hW hi2 tu x1 hx1;have au:=fun W (hW:Ig W ps S2 (fun k=>Y k\/(w.heap.size<=k/\k<w.heap.size+1)))=>gq hW hi2 (sidesT S2 tu x1).2 (gW hW tu x1).2;have an:=fun W (hW:Ig W ps S2 (fun k=>Y k\/(w.heap.size<=k/\k<w.heap.size+1)))=>jX hW hi2 tu (sidesT S2 tu x1).2 (gW hW tu x1).2;have ai:=fun W (hW:Ig W ps S2 (fun k=>Y k\/(w.heap.size<=k/\k<w.heap.size+1)))=>And.intro (gW hW tu x1) (jW hW hi2 tu (sidesT S2 tu x1).2 (sidesT S2 tu (sidesT S2 tu x1).2).1 (sidesT S2 tu (sidesT S2 tu x1).2).2 false (gW hW tu x1).2 (gW hW tu _).1 (gW hW tu _).2 hp3);have al:=fun W (hW:Ig W ps S3 (fun k=>Y k\/(w.heap.size<=k/\k<w.heap.size+1)))=>fun(q:(sidesT S2 tu x1).1<2^64)=>jW hW a4 tu t (sidesT S tu t).1 (sidesT S2 tu x1).1 false ht a7.1 q hp4;have ar:=fun W (hW:Ig W ps S4 (fun k=>Y k\/(w.heap.size<=k/\k<w.heap.size+1)))=>fun(q:(sidesT S2 tu x1).2<2^64)=>jW hW bd tu x1 t (sidesT S2 tu x1).2 true hx1 ht q hp5;have cr:=fun W (hW:Ig W ps S (fun k=>Y k\/(w.heap.size<=k/\k<w.heap.size+1)))=>cr W _ hW;try unfold eq at a0
 try unfold eq at cp
 try unfold eq at a1
 try unfold eq at an
 try unfold eq at ai
 try unfold eq at al
 try unfold eq at ar
 rw[hr] at a5 cp;rw[hf] at a6;have b1:(((blackT S t:Nat):Int)==(blackT S low:Nat))=false:=by simp;omega
 generalize blackT S t=bk1 at*;generalize blackT S low=bk2 at*;rw[hg] at au;obtain⟨⟨b2,own⟩,bf⟩:∃r,sidesT S tu t=r:=⟨_,rfl⟩;rw[bf] at a0 cp cr al;simp only at a0 cp cr al;obtain⟨⟨sa,sb⟩,bj⟩:∃r,sidesT S2 tu x1=r:=⟨_,rfl⟩;rw[bj] at a1 au an ai al ar;simp only at a1 au an ai al ar;obtain⟨⟨sc,sd⟩,bk⟩:∃r,sidesT S2 tu sb=r:=⟨_,rfl⟩;rw[bk] at an ai;simp only at an ai;have hq:((d:Int)==200)=false:=by simp;omega
 have b0:IntKind.i64.wrap ((d:Int)+1)=(d:Int)+1:=aB _ (by omega);have q0:=heap_alloc_new w (Xb ps tu);have B0:=(ab w.heap.size w).alloc Ih (Xb ps tu);have bo:(w.alloc (Xb ps tu)).heap.size=w.heap.size+1:=by simp
 have z0:=h.wide B0;rw[bo] at z0;have k0:Fo Y w (w.alloc (Xb ps tu)):=Fo.of_below B0 h.yl;have bu:w.heap.size<(w.alloc (Xb ps tu)).heap.size:=by omega
 have HG:=kq13 a5 a0 cp bc bb a6 a1 au an ai al ar cr;clear a5 a0 cp bc bb a6 a1 au an ai al ar cr hp hi hi1 hi2 bu bo hr h200 bf a7 hb hf hg bj bk hp3 hp4 hp5 a4 bd;have H0:=kq3 z0 q0 k0;clear z0 q0 k0 B0 h;go_enter func221,ntmps221;go_wp2_with fail;have bs:w.heap.size<(w.alloc (Xb ps tu)).heap.size:=by simp
 have bt:∀x:Fq (Below (w.alloc (Xb ps tu)).heap.size (w.alloc (Xb ps tu))),x.to.cell? ⟨w.heap.size,0,none⟩=some (PV ps):=fun x=>by rw[cell_of_block ((x.ok.block _ bs).trans H0.b)];rfl
 have ba:=fun x:Fq (Below (w.alloc (Xb ps tu)).heap.size (w.alloc (Xb ps tu)))=>Calls.keeps_below (HG.a x.to (H0.a.below x.ok));have a':=fun x:Fq (Below (w.alloc (Xb ps tu)).heap.size (w.alloc (Xb ps tu)))=>Calls.keeps_below (HG.d x.to (H0.a.below x.ok));have a9:=fun x:Fq (Below (w.alloc (Xb ps tu)).heap.size (w.alloc (Xb ps tu)))=>Calls.keeps_below (HG.e x.to (H0.a.below x.ok));generalize bv:w.alloc (Xb ps tu)=W0 at*;refine iq (Below W0.heap.size W0) (by kernel_rfl) (by kernel_rfl) (ab _ _).drew (fun _=>?_);repeat (first | go_big_quiet_skip | (go_big_quiet_want;go_big_quiet_op;first | go_big_quiet_on | (apply Exists.intro;refine⟨fun x=>?_,?_⟩;(· first | with_reducible exact ba x | with_reducible exact a' x | with_reducible exact a9 x);go_big_quiet_on)))
 refine wpQuiet_nil ?_;rintro _ ⟨v,rfl⟩;have rr:=(v.ok.block w.heap.size bs).trans H0.b;have hs:=H0.a.below v.ok;have hk:=H0.c.trans ((H0.a.keep v.ok).mono (fun k hk=>aa hk));obtain⟨w1,bm⟩:=Ii v.to;rw[bm] at rr hs hk⊢;clear bm v bt ba a' a9;obtain⟨c0,c1⟩:=Fp rr;have H1:=kq3 hs rr hk;clear rr hs hk;go_wp2_with fail;clear c0 c1;refine wx (HG.b _ H1.a) fun w2 hb=>?_;have rr:=(hb.block w.heap.size (gl H1.b)).trans H1.b;have hs:=H1.a.below hb;have hk:=H1.c.trans ((H1.a.keep hb).mono (fun k hk=>aa hk));obtain⟨c0,c1⟩:=Fp rr;have H2:=kq3 hs rr hk;clear hb rr hs hk;go_wp2_with fail;clear c0 c1;refine wx (HG.a _ H2.a) fun w3 hb=>?_;have rr:=(hb.block w.heap.size (gl H2.b)).trans H2.b;have hs:=H2.a.below hb;have hk:=H2.c.trans ((H2.a.keep hb).mono (fun k hk=>aa hk));obtain⟨c0,c1⟩:=Fp rr;have H3:=kq3 hs rr hk;clear hb rr hs hk;go_wp2_with fail;clear c0 c1;refine(HG.m _ H3.a).mono ?_;rintro e w4 ⟨rfl,hs,ad⟩;have rr:=(ad.block w.heap.size (ae ⟨Nat.le_refl _,aG _⟩)).trans H3.b;have hk:=H3.c.trans (ad.mono (fun k hk=>aa hk));obtain⟨c0,c1⟩:=Fp rr;have H4:=kq3 hs rr hk;clear ad rr hs hk;go_wp2_with fail;clear c0 c1;refine(HG.c _ H4.a).mono ?_;rintro e w5 ⟨rfl,hs,ad⟩;have rr:=(ad.block w.heap.size (ae ⟨Nat.le_refl _,aG _⟩)).trans H4.b;have hk:=H4.c.trans (ad.mono (fun k hk=>aa hk));obtain⟨c0,c1⟩:=Fp rr;have H5:=kq3 hs rr hk;clear ad rr hs hk;go_wp2_with fail;clear c0 c1;refine wx (HG.f _ H5.a) fun w6 hb=>?_;have rr:=(hb.block w.heap.size (gl H5.b)).trans H5.b;have hs:=H5.a.below hb;have hk:=H5.c.trans ((H5.a.keep hb).mono (fun k hk=>aa hk));obtain⟨c0,c1⟩:=Fp rr;have H6:=kq3 hs rr hk;clear hb rr hs hk;go_wp2_with fail;clear c0 c1;refine wx (HG.g _ H6.a) fun w7 hb=>?_;have rr:=(hb.block w.heap.size (gl H6.b)).trans H6.b;have hs:=H6.a.below hb;have hk:=H6.c.trans ((H6.a.keep hb).mono (fun k hk=>aa hk));obtain⟨c0,c1⟩:=Fp rr;have H7:=kq3 hs rr hk;clear hb rr hs hk;go_wp2_with fail;clear c0 c1;refine wx (HG.h _ H7.a) fun w8 hb=>?_;have rr:=(hb.block w.heap.size (gl H7.b)).trans H7.b;have hs:=H7.a.below hb;have hk:=H7.c.trans ((H7.a.keep hb).mono (fun k hk=>aa hk));obtain⟨c0,c1⟩:=Fp rr;have H8:=kq3 hs rr hk;clear hb rr hs hk;go_wp2_with fail;clear c0 c1;refine wx (HG.i _ H8.a) fun w9 hb=>?_;have rr:=(hb.block w.heap.size (gl H8.b)).trans H8.b;have hs:=H8.a.below hb;have hk:=H8.c.trans ((H8.a.keep hb).mono (fun k hk=>aa hk));obtain⟨c0,c1⟩:=Fp rr;have H9:=kq3 hs rr hk;clear hb rr hs hk;go_wp2_with fail;clear c0 c1;obtain⟨qb,q3⟩:=HG.j _ H9.a;refine q3.mono ?_;clear q3;rintro e b4 ⟨rfl,hs,ad⟩;have rr:=(ad.block w.heap.size (ae ⟨Nat.le_refl _,aG _⟩)).trans H9.b;have hk:=H9.c.trans (ad.mono (fun k hk=>aa hk));obtain⟨c0,c1⟩:=Fp rr;have a2:=kq3 hs rr hk;have HQ:=If qb;clear ad rr hs hk qb;go_wp2_with fail;clear c0 c1;refine(HG.k _ a2.a HQ.out.1).mono ?_;rintro e b9 ⟨rfl,hs,ad⟩;have rr:=(ad.block w.heap.size (ae ⟨Nat.le_refl _,aG _⟩)).trans a2.b;have hk:=a2.c.trans (ad.mono (fun k hk=>aa hk));obtain⟨c0,c1⟩:=Fp rr;have a3:=kq3 hs rr hk;clear ad rr hs hk;go_wp2_with fail;clear c0 c1;refine(HG.l _ a3.a HQ.out.2).mono ?_;rintro e b' ⟨rfl,hs,ad⟩;have rr:=(ad.block w.heap.size (ae ⟨Nat.le_refl _,aG _⟩)).trans a3.b;have hk:=a3.c.trans (ad.mono (fun k hk=>aa hk));obtain⟨c0,c1⟩:=Fp rr;have a8:=kq3 hs rr hk;clear ad rr hs hk;go_wp2_with fail;clear c0 c1;go_ret;exact⟨rfl,a8.a.mono (fun k hk=>aa hk),a8.c⟩
theorem AW{tu:Bool}{S S':St}{t other x y:Nat}{is:Bool}(h:fixR tu S t other x is=some (y,S')):
 (is=true/\y=t/\S'=S)\/(is=false/\redT S x=false/\y=t/\S'=S)\/(is=false/\redT S x=true/\redT S (sidesT S tu x).2=false/\y=t/\S'=S)\/
 (is=false/\redT S x=true/\redT S (sidesT S tu x).2=true/\y=x/\∃S3 S4,putJ S tu (sidesT S tu x).2 (sidesT S tu (sidesT S tu x).2).1 (sidesT S tu (sidesT S tu x).2).2 false=some S3/\putJ S3 tu t other (sidesT S tu x).1 false=some S4/\putJ S4 tu x t (sidesT S tu x).2 true=some S'):=by
 unfold fixR at h;cases is with
 | true=>
  rw[if_pos (aa rfl)] at h;injection h with h
  injection h with e1 e2
  exact aa ⟨rfl,e1.symm,e2.symm⟩
 | false=>
  split at h
  ·rename_i hc;injection h with h
   injection h with e1 e2
   rcases hc with hc | hc
   ·cases hc
   ·exact ae (aa ⟨rfl,hc,e1.symm,e2.symm⟩)
  ·rename_i hc;have hx:redT S x=true:=by simpa using hc
   split at h
   ·rename_i hb;injection h with h
    injection h with e1 e2
    exact ae (ae (aa ⟨rfl,hx,hb,e1.symm,e2.symm⟩))
   ·rename_i hb;have hb:redT S (sidesT S tu x).2=true:=by simpa using hb
    split at h
    ·cases h
    ·rename_i S3 h3;split at h
     ·cases h
     ·rename_i S4 h4;obtain⟨S5,h5,h6⟩:=aC.1 h;injection h6 with e1 e2
      subst e1 e2;exact ae (ae (ae ⟨rfl,hx,hb,rfl,S3,S4,h3,h4,h5⟩))
theorem rX(tu:Bool)(m:Nat)(hm:m<2^64):∀(f d:Nat),d+f=200->∀{w:World} {S S':St} {Y:Nat->Prop} {t low x:Nat},Ig w ps S Y->Fv S->t<2^64->low<2^64->
 joinR tu m f S t low=some (x,S')->
 Ct 221 #[eq ps tu,Xu t,Xu m,Xu low,Xi d] w fun e w'=>e=.returned (Xu x)/\Ig w' ps S' Y/\Fo Y w w':=by
 intro f;induction f with
 | zero=>
  intro d hd w S S' Y t low x h hi ht hw hj;rw[rf] at hj;obtain⟨S1,h1,h2⟩:=aC.1 hj;injection h2 with e1 e2
  subst e1 e2;exact DU h hi tu m t low hm ht hw d (by omega) (by omega) h1
 | succ f ih=>
  intro d hd w S S' Y t low x h hi ht hw hj;rw[re] at hj;split at hj
  ·rename_i hc;obtain⟨S1,h1,h2⟩:=aC.1 hj;injection h2 with e1 e2
   subst e1 e2;exact DW h hi tu m t low hm ht hw d (by omega) (by omega) hc.1 hc.2 h1
  ·rename_i hc;split at hj
   ·cases hj
   rename_i x1 S1 hj1;split at hj
   ·cases hj
   rename_i S2 hp;obtain⟨hj,-⟩:=lM hj;obtain⟨ai,ad⟩:=lU tu f hi hj1;have ad:=ad hm;have al:=jV ai hp;have cr:=fun(W:World) (Z:Nat->Prop) (hW:Ig W ps S Z)=>ih (d+1) (by omega) hW hi (gW h tu t).2 hw hj1;rcases AW hj with⟨c1,rfl,rfl⟩ | ⟨c1,c2,rfl,rfl⟩ | ⟨c1,c2,c3,rfl,rfl⟩ | ⟨c1,c2,c3,rfl,S3,S4,h3,h4,h5⟩
   ·exact DV h hi tu m _ low hm ht hw d (by omega) (by omega) c1 ad ai al cr hp
   ·exact DR h hi tu m _ low hm ht hw d (by omega) (by omega) c1 (fun e=>hc ⟨c1,e⟩) ad ai al cr hp c2
   ·exact DS h hi tu m _ low hm ht hw d (by omega) (by omega) c1 (fun e=>hc ⟨c1,e⟩) ad ai al cr hp c2 c3
   ·exact DT h hi tu m t low hm ht hw d (by omega) (by omega) c1 (fun e=>hc ⟨c1,e⟩) ad ai al cr hp c2 c3 h3 h4 h5
theorem Ia{S S1:St}(h:Ig w ps S Y)(hi:Fv S)(tu:Bool)(t m low:Nat)(hm:m<2^64)(ht:t<2^64)(hw:low<2^64)(hj:joinR tu m 200 S t low=some (x,S1))(c1:redT S1 x=true)(c2:redT S1 (sidesT S1 tu x).2=true){S2:St}(hp:putJ S1 tu x (sidesT S1 tu x).1 (sidesT S1 tu x).2 false=some S2):
 Ct 189 #[eq ps tu,Xu t,Xu m,Xu low] w fun e w'=>e=.returned (Xu x)/\Ig w' ps S2 Y/\Fo Y w w':=by
 obtain⟨ai,hx⟩:=lU tu 200 hi hj;have hx:=hx hm;have cj:=fun W (hW:Ig W ps S (fun k=>Y k\/(w.heap.size<=k/\k<w.heap.size+1)))=>rX tu m hm 200 0 rfl hW hi ht hw hj;have an:=fun W (hW:Ig W ps S1 (fun k=>Y k\/(w.heap.size<=k/\k<w.heap.size+1)))=>jX hW ai tu x hx;have ar:=fun W (hW:Ig W ps S1 (fun k=>Y k\/(w.heap.size<=k/\k<w.heap.size+1)))=>gq hW ai x hx;have al:=fun W (hW:Ig W ps S1 (fun k=>Y k\/(w.heap.size<=k/\k<w.heap.size+1)))=>gq hW ai (sidesT S1 tu x).2 (gW hW tu x).2;have cp:=fun W (hW:Ig W ps S1 (fun k=>Y k\/(w.heap.size<=k/\k<w.heap.size+1)))=>jW hW ai tu x (sidesT S1 tu x).1 (sidesT S1 tu x).2 false hx (gW hW tu x).1 (gW hW tu x).2 hp;rw[c1] at ar;rw[c2] at al;unfold eq at cj;unfold eq at an;unfold eq at cp;unfold eq;obtain⟨⟨sa,sb⟩,au⟩:∃r,sidesT S1 tu x=r:=⟨_,rfl⟩;rw[au] at an al cp;simp only at an al cp;have q0:=heap_alloc_new w (Xb ps tu);have B0:=(ab w.heap.size w).alloc Ih (Xb ps tu);have a0:(w.alloc (Xb ps tu)).heap.size=w.heap.size+1:=by simp
 have z0:=h.wide B0;rw[a0] at z0;have k0:Fo Y w (w.alloc (Xb ps tu)):=Fo.of_below B0 h.yl;have a1:w.heap.size<(w.alloc (Xb ps tu)).heap.size:=by omega
 have HG:=kq5 cj an ar al cp;clear cj an ar al cp hi ai a1 a0 au hj c1 c2 hp;have c0:(w.alloc (Xb ps tu)).cell? ⟨w.heap.size,0,none⟩=some (PV ps):=by rw[cell_of_block q0];rfl
 have c1:(w.alloc (Xb ps tu)).cell? ⟨w.heap.size,1,none⟩=some (.bool tu):=by rw[cell_of_block q0];rfl
 have H0:=kq3 z0 q0 k0;clear z0 q0 k0 B0 h;go_enter func189,ntmps189;go_wp2_with fail;clear c0 c1;refine(HG.a _ H0.a).mono ?_;rintro e w1 ⟨rfl,hs,ad⟩;have rr:=(ad.block w.heap.size (ae ⟨Nat.le_refl _,aG _⟩)).trans H0.b;have hk:=H0.c.trans (ad.mono (fun k hk=>aa hk));obtain⟨c0,c1⟩:=Fp rr;have H1:=kq3 hs rr hk;clear ad rr hs hk;go_wp2_with fail;clear c0 c1;refine wx (HG.b _ H1.a) fun w2 hb=>?_;have rr:=(hb.block w.heap.size (gl H1.b)).trans H1.b;have hs:=H1.a.below hb;have hk:=H1.c.trans ((H1.a.keep hb).mono (fun k hk=>aa hk));obtain⟨c0,c1⟩:=Fp rr;have H2:=kq3 hs rr hk;clear hb rr hs hk;go_wp2_with fail;clear c0 c1;refine wx (HG.c _ H2.a) fun w3 hb=>?_;have rr:=(hb.block w.heap.size (gl H2.b)).trans H2.b;have hs:=H2.a.below hb;have hk:=H2.c.trans ((H2.a.keep hb).mono (fun k hk=>aa hk));obtain⟨c0,c1⟩:=Fp rr;have H3:=kq3 hs rr hk;clear hb rr hs hk;go_wp2_with fail;clear c0 c1;refine wx (HG.d _ H3.a) fun w4 hb=>?_;have rr:=(hb.block w.heap.size (gl H3.b)).trans H3.b;have hs:=H3.a.below hb;have hk:=H3.c.trans ((H3.a.keep hb).mono (fun k hk=>aa hk));obtain⟨c0,c1⟩:=Fp rr;have H4:=kq3 hs rr hk;clear hb rr hs hk;go_wp2_with fail;clear c0 c1;refine(HG.e _ H4.a).mono ?_;rintro e w5 ⟨rfl,hs,ad⟩;have rr:=(ad.block w.heap.size (ae ⟨Nat.le_refl _,aG _⟩)).trans H4.b;have hk:=H4.c.trans (ad.mono (fun k hk=>aa hk));obtain⟨c0,c1⟩:=Fp rr;have H5:=kq3 hs rr hk;clear ad rr hs hk;go_wp2_with fail;clear c0 c1;go_ret;exact⟨rfl,H5.a.mono (fun k hk=>aa hk),H5.c⟩
theorem DZ{S S1:St}(h:Ig w ps S Y)(hi:Fv S)(tu:Bool)(t m low:Nat)(hm:m<2^64)(ht:t<2^64)(hw:low<2^64)(hj:joinR tu m 200 S t low=some (x,S1))(c1:redT S1 x=true)(c2:redT S1 (sidesT S1 tu x).2=false):
 Ct 189 #[eq ps tu,Xu t,Xu m,Xu low] w fun e w'=>e=.returned (Xu x)/\Ig w' ps S1 Y/\Fo Y w w':=by
 obtain⟨al,hx⟩:=lU tu 200 hi hj;have hx:=hx hm;have cj:=fun W (hW:Ig W ps S (fun k=>Y k\/(w.heap.size<=k/\k<w.heap.size+1)))=>rX tu m hm 200 0 rfl hW hi ht hw hj;have ai:=fun W (hW:Ig W ps S1 (fun k=>Y k\/(w.heap.size<=k/\k<w.heap.size+1)))=>jX hW al tu x hx;have ar:=fun W (hW:Ig W ps S1 (fun k=>Y k\/(w.heap.size<=k/\k<w.heap.size+1)))=>gq hW al x hx;have ad:=fun W (hW:Ig W ps S1 (fun k=>Y k\/(w.heap.size<=k/\k<w.heap.size+1)))=>gq hW al (sidesT S1 tu x).2 (gW hW tu x).2;rw[c1] at ar;rw[c2] at ad;unfold eq at cj;unfold eq at ai;unfold eq;obtain⟨⟨sa,sb⟩,au⟩:∃r,sidesT S1 tu x=r:=⟨_,rfl⟩;rw[au] at ai ad;simp only at ai ad;have q0:=heap_alloc_new w (Xb ps tu);have B0:=(ab w.heap.size w).alloc Ih (Xb ps tu);have a0:(w.alloc (Xb ps tu)).heap.size=w.heap.size+1:=by simp
 have z0:=h.wide B0;rw[a0] at z0;have k0:Fo Y w (w.alloc (Xb ps tu)):=Fo.of_below B0 h.yl;have a1:w.heap.size<(w.alloc (Xb ps tu)).heap.size:=by omega
 have HG:=kq4 cj ai ar ad;clear cj ai ar ad hi al a1 a0 au hj c1 c2;have c0:(w.alloc (Xb ps tu)).cell? ⟨w.heap.size,0,none⟩=some (PV ps):=by rw[cell_of_block q0];rfl
 have c1:(w.alloc (Xb ps tu)).cell? ⟨w.heap.size,1,none⟩=some (.bool tu):=by rw[cell_of_block q0];rfl
 have H0:=kq3 z0 q0 k0;clear z0 q0 k0 B0 h;go_enter func189,ntmps189;go_wp2_with fail;clear c0 c1;refine(HG.a _ H0.a).mono ?_;rintro e w1 ⟨rfl,hs,an⟩;have rr:=(an.block w.heap.size (ae ⟨Nat.le_refl _,aG _⟩)).trans H0.b;have hk:=H0.c.trans (an.mono (fun k hk=>aa hk));obtain⟨c0,c1⟩:=Fp rr;have H1:=kq3 hs rr hk;clear an rr hs hk;go_wp2_with fail;clear c0 c1;refine wx (HG.b _ H1.a) fun w2 hb=>?_;have rr:=(hb.block w.heap.size (gl H1.b)).trans H1.b;have hs:=H1.a.below hb;have hk:=H1.c.trans ((H1.a.keep hb).mono (fun k hk=>aa hk));obtain⟨c0,c1⟩:=Fp rr;have H2:=kq3 hs rr hk;clear hb rr hs hk;go_wp2_with fail;clear c0 c1;refine wx (HG.c _ H2.a) fun w3 hb=>?_;have rr:=(hb.block w.heap.size (gl H2.b)).trans H2.b;have hs:=H2.a.below hb;have hk:=H2.c.trans ((H2.a.keep hb).mono (fun k hk=>aa hk));obtain⟨c0,c1⟩:=Fp rr;have H3:=kq3 hs rr hk;clear hb rr hs hk;go_wp2_with fail;clear c0 c1;refine wx (HG.d _ H3.a) fun w4 hb=>?_;have rr:=(hb.block w.heap.size (gl H3.b)).trans H3.b;have hs:=H3.a.below hb;have hk:=H3.c.trans ((H3.a.keep hb).mono (fun k hk=>aa hk));obtain⟨c0,c1⟩:=Fp rr;have H4:=kq3 hs rr hk;clear hb rr hs hk;go_wp2_with fail;clear c0 c1;go_ret;exact⟨rfl,H4.a.mono (fun k hk=>aa hk),H4.c⟩
theorem DY{S S1:St}(h:Ig w ps S Y)(hi:Fv S)(tu:Bool)(t m low:Nat)(hm:m<2^64)(ht:t<2^64)(hw:low<2^64)(hj:joinR tu m 200 S t low=some (x,S1))(c1:redT S1 x=false):
 Ct 189 #[eq ps tu,Xu t,Xu m,Xu low] w fun e w'=>e=.returned (Xu x)/\Ig w' ps S1 Y/\Fo Y w w':=by
 obtain⟨ai,hx⟩:=lU tu 200 hi hj;have hx:=hx hm;have cj:=fun W (hW:Ig W ps S (fun k=>Y k\/(w.heap.size<=k/\k<w.heap.size+1)))=>rX tu m hm 200 0 rfl hW hi ht hw hj;have ad:=fun W (hW:Ig W ps S1 (fun k=>Y k\/(w.heap.size<=k/\k<w.heap.size+1)))=>jX hW ai tu x hx;have an:=fun W (hW:Ig W ps S1 (fun k=>Y k\/(w.heap.size<=k/\k<w.heap.size+1)))=>gq hW ai x hx;rw[c1] at an;unfold eq at cj;unfold eq at ad;unfold eq;obtain⟨⟨sa,sb⟩,ar⟩:∃r,sidesT S1 tu x=r:=⟨_,rfl⟩;rw[ar] at ad;simp only at ad;have q0:=heap_alloc_new w (Xb ps tu);have B0:=(ab w.heap.size w).alloc Ih (Xb ps tu);have au:(w.alloc (Xb ps tu)).heap.size=w.heap.size+1:=by simp
 have z0:=h.wide B0;rw[au] at z0;have k0:Fo Y w (w.alloc (Xb ps tu)):=Fo.of_below B0 h.yl;have a0:w.heap.size<(w.alloc (Xb ps tu)).heap.size:=by omega
 have HG:=kq3 cj ad an;clear cj ad an hi ai a0 au ar hj c1;have c0:(w.alloc (Xb ps tu)).cell? ⟨w.heap.size,0,none⟩=some (PV ps):=by rw[cell_of_block q0];rfl
 have c1:(w.alloc (Xb ps tu)).cell? ⟨w.heap.size,1,none⟩=some (.bool tu):=by rw[cell_of_block q0];rfl
 have H0:=kq3 z0 q0 k0;clear z0 q0 k0 B0 h;go_enter func189,ntmps189;go_wp2_with fail;clear c0 c1;refine(HG.a _ H0.a).mono ?_;rintro e w1 ⟨rfl,hs,al⟩;have rr:=(al.block w.heap.size (ae ⟨Nat.le_refl _,aG _⟩)).trans H0.b;have hk:=H0.c.trans (al.mono (fun k hk=>aa hk));obtain⟨c0,c1⟩:=Fp rr;have H1:=kq3 hs rr hk;clear al rr hs hk;go_wp2_with fail;clear c0 c1;refine wx (HG.b _ H1.a) fun w2 hb=>?_;have rr:=(hb.block w.heap.size (gl H1.b)).trans H1.b;have hs:=H1.a.below hb;have hk:=H1.c.trans ((H1.a.keep hb).mono (fun k hk=>aa hk));obtain⟨c0,c1⟩:=Fp rr;have H2:=kq3 hs rr hk;clear hb rr hs hk;go_wp2_with fail;clear c0 c1;refine wx (HG.c _ H2.a) fun w3 hb=>?_;have rr:=(hb.block w.heap.size (gl H2.b)).trans H2.b;have hs:=H2.a.below hb;have hk:=H2.c.trans ((H2.a.keep hb).mono (fun k hk=>aa hk));obtain⟨c0,c1⟩:=Fp rr;have H3:=kq3 hs rr hk;clear hb rr hs hk;go_wp2_with fail;clear c0 c1;go_ret;exact⟨rfl,H3.a.mono (fun k hk=>aa hk),H3.c⟩
theorem wE{S S':St}(h:Ig w ps S Y)(hi:Fv S)(tu:Bool)(t m low:Nat)(hm:m<2^64)(ht:t<2^64)(hw:low<2^64)(hj:topR tu S t m low=some (x,S')):
 Ct 189 #[eq ps tu,Xu t,Xu m,Xu low] w fun e w'=>e=.returned (Xu x)/\Ig w' ps S' Y/\Fo Y w w':=by
 unfold topR at hj
 split at hj
 ·cases hj
 ·rename_i y S1 h1
  by_cases c1:redT S1 y=true
  ·by_cases c2:redT S1 (sidesT S1 tu y).2=true
   ·rw[if_pos ⟨c1,c2⟩] at hj;obtain⟨S2,h2,h3⟩:=aC.1 hj
    injection h3 with e1 e2
    subst e1 e2;exact Ia h hi tu t m low hm ht hw h1 c1 c2 h2
   ·rw[if_neg (fun q=>c2 q.2)] at hj
    injection hj with hj
    injection hj with e1 e2
    subst e1 e2;exact DZ h hi tu t m low hm ht hw h1 c1 (by simpa using c2)
  ·rw[if_neg (fun q=>c1 q.1)] at hj
   injection hj with hj
   injection hj with e1 e2
   subst e1 e2;exact DY h hi tu t m low hm ht hw h1 (by simpa using c1)
theorem qMaab{P:Prop}(h:P:=by
 clear hc;generalize blackT S l=bk1 at*;generalize blackT S r=bk2 at*;have HG:=kq8 an ad ai al ar au h hp;clear an ad ai al ar au h hp hi h0 t1 t2 t3;go_enter func142,ntmps142;go_wp2_with fail;refine Jc HG.a ?_;go_wp2_with fail;refine wx HG.b fun w1 hb=>?_;have H1:=If hb;clear hb;go_wp2_with fail;refine wx (HG.c _ H1.out) fun w2 hb=>?_;have H2:=If (H1.out.trans (hb.mono H1.out.size));clear hb;go_wp2_with fail;refine wx (HG.d _ H2.out) fun w3 hb=>?_;have H3:=If (H2.out.trans (hb.mono H2.out.size));clear hb;go_wp2_with fail;refine wx (HG.e _ H3.out) fun w4 hb=>?_;have H4:=If (H3.out.trans (hb.mono H3.out.size));clear hb;go_wp2_with fail;refine wx (HG.f _ H4.out) fun w5 hb=>?_;have H5:=If (H4.out.trans (hb.mono H4.out.size));clear hb;go_wp2_with fail;refine(HG.h _ H5.out).mono ?_;rintro e w6 ⟨rfl,hs,hk⟩;have HE:=kq2 hs ((HG.g.keep H5.out).trans hk);clear hs hk;go_wp2_with fail;go_ret2;exact⟨rfl,HE.out⟩):P:=h
theorem DM{S S':St}(h:Ig w ps S Y)(hi:Fv S)(l m r:Nat)(hl:l<2^64)(hm:m<2^64)(hr:r<2^64)(h0:m≠0)(t1:isT S l=true)(t2:isT S m=true)(t3:isT S r=true)(hc:blackT S r<blackT S l)(hp:topR false S l m r=some (x,S')):
 Ct 142 #[PV ps,Xu l,Xu m,Xu r] w fun e w'=>e=.returned (.tuple #[Xu x,Xi 0])/\Ig w' ps S' Y/\Fo Y w w':=by
 have an:=fB h hi 0 (by omega);rw[fU] at an;have ad:=io h hi l hl;have ai:=fun W (hW:Below w.heap.size w W)=>io (h.below hW) hi m hm;have al:=fun W (hW:Below w.heap.size w W)=>io (h.below hW) hi r hr;have ar:=fun W (hW:Below w.heap.size w W)=>gy (h.below hW) hi l hl;have au:=fun W (hW:Below w.heap.size w W)=>gy (h.below hW) hi r hr;rw[t1] at ad;rw[t2] at ai;rw[t3] at al;have hq:((m:Int)==0)=false:=by simp;omega
 have hp:=fun W (hW:Below w.heap.size w W)=>wE (h.below hW) hi false l m r hm hl hr hp;unfold eq at hp;have a0:((blackT S r:Nat):Int)<(blackT S l:Nat):=by omega
 exact qMaab
theorem DN{S S':St}(h:Ig w ps S Y)(hi:Fv S)(l m r:Nat)(hl:l<2^64)(hm:m<2^64)(hr:r<2^64)(h0:m≠0)(t1:isT S l=true)(t2:isT S m=true)(t3:isT S r=true)(hc:blackT S l<blackT S r)(hp:topR true S r m l=some (x,S')):
 Ct 142 #[PV ps,Xu l,Xu m,Xu r] w fun e w'=>e=.returned (.tuple #[Xu x,Xi 0])/\Ig w' ps S' Y/\Fo Y w w':=by
 have an:=fB h hi 0 (by omega);rw[fU] at an;have ad:=io h hi l hl;have ai:=fun W (hW:Below w.heap.size w W)=>io (h.below hW) hi m hm;have al:=fun W (hW:Below w.heap.size w W)=>io (h.below hW) hi r hr;have ar:=fun W (hW:Below w.heap.size w W)=>gy (h.below hW) hi l hl;have au:=fun W (hW:Below w.heap.size w W)=>gy (h.below hW) hi r hr;rw[t1] at ad;rw[t2] at ai;rw[t3] at al;have hq:((m:Int)==0)=false:=by simp;omega
 have hp:=fun W (hW:Below w.heap.size w W)=>wE (h.below hW) hi true r m l hm hr hl hp;unfold eq at hp;have a0:((blackT S l:Nat):Int)<(blackT S r:Nat):=by omega
 have a1:¬((blackT S r:Nat):Int)<(blackT S l:Nat):=by omega
 exact qMaab
theorem DO{S S':St}(h:Ig w ps S Y)(hi:Fv S)(l m r:Nat)(hl:l<2^64)(hm:m<2^64)(hr:r<2^64)(h0:m≠0)(t1:isT S l=true)(t2:isT S m=true)(t3:isT S r=true)(hc:blackT S l=blackT S r)(hr1:redT S l=true)(hp:putRM S m l r false=some S'):
 Ct 142 #[PV ps,Xu l,Xu m,Xu r] w fun e w'=>e=.returned (.tuple #[Xu m,Xi 0])/\Ig w' ps S' Y/\Fo Y w w':=by
 have au:=fB h hi 0 (by omega);rw[fU] at au;have ad:=io h hi l hl;have ai:=fun W (hW:Below w.heap.size w W)=>io (h.below hW) hi m hm;have al:=fun W (hW:Below w.heap.size w W)=>io (h.below hW) hi r hr;have a0:=fun W (hW:Below w.heap.size w W)=>gy (h.below hW) hi l hl;have an:=fun W (hW:Below w.heap.size w W)=>gy (h.below hW) hi r hr;rw[t1] at ad;rw[t2] at ai;rw[t3] at al;have hq:((m:Int)==0)=false:=by simp;omega
 have hp:=fun W (hW:Below w.heap.size w W)=>nh (h.below hW) hi m l r false hm hl hr hp;have ar:=fun W (hW:Below w.heap.size w W)=>gq (h.below hW) hi l hl;rw[hr1] at ar;rw[<-hc] at an;clear hc hr1;generalize blackT S l=bk1 at*;have HG:=kq9 au ad ai al a0 an h ar hp;clear au ad ai al a0 an h ar hp hi h0 t1 t2 t3;go_enter func142,ntmps142;go_wp2_with fail;refine Jc HG.a ?_;go_wp2_with fail;refine wx HG.b fun w1 hb=>?_;have H1:=If hb;clear hb;go_wp2_with fail;refine wx (HG.c _ H1.out) fun w2 hb=>?_;have H2:=If (H1.out.trans (hb.mono H1.out.size));clear hb;go_wp2_with fail;refine wx (HG.d _ H2.out) fun w3 hb=>?_;have H3:=If (H2.out.trans (hb.mono H2.out.size));clear hb;go_wp2_with fail;refine wx (HG.e _ H3.out) fun w4 hb=>?_;have H4:=If (H3.out.trans (hb.mono H3.out.size));clear hb;go_wp2_with fail;refine wx (HG.f _ H4.out) fun w5 hb=>?_;have H5:=If (H4.out.trans (hb.mono H4.out.size));clear hb;go_wp2_with fail;refine wx (HG.h _ H5.out) fun w6 hb=>?_;have H6:=If (H5.out.trans (hb.mono H5.out.size));clear hb;go_wp2_with fail;refine(HG.i _ H6.out).mono ?_;rintro e w7 ⟨rfl,hs,hk⟩;have HE:=kq2 hs ((HG.g.keep H6.out).trans hk);clear hs hk;go_wp2_with fail;go_ret2;exact⟨rfl,HE.out⟩
theorem qMaaa{P:Prop}(h:P:=by
 have ar:=fun W (hW:Below w.heap.size w W)=>gq (h.below hW) hi l hl;rw[hr1] at ar;rw[<-hc] at an;clear hc hr1;generalize blackT S l=bk1 at*;have au:=fun W (hW:Below w.heap.size w W)=>gq (h.below hW) hi r hr;rw[hr2] at au;clear hr2;have HG:=kq10 a0 ad ai al a1 an h ar au hp;clear a0 ad ai al a1 an h ar au hp hi h0 t1 t2 t3;go_enter func142,ntmps142;go_wp2_with fail;refine Jc HG.a ?_;go_wp2_with fail;refine wx HG.b fun w1 hb=>?_;have H1:=If hb;clear hb;go_wp2_with fail;refine wx (HG.c _ H1.out) fun w2 hb=>?_;have H2:=If (H1.out.trans (hb.mono H1.out.size));clear hb;go_wp2_with fail;refine wx (HG.d _ H2.out) fun w3 hb=>?_;have H3:=If (H2.out.trans (hb.mono H2.out.size));clear hb;go_wp2_with fail;refine wx (HG.e _ H3.out) fun w4 hb=>?_;have H4:=If (H3.out.trans (hb.mono H3.out.size));clear hb;go_wp2_with fail;refine wx (HG.f _ H4.out) fun w5 hb=>?_;have H5:=If (H4.out.trans (hb.mono H4.out.size));clear hb;go_wp2_with fail;refine wx (HG.h _ H5.out) fun w6 hb=>?_;have H6:=If (H5.out.trans (hb.mono H5.out.size));clear hb;go_wp2_with fail;refine wx (HG.i _ H6.out) fun w7 hb=>?_;have H7:=If (H6.out.trans (hb.mono H6.out.size));clear hb;go_wp2_with fail;refine(HG.j _ H7.out).mono ?_;rintro e w8 ⟨rfl,hs,hk⟩;have HE:=kq2 hs ((HG.g.keep H7.out).trans hk);clear hs hk;go_wp2_with fail;go_ret2;exact⟨rfl,HE.out⟩):P:=h
theorem DP{S S':St}(h:Ig w ps S Y)(hi:Fv S)(l m r:Nat)(hl:l<2^64)(hm:m<2^64)(hr:r<2^64)(h0:m≠0)(t1:isT S l=true)(t2:isT S m=true)(t3:isT S r=true)(hc:blackT S l=blackT S r)(hr1:redT S l=false)(hr2:redT S r=true)(hp:putRM S m l r false=some S'):
 Ct 142 #[PV ps,Xu l,Xu m,Xu r] w fun e w'=>e=.returned (.tuple #[Xu m,Xi 0])/\Ig w' ps S' Y/\Fo Y w w':=by
 have a0:=fB h hi 0 (by omega);rw[fU] at a0;have ad:=io h hi l hl;have ai:=fun W (hW:Below w.heap.size w W)=>io (h.below hW) hi m hm;have al:=fun W (hW:Below w.heap.size w W)=>io (h.below hW) hi r hr;have a1:=fun W (hW:Below w.heap.size w W)=>gy (h.below hW) hi l hl;have an:=fun W (hW:Below w.heap.size w W)=>gy (h.below hW) hi r hr;rw[t1] at ad;rw[t2] at ai;rw[t3] at al;have hq:((m:Int)==0)=false:=by simp;omega
 have hp:=fun W (hW:Below w.heap.size w W)=>nh (h.below hW) hi m l r false hm hl hr hp;exact qMaaa
theorem DL{S S':St}(h:Ig w ps S Y)(hi:Fv S)(l m r:Nat)(hl:l<2^64)(hm:m<2^64)(hr:r<2^64)(h0:m≠0)(t1:isT S l=true)(t2:isT S m=true)(t3:isT S r=true)(hc:blackT S l=blackT S r)(hr1:redT S l=false)(hr2:redT S r=false)(hp:putRM S m l r true=some S'):
 Ct 142 #[PV ps,Xu l,Xu m,Xu r] w fun e w'=>e=.returned (.tuple #[Xu m,Xi 0])/\Ig w' ps S' Y/\Fo Y w w':=by
 have a0:=fB h hi 0 (by omega);rw[fU] at a0;have ad:=io h hi l hl;have ai:=fun W (hW:Below w.heap.size w W)=>io (h.below hW) hi m hm;have al:=fun W (hW:Below w.heap.size w W)=>io (h.below hW) hi r hr;have a1:=fun W (hW:Below w.heap.size w W)=>gy (h.below hW) hi l hl;have an:=fun W (hW:Below w.heap.size w W)=>gy (h.below hW) hi r hr;rw[t1] at ad;rw[t2] at ai;rw[t3] at al;have hq:((m:Int)==0)=false:=by simp;omega
 have hp:=fun W (hW:Below w.heap.size w W)=>nh (h.below hW) hi m l r true hm hl hr hp;exact qMaaa
theorem DK{S S':St}(h:Ig w ps S Y)(hi:Fv S)(l m r:Nat)(hl:l<2^64)(hm:m<2^64)(hr:r<2^64)(hR:redJ S l m r=some (R,S')):
 Ct 142 #[PV ps,Xu l,Xu m,Xu r] w fun e w'=>e=.returned (.tuple #[Xu R.1,Xi R.2])/\Ig w' ps S' Y/\Fo Y w w':=by
 unfold redJ at hR
 split at hR
 ·cases hR
 rename_i hc;simp only[not_or,Bool.not_eq_false] at hc;obtain⟨h0,t1,t2,t3⟩:=hc
 split at hR
 ·rename_i hc;obtain⟨⟨x,S1⟩,h1,h2⟩:=aC.1 hR
  injection h2 with e1 e2
  subst e1 e2;exact DM h hi l m r hl hm hr h0 t1 t2 t3 hc h1
 ·rename_i hc1
  split at hR
  ·rename_i hc;obtain⟨⟨x,S1⟩,h1,h2⟩:=aC.1 hR
   injection h2 with e1 e2
   subst e1 e2;exact DN h hi l m r hl hm hr h0 t1 t2 t3 hc h1
  ·rename_i hc2;obtain⟨S1,h1,h2⟩:=aC.1 hR
   injection h2 with e1 e2
   subst e1 e2;have he:blackT S l=blackT S r:=by omega
   cases a1:redT S l with
   | true=>rw[a1] at h1;exact DO h hi l m r hl hm hr h0 t1 t2 t3 he a1 h1
   | false=>
    cases a2:redT S r with
    | true=>rw[a1,a2] at h1;exact DP h hi l m r hl hm hr h0 t1 t2 t3 he a1 a2 h1
    | false=>rw[a1,a2] at h1;exact DL h hi l m r hl hm hr h0 t1 t2 t3 he a1 a2 h1
theorem BK:mz 142 redJ where
 enter args w:=by go_simp
 inv hi h:=(wG hi h).1
 lt hi _ hm _ h:=(wG hi h).2.1 hm
 ok h:=by
  unfold redJ at h;split at h
  ·cases h
  ·split at h
   ·obtain⟨_,_,h2⟩:=aC.1 h;injection h2 with e1 e2
    rw[<-e1]
   ·split at h
    ·obtain⟨_,_,h2⟩:=aC.1 h;injection h2 with e1 e2
     rw[<-e1]
    ·obtain⟨_,_,h2⟩:=aC.1 h;injection h2 with e1 e2
     rw[<-e1]
 call h hi hl hm hr hR:=DK h hi _ _ _ hl hm hr hR
theorem wz:jD 2 142 235 redJ:=⟨ae rfl,E3,BK,Aj⟩
