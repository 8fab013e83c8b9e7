/- The heap: take, Alloc: the walks. -/
import Derived.Test.YtcibkdbpicledaaGreatDoorZTa
import Derived.Test.YtcibkdbpicledaaGreatDoorZKb
set_option maxRecDepth 100000
set_option maxHeartbeats 1600000
namespace Go.Proofs.YtcibkdbpicledaaGreatDoor
section
open Go.RowKit Tryz Go.BigFrame Go.Maps Go.WideMaps Lf
open Go.Shelf
variable{Y:Nat->Prop}{n:Nat}{s:Slab}{w:World}
theorem Ef(c:Nat):∃er:Nat,ip c=(et c,er):=by
 unfold ip
 by_cases h:c<8
 ·rw[if_pos (by omega),df];exact⟨_,rfl⟩
 ·rw[if_neg (by omega)];refine⟨2,?_⟩;unfold et;rw[aj,aH (by simp[iP];omega)]
  rfl
theorem Aq(c:Nat):et c<=28:=by
 by_cases h:c<8
 ·have:∀c,c<8->et c<=28:=by decide
  exact this c h
 ·unfold et;rw[aj,aH (by simp[iP];omega)];decide
theorem tO{w k:Nat}(hw:w<2^64)(hk:k<64):iY w k<2^64:=Nat.or_lt_two_pow (n:=64) hw (me hk)
theorem uK{ph pa pm:Nat}(h:Fz w ph pa pm s Y)(p k:Nat)(hp:p<=1048576)(hk:k<64):
 Ct 116 #[PV ph,.int .i64 p,.int .i64 k] w fun e w'=>e=.returned (.int .i64 ((fP s p k).1:Nat))/\Fz w' ph pa pm (fP s p k).2 Y/\Fo Y w w':=by
 have au:=getH_lt h p;have ai:=qU h p hp;have ht:fP s p k=(fF p (FA s p).n k,nY (Ie s p ⟨(FA s p).kind,(FA s p).n,iY (FA s p).w k⟩) (fF p (FA s p).n k) (et (FA s p).n)):=rfl;rw[ht];clear ht;generalize FA s p=x at*;obtain⟨kd,xn,xw⟩:=x;simp only at au ai⊢;obtain⟨a7,a8,ar⟩:=au;have a4:=fun W=>zz xw k W ar hk;have a6:=tO ar hk;obtain⟨er,a3⟩:=Ef xn;have ap:=fun W=>qj xn W;rw[a3] at ap;have ba:=Aq xn;have a2:=fun W=>uJ p xn k W hp (by omega) (by omega);have a':fF p xn k<=67108926:=by
  have:=qi xn k;unfold fF;omega
 have ao:∀W,Fz W ph pa pm s Y->_:=fun W hW=>oh (hW.own (.cells #[.int .i64 kd,.int .i64 xn,.int .u64 (iY xw k:Nat)] 196)) p ⟨kd,xn,iY xw k⟩ hp a7 a8 a6;simp only[fT] at ai ao;generalize iY xw k=bs at*;generalize hz:et xn=z at*;generalize hq:fF p xn k=q at*;generalize Ie s p ⟨kd,xn,bs⟩=s1 at*;have HG:=kq6 ai a4 ap a2 ao h;clear ai a4 ap a2 ao h a3 hz hq;go_enter func116,ntmps116;go_wp2_with fail;refine HG.a.mono ?_;rintro e w1 ⟨rfl,al⟩;have H1:=kq2 (HG.f.below al) (HG.f.keep al);clear al;go_wp2_with fail;refine(HG.b _).mono ?_;rintro e w2 ⟨rfl,rfl⟩;go_wp2_with fail;refine(HG.e w1 H1.a).mono ?_;rintro e w3 ⟨rfl,h3,k3⟩;have a1:(w1.alloc (.cells #[.int .i64 kd,.int .i64 xn,.int .u64 (bs:Nat)] 196)).heap[w1.heap.size]?=some (.cells #[.int .i64 kd,.int .i64 xn,.int .u64 (bs:Nat)] 196 (0,0)):=by
  show (w1.heap.push _)[w1.heap.size]?=_;simp
 have b1:w3.cell? ⟨w1.heap.size,1,none⟩=some (.int .i64 xn):=by
  rw[k3.cell (p:=⟨w1.heap.size,1,none⟩) (ae rfl),Fs a1]
  rfl
 have a0:Fo Y w1 (w1.alloc (.cells #[.int .i64 kd,.int .i64 xn,.int .u64 (bs:Nat)] 196)):=H1.a.keep ((aa _ w1).alloc Ih _);have a9:w1.heap.size<w3.heap.size:=h3.yl _ (ae rfl);have H3:=kq2 (h3.mono (fun k hk=>ab hk) HG.f.yh HG.f.yt) (H1.b.trans (a0.trans (k3.mono fun k hk=>ab hk)));clear h3 k3 a1 a0;go_wp2_with fail;refine(HG.c _).mono ?_;rintro e w4 ⟨rfl,ad⟩;have a5:w4.cell? ⟨w1.heap.size,1,none⟩=some (.int .i64 xn):=(ad.cell (p:=⟨w1.heap.size,1,none⟩) a9).trans b1;have H4:=kq2 (H3.a.below ad) (H3.b.trans (H3.a.keep ad));clear ad b1;go_wp2_with fail;refine(HG.d _).mono ?_;rintro e w5 ⟨rfl,an⟩;have H5:=kq2 (H4.a.below an) (H4.b.trans (H4.a.keep an));clear an a5;go_wp2_with fail;refine(Bp H5.a q z (by omega) (by omega)).mono ?_;rintro e w6 ⟨rfl,h6,k6⟩;have H6:=kq2 h6 (H5.b.trans k6);clear h6 k6;go_wp2_with fail;go_ret;exact⟨rfl,H6.out⟩
theorem oD {s:Slab}{y:Nat×Hr}:∀(ks:List Nat) (nx:Nat),y∈gC s nx ks->y.1∈ks/\y.2=FA s y.1
 | [],_,h=>by simp[gC] at h
 | p::r,nx,h=>by
  unfold gC at h;split at h
  ·have:=oD r nx h;exact⟨ah _ this.1,this.2⟩
  ·rcases ag.1 h with rfl | h
   ·exact⟨av,rfl⟩
   ·have:=oD r _ h;exact⟨ah _ this.1,this.2⟩
theorem oX {c p k:Nat}:∀(q:List (Nat×Hr)),fd c q=some (p,k)->(∃x,(p,x)∈q/\x.kind=1/\x.n=c/\fW x.w (eJ c)=some k)
 | (p',y)::q,h=>by
  have h1:fd c ((p',y)::q)=if y.kind≠1\/y.n≠c then fd c q else match fW y.w (eJ c) with | some k=>some (p',k) | none=>fd c q:=rfl
  rw[h1] at h;by_cases hc:y.kind≠1\/y.n≠c
  ·rw[if_pos hc] at h;obtain⟨x,hx,hr⟩:=oX q h;exact⟨x,ah _ hx,hr⟩
  ·rw[if_neg hc] at h;have ad:y.kind=1:=by omega
   have ai:y.n=c:=by omega
   cases hb:fW y.w (eJ c) with
   | some j=>
    rw[hb] at h;simp only[Option.some.injEq,Prod.mk.injEq] at h;obtain⟨rfl,rfl⟩:=h;exact⟨y,av,ad,ai,hb⟩
   | none=>
    rw[hb] at h;obtain⟨x,hx,hr⟩:=oX q h;exact⟨x,ah _ hx,hr⟩
theorem tN{w n k:Nat}(h:fW w n=some k):k<n:=by
 unfold fW at h;rw[di] at h;simpa using h.2.1
theorem GJ(hw:eQ s){c p k:Nat}(h:kt s c=some (p,k)):p<=1048575/\k<31:=by
 obtain⟨x,hx,_,_,hb⟩:=oX _ h;have h1:=(oD _ _ hx).1;have h2:=tN hb;have h3:=nX c;exact⟨hw.top _ h1,by omega⟩
theorem uw(s:Slab)(n:Nat):∀f p,s.firstRun n f p<=p+f
 | 0,p=>Nat.le_refl _
 | f+1,p=>by
  unfold Slab.firstRun;split
  ·omega
  ·have:=uw s n f (p+1);omega
theorem mJ(hw:eQ s)(hn:n<=100):(s.grant n).1.1<=409601:=by
 have h1:=hw.room;have h2:=hw.quota;have h3:s.pages.length*n<=4096*100:=Nat.mul_le_mul (by omega) hn;unfold Slab.grant
 split
 ·simp
 ·split
  ·simp
  ·have:=uw s n (s.pages.length*n+1) 0;simp only;omega
theorem Fz.grant{ph pa pm:Nat}(h:Fz w ph pa pm s Y)(n:Nat)(hn:n<=100):
 Ct 113 #[PV pa,.int .i64 n] w fun e w'=>e=.returned (.tuple #[.int .i64 ((s.grant n).1.1:Nat),.int .i64 ((s.grant n).1.2:Nat)])/\Fz w' ph pa pm (s.grant n).2 Y/\Fo Y w w':=by
 obtain⟨ad,hs⟩:=h.slab;refine(Ek hs n hn).mono ?_;rintro e w' ⟨h1,h2,h3⟩;exact⟨h1,h.step h2 h3,h3⟩
theorem tZ{n c:Nat}(h:gd n=some c):c<8:=by
 unfold gd at h;rw[di] at h;simpa using h.2.1
theorem ua(h:n<=4000):fa n<=63:=by
 unfold fa
 split
 ·omega
 ·split
  ·omega
  ·omega
theorem qHdab{P:Prop}(h:P:=by
 go_wp2_with fail;refine(HG.f _ H3.a).mono ?_;rintro e w4 ⟨rfl,h4,k4⟩;have H4:=kq2 h4 (H3.b.trans k4);clear h4 k4 c3;go_wp2_with fail;go_ret2;obtain rfl:=HG.c;exact⟨rfl,H4.out⟩):P:=h
theorem heap_alloc{ph pa pm:Nat}(h:Fz w ph pa pm s Y)(n:Nat)(_:n<=100000):
 Ct 91 #[PV ph,.int .i64 n] w fun e w'=>e=.returned (.tuple #[.int .i64 ((fR s n).1.1:Nat),.int .i64 ((fR s n).1.2:Nat)])/\Fz w' ph pa pm (fR s n).2 Y/\Fo Y w w':=by
 have ap:=qV h;have ao:=fun W=>Gn n W;obtain⟨R,hR⟩:=Ii (fR s n);rw[hR]
 rcases vX n with⟨h1,h2,_⟩ | ⟨h1,⟨c,h2,h3,_⟩ | ⟨h2,h3,h4⟩⟩
 ·have ai:R=((0,2),s):=by rw[<-hR];unfold fR;rw[if_pos h1]
  rw[h2] at ao;have HG:=kq4 ap ao ai h;clear ap ao ai h hR h1 h2;go_enter func91,ntmps91;go_wp2_with fail;refine HG.a.mono ?_;rintro e w1 ⟨rfl,rfl⟩;go_wp2_with fail;refine(HG.b _).mono ?_;rintro e w2 ⟨rfl,ad⟩;have H2:=If ad;clear ad;go_wp2_with fail;go_ret2;obtain rfl:=HG.c;exact⟨rfl,HG.d.below H2.out,HG.d.keep H2.out⟩
 ·have a2:¬(n<1\/4000<n):=by omega
  rw[h3] at ao;have a':=tZ h2;have au:=fun W (hW:Fz W ph pa pm s Y)=>By hW c (by omega)
  cases hspot:kt s c with
  | some pk=>
   obtain⟨p,k⟩:=pk;have ai:R=(((fP s p k).1,0),(fP s p k).2):=by rw[<-hR];unfold fR;rw[if_neg a2,h2];simp only[hspot]
   rw[hspot] at au;obtain⟨hp,hk⟩:=GJ h.wf hspot;have a6:=fun W (hW:Fz W ph pa pm s Y)=>uK hW p k (by omega) (by omega);generalize fP s p k=tk at*;have HG:=kq6 ap ao ai h au a6;clear ap ao ai h hR h1 h2 h3 au a6 hspot;go_enter func91,ntmps91;go_wp2_with fail;refine HG.a.mono ?_;rintro e w1 ⟨rfl,rfl⟩;go_wp2_with fail;refine(HG.b _).mono ?_;rintro e w2 ⟨rfl,ad⟩;have H2:=kq2 (HG.d.below ad) (HG.d.keep ad);clear ad;go_wp2_with fail;refine(HG.e _ H2.a).mono ?_;rintro e w3 ⟨rfl,al⟩;have H3:=kq2 (H2.a.below al) (H2.b.trans (H2.a.keep al));clear al;simp only[nn];go_wp2_with fail;refine(HG.f _ H3.a).mono ?_;rintro e w4 ⟨rfl,h4,k4⟩;have H4:=kq2 h4 (H3.b.trans k4);clear h4 k4;go_wp2_with fail;go_ret2;obtain rfl:=HG.c;exact⟨rfl,H4.out⟩
  | none=>
   rw[hspot] at au;have an:=fun W (hW:Fz W ph pa pm s Y)=>hW.grant 1 (by omega);have a1:=mJ h.wf (n:=1) (by omega);obtain⟨⟨⟨gp,ge⟩,gs⟩,ar⟩:∃g,s.grant 1=g:=⟨_,rfl⟩;rw[ar] at an a1;simp only at an a1
   cases ge with
   | zero=>
    have ai:R=(((fP (Ie gs gp ⟨1,c,0⟩) gp 0).1,0),(fP (Ie gs gp ⟨1,c,0⟩) gp 0).2):=by rw[<-hR];unfold fR;rw[if_neg a2,h2];simp only[hspot,ar]
    have a0:=fun W (hW:Fz W ph pa pm gs Y)=>oh hW gp ⟨1,c,0⟩ (by omega) (show 1<256 by omega) (by simp only;omega) (show 0<2^64 by omega);simp only[fT] at a0;generalize Ie gs gp ⟨1,c,0⟩=s2 at*;have a6:=fun W (hW:Fz W ph pa pm s2 Y)=>uK hW gp 0 (by omega) (by omega);generalize fP s2 gp 0=tk at*;have HG:=kq8 ap ao ai h au an a0 a6;clear ap ao ai h hR h1 h2 h3 au a6 hspot an a0 ar;go_enter func91,ntmps91;go_wp2_with fail;refine HG.a.mono ?_;rintro e w1 ⟨rfl,rfl⟩;go_wp2_with fail;refine(HG.b _).mono ?_;rintro e w2 ⟨rfl,ad⟩;have H2:=kq2 (HG.d.below ad) (HG.d.keep ad);clear ad;go_wp2_with fail;refine(HG.e _ H2.a).mono ?_;rintro e w3 ⟨rfl,al⟩;have H3:=kq2 (H2.a.below al) (H2.b.trans (H2.a.keep al));have c3:=H3.a.cell;clear al;simp only[nn];go_wp2_with fail;refine(HG.f _ H3.a).mono ?_;rintro e w4 ⟨rfl,h4,k4⟩;have H4:=kq2 h4 (H3.b.trans k4);clear h4 k4 c3;go_wp2_with fail;refine(HG.g _ H4.a).mono ?_;rintro e w5 ⟨rfl,h5,k5⟩;have H5:=kq2 h5 (H4.b.trans k5);clear h5 k5;go_wp2_with fail;refine(HG.h _ H5.a).mono ?_;rintro e w6 ⟨rfl,h6,k6⟩;have H6:=kq2 h6 (H5.b.trans k6);clear h6 k6;go_wp2_with fail;go_ret2;obtain rfl:=HG.c;exact⟨rfl,H6.out⟩
   | succ ge=>
    have ai:R=((0,ge+1),gs):=by rw[<-hR];unfold fR;rw[if_neg a2,h2];simp only[hspot,ar]
    have a7:(((ge+1:Nat):Int) !=0)=true:=by simp;omega
    obtain⟨g1,a3⟩:=Ii (ge+1);rw[a3] at an ai a7;have a9:¬(g1:Int)=0:=by omega
    have HG:=kq6 ap ao ai h au an;clear ap ao ai h hR h1 h2 h3 au hspot an ar a3;go_enter func91,ntmps91;go_wp2_with fail;refine HG.a.mono ?_;rintro e w1 ⟨rfl,rfl⟩;go_wp2_with fail;refine(HG.b _).mono ?_;rintro e w2 ⟨rfl,ad⟩;have H2:=kq2 (HG.d.below ad) (HG.d.keep ad);clear ad;go_wp2_with fail;refine(HG.e _ H2.a).mono ?_;rintro e w3 ⟨rfl,al⟩;have H3:=kq2 (H2.a.below al) (H2.b.trans (H2.a.keep al));have c3:=H3.a.cell;clear al;simp only[nn];exact qHdab
 ·have a2:¬(n<1\/4000<n):=by omega
  rw[h3] at ao;have a5:=fun W=>GT n W h1.2 h1.1;have a8:=ua h1.2;have an:=fun W (hW:Fz W ph pa pm s Y)=>hW.grant (fa n) (by omega);have a1:=mJ h.wf (n:=fa n) (by omega);obtain⟨np,a4⟩:=Ii (fa n);rw[a4] at a5 a8 an a1;obtain⟨⟨⟨gp,ge⟩,gs⟩,ar⟩:∃g,s.grant np=g:=⟨_,rfl⟩;rw[ar] at an a1;simp only at an a1
  cases ge with
  | zero=>
   have ai:R=((gp*64+2,0),Ie gs gp ⟨2,np,n⟩):=by rw[<-hR];unfold fR;rw[if_neg a2,h2,a4];simp only[ar]
   have a0:=fun W (hW:Fz W ph pa pm gs Y)=>oh hW gp ⟨2,np,n⟩ (by omega) (show 2<256 by omega) (by simp only;omega) (by simp only;omega);simp only[fT] at a0;generalize Ie gs gp ⟨2,np,n⟩=s2 at*;have ba:n<=4000:=h1.2;have HG:=kq7 ap ao ai h a5 an a0;clear ap ao ai h hR h1 h2 h3 h4 a5 an a0 ar a4;go_enter func91,ntmps91;go_wp2_with fail;refine HG.a.mono ?_;rintro e w1 ⟨rfl,rfl⟩;go_wp2_with fail;refine(HG.b _).mono ?_;rintro e w2 ⟨rfl,ad⟩;have H2:=kq2 (HG.d.below ad) (HG.d.keep ad);clear ad;go_wp2_with fail;refine(HG.e _).mono ?_;rintro e w3 ⟨rfl,al⟩;have H3:=kq2 (H2.a.below al) (H2.b.trans (H2.a.keep al));have c3:=H3.a.cell;clear al;go_wp2_with fail;refine(HG.f _ H3.a).mono ?_;rintro e w4 ⟨rfl,h4,k4⟩;have H4:=kq2 h4 (H3.b.trans k4);clear h4 k4 c3;go_wp2_with fail;refine(HG.g _ H4.a).mono ?_;rintro e w5 ⟨rfl,h5,k5⟩;have H5:=kq2 h5 (H4.b.trans k5);clear h5 k5;go_wp2_with fail;go_ret2;obtain rfl:=HG.c;exact⟨by simp,H5.out⟩
  | succ ge=>
   have ai:R=((0,ge+1),gs):=by rw[<-hR];unfold fR;rw[if_neg a2,h2,a4];simp only[ar]
   have a7:(((ge+1:Nat):Int) !=0)=true:=by simp;omega
   obtain⟨g1,a3⟩:=Ii (ge+1);rw[a3] at an ai a7;have a9:¬(g1:Int)=0:=by omega
   have HG:=kq6 ap ao ai h a5 an;clear ap ao ai h hR h1 h2 h3 h4 a5 an ar a4 a3;go_enter func91,ntmps91;go_wp2_with fail;refine HG.a.mono ?_;rintro e w1 ⟨rfl,rfl⟩;go_wp2_with fail;refine(HG.b _).mono ?_;rintro e w2 ⟨rfl,ad⟩;have H2:=kq2 (HG.d.below ad) (HG.d.keep ad);clear ad;go_wp2_with fail;refine(HG.e _).mono ?_;rintro e w3 ⟨rfl,al⟩;have H3:=kq2 (H2.a.below al) (H2.b.trans (H2.a.keep al));have c3:=H3.a.cell;clear al;exact qHdab
end
section
open Go.RowKit Tryz Go.BigFrame Go.Maps Go.WideMaps Lf
variable{S:St}{Y:Nat->Prop}{ps:Nat}{pt:Nat}{v:Value}{w:World}
theorem eI.of_keep{w w':World}{t:Hs}(h:eI w pt t v)(hp:w'.heap[pt]?=w.heap[pt]?)(hv:∀b,v.ownBlock=some b->w'.heap[b]?=w.heap[b]?):eI w' pt t v where
 wf:=h.wf
 hd:=hp.trans h.hd
 row:=by
  refine⟨h.row.1,?_⟩;rcases h.row.2 with hn | ⟨g,ad,ai,rfl,hb,hg,rest⟩
  ·exact ab hn
  ·exact ae ⟨g,ad,ai,rfl,hb,(hv g rfl).trans hg,rest⟩
theorem eI.own_lt{t:Hs}(h:eI w pt t v){b:Nat}(hb:v.ownBlock=some b):b<w.heap.size:=by
 rcases h.row.2 with⟨rfl,_⟩ | ⟨g,ad,ai,rfl,_,hg,_⟩
 ·cases hb
 ·injection hb with hb
  have hb:g=b:=hb;subst hb;exact(gl hg)
def YS(Y:Nat->Prop)(ps ph pt:Nat)(v:Value):Nat->Prop:=fun k=>Y k\/k=ps\/k=ph\/k=fy\/k=pt\/v.ownBlock=some k
structure eR (w:World) (ps pa pm ph pt:Nat) (v:Value) (S:St) (Y:Nat->Prop):Prop where
 hd:w.heap[ps]?=some (.cells #[.int .i64 S.t.most,.int .u32 S.t.last,PV pa,PV ph,PV pt] 130 (0,0))
 heap:Fz w ph pa pm S.a (YS Y ps ph pt v)
 tab:eI w pt S.t v
 off:∀k,(Y k\/k=ps\/k=ph\/k=fy)->k≠pt/\v.ownBlock≠some k
def Ig(w:World)(ps:Nat)(S:St)(Y:Nat->Prop):Prop:=∃pa pm ph pt v,eR w ps pa pm ph pt v S Y
theorem eR.cells{ps pa pm ph pt:Nat}(h:eR w ps pa pm ph pt v S Y):
 w.cell? ⟨ps,0,none⟩=some (.int .i64 S.t.most)/\w.cell? ⟨ps,1,none⟩=some (.int .u32 S.t.last)/\w.cell? ⟨ps,2,none⟩=some (PV pa)/\w.cell? ⟨ps,3,none⟩=some (PV ph)/\w.cell? ⟨ps,4,none⟩=some (PV pt):=by
 refine⟨?_,?_,?_,?_,?_⟩<;>· rw[Fs h.hd];rfl
theorem eR.below{w w':World}{ps pa pm ph pt:Nat}(h:eR w ps pa pm ph pt v S Y)(hb:Below w.heap.size w w'):eR w' ps pa pm ph pt v S Y where
 hd:=by rw[hb.block ps (gl h.hd)];exact h.hd
 heap:=h.heap.below hb
 tab:=h.tab.of_keep (hb.block _ h.tab.pt_lt) fun b e=>hb.block _ (h.tab.own_lt e)
 off:=h.off
theorem Ig.below{w w':World}(h:Ig w ps S Y)(hb:Below w.heap.size w w'):Ig w' ps S Y:=by
 obtain⟨pa,pm,ph,pt,v,h⟩:=h;exact⟨pa,pm,ph,pt,v,h.below hb⟩
theorem eR.yl{ps pa pm ph pt:Nat}(h:eR w ps pa pm ph pt v S Y):∀k,Y k->k<w.heap.size:=fun k hk=>h.heap.yl k (ab hk)
theorem Ig.yl(h:Ig w ps S Y):∀k,Y k->k<w.heap.size:=by
 obtain⟨pa,pm,ph,pt,v,h⟩:=h;exact h.yl
theorem Ig.keep{w w':World}(h:Ig w ps S Y)(hb:Below w.heap.size w w'):Fo Y w w':=Fo.of_below hb h.yl
theorem Ig.drewN(h:Ig w ps S Y)(n:Nat):Ig (w.drewN n) ps S Y:=h.below ⟨rfl,rfl,rfl,Nat.le_refl _,fun _ _=>rfl⟩
theorem Ig.mono{Y Z:Nat->Prop}(h:Ig w ps S Y)(hz:∀k,Z k->Y k):Ig w ps S Z:=by
 obtain⟨pa,pm,ph,pt,v,h⟩:=h;refine⟨pa,pm,ph,pt,v,h.hd,h.heap.mono (fun k hk=>hk.imp (hz k) id) (ae (ae (ab rfl))) (ae (ae (ae (ab rfl)))),h.tab,fun k hk=>h.off k (hk.imp (hz k) id)⟩
theorem Ig.wide{w w':World}(h:Ig w ps S Y)(hb:Below w.heap.size w w'):Ig w' ps S (fun k=>Y k\/(w.heap.size<=k/\k<w'.heap.size)):=by
 obtain⟨pa,pm,ph,pt,v,h⟩:=h;have h':=h.below hb;refine⟨pa,pm,ph,pt,v,h'.hd,?_,h'.tab,?_⟩
 ·refine(h.heap.wide hb).mono ?_ (ae (ae (ab rfl))) (ae (ae (ae (ab rfl))));rintro k ((hk | hk) | hk)
  ·exact ab (ab hk)
  ·exact ae hk
  ·exact ab (ae hk)
 ·rintro k ((hk | hk) | hk)
  ·exact h.off k (ab hk)
  ·have h1:=h.tab.pt_lt;refine⟨by omega,fun e=>?_⟩;have:=h.tab.own_lt e;omega
  ·exact h.off k (ae hk)
theorem eR.arena{w w':World}{ps pa pm ph pt:Nat}(h:eR w ps pa pm ph pt v S Y){a:Slab}(ha:Fz w' ph pa pm a (YS Y ps ph pt v))(hk:Fo (YS Y ps ph pt v) w w'):eR w' ps pa pm ph pt v ⟨a,S.t⟩ Y where
 hd:=(hk.block ps (ae (ab rfl))).trans h.hd
 heap:=ha
 tab:=h.tab.of_keep (hk.block pt (ae (ae (ae (ae (ab rfl)))))) fun b e=>hk.block b (ae (ae (ae (ae (ae e)))))
 off:=h.off
theorem YS.self{ps ph pt:Nat}{k:Nat}(h:Y k):YS Y ps ph pt v k:=ab h
theorem eR.table{w w':World}{ps pa pm ph pt:Nat}{v v':Value}(h:eR w ps pa pm ph pt v S Y){t:Hs}(ht:eI w' pt t v')(hm:t.most=S.t.most/\t.last=S.t.last)
 (Z:Nat->Prop) (hZ:∀k,k<w.heap.size->k≠pt->v.ownBlock≠some k->Z k) (hk:Fo Z w w') (hv':∀b,Z b->v'.ownBlock≠some b):eR w' ps pa pm ph pt v' ⟨S.a,t⟩ Y:=by
 have ap:∀k,(Y k\/k=ps\/k=ph\/k=fy)->k<w.heap.size:=fun k hk=>h.heap.yl k (by
  rcases hk with hk | hk | hk | hk
  ·exact ab hk
  ·exact ae (ab hk)
  ·exact ae (ae (ab hk))
  ·exact ae (ae (ae (ab hk))))
 have al:∀k,(Y k\/k=ps\/k=ph\/k=fy)->Z k:=fun k hk=>hZ k (ap k hk) (h.off k hk).1 (h.off k hk).2;obtain⟨ai,hs⟩:=h.heap.slab;have ao:∀k,k<w.heap.size->(k=pa\/k=pm\/∃p∈S.a.keys,k=ai p)->Z k:=fun k hkl hk=>by
  have an:¬YS Y ps ph pt v k:=by
   rcases hk with rfl | rfl | ⟨p,hp,rfl⟩
   ·exact hs.ya
   ·exact hs.ym
   ·exact hs.yp p hp
  exact hZ k hkl (fun e=>an (ae (ae (ae (ae (ab e)))))) (fun e=>an (ae (ae (ae (ae (ae e))))))
 have ad:eh w' pa pm S.a (YS Y ps ph pt v) ai:=hs.of_keep hk.size fun k hkl hkk=>hk.block k (ao k hkl hkk);have a0:eh w' pa pm S.a (YS Y ps ph pt v') ai:=by
  have key:∀k,k<w.heap.size->(k=pa\/k=pm\/∃p∈S.a.keys,k=ai p)->¬YS Y ps ph pt v k->¬YS Y ps ph pt v' k:=fun k hkl hkk hn hy=>by
   rcases hy with hy | hy | hy | hy | hy | hy
   ·exact hn (ab hy)
   ·exact hn (ae (ab hy))
   ·exact hn (ae (ae (ab hy)))
   ·exact hn (ae (ae (ae (ab hy))))
   ·exact hn (ae (ae (ae (ae (ab hy)))))
   ·exact hv' k (ao k hkl hkk) hy
  refine⟨ad.wf,ad.hd,ad.map,ad.pg,ad.inj,?_,?_,?_,?_⟩
  ·exact key pa (gl hs.hd) (ab rfl) hs.ya
  ·exact key pm hs.map.lt (ae (ab rfl)) hs.ym
  ·intro p hp;obtain⟨l,hl⟩:=jP.1 hp;exact key _ (gl (hs.pg _ hl)) (ae (ae ⟨p,hp,rfl⟩)) (hs.yp p hp)
  ·intro k hkk;rcases hkk with hy | hy | hy | hy | hy | hy
   ·exact ad.yl k (ab hy)
   ·exact ad.yl k (ae (ab hy))
   ·exact ad.yl k (ae (ae (ab hy)))
   ·exact ad.yl k (ae (ae (ae (ab hy))))
   ·exact ad.yl k (ae (ae (ae (ae (ab hy)))))
   ·exact ht.own_lt hy
 have ar:=al ph (ae (ae (ab rfl)));have a1:=al fy (ae (ae (ae rfl)));have au:=al ps (ae (ab rfl));refine⟨?_,⟨⟨ai,a0⟩,(hk.block ph ar).trans h.heap.hp,ae (ae (ab rfl)),h.heap.tab.of_block (hk.block _ a1),ae (ae (ae (ab rfl)))⟩,ht,fun k hkk=>⟨(h.off k hkk).1,hv' k (al k hkk)⟩⟩;rw[hk.block ps au,h.hd,hm.1,hm.2]
structure Fv (S:St):Prop where
 len:∀(i:Nat) (h:i<S.t.slots.length),S.t.slots[i].is=1->S.a.rd (S.t.slots[i].addr+1)<=3998/\S.t.slots[i].addr<=2^60
 apart:∀(i j:Nat) (hi:i<S.t.slots.length) (hj:j<S.t.slots.length),i≠j->S.t.slots[i].is=1->S.t.slots[j].is=1->
  S.t.slots[i].addr+2+S.a.rd (S.t.slots[i].addr+1)<=S.t.slots[j].addr\/S.t.slots[j].addr+2+S.a.rd (S.t.slots[j].addr+1)<=S.t.slots[i].addr
theorem Lf.St.at_some{h k:Nat}(hk:S.t.of h=some k)(hlt:k<S.t.slots.length):S.at h=(S.t.slots[k].addr,S.a.rd (S.t.slots[k].addr+1),0):=by
 unfold St.at;rw[sQ hk hlt];rfl
theorem Lf.St.at_none{h:Nat}(hk:S.t.of h=none):S.at h=(0,0,7):=by
 unfold St.at Hs.at;rw[hk];rfl
theorem Fv.at_le(hi:Fv S)(h:Nat):(S.at h).2.1<=3998:=by
 cases hk:S.t.of h with
 | none=>rw[St.at_none hk];simp
 | some k=>
  obtain⟨ad,h1,_⟩:=Hs.of_lt hk;rw[St.at_some hk ad];exact(hi.len k ad h1).1
theorem Fv.addr_le(hi:Fv S)(h:Nat):(S.at h).1<=2^60:=by
 cases hk:S.t.of h with
 | none=>rw[St.at_none hk];simp
 | some k=>
  obtain⟨ad,h1,_⟩:=Hs.of_lt hk;rw[St.at_some hk ad];exact(hi.len k ad h1).2
theorem Lf.St.at_cases(S:St)(h:Nat):(∃addr n,S.at h=(addr,n,0)/\S.t.at h=(addr,0)/\S.a.rd (addr+1)=n)\/(S.at h=(0,0,7)/\S.t.at h=(0,7)):=by
 cases hk:S.t.of h with
 | none=>exact ae ⟨St.at_none hk,by unfold Hs.at;rw[hk]⟩
 | some k=>
  obtain⟨ad,_⟩:=Hs.of_lt hk;exact ab ⟨_,_,St.at_some hk ad,sQ hk ad,rfl⟩
def Lf.St.place(s:St)(h k:Nat):Nat×Nat:=
 match s.at h with
 | (addr,n,0)=>if k<n then(addr+2+k,0) else(0,2)
 | (_,_,e)=>(0,e)
theorem qHdad{P:Prop}(h:P:=by
 rcases S.at_cases h with⟨a,n,h1,_⟩ | ⟨h1,_⟩
 ·rw[h1];simp only
  split<;>rfl
 ·rw[h1]
  rfl):P:=h
theorem Lf.St.get_place(S:St)(h k:Nat):S.get h k=match S.place h k with | (p,0)=>(S.a.rd p,S.a.err p) | (_,e)=>(0,e):=by
 unfold St.get St.place;exact qHdad
theorem Lf.St.put_place(S:St)(h k w:Nat):S.put h k w=match S.place h k with | (p,0)=>(S.a.err p,{ S with a:=S.a.wr p w }) | (_,e)=>(e,S):=by
 unfold St.put St.place;exact qHdad
theorem Fv.place_le(hi:Fv S)(h k:Nat):(S.place h k).1<=2305843009213693952:=by
 have h2:=hi.addr_le h;have h3:=hi.at_le h;unfold St.place
 rcases S.at_cases h with⟨a,n,h1,_⟩ | ⟨h1,_⟩
 ·rw[h1] at h2 h3⊢;simp only at h2 h3⊢
  split<;>simp;omega
 ·rw[h1]
  simp
theorem Lf.St.place_cases(S:St)(h k:Nat):(∃p,S.place h k=(p,0))\/(∃e,S.place h k=(0,e+1)):=by
 unfold St.place
 rcases S.at_cases h with⟨a,n,h1,_⟩ | ⟨h1,_⟩
 ·rw[h1];simp only
  split
  ·exact ab ⟨_,rfl⟩
  ·exact ae ⟨1,rfl⟩
 ·rw[h1];exact ae ⟨6,rfl⟩
theorem sI(h:Ig w ps S Y):
 Ct 90 #[PV ps] w fun e w'=>e=.returned (.bool false)/\w=w':=by
 obtain⟨pa,pm,ph,pt,v,h⟩:=h;obtain⟨_,_,c2,_,_⟩:=h.cells;clear h;go_enter func90,ntmps90
 go_wp2
 go_ret;exact⟨rfl,rfl⟩
theorem sD(h:Ig w ps S Y)(hi:Fv S)(hh:Nat)(hl:hh<2^64):
 Ct 100 #[PV ps,.int .u64 hh] w fun e w'=>e=.returned (.tuple #[.int .i64 ((S.at hh).1:Nat),.int .i64 ((S.at hh).2.1:Nat),.int .i64 ((S.at hh).2.2:Nat)])/\w=w':=by
 have ai:=sI h;have h3:=hi.at_le hh;have h4:=hi.addr_le hh;obtain⟨pa,pm,ph,pt,v,h⟩:=h;obtain⟨_,_,c2,_,c4⟩:=h.cells;have ad:=EH h.tab hh hl
 rcases S.at_cases hh with⟨a,n,h1,h2,hn⟩ | ⟨h1,h2⟩
 ·rw[h1] at h3 h4⊢;rw[h2] at ad;simp only at h3 h4 ad⊢;have al:=h.heap.read (a+1) (by omega);rw[hn] at al;have HG:=kq3 ai ad al;clear ai ad h h1 h2 hn al;go_enter func100,ntmps100;go_wp2_with fail;refine HG.a.mono ?_;rintro e w1 ⟨rfl,rfl⟩;go_wp2_with fail;refine HG.b.mono ?_;rintro e w1 ⟨rfl,rfl⟩;go_wp2_with fail;refine HG.c.mono ?_;rintro e w1 ⟨rfl,rfl⟩;go_wp2_with fail;go_ret3;exact⟨rfl,rfl⟩
 ·rw[h1];rw[h2] at ad;simp only at ad⊢;have HG:=kq2 ai ad;clear ai ad h h1 h2;go_enter func100,ntmps100;go_wp2_with fail;refine HG.a.mono ?_;rintro e w1 ⟨rfl,rfl⟩;go_wp2_with fail;refine HG.b.mono ?_;rintro e w1 ⟨rfl,rfl⟩;go_wp2_with fail;go_ret3;exact⟨rfl,rfl⟩
theorem fB(h:Ig w ps S Y)(hi:Fv S)(hh:Nat)(hl:hh<2^64):
 Ct 85 #[PV ps,.int .u64 hh] w fun e w'=>e=.returned (.tuple #[.int .i64 ((S.len hh).1:Nat),.int .i64 ((S.len hh).2:Nat)])/\w=w':=by
 have ad:=sD h hi hh hl;unfold St.len;generalize S.at hh=r at*;have HG:=If ad;clear ad h hi;go_enter func85,ntmps85;go_wp2_with fail;refine HG.out.mono ?_;rintro e w1 ⟨rfl,rfl⟩;go_wp2_with fail;go_ret2;exact⟨rfl,rfl⟩
theorem qHdaf{P:Prop}(h:P:=by
 have HG:=kq2 ad hR;clear ad hR h hi h1 hkn;go_enter func123,ntmps123;exact qHdaa):P:=h
theorem qHdaa{P:Prop}(h:P:=by
 go_wp2_with fail;refine HG.a.mono ?_;rintro e w1 ⟨rfl,rfl⟩;go_wp2_with fail;go_ret2;obtain rfl:=HG.b;exact⟨rfl,rfl⟩):P:=h
theorem sJ(h:Ig w ps S Y)(hi:Fv S)(hh k:Nat)(hl:hh<2^64)(hk:k<=2^62):
 Ct 123 #[PV ps,.int .u64 hh,.int .i64 k] w fun e w'=>e=.returned (.tuple #[.int .i64 ((S.place hh k).1:Nat),.int .i64 ((S.place hh k).2:Nat)])/\w=w':=by
 have ad:=sD h hi hh hl;have h3:=hi.at_le hh;have h4:=hi.addr_le hh;obtain⟨R,hR⟩:=Ii (S.place hh k);rw[hR];unfold St.place at hR
 rcases S.at_cases hh with⟨a,n,h1,_⟩ | ⟨h1,_⟩
 ·rw[h1] at h3 h4 ad hR;simp only at h3 h4 ad hR
  by_cases hkn:k<n
  ·rw[if_pos hkn] at hR;have ai:(k:Int)<n:=by omega
   exact qHdaf
  ·rw[if_neg hkn] at hR;have ai:(n:Int)<=k:=by omega
   exact qHdaf
 ·rw[h1] at ad hR;simp only at ad hR;have HG:=kq2 ad hR;clear ad hR h hi h1;go_enter func123,ntmps123;exact qHdaa
theorem sG(h:Ig w ps S Y)(hi:Fv S)(hh k:Nat)(hl:hh<2^64)(hk:k<=2^62):
 Ct 96 #[PV ps,.int .u64 hh,.int .i64 k] w fun e w'=>e=.returned (.tuple #[.int .u64 ((S.get hh k).1:Nat),.int .i64 ((S.get hh k).2:Nat)])/\w=w':=by
 have ad:=sJ h hi hh k hl hk;have h3:=hi.place_le hh k;obtain⟨pa,pm,ph,pt,v,h⟩:=h;obtain⟨_,_,c2,_,_⟩:=h.cells;obtain⟨R,hR⟩:=Ii (S.get hh k);rw[hR];rw[St.get_place] at hR
 rcases S.place_cases hh k with⟨p,h1⟩ | ⟨er,h1⟩
 ·rw[h1] at ad h3 hR;simp only at ad h3 hR;have al:=h.heap.read p (by omega);have HG:=kq3 ad hR al;clear ad hR h hi h1 al;go_enter func96,ntmps96;go_wp2_with fail;refine HG.a.mono ?_;rintro e w1 ⟨rfl,rfl⟩;go_wp2_with fail;refine HG.c.mono ?_;rintro e w1 ⟨rfl,rfl⟩;go_wp2_with fail;go_ret2;obtain rfl:=HG.b;exact⟨rfl,rfl⟩
 ·rw[h1] at ad hR;simp only at ad hR;have an:(((er+1:Nat):Int) !=0)=true:=by simp;omega
  obtain⟨g1,ai⟩:=Ii (er+1);rw[ai] at ad hR an;have HG:=kq2 ad hR;clear ad hR h hi h1 ai;go_enter func96,ntmps96;exact qHdaa
theorem xl(h:Ig w ps S Y)(hi:Fv S)(hh k x:Nat)(hl:hh<2^64)(hk:k<=2^62)(hx:x<2^64):
 Ct 99 #[PV ps,.int .u64 hh,.int .i64 k,.int .u64 x] w fun e w'=>e=.returned (.int .i64 ((S.put hh k x).1:Nat))/\Ig w' ps (S.put hh k x).2 Y/\Fo Y w w':=by
 have ad:=sJ h hi hh k hl hk;have h3:=hi.place_le hh k;have hY:=h.yl;obtain⟨R,hR⟩:=Ii (S.put hh k x);rw[hR];rw[St.put_place] at hR
 rcases S.place_cases hh k with⟨p,h1⟩ | ⟨er,h1⟩
 ·rw[h1] at ad h3 hR;simp only at ad h3 hR;obtain⟨pa,pm,ph,pt,v,h⟩:=h;obtain⟨_,_,c2,_,_⟩:=h.cells;have an:=h.heap.write p x (by omega) hx;have HG:=kq4 ad hR an h;clear ad hR h hi h1 an hY;go_enter func99,ntmps99;go_wp2_with fail;refine HG.a.mono ?_;rintro e w1 ⟨rfl,rfl⟩;go_wp2_with fail;refine HG.c.mono ?_;rintro e w1 ⟨rfl,ha,ai⟩;have HA:=kq2 (HG.d.arena ha ai) (ai.mono fun _=>YS.self);clear ha ai;go_wp2_with fail;go_ret;obtain rfl:=HG.b;exact⟨rfl,⟨_,_,_,_,_,HA.a⟩,HA.b⟩
 ·rw[h1] at ad hR;simp only at ad hR;have ao:(((er+1:Nat):Int) !=0)=true:=by simp;omega
  obtain⟨g1,al⟩:=Ii (er+1);rw[al] at ad hR ao;have HG:=kq3 ad hR h;clear ad hR h hi h1 al hY;go_enter func99,ntmps99;go_wp2_with fail;refine HG.a.mono ?_;rintro e w1 ⟨rfl,rfl⟩;go_wp2_with fail;go_ret;obtain rfl:=HG.b;exact⟨rfl,HG.c,Fo.refl _ _⟩
end
section
open Go.RowKit Tryz Go.BigFrame Go.Maps Go.WideMaps Lf
open Go.Shelf
variable{B:Nat}{W:World}{Y:Nat->Prop}{blk:Nat->Nat}{v:Value}{w:World}
def Cx(W:World)(B i:Nat)(v:Value):Prop:=W.cell? ⟨B,i,none⟩=some v/\W.frozen? ⟨B,i,none⟩=false
theorem Cx.kept{W W':World}{row:Option Nat}{B i:Nat}(h:Cx W B i v)(hg:W.grownBy W' row)(hr:∀r,row=some r->∃o:Obj,W.heap[r]?=some o/\o.isCells=false):Cx W' B i v:=
 ⟨cell_kept h.1 hg hr,(frozen_kept h.1 hg hr).trans h.2⟩
theorem Cx.alloc{B i:Nat}(h:Cx W B i v)(o:Obj):Cx (W.alloc o) B i v:=h.kept (World.grownBy_alloc W o none) (fun r e=>by cases e)
theorem Cx.set{B i:Nat}(h:Cx W B i v)(u:Value):Cx (W.setCell ⟨B,i,none⟩ u) B i u:=
 ⟨World.cell?_setCell_same' _ _ _ (by rw[h.1];rfl),by rw[World.frozen?_setCell];exact h.2⟩
theorem Cx.other{B C i j:Nat}(h:Cx W B i v)(u:Value)(hne:B≠C):Cx (W.setCell ⟨C,j,none⟩ u) B i v:=by
 refine⟨?_,by rw[World.frozen?_setCell];exact h.2⟩;have e:(W.setCell ⟨C,j,none⟩ u).cell? ⟨B,i,none⟩=W.cell? ⟨B,i,none⟩:=World.cell?_of_block (dq W ⟨C,j,none⟩ u B hne);rw[e];exact h.1
theorem Cx.put{B D i:Nat}{o o':Obj}(h:Cx W B i v)(hD:W.heap[D]?=some o)(ho:o.isCells=false):Cx (W.putObj D o') B i v:=
 h.kept (grownBy_putObj' W D o') (fun r e=>by cases e;exact⟨o,hD,ho⟩)
theorem Cx.below{W W':World}{B n i:Nat}(h:Cx W B i v)(hb:Below n W W')(hB:B<n):Cx W' B i v:=
 ⟨(hb.cell (p:=⟨B,i,none⟩) hB).trans h.1,(hb.frozen (p:=⟨B,i,none⟩) hB).trans h.2⟩
theorem Cx.lt{B i:Nat}(h:Cx W B i v):B<W.heap.size:=by
 have:=h.1;unfold World.cell? at this
 split at this
 ·rename_i heq;exact(gl heq)
 ·cases this
def Hx(W:World)(B:Nat)(x:Hr):Prop:=W.heap[B]?=some (.cells #[.int .i64 x.kind,.int .i64 x.n,.int .u64 x.w] 196 (0,0))
theorem Hx.new(W:World)(x:Hr):Hx (W.alloc (.cells #[.int .i64 x.kind,.int .i64 x.n,.int .u64 x.w] 196)) W.heap.size x:=by
 show (W.heap.push _)[W.heap.size]?=_
 simp
theorem Hx.lt{x:Hr}(h:Hx W B x):B<W.heap.size:=(gl h)
theorem Hx.kept{W W':World}{row:Option Nat}{x:Hr}(h:Hx W B x)(hg:W.grownBy W' row)(hr:∀r,row=some r->∃o:Obj,W.heap[r]?=some o/\o.isCells=false):Hx W' B x:=
 (hg.block B h.lt (fun e=>by
  obtain⟨o,ho,hc⟩:=hr B e.symm;rw[show W.heap[B]?=_ from h] at ho;injection ho with ho
  rw[<-ho] at hc;cases hc)).trans h
theorem Hx.alloc{x:Hr}(h:Hx W B x)(o:Obj):Hx (W.alloc o) B x:=h.kept (World.grownBy_alloc W o none) (fun r e=>by cases e)
theorem Hx.other{B C j:Nat}{x:Hr}(h:Hx W B x)(u:Value)(hne:B≠C):Hx (W.setCell ⟨C,j,none⟩ u) B x:=(dq W ⟨C,j,none⟩ u B hne).trans h
theorem Hx.put{B D:Nat}{x:Hr}{o o':Obj}(h:Hx W B x)(hD:W.heap[D]?=some o)(ho:o.isCells=false):Hx (W.putObj D o') B x:=
 h.kept (grownBy_putObj' W D o') (fun r e=>by cases e;exact⟨o,hD,ho⟩)
theorem Hx.below{W W':World}{B n:Nat}{x:Hr}(h:Hx W B x)(hb:Below n W W')(hB:B<n):Hx W' B x:=(hb.block B hB).trans h
theorem Hx.set{x:Hr}(h:Hx W B x)(y:Hr):Hx (((W.setCell ⟨B,0,none⟩ (.int .i64 y.kind)).setCell ⟨B,1,none⟩ (.int .i64 y.n)).setCell ⟨B,2,none⟩ (.int .u64 y.w)) B y:=by
 have:=heap_setCell (v:=.int .u64 y.w) (i:=2) (heap_setCell (v:=.int .i64 y.n) (i:=1) (heap_setCell (v:=.int .i64 y.kind) (i:=0) h));exact this
theorem Hx.c0{x:Hr}(h:Hx W B x):Cx W B 0 (.int .i64 x.kind):=⟨by rw[Fs h];rfl,AT h⟩
theorem Hx.c1{x:Hr}(h:Hx W B x):Cx W B 1 (.int .i64 x.n):=⟨by rw[Fs h];rfl,AT h⟩
theorem Hx.c2{x:Hr}(h:Hx W B x):Cx W B 2 (.int .u64 x.w):=⟨by rw[Fs h];rfl,AT h⟩
theorem lO(addr p:Nat)(x:Hr)(r:List (Nat×Hr)):fS addr ((p,x)::r)=
 if x.kind=2/\addr=p*64+2 then some (p,0,x)
 else if x.kind≠1\/addr / 64≠p then fS addr r
 else match km addr p x with
  | some k=>some (p,k,x)
  | none=>fS addr r:=rfl
theorem qx(addr:Nat)(x:Nat×Hr):∀q:List (Nat×Hr),fS addr q=none->fS addr (q++[x])=fS addr [x]
 | [],_=>rfl
 | (p,y)::q,h=>by
  rw[lO] at h;rw[aP,lO];split at h
  ·cases h
  ·rename_i h1;rw[if_neg h1];split at h
   ·rename_i h2;rw[if_pos h2];exact qx addr x q h
   ·rename_i h2;rw[if_neg h2];split at h
    ·cases h
    ·exact qx addr x q h
theorem qy(addr:Nat)(r:Nat×Nat×Hr):∀q t:List (Nat×Hr),fS addr q=some r->fS addr (q++t)=some r
 | (p,y)::q,t,h=>by
  rw[lO] at h;rw[aP,lO];split at h
  ·rename_i h1;rw[if_pos h1];exact h
  ·rename_i h1;rw[if_neg h1];split at h
   ·rename_i h2;rw[if_pos h2];exact qy addr r q t h
   ·rename_i h2;rw[if_neg h2];split at h
    ·exact h
    ·exact qy addr r q t h
def od(r:Option (Nat×Nat×Hr)):Value:=match r with | some (p,k,x)=> .tuple #[.int .i64 p,.int .i64 k,fT x,.bool true] | none=> .tuple #[.int .i64 0,.int .i64 0,fT ⟨0,0,0⟩,.bool false]
theorem AU{q:Nat->Bool}{m:Nat}(h:∀j,j<m->q j=false):(List.range m).find? q=none:=
 bF.2 fun j hj=>by rw[h j (bJ.1 hj)];simp
theorem AV{q:Nat->Bool}{m k:Nat}(hk:k<m)(hq:q k=true)(h:∀j,j<k->q j=false):(List.range m).find? q=some k:=by
 rw[List.find?_eq_some_iff_append];refine⟨hq,List.range k,(List.range (m-k-1)).map (·+(k+1)),?_,fun j hj=>by rw[h j (bJ.1 hj)];rfl⟩;rw[show m=k+((m-k-1)+1) by omega,List.range_add,List.range_succ_eq_map]
 simp
 intro a _;omega
attribute [local go_sem] Oper.semAt_some
theorem Em{pa pm:Nat}{s:Slab}(h:eh w pa pm s Y blk)(hz:s.keys=[]):
 Cb 132 #[PV pa] w (.slice none 0 0):=by
 refine(callsIn_wide (n:=6)).1 ?_;have ao:=h.map.lt;have c1:=h.cells.2;have ar:CallsIn Fence.wide 5 prog 142 #[PV pa] w _:=callsIn_wide.2 (ly h);have ai:Maps.size (fM s.keys blk)<=maxLen:=by
  rw[ls,i8];have:=h.wf.room;have:=h.wf.quota;unfold maxLen;omega
 have ad:Maps.size (fM s.keys blk)*8<=140737488355328:=by
  rw[ls,i8];have:=h.wf.room;have:=h.wf.quota;omega
 have al:SeqGives Fence.wide 2 prog 175 #[.pointer (some ⟨w.heap.size,0,none⟩)] encZ (fun ss=>ss.Perm (intKeys (fM s.keys blk))) (Maps.size (fM s.keys blk)) (w.alloc (.cells #[.map (some pm)] 169)):=
  AnyZI.keys_gives (ρ:=keysA_ren) { keysA with } Fence.wide _ trivial rfl (by omega) w.heap.size pm s.pages.length (fM s.keys blk) _ (by simp) (by simp) (by
   obtain⟨es,an,hb,Ft,hs,hD⟩:=h.map;exact⟨es,an,(Below.heap_alloc _ _ pm ao).trans hb,Ft,hs,hD⟩)
 have cK:∀mb W,CallsIn Fence.wide 5 prog 154 #[.map mb] W fun e w'=>e=.returned (.func (.func 175) #[] #[.pointer (some ⟨W.heap.size,0,none⟩)])/\w'=W.alloc (.cells #[.map mb] 169):=fun mb W=>AnyZI.keys_in keysA Fence.wide 5 trivial rfl mb W;have cS:=AnyZI.sorted_in sortedA Fence.wide 5 trivial trivial trivial trivial rfl (by omega) (wY _) (enters_of func174 (by kernel_rfl) rfl) 175 #[.pointer (some ⟨w.heap.size,0,none⟩)] trivial (enters_of func175 (by kernel_rfl) rfl) _ _ ai ad _ al;change CallsIn _ _ prog 153 _ _ _ at cS;have au:Fence.wide.fn 154:=trivial;have a1:Fence.wide.fn 153:=trivial;have a0:Fence.wide.fn 142:=trivial;have HS:=If h;clear h ai ad al;refine callsIn_of_wp func132 rfl trivial ?_ rfl;simp only[ntmps132,bp,ak,aK,Nat.reduceAdd,Nat.reduceSub,aV,aW,bw,aZ,aU,aP]
 gi_wp2_with (first
  | (gi_at_call 142;refine ar.mono ?_;rintro e w' ⟨rfl,rfl⟩)
  | (gi_at_call 154;refine(cK _ _).mono ?_;rintro e w' ⟨rfl,rfl⟩)
  | (gi_at_call 153;refine cS.mono ?_;rintro e w' ⟨v,ss,rfl,hS,hrow,ap,hb⟩))
 go_ret;obtain⟨hl,_⟩:=wX HS.out.wf hS;rw[hz] at hl;obtain rfl:=ap.2 (ci.1 hl);exact⟨rfl,((aa _ w).alloc Ih _).trans (hb.mono (by simp))⟩
theorem Fz.pages_nil{ph pa pm q:Nat}(h:Fz w ph pa pm ⟨q,[]⟩ Y):
 Cb 132 #[PV pa] w (.slice none 0 0):=by
 obtain⟨ad,hs⟩:=h.slab;exact Em hs rfl
theorem Bo{ph pa pm q:Nat}(h:Fz w ph pa pm ⟨q,[]⟩ Y):
 Cb 103 #[PV ph] w (.int .i64 0):=by
 refine(callsIn_wide (n:=7)).1 ?_;have h1:1<=7:=by omega
 have a4:Fence.wide.fn 110:=trivial;have a3:Fence.wide.fn 128:=trivial;have a5:Fence.wide.fn 132:=trivial;have a1:∀W,Fz W ph pa pm ⟨q,[]⟩ Y->CallsIn Fence.wide 6 prog 110 #[PV ph] W _:=fun W hW=>callsIn_wide.2 (qV hW);have a0:∀W,CallsIn Fence.wide 6 prog 128 #[PV ph] W _:=fun W=>callsIn_wide.2 (qQ ph W);have HR:=If h;clear h;refine callsIn_of_wp_marks func103 rfl trivial ?_ rfl;simp only[ntmps103,bp,ak,aK,Nat.reduceAdd,Nat.reduceSub,aV,aW,bw,aZ,aU,aP];gi_wp2_with fail;have c0:=(Bx.new w (PV ph) 126).alloc (.cells #[.int .i64 0] 30);have c1:=Bx.new (w.alloc (.cells #[PV ph] 126)) (.int .i64 0) 30;have ai:Below w.heap.size w ((w.alloc (.cells #[PV ph] 126)).alloc (.cells #[.int .i64 0] 30)):=((aa _ w).alloc Ih _).alloc (by simp) _;simp only[World.size_alloc] at c1;have ar:((w.alloc (.cells #[PV ph] 126)).alloc (.cells #[.int .i64 0] 30)).heap.size=w.heap.size+1+1:=by simp
 generalize ((w.alloc (.cells #[PV ph] 126)).alloc (.cells #[.int .i64 0] 30))=w2 at*;refine(a1 w2 (HR.out.below ai)).mono ?_;rintro e w3 ⟨rfl,rfl⟩;have k0:=c0.1;have H2:=kq4 c0 c1 ai ar;clear c0 c1 ai;gi_wp2_with fail;refine(a0 _).mono ?_;rintro e w4 ⟨rfl,rfl⟩;gi_wp2_with fail;have k4:Bx (((w2.alloc (.cells #[.int .i64 0] 3)).alloc (.cells #[PV ph] 126))) (w.heap.size+1+1) (.int .i64 0):=by
  have:=(Bx.new w2 (.int .i64 0) 3).alloc (.cells #[PV ph] 126);rwa[H2.d] at this
 have k5:Bx (((w2.alloc (.cells #[.int .i64 0] 3)).alloc (.cells #[PV ph] 126))) (w.heap.size+1+1+1) (PV ph):=by
  have:=Bx.new (w2.alloc (.cells #[.int .i64 0] 3)) (PV ph) 126;rwa[World.size_alloc,H2.d] at this
 have c0:=(H2.a.alloc (.cells #[.int .i64 0] 3)).alloc (.cells #[PV ph] 126);have c1:=(H2.b.alloc (.cells #[.int .i64 0] 3)).alloc (.cells #[PV ph] 126);have ao:Below w.heap.size w ((w2.alloc (.cells #[.int .i64 0] 3)).alloc (.cells #[PV ph] 126)):=(H2.c.alloc (by omega) _).alloc (by simp;omega) _;have a7:((w2.alloc (.cells #[.int .i64 0] 3)).alloc (.cells #[PV ph] 126)).heap.size=w.heap.size+1+1+1+1:=by simp[H2.d]
 clear ar k0;generalize ((w2.alloc (.cells #[.int .i64 0] 3)).alloc (.cells #[PV ph] 126))=W0 at*;have hW:=HR.out.wide ao;refine wpIn_rangeFunc_ownH rfl h1 (gf:=151) (lb:=#[PV (w.heap.size+1+1+1)]) rfl trivial (enters_of func151 (by kernel_rfl) rfl)
  (qR hW (Z:=fun _=>False) (fun k hk=>hk.elim) (w.heap.size+1+1+1) k5.1 id) fe.trans (fun W l o o' h1 h2 h3 h4=>fe.put W l o o' h1 h2 h3 h4) (aa _ _) (fun _=>rfl)
  (fun _ W=>(Bx W w.heap.size (PV ph)/\Bx W (w.heap.size+1) (.int .i64 0)/\Bx W (w.heap.size+1+1) (.int .i64 0))/\Below w.heap.size w W)
  (fun _ _ _=>False)
  (OwnFrom.and (Own.from (fun s A B row hs hg hr=>⟨hs.1.kept hg hr,hs.2.1.kept hg hr,hs.2.2.kept hg hr⟩) _) (ownFrom_below Ih (by omega)))
  (fun cd=>Own.from (fun s A B row hs hg hr=>hs) _)
  ⟨⟨c0,c1,k4⟩,ao⟩
  (fun x a' W=>True) (fun x a' _ X W' row hs hg hr=>trivial)
  ?assign ?body ?done ?stop
 case assign=>
  rintro l au ⟨⟨p,kd,xn,xw⟩,hx⟩ W K ⟨⟨i0,i1,i2⟩,hB⟩ hK;have HH:=kq4 i0 i1 i2 hB;have HK:=If hK;clear i0 i1 i2 hB hK;simp only[mF,fT]
  gi_wp2
  have al:=HH.d;exact HK.out _ _ ((KeepsOthers.alloc _ _).from _) (fe.of_below ((aa _ W).alloc Ih _)) ⟨⟨HH.a.alloc _,HH.b.alloc _,HH.c.alloc _⟩,al.alloc al.size _⟩ trivial
 case body=>
  intro l au x a' W _ _ _ _ hlt;exact absurd hlt (Nat.not_lt_zero _)
 case done=>
  rintro D ys W hD _ ⟨⟨i0,i1,i2⟩,hB⟩ hK;have hH:=HR.out.below hB;have ca:=hH.cell;have k0:=i0.1;have k2:=i2.1;obtain⟨k1,f1⟩:=id i1;have ap:∀x:Fq (Below W.heap.size W),CallsIn Fence.wide 6 prog 132 #[PV pa] x.to _:=fun x=>CallsIn.keeps_below (callsIn_wide.2 (hH.below x.ok).pages_nil);have a8:∀x:Fq (Below W.heap.size W),x.to.cell? ⟨w.heap.size,0,none⟩=some (PV ph):=fun x=>(x.ok.cell (p:=⟨w.heap.size,0,none⟩) (Cx.lt (show Cx W _ 0 _ from i0))).trans k0;have a9:∀x:Fq (Below W.heap.size W),x.to.cell? ⟨w.heap.size+1+1,0,none⟩=some (.int .i64 0):=fun x=>(x.ok.cell (p:=⟨w.heap.size+1+1,0,none⟩) (Cx.lt (show Cx W _ 0 _ from i2))).trans k2;have ba:∀x:Fq (Below W.heap.size W),x.to.cell? ⟨ph,0,none⟩=some (PV pa):=fun x=>(x.ok.cell (p:=⟨ph,0,none⟩) hH.lt).trans ca;have HH:=kq3 ap hB i1;clear hB i0 i1 i2 hH;gi_wp2_with fail;refine pq (Below W.heap.size W) (by kernel_rfl) (by kernel_rfl) (by kernel_rfl) ⟨rfl,rfl,rfl,Nat.le_refl _,fun _ _=>rfl⟩ fun⟨x0⟩=>?_
  repeat (first | gi_big_quiet_skip | (gi_big_quiet_want;gi_big_quiet_op;first | go_big_quiet_on | (apply Exists.intro;refine⟨fun x=>?_,?_⟩;(· with_reducible exact ap x);go_big_quiet_on)))
  refine wpQuietIn_nil ?_;rintro _ ⟨x,rfl⟩;have j1:=HH.c.below x.ok (Cx.lt (show Cx W _ 0 _ from HH.c));obtain⟨bb,a2⟩:=id j1;have an:x.to.heap[D]?=some (.deferred (some [])):=(x.ok.block D (gl hK)).trans hK;have HX:=kq3 j1 an (HH.b.trans (x.ok.mono HH.b.size));clear j1 an
  gi_wp2
  have ad:=(KeepsOthers.setCell x.to ⟨w.heap.size+1,0,none⟩ (.int .i64 0)).same D _ HX.b rfl;refine⟨by simp,.inl ⟨_,_,rfl,run_takeDeferred ad,?_⟩⟩;have r1:=((HX.a.set (.int .i64 0)).put (o':=.deferred none) ad rfl).1;refine⟨.int .i64 0,?_,rfl,(HX.c.setCell (p:=⟨w.heap.size+1,0,none⟩) (by simp) _).trans (belowK_b (w:=w) Ih _ D _ _ (by omega) ad rfl rfl)⟩
  simp[results,f103,go_sem,r1]
 case stop=>
  rintro D cd au W hD a6 hF;exact hF.elim
theorem Bw{pa pm q:Nat}(hs:eh w pa pm ⟨q,[]⟩ Y blk)(ht:gA w)(hyt:Y fy):
 Ct 78 #[PV pa] w fun e w'=>e=.returned (.tuple #[PV w.heap.size,.int .i64 0])/\Fz w' w.heap.size pa pm ⟨q,[]⟩ (lE Y w.heap.size)/\Below w.heap.size w w':=by
 have ad:=wR hs 0 (by omega);have al:Slab.err ⟨q,[]⟩ 0=5:=rfl;rw[al] at ad;have hH:Fz (w.alloc (.cells #[PV pa] 177)) w.heap.size pa pm ⟨q,[]⟩ (lE Y w.heap.size):=by
  have hb:=(aa _ w).alloc Ih (.cells #[PV pa] 177);exact⟨⟨blk,hs.own _⟩,heap_alloc_new w _,ae rfl,ht.of_block (hb.block _ (hs.yl _ hyt)),ab hyt⟩
 have ai:=Bo hH;have HG:=kq3 ad ai hH;clear ad ai hH al hs ht hyt;go_enter func78,ntmps78;go_wp2_with fail;refine HG.a.mono ?_;rintro e w1 ⟨rfl,rfl⟩;go_wp2_with fail;refine HG.b.mono ?_;rintro e w1 ⟨rfl,hb⟩;have HB:=If hb;clear hb;go_wp2_with fail;go_ret2;exact⟨rfl,HG.c.below HB.out,((aa _ w).alloc Ih _).trans (HB.out.mono (by simp))⟩
end
section
open Go.RowKit Tryz Go.BigFrame Go.Maps Go.WideMaps Lf
variable{Y:Nat->Prop}{w:World}
theorem Fz.pages'{ph pa pm:Nat}{s:Slab}(h:Fz w ph pa pm s Y):
 Ct 132 #[PV pa] w fun e w'=>∃v,e=.returned v/\kU w' w.heap.size v s.keys/\Below w.heap.size w w':=by
 obtain⟨ad,hs⟩:=h.slab;exact wQ hs
theorem xo{ps:Nat}{S:St}(h:Ig w ps S Y):
 Cb 185 #[PV ps] w (.int .i64 (S.words:Nat)):=by
 have ad:=sI h;obtain⟨pa,pm,ph,pt,v,h⟩:=h;obtain⟨_,_,c2,_,_⟩:=h.cells;have hw:=h.heap.wf;have h1:=hw.room;have h2:=hw.quota;have hk:=i8 S.a;have ai:Ct 132 #[PV pa] w fun e w'=>(∃A c,e=.returned (.slice A S.a.pages.length c))/\Below w.heap.size w w':=by
  refine h.heap.pages'.mono ?_;rintro e w' ⟨v,rfl,⟨A,c,rfl,_⟩,hb⟩;exact⟨⟨A,c,by rw[hk]⟩,hb⟩
 unfold St.words;generalize S.a.pages.length=m at*;have HG:=kq2 ad ai;have hm:m<=262144:=by omega
 clear ad ai hk h hw h1 h2;go_enter func185,ntmps185;go_wp2_with fail;refine HG.a.mono ?_;rintro e w1 ⟨rfl,rfl⟩;go_wp2_with fail;refine HG.b.mono ?_;rintro e w1 ⟨⟨A,c,rfl⟩,hb⟩;have HB:=If hb;clear hb;go_wp2_with fail;go_ret;exact⟨by simp,HB.out⟩
theorem eh.empty_more{pa pm q:Nat}{blk:Nat->Nat}(h:eh w pa pm ⟨q,[]⟩ Y blk):eh w pa pm ⟨q,[]⟩ (fun k=>k<w.heap.size/\k≠pa/\k≠pm) blk:=
 ⟨h.wf,h.hd,h.map,h.pg,h.inj,fun k=>k.2.1 rfl,fun k=>k.2.2 rfl,fun p hp=>absurd hp (by simp[Slab.keys]),fun _ k=>k.1⟩
theorem qHdae{P:Prop}(h:P:=by
 exact ab (ab ⟨by omega,by omega,by omega⟩)):P:=h
theorem qHdac{P:Prop}(h:P:=by
 exact⟨by omega,by simp[Value.ownBlock]⟩):P:=h
theorem xp(ht:gA w)(q n l:Nat)(hq:q<=262144)(hn:1<=n/\n<=65536)(hl:1<=l/\l<4294967296):
 Ct 47 #[.int .i64 q,.int .i64 n,.int .u32 l] w fun e w'=>∃ps,e=.returned (.tuple #[PV ps,.int .i64 0])/\Ig w' ps ⟨⟨q,[]⟩,⟨n,l,[]⟩⟩ (fun k=>k<w.heap.size)/\Below w.heap.size w w':=by
 have a8:fy<w.heap.size:=ht.lt;have h1:=El q w (fun k=>k<w.heap.size) (fun _ k=>k) hq;have HG:=kq2 h1 ht;clear h1 ht;go_enter func47,ntmps47;go_wp2_with fail;refine HG.a.mono ?_;rintro e w1 ⟨rfl,hs,hk⟩;have ar:=hs.map.lt;have ap:=(gl hs.hd);have H1:=kq4 hs hk.below ar ap;clear hs hk ar ap;go_wp2_with fail;refine(EK n l w1 hn hl).mono ?_;rintro e w2 ⟨rfl,al,an⟩;have au:=(H1.a.below an).empty_more;have ai:=H1.b.trans (an.mono H1.b.size);have a0:=H1.b.size;have a1:=an.size;have ao:=al.pt_lt;have H2:=kq6 au al ai a0 a1 ao;clear au al an ai a0 a1 ao;go_wp2_with fail;have a2:gA w2:=HG.b.below H2.c Ih;have hz:fy<w2.heap.size/\fy≠w.heap.size+1/\fy≠w.heap.size:=⟨by have:=H2.c.size;omega,by omega,by omega⟩;refine(Bw H2.a a2 hz).mono ?_;rintro e w3 ⟨rfl,hH,ad⟩;have H3:=kq2 hH ad;clear hH ad a2 hz;go_wp2_with fail;go_ret2;have ad:=H3.b;obtain⟨au,al,ai,a0,a1,ao⟩:=H2.out;obtain⟨_,_,ar,ap⟩:=H1.out;have a5:=ad.size;have hH:=H3.a.own (.cells #[.int .i64 n,.int .u32 l,PV (w.heap.size+1),PV w2.heap.size,PV w1.heap.size] 130 (0,0));have a3:Below w3.heap.size w3 (w3.alloc (.cells #[.int .i64 n,.int .u32 l,PV (w.heap.size+1),PV w2.heap.size,PV w1.heap.size] 130 (0,0))):=(aa _ w3).alloc Ih _;have a6:=ai.size;have a4:=ai.trans ((ad.trans (a3.mono a5)).mono a6);have a7:=H3.a.lt;refine⟨w3.heap.size,rfl,⟨w.heap.size+1,w.heap.size,w2.heap.size,w1.heap.size,.slice none 0 0,heap_alloc_new w3 _,?_,?_,?_⟩,a4⟩
 ·refine hH.mono ?_ (ae (ae (ab rfl))) (ae (ae (ae (ab rfl))));rintro k (hk | hk | hk | hk | hk | hk)
  ·exact qHdae
  ·exact ae hk
  ·exact ab (ae hk)
  ·subst hk;exact qHdae
  ·subst hk;exact qHdae
  ·cases hk
 ·exact al.of_keep (by rw[a3.block _ (by omega),ad.block _ ao]) fun b hb=>by cases hb
 ·rintro k (hk | hk | hk | hk)
  ·exact qHdac
  ·subst hk;exact qHdac
  ·subst hk;exact qHdac
  ·subst hk;exact qHdac
end
section
open Lf
variable{S:St}
theorem vy(p i x:Nat):∀(l:List (Nat×fQ)) (q:Nat),(l.map fun y=>if y.1=p then(y.1,y.2.set i x) else y).lookup q=(l.lookup q).map fun t=>if q=p then t.set i x else t
 | [],q=>rfl
 | (a,t)::l,q=>by
  have ih:=vy p i x l q;by_cases h2:a=p
  ·have e:((a,t)::l).map (fun y=>if y.1=p then(y.1,y.2.set i x) else y)=(a,t.set i x)::l.map (fun y=>if y.1=p then(y.1,y.2.set i x) else y):=by simp[h2]
   rw[e,dp,dp];by_cases h1:q=a
   ·simp[h1,h2]
   ·have ad:(q==a)=false:=by simpa using h1
    simp only[ad];exact ih
  ·have e:((a,t)::l).map (fun y=>if y.1=p then(y.1,y.2.set i x) else y)=(a,t)::l.map (fun y=>if y.1=p then(y.1,y.2.set i x) else y):=by simp[h2]
   rw[e,dp,dp];by_cases h1:q=a
   ·simp[h1,h2]
   ·have ad:(q==a)=false:=by simpa using h1
    simp only[ad];exact ih
theorem Lf.Slab.page?_wr(s:Slab)(a x q:Nat):(s.wr a x).page? q=(s.page? q).map fun t=>if q=a / 64 then t.set (a % 64) x else t:=vy (a / 64) (a % 64) x s.pages q
theorem Lf.Slab.rd_wr_ne(s:Slab)(a x b:Nat)(h:b≠a):(s.wr a x).rd b=s.rd b:=by
 unfold Slab.rd;rw[Slab.page?_wr]
 cases s.page? (b / 64) with
 | none=>rfl
 | some t=>
  simp only[dw]
  by_cases e:b / 64=a / 64
  ·rw[if_pos e];have:a % 64≠b % 64:=by omega
   simp[List.getD_eq_getElem?_getD,List.getElem?_set_ne this]
  ·rw[if_neg e]
theorem Lf.St.place_some{h k p:Nat}(hp:S.place h k=(p,0)):∃j,S.t.of h=some j/\∃hj:j<S.t.slots.length,p=S.t.slots[j].addr+2+k/\k<S.a.rd (S.t.slots[j].addr+1)/\S.t.slots[j].is=1:=by
 cases hk:S.t.of h with
 | none=>
  unfold St.place at hp;rw[St.at_none hk] at hp
  simp at hp
 | some j=>
  obtain⟨hj,h1,_⟩:=Hs.of_lt hk;refine⟨j,rfl,hj,?_⟩;unfold St.place at hp;rw[St.at_some hk hj] at hp;simp only at hp
  split at hp
  ·rename_i hlt;simp only[Prod.mk.injEq,and_true] at hp;exact⟨hp.symm,hlt,h1⟩
  ·simp at hp
theorem Fv.place_ne(hi:Fv S){h k p:Nat}(hp:S.place h k=(p,0))(i:Nat)(hl:i<S.t.slots.length)(h1:S.t.slots[i].is=1):S.t.slots[i].addr+1≠p:=by
 obtain⟨j,_,hj,rfl,hk,h2⟩:=St.place_some hp
 by_cases e:i=j
 ·subst e;omega
 ·have:=hi.apart i j hl hj e h1 h2;omega
theorem Fv.put(hi:Fv S)(h k x:Nat):Fv (S.put h k x).2:=by
 rw[St.put_place]
 rcases S.place_cases h k with⟨p,hp⟩ | ⟨e,hp⟩
 ·rw[hp];have key:∀(i:Nat) (hl:i<S.t.slots.length),S.t.slots[i].is=1->(S.a.wr p x).rd (S.t.slots[i].addr+1)=S.a.rd (S.t.slots[i].addr+1):=fun i hl h1=>Slab.rd_wr_ne _ _ _ _ (hi.place_ne hp i hl h1);refine⟨fun i hl h1=>?_,fun i j hl hj hne h1 h2=>?_⟩
  ·have ad:S.t.slots[i].is=1:=h1
   show (S.a.wr p x).rd (S.t.slots[i].addr+1)<=3998/\_
   rw[key i hl ad];exact hi.len i hl ad
  ·show S.t.slots[i].addr+2+(S.a.wr p x).rd (S.t.slots[i].addr+1)<=S.t.slots[j].addr\/S.t.slots[j].addr+2+(S.a.wr p x).rd (S.t.slots[j].addr+1)<=S.t.slots[i].addr
   rw[key i hl h1,key j hj h2];exact hi.apart i j hl hj hne h1 h2
 ·rw[hp];exact hi
theorem wD(S:St)(h k x:Nat):(S.put h k x).2.t=S.t:=by
 rw[St.put_place];rcases S.place_cases h k with⟨p,hp⟩ | ⟨e,hp⟩<;>· rw[hp];rfl
theorem Fv.put_at(hi:Fv S)(h k x h':Nat):(S.put h k x).2.at h'=S.at h':=by
 cases hk:S.t.of h' with
 | none=>rw[St.at_none hk,St.at_none (by rw[wD];exact hk)]
 | some j=>
  obtain⟨hj,h1,_⟩:=Hs.of_lt hk;rw[St.at_some hk hj];rw[St.put_place]
  rcases S.place_cases h k with⟨p,hp⟩ | ⟨e,hp⟩
  ·rw[hp];refine(St.at_some (S:= { S with a:=S.a.wr p x }) (h:=h') hk hj).trans ?_
   show (S.t.slots[j].addr,(S.a.wr p x).rd (S.t.slots[j].addr+1),0)=_
   rw[Slab.rd_wr_ne _ _ _ _ (hi.place_ne hp j hj h1)]
  ·rw[hp];exact St.at_some hk hj
theorem rV(h:Nat):∀(l:List Nat) (S:St) (k:Nat),Fv S->Fv (FC S h k l)/\(∀h',(FC S h k l).at h'=S.at h')/\(FC S h k l).t=S.t
 | [],S,k,hi=>⟨hi,fun _=>rfl,rfl⟩
 | x::r,S,k,hi=>by
  obtain⟨h1,h2,h3⟩:=rV h r (S.put h k x).2 (k+1) (hi.put h k x);exact⟨h1,fun h'=>(h2 h').trans (hi.put_at h k x h'),h3.trans (wD S h k x)⟩
theorem yL(S:St):S.at 0=(0,0,7):=St.at_none (by rfl)
theorem fU(S:St):S.len 0=(0,7):=by unfold St.len;rw[yL]
end
section
open Go.RowKit Tryz Go.BigFrame Go.Maps Go.WideMaps Lf
open Go.Shelf
attribute [local go_sem] Oper.semAt_some
structure ir (R:Nat->Prop) (W W':World):Prop where
 size:W.heap.size<=W'.heap.size
 block:∀k,R k->W'.heap[k]?=W.heap[k]?
theorem ir.refl(R:Nat->Prop)(W:World):ir R W W:=⟨Nat.le_refl _,fun _ _=>rfl⟩
theorem ir.trans {R:Nat->Prop}{A B C:World}(h:ir R A B)(k:ir R B C):ir R A C:=⟨aO h.size k.size,fun i hi=>(k.block i hi).trans (h.block i hi)⟩
abbrev lH:= { x:Nat×Nat // x.1<=1000/\x.2<2^64 }
abbrev n9(x:lH):Array Value:=#[.int .i64 x.1.1,.int .u64 x.1.2]
abbrev kO(l:List lH):List (Nat×Nat):=l.map (·.1)
def gN(f:Nat->Nat)(n:Nat):List (Nat×Nat):=(List.range n).map fun j=>(j,f j)
theorem sg(f:Nat->Nat)(n:Nat):gN f (n+1)=gN f n++[(n,f n)]:=by unfold gN;rw[dI,aL];rfl
theorem Ea(f:Nat->Nat)(n:Nat):(gN f n).length=n:=by simp[gN]
theorem wK(f:Nat->Nat)(k:Nat):∀d,gN f k<+:gN f (k+d)
 | 0=>List.prefix_refl _
 | d+1=>by
  refine(wK f k d).trans ?_;show gN f (k+d)<+:gN f (k+d+1)
  rw[sg];exact List.prefix_append _ _
theorem tC {w:World}{B G c N:Nat}{f:Nat->Nat}{fr fr':Nat×Nat}(hN:N<=1000)(hf:∀j,j<N->f j<2^64)(hB:w.heap[B]?=some (.cells #[.slice (some ⟨G,0,none⟩) N c] 162 fr))(hG:w.heap[G]?=some (.cells (gO N f) 82 fr'))(R:Nat->Prop)(hRG:R G):
 SeqStopsK Fence.wide 6 prog 261 #[PV B] n9 (ir R) (fun xs=>kO xs=gN f N) (fun pre=>kO pre<+:gN f N) N w:=fun l J Jx W hW hJ hJx hY h0=>by
 have ar:=(gl hB);have a0:=(gl hG);have a':W.cell? ⟨B,0,none⟩=some (.slice (some ⟨G,0,none⟩) N c):=by rw[Fs ((hW.block B ar).trans hB)];rfl
 have au:=(hW.block G a0).trans hG;have HY:=If hY;have HJ:=kq2 hJ hJx;have H0:=kq4 h0 au hf hRG;clear hY hJ hJx h0 hB hG au hW hf hRG ar a0;refine callsIn_of_wp func261 rfl trivial ?_ rfl;simp only[ntmps261,bp,ak,aK,Nat.reduceAdd,Nat.reduceSub,aV,aW,bw,aZ,aU,aP];gi_wp2_with fail;gi_loopw [3,4,7] (fun _ _ i wr=>∃k:Nat,k<=N/\i=.int .i64 k/\Hid (ir R W wr/\∃pX,kO pX=gN f k/\J pX wr)) (fun _ _ i _=>N-(intOf i).toNat)
 case atStart=>exact⟨0,by omega,rfl,ir.refl _ _,[],rfl,H0.a⟩
 case round=>
  obtain⟨k,hk,rfl,an⟩:=hrel;by_cases hlt:k<N
  ·have ba:(k:Int)<N:=by omega
   have hrow:=(an.out.1.block G H0.d).trans H0.b;have hc:wr.cell? ⟨G,k,none⟩=some (.int .u64 (f k)):=by rw[Fs hrow,mh f hlt]
   have a3:=H0.c k hlt;obtain⟨pX,ai,al⟩:=an.out.2;obtain⟨xX,ap⟩:∃xX:lH,xX.1=(k,f k):=⟨⟨(k,f k),by omega,a3⟩,rfl⟩;have a6:pX.length=k:=by
    have:=congrArg List.length ai;rw[Ea] at this;simpa using this
   obtain⟨fn,bb,a8,a9,hy,ao⟩:=HY.out pX xX wr al (by omega);have a5:kO (pX++[xX])=gN f (k+1):=by rw[sg,<-ai];show (pX++[xX]).map (·.1)=_;rw[aL];simp[ap]
   have ad:=kq2 a5 hlt;dsimp only[n9] at hy
   rw[ap] at hy;clear a5 ai a6 al ap hrow a3;generalize f k=x at*;gi_wp2_with fail;refine ao.mono ?_;rintro e w4 (⟨rfl,a1,a4⟩ | ⟨rfl,a2⟩)
   ·have H4:=kq2 (an.out.1.trans a4) a1;clear a1 a4 hy ao hc;gi_wp2_with fail;go_roundw
    case rel=>exact⟨k+1,ad.b,by go_num,H4.a,_,ad.a,H4.b⟩
    case measure=>have:=ad.b;simp[intOf];omega
   ·have H4:=If a2;have a7:gN f (k+1)<+:gN f N:=by
     obtain⟨d,hd⟩:∃d,N=k+1+d:=⟨N-(k+1),by have:=ad.b;omega⟩;rw[hd];exact wK f (k+1) d
    clear a2 hy ao hc;gi_wp2_with fail;refine bodyPost_ret (results_none rfl _ _ _) rfl ?_;exact⟨⟨_,rfl⟩,.inr ⟨_,by rw[ad.a];exact a7,H4.out⟩⟩
  ·obtain rfl:k=N:=by omega
   gi_wp2
   go_end0
   obtain⟨pX,ai,al⟩:=an.out.2;exact⟨⟨_,rfl⟩,.inl ⟨_,ai,al⟩⟩
