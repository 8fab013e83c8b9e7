/- The arena's pages as owned by their heads; the places of blocks: plain. -/
import Derived.Test.YtcibkdbpicledaaGreatDoorVJe
import Derived.BigRegion
import Derived.RegionTactic
import Derived.ChangeAlike
import Derived.Test.YtcibkdbpicledaaGreatDoorVQx
set_option maxRecDepth 100000
set_option maxHeartbeats 3200000
namespace Go.Proofs.YtcibkdbpicledaaGreatDoor
section
open Lf
variable{S:St}{h:Nat}{n:Nat}{o:Nat->Nat}{p:Nat}{s:Slab}{t:List UInt8}{ws:List Nat}
theorem oS(hw:eQ s){a:Nat}(hp:a / 64∈s.keys)(x:Nat):(s.wr a x).rd a=x:=by
 obtain⟨l,h1,h2⟩:=kK hp;have hl:=hw.len _ h2;unfold Slab.rd;rw[Lf.Slab.page?_wr,h1];simp only[cZ,if_true];rw[am,cg (by simp only at hl;omega)];rfl
theorem oM(s:Slab)(p:Nat)(x:Hr):(Ie s p x).keys=s.keys:=by unfold Ie;rw[i9,i9]
theorem nf(s:Slab)(p:Nat)(x:Hr):(Ie s p x).pages.length=s.pages.length:=by unfold Ie;rw[kL,kL]
theorem ng(s:Slab)(p:Nat)(x:Hr):(Ie s p x).quota=s.quota:=rfl
theorem rS(hw:eQ s)(p:Nat){x:Hr}(h1:x.kind<256)(h2:x.n<256)(h3:x.w<2^64):eQ (Ie s p x):=
 (hw.wr _ _ (by omega)).wr _ _ h3
theorem oN(p:Nat)(x:Hr){b:Nat}(h1:b≠p*64)(h2:b≠p*64+1):(Ie s p x).rd b=s.rd b:=by
 unfold Ie;rw[Slab.rd_wr_ne _ _ _ _ h2,Slab.rd_wr_ne _ _ _ _ h1]
theorem rR(hw:eQ s)(hp:p∈s.keys){x:Hr}(h1:x.kind<256)(h2:x.n<256):FA (Ie s p x) p=x:=by
 have e1:(p*64+1) / 64=p:=by omega
 have e0:p*64 / 64=p:=by omega
 have ad:eQ (s.wr (p*64) (x.kind+x.n*256)):=hw.wr _ _ (by omega);have r1:(Ie s p x).rd (p*64+1)=x.w:=oS ad (by rw[e1,i9];exact hp) _;have r0:(Ie s p x).rd (p*64)=x.kind+x.n*256:=by
  unfold Ie;rw[Slab.rd_wr_ne _ _ _ _ (by omega)];exact oS hw (by rw[e0];exact hp) _
 unfold FA;rw[r0,r1];obtain⟨a,b,c⟩:=x;simp only at h1 h2⊢
 congr 1<;>omega
theorem lQ{s s':Slab}(h:∀b,b / 64=p->b % 64<2->s'.rd b=s.rd b):FA s' p=FA s p:=by
 unfold FA;rw[h (p*64) (by omega) (by omega),h (p*64+1) (by omega) (by omega)]
theorem yi(s:Slab)(a:Nat):∀n,(s.zero a n).keys=s.keys
 | 0=>rfl
 | n+1=>by show (Slab.wr _ _ _).keys=_;rw[i9,yi s a n]
theorem yj(s:Slab)(a:Nat):∀n,(s.zero a n).pages.length=s.pages.length
 | 0=>rfl
 | n+1=>by show (Slab.wr _ _ _).pages.length=_;rw[kL,yj s a n]
theorem yn(s:Slab)(a:Nat):∀n,(s.zero a n).quota=s.quota
 | 0=>rfl
 | n+1=>by show (Slab.wr _ _ _).quota=_;exact yn s a n
theorem yo {s:Slab}(hw:eQ s)(a:Nat):∀n,eQ (s.zero a n)
 | 0=>hw
 | n+1=>(yo hw a n).wr _ _ (by omega)
theorem tj(s:Slab)(a:Nat){b:Nat}:∀n,(b<a\/a+n<=b)->(s.zero a n).rd b=s.rd b
 | 0,_=>rfl
 | n+1,h=>by
  show (Slab.wr _ _ _).rd b=_
  rw[Slab.rd_wr_ne _ _ _ _ (by omega)];exact tj s a n (by omega)
theorem lj(a q:Nat)(b:fQ)(r:List (Nat×fQ)):((a,b)::r).lookup q=if q=a then some b else r.lookup q:=by
 rw[dp]
 by_cases e:q=a
 ·subst e
  simp
 ·have:(q==a)=false:=by simp[e]
  rw[this,if_neg e]
theorem vx(p q:Nat)(l:fQ):∀r:List (Nat×fQ),(ins p l r).lookup q=if q=p then some l else r.lookup q
 | []=>by
  unfold ins;rw[lj]
 | x::r=>by
  obtain⟨a,b⟩:=x;unfold ins;simp only;split
  ·rename_i h;rw[lj,vx p q l r,lj];by_cases e:q=a
   ·rw[if_pos e,if_neg (by omega),if_pos e]
   ·rw[if_neg e,if_neg e]
  ·rw[lj]
theorem page?_add(s:Slab)(p q:Nat):(s.add p).page? q=if q=p then some jB else s.page? q:=vx p q jB s.pages
theorem tx(s:Slab)(p:Nat){b:Nat}:∀n,(b / 64<p\/p+n<=b / 64)->(s.addRun p n).rd b=s.rd b
 | 0,_=>rfl
 | n+1,h=>by
  rw[<-tx s p n (by omega)];show ((s.addRun p n).add (p+n)).rd b=_
  unfold Slab.rd;rw[page?_add,if_neg (by omega)]
theorem tz {s:Slab}(hw:eQ s){p:Nat}:∀n,(∀k,k<n->p+k∉s.keys)->p+n<=1048576->(s.pages.length+n)*64<=s.quota->eQ (s.addRun p n)
 | 0,_,_,_=>hw
 | n+1,h1,h2,h3=>by
  refine(tz hw n (fun k hk=>h1 k (by omega)) (by omega) (by omega)).add ?_ (by omega) ?_
  ·rw[nK];rintro(h | h)
   ·exact h1 n (by omega) h
   ·omega
  ·rw[mu,mw];omega
theorem ry(p q:Nat):∀r:List (Nat×fQ),q≠p->(r.filter fun x=>x.1≠p).lookup q=r.lookup q
 | [],_=>rfl
 | x::r,h=>by
  obtain⟨a,b⟩:=x;rw[List.filter_cons];split
  ·rw[lj,lj,ry p q r h]
  ·rename_i h1;have:a=p:=by simpa using h1
   subst this;rw[ry a q r h,lj,if_neg h]
theorem AE(s:Slab){p b:Nat}(h:b / 64≠p):(s.del p).rd b=s.rd b:=by
 unfold Slab.rd;have:(s.del p).page? (b / 64)=s.page? (b / 64):=ry p _ s.pages h;rw[this]
theorem qr(s:Slab)(p:Nat){b:Nat}:∀n,(b / 64<p\/p+n<=b / 64)->(s.delRun p n).rd b=s.rd b
 | 0,_=>rfl
 | n+1,h=>by
  rw[<-qr s p n (by omega)];exact AE _ (by omega)
theorem ug {s:Slab}(hw:eQ s)(p:Nat):∀n,eQ (s.delRun p n)
 | 0=>hw
 | n+1=>(ug hw p n).del _
theorem Jk(s:Slab)(p:Nat):∀n,(s.delRun p n).quota=s.quota
 | 0=>rfl
 | n+1=>Jk s p n
theorem qo(s:Slab)(p:Nat):∀n,(s.delRun p n).pages.length<=s.pages.length
 | 0=>Nat.le_refl _
 | n+1=>aO (List.length_filter_le _ _) (qo s p n)
def gr(x:Hr):Nat:=if x.kind=2 then x.n else 1
def kT(x:Hr):Prop:=(x.kind=1/\x.n<8)\/(x.kind=2/\1<=x.n/\x.n<=64)
structure Own (s:Slab) (o:Nat->Nat):Prop where
 wf:eQ s
 up:∀p∈s.keys,o p∈s.keys/\o (o p)=o p/\o p<=p/\p<o p+gr (FA s (o p))
 down:∀h∈s.keys,o h=h->kT (FA s h)/\∀k,k<gr (FA s h)->h+k∈s.keys/\o (h+k)=h
theorem kT.small{x:Hr}(h:kT x):x.kind<256/\x.n<256:=by rcases h with h | h<;>omega
theorem rD {s:Slab}{o:Nat->Nat}(h:Own s o):∀(ks:List Nat) (nx:Nat),ks.Pairwise (·<·)->(∀q∈ks,q∈s.keys)->(∀q∈ks,o q∈ks->nx<=q)->(∀q∈ks,o q∉ks->q<nx)->∀y,y∈gC s nx ks↔(y.1∈ks/\o y.1=y.1/\y.2=FA s y.1)
 | [],nx,_,_,_,_,y=>by simp[gC]
 | p::r,nx,hs,hk,h1,h2,y=>by
  have ai:=(aK.1 hs).1;have ar:=(aK.1 hs).2;have ap:=hk p (ag ..);have up:=h.up p ap;unfold gC;by_cases hlt:p<nx
  ·rw[if_pos hlt];have ad:o p∉p::r:=fun hm=>by have:=h1 p (ag ..) hm;omega
   have al:o p≠p:=fun e=>ad (by rw[e];exact ag ..);have a0:∀q∈r,o q∈p::r->o q∈r:=fun q hq hm=>by
    rcases ah.1 hm with e | e
    ·exfalso
     have:=(h.up q (hk q (aj _ hq))).2.1;rw[e] at this;exact al this
    ·exact e
   rw[rD h r nx ar (fun q hq=>hk q (aj _ hq)) (fun q hq hm=>h1 q (aj _ hq) (aj _ hm))
    (fun q hq hm=>h2 q (aj _ hq) fun hm2=>hm (a0 q hq hm2)) y]
   constructor
   ·rintro⟨a,b,c⟩;exact⟨aj _ a,b,c⟩
   ·rintro⟨a,b,c⟩;rcases ah.1 a with e | e
    ·exfalso;rw[e] at b;exact al b
    ·exact⟨e,b,c⟩
  ·rw[if_neg hlt];have au:o p∈p::r:=Classical.byContradiction fun hn=>hlt (h2 p (ag ..) hn);have ad:o p=p:=by
    rcases ah.1 au with e | e
    ·exact e
    ·have:=ai _ e;omega
   have dn:=h.down p ap ad;have sp:p<p+gr (FA s p):=by have:=up.2.2.2;rw[ad] at this;exact this
   rw[ah,rD h r _ ar (fun q hq=>hk q (aj _ hq)) ?_ ?_ y]
   ·constructor
    ·rintro(e | ⟨a,b,c⟩)
     ·subst e;exact⟨ag ..,ad,rfl⟩
     ·exact⟨aj _ a,b,c⟩
    ·rintro⟨a,b,c⟩;rcases ah.1 a with e | e
     ·left;obtain⟨y1,y2⟩:=y;simp only at e c⊢;rw[c,e]
     ·exact ae ⟨e,b,c⟩
   ·intro q hq hm;have a2:=ai q hq;have a1:=h1 q (aj _ hq) (aj _ hm);split
    ·rename_i hk2;refine Classical.byContradiction fun hn=>?_;have a3:gr (FA s p)=(FA s p).n:=by unfold gr;rw[if_pos hk2]
     have:=(dn.2 (q-p) (by rw[a3];omega)).2;rw[show p+(q-p)=q by omega] at this;rw[this] at hm;have:=ai p hm;omega
    ·exact a1
   ·intro q hq hm;have a2:=ai q hq;by_cases e:o q=p
    ·have hu:=(h.up q (hk q (aj _ hq))).2.2.2;rw[e] at hu;unfold gr at hu;split
     ·rename_i hk2;rw[if_pos hk2] at hu;exact hu
     ·rename_i hk2;rw[if_neg hk2] at hu;omega
    ·have:=h2 q (aj _ hq) (fun h3=>by
      rcases ah.1 h3 with e2 | e2
      ·exact e e2
      ·exact hm e2)
     omega
theorem Own.mem_heads(h:Own s o)(y:Nat×Hr):y∈kf s↔(y.1∈s.keys/\o y.1=y.1/\y.2=FA s y.1):=
 rD h s.keys 0 h.wf.sorted (fun _ hq=>hq) (fun _ _ _=>cD _) (fun q hq hn=>absurd (h.up q hq).1 hn) y
theorem kq{c k:Nat}(hc:c<8)(hk:k<eJ c)(h:Nat):fF h c k=h*64+2+k*et c/\k*et c+et c<=62/\2<=et c:=by
 have e:fF h c k=h*64+2+k*et c:=by unfold fF iL;rw[if_pos ⟨hc,hk⟩];omega
 refine⟨e,?_⟩;have:c=0\/c=1\/c=2\/c=3\/c=4\/c=5\/c=6\/c=7:=by omega
 rcases this with rfl | rfl | rfl | rfl | rfl | rfl | rfl | rfl<;>simp[eJ,et,iP] at hk⊢ <;>omega
theorem wV{c k k':Nat}(h:k≠k'):k*et c+et c<=k'*et c\/k'*et c+et c<=k*et c:=by
 rcases Nat.lt_or_gt_of_ne h with h | h
 ·left
  have:=df (et c) (show k+1<=k' from h);rw[Nat.add_mul] at this;omega
 ·right
  have:=df (et c) (show k'+1<=k from h);rw[Nat.add_mul] at this;omega
theorem jA{c k:Nat}(h:k<eJ c):c<8/\k<31:=by
 have hc:c<8:=by
  unfold eJ at h
  split at h
  ·assumption
  ·omega
 refine⟨hc,?_⟩;have:c=0\/c=1\/c=2\/c=3\/c=4\/c=5\/c=6\/c=7:=by omega
 rcases this with rfl | rfl | rfl | rfl | rfl | rfl | rfl | rfl<;>simp[eJ,iP] at h<;>omega
def nH(x:Hr)(h a r:Nat):Prop:=(x.kind=1/\∃k,k<eJ x.n/\x.w.testBit k=true/\a=fF h x.n k/\r=et x.n)\/(x.kind=2/\a=h*64+2/\r+2=x.n*64)
def gZ(s:Slab)(o:Nat->Nat)(h a r:Nat):Prop:=h∈s.keys/\o h=h/\nH (FA s h) h a r
def eO(s:Slab)(o:Nat->Nat)(a r:Nat):Prop:=∃h,gZ s o h a r
theorem nH.pos{x:Hr}{h a r:Nat}(hx:kT x)(hb:nH x h a r):2<=r/\a / 64=h/\2<=a % 64:=by
 rcases hb with⟨h1,k,h2,h3,h4,h5⟩ | ⟨h1,h2,h3⟩
 ·obtain⟨e1,e2,e3⟩:=kq (jA h2).1 h2 h;rw[h5,h4,e1];omega
 ·rcases hx with hx | hx
  ·omega
  ·refine⟨by omega,by omega,by omega⟩
theorem gZ.word(ho:Own s o){h a r b:Nat}(hp:gZ s o h a r)(hb:b<r):(a+b) / 64∈s.keys/\o ((a+b) / 64)=h/\((a+b) / 64=h->2<=(a+b) % 64):=by
 obtain⟨h1,h2,h3⟩:=hp;obtain⟨hd,dn⟩:=ho.down h h1 h2
 rcases h3 with⟨g1,k,g2,g3,g4,g5⟩ | ⟨g1,g2,g3⟩
 ·obtain⟨e1,e2,e3⟩:=kq (jA g2).1 g2 h;have e4:(a+b) / 64=h:=by omega
  rw[e4];exact⟨h1,h2,fun _=>by omega⟩
 ·have hs:gr (FA s h)=(FA s h).n:=by unfold gr;rw[if_pos g1]
  have:=dn ((a+b) / 64-h) (by rw[hs];omega);rw[show h+((a+b) / 64-h)=(a+b) / 64 by omega] at this;exact⟨this.1,this.2,fun _=>by omega⟩
theorem gZ.not_head(ho:Own s o){h a r b h':Nat}(hp:gZ s o h a r)(hb:b<r)(hh:o h'=h')(e:(a+b) / 64=h'):2<=(a+b) % 64:=by
 obtain⟨_,h2,h3⟩:=hp.word ho hb;rw[e,hh] at h2;exact h3 (e.trans h2)
theorem gZ.pos(ho:Own s o){h a r:Nat}(hp:gZ s o h a r):2<=r/\a / 64=h/\2<=a % 64:=hp.2.2.pos (ho.down h hp.1 hp.2.1).1
theorem gZ.apart(ho:Own s o){h a r h' a' r':Nat}(hp:gZ s o h a r)(hp':gZ s o h' a' r'):(a=a'/\r=r')\/a+r<=a'\/a'+r'<=a:=by
 by_cases e:h=h'
 ·subst e
  rcases hp.2.2 with⟨g1,k,g2,g3,g4,g5⟩ | ⟨g1,g2,g3⟩
  ·rcases hp'.2.2 with⟨f1,k',f2,f3,f4,f5⟩ | ⟨f1,f2,f3⟩
   ·by_cases ek:k=k'
    ·subst ek
     left;exact⟨g4.trans f4.symm,g5.trans f5.symm⟩
    ·right
     have hc:=(jA g2).1;rw[(kq hc g2 h).1] at g4;rw[(kq hc f2 h).1] at f4;have:=wV (c:=(FA s h).n) ek;omega
   ·omega
  ·rcases hp'.2.2 with⟨f1,k',f2,f3,f4,f5⟩ | ⟨f1,f2,f3⟩
   ·omega
   ·left;omega
 ·right
  refine Classical.byContradiction fun hn=>e ?_;have p1:=(hp.pos ho).1;have p2:=(hp'.pos ho).1
  rcases Nat.le_total a a' with hl | hl
  ·have w1:=(hp.word ho (b:=a'-a) (by omega)).2.1;have w2:=(hp'.word ho (b:=0) (by omega)).2.1;rw[show a+(a'-a)=a'+0 by omega] at w1;rw[<-w1,<-w2]
  ·have w1:=(hp'.word ho (b:=a-a') (by omega)).2.1;have w2:=(hp.word ho (b:=0) (by omega)).2.1;rw[show a'+(a-a')=a+0 by omega] at w1;rw[<-w1,<-w2]
theorem eO.apart(ho:Own s o){a r a' r':Nat}(hp:eO s o a r)(hp':eO s o a' r'):(a=a'/\r=r')\/a+r<=a'\/a'+r'<=a:=by
 obtain⟨h,hp⟩:=hp;obtain⟨h',hp'⟩:=hp';exact hp.apart ho hp'
theorem eO.ok(ho:Own s o){a r b:Nat}(hp:eO s o a r)(hb:b<r):s.err (a+b)=0/\a+b<=gK/\(a+b) / 64∈s.keys:=by
 obtain⟨h,hp⟩:=hp;have hk:=(hp.word ho hb).1;have:=ho.wf.top _ hk;have hl:a+b<=gK:=by unfold gK;omega
 exact⟨Gt hl hk,hl,hk⟩
theorem Own.same{s s':Slab}(h:Own s o)(hw:eQ s')(hk:s'.keys=s.keys)(hg:∀p∈s.keys,o p=p->FA s' p=FA s p):Own s' o where
 wf:=hw
 up p hp:=by
  rw[hk] at hp⊢;have:=h.up p hp;rw[hg _ this.1 this.2.1];exact this
 down p hp ho:=by
  rw[hk] at hp⊢;rw[hg p hp ho];exact h.down p hp ho
theorem gZ.same{s s':Slab}(hk:s'.keys=s.keys)(hg:∀p∈s.keys,o p=p->FA s' p=FA s p){h a r:Nat}(hp:gZ s o h a r):gZ s' o h a r:=
 ⟨by rw[hk];exact hp.1,hp.2.1,by rw[hg h hp.1 hp.2.1];exact hp.2.2⟩
theorem Own.wr(h:Own s o){a r b x:Nat}(hp:eO s o a r)(hb:b<r)(hx:x<2^64):Own (s.wr (a+b) x) o/\(∀a0 r0,eO s o a0 r0->eO (s.wr (a+b) x) o a0 r0):=by
 obtain⟨h0,hp⟩:=hp;have hg:∀p∈s.keys,o p=p->FA (s.wr (a+b) x) p=FA s p:=fun p _ ho=>lQ fun c e1 e2=>Slab.rd_wr_ne _ _ _ _ (by
  rintro rfl;have:=hp.not_head h hb ho e1;omega)
 exact⟨h.same (h.wf.wr _ _ hx) (i9 _ _ _) hg,fun a0 r0 ⟨h1,q⟩=>⟨h1,q.same (i9 _ _ _) hg⟩⟩
theorem eQ.rd_lt(hw:eQ s)(a:Nat):s.rd a<2^64:=by
 by_cases hp:a / 64∈s.keys
 ·obtain⟨l,h1,h2⟩:=kK hp;rw[rY h1];have hl:=hw.len _ h2;have hi:a % 64<l.length:=by simp only at hl;omega
  rw[am,af hi];exact hw.word _ h2 _ (aF hi)
 ·rw[oR hp];decide
theorem eQ.getH_lt(hw:eQ s)(p:Nat):(FA s p).w<2^64:=hw.rd_lt _
theorem sR{w k j:Nat}:(iY w k).testBit j=(w.testBit j || decide (k=j)):=by
 unfold iY;rw[Nat.testBit_or,Nat.testBit_two_pow]
theorem xC{w k j:Nat}(hk:k<64)(hj:j<64):(iy w k).testBit j=(w.testBit j && !decide (k=j)):=by
 unfold iy;have h2:(2:Nat)^k<2^64:=Nat.pow_lt_pow_right (by decide) hk;have h1:(18446744073709551615-2^k:Nat)=2^64-(2^k+1):=by
  have:(2:Nat)^64=2^64:=by decide
  omega
 rw[Nat.testBit_and,h1,dx h2,Nat.testBit_two_pow]
 simp[hj]
structure Hu (s s':Slab) (o o':Nat->Nat) (a r:Nat):Prop where
 own:Own s' o'
 pl:∀a0 r0,eO s' o' a0 r0↔eO s o a0 r0\/(a0=a/\r0=r)
 fresh:∀r0,¬eO s o a r0
 rd:∀a0 r0 b,eO s o a0 r0->b<r0->s'.rd (a0+b)=s.rd (a0+b)
 quota:s'.quota=s.quota
theorem Ip{c k k' h:Nat}(hk:k<eJ c)(hk':k'<eJ c)(e:fF h c k=fF h c k'):k=k':=by
 have hc:=(jA hk).1;have h1:=kq hc hk h;have h2:=kq hc hk' h;refine Classical.byContradiction fun hn=>?_;have:=wV (c:=c) hn;omega
theorem we(h:Own s o){p k:Nat}(hp:p∈s.keys)(ho:o p=p)(hk1:(FA s p).kind=1)(hk:k<eJ (FA s p).n)(hb:(FA s p).w.testBit k=false):
 Hu s (fP s p k).2 o o (fF p (FA s p).n k) (et (FA s p).n)/\(fP s p k).2.pages.length=s.pages.length:=by
 obtain⟨x,hx⟩:=Ii (FA s p);have hd:=(h.down p hp ho).1;have a6:=h.wf.getH_lt p;have hc:=jA hk;rw[hx] at hk1 hk hb hd a6 hc⊢;obtain⟨e1,e2,e3⟩:=kq hc.1 hk p;obtain⟨a,ha⟩:=Ii (fF p x.n k);obtain⟨r,hr⟩:=Ii (et x.n);obtain⟨y,hy⟩:∃y:Hr,{ x with w:=iY x.w k } =y:=⟨_,rfl⟩;have ai:y.kind=1:=by rw[<-hy];exact hk1
 have ad:y.n=x.n:=by rw[<-hy]
 have a1:y.w=iY x.w k:=by rw[<-hy]
 have au:y.kind<256/\y.n<256:=by rw[ai,ad];exact⟨by decide,hd.small.2⟩
 have a9:y.w<2^64:=by rw[a1];exact tO a6 (by omega)
 have hs:(fP s p k).2=(Ie s p y).zero a r:=by
  unfold fP nY;simp only[hx,hy,ha,hr]
 rw[ha,hr,hs];rw[ha] at e1;rw[hr] at e1 e2 e3;have a8:eQ (Ie s p y):=rS h.wf p au.1 au.2 a9;have a7:eQ ((Ie s p y).zero a r):=yo a8 a r;have ap:((Ie s p y).zero a r).keys=s.keys:=by rw[yi,oM]
 have a5:∀b,(b<a\/a+r<=b)->b≠p*64->b≠p*64+1->((Ie s p y).zero a r).rd b=s.rd b:=fun b h1 h2 h3=>by rw[tj _ _ _ h1,oN p y h2 h3]
 have al:FA ((Ie s p y).zero a r) p=y:=by
  rw[lQ (s:=Ie s p y) (fun b h1 h2=>tj _ _ _ (by omega))];exact rR h.wf hp au.1 au.2
 have ar:∀q,q≠p->FA ((Ie s p y).zero a r) q=FA s q:=fun q hq=>lQ fun b h1 h2=>a5 b (by omega) (by omega) (by omega);have a4:Own ((Ie s p y).zero a r) o:=by
  refine⟨a7,?_,?_⟩
  ·intro q hq;rw[ap] at hq⊢;have:=h.up q hq
   by_cases e:o q=p
   ·rw[e,al];rw[e,hx] at this;refine⟨this.1,this.2.1,this.2.2.1,?_⟩;have h4:=this.2.2.2;unfold gr at h4⊢;rw[ai];rw[hk1] at h4;exact h4
   ·rw[ar _ e];exact this
  ·intro q hq hoq;rw[ap] at hq⊢;have:=h.down q hq hoq
   by_cases e:q=p
   ·subst e;rw[al];rw[hx] at this;refine⟨ab ⟨ai,by rw[ad];exact hc.1⟩,fun j hj=>this.2 j ?_⟩;unfold gr at hj⊢;rw[ai] at hj;rw[hk1];exact hj
   ·rw[ar _ e];exact this
 have a2:∀a0 r0,eO ((Ie s p y).zero a r) o a0 r0↔eO s o a0 r0\/(a0=a/\r0=r):=by
  intro a0 r0
  constructor
  ·rintro⟨h0,g1,g2,g3⟩;rw[ap] at g1
   by_cases e:h0=p
   ·subst e;rw[al] at g3
    rcases g3 with⟨f1,k',f2,f3,f4,f5⟩ | ⟨f1,_⟩
    ·rw[a1,sR] at f3;rw[ad] at f2 f4 f5
     by_cases ek:k=k'
     ·subst ek
      right;exact⟨f4.trans ha,f5.trans hr⟩
     ·left
      refine⟨h0,g1,g2,ab ⟨by rw[hx];exact hk1,k',by rw[hx];exact f2,?_,by rw[hx];exact f4,by rw[hx];exact f5⟩⟩;rw[hx]
      simpa[ek] using f3
    ·omega
   ·rw[ar _ e] at g3;exact ab ⟨h0,g1,g2,g3⟩
  ·rintro(⟨h0,g1,g2,g3⟩ | ⟨rfl,rfl⟩)
   ·refine⟨h0,by rw[ap];exact g1,g2,?_⟩
    by_cases e:h0=p
    ·subst e;rw[al];rw[hx] at g3
     rcases g3 with⟨f1,k',f2,f3,f4,f5⟩ | ⟨f1,_⟩
     ·exact ab ⟨ai,k',by rw[ad];exact f2,by rw[a1,sR,f3];rfl,by rw[ad];exact f4,by rw[ad];exact f5⟩
     ·omega
    ·rw[ar _ e];exact g3
   ·refine⟨p,by rw[ap];exact hp,ho,?_⟩;rw[al];exact ab ⟨ai,k,by rw[ad];exact hk,by rw[a1,sR];simp,by rw[ad];exact ha.symm,by rw[ad];exact hr.symm⟩
 have a3:∀r0,¬eO s o a r0:=by
  rintro r0 ⟨h0,hq⟩;have ba:=(hq.pos h).2.1;have:h0=p:=by omega
  subst this;have g3:=hq.2.2;rw[hx] at g3
  rcases g3 with⟨f1,k',f2,f3,f4,f5⟩ | ⟨f1,_⟩
  ·have:=Ip hk f2 (ha.trans f4);subst this;rw[hb] at f3
   cases f3
  ·omega
 refine⟨⟨a4,a2,a3,?_,?_⟩,?_⟩
 ·intro a0 r0 b hq hbr;have a':=eO.apart a4 ((a2 a0 r0).2 (ab hq)) ((a2 a r).2 (ae ⟨rfl,rfl⟩));have bb:¬a0=a:=by rintro rfl;exact a3 _ hq
  obtain⟨h0,hq⟩:=hq;have hh:=fun e=>hq.not_head h (b:=b) hbr ho e;refine a5 _ (by omega) ?_ ?_
  ·intro e;have:=hh (by omega);omega
  ·intro e;have:=hh (by omega);omega
 ·rw[yn,ng]
 ·rw[yj,nf]
theorem uD(hw:eQ s)(h1:1<=n)(h2:n<=100)(h3:(s.pages.length+n)*64<=s.quota):∃p,s.grant n=((p,0),s.addRun p n)/\p<=409601/\∀k,k<n->p+k∉s.keys:=by
 obtain⟨t,_,ht,hf⟩:=qH n s.pages.length s.keys (by rw[i8];exact Nat.le_refl _) 0;have ai:s.run n t=true:=mi.2 hf;obtain⟨t',h4,h5,h6⟩:=vn t ai;have he:=qE h5 (s.pages.length*n+1) 0 (cD _) (by omega) fun g _ hg=>h6 g hg;have hg:s.grant n=((t',0),s.addRun t' n):=by
  unfold Slab.grant;rw[if_neg (by omega),if_neg (by omega)];simp only[he]
 have ad:=mJ hw h2;rw[hg] at ad;exact⟨t',hg,ad,mi.1 h5⟩
theorem Il(h:Own s o){p n:Nat}{x:Hr}(hx:kT x)(hxn:gr x=n)(hxw:x.w<2^64)(hfree:∀k,k<n->p+k∉s.keys)(hp:p+n<=1048576)(hr:(s.pages.length+n)*64<=s.quota):
 ∃o',Own (Ie (s.addRun p n) p x) o'/\o' p=p/\p∈(Ie (s.addRun p n) p x).keys/\FA (Ie (s.addRun p n) p x) p=x/\
  (∀a r,eO (Ie (s.addRun p n) p x) o' a r↔eO s o a r\/nH x p a r)/\(∀a r b,eO s o a r->b<r->(Ie (s.addRun p n) p x).rd (a+b)=s.rd (a+b)):=by
 have a6:1<=n:=by
  rw[<-hxn];unfold gr;rcases hx with hx | hx
  ·rw[if_neg (by omega)];exact Nat.le_refl _
  ·rw[if_pos hx.1];exact hx.2.1
 have a3:eQ (s.addRun p n):=tz h.wf n hfree hp hr;obtain⟨a1,a2⟩:=hx.small;have a5:eQ (Ie (s.addRun p n) p x):=rS a3 p a1 a2 hxw;have ad:∀q,q∈(Ie (s.addRun p n) p x).keys↔q∈s.keys\/(p<=q/\q<p+n):=fun q=>by rw[oM,nK]
 have ar:p∈(Ie (s.addRun p n) p x).keys:=(ad p).2 (ae (by omega));have al:FA (Ie (s.addRun p n) p x) p=x:=rR a3 (by rw[<-oM (s.addRun p n) p x];exact ar) a1 a2;have a0:∀b,(b / 64<p\/p+n<=b / 64)->(Ie (s.addRun p n) p x).rd b=s.rd b:=fun b hb=>by
  rw[oN p x (by omega) (by omega),tx s p n hb]
 have au:∀q,q∈s.keys->q<p\/p+n<=q:=fun q hq=>by
  refine Classical.byContradiction fun hc=>?_;have:=hfree (q-p) (by omega);rw[show p+(q-p)=q by omega] at this;exact this hq
 have ap:∀q,q∈s.keys->FA (Ie (s.addRun p n) p x) q=FA s q:=fun q hq=>lQ fun b h1 h2=>a0 b (by rw[h1];exact au q hq);have ai:∀q,q∈s.keys->(if p<=q/\q<p+n then p else o q)=o q:=fun q hq=>if_neg (by have:=au q hq;omega);have a4:Own (Ie (s.addRun p n) p x) (fun q=>if p<=q/\q<p+n then p else o q):=by
  refine⟨a5,?_,?_⟩
  ·intro q hq;rcases(ad q).1 hq with hq | hq
   ·have:=h.up q hq;simp only[ai q hq,ai _ this.1];rw[ap _ this.1];exact⟨(ad _).2 (ab this.1),this.2⟩
   ·have e1:(if p<=q/\q<p+n then p else o q)=p:=if_pos hq;have e2:(if p<=p/\p<p+n then p else o p)=p:=if_pos (by omega);simp only[e1,e2];rw[al,hxn];exact⟨ar,trivial,hq.1,hq.2⟩
  ·intro q hq hoq;rcases(ad q).1 hq with hq | hq
   ·rw[ai q hq] at hoq;rw[ap q hq];have:=h.down q hq hoq;refine⟨this.1,fun k hk=>?_⟩;have h3:=this.2 k hk;simp only[ai _ h3.1];exact⟨(ad _).2 (ab h3.1),h3.2⟩
   ·rw[if_pos hq] at hoq;subst hoq;rw[al,hxn];refine⟨hx,fun k hk=>⟨(ad _).2 (ae (by omega)),?_⟩⟩;try dsimp only
    rw[if_pos (by omega)]
 refine⟨_,a4,if_pos (by omega),ar,al,?_,?_⟩
 ·intro a r;constructor
  ·rintro⟨q,g1,g2,g3⟩;dsimp only at g2
   rcases(ad q).1 g1 with hq | hq
   ·rw[ai q hq] at g2;rw[ap q hq] at g3;exact ab ⟨q,hq,g2,g3⟩
   ·rw[if_pos hq] at g2;subst g2;rw[al] at g3;exact ae g3
  ·rintro(⟨q,g1,g2,g3⟩ | hb)
   ·exact⟨q,(ad q).2 (ab g1),by simp only;rw[ai q g1];exact g2,by rw[ap q g1];exact g3⟩
   ·exact⟨p,ar,by simp only;rw[if_pos (by omega)],by rw[al];exact hb⟩
 ·rintro a r b ⟨q,hq⟩ hb;exact a0 _ (au _ (hq.word h hb).1)
theorem Hy{n c:Nat}(h:gd n=some c):n<=et c/\c<8:=by
 refine⟨?_,tZ h⟩;unfold gd at h;have:=cC h;unfold et;simpa using this
theorem Am(h:gd n=none):28<n:=by
 unfold gd at h;have:=bG.1 h 7 (by simp)
 simp[iP] at this
 omega
theorem zn{w n k:Nat}(h:fW w n=some k):w.testBit k=false:=by
 unfold fW at h;have:=cC h;simpa using this
theorem yE(h:Own s o)(h1:1<=n)(h2:n<=4000)(hr:(s.pages.length+fa n)*64<=s.quota):
 ∃a s' o' r,fR s n=((a,0),s')/\Hu s s' o o' a r/\n<=r/\s'.pages.length<=s.pages.length+fa n:=by
 cases hc:gd n with
 | none=>
  have a1:=Am hc;have ad:fa n=(n+65) / 64:=by unfold fa;rw[if_neg (by omega),hc]
  obtain⟨p,hg,hp,hf⟩:=uD h.wf (n:=fa n) (by omega) (by omega) hr;have hx:kT ⟨2,fa n,n⟩:=ae ⟨rfl,by simp only;omega,by simp only;omega⟩;have ai:gr ⟨2,fa n,n⟩=fa n:=rfl;obtain⟨o',q1,q2,q3,q4,q5,q6⟩:=Il h hx ai (by simp only;omega) hf (by omega) hr;refine⟨p*64+2,Ie (s.addRun p (fa n)) p ⟨2,fa n,n⟩,o',fa n*64-2,?_,⟨q1,?_,?_,q6,?_⟩,by omega,?_⟩
  ·unfold fR;rw[if_neg (by omega),hc];simp only[hg]
  ·intro a0 r0;rw[q5]
   constructor
   ·rintro(hq | ⟨f1,_⟩ | ⟨f1,f2,f3⟩)
    ·exact ab hq
    ·cases f1
    ·refine ae ⟨f2,?_⟩;simp only at f3;omega
   ·rintro(hq | ⟨rfl,rfl⟩)
    ·exact ab hq
    ·exact ae (ae ⟨rfl,rfl,by simp only;omega⟩)
  ·rintro r0 ⟨q,hq⟩;have e:=(hq.pos h).2.1;have e2:q=p:=by omega
   subst e2;exact hf 0 (by omega) hq.1
  ·rw[ng,mw]
  ·rw[nf,mu];exact Nat.le_refl _
 | some c=>
  obtain⟨ap,ar⟩:=Hy hc;have ad:fa n=1:=by unfold fa;rw[if_neg (by omega),hc]
  cases hs:kt s c with
  | some pk=>
   obtain⟨p,k⟩:=pk;obtain⟨x,hm,g1,g2,g3⟩:=oX _ hs;obtain⟨m1,m2,m3⟩:=(h.mem_heads _).1 hm;simp only at m1 m2 m3;subst m3;obtain⟨T,hl⟩:=we h m1 m2 g1 (by rw[g2];exact tN g3) (zn g3);refine⟨(fP s p k).1,(fP s p k).2,o,et (FA s p).n,?_,T,by rw[g2];exact ap,by rw[hl];omega⟩;unfold fR;rw[if_neg (by omega),hc];simp only[hs]
  | none=>
   rw[ad] at hr;obtain⟨p,hg,hp,hf⟩:=uD h.wf (n:=1) (by omega) (by omega) hr;have hx:kT ⟨1,c,0⟩:=ab ⟨rfl,ar⟩;have ai:gr ⟨1,c,0⟩=1:=rfl;obtain⟨o',q1,q2,q3,q4,q5,q6⟩:=Il h hx ai (by simp only;omega) hf (by omega) hr;have au:0<eJ c:=by
    have:c=0\/c=1\/c=2\/c=3\/c=4\/c=5\/c=6\/c=7:=by omega
    rcases this with rfl | rfl | rfl | rfl | rfl | rfl | rfl | rfl<;>simp[eJ,iP]
   obtain⟨T,hl⟩:=we q1 (k:=0) q3 q2 (by rw[q4]) (by rw[q4];exact au) (by rw[q4];simp);have al:∀a r,eO (Ie (s.addRun p 1) p ⟨1,c,0⟩) o' a r↔eO s o a r:=fun a r=>by
    rw[q5]
    constructor
    ·rintro(hq | ⟨_,k,_,f,_⟩ | ⟨f,_⟩)
     ·exact hq
     ·simp at f
     ·cases f
    ·exact ab
   refine⟨(fP (Ie (s.addRun p 1) p ⟨1,c,0⟩) p 0).1,(fP (Ie (s.addRun p 1) p ⟨1,c,0⟩) p 0).2,o',et (FA (Ie (s.addRun p 1) p ⟨1,c,0⟩) p).n,?_,⟨T.own,?_,?_,?_,?_⟩,?_,?_⟩
   ·unfold fR;rw[if_neg (by omega),hc];simp only[hs,hg]
   ·intro a0 r0;rw[T.pl,al]
    rfl
   ·intro r0 hq;exact T.fresh r0 ((al _ _).2 hq)
   ·intro a0 r0 b hq hb;rw[T.rd a0 r0 b ((al _ _).2 hq) hb];exact q6 a0 r0 b hq hb
   ·rw[T.quota,ng,mw]
   ·rw[q4];exact ap
   ·rw[hl,nf,mu,ad];exact Nat.le_refl _
structure yu (s s':Slab) (o:Nat->Nat) (a:Nat):Prop where
 own:Own s' o
 pl:∀a0 r0,eO s' o a0 r0↔eO s o a0 r0/\a0≠a
 rd:∀a0 r0 b,eO s' o a0 r0->b<r0->s'.rd (a0+b)=s.rd (a0+b)
 quota:s'.quota=s.quota
 len:s'.pages.length<=s.pages.length
theorem GC(h:Own s o){p n:Nat}(hp:p∈s.keys)(ho:o p=p)(hn:gr (FA s p)=n):
 Own (s.delRun p n) o/\(∀a r,eO (s.delRun p n) o a r↔eO s o a r/\a / 64≠p)/\(∀a r b,eO (s.delRun p n) o a r->b<r->(s.delRun p n).rd (a+b)=s.rd (a+b)):=by
 have dn:=(h.down p hp ho).2;rw[hn] at dn;have ad:∀q,q∈(s.delRun p n).keys↔q∈s.keys/\¬(p<=q/\q<p+n):=fun q=>vL;have al:∀q,q∈(s.delRun p n).keys->FA (s.delRun p n) q=FA s q:=fun q hq=>lQ fun b h1 h2=>qr s p n (by have:=((ad q).1 hq).2;omega);have ai:∀q,q∈s.keys->(o q=p↔p<=q/\q<p+n):=fun q hq=>by
  constructor
  ·intro e;have:=h.up q hq;rw[e,hn] at this;exact⟨this.2.2.1,this.2.2.2⟩
  ·intro e;have:=(dn (q-p) (by omega)).2;rw[show p+(q-p)=q by omega] at this;exact this
 have ar:Own (s.delRun p n) o:=by
  refine⟨ug h.wf p n,?_,?_⟩
  ·intro q hq;obtain⟨g1,g2⟩:=(ad q).1 hq;have:=h.up q g1;have hk:o q∈(s.delRun p n).keys:=(ad _).2 ⟨this.1,fun hc=>by
    have e:=(ai (o q) this.1).2 hc;rw[this.2.1] at e;exact g2 ((ai q g1).1 e)⟩
   rw[al _ hk];exact⟨hk,this.2⟩
  ·intro q hq hoq;obtain⟨g1,g2⟩:=(ad q).1 hq;rw[al q hq];have:=h.down q g1 hoq;refine⟨this.1,fun k hk=>?_⟩;have h3:=this.2 k hk;refine⟨(ad _).2 ⟨h3.1,fun hc=>?_⟩,h3.2⟩;have e:=(ai _ h3.1).2 hc;rw[h3.2] at e;subst e;exact g2 ((ai q g1).1 hoq)
 have au:∀a r,eO (s.delRun p n) o a r↔eO s o a r/\a / 64≠p:=by
  intro a r
  constructor
  ·rintro⟨q,g1,g2,g3⟩;have hk:=(ad q).1 g1;rw[al q g1] at g3;have hq:gZ s o q a r:=⟨hk.1,g2,g3⟩;refine⟨⟨q,hq⟩,?_⟩;rw[(hq.pos h).2.1];rintro rfl;exact hk.2 ((ai q hk.1).1 g2)
  ·rintro⟨⟨q,hq⟩,ap⟩;rw[(hq.pos h).2.1] at ap;have hk:q∈(s.delRun p n).keys:=(ad q).2 ⟨hq.1,fun hc=>ap (by rw[<-hq.2.1];exact(ai q hq.1).2 hc)⟩;exact⟨q,hk,hq.2.1,by rw[al q hk];exact hq.2.2⟩
 refine⟨ar,au,?_⟩;rintro a r b ⟨q,hq⟩ hb;have hk:=((ad _).1 (hq.word ar hb).1).2;exact qr s p n (by omega)
theorem wH(hw:eQ s){p n:Nat}(h1:1<=n)(h2:n<=64)(hk:∀k,k<n->p+k∈s.keys):s.release p n=(0,s.delRun p n):=by
 have ad:=hw.top _ (hk (n-1) (by omega));unfold Slab.release;rw[if_neg (by omega),if_pos (si.2 hk)]
theorem qv(a:Nat):∀(l:List (Nat×Hr)) {p k:Nat} {x:Hr},fS a l=some (p,k,x)->(p,x)∈l/\((x.kind=2/\a=p*64+2)\/(x.kind=1/\k<eJ x.n/\fF p x.n k=a/\x.w.testBit k=true))
 | [],p,k,x,h=>by unfold fS at h;cases h
 | (q,y)::r,p,k,x,h=>by
  unfold fS at h;split at h
  ·rename_i hc;have h:=Option.some.inj h;injection h with e1 e2
   injection e2 with e2 e3
   subst e1 e2 e3;exact⟨ag ..,ab hc⟩
  ·split at h
   ·have:=qv a r h;exact⟨aj _ this.1,this.2⟩
   ·rename_i hc;split at h
    ·rename_i k' hk';have h:=Option.some.inj h;injection h with e1 e2
     injection e2 with e2 e3
     subst e1 e2 e3;unfold km at hk';have hm:=bK hk';have hp:=cC hk';simp only[bH] at hm;simp only[aI,decide_eq_true_eq,jI] at hp;have ad:¬(y.kind≠1):=fun e=>hc (ab e);exact⟨ag ..,ae ⟨da.1 ad,hm,hp.1,hp.2.2⟩⟩
    ·have:=qv a r h;exact⟨aj _ this.1,this.2⟩
theorem qw(a:Nat):∀(l:List (Nat×Hr)),fS a l=none->∀p x,(p,x)∈l->¬(x.kind=2/\a=p*64+2)/\(x.kind=1->a / 64=p->∀k,k<eJ x.n->fF p x.n k=a->x.w.testBit k=false)
 | [],_,p,x,hm=>by cases hm
 | (q,y)::r,h,p,x,hm=>by
  unfold fS at h;split at h
  ·cases h
  ·rename_i hc1;split at h
   ·rename_i hc;rcases ah.1 hm with e | e
    ·injection e with e1 e2
     subst e1 e2;refine⟨hc1,fun g1 g2=>?_⟩;rcases hc with hc | hc
     ·exact absurd g1 hc
     ·exact absurd g2 hc
    ·exact qw a r h p x e
   ·split at h
    ·cases h
    ·rename_i hs;rcases ah.1 hm with e | e
     ·injection e with e1 e2
      subst e1 e2;refine⟨hc1,fun _ _ k hk he=>?_⟩;unfold km at hs;have:=bG.1 hs k (bH.2 hk);have ad:=(jA hk).2;simpa[he,jI,show k<64 by omega] using this
     ·exact qw a r h p x e
theorem GY(h:Own s o){a r:Nat}(hp:eO s o a r):∃p k,kb s a=some (p,k,FA s p)/\p∈s.keys/\o p=p/\a / 64=p/\(((FA s p).kind=2/\a=p*64+2)\/((FA s p).kind=1/\k<eJ (FA s p).n/\fF p (FA s p).n k=a/\(FA s p).w.testBit k=true)):=by
 obtain⟨q,hq⟩:=hp;have ad:=(hq.pos h).2.1;have ai:(q,FA s q)∈kf s:=(h.mem_heads _).2 ⟨hq.1,hq.2.1,rfl⟩
 cases hf:kb s a with
 | none=>
  exfalso
  have:=qw a _ hf q _ ai
  rcases hq.2.2 with⟨f1,k,f2,f3,f4,f5⟩ | ⟨f1,f2,f3⟩
  ·have:=this.2 f1 ad k f2 f4.symm;rw[this] at f3
   cases f3
  ·exact this.1 ⟨f1,f2⟩
 | some t=>
  obtain⟨p,k,x⟩:=t;obtain⟨hm,hx⟩:=qv a _ hf;obtain⟨m1,m2,m3⟩:=(h.mem_heads _).1 hm;simp only at m1 m2 m3;subst m3;refine⟨p,k,rfl,m1,m2,?_,hx⟩
  rcases hx with hx | hx
  ·omega
  ·obtain⟨e1,e2,e3⟩:=kq (jA hx.2.1).1 hx.2.1 p;omega
theorem A9(h:Own s o){a r:Nat}(hp:eO s o a r):∃s',iM s a=(0,s')/\yu s s' o a:=by
 obtain⟨p,k,hf,m1,m2,m3,hx⟩:=GY h hp;have hd:=h.down p m1 m2;obtain⟨x,ad⟩:=Ii (FA s p);have bb:=h.wf.getH_lt p;rw[ad] at hf hx hd bb
 rcases hx with⟨x1,x2⟩ | ⟨x1,x2,x3,x4⟩
 ·have a3:gr x=x.n:=by unfold gr;rw[if_pos x1]
  obtain⟨bc,dn⟩:=hd;rw[a3] at dn;have hn:1<=x.n/\x.n<=64:=by rcases bc with g | g<;>omega
  have a6:=wH h.wf hn.1 hn.2 fun j hj=>(dn j hj).1;obtain⟨q1,q2,q3⟩:=GC (n:=x.n) h m1 m2 (by rw[ad];exact a3);refine⟨s.delRun p x.n,?_,q1,?_,q3,Jk s p _,qo s p _⟩
  ·unfold iM;rw[hf];simp only[x1,if_true];exact a6
  ·intro a0 r0;rw[q2]
   constructor
   ·rintro⟨g,ar⟩;exact⟨g,fun e=>ar (by rw[e];exact m3)⟩
   ·rintro⟨g,ar⟩;refine⟨g,fun e=>ar ?_⟩;obtain⟨q,hq⟩:=g;have:=(hq.pos h).2.1;have e2:q=p:=by omega
    subst e2;have g3:=hq.2.2;rw[ad] at g3
    rcases g3 with⟨f1,_⟩ | ⟨f1,f2,f3⟩
    ·omega
    ·omega
 ·have a8:=(jA x2).1;have bf:=(jA x2).2;obtain⟨e1,e2,e3⟩:=kq a8 x2 p;obtain⟨y,hy⟩:∃y:Hr,{ x with w:=iy x.w k } =y:=⟨_,rfl⟩;have au:y.kind=1:=by rw[<-hy];exact x1
  have ap:y.n=x.n:=by rw[<-hy]
  have a7:y.w=iy x.w k:=by rw[<-hy]
  have a4:y.kind<256/\y.n<256:=by rw[au,ap];omega
  have bd:y.w<2^64:=by rw[a7];exact cV Nat.and_le_left bb
  have ba:eQ (Ie s p y):=rS h.wf p a4.1 a4.2 bd;have ai:FA (Ie s p y) p=y:=rR h.wf m1 a4.1 a4.2;have a1:∀q,q≠p->FA (Ie s p y) q=FA s q:=fun q hq=>lQ fun b h1 h2=>oN p y (by omega) (by omega);have al:=oM s p y;have a5:Own (Ie s p y) o:=by
   refine⟨ba,?_,?_⟩
   ·intro q hq;rw[al] at hq⊢;have:=h.up q hq
    by_cases e:o q=p
    ·rw[e,ai];rw[e,ad] at this;refine⟨this.1,this.2.1,this.2.2.1,?_⟩;have h4:=this.2.2.2;unfold gr at h4⊢;rw[au];rw[x1] at h4;exact h4
    ·rw[a1 _ e];exact this
   ·intro q hq hoq;rw[al] at hq⊢;have:=h.down q hq hoq
    by_cases e:q=p
    ·subst e;rw[ai];rw[ad] at this;refine⟨ab ⟨au,by rw[ap];exact a8⟩,fun j hj=>this.2 j ?_⟩;unfold gr at hj⊢;rw[au] at hj;rw[x1];exact hj
    ·rw[a1 _ e];exact this
  have a2:∀a0 r0,eO (Ie s p y) o a0 r0↔eO s o a0 r0/\a0≠a:=by
   intro a0 r0
   constructor
   ·rintro⟨q,g1,g2,g3⟩;rw[al] at g1
    by_cases e:q=p
    ·subst e;rw[ai] at g3
     rcases g3 with⟨f1,k',f2,f3,f4,f5⟩ | ⟨f1,_⟩
     ·rw[ap] at f2 f4 f5;rw[a7,xC (by omega) (by have:=(jA f2).2;omega)] at f3;simp only[aI,Bool.not_eq_true',decide_eq_false_iff_not] at f3;refine⟨⟨q,g1,g2,by rw[ad];exact ab ⟨x1,k',f2,f3.1,f4,f5⟩⟩,?_⟩;intro e;exact f3.2 (Ip x2 f2 (x3.trans (e.symm.trans f4)))
     ·omega
    ·rw[a1 _ e] at g3;have hq:gZ s o q a0 r0:=⟨g1,g2,g3⟩;refine⟨⟨q,hq⟩,?_⟩;have:=(hq.pos h).2.1;rintro rfl;exact e (by omega)
   ·rintro⟨⟨q,hq⟩,ar⟩;refine⟨q,by rw[al];exact hq.1,hq.2.1,?_⟩
    by_cases e:q=p
    ·subst e;rw[ai];have g3:=hq.2.2;rw[ad] at g3
     rcases g3 with⟨f1,k',f2,f3,f4,f5⟩ | ⟨f1,_⟩
     ·refine ab ⟨au,k',by rw[ap];exact f2,?_,by rw[ap];exact f4,by rw[ap];exact f5⟩;rw[a7,xC (by omega) (by have:=(jA f2).2;omega),f3];have:k≠k':=by rintro rfl;exact ar (f4.trans x3)
      simp[this]
     ·omega
    ·rw[a1 _ e];exact hq.2.2
  have a':∀a0 r0 b,eO (Ie s p y) o a0 r0->b<r0->(Ie s p y).rd (a0+b)=s.rd (a0+b):=by
   intro a0 r0 b hq hb;obtain⟨q,hq⟩:=((a2 a0 r0).1 hq).1;have hh:=fun e=>hq.not_head h (b:=b) hb m2 e;refine oN p y ?_ ?_
   ·intro e;have:=hh (by omega);omega
   ·intro e;have:=hh (by omega);omega
  have a9:iM s a=(0,li s p k):=by
   unfold iM;rw[hf];simp only;rw[if_neg (by omega)]
  by_cases hz:y=⟨1,x.n,0⟩
  ·have a3:gr (FA (Ie s p y) p)=1:=by rw[ai,hz];rfl
   obtain⟨q1,q2,q3⟩:=GC a5 (p:=p) (n:=1) (by rw[al];exact m1) m2 a3;have a6:=wH ba (p:=p) (n:=1) (by omega) (by omega) fun j hj=>by
    obtain rfl:j=0:=by omega
    rw[al];exact m1
   refine⟨(Ie s p y).delRun p 1,?_,q1,?_,?_,?_,?_⟩
   ·rw[a9];unfold li;simp only[ad,hy];rw[if_pos hz,a6]
   ·intro a0 r0;rw[q2,a2]
    constructor
    ·rintro⟨g,_⟩;exact g
    ·intro g;refine⟨g,fun e=>?_⟩;obtain⟨q,hq⟩:=(a2 a0 r0).2 g;have:=(hq.pos a5).2.1;have e2:q=p:=by omega
     subst e2;have g3:=hq.2.2;rw[ai,hz] at g3
     rcases g3 with⟨_,k',_,f,_⟩ | ⟨f,_⟩
     ·simp at f
     ·cases f
   ·intro a0 r0 b hq hb;rw[q3 a0 r0 b hq hb];exact a' a0 r0 b ((q2 a0 r0).1 hq).1 hb
   ·rw[Jk,ng]
   ·exact aO (qo _ _ _) (by rw[nf];exact Nat.le_refl _)
  ·refine⟨Ie s p y,?_,a5,a2,a',ng s p y,by rw[nf];exact Nat.le_refl _⟩;rw[a9];unfold li;simp only[ad,hy];rw[if_neg hz]
structure Fw (S:St) (o:Nat->Nat):Prop where
 own:Own S.a o
 tab:iW S.t
 live:∀(i:Nat) (x:cm),S.t.slots[i]?=some x->x.is=1->∃r,eO S.a o x.addr r/\S.a.rd (x.addr+1)+2<=r/\S.a.rd (x.addr+1)<=3998
 inj:∀(i j:Nat) (x y:cm),S.t.slots[i]?=some x->S.t.slots[j]?=some y->x.is=1->y.is=1->x.addr=y.addr->i=j
theorem Fw.inv(h:Fw S o):Fv S where
 len i hi h1:=by
  obtain⟨r,h2,h3,h4⟩:=h.live i _ (af hi) h1;have:=(h2.ok h.own (b:=0) (by omega)).2.1;unfold gK at this;exact⟨h4,by omega⟩
 apart i j hi hj hne h1 h2:=by
  obtain⟨r,g2,g3,g4⟩:=h.live i _ (af hi) h1;obtain⟨r',f2,f3,f4⟩:=h.live j _ (af hj) h2;rcases eO.apart h.own g2 f2 with hq | hq | hq
  ·exact absurd (h.inj i j _ _ (af hi) (af hj) h1 h2 hq.1) hne
  ·left;omega
  ·right;omega
theorem l6{t:Hs}(ht:iW t){h k:Nat}:t.of h=some k↔∃x:cm,t.slots[k]?=some x/\x.is=1/\h=gj x.gen k:=by
 unfold Hs.of gj
 constructor
 ·intro hh;simp only at hh
  split at hh
  ·cases hh
  ·split at hh
   ·cases hh
   ·rename_i x hx
    split at hh
    ·rename_i hc;have:=Option.some.inj hh;subst this;exact⟨x,hx,hc.1,by rw[hc.2];omega⟩
    ·cases hh
 ·rintro⟨x,hx,h1,rfl⟩;have hk:k<t.slots.length:=(aA.1 hx).1;have hl:=ht.len;have hm:=ht.most.2;have e1:(x.gen*4294967296+(k+1)) % 4294967296=k+1:=by omega
  have e2:(x.gen*4294967296+(k+1)) / 4294967296=x.gen:=by omega
  simp only[e1,e2];rw[if_neg (by omega),Nat.add_sub_cancel,hx];simp only[h1,and_self,if_true]
def Lf.reco(S:St)(h:Nat):Option (List Nat):=
 match S.t.of h with
 | none=>none
 | some k=>some ((List.range (S.a.rd ((S.t.slots.getD k ⟨0,0,0⟩).addr+1))).map fun j=>S.a.rd ((S.t.slots.getD k ⟨0,0,0⟩).addr+2+j))
def gE(s:Slab)(a:Nat):List Nat:=(List.range (s.rd (a+1))).map fun j=>s.rd (a+2+j)
theorem Jy(s:Slab)(a:Nat):(gE s a).length=s.rd (a+1):=by simp[gE]
theorem E7{a k:Nat}(h:k<s.rd (a+1)):(gE s a).getD k 0=s.rd (a+2+k):=by
 unfold gE;rw[am,aT,bC h];rfl
theorem gT(ht:iW S.t):reco S h=some ws↔∃(k:Nat) (x:cm),S.t.slots[k]?=some x/\x.is=1/\h=gj x.gen k/\ws=gE S.a x.addr:=by
 unfold reco
 constructor
 ·intro hh
  split at hh
  ·cases hh
  ·rename_i k hk;obtain⟨x,hx,h1,h2⟩:=(l6 ht).1 hk;refine⟨k,x,hx,h1,h2,?_⟩;have e:S.t.slots.getD k ⟨0,0,0⟩=x:=by rw[am,hx];rfl
   rw[e] at hh;exact(Option.some.inj hh).symm
 ·rintro⟨k,x,hx,h1,h2,rfl⟩;rw[(l6 ht).2 ⟨x,hx,h1,h2⟩];have e:S.t.slots.getD k ⟨0,0,0⟩=x:=by rw[am,hx];rfl
  simp only[e]
  rfl
theorem JH{S S':St}(he:∀ws,reco S h=some ws↔reco S' h=some ws):reco S' h=reco S h:=by
 cases h1:reco S h with
 | some ws=>exact(he ws).1 h1
 | none=>
  cases h2:reco S' h with
  | none=>rfl
  | some ws=>rw[(he ws).2 h2] at h1;cases h1
theorem jw(ht:iW S.t)(hl:reco S h=some ws):S.len h=(ws.length,0):=by
 obtain⟨k,x,hx,h1,h2,rfl⟩:=(gT ht).1 hl;have hk:k<S.t.slots.length:=(aA.1 hx).1;have ad:S.t.slots[k]=x:=by have:=af hk;rw[hx] at this;exact(Option.some.inj this).symm
 unfold St.len;rw[St.at_some ((l6 ht).2 ⟨x,hx,h1,h2⟩) hk,ad,Jy]
theorem oy(hl:reco S h=none):S.len h=(0,7):=by
 unfold reco at hl
 split at hl
 ·rename_i e;unfold St.len;rw[St.at_none e]
 ·cases hl
theorem ru(hf:Fw S o)(hl:reco S h=some ws){k:Nat}(hk:k<ws.length):S.get h k=(ws.getD k 0,0):=by
 obtain⟨i,x,hx,h1,h2,rfl⟩:=(gT hf.tab).1 hl;have hi:i<S.t.slots.length:=(aA.1 hx).1;have ai:S.t.slots[i]=x:=by have:=af hi;rw[hx] at this;exact(Option.some.inj this).symm
 rw[Jy] at hk;obtain⟨r,g1,g2,g3⟩:=hf.live i x hx h1;have ad:=g1.ok hf.own (b:=2+k) (by omega);unfold St.get;rw[St.at_some ((l6 hf.tab).2 ⟨x,hx,h1,h2⟩) hi,ai];simp only;rw[if_pos hk,E7 hk];rw[<-dy] at ad;rw[ad.1]
theorem fL(hf:Fw S o)(hl:reco S h=some ws):0<h/\h<2^64/\ws.length<=3998/\∀v∈ws,v<2^64:=by
 obtain⟨i,x,hx,h1,rfl,rfl⟩:=(gT hf.tab).1 hl;have hi:i<S.t.slots.length:=(aA.1 hx).1;have hl:=hf.tab.len;have hm:=hf.tab.most.2;have hg:=(hf.tab.slot x (bA hx)).2.1;obtain⟨r,g1,g2,g3⟩:=hf.live i x hx h1;refine⟨by unfold gj;omega,by unfold gj;omega,by rw[Jy];exact g3,fun v hv=>?_⟩;unfold gE at hv;obtain⟨j,_,rfl⟩:=ay.1 hv;exact hf.own.wf.rd_lt _
structure ej (S S':St) (p q:Nat):Prop where
 quota:S'.a.quota=S.a.quota
 most:S'.t.most=S.t.most
 last:S'.t.last=S.t.last
 pages:S'.a.pages.length<=S.a.pages.length+p
 slots:S'.t.slots.length<=S.t.slots.length+q
theorem ej.refl(S:St):ej S S 0 0:=⟨rfl,rfl,rfl,Nat.le_refl _,Nat.le_refl _⟩
theorem ej.trans{S T U:St}{p q p' q':Nat}(h:ej S T p q)(k:ej T U p' q'):ej S U (p+p') (q+q'):=
 ⟨k.quota.trans h.quota,k.most.trans h.most,k.last.trans h.last,by have:=h.pages;have:=k.pages;omega,by have:=h.slots;have:=k.slots;omega⟩
theorem ej.mono{S S':St}{p q p' q':Nat}(h:ej S S' p q)(hp:p<=p')(hq:q<=q'):ej S S' p' q':=
 ⟨h.quota,h.most,h.last,by have:=h.pages;omega,by have:=h.slots;omega⟩
theorem Cn(hf:Fw S o)(hl:reco S h=some ws){k x:Nat}(hk:k<ws.length)(hx:x<2^64):
 ∃S',S.put h k x=(0,S')/\Fw S' o/\reco S' h=some (ws.set k x)/\(∀h',h'≠h->reco S' h'=reco S h')/\ej S S' 0 0:=by
 obtain⟨i,y,hy,h1,h2,rfl⟩:=(gT hf.tab).1 hl;have hi:i<S.t.slots.length:=(aA.1 hy).1;have a0:S.t.slots[i]=y:=by have:=af hi;rw[hy] at this;exact(Option.some.inj this).symm
 rw[Jy] at hk;obtain⟨r,g1,g2,g3⟩:=hf.live i y hy h1;have ai:=g1.ok hf.own (b:=2+k) (by omega);obtain⟨ap,ar⟩:=hf.own.wr g1 (b:=2+k) (x:=x) (by omega) hx;rw[<-dy] at ai ap ar;have hS:S.put h k x=(0,⟨S.a.wr (y.addr+2+k) x,S.t⟩):=by
  unfold St.put;rw[St.at_some ((l6 hf.tab).2 ⟨y,hy,h1,h2⟩) hi,a0];simp only;rw[if_pos hk,ai.1]
 have ad:∀(j:Nat) (z:cm),S.t.slots[j]?=some z->z.is=1->j≠i->∀b,b<2+S.a.rd (z.addr+1)->(S.a.wr (y.addr+2+k) x).rd (z.addr+b)=S.a.rd (z.addr+b):=by
  intro j z hz hz1 hne b hb;obtain⟨r',f1,f2,f3⟩:=hf.live j z hz hz1;refine Slab.rd_wr_ne _ _ _ _ ?_
  rcases eO.apart hf.own f1 g1 with hq | hq | hq
  ·exact absurd (hf.inj j i z y hz hy hz1 h1 hq.1) hne
  ·omega
  ·omega
 have au:(S.a.wr (y.addr+2+k) x).rd (y.addr+1)=S.a.rd (y.addr+1):=Slab.rd_wr_ne _ _ _ _ (by omega);refine⟨_,hS,⟨ap,hf.tab,?_,hf.inj⟩,?_,?_,⟨rfl,rfl,rfl,by show (Slab.wr _ _ _).pages.length<=_;rw[kL];exact Nat.le_refl _,Nat.le_refl _⟩⟩
 ·intro j z hz hz1;obtain⟨r',f1,f2,f3⟩:=hf.live j z hz hz1;refine⟨r',ar _ _ f1,?_⟩
  by_cases e:j=i
  ·subst e;have hz:S.t.slots[j]?=some z:=hz;rw[hy] at hz
   injection hz with hz
   subst hz
   show (S.a.wr (y.addr+2+k) x).rd (y.addr+1)+2<=r'/\(S.a.wr (y.addr+2+k) x).rd (y.addr+1)<=3998
   rw[au];exact⟨f2,f3⟩
  ·show (S.a.wr (y.addr+2+k) x).rd (z.addr+1)+2<=r'/\(S.a.wr (y.addr+2+k) x).rd (z.addr+1)<=3998
   rw[ad j z hz hz1 e 1 (by omega)];exact⟨f2,f3⟩
 ·refine(gT (S:=⟨S.a.wr (y.addr+2+k) x,S.t⟩) hf.tab).2 ⟨i,y,hy,h1,h2,?_⟩;refine dA fun j=>?_
  show _=(gE (S.a.wr (y.addr+2+k) x) y.addr)[j]?
  unfold gE;rw[au]
  by_cases hj:j<S.a.rd (y.addr+1)
  ·rw[aT,bC hj]
   by_cases e:k=j
   ·subst e;rw[cg (by simp;exact hk)]
    show some x=some ((S.a.wr (y.addr+2+k) x).rd (y.addr+2+k))
    rw[oS hf.own.wf ai.2.2]
   ·rw[cz e,aT,bC hj]
    show some _=some ((S.a.wr (y.addr+2+k) x).rd (y.addr+2+j))
    rw[Slab.rd_wr_ne _ _ _ _ (by omega)]
  ·rw[aH (by simp;omega),aH (by simp;omega)]
 ·intro h' hne;refine JH (S':=⟨S.a.wr (y.addr+2+k) x,S.t⟩) fun ws'=>?_;have hw:∀(j:Nat) (z:cm),S.t.slots[j]?=some z->z.is=1->h'=gj z.gen j->gE (S.a.wr (y.addr+2+k) x) z.addr=gE S.a z.addr:=by
   intro j z hz hz1 he;have al:j≠i:=by
    rintro rfl;rw[hy] at hz
    injection hz with hz
    subst hz;exact hne (he.trans h2.symm)
   unfold gE;rw[ad j z hz hz1 al 1 (by omega)];refine aS fun b hb=>?_;have hb:=bH.1 hb;have:=ad j z hz hz1 al (2+b) (by omega);rw[<-dy] at this;exact this
  rw[gT hf.tab,gT (S:=⟨S.a.wr (y.addr+2+k) x,S.t⟩) hf.tab]
  constructor
  ·rintro⟨j,z,q1,q2,q3,q4⟩;exact⟨j,z,q1,q2,q3,by rw[q4];exact(hw j z q1 q2 q3).symm⟩
  ·rintro⟨j,z,q1,q2,q3,q4⟩;exact⟨j,z,q1,q2,q3,by rw[q4];exact hw j z q1 q2 q3⟩
theorem vw {o:Nat->Nat}{h:Nat}:∀(l:List Nat) {S:St} {ws:List Nat} {k:Nat},Fw S o->reco S h=some ws->k+l.length<=ws.length->(∀v∈l,v<2^64)->
 Fw (FC S h k l) o/\reco (FC S h k l) h=some (ws.take k++l++ws.drop (k+l.length))/\(∀h',h'≠h->reco (FC S h k l) h'=reco S h')/\ej S (FC S h k l) 0 0
 | [],S,ws,k,hf,hl,hk,hv=>by
  refine⟨hf,?_,fun _ _=>rfl,ej.refl S⟩;show reco S h=_
  rw[hl];simp
 | x::r,S,ws,k,hf,hl,hk,hv=>by
  simp only[av] at hk;obtain⟨S',e,ad,ap,ar,ai⟩:=Cn hf hl (k:=k) (x:=x) (by omega) (hv x (ag ..));obtain⟨q1,q2,q3,q4⟩:=vw r ad ap (k:=k+1) (by rw[bE];omega) (fun v hm=>hv v (aj _ hm));have e2:FC S h k (x::r)=FC S' h (k+1) r:=by
   show FC (S.put h k x).2 h (k+1) r=_
   rw[e]
  rw[e2];refine⟨q1,?_,fun h' hn=>(q3 h' hn).trans (ar h' hn),(ai.trans q4).mono (by omega) (by omega)⟩;rw[q2];congr 1
  have al:k<ws.length:=by omega
  rw[List.drop_set_of_lt (by omega),List.take_set,List.take_add_one,af al];simp only[Option.toList_some,av];rw[List.set_append_right _ _ (by simp;omega)];have:k-(ws.take k).length=0:=by simp;omega
  rw[this];simp only[List.set_cons_zero,bM,aP,aW];rw[show k+1+r.length=k+(r.length+1) by omega]
theorem mR{l ws:List Nat}(hf:Fw S o)(hl:reco S h=some ws)(hk:l.length=ws.length)(hv:∀v∈l,v<2^64):
 Fw (FC S h 0 l) o/\reco (FC S h 0 l) h=some l/\(∀h',h'≠h->reco (FC S h 0 l) h'=reco S h')/\ej S (FC S h 0 l) 0 0:=by
 have:=vw l hf hl (k:=0) (by omega) hv;rw[cB,aW,bU (by omega),bW] at this;exact this
theorem uu:∀(l:List cm) (k0:Nat),∃k,gH l k0=k0+k/\k<=l.length/\(∀x:cm,l[k]?=some x->x.is=0)
 | [],k0=>⟨0,rfl,Nat.le_refl _,by simp⟩
 | y::r,k0=>by
  unfold gH;by_cases h:y.is=0
  ·rw[if_pos h];exact⟨0,rfl,by omega,fun x hx=>by simp at hx;rw[<-hx];exact h⟩
  ·rw[if_neg h];obtain⟨k,h1,h2,h3⟩:=uu r (k0+1);exact⟨k+1,by rw[h1];omega,by simp only[av];omega,fun x hx=>h3 x (by simpa using hx)⟩
def fc(S:St)(p q:Nat):Prop:=(S.a.pages.length+p)*64<=S.a.quota/\S.t.slots.length+q<=S.t.most
theorem fc.grew{S S':St}{p q p' q':Nat}(h:fc S (p+p') (q+q'))(hg:ej S S' p q):fc S' p' q':=by
 obtain⟨h1,h2⟩:=h;obtain⟨g1,g2,_,g4,g5⟩:=hg;refine⟨?_,by rw[g2];omega⟩;rw[g1];refine aO (df 64 ?_) h1;omega
theorem fc.mono{p q p' q':Nat}(h:fc S p q)(hp:p'<=p)(hq:q'<=q):fc S p' q':=
 ⟨aO (df 64 (by omega)) h.1,by have:=h.2;omega⟩
theorem oz(hf:Fw S o)(hn:n<=3998)(hr:fc S (fa (n+2)) 1):
 ∃h S' o' ws,S.make n=((h,0),S')/\Fw S' o'/\reco S h=none/\ws.length=n/\reco S' h=some ws/\(∀h',h'≠h->reco S' h'=reco S h')/\ej S S' (fa (n+2)) 1/\(S.t.open (fR S.a (n+2)).1.1).1.2=0:=by
 obtain⟨a,s',o',r,ea,T,b2,bs⟩:=yE hf.own (n:=n+2) (by omega) (by omega) hr.1;obtain⟨k,a1,b1,a2⟩:=uu S.t.slots 0;rw[bQ] at a1;have bd:k≠S.t.most:=by have:=hr.2;omega
 have hm:=hf.tab.most.2;have bf:=hf.tab.len;obtain⟨l,hl⟩:=Ii (if k=S.t.slots.length then S.t.slots++[⟨0,0,0⟩] else S.t.slots);have a5:k<l.length:=by
  rw[<-hl]
  split
  ·simp only[aG,av,aL];omega
  ·omega
 have bj:l.length<=S.t.slots.length+1:=by rw[<-hl];split<;>simp
 have bk:l.length<=S.t.most:=by
  rw[<-hl]
  split
  ·have:=hr.2
   simp;omega
  ·exact bf
 have a4:∀i:Nat,i≠k->l[i]?=S.t.slots[i]?:=by
  intro i hi;rw[<-hl]
  split
  ·rename_i e
   rcases bZ i S.t.slots.length with h | h
   ·rw[cE h]
   ·rw[bS h,aH h,aH (by simp;omega)]
  ·rfl
 obtain⟨g,hg⟩:=Ii ((S.t.genAt k+1) % 4294967296);have ba:g<4294967296:=by rw[<-hg];omega
 obtain⟨h,hh⟩:=Ii (gj g k);have bb:h<2^64:=by rw[<-hh];unfold gj;omega
 have a7:S.t.open a=((h,0),{ S.t with slots:=l.set k ⟨1,g,a⟩ }):=by
  unfold Hs.open;simp only[a1];rw[if_neg bd];simp only[hl,hg,hh]
 have ad:=(T.pl a r).2 (ae ⟨rfl,rfl⟩);obtain⟨au,al⟩:=T.own.wr ad (b:=0) (x:=h) (by omega) bb;rw[Nat.add_zero] at au al;obtain⟨bv,a8⟩:=au.wr (al _ _ ad) (b:=1) (x:=n) (by omega) (by omega);have bm:S.make n=((h,0),⟨(s'.wr a h).wr (a+1) n,{ S.t with slots:=l.set k ⟨1,g,a⟩ }⟩):=by
  unfold St.make;rw[if_neg (by omega),ea];simp only[a7]
 have ap:∀a0 r0 b,eO S.a o a0 r0->b<r0->((s'.wr a h).wr (a+1) n).rd (a0+b)=S.a.rd (a0+b):=by
  intro a0 r0 b hq hb;have b0:=eO.apart T.own ((T.pl a0 r0).2 (ab hq)) ad;have a6:a0≠a:=by rintro rfl;exact T.fresh _ hq
  rw[Slab.rd_wr_ne _ _ _ _ (by omega),Slab.rd_wr_ne _ _ _ _ (by omega)];exact T.rd a0 r0 b hq hb
 have a3:((s'.wr a h).wr (a+1) n).rd (a+1)=n:=oS au.wf (by rw[i9];exact(ad.ok T.own (b:=1) (by omega)).2.2) _;have ai:∀(i:Nat) (x:cm),(l.set k ⟨1,g,a⟩)[i]?=some x->(i=k/\x=⟨1,g,a⟩)\/(i≠k/\S.t.slots[i]?=some x):=by
  intro i x hx
  by_cases e:i=k
  ·subst e;rw[cg a5] at hx;exact ab ⟨rfl,(Option.some.inj hx).symm⟩
  ·rw[cz (fun h=>e h.symm),a4 i e] at hx;exact ae ⟨e,hx⟩
 have bt:(l.set k ⟨1,g,a⟩)[k]?=some ⟨1,g,a⟩:=cg a5;have bu:∀i:Nat,i≠k->(l.set k (⟨1,g,a⟩:cm))[i]?=S.t.slots[i]?:=fun i e=>by rw[cz (fun h=>e h.symm),a4 i e]
 have a9:a<=4611686018427387903:=by have:=(ad.ok T.own (b:=0) (by omega)).2.1;unfold gK at this;omega
 have ar:iW { S.t with slots:=l.set k ⟨1,g,a⟩ }:=by
  refine⟨hf.tab.most,hf.tab.last,by simp only[bE];exact bk,fun x hx=>?_⟩;obtain⟨i,hi⟩:=List.getElem?_of_mem hx
  rcases ai i x hi with⟨_,e⟩ | ⟨_,e⟩
  ·subst e;exact⟨by show 1<=2;decide,ba,a9⟩
  ·exact hf.tab.slot x (bA e)
 have a':Fw ⟨(s'.wr a h).wr (a+1) n,{ S.t with slots:=l.set k ⟨1,g,a⟩ }⟩ o':=by
  refine⟨bv,ar,?_,?_⟩
  ·intro i x hx h1
   rcases ai i x hx with⟨_,e⟩ | ⟨_,e⟩
   ·subst e;refine⟨r,a8 _ _ (al _ _ ad),?_⟩;simp only;rw[a3];omega
   ·obtain⟨r0,f1,f2,f3⟩:=hf.live i x e h1;refine⟨r0,a8 _ _ (al _ _ ((T.pl _ _).2 (ab f1))),?_⟩;simp only;rw[ap _ _ 1 f1 (by omega)];exact⟨f2,f3⟩
  ·intro i j x y hx hy h1 h2 he
   rcases ai i x hx with⟨e1,e⟩ | ⟨e1,e⟩
   ·rcases ai j y hy with⟨e2,e'⟩ | ⟨e2,e'⟩
    ·rw[e1,e2]
    ·subst e;obtain⟨r0,f1,_⟩:=hf.live j y e' h2;rw[<-he] at f1;exact absurd f1 (T.fresh _)
   ·rcases ai j y hy with⟨e2,e'⟩ | ⟨e2,e'⟩
    ·subst e';obtain⟨r0,f1,_⟩:=hf.live i x e h1;rw[he] at f1;exact absurd f1 (T.fresh _)
    ·exact hf.inj i j x y e e' h1 h2 he
 have bo:reco S h=none:=by
  cases hq:reco S h with
  | none=>rfl
  | some ws=>
   exfalso
   obtain⟨i,x,hx,h1,h2,_⟩:=(gT hf.tab).1 hq;have hi:i<S.t.slots.length:=(aA.1 hx).1;have e:i=k:=by rw[<-hh] at h2;unfold gj at h2;omega
   subst e;have:=a2 x hx;omega
 refine⟨h,_,o',gE ((s'.wr a h).wr (a+1) n) a,bm,a',bo,by rw[Jy,a3],?_,?_,?_,?_⟩
 ·exact(gT ar).2 ⟨k,_,bt,rfl,hh.symm,rfl⟩
 ·intro h' a6;refine JH fun ws=>?_;rw[gT hf.tab,gT ar];have hw:∀(i:Nat) (x:cm),S.t.slots[i]?=some x->x.is=1->gE ((s'.wr a h).wr (a+1) n) x.addr=gE S.a x.addr:=by
   intro i x hx h1;obtain⟨r0,f1,f2,f3⟩:=hf.live i x hx h1;unfold gE;rw[ap _ _ 1 f1 (by omega)];refine aS fun b hb=>?_;have hb:=bH.1 hb;have:=ap _ _ (2+b) f1 (by omega);rw[<-dy] at this;exact this
  constructor
  ·rintro⟨i,x,hx,h1,h2,h3⟩;have bc:i≠k:=by rintro rfl;have:=a2 x hx;omega
   exact⟨i,x,(bu i bc).trans hx,h1,h2,by rw[h3];exact(hw i x hx h1).symm⟩
  ·rintro⟨i,x,hx,h1,h2,h3⟩
   rcases ai i x hx with⟨e1,e⟩ | ⟨e1,e⟩
   ·subst e1 e;exact absurd (h2.trans hh) a6
   ·exact⟨i,x,e,h1,h2,by rw[h3];exact hw i x e h1⟩
 ·refine⟨T.quota,rfl,rfl,?_,?_⟩
  ·show (Slab.wr _ _ _).pages.length<=_
   rw[kL,kL];exact bs
  ·simp only[bE];exact bj
 ·rw[ea];simp only[a7]
theorem rz(hf:Fw S o)(hn:n<=3998)(hr:fc S (fa (n+2)) 1):iw S n:=by
 obtain⟨h,S',o',ws,e,ad,_,_,_,_,_,ho⟩:=oz hf hn hr;exact⟨ho,by rw[e];exact ad.inv⟩
theorem mQ(hf:Fw S o)(hl:reco S h=some ws):
 ∃S',S.drop h=(0,S')/\Fw S' o/\reco S' h=none/\(∀h',h'≠h->reco S' h'=reco S h')/\ej S S' 0 0:=by
 obtain⟨k,x,hx,h1,h2,rfl⟩:=(gT hf.tab).1 hl;have hk:k<S.t.slots.length:=(aA.1 hx).1;have a4:S.t.slots[k]=x:=by have:=af hk;rw[hx] at this;exact(Option.some.inj this).symm
 have a2:=(l6 hf.tab).2 ⟨x,hx,h1,h2⟩;obtain⟨r,g1,g2,g3⟩:=hf.live k x hx h1;obtain⟨s',es,F⟩:=A9 hf.own g1;obtain⟨z,hz⟩:∃z:Nat,(if x.gen=S.t.last then 2 else 0)=z:=⟨_,rfl⟩;have a5:z≠1/\z<=2:=by rw[<-hz];split<;>omega
 have a6:S.t.close h=(0,{ S.t with slots:=S.t.slots.set k { x with is:=z } }):=by
  rw[Hs.close_some a2 hk,a4,hz]
 have al:∀(i:Nat) (y:cm),(S.t.slots.set k { x with is:=z })[i]?=some y->y.is=1->i≠k/\S.t.slots[i]?=some y:=by
  intro i y hy ad
  by_cases e:i=k
  ·subst e;rw[cg hk] at hy
   injection hy with hy
   rw[<-hy] at ad;exact absurd ad a5.1
  ·rw[cz (fun h=>e h.symm)] at hy;exact⟨e,hy⟩
 have a3:∀i:Nat,i≠k->(S.t.slots.set k { x with is:=z })[i]?=S.t.slots[i]?:=fun i e=>cz (fun h=>e h.symm);have a1:∀(i:Nat) (y:cm),S.t.slots[i]?=some y->y.is=1->i≠k->y.addr≠x.addr:=fun i y hy ad hi e=>hi (hf.inj i k y x hy hx ad h1 e);have ar:iW { S.t with slots:=S.t.slots.set k { x with is:=z } }:=by
  refine⟨hf.tab.most,hf.tab.last,by simp only[bE];exact hf.tab.len,fun y hy=>?_⟩;obtain⟨i,hi⟩:=List.getElem?_of_mem hy
  by_cases e:i=k
  ·subst e;rw[cg hk] at hi
   injection hi with hi
   rw[<-hi];have:=hf.tab.slot x (bA hx);exact⟨a5.2,this.2⟩
  ·rw[a3 i e] at hi;exact hf.tab.slot y (bA hi)
 have a7:S.drop h=(0,⟨s',{ S.t with slots:=S.t.slots.set k { x with is:=z } }⟩):=by
  unfold St.drop;rw[St.at_some a2 hk,a4];simp only[a6,es]
 have a8:Fw ⟨s',{ S.t with slots:=S.t.slots.set k { x with is:=z } }⟩ o:=by
  refine⟨F.own,ar,?_,?_⟩
  ·intro i y hy ad;obtain⟨hi,hy⟩:=al i y hy ad;obtain⟨r0,f1,f2,f3⟩:=hf.live i y hy ad;have hp:=(F.pl _ _).2 ⟨f1,a1 i y hy ad hi⟩;refine⟨r0,hp,?_⟩;simp only;rw[F.rd _ _ 1 hp (by omega)];exact⟨f2,f3⟩
  ·intro i j y y' hy ap h3 h4 he;exact hf.inj i j y y' (al i y hy h3).2 (al j y' ap h4).2 h3 h4 he
 refine⟨_,a7,a8,?_,?_,⟨F.quota,rfl,rfl,F.len,by simp only[bE];exact Nat.le_refl _⟩⟩
 ·cases hq:reco (⟨s',{ S.t with slots:=S.t.slots.set k { x with is:=z } }⟩:St) h with
  | none=>rfl
  | some ws=>
   exfalso
   obtain⟨i,y,hy,ad,ai,_⟩:=(gT ar).1 hq;obtain⟨hi,hy⟩:=al i y hy ad;have a9:i<S.t.slots.length:=(aA.1 hy).1;have:=hf.tab.len;have:=hf.tab.most.2;rw[h2] at ai;unfold gj at ai;omega
 ·intro h' hn;refine JH fun ws=>?_;rw[gT hf.tab,gT ar];have hw:∀(i:Nat) (y:cm),S.t.slots[i]?=some y->y.is=1->i≠k->gE s' y.addr=gE S.a y.addr:=by
   intro i y hy ad hi;obtain⟨r0,f1,f2,f3⟩:=hf.live i y hy ad;have hp:=(F.pl _ _).2 ⟨f1,a1 i y hy ad hi⟩;unfold gE;rw[F.rd _ _ 1 hp (by omega)];refine aS fun b hb=>?_;have hb:=bH.1 hb;have:=F.rd _ _ (2+b) hp (by omega);rw[<-dy] at this;exact this
  constructor
  ·rintro⟨i,y,hy,ad,ai,au⟩;have a0:i≠k:=by
    rintro rfl;rw[hx] at hy
    injection hy with hy
    subst hy;exact hn (ai.trans h2.symm)
   exact⟨i,y,(a3 i a0).trans hy,ad,ai,by rw[au];exact(hw i y hy ad a0).symm⟩
  ·rintro⟨i,y,hy,ad,ai,au⟩;obtain⟨hi,ap⟩:=al i y hy ad;exact⟨i,y,ap,ad,ai,by rw[au];exact hw i y ap ad hi⟩
theorem D4(hf:Fw S o)(hl:reco S h=some ws):kM S h=ws:=by
 unfold kM;rw[jw hf.tab hl];refine dA fun i=>?_
 by_cases hi:i<ws.length
 ·rw[aT,bC hi]
  show some (S.get h i).1=_
  rw[ru hf hl hi,af hi,am,af hi]
  rfl
 ·rw[aH (by simp;omega),aH (by omega)]
theorem jt(hf:Fw S o)(ht:t.length<=1000)(hl:reco S h=some (FK t)):fz S h=(t,0):=by
 unfold fz;rw[jw hf.tab hl];simp only;rw[D4 hf hl,EN t ht]
theorem Cu(h:n<=1000):many n=1+(n+7) / 8/\many n<=126:=by
 have:many n=1+(n+7) / 8:=by unfold many;rw[if_neg (by omega)]
 omega
theorem qh(h1:1<=n)(h2:n<=4000):fa n<=(n+65) / 64:=by
 unfold fa;rw[if_neg (by omega)];split<;>omega
theorem oL(hf:Fw S o)(ht:t.length<=1000)(hr:fc S 3 1):
 ∃h S' o',fx S t=((h,0),S')/\Fw S' o'/\reco S h=none/\reco S' h=some (FK t)/\(∀h',h'≠h->reco S' h'=reco S h')/\ej S S' 3 1/\iw S (many t.length):=by
 obtain⟨m1,m2⟩:=Cu ht;have ad:fa (many t.length+2)<=3:=aO (qh (by omega) (by omega)) (by omega);obtain⟨h,S1,o1,ws,e,ai,hn,al,hl,ho,hg,_⟩:=oz hf (n:=many t.length) (by omega) (hr.mono ad Ih);have ap:=rz hf (n:=many t.length) (by omega) (hr.mono ad Ih);obtain⟨q1,q2,q3,q4⟩:=mR ai hl (l:=FK t) (by rw[pj,al,m1]) (xZ t (by omega));refine⟨h,FC S1 h 0 (FK t),o1,?_,q1,hn,q2,fun h' hne=>(q3 h' hne).trans (ho h' hne),(hg.trans q4).mono (by omega) (by omega),ap⟩;unfold fx;rw[if_neg (by omega),e];rfl
def eM(n:Nd):List Nat:=[n.key,n.val,n.left,n.right,n.mark,n.size]
theorem pN(hf:Fw S o){n:Nd}(hl:reco S h=some (eM n)):fZ S h=0:=by
 unfold fZ;rw[jw hf.tab hl];simp[eM]
theorem gw(hf:Fw S o){n:Nd}(hl:reco S h=some (eM n)):getNode S h=(n,0):=by
 have g:=fun k hk=>ru hf hl (k:=k) hk;have ad:(eM n).length=6:=rfl;unfold getNode;rw[pN hf hl];simp only;rw[g 0 (by omega),g 1 (by omega),g 2 (by omega),g 3 (by omega),g 4 (by omega),g 5 (by omega)];rfl
theorem Bd(hl:reco S h=none):getNode S h=(Nd.zero,7):=by
 unfold getNode fZ;rw[oy hl];rfl
theorem Co:reco S 0=none:=by
 unfold reco Hs.of;simp
theorem Bc(S:St):getNode S 0=(Nd.zero,7):=Bd Co
theorem vS{n:Nd}(hn:ji n):∀v∈eM n,v<2^64:=by
 intro v hv;have h1:=hn.key;have h2:=hn.val;have h3:=hn.left;have h4:=hn.right;have h5:=hn.mark;have h6:=hn.size;simp only[eM,ah,List.mem_nil_iff,or_false] at hv;rcases hv with rfl | rfl | rfl | rfl | rfl | rfl<;>assumption
theorem ww(hf:Fw S o){n0 n:Nd}(hl:reco S h=some (eM n0))(hn:ji n):
 ∃S',gM S h n=(0,S')/\Fw S' o/\reco S' h=some (eM n)/\(∀h',h'≠h->reco S' h'=reco S h')/\ej S S' 0 0:=by
 obtain⟨q1,q2,q3,q4⟩:=mR hf hl (l:=eM n) rfl (vS hn);refine⟨FC S h 0 (eM n),?_,q1,q2,q3,q4⟩;unfold gM;rw[pN hf hl];rfl
theorem Cq(hf:Fw S o){n:Nd}(hn:ji n)(hr:fc S 1 1):
 ∃h S' o',ft S n=((h,0),S')/\Fw S' o'/\reco S h=none/\reco S' h=some (eM n)/\(∀h',h'≠h->reco S' h'=reco S h')/\ej S S' 1 1/\iw S 6:=by
 have ad:fa (6+2)<=1:=aO (qh (by omega) (by omega)) (by omega);obtain⟨h,S1,o1,ws,e,ai,ap,al,hl,ho,hg,_⟩:=oz hf (n:=6) (by omega) (hr.mono ad Ih);have ar:=rz hf (n:=6) (by omega) (hr.mono ad Ih);obtain⟨q1,q2,q3,q4⟩:=mR ai hl (l:=eM n) (by rw[al];rfl) (vS hn);have ha:fZ S1 h=0:=by
  unfold fZ;rw[jw ai.tab hl,al]
  rfl
 refine⟨h,FC S1 h 0 (eM n),o1,?_,q1,ap,q2,fun h' hne=>(q3 h' hne).trans (ho h' hne),(hg.trans q4).mono (by omega) (by omega),ar⟩;unfold ft;rw[e];simp only;unfold gM;rw[ha]
 rfl
theorem AH(hf:Fw S o){n:Nd}(hl:reco S h=some (eM n)):
 ∃S',jr S h=(0,S')/\Fw S' o/\reco S' h=none/\(∀h',h'≠h->reco S' h'=reco S h')/\ej S S' 0 0:=by
 obtain⟨S',e,q⟩:=mQ hf hl;refine⟨S',?_,q⟩;unfold jr;rw[pN hf hl];exact e
theorem ux(q n l:Nat)(hq:q<=262144)(hn:1<=n/\n<=65536)(hl:1<=l/\l<4294967296):Fw ⟨⟨q,[]⟩,⟨n,l,[]⟩⟩ id where
 own:=⟨⟨List.Pairwise.nil,by simp,by simp,by simp[Slab.keys],by simp,hq⟩,by simp[Slab.keys],by simp[Slab.keys]⟩
 tab:=⟨hn,hl,by simp,by simp⟩
 live:=by simp
 inj:=by simp
end
section
open Go.RowKit Tryz Go.BigFrame Go.Maps Go.WideMaps Lf
variable{l:List Nat}{t:Nat}{v:Value}{w:World}
structure Lf.BN where
 keys:List Nat
 vals:List Nat
 kids:List Nat
 size:Nat
def Lf.isDeg(t:Int):Bool:=decide (2<=t) && decide (t<=16)
def FD(w:World)(v:Value)(l:List Nat):Prop:=∃A c,v=.slice A l.length c/\∀(i:Nat) (h:i<l.length),∃g o,A=some ⟨g,o,none⟩/\w.cell? ⟨g,o+i,none⟩=some (Xu (l[i]:Nat))
theorem fK{g o:Nat}(h:w.cell? ⟨g,o,none⟩=some v):g<w.heap.size:=by
 unfold World.cell? at h
 split at h
 ·rename_i heq;exact(gl heq)
 ·cases h
theorem FD.below{w w':World}(h:FD w v l)(hb:Below w.heap.size w w'):FD w' v l:=by
 obtain⟨A,c,rfl,hc⟩:=h;refine⟨A,c,rfl,fun i hi=>?_⟩;obtain⟨g,o,rfl,h1⟩:=hc i hi;exact⟨g,o,rfl,(hb.cell (p:=⟨g,_,none⟩) (fK h1)).trans h1⟩
theorem FD.nil(w:World):FD w (.slice none 0 0) []:=⟨none,0,rfl,fun i hi=>absurd hi (by simp)⟩
theorem qFaaa{P:Prop}(h:P:=by
 go_enter func176,ntmps176;go_wp2_with fail;go_ret;exact⟨by rw[HQ.out];rfl,rfl⟩):P:=h
theorem nP(t:Int)(w:World):
 Ct 176 #[Xi t] w fun e w'=>e=.returned (.bool (isDeg t))/\w=w':=by
 by_cases h1:2<=t
 ·by_cases h2:t<=16
  ·have HQ:=If (show isDeg t=true by unfold isDeg;rw[decide_eq_true h1,decide_eq_true h2];rfl);exact qFaaa
  ·have HQ:=If (show isDeg t=false by unfold isDeg;rw[decide_eq_false h2];simp);exact qFaaa
 ·have HQ:=If (show isDeg t=false by unfold isDeg;rw[decide_eq_false h1];rfl);exact qFaaa
theorem Bi(h:FD w v l)(hl:l.length<=100000):
 Ct 260 #[v,Xu 0] w fun e w'=>∃k:Int,e=.returned (Xi k)/\(decide (0<=k)=l.contains 0)/\w=w':=by
 obtain⟨A,c,rfl,hc⟩:=h;obtain⟨n,hn⟩:=Ii l.length;rw[hn] at hl;have H:=kq2 hc hn;rw[hn];clear hc hn;go_enter func260,ntmps260;go_wp2_with fail
 go_loopw [5,8] (fun _ i wr=>∃k:Nat,k<=n/\i=Xi k/\wr=w/\∀(j:Nat) (hj:j<l.length),j<k->l[j]≠0) (fun _ i _=>n-(intOf i).toNat)
 case atStart=>exact⟨0,by omega,rfl,rfl,fun j _ hj=>absurd hj (by omega)⟩
 case round=>
  obtain⟨k,hk,rfl,rfl,ai⟩:=hrel
  by_cases hlt:k<n
  ·have au:(k:Int)<n:=by omega
   have al:k<l.length:=by rw[H.b];exact hlt
   obtain⟨g,o,rfl,c1⟩:=H.a k al
   by_cases h0:l[k]=0
   ·have ad:l.contains 0=true:=by rw[cW,<-h0];exact aF al
    rw[h0] at c1;have HK:=If ad;clear ai ad h0;go_wp2_with fail;go_ret;exact⟨k,rfl,by rw[HK.out];simp,rfl⟩
   ·have ar:((l[k]:Nat):Int)≠0:=by omega
    have ap:∀(j:Nat) (hj:j<l.length),j<k+1->l[j]≠0:=fun j hj h1=>by
     rcases bZ j k with h2 | h2
     ·exact ai j hj h2
     ·obtain rfl:j=k:=by omega
      exact h0
    have HK:=If ap;clear ai ap h0;generalize l[k]=x at*;have a0:¬x=0:=by omega
    have a1:¬0=x:=by omega
    have a2:((0:Int)==(x:Int))=false:=by simp;omega
    clear ar;go_wp2_with fail;exact⟨⟨k+1,by omega,by simp,trivial,HK.out⟩,by simp[intOf];omega⟩
  ·obtain rfl:k=n:=by omega
   have ad:l.contains 0=false:=by
    rw[dP];intro h;rw[cW] at h;obtain⟨j,hj,e⟩:=cf.1 h;exact ai j hj (by rw[<-H.b];exact hj) e
   have HK:=If ad;clear ai ad;go_wp2_with fail;go_ret;exact⟨-1,rfl,by rw[HK.out];simp,rfl⟩
theorem Bg(h:FD w v l)(hl:l.length<=100000):
 Ct 244 #[v,Xu 0] w fun e w'=>e=.returned (.bool (l.contains 0))/\w=w':=by
 have HG:=If (Bi h hl);clear h hl;go_enter func244,ntmps244;go_wp2_with fail;refine HG.out.mono ?_;rintro e w1 ⟨k,rfl,hk,rfl⟩;have HK:=If hk;clear hk;go_wp2_with fail;go_ret;exact⟨by rw[<-HK.out];rfl,rfl⟩
def eC(vk vv vc:Value)(s:Nat):Value:=.agg #[vk,vv,vc,Xu s]
structure iU (t:Nat) (n:BN):Prop where
 lo:2<=t
 hi:t<=16
 many:n.keys.length<=2*t-1
 vals:n.vals.length=n.keys.length
 kids:n.kids.length=0\/(n.kids.length=n.keys.length+1/\n.kids.contains 0=false)
theorem om(h1:2<=t)(h2:t<=16):isDeg (t:Int)=true:=by unfold isDeg;rw[decide_eq_true (by omega),decide_eq_true (by omega)];rfl
theorem pW(t:Nat)(h1:2<=t)(h2:t<=16)(w:World):
 Ct 155 #[Xi t] w fun e w'=>e=.returned (Xi (6*(t:Int)))/\w=w':=by
 have HG:=If (om h1 h2▸nP (t:Int) w);go_enter func155,ntmps155;go_wp2_with fail;refine Jc HG.out ?_;go_wp2_with fail;go_ret;exact⟨rfl,rfl⟩
theorem qFaab{P:Prop}(h:P:=by
 go_wp2_with fail;refine Jc (HG.a _) ?_;go_wp2_with fail;go_ret;exact⟨rfl,HG.b⟩):P:=h
theorem pV{n:BN}{vk vv vc:Value}(hn:iU t n)(hk:FD w vk n.keys)(hv:FD w vv n.vals)(hc:FD w vc n.kids):
 Cb 215 #[Xi t,eC vk vv vc n.size] w (.bool true):=by
 obtain⟨h1,h2,h3,h4,h5⟩:=hn;unfold eC;have ad:=fun W (hW:Below w.heap.size w W)=>Bg (hc.below hW) (by omega);have ai:=fun W=>om h1 h2▸nP (t:Int) W;obtain⟨Ak,ck,rfl,-⟩:=hk;obtain⟨Av,cv,rfl,-⟩:=hv;obtain⟨Ac,cc,rfl,-⟩:=hc;rw[h4];obtain⟨k,al⟩:=Ii n.keys.length;rw[al] at h3 h5⊢;generalize n.size=sz at*;have ap:(k:Int)<=2*(t:Int)-1:=by omega
 have ar:decide ((k:Int)<=2*(t:Int)-1)=true:=decide_eq_true ap
 rcases h5 with h5 | ⟨h5,h6⟩
 ·rw[h5] at ad⊢;have B0:=(aa w.heap.size w).alloc Ih (.cells #[.slice Ak k ck,.slice Av k cv,.slice Ac 0 cc,Xu sz] 286);have q0:=heap_alloc_new w (.cells #[.slice Ak k ck,.slice Av k cv,.slice Ac 0 cc,Xu sz] 286);obtain⟨c0,c1,c2,c3⟩:=Fy q0;have HG:=kq2 ai B0;clear ai B0 ad q0 al h4 h5;go_enter func215,ntmps215;exact qFaab
 ·rw[h6] at ad;rw[h5] at ad⊢;have hq:(((k+1:Nat):Int)==0)=false:=by simp;omega
  have au:((k+1:Nat):Int)=(k:Int)+1:=by omega
  have a0:¬((k:Int)+1=0):=by omega
  have B0:=(aa w.heap.size w).alloc Ih (.cells #[.slice Ak k ck,.slice Av k cv,.slice Ac (k+1) cc,Xu sz] 286);have q0:=heap_alloc_new w (.cells #[.slice Ak k ck,.slice Av k cv,.slice Ac (k+1) cc,Xu sz] 286);obtain⟨c0,c1,c2,c3⟩:=Fy q0;have HG:=kq3 ai B0 ad;clear ai B0 ad q0 al h4 h5 h6;go_enter func215,ntmps215;go_wp2_with fail;refine Jc (HG.c _ HG.b) ?_;exact qFaab
def Lf.wAt(t:Nat)(n:BN)(a b j:Nat):Nat:=
 if j=0 then n.keys.length else if j=1 then n.size
 else if j<2+2*a then(if j % 2=0 then n.keys.getD ((j-2) / 2) 0 else n.vals.getD ((j-2) / 2) 0)
 else if 4*t<=j/\j<4*t+b then n.kids.getD (j-4*t) 0 else 0
def Lf.bnWords(t:Nat)(n:BN):List Nat:=(List.range (6*t)).map (wAt t n n.keys.length n.kids.length)
theorem jJ(t:Nat)(n:BN):(bnWords t n).length=6*t:=by simp[bnWords]
def gO(N:Nat)(f:Nat->Nat):Array Value:=((List.range N).map fun j=>Value.int .u64 (f j)).toArray
theorem mh{N j:Nat}(f:Nat->Nat)(h:j<N):(gO N f)[j]?=some (Xu (f j)):=by
 unfold gO;rw[cq,aT,bC h];rfl
theorem ni{N i:Nat}(f:Nat->Nat)(v:Nat):(gO N f).setIfInBounds i (Xu v)=gO N (fun j=>if j=i then v else f j):=by
 unfold gO;refine Array.ext_getElem? fun j=>?_;rw[List.setIfInBounds_toArray,cq,cq]
 by_cases hj:j<N
 ·by_cases e:i=j
  ·subst e;rw[cg (by simpa using hj),aT,bC hj]
   simp
  ·rw[cz e,aT,aT,bC hj]
   simp[show ¬j=i from fun q=>e q.symm]
 ·rw[aH (by simp;omega),aH (by simp;omega)]
theorem sh{N:Nat}{f g:Nat->Nat}(h:∀j,j<N->f j=g j):gO N f=gO N g:=by
 unfold gO
 congr 1
 refine aS fun j hj=>?_;rw[h j (bH.1 hj)]
theorem Ec(N:Nat):((List.replicate N 0).map fun x:Nat=>Value.int .u64 x).toArray=gO N fun _=>0:=by
 unfold gO
 congr 1
 refine dA fun j=>?_
 by_cases hj:j<N
 ·rw[aT,aT,bC hj,List.getElem?_replicate,if_pos hj]
  rfl
 ·rw[aH (by simp;omega),aH (by simp;omega)]
theorem yC(A:Option Addr)(n c:Nat)(w:World):
 Ct 245 #[.slice A n c] w fun e w'=>e=.returned (.func (.func 261) #[] #[PV w.heap.size])/\w'=w.alloc (.cells #[.slice A n c] 162):=by
 go_enter func245,ntmps245
 go_wp2
 go_ret;exact⟨rfl,rfl⟩
structure j7 (t:Nat) (n:BN) (a b:Nat) (w W:World) (vk vv vc:Value):Prop where
 row:W.heap[w.heap.size+1]?=some (.cells (gO (6*t) (wAt t n a b)) 82 (0,0))
 box:W.heap[w.heap.size]?=some (.cells #[vk,vv,vc,Xu n.size] 286 (0,0))
 below:Below w.heap.size w W
theorem j7.two{n:BN}{a b i j x y:Nat}{w W W':World}{vk vv vc:Value}(h:j7 t n a b w W vk vv vc)(a' b':Nat)(hW:W'.heap=((W.setCell ⟨w.heap.size+1,i,none⟩ (Xu x)).setCell ⟨w.heap.size+1,j,none⟩ (Xu y)).heap)(ho:W'.os=W.os)(ht:W'.tape=W.tape)(hu:W'.output=W.output)
 (hr:∀q,q<6*t->wAt t n a' b' q=if q=j then y else if q=i then x else wAt t n a b q):j7 t n a' b' w W' vk vv vc:=by
 have hB:=(h.below.setCell (p:=⟨w.heap.size+1,i,none⟩) (bJ _) (Xu x)).setCell (p:=⟨w.heap.size+1,j,none⟩) (bJ _) (Xu y);refine⟨?_,?_,⟨ho.trans h.below.os,ht.trans h.below.tape,hu.trans h.below.output,by rw[hW];exact hB.size,fun k hk=>by rw[hW];exact hB.block k hk⟩⟩
 ·rw[hW,heap_setCell (heap_setCell h.row),ni,ni,sh hr]
 ·rw[hW,FB (by omega),FB (by omega)];exact h.box
theorem j7.one{n:BN}{a b i x:Nat}{w W W':World}{vk vv vc:Value}(h:j7 t n a b w W vk vv vc)(a' b':Nat)(hW:W'.heap=(W.setCell ⟨w.heap.size+1,i,none⟩ (Xu x)).heap)(ho:W'.os=W.os)(ht:W'.tape=W.tape)(hu:W'.output=W.output)
 (hr:∀q,q<6*t->wAt t n a' b' q=if q=i then x else wAt t n a b q):j7 t n a' b' w W' vk vv vc:=by
 have hB:=h.below.setCell (p:=⟨w.heap.size+1,i,none⟩) (bJ _) (Xu x);refine⟨?_,?_,⟨ho.trans h.below.os,ht.trans h.below.tape,hu.trans h.below.output,by rw[hW];exact hB.size,fun k hk=>by rw[hW];exact hB.block k hk⟩⟩
 ·rw[hW,heap_setCell h.row,ni,sh hr]
 ·rw[hW,FB (by omega)];exact h.box
theorem tS{n:BN}{vk vv vc:Value}(hn:iU t n)(hk:FD w vk n.keys)(hv:FD w vv n.vals)(hc:FD w vc n.kids):
 Ct 216 #[Xi t,eC vk vv vc n.size] w fun e w'=>∃B,e=.returned (.func (.func 261) #[] #[PV B])/\w.heap.size<=B/\w'.heap[B]?=some (.cells #[.slice (some ⟨w.heap.size+1,0,none⟩) (6*t) (6*t)] 162 (0,0))/\
  w'.heap[w.heap.size+1]?=some (.cells (gO (6*t) (wAt t n n.keys.length n.kids.length)) 82 (0,0))/\Below w.heap.size w w':=by
 obtain⟨h1,h2,h3,h4,h5⟩:=hn;unfold eC;have a3:=vB (6*t) (by omega);rw[Ec] at a3;obtain⟨Ak,ck,rfl,hk⟩:=hk;obtain⟨Av,cv,rfl,hv⟩:=hv;obtain⟨Ac,cc,rfl,hc⟩:=hc;obtain⟨k,a0⟩:=Ii n.keys.length;obtain⟨c,au⟩:=Ii n.kids.length;rw[a0] at h3 h4 h5;rw[au] at h5;have bf:c<=2*t:=by rcases h5 with g | ⟨g,_⟩<;>omega
 have HB:=kq6 a0 h4 au hk hv hc;rw[h4,a0,au];clear hk hv hc a0 h4 au h5;generalize a8:n.size=sz;have HS:=If a8;clear a8;have q0:=heap_alloc_new w (.cells #[.slice Ak k ck,.slice Av k cv,.slice Ac c cc,Xu sz] 286);have B0:=(aa w.heap.size w).alloc Ih (.cells #[.slice Ak k ck,.slice Av k cv,.slice Ac c cc,Xu sz] 286);have z0:(w.alloc (.cells #[.slice Ak k ck,.slice Av k cv,.slice Ac c cc,Xu sz] 286)).heap.size=w.heap.size+1:=by simp
 have q1:=heap_alloc_new (w.alloc (.cells #[.slice Ak k ck,.slice Av k cv,.slice Ac c cc,Xu sz] 286)) (.cells (gO (6*t) fun _=>0) 82);have B1:=B0.alloc B0.size (.cells (gO (6*t) fun _=>0) 82);have a6:=(((aa (w.alloc (.cells #[.slice Ak k ck,.slice Av k cv,.slice Ac c cc,Xu sz] 286)).heap.size (w.alloc (.cells #[.slice Ak k ck,.slice Av k cv,.slice Ac c cc,Xu sz] 286))).alloc Ih (.cells (gO (6*t) fun _=>0) 82)).block w.heap.size (by omega)).trans q0;rw[z0] at q1;have a4:=a3 (w.alloc (.cells #[.slice Ak k ck,.slice Av k cv,.slice Ac c cc,Xu sz] 286));rw[z0] at a4;have bj:IntKind.i64.wrap (6*(t:Int))=6*(t:Int):=aD _ (by omega);have ba:((6*t:Nat):Int)=6*(t:Int):=by omega
 rw[ba] at a4;have bk:(0:Int)<6*(t:Int):=by omega
 have bm:(1:Int)<6*(t:Int):=by omega
 clear a3 q0 B0;go_enter func216,ntmps216;go_wp2_with fail;clear a4;generalize a9:(w.alloc (.cells #[.slice Ak k ck,.slice Av k cv,.slice Ac c cc,Xu sz] 286)).alloc (.cells (gO (6*t) fun _=>0) 82)=W1 at*;obtain⟨c0,c1,c2,c3⟩:=Fy a6;have r0:W1.cell? ⟨w.heap.size+1,0,none⟩=some (Xu 0):=by rw[cell_of_block q1,mh _ (by omega)];rfl
 have r1:W1.cell? ⟨w.heap.size+1,1,none⟩=some (Xu 0):=by rw[cell_of_block q1,mh _ (by omega)];rfl
 have f0:W1.frozen? ⟨w.heap.size+1,0,none⟩=false:=AT q1;have f1:W1.frozen? ⟨w.heap.size+1,1,none⟩=false:=AT q1;have bc:¬(w.heap.size=w.heap.size+1):=by omega
 go_region
 go_wp2_with fail;go_name_world W HW
 have hW:j7 t n 0 0 w W (.slice Ak k ck) (.slice Av k cv) (.slice Ac c cc):=by
  refine⟨?_,?_,?_⟩
  ·rw[<-HW];show ((W1.setCell ⟨w.heap.size+1,0,none⟩ (Xu k)).setCell ⟨w.heap.size+1,1,none⟩ (Xu sz)).heap[w.heap.size+1]?=_
   rw[heap_setCell (heap_setCell q1),ni,ni];congr 2
   refine sh fun q hq=>?_;unfold wAt;rw[HB.a,HS.out];by_cases e1:q=1
   ·rw[if_pos e1,if_neg (by omega),if_pos e1]
   ·rw[if_neg e1];by_cases e0:q=0
    ·rw[if_pos e0,if_pos e0]
    ·rw[if_neg e0,if_neg e0,if_neg e1,if_neg (by omega),if_neg (by omega)]
  ·rw[<-HW];show ((W1.setCell ⟨w.heap.size+1,0,none⟩ (Xu k)).setCell ⟨w.heap.size+1,1,none⟩ (Xu sz)).heap[w.heap.size]?=_
   rw[FB (by omega),FB (by omega),HS.out];exact a6
  ·rw[<-HW];have h:=(B1.setCell (p:=⟨w.heap.size+1,0,none⟩) (bJ _) (Xu k)).setCell (p:=⟨w.heap.size+1,1,none⟩) (bJ _) (Xu sz);exact⟨h.os,h.tape,h.output,h.size,h.block⟩
 clear HW;have HA:=If hW;clear hW r0 r1 f0 f1 bc c0 c1 c2 c3 a6 q1 a9 B1;go_loopw [6,25] (fun _ i wr=>∃j:Nat,j<=k/\i=Xi j/\j7 t n j 0 w wr (.slice Ak k ck) (.slice Av k cv) (.slice Ac c cc)) (fun _ i _=>k-(intOf i).toNat)
 case atStart=>exact⟨0,by omega,rfl,HA.out⟩
 case round=>
  obtain⟨j,hj,rfl,hA⟩:=hrel;by_cases hlt:j<k
  ·have bb:(j:Int)<k:=by omega
   have ad:=hA.box;rw[HS.out] at ad;obtain⟨c0,c1,c2,c3⟩:=Fy ad;have ik:j<n.keys.length:=by rw[HB.a];exact hlt
   have iv:j<n.vals.length:=by rw[HB.b];exact hlt
   obtain⟨gk,ok,rfl,ai⟩:=HB.d j ik;obtain⟨gv,ov,rfl,a2⟩:=HB.e j iv;have lk:=fK ai;have lv:=fK a2;have dk:=(hA.below.cell (p:=⟨gk,ok+j,none⟩) lk).trans ai;have dv:=(hA.below.cell (p:=⟨gv,ov+j,none⟩) lv).trans a2;obtain⟨xk,al⟩:∃x,n.keys[j]=x:=⟨_,rfl⟩;obtain⟨xv,a5⟩:∃x,n.vals[j]=x:=⟨_,rfl⟩;rw[al] at dk;rw[a5] at dv;have ar:n.keys.getD j 0=xk:=by rw[am,af ik,<-al];rfl
   have a7:n.vals.getD j 0=xv:=by rw[am,af iv,<-a5];rfl
   have z2:∀q,2+2*j<=q->q<4*t->wAt t n j 0 q=0:=fun q h1 h2=>by
    unfold wAt;rw[if_neg (by omega),if_neg (by omega),if_neg (by omega),if_neg (by omega)]
   have r0:wr.cell? ⟨w.heap.size+1,2+2*j,none⟩=some (Xu 0):=by
    rw[cell_of_block hA.row,mh _ (by omega),z2 _ (by omega) (by omega)];rfl
   have r1:wr.cell? ⟨w.heap.size+1,2+2*j+1,none⟩=some (Xu 0):=by
    rw[cell_of_block hA.row,mh _ (by omega),z2 _ (by omega) (by omega)];rfl
   have f0:wr.frozen? ⟨w.heap.size+1,2+2*j,none⟩=false:=AT hA.row;have f1:wr.frozen? ⟨w.heap.size+1,2+2*j+1,none⟩=false:=AT hA.row;have n1:¬(w.heap.size=w.heap.size+1):=by omega
   have n2:¬(gk=w.heap.size+1):=by omega
   have n3:¬(gv=w.heap.size+1):=by omega
   have a':2+2*(j:Int)<6*(t:Int):=by omega
   have bd:2+2*(j:Int)+1<6*(t:Int):=by omega
   have HK:=kq4 hA ar a7 hlt;clear hA ad ai a2 z2 al a5 ar a7 lk lv;go_wp2_with fail;go_region
   have HN:=fun W' h1 h2 h3 h4=>HK.a.two (i:=2+2*j) (j:=2+2*j+1) (x:=xk) (y:=xv) (W':=W') (j+1) 0 h1 h2 h3 h4 (fun q hq=>by
    unfold wAt;by_cases e1:q=2+2*j+1
    ·rw[if_pos e1,if_neg (by omega),if_neg (by omega),if_pos (by omega),if_neg (by omega),show (q-2) / 2=j by omega];exact HK.c
    ·rw[if_neg e1];by_cases e0:q=2+2*j
     ·rw[if_pos e0,if_neg (by omega),if_neg (by omega),if_pos (by omega),if_pos (by omega),show (q-2) / 2=j by omega];exact HK.b
     ·rw[if_neg e0];by_cases g0:q=0
      ·rw[if_pos g0,if_pos g0]
      ·rw[if_neg g0,if_neg g0];by_cases g1:q=1
       ·rw[if_pos g1,if_pos g1]
       ·rw[if_neg g1,if_neg g1];by_cases g2:q<2+2*j
        ·rw[if_pos (by omega),if_pos g2]
        ·rw[if_neg (by omega),if_neg g2])
   have a1:=If HN;clear HN r0 r1 f0 f1 n1 n2 n3 c0 c1 c2 c3 dk dv;go_wp2_with fail;go_roundw
   case rel=>exact⟨j+1,HK.d,by simp,a1.out _ rfl rfl rfl rfl⟩
   case measure=>have:=HK.d;simp[intOf];omega
  ·obtain rfl:j=k:=by omega
   have ad:=hA.box;rw[HS.out] at ad;obtain⟨c0,c1,c2,c3⟩:=Fy ad;have HK:=If hA;clear hA ad;go_wp2_with fail;clear c0 c1 c2 c3;go_loopw [7,8,53] (fun _ _ i wr=>∃q:Nat,q<=c/\i=Xi q/\j7 t n j q w wr (.slice Ak j ck) (.slice Av j cv) (.slice Ac c cc)) (fun _ _ i _=>c-(intOf i).toNat)
   case atStart=>exact⟨0,by omega,rfl,HK.out⟩
   case round=>
    obtain⟨q,hq,rfl,hA⟩:=hrel;by_cases hlt:q<c
    ·have bb:(q:Int)<c:=by omega
     have ik:q<n.kids.length:=by rw[HB.c];exact hlt
     obtain⟨gk,ok,rfl,ai⟩:=HB.f q ik;have lk:=fK ai;have dk:=(hA.below.cell (p:=⟨gk,ok+q,none⟩) lk).trans ai;obtain⟨xk,al⟩:∃x,n.kids[q]=x:=⟨_,rfl⟩;rw[al] at dk;have ar:n.kids.getD q 0=xk:=by rw[am,af ik,<-al];rfl
     have r0:wr.cell? ⟨w.heap.size+1,4*t+q,none⟩=some (Xu 0):=by
      rw[cell_of_block hA.row,mh _ (by omega)];unfold wAt;rw[if_neg (by omega),if_neg (by omega),if_neg (by omega),if_neg (by omega)];rfl
     have f0:wr.frozen? ⟨w.heap.size+1,4*t+q,none⟩=false:=AT hA.row;have a':4*(t:Int)+q<6*(t:Int):=by omega
     have ap:=kq3 hA ar hlt;clear hA ai al ar lk;go_wp2_with fail;have HN:=fun W' h1 h2 h3 h4=>ap.a.one (i:=4*t+q) (x:=xk) (W':=W') j (q+1) h1 h2 h3 h4 (fun p hp=>by
      unfold wAt;by_cases e1:p=4*t+q
      ·rw[if_pos e1,if_neg (by omega),if_neg (by omega),if_neg (by omega),if_pos (by omega),show p-4*t=q by omega];exact ap.b
      ·rw[if_neg e1];by_cases g0:p=0
       ·rw[if_pos g0,if_pos g0]
       ·rw[if_neg g0,if_neg g0];by_cases g1:p=1
        ·rw[if_pos g1,if_pos g1]
        ·rw[if_neg g1,if_neg g1];by_cases g2:p<2+2*j
         ·rw[if_pos g2,if_pos g2]
         ·rw[if_neg g2,if_neg g2];by_cases g3:4*t<=p/\p<4*t+q
          ·rw[if_pos (by omega),if_pos g3]
          ·rw[if_neg (by omega),if_neg g3])
     have a1:=If HN;clear HN r0 f0 dk;go_roundw
     case rel=>exact⟨q+1,ap.c,by simp,a1.out _ rfl rfl rfl rfl⟩
     case measure=>have:=ap.c;simp[intOf];omega
    ·obtain rfl:q=c:=by omega
     have ap:=If hA;clear hA;go_wp2_with fail;refine Jc (yC _ _ _ wr) ?_;go_wp2_with fail;go_ret;have hA:=ap.out;have hB:=(aa wr.heap.size wr).alloc Ih (.cells #[.slice (some ⟨w.heap.size+1,0,none⟩) (6*t) (6*t)] 162);refine⟨_,rfl,hA.below.size,heap_alloc_new _ _,?_,hA.below.trans (hB.mono hA.below.size)⟩;exact(hB.block _ (gl hA.row)).trans hA.row
end
section
open Go.RowKit Tryz Go.BigFrame Go.Maps Go.WideMaps Lf
open Go.Shelf
variable{S:St}{Y:Nat->Prop}{v:Value}{w:World}
attribute [local go_sem] Oper.semAt_some
structure ir (R:Nat->Prop) (W W':World):Prop where
 size:W.heap.size<=W'.heap.size
 block:∀k,R k->W'.heap[k]?=W.heap[k]?
theorem ir.refl(R:Nat->Prop)(W:World):ir R W W:=⟨Nat.le_refl _,fun _ _=>rfl⟩
theorem ir.trans{R:Nat->Prop}{A B C:World}(h:ir R A B)(k:ir R B C):ir R A C:=⟨aO h.size k.size,fun i hi=>(k.block i hi).trans (h.block i hi)⟩
abbrev lH:= { x:Nat×Nat // x.1<=1000/\x.2<2^64 }
abbrev n9(x:lH):Array Value:=#[Xi x.1.1,Xu x.1.2]
abbrev kO(l:List lH):List (Nat×Nat):=l.map (·.1)
def gN(f:Nat->Nat)(n:Nat):List (Nat×Nat):=(List.range n).map fun j=>(j,f j)
theorem sg(f:Nat->Nat)(n:Nat):gN f (n+1)=gN f n++[(n,f n)]:=by unfold gN;rw[du,aM];rfl
theorem Ea(f:Nat->Nat)(n:Nat):(gN f n).length=n:=by simp[gN]
theorem wK(f:Nat->Nat)(k:Nat):∀d,gN f k<+:gN f (k+d)
 | 0=>List.prefix_refl _
 | d+1=>by
  refine(wK f k d).trans ?_;show gN f (k+d)<+:gN f (k+d+1)
  rw[sg];exact List.prefix_append _ _
theorem tC{B G c N:Nat}{f:Nat->Nat}{fr fr':Nat×Nat}(hN:N<=1000)(hf:∀j,j<N->f j<2^64)(hB:w.heap[B]?=some (.cells #[.slice (some ⟨G,0,none⟩) N c] 162 fr))(hG:w.heap[G]?=some (.cells (gO N f) 82 fr'))(R:Nat->Prop)(hRG:R G):
 SeqStopsK Fence.wide 6 prog 261 #[PV B] n9 (ir R) (fun xs=>kO xs=gN f N) (fun pre=>kO pre<+:gN f N) N w:=fun l J Jx W hW hJ hJx hY h0=>by
 have a0:=(gl hB);have a2:=(gl hG);have bb:W.cell? ⟨B,0,none⟩=some (.slice (some ⟨G,0,none⟩) N c):=by rw[cell_of_block ((hW.block B a0).trans hB)];rfl
 have a1:=(hW.block G a2).trans hG;have HY:=If hY;have HJ:=kq2 hJ hJx;have H0:=kq4 h0 a1 hf hRG;clear hY hJ hJx h0 hB hG a1 hW hf hRG a0 a2;refine callsIn_of_wp func261 rfl trivial ?_ rfl;simp only[ntmps261,bq,av,aL,Nat.reduceAdd,Nat.reduceSub,aX,aY,bw,bg,aW,aP];gi_wp2_with fail;gi_loopw [3,4,7] (fun _ _ i wr=>∃k:Nat,k<=N/\i=Xi k/\Hid (ir R W wr/\∃pX,kO pX=gN f k/\J pX wr)) (fun _ _ i _=>N-(intOf i).toNat)
 case atStart=>exact⟨0,by omega,rfl,ir.refl _ _,[],rfl,H0.a⟩
 case round=>
  obtain⟨k,hk,rfl,ap⟩:=hrel;by_cases hlt:k<N
  ·have bc:(k:Int)<N:=by omega
   have hrow:=(ap.out.1.block G H0.d).trans H0.b;have hc:wr.cell? ⟨G,k,none⟩=some (Xu (f k)):=by rw[cell_of_block hrow,mh f hlt]
   have a5:=H0.c k hlt;obtain⟨pX,ai,al⟩:=ap.out.2;obtain⟨xX,au⟩:∃xX:lH,xX.1=(k,f k):=⟨⟨(k,f k),by omega,a5⟩,rfl⟩;have a8:pX.length=k:=by
    have:=congrArg List.length ai;rw[Ea] at this;simpa using this
   obtain⟨fn,bd,a',ba,hy,ar⟩:=HY.out pX xX wr al (by omega);have a7:kO (pX++[xX])=gN f (k+1):=by rw[sg,<-ai];show (pX++[xX]).map (·.1)=_;rw[aM];simp[au]
   have ad:=kq2 a7 hlt;dsimp only[n9] at hy
   rw[au] at hy;clear a7 ai a8 al au hrow a5;generalize f k=x at*;gi_wp2_with fail;refine ar.mono ?_;rintro e w4 (⟨rfl,a3,a6⟩ | ⟨rfl,a4⟩)
   ·have H4:=kq2 (ap.out.1.trans a6) a3;clear a3 a6 hy ar hc;gi_wp2_with fail;go_roundw
    case rel=>exact⟨k+1,ad.b,by go_num,H4.a,_,ad.a,H4.b⟩
    case measure=>have:=ad.b;simp[intOf];omega
   ·have H4:=If a4;have a9:gN f (k+1)<+:gN f N:=by
     obtain⟨d,hd⟩:∃d,N=k+1+d:=⟨N-(k+1),by have:=ad.b;omega⟩;rw[hd];exact wK f (k+1) d
    clear a4 hy ar hc;gi_wp2_with fail;refine bodyPost_ret (results_none rfl _ _ _) rfl ?_;exact⟨⟨_,rfl⟩,.inr ⟨_,by rw[ad.a];exact a9,H4.out⟩⟩
  ·obtain rfl:k=N:=by omega
   gi_wp2
   go_end0
   obtain⟨pX,ai,al⟩:=ap.out.2;exact⟨⟨_,rfl⟩,.inl ⟨_,ai,al⟩⟩
attribute [local go_sem] Oper.semAt_some
theorem eR.own{w w':World}{ps pa pm ph pt:Nat}(h:eR w ps pa pm ph pt v S Y)(hs:w.heap.size<=w'.heap.size)(hc:∀(k:Nat) (o:Obj),w.heap[k]?=some o->(o.isCells=true\/k=pm)->w'.heap[k]?=some o):eR w' ps pa pm ph pt v S Y:=by
 obtain⟨ad,hb⟩:=h.heap.slab;have c1:∀{k:Nat} {cs:Array Value} {t:TypeId} {fr:Nat×Nat},w.heap[k]?=some (.cells cs t fr)->w'.heap[k]?=w.heap[k]?:=fun e=>(hc _ _ e (ab rfl)).trans e.symm;have ht:gA w':=fun j hj=>by
  have:=h.heap.tab j hj;have hx:∃cs t fr,w.heap[fy]?=some (.cells cs t fr):=by
   unfold World.cell? at this
   split at this
   ·rename_i heq;exact⟨_,_,_,heq⟩
   ·cases this
  obtain⟨cs,t,fr,hx⟩:=hx;rw[<-this];exact World.cell?_of_block (c1 hx)
 refine⟨(c1 h.hd).trans h.hd,⟨⟨ad,hb.of_keep hs fun k hk hkk=>?_⟩,(c1 h.heap.hp).trans h.heap.hp,h.heap.yh,ht,h.heap.yt⟩,h.tab.of_keep (c1 h.tab.hd) fun b e=>?_,h.off⟩
 ·rcases hkk with rfl | rfl | ⟨p,hp,rfl⟩
  ·exact c1 hb.hd
  ·obtain⟨es,ck,hm⟩:=hb.map_block;exact(hc _ _ hm (ae rfl)).trans hm.symm
  ·obtain⟨l,hl⟩:=jP.1 hp;exact c1 (hb.pg _ hl)
 ·rcases h.tab.row.2 with⟨e0,_⟩ | ⟨g,ai,al,e0,_,hg,_⟩
  ·rw[e0] at e
   cases e
  ·rw[e0] at e
   injection e with e
   have e:g=b:=e;subst e;exact c1 hg
theorem eR.full{ps pa pm ph pt:Nat}(h:eR w ps pa pm ph pt v S Y):eR w ps pa pm ph pt v S (fun k=>Y k\/(k≠pm/\∃o,w.heap[k]?=some o/\o.isCells=false)):=by
 obtain⟨ai,hb⟩:=h.heap.slab;have hn:∀{k:Nat} {cs:Array Value} {t:TypeId} {fr:Nat×Nat},w.heap[k]?=some (.cells cs t fr)->¬∃o,w.heap[k]?=some o/\o.isCells=false:=fun e ⟨o,h1,h2⟩=>by
  rw[e] at h1
  injection h1 with h1
  rw[<-h1] at h2
  cases h2
 have al:∀{k:Nat},(∃o,w.heap[k]?=some o/\o.isCells=false)->k<w.heap.size:=fun⟨o,h1,_⟩=>(gl h1);have ad:∀k,YS (fun k=>Y k\/(k≠pm/\∃o,w.heap[k]?=some o/\o.isCells=false)) ps ph pt v k->YS Y ps ph pt v k\/(k≠pm/\∃o,w.heap[k]?=some o/\o.isCells=false):=fun k hk=>by
  rcases hk with (hk | hk) | hk
  ·exact ab (ab hk)
  ·exact ae hk
  ·exact ab (ae hk)
 refine⟨h.hd,⟨⟨ai,hb.wf,hb.hd,hb.map,hb.pg,hb.inj,fun hk=>?_,fun hk=>?_,fun p hp hk=>?_,fun k hk=>?_⟩,h.heap.hp,ae (ae (ab rfl)),h.heap.tab,ae (ae (ae (ab rfl)))⟩,h.tab,fun k hk=>?_⟩
 ·rcases ad _ hk with hk | ⟨_,hk⟩
  ·exact hb.ya hk
  ·exact hn hb.hd hk
 ·rcases ad _ hk with hk | ⟨hk,_⟩
  ·exact hb.ym hk
  ·exact hk rfl
 ·rcases ad _ hk with hk | ⟨_,hk⟩
  ·exact hb.yp p hp hk
  ·obtain⟨l,hl⟩:=jP.1 hp;exact hn (hb.pg _ hl) hk
 ·rcases ad _ hk with hk | ⟨_,hk⟩
  ·exact hb.yl k hk
  ·exact al hk
 ·rcases hk with (hk | ⟨_,hk⟩) | hk
  ·exact h.off k (ab hk)
  ·refine⟨?_,fun e=>?_⟩
   ·rintro rfl;exact hn h.tab.hd hk
   ·rcases h.tab.row.2 with⟨e0,_⟩ | ⟨g,ap,ar,e0,_,hg,_⟩
    ·rw[e0] at e
     cases e
    ·rw[e0] at e
     injection e with e
     have e:g=k:=e;subst e;exact hn hg hk
  ·exact h.off k (ae hk)
theorem eR.pm_lt{ps pa pm ph pt:Nat}(h:eR w ps pa pm ph pt v S Y):pm<w.heap.size:=by
 obtain⟨ad,hb⟩:=h.heap.slab;exact hb.map.lt
theorem Ex{ps pa pm ph pt:Nat}(h:eR w ps pa pm ph pt v S Y)(hi:Fv S)(hh k x:Nat)(hl:hh<2^64)(hk:k<=2^62)(hx:x<2^64):
 Ct 99 #[PV ps,Xu hh,Xi k,Xu x] w fun e w'=>e=.returned (Xi ((S.put hh k x).1:Nat))/\eR w' ps pa pm ph pt v (S.put hh k x).2 Y/\Fo Y w w':=by
 have ad:=sJ ⟨_,_,_,_,_,h⟩ hi hh k hl hk;have h3:=hi.place_le hh k;obtain⟨R,hR⟩:=Ii (S.put hh k x);rw[hR];rw[St.put_place] at hR
 rcases S.place_cases hh k with⟨p,h1⟩ | ⟨er,h1⟩
 ·rw[h1] at ad h3 hR;simp only at ad h3 hR;obtain⟨_,_,c2,_,_⟩:=h.cells;have ap:=h.heap.write p x (by omega) hx;have HG:=kq4 ad hR ap h;clear ad hR h hi h1 ap;go_enter func99,ntmps99;go_wp2_with fail;refine Jc HG.a ?_;go_wp2_with fail;refine HG.c.mono ?_;rintro e w1 ⟨rfl,ha,ai⟩;have HA:=kq2 (HG.d.arena ha ai) (ai.mono fun _=>YS.self);clear ha ai;go_wp2_with fail;go_ret;obtain rfl:=HG.b;exact⟨rfl,HA.a,HA.b⟩
 ·rw[h1] at ad hR;simp only at ad hR;have ar:(((er+1:Nat):Int) !=0)=true:=by simp;omega
  obtain⟨g1,al⟩:=Ii (er+1);rw[al] at ad hR ar;have HG:=kq3 ad hR h;clear ad hR h hi h1 al;go_enter func99,ntmps99;go_wp2_with fail;refine Jc HG.a ?_;go_wp2_with fail;go_ret;obtain rfl:=HG.b;exact⟨rfl,HG.c,Fo.refl _ _⟩
theorem wC(h:Nat)(x:Nat):∀(l:List Nat) (S:St) (k:Nat),FC S h k (l++[x])=((FC S h k l).put h (k+l.length) x).2
 | [],S,k=>rfl
 | y::l,S,k=>by
  show FC (S.put h k y).2 h (k+1) (l++[x])=_
  rw[wC h x l];show ((FC (S.put h k y).2 h (k+1) l).put h (k+1+l.length) x).2=((FC (S.put h k y).2 h (k+1) l).put h (k+(l.length+1)) x).2
  rw[show k+1+l.length=k+(l.length+1) by omega]
def mf(S:St)(h:Nat)(l:List (Nat×Nat)):St:=l.foldl (fun S x=>(S.put h x.1 x.2).2) S
theorem rU(S:St)(h:Nat)(l:List (Nat×Nat))(x:Nat×Nat):mf S h (l++[x])=((mf S h l).put h x.1 x.2).2:=by unfold mf;rw[List.foldl_append];rfl
theorem wy(S:St)(h:Nat)(f:Nat->Nat):∀N,mf S h (gN f N)=FC S h 0 ((List.range N).map f)
 | 0=>rfl
 | N+1=>by
  rw[sg,rU,wy S h f N,du,aM];show _=FC S h 0 ((List.range N).map f++[f N])
  rw[wC];simp
structure yy (w1 W:World) (ps pa pm ph pt:Nat) (v:Value) (S:St) (Y:Nat->Prop) (hh:Nat) (pre:List lH):Prop where
 st:eR W ps pa pm ph pt v (mf S hh (kO pre)) Y
 inv:Fv (mf S hh (kO pre))
 keep:Fo Y w1 W
theorem Jg{ps:Nat}(h:Ig w ps S Y)(hi:Fv S){t:Nat}{n:BN}{vk vv vc:Value}(hn:iU t n)(hk:FD w vk n.keys)(hv:FD w vv n.vals)(hc:FD w vc n.kids)(hh:Nat)(hl:hh<2^64)(hlen:S.len hh=(6*t,0))(hlt:∀x∈bnWords t n,x<2^64):
 Ct 329 #[PV ps,Xi t,Xu hh,eC vk vv vc n.size] w fun e w'=>e=.returned (Xi 0)/\Ig w' ps (FC S hh 0 (bnWords t n)) Y/\Fo Y w w':=by
 refine(callsIn_wide (n:=7)).1 ?_;have h1:1<=7:=by omega
 have bo:Fence.wide.fn 85:=trivial;have bm:Fence.wide.fn 215:=trivial;have bt:Fence.wide.fn 216:=trivial;have bs:Fence.wide.fn 99:=trivial;have a1:∀W,Below w.heap.size w W->CallsIn Fence.wide 6 prog 85 #[PV ps,Xu 0] W _:=fun W hW=>callsIn_wide.2 (fB (h.below hW) hi 0 (by omega));have ap:∀W,Below w.heap.size w W->CallsIn Fence.wide 6 prog 85 #[PV ps,Xu hh] W _:=fun W hW=>callsIn_wide.2 (fB (h.below hW) hi hh hl);rw[fU] at a1;rw[hlen] at ap;have a5:∀W,Below w.heap.size w W->CallsIn Fence.wide 6 prog 215 #[Xi t,eC vk vv vc n.size] W _:=fun W hW=>callsIn_wide.2 (pV hn (hk.below hW) (hv.below hW) (hc.below hW));have a6:∀W,Below w.heap.size w W->CallsIn Fence.wide 6 prog 216 #[Xi t,eC vk vv vc n.size] W _:=fun W hW=>callsIn_wide.2 (tS hn (hk.below hW) (hv.below hW) (hc.below hW));unfold eC at a5 a6⊢;have ht:=And.intro hn.lo hn.hi;have bv:IntKind.i64.wrap (6*(t:Int))=6*(t:Int):=aD _ (by omega);have bd:((6*t:Nat):Int)=6*(t:Int):=by omega
 simp only at a1 ap;rw[bd] at ap;have a7:bnWords t n=(List.range (6*t)).map (wAt t n n.keys.length n.kids.length):=rfl;have HG:=kq8 a1 ap a5 a6 h hi hlt a7;obtain⟨Ak,ck,rfl,-⟩:=hk;obtain⟨Av,cv,rfl,-⟩:=hv;obtain⟨Ac,cc,rfl,-⟩:=hc;generalize n.keys.length=lk at*;generalize n.vals.length=lv at*;generalize n.kids.length=lc at*;generalize n.size=sz at*;clear a1 ap a5 a6 h hi hlt hn hlen a7;have B0:=(((aa w.heap.size w).alloc Ih (Xk ps)).alloc (by simp) (Xh hh)).alloc (by simp;omega) (.cells #[.slice Ak lk ck,.slice Av lv cv,.slice Ac lc cc,Xu sz] 286);have q7:=heap_alloc_new ((w.alloc (Xk ps)).alloc (Xh hh)) (.cells #[.slice Ak lk ck,.slice Av lv cv,.slice Ac lc cc,Xu sz] 286);have q6:=(((aa ((w.alloc (Xk ps)).alloc (Xh hh)).heap.size ((w.alloc (Xk ps)).alloc (Xh hh))).alloc Ih (.cells #[.slice Ak lk ck,.slice Av lv cv,.slice Ac lc cc,Xu sz] 286)).block (w.alloc (Xk ps)).heap.size (by simp)).trans (heap_alloc_new (w.alloc (Xk ps)) (Xh hh));have q4:=(((aa ((w.alloc (Xk ps)).alloc (Xh hh)).heap.size ((w.alloc (Xk ps)).alloc (Xh hh))).alloc Ih (.cells #[.slice Ak lk ck,.slice Av lv cv,.slice Ac lc cc,Xu sz] 286)).block w.heap.size (by simp;omega)).trans ((((aa (w.alloc (Xk ps)).heap.size (w.alloc (Xk ps))).alloc Ih (Xh hh)).block w.heap.size (by simp)).trans (heap_alloc_new w (Xk ps)));have z1:(w.alloc (Xk ps)).heap.size=w.heap.size+1:=by simp
 have z2:((w.alloc (Xk ps)).alloc (Xh hh)).heap.size=w.heap.size+1+1:=by simp
 have z3:(((w.alloc (Xk ps)).alloc (Xh hh)).alloc (.cells #[.slice Ak lk ck,.slice Av lv cv,.slice Ac lc cc,Xu sz] 286)).heap.size=w.heap.size+1+1+1:=by simp
 rw[z1] at q6;rw[z2] at q7;refine callsIn_of_wp_marks func329 rfl trivial ?_ rfl;simp only[ntmps329,bq,av,aL,Nat.reduceAdd,Nat.reduceSub,aX,aY,bw,bg,aW,aP];gi_wp2_with fail;generalize (((w.alloc (Xk ps)).alloc (Xh hh)).alloc (.cells #[.slice Ak lk ck,.slice Av lv cv,.slice Ac lc cc,Xu sz] 286))=w0 at*;clear z1 z2;refine(HG.a _ B0).mono ?_;rintro e w1 ⟨rfl,rfl⟩;have x0:(w0).cell? ⟨w.heap.size,0,none⟩=some (PV ps):=by rw[cell_of_block q4];rfl
 have y0:(w0).cell? ⟨w.heap.size+1,0,none⟩=some (Xu hh):=by rw[cell_of_block q6];rfl
 obtain⟨c0,c1,c2,c3⟩:=Fy q7;have H0:=kq4 B0 q4 q6 q7;clear B0 q4 q6 q7;gi_wp2_with fail;clear x0 y0 c0 c1 c2 c3;refine(HG.c _ H0.a).mono ?_;rintro e w1 ⟨rfl,ai⟩;have r4:=(ai.block w.heap.size (by omega)).trans H0.b;have r6:=(ai.block (w.heap.size+1) (by omega)).trans H0.c;have r7:=(ai.block (w.heap.size+1+1) (by omega)).trans H0.d;have s1:=ai.size;have x0:(w1).cell? ⟨w.heap.size,0,none⟩=some (PV ps):=by rw[cell_of_block r4];rfl
 have y0:(w1).cell? ⟨w.heap.size+1,0,none⟩=some (Xu hh):=by rw[cell_of_block r6];rfl
 obtain⟨c0,c1,c2,c3⟩:=Fy r7;have H1:=kq4 (H0.a.trans (ai.mono (by omega))) r4 r6 r7;clear ai r4 r6 r7;gi_wp2_with fail;refine(HG.b _ H1.a).mono ?_;rintro e w2 ⟨rfl,rfl⟩;gi_wp2_with fail;clear x0 y0 c0 c1 c2 c3;refine(HG.d _ H1.a).mono ?_;rintro e w3 ⟨Bx,rfl,bb,rB,rG,al⟩;have t4:=(al.block w.heap.size (by omega)).trans H1.b;have t6:=(al.block (w.heap.size+1) (by omega)).trans H1.c;have B3:=H1.a.trans (al.mono (by omega));have s3:=al.size;have bc:=(gl rG);obtain⟨f,hf⟩:=Ii (wAt t n lk lc);rw[hf] at rG HG;obtain⟨pa,pm,ph,pt,v,a3⟩:=HG.e;have au:=a3.wide B3;have bf:∀j,j<6*t->f j<2^64:=fun j hj=>HG.g _ (by rw[HG.h];exact ay.2 ⟨j,bH.2 hj,rfl⟩);have a2:=au.yl;have b0:pm<w3.heap.size:=au.pm_lt;have H3:=kq5 au t4 t6 B3 a3;have a4:=tC (by omega) bf rB rG (fun k=>Y k\/(w.heap.size<=k/\k<w3.heap.size)) (ae ⟨by omega,bc⟩);clear au t4 t6 B3 rB rG al a3 hf bb;gi_wp2_with fail;refine wpIn_rangeFunc_ownH rfl h1 (gf:=261) (lb:=#[PV Bx]) rfl trivial (enters_of func261 (by kernel_rfl) rfl)
  a4 ir.trans (fun W l o o' h1 h2 h3 h4=>⟨by simp,fun k hk=>World.putObj_heap_other (by have:=a2 k hk;omega)⟩) (aa _ _) (fun _=>rfl)
  (fun ad W=>yy w3 W ps pa pm ph pt v S (fun k=>Y k\/(w.heap.size<=k/\k<w3.heap.size)) hh ad)
  (fun _ _ _=>False)
  (fun ad W W' row hs hg hr=>⟨hs.st.own hg.size (fun k o hk hc=>(hg.block k (gl hk) (fun e=>by
   obtain⟨r1,o',r2,r3⟩:=hr k e.symm
   rcases hc with hc | hc
   ·rw[hk] at r2
    injection r2 with r2;rw[r2,r3] at hc;cases hc
   ·omega)).trans hk),hs.inv,⟨hg.os.trans hs.keep.os,hg.tape.trans hs.keep.tape,hg.output.trans hs.keep.output,aO hs.keep.size hg.size,fun k hk=>(hg.block k (bz (a2 k hk) hs.keep.size) (fun e=>by
   have:=(hr k e.symm).1;have:=a2 k hk;omega)).trans (hs.keep.block k hk)⟩⟩)
  (fun _ _ _ _ _ hs _ _=>hs.elim)
  ⟨H3.a,HG.f,Fo.refl _ _⟩
  (fun x a' _=>a'= { tmps:=#[PV ps,Xi t,Xu hh,.agg #[.slice Ak lk ck,.slice Av lv cv,.slice Ac lc cc,Xu sz],PV w.heap.size,undef,PV (w.heap.size+1),PV (w.heap.size+1+1),Xi 0,Xi 0,Xi 7,Xi (6*(t:Int)),Xi 0,Xi x.1.1,Xu x.1.2,.tuple #[Xi 0,Xi 7],PV ps,.tuple #[Xi 0,Xi 7],Xi 0,Xi 7,Xi 7,.bool false,undef,Xi t,.agg #[.slice Ak lk ck,.slice Av lv cv,.slice Ac lc cc,Xu sz],.bool true,.bool false,.tuple #[Xi (6*(t:Int)),Xi 0],PV ps,Xu hh,.tuple #[Xi (6*(t:Int)),Xi 0],Xi (6*(t:Int)),Xi 0,.bool false,Xi 0,.bool false,undef,.bool false,Xi (6*(t:Int)),Xi t,Xi (6*(t:Int)),.bool false,Xi t,.agg #[.slice Ak lk ck,.slice Av lv cv,.slice Ac lc cc,Xu sz],.func (.func 261) #[] #[PV Bx],Xi x.1.1,Xu x.1.2,undef,undef,undef,undef,undef],defers:=[] })
  (fun x a' _ X W' row hs hg hr=>hs)
  ?assign ?body ?done ?stop
 case assign=>
  rintro l ad ⟨⟨i,x⟩,hx⟩ W K hI hK;have HK:=If hK;clear hK;simp only[n9]
  gi_wp2
  exact HK.out _ _ (KeepsFrom.refl _ _) (ir.refl _ _) hI rfl
 case body=>
  rintro l ad ⟨⟨i,x⟩,hx⟩ a' W bu _ hI rfl hlt;simp only at hx⊢;have c4:=cell_of_block (o:=0) ((hI.keep.block w.heap.size (ae ⟨Nat.le_refl _,by omega⟩)).trans H3.b);have c6:=cell_of_block (o:=0) ((hI.keep.block (w.heap.size+1) (ae ⟨by omega,by omega⟩)).trans H3.c);have c4:W.cell? ⟨w.heap.size,0,none⟩=some (PV ps):=c4;have c6:W.cell? ⟨w.heap.size+1,0,none⟩=some (Xu hh):=c6;have ba:CallsIn Fence.wide 4 prog 99 #[PV ps,Xu hh,Xi i,Xu x] W _:=callsIn_wide.2 (Ex hI.st.full hI.inv hh i x hl (by omega) hx.2);have hv:∀(hx:_),kO (ad++[(⟨(i,x),hx⟩:lH)])=kO ad++[(i,x)]:=fun hx=>by
   show (ad++[(⟨(i,x),hx⟩:lH)]).map (·.1)=_
   rw[aM]
   rfl
  have a8:=hI.inv.put hh i x;have HH:=kq4 hI @hv a8 ba;clear hI hv a8 ba a4;gi_wp2_with fail;refine(CallsIn.inRound l HH.d).mono ?_;rintro e w5 ⟨rfl,h5,k5⟩;have H5:=kq2 h5 k5;clear h5 k5 c4 c6;gi_wp2_with fail;have hk:=H5.b;have hI:=HH.a;refine⟨⟨hk.size,fun k o hk1 hk2 hk3=>(hk.block k (ae ⟨by omega,o,hk2,hk3⟩)).trans hk2⟩,⟨hk.size,fun k hk1=>hk.block k (ab hk1)⟩,?_,?_,hI.keep.trans (hk.mono fun k hk=>ab hk)⟩
  ·rw[HH.b,rU];exact H5.a.mono fun k hk=>ab hk
  ·rw[HH.b,rU];exact HH.c
 case done=>
  rintro D ys W hD hS hI hK;have ar:=hI.st;have a0:=hI.keep;rw[hS,wy,<-HG.h] at ar;have HH:=kq3 ar a0 hK;clear hI ar a0 hK hS a4;gi_wp2_with fail;refine⟨by simp,.inl ⟨_,_,rfl,run_takeDeferred HH.c,?_⟩⟩;obtain⟨ar,a0,hK⟩:=HH.out;have a9:∀(k:Nat),k≠D->(W.putObj D (.deferred none)).heap[k]?=W.heap[k]?:=fun k hk=>World.putObj_heap_other hk;have bk:eR (W.putObj D (.deferred none)) ps pa pm ph pt v (FC S hh 0 (bnWords t n)) _:=ar.own (by simp) fun k o hk hc=>(a9 k (by
   rintro rfl
   rcases hc with hc | hc
   ·rw[hK] at hk
    injection hk with hk;rw[<-hk] at hc;cases hc
   ·omega)).trans hk
  have bj:Fo Y W (W.putObj D (.deferred none)):=⟨rfl,rfl,rfl,by simp,fun k hk=>a9 k (by have:=a2 k (ab hk);omega)⟩;refine⟨Xi 0,?_,rfl,⟨pa,pm,ph,pt,v,bk.mono fun k hk=>ab hk⟩,(Fo.of_below H3.d (Ig.yl ⟨_,_,_,_,_,H3.e⟩)).trans ((a0.mono fun k hk=>ab hk).trans bj)⟩
  simp[results,f329,go_sem]
 case stop=>
  intro D c ad W _ _ hI;exact hI.elim
end
section
open Go.RowKit Tryz Go.BigFrame Go.Maps Go.WideMaps Lf
def Lf.bn0:BN:=⟨[],[],[],0⟩
theorem tR {t:Nat}(h1:2<=t)(h2:t<=16):iU t bn0:=⟨h1,h2,cD _,rfl,ab rfl⟩
theorem tQ(t:Nat):∀x∈bnWords t bn0,x<2^64:=by
 intro x hx;unfold bnWords at hx;obtain⟨j,_,rfl⟩:=ay.1 hx;unfold wAt bn0;simp only[aL,List.getD_nil];repeat (first | split | omega)
theorem zG {w:World}{ps:Nat}{S S1:St}{Y:Nat->Prop}(h:Ig w ps S Y)(hi:Fv S){t:Nat}(t1:2<=t)(t2:t<=16)(hm:iw S (6*t)){hh:Nat}(he:S.make (6*t)=((hh,0),S1))(hl:hh<2^64)(hlen:S1.len hh=(6*t,0)):
 Ct 330 #[PV ps,Xi t,eC (.slice none 0 0) (.slice none 0 0) (.slice none 0 0) 0] w fun e w'=>e=.returned (.tuple #[Xu hh,Xi 0])/\Ig w' ps (FC S1 hh 0 (bnWords t bn0)) Y/\Fo Y w w':=by
 have B0:=(aa w.heap.size w).alloc Ih (.cells #[.slice none 0 0,.slice none 0 0,.slice none 0 0,Xu 0] 286);have q0:=heap_alloc_new w (.cells #[.slice none 0 0,.slice none 0 0,.slice none 0 0,Xu 0] 286);have ar:Fv S1:=by have:=hm.2;rw[he] at this;exact this
 have ap:=fB (h.below B0) hi 0 (by omega);rw[fU] at ap;have ad:=fun W=>pV (w:=W) (tR t1 t2) (FD.nil W) (FD.nil W) (FD.nil W);have ai:=fun W Z (hW:Ig W ps S Z)=>sH hW (6*t) (by omega) hm.1;rw[he] at ai;have al:=fun W Z (hW:Ig W ps S1 Z)=>Jg hW ar (tR t1 t2) (FD.nil W) (FD.nil W) (FD.nil W) hh hl hlen (tQ t);unfold eC at ad al⊢;simp only[bn0] at ad al;have hz:=h.wide B0;have a0:IntKind.i64.wrap (6*(t:Int))=6*(t:Int):=aD _ (by omega);have au:((6*t:Nat):Int)=6*(t:Int):=by omega
 simp only[au] at ai;have HG:=kq7 ap ad ai al h B0 hz;obtain⟨c0,c1,c2,c3⟩:=Fy q0;clear ap ad ai al h hi ar B0 hz hm he hlen;go_enter func330,ntmps330;go_wp2_with fail;refine Jc HG.a ?_;go_wp2_with fail;refine wx (HG.b _) fun w1 hb1=>?_;have r1:=(hb1.block w.heap.size (by simp)).trans q0;have H1:=kq3 (HG.g.below hb1) r1 (HG.f.trans (hb1.mono (by simp)));clear hb1 r1 c0 c1 c2 c3;go_wp2_with fail;refine(HG.c _ _ H1.a).mono ?_;rintro e w2 ⟨rfl,h2,k2⟩;have r2:=(k2.block w.heap.size (ae ⟨Nat.le_refl _,by simp⟩)).trans H1.b;obtain⟨c0,c1,c2,c3⟩:=Fy r2;have H2:=kq2 h2 k2;clear h2 k2 r2;go_wp2_with fail;refine(HG.d _ _ H2.a).mono ?_;rintro e w3 ⟨rfl,h3,k3⟩;have H3:=kq2 (h3.mono (Z:=Y) fun k hk=>ab hk) ((Fo.of_below H1.c HG.e.yl).trans ((H2.b.trans k3).mono fun k hk=>ab hk));clear h3 k3;go_wp2_with fail;go_ret2;exact⟨rfl,H3.out⟩
end
section
open Go.RowKit Tryz Go.BigFrame Go.Maps Go.WideMaps Lf
open Go.Shelf
attribute [local go_sem] Oper.semAt_some
theorem zD {w:World}{ps:Nat}{S:St}{Y:Nat->Prop}(h:Ig w ps S Y)(hi:Fv S)(hh:Nat)(hl:hh<2^64){b3 b5:Nat}(c3:w.cell? ⟨b3,0,none⟩=some (PV ps))(c5:w.cell? ⟨b5,0,none⟩=some (Xu hh))(k:Nat)(hk:k<=2^62){x:Nat}(hx:(S.get hh k).1=x):
 Ct 214 #[Xi k,PV b3,PV b5] w fun e w'=>e=.returned (Xu x)/\w=w':=by
 have hg:=sG h hi hh k hl hk;rw[hx] at hg;generalize (S.get hh k).2=er at hg;have HG:=If hg;clear hg h hi hx;go_enter func214,ntmps214;go_wp2_with fail;refine Jc HG.out ?_;go_wp2_with fail;go_ret;exact⟨rfl,rfl⟩
def hV(l:List Nat):List Value:=l.map fun x:Nat=>Value.int .u64 x
theorem uP:(prog.info? 83).map (fun i=>(i.zero,i.size,i.bytes))=some (some (Xu 0),1,8):=by kernel_rfl
abbrev FE(w:World)(B:Nat)(v:Value)(l:List Nat):Prop:=w.ownsRow B 83 1 v l.length (hV l)
theorem jF {w:World}{B:Nat}{v:Value}{l:List Nat}(h:FE w B v l)(hl:l.length<=100000)(x:Nat)(hB:B<=w.heap.size)(ty:TypeId):
 ∃v' w',(Builtin.append_ #[229,229] ty #[v,.slice (some ⟨w.heap.size,0,none⟩) 1 1]).run prog (w.alloc (Xh x))=.ok v' w'/\FE w' B v' (l++[x])/\w.grownBy w' v.ownBlock/\(v'.ownBlock=v.ownBlock\/∃g,v'.ownBlock=some g/\w.heap.size<=g):=by
 obtain⟨i,hi,ad,ai,al⟩:=info_parts uP;obtain⟨v',w',h1,h2,h3,_,h4⟩:=run_append_own_at (P:=prog) (w:=w.alloc (Xh x)) B 229 ty 83 i (Xu 0) 1 8 underlying229 hi ad ai al rfl (by decide) v l.length (hV l) (h.alloc _) ⟨w.heap.size,0,none⟩ 1 1 [Xu x] rfl (cell_one_new _ _ _) (by simp[Value.oneCell']) (by unfold maxLen;omega) (by omega) (by simp;omega);refine⟨v',w',h1,?_,(World.grownBy_alloc w _ _).trans h3,?_⟩
 ·have e:hV (l++[x])=hV l++[Xu x]:=by simp[hV]
  unfold FE;rw[e,aG];exact h2
 ·rcases h4 with h4 | h4
  ·exact ab h4
  ·exact ae ⟨_,h4,by simp⟩