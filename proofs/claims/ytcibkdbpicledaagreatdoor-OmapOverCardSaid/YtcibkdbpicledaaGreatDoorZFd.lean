/- Texts and nodes as records: plain. -/
import Derived.Test.YtcibkdbpicledaaGreatDoorZFb
import Derived.Test.YtcibkdbpicledaaGreatDoorZKj
set_option maxRecDepth 100000
set_option maxHeartbeats 1600000
namespace Go.Proofs.YtcibkdbpicledaaGreatDoor
section
open Lf
variable{S:St}{h:Nat}{n:Nat}{o:Nat->Nat}{t:List UInt8}{x:Nat}
theorem D4(hf:Fw S o){ws:List Nat}(hl:reco S h=some ws):kM S h=ws:=by
 unfold kM;rw[jw hf.tab hl];refine dz fun i=>?_
 by_cases hi:i<ws.length
 ·rw[bg,bO hi]
  show some (S.get h i).1=_
  rw[ru hf hl hi,af hi,aj,af hi]
  rfl
 ·rw[aH (by simp;omega),aH (by omega)]
theorem jt(hf:Fw S o)(ht:t.length<=1000)(hl:reco S h=some (FK t)):fz S h=(t,0):=by
 unfold fz;rw[jw hf.tab hl];simp only;rw[D4 hf hl,EN t ht]
theorem Cu(h:n<=1000):many n=1+(n+7) / 8/\many n<=126:=by
 have:many n=1+(n+7) / 8:=by unfold many;rw[if_neg (by omega)]
 omega
theorem qh(h1:1<=n)(h2:n<=4000):fa n<=(n+65) / 64:=by
 unfold fa;rw[if_neg (by omega)];split<;>omega
theorem oL(hf:Fw S o)(ht:t.length<=1000)(hr:fc S 3 1):
 ∃h S' o',fx S t=((h,0),S')/\Fw S' o'/\reco S h=none/\reco S' h=some (FK t)/\(∀h',h'≠h->reco S' h'=reco S h')/\ej S S' 3 1/\iw S (many t.length):=by
 obtain⟨m1,m2⟩:=Cu ht;have ad:fa (many t.length+2)<=3:=aO (qh (by omega) (by omega)) (by omega);obtain⟨h,S1,o1,ws,e,ai,hn,al,hl,ho,hg,_⟩:=oz hf (n:=many t.length) (by omega) (hr.mono ad Ih);have an:=rz hf (n:=many t.length) (by omega) (hr.mono ad Ih);obtain⟨q1,q2,q3,q4⟩:=mR ai hl (l:=FK t) (by rw[pj,al,m1]) (xZ t (by omega));refine⟨h,FC S1 h 0 (FK t),o1,?_,q1,hn,q2,fun h' hne=>(q3 h' hne).trans (ho h' hne),(hg.trans q4).mono (by omega) (by omega),an⟩;unfold fx;rw[if_neg (by omega),e];rfl
def eM(n:Nd):List Nat:=[n.key,n.val,n.left,n.right,n.mark,n.size]
theorem pN(hf:Fw S o){n:Nd}(hl:reco S h=some (eM n)):fZ S h=0:=by
 unfold fZ;rw[jw hf.tab hl];simp[eM]
theorem gw(hf:Fw S o){n:Nd}(hl:reco S h=some (eM n)):getNode S h=(n,0):=by
 have g:=fun k hk=>ru hf hl (k:=k) hk;have ad:(eM n).length=6:=rfl;unfold getNode;rw[pN hf hl];simp only;rw[g 0 (by omega),g 1 (by omega),g 2 (by omega),g 3 (by omega),g 4 (by omega),g 5 (by omega)];rfl
theorem Bd(hl:reco S h=none):getNode S h=(Nd.zero,7):=by
 unfold getNode fZ;rw[oy hl];rfl
theorem Co:reco S 0=none:=by
 unfold reco Hs.of;simp
theorem Bc(S:St):getNode S 0=(Nd.zero,7):=Bd Co
theorem vS{n:Nd}(hn:ji n):∀v∈eM n,v<2^64:=by
 intro v hv;have h1:=hn.key;have h2:=hn.val;have h3:=hn.left;have h4:=hn.right;have h5:=hn.mark;have h6:=hn.size;simp only[eM,ag,List.mem_nil_iff,or_false] at hv;rcases hv with rfl | rfl | rfl | rfl | rfl | rfl<;>assumption
theorem ww(hf:Fw S o){n0 n:Nd}(hl:reco S h=some (eM n0))(hn:ji n):
 ∃S',gM S h n=(0,S')/\Fw S' o/\reco S' h=some (eM n)/\(∀h',h'≠h->reco S' h'=reco S h')/\ej S S' 0 0:=by
 obtain⟨q1,q2,q3,q4⟩:=mR hf hl (l:=eM n) rfl (vS hn);refine⟨FC S h 0 (eM n),?_,q1,q2,q3,q4⟩;unfold gM;rw[pN hf hl];rfl
theorem Cq(hf:Fw S o){n:Nd}(hn:ji n)(hr:fc S 1 1):
 ∃h S' o',ft S n=((h,0),S')/\Fw S' o'/\reco S h=none/\reco S' h=some (eM n)/\(∀h',h'≠h->reco S' h'=reco S h')/\ej S S' 1 1/\iw S 6:=by
 have ad:fa (6+2)<=1:=aO (qh (by omega) (by omega)) (by omega);obtain⟨h,S1,o1,ws,e,ai,an,al,hl,ho,hg,_⟩:=oz hf (n:=6) (by omega) (hr.mono ad Ih);have ao:=rz hf (n:=6) (by omega) (hr.mono ad Ih);obtain⟨q1,q2,q3,q4⟩:=mR ai hl (l:=eM n) (by rw[al];rfl) (vS hn);have ha:fZ S1 h=0:=by
  unfold fZ;rw[jw ai.tab hl,al]
  rfl
 refine⟨h,FC S1 h 0 (eM n),o1,?_,q1,an,q2,fun h' hne=>(q3 h' hne).trans (ho h' hne),(hg.trans q4).mono (by omega) (by omega),ao⟩;unfold ft;rw[e];simp only;unfold gM;rw[ha]
 rfl
theorem AH(hf:Fw S o){n:Nd}(hl:reco S h=some (eM n)):
 ∃S',jr S h=(0,S')/\Fw S' o/\reco S' h=none/\(∀h',h'≠h->reco S' h'=reco S h')/\ej S S' 0 0:=by
 obtain⟨S',e,q⟩:=mQ hf hl;refine⟨S',?_,q⟩;unfold jr;rw[pN hf hl];exact e
theorem ux(q n l:Nat)(hq:q<=262144)(hn:1<=n/\n<=65536)(hl:1<=l/\l<4294967296):Fw ⟨⟨q,[]⟩,⟨n,l,[]⟩⟩ id where
 own:=⟨⟨List.Pairwise.nil,by simp,by simp,by simp[Slab.keys],by simp,hq⟩,by simp[Slab.keys],by simp[Slab.keys]⟩
 tab:=⟨hn,hl,by simp,by simp⟩
 live:=by simp
 inj:=by simp
def Lf.leftM(S:St)(h:Nat):Option (Nat×St):=
 match fu S (getNode S h).1 h (getNode S h).1.left (getNode S (getNode S h).1.right).1.left with
 | none=>none
 | some S1=>(fu S1 (getNode S (getNode S h).1.right).1 (getNode S h).1.right h (getNode S (getNode S h).1.right).1.right).map fun S2=>((getNode S h).1.right,S2)
def Lf.rightM(S:St)(h:Nat):Option (Nat×St):=
 match fu S (getNode S h).1 h (getNode S (getNode S h).1.left).1.right (getNode S h).1.right with
 | none=>none
 | some S1=>(fu S1 (getNode S (getNode S h).1.left).1 (getNode S h).1.left (getNode S (getNode S h).1.left).1.left h).map fun S2=>((getNode S h).1.left,S2)
def Lf.balM(S:St)(h:Nat):Option (Nat×St):=
 match eE S (getNode S h).1.left,eE S (getNode S h).1.right with
 | some a,some b=>
  if b+1<a then
   match eE S (getNode S (getNode S h).1.left).1.left,eE S (getNode S (getNode S h).1.left).1.right with
   | some c,some d=>
    if c<d then
     match leftM S (getNode S h).1.left with
     | none=>none
     | some (x,S1)=>match fu S1 (getNode S h).1 h x (getNode S h).1.right with
      | none=>none
      | some S2=>rightM S2 h
    else rightM S h
   | _,_=>none
  else if a+1<b then
   match eE S (getNode S (getNode S h).1.right).1.left,eE S (getNode S (getNode S h).1.right).1.right with
   | some c,some d=>
    if d<c then
     match rightM S (getNode S h).1.right with
     | none=>none
     | some (x,S1)=>match fu S1 (getNode S h).1 h (getNode S h).1.left x with
      | none=>none
      | some S2=>leftM S2 h
    else leftM S h
   | _,_=>none
  else some (h,S)
 | _,_=>none
def Lf.chk(o:Option (Nat×St)):Option (Nat×St):=
 match o with
 | none=>none
 | some (x,S)=>if x<2^64 then some (x,S) else none
theorem lM{o:Option (Nat×St)}(h:chk o=some (x,S)):o=some (x,S)/\x<2^64:=by
 unfold chk at h
 split at h
 ·cases h
 ·split at h
  ·rename_i hc
   injection h with h
   injection h with e1 e2
   subst e1 e2;exact⟨rfl,hc⟩
  ·cases h
theorem nU(h:x<2^64):chk (some (x,S))=some (x,S):=by
 unfold chk;simp only;rw[if_pos h]
def Lf.joinB(n:Nd)(m:Nat):Nat->St->Nat->Nat->Option (Nat×St)
 | 0,S,l,r=>(fu S n m l r).map fun S'=>(m,S')
 | f+1,S,l,r=>
  match eE S l,eE S r with
  | some a,some b=>
   if b+1<a then
    match joinB n m f S (getNode S l).1.right r with
    | none=>none
    | some (x,S1)=>
     match fu S1 (getNode S l).1 l (getNode S l).1.left x with
     | none=>none
     | some S2=>chk (balM S2 l)
   else if a+1<b then
    match joinB n m f S l (getNode S r).1.left with
    | none=>none
    | some (x,S1)=>
     match fu S1 (getNode S r).1 r x (getNode S r).1.right with
     | none=>none
     | some S2=>chk (balM S2 r)
   else(fu S n m l r).map fun S'=>(m,S')
  | _,_=>none
theorem qY(n:Nd)(m:Nat)(S:St)(l r:Nat):joinB n m 0 S l r=(fu S n m l r).map fun S'=>(m,S'):=rfl
theorem qX(n:Nd)(m f:Nat)(S:St)(l r:Nat):joinB n m (f+1) S l r=
 match eE S l,eE S r with
 | some a,some b=>
  if b+1<a then
   match joinB n m f S (getNode S l).1.right r with
   | none=>none
   | some (x,S1)=>
    match fu S1 (getNode S l).1 l (getNode S l).1.left x with
    | none=>none
    | some S2=>chk (balM S2 l)
  else if a+1<b then
   match joinB n m f S l (getNode S r).1.left with
   | none=>none
   | some (x,S1)=>
    match fu S1 (getNode S r).1 r x (getNode S r).1.right with
    | none=>none
    | some S2=>chk (balM S2 r)
  else(fu S n m l r).map fun S'=>(m,S')
 | _,_=>none:=rfl
def Lf.avlJ(S:St)(l m r:Nat):Option ((Nat×Nat)×St):=
 if m=0\/isT S l=false\/isT S m=false\/isT S r=false then none
 else(joinB (getNode S m).1 m 100 S l r).map fun x=>((x.1,0),x.2)
structure It where
 h:Nat
 kh:Nat
 vh:Nat
 k:List UInt8
 v:List UInt8
inductive Tr where
 | nil:Tr
 | node (l:Tr) (d:It) (m:Nat) (r:Tr):Tr
namespace Tr
variable{S:St}{o:Nat->Nat}
def root:Tr->Nat
 | nil=>0
 | node _ d _ _=>d.h
def mark:Tr->Nat
 | nil=>0
 | node _ _ m _=>m
def its:Tr->List It
 | nil=>[]
 | node l d _ r=>l.its++d::r.its
def hs(t:Tr):List Nat:=t.its.map (·.h)
def nd(l:Tr)(d:It)(m:Nat)(r:Tr):Nd:=⟨d.kh,d.vh,l.root,r.root,m,(node l d m r).its.length⟩
def At(S:St):Tr->Prop
 | nil=>True
 | node l d m r=>reco S d.h=some (eM (nd l d m r))/\At S l/\At S r
def mk(l:Tr)(d:It)(r:Tr):Tr:=node l d (max l.mark r.mark+1) r
theorem el(l:Tr)(d:It)(r:Tr):(mk l d r).its=l.its++d::r.its:=rfl
theorem eY(l:Tr)(d:It)(m:Nat)(r:Tr):(node l d m r).hs=l.hs++d.h::r.hs:=by
 show (l.its++d::r.its).map (·.h)=_
 simp[hs]
theorem At.frame {S S':St}:∀{t:Tr},At S t->(∀h∈t.hs,reco S' h=reco S h)->At S' t
 | nil,_,_=>trivial
 | node l d m r,⟨h1,h2,h3⟩,hf=>by
  rw[eY] at hf;refine⟨(hf d.h (by simp)).trans h1,h2.frame fun h hm=>hf h (by simp[hm]),h3.frame fun h hm=>hf h (by simp[hm])⟩
theorem At.getNode(hf:Fw S o){l:Tr}{d:It}{m:Nat}{r:Tr}(h:At S (node l d m r)):Lf.getNode S d.h=(nd l d m r,0):=gw hf h.1
theorem At.root_lt(hf:Fw S o):∀{t:Tr},At S t->t.root<2^64
 | nil,_=>by unfold root;decide
 | node _ _ _ _,h=>(fL hf h.1).2.1
theorem At.mark_eq(hf:Fw S o):∀{t:Tr},At S t->mU S t.root=t.mark/\sj S t.root=t.its.length
 | nil,_=>by
  show (Lf.getNode S 0).1.mark=0/\(Lf.getNode S 0).1.size=0
  rw[Bc];exact⟨rfl,rfl⟩
 | node l d m r,h=>by
  show (Lf.getNode S d.h).1.mark=m/\(Lf.getNode S d.h).1.size=_
  rw[h.getNode hf];exact⟨rfl,rfl⟩
theorem At.isT {S:St}{o:Nat->Nat}(hf:Fw S o):∀{t:Tr},At S t->Lf.isT S t.root=true
 | nil,_=>rfl
 | node l d m r,h=>by
  show Lf.isT S d.h=true
  unfold Lf.isT;rw[h.getNode hf];simp
theorem oI{x:Nat}(h:x<2^62):num x=some x:=by
 unfold num;rw[Nat.div_eq_of_lt h]
theorem At.height(hf:Fw S o){t:Tr}(h:At S t)(hm:t.mark<1000000):eE S t.root=some t.mark:=by
 unfold eE;rw[(h.mark_eq hf).1];exact oI (by omega)
theorem At.size(hf:Fw S o){t:Tr}(h:At S t)(hm:t.its.length<1000000):fY S t.root=some t.its.length:=by
 unfold fY;rw[(h.mark_eq hf).2];exact oI (by omega)
theorem jZ(hf:Fw S o){l r:Tr}{d:It}{n n0:Nd}(hl:At S l)(hr:At S r)(hd:reco S d.h=some (eM n0))(hk0:n0.key=d.kh)(hv0:n0.val=d.vh)(hk:n.key=d.kh)(hv:n.val=d.vh)
 (hnl:d.h∉l.hs) (hnr:d.h∉r.hs) (ml:l.mark<100000) (mr:r.mark<100000) (cl:l.its.length<100000) (cr:r.its.length<100000):
 ∃S',fu S n d.h l.root r.root=some S'/\Fw S' o/\At S' (mk l d r)/\(∀h',h'≠d.h->reco S' h'=reco S h')/\ej S S' 0 0:=by
 have hw:=(fL hf hd).2.2.2;have ai:d.kh<2^64:=by rw[<-hk0];exact hw _ (by simp[eM])
 have ao:d.vh<2^64:=by rw[<-hv0];exact hw _ (by simp[eM])
 have an:ji (nd l d (max l.mark r.mark+1) r):=by
  have:(node l d (max l.mark r.mark+1) r).its.length=l.its.length+(r.its.length+1):=by simp[its]
  refine⟨ai,ao,hl.root_lt hf,hr.root_lt hf,?_,?_⟩
  ·show max l.mark r.mark+1<_;omega
  ·show (node l d (max l.mark r.mark+1) r).its.length<_;omega
 obtain⟨S',e,ad,al,ho,hg⟩:=ww hf hd an;refine⟨S',?_,ad,?_,ho,hg⟩
 ·unfold fu;rw[hl.height hf (by omega),hr.height hf (by omega),hl.size hf (by omega),hr.size hf (by omega)];simp only;have:({ n with left:=l.root,right:=r.root,mark:=max l.mark r.mark+1,size:=l.its.length+r.its.length+1 }:Nd)=nd l d (max l.mark r.mark+1) r:=by
   unfold nd;rw[hk,hv];simp[its]
   omega
  rw[this,e]
 ·exact⟨al,hl.frame fun h hm=>ho h fun e=>hnl (e▸hm),hr.frame fun h hm=>ho h fun e=>hnr (e▸hm)⟩
def Sm(t:Tr):Prop:=t.mark<50000/\t.its.length<10000
theorem qFdad{P:Prop}(h:P:=by
 rw[g1];simp only[nd,root];rw[g2];simp only[nd,root] at e1 e2⊢;rw[e1];simp only[mk] at e2⊢;rw[e2]
 rfl):P:=h
theorem rq(hf:Fw S o){l a b:Tr}{d e:It}{m m':Nat}(h:At S (node l d m (node a e m' b)))(hd:(node l d m (node a e m' b)).hs.Nodup)(sl:Sm l)(sa:Sm a)(sb:Sm b):
 ∃S',leftM S d.h=some (e.h,S')/\Fw S' o/\At S' (mk (mk l d a) e b)/\(∀h',h'≠d.h->h'≠e.h->reco S' h'=reco S h')/\ej S S' 0 0:=by
 obtain⟨h1,h2,h3⟩:=h;have g1:=gw hf h1;have g2:=gw hf h3.1;simp only[eY,aw,aF,am,ag,not_or] at hd;obtain⟨a4,⟨ad,a5,ao,ap⟩,ai⟩:=hd;have nl:d.h∉l.hs:=fun hm=>ai _ hm _ (ab rfl) rfl;have na:d.h∉a.hs:=ad.1;have al:d.h≠e.h:=ad.2.1;have ar:d.h∉b.hs:=ad.2.2;have a3:e.h∉l.hs:=fun hm=>ai _ hm _ (ae (ae (ab rfl))) rfl;have au:e.h∉a.hs:=fun hm=>ap _ hm _ (ab rfl) rfl;have a0:e.h∉b.hs:=ao.1;obtain⟨S1,e1,f1,a1,o1,w1⟩:=jZ hf (n:=nd l d m (node a e m' b)) h2 h3.2.1 h1 rfl rfl rfl rfl nl na (by have:=sl.1;omega) (by have:=sa.1;omega) (by have:=sl.2;omega) (by have:=sa.2;omega);have an:At S1 b:=h3.2.2.frame fun h hm=>o1 h fun e=>ar (e▸hm);obtain⟨S2,e2,f2,a2,o2,w2⟩:=jZ f1 (n:=nd a e m' b) (d:=e) a1 an ((o1 _ fun e=>al e.symm).trans h3.1) rfl rfl rfl rfl
  (by rw[show (mk l d a).hs=l.hs++d.h::a.hs from eY ..];simp only[am,ag,not_or];exact⟨a3,fun e=>al e.symm,au⟩) a0
  (by show max l.mark a.mark+1<_;have:=sl.1;have:=sa.1;omega) (by have:=sb.1;omega) (by rw[el];simp;have:=sl.2;have:=sa.2;omega) (by have:=sb.2;omega)
 refine⟨S2,?_,f2,a2,fun h' q1 q2=>(o2 h' q2).trans (o1 h' q1),w1.trans w2⟩;unfold leftM;exact qFdad
theorem sf(hf:Fw S o){a b r:Tr}{d e:It}{m m':Nat}(h:At S (node (node a e m' b) d m r))(hd:(node (node a e m' b) d m r).hs.Nodup)(sa:Sm a)(sb:Sm b)(sr:Sm r):
 ∃S',rightM S d.h=some (e.h,S')/\Fw S' o/\At S' (mk a e (mk b d r))/\(∀h',h'≠d.h->h'≠e.h->reco S' h'=reco S h')/\ej S S' 0 0:=by
 obtain⟨h1,h2,h3⟩:=h;have g1:=gw hf h1;have g2:=gw hf h2.1;simp only[eY,aw,aF,am,ag] at hd;obtain⟨⟨a3,⟨an,a4⟩,ao⟩,⟨ap,a5⟩,ad⟩:=hd;have nr:d.h∉r.hs:=ap;have nb:d.h∉b.hs:=fun hm=>ad _ (ae (ae hm)) _ (ab rfl) rfl;have na:d.h∉a.hs:=fun hm=>ad _ (ab hm) _ (ab rfl) rfl;have ai:d.h≠e.h:=fun hm=>ad _ (ae (ab hm)) _ (ab rfl) rfl;have ar:e.h∉a.hs:=fun hm=>ao _ hm _ (ab rfl) rfl;have au:e.h∉b.hs:=an;have a0:e.h∉r.hs:=fun hm=>ad _ (ae (ab rfl)) _ (ae hm) rfl;obtain⟨S1,e1,f1,a1,o1,w1⟩:=jZ hf (n:=nd (node a e m' b) d m r) (d:=d) h2.2.2 h3 h1 rfl rfl rfl rfl nb nr (by have:=sb.1;omega) (by have:=sr.1;omega) (by have:=sb.2;omega) (by have:=sr.2;omega);have al:At S1 a:=h2.2.1.frame fun h hm=>o1 h fun e=>na (e▸hm);obtain⟨S2,e2,f2,a2,o2,w2⟩:=jZ f1 (n:=nd a e m' b) (d:=e) al a1 ((o1 _ fun e=>ai e.symm).trans h2.1) rfl rfl rfl rfl ar
  (by rw[show (mk b d r).hs=b.hs++d.h::r.hs from eY ..];simp only[am,ag,not_or];exact⟨au,fun e=>ai e.symm,a0⟩)
  (by have:=sa.1;omega) (by show max b.mark r.mark+1<_;have:=sb.1;have:=sr.1;omega) (by have:=sa.2;omega) (by rw[el];simp;have:=sb.2;have:=sr.2;omega)
 refine⟨S2,?_,f2,a2,fun h' q1 q2=>(o2 h' q2).trans (o1 h' q1),w1.trans w2⟩;unfold rightM;exact qFdad
def eZ:Tr->Prop
 | nil=>True
 | node l _ m r=>eZ l/\eZ r/\m=max l.mark r.mark+1/\l.mark<=r.mark+1/\r.mark<=l.mark+1
theorem eZ.mark_le:∀{t:Tr},eZ t->t.mark<=t.its.length
 | nil,_=>Nat.le_refl _
 | node l d m r,⟨h1,h2,h3,_,_⟩=>by
  have:=h1.mark_le;have:=h2.mark_le;show m<=(l.its++d::r.its).length
  simp only[aE,ak];omega
theorem eZ.sm{t:Tr}(h:eZ t)(hl:t.its.length<10000):Sm t:=⟨by have:=h.mark_le;omega,hl⟩
theorem eZ.mk{l r:Tr}(d:It)(hl:eZ l)(hr:eZ r)(h1:l.mark<=r.mark+1)(h2:r.mark<=l.mark+1):eZ (Tr.mk l d r):=⟨hl,hr,rfl,h1,h2⟩
theorem ey(l:Tr)(d:It)(r:Tr):(mk l d r).mark=max l.mark r.mark+1:=rfl
theorem eZ.pos {t:Tr}(h:eZ t)(hm:0<t.mark):∃l d r,t=Tr.mk l d r/\eZ l/\eZ r/\l.mark<=r.mark+1/\r.mark<=l.mark+1:=by
 cases t with
 | nil=>exact absurd hm (by simp[mark])
 | node l d m r=>
  obtain⟨h1,h2,h3,h4,h5⟩:=h;exact⟨l,d,r,by unfold Tr.mk;rw[h3],h1,h2,h4,h5⟩
structure lF (S S':St) (o:Nat->Nat) (hs:List Nat) (t:Tr):Prop where
 fit:Fw S' o
 at':At S' t
 other:∀h',h'∉hs->reco S' h'=reco S h'
 grew:ej S S' 0 0
theorem qFdae{P:Prop}(h:P:=by
 rw[show (mk a e b).root=e.h from rfl,g2];simp only[nd];rw[k3,k4];simp only;rw[if_neg c2,e1]
 rfl):P:=h
theorem qFdac{P:Prop}(h:P:=by
 ·intro z1 z2;simp only[ey] at z1 z2;omega):P:=h
theorem qFdab{P:Prop}(h:P:=by
 intro y hy;have y1:y≠d.h:=fun e=>hy (e▸a0);have y2:y≠e.h:=fun e=>hy (e▸a4);have y3:y≠x.h:=fun e=>hy (e▸bd);exact(o3 y y1 y3).trans ((o2 y y1).trans (o1 y y2 y3))):P:=h
theorem tJ(hf:Fw S o){l r:Tr}{d:It}(h:At S (mk l d r))(hd:(mk l d r).hs.Nodup)(bl:eZ l)(br:eZ r)(hc:(mk l d r).its.length<10000)(q1:l.mark<=r.mark+2)(q2:r.mark<=l.mark+2):
 ∃t S',balM S d.h=some (t.root,S')/\lF S S' o (mk l d r).hs t/\eZ t/\t.its=(mk l d r).its/\t.mark<=max l.mark r.mark+1/\max l.mark r.mark<=t.mark/\(l.mark<=r.mark+1->r.mark<=l.mark+1->t.mark=max l.mark r.mark+1):=by
 have ai:l.its.length<10000/\r.its.length<10000:=by rw[el] at hc;simp at hc;omega
 have sl:=bl.sm ai.1;have sr:=br.sm ai.2;have g1:=gw hf h.1;have k1:=h.2.1.height hf (by have:=sl.1;omega);have k2:=h.2.2.height hf (by have:=sr.1;omega)
 by_cases c1:r.mark+1<l.mark
 ·obtain⟨a,e,b,rfl,ba,bb,a6,a7⟩:=bl.pos (by omega);rw[ey] at c1 q1 q2;have al:a.its.length<10000/\b.its.length<10000:=by rw[el] at ai;simp at ai;omega
  have sa:=ba.sm al.1;have sb:=bb.sm al.2;have hl:=h.2.1;have g2:=gw hf hl.1;have k3:=hl.2.1.height hf (by have:=sa.1;omega);have k4:=hl.2.2.height hf (by have:=sb.1;omega);have a0:d.h∈(mk (mk a e b) d r).hs:=by rw[show (mk (mk a e b) d r).hs=(mk a e b).hs++d.h::r.hs from eY ..];simp
  have a4:e.h∈(mk (mk a e b) d r).hs:=by rw[show (mk (mk a e b) d r).hs=(mk a e b).hs++d.h::r.hs from eY ..,show (mk a e b).hs=a.hs++e.h::b.hs from eY ..];simp
  by_cases c2:a.mark<b.mark
  ·obtain⟨b1,x,b2,rfl,an,ao,bt,bu⟩:=bb.pos (by omega);rw[ey] at c1 c2 a6 a7 q1 q2;have ap:b1.its.length<10000/\b2.its.length<10000:=by have:=al.2;rw[el] at this;simp at this;omega
   have s1:=an.sm ap.1;have s2:=ao.sm ap.2;have bd:x.h∈(mk (mk a e (mk b1 x b2)) d r).hs:=by
    rw[show (mk (mk a e (mk b1 x b2)) d r).hs=(mk a e (mk b1 x b2)).hs++d.h::r.hs from eY ..,show (mk a e (mk b1 x b2)).hs=a.hs++e.h::(mk b1 x b2).hs from eY ..,show (mk b1 x b2).hs=b1.hs++x.h::b2.hs from eY ..]
    simp
   have b8:(mk a e (mk b1 x b2)).hs.Nodup:=by
    have:=hd;rw[show (mk (mk a e (mk b1 x b2)) d r).hs=(mk a e (mk b1 x b2)).hs++d.h::r.hs from eY ..] at this;exact(aw.1 this).1
   obtain⟨S1,e1,f1,a1,o1,w1⟩:=rq hf hl b8 sa s1 s2;have bj:d.h∉(mk a e (mk b1 x b2)).hs:=by
    have:=hd;rw[show (mk (mk a e (mk b1 x b2)) d r).hs=(mk a e (mk b1 x b2)).hs++d.h::r.hs from eY ..] at this;exact fun hm=>(aw.1 this).2.2 _ hm _ (av ..) rfl
   have ar:(mk (mk a e b1) x b2).hs=(mk a e (mk b1 x b2)).hs:=by unfold hs;simp[el]
   have b0:d.h∉r.hs:=by
    have:=hd;rw[show (mk (mk a e (mk b1 x b2)) d r).hs=(mk a e (mk b1 x b2)).hs++d.h::r.hs from eY ..] at this;exact(aF.1 (aw.1 this).2.1).1
   have bs:∀y,y∈(mk a e (mk b1 x b2)).hs->y≠d.h:=fun y hy e=>bj (e▸hy);have au:e.h∈(mk a e (mk b1 x b2)).hs:=by rw[show (mk a e (mk b1 x b2)).hs=a.hs++e.h::(mk b1 x b2).hs from eY ..];simp
   have a5:x.h∈(mk a e (mk b1 x b2)).hs:=by rw[show (mk a e (mk b1 x b2)).hs=a.hs++e.h::(mk b1 x b2).hs from eY ..,show (mk b1 x b2).hs=b1.hs++x.h::b2.hs from eY ..];simp
   have bm:∀y∈r.hs,y∉(mk a e (mk b1 x b2)).hs:=by
    have:=hd;rw[show (mk (mk a e (mk b1 x b2)) d r).hs=(mk a e (mk b1 x b2)).hs++d.h::r.hs from eY ..] at this;exact fun y hy hm=>(aw.1 this).2.2 _ hm _ (ah _ hy) rfl
   have b9:At S1 r:=h.2.2.frame fun y hy=>o1 y (fun e=>bm y hy (e▸au)) (fun e=>bm y hy (e▸a5));obtain⟨S2,e2,f2,a2,o2,w2⟩:=jZ f1 (n:=nd (mk a e (mk b1 x b2)) d (max (mk a e (mk b1 x b2)).mark r.mark+1) r) (d:=d) a1 b9 ((o1 _ (fun e=>bs _ au e.symm) (fun e=>bs _ a5 e.symm)).trans h.1) rfl rfl rfl rfl
    (by rw[ar];exact bj) b0 (by rw[ey,ey];have:=sa.1;have:=s1.1;have:=s2.1;omega) (by have:=sr.1;omega)
    (by have:(mk (mk a e b1) x b2).its.length=(mk a e (mk b1 x b2)).its.length:=(by simp[el]);omega) (by omega)
   have a9:Sm (mk a e b1):=⟨by rw[ey];have:=(ba.mark_le);have:=an.mark_le;omega,by have:=ai.1;simp[el] at this⊢;omega⟩;have a8:(mk (mk (mk a e b1) x b2) d r).hs.Nodup:=by
    rw[show (mk (mk (mk a e b1) x b2) d r).hs=(mk (mk a e b1) x b2).hs++d.h::r.hs from eY ..,ar,<-show (mk (mk a e (mk b1 x b2)) d r).hs=(mk a e (mk b1 x b2)).hs++d.h::r.hs from eY ..];exact hd
   obtain⟨S3,e3,f3,a3,o3,w3⟩:=sf f2 a2 a8 a9 s2 sr;refine⟨mk (mk a e b1) x (mk b2 d r),S3,?_,⟨f3,a3,?_,(w1.trans w2).trans w3⟩,?_,?_,?_,?_,?_⟩
   ·unfold balM;rw[g1];simp only[nd];rw[k1,k2];simp only;rw[if_pos (by rw[ey,ey];omega)];rw[show (mk a e (mk b1 x b2)).root=e.h from rfl,g2];simp only[nd];rw[k3,k4];simp only;rw[if_pos (by rw[ey];omega),e1];simp only;have ad:=e2;rw[show (mk (mk a e b1) x b2).root=x.h from rfl] at ad;simp only[nd] at ad;rw[show (mk a e (mk b1 x b2)).root=e.h from rfl] at ad;rw[ad];exact e3
   ·exact qFdab
   ·refine eZ.mk _ (eZ.mk _ ba an ?_ ?_) (eZ.mk _ ao br ?_ ?_) ?_ ?_<;>(try simp only[ey])<;>omega
   ·simp[el]
   ·simp only[ey];omega
   ·simp only[ey];omega
   exact qFdac
  ·obtain⟨S1,e1,f1,a1,o1,w1⟩:=sf hf h hd sa sb sr;refine⟨mk a e (mk b d r),S1,?_,⟨f1,a1,fun y hy=>o1 y (fun e=>hy (e▸a0)) (fun e=>hy (e▸a4)),w1⟩,?_,?_,?_,?_,?_⟩
   ·unfold balM;rw[g1];simp only[nd];rw[k1,k2];simp only;rw[if_pos (by rw[ey];omega)];exact qFdae
   ·refine eZ.mk _ ba (eZ.mk _ bb br ?_ ?_) ?_ ?_<;>(try simp only[ey])<;>omega
   ·simp[el]
   ·simp only[ey];omega
   ·simp only[ey];omega
   exact qFdac
 ·by_cases c1':l.mark+1<r.mark
  ·obtain⟨a,e,b,rfl,ba,bb,a6,a7⟩:=br.pos (by omega);rw[ey] at c1 c1' q1 q2;have al:a.its.length<10000/\b.its.length<10000:=by rw[el] at ai;simp at ai;omega
   have sa:=ba.sm al.1;have sb:=bb.sm al.2;have hr:=h.2.2;have g2:=gw hf hr.1;have k3:=hr.2.1.height hf (by have:=sa.1;omega);have k4:=hr.2.2.height hf (by have:=sb.1;omega);have a0:d.h∈(mk l d (mk a e b)).hs:=by rw[show (mk l d (mk a e b)).hs=l.hs++d.h::(mk a e b).hs from eY ..];simp
   have a4:e.h∈(mk l d (mk a e b)).hs:=by rw[show (mk l d (mk a e b)).hs=l.hs++d.h::(mk a e b).hs from eY ..,show (mk a e b).hs=a.hs++e.h::b.hs from eY ..];simp
   by_cases c2:b.mark<a.mark
   ·obtain⟨b1,x,b2,rfl,an,ao,bt,bu⟩:=ba.pos (by omega);rw[ey] at c1 c1' c2 a6 a7 q1 q2;have ap:b1.its.length<10000/\b2.its.length<10000:=by have:=al.1;rw[el] at this;simp at this;omega
    have s1:=an.sm ap.1;have s2:=ao.sm ap.2;have a':(mk l d (mk (mk b1 x b2) e b)).hs=l.hs++d.h::(mk (mk b1 x b2) e b).hs:=eY ..;have bc:(mk (mk b1 x b2) e b).hs=(mk b1 x b2).hs++e.h::b.hs:=eY ..;have bo:(mk b1 x b2).hs=b1.hs++x.h::b2.hs:=eY ..;have bf:=hd;rw[a'] at bf;obtain⟨n1,n2,n3⟩:=aw.1 bf;obtain⟨n4,n5⟩:=aF.1 n2;have bd:x.h∈(mk l d (mk (mk b1 x b2) e b)).hs:=by rw[a',bc,bo];simp
    have au:e.h∈(mk (mk b1 x b2) e b).hs:=by rw[bc];simp
    have a5:x.h∈(mk (mk b1 x b2) e b).hs:=by rw[bc,bo];simp
    obtain⟨S1,e1,f1,a1,o1,w1⟩:=sf hf hr n5 s1 s2 sb;have ar:(mk b1 x (mk b2 e b)).hs=(mk (mk b1 x b2) e b).hs:=by unfold hs;simp[el]
    have bv:d.h∉l.hs:=fun hm=>n3 _ hm _ (av ..) rfl;have bk:∀y∈l.hs,y∉(mk (mk b1 x b2) e b).hs:=fun y hy hm=>n3 _ hy _ (ah _ hm) rfl;have b4:At S1 l:=h.2.1.frame fun y hy=>o1 y (fun e=>bk y hy (e▸au)) (fun e=>bk y hy (e▸a5));obtain⟨S2,e2,f2,a2,o2,w2⟩:=jZ f1 (n:=nd l d (max l.mark (mk (mk b1 x b2) e b).mark+1) (mk (mk b1 x b2) e b)) (d:=d) b4 a1 ((o1 d.h (fun q=>n4 (q.symm▸au)) (fun q=>n4 (q.symm▸a5))).trans h.1) rfl rfl rfl rfl
     bv (by rw[ar];exact n4) (by have:=sl.1;omega) (by rw[ey,ey];have:=sb.1;have:=s1.1;have:=s2.1;omega) (by omega)
     (by have:(mk b1 x (mk b2 e b)).its.length=(mk (mk b1 x b2) e b).its.length:=(by simp[el]);omega)
    have a9:Sm (mk b2 e b):=⟨by rw[ey];have:=ao.mark_le;have:=bb.mark_le;omega,by have:=ai.2;simp[el] at this⊢;omega⟩;have a8:(mk l d (mk b1 x (mk b2 e b))).hs.Nodup:=by
     rw[show (mk l d (mk b1 x (mk b2 e b))).hs=l.hs++d.h::(mk b1 x (mk b2 e b)).hs from eY ..,ar,<-a'];exact hd
    obtain⟨S3,e3,f3,a3,o3,w3⟩:=rq f2 a2 a8 sl s1 a9;refine⟨mk (mk l d b1) x (mk b2 e b),S3,?_,⟨f3,a3,?_,(w1.trans w2).trans w3⟩,?_,?_,?_,?_,?_⟩
    ·unfold balM;rw[g1];simp only[nd];rw[k1,k2];simp only;rw[if_neg (by rw[ey,ey];omega),if_pos (by rw[ey,ey];omega)];rw[show (mk (mk b1 x b2) e b).root=e.h from rfl,g2];simp only[nd];rw[k3,k4];simp only;rw[if_pos (by rw[ey];omega),e1];simp only;have ad:=e2;rw[show (mk b1 x (mk b2 e b)).root=x.h from rfl] at ad;simp only[nd] at ad;rw[show (mk (mk b1 x b2) e b).root=e.h from rfl] at ad;rw[ad];exact e3
    ·exact qFdab
    ·refine eZ.mk _ (eZ.mk _ bl an ?_ ?_) (eZ.mk _ ao bb ?_ ?_) ?_ ?_<;>(try simp only[ey])<;>omega
    ·simp[el]
    ·simp only[ey];omega
    ·simp only[ey];omega
    exact qFdac
   ·obtain⟨S1,e1,f1,a1,o1,w1⟩:=rq hf h hd sl sa sb;refine⟨mk (mk l d a) e b,S1,?_,⟨f1,a1,fun y hy=>o1 y (fun e=>hy (e▸a0)) (fun e=>hy (e▸a4)),w1⟩,?_,?_,?_,?_,?_⟩
    ·unfold balM;rw[g1];simp only[nd];rw[k1,k2];simp only;rw[if_neg (by rw[ey];omega),if_pos (by rw[ey];omega)];exact qFdae
    ·refine eZ.mk _ (eZ.mk _ bl ba ?_ ?_) bb ?_ ?_<;>(try simp only[ey])<;>omega
    ·simp[el]
    ·simp only[ey];omega
    ·simp only[ey];omega
    exact qFdac
  ·refine⟨mk l d r,S,?_,⟨hf,h,fun _ _=>rfl,ej.refl S⟩,eZ.mk _ bl br (by omega) (by omega),rfl,by rw[ey];exact Nat.le_refl _,by rw[ey];omega,fun _ _=>rfl⟩;unfold balM;rw[g1];simp only[nd];rw[k1,k2];simp only;rw[if_neg c1,if_neg c1']
   rfl
end Tr
end
section
open Go.RowKit Tryz Go.BigFrame Go.Maps Go.WideMaps Lf
def Lf.bn0:BN:=⟨[],[],[],0⟩
theorem tR {t:Nat}(h1:2<=t)(h2:t<=16):iU t bn0:=⟨h1,h2,cH _,rfl,ab rfl⟩
theorem tQ(t:Nat):∀x∈bnWords t bn0,x<2^64:=by
 intro x hx;unfold bnWords at hx;obtain⟨j,_,rfl⟩:=aC.1 hx;unfold wAt bn0;simp only[aK,List.getD_nil];repeat (first | split | omega)
theorem zG {w:World}{ps:Nat}{S S1:St}{Y:Nat->Prop}(h:Ig w ps S Y)(hi:Fv S){t:Nat}(t1:2<=t)(t2:t<=16)(hm:iw S (6*t)){hh:Nat}(he:S.make (6*t)=((hh,0),S1))(hl:hh<2^64)(hlen:S1.len hh=(6*t,0)):
 Ct 330 #[PV ps,.int .i64 t,eC (.slice none 0 0) (.slice none 0 0) (.slice none 0 0) 0] w fun e w'=>e=.returned (.tuple #[.int .u64 hh,.int .i64 0])/\Ig w' ps (FC S1 hh 0 (bnWords t bn0)) Y/\Fo Y w w':=by
 have B0:=(aa w.heap.size w).alloc Ih (.cells #[.slice none 0 0,.slice none 0 0,.slice none 0 0,.int .u64 0] 286);have q0:=heap_alloc_new w (.cells #[.slice none 0 0,.slice none 0 0,.slice none 0 0,.int .u64 0] 286);have ap:Fv S1:=by have:=hm.2;rw[he] at this;exact this
 have ao:=fB (h.below B0) hi 0 (by omega);rw[fU] at ao;have ai:=fun W=>pV (w:=W) (tR t1 t2) (FD.nil W) (FD.nil W) (FD.nil W);have al:=fun W Z (hW:Ig W ps S Z)=>sH hW (6*t) (by omega) hm.1;rw[he] at al;have an:=fun W Z (hW:Ig W ps S1 Z)=>mz hW ap (tR t1 t2) (FD.nil W) (FD.nil W) (FD.nil W) hh hl hlen (tQ t);unfold eC at ai an⊢;simp only[bn0] at ai an;have hz:=h.wide B0;have au:IntKind.i64.wrap (6*(t:Int))=6*(t:Int):=aD _ (by omega);have ar:((6*t:Nat):Int)=6*(t:Int):=by omega
 simp only[ar] at al;have HG:=kq7 ao ai al an h B0 hz;obtain⟨c0,c1,c2,c3⟩:=Fy q0;clear ao ai al an h hi ap B0 hz hm he hlen;go_enter func330,ntmps330;go_wp2_with fail;refine HG.a.mono ?_;rintro e w1 ⟨rfl,rfl⟩;go_wp2_with fail;refine(HG.b _).mono ?_;rintro e w1 ⟨rfl,ad⟩;have r1:=(ad.block w.heap.size (by simp)).trans q0;have H1:=kq3 (HG.g.below ad) r1 (HG.f.trans (ad.mono (by simp)));clear ad r1 c0 c1 c2 c3;go_wp2_with fail;refine(HG.c _ _ H1.a).mono ?_;rintro e w2 ⟨rfl,h2,k2⟩;have r2:=(k2.block w.heap.size (ae ⟨Nat.le_refl _,by simp⟩)).trans H1.b;obtain⟨c0,c1,c2,c3⟩:=Fy r2;have H2:=kq2 h2 k2;clear h2 k2 r2;go_wp2_with fail;refine(HG.d _ _ H2.a).mono ?_;rintro e w3 ⟨rfl,h3,k3⟩;have H3:=kq2 (h3.mono (Z:=Y) fun k hk=>ab hk) ((Fo.of_below H1.c HG.e.yl).trans ((H2.b.trans k3).mono fun k hk=>ab hk));clear h3 k3;go_wp2_with fail;go_ret2;exact⟨rfl,H3.out⟩
end
section
open Go.RowKit Tryz Go.BigFrame Go.Maps Go.WideMaps Lf
open Go.Shelf
variable{D:Nat}{S:St}{W2:World}{l:List Nat}{v:Value}{w:World}{x:Nat}
attribute [local go_sem] Oper.semAt_some
theorem zD{ps:Nat}{Y:Nat->Prop}(h:Ig w ps S Y)(hi:Fv S)(hh:Nat)(hl:hh<2^64){b3 b5:Nat}(c3:w.cell? ⟨b3,0,none⟩=some (PV ps))(c5:w.cell? ⟨b5,0,none⟩=some (.int .u64 hh))(k:Nat)(hk:k<=2^62)(hx:(S.get hh k).1=x):
 Ct 214 #[.int .i64 k,PV b3,PV b5] w fun e w'=>e=.returned (.int .u64 x)/\w=w':=by
 have hg:=sG h hi hh k hl hk;rw[hx] at hg;generalize (S.get hh k).2=er at hg;have HG:=If hg;clear hg h hi hx;go_enter func214,ntmps214;go_wp2_with fail;refine HG.out.mono ?_;rintro e w1 ⟨rfl,rfl⟩;go_wp2_with fail;go_ret;exact⟨rfl,rfl⟩
def hV(l:List Nat):List Value:=l.map fun x:Nat=>Value.int .u64 x
theorem uP:(prog.info? 83).map (fun i=>(i.zero,i.size,i.bytes))=some (some (.int .u64 0),1,8):=by kernel_rfl
abbrev FE(w:World)(B:Nat)(v:Value)(l:List Nat):Prop:=w.ownsRow B 83 1 v l.length (hV l)
theorem jF{B:Nat}(h:FE w B v l)(hl:l.length<=100000)(x:Nat)(hB:B<=w.heap.size)(ty:TypeId):
 ∃v' w',(Builtin.append_ #[229,229] ty #[v,.slice (some ⟨w.heap.size,0,none⟩) 1 1]).run prog (w.alloc (.cells #[.int .u64 x] 83))=.ok v' w'/\FE w' B v' (l++[x])/\w.grownBy w' v.ownBlock/\(v'.ownBlock=v.ownBlock\/∃g,v'.ownBlock=some g/\w.heap.size<=g):=by
 obtain⟨i,hi,ad,ai,al⟩:=info_parts uP;obtain⟨v',w',h1,h2,h3,_,h4⟩:=run_append_own_at (P:=prog) (w:=w.alloc (.cells #[.int .u64 x] 83)) B 229 ty 83 i (.int .u64 0) 1 8 underlying229 hi ad ai al rfl (by decide) v l.length (hV l) (h.alloc _) ⟨w.heap.size,0,none⟩ 1 1 [.int .u64 x] rfl (cell_one_new _ _ _) (by simp[Value.oneCell']) (by unfold maxLen;omega) (by omega) (by simp;omega);refine⟨v',w',h1,?_,(World.grownBy_alloc w _ _).trans h3,?_⟩
 ·have e:hV (l++[x])=hV l++[.int .u64 x]:=by simp[hV]
  unfold FE;rw[e,aE];exact h2
 ·rcases h4 with h4 | h4
  ·exact ab h4
  ·exact ae ⟨_,h4,by simp⟩
attribute [local go_sem] Oper.semAt_some
structure eX (w W:World) (ps hh b12:Nat) (vk vv vc:Value) (sz:Nat):Prop where
 b3:W.heap[w.heap.size]?=some (.cells #[PV ps] 25 (0,0))
 b5:W.heap[w.heap.size+1]?=some (.cells #[.int .u64 hh] 83 (0,0))
 b6:W.heap[w.heap.size+1+1]?=some (.cells #[.slice none 0 0,.slice none 0 0,.slice none 0 0,.int .u64 0] 286 (0,0))
 b7:W.heap[w.heap.size+1+1+1]?=some (.cells #[.int .i64 0] 30 (0,0))
 k12:W.heap[b12]?=some (.cells #[.func (.func 214) #[] #[PV w.heap.size,PV (w.heap.size+1)]] 219 (0,0))
 k13:W.heap[b12+1]?=some (.cells #[vk,vv,vc,.int .u64 sz] 286 (0,0))
 below:Below w.heap.size w W
 size:b12+2<=W.heap.size
 at12:b12=w.heap.size+4
structure fN (W:World) (D:Nat) (vk vv vc:Value) (ks vs cs:List Nat):Prop where
 k:FE W D vk ks
 v:FE W D vv vs
 c:FE W D vc cs
 kv:∀g,vk.ownBlock=some g->vv.ownBlock≠some g
 kc:∀g,vk.ownBlock=some g->vc.ownBlock≠some g
 vc:∀g,vv.ownBlock=some g->vc.ownBlock≠some g
theorem kE{P:Program}{o:Oper}{a:Act}{w w':World}{K:Act->World->Prop}{Q:Exit->Act->World->Prop}{v xv v':Value}(s x:Operand)(t:TypeId)
 (ho:o.op=.call { callee:=.builtin .append,args:=#[s,x],argTypes:=#[t,t] }) (hs:a.eval s=v) (hx:a.eval x=xv)
 (hr:(Builtin.append_ #[t,t] o.type #[v,xv]).run P w=.ok v' w') (h:K (a.put o.dst v') w'):Oper.wp P o a w K Q:=by
 unfold Oper.wp execOp;simp only[ho,resolve,invoke,builtin,Sem.run_bind,Sem.run_pure,Result.andThen_ok,List.map_toArray,aM,List.map_nil,hs,hx,hr];exact h
theorem FE.at{w w':World}(h:FE w D v l)(e:∀g,v.ownBlock=some g->w'.heap[g]?=w.heap[g]?):FE w' D v l:=by
 refine⟨h.1,?_⟩
 rcases h.2 with hn | ⟨g,ad,ai,rfl,hb,al,rest⟩
 ·exact .inl hn
 ·exact .inr ⟨g,ad,ai,rfl,hb,(e g rfl).trans al,rest⟩
theorem FE.slice(h:FE w D v l):∃A m c,v=.slice A m c:=by
 rcases h.2 with⟨rfl,_⟩ | ⟨g,ad,ai,rfl,_⟩
 ·exact⟨_,_,_,rfl⟩
 ·exact⟨_,_,_,rfl⟩
theorem FE.ge(h:FE w D v l):∀g,v.ownBlock=some g->D<=g/\g<w.heap.size:=World.ownsRow.lt h
theorem FE.slice2(h:FE w D v l):∃A c,v=.slice A l.length c:=by
 rcases h.2 with⟨rfl,e⟩ | ⟨g,ad,ai,rfl,_⟩
 ·exact⟨none,0,by rw[e]⟩
 ·exact⟨_,_,rfl⟩
theorem FE.hrow(h:FE w D v l):FD w v l:=by
 rcases h.2 with⟨rfl,e⟩ | ⟨g,ad,ai,e,_⟩
 ·exact⟨none,0,by rw[e],fun i hi=>absurd hi (by omega)⟩
 ·refine⟨_,_,e,fun i hi=>⟨g,0,rfl,?_⟩⟩;have:=World.ownsRow.cells h (g:=g) (by rw[e];rfl) i (.int .u64 (l[i]:Nat)) (by simp[hV,hi]);rw[Addr.add_lit] at this
  simpa using this
theorem Below.grownBy{w w':World}(h:Below w.heap.size w w')(row:Option Nat):w.grownBy w' row:=⟨h.os,h.tape,h.output,h.size,fun k hk _=>h.block k hk⟩
theorem fN.below{W W':World}{vk vv vc:Value}{ks vs cs:List Nat}(h:fN W D vk vv vc ks vs cs)(hb:Below W.heap.size W W'):fN W' D vk vv vc ks vs cs:=
 ⟨h.k.at fun g e=>hb.block g (h.k.ge g e).2,h.v.at fun g e=>hb.block g (h.v.ge g e).2,h.c.at fun g e=>hb.block g (h.c.ge g e).2,h.kv,h.kc,h.vc⟩
theorem Be{t hh:Nat}{n:BN}(hn:iU t n)(hlen:S.len hh=(6*t,0))(hg:∀k,k<6*t->S.get hh k=(wAt t n n.keys.length n.kids.length k,0))(k:Nat):(S.get hh k).1=wAt t n n.keys.length n.kids.length k:=by
 by_cases hk:k<6*t
 ·rw[hg k hk]
 ·have h1:=hn.many;have h2:n.kids.length<=n.keys.length+1:=by rcases hn.kids with h | h<;>omega
  have h3:=hn.lo;unfold wAt;rw[if_neg (by omega),if_neg (by omega),if_neg (by omega),if_neg (by omega)];unfold St.len at hlen;unfold St.get
  rcases S.at_cases hh with⟨a,m,e,_⟩ | ⟨e,_⟩
  ·rw[e] at hlen⊢;have:m=6*t:=(Prod.mk.inj hlen).1;simp only;rw[if_neg (by omega)]
  ·rw[e]
   rfl
theorem oZ{b:Nat}{v0 v1 v2 v3 u0 u1 u2 u3:Value}{ty:TypeId}{fr:Nat×Nat}(h:w.heap[b]?=some (.cells #[v0,v1,v2,v3] ty fr)):((((w.setCell ⟨b,0,none⟩ (u0)).setCell ⟨b,1,none⟩ (u1)).setCell ⟨b,2,none⟩ (u2)).setCell ⟨b,3,none⟩ (u3)).heap[b]?=some (.cells #[u0,u1,u2,u3] ty fr):=by
 have h1:=heap_setCell (i:=0) (v:=u0) h;have h2:=heap_setCell (i:=1) (v:=u1) h1;have h3:=heap_setCell (i:=2) (v:=u2) h2;exact heap_setCell (i:=3) (v:=u3) h3
theorem sy{b k:Nat}{u0 u1 u2 u3:Value}(hk:k≠b):((((w.setCell ⟨b,0,none⟩ (u0)).setCell ⟨b,1,none⟩ (u1)).setCell ⟨b,2,none⟩ (u2)).setCell ⟨b,3,none⟩ (u3)).heap[k]?=w.heap[k]?:=by
 rw[FB hk,FB hk,FB hk,FB hk]
theorem oY{w w0:World}{n b:Nat}{u0 u1 u2 u3:Value}(h:Below n w0 w)(hb:n<=b):Below n w0 ((((w.setCell ⟨b,0,none⟩ (u0)).setCell ⟨b,1,none⟩ (u1)).setCell ⟨b,2,none⟩ (u2)).setCell ⟨b,3,none⟩ (u3)):=
 (((h.setCell (p:=⟨b,0,none⟩) hb u0).setCell (p:=⟨b,1,none⟩) hb u1).setCell (p:=⟨b,2,none⟩) hb u2).setCell (p:=⟨b,3,none⟩) hb u3
theorem fN.lift{W W':World}{D D':Nat}{vk vv vc:Value}{ks vs cs:List Nat}(h:fN W D vk vv vc ks vs cs)(hD:D'<=D)(e:∀g,D<=g->g<W.heap.size->W'.heap[g]?=W.heap[g]?):fN W' D' vk vv vc ks vs cs:=by
 have low:∀{v:Value} {l:List Nat},FE W D v l->FE W' D' v l:=fun hh=>by
  have:=hh.at (w':=W') fun g q=>e g (hh.ge g q).1 (hh.ge g q).2;refine⟨this.1,?_⟩
  rcases this.2 with hn | ⟨g,ad,ai,rfl,hb,rest⟩
  ·exact .inl hn
  ·exact .inr ⟨g,ad,ai,rfl,aO hD hb,rest⟩
 exact⟨low h.k,low h.v,low h.c,h.kv,h.kc,h.vc⟩
theorem mj{p:Addr}{x:Value}{k:Nat}(hk:k≠p.block):(w.setCell p x).heap[k]?=w.heap[k]?:=dq w p x k hk
theorem eX.drew{w W:World}{ps hh b12 sz:Nat}{vk vv vc:Value}(h:eX w W ps hh b12 vk vv vc sz):eX w W.drew ps hh b12 vk vv vc sz:=⟨h.b3,h.b5,h.b6,h.b7,h.k12,h.k13,h.below.drew,h.size,h.at12⟩
theorem fN.drew{W:World}{vk vv vc:Value}{ks vs cs:List Nat}(h:fN W D vk vv vc ks vs cs):fN W.drew D vk vv vc ks vs cs:=⟨h.k,h.v,h.c,h.kv,h.kc,h.vc⟩
theorem eX.grown{w W W2:World}{ps hh b12 sz:Nat}{vk vv vc:Value}{row:Option Nat}(h:eX w W ps hh b12 vk vv vc sz)(hg:W.grownBy W2 row)(hr:∀g,row=some g->b12+2<=g):eX w W2 ps hh b12 vk vv vc sz:=by
 have e:∀k,k<b12+2->W2.heap[k]?=W.heap[k]?:=fun k hk=>hg.block k (by have:=h.size;omega) (fun e=>by have:=hr k e.symm;omega);have ha:=h.at12;exact⟨(e _ (by omega)).trans h.b3,(e _ (by omega)).trans h.b5,(e _ (by omega)).trans h.b6,(e _ (by omega)).trans h.b7,(e _ (by omega)).trans h.k12,(e _ (by omega)).trans h.k13,
  h.below.trans ⟨hg.os,hg.tape,hg.output,hg.size,fun k hk=>e k (by omega)⟩,aO h.size hg.size,ha⟩
theorem eX.up{w W W2:World}{ps hh b12 sz:Nat}{vk vv vc:Value}(h:eX w W ps hh b12 vk vv vc sz)(hb:Below W.heap.size W W2):eX w W2 ps hh b12 vk vv vc sz:=h.grown (row:=none) (Below.grownBy hb none) fun _ e=>nomatch e
theorem eX.set0{w W:World}{ps hh b12 sz:Nat}{vk vv vc:Value}(h:eX w W ps hh b12 vk vv vc sz)(v':Value):eX w (W.setCell ⟨b12+1,0,none⟩ v') ps hh b12 v' vv vc sz:=by
 have e:∀k,k≠b12+1->(W.setCell ⟨b12+1,0,none⟩ v').heap[k]?=W.heap[k]?:=fun k hk=>mj hk;have ha:=h.at12;have hz:(W.setCell ⟨b12+1,0,none⟩ v').heap.size=W.heap.size:=World.size_setCell _ _ _;have q:=heap_setCell (i:=0) (v:=v') h.k13;refine⟨(e _ (by omega)).trans h.b3,(e _ (by omega)).trans h.b5,(e _ (by omega)).trans h.b6,(e _ (by omega)).trans h.b7,(e _ (by omega)).trans h.k12,by simpa using q,?_,by rw[hz];exact h.size,ha⟩;exact h.below.setCell (p:=⟨b12+1,0,none⟩) (by show w.heap.size<=b12+1;omega) v'
theorem qFdaa{P:Prop}(h:P:=by
 rcases hv with hv | ⟨g',e',hl⟩
 ·exact hn g (hv▸e) e2
 ·have:=(hh.ge g e2).2;rw[e] at e'
  cases e'
  omega):P:=h
theorem sK{w W:World}{ps hh b12 sz:Nat}{vk vv vc v':Value}{ks vs cs:List Nat}(gb:eX w W ps hh b12 vk vv vc sz)(rows:fN W (b12+2) vk vv vc ks vs cs)(h:FE W2 (b12+2) v' (ks++[x]))(hg:W.grownBy W2 vk.ownBlock)(hv:v'.ownBlock=vk.ownBlock\/∃g,v'.ownBlock=some g/\W.heap.size<=g):
 eX w (W2.setCell ⟨b12+1,0,none⟩ v') ps hh b12 v' vv vc sz/\fN (W2.setCell ⟨b12+1,0,none⟩ v') (b12+2) v' vv vc (ks++[x]) vs cs:=by
 refine⟨(gb.grown hg fun g e=>(rows.k.ge g e).1).set0 v',?_⟩;have st:∀{v:Value} {l:List Nat},FE W2 (b12+2) v l->FE (W2.setCell ⟨b12+1,0,none⟩ v') (b12+2) v l:=fun hh=>hh.at fun g e=>mj (by have:=(hh.ge g e).1;show g≠b12+1;omega);have k1:∀{v:Value} {l:List Nat},FE W (b12+2) v l->(∀g,vk.ownBlock=some g->v.ownBlock≠some g)->FE W2 (b12+2) v l:=fun hh hn=>hh.at fun g e=>hg.block g (hh.ge g e).2 (fun e2=>hn g e2.symm e);have nw:∀{v:Value} {l:List Nat},FE W (b12+2) v l->(∀g,vk.ownBlock=some g->v.ownBlock≠some g)->∀g,v'.ownBlock=some g->v.ownBlock≠some g:=fun hh hn g e e2=>by
  exact qFdaa
 exact { k:=st h,v:=st (k1 rows.v (rows.kv)),c:=st (k1 rows.c (rows.kc)),kv:=nw rows.v (rows.kv),kc:=nw rows.c (rows.kc),vc:=rows.vc }
theorem eX.set1{w W:World}{ps hh b12 sz:Nat}{vk vv vc:Value}(h:eX w W ps hh b12 vk vv vc sz)(v':Value):eX w (W.setCell ⟨b12+1,1,none⟩ v') ps hh b12 vk v' vc sz:=by
 have e:∀k,k≠b12+1->(W.setCell ⟨b12+1,1,none⟩ v').heap[k]?=W.heap[k]?:=fun k hk=>mj hk;have ha:=h.at12;have hz:(W.setCell ⟨b12+1,1,none⟩ v').heap.size=W.heap.size:=World.size_setCell _ _ _;have q:=heap_setCell (i:=1) (v:=v') h.k13;refine⟨(e _ (by omega)).trans h.b3,(e _ (by omega)).trans h.b5,(e _ (by omega)).trans h.b6,(e _ (by omega)).trans h.b7,(e _ (by omega)).trans h.k12,by simpa using q,?_,by rw[hz];exact h.size,ha⟩;exact h.below.setCell (p:=⟨b12+1,1,none⟩) (by show w.heap.size<=b12+1;omega) v'
theorem sL{w W:World}{ps hh b12 sz:Nat}{vk vv vc v':Value}{ks vs cs:List Nat}(gb:eX w W ps hh b12 vk vv vc sz)(rows:fN W (b12+2) vk vv vc ks vs cs)(h:FE W2 (b12+2) v' (vs++[x]))(hg:W.grownBy W2 vv.ownBlock)(hv:v'.ownBlock=vv.ownBlock\/∃g,v'.ownBlock=some g/\W.heap.size<=g):
 eX w (W2.setCell ⟨b12+1,1,none⟩ v') ps hh b12 vk v' vc sz/\fN (W2.setCell ⟨b12+1,1,none⟩ v') (b12+2) vk v' vc ks (vs++[x]) cs:=by
 refine⟨(gb.grown hg fun g e=>(rows.v.ge g e).1).set1 v',?_⟩;have st:∀{v:Value} {l:List Nat},FE W2 (b12+2) v l->FE (W2.setCell ⟨b12+1,1,none⟩ v') (b12+2) v l:=fun hh=>hh.at fun g e=>mj (by have:=(hh.ge g e).1;show g≠b12+1;omega);have k1:∀{v:Value} {l:List Nat},FE W (b12+2) v l->(∀g,vv.ownBlock=some g->v.ownBlock≠some g)->FE W2 (b12+2) v l:=fun hh hn=>hh.at fun g e=>hg.block g (hh.ge g e).2 (fun e2=>hn g e2.symm e);have nw:∀{v:Value} {l:List Nat},FE W (b12+2) v l->(∀g,vv.ownBlock=some g->v.ownBlock≠some g)->∀g,v'.ownBlock=some g->v.ownBlock≠some g:=fun hh hn g e e2=>by
  exact qFdaa
 exact { k:=st (k1 rows.k (fun g e e2=>rows.kv g e2 e)),v:=st h,c:=st (k1 rows.c (rows.vc)),kv:=fun g e e2=>nw rows.k (fun g e e2=>rows.kv g e2 e) g e2 e,kc:=rows.kc,vc:=nw rows.c (rows.vc) }
theorem eX.set2{w W:World}{ps hh b12 sz:Nat}{vk vv vc:Value}(h:eX w W ps hh b12 vk vv vc sz)(v':Value):eX w (W.setCell ⟨b12+1,2,none⟩ v') ps hh b12 vk vv v' sz:=by
 have e:∀k,k≠b12+1->(W.setCell ⟨b12+1,2,none⟩ v').heap[k]?=W.heap[k]?:=fun k hk=>mj hk;have ha:=h.at12;have hz:(W.setCell ⟨b12+1,2,none⟩ v').heap.size=W.heap.size:=World.size_setCell _ _ _;have q:=heap_setCell (i:=2) (v:=v') h.k13;refine⟨(e _ (by omega)).trans h.b3,(e _ (by omega)).trans h.b5,(e _ (by omega)).trans h.b6,(e _ (by omega)).trans h.b7,(e _ (by omega)).trans h.k12,by simpa using q,?_,by rw[hz];exact h.size,ha⟩;exact h.below.setCell (p:=⟨b12+1,2,none⟩) (by show w.heap.size<=b12+1;omega) v'
theorem sN{w W:World}{ps hh b12 sz:Nat}{vk vv vc v':Value}{ks vs cs:List Nat}(gb:eX w W ps hh b12 vk vv vc sz)(rows:fN W (b12+2) vk vv vc ks vs cs)(h:FE W2 (b12+2) v' (cs++[x]))(hg:W.grownBy W2 vc.ownBlock)(hv:v'.ownBlock=vc.ownBlock\/∃g,v'.ownBlock=some g/\W.heap.size<=g):
 eX w (W2.setCell ⟨b12+1,2,none⟩ v') ps hh b12 vk vv v' sz/\fN (W2.setCell ⟨b12+1,2,none⟩ v') (b12+2) vk vv v' ks vs (cs++[x]):=by
 refine⟨(gb.grown hg fun g e=>(rows.c.ge g e).1).set2 v',?_⟩;have st:∀{v:Value} {l:List Nat},FE W2 (b12+2) v l->FE (W2.setCell ⟨b12+1,2,none⟩ v') (b12+2) v l:=fun hh=>hh.at fun g e=>mj (by have:=(hh.ge g e).1;show g≠b12+1;omega);have k1:∀{v:Value} {l:List Nat},FE W (b12+2) v l->(∀g,vc.ownBlock=some g->v.ownBlock≠some g)->FE W2 (b12+2) v l:=fun hh hn=>hh.at fun g e=>hg.block g (hh.ge g e).2 (fun e2=>hn g e2.symm e);have nw:∀{v:Value} {l:List Nat},FE W (b12+2) v l->(∀g,vc.ownBlock=some g->v.ownBlock≠some g)->∀g,v'.ownBlock=some g->v.ownBlock≠some g:=fun hh hn g e e2=>by
  exact qFdaa
 exact { k:=st (k1 rows.k (fun g e e2=>rows.kc g e2 e)),v:=st (k1 rows.v (fun g e e2=>rows.vc g e2 e)),c:=st h,kv:=rows.kv,kc:=fun g e e2=>nw rows.k (fun g e e2=>rows.kc g e2 e) g e2 e,vc:=fun g e e2=>nw rows.v (fun g e e2=>rows.vc g e2 e) g e2 e }
structure pr (w W:World) (ps hh:Nat):Prop where
 b3:W.heap[w.heap.size]?=some (.cells #[PV ps] 25 (0,0))
 b5:W.heap[w.heap.size+1]?=some (.cells #[.int .u64 hh] 83 (0,0))
 b6:W.heap[w.heap.size+1+1]?=some (.cells #[.slice none 0 0,.slice none 0 0,.slice none 0 0,.int .u64 0] 286 (0,0))
 b7:W.heap[w.heap.size+1+1+1]?=some (.cells #[.int .i64 0] 30 (0,0))
 below:Below w.heap.size w W
 size:W.heap.size=w.heap.size+4
theorem uz(w:World)(ps hh:Nat):pr w ((((w.alloc (.cells #[PV ps] 25)).alloc (.cells #[.int .u64 hh] 83)).alloc (.cells #[.slice none 0 0,.slice none 0 0,.slice none 0 0,.int .u64 0] 286)).alloc (.cells #[.int .i64 0] 30)) ps hh:=by
 have z1:(w.alloc (.cells #[PV ps] 25)).heap.size=w.heap.size+1:=by simp
 have z2:((w.alloc (.cells #[PV ps] 25)).alloc (.cells #[.int .u64 hh] 83)).heap.size=w.heap.size+2:=by simp
 have z3:(((w.alloc (.cells #[PV ps] 25)).alloc (.cells #[.int .u64 hh] 83)).alloc (.cells #[.slice none 0 0,.slice none 0 0,.slice none 0 0,.int .u64 0] 286)).heap.size=w.heap.size+3:=by simp
 have z4:((((w.alloc (.cells #[PV ps] 25)).alloc (.cells #[.int .u64 hh] 83)).alloc (.cells #[.slice none 0 0,.slice none 0 0,.slice none 0 0,.int .u64 0] 286)).alloc (.cells #[.int .i64 0] 30)).heap.size=w.heap.size+4:=by simp
 have B1:=(aa w.heap.size w).alloc Ih (.cells #[PV ps] 25);have q1:=heap_alloc_new w (.cells #[PV ps] 25);have q2:=heap_alloc_new (w.alloc (.cells #[PV ps] 25)) (.cells #[.int .u64 hh] 83);have q3:=heap_alloc_new ((w.alloc (.cells #[PV ps] 25)).alloc (.cells #[.int .u64 hh] 83)) (.cells #[.slice none 0 0,.slice none 0 0,.slice none 0 0,.int .u64 0] 286);have q4:=heap_alloc_new (((w.alloc (.cells #[PV ps] 25)).alloc (.cells #[.int .u64 hh] 83)).alloc (.cells #[.slice none 0 0,.slice none 0 0,.slice none 0 0,.int .u64 0] 286)) (.cells #[.int .i64 0] 30);rw[z1] at q2;rw[z2] at q3;rw[z3] at q4;generalize (w.alloc (.cells #[PV ps] 25))=w1 at*;have e2:=(aa w1.heap.size w1).alloc Ih (.cells #[.int .u64 hh] 83);generalize w1.alloc (.cells #[.int .u64 hh] 83)=w2 at*;have e3:=(aa w2.heap.size w2).alloc Ih (.cells #[.slice none 0 0,.slice none 0 0,.slice none 0 0,.int .u64 0] 286);generalize w2.alloc (.cells #[.slice none 0 0,.slice none 0 0,.slice none 0 0,.int .u64 0] 286)=w3 at*;have e4:=(aa w3.heap.size w3).alloc Ih (.cells #[.int .i64 0] 30);generalize w3.alloc (.cells #[.int .i64 0] 30)=w4 at*;have up:∀{a b:World} {k:Nat} {o:Obj},Below a.heap.size a b->a.heap[k]?=some o->b.heap[k]?=some o:=fun h e=>(h.block _ (gl e)).trans e;refine⟨up e4 (up e3 (up e2 q1)),up e4 (up e3 q2),up e4 q3,q4,?_,z4⟩;exact B1.trans ((e2.trans ((e3.trans (e4.mono (by omega))).mono (by omega))).mono (by omega))
theorem pr.six{w W:World}{ps hh:Nat}(h:pr w W ps hh)(sz:Nat):eX w ((W.alloc (.cells #[.func (.func 214) #[] #[PV w.heap.size,PV (w.heap.size+1)]] 219)).alloc (.cells #[.slice none 0 0,.slice none 0 0,.slice none 0 0,.int .u64 sz] 286)) ps hh W.heap.size (.slice none 0 0) (.slice none 0 0) (.slice none 0 0) sz:=by
 have q5:=heap_alloc_new W (.cells #[.func (.func 214) #[] #[PV w.heap.size,PV (w.heap.size+1)]] 219);have q6:=heap_alloc_new (W.alloc (.cells #[.func (.func 214) #[] #[PV w.heap.size,PV (w.heap.size+1)]] 219)) (.cells #[.slice none 0 0,.slice none 0 0,.slice none 0 0,.int .u64 sz] 286);have z5:(W.alloc (.cells #[.func (.func 214) #[] #[PV w.heap.size,PV (w.heap.size+1)]] 219)).heap.size=W.heap.size+1:=by simp
 have z6:((W.alloc (.cells #[.func (.func 214) #[] #[PV w.heap.size,PV (w.heap.size+1)]] 219)).alloc (.cells #[.slice none 0 0,.slice none 0 0,.slice none 0 0,.int .u64 sz] 286)).heap.size=W.heap.size+2:=by simp
 rw[z5] at q6;have e5:=(aa W.heap.size W).alloc Ih (.cells #[.func (.func 214) #[] #[PV w.heap.size,PV (w.heap.size+1)]] 219);generalize W.alloc (.cells #[.func (.func 214) #[] #[PV w.heap.size,PV (w.heap.size+1)]] 219)=w5 at*;have e6:=(aa w5.heap.size w5).alloc Ih (.cells #[.slice none 0 0,.slice none 0 0,.slice none 0 0,.int .u64 sz] 286);generalize w5.alloc (.cells #[.slice none 0 0,.slice none 0 0,.slice none 0 0,.int .u64 sz] 286)=w6 at*;have hz:=h.size;have up:∀{a b:World} {k:Nat} {o:Obj},Below a.heap.size a b->a.heap[k]?=some o->b.heap[k]?=some o:=fun h e=>(h.block _ (gl e)).trans e;exact⟨up e6 (up e5 h.b3),up e6 (up e5 h.b5),up e6 (up e5 h.b6),up e6 (up e5 h.b7),up e6 q5,q6,h.below.trans ((e5.trans (e6.mono (by omega))).mono (by omega)),by omega,hz⟩