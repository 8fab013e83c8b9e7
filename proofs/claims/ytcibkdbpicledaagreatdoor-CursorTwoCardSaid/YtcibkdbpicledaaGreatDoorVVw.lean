/- Nodes of B-trees: the boxes of Get. -/
import Derived.Test.YtcibkdbpicledaaGreatDoorVFa
import Derived.Sort.CutIn
import Derived.Shelf.Spec.SlicesInsertGrow
import Derived.Test.YtcibkdbpicledaaGreatDoorVVb
set_option maxRecDepth 100000
set_option maxHeartbeats 6400000
namespace Go.Proofs.YtcibkdbpicledaaGreatDoor
section
open Go.RowKit Tryz Go.BigFrame Go.Maps Go.WideMaps Lf
open Go.Shelf
variable{D:Nat}{S:St}{W2:World}{l:List Nat}{n:BN}{v:Value}{w:World}{x:Nat}
attribute [local go_sem] Oper.semAt_some
structure eX (w W:World) (ps hh b12:Nat) (vk vv vc:Value) (sz:Nat):Prop where
 b3:W.heap[w.heap.size]?=some (.cells #[PV ps] 25 (0,0))
 b5:W.heap[w.heap.size+1]?=some (.cells #[Xu hh] 83 (0,0))
 b6:W.heap[w.heap.size+1+1]?=some (.cells #[.slice none 0 0,.slice none 0 0,.slice none 0 0,Xu 0] 286 (0,0))
 b7:W.heap[w.heap.size+1+1+1]?=some (.cells #[Xi 0] 30 (0,0))
 k12:W.heap[b12]?=some (.cells #[.func (.func 214) #[] #[PV w.heap.size,PV (w.heap.size+1)]] 219 (0,0))
 k13:W.heap[b12+1]?=some (.cells #[vk,vv,vc,Xu sz] 286 (0,0))
 below:Below w.heap.size w W
 size:b12+2<=W.heap.size
 at12:b12=w.heap.size+4
structure fN (W:World) (D:Nat) (vk vv vc:Value) (ks vs cs:List Nat):Prop where
 k:FE W D vk ks
 v:FE W D vv vs
 c:FE W D vc cs
 kv:∀g,vk.ownBlock=some g->vv.ownBlock≠some g
 kc:∀g,vk.ownBlock=some g->vc.ownBlock≠some g
 vc:∀g,vv.ownBlock=some g->vc.ownBlock≠some g
theorem kE{P:Program}{o:Oper}{a:Act}{w w':World}{K:Act->World->Prop}{Q:Exit->Act->World->Prop}{v xv v':Value}(s x:Operand)(t:TypeId)
 (ho:o.op=.call { callee:=.builtin .append,args:=#[s,x],argTypes:=#[t,t] }) (hs:a.eval s=v) (hx:a.eval x=xv)
 (hr:(Builtin.append_ #[t,t] o.type #[v,xv]).run P w=.ok v' w') (h:K (a.put o.dst v') w'):Oper.wp P o a w K Q:=by
 unfold Oper.wp execOp;simp only[ho,resolve,invoke,builtin,Sem.run_bind,Sem.run_pure,Result.andThen_ok,List.map_toArray,aN,List.map_nil,hs,hx,hr];exact h
theorem FE.at{w w':World}(h:FE w D v l)(e:∀g,v.ownBlock=some g->w'.heap[g]?=w.heap[g]?):FE w' D v l:=by
 refine⟨h.1,?_⟩
 rcases h.2 with hn | ⟨g,ad,ai,rfl,hb,al,rest⟩
 ·exact .inl hn
 ·exact .inr ⟨g,ad,ai,rfl,hb,(e g rfl).trans al,rest⟩
theorem FE.slice(h:FE w D v l):∃A m c,v=.slice A m c:=by
 rcases h.2 with⟨rfl,_⟩ | ⟨g,ad,ai,rfl,_⟩
 ·exact⟨_,_,_,rfl⟩
 ·exact⟨_,_,_,rfl⟩
theorem FE.ge(h:FE w D v l):∀g,v.ownBlock=some g->D<=g/\g<w.heap.size:=World.ownsRow.lt h
theorem FE.slice2(h:FE w D v l):∃A c,v=.slice A l.length c:=by
 rcases h.2 with⟨rfl,e⟩ | ⟨g,ad,ai,rfl,_⟩
 ·exact⟨none,0,by rw[e]⟩
 ·exact⟨_,_,rfl⟩
theorem FE.hrow(h:FE w D v l):FD w v l:=by
 rcases h.2 with⟨rfl,e⟩ | ⟨g,ad,ai,e,_⟩
 ·exact⟨none,0,by rw[e],fun i hi=>absurd hi (by omega)⟩
 ·refine⟨_,_,e,fun i hi=>⟨g,0,rfl,?_⟩⟩;have:=World.ownsRow.cells h (g:=g) (by rw[e];rfl) i (Xu (l[i]:Nat)) (by simp[hV,hi]);rw[Addr.add_lit] at this
  simpa using this
theorem Below.grownBy{w w':World}(h:Below w.heap.size w w')(row:Option Nat):w.grownBy w' row:=⟨h.os,h.tape,h.output,h.size,fun k hk _=>h.block k hk⟩
theorem fN.below{W W':World}{vk vv vc:Value}{ks vs cs:List Nat}(h:fN W D vk vv vc ks vs cs)(hb:Below W.heap.size W W'):fN W' D vk vv vc ks vs cs:=
 ⟨h.k.at fun g e=>hb.block g (h.k.ge g e).2,h.v.at fun g e=>hb.block g (h.v.ge g e).2,h.c.at fun g e=>hb.block g (h.c.ge g e).2,h.kv,h.kc,h.vc⟩
theorem Be{t hh:Nat}(hn:iU t n)(hlen:S.len hh=(6*t,0))(hg:∀k,k<6*t->S.get hh k=(wAt t n n.keys.length n.kids.length k,0))(k:Nat):(S.get hh k).1=wAt t n n.keys.length n.kids.length k:=by
 by_cases hk:k<6*t
 ·rw[hg k hk]
 ·have h1:=hn.many;have h2:n.kids.length<=n.keys.length+1:=by rcases hn.kids with h | h<;>omega
  have h3:=hn.lo;unfold wAt;rw[if_neg (by omega),if_neg (by omega),if_neg (by omega),if_neg (by omega)];unfold St.len at hlen;unfold St.get
  rcases S.at_cases hh with⟨a,m,e,_⟩ | ⟨e,_⟩
  ·rw[e] at hlen⊢;have:m=6*t:=(Prod.mk.inj hlen).1;simp only;rw[if_neg (by omega)]
  ·rw[e]
   rfl
theorem oZ{b:Nat}{v0 v1 v2 v3 u0 u1 u2 u3:Value}{ty:TypeId}{fr:Nat×Nat}(h:w.heap[b]?=some (.cells #[v0,v1,v2,v3] ty fr)):((((w.setCell ⟨b,0,none⟩ (u0)).setCell ⟨b,1,none⟩ (u1)).setCell ⟨b,2,none⟩ (u2)).setCell ⟨b,3,none⟩ (u3)).heap[b]?=some (.cells #[u0,u1,u2,u3] ty fr):=by
 have h1:=heap_setCell (i:=0) (v:=u0) h;have h2:=heap_setCell (i:=1) (v:=u1) h1;have h3:=heap_setCell (i:=2) (v:=u2) h2;exact heap_setCell (i:=3) (v:=u3) h3
theorem sy{b k:Nat}{u0 u1 u2 u3:Value}(hk:k≠b):((((w.setCell ⟨b,0,none⟩ (u0)).setCell ⟨b,1,none⟩ (u1)).setCell ⟨b,2,none⟩ (u2)).setCell ⟨b,3,none⟩ (u3)).heap[k]?=w.heap[k]?:=by
 rw[FB hk,FB hk,FB hk,FB hk]
theorem oY{w w0:World}{n b:Nat}{u0 u1 u2 u3:Value}(h:Below n w0 w)(hb:n<=b):Below n w0 ((((w.setCell ⟨b,0,none⟩ (u0)).setCell ⟨b,1,none⟩ (u1)).setCell ⟨b,2,none⟩ (u2)).setCell ⟨b,3,none⟩ (u3)):=
 (((h.setCell (p:=⟨b,0,none⟩) hb u0).setCell (p:=⟨b,1,none⟩) hb u1).setCell (p:=⟨b,2,none⟩) hb u2).setCell (p:=⟨b,3,none⟩) hb u3
theorem fN.lift{W W':World}{D D':Nat}{vk vv vc:Value}{ks vs cs:List Nat}(h:fN W D vk vv vc ks vs cs)(hD:D'<=D)(e:∀g,D<=g->g<W.heap.size->W'.heap[g]?=W.heap[g]?):fN W' D' vk vv vc ks vs cs:=by
 have low:∀{v:Value} {l:List Nat},FE W D v l->FE W' D' v l:=fun hh=>by
  have:=hh.at (w':=W') fun g q=>e g (hh.ge g q).1 (hh.ge g q).2;refine⟨this.1,?_⟩
  rcases this.2 with hn | ⟨g,ad,ai,rfl,hb,rest⟩
  ·exact .inl hn
  ·exact .inr ⟨g,ad,ai,rfl,aO hD hb,rest⟩
 exact⟨low h.k,low h.v,low h.c,h.kv,h.kc,h.vc⟩
theorem dY{p:Addr}{x:Value}{k:Nat}(hk:k≠p.block):(w.setCell p x).heap[k]?=w.heap[k]?:=dr w p x k hk
theorem eX.drew{w W:World}{ps hh b12 sz:Nat}{vk vv vc:Value}(h:eX w W ps hh b12 vk vv vc sz):eX w W.drew ps hh b12 vk vv vc sz:=⟨h.b3,h.b5,h.b6,h.b7,h.k12,h.k13,h.below.drew,h.size,h.at12⟩
theorem fN.drew{W:World}{vk vv vc:Value}{ks vs cs:List Nat}(h:fN W D vk vv vc ks vs cs):fN W.drew D vk vv vc ks vs cs:=⟨h.k,h.v,h.c,h.kv,h.kc,h.vc⟩
theorem eX.grown{w W W2:World}{ps hh b12 sz:Nat}{vk vv vc:Value}{row:Option Nat}(h:eX w W ps hh b12 vk vv vc sz)(hg:W.grownBy W2 row)(hr:∀g,row=some g->b12+2<=g):eX w W2 ps hh b12 vk vv vc sz:=by
 have e:∀k,k<b12+2->W2.heap[k]?=W.heap[k]?:=fun k hk=>hg.block k (by have:=h.size;omega) (fun e=>by have:=hr k e.symm;omega);have ha:=h.at12;exact⟨(e _ (by omega)).trans h.b3,(e _ (by omega)).trans h.b5,(e _ (by omega)).trans h.b6,(e _ (by omega)).trans h.b7,(e _ (by omega)).trans h.k12,(e _ (by omega)).trans h.k13,
  h.below.trans ⟨hg.os,hg.tape,hg.output,hg.size,fun k hk=>e k (by omega)⟩,aO h.size hg.size,ha⟩
theorem eX.up{w W W2:World}{ps hh b12 sz:Nat}{vk vv vc:Value}(h:eX w W ps hh b12 vk vv vc sz)(hb:Below W.heap.size W W2):eX w W2 ps hh b12 vk vv vc sz:=h.grown (row:=none) (Below.grownBy hb none) fun _ e=>nomatch e
theorem eX.set0{w W:World}{ps hh b12 sz:Nat}{vk vv vc:Value}(h:eX w W ps hh b12 vk vv vc sz)(v':Value):eX w (W.setCell ⟨b12+1,0,none⟩ v') ps hh b12 v' vv vc sz:=by
 have e:∀k,k≠b12+1->(W.setCell ⟨b12+1,0,none⟩ v').heap[k]?=W.heap[k]?:=fun k hk=>dY hk;have ha:=h.at12;have hz:(W.setCell ⟨b12+1,0,none⟩ v').heap.size=W.heap.size:=World.size_setCell _ _ _;have q:=heap_setCell (i:=0) (v:=v') h.k13;refine⟨(e _ (by omega)).trans h.b3,(e _ (by omega)).trans h.b5,(e _ (by omega)).trans h.b6,(e _ (by omega)).trans h.b7,(e _ (by omega)).trans h.k12,by simpa using q,?_,by rw[hz];exact h.size,ha⟩;exact h.below.setCell (p:=⟨b12+1,0,none⟩) (by show w.heap.size<=b12+1;omega) v'
theorem qVwab{P:Prop}(h:P:=by
 rcases hv with hv | ⟨g',e',hl⟩
 ·exact hn g (hv▸e) e2
 ·have:=(hh.ge g e2).2;rw[e] at e'
  cases e'
  omega):P:=h
theorem sK{w W:World}{ps hh b12 sz:Nat}{vk vv vc v':Value}{ks vs cs:List Nat}(gb:eX w W ps hh b12 vk vv vc sz)(rows:fN W (b12+2) vk vv vc ks vs cs)(h:FE W2 (b12+2) v' (ks++[x]))(hg:W.grownBy W2 vk.ownBlock)(hv:v'.ownBlock=vk.ownBlock\/∃g,v'.ownBlock=some g/\W.heap.size<=g):
 eX w (W2.setCell ⟨b12+1,0,none⟩ v') ps hh b12 v' vv vc sz/\fN (W2.setCell ⟨b12+1,0,none⟩ v') (b12+2) v' vv vc (ks++[x]) vs cs:=by
 refine⟨(gb.grown hg fun g e=>(rows.k.ge g e).1).set0 v',?_⟩;have st:∀{v:Value} {l:List Nat},FE W2 (b12+2) v l->FE (W2.setCell ⟨b12+1,0,none⟩ v') (b12+2) v l:=fun hh=>hh.at fun g e=>dY (by have:=(hh.ge g e).1;show g≠b12+1;omega);have k1:∀{v:Value} {l:List Nat},FE W (b12+2) v l->(∀g,vk.ownBlock=some g->v.ownBlock≠some g)->FE W2 (b12+2) v l:=fun hh hn=>hh.at fun g e=>hg.block g (hh.ge g e).2 (fun e2=>hn g e2.symm e);have nw:∀{v:Value} {l:List Nat},FE W (b12+2) v l->(∀g,vk.ownBlock=some g->v.ownBlock≠some g)->∀g,v'.ownBlock=some g->v.ownBlock≠some g:=fun hh hn g e e2=>by
  exact qVwab
 exact { k:=st h,v:=st (k1 rows.v (rows.kv)),c:=st (k1 rows.c (rows.kc)),kv:=nw rows.v (rows.kv),kc:=nw rows.c (rows.kc),vc:=rows.vc }
theorem eX.set1{w W:World}{ps hh b12 sz:Nat}{vk vv vc:Value}(h:eX w W ps hh b12 vk vv vc sz)(v':Value):eX w (W.setCell ⟨b12+1,1,none⟩ v') ps hh b12 vk v' vc sz:=by
 have e:∀k,k≠b12+1->(W.setCell ⟨b12+1,1,none⟩ v').heap[k]?=W.heap[k]?:=fun k hk=>dY hk;have ha:=h.at12;have hz:(W.setCell ⟨b12+1,1,none⟩ v').heap.size=W.heap.size:=World.size_setCell _ _ _;have q:=heap_setCell (i:=1) (v:=v') h.k13;refine⟨(e _ (by omega)).trans h.b3,(e _ (by omega)).trans h.b5,(e _ (by omega)).trans h.b6,(e _ (by omega)).trans h.b7,(e _ (by omega)).trans h.k12,by simpa using q,?_,by rw[hz];exact h.size,ha⟩;exact h.below.setCell (p:=⟨b12+1,1,none⟩) (by show w.heap.size<=b12+1;omega) v'
theorem sL{w W:World}{ps hh b12 sz:Nat}{vk vv vc v':Value}{ks vs cs:List Nat}(gb:eX w W ps hh b12 vk vv vc sz)(rows:fN W (b12+2) vk vv vc ks vs cs)(h:FE W2 (b12+2) v' (vs++[x]))(hg:W.grownBy W2 vv.ownBlock)(hv:v'.ownBlock=vv.ownBlock\/∃g,v'.ownBlock=some g/\W.heap.size<=g):
 eX w (W2.setCell ⟨b12+1,1,none⟩ v') ps hh b12 vk v' vc sz/\fN (W2.setCell ⟨b12+1,1,none⟩ v') (b12+2) vk v' vc ks (vs++[x]) cs:=by
 refine⟨(gb.grown hg fun g e=>(rows.v.ge g e).1).set1 v',?_⟩;have st:∀{v:Value} {l:List Nat},FE W2 (b12+2) v l->FE (W2.setCell ⟨b12+1,1,none⟩ v') (b12+2) v l:=fun hh=>hh.at fun g e=>dY (by have:=(hh.ge g e).1;show g≠b12+1;omega);have k1:∀{v:Value} {l:List Nat},FE W (b12+2) v l->(∀g,vv.ownBlock=some g->v.ownBlock≠some g)->FE W2 (b12+2) v l:=fun hh hn=>hh.at fun g e=>hg.block g (hh.ge g e).2 (fun e2=>hn g e2.symm e);have nw:∀{v:Value} {l:List Nat},FE W (b12+2) v l->(∀g,vv.ownBlock=some g->v.ownBlock≠some g)->∀g,v'.ownBlock=some g->v.ownBlock≠some g:=fun hh hn g e e2=>by
  exact qVwab
 exact { k:=st (k1 rows.k (fun g e e2=>rows.kv g e2 e)),v:=st h,c:=st (k1 rows.c (rows.vc)),kv:=fun g e e2=>nw rows.k (fun g e e2=>rows.kv g e2 e) g e2 e,kc:=rows.kc,vc:=nw rows.c (rows.vc) }
theorem eX.set2{w W:World}{ps hh b12 sz:Nat}{vk vv vc:Value}(h:eX w W ps hh b12 vk vv vc sz)(v':Value):eX w (W.setCell ⟨b12+1,2,none⟩ v') ps hh b12 vk vv v' sz:=by
 have e:∀k,k≠b12+1->(W.setCell ⟨b12+1,2,none⟩ v').heap[k]?=W.heap[k]?:=fun k hk=>dY hk;have ha:=h.at12;have hz:(W.setCell ⟨b12+1,2,none⟩ v').heap.size=W.heap.size:=World.size_setCell _ _ _;have q:=heap_setCell (i:=2) (v:=v') h.k13;refine⟨(e _ (by omega)).trans h.b3,(e _ (by omega)).trans h.b5,(e _ (by omega)).trans h.b6,(e _ (by omega)).trans h.b7,(e _ (by omega)).trans h.k12,by simpa using q,?_,by rw[hz];exact h.size,ha⟩;exact h.below.setCell (p:=⟨b12+1,2,none⟩) (by show w.heap.size<=b12+1;omega) v'
theorem sN{w W:World}{ps hh b12 sz:Nat}{vk vv vc v':Value}{ks vs cs:List Nat}(gb:eX w W ps hh b12 vk vv vc sz)(rows:fN W (b12+2) vk vv vc ks vs cs)(h:FE W2 (b12+2) v' (cs++[x]))(hg:W.grownBy W2 vc.ownBlock)(hv:v'.ownBlock=vc.ownBlock\/∃g,v'.ownBlock=some g/\W.heap.size<=g):
 eX w (W2.setCell ⟨b12+1,2,none⟩ v') ps hh b12 vk vv v' sz/\fN (W2.setCell ⟨b12+1,2,none⟩ v') (b12+2) vk vv v' ks vs (cs++[x]):=by
 refine⟨(gb.grown hg fun g e=>(rows.c.ge g e).1).set2 v',?_⟩;have st:∀{v:Value} {l:List Nat},FE W2 (b12+2) v l->FE (W2.setCell ⟨b12+1,2,none⟩ v') (b12+2) v l:=fun hh=>hh.at fun g e=>dY (by have:=(hh.ge g e).1;show g≠b12+1;omega);have k1:∀{v:Value} {l:List Nat},FE W (b12+2) v l->(∀g,vc.ownBlock=some g->v.ownBlock≠some g)->FE W2 (b12+2) v l:=fun hh hn=>hh.at fun g e=>hg.block g (hh.ge g e).2 (fun e2=>hn g e2.symm e);have nw:∀{v:Value} {l:List Nat},FE W (b12+2) v l->(∀g,vc.ownBlock=some g->v.ownBlock≠some g)->∀g,v'.ownBlock=some g->v.ownBlock≠some g:=fun hh hn g e e2=>by
  exact qVwab
 exact { k:=st (k1 rows.k (fun g e e2=>rows.kc g e2 e)),v:=st (k1 rows.v (fun g e e2=>rows.vc g e2 e)),c:=st h,kv:=rows.kv,kc:=fun g e e2=>nw rows.k (fun g e e2=>rows.kc g e2 e) g e2 e,vc:=fun g e e2=>nw rows.v (fun g e e2=>rows.vc g e2 e) g e2 e }
structure pr (w W:World) (ps hh:Nat):Prop where
 b3:W.heap[w.heap.size]?=some (.cells #[PV ps] 25 (0,0))
 b5:W.heap[w.heap.size+1]?=some (.cells #[Xu hh] 83 (0,0))
 b6:W.heap[w.heap.size+1+1]?=some (.cells #[.slice none 0 0,.slice none 0 0,.slice none 0 0,Xu 0] 286 (0,0))
 b7:W.heap[w.heap.size+1+1+1]?=some (.cells #[Xi 0] 30 (0,0))
 below:Below w.heap.size w W
 size:W.heap.size=w.heap.size+4
theorem uz(w:World)(ps hh:Nat):pr w ((((w.alloc (Xk ps)).alloc (Xh hh)).alloc (.cells #[.slice none 0 0,.slice none 0 0,.slice none 0 0,Xu 0] 286)).alloc (.cells #[Xi 0] 30)) ps hh:=by
 have z1:(w.alloc (Xk ps)).heap.size=w.heap.size+1:=by simp
 have z2:((w.alloc (Xk ps)).alloc (Xh hh)).heap.size=w.heap.size+2:=by simp
 have z3:(((w.alloc (Xk ps)).alloc (Xh hh)).alloc (.cells #[.slice none 0 0,.slice none 0 0,.slice none 0 0,Xu 0] 286)).heap.size=w.heap.size+3:=by simp
 have z4:((((w.alloc (Xk ps)).alloc (Xh hh)).alloc (.cells #[.slice none 0 0,.slice none 0 0,.slice none 0 0,Xu 0] 286)).alloc (.cells #[Xi 0] 30)).heap.size=w.heap.size+4:=by simp
 have B1:=(aa w.heap.size w).alloc Ih (Xk ps);have q1:=heap_alloc_new w (Xk ps);have q2:=heap_alloc_new (w.alloc (Xk ps)) (Xh hh);have q3:=heap_alloc_new ((w.alloc (Xk ps)).alloc (Xh hh)) (.cells #[.slice none 0 0,.slice none 0 0,.slice none 0 0,Xu 0] 286);have q4:=heap_alloc_new (((w.alloc (Xk ps)).alloc (Xh hh)).alloc (.cells #[.slice none 0 0,.slice none 0 0,.slice none 0 0,Xu 0] 286)) (.cells #[Xi 0] 30);rw[z1] at q2;rw[z2] at q3;rw[z3] at q4;generalize (w.alloc (Xk ps))=w1 at*;have e2:=(aa w1.heap.size w1).alloc Ih (Xh hh);generalize w1.alloc (Xh hh)=w2 at*;have e3:=(aa w2.heap.size w2).alloc Ih (.cells #[.slice none 0 0,.slice none 0 0,.slice none 0 0,Xu 0] 286);generalize w2.alloc (.cells #[.slice none 0 0,.slice none 0 0,.slice none 0 0,Xu 0] 286)=w3 at*;have e4:=(aa w3.heap.size w3).alloc Ih (.cells #[Xi 0] 30);generalize w3.alloc (.cells #[Xi 0] 30)=w4 at*;have up:∀{a b:World} {k:Nat} {o:Obj},Below a.heap.size a b->a.heap[k]?=some o->b.heap[k]?=some o:=fun h e=>(h.block _ (gl e)).trans e;refine⟨up e4 (up e3 (up e2 q1)),up e4 (up e3 q2),up e4 q3,q4,?_,z4⟩;exact B1.trans ((e2.trans ((e3.trans (e4.mono (by omega))).mono (by omega))).mono (by omega))
theorem pr.six{w W:World}{ps hh:Nat}(h:pr w W ps hh)(sz:Nat):eX w ((W.alloc (.cells #[.func (.func 214) #[] #[PV w.heap.size,PV (w.heap.size+1)]] 219)).alloc (Xm sz)) ps hh W.heap.size (.slice none 0 0) (.slice none 0 0) (.slice none 0 0) sz:=by
 have q5:=heap_alloc_new W (.cells #[.func (.func 214) #[] #[PV w.heap.size,PV (w.heap.size+1)]] 219);have q6:=heap_alloc_new (W.alloc (.cells #[.func (.func 214) #[] #[PV w.heap.size,PV (w.heap.size+1)]] 219)) (Xm sz);have z5:(W.alloc (.cells #[.func (.func 214) #[] #[PV w.heap.size,PV (w.heap.size+1)]] 219)).heap.size=W.heap.size+1:=by simp
 have z6:((W.alloc (.cells #[.func (.func 214) #[] #[PV w.heap.size,PV (w.heap.size+1)]] 219)).alloc (Xm sz)).heap.size=W.heap.size+2:=by simp
 rw[z5] at q6;have e5:=(aa W.heap.size W).alloc Ih (.cells #[.func (.func 214) #[] #[PV w.heap.size,PV (w.heap.size+1)]] 219);generalize W.alloc (.cells #[.func (.func 214) #[] #[PV w.heap.size,PV (w.heap.size+1)]] 219)=w5 at*;have e6:=(aa w5.heap.size w5).alloc Ih (Xm sz);generalize w5.alloc (Xm sz)=w6 at*;have hz:=h.size;have up:∀{a b:World} {k:Nat} {o:Obj},Below a.heap.size a b->a.heap[k]?=some o->b.heap[k]?=some o:=fun h e=>(h.block _ (gl e)).trans e;exact⟨up e6 (up e5 h.b3),up e6 (up e5 h.b5),up e6 (up e5 h.b6),up e6 (up e5 h.b7),up e6 q5,q6,h.below.trans ((e5.trans (e6.mono (by omega))).mono (by omega)),by omega,hz⟩
attribute [local go_sem] Oper.semAt_some
theorem zE{ps:Nat}{Y:Nat->Prop}(h:Ig w ps S Y)(hi:Fv S){t:Nat}(hn:iU t n)(hh:Nat)(hl:hh<2^64)(hlen:S.len hh=(6*t,0))(hg:∀k,k<6*t->S.get hh k=(wAt t n n.keys.length n.kids.length k,0))(hlt:∀x∈bnWords t n,x<2^64):
 Ct 195 #[PV ps,Xi t,Xu hh] w fun e w'=>∃vk vv vc,e=.returned (.tuple #[eC vk vv vc n.size,Xi 0])/\fN w' w.heap.size vk vv vc n.keys n.vals n.kids/\Below w.heap.size w w':=by
 refine(callsIn_wide (n:=7)).1 ?_;have h1:1<=7:=by omega
 have d9:Fence.wide.fn 85:=trivial;have d8:Fence.wide.fn 176:=trivial;have d6:Fence.wide.fn 215:=trivial;have d':Fence.wide.fn 216:=trivial;have d7:Fence.wide.fn 214:=trivial;have d5:∀(args:Array Value) (w:World),(callFunc 214 args).run prog w=.ok (.enter 214 args) w:=fun args w=>by go_simp
 have bk:∀W,Below w.heap.size w W->CallsIn Fence.wide 6 prog 85 #[PV ps,Xu 0] W _:=fun W hW=>callsIn_wide.2 (fB (h.below hW) hi 0 (by omega));have a3:∀W,Below w.heap.size w W->CallsIn Fence.wide 6 prog 85 #[PV ps,Xu hh] W _:=fun W hW=>callsIn_wide.2 (fB (h.below hW) hi hh hl);rw[fU] at bk;rw[hlen] at a3;have b':∀W,CallsIn Fence.wide 6 prog 176 #[Xi t] W _:=fun W=>callsIn_wide.2 (om hn.lo hn.hi▸nP (t:Int) W);have a2:∀W,Below w.heap.size w W->W.heap[w.heap.size]?=some (.cells #[PV ps] 25 (0,0))->W.heap[w.heap.size+1]?=some (.cells #[Xu hh] 83 (0,0))->∀(k:Nat) (_:k<=1000),Ct 214 #[Xi k,PV w.heap.size,PV (w.heap.size+1)] W fun e w'=>e=.returned (Xu (wAt t n n.keys.length n.kids.length k:Nat))/\W=w':=fun W hW e3 e5 k hk=>
  zD (h.below hW) hi hh hl (by rw[cell_of_block e3];rfl) (by rw[cell_of_block e5];rfl) k (by omega) (Be hn hlen hg k)
 have ht:=And.intro hn.lo hn.hi;have ek:IntKind.i64.wrap (6*(t:Int))=6*(t:Int):=aD _ (by omega);have cs:((6*t:Nat):Int)=6*(t:Int):=by omega
 simp only at bk a3;rw[cs] at a3;obtain⟨kn,a1⟩:=Ii n.keys.length;obtain⟨cn,ba⟩:=Ii n.kids.length;obtain⟨sz,au⟩:=Ii n.size;have ca:kn<=2*t-1:=by rw[<-a1];exact hn.many
 have d3:cn=0\/cn=kn+1:=by rw[<-a1,<-ba];exact hn.kids.imp id And.left
 have ec:kn<2^64:=by omega
 rw[a1,ba] at a2;have g0:wAt t n kn cn 0=kn:=by unfold wAt;rw[if_pos rfl,a1]
 have g1:wAt t n kn cn 1=sz:=by unfold wAt;rw[if_neg (by omega),if_pos rfl,au]
 have six:=uz w ps hh;have bv:=fun W (hW:Below w.heap.size w W) e3 e5=>callsIn_wide (n:=6) |>.2 (a2 W hW e3 e5 0 (by omega))
 have b0:=fun W (hW:Below w.heap.size w W) e3 e5=>callsIn_wide (n:=6) |>.2 (a2 W hW e3 e5 1 (by omega))
 rw[g0] at bv;rw[g1] at b0;have HG:=kq13 bk a3 b' bv b0 a2 h hi hn a1 ba au hlt;clear bk a3 b' bv b0 a2 h hi hn a1 ba au hlt hg hlen g0 g1;refine callsIn_of_wp_marks func195 rfl trivial ?_ rfl;simp only[ntmps195,bq,av,aL,Nat.reduceAdd,Nat.reduceSub,aX,aY,bw,bg,aW,aP];gi_wp2_with fail;generalize ((((w.alloc (Xk ps)).alloc (Xh hh)).alloc (.cells #[.slice none 0 0,.slice none 0 0,.slice none 0 0,Xu 0] 286)).alloc (.cells #[Xi 0] 30))=w4 at*;have e3:=six.b3;have e5:=six.b5;have x0:(w4).cell? ⟨w.heap.size,0,none⟩=some (PV ps):=by rw[cell_of_block e3];rfl
 have y0:(w4).cell? ⟨w.heap.size+1,0,none⟩=some (Xu hh):=by rw[cell_of_block e5];rfl
 have S4:=If six;clear e3 e5 six;refine(HG.a _ S4.out.below).mono ?_;rintro e w5 ⟨rfl,rfl⟩;gi_wp2_with fail;refine(HG.c _).mono ?_;rintro e w5 ⟨rfl,rfl⟩;gi_wp2_with fail;refine(HG.b _ S4.out.below).mono ?_;rintro e w5 ⟨rfl,rfl⟩;gi_wp2_with fail;have a5:=(aa w4.heap.size w4).alloc Ih (.cells #[.func (.func 214) #[] #[PV w.heap.size,PV (w.heap.size+1)]] 219);have z4:=S4.out.size;have f3:=(a5.block w.heap.size (by omega)).trans S4.out.b3;have f5:=(a5.block (w.heap.size+1) (by omega)).trans S4.out.b5;have S5:=kq3 (S4.out.below.trans (a5.mono (by omega))) f3 f5;have b2:=heap_alloc_new w4 (.cells #[.func (.func 214) #[] #[PV w.heap.size,PV (w.heap.size+1)]] 219);have k12:(w4.alloc (.cells #[.func (.func 214) #[] #[PV w.heap.size,PV (w.heap.size+1)]] 219)).cell? ⟨w4.heap.size,0,none⟩=some (.func (.func 214) #[] #[PV w.heap.size,PV (w.heap.size+1)]):=by rw[cell_of_block b2];rfl
 clear a5 f3 f5 b2 x0 y0 z4;refine(HG.d _ S5.a S5.b S5.c).mono ?_;rintro e w5 ⟨rfl,rfl⟩;have q1:((2*(t:Int)-1)<(kn:Int))=False:=eq_false (by omega);have q2:IntKind.u64.wrap (2*(t:Int)-1)=2*(t:Int)-1:=by show (2*(t:Int)-1) % 18446744073709551616=_;omega
 gi_wp2_with fail;refine(HG.e _ S5.a S5.b S5.c).mono ?_;rintro e w5 ⟨rfl,rfl⟩;gi_wp2_with fail;clear k12 q1 q2;have six:=S4.out.six sz;generalize (w4.alloc (.cells #[.func (.func 214) #[] #[PV w.heap.size,PV (w.heap.size+1)]] 219)).alloc (Xm sz)=w6 at*;generalize w4.heap.size=b12 at*;have S6:=If six;have k12:=cell_of_block (o:=0) six.k12;have k12:w6.cell? ⟨b12,0,none⟩=some (.func (.func 214) #[] #[PV w.heap.size,PV (w.heap.size+1)]):=k12;clear six;refine(HG.d _ S6.out.below S6.out.b3 S6.out.b5).mono ?_;rintro e w5 ⟨rfl,rfl⟩;have q3:IntKind.i64.wrap (kn:Int)=(kn:Int):=aD _ (by omega);gi_wp2_with fail;clear k12 q3
 gi_loopw [14,63] (fun _ i wr=>∃j:Nat,j<=kn/\i=Xi j/\∃vk vv,eX w wr ps hh b12 vk vv (.slice none 0 0) sz/\fN wr (b12+2) vk vv (.slice none 0 0) (n.keys.take j) (n.vals.take j) []) (fun _ i _=>kn-(intOf i).toNat)
 case atStart=>
  refine⟨0,by omega,rfl,.slice none 0 0,.slice none 0 0,S6.out,?_⟩;exact { k:=World.ownsRow_nil _ _ _ _,v:=World.ownsRow_nil _ _ _ _,c:=World.ownsRow_nil _ _ _ _,kv:=fun g e=>(nomatch e),kc:=fun g e=>(nomatch e),vc:=fun g e=>(nomatch e) }
 case round=>
  obtain⟨j,hj,rfl,vk,vv,gb,rows⟩:=hrel
  by_cases hlt:j<kn
  ·have eg:(j:Int)<kn:=by omega
   have jk:j<n.keys.length:=by rw[HG.j];exact hlt
   have jv:j<n.vals.length:=by rw[HG.i.vals];exact jk
   have gk:wAt t n kn cn (2+2*j)=n.keys[j]:=by
    unfold wAt;rw[if_neg (by omega),if_neg (by omega),if_pos (by omega),if_pos (by omega),show (2+2*j-2) / 2=j by omega,am,af jk]
    rfl
   have gv:wAt t n kn cn (2+2*j+1)=n.vals[j]:=by
    unfold wAt;rw[if_neg (by omega),if_neg (by omega),if_pos (by omega),if_neg (by omega),show (2+2*j+1-2) / 2=j by omega,am,af jv]
    rfl
   have tk:n.keys.take (j+1)=n.keys.take j++[n.keys[j]]:=by rw[bx jk]
   have tv:n.vals.take (j+1)=n.vals.take j++[n.vals[j]]:=by rw[bx jv]
   have cp:(n.keys.take j).length=j:=by rw[aB];omega
   have cr:(n.vals.take j).length=j:=by rw[aB];omega
   have bd:=fun W (hW:Below w.heap.size w W) e3 e5=>HG.f W hW e3 e5 (2+2*j) (by omega);have bf:=fun W (hW:Below w.heap.size w W) e3 e5=>HG.f W hW e3 e5 (2+2*j+1) (by omega);rw[gk] at bd;rw[gv] at bf;have b4:((2+2*j:Nat):Int)=2+2*(j:Int):=by omega
   have b8:((2+2*j+1:Nat):Int)=2+2*(j:Int)+1:=by omega
   rw[b4] at bd;rw[b8] at bf;generalize n.keys[j]=xk at*;generalize n.vals[j]=xv at*;have HC:=kq9 bd bf tk tv cp cr gb rows hlt;clear bd bf tk tv cp cr gk gv gb rows jk jv b4 b8 hlt;have m1:IntKind.i64.wrap (2*(j:Int))=2*(j:Int):=aD _ (by omega);have m2:IntKind.i64.wrap (2+2*(j:Int))=2+2*(j:Int):=aD _ (by omega);have m3:IntKind.i64.wrap (2+2*(j:Int)+1)=2+2*(j:Int)+1:=aD _ (by omega);gi_wp2_with fail;have HD:=kq2 (HC.g).drew (HC.h).drew;obtain⟨I,ad,ai⟩:=I9 (fun w'=>w'.heap[b12]?=some (.cells #[.func (.func 214) #[] #[PV w.heap.size,PV (w.heap.size+1)]] 219 (0,0))) (fun w'=>w'.heap[b12+1]?=some (.cells #[vk,vv,.slice none 0 0,Xu sz] 286 (0,0)));have ap:=fun x:Fq I=>(ad _ x.ok).1;have ar:=fun x:Fq I=>(ad _ x.ok).2;have o0:∀x:Fq I,x.to.cell? ⟨b12,0,none⟩=some (.func (.func 214) #[] #[PV w.heap.size,PV (w.heap.size+1)]):=fun x=>by rw[cell_of_block (ap x)];rfl
   obtain⟨y0,y1,y2,y3⟩:=iB ar;have al:I wr.drew:=ai _ HD.a.k12 HD.a.k13;have HI:=If ai;clear ad ai ap ar;refine Jb I (fun i=>[10].contains i) (.take 0 (.take 1 (.take 2 (.take 3 (.take 4 (.take 5 (.go 6 (.go 7 (.go 8 (.take 9 (.go 10 .nil))))))))))) (by kernel_rfl) (by kernel_rfl) (by kernel_rfl) al ?_;clear al;generalize wr.drew=W at*
   iterate 6
    refine' qT ?_ ?_;rotate_left
    ·intro x;go_simp
     try rfl
    try simp only[pu]
   refine qD fun K hK=>?_;go_simp;refine(HC.a _ HD.a.below HD.a.b3 HD.a.b5).mono ?_;rintro e w3 ⟨rfl,rfl⟩
   try go_simp
   refine hK.out _ _ (HI.out _ HD.a.k12 HD.a.k13) ?_;clear hK K
   try simp only[pu]
   refine qD fun K hK=>?_;go_simp;have g2:eX w (W.alloc (Xh xk)) ps hh b12 (vk) (vv) (.slice none 0 0) sz:=HD.a.grown (row:=none) (World.grownBy_alloc _ _ _) (fun g e=>nomatch e)
   try go_simp
   refine hK.out _ _ (HI.out _ g2.k12 g2.k13) ?_;clear hK K
   try simp only[pu]
   obtain⟨v',W2,hr,ho,hg,hv⟩:=jF HD.b.k (by rw[HC.e];omega) xk HD.a.size 229;have g3:=HD.a.grown hg fun g e=>(HD.b.k.ge g e).1;have gs:=sK HD.a HD.b ho hg hv;obtain⟨sA,sM,sC,rfl⟩:=ho.slice;clear ho hg hv;have HS:=If gs;clear gs;refine qD (fun K hK=>kE _ _ _ rfl rfl rfl hr ?_);clear hr
   try go_simp
   refine hK.out _ _ (HI.out _ g3.k12 g3.k13) ?_;clear hK K
   try simp only[pu]
   refine' qT ?_ ?_;rotate_left
   ·intro x;go_simp
    try rfl
   try simp only[pu]
   clear y0 y1 y2 y3;have k13:=g3.k13;obtain⟨y0,y1,y2,y3⟩:=Fy k13;obtain⟨f0,f1,f2,f3⟩:=fO k13;clear k13 g3;refine qL fun K hK=>?_;go_simp;clear y0 f0 y1 f1 y2 f2 y3 f3;generalize hW:W2.setCell ⟨b12+1,0,none⟩ (.slice sA sM sC)=wr2 at*
   try go_simp
   refine hK.out _ _ trivial ?_;clear hK K
   try simp only[pu]
   refine Ja ?_;have HJ:=HS;generalize Value.slice sA sM sC=vk2 at*;clear hW HS g2 HD HI o0 I W2;generalize W.heap.size=wr2q;clear W;gi_wp2_with fail;have HD:=kq2 (HJ.out.1).drew (HJ.out.2).drew;obtain⟨I,ad,ai⟩:=I9 (fun w'=>w'.heap[b12]?=some (.cells #[.func (.func 214) #[] #[PV w.heap.size,PV (w.heap.size+1)]] 219 (0,0))) (fun w'=>w'.heap[b12+1]?=some (.cells #[vk2,vv,.slice none 0 0,Xu sz] 286 (0,0)));have ap:=fun x:Fq I=>(ad _ x.ok).1;have ar:=fun x:Fq I=>(ad _ x.ok).2;have o0:∀x:Fq I,x.to.cell? ⟨b12,0,none⟩=some (.func (.func 214) #[] #[PV w.heap.size,PV (w.heap.size+1)]):=fun x=>by rw[cell_of_block (ap x)];rfl
   obtain⟨y0,y1,y2,y3⟩:=iB ar;have al:I wr2.drew:=ai _ HD.a.k12 HD.a.k13;have HI:=If ai;clear ad ai ap ar;refine Jb I (fun i=>[11].contains i) (.take 0 (.take 1 (.take 2 (.take 3 (.take 4 (.take 5 (.take 6 (.go 7 (.go 8 (.go 9 (.take 10 (.go 11 .nil)))))))))))) (by kernel_rfl) (by kernel_rfl) (by kernel_rfl) al ?_;clear al;generalize wr2.drew=W at*
   iterate 7
    refine' qT ?_ ?_;rotate_left
    ·intro x;go_simp
     try rfl
    try simp only[pu]
   refine qD fun K hK=>?_;go_simp;refine(HC.b _ HD.a.below HD.a.b3 HD.a.b5).mono ?_;rintro e w3 ⟨rfl,rfl⟩
   try go_simp
   refine hK.out _ _ (HI.out _ HD.a.k12 HD.a.k13) ?_;clear hK K
   try simp only[pu]
   refine qD fun K hK=>?_;go_simp;have g2:eX w (W.alloc (Xh xv)) ps hh b12 (vk2) (vv) (.slice none 0 0) sz:=HD.a.grown (row:=none) (World.grownBy_alloc _ _ _) (fun g e=>nomatch e)
   try go_simp
   refine hK.out _ _ (HI.out _ g2.k12 g2.k13) ?_;clear hK K
   try simp only[pu]
   obtain⟨v',W2,hr,ho,hg,hv⟩:=jF HD.b.v (by rw[HC.f];omega) xv HD.a.size 229;have g3:=HD.a.grown hg fun g e=>(HD.b.v.ge g e).1;have gs:=sL HD.a HD.b ho hg hv;obtain⟨sA,sM,sC,rfl⟩:=ho.slice;clear ho hg hv;have HS:=If gs;clear gs;refine qD (fun K hK=>kE _ _ _ rfl rfl rfl hr ?_);clear hr
   try go_simp
   refine hK.out _ _ (HI.out _ g3.k12 g3.k13) ?_;clear hK K
   try simp only[pu]
   refine' qT ?_ ?_;rotate_left
   ·intro x;go_simp
    try rfl
   try simp only[pu]
   clear y0 y1 y2 y3;have k13:=g3.k13;obtain⟨y0,y1,y2,y3⟩:=Fy k13;obtain⟨f0,f1,f2,f3⟩:=fO k13;clear k13 g3;refine qL fun K hK=>?_;go_simp;clear y0 f0 y1 f1 y2 f2 y3 f3;generalize hW:W2.setCell ⟨b12+1,1,none⟩ (.slice sA sM sC)=wr3 at*
   try go_simp
   refine hK.out _ _ trivial ?_;clear hK K
   try simp only[pu]
   refine Ja ?_;have HJ:=HS;generalize Value.slice sA sM sC=vv2 at*;clear hW HS g2 HD HI o0 I W2;generalize W.heap.size=wr3q;clear W;gi_wp2_with fail;refine⟨⟨j+1,by omega,by simp,vk2,vv2,HJ.out.1,by rw[HC.c,HC.d];exact HJ.out.2⟩,?_⟩
   show kn-((j:Int)+1).toNat<kn-(j:Int).toNat
   omega
  ·have c5:kn=j:=by omega
   subst c5;have c6:¬((kn:Int)<kn):=by omega
   have tk:n.keys.take kn=n.keys:=aU (by rw[HG.j];exact Nat.le_refl _);have tv:n.vals.take kn=n.vals:=aU (by rw[HG.i.vals,HG.j];exact Nat.le_refl _);rw[tk,tv] at rows;obtain⟨Ak,ck,c9⟩:∃A c,vk=.slice A kn c:=by have:=rows.k.slice2;rw[HG.j] at this;exact this
   subst c9;have R1:=kq2 gb rows;clear gb rows tk tv
   gi_upto_region 21 with fail
   clear c6;have m4:IntKind.i64.wrap (4*(t:Int))=4*(t:Int):=aD _ (by omega)
   iterate 6 gi_step
   rename_i hKs;refine hKs _ _ ?_;clear hKs
   gi_cut [15] from 88 (fun _ wc=>∃vc,eX w wc ps hh b12 (.slice Ak kn ck) vv vc sz/\fN wc (b12+2) (.slice Ak kn ck) vv vc n.keys n.vals n.kids)
   case first=>
    gi_wp2_with fail
    gi_loopw [15] (fun i wr=>∃j:Nat,j<=cn/\i=Xi j/\∃vc,eX w wr ps hh b12 (.slice Ak kn ck) vv vc sz/\fN wr (b12+2) (.slice Ak kn ck) vv vc n.keys n.vals (n.kids.take j)) (fun i _=>kn+1-(intOf i).toNat)
    case atStart=>exact⟨0,by omega,rfl,.slice none 0 0,R1.a,by simpa using R1.b⟩
    case round=>
     clear R1;obtain⟨j,hj,rfl,vc,gb,rows⟩:=hrel;have a0:=callsIn_wide (n:=6) |>.2 (HG.f _ gb.below gb.b3 gb.b5 (4*t) (by omega))
     have a9:((4*t:Nat):Int)=4*(t:Int):=by omega
     rw[a9] at a0;have k13:=gb.k13;obtain⟨y0,y1,y2,y3⟩:=Fy k13;have k12:=cell_of_block (o:=0) gb.k12;have k12:wr.cell? ⟨b12,0,none⟩=some (.func (.func 214) #[] #[PV w.heap.size,PV (w.heap.size+1)]):=k12;have bj:=HG.k;have q4:wAt t n kn cn (4*t)=n.kids.getD 0 0:=by
      unfold wAt;rw[if_neg (by omega),if_neg (by omega),if_neg (by omega)]
      by_cases h0:0<cn
      ·rw[if_pos (by omega),dF]
      ·rw[if_neg (by omega),am,aH (by omega)]
       rfl
     rw[q4] at a0
     by_cases hlt2:j<cn
     ·have d4:cn=kn+1:=by omega
      have jc:j<n.kids.length:=by rw[bj];exact hlt2
      have cb:((j:Int)<=kn):=by omega
      have h0:n.kids.getD 0 0≠0:=fun e=>by
       rcases HG.i.kids with h | ⟨-,h⟩
       ·omega
       ·rw[am,af (by omega)] at e;have:n.kids.contains 0=true:=cW.2 (e▸aF _);rw[h] at this
        cases this
      generalize n.kids.getD 0 0=g0 at*;have c8:(((g0:Nat):Int) !=0)=true:=by simp;omega
      have gc:wAt t n kn cn (4*t+j)=n.kids[j]:=by
       unfold wAt;rw[if_neg (by omega),if_neg (by omega),if_neg (by omega),if_pos (by omega),cA,am,af jc]
       rfl
      have tc:n.kids.take (j+1)=n.kids.take j++[n.kids[j]]:=by rw[bx jc]
      have cl:(n.kids.take j).length=j:=by rw[aB];omega
      have bc:=fun W (hW:Below w.heap.size w W) e3 e5=>HG.f W hW e3 e5 (4*t+j) (by omega);rw[gc] at bc;have b9:((4*t+j:Nat):Int)=4*(t:Int)+(j:Int):=by omega
      rw[b9] at bc;generalize n.kids[j]=xc at*;have HC:=kq6 bc tc cl gb rows a0;have m5:IntKind.i64.wrap (4*(t:Int)+(j:Int))=4*(t:Int)+(j:Int):=aD _ (by omega);clear bc tc cl gc gb rows jc b9 a0 q4 k13 a9 bj h0 hlt2;gi_wp2_with fail;refine HC.f.mono ?_;rintro e w8 ⟨rfl,rfl⟩;gi_wp2_with fail;clear y0 y1 y2 y3 k12 c8;have HD:=kq2 (HC.d).drew (HC.e).drew;obtain⟨I,ad,ai⟩:=I9 (fun w'=>w'.heap[b12]?=some (.cells #[.func (.func 214) #[] #[PV w.heap.size,PV (w.heap.size+1)]] 219 (0,0))) (fun w'=>w'.heap[b12+1]?=some (.cells #[.slice Ak kn ck,vv,vc,Xu sz] 286 (0,0)));have ap:=fun x:Fq I=>(ad _ x.ok).1;have ar:=fun x:Fq I=>(ad _ x.ok).2;have o0:∀x:Fq I,x.to.cell? ⟨b12,0,none⟩=some (.func (.func 214) #[] #[PV w.heap.size,PV (w.heap.size+1)]):=fun x=>by rw[cell_of_block (ap x)];rfl
      obtain⟨y0,y1,y2,y3⟩:=iB ar;have al:I wr.drew:=ai _ HD.a.k12 HD.a.k13;have HI:=If ai;clear ad ai ap ar;refine Jb I (fun i=>[11].contains i) (.take 0 (.take 1 (.take 2 (.take 3 (.take 4 (.take 5 (.take 6 (.go 7 (.go 8 (.go 9 (.take 10 (.go 11 .nil)))))))))))) (by kernel_rfl) (by kernel_rfl) (by kernel_rfl) al ?_;clear al;generalize wr.drew=W at*
      iterate 7
       refine' qT ?_ ?_;rotate_left
       ·intro x;go_simp
        try rfl
       try simp only[pu]
      refine qD fun K hK=>?_;go_simp;refine(HC.a _ HD.a.below HD.a.b3 HD.a.b5).mono ?_;rintro e w3 ⟨rfl,rfl⟩
      try go_simp
      refine hK.out _ _ (HI.out _ HD.a.k12 HD.a.k13) ?_;clear hK K
      try simp only[pu]
      refine qD fun K hK=>?_;go_simp;have g2:eX w (W.alloc (Xh xc)) ps hh b12 (.slice Ak kn ck) (vv) (vc) sz:=HD.a.grown (row:=none) (World.grownBy_alloc _ _ _) (fun g e=>nomatch e)
      try go_simp
      refine hK.out _ _ (HI.out _ g2.k12 g2.k13) ?_;clear hK K
      try simp only[pu]
      obtain⟨v',W2,hr,ho,hg,hv⟩:=jF HD.b.c (by rw[HC.c];omega) xc HD.a.size 229;have g3:=HD.a.grown hg fun g e=>(HD.b.c.ge g e).1;have gs:=sN HD.a HD.b ho hg hv;obtain⟨sA,sM,sC,rfl⟩:=ho.slice;clear ho hg hv;have HS:=If gs;clear gs;refine qD (fun K hK=>kE _ _ _ rfl rfl rfl hr ?_);clear hr
      try go_simp
      refine hK.out _ _ (HI.out _ g3.k12 g3.k13) ?_;clear hK K
      try simp only[pu]
      refine' qT ?_ ?_;rotate_left
      ·intro x;go_simp
       try rfl
      try simp only[pu]
      clear y0 y1 y2 y3;have k13:=g3.k13;obtain⟨y0,y1,y2,y3⟩:=Fy k13;obtain⟨f0,f1,f2,f3⟩:=fO k13;clear k13 g3;refine qL fun K hK=>?_;go_simp;clear y0 f0 y1 f1 y2 f2 y3 f3;generalize hW:W2.setCell ⟨b12+1,2,none⟩ (.slice sA sM sC)=wr2 at*
      try go_simp
      refine hK.out _ _ trivial ?_;clear hK K
      try simp only[pu]
      refine Ja ?_;have HJ:=HS;generalize Value.slice sA sM sC=vc2 at*;clear hW HS g2 HD HI o0 I W2;generalize W.heap.size=wr2q;clear W;gi_wp2_with fail;refine⟨⟨j+1,by omega,by simp,vc2,HJ.out.1,by rw[HC.b];exact HJ.out.2⟩,?_⟩
      show kn+1-((j:Int)+1).toNat<kn+1-(j:Int).toNat
      omega
     ·have tc:n.kids.take j=n.kids:=aU (by omega);rw[tc] at rows;have HC:=kq3 gb rows a0;clear gb rows a0 k13 tc
      by_cases hc0:cn=0
      ·have cx:j=0:=by omega
       subst cx;have q0:n.kids.getD 0 0=0:=by rw[am,aH (by omega)];rfl
       rw[q0] at HC;have cb:((0:Nat):Int)<=kn:=by omega
       clear q0 q4 a9 bj hlt2;gi_wp2_with fail;refine HC.c.mono ?_;rintro e w8 ⟨rfl,rfl⟩;gi_wp2_with fail
       gi_meet
       case rel=>exact⟨vc,HC.a,HC.b⟩
      ·have c4:j=kn+1:=by omega
       subst c4;have cb:¬(((kn+1:Nat):Int)<=kn):=by omega
       have ea:¬((kn:Int)+1<=kn):=by omega
       have eb:¬(kn+1<=kn):=by omega
       clear q4 a9 bj hlt2;gi_wp2_with fail;refine⟨fun _ _=>trivial,?_⟩;gi_wp2_with fail
       gi_meet
       case rel=>exact⟨vc,HC.a,HC.b⟩
   case rest=>
    clear R1;obtain⟨vc,gb,rows⟩:=hcut;have au:=HG.l;have bm:=HG.i;obtain⟨Av,cv,rfl⟩:∃A c,vv=.slice A kn c:=by have:=rows.v.slice2;rw[bm.vals,HG.j] at this;exact this
    obtain⟨Ac,cc,rfl⟩:∃A c,vc=.slice A cn c:=by have:=rows.c.slice2;rw[HG.k] at this;exact this
    have bb:CallsIn Fence.wide 6 prog 215 #[Xi t,eC (.slice Ak kn ck) (.slice Av kn cv) (.slice Ac cn cc) n.size] wc _:=callsIn_wide.2 (pV bm rows.k.hrow rows.v.hrow rows.c.hrow);have bo:=fun W (hW:Below wc.heap.size wc W)=>(callsIn_wide (n:=6)).2 (tS (w:=W) bm (rows.k.hrow.below hW) (rows.v.hrow.below hW) (rows.c.hrow.below hW));unfold eC at bb bo;rw[au] at bb;simp only[au,HG.j,HG.k] at bo;have k13:=gb.k13;obtain⟨y0,y1,y2,y3⟩:=Fy k13;have HC:=kq3 bo gb rows;have HF:=If bb;clear bo gb rows k13 bb bm au;gi_wp2_with fail;refine HF.out.mono ?_;rintro e w8 ⟨rfl,a8⟩;clear y0 y1 y2 y3 HF;have g8:=HC.b.up a8;have k13:=g8.k13;obtain⟨y0,y1,y2,y3⟩:=Fy k13;have H8:=kq3 a8 g8 (HC.c.below a8);clear a8 g8 k13;gi_wp2_with fail;refine(HC.a _ H8.a).mono ?_;rintro e w9 ⟨Bx,rfl,dk,rB,rG,bt⟩;have g9:=H8.b.up bt;have r9:=H8.c.below bt;obtain⟨f,hf⟩:=Ii (wAt t n kn cn);rw[hf] at rG;have cw:∀j,j<6*t->f j<2^64:=fun j hj=>HG.m _ (by
     unfold bnWords;rw[HG.j,HG.k,hf];exact ay.2 ⟨j,bH.2 hj,rfl⟩)
    have ds:=(gl rG);have bs:=tC (by omega) cw rB rG (fun k=>k=w8.heap.size+1) rfl;have k13:=g9.k13;have H9:=kq3 g9 r9 hf;clear g9 r9 hf y0 y1 y2 y3 bt rB rG;gi_wp2_with fail;refine wpIn_rangeFunc_ownH rfl h1 (gf:=261) (lb:=#[PV Bx]) rfl trivial (enters_of func261 (by kernel_rfl) rfl)
     bs ir.trans (fun W l o o' q1 q2 q3 q4=>⟨by simp,fun k hk=>World.putObj_heap_other (by omega)⟩) (aa _ _) (fun _=>rfl)
     (fun _ W=>Below w9.heap.size w9 W)
     (fun cd a4 _=>cd=.ret/\∃x∈a4,x.1.2≠f x.1.1)
     (fun a4 W W' row hs hg hr=>⟨hg.os.trans hs.os,hg.tape.trans hs.tape,hg.output.trans hs.output,aO hs.size hg.size,fun k hk=>(hg.block k (bz hk hs.size) (fun e=>by have:=(hr k e.symm).1;omega)).trans (hs.block k hk)⟩)
     (fun _ _ _ _ _ hs _ _=>hs)
     (aa _ _)
     (fun x a' _=>a'= { tmps:=#[PV ps,Xi t,Xu hh,PV w.heap.size,undef,PV (w.heap.size+1),PV (w.heap.size+1+1),PV (w.heap.size+1+1+1),Xi 0,Xi 7,Xi (6*(t:Int)),Xi 0,PV b12,PV (b12+1),u14,u15,Xi x.1.1,Xu x.1.2,.tuple #[Xi 0,Xi 7],PV ps,.tuple #[Xi 0,Xi 7],Xi 0,Xi 7,Xi 7,.bool false,undef,undef,Xi t,.bool true,.bool false,undef,.tuple #[Xi (6*(t:Int)),Xi 0],PV ps,Xu hh,.tuple #[Xi (6*(t:Int)),Xi 0],Xi (6*(t:Int)),Xi 0,.bool false,Xi 0,.bool false,undef,undef,.bool false,Xi (6*(t:Int)),Xi t,Xi (6*(t:Int)),.bool false,undef,.func (.func 214) #[] #[PV w.heap.size,PV (w.heap.size+1)],.func (.func 214) #[] #[PV w.heap.size,PV (w.heap.size+1)],Xu kn,Xi t,Xi (2*(t:Int)),Xi (2*(t:Int)-1),Xu (2*(t:Int)-1),.bool false,undef,.func (.func 214) #[] #[PV w.heap.size,PV (w.heap.size+1)],Xu sz,.agg #[.slice none 0 0,.slice none 0 0,.slice none 0 0,Xu sz],.func (.func 214) #[] #[PV w.heap.size,PV (w.heap.size+1)],Xu kn,Xi kn,Xi kn,.bool false,u65,u66,u67,u68,u69,u70,u71,u72,u73,u74,u75,u76,u77,u78,u79,u80,u81,u82,u83,u84,u85,u86,u87,u88,u89,u90,u91,u92,u93,u94,u95,u96,u97,u98,u99,u100,u101,u102,u103,u104,u105,u106,u107,u108,u109,u110,u111,u112,Xi t,.agg #[.slice Ak kn ck,(.slice Av kn cv),(.slice Ac cn cc),Xu sz],.bool true,.bool false,u117,Xi t,.agg #[.slice Ak kn ck,(.slice Av kn cv),(.slice Ac cn cc),Xu sz],.func (.func 261) #[] #[PV Bx],Xi x.1.1,Xu x.1.2,u123,u124,u125,u126,u127,u128,u129],defers:=[] })
     (fun x a' _ X W' row hs hg hr=>hs)
     ?assign ?body ?done ?stop
    case assign=>
     rintro l a4 ⟨⟨i,x⟩,hx⟩ W K hI hK;have HK:=If hK;clear hK;simp only[n9]
     gi_wp2
     exact HK.out _ _ (KeepsFrom.refl _ _) (ir.refl _ _) hI rfl
    case body=>
     rintro l a4 ⟨⟨i,x⟩,hx⟩ a' W ed _ hI rfl hlt;simp only at hx⊢;have g:=H9.a.up hI;have k12:W.cell? ⟨b12,0,none⟩=some (.func (.func 214) #[] #[PV w.heap.size,PV (w.heap.size+1)]):=by rw[cell_of_block g.k12];rfl
     have bu:CallsIn Fence.wide 4 prog 214 #[Xi i,PV w.heap.size,PV (w.heap.size+1)] W _:=callsIn_wide.2 (HG.f W g.below g.b3 g.b5 i hx.1);rw[H9.c] at bu;have e6:=g.b6;have e7:=g.b7;obtain⟨c0,c1,c2,c3⟩:=Fy e6;obtain⟨p0,p1,p2,p3⟩:=fO e6;have d0:(W).cell? ⟨w.heap.size+1+1+1,0,none⟩=some (Xi 0):=by rw[cell_of_block e7];rfl
     have q0:(W).frozen? ⟨w.heap.size+1+1+1,0,none⟩=false:=AT e7;have HH:=kq2 hI bu;have HX:=If hx;clear hI bu bs g e6 e7
     by_cases hfx:x=f i
     ·have hq:(((f i:Nat):Int) !=x)=false:=by simp;omega
      gi_wp2_with fail;refine(CallsIn.inRound l HH.b).mono ?_;rintro e dc ⟨rfl,rfl⟩;gi_wp2_with fail;exact⟨KeepsFrom.refl _ _,ir.refl _ _,HH.a⟩
     ·have hq:(((f i:Nat):Int) !=x)=true:=by simp;omega
      have em:¬((f i:Nat):Int)=x:=by omega
      gi_wp2_with fail;refine(CallsIn.inRound l HH.b).mono ?_;rintro e dc ⟨rfl,rfl⟩;gi_wp2_with fail;exact⟨((((((KeepsOthers.setCell _ _ _).trans (KeepsOthers.setCell _ _ _)).trans (KeepsOthers.setCell _ _ _)).trans (KeepsOthers.setCell _ _ _)).trans (KeepsOthers.setCell _ _ _)).from _),rfl,⟨⟨(i,x),HX.out⟩,by simp,hfx⟩⟩
    case done=>
     rintro D ys W hD hS hI hK;have g:=H9.a.up hI;have e6:=g.b6;have e7:=g.b7;have k13:=g.k13;have en:=H9.a.size;have d2:w.heap.size+4<=b12:=dT g.at12.symm;have dn:b12+2<=D:=by omega
     obtain⟨y0,y1,y2,y3⟩:=Fy k13;obtain⟨c0,c1,c2,c3⟩:=Fy e6;obtain⟨p0,p1,p2,p3⟩:=fO e6;have d0:(W).cell? ⟨w.heap.size+1+1+1,0,none⟩=some (Xi 0):=by rw[cell_of_block e7];rfl
     have q0:(W).frozen? ⟨w.heap.size+1+1+1,0,none⟩=false:=AT e7;have a6:=oZ (u0:=.slice Ak kn ck) (u1:=(.slice Av kn cv)) (u2:=(.slice Ac cn cc)) (u3:=Xu sz) e6;have B6:=oY (u0:=.slice Ak kn ck) (u1:=(.slice Av kn cv)) (u2:=(.slice Ac cn cc)) (u3:=Xu sz) (b:=w.heap.size+1+1) g.below (by omega);have o6:∀k,k≠w.heap.size+1+1->_:=fun k hk=>sy (w:=W) (b:=w.heap.size+1+1) (k:=k) (u0:=.slice Ak kn ck) (u1:=(.slice Av kn cv)) (u2:=(.slice Ac cn cc)) (u3:=Xu sz) hk;have a7:=heap_setCell (i:=0) (v:=Xi 0) ((o6 (w.heap.size+1+1+1) (by omega)).trans e7);have HK:=kq6 hI hK a6 B6 o6 a7;clear hI hK hS bs g e6 e7 k13 a6 B6 o6 a7;gi_wp2_with fail;obtain⟨hI,hK,a6,B6,o6,a7⟩:=HK.out;clear HK;generalize dv:((((W.setCell ⟨w.heap.size+1+1,0,none⟩ (.slice Ak kn ck)).setCell ⟨w.heap.size+1+1,1,none⟩ ((.slice Av kn cv))).setCell ⟨w.heap.size+1+1,2,none⟩ ((.slice Ac cn cc))).setCell ⟨w.heap.size+1+1,3,none⟩ (Xu sz))=W5 at*;have c':W5.heap[D]?=some (.deferred (some [])):=(o6 D (by omega)).trans hK;have n7:∀k,k≠w.heap.size+1+1+1->(W5.setCell ⟨w.heap.size+1+1+1,0,none⟩ (Xi 0)).heap[k]?=W5.heap[k]?:=fun k hk=>FB hk;have cj:=(n7 D (by omega)).trans c';have b6:=(n7 (w.heap.size+1+1) (by omega)).trans a6;have B7:=B6.setCell (p:=⟨w.heap.size+1+1+1,0,none⟩) (by show w.heap.size<=w.heap.size+1+1+1;omega) (Xi 0);generalize d1:W5.setCell ⟨w.heap.size+1+1+1,0,none⟩ (Xi 0)=W6 at*;refine⟨by simp,.inl ⟨_,_,rfl,run_takeDeferred cj,?_⟩⟩;have b1:∀k,k≠D->(W6.putObj D (.deferred none)).heap[k]?=W6.heap[k]?:=fun k hk=>World.putObj_heap_other hk;have z6:=(b1 (w.heap.size+1+1) (by omega)).trans b6;have z7:=(b1 (w.heap.size+1+1+1) (by omega)).trans a7;have BF:Below w.heap.size w (W6.putObj D (.deferred none)):=B7.trans (belowK_b (w:=w) Ih W6 D _ _ (by omega) cj rfl rfl);have RF:=H9.b.lift (W':=W6.putObj D (.deferred none)) (D':=w.heap.size) (by omega) fun k hk1 ca=>((b1 k (by omega)).trans ((n7 k (by omega)).trans (o6 k (by omega)))).trans (hI.block k ca);obtain⟨e0,e1,e2,e3⟩:=Fy z6;have d0:(W6.putObj D (.deferred none)).cell? ⟨w.heap.size+1+1+1,0,none⟩=some (Xi 0):=by rw[cell_of_block z7];rfl
     refine⟨.tuple #[.agg #[.slice Ak kn ck,(.slice Av kn cv),(.slice Ac cn cc),Xu sz],Xi 0],?_,.slice Ak kn ck,(.slice Av kn cv),(.slice Ac cn cc),by rw[HG.l];rfl,RF,BF⟩
     simp[results,f195,go_sem,e0,e1,e2,e3,d0]
    case stop=>
     rintro D cd a4 W _ ⟨tl,c7⟩ ⟨rfl,x,hx,ch⟩
     exfalso
     have hm:x.1∈gN f (6*t):=by rw[<-c7];exact az _ (ay.2 ⟨x,hx,rfl⟩)
     obtain⟨j,_,e⟩:=ay.1 hm;rw[<-e] at ch;exact ch rfl
end
section
open Go.RowKit Tryz Go.BigFrame Go.Maps Go.WideMaps Lf
open Go.Shelf Go.Lib
variable{cur:Array Value}{l:List Nat}{x:Value}
def setL:Array Value->Nat->List Value->Array Value
 | a,_,[]=>a
 | a,o,v::r=>setL (a.setIfInBounds o v) (o+1) r
theorem lw:∀(vs:List Value) (a:Array Value) (o:Nat),(setL a o vs).size=a.size
 | [],_,_=>rfl
 | v::r,a,o=>by rw[setL,lw r];simp
theorem F2:∀(vs:List Value) (a:Array Value) (o j:Nat),(setL a o vs)[j]?=if o<=j/\j<o+vs.length/\j<a.size then vs[j-o]? else a[j]?
 | [],a,o,j=>by rw[setL,if_neg (by simp;omega)]
 | v::r,a,o,j=>by
  rw[setL,F2 r,Array.size_setIfInBounds,Array.getElem?_setIfInBounds];simp only[av];by_cases h1:o+1<=j/\j<o+1+r.length/\j<a.size
  ·rw[if_pos h1,if_pos (by omega),show j-o=(j-(o+1))+1 by omega,bD]
  ·rw[if_neg h1];by_cases h2:o=j
   ·subst h2;rw[if_pos rfl];by_cases h3:o<a.size
    ·rw[if_pos h3,if_pos (by omega),dF];rfl
    ·rw[if_neg h3,if_neg (by omega),cP (by omega)]
   ·rw[if_neg h2,if_neg (by omega)]
theorem mM {ty:TypeId}{fr:Nat×Nat}{b:Nat}:∀(vs:List Value) {w:World} {cur:Array Value} (o:Nat),w.heap[b]?=some (.cells cur ty fr)->(w.setCells b o vs).heap[b]?=some (.cells (setL cur o vs) ty fr)
 | [],_,_,_,h=>h
 | v::r,w,cur,o,h=>by
  rw[World.setCells,setL];exact mM r (o+1) (heap_setCell h)
theorem ol {b k:Nat}(hk:k≠b):∀(vs:List Value) (w:World) (o:Nat),(w.setCells b o vs).heap[k]?=w.heap[k]?
 | [],_,_=>rfl
 | v::r,w,o=>by rw[World.setCells,ol hk r,FB hk]
theorem mK {b:Nat}:∀(vs:List Value) (w:World) (o:Nat),w.grownBy (w.setCells b o vs) (some b)
 | [],w,_=>⟨rfl,rfl,rfl,Nat.le_refl _,fun _ _ _=>rfl⟩
 | v::r,w,o=>by
  have h:=mK (b:=b) r (w.setCell ⟨b,o,none⟩ v) (o+1);rw[World.setCells];refine⟨h.os,h.tape,h.output,by have:=h.size;simpa using this,fun k h1 h2=>?_⟩;rw[ol (fun e=>h2 (by rw[e])) r,FB (fun e=>h2 (by rw[e]))]
theorem Bf(w:World)(row:Option Nat):w.grownBy w.drew row:=⟨rfl,rfl,rfl,Nat.le_refl _,fun _ _ _=>rfl⟩
theorem Ed{cs:List Value}{n i:Nat}(h:cur.toList.take n=cs)(hn:cs.length=n)(hi:i<=n)(hc:n+1<=cur.size):(setL (setL cur (i+1) (cs.drop i)) i [x]).toList.take (n+1)=cs.take i++x::cs.drop i:=by
 have ad:∀j,j<n->cs[j]?=cur[j]?:=fun j hj=>by rw[<-h,cy,if_pos hj,bI]
 refine dA fun j=>?_;rw[cy,bI,F2,F2,lw,aR,hn];simp only[av,aL];have ht:(cs.take i).length=i:=by rw[aB];omega
 by_cases h1:j<i
 ·rw[cE (by omega),cy,if_pos h1,if_pos (by omega),if_neg (by omega),if_neg (by omega),ad j (by omega)]
 ·rw[bS (by omega),ht]
  by_cases h2:j=i
  ·subst h2;rw[if_pos (by omega),if_pos (by omega),dF]
   rfl
  ·obtain⟨r,rfl⟩:∃r,j=i+1+r:=⟨j-i-1,by omega⟩;rw[show i+1+r-i=r+1 by omega,bD (l:=cs.drop i)]
   by_cases h3:i+1+r<n+1
   ·rw[if_pos h3,if_neg (by omega),if_pos (by omega),cA]
   ·rw[if_neg h3,aH (by rw[aR];omega)]
theorem Ee{cs:List Value}{n i:Nat}(h:∀j,j<i->cur[j]?=cs[j]?)(hn:cs.length=n)(hi:i<=n)(hc:n+1<=cur.size):(setL (setL cur i [x]) (i+1) (cs.drop i)).toList.take (n+1)=cs.take i++x::cs.drop i:=by
 refine dA fun j=>?_;rw[cy,bI,F2,F2,lw,aR,hn];simp only[av,aL];have ht:(cs.take i).length=i:=by rw[aB];omega
 by_cases h1:j<i
 ·rw[cE (by omega),cy,if_pos h1,if_pos (by omega),if_neg (by omega),if_neg (by omega),h j h1]
 ·rw[bS (by omega),ht]
  by_cases h2:j=i
  ·subst h2;rw[if_pos (by omega),if_neg (by omega),if_pos (by omega),dF]
   rfl
  ·obtain⟨r,rfl⟩:∃r,j=i+1+r:=⟨j-i-1,by omega⟩;rw[show i+1+r-i=r+1 by omega,bD (l:=cs.drop i)]
   by_cases h3:i+1+r<n+1
   ·rw[if_pos h3,if_pos (by omega),cA]
   ·rw[if_neg h3,aH (by rw[aR];omega)]
theorem uH(l:List Nat)(i x:Nat):hV (l.take i++x::l.drop i)=(hV l).take i++Xu x::(hV l).drop i:=by
 unfold hV;rw[aM,aN,bT,cu]
theorem uI:∀v∈hV l,v.oneCell'=true:=fun v hv=>by
 obtain⟨x,_,rfl⟩:=ay.1 hv;rfl
theorem lR{i x:Nat}(h:i<=l.length):(l.take i++x::l.drop i).length=l.length+1:=by
 rw[aG,av,aB,aR];omega
theorem Bj{w:World}{B:Nat}{v:Value}(h:FE w B v l)(hl:l.length<=1000){i:Nat}(hi:i<=l.length){x vb:Nat}(hx:w.heap[vb]?=some (.cells #[Xu x] 83 (0,0)))(hne:v.ownBlock≠some vb)(hB:B<=w.heap.size):
 Ct 332 #[v,Xi i,.slice (some ⟨vb,0,none⟩) 1 1] w fun e w'=>∃v',e=.returned v'/\FE w' B v' (l.take i++x::l.drop i)/\w.grownBy w' v.ownBlock/\(v'.ownBlock=v.ownBlock\/∃g,v'.ownBlock=some g/\w.heap.size<=g):=by
 obtain⟨n,hn⟩:=Ii l.length;have ar:w.cell? ⟨vb,0,none⟩=some (Xu x):=by rw[cell_of_block hx];rfl
 obtain⟨ti,a2,bc,a3,a4⟩:=info_parts uP
 by_cases b8:i=n
 ·subst b8;have hd:l.drop i=[]:=bU (by omega);have ht:l.take i=l:=aU (by omega);have bo:∀ty,∃v' w',(Builtin.append_ #[229,229] ty #[v,.slice (some ⟨vb,0,none⟩) 1 1]).run prog w=.ok v' w'/\FE w' B v' (l++[x])/\w.grownBy w' v.ownBlock/\(v'.ownBlock=v.ownBlock\/∃g,v'.ownBlock=some g/\w.heap.size<=g):=fun ty=>by
   obtain⟨v',w',h1,h2,h3,_,h4⟩:=run_append_own_at (P:=prog) (w:=w) B 229 ty 83 ti (Xu 0) 1 8 underlying229 a2 bc a3 a4 rfl (by decide) v l.length (hV l) h ⟨vb,0,none⟩ 1 1 [Xu x] rfl (fun j u hj=>by
    cases j with
    | zero=>simp only[dN,Option.some.injEq] at hj;subst hj;rw[Addr.add_lit];exact ar
    | succ j=>simp at hj) (by simp[Value.oneCell']) (by unfold maxLen;omega) (by omega) hB
   refine⟨v',w',h1,?_,h3,?_⟩
   ·have e:hV (l++[x])=hV l++[Xu x]:=by simp[hV]
    unfold FE;rw[e,aG];exact h2
   ·rcases h4 with h4 | h4
    ·exact ab h4
    ·exact ae ⟨_,h4,Nat.le_refl _⟩
  obtain⟨v',w',hr,ho,hg,hv⟩:=bo 229;rw[hd,ht];generalize b':v.ownBlock=ob at hg hv⊢;have HF:=kq3 ho hg hv
  rcases h.2 with⟨rfl,e0⟩ | ⟨b,c,cd,rfl,-⟩
  ·obtain rfl:i=0:=by omega
   clear bo ho hg hv h hx ar hd ht a2 bc a3 a4 b' hne e0;go_enter func332,ntmps332
   go_wp2_with (at_builtin;refine Lib.wpList_append_run _ rfl _ _ _ _ rfl _ _ rfl rfl _ _ hr ?_)
   all_goals
    go_ret;exact⟨v',rfl,HF.out⟩
  ·rw[hn] at hr⊢;clear bo ho hg hv h hx ar hd ht a2 bc a3 a4 b' hne;go_enter func332,ntmps332
   go_wp2_with (at_builtin;refine Lib.wpList_append_run _ rfl _ _ _ _ rfl _ _ rfl rfl _ _ hr ?_)
   all_goals
    go_ret;exact⟨v',rfl,HF.out⟩
 ·have b8:i<n:=by omega
  rcases h.2 with⟨rfl,e0⟩ | ⟨b,c,cd,rfl,hb,al,c5,b1,bf,ap⟩
  ·omega
  rw[hn] at c5 ap⊢;rw[Nat.mul_one] at bf ap;have a8:(hV l).length=n:=by simp[hV,hn]
  have cc:vb≠b:=fun e=>hne (by rw[e];rfl);have au:∀j v,(hV l)[j]?=some v->w.cell? ⟨b,0+j,none⟩=some v:=fun j v hj=>by
   rw[bQ,cell_of_block al,<-bI];have c4:j<n:=by have:=(aA.1 hj).1;omega
   rw[<-ap,cy,if_pos c4] at hj;exact hj
  have bb:∀j v,[Value.int .u64 x][j]?=some v->w.cell? ⟨vb,0+j,none⟩=some v:=fun j v hj=>by
   cases j with
   | zero=>simp only[dN,Option.some.injEq] at hj;subst hj;exact ar
   | succ j=>simp at hj
  have a5:∀v∈ [Value.int .u64 x],v.oneCell'=true:=fun v hv=>by rw[aQ.1 hv];rfl
  have ba:(prog.info? 83).map (·.size)=some 1:=by rw[a2];simp[a3]
  have d2:IntKind.i64.wrap ((i:Int)+1)=(i:Int)+1:=aD _ (by omega);have dk:(0:Int)<=(i:Int)+1:=by omega
  have d1:((i:Int)+1).toNat=i+1:=by omega
  have bj:((hV l).drop i).length=n-i:=by rw[aR,a8]
  have d3:¬((i:Int)=(n:Int)):=by omega
  have ds:c<=9223372036854775807:=by unfold maxLen at b1;omega
  have d4:prog.follows .mixedOrders=true:=by kernel_rfl
  by_cases hroom:n+1<=c
  ·have bk:∀j,w.frozen? ⟨b,j,none⟩=false:=fun j=>AT al;have a':∀j,j<n+1->(w.cell? ⟨b,j,none⟩).isSome=true:=fun j hj=>by rw[cell_of_block al,Array.getElem?_eq_getElem (by omega)];rfl
   have c6:∀lb cb,(callFunc 339 #[.slice (some ⟨vb,0,none⟩) 1 1,.slice (some ⟨b,i+1,none⟩) lb cb]).run prog w=.ok (.value (.bool false)) w:=fun lb cb=>by
    rw[run_callFunc_extern (fn:=f339) (by kernel_rfl) (by kernel_rfl) (by kernel_rfl) (by kernel_rfl) (e:=Extern.SlicesOverlaps.overlaps #[229,229] #[4]) (by kernel_rfl),
     Lib.run_overlaps_apart w 229 4 83 underlying229 1 (fun _=>by kernel_rfl) ⟨vb,0,none⟩ ⟨b,i+1,none⟩ 1 1 lb cb cc 83 83 1 c (by simp[World.shape?,hx]) (by simp[World.shape?,al,bf]) (by omega) (AT hx) (AT hx)]
    rfl
   have a7:¬(c=i+1):=by omega
   have cp:(i:Int)<=(n:Int)+1:=by omega
   have dn:¬(c=i):=by omega
   have c3:i<=n:=by omega
   have b2:∀ty dc sc,(Builtin.copy_ #[229,229] ty #[.slice (some ⟨b,i+1,none⟩) (n-i) dc,.slice (some ⟨b,i,none⟩) (n+1-i) sc]).run prog w.drew=.ok (goInt ((hV l).drop i).length) (w.drew.setCells b (i+1) ((hV l).drop i)):=fun ty dc sc=>
    run_copy_cells w.drew _ _ ty 83 b (i+1) (n-i) dc ⟨b,i,none⟩ (n+1-i) sc ((hV l).drop i) underlying229 ba (by rw[bj];simp only[Nat.min_def];split<;>omega)
     (fun j v hj=>by rw[Addr.add_lit];have:=au (i+j) v (by rwa[dL] at hj);rwa[bQ] at this)
     (fun j hj=>a' _ (by omega)) (fun j hj=>bk _) (fun v hv=>uI v (bB hv))
   obtain⟨W1,ai⟩:∃W1,W1=w.drew.setCells b (i+1) ((hV l).drop i):=⟨_,rfl⟩;have ca:∀k,k<n+1->(W1.cell? ⟨b,k,none⟩).isSome=true:=fun k hk=>by
    rw[ai];exact isSome_setCells b _ _ _ (fun j hj=>by rw[bj] at hj;exact a' (i+1+j) (by omega)) _ (a' k hk)
   have cw:∀(W:World),(∀x,W.cell? x=W1.cell? x)->(∀x,W.frozen? x=W1.frozen? x)->∀ty dc,(Builtin.copy_ #[229,229] ty #[.slice (some ⟨b,i,none⟩) (n+1-i) dc,.slice (some ⟨vb,0,none⟩) 1 1]).run prog W=.ok (goInt [Value.int .u64 x].length) (W.setCells b i [Xu x]):=fun W hWc hWf ty dc=>
    run_copy_cells W _ _ ty 83 b i (n+1-i) dc ⟨vb,0,none⟩ 1 1 [Xu x] underlying229 ba (by simp only[Nat.min_def,av,aL];split<;>omega)
     (fun j v hj=>by
      rw[Addr.add_lit,hWc,ai,World.cell?_setCells_out b _ _ _ _ (fun h _=>absurd h cc)];exact bb j v hj)
     (fun j hj=>by rw[hWc];exact ca _ (by simp at hj;omega)) (fun j hj=>by rw[hWf,ai,World.frozen?_setCells];exact bk _) a5
   have a0:FE ((w.drew.setCells b (i+1) ((hV l).drop i)).setCells b i [Xu x]) B (.slice (some ⟨b,0,none⟩) (n+1) c) (l.take i++x::l.drop i):=by
    have a7:=mM [Xu x] i (mM ((hV l).drop i) (i+1) (w:=w.drew) al);refine⟨by simp[hV],.inr ⟨b,c,_,by rw[lR (by omega),hn],hb,a7,by rw[lR (by omega),hn];exact hroom,b1,by rw[lw,lw,bf,Nat.mul_one],?_⟩⟩;rw[lR (by omega),hn,Nat.mul_one,uH];exact Ed ap a8 (by omega) (by omega)
   have a1:w.grownBy ((w.drew.setCells b (i+1) ((hV l).drop i)).setCells b i [Xu x]) (some b):=(Bf w _).trans ((mK _ _ _).trans (mK _ _ _));have HF:=kq2 a0 a1;rw[<-ai] at b2 HF;clear a0 a1 au a' bk ca ap al hx ar bb a5 hne h;go_enter func332,ntmps332
   go_wp2_with (simp only[c6])
   go_region_law_o (refine step_copy_runI rfl _ _ 229 229 rfl _ _ (by simp[Act.eval,Act.put]) (by simp[Act.eval,Act.put]) (b2 _ _ _) ?_)
   go_wp2_with (at_builtin;refine wpList_copy_runI _ rfl _ _ 229 229 rfl _ _ rfl rfl (cw _ (fun _=>rfl) (fun _=>rfl) _ _) ?_)
   go_ret;rw[<-ai];exact⟨_,rfl,HF.a,HF.b,ab rfl⟩
  ·have cv:c=n:=by omega
   subst cv;have cs:b<w.heap.size:=(gl al);have c7:vb<w.heap.size:=(gl hx);have b9:(c:Int)+1-(i:Int)=((c+1-i:Nat):Int):=by omega
   have bm:i+(c+1-i)=c+1:=by omega
   have hold:(Builtin.firstCells ti.size i (.slice (some ⟨b,0,none⟩) i c)).run prog w.drew=.ok ((hV l).take i).toArray w.drew:=by
    rw[a3];exact run_firstCells_some w.drew 1 i ⟨b,0,none⟩ i c ((hV l).take i) (by rw[aB];omega) (fun j v hj=>by
     rw[Addr.add_lit];rw[cy] at hj
     split at hj
     ·exact au j v hj
     ·cases hj)
   have a9:∀ty,(Builtin.append_ #[229,3] ty #[.slice (some ⟨b,0,none⟩) i c,Xi ((c:Int)+1-(i:Int))]).run prog w=
    .ok (.slice (some ⟨w.heap.size,0,none⟩) (c+1) (grownCap w (c+1) c 83)) (w.drew.alloc (.cells (((hV l).take i).toArray++Builtin.zeroCells (Value.int .u64 0).cells (c+1-i)++Builtin.zeroCells (Value.int .u64 0).cells (grownCap w (c+1) c 83-(c+1))) 83)):=fun ty=>by
    have h:=Lib.run_append_grow_zeros w 229 3 ty 83 ti _ .i64 .i64 underlying229 underlying3 a2 bc (some ⟨b,0,none⟩) i c ((hV l).take i) hold (c+1-i) (by omega) (by omega) (by omega) (by omega) (by rw[a4];omega) (by rw[a4,bm];exact growslice_fits (by omega) (by omega));rw[bm] at h;rw[b9];exact h
   obtain⟨G,hG⟩:∃G,G=grownCap w (c+1) c 83:=⟨_,rfl⟩;obtain⟨ad,a6⟩:∃ad:Array Value,ad=((hV l).take i).toArray++Builtin.zeroCells (Value.int .u64 0).cells (c+1-i)++Builtin.zeroCells (Value.int .u64 0).cells (G-(c+1)):=⟨_,rfl⟩;rw[<-hG] at a9;rw[<-a6] at a9;have cn:c+1<=G:=by rw[hG];exact grownCap_ge w _ _ _
   have bs:G<=maxLen:=by rw[hG];exact grownCap_le_maxLen w (c+1) c 83 (by unfold maxLen;omega)
   have bv:ad.size=G:=by
    rw[a6];simp only[Array.size_append,bq,size_zeroCells,aB,a8]
    simp[Value.cells]
    omega
   have b0:∀j,j<i->ad[j]?=(hV l)[j]?:=fun j hj=>by
    rw[a6,Array.append_assoc,Array.getElem?_append_left (by simp;omega),cq,cy,if_pos hj]
   obtain⟨W1,ai⟩:∃W1,W1=w.drew.alloc (.cells ad 83):=⟨_,rfl⟩;rw[<-ai] at a9;have hN:∀j,j<c+1->(W1.cell? ⟨w.heap.size,j,none⟩).isSome=true:=fun j hj=>by
    rw[ai,World.cell?_alloc_at (w:=w.drew) ad _ w.heap.size j rfl,Array.getElem?_eq_getElem (by omega)]
    rfl
   have bd:∀j,W1.frozen? ⟨w.heap.size,j,none⟩=false:=fun j=>by rw[ai];exact World.frozen?_alloc_at (w:=w.drew) ad _ w.heap.size j rfl
   have bt:∀j v,w.cell? ⟨b,j,none⟩=some v->W1.cell? ⟨b,j,none⟩=some v:=fun j v h=>by rw[ai,World.cell?_alloc_past (w:=w.drew) _ b j cs];exact h
   have bu:∀j v,w.cell? ⟨vb,j,none⟩=some v->W1.cell? ⟨vb,j,none⟩=some v:=fun j v h=>by rw[ai,World.cell?_alloc_past (w:=w.drew) _ vb j c7];exact h
   have cx:∀(W:World),(∀x,W.cell? x=W1.cell? x)->(∀x,W.frozen? x=W1.frozen? x)->∀ty dc,(Builtin.copy_ #[229,229] ty #[.slice (some ⟨w.heap.size,i,none⟩) (c+1-i) dc,.slice (some ⟨vb,0,none⟩) 1 1]).run prog W=.ok (goInt [Value.int .u64 x].length) (W.setCells w.heap.size i [Xu x]):=fun W hWc hWf ty dc=>
    run_copy_cells W _ _ ty 83 w.heap.size i (c+1-i) dc ⟨vb,0,none⟩ 1 1 [Xu x] underlying229 ba (by simp only[Nat.min_def,av,aL];split<;>omega)
     (fun j v hj=>by rw[Addr.add_lit,hWc];exact bu _ v (bb j v hj))
     (fun j hj=>by rw[hWc];exact hN _ (by simp at hj;omega)) (fun j hj=>by rw[hWf];exact bd _) a5
   have cr:b≠w.heap.size:=by omega
   have b4:∀(W:World),(∀y,W.cell? y=(W1.setCells w.heap.size i [Xu x]).cell? y)->(∀y,W.frozen? y=(W1.setCells w.heap.size i [Xu x]).frozen? y)->∀ty dc sc,(Builtin.copy_ #[229,229] ty #[.slice (some ⟨w.heap.size,i+1,none⟩) (c-i) dc,.slice (some ⟨b,i,none⟩) (c-i) sc]).run prog W=.ok (goInt ((hV l).drop i).length) (W.setCells w.heap.size (i+1) ((hV l).drop i)):=fun W hWc hWf ty dc sc=>
    run_copy_cells W _ _ ty 83 w.heap.size (i+1) (c-i) dc ⟨b,i,none⟩ (c-i) sc ((hV l).drop i) underlying229 ba (by rw[bj];simp only[Nat.min_def];split<;>omega)
     (fun j v hj=>by
      rw[Addr.add_lit,hWc,World.cell?_setCells_out _ _ _ _ _ (fun h _=>absurd h cr)];have:=au (i+j) v (by rwa[dL] at hj);rw[bQ] at this;exact bt _ v this)
     (fun j hj=>by rw[hWc];exact isSome_setCells _ _ _ _ (fun t ht=>hN _ (by simp at ht;omega)) _ (hN _ (by omega)))
     (fun j hj=>by rw[hWf,World.frozen?_setCells];exact bd _) (fun v hv=>uI v (bB hv))
   have a0:FE (((w.alloc (.cells ad 83)).drew.setCells w.heap.size i [Xu x]).drew.setCells w.heap.size (i+1) ((hV l).drop i)) B (.slice (some ⟨w.heap.size,0,none⟩) (c+1) G) (l.take i++x::l.drop i):=by
    have a7:=mM ((hV l).drop i) (i+1) (w:=((w.alloc (.cells ad 83)).drew.setCells w.heap.size i [Xu x]).drew) (mM [Xu x] i (w:=(w.alloc (.cells ad 83)).drew) (heap_alloc_new w (.cells ad 83)));refine⟨by simp[hV],.inr ⟨w.heap.size,G,_,by rw[lR (by omega),hn],hB,a7,by rw[lR (by omega),hn];exact cn,bs,by rw[lw,lw,bv,Nat.mul_one],?_⟩⟩;rw[lR (by omega),hn,Nat.mul_one,uH];exact Ee b0 a8 (by omega) (by omega)
   have a1:w.grownBy (((w.alloc (.cells ad 83)).drew.setCells w.heap.size i [Xu x]).drew.setCells w.heap.size (i+1) ((hV l).drop i)) (some b):=by
    have g1:=mK (b:=w.heap.size) [Xu x] (w.alloc (.cells ad 83)).drew i;have g2:=mK (b:=w.heap.size) ((hV l).drop i) ((w.alloc (.cells ad 83)).drew.setCells w.heap.size i [Xu x]).drew (i+1);refine⟨g2.os.trans g1.os,g2.tape.trans g1.tape,g2.output.trans g1.output,aO (by show w.heap.size<=(w.alloc _).heap.size;simp) (aO g1.size g2.size),fun k hk _=>?_⟩;have e1:=ol (b:=w.heap.size) (k:=k) (by omega) ((hV l).drop i) ((w.alloc (.cells ad 83)).drew.setCells w.heap.size i [Xu x]).drew (i+1);have e2:=ol (b:=w.heap.size) (k:=k) (by omega) [Xu x] (w.alloc (.cells ad 83)).drew i;exact e1.trans (e2.trans (heap_alloc_old _ _ hk))
   have HF:=kq2 a0 a1;subst ai;have ch:∀x,((w.alloc (.cells ad 83)).drew).cell? x=(w.drew.alloc (.cells ad 83)).cell? x:=fun x=>rfl;have cj:∀x,((w.alloc (.cells ad 83)).drew).frozen? x=(w.drew.alloc (.cells ad 83)).frozen? x:=fun x=>rfl;have ck:∀y,(((w.alloc (.cells ad 83)).drew.setCells w.heap.size i [Xu x]).drew).cell? y=((w.drew.alloc (.cells ad 83)).setCells w.heap.size i [Xu x]).cell? y:=fun x=>rfl;have cl:∀y,(((w.alloc (.cells ad 83)).drew.setCells w.heap.size i [Xu x]).drew).frozen? y=((w.drew.alloc (.cells ad 83)).setCells w.heap.size i [Xu x]).frozen? y:=fun x=>rfl;have c9:¬(G=i):=by omega
   have c':¬(G=i+1):=by omega
   have dv:¬(c=i):=by omega
   have c3:i<=c:=by omega
   have cp:(i:Int)<=(c:Int):=by omega
   have c8:G<=9223372036854775807:=by unfold maxLen at bs;omega
   have d0:(c:Int)<(c:Int)+1:=by omega
   clear b9 bm hold a6 hG bv b0 hN bd bt bu a0 a1 au hx ar bb a5 hne h al ap hroom;go_enter func332,ntmps332
   go_wp2_with (first
    | (at_builtin;refine Lib.wpList_append_run _ rfl _ _ _ _ rfl _ _ rfl rfl _ _ (a9 _) ?_)
    | (at_builtin;refine wpList_copy_runI _ rfl _ _ 229 229 rfl _ _ rfl rfl (cx _ ch cj _ _) ?_)
    | (at_builtin;refine wpList_copy_runI _ rfl _ _ 229 229 rfl _ _ rfl rfl (b4 _ (fun _=>rfl) (fun _=>rfl) _ _ _) ?_))
   go_region_law_o (refine step_copy_runI rfl _ _ 229 229 rfl (.slice (some ⟨w.heap.size,i+1,none⟩) (c-i) (G-(i+1))) (.slice (some ⟨b,i,none⟩) (c-i) (c-i)) (by simp[Act.eval,Act.put]) (by simp[Act.eval,Act.put]) (b4 _ ck cl 3 (G-(i+1)) (c-i)) ?_)
   go_wp2
   go_ret;exact⟨_,rfl,HF.a,HF.b,ae ⟨_,rfl,Nat.le_refl _⟩⟩
end
section
open Go.RowKit Tryz Go.BigFrame Go.Maps Go.WideMaps Lf
variable{S:St}{Y:Nat->Prop}{ps:Nat}{w:World}
theorem uy(a0 a1 a2 a3 a4 a5:Value)(w:World):(Instr.field 232 (.agg #[a0,a1,a2,a3,a4,a5]) 4).run prog w=.ok a4 w:=by kernel_rfl
def Lf.blackT(S:St)(h:Nat):Nat:=(getNode S h).1.mark / 2
def Lf.redT(S:St)(h:Nat):Bool:=decide ((getNode S h).1.mark % 2=1)
def Lf.putRM(S:St)(h l r:Nat)(isRed:Bool):Option St:=
 match fY S l,fY S r with
 | some x,some y=>if 4611686018427387904<=blackT S l then none else
  some (gM S h { (getNode S h).1 with left:=l,right:=r,mark:=blackT S l*2+(if isRed then 1 else 2),size:=x+y+1 }).2
 | _,_=>none
theorem wA{S S':St}{h l r:Nat}{c:Bool}(hp:putRM S h l r c=some S'):∃x y,fY S l=some x/\fY S r=some y/\blackT S l<2^62/\
 S'=(gM S h { (getNode S h).1 with left:=l,right:=r,mark:=blackT S l*2+(if c then 1 else 2),size:=x+y+1 }).2:=by
 unfold putRM at hp;split at hp
 ·rename_i x y h1 h2;split at hp
  ·cases hp
  ·exact⟨x,y,h1,h2,by omega,(Option.some.inj hp).symm⟩
 ·cases hp
theorem oQ(h:Ig w ps S Y)(hi:Fv S)(hh:Nat)(hl:hh<2^64):
 Cb 228 #[PV ps,Xu hh] w (eS (getNode S hh).1):=by
 have B0:=(aa w.heap.size w).alloc Ih (.cells #[Xu 0,Xu 0,Xu 0,Xu 0,Xu 0,Xu 0] 232);have q0:=heap_alloc_new w (.cells #[Xu 0,Xu 0,Xu 0,Xu 0,Xu 0,Xu 0] 232);have hg:=iO (h.below B0) hi hh hl;obtain⟨⟨⟨k0,k1,k2,k3,k4,k5⟩,er⟩,hE⟩:∃r,getNode S hh=r:=⟨_,rfl⟩;rw[hE] at hg⊢;unfold eS at hg⊢;simp only at hg⊢;have HG:=kq3 hg B0 q0;clear hg h hi hE B0 q0;go_enter func228,ntmps228;go_wp2_with fail;refine wx HG.a fun w1 hb=>?_;have ad:=hb.alloc hb.size (Xd k0 k1 k2 k3 k4 k5);have r0:=(ad.block w.heap.size (by simp)).trans HG.c;have B1:=HG.b.trans (ad.mono HG.b.size);obtain⟨c0,c1,c2,c3,c4,c5⟩:=ia r0;obtain⟨f0,f1,f2,f3,f4,f5⟩:=lP r0;have HB:=kq2 r0 B1;clear r0 B1 ad hb;go_wp2_with fail;have q6:=xj HB.a (Xu k0) (Xu k1) (Xu k2) (Xu k3) (Xu k4) (Xu k5);have B6:=xh HB.b (Nat.le_refl w.heap.size) (Xu k0) (Xu k1) (Xu k2) (Xu k3) (Xu k4) (Xu k5);generalize (((((((w1.alloc (Xd k0 k1 k2 k3 k4 k5)).setCell ⟨w.heap.size,0,none⟩ (Xu k0)).setCell ⟨w.heap.size,1,none⟩ (Xu k1)).setCell ⟨w.heap.size,2,none⟩ (Xu k2)).setCell ⟨w.heap.size,3,none⟩ (Xu k3)).setCell ⟨w.heap.size,4,none⟩ (Xu k4)).setCell ⟨w.heap.size,5,none⟩ (Xu k5))=W6 at q6 B6⊢;obtain⟨g0,g1,g2,g3,g4,g5⟩:=ia q6;exact bodyPost_ret (v:=.agg #[Xu k0,Xu k1,Xu k2,Xu k3,Xu k4,Xu k5]) (by simp[results,f228,go_sem,g0,g1,g2,g3,g4,g5]) rfl ⟨rfl,B6⟩
theorem gy(h:Ig w ps S Y)(hi:Fv S)(hh:Nat)(hl:hh<2^64):
 Cb 224 #[PV ps,Xu hh] w (Xu (blackT S hh:Nat)):=by
 have hg:=oQ h hi hh hl;unfold blackT;obtain⟨⟨⟨k0,k1,k2,k3,k4,k5⟩,er⟩,hE⟩:∃r,getNode S hh=r:=⟨_,rfl⟩;rw[hE] at hg⊢;unfold eS at hg;simp only at hg⊢;have ad:=uy;have HG:=If hg;clear hg h hi hE;go_enter func224,ntmps224;go_wp2_with fail;refine wx HG.out fun w1 hb=>?_;have HB:=If hb;clear hb;go_wp2_with fail;go_ret;exact⟨by simp,HB.out⟩
theorem gq(h:Ig w ps S Y)(hi:Fv S)(hh:Nat)(hl:hh<2^64):
 Cb 227 #[PV ps,Xu hh] w (.bool (redT S hh)):=by
 have hg:=oQ h hi hh hl;have ad:=(fs h hh).mark;unfold redT;obtain⟨⟨⟨k0,k1,k2,k3,k4,k5⟩,er⟩,hE⟩:∃r,getNode S hh=r:=⟨_,rfl⟩;rw[hE] at hg ad⊢;unfold eS at hg;simp only at hg ad⊢;have ai:bits BinOp.and IntKind.u64 (k4:Int) 1=((k4 % 2:Nat):Int):=by
  have h1:=bits_and_u64_nat k4 1 ad (by decide);rw[show ((1:Nat):Int)=1 from rfl] at h1;rw[h1,Nat.and_one_is_mod]
 have HA:=If ai;clear ai;have al:=uy;have HG:=If hg;clear hg h hi hE;go_enter func227,ntmps227;go_wp2_with fail;refine wx HG.out fun w1 hb=>?_;have HB:=If hb;clear hb;go_wp2_with fail;go_ret;refine⟨?_,HB.out⟩;rw[HA.out]
 rcases dD k4 with e | e<;>simp[e]
theorem io(h:Ig w ps S Y)(hi:Fv S)(hh:Nat)(hl:hh<2^64):
 Cb 223 #[PV ps,Xu hh] w (.bool (isT S hh)):=by
 have hg:=iO h hi hh hl;obtain⟨R,hR⟩:=Ii (isT S hh);rw[hR];unfold isT at hR;obtain⟨⟨⟨k0,k1,k2,k3,k4,k5⟩,er⟩,hE⟩:∃r,getNode S hh=r:=⟨_,rfl⟩;rw[hE] at hg hR;unfold eS at hg;simp only at hg hR;have ad:R=(((hh:Int)==0) || ((er:Int)==0)):=by
  rw[<-hR]
  by_cases a:hh=0<;>by_cases b:er=0<;>simp[a,b]<;>omega
 have HG:=kq2 hg ad;clear hg h hi hE hR ad
 by_cases h0:hh=0
 ·subst h0;go_enter func223,ntmps223;go_wp2_with fail;refine wx HG.a fun w1 hb=>?_;have HB:=If (hb.alloc hb.size (Xd k0 k1 k2 k3 k4 k5));clear hb;go_wp2_with fail;go_ret;obtain rfl:=HG.b;exact⟨by simp,HB.out⟩
 ·have hq:((hh:Int)==0)=false:=by simp;omega
  go_enter func223,ntmps223;go_wp2_with fail;refine wx HG.a fun w1 hb=>?_;have HB:=If (hb.alloc hb.size (Xd k0 k1 k2 k3 k4 k5));clear hb;go_wp2_with fail;go_ret;obtain rfl:=HG.b;exact⟨by simp[hq],HB.out⟩
theorem qVwaa{P:Prop}(h:P:=by
 have B6:=H5.a.setCell (p:=⟨b,5,none⟩) H2.c (Xu ((x:Int)+y+1));refine(HG.e _ _ (HG.f.wide B6)).mono ?_;rintro e w7 ⟨rfl,h7,k7⟩;have H7:=kq2 (h7.mono (Z:=Y) fun k hk=>ab hk) ((Fo.of_below B6 HG.f.yl).trans (k7.mono fun k hk=>ab hk));clear h7 k7 r6 B6 c0 c1 c2 c3 c4 c5 f0 f1 f2 f3 f4 f5;go_wp2_with fail;go_ret;exact⟨rfl,H7.out⟩):P:=h
theorem nh{S S':St}(h:Ig w ps S Y)(hi:Fv S)(hh l r:Nat)(c:Bool)(hl:hh<2^64)(hll:l<2^64)(hrl:r<2^64)(hp:putRM S hh l r c=some S'):
 Ct 226 #[PV ps,Xu hh,Xu l,Xu r,.bool c] w fun e w'=>e=.returned (Xu hh)/\Ig w' ps S' Y/\Fo Y w w':=by
 obtain⟨x,y,h1,h2,au,rfl⟩:=wA hp;have hx:x<2^62:=by have:=num_some h1;omega
 have hy:y<2^62:=by have:=num_some h2;omega
 have ad:=fs h hh;have hg:=oQ h hi hh hl;have hb:=fun W (hW:Below w.heap.size w W)=>gy (h.below hW) hi l hll;have al:=fun W (hW:Below w.heap.size w W)=>kP (h.below hW) hi l hll h1;have ap:=fun W (hW:Below w.heap.size w W)=>kP (h.below hW) hi r hrl h2;generalize blackT S l=bk at*;obtain⟨⟨⟨k0,k1,k2,k3,k4,k5⟩,er⟩,hE⟩:∃q,getNode S hh=q:=⟨_,rfl⟩;rw[hE] at hg ad⊢;simp only at ad⊢;have ai:=fun W Z (hW:Ig W ps S Z)=>rM hW hi hh hl ⟨k0,k1,l,r,bk*2+(if c then 1 else 2),x+y+1⟩ ⟨ad.key,ad.val,hll,hrl,by simp only;split<;>omega,by simp only;omega⟩;have ar:eS ⟨k0,k1,l,r,bk*2+(if c then 1 else 2),x+y+1⟩=.agg #[Xu k0,Xu k1,Xu l,Xu r,Xu ((bk*2+(if c then 1 else 2):Nat):Int),Xu ((x:Int)+y+1)]:=by simp[eS]
 rw[ar] at ai;unfold eS at hg;simp only at hg;have HG:=kq6 hg hb al ap ai h;have a1:IntKind.u64.wrap ((bk:Int)*2)=(bk:Int)*2:=by rw[IntKind.wrap_u64];omega
 have a2:IntKind.u64.wrap ((bk:Int)*2+2)=(bk:Int)*2+2:=by rw[IntKind.wrap_u64];omega
 have a0:bits BinOp.or IntKind.u64 ((bk:Int)*2) 1=(bk:Int)*2+1:=by
  rw[show ((bk:Int)*2)=((bk*2:Nat):Int) by simp,show (1:Int)=((1:Nat):Int) from rfl,bits_or_u64_nat _ _ (by omega) (by decide)];have:bk*2 ||| 1=bk*2+1:=by
   rw[show bk*2=bk<<<1 by simp[Nat.shiftLeft_eq]];exact(cN (by decide) bk).symm
  omega
 clear hg hb al ap ai ar h hi hE hp h1 h2 ad
 cases c with
 | true=>
  simp only[if_true] at HG⊢;go_enter func226,ntmps226;go_wp2_with fail;refine wx HG.a fun w1 hb1=>?_;have q1:=heap_alloc_new w1 (Xd k0 k1 l r k4 k5);have B1:=hb1.alloc hb1.size (Xd k0 k1 l r k4 k5);have z1:=hb1.size;clear hb1;go_wp2_with fail;generalize w1.alloc (Xd k0 k1 l r k4 k5)=W at*;generalize w1.heap.size=b at*;refine wx (HG.b _ B1) fun w2 hb2=>?_;have r2:=(hb2.block b (gl q1)).trans q1;obtain⟨c0,c1,c2,c3,c4,c5⟩:=ia r2;obtain⟨f0,f1,f2,f3,f4,f5⟩:=lP r2;have H2:=kq3 (B1.trans (hb2.mono B1.size)) r2 z1;clear hb2 r2 B1 q1 z1;go_wp2_with fail;have r3:((w2.setCell ⟨b,4,none⟩ (Xu ((bk:Int)*2))).setCell ⟨b,4,none⟩ (Xu ((bk:Int)*2+1))).heap[b]?=some (Xd k0 k1 l r ((bk:Int)*2+1) k5):=by rw[heap_setCell (heap_setCell H2.b)];rfl
  have B3:=(H2.a.setCell (p:=⟨b,4,none⟩) H2.c (Xu ((bk:Int)*2))).setCell (p:=⟨b,4,none⟩) H2.c (Xu ((bk:Int)*2+1));generalize ((w2.setCell ⟨b,4,none⟩ (Xu ((bk:Int)*2))).setCell ⟨b,4,none⟩ (Xu ((bk:Int)*2+1)))=w3 at*;clear c0 c1 c2 c3 c4 c5 f0 f1 f2 f3 f4 f5;refine wx (HG.c _ B3) fun w4 hb4=>?_;have H4:=kq2 (B3.trans (hb4.mono B3.size)) ((hb4.block b (gl r3)).trans r3);clear hb4 r3 B3;go_wp2_with fail;refine wx (HG.d _ H4.a) fun w5 hb5=>?_;have r5:=(hb5.block b (gl H4.b)).trans H4.b;obtain⟨c0,c1,c2,c3,c4,c5⟩:=ia r5;obtain⟨f0,f1,f2,f3,f4,f5⟩:=lP r5;have H5:=kq2 (H4.a.trans (hb5.mono H4.a.size)) r5;clear hb5 r5;go_wp2_with fail;have r6:(w5.setCell ⟨b,5,none⟩ (Xu ((x:Int)+y+1))).heap[b]?=some (Xd k0 k1 l r ((bk:Int)*2+1) ((x:Int)+y+1)):=heap_setCell H5.b;exact qVwaa
 | false=>
  simp only[bO,if_false] at HG⊢;go_enter func226,ntmps226;go_wp2_with fail;refine wx HG.a fun w1 hb1=>?_;have q1:=heap_alloc_new w1 (Xd k0 k1 l r k4 k5);have B1:=hb1.alloc hb1.size (Xd k0 k1 l r k4 k5);have z1:=hb1.size;clear hb1;go_wp2_with fail;generalize w1.alloc (Xd k0 k1 l r k4 k5)=W at*;generalize w1.heap.size=b at*;refine wx (HG.b _ B1) fun w2 hb2=>?_;have r2:=(hb2.block b (gl q1)).trans q1;obtain⟨c0,c1,c2,c3,c4,c5⟩:=ia r2;obtain⟨f0,f1,f2,f3,f4,f5⟩:=lP r2;have H2:=kq3 (B1.trans (hb2.mono B1.size)) r2 z1;clear hb2 r2 B1 q1 z1;go_wp2_with fail;have r3:((w2.setCell ⟨b,4,none⟩ (Xu ((bk:Int)*2))).setCell ⟨b,4,none⟩ (Xu ((bk:Int)*2+2))).heap[b]?=some (Xd k0 k1 l r ((bk:Int)*2+2) k5):=by rw[heap_setCell (heap_setCell H2.b)];rfl
  have B3:=(H2.a.setCell (p:=⟨b,4,none⟩) H2.c (Xu ((bk:Int)*2))).setCell (p:=⟨b,4,none⟩) H2.c (Xu ((bk:Int)*2+2));generalize ((w2.setCell ⟨b,4,none⟩ (Xu ((bk:Int)*2))).setCell ⟨b,4,none⟩ (Xu ((bk:Int)*2+2)))=w3 at*;clear c0 c1 c2 c3 c4 c5 f0 f1 f2 f3 f4 f5;refine wx (HG.c _ B3) fun w4 hb4=>?_;have H4:=kq2 (B3.trans (hb4.mono B3.size)) ((hb4.block b (gl r3)).trans r3);clear hb4 r3 B3;go_wp2_with fail;refine wx (HG.d _ H4.a) fun w5 hb5=>?_;have r5:=(hb5.block b (gl H4.b)).trans H4.b;obtain⟨c0,c1,c2,c3,c4,c5⟩:=ia r5;obtain⟨f0,f1,f2,f3,f4,f5⟩:=lP r5;have H5:=kq2 (H4.a.trans (hb5.mono H4.a.size)) r5;clear hb5 r5;go_wp2_with fail;have r6:(w5.setCell ⟨b,5,none⟩ (Xu ((x:Int)+y+1))).heap[b]?=some (Xd k0 k1 l r ((bk:Int)*2+2) ((x:Int)+y+1)):=heap_setCell H5.b;exact qVwaa
theorem DQ(h:Ig w ps S Y)(hi:Fv S):
 Cb 200 #[PV ps,Xu 0] w (Xi 0):=by
 have hc:=xS h hi;have hl:=fun W (hW:Below w.heap.size w W)=>sY (h.below hW);have HG:=kq2 hc hl;clear hc hl h hi;go_enter func200,ntmps200;go_wp2_with fail;refine wx HG.a fun w1 hb1=>?_;have H1:=If hb1;clear hb1;go_wp2_with fail;refine wx (HG.b _ H1.out) fun w2 hb2=>?_;have H2:=If (H1.out.trans (hb2.mono H1.out.size));clear hb2;go_wp2_with fail
 go_loopw [7,8,9,10,21] (fun _ _ _ _ k wr=>k=Xi 0/\wr=w2) (fun _ _ _ _ _ _=>0)
 case atStart=>exact⟨rfl,rfl⟩
 case round=>
  obtain⟨rfl,rfl⟩:=hrel;go_wp2_with fail;go_ret;exact⟨rfl,H2.out⟩
theorem Aj:nI 200 where
 enter args w:=by go_simp
 call h hi:=DQ h hi
theorem E3:j6 2 199 200:=by
 intro W;simp only[eL];go_enter func184,ntmps184;go_wp2_with fail;exact bodyPost_ret (v:=.tuple #[.agg #[.func (.func 199) #[] #[],.func (.func 200) #[] #[]],.bool true]) (by simp[results,f184,go_sem]) rfl ⟨rfl,(aa _ _).alloc Ih _⟩
theorem vI{pm px ps limit:Nat}(hM:Ic w pm px ps limit)(pl:FuncId)(hen:∀(args:Array Value) (w:World),(callFunc pl args).run prog w=.ok (.enter pl args) w)(a:List UInt8)(k:Int)(s1 s2:List UInt8)
 (hpl:∀W,Below w.heap.size w W->Ct pl #[PV pm,SV a] W fun e w'=>e=.returned (Xi k)/\Below W.heap.size W w')
 (hat:∀W,Below w.heap.size w W->Cb 53 #[PV px,Xi k] W (.tuple #[.agg #[SV s1,SV s2],Xi 0])):
 Cb 51 #[PV pm,eL pl,SV a] w (.tuple #[.agg #[SV s1,SV s2],Xi 0]):=by
 have B0:=(aa w.heap.size w).alloc Ih (.cells #[.string ⟨#[]⟩,.string ⟨#[]⟩] 34);have y0:=heap_alloc_new w (.cells #[.string ⟨#[]⟩,.string ⟨#[]⟩] 34);have hn:=ki (hM.below B0);obtain⟨I,a3,au⟩:∃I:World->Prop,(∀w',I w'->Ic w' pm px ps limit)/\(∀w',Ic w' pm px ps limit->I w'):=⟨fun w'=>Ic w' pm px ps limit,fun _ h=>h,fun _ a=>a⟩;have a0:=fun x:Fq I=>a3 _ x.ok;simp only[Ic] at a0;obtain⟨m0,m1,m2⟩:=qf a0;have a2:I (w.alloc (.cells #[.string ⟨#[]⟩,.string ⟨#[]⟩] 34)).drew:=au _ (hM.below B0.drew);have HI:=If au;have HG:=kq6 hn hpl hat hM B0 y0;clear hn hpl hat hM a3 au a0 B0 y0;simp only[eL];go_enter func51,ntmps51;go_wp2_with fail;refine Jc HG.a ?_;go_wp2_with fail;refine fh I (.take 0 (.take 1 (.take 2 (.take 3 (.take 4 (.take 5 (.take 6 (.two 7 12 (.two 8 12 (.take 9 (.take 10 (.take 11 (.go 12 (.go 13 (.go 14 .nil)))))) (.go 8 (.take 9 (.take 10 (.take 11 (.go 13 (.go 14 .nil))))))) (.go 7 (.go 8 (.take 9 (.take 10 (.take 11 (.go 13 (.go 14 .nil))))))))))))))) (by kernel_rfl) (by kernel_rfl) a2 ?_;iterate 7
  refine' pT ?_ ?_;rotate_left
  ·intro x;go_simp;try rfl
  try simp only[pu]
 refine gL ?h1 ?h2
 case' h1=>
  refine pD fun K hK=>?_;go_simp;refine wx (HG.b _ HG.e.drew) fun w2 hb2=>?_;have ar:=HG.e.drew.trans (hb2.mono HG.e.drew.size);have a5:=(hb2.block w.heap.size (gl HG.f)).trans HG.f;have a4:Ic w2 pm px ps limit:=HG.d.below ar;try go_simp
  refine hK.out _ _ (HI.out _ a4) ?_;clear hK K;try simp only[pu]
  have ad:=kq2 ar a5;clear a5 ar a4 hb2;refine gL ?h3 ?h4
  case' h3=>
   refine pD fun K hK=>?_;go_simp;refine wx (HG.c _ ad.a) fun w3 hb3=>?_;have al:=ad.a.trans (hb3.mono ad.a.size);have ap:=(hb3.block w.heap.size (gl ad.b)).trans ad.b;have a1:Ic w3 pm px ps limit:=HG.d.below al;clear hb3;try go_simp
   refine hK.out _ _ (HI.out _ a1) ?_;clear hK K;try simp only[pu]
   iterate 3
    refine' pT ?_ ?_;rotate_left
    ·intro x;go_simp;try rfl
    try simp only[pu]
   refine pD fun K hK=>?_;go_simp;have A4:=(aa w3.heap.size w3).alloc Ih (.cells #[.string ⟨#[]⟩,.string ⟨#[]⟩] 34);have mA:=a1.below A4;have BA:=al.trans (A4.mono al.size);have yA:=(A4.block w.heap.size (gl ap)).trans ap;have qA:=heap_alloc_new w3 (.cells #[.string ⟨#[]⟩,.string ⟨#[]⟩] 34);have ai:w.heap.size<w3.heap.size:=(gl ap);clear A4 a1 al ap ad;generalize w3.alloc (.cells #[.string ⟨#[]⟩,.string ⟨#[]⟩] 34)=W at*;generalize w3.heap.size=b8 at*;try go_simp
   refine hK.out _ _ (HI.out _ mA) ?_;clear hK K;try simp only[pu]
   obtain⟨c0,c1⟩:=Fp qA;obtain⟨f0,f1⟩:=ef qA;have HA:=kq5 mA BA yA qA ai;clear mA BA yA qA ai;refine pD fun K hK=>?_;go_simp;have qB:=ew HA.d (SV s1) (SV s2);have BB:=eT HA.b (dt HA.e) (SV s1) (SV s2);have yB:=(fA (dg HA.e) (SV s1) (SV s2)).trans HA.c;have mB:Ic ((W.setCell ⟨b8,0,none⟩ (SV s1)).setCell ⟨b8,1,none⟩ (SV s2)) pm px ps limit:=HG.d.below BB;clear c0 c1 f0 f1 HA;generalize ((W.setCell ⟨b8,0,none⟩ (SV s1)).setCell ⟨b8,1,none⟩ (SV s2))=W7 at*;try go_simp
   refine hK.out _ _ (HI.out _ mB) ?_;clear hK K;try simp only[pu]
   refine pD fun K hK=>?_;go_simp;try go_simp
   refine hK.out _ _ (HI.out _ mB) ?_;clear hK K;try simp only[pu]
   refine eP ?_;have H7:=kq3 BB yB qB;clear BB yB qB mB;clear w2 w3
  case' h4=>
   refine pD fun K hK=>?_;go_simp;have A4:=(aa w2.heap.size w2).alloc Ih (.cells #[.string ⟨#[]⟩,.string ⟨#[]⟩] 34);have BZ:=ad.a.trans (A4.mono ad.a.size);have yZ:=(A4.block w.heap.size (gl ad.b)).trans ad.b;have qZ:=heap_alloc_new w2 (.cells #[.string ⟨#[]⟩,.string ⟨#[]⟩] 34);have mZ:Ic (w2.alloc (.cells #[.string ⟨#[]⟩,.string ⟨#[]⟩] 34)) pm px ps limit:=HG.d.below BZ;have ai:w.heap.size<w2.heap.size:=(gl ad.b);clear A4 ad;generalize w2.alloc (.cells #[.string ⟨#[]⟩,.string ⟨#[]⟩] 34)=w4 at*;generalize w2.heap.size=b8 at*;try go_simp
   refine hK.out _ _ (HI.out _ mZ) ?_;clear hK K;try simp only[pu]
   have HZ:=kq3 BZ yZ qZ;clear BZ yZ qZ mZ;refine pD fun K hK=>?_;go_simp;refine wx (HG.c _ HZ.a) fun W hb3=>?_;have BW:=HZ.a.trans (hb3.mono HZ.a.size);have yW:=(hb3.block w.heap.size (gl HZ.b)).trans HZ.b;have qW:=(hb3.block _ (gl HZ.c)).trans HZ.c;have mW:Ic W pm px ps limit:=HG.d.below BW;clear hb3;try go_simp
   refine hK.out _ _ (HI.out _ mW) ?_;clear hK K;try simp only[pu]
   have mA:=mW;have BA:=BW;have yA:=yW;have qA:=qW;clear mW BW yW qW HZ;iterate 3
    refine' pT ?_ ?_;rotate_left
    ·intro x;go_simp;try rfl
    try simp only[pu]
   obtain⟨c0,c1⟩:=Fp qA;obtain⟨f0,f1⟩:=ef qA;have HA:=kq5 mA BA yA qA ai;clear mA BA yA qA ai;refine pD fun K hK=>?_;go_simp;have qB:=ew HA.d (SV s1) (SV s2);have BB:=eT HA.b (dt HA.e) (SV s1) (SV s2);have yB:=(fA (dg HA.e) (SV s1) (SV s2)).trans HA.c;have mB:Ic ((W.setCell ⟨b8,0,none⟩ (SV s1)).setCell ⟨b8,1,none⟩ (SV s2)) pm px ps limit:=HG.d.below BB;clear c0 c1 f0 f1 HA;generalize ((W.setCell ⟨b8,0,none⟩ (SV s1)).setCell ⟨b8,1,none⟩ (SV s2))=W7 at*;try go_simp
   refine hK.out _ _ (HI.out _ mB) ?_;clear hK K;try simp only[pu]
   refine pD fun K hK=>?_;go_simp;try go_simp
   refine hK.out _ _ (HI.out _ mB) ?_;clear hK K;try simp only[pu]
   refine eP ?_;have H7:=kq3 BB yB qB;clear BB yB qB mB;clear w2 w4
 case' h2=>
  refine pD fun K hK=>?_;go_simp;have A2:=((aa (w.alloc (.cells #[.string ⟨#[]⟩,.string ⟨#[]⟩] 34)).heap.size (w.alloc (.cells #[.string ⟨#[]⟩,.string ⟨#[]⟩] 34))).alloc Ih (.cells #[.string ⟨#[]⟩,.string ⟨#[]⟩] 34)).drew;have BZ:=HG.e.trans (A2.mono HG.e.size);have qZ:((w.alloc (.cells #[.string ⟨#[]⟩,.string ⟨#[]⟩] 34)).alloc (.cells #[.string ⟨#[]⟩,.string ⟨#[]⟩] 34)).drew.heap[(w.alloc (.cells #[.string ⟨#[]⟩,.string ⟨#[]⟩] 34)).heap.size]?=_:=heap_alloc_new (w.alloc (.cells #[.string ⟨#[]⟩,.string ⟨#[]⟩] 34)) (.cells #[.string ⟨#[]⟩,.string ⟨#[]⟩] 34);have yZ:((w.alloc (.cells #[.string ⟨#[]⟩,.string ⟨#[]⟩] 34)).alloc (.cells #[.string ⟨#[]⟩,.string ⟨#[]⟩] 34)).drew.heap[w.heap.size]?=_:=(A2.block w.heap.size (by simp)).trans HG.f;have mZ:Ic ((w.alloc (.cells #[.string ⟨#[]⟩,.string ⟨#[]⟩] 34)).alloc (.cells #[.string ⟨#[]⟩,.string ⟨#[]⟩] 34)).drew pm px ps limit:=HG.d.below BZ;simp only[World.size_alloc] at qZ;clear A2;generalize ((w.alloc (.cells #[.string ⟨#[]⟩,.string ⟨#[]⟩] 34)).alloc (.cells #[.string ⟨#[]⟩,.string ⟨#[]⟩] 34)).drew=w4 at*;try go_simp
  refine hK.out _ _ (HI.out _ mZ) ?_;clear hK K;try simp only[pu]
  have HZ:=kq3 BZ yZ qZ;clear BZ yZ qZ mZ;refine pD fun K hK=>?_;go_simp;refine wx (HG.b _ HZ.a) fun w5 hb2=>?_;have B5:=HZ.a.trans (hb2.mono HZ.a.size);have y5:=(hb2.block w.heap.size (gl HZ.b)).trans HZ.b;have q5:=(hb2.block _ (gl HZ.c)).trans HZ.c;have m5:Ic w5 pm px ps limit:=HG.d.below B5;clear hb2 HZ;try go_simp
  refine hK.out _ _ (HI.out _ m5) ?_;clear hK K;try simp only[pu]
  have HZ:=kq3 B5 y5 q5;clear B5 y5 q5 m5;refine pD fun K hK=>?_;go_simp;refine wx (HG.c _ HZ.a) fun W hb3=>?_;have BW:=HZ.a.trans (hb3.mono HZ.a.size);have yW:=(hb3.block w.heap.size (gl HZ.b)).trans HZ.b;have qW:=(hb3.block _ (gl HZ.c)).trans HZ.c;have mW:Ic W pm px ps limit:=HG.d.below BW;clear hb3;try go_simp
  refine hK.out _ _ (HI.out _ mW) ?_;clear hK K;try simp only[pu]
  have mA:=mW;have BA:=BW;have yA:=yW;have qA:=qW;have ai:w.heap.size<w.heap.size+1:=by omega
  clear mW BW yW qW HZ;generalize w.heap.size+1=b8 at*;iterate 3
   refine' pT ?_ ?_;rotate_left
   ·intro x;go_simp;try rfl
   try simp only[pu]
  obtain⟨c0,c1⟩:=Fp qA;obtain⟨f0,f1⟩:=ef qA;have HA:=kq5 mA BA yA qA ai;clear mA BA yA qA ai;refine pD fun K hK=>?_;go_simp;have qB:=ew HA.d (SV s1) (SV s2);have BB:=eT HA.b (dt HA.e) (SV s1) (SV s2);have yB:=(fA (dg HA.e) (SV s1) (SV s2)).trans HA.c;have mB:Ic ((W.setCell ⟨b8,0,none⟩ (SV s1)).setCell ⟨b8,1,none⟩ (SV s2)) pm px ps limit:=HG.d.below BB;clear c0 c1 f0 f1 HA;generalize ((W.setCell ⟨b8,0,none⟩ (SV s1)).setCell ⟨b8,1,none⟩ (SV s2))=W7 at*;try go_simp
  refine hK.out _ _ (HI.out _ mB) ?_;clear hK K;try simp only[pu]
  refine pD fun K hK=>?_;go_simp;try go_simp
  refine hK.out _ _ (HI.out _ mB) ?_;clear hK K;try simp only[pu]
  refine eP ?_;have H7:=kq3 BB yB qB;clear BB yB qB mB;clear w4 w5
 all_goals
  clear HI a2 m0 m1 m2 I;have y:=H7.b;have q:=H7.c;obtain⟨c0,c1⟩:=Fp y;obtain⟨f0,f1⟩:=ef y;obtain⟨d0,d1⟩:=Fp q;have q5:=ew y (SV s1) (SV s2);have B5:=eT H7.a Ih (SV s1) (SV s2);have HB:=kq2 q5 B5;clear y q q5 B5;go_wp2_with fail;obtain⟨q5,B5⟩:=HB.out;generalize ((W7.setCell ⟨w.heap.size,0,none⟩ ((SV s1))).setCell ⟨w.heap.size,1,none⟩ ((SV s2)))=wF at*;obtain⟨e0,e1⟩:=Fp q5;exact bodyPost_ret (v:=.tuple #[.agg #[(SV s1),(SV s2)],Xi 0]) (by simp[results,f51,go_sem,e0,e1]) rfl ⟨rfl,B5⟩
theorem vJ{pm px ps limit:Nat}(hM:Ic w pm px ps limit)(pl:FuncId)(hen:∀(args:Array Value) (w:World),(callFunc pl args).run prog w=.ok (.enter pl args) w)(a:List UInt8)(k:Int)(s1 s2:List UInt8)
 (hpl:∀W,Below w.heap.size w W->Ct pl #[PV pm,SV a] W fun e w'=>e=.returned (Xi k)/\Below W.heap.size W w')
 (hat:∀W,Below w.heap.size w W->Cb 53 #[PV px,Xi k] W (.tuple #[.agg #[SV s1,SV s2],Xi 2])):
 Cb 51 #[PV pm,eL pl,SV a] w (.tuple #[.agg #[.string ⟨#[]⟩,.string ⟨#[]⟩],Xi 5]):=by
 have B0:=(aa w.heap.size w).alloc Ih (.cells #[.string ⟨#[]⟩,.string ⟨#[]⟩] 34);have y0:=heap_alloc_new w (.cells #[.string ⟨#[]⟩,.string ⟨#[]⟩] 34);have hn:=ki (hM.below B0);obtain⟨I,a3,au⟩:∃I:World->Prop,(∀w',I w'->Ic w' pm px ps limit)/\(∀w',Ic w' pm px ps limit->I w'):=⟨fun w'=>Ic w' pm px ps limit,fun _ h=>h,fun _ a=>a⟩;have a0:=fun x:Fq I=>a3 _ x.ok;simp only[Ic] at a0;obtain⟨m0,m1,m2⟩:=qf a0;have a2:I (w.alloc (.cells #[.string ⟨#[]⟩,.string ⟨#[]⟩] 34)).drew:=au _ (hM.below B0.drew);have HI:=If au;have HG:=kq6 hn hpl hat hM B0 y0;clear hn hpl hat hM a3 au a0 B0 y0;simp only[eL];go_enter func51,ntmps51;go_wp2_with fail;refine Jc HG.a ?_;go_wp2_with fail;refine fh I (.take 0 (.take 1 (.take 2 (.take 3 (.take 4 (.take 5 (.take 6 (.two 7 12 (.two 8 12 (.take 9 (.take 10 (.take 11 (.go 12 (.go 13 (.go 14 .nil)))))) (.go 8 (.take 9 (.take 10 (.take 11 (.go 13 (.go 14 .nil))))))) (.go 7 (.go 8 (.take 9 (.take 10 (.take 11 (.go 13 (.go 14 .nil))))))))))))))) (by kernel_rfl) (by kernel_rfl) a2 ?_;iterate 7
  refine' pT ?_ ?_;rotate_left
  ·intro x;go_simp;try rfl
  try simp only[pu]
 refine gL ?h1 ?h2
 case' h1=>
  refine pD fun K hK=>?_;go_simp;refine wx (HG.b _ HG.e.drew) fun w2 hb2=>?_;have ar:=HG.e.drew.trans (hb2.mono HG.e.drew.size);have a5:=(hb2.block w.heap.size (gl HG.f)).trans HG.f;have a4:Ic w2 pm px ps limit:=HG.d.below ar;try go_simp
  refine hK.out _ _ (HI.out _ a4) ?_;clear hK K;try simp only[pu]
  have ad:=kq2 ar a5;clear a5 ar a4 hb2;refine gL ?h3 ?h4
  case' h3=>
   refine pD fun K hK=>?_;go_simp;refine wx (HG.c _ ad.a) fun w3 hb3=>?_;have al:=ad.a.trans (hb3.mono ad.a.size);have ap:=(hb3.block w.heap.size (gl ad.b)).trans ad.b;have a1:Ic w3 pm px ps limit:=HG.d.below al;clear hb3;try go_simp
   refine hK.out _ _ (HI.out _ a1) ?_;clear hK K;try simp only[pu]
   iterate 3
    refine' pT ?_ ?_;rotate_left
    ·intro x;go_simp;try rfl
    try simp only[pu]
   refine pD fun K hK=>?_;go_simp;have A4:=(aa w3.heap.size w3).alloc Ih (.cells #[.string ⟨#[]⟩,.string ⟨#[]⟩] 34);have mA:=a1.below A4;have BA:=al.trans (A4.mono al.size);have yA:=(A4.block w.heap.size (gl ap)).trans ap;have qA:=heap_alloc_new w3 (.cells #[.string ⟨#[]⟩,.string ⟨#[]⟩] 34);have ai:w.heap.size<w3.heap.size:=(gl ap);clear A4 a1 al ap ad;generalize w3.alloc (.cells #[.string ⟨#[]⟩,.string ⟨#[]⟩] 34)=W at*;generalize w3.heap.size=b8 at*;try go_simp
   refine hK.out _ _ (HI.out _ mA) ?_;clear hK K;try simp only[pu]
   obtain⟨c0,c1⟩:=Fp qA;obtain⟨f0,f1⟩:=ef qA;have HA:=kq5 mA BA yA qA ai;clear mA BA yA qA ai;refine pD fun K hK=>?_;go_simp;have qB:=ew HA.d (SV s1) (SV s2);have BB:=eT HA.b (dt HA.e) (SV s1) (SV s2);have yB:=(fA (dg HA.e) (SV s1) (SV s2)).trans HA.c;have mB:Ic ((W.setCell ⟨b8,0,none⟩ (SV s1)).setCell ⟨b8,1,none⟩ (SV s2)) pm px ps limit:=HG.d.below BB;clear c0 c1 f0 f1 HA;generalize ((W.setCell ⟨b8,0,none⟩ (SV s1)).setCell ⟨b8,1,none⟩ (SV s2))=W7 at*;try go_simp
   refine hK.out _ _ (HI.out _ mB) ?_;clear hK K;try simp only[pu]
   refine pD fun K hK=>?_;go_simp;try go_simp
   refine hK.out _ _ (HI.out _ mB) ?_;clear hK K;try simp only[pu]
   refine eP ?_;have H7:=kq3 BB yB qB;clear BB yB qB mB;clear w2 w3
  case' h4=>
   refine pD fun K hK=>?_;go_simp;have A4:=(aa w2.heap.size w2).alloc Ih (.cells #[.string ⟨#[]⟩,.string ⟨#[]⟩] 34);have BZ:=ad.a.trans (A4.mono ad.a.size);have yZ:=(A4.block w.heap.size (gl ad.b)).trans ad.b;have qZ:=heap_alloc_new w2 (.cells #[.string ⟨#[]⟩,.string ⟨#[]⟩] 34);have mZ:Ic (w2.alloc (.cells #[.string ⟨#[]⟩,.string ⟨#[]⟩] 34)) pm px ps limit:=HG.d.below BZ;have ai:w.heap.size<w2.heap.size:=(gl ad.b);clear A4 ad;generalize w2.alloc (.cells #[.string ⟨#[]⟩,.string ⟨#[]⟩] 34)=w4 at*;generalize w2.heap.size=b8 at*;try go_simp
   refine hK.out _ _ (HI.out _ mZ) ?_;clear hK K;try simp only[pu]
   have HZ:=kq3 BZ yZ qZ;clear BZ yZ qZ mZ;refine pD fun K hK=>?_;go_simp;refine wx (HG.c _ HZ.a) fun W hb3=>?_;have BW:=HZ.a.trans (hb3.mono HZ.a.size);have yW:=(hb3.block w.heap.size (gl HZ.b)).trans HZ.b;have qW:=(hb3.block _ (gl HZ.c)).trans HZ.c;have mW:Ic W pm px ps limit:=HG.d.below BW;clear hb3;try go_simp
   refine hK.out _ _ (HI.out _ mW) ?_;clear hK K;try simp only[pu]
   have mA:=mW;have BA:=BW;have yA:=yW;have qA:=qW;clear mW BW yW qW HZ;iterate 3
    refine' pT ?_ ?_;rotate_left
    ·intro x;go_simp;try rfl
    try simp only[pu]
   obtain⟨c0,c1⟩:=Fp qA;obtain⟨f0,f1⟩:=ef qA;have HA:=kq5 mA BA yA qA ai;clear mA BA yA qA ai;refine pD fun K hK=>?_;go_simp;have qB:=ew HA.d (SV s1) (SV s2);have BB:=eT HA.b (dt HA.e) (SV s1) (SV s2);have yB:=(fA (dg HA.e) (SV s1) (SV s2)).trans HA.c;have mB:Ic ((W.setCell ⟨b8,0,none⟩ (SV s1)).setCell ⟨b8,1,none⟩ (SV s2)) pm px ps limit:=HG.d.below BB;clear c0 c1 f0 f1 HA;generalize ((W.setCell ⟨b8,0,none⟩ (SV s1)).setCell ⟨b8,1,none⟩ (SV s2))=W7 at*;try go_simp
   refine hK.out _ _ (HI.out _ mB) ?_;clear hK K;try simp only[pu]
   refine pD fun K hK=>?_;go_simp;try go_simp
   refine hK.out _ _ (HI.out _ mB) ?_;clear hK K;try simp only[pu]
   refine eP ?_;have H7:=kq3 BB yB qB;clear BB yB qB mB;clear w2 w4
 case' h2=>
  refine pD fun K hK=>?_;go_simp;have A2:=((aa (w.alloc (.cells #[.string ⟨#[]⟩,.string ⟨#[]⟩] 34)).heap.size (w.alloc (.cells #[.string ⟨#[]⟩,.string ⟨#[]⟩] 34))).alloc Ih (.cells #[.string ⟨#[]⟩,.string ⟨#[]⟩] 34)).drew;have BZ:=HG.e.trans (A2.mono HG.e.size);have qZ:((w.alloc (.cells #[.string ⟨#[]⟩,.string ⟨#[]⟩] 34)).alloc (.cells #[.string ⟨#[]⟩,.string ⟨#[]⟩] 34)).drew.heap[(w.alloc (.cells #[.string ⟨#[]⟩,.string ⟨#[]⟩] 34)).heap.size]?=_:=heap_alloc_new (w.alloc (.cells #[.string ⟨#[]⟩,.string ⟨#[]⟩] 34)) (.cells #[.string ⟨#[]⟩,.string ⟨#[]⟩] 34);have yZ:((w.alloc (.cells #[.string ⟨#[]⟩,.string ⟨#[]⟩] 34)).alloc (.cells #[.string ⟨#[]⟩,.string ⟨#[]⟩] 34)).drew.heap[w.heap.size]?=_:=(A2.block w.heap.size (by simp)).trans HG.f;have mZ:Ic ((w.alloc (.cells #[.string ⟨#[]⟩,.string ⟨#[]⟩] 34)).alloc (.cells #[.string ⟨#[]⟩,.string ⟨#[]⟩] 34)).drew pm px ps limit:=HG.d.below BZ;simp only[World.size_alloc] at qZ;clear A2;generalize ((w.alloc (.cells #[.string ⟨#[]⟩,.string ⟨#[]⟩] 34)).alloc (.cells #[.string ⟨#[]⟩,.string ⟨#[]⟩] 34)).drew=w4 at*;try go_simp
  refine hK.out _ _ (HI.out _ mZ) ?_;clear hK K;try simp only[pu]
  have HZ:=kq3 BZ yZ qZ;clear BZ yZ qZ mZ;refine pD fun K hK=>?_;go_simp;refine wx (HG.b _ HZ.a) fun w5 hb2=>?_;have B5:=HZ.a.trans (hb2.mono HZ.a.size);have y5:=(hb2.block w.heap.size (gl HZ.b)).trans HZ.b;have q5:=(hb2.block _ (gl HZ.c)).trans HZ.c;have m5:Ic w5 pm px ps limit:=HG.d.below B5;clear hb2 HZ;try go_simp
  refine hK.out _ _ (HI.out _ m5) ?_;clear hK K;try simp only[pu]
  have HZ:=kq3 B5 y5 q5;clear B5 y5 q5 m5;refine pD fun K hK=>?_;go_simp;refine wx (HG.c _ HZ.a) fun W hb3=>?_;have BW:=HZ.a.trans (hb3.mono HZ.a.size);have yW:=(hb3.block w.heap.size (gl HZ.b)).trans HZ.b;have qW:=(hb3.block _ (gl HZ.c)).trans HZ.c;have mW:Ic W pm px ps limit:=HG.d.below BW;clear hb3;try go_simp
  refine hK.out _ _ (HI.out _ mW) ?_;clear hK K;try simp only[pu]
  have mA:=mW;have BA:=BW;have yA:=yW;have qA:=qW;have ai:w.heap.size<w.heap.size+1:=by omega
  clear mW BW yW qW HZ;generalize w.heap.size+1=b8 at*;iterate 3
   refine' pT ?_ ?_;rotate_left
   ·intro x;go_simp;try rfl
   try simp only[pu]
  obtain⟨c0,c1⟩:=Fp qA;obtain⟨f0,f1⟩:=ef qA;have HA:=kq5 mA BA yA qA ai;clear mA BA yA qA ai;refine pD fun K hK=>?_;go_simp;have qB:=ew HA.d (SV s1) (SV s2);have BB:=eT HA.b (dt HA.e) (SV s1) (SV s2);have yB:=(fA (dg HA.e) (SV s1) (SV s2)).trans HA.c;have mB:Ic ((W.setCell ⟨b8,0,none⟩ (SV s1)).setCell ⟨b8,1,none⟩ (SV s2)) pm px ps limit:=HG.d.below BB;clear c0 c1 f0 f1 HA;generalize ((W.setCell ⟨b8,0,none⟩ (SV s1)).setCell ⟨b8,1,none⟩ (SV s2))=W7 at*;try go_simp
  refine hK.out _ _ (HI.out _ mB) ?_;clear hK K;try simp only[pu]
  refine pD fun K hK=>?_;go_simp;try go_simp
  refine hK.out _ _ (HI.out _ mB) ?_;clear hK K;try simp only[pu]
  refine eP ?_;have H7:=kq3 BB yB qB;clear BB yB qB mB;clear w4 w5
 all_goals
  clear HI a2 m0 m1 m2 I;have y:=H7.b;have q:=H7.c;obtain⟨c0,c1⟩:=Fp y;obtain⟨f0,f1⟩:=ef y;obtain⟨d0,d1⟩:=Fp q;have q5:=ew y (.string ⟨#[]⟩) (.string ⟨#[]⟩);have B5:=eT H7.a Ih (.string ⟨#[]⟩) (.string ⟨#[]⟩);have HB:=kq2 q5 B5;clear y q q5 B5;go_wp2_with fail;obtain⟨q5,B5⟩:=HB.out;generalize ((W7.setCell ⟨w.heap.size,0,none⟩ ((.string ⟨#[]⟩))).setCell ⟨w.heap.size,1,none⟩ ((.string ⟨#[]⟩)))=wF at*;obtain⟨e0,e1⟩:=Fp q5;exact bodyPost_ret (v:=.tuple #[.agg #[(.string ⟨#[]⟩),(.string ⟨#[]⟩)],Xi 5]) (by simp[results,f51,go_sem,e0,e1]) rfl ⟨rfl,B5⟩
