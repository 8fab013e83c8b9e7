/- B-trees: a handle more in a row beside a store: one step. -/
import Derived.Test.YtcibkdbpicledaaGreatDoorZBg
import Derived.Test.YtcibkdbpicledaaGreatDoorZQz
import Derived.Test.YtcibkdbpicledaaGreatDoorZFq
set_option maxRecDepth 100000
namespace Go.Proofs.YtcibkdbpicledaaGreatDoor
section
open Go.RowKit Tryz Go.BigFrame Go.Maps Go.WideMaps Lf Tr
open Go.Shelf
variable{S:St}{Y:Nat->Prop}{i:Nat}{l:List Nat}{v:Value}{w:World}
theorem FE.block{B:Nat}(h:FE w B v l){g:Nat}(hg:v.ownBlock=some g):B<=g/\g<w.heap.size/\∃cs fr,w.heap[g]?=some (.cells cs 83 fr):=by
 rcases h.2 with⟨e,_⟩ | ⟨b,c,ai,e,hb,ad,ao,al,an,ht⟩
 ·rw[e] at hg
  cases hg
 ·rw[e] at hg
  cases hg
  exact⟨hb,(gl ad),_,_,ad⟩
structure kG (w w':World) (B ps:Nat) (S:St) (Y:Nat->Prop) (v v':Value) (l':List Nat):Prop where
 own:FE w' B v' l'
 st:Ig w' ps S (fun k=>Y k\/(w.heap.size<=k/\k<w'.heap.size))
 grown:w.grownBy w' v.ownBlock
 at':v'.ownBlock=v.ownBlock\/∃g,v'.ownBlock=some g/\w.heap.size<=g
theorem kG.other{w w':World}{B ps:Nat}{v v':Value}{l':List Nat}(h:kG w w' B ps S Y v v' l'){k:Nat}(hk:k<w.heap.size)(hne:v.ownBlock≠some k):w'.heap[k]?=w.heap[k]?:=h.grown.block k hk (Ne.symm hne)
theorem kG.keep{w w':World}{B ps:Nat}{v v':Value}{l':List Nat}(h:kG w w' B ps S Y v v' l'){Z:Nat->Prop}(hz:∀k,Z k->k<w.heap.size/\v.ownBlock≠some k):Fo Z w w':=
 ⟨h.grown.os,h.grown.tape,h.grown.output,h.grown.size,fun k hk=>h.grown.block k (hz k hk).1 (Ne.symm (hz k hk).2)⟩
theorem kG.row{w w':World}{B ps:Nat}{v v':Value}{l':List Nat}(h:kG w w' B ps S Y v v' l'){B2:Nat}{u:Value}{l2:List Nat}(hu:FE w B2 u l2)(hne:∀g,u.ownBlock=some g->v.ownBlock≠some g):FE w' B2 u l2:=
 hu.at fun x e=>h.other (hu.block e).2.1 (hne x e)
theorem uT{B ps:Nat}(h:Ig w ps S Y)(ho:FE w B v l)(hY:∀g,v.ownBlock=some g->Y g)(htab:fy<B)(hl:l.length<=1000)(hi:i<=l.length){x vb:Nat}(hx:w.heap[vb]?=some (.cells #[.int .u64 x] 83 (0,0)))(hne:v.ownBlock≠some vb)(hB:B<=w.heap.size):
 Ct 332 #[v,.int .i64 i,.slice (some ⟨vb,0,none⟩) 1 1] w fun e w'=>∃v',e=.returned v'/\kG w w' B ps S Y v v' (l.take i++x::l.drop i):=by
 refine(Bj ho hl hi hx hne hB).mono ?_;rintro e w' ⟨v',rfl,h1,h2,h3⟩;refine⟨v',rfl,h1,h.grown h2 fun g hg=>?_,h2,h3⟩;obtain⟨hb,_,hc⟩:=ho.block hg;exact⟨hY g hg,by omega,hc⟩
structure fD (w0 w:World) (B ps:Nat) (S:St) (Y:Nat->Prop) (v1 v2 u1 u2:Value) (m1 m2:List Nat):Prop where
 own1:FE w B u1 m1
 own2:FE w B u2 m2
 st:Ig w ps S (fun k=>Y k\/(w0.heap.size<=k/\k<w.heap.size))
 keep:Fo (fun k=>k<w0.heap.size/\v1.ownBlock≠some k/\v2.ownBlock≠some k) w0 w
 p1:u1.ownBlock=v1.ownBlock\/∃g,u1.ownBlock=some g/\w0.heap.size<=g
 p2:u2.ownBlock=v2.ownBlock\/∃g,u2.ownBlock=some g/\w0.heap.size<=g
 apart:∀g,u1.ownBlock=some g->u2.ownBlock≠some g
 y1:∀g,v1.ownBlock=some g->Y g
 y2:∀g,v2.ownBlock=some g->Y g
theorem fD.swap{w0 w:World}{B ps:Nat}{v1 v2 u1 u2:Value}{m1 m2:List Nat}(h:fD w0 w B ps S Y v1 v2 u1 u2 m1 m2):fD w0 w B ps S Y v2 v1 u2 u1 m2 m1:=
 ⟨h.own2,h.own1,h.st,h.keep.mono fun _ hk=>⟨hk.1,hk.2.2,hk.2.1⟩,h.p2,h.p1,fun g h2 h1=>h.apart g h1 h2,h.y2,h.y1⟩
theorem fD.start{B ps:Nat}{v1 v2:Value}{m1 m2:List Nat}(h:Ig w ps S Y)(o1:FE w B v1 m1)(o2:FE w B v2 m2)(ap:∀g,v1.ownBlock=some g->v2.ownBlock≠some g)(y1:∀g,v1.ownBlock=some g->Y g)(y2:∀g,v2.ownBlock=some g->Y g):fD w w B ps S Y v1 v2 v1 v2 m1 m2:=
 ⟨o1,o2,h.mono fun _ hk=>hk.elim id fun h=>absurd h.1 (Nat.not_le.2 h.2),Fo.refl _ _,ab rfl,ab rfl,ap,y1,y2⟩
theorem fD.below{w0 w w':World}{B ps:Nat}{v1 v2 u1 u2:Value}{m1 m2:List Nat}(h:fD w0 w B ps S Y v1 v2 u1 u2 m1 m2)(hb:Below w.heap.size w w'):fD w0 w' B ps S Y v1 v2 u1 u2 m1 m2:=
 ⟨h.own1.at fun x e=>hb.block x (h.own1.block e).2.1,h.own2.at fun x e=>hb.block x (h.own2.block e).2.1,
  (h.st.wide hb).mono fun k hk=>by
   rcases hk with hk | hk
   ·exact ab (ab hk)
   ·by_cases hw:k<w.heap.size
    ·exact ab (ae ⟨hk.1,hw⟩)
    ·exact ae ⟨by omega,hk.2⟩,
  h.keep.trans (Fo.of_below hb fun k hk=>by have:=h.keep.size;omega),h.p1,h.p2,h.apart,h.y1,h.y2⟩
theorem fD.ins{w0 w:World}{B ps:Nat}{v1 v2 u1 u2:Value}{m1 m2:List Nat}(h:fD w0 w B ps S Y v1 v2 u1 u2 m1 m2)(htab:fy<B)(hB:B<=w.heap.size)(hl:m1.length<=1000)(hi:i<=m1.length){x vb:Nat}(hx:w.heap[vb]?=some (.cells #[.int .u64 x] 83 (0,0)))(hne:u1.ownBlock≠some vb):
 Ct 332 #[u1,.int .i64 i,.slice (some ⟨vb,0,none⟩) 1 1] w fun e w'=>∃ad,e=.returned ad/\fD w0 w' B ps S Y v1 v2 ad u2 (m1.take i++x::m1.drop i) m2/\(∀k,k<w.heap.size->u1.ownBlock≠some k->w'.heap[k]?=w.heap[k]?):=by
 refine(uT h.st h.own1 (fun g hg=>?_) htab hl hi hx hne hB).mono ?_
 ·rcases h.p1 with e | ⟨g',e,ai⟩
  ·exact ab (h.y1 g (by rw[<-e];exact hg))
  ·rw[e] at hg
   injection hg with hg
   subst hg;exact ae ⟨ai,(h.own1.block e).2.1⟩
 ·rintro e w' ⟨ad,rfl,I⟩;have al:=h.keep.size;have an:=I.grown.size;refine⟨ad,rfl,⟨I.own,I.row h.own2 fun g hg e=>h.apart g e hg,I.st.mono fun k hk=>?_,h.keep.trans (I.keep fun k hk=>⟨by omega,fun e=>?_⟩),?_,h.p2,fun g hg e=>?_,h.y1,h.y2⟩,fun k hk hn=>I.other hk hn⟩
  ·rcases hk with hk | hk
   ·exact ab (ab hk)
   ·by_cases hw:k<w.heap.size
    ·exact ab (ae ⟨hk.1,hw⟩)
    ·exact ae ⟨by omega,hk.2⟩
  ·rcases h.p1 with e1 | ⟨g',e1,ai⟩
   ·exact hk.2.1 (by rw[<-e1];exact e)
   ·rw[e1] at e
    injection e with e
    omega
  ·rcases I.at' with e1 | ⟨g,e1,hg⟩
   ·rw[e1];exact h.p1
   ·exact ae ⟨g,e1,by omega⟩
  ·rcases I.at' with e1 | ⟨g',e1,ai⟩
   ·exact h.apart g (by rw[<-e1];exact hg) e
   ·rw[e1] at hg
    injection hg with hg
    have:=(h.own2.block e).2.1;omega
def nu(bt bl:Nat):Value:=.func (.func 331) #[] #[PV bl,PV bt]
def iQ:Option (It×Nat)->Array Value
 | none=>#[.bool false,.int .u64 0,.int .u64 0,.int .u64 0]
 | some (m,g)=>#[.bool true,.int .u64 m.kh,.int .u64 m.vh,.int .u64 g]
def ky(r:Option (It×Nat)):Value:=.agg (iQ r)
def j4(d:Nat):Prop:=∀{w:World} {ps:Nat} {S:St} {o:Nat->Nat} {Z:Nat->Prop} {bt bl D t:Nat} {v:Value} {L:List Nat} {x:Bt (d+1)} {e:It} (i:Nat),
 Ig w ps S Z->Bt.Walk S o t x->(Bt.nodes x).Nodup->i+d<40->gz w bt bl D ps t v L->lG S t L->(∀h∈L,h∉Bt.nodes x)->Z bl->Z bt->(∀b,v.ownBlock=some b->Z b)->L.length<=1000->
 (∀a∈Bt.its x,a.k≠e.k)->Bt.ItLt (Bt.its x)->e.kh<2^64->e.vh<2^64->Bt.trail (Bt.fullB t e.k x)<=L.length->
 Ct 324 #[FH ps t,.int .u64 (Bt.hd x:Nat),SV e.k,Id e.kh e.vh,nu bt bl,.int .i64 i] w fun en w'=>∃(r:Option (It×Nat)) (S':St) (v':Value) (L' U:List Nat),en=.returned (ky r)/\L=L'++U/\Bt.Put S S' o t x e U r/\Ig w' ps S' Z/\Fo (fun k=>Z k/\k≠bl) w w'/\gz w' bt bl D ps t v' L'/\v'.ownBlock=v.ownBlock/\U.length=Bt.trail (Bt.fullB t e.k x)/\r.isSome=(Bt.fullB t e.k x).all id
structure eH (w:World) (ps:Nat) (Z:Nat->Prop) (bt bl D t:Nat) (v:Value) (bN:Nat) (wc:World) (S':St) (Y:Nat->Prop) (v':Value) (L':List Nat) (vk vv vc:Value) (sz:Nat) (ks vs cs:List Nat):Prop where
 st:Ig wc ps S' Y
 zy:∀k,Z k->Y k
 zl:∀k,Z k->k<w.heap.size
 zs:Z bl/\Z bt/\∀b,v.ownBlock=some b->Z b
 keep:Fo (fun k=>Z k/\k≠bl) w wc
 sp:gz wc bt bl D ps t v' L'
 own:v'.ownBlock=v.ownBlock
 box:wc.heap[bN]?=some (.cells #[vk,vv,vc,.int .u64 sz] 286 (0,0))
 rows:fN wc (w.heap.size+3) vk vv vc ks vs cs
 yb:Y bN/\Y w.heap.size/\Y (w.heap.size+2)
 yk:∀g,(vk.ownBlock=some g\/vv.ownBlock=some g\/vc.ownBlock=some g)->Y g
 tree:wc.heap[w.heap.size]?=some (.cells #[PV ps,.int .i64 t] 254 (0,0))
 res:wc.heap[w.heap.size+2]?=some (.cells #[.bool false,.int .u64 0,.int .u64 0,.int .u64 0] 406 (0,0))
 at3:w.heap.size+3<=bN
theorem gz.keeps{w w':World}{bt bl D ps t:Nat}{L:List Nat}(h:gz w bt bl D ps t v L)(e:∀k,iJ bt bl v k->w'.heap[k]?=w.heap[k]?):gz w' bt bl D ps t v L:=
 ⟨(e bl (ae (ab rfl))).trans h.box,(e bt (ab rfl)).trans h.tree,h.row.at fun g hg=>e g (ae (ae hg)),h.lo⟩
section
variable {w wc wc':World}{ps:Nat}{Z:Nat->Prop}{bt bl D t:Nat}{v:Value}{bN:Nat}{S' S2:St}{Y Y':Nat->Prop}{v' v2:Value}{L' L2:List Nat}{vk vv vc uk uv uc:Value}{sz sz':Nat}{ks vs cs ks' vs' cs':List Nat}
theorem eH.ne(h:eH w ps Z bt bl D t v bN wc S' Y v' L' vk vv vc sz ks vs cs):vk.ownBlock≠some bN/\vv.ownBlock≠some bN/\vc.ownBlock≠some bN:=by
 have hb:=h.box;refine⟨fun q=>?_,fun q=>?_,fun q=>?_⟩
 ·obtain⟨cs,fr,e⟩:=(h.rows.k.block q).2.2;rw[hb] at e
  cases e
 ·obtain⟨cs,fr,e⟩:=(h.rows.v.block q).2.2;rw[hb] at e
  cases e
 ·obtain⟨cs,fr,e⟩:=(h.rows.c.block q).2.2;rw[hb] at e
  cases e
theorem eH.lt(h:eH w ps Z bt bl D t v bN wc S' Y v' L' vk vv vc sz ks vs cs):bN<wc.heap.size:=(gl h.box)
theorem eH.spz(h:eH w ps Z bt bl D t v bN wc S' Y v' L' vk vv vc sz ks vs cs):∀k,iJ bt bl v' k->Z k:=fun k hk=>by
 rcases hk with rfl | rfl | hk
 ·exact h.zs.2.1
 ·exact h.zs.1
 ·exact h.zs.2.2 k (by rw[<-h.own];exact hk)
theorem eH.move(h:eH w ps Z bt bl D t v bN wc S' Y v' L' vk vv vc sz ks vs cs)(st:Ig wc' ps S2 Y')(hy:∀k,Y k->Y' k)(kp:Fo (fun k=>(Z k/\k≠bl)\/k=w.heap.size\/k=w.heap.size+2) wc wc')(sp:gz wc' bt bl D ps t v2 L2)(own:v2.ownBlock=v.ownBlock)
 (box:wc'.heap[bN]?=some (.cells #[uk,uv,uc,.int .u64 sz'] 286 (0,0))) (rows:fN wc' (w.heap.size+3) uk uv uc ks' vs' cs') (yk:∀g,(uk.ownBlock=some g\/uv.ownBlock=some g\/uc.ownBlock=some g)->Y' g):eH w ps Z bt bl D t v bN wc' S2 Y' v2 L2 uk uv uc sz' ks' vs' cs':=
 ⟨st,fun k hk=>hy k (h.zy k hk),h.zl,h.zs,h.keep.trans (kp.mono fun _ hk=>ab hk),sp,own,box,rows,⟨hy _ h.yb.1,hy _ h.yb.2.1,hy _ h.yb.2.2⟩,yk,(kp.block _ (ae (ab rfl))).trans h.tree,(kp.block _ (ae (ae rfl))).trans h.res,h.at3⟩
theorem eH.below(h:eH w ps Z bt bl D t v bN wc S' Y v' L' vk vv vc sz ks vs cs)(hb:Below wc.heap.size wc wc'):eH w ps Z bt bl D t v bN wc' S' (fun k=>Y k\/(wc.heap.size<=k/\k<wc'.heap.size)) v' L' vk vv vc sz ks vs cs:=by
 have ad:=h.st.yl;have ai:=h.keep.size;have hl:=h.lt;refine h.move (h.st.wide hb) (fun k hk=>ab hk) (Fo.of_below hb fun k hk=>?_) (h.sp.keeps fun k hk=>hb.block k (ad k (h.zy k (h.spz k hk)))) h.own ((hb.block bN hl).trans h.box) (h.rows.below hb) fun g hg=>ab (h.yk g hg)
 rcases hk with hk | rfl | rfl
 ·exact ad k (h.zy k hk.1)
 ·exact ad _ h.yb.2.1
 ·exact ad _ h.yb.2.2
end
structure gQ (w:World) (ps:Nat) (S:St) (o:Nat->Nat) (Z:Nat->Prop) (bt bl D t:Nat) (v:Value) (L:List Nat) {d:Nat} (x:Bt (d+1)) (e:It) (bN:Nat) (wc:World) (S':St) (Y:Nat->Prop) (v':Value) (L' U:List Nat) (x':Bt (d+1)) (vk vv vc:Value):Prop where
 held:eH w ps Z bt bl D t v bN wc S' Y v' L' vk vv vc (Bt.its x).length (Bt.bn x').keys (Bt.bn x').vals (Bt.bn x').kids
 sum:L=L'++U
 mid:Bt.Mid S S' o t x e U x'
 num:U.length+(if(Bn.es x').length=2*t then 1 else 0)=Bt.trail (Bt.fullB t e.k x)
 all:decide ((Bn.es x').length=2*t)=(Bt.fullB t e.k x).all id
theorem fD.drew {w0 w:World}{B ps:Nat}{S:St}{Y:Nat->Prop}{v1 v2 u1 u2:Value}{m1 m2:List Nat}(h:fD w0 w B ps S Y v1 v2 u1 u2 m1 m2):fD w0 w.drew B ps S Y v1 v2 u1 u2 m1 m2:=h.below (aa _ w).drew
theorem fD.one {w0 w:World}{B ps:Nat}{S:St}{Y:Nat->Prop}{v1 v2 u1 u2:Value}{m1 m2:List Nat}(h:fD w0 w B ps S Y v1 v2 u1 u2 m1 m2)(x:Nat):fD w0 (w.alloc (.cells #[.int .u64 x] 83)) B ps S Y v1 v2 u1 u2 m1 m2/\(w.alloc (.cells #[.int .u64 x] 83)).heap[w.heap.size]?=some (.cells #[.int .u64 x] 83 (0,0))/\u1.ownBlock≠some w.heap.size/\u2.ownBlock≠some w.heap.size/\w.heap.size<(w.alloc (.cells #[.int .u64 x] 83)).heap.size/\Below w.heap.size w (w.alloc (.cells #[.int .u64 x] 83)):=
 ⟨h.below ((aa _ w).alloc Ih _),heap_alloc_new w _,fun q=>by have:=(h.own1.block q).2.1;omega,fun q=>by have:=(h.own2.block q).2.1;omega,by simp,(aa _ w).alloc Ih _⟩
theorem qBrab{P:Prop}(h:P:=by
 ·rw[e] at hg;have hg:g'=g:=Option.some.inj hg;omega):P:=h
theorem fD.done {w0 w:World}{B ps:Nat}{S:St}{Y:Nat->Prop}{v1 v2 u1 u2:Value}{m1 m2:List Nat}(T:fD w0 w B ps S Y v1 v2 u1 u2 m1 m2){bN sz:Nat}{vc:Value}(hN:w0.heap[bN]?=some (.cells #[v1,v2,vc,.int .u64 sz] 286 (0,0)))(yN:Y bN)(n1:v1.ownBlock≠some bN)(n2:v2.ownBlock≠some bN):
 w.heap[bN]?=some (.cells #[v1,v2,vc,.int .u64 sz] 286 (0,0))/\(w.setCell ⟨bN,0,none⟩ u1).heap[bN]?=some (.cells #[u1,v2,vc,.int .u64 sz] 286 (0,0))/\∀w',w'=(w.setCell ⟨bN,0,none⟩ u1).setCell ⟨bN,1,none⟩ u2->w'.heap[bN]?=some (.cells #[u1,u2,vc,.int .u64 sz] 286 (0,0))/\FE w' B u1 m1/\FE w' B u2 m2/\Ig w' ps S (fun k=>Y k\/(w0.heap.size<=k/\k<w.heap.size))/\Fo (fun k=>k<w0.heap.size/\v1.ownBlock≠some k/\v2.ownBlock≠some k/\k≠bN) w0 w'/\w'.heap.size=w.heap.size:=by
 have al:bN<w0.heap.size:=(gl hN);have e0:=(T.keep.block bN ⟨al,n1,n2⟩).trans hN;have e1:(w.setCell ⟨bN,0,none⟩ u1).heap[bN]?=some (.cells #[u1,v2,vc,.int .u64 sz] 286 (0,0)):=heap_setCell (i:=0) (v:=u1) e0;have e2:((w.setCell ⟨bN,0,none⟩ u1).setCell ⟨bN,1,none⟩ u2).heap[bN]?=some (.cells #[u1,u2,vc,.int .u64 sz] 286 (0,0)):=heap_setCell (i:=1) (v:=u2) e1;have ad:∀k,k≠bN->((w.setCell ⟨bN,0,none⟩ u1).setCell ⟨bN,1,none⟩ u2).heap[k]?=w.heap[k]?:=fun k hk=>(FB hk).trans (FB hk);have q1:∀g,u1.ownBlock=some g->g≠bN:=fun g hg q=>by
  rcases T.p1 with e | ⟨g',e,ai⟩
  ·rw[e] at hg;exact n1 (hg.trans (q▸rfl))
  exact qBrab
 have q2:∀g,u2.ownBlock=some g->g≠bN:=fun g hg q=>by
  rcases T.p2 with e | ⟨g',e,ai⟩
  ·rw[e] at hg;exact n2 (hg.trans (q▸rfl))
  exact qBrab
 refine⟨e0,e1,?_⟩;rintro w' rfl;refine⟨e2,T.own1.at fun g hg=>ad g (q1 g hg),T.own2.at fun g hg=>ad g (q2 g hg),?_,?_,by simp⟩
 ·exact T.st.write (b:=bN) (ab yN) e0 ⟨by decide,by decide⟩ (by simp) (by simp) fun k _ hk=>ad k hk
 ·exact((T.keep.mono fun k hk=>⟨hk.1,hk.2.1,hk.2.2.1⟩).trans (Fo.mark fun b hb=>hb.2.2.2)).trans (Fo.mark fun b hb=>hb.2.2.2)
section
variable {w wc wc':World}{ps:Nat}{Z:Nat->Prop}{bt bl D t:Nat}{v:Value}{bN:Nat}{S' S2:St}{Y Y':Nat->Prop}{v' v2:Value}{L' L2:List Nat}{vk vv vc uk uv uc:Value}{sz sz':Nat}{ks vs cs ks' vs' cs':List Nat}
theorem eH.two(h:eH w ps Z bt bl D t v bN wc S' Y v' L' vk vv vc sz ks vs cs):fD wc wc (w.heap.size+3) ps S' Y vk vv vk vv ks vs:=fD.start h.st h.rows.k h.rows.v h.rows.kv (fun g hg=>h.yk g (ab hg)) fun g hg=>h.yk g (ae (ab hg))
theorem qBraa{P:Prop}(h:P:=by
 rcases hk with hk | rfl | rfl
 ·have:=h.zl k hk.1;omega
 ·omega
 ·omega):P:=h
theorem eH.grow(h:eH w ps Z bt bl D t v bN wc S' Y v' L' vk vv vc sz ks vs cs)(T:fD wc wc' (w.heap.size+3) ps S' Y vk vv uk uv ks' vs'):
 wc'.heap[bN]?=some (.cells #[vk,vv,vc,.int .u64 sz] 286 (0,0))/\(wc'.setCell ⟨bN,0,none⟩ uk).heap[bN]?=some (.cells #[uk,vv,vc,.int .u64 sz] 286 (0,0))/\eH w ps Z bt bl D t v bN ((wc'.setCell ⟨bN,0,none⟩ uk).setCell ⟨bN,1,none⟩ uv) S' (fun k=>Y k\/(wc.heap.size<=k/\k<wc'.heap.size)) v' L' uk uv vc sz ks' vs' cs:=by
 have ap:=h.st.yl;have ao:=h.keep.size;have hl:=h.lt;have h3:=h.at3;obtain⟨a0,a1,a2⟩:=T.done h.box h.yb.1 h.ne.1 h.ne.2.1;refine⟨a0,a1,?_⟩;obtain⟨b1,b2,b3,b4,b5,b6⟩:=a2 _ rfl;have ad:∀g,(vk.ownBlock=some g\/vv.ownBlock=some g\/vc.ownBlock=some g)->w.heap.size+3<=g/\g<wc.heap.size:=fun g hg=>by
  rcases hg with hg | hg | hg
  ·exact⟨(h.rows.k.block hg).1,(h.rows.k.block hg).2.1⟩
  ·exact⟨(h.rows.v.block hg).1,(h.rows.v.block hg).2.1⟩
  ·exact⟨(h.rows.c.block hg).1,(h.rows.c.block hg).2.1⟩
 have kz:∀k,k<w.heap.size+3->k<wc.heap.size/\vk.ownBlock≠some k/\vv.ownBlock≠some k/\k≠bN:=fun k hk=>⟨by omega,fun q=>by have:=(ad k (ab q)).1;omega,fun q=>by have:=(ad k (ae (ab q))).1;omega,by omega⟩;have ai:∀{u u0:Value},(u.ownBlock=u0.ownBlock\/∃g,u.ownBlock=some g/\wc.heap.size<=g)->(∀g,u0.ownBlock=some g->vc.ownBlock≠some g)->∀g,u.ownBlock=some g->vc.ownBlock≠some g:=fun hu ha g hg q=>by
  rcases hu with e | ⟨g',e,al⟩
  ·exact ha g (e▸hg) q
  ·rw[e] at hg;have hg:g'=g:=Option.some.inj hg;have:=(ad g (ae (ae q))).2;omega
 refine h.move b4 (fun k hk=>ab hk) (b5.mono fun k hk=>kz k ?_) (h.sp.keeps fun k hk=>b5.block k (kz k (by have:=h.zl k (h.spz k hk);omega))) h.own b1 ⟨b2,b3,?_,T.apart,ai T.p1 h.rows.kc,ai T.p2 h.rows.vc⟩ fun g hg=>?_
 ·exact qBraa
 ·refine h.rows.c.at fun g hg=>b5.block g ⟨(ad g (ae (ae hg))).2,fun q=>h.rows.kc g q hg,fun q=>h.rows.vc g q hg,fun q=>h.ne.2.2 (q▸hg)⟩
 ·have an:=b6;rw[an] at*
  rcases hg with hg | hg | hg
  ·rcases T.p1 with e | ⟨g',e,al⟩
   ·exact ab (h.yk g (ab (e▸hg)))
   ·exact ae ⟨by rw[e] at hg;have hg:g'=g:=Option.some.inj hg;omega,(T.own1.block hg).2.1⟩
  ·rcases T.p2 with e | ⟨g',e,al⟩
   ·exact ab (h.yk g (ae (ab (e▸hg))))
   ·exact ae ⟨by rw[e] at hg;have hg:g'=g:=Option.some.inj hg;omega,(T.own2.block hg).2.1⟩
  ·exact ab (h.yk g (ae (ae hg)))
theorem eH.grow3(h:eH w ps Z bt bl D t v bN wc S' Y v' L' vk vv vc sz ks vs cs)(I:kG wc wc' (w.heap.size+3) ps S' Y vc uc cs'):
 wc'.heap[bN]?=some (.cells #[vk,vv,vc,.int .u64 sz] 286 (0,0))/\eH w ps Z bt bl D t v bN (wc'.setCell ⟨bN,2,none⟩ uc) S' (fun k=>Y k\/(wc.heap.size<=k/\k<wc'.heap.size)) v' L' vk vv uc sz ks vs cs':=by
 have ap:=h.st.yl;have ao:=h.keep.size;have hl:=h.lt;have h3:=h.at3;have e0:=(I.other hl h.ne.2.2).trans h.box;refine⟨e0,?_⟩;have an:=fun g (hg:vc.ownBlock=some g)=>h.rows.c.block hg;have al:∀k,k<wc.heap.size->k≠bN->vc.ownBlock≠some k->(wc'.setCell ⟨bN,2,none⟩ uc).heap[k]?=wc.heap[k]?:=fun k hk h1 h2=>(FB h1).trans (I.other hk h2);have kz:∀k,k<w.heap.size+3->(wc'.setCell ⟨bN,2,none⟩ uc).heap[k]?=wc.heap[k]?:=fun k hk=>al k (by omega) (by omega) fun q=>by have:=(an k q).1;omega
 have ai:∀k,((Z k/\k≠bl)\/k=w.heap.size\/k=w.heap.size+2)->k<wc.heap.size/\vc.ownBlock≠some k/\k≠bN:=fun k hk=>by
  have:k<w.heap.size+3:=by
   exact qBraa
  exact⟨by omega,fun q=>by have:=(an k q).1;omega,by omega⟩
 have n3:∀g,uc.ownBlock=some g->g≠bN:=fun g hg q=>by
  rcases I.at' with e | ⟨g',e,ad⟩
  ·rw[e] at hg;exact h.ne.2.2 (hg.trans (q▸rfl))
  exact qBrab
 refine h.move (I.st.write (b:=bN) (ab h.yb.1) e0 ⟨by decide,by decide⟩ (by simp) (by simp) fun k _ hk=>FB hk) (fun k hk=>ab hk) (Fo.trans (b:=wc') ⟨I.grown.os,I.grown.tape,I.grown.output,I.grown.size,fun k hk=>I.other (ai k hk).1 (ai k hk).2.1⟩ (Fo.mark fun k hk=>(ai k hk).2.2)) (h.sp.keeps fun k hk=>kz k (by have:=h.zl k (h.spz k hk);omega)) h.own (heap_setCell (i:=2) (v:=uc) e0) ⟨?_,?_,I.own.at fun g hg=>FB (n3 g hg),h.rows.kv,fun g hg q=>?_,fun g hg q=>?_⟩ fun g hg=>?_
 ·exact h.rows.k.at fun g hg=>al g (h.rows.k.block hg).2.1 (fun q=>h.ne.1 (q▸hg)) (h.rows.kc g hg)
 ·exact h.rows.v.at fun g hg=>al g (h.rows.v.block hg).2.1 (fun q=>h.ne.2.1 (q▸hg)) (h.rows.vc g hg)
 ·rcases I.at' with e | ⟨g',e,ad⟩
  ·exact h.rows.kc g hg (e▸q)
  ·rw[e] at q;have q:g'=g:=Option.some.inj q;have:=(h.rows.k.block hg).2.1;omega
 ·rcases I.at' with e | ⟨g',e,ad⟩
  ·exact h.rows.vc g hg (e▸q)
  ·rw[e] at q;have q:g'=g:=Option.some.inj q;have:=(h.rows.v.block hg).2.1;omega
 ·rcases hg with hg | hg | hg
  ·exact ab (h.yk g (ab hg))
  ·exact ab (h.yk g (ae (ab hg)))
  ·rcases I.at' with e | ⟨g',e,ad⟩
   ·exact ab (h.yk g (ae (ae (e▸hg))))
   ·exact ae ⟨by rw[e] at hg;have hg:g'=g:=Option.some.inj hg;omega,(I.own.block hg).2.1⟩
theorem eH.size(h:eH w ps Z bt bl D t v bN wc S' Y v' L' vk vv vc sz ks vs cs)(n:Nat):eH w ps Z bt bl D t v bN (wc.setCell ⟨bN,3,none⟩ (.int .u64 n)) S' Y v' L' vk vv vc n ks vs cs:=by
 have hl:=h.lt;have h3:=h.at3;have ad:∀k,k≠bN->(wc.setCell ⟨bN,3,none⟩ (.int .u64 n)).heap[k]?=wc.heap[k]?:=fun k h1=>FB h1;refine h.move (h.st.write (b:=bN) h.yb.1 h.box ⟨by decide,by decide⟩ (by simp) (by simp) fun k _ hk=>FB hk) (fun k hk=>hk) (Fo.mark fun k hk=>?_) (h.sp.keeps fun k hk=>ad k (by have:=h.zl k (h.spz k hk);omega)) h.own (heap_setCell (i:=3) (v:=.int .u64 n) h.box) ⟨?_,?_,?_,h.rows.kv,h.rows.kc,h.rows.vc⟩ h.yk
 ·exact qBraa
 ·exact h.rows.k.at fun g hg=>ad g fun q=>h.ne.1 (q▸hg)
 ·exact h.rows.v.at fun g hg=>ad g fun q=>h.ne.2.1 (q▸hg)
 ·exact h.rows.c.at fun g hg=>ad g fun q=>h.ne.2.2 (q▸hg)
theorem eH.kid(h:eH w ps Z bt bl D t v bN wc S' Y v' L' vk vv vc sz ks vs cs)(st:Ig wc' ps S2 Y)(kp:Fo (fun k=>Y k/\k≠bl) wc wc')(sp:gz wc' bt bl D ps t v2 L2)(own:v2.ownBlock=v'.ownBlock):eH w ps Z bt bl D t v bN wc' S2 Y v2 L2 vk vv vc sz ks vs cs:=by
 have ad:=h.zl bl h.zs.1;have h3:=h.at3;have q:=h.yk;have row:∀g,(vk.ownBlock=some g\/vv.ownBlock=some g\/vc.ownBlock=some g)->w.heap.size+3<=g->wc'.heap[g]?=wc.heap[g]?:=fun g hg hg3=>kp.block g ⟨h.yk g hg,by omega⟩;refine h.move st (fun k hk=>hk) (kp.mono fun k hk=>?_) sp (own.trans h.own) ((kp.block bN ⟨h.yb.1,by omega⟩).trans h.box) ⟨?_,?_,?_,h.rows.kv,h.rows.kc,h.rows.vc⟩ h.yk
 ·rcases hk with hk | rfl | rfl
  ·exact⟨h.zy k hk.1,hk.2⟩
  ·exact⟨h.yb.2.1,by omega⟩
  ·exact⟨h.yb.2.2,by omega⟩
 ·exact h.rows.k.at fun g hg=>row g (ab hg) (h.rows.k.block hg).1
 ·exact h.rows.v.at fun g hg=>row g (ae (ab hg)) (h.rows.v.block hg).1
 ·exact h.rows.c.at fun g hg=>row g (ae (ae hg)) (h.rows.c.block hg).1
end
namespace Bt
variable{U:List Nat}{d:Nat}{e:It}{k:Nat}
theorem leafPut_bn(x:Bt (d+1))(e:It):(bn (leafPut x e)).keys=(bn x).keys.take (Fr e.k (Bn.es x))++e.kh::(bn x).keys.drop (Fr e.k (Bn.es x))/\(bn (leafPut x e)).vals=(bn x).vals.take (Fr e.k (Bn.es x))++e.vh::(bn x).vals.drop (Fr e.k (Bn.es x))/\(bn (leafPut x e)).kids=(bn x).kids:=by
 refine⟨?_,?_,rfl⟩
 ·show ((Bn.es x).take _++e::(Bn.es x).drop _).map _=((Bn.es x).map _).take _++e.kh::((Bn.es x).map _).drop _
  rw[aL,aM,bX,cB]
 ·show ((Bn.es x).take _++e::(Bn.es x).drop _).map _=((Bn.es x).map _).take _++e.vh::((Bn.es x).map _).drop _
  rw[aL,aM,bX,cB]
theorem Ci(x:Bt (d+1))(e:It):(Bn.es (leafPut x e)).length=(Bn.es x).length+1:=lg (kH _) e
theorem BR(x:Bt (d+1))(e:It)(y1:Bt d)(m:It)(y2:Bt d):(Bn.es (ja x (Fr e.k (Bn.es x)) y1 m y2)).length=(Bn.es x).length+1:=lg (kH _) m
theorem kidPut_bn(x:Bt (d+1))(k:Nat)(hk:k<(Bn.ks x).length){y:Bt d}(hy:hd y=hd (Bn.ks x)[k]):(bn (ju x k y)).keys=(bn x).keys/\(bn (ju x k y)).vals=(bn x).vals/\(bn (ju x k y)).kids=(bn x).kids:=by
 refine⟨rfl,rfl,?_⟩
 show ((Bn.ks x).set k y).map hd=(Bn.ks x).map hd
 rw[dS,hy,<-bq hd (h:=by rw[aq];exact hk),List.set_getElem_self]
theorem kidSplit_bn(x:Bt (d+1))(k:Nat)(hk:k<(Bn.ks x).length){y1 y2:Bt d}(m:It)(hy:hd y1=hd (Bn.ks x)[k]):(bn (ja x k y1 m y2)).keys=(bn x).keys.take k++m.kh::(bn x).keys.drop k/\(bn (ja x k y1 m y2)).vals=(bn x).vals.take k++m.vh::(bn x).vals.drop k/\(bn (ja x k y1 m y2)).kids=(bn x).kids.take (k+1)++hd y2::(bn x).kids.drop (k+1):=by
 refine⟨?_,?_,?_⟩
 ·show ((Bn.es x).take _++m::(Bn.es x).drop _).map _=((Bn.es x).map _).take _++m.kh::((Bn.es x).map _).drop _
  rw[aL,aM,bX,cB]
 ·show ((Bn.es x).take _++m::(Bn.es x).drop _).map _=((Bn.es x).map _).take _++m.vh::((Bn.es x).map _).drop _
  rw[aL,aM,bX,cB]
 ·show ((Bn.ks x).take k++y1::y2::(Bn.ks x).drop (k+1)).map hd=((Bn.ks x).map hd).take (k+1)++hd y2::((Bn.ks x).map hd).drop (k+1)
  rw[aL,aM,aM,bX,cB,hy,bx (by rw[aq];exact hk),bq]
  simp
theorem num_leaf{t:Nat}(t1:1<=t)(x:Bt 1)(e:It):([]:List Nat).length+(if(Bn.es (leafPut x e)).length=2*t then 1 else 0)=trail (fullB t e.k x)/\decide ((Bn.es (leafPut x e)).length=2*t)=(fullB t e.k x).all id:=by
 rw[Ci,qJ]
 by_cases h:(Bn.es x).length=2*t-1
 ·simp[trail,h,show 2*t-1+1=2*t by omega]
 ·have h2:¬(Bn.es x).length+1=2*t:=by omega
  simp[trail,h,h2]
theorem num_none{t d:Nat}(t1:1<=t){x:Bt (d+2)}(ok:Ok t x)(hk:Fr e.k (Bn.es x)=k)(h:k<(Bn.ks x).length)(y:Bt (d+1))(h1:U.length=trail (fullB t e.k (Bn.ks x)[k]))(h2:false=(fullB t e.k (Bn.ks x)[k]).all id):
 U.length+(if(Bn.es (ju x k y)).length=2*t then 1 else 0)=trail (fullB t e.k x)/\decide ((Bn.es (ju x k y)).length=2*t)=(fullB t e.k x).all id:=by
 rw[mI t e.k x hk h];have hl:¬(Bn.es (ju x k y)).length=2*t:=by
  have:=ok.1
  show ¬(Bn.es x).length=2*t
  omega
 rw[if_neg hl,decide_eq_false hl];have h3:¬(fullB t e.k (Bn.ks x)[k]).all id=true:=by rw[<-h2];simp
 unfold trail;rw[if_neg h3,List.all_cons,<-h2,Bool.and_false];exact⟨h1,rfl⟩
theorem num_some{t d:Nat}(t1:1<=t){x:Bt (d+2)}(hk:Fr e.k (Bn.es x)=k)(h:k<(Bn.ks x).length)(y1:Bt (d+1))(m:It)(y2:Bt (d+1))(h1:U.length=trail (fullB t e.k (Bn.ks x)[k]))(h2:true=(fullB t e.k (Bn.ks x)[k]).all id):
 U.length+(if(Bn.es (ja x k y1 m y2)).length=2*t then 1 else 0)=trail (fullB t e.k x)/\decide ((Bn.es (ja x k y1 m y2)).length=2*t)=(fullB t e.k x).all id:=by
 rw[mI t e.k x hk h];have hl:(Bn.es (ja x k y1 m y2)).length=(Bn.es x).length+1:=by rw[<-hk];exact BR x e y1 m y2
 rw[hl];have h3:=trail_all h2.symm;unfold trail;rw[if_pos h2.symm,List.all_cons,<-h2,Bool.and_true,h1,h3]
 by_cases hf:(Bn.es x).length=2*t-1
 ·simp[hf,show 2*t-1+1=2*t by omega]
 ·have h4:¬(Bn.es x).length+1=2*t:=by omega
  simp[hf,h4]
theorem its_len{t d:Nat}{x:Bt (d+1)}(h:gY t x):(its x).length=(Bn.es x).length+((Bn.ks x).map fun k=>(its k).length).sum:=by
 rw[el,sZ _ _ (by rcases h.rows with h | h;exact ab h.1;exact ae h.1),cN];rfl
end Bt
section
variable {w wc:World}{ps:Nat}{Z:Nat->Prop}{bt bl D t:Nat}{v:Value}{bN:Nat}{S S':St}{o:Nat->Nat}{Y:Nat->Prop}{v':Value}{L L' U:List Nat}{vk vv vc:Value}{sz k:Nat}{e:It}
theorem rJ {x:Bt 1}(hx:Bt.Walk S o t x)(hnd:(Bt.nodes x).Nodup)(hit:Bt.ItLt (Bt.its x))(hkh:e.kh<2^64)(hvh:e.vh<2^64)(hk:Fr e.k (Bn.es x)=k)(hsz:sz=(Bt.its x).length)
 (h:eH w ps Z bt bl D t v bN wc S Y v L vk vv vc sz ((Bt.bn x).keys.take k++e.kh::(Bt.bn x).keys.drop k) ((Bt.bn x).vals.take k++e.vh::(Bt.bn x).vals.drop k) (Bt.bn x).kids):gQ w ps S o Z bt bl D t v L x e bN wc S Y v L [] (Bt.leafPut x e) vk vv vc:=by
 have t1:1<=t:=by have:=hx.t1;omega
 obtain⟨n1,n2⟩:=Bt.num_leaf t1 x e;obtain⟨p1,p2,p3⟩:=Bt.leafPut_bn x e;subst hk hsz;rw[<-p1,<-p2,<-p3] at h;exact⟨h,by simp,Bt.mid_leaf hx.fit t1 hx.at' hx.ok hnd hit ⟨hkh,hvh⟩ hx.few,n1,n2⟩
theorem Db {d:Nat}{x:Bt (d+2)}(hx:Bt.Walk S o t x)(hnd:(Bt.nodes x).Nodup)(hit:Bt.ItLt (Bt.its x))(hkh:e.kh<2^64)(hvh:e.vh<2^64)(hLx:∀h∈L,h∉Bt.nodes x)(hk:Fr e.k (Bn.es x)=k)(hkl:k<(Bn.ks x).length)(hsz:sz=(Bt.its x).length)
 (hL:L=L'++U) (hp:Bt.Put S S' o t (Bn.ks x)[k] e U none) (n1:U.length=Bt.trail (Bt.fullB t e.k (Bn.ks x)[k])) (n2:false=(Bt.fullB t e.k (Bn.ks x)[k]).all id)
 (h:eH w ps Z bt bl D t v bN wc S' Y v' L' vk vv vc sz (Bt.bn x).keys (Bt.bn x).vals (Bt.bn x).kids):∃x',gQ w ps S o Z bt bl D t v L x e bN wc S' Y v' L' U x' vk vv vc:=by
 have t1:1<=t:=by have:=hx.t1;omega
 subst hk hsz;obtain⟨y,hy,M⟩:=Bt.mid_kid t1 hx.at' hx.ok hnd hx.sorted hit (fun a ha=>by rw[aT.1 ha];exact⟨hkh,hvh⟩) hx.few (fun a ha=>hLx a (hL▸ax _ ha)) hkl hp;obtain⟨p1,p2,p3⟩:=Bt.kidPut_bn x _ hkl (y:=y) hy;obtain⟨m1,m2⟩:=Bt.num_none t1 hx.ok rfl hkl y n1 n2;rw[<-p1,<-p2,<-p3] at h;exact⟨_,h,hL,M,m1,m2⟩
theorem Dc {d:Nat}{x:Bt (d+2)}(hx:Bt.Walk S o t x)(hnd:(Bt.nodes x).Nodup)(hit:Bt.ItLt (Bt.its x))(hkh:e.kh<2^64)(hvh:e.vh<2^64)(hLx:∀h∈L,h∉Bt.nodes x)(hk:Fr e.k (Bn.es x)=k)(hkl:k<(Bn.ks x).length)(hsz:sz=(Bt.its x).length){m:It}{g:Nat}
 (hL:L=L'++U) (hp:Bt.Put S S' o t (Bn.ks x)[k] e U (some (m,g))) (n1:U.length=Bt.trail (Bt.fullB t e.k (Bn.ks x)[k])) (n2:true=(Bt.fullB t e.k (Bn.ks x)[k]).all id)
 (h:eH w ps Z bt bl D t v bN wc S' Y v' L' vk vv vc sz ((Bt.bn x).keys.take k++m.kh::(Bt.bn x).keys.drop k) ((Bt.bn x).vals.take k++m.vh::(Bt.bn x).vals.drop k) ((Bt.bn x).kids.take (k+1)++g::(Bt.bn x).kids.drop (k+1))):∃x',gQ w ps S o Z bt bl D t v L x e bN wc S' Y v' L' U x' vk vv vc:=by
 have t1:1<=t:=by have:=hx.t1;omega
 subst hk hsz;obtain⟨y1,y2,h1,h2,M⟩:=Bt.mid_split t1 hx.at' hx.ok hnd hx.sorted hit (fun a ha=>by rw[aT.1 ha];exact⟨hkh,hvh⟩) hx.few (fun a ha=>hLx a (hL▸ax _ ha)) hkl hp;obtain⟨p1,p2,p3⟩:=Bt.kidSplit_bn x _ hkl (y1:=y1) (y2:=y2) m h1;obtain⟨m1,m2⟩:=Bt.num_some t1 rfl hkl y1 m y2 n1 n2;have h2:Bt.hd (d:=d+1) y2=g:=h2;rw[h2] at p3;rw[<-p1,<-p2,<-p3] at h;exact⟨_,h,hL,M,m1,m2⟩
end
structure jp (w:World) (ps:Nat) (S:St) (o:Nat->Nat) (Z:Nat->Prop) (bt bl D t:Nat) (v:Value) (L:List Nat) {d:Nat} (y:Bt (d+1)) (e:It) (bN:Nat) (vk vv vc:Value) (sz:Nat) (ks vs cs:List Nat) (b:Nat) (wc:World) (r:Option (It×Nat)) (S4:St) (Y4:Nat->Prop) (v4:Value) (L4 U:List Nat):Prop where
 held:eH w ps Z bt bl D t v bN wc S4 Y4 v4 L4 vk vv vc sz ks vs cs
 sum:L=L4++U
 put:Bt.Put S S4 o t y e U r
 num:U.length=Bt.trail (Bt.fullB t e.k y)
 all:r.isSome=(Bt.fullB t e.k y).all id
 up:wc.heap[b]?=some (.cells (iQ r) 406 (0,0))
theorem Bt.trail_cons(b:Bool)(r:List Bool):Bt.trail r<=Bt.trail (b::r):=by
 conv=>rhs;unfold Bt.trail
 by_cases h:r.all id=true
 ·rw[if_pos h,Bt.trail_all h]
  split<;>omega
 ·rw[if_neg h];exact Nat.le_refl _
section
variable {w wc wc':World}{ps:Nat}{Z:Nat->Prop}{bt bl D t:Nat}{v:Value}{bN:Nat}{S S' S2:St}{o:Nat->Nat}{Y Y':Nat->Prop}{v' v2:Value}{L L' L2:List Nat}{vk vv vc uk uv uc:Value}{sz sz' k:Nat}{ks vs cs ks' vs' cs':List Nat}{e:It}
theorem eH.other(h:eH w ps Z bt bl D t v bN wc S' Y v' L' vk vv vc sz ks vs cs){b:Nat}{cs0:Array Value}{fr:Nat×Nat}(hb:Y b)(h3:w.heap.size+3<=b)(hx:wc.heap[b]?=some (.cells cs0 406 fr))(hz:cs0.size<64)(kp:Fo (fun k=>k≠b) wc wc'):eH w ps Z bt bl D t v bN wc' S' Y v' L' vk vv vc sz ks vs cs:=by
 have n3:∀{u:Value} {l:List Nat},FE wc (w.heap.size+3) u l->∀g,u.ownBlock=some g->g≠b:=fun hu g hg q=>by
  obtain⟨ad,ai,e1⟩:=(hu.block hg).2.2;rw[q,hx] at e1
  cases e1
 have nb:bN≠b:=fun q=>by
  have e1:=h.box;rw[q,hx] at e1
  cases e1
 refine h.move (h.st.write (b:=b) hb hx ⟨by decide,by decide⟩ hz kp.size fun k _ hk=>kp.block k hk) (fun k hk=>hk) (kp.mono fun k hk=>?_) (h.sp.keeps fun k hk=>kp.block k (by have:=h.zl k (h.spz k hk);omega)) h.own ((kp.block bN nb).trans h.box) ⟨?_,?_,?_,h.rows.kv,h.rows.kc,h.rows.vc⟩ h.yk
 ·exact qBraa
 ·exact h.rows.k.at fun g hg=>kp.block g (n3 h.rows.k g hg)
 ·exact h.rows.v.at fun g hg=>kp.block g (n3 h.rows.v g hg)
 ·exact h.rows.c.at fun g hg=>kp.block g (n3 h.rows.c g hg)
theorem Bt.Walk.kid_lt {d:Nat}{x:Bt (d+2)}(hx:Bt.Walk S o t x)(hk:Fr e.k (Bn.es x)=k):k<(Bn.ks x).length:=hk▸hx.klen e.k
theorem BG {d:Nat}(hrec:j4 d){x:Bt (d+2)}(hx:Bt.Walk S o t x)(hnd:(Bt.nodes x).Nodup){i:Nat}(hid:i+(d+1)<40)(spare:lG S t L)(hLx:∀h∈L,h∉Bt.nodes x)(hL:L.length<=1000)(hnew:∀a∈Bt.its x,a.k≠e.k)(hit:Bt.ItLt (Bt.its x))(hkh:e.kh<2^64)(hvh:e.vh<2^64)(htr:Bt.trail (Bt.fullB t e.k x)<=L.length)(hk:Fr e.k (Bn.es x)=k)(hkl:k<(Bn.ks x).length)
 {Y1:Nat->Prop} (Hd:eH w ps Z bt bl D t v bN wc S Y1 v L vk vv vc sz ks vs cs):
 Ct 324 #[FH ps t,.int .u64 (Bt.hd (Bn.ks x)[k]:Nat),SV e.k,Id e.kh e.vh,nu bt bl,.int .i64 ((i:Int)+1)] wc fun en w'=>∃(r:Option (It×Nat)) (S4:St) (v4:Value) (L4 U:List Nat),en=.returned (ky r)/\(L=L4++U/\Bt.Put S S4 o t (Bn.ks x)[k] e U r/\U.length=Bt.trail (Bt.fullB t e.k (Bn.ks x)[k])/\r.isSome=(Bt.fullB t e.k (Bn.ks x)[k]).all id/\eH w ps Z bt bl D t v bN w' S4 Y1 v4 L4 vk vv vc sz ks vs cs/\Fo (fun k=>Y1 k/\k≠bl) wc w'):=by
 have hm:=aG hkl;have ad:∀a∈Bt.its (Bn.ks x)[k],a∈Bt.its x:=fun a ha=>Bt.kid_its hx.ok.okN hm ha;have ai:(Bt.nodes (Bn.ks x)[k]).Nodup:=by
  rw[Bt.nodes_parts hkl] at hnd;exact(aw.1 (aw.1 hnd).2.1).1
 have al:Bt.trail (Bt.fullB t e.k (Bn.ks x)[k])<=L.length:=by
  rw[mI t e.k x hk hkl] at htr;exact aO (Bt.trail_cons _ _) htr
 have hc:=hrec (i+1) Hd.st (hx.kid hm) ai (by omega) Hd.sp spare (fun h hh q=>hLx h hh (Bt.mem_nodes_kid hm q)) (Hd.zy _ Hd.zs.1) (Hd.zy _ Hd.zs.2.1) (fun b hb=>Hd.zy _ (Hd.zs.2.2 b hb)) hL (fun a ha=>hnew a (ad a ha)) (fun a ha=>hit a (ad a ha)) hkh hvh al;have e1:((i+1:Nat):Int)=(i:Int)+1:=by omega
 rw[e1] at hc;refine hc.mono ?_;rintro en w' ⟨r,S4,v4,L4,U,rfl,h1,h2,h3,h4,h5,h6,h7,h8⟩;exact⟨r,S4,v4,L4,U,rfl,h1,h2,h7,h8,Hd.kid h3 h4 h5 h6,h4⟩
end
section
variable {w wc wc':World}{ps:Nat}{Z:Nat->Prop}{bt bl D t:Nat}{v:Value}{bN:Nat}{S S4:St}{o:Nat->Nat}{Y:Nat->Prop}{v4:Value}{L L4 U:List Nat}{vk vv vc:Value}{sz:Nat}{ks vs cs:List Nat}{e:It}{d:Nat}{y:Bt (d+1)}{r:Option (It×Nat)}{Y1:Nat->Prop}{w0:World}
theorem jp.new(h:L=L4++U/\Bt.Put S S4 o t y e U r/\U.length=Bt.trail (Bt.fullB t e.k y)/\r.isSome=(Bt.fullB t e.k y).all id/\eH w ps Z bt bl D t v bN wc S4 Y v4 L4 vk vv vc sz ks vs cs/\Fo (fun k=>Y1 k/\k≠bl) w0 wc):
 jp w ps S o Z bt bl D t v L y e bN vk vv vc sz ks vs cs wc.heap.size (wc.alloc (.cells (iQ r) 406)) r S4 (fun k=>Y k\/(wc.heap.size<=k/\k<(wc.alloc (.cells (iQ r) 406)).heap.size)) v4 L4 U:=
 ⟨h.2.2.2.2.1.below ((aa _ wc).alloc Ih _),h.1,h.2.1,h.2.2.1,h.2.2.2.1,heap_alloc_new wc _⟩
theorem jp.set(h:L=L4++U/\Bt.Put S S4 o t y e U r/\U.length=Bt.trail (Bt.fullB t e.k y)/\r.isSome=(Bt.fullB t e.k y).all id/\eH w ps Z bt bl D t v bN wc S4 Y v4 L4 vk vv vc sz ks vs cs/\Fo (fun k=>Y1 k/\k≠bl) w0 wc){b:Nat}(hb:Y b)(h3:w.heap.size+3<=b){z0 z1 z2 z3 c0 c1 c2 c3:Value}(hx:wc.heap[b]?=some (.cells #[z0,z1,z2,z3] 406 (0,0)))(hr:iQ r=#[c0,c1,c2,c3]):
 jp w ps S o Z bt bl D t v L y e bN vk vv vc sz ks vs cs b ((((wc.setCell ⟨b,0,none⟩ (c0)).setCell ⟨b,1,none⟩ (c1)).setCell ⟨b,2,none⟩ (c2)).setCell ⟨b,3,none⟩ (c3)) r S4 Y v4 L4 U:=
 ⟨h.2.2.2.2.1.other hb h3 hx (by simp) ((((Fo.mark fun _ h=>h).trans (Fo.mark fun _ h=>h)).trans (Fo.mark fun _ h=>h)).trans (Fo.mark fun _ h=>h)),h.1,h.2.1,h.2.2.1,h.2.2.2.1,by
  rw[hr];exact heap_setCell (i:=3) (v:=c3) (heap_setCell (i:=2) (v:=c2) (heap_setCell (i:=1) (v:=c1) (heap_setCell (i:=0) (v:=c0) hx)))⟩
theorem jp.ne {b:Nat}(h:jp w ps S o Z bt bl D t v L y e bN vk vv vc sz ks vs cs b wc r S4 Y v4 L4 U):b<wc.heap.size/\vk.ownBlock≠some b/\vv.ownBlock≠some b/\vc.ownBlock≠some b/\b≠bN:=by
 have hb:=h.up;refine⟨(gl hb),fun q=>?_,fun q=>?_,fun q=>?_,fun q=>?_⟩
 ·obtain⟨cs,fr,e⟩:=(h.held.rows.k.block q).2.2;rw[hb] at e
  cases e
 ·obtain⟨cs,fr,e⟩:=(h.held.rows.v.block q).2.2;rw[hb] at e
  cases e
 ·obtain⟨cs,fr,e⟩:=(h.held.rows.c.block q).2.2;rw[hb] at e
  cases e
 ·have e:=h.held.box;rw[<-q,hb] at e
  injection e with e
  injection e with _ e
  exact absurd e (by decide)
end
theorem Bt.bnok_of {S:St}{o:Nat->Nat}(hf:Fw S o){t:Nat}(t1:2<=t)(t2:t<=16){d:Nat}{x:Bt (d+1)}(hk:∀k∈Bn.ks x,Bt.At S t k)(ok:Bt.Ok t x):iU t (Bt.bn x):=by
 refine⟨t1,t2,by unfold Bt.bn;rw[aq];exact ok.1,by unfold Bt.bn;rw[aq,aq],?_⟩;have hq:=ok.2.1;unfold Bt.bn;simp only[aq]
 by_cases hd0:d=0
 ·rw[if_pos hd0] at hq;exact ab hq
 ·rw[if_neg hd0] at hq;refine ae ⟨hq,?_⟩;rw[dP];intro hc;obtain⟨k,ad,e⟩:=aC.1 (db.1 hc);exact(Bt.At.hd_ok hf (hk k ad)).1 e
section
variable {w wc wc':World}{ps:Nat}{Z:Nat->Prop}{bt bl D t:Nat}{v:Value}{bN:Nat}{S S4 S2:St}{o:Nat->Nat}{Y:Nat->Prop}{v4 v2:Value}{L L4 L2 U:List Nat}{vk vv vc:Value}{sz:Nat}{ks vs cs:List Nat}{e:It}{d:Nat}
theorem eH.fin(h:eH w ps Z bt bl D t v bN wc S2 Y v2 L2 vk vv vc sz ks vs cs){z0 z1 z2 z3:Value}(hx:wc.heap[w.heap.size+2]?=some (.cells #[z0,z1,z2,z3] 406 (0,0)))(c0 c1 c2 c3:Value)(wd:World)(hwd:wd=((((wc.setCell ⟨w.heap.size+2,0,none⟩ (c0)).setCell ⟨w.heap.size+2,1,none⟩ (c1)).setCell ⟨w.heap.size+2,2,none⟩ (c2)).setCell ⟨w.heap.size+2,3,none⟩ (c3))):
 Ig wd ps S2 Z/\Fo (fun k=>Z k/\k≠bl) w wd/\gz wd bt bl D ps t v2 L2/\wd.heap[w.heap.size+2]?=some (.cells #[c0,c1,c2,c3] 406 (0,0)):=by
 subst hwd;have kp:Fo (fun k=>k≠w.heap.size+2) wc ((((wc.setCell ⟨w.heap.size+2,0,none⟩ (c0)).setCell ⟨w.heap.size+2,1,none⟩ (c1)).setCell ⟨w.heap.size+2,2,none⟩ (c2)).setCell ⟨w.heap.size+2,3,none⟩ (c3)):=(((Fo.mark fun _ h=>h).trans (Fo.mark fun _ h=>h)).trans (Fo.mark fun _ h=>h)).trans (Fo.mark fun _ h=>h);refine⟨(h.st.write (b:=w.heap.size+2) h.yb.2.2 hx ⟨by decide,by decide⟩ (by simp) kp.size fun k _ hk=>kp.block k hk).mono fun k hk=>h.zy k hk,h.keep.trans (kp.mono fun k hk=>by have:=h.zl k hk.1;omega),h.sp.keeps fun k hk=>kp.block k (by have:=h.zl k (h.spz k hk);omega),?_⟩;exact heap_setCell (i:=3) (v:=c3) (heap_setCell (i:=2) (v:=c2) (heap_setCell (i:=1) (v:=c1) (heap_setCell (i:=0) (v:=c0) hx)))
theorem gQ.putting {x:Bt (d+1)}{U:List Nat}{x':Bt (d+1)}{L':List Nat}{v':Value}{S':St}(M:gQ w ps S o Z bt bl D t v L x e bN wc S' Y v' L' U x' vk vv vc):Fv S'/\S'.len (Bn.h x)=(6*t,0)/\Bn.h x<2^64/\(Bt.its x').length=(Bt.its x).length+1/\(Bt.bn x').keys.length=(Bn.es x').length/\(Bt.bn x').vals.length=(Bn.es x').length/\(Bt.bn x').kids.length=(Bn.ks x').length:=by
 obtain⟨ws,hr,hw⟩:=M.mid.own;refine⟨M.mid.fit.inv,by rw[jw M.mid.fit.tab hr,hw],(fL M.mid.fit hr).2.1,by rw[M.mid.its,Bt.insB_length],?_,?_,?_⟩
 ·unfold Bt.bn;rw[aq]
 ·unfold Bt.bn;rw[aq]
 ·unfold Bt.bn;rw[aq]
end
theorem FE.some {w:World}{D:Nat}{v:Value}{l:List Nat}(h:FE w D v l)(hl:0<l.length):∃b c,v=.slice (some ⟨b,0,none⟩) l.length c/\l.length<=c:=by
 rcases h.2 with⟨e,e2⟩ | ⟨b,c,ai,e,hb,al,ad,an,ao,ht⟩
 ·exact absurd e2 (by intro q;simp[q] at hl)
 ·exact⟨b,c,e,ad⟩
theorem FD.take {w:World}{b n c c' j:Nat}{l:List Nat}(h:FD w (.slice (some ⟨b,0,none⟩) n c) l)(hj:j<=l.length):FD w (.slice (some ⟨b,0,none⟩) j c') (l.take j):=by
 obtain⟨A,c1,e,hc⟩:=h
 injection e with e1 e2 e3
 subst e1;refine⟨_,c',by rw[ay,cX hj],fun k hk=>?_⟩;have ad:k<l.length:=by rw[ay] at hk;omega
 obtain⟨g,o,eg,hg⟩:=hc k ad;exact⟨g,o,eg,by rw[hg,dR]⟩
theorem FD.drop {w:World}{b n c c' j:Nat}{l:List Nat}(h:FD w (.slice (some ⟨b,0,none⟩) n c) l)(hj:j<=l.length):FD w (.slice (some ⟨b,j,none⟩) (n-j) c') (l.drop j):=by
 obtain⟨A,c1,e,hc⟩:=h
 injection e with e1 e2 e3
 subst e1;refine⟨_,c',by rw[aN,e2],fun k hk=>?_⟩;have ad:j+k<l.length:=by rw[aN] at hk;omega
 obtain⟨g,o,eg,hg⟩:=hc (j+k) ad
 injection eg with eg
 injection eg with e4 e5 e6
 subst e4 e5;exact⟨b,j,rfl,by rw[List.getElem_drop];rw[bT] at hg;exact hg⟩
structure eV (wc wd:World) (ps:Nat) (S':St) (Y:Nat->Prop) (bL bR:Nat) (l r:Array Value):Prop where
 st:Ig wd ps S' (fun k=>Y k\/k=bL\/k=bR)
 yl:∀k,Y k->k<wc.heap.size
 kp:Fo Y wc wd
 bl:wd.heap[bL]?=some (.cells l 286 (0,0))
 br:wd.heap[bR]?=some (.cells r 286 (0,0))
 ge:wc.heap.size<=bL/\wc.heap.size<=bR/\bL≠bR
section
variable {wc wd wd':World}{ps:Nat}{S' S2:St}{Y:Nat->Prop}{bL bR:Nat}{l r:Array Value}
theorem eV.start(st:Ig wc ps S' Y)(l r:Array Value):eV wc ((wc.alloc (.cells l 286)).alloc (.cells r 286)).drew ps S' Y wc.heap.size (wc.heap.size+1) l r:=by
 have z1:(wc.alloc (.cells l 286)).heap.size=wc.heap.size+1:=by simp
 have b1:=(aa wc.heap.size wc).alloc Ih (.cells l 286);have c1:=(aa (wc.alloc (.cells l 286)).heap.size (wc.alloc (.cells l 286))).alloc Ih (.cells r 286);have b2:=b1.trans (c1.mono (by rw[z1];omega));have q1:=heap_alloc_new wc (.cells l 286);have q2:=heap_alloc_new (wc.alloc (.cells l 286)) (.cells r 286);have q3:=(c1.block wc.heap.size (by rw[z1];omega)).trans q1;rw[z1] at q2;have hs:((wc.alloc (.cells l 286)).alloc (.cells r 286)).drew.heap.size=wc.heap.size+2:=by simp
 refine⟨(st.wide b2.drew).mono fun k hk=>?_,st.yl,st.keep b2.drew,q3,q2,Nat.le_refl _,by omega,by omega⟩
 rcases hk with hk | rfl | rfl
 ·exact ab hk
 ·exact ae ⟨Nat.le_refl _,by rw[hs];omega⟩
 ·exact ae ⟨by omega,by rw[hs];omega⟩
theorem eV.turn(h:eV wc wd ps S' Y bL bR l r):eV wc wd ps S' Y bR bL r l:=
 ⟨h.st.mono fun k hk=>by rcases hk with hk | hk | hk;exact ab hk;exact ae (ae hk);exact ae (ab hk),h.yl,h.kp,h.br,h.bl,h.ge.2.1,h.ge.1,h.ge.2.2.symm⟩
theorem eV.lt(h:eV wc wd ps S' Y bL bR l r):bL<wd.heap.size/\bR<wd.heap.size:=⟨(gl h.bl),(gl h.br)⟩
theorem eV.below(h:eV wc wd ps S' Y bL bR l r)(hb:Below wd.heap.size wd wd'):eV wc wd' ps S' Y bL bR l r:=
 ⟨h.st.below hb,h.yl,h.kp.trans (Fo.of_below hb fun k hk=>by have:=h.yl k hk;have:=h.kp.size;omega),(hb.block _ h.lt.1).trans h.bl,(hb.block _ h.lt.2).trans h.br,h.ge⟩
theorem eV.put(h:eV wc wd ps S' Y bL bR l r)(st:Ig wd' ps S2 (fun k=>Y k\/k=bL\/k=bR))(kp:Fo (fun k=>Y k\/k=bL\/k=bR) wd wd'):eV wc wd' ps S2 Y bL bR l r:=
 ⟨st,h.yl,h.kp.trans (kp.mono fun _ hk=>ab hk),(kp.block _ (ae (ab rfl))).trans h.bl,(kp.block _ (ae (ae rfl))).trans h.br,h.ge⟩
theorem eV.setL(h:eV wc wd ps S' Y bL bR l r)(hl:l.size<64)(i:Nat)(v:Value)(l':Array Value)(e:(wd.setCell ⟨bL,i,none⟩ v).heap[bL]?=some (.cells l' 286 (0,0))):eV wc (wd.setCell ⟨bL,i,none⟩ v) ps S' Y bL bR l' r:=
 ⟨h.st.write (b:=bL) (ae (ab rfl)) h.bl ⟨by decide,by decide⟩ hl (by simp) fun k _ hk=>FB hk,h.yl,h.kp.trans (Fo.mark fun k hk=>by have:=h.yl k hk;have:=h.ge.1;omega),e,(FB (Ne.symm h.ge.2.2)).trans h.br,h.ge⟩
theorem eV.row(h:eV wc wd ps S' Y bL bR l r){v:Value}{u:List Nat}(hu:FD wc v u)(hy:∀g,v.ownBlock=some g->Y g):FD wd v u:=hu.keeps fun g hg _=>h.kp.block g (hy g hg)
end
section
variable {wc wd:World}{ps:Nat}{S':St}{Y:Nat->Prop}{bL bR:Nat}{a b c z a' b' c' z':Value}
theorem eV.setL2(h:eV wc wd ps S' Y bL bR #[a,b,c,z] #[a',b',c',z'])(v:Value):eV wc (wd.setCell ⟨bL,2,none⟩ v) ps S' Y bL bR #[a,b,v,z] #[a',b',c',z']:=h.setL (by simp) 2 v _ (heap_setCell (i:=2) (v:=v) h.bl)
theorem eV.setL3(h:eV wc wd ps S' Y bL bR #[a,b,c,z] #[a',b',c',z'])(v:Value):eV wc (wd.setCell ⟨bL,3,none⟩ v) ps S' Y bL bR #[a,b,c,v] #[a',b',c',z']:=h.setL (by simp) 3 v _ (heap_setCell (i:=3) (v:=v) h.bl)
theorem eV.setR2(h:eV wc wd ps S' Y bL bR #[a,b,c,z] #[a',b',c',z'])(v:Value):eV wc (wd.setCell ⟨bR,2,none⟩ v) ps S' Y bL bR #[a,b,c,z] #[a',b',v,z']:=(h.turn.setL2 v).turn
theorem eV.setR3(h:eV wc wd ps S' Y bL bR #[a,b,c,z] #[a',b',c',z'])(v:Value):eV wc (wd.setCell ⟨bR,3,none⟩ v) ps S' Y bL bR #[a,b,c,z] #[a',b',c',v]:=(h.turn.setL3 v).turn
end
theorem EC {α:Type}(f:α->Nat)(l:List α)(a j:Nat):(((l.drop a).take j).map f).sum<=(l.map f).sum:=by
 have h1:(l.map f).sum=((l.take a).map f).sum+((l.drop a).map f).sum:=by rw[<-dJ,<-aL,aX]
 have h2:((l.drop a).map f).sum=(((l.drop a).take j).map f).sum+(((l.drop a).drop j).map f).sum:=by rw[<-dJ,<-aL,aX]
 omega
theorem ED {α:Type}(f:α->Nat)(l:List α){j:Nat}(h:j<l.length):((l.take (j+1)).map f).sum=((l.take j).map f).sum+f l[j]:=by
 rw[bx h,aL,dJ];simp
namespace Bt
theorem Put.same {S S':St}{o:Nat->Nat}{t d:Nat}{x:Bt (d+1)}{e:It}{U V:List Nat}{r:Option (It×Nat)}(h:Put S S' o t x e U r)(hv:∀y,y∈U↔y∈V):Put S S' o t x e V r:=by
 refine⟨h.fit,h.grew,fun y h1 h2=>h.fr y h1 fun q=>h2 ((hv y).1 q),?_⟩;have:=h.res
 cases r with
 | none=>
  obtain⟨y,a,b,c,d,e,f,g⟩:=this;exact⟨y,a,b,c,d,e,f,fun z hz=>(g z hz).imp id (hv z).1⟩
 | some q=>
  obtain⟨m,g⟩:=q;obtain⟨y1,y2,a1,a2,a3,a4,a5,a6,a7,a8,a9,ad,ai⟩:=this;exact⟨y1,y2,a1,a2,a3,a4,a5,a6,a7,a8,a9,ad,fun z hz=>(ai z hz).imp id (hv z).1⟩
end Bt
namespace Bt
theorem leftOf_bn(t:Nat){d:Nat}(x:Bt (d+1)):(bn (leftOf t x)).keys=(bn x).keys.take t/\(bn (leftOf t x)).vals=(bn x).vals.take t/\(bn (leftOf t x)).kids=(bn x).kids.take (t+1):=by
 refine⟨?_,?_,?_⟩
 ·show ((Bn.es x).take t).map _=((Bn.es x).map _).take t
  rw[bX]
 ·show ((Bn.es x).take t).map _=((Bn.es x).map _).take t
  rw[bX]
 ·show ((Bn.ks x).take (t+1)).map _=((Bn.ks x).map _).take (t+1)
  rw[bX]
theorem rightOf_bn(t:Nat){d:Nat}(x:Bt (d+1))(g:Nat):(bn (rightOf t x g)).keys=(bn x).keys.drop (t+1)/\(bn (rightOf t x g)).vals=(bn x).vals.drop (t+1)/\(bn (rightOf t x g)).kids=(bn x).kids.drop (t+1)/\(bn (rightOf t x g)).kids=((Bn.ks x).drop (t+1)).map hd:=by
 refine⟨?_,?_,?_,rfl⟩
 ·show ((Bn.es x).drop (t+1)).map _=((Bn.es x).map _).drop (t+1)
  rw[cB]
 ·show ((Bn.es x).drop (t+1)).map _=((Bn.es x).map _).drop (t+1)
  rw[cB]
 ·show ((Bn.ks x).drop (t+1)).map _=((Bn.ks x).map _).drop (t+1)
  rw[cB]
end Bt
section
variable {w wc:World}{ps:Nat}{Z:Nat->Prop}{bt bl D t:Nat}{v:Value}{bN:Nat}{S S':St}{o:Nat->Nat}{Y:Nat->Prop}{v':Value}{L L' U:List Nat}{vk vv vc:Value}{e:It}{d:Nat}{x x':Bt (d+1)}
theorem gQ.spare(M:gQ w ps S o Z bt bl D t v L x e bN wc S' Y v' L' U x' vk vv vc)(htr:Bt.trail (Bt.fullB t e.k x)<=L.length)(spare:lG S t L)(hLx:∀h∈L,h∉Bt.nodes x)(hn:(Bn.es x').length=2*t):∃L2 g,L'=L2++[g]/\g∉U/\g∉Bt.nodes x/\g≠Bn.h x/\∃wg,reco S g=some wg/\reco S' g=some wg/\wg.length=6*t:=by
 have an:=M.num;rw[if_pos hn] at an;have ad:L.length=L'.length+U.length:=by rw[M.sum,aE]
 have al:L'≠[]:=fun q=>by rw[q] at ad;simp at ad;omega
 obtain⟨L2,g,hg⟩:∃L2 g,L'=L2++[g]:=⟨L'.dropLast,L'.getLast al,(List.dropLast_concat_getLast al).symm⟩;have hm:g∈L:=by rw[M.sum,hg];simp
 have ai:=spare.nd;rw[M.sum,hg] at ai;have hU:g∉U:=fun q=>(aw.1 ai).2.2 g (by simp) g q rfl;obtain⟨wg,h1,h2⟩:=spare.recs g hm;exact⟨L2,g,hg,hU,hLx g hm,fun q=>hLx g hm (q▸Bt.hd_mem x),wg,h1,(M.mid.fr g (hLx g hm) hU).trans h1,h2⟩
theorem gQ.halves(M:gQ w ps S o Z bt bl D t v L x e bN wc S' Y v' L' U x' vk vv vc)(t1:2<=t)(hn:(Bn.es x').length=2*t)(g:Nat):Bt.Ok t (Bt.leftOf t x')/\Bt.Ok t (Bt.rightOf t x' g)/\(Bt.its x').length=(Bt.its (Bt.leftOf t x')).length+1+(Bt.its (Bt.rightOf t x' g)).length/\(∀k∈Bn.ks (Bt.leftOf t x'),Bt.At S' t k)/\(∀k∈Bn.ks (Bt.rightOf t x' g),Bt.At S' t k)/\(Bt.its (Bt.rightOf t x' g)).length=(Bn.es x').length-(t+1)+(((Bn.ks x').drop (t+1)).map fun k=>(Bt.its k).length).sum:=by
 obtain⟨c1,c2,c3,c4,c5⟩:=M.mid.okN.split (by omega) hn g;refine⟨c2,c3,?_,fun k hk=>M.mid.kids k (bI hk),fun k hk=>M.mid.kids k (bB hk),?_⟩
 ·have:=congrArg List.length c1;rw[aE,ak] at this;omega
 ·rw[Bt.its_len c3.okN]
  show ((Bn.es x').drop (t+1)).length+_=_
  rw[aN]
  rfl
theorem gQ.lts(M:gQ w ps S o Z bt bl D t v L x e bN wc S' Y v' L' U x' vk vv vc)(t1:2<=t)(hn:(Bn.es x').length=2*t)(g:Nat):iT (Bt.bn (Bt.leftOf t x'))/\iT (Bt.bn (Bt.rightOf t x' g)):=by
 have hs:=(M.halves t1 hn g).2.2.1;have hz:(Bt.its x').length<2^64:=M.mid.lt.size;have ad:∀q∈Bn.es x',q.kh<2^64/\q.vh<2^64:=fun q hq=>⟨M.mid.lt.keys _ (aC.2 ⟨q,hq,rfl⟩),M.mid.lt.vals _ (aC.2 ⟨q,hq,rfl⟩)⟩;exact⟨Bt.bnLt_of M.mid.fit (fun q hq=>ad q (bI hq)) (fun k hk=>M.mid.kids k (bI hk)) (by omega),Bt.bnLt_of M.mid.fit (fun q hq=>ad q (bB hq)) (fun k hk=>M.mid.kids k (bB hk)) (by omega)⟩
end
theorem ri {S':St}{o:Nat->Nat}{t ps:Nat}:∀{d:Nat} {k:Bt d},Fw S' o->2<=t->t<=16->Bt.At S' t k->Bt.Ok t k->(Bt.its k).length<2^62->∀(W:World) (Yx:Nat->Prop),Ig W ps S' Yx->Cb 163 #[FH ps t,.int .u64 (Bt.hd k:Nat)] W (.int .i64 (Bt.its k).length)
 | 0,k,_,_,_,_,_,_=>nomatch k
 | _+1,_,hf,t1,t2,ha,ok,hz=>fun _ _ hst=>nS hst hf.inv (Bt.At.read hf t1 t2 ha ok) hz
section
variable {w wc:World}{ps:Nat}{Z:Nat->Prop}{bt bl D t:Nat}{v:Value}{bN:Nat}{S S':St}{o:Nat->Nat}{Y:Nat->Prop}{v':Value}{L L' U:List Nat}{vk vv vc:Value}{e:It}{d:Nat}{x x':Bt (d+1)}
theorem gQ.left_put(M:gQ w ps S o Z bt bl D t v L x e bN wc S' Y v' L' U x' vk vv vc)(t1:2<=t)(t2:t<=16)(hn:(Bn.es x').length=2*t){g:Nat}(hgx:g≠Bn.h x){wg:List Nat}(hg:reco S' g=some wg):Fw (FC S' (Bn.h x) 0 (bnWords t (Bt.bn (Bt.leftOf t x')))) o/\reco (FC S' (Bn.h x) 0 (bnWords t (Bt.bn (Bt.leftOf t x')))) g=some wg:=by
 obtain⟨ws,hr,hw⟩:=M.mid.own;have hh:Bt.hd (Bt.leftOf t x')=Bn.h x:=M.mid.hd;have hp:=Bt.put_node (x:=Bt.leftOf t x') M.mid.fit (fun k hk=>M.mid.kids k (bI hk)) (fun k hk=>by
  show Bn.h x'∉_
  exact Bt.hd_kids M.mid.nd k (bI hk)) (by rw[hh];exact hr) hw (M.lts t1 hn 0).1 (by show ((Bn.es x').take t).length<1000;rw[ay];omega)
 rw[hh] at hp;exact⟨hp.1,(hp.2.2.1 g hgx).trans hg⟩
theorem gQ.done(M:gQ w ps S o Z bt bl D t v L x e bN wc S' Y v' L' U x' vk vv vc)(t1:2<=t)(t2:t<=16)(hn:(Bn.es x').length=2*t){g:Nat}(hU:g∉U)(hx:g∉Bt.nodes x){wg:List Nat}(h1:reco S g=some wg)(h2:wg.length=6*t)(ht:t<(Bn.es x').length):
 Bt.Put S (FC (FC S' (Bn.h x) 0 (bnWords t (Bt.bn (Bt.leftOf t x')))) g 0 (bnWords t (Bt.bn (Bt.rightOf t x' g)))) o t x e (g::U) (some ((Bn.es x')[t],g))/\(g::U).length=Bt.trail (Bt.fullB t e.k x)/\true=(Bt.fullB t e.k x).all id:=by
 have ai:=M.num;have ad:=M.all;rw[if_pos hn] at ai;rw[decide_eq_true hn] at ad;exact⟨(M.mid.cut (by omega) t2 hn hU hx h1 h2).same fun y=>by simp[or_comm],by rw[ak];exact ai,ad⟩
end
end
section
open Lf Tr
def ff(l:List It):List Nat:=l.flatMap fun d=>[d.kh,d.vh]
theorem gh {l:List It}{y:Nat}:y∈ff l↔∃d∈l,y=d.kh\/y=d.vh:=by
 unfold ff;simp[List.mem_flatMap]
theorem nO(a b:List It):ff (a++b)=ff a++ff b:=by unfold ff;exact dG
namespace Bt
structure Tree (S:St) (o:Nat->Nat) (t:Nat) {d:Nat} (x:Bt (d+1)):Prop where
 fit:Fw S o
 t1:2<=t
 t2:t<=16
 at':At S t x
 ok:Ok t x
 sorted:(its x).Pairwise eU
 blobs:∀a∈its x,gu S a
 few:(its x).length<1000000
 nodes:(nodes x).Nodup
 texts:(ff (its x)).Nodup
 apart:∀h∈Bt.nodes x,h∉ff (its x)
 pos:1<=nk x
variable {S S':St}{o o':Nat->Nat}{t d:Nat}{x:Bt (d+1)}
theorem Tree.walk(h:Tree S o t x):Walk S o t x:=
 ⟨h.fit,h.t1,h.t2,h.at',h.ok,h.sorted,⟨fun a ha=>(blobs_lt h.fit (h.blobs a ha)).1,fun a ha=>jt h.fit (h.blobs a ha).lk (h.blobs a ha).k⟩,h.few⟩
theorem Tree.lts(h:Tree S o t x):ItLt (its x):=fun a ha=>blobs_lt h.fit (h.blobs a ha)
theorem Tree.low(h:Tree S o t x):d<19:=by
 have h1:=pow_le t h.t1 h.ok h.pos;have h2:=h.few
 rcases cg d 19 with h3 | h3
 ·exact h3
 ·have:2^20<=2^(d+1):=cT (by decide) (by omega);have e:2^20=1048576:=by decide
  omega
def recs(x:Bt (d+1)):List Nat:=Bt.nodes x++ff (its x)
theorem Tree.has(h:Tree S o t x):∀y∈recs x,reco S y≠none:=fun y hy q=>by
 rcases am.1 hy with hy | hy
 ·obtain⟨n,e⟩:=h.at'.rec y hy;rw[q] at e;cases e
 ·obtain⟨a,ha,e⟩:=gh.1 hy;have hb:=h.blobs a ha;rcases e with rfl | rfl
  ·have:=hb.k;rw[q] at this;cases this
  ·have:=hb.v;rw[q] at this;cases this
theorem Tree.frame(h:Tree S o t x)(hf:Fw S' o')(hs:∀y∈recs x,reco S' y=reco S y):Tree S' o' t x:=
 ⟨hf,h.t1,h.t2,h.at'.frame fun y hy=>hs y (az _ hy),h.ok,h.sorted,fun a ha=>(h.blobs a ha).frame (hs _ (ax _ (gh.2 ⟨a,ha,ab rfl⟩))) (hs _ (ax _ (gh.2 ⟨a,ha,ae rfl⟩))),h.few,h.nodes,h.texts,h.apart,h.pos⟩
theorem blobH_ins {e:It}:∀{l:List It},∀y,y∈ff (insB e l)↔y=e.kh\/y=e.vh\/y∈ff l:=fun {l} y=>by
 constructor
 ·intro hy;obtain⟨a,ha,q⟩:=gh.1 hy;rcases kg.1 ha with rfl | ha
  ·rcases q with q | q
   ·exact ab q
   ·exact ae (ab q)
  ·exact ae (ae (gh.2 ⟨a,ha,q⟩))
 ·rintro(q | q | hy)
  ·exact gh.2 ⟨e,kg.2 (ab rfl),ab q⟩
  ·exact gh.2 ⟨e,kg.2 (ab rfl),ae q⟩
  ·obtain⟨a,ha,q⟩:=gh.1 hy;exact gh.2 ⟨a,kg.2 (ae ha),q⟩
theorem zA {e:It}{l:List It}:(ff (insB e l)).Perm (e.kh::e.vh::ff l):=by
 have h:(insB e l).Perm (e::l):=by
  unfold insB;refine List.perm_middle.trans ?_;rw[aX]
 unfold ff;exact h.flatMap_right _
structure New (S:St) (x:Bt (d+1)) (e:It):Prop where
 blobs:gu S e
 ne:e.kh≠e.vh
 off:e.kh∉recs x/\e.vh∉recs x
 key:∀a∈its x,a.k≠e.k
 few:(its x).length+1<1000000
theorem New.texts {e:It}(n:New S x e)(h:Tree S o t x){L:List Nat}(hL:∀y∈L,reco S y=none):(ff (insB e (its x))).Nodup/\∀y∈ff (insB e (its x)),y∉Bt.nodes x/\y∉L:=by
 refine⟨zA.nodup_iff.2 (aF.2 ⟨fun hm=>?_,aF.2 ⟨fun hm=>n.off.2 (ax _ hm),h.texts⟩⟩),fun y hy=>?_⟩
 ·rcases ag.1 hm with q | hm
  ·exact n.ne q
  ·exact n.off.1 (ax _ hm)
 ·have hk:reco S y≠none:=by
   intro q;obtain⟨a,ha,e1⟩:=gh.1 hy;have hb:gu S a:=by
    rcases kg.1 ha with rfl | ha
    ·exact n.blobs
    ·exact h.blobs a ha
   rcases e1 with rfl | rfl
   ·have:=hb.k;rw[q] at this
    cases this
   ·have:=hb.v;rw[q] at this
    cases this
  refine⟨fun hm=>?_,fun hm=>hk (hL y hm)⟩
  rcases(blobH_ins y).1 hy with q | q | hb
  ·exact n.off.1 (q▸az _ hm)
  ·exact n.off.2 (q▸az _ hm)
  ·exact h.apart y hm hb
theorem New.stay {e:It}(n:New S x e)(h:Tree S o t x){L:List Nat}(hL:∀y∈L,reco S y=none)(hS:∀y,y∉Bt.nodes x->y∉L->reco S' y=reco S y):∀a∈insB e (its x),gu S' a:=fun a ha=>by
 have hb:gu S a:=by
  rcases kg.1 ha with rfl | ha
  ·exact n.blobs
  ·exact h.blobs a ha
 have hd:=(n.texts h hL).2;have h1:=hd a.kh (gh.2 ⟨a,ha,ab rfl⟩);have h2:=hd a.vh (gh.2 ⟨a,ha,ae rfl⟩);exact hb.frame (hS _ h1.1 h1.2) (hS _ h2.1 h2.2)
theorem Tree.insert_none(h:Tree S o t x){e:It}(n:New S x e){S1 S2:St}{o1:Nat->Nat}{L U:List Nat}(hL:∀y∈L,reco S y=none)(h1:∀y,y∉L->reco S1 y=reco S y)(hU:∀y∈U,y∈L)(p:Put S1 S2 o1 t x e U none):
 ∃y:Bt (d+1),hd y=hd x/\Tree S2 o1 t y/\its y=insB e (its x)/\(∀z∈Bt.nodes y,z∈Bt.nodes x\/z∈U):=by
 obtain⟨y,a1,a2,a3,a4,a5,a6,a7⟩:=p.res;have hs:∀z,z∉Bt.nodes x->z∉L->reco S2 z=reco S z:=fun z q1 q2=>(p.fr z q1 fun q=>q2 (hU z q)).trans (h1 z q2);obtain⟨t3,t4⟩:=n.texts h hL;refine⟨y,a1,⟨p.fit,h.t1,h.t2,a2,a3,by rw[a5];exact uR h.sorted n.key,by rw[a5];exact n.stay h hL hs,by rw[a5,insB_length];exact n.few,a6,by rw[a5];exact t3,fun z hz hb=>?_,aO h.pos a4⟩,a5,a7⟩;rw[a5] at hb
 rcases a7 z hz with q | q
 ·exact(t4 z hb).1 q
 ·exact(t4 z hb).2 (hU z q)
def rootOf(g:Nat)(m:It)(y1 y2:Bt (d+1)):Bt (d+2):=(⟨g,[m],[y1,y2]⟩:Bn (Bt (d+1)))
theorem wJ(g:Nat)(m:It)(y1 y2:Bt (d+1)):Bt.nodes (rootOf g m y1 y2)=g::(Bt.nodes y1++Bt.nodes y2):=by
 rw[jQ]
 show g::([y1,y2].map Bt.nodes).flatten=_
 simp
theorem Tree.insert_root(h:Tree S o t x){e:It}(n:New S x e){S1 S2:St}{o1:Nat->Nat}{L U:List Nat}(hL:∀y∈L,reco S y=none)(h1:∀y,y∉L->reco S1 y=reco S y)(hU:∀y∈U,y∈L){m:It}{g:Nat}(p:Put S1 S2 o1 t x e U (some (m,g))){r:Nat}(hr:r∈L)(hrU:r∉U){ws:List Nat}(hw:reco S1 r=some ws)(hl:ws.length=6*t):
 ∃y1 y2:Bt (d+1),hd y1=hd x/\hd y2=g/\At S2 t y1/\At S2 t y2/\Ok t y1/\Ok t y2/\(its y1).length+(its y2).length+1<1000000/\Ok t (rootOf r m y1 y2)/\iT (bn (rootOf r m y1 y2))/\(reco S2 r=some ws)/\Tree (FC S2 r 0 (bnWords t (bn (rootOf r m y1 y2)))) o1 t (rootOf r m y1 y2)/\its (rootOf r m y1 y2)=insB e (its x)/\(∀z∈Bt.nodes (rootOf r m y1 y2),z∈Bt.nodes x\/z∈L)/\(∀z,z≠r->reco (FC S2 r 0 (bnWords t (bn (rootOf r m y1 y2)))) z=reco S2 z)/\ej S2 (FC S2 r 0 (bnWords t (bn (rootOf r m y1 y2)))) 0 0:=by
 obtain⟨y1,y2,a1,a2,a3,a4,a5,a6,a7,a8,a9,a',al⟩:=p.res;have au:r∉Bt.nodes x:=fun q=>h.has r (az _ q) (hL r hr);have ar:reco S2 r=some ws:=(p.fr r au hrU).trans hw;have hs:∀z,z∉Bt.nodes x->z∉L->reco S2 z=reco S z:=fun z q1 q2=>(p.fr z q1 fun q=>q2 (hU z q)).trans (h1 z q2);obtain⟨t3,t4⟩:=n.texts h hL;have ai:r∉Bt.nodes y1++Bt.nodes y2:=fun q=>(al r q).elim au hrU;have ad:its (rootOf r m y1 y2)=insB e (its x):=a9;have t1:=h.t1;have ok:Ok t (rootOf r m y1 y2):=by
  refine⟨by show 1<=2*t-1;omega,by show 2=if d+1=0 then 0 else 1+1;rw[if_neg (by omega)],fun k hk=>?_⟩;have hk:k∈ [y1,y2]:=hk
  rcases ag.1 hk with rfl | hk
  ·exact⟨a5,by omega⟩
  ·rw[aT.1 hk];exact⟨a6,by omega⟩
 have ba:(its y1).length+(its y2).length+1<1000000:=by
  have e1:=congrArg List.length a9;rw[aE,ak,insB_length] at e1;have:=n.few;omega
 have ao:∀k∈Bn.ks (rootOf r m y1 y2),At S2 t k:=fun k hk=>by
  have hk:k∈ [y1,y2]:=hk
  rcases ag.1 hk with rfl | hk
  ·exact a3
  ·rw[aT.1 hk];exact a4
 have a0:=n.stay h hL hs;have an:iT (bn (rootOf r m y1 y2)):=bnLt_of p.fit (fun a ha=>blobs_lt p.fit (a0 a (by rw[<-ad];exact lN ok.okN ha))) ao (by rw[ad,insB_length];have:=n.few;omega);have bb:∀k∈Bn.ks (rootOf r m y1 y2),hd (rootOf r m y1 y2)∉Bt.nodes k:=fun k hk q=>by
  have hk:k∈ [y1,y2]:=hk;have q:r∈Bt.nodes k:=q
  rcases ag.1 hk with rfl | hk
  ·exact ai (az _ q)
  ·rw[aT.1 hk] at q;exact ai (ax _ q)
 obtain⟨p1,p2,p3,p4⟩:=put_node (x:=rootOf r m y1 y2) p.fit ao bb (ws:=ws) ar hl an (by show 1<1000;omega);have p3:∀z,z≠r->reco (FC S2 r 0 (bnWords t (bn (rootOf r m y1 y2)))) z=reco S2 z:=p3;have ap:∀z∈Bt.nodes (rootOf r m y1 y2),z∈Bt.nodes x\/z∈L:=fun z hz=>by
  rw[wJ] at hz
  rcases ag.1 hz with rfl | hz
  ·exact ae hr
  ·exact(al z hz).imp id (hU z)
 refine⟨y1,y2,a1,a2,a3,a4,a5,a6,ba,ok,an,ar,⟨p1,h.t1,h.t2,p2,ok,by rw[ad];exact uR h.sorted n.key,?_,by rw[ad,insB_length];exact n.few,?_,by rw[ad];exact t3,fun z hz hb=>?_,Nat.le_refl 1⟩,ad,ap,p3,p4⟩
 ·rw[ad];intro a ha;have h5:=t4 a.kh (gh.2 ⟨a,ha,ab rfl⟩);have h6:=t4 a.vh (gh.2 ⟨a,ha,ae rfl⟩);exact(a0 a ha).frame (p3 _ fun q=>h5.2 (q▸hr)) (p3 _ fun q=>h6.2 (q▸hr))
 ·rw[wJ];exact aF.2 ⟨ai,a'⟩
 ·rw[ad] at hb
  rcases ap z hz with q | q
  ·exact(t4 z hb).1 q
  ·exact(t4 z hb).2 q
end Bt
