/- B-trees: insert: what its walk comes to between. -/
import Derived.Test.YtpljannolpapgaaGreatDoorVFq
set_option maxRecDepth 100000
set_option maxHeartbeats 6400000
namespace Go.Proofs.YtpljannolpapgaaGreatDoor
section
open Go.RowKit Tryz Go.BigFrame Go.Maps Go.WideMaps Lf Tr
open Go.Shelf
structure eH (w:World) (ps:Nat) (Z:Nat->Prop) (bt bl D t:Nat) (v:Value) (bN:Nat) (wc:World) (S':St) (Y:Nat->Prop) (v':Value) (L':List Nat) (vk vv vc:Value) (sz:Nat) (ks vs cs:List Nat):Prop where
 st:Ig wc ps S' Y
 zy:∀k,Z k->Y k
 zl:∀k,Z k->k<w.heap.size
 zs:Z bl/\Z bt/\∀b,v.ownBlock=some b->Z b
 keep:Fo (fun k=>Z k/\k≠bl) w wc
 sp:gz wc bt bl D ps t v' L'
 own:v'.ownBlock=v.ownBlock
 box:wc.heap[bN]?=some (.cells #[vk,vv,vc,Xu sz] 215 (0,0))
 rows:fN wc (w.heap.size+3) vk vv vc ks vs cs
 yb:Y bN/\Y w.heap.size/\Y (w.heap.size+2)
 yk:∀g,(vk.ownBlock=some g\/vv.ownBlock=some g\/vc.ownBlock=some g)->Y g
 tree:wc.heap[w.heap.size]?=some (.cells #[PV ps,Xi t] 145 (0,0))
 res:wc.heap[w.heap.size+2]?=some (.cells #[.bool false,Xu 0,Xu 0,Xu 0] 274 (0,0))
 at3:w.heap.size+3<=bN
theorem gz.keeps {w w':World}{bt bl D ps t:Nat}{v:Value}{L:List Nat}(h:gz w bt bl D ps t v L)(e:∀k,iJ bt bl v k->w'.heap[k]?=w.heap[k]?):gz w' bt bl D ps t v L:=
 ⟨(e bl (ae (aa rfl))).trans h.box,(e bt (aa rfl)).trans h.tree,h.row.at fun g hg=>e g (ae (ae hg)),h.lo⟩
section
variable {w wc wc':World}{ps:Nat}{Z:Nat->Prop}{bt bl D t:Nat}{v:Value}{bN:Nat}{S' S2:St}{Y Y':Nat->Prop}{v' v2:Value}{L' L2:List Nat}{vk vv vc uk uv uc:Value}{sz sz':Nat}{ks vs cs ks' vs' cs':List Nat}
theorem eH.ne(h:eH w ps Z bt bl D t v bN wc S' Y v' L' vk vv vc sz ks vs cs):vk.ownBlock≠some bN/\vv.ownBlock≠some bN/\vc.ownBlock≠some bN:=by
 have hb:=h.box;refine⟨fun q=>?_,fun q=>?_,fun q=>?_⟩
 ·obtain⟨cs,fr,e⟩:=(h.rows.k.block q).2.2;rw[hb] at e
  cases e
 ·obtain⟨cs,fr,e⟩:=(h.rows.v.block q).2.2;rw[hb] at e
  cases e
 ·obtain⟨cs,fr,e⟩:=(h.rows.c.block q).2.2;rw[hb] at e
  cases e
theorem eH.lt(h:eH w ps Z bt bl D t v bN wc S' Y v' L' vk vv vc sz ks vs cs):bN<wc.heap.size:=(gl h.box)
theorem eH.spz(h:eH w ps Z bt bl D t v bN wc S' Y v' L' vk vv vc sz ks vs cs):∀k,iJ bt bl v' k->Z k:=fun k hk=>by
 rcases hk with rfl | rfl | hk
 ·exact h.zs.2.1
 ·exact h.zs.1
 ·exact h.zs.2.2 k (by rw[<-h.own];exact hk)
theorem eH.move(h:eH w ps Z bt bl D t v bN wc S' Y v' L' vk vv vc sz ks vs cs)(st:Ig wc' ps S2 Y')(hy:∀k,Y k->Y' k)(kp:Fo (fun k=>(Z k/\k≠bl)\/k=w.heap.size\/k=w.heap.size+2) wc wc')(sp:gz wc' bt bl D ps t v2 L2)(own:v2.ownBlock=v.ownBlock)
 (box:wc'.heap[bN]?=some (.cells #[uk,uv,uc,Xu sz'] 215 (0,0))) (rows:fN wc' (w.heap.size+3) uk uv uc ks' vs' cs') (yk:∀g,(uk.ownBlock=some g\/uv.ownBlock=some g\/uc.ownBlock=some g)->Y' g):eH w ps Z bt bl D t v bN wc' S2 Y' v2 L2 uk uv uc sz' ks' vs' cs':=
 ⟨st,fun k hk=>hy k (h.zy k hk),h.zl,h.zs,h.keep.trans (kp.mono fun _ hk=>aa hk),sp,own,box,rows,⟨hy _ h.yb.1,hy _ h.yb.2.1,hy _ h.yb.2.2⟩,yk,(kp.block _ (ae (aa rfl))).trans h.tree,(kp.block _ (ae (ae rfl))).trans h.res,h.at3⟩
theorem eH.below(h:eH w ps Z bt bl D t v bN wc S' Y v' L' vk vv vc sz ks vs cs)(hb:Below wc.heap.size wc wc'):eH w ps Z bt bl D t v bN wc' S' (fun k=>Y k\/(wc.heap.size<=k/\k<wc'.heap.size)) v' L' vk vv vc sz ks vs cs:=by
 have ad:=h.st.yl;have ai:=h.keep.size;have hl:=h.lt;refine h.move (h.st.wide hb) (fun k hk=>aa hk) (Fo.of_below hb fun k hk=>?_) (h.sp.keeps fun k hk=>hb.block k (ad k (h.zy k (h.spz k hk)))) h.own ((hb.block bN hl).trans h.box) (h.rows.below hb) fun g hg=>aa (h.yk g hg)
 rcases hk with hk | rfl | rfl
 ·exact ad k (h.zy k hk.1)
 ·exact ad _ h.yb.2.1
 ·exact ad _ h.yb.2.2
end
structure gQ (w:World) (ps:Nat) (S:St) (o:Nat->Nat) (Z:Nat->Prop) (bt bl D t:Nat) (v:Value) (L:List Nat) {d:Nat} (x:Bt (d+1)) (e:It) (bN:Nat) (wc:World) (S':St) (Y:Nat->Prop) (v':Value) (L' U:List Nat) (x':Bt (d+1)) (vk vv vc:Value):Prop where
 held:eH w ps Z bt bl D t v bN wc S' Y v' L' vk vv vc (Bt.its x).length (Bt.bn x').keys (Bt.bn x').vals (Bt.bn x').kids
 sum:L=L'++U
 mid:Bt.Mid S S' o t x e U x'
 num:U.length+(if(Bn.es x').length=2*t then 1 else 0)=Bt.trail (Bt.fullB t e.k x)
 all:decide ((Bn.es x').length=2*t)=(Bt.fullB t e.k x).all id
theorem fD.drew {w0 w:World}{B ps:Nat}{S:St}{Y:Nat->Prop}{v1 v2 u1 u2:Value}{m1 m2:List Nat}(h:fD w0 w B ps S Y v1 v2 u1 u2 m1 m2):fD w0 w.drew B ps S Y v1 v2 u1 u2 m1 m2:=h.below (ab _ w).drew
theorem fD.one {w0 w:World}{B ps:Nat}{S:St}{Y:Nat->Prop}{v1 v2 u1 u2:Value}{m1 m2:List Nat}(h:fD w0 w B ps S Y v1 v2 u1 u2 m1 m2)(x:Nat):fD w0 (w.alloc (Xf x)) B ps S Y v1 v2 u1 u2 m1 m2/\(w.alloc (Xf x)).heap[w.heap.size]?=some (.cells #[Xu x] 61 (0,0))/\u1.ownBlock≠some w.heap.size/\u2.ownBlock≠some w.heap.size/\w.heap.size<(w.alloc (Xf x)).heap.size/\Below w.heap.size w (w.alloc (Xf x)):=
 ⟨h.below ((ab _ w).alloc Ih _),heap_alloc_new w _,fun q=>by have:=(h.own1.block q).2.1;omega,fun q=>by have:=(h.own2.block q).2.1;omega,by simp,(ab _ w).alloc Ih _⟩
theorem qBuad{P:Prop}(h:P:=by
 ·rw[e] at hg;have hg:g'=g:=Option.some.inj hg;omega):P:=h
theorem fD.done {w0 w:World}{B ps:Nat}{S:St}{Y:Nat->Prop}{v1 v2 u1 u2:Value}{m1 m2:List Nat}(T:fD w0 w B ps S Y v1 v2 u1 u2 m1 m2){bN sz:Nat}{vc:Value}(hN:w0.heap[bN]?=some (.cells #[v1,v2,vc,Xu sz] 215 (0,0)))(yN:Y bN)(n1:v1.ownBlock≠some bN)(n2:v2.ownBlock≠some bN):
 w.heap[bN]?=some (.cells #[v1,v2,vc,Xu sz] 215 (0,0))/\(w.setCell ⟨bN,0,none⟩ u1).heap[bN]?=some (.cells #[u1,v2,vc,Xu sz] 215 (0,0))/\∀w',w'=(w.setCell ⟨bN,0,none⟩ u1).setCell ⟨bN,1,none⟩ u2->w'.heap[bN]?=some (.cells #[u1,u2,vc,Xu sz] 215 (0,0))/\FE w' B u1 m1/\FE w' B u2 m2/\Ig w' ps S (fun k=>Y k\/(w0.heap.size<=k/\k<w.heap.size))/\Fo (fun k=>k<w0.heap.size/\v1.ownBlock≠some k/\v2.ownBlock≠some k/\k≠bN) w0 w'/\w'.heap.size=w.heap.size:=by
 have al:bN<w0.heap.size:=(gl hN);have e0:=(T.keep.block bN ⟨al,n1,n2⟩).trans hN;have e1:(w.setCell ⟨bN,0,none⟩ u1).heap[bN]?=some (.cells #[u1,v2,vc,Xu sz] 215 (0,0)):=heap_setCell (i:=0) (v:=u1) e0;have e2:((w.setCell ⟨bN,0,none⟩ u1).setCell ⟨bN,1,none⟩ u2).heap[bN]?=some (.cells #[u1,u2,vc,Xu sz] 215 (0,0)):=heap_setCell (i:=1) (v:=u2) e1;have ad:∀k,k≠bN->((w.setCell ⟨bN,0,none⟩ u1).setCell ⟨bN,1,none⟩ u2).heap[k]?=w.heap[k]?:=fun k hk=>(FB hk).trans (FB hk);have q1:∀g,u1.ownBlock=some g->g≠bN:=fun g hg q=>by
  rcases T.p1 with e | ⟨g',e,ai⟩
  ·rw[e] at hg;exact n1 (hg.trans (q▸rfl))
  exact qBuad
 have q2:∀g,u2.ownBlock=some g->g≠bN:=fun g hg q=>by
  rcases T.p2 with e | ⟨g',e,ai⟩
  ·rw[e] at hg;exact n2 (hg.trans (q▸rfl))
  exact qBuad
 refine⟨e0,e1,?_⟩;rintro w' rfl;refine⟨e2,T.own1.at fun g hg=>ad g (q1 g hg),T.own2.at fun g hg=>ad g (q2 g hg),?_,?_,by simp⟩
 ·exact T.st.write (b:=bN) (aa yN) e0 ⟨by decide,by decide⟩ (by simp) (by simp) fun k _ hk=>ad k hk
 ·exact((T.keep.mono fun k hk=>⟨hk.1,hk.2.1,hk.2.2.1⟩).trans (Fo.mark fun b hb=>hb.2.2.2)).trans (Fo.mark fun b hb=>hb.2.2.2)
section
variable {w wc wc':World}{ps:Nat}{Z:Nat->Prop}{bt bl D t:Nat}{v:Value}{bN:Nat}{S' S2:St}{Y Y':Nat->Prop}{v' v2:Value}{L' L2:List Nat}{vk vv vc uk uv uc:Value}{sz sz':Nat}{ks vs cs ks' vs' cs':List Nat}
theorem eH.two(h:eH w ps Z bt bl D t v bN wc S' Y v' L' vk vv vc sz ks vs cs):fD wc wc (w.heap.size+3) ps S' Y vk vv vk vv ks vs:=fD.start h.st h.rows.k h.rows.v h.rows.kv (fun g hg=>h.yk g (aa hg)) fun g hg=>h.yk g (ae (aa hg))
theorem qBuac{P:Prop}(h:P:=by
 rcases hk with hk | rfl | rfl
 ·have:=h.zl k hk.1;omega
 ·omega
 ·omega):P:=h
theorem eH.grow(h:eH w ps Z bt bl D t v bN wc S' Y v' L' vk vv vc sz ks vs cs)(T:fD wc wc' (w.heap.size+3) ps S' Y vk vv uk uv ks' vs'):
 wc'.heap[bN]?=some (.cells #[vk,vv,vc,Xu sz] 215 (0,0))/\(wc'.setCell ⟨bN,0,none⟩ uk).heap[bN]?=some (.cells #[uk,vv,vc,Xu sz] 215 (0,0))/\eH w ps Z bt bl D t v bN ((wc'.setCell ⟨bN,0,none⟩ uk).setCell ⟨bN,1,none⟩ uv) S' (fun k=>Y k\/(wc.heap.size<=k/\k<wc'.heap.size)) v' L' uk uv vc sz ks' vs' cs:=by
 have au:=h.st.yl;have ar:=h.keep.size;have hl:=h.lt;have h3:=h.at3;obtain⟨a0,a1,a2⟩:=T.done h.box h.yb.1 h.ne.1 h.ne.2.1;refine⟨a0,a1,?_⟩;obtain⟨b1,b2,b3,b4,b5,b6⟩:=a2 _ rfl;have ad:∀g,(vk.ownBlock=some g\/vv.ownBlock=some g\/vc.ownBlock=some g)->w.heap.size+3<=g/\g<wc.heap.size:=fun g hg=>by
  rcases hg with hg | hg | hg
  ·exact⟨(h.rows.k.block hg).1,(h.rows.k.block hg).2.1⟩
  ·exact⟨(h.rows.v.block hg).1,(h.rows.v.block hg).2.1⟩
  ·exact⟨(h.rows.c.block hg).1,(h.rows.c.block hg).2.1⟩
 have kz:∀k,k<w.heap.size+3->k<wc.heap.size/\vk.ownBlock≠some k/\vv.ownBlock≠some k/\k≠bN:=fun k hk=>⟨by omega,fun q=>by have:=(ad k (aa q)).1;omega,fun q=>by have:=(ad k (ae (aa q))).1;omega,by omega⟩;have ai:∀{u u0:Value},(u.ownBlock=u0.ownBlock\/∃g,u.ownBlock=some g/\wc.heap.size<=g)->(∀g,u0.ownBlock=some g->vc.ownBlock≠some g)->∀g,u.ownBlock=some g->vc.ownBlock≠some g:=fun hu ha g hg q=>by
  rcases hu with e | ⟨g',e,al⟩
  ·exact ha g (e▸hg) q
  ·rw[e] at hg;have hg:g'=g:=Option.some.inj hg;have:=(ad g (ae (ae q))).2;omega
 refine h.move b4 (fun k hk=>aa hk) (b5.mono fun k hk=>kz k ?_) (h.sp.keeps fun k hk=>b5.block k (kz k (by have:=h.zl k (h.spz k hk);omega))) h.own b1 ⟨b2,b3,?_,T.apart,ai T.p1 h.rows.kc,ai T.p2 h.rows.vc⟩ fun g hg=>?_
 ·exact qBuac
 ·refine h.rows.c.at fun g hg=>b5.block g ⟨(ad g (ae (ae hg))).2,fun q=>h.rows.kc g q hg,fun q=>h.rows.vc g q hg,fun q=>h.ne.2.2 (q▸hg)⟩
 ·have an:=b6;rw[an] at*
  rcases hg with hg | hg | hg
  ·rcases T.p1 with e | ⟨g',e,al⟩
   ·exact aa (h.yk g (aa (e▸hg)))
   ·exact ae ⟨by rw[e] at hg;have hg:g'=g:=Option.some.inj hg;omega,(T.own1.block hg).2.1⟩
  ·rcases T.p2 with e | ⟨g',e,al⟩
   ·exact aa (h.yk g (ae (aa (e▸hg))))
   ·exact ae ⟨by rw[e] at hg;have hg:g'=g:=Option.some.inj hg;omega,(T.own2.block hg).2.1⟩
  ·exact aa (h.yk g (ae (ae hg)))
theorem eH.grow3(h:eH w ps Z bt bl D t v bN wc S' Y v' L' vk vv vc sz ks vs cs)(I:kG wc wc' (w.heap.size+3) ps S' Y vc uc cs'):
 wc'.heap[bN]?=some (.cells #[vk,vv,vc,Xu sz] 215 (0,0))/\eH w ps Z bt bl D t v bN (wc'.setCell ⟨bN,2,none⟩ uc) S' (fun k=>Y k\/(wc.heap.size<=k/\k<wc'.heap.size)) v' L' vk vv uc sz ks vs cs':=by
 have au:=h.st.yl;have ar:=h.keep.size;have hl:=h.lt;have h3:=h.at3;have e0:=(I.other hl h.ne.2.2).trans h.box;refine⟨e0,?_⟩;have an:=fun g (hg:vc.ownBlock=some g)=>h.rows.c.block hg;have al:∀k,k<wc.heap.size->k≠bN->vc.ownBlock≠some k->(wc'.setCell ⟨bN,2,none⟩ uc).heap[k]?=wc.heap[k]?:=fun k hk h1 h2=>(FB h1).trans (I.other hk h2);have kz:∀k,k<w.heap.size+3->(wc'.setCell ⟨bN,2,none⟩ uc).heap[k]?=wc.heap[k]?:=fun k hk=>al k (by omega) (by omega) fun q=>by have:=(an k q).1;omega
 have ai:∀k,((Z k/\k≠bl)\/k=w.heap.size\/k=w.heap.size+2)->k<wc.heap.size/\vc.ownBlock≠some k/\k≠bN:=fun k hk=>by
  have:k<w.heap.size+3:=by
   exact qBuac
  exact⟨by omega,fun q=>by have:=(an k q).1;omega,by omega⟩
 have n3:∀g,uc.ownBlock=some g->g≠bN:=fun g hg q=>by
  rcases I.at' with e | ⟨g',e,ad⟩
  ·rw[e] at hg;exact h.ne.2.2 (hg.trans (q▸rfl))
  exact qBuad
 refine h.move (I.st.write (b:=bN) (aa h.yb.1) e0 ⟨by decide,by decide⟩ (by simp) (by simp) fun k _ hk=>FB hk) (fun k hk=>aa hk) (Fo.trans (b:=wc') ⟨I.grown.os,I.grown.tape,I.grown.output,I.grown.size,fun k hk=>I.other (ai k hk).1 (ai k hk).2.1⟩ (Fo.mark fun k hk=>(ai k hk).2.2)) (h.sp.keeps fun k hk=>kz k (by have:=h.zl k (h.spz k hk);omega)) h.own (heap_setCell (i:=2) (v:=uc) e0) ⟨?_,?_,I.own.at fun g hg=>FB (n3 g hg),h.rows.kv,fun g hg q=>?_,fun g hg q=>?_⟩ fun g hg=>?_
 ·exact h.rows.k.at fun g hg=>al g (h.rows.k.block hg).2.1 (fun q=>h.ne.1 (q▸hg)) (h.rows.kc g hg)
 ·exact h.rows.v.at fun g hg=>al g (h.rows.v.block hg).2.1 (fun q=>h.ne.2.1 (q▸hg)) (h.rows.vc g hg)
 ·rcases I.at' with e | ⟨g',e,ad⟩
  ·exact h.rows.kc g hg (e▸q)
  ·rw[e] at q;have q:g'=g:=Option.some.inj q;have:=(h.rows.k.block hg).2.1;omega
 ·rcases I.at' with e | ⟨g',e,ad⟩
  ·exact h.rows.vc g hg (e▸q)
  ·rw[e] at q;have q:g'=g:=Option.some.inj q;have:=(h.rows.v.block hg).2.1;omega
 ·rcases hg with hg | hg | hg
  ·exact aa (h.yk g (aa hg))
  ·exact aa (h.yk g (ae (aa hg)))
  ·rcases I.at' with e | ⟨g',e,ad⟩
   ·exact aa (h.yk g (ae (ae (e▸hg))))
   ·exact ae ⟨by rw[e] at hg;have hg:g'=g:=Option.some.inj hg;omega,(I.own.block hg).2.1⟩
theorem eH.size(h:eH w ps Z bt bl D t v bN wc S' Y v' L' vk vv vc sz ks vs cs)(n:Nat):eH w ps Z bt bl D t v bN (wc.setCell ⟨bN,3,none⟩ (Xu n)) S' Y v' L' vk vv vc n ks vs cs:=by
 have hl:=h.lt;have h3:=h.at3;have ad:∀k,k≠bN->(wc.setCell ⟨bN,3,none⟩ (Xu n)).heap[k]?=wc.heap[k]?:=fun k h1=>FB h1;refine h.move (h.st.write (b:=bN) h.yb.1 h.box ⟨by decide,by decide⟩ (by simp) (by simp) fun k _ hk=>FB hk) (fun k hk=>hk) (Fo.mark fun k hk=>?_) (h.sp.keeps fun k hk=>ad k (by have:=h.zl k (h.spz k hk);omega)) h.own (heap_setCell (i:=3) (v:=Xu n) h.box) ⟨?_,?_,?_,h.rows.kv,h.rows.kc,h.rows.vc⟩ h.yk
 ·exact qBuac
 ·exact h.rows.k.at fun g hg=>ad g fun q=>h.ne.1 (q▸hg)
 ·exact h.rows.v.at fun g hg=>ad g fun q=>h.ne.2.1 (q▸hg)
 ·exact h.rows.c.at fun g hg=>ad g fun q=>h.ne.2.2 (q▸hg)
theorem eH.kid(h:eH w ps Z bt bl D t v bN wc S' Y v' L' vk vv vc sz ks vs cs)(st:Ig wc' ps S2 Y)(kp:Fo (fun k=>Y k/\k≠bl) wc wc')(sp:gz wc' bt bl D ps t v2 L2)(own:v2.ownBlock=v'.ownBlock):eH w ps Z bt bl D t v bN wc' S2 Y v2 L2 vk vv vc sz ks vs cs:=by
 have ad:=h.zl bl h.zs.1;have h3:=h.at3;have q:=h.yk;have row:∀g,(vk.ownBlock=some g\/vv.ownBlock=some g\/vc.ownBlock=some g)->w.heap.size+3<=g->wc'.heap[g]?=wc.heap[g]?:=fun g hg hg3=>kp.block g ⟨h.yk g hg,by omega⟩;refine h.move st (fun k hk=>hk) (kp.mono fun k hk=>?_) sp (own.trans h.own) ((kp.block bN ⟨h.yb.1,by omega⟩).trans h.box) ⟨?_,?_,?_,h.rows.kv,h.rows.kc,h.rows.vc⟩ h.yk
 ·rcases hk with hk | rfl | rfl
  ·exact⟨h.zy k hk.1,hk.2⟩
  ·exact⟨h.yb.2.1,by omega⟩
  ·exact⟨h.yb.2.2,by omega⟩
 ·exact h.rows.k.at fun g hg=>row g (aa hg) (h.rows.k.block hg).1
 ·exact h.rows.v.at fun g hg=>row g (ae (aa hg)) (h.rows.v.block hg).1
 ·exact h.rows.c.at fun g hg=>row g (ae (ae hg)) (h.rows.c.block hg).1
end
namespace Bt
variable{U:List Nat}{d:Nat}{e:It}{k:Nat}
theorem leafPut_bn(x:Bt (d+1))(e:It):(bn (leafPut x e)).keys=(bn x).keys.take (Fr e.k (Bn.es x))++e.kh::(bn x).keys.drop (Fr e.k (Bn.es x))/\(bn (leafPut x e)).vals=(bn x).vals.take (Fr e.k (Bn.es x))++e.vh::(bn x).vals.drop (Fr e.k (Bn.es x))/\(bn (leafPut x e)).kids=(bn x).kids:=by
 refine⟨?_,?_,rfl⟩
 ·show ((Bn.es x).take _++e::(Bn.es x).drop _).map _=((Bn.es x).map _).take _++e.kh::((Bn.es x).map _).drop _
  rw[aJ,aL,bS,co]
 ·show ((Bn.es x).take _++e::(Bn.es x).drop _).map _=((Bn.es x).map _).take _++e.vh::((Bn.es x).map _).drop _
  rw[aJ,aL,bS,co]
theorem Ci(x:Bt (d+1))(e:It):(Bn.es (leafPut x e)).length=(Bn.es x).length+1:=lg (kH _) e
theorem BR(x:Bt (d+1))(e:It)(y1:Bt d)(m:It)(y2:Bt d):(Bn.es (ja x (Fr e.k (Bn.es x)) y1 m y2)).length=(Bn.es x).length+1:=lg (kH _) m
theorem kidPut_bn(x:Bt (d+1))(k:Nat)(hk:k<(Bn.ks x).length){y:Bt d}(hy:hd y=hd (Bn.ks x)[k]):(bn (ju x k y)).keys=(bn x).keys/\(bn (ju x k y)).vals=(bn x).vals/\(bn (ju x k y)).kids=(bn x).kids:=by
 refine⟨rfl,rfl,?_⟩
 show ((Bn.ks x).set k y).map hd=(Bn.ks x).map hd
 rw[dO,hy,<-bz hd (h:=by rw[ao];exact hk),List.set_getElem_self]
theorem kidSplit_bn(x:Bt (d+1))(k:Nat)(hk:k<(Bn.ks x).length){y1 y2:Bt d}(m:It)(hy:hd y1=hd (Bn.ks x)[k]):(bn (ja x k y1 m y2)).keys=(bn x).keys.take k++m.kh::(bn x).keys.drop k/\(bn (ja x k y1 m y2)).vals=(bn x).vals.take k++m.vh::(bn x).vals.drop k/\(bn (ja x k y1 m y2)).kids=(bn x).kids.take (k+1)++hd y2::(bn x).kids.drop (k+1):=by
 refine⟨?_,?_,?_⟩
 ·show ((Bn.es x).take _++m::(Bn.es x).drop _).map _=((Bn.es x).map _).take _++m.kh::((Bn.es x).map _).drop _
  rw[aJ,aL,bS,co]
 ·show ((Bn.es x).take _++m::(Bn.es x).drop _).map _=((Bn.es x).map _).take _++m.vh::((Bn.es x).map _).drop _
  rw[aJ,aL,bS,co]
 ·show ((Bn.ks x).take k++y1::y2::(Bn.ks x).drop (k+1)).map hd=((Bn.ks x).map hd).take (k+1)++hd y2::((Bn.ks x).map hd).drop (k+1)
  rw[aJ,aL,aL,bS,co,hy,aO (by rw[ao];exact hk),bz]
  simp
theorem num_leaf{t:Nat}(t1:1<=t)(x:Bt 1)(e:It):([]:List Nat).length+(if(Bn.es (leafPut x e)).length=2*t then 1 else 0)=trail (fullB t e.k x)/\decide ((Bn.es (leafPut x e)).length=2*t)=(fullB t e.k x).all id:=by
 rw[Ci,qJ]
 by_cases h:(Bn.es x).length=2*t-1
 ·simp[trail,h,show 2*t-1+1=2*t by omega]
 ·have h2:¬(Bn.es x).length+1=2*t:=by omega
  simp[trail,h,h2]
theorem num_none{t d:Nat}(t1:1<=t){x:Bt (d+2)}(ok:Ok t x)(hk:Fr e.k (Bn.es x)=k)(h:k<(Bn.ks x).length)(y:Bt (d+1))(h1:U.length=trail (fullB t e.k (Bn.ks x)[k]))(h2:false=(fullB t e.k (Bn.ks x)[k]).all id):
 U.length+(if(Bn.es (ju x k y)).length=2*t then 1 else 0)=trail (fullB t e.k x)/\decide ((Bn.es (ju x k y)).length=2*t)=(fullB t e.k x).all id:=by
 rw[mI t e.k x hk h];have hl:¬(Bn.es (ju x k y)).length=2*t:=by
  have:=ok.1
  show ¬(Bn.es x).length=2*t
  omega
 rw[if_neg hl,decide_eq_false hl];have h3:¬(fullB t e.k (Bn.ks x)[k]).all id=true:=by rw[<-h2];simp
 unfold trail;rw[if_neg h3,List.all_cons,<-h2,Bool.and_false];exact⟨h1,rfl⟩
theorem num_some{t d:Nat}(t1:1<=t){x:Bt (d+2)}(hk:Fr e.k (Bn.es x)=k)(h:k<(Bn.ks x).length)(y1:Bt (d+1))(m:It)(y2:Bt (d+1))(h1:U.length=trail (fullB t e.k (Bn.ks x)[k]))(h2:true=(fullB t e.k (Bn.ks x)[k]).all id):
 U.length+(if(Bn.es (ja x k y1 m y2)).length=2*t then 1 else 0)=trail (fullB t e.k x)/\decide ((Bn.es (ja x k y1 m y2)).length=2*t)=(fullB t e.k x).all id:=by
 rw[mI t e.k x hk h];have hl:(Bn.es (ja x k y1 m y2)).length=(Bn.es x).length+1:=by rw[<-hk];exact BR x e y1 m y2
 rw[hl];have h3:=trail_all h2.symm;unfold trail;rw[if_pos h2.symm,List.all_cons,<-h2,Bool.and_true,h1,h3]
 by_cases hf:(Bn.es x).length=2*t-1
 ·simp[hf,show 2*t-1+1=2*t by omega]
 ·have h4:¬(Bn.es x).length+1=2*t:=by omega
  simp[hf,h4]
theorem its_len{t d:Nat}{x:Bt (d+1)}(h:gY t x):(its x).length=(Bn.es x).length+((Bn.ks x).map fun k=>(its k).length).sum:=by
 rw[el,sZ _ _ (by rcases h.rows with h | h;exact aa h.1;exact ae h.1),cI];rfl
end Bt
section
variable {w wc:World}{ps:Nat}{Z:Nat->Prop}{bt bl D t:Nat}{v:Value}{bN:Nat}{S S':St}{o:Nat->Nat}{Y:Nat->Prop}{v':Value}{L L' U:List Nat}{vk vv vc:Value}{sz k:Nat}{e:It}
theorem rJ {x:Bt 1}(hx:Bt.Walk S o t x)(hnd:(Bt.nodes x).Nodup)(hit:Bt.ItLt (Bt.its x))(hkh:e.kh<2^64)(hvh:e.vh<2^64)(hk:Fr e.k (Bn.es x)=k)(hsz:sz=(Bt.its x).length)
 (h:eH w ps Z bt bl D t v bN wc S Y v L vk vv vc sz ((Bt.bn x).keys.take k++e.kh::(Bt.bn x).keys.drop k) ((Bt.bn x).vals.take k++e.vh::(Bt.bn x).vals.drop k) (Bt.bn x).kids):gQ w ps S o Z bt bl D t v L x e bN wc S Y v L [] (Bt.leafPut x e) vk vv vc:=by
 have t1:1<=t:=by have:=hx.t1;omega
 obtain⟨n1,n2⟩:=Bt.num_leaf t1 x e;obtain⟨p1,p2,p3⟩:=Bt.leafPut_bn x e;subst hk hsz;rw[<-p1,<-p2,<-p3] at h;exact⟨h,by simp,Bt.mid_leaf hx.fit t1 hx.at' hx.ok hnd hit ⟨hkh,hvh⟩ hx.few,n1,n2⟩
theorem Db {d:Nat}{x:Bt (d+2)}(hx:Bt.Walk S o t x)(hnd:(Bt.nodes x).Nodup)(hit:Bt.ItLt (Bt.its x))(hkh:e.kh<2^64)(hvh:e.vh<2^64)(hLx:∀h∈L,h∉Bt.nodes x)(hk:Fr e.k (Bn.es x)=k)(hkl:k<(Bn.ks x).length)(hsz:sz=(Bt.its x).length)
 (hL:L=L'++U) (hp:Bt.Put S S' o t (Bn.ks x)[k] e U none) (n1:U.length=Bt.trail (Bt.fullB t e.k (Bn.ks x)[k])) (n2:false=(Bt.fullB t e.k (Bn.ks x)[k]).all id)
 (h:eH w ps Z bt bl D t v bN wc S' Y v' L' vk vv vc sz (Bt.bn x).keys (Bt.bn x).vals (Bt.bn x).kids):∃x',gQ w ps S o Z bt bl D t v L x e bN wc S' Y v' L' U x' vk vv vc:=by
 have t1:1<=t:=by have:=hx.t1;omega
 subst hk hsz;obtain⟨y,hy,M⟩:=Bt.mid_kid t1 hx.at' hx.ok hnd hx.sorted hit (fun a ha=>by rw[aS.1 ha];exact⟨hkh,hvh⟩) hx.few (fun a ha=>hLx a (hL▸aw _ ha)) hkl hp;obtain⟨p1,p2,p3⟩:=Bt.kidPut_bn x _ hkl (y:=y) hy;obtain⟨m1,m2⟩:=Bt.num_none t1 hx.ok rfl hkl y n1 n2;rw[<-p1,<-p2,<-p3] at h;exact⟨_,h,hL,M,m1,m2⟩
theorem Dc {d:Nat}{x:Bt (d+2)}(hx:Bt.Walk S o t x)(hnd:(Bt.nodes x).Nodup)(hit:Bt.ItLt (Bt.its x))(hkh:e.kh<2^64)(hvh:e.vh<2^64)(hLx:∀h∈L,h∉Bt.nodes x)(hk:Fr e.k (Bn.es x)=k)(hkl:k<(Bn.ks x).length)(hsz:sz=(Bt.its x).length){m:It}{g:Nat}
 (hL:L=L'++U) (hp:Bt.Put S S' o t (Bn.ks x)[k] e U (some (m,g))) (n1:U.length=Bt.trail (Bt.fullB t e.k (Bn.ks x)[k])) (n2:true=(Bt.fullB t e.k (Bn.ks x)[k]).all id)
 (h:eH w ps Z bt bl D t v bN wc S' Y v' L' vk vv vc sz ((Bt.bn x).keys.take k++m.kh::(Bt.bn x).keys.drop k) ((Bt.bn x).vals.take k++m.vh::(Bt.bn x).vals.drop k) ((Bt.bn x).kids.take (k+1)++g::(Bt.bn x).kids.drop (k+1))):∃x',gQ w ps S o Z bt bl D t v L x e bN wc S' Y v' L' U x' vk vv vc:=by
 have t1:1<=t:=by have:=hx.t1;omega
 subst hk hsz;obtain⟨y1,y2,h1,h2,M⟩:=Bt.mid_split t1 hx.at' hx.ok hnd hx.sorted hit (fun a ha=>by rw[aS.1 ha];exact⟨hkh,hvh⟩) hx.few (fun a ha=>hLx a (hL▸aw _ ha)) hkl hp;obtain⟨p1,p2,p3⟩:=Bt.kidSplit_bn x _ hkl (y1:=y1) (y2:=y2) m h1;obtain⟨m1,m2⟩:=Bt.num_some t1 rfl hkl y1 m y2 n1 n2;have h2:Bt.hd (d:=d+1) y2=g:=h2;rw[h2] at p3;rw[<-p1,<-p2,<-p3] at h;exact⟨_,h,hL,M,m1,m2⟩
end
structure jp (w:World) (ps:Nat) (S:St) (o:Nat->Nat) (Z:Nat->Prop) (bt bl D t:Nat) (v:Value) (L:List Nat) {d:Nat} (y:Bt (d+1)) (e:It) (bN:Nat) (vk vv vc:Value) (sz:Nat) (ks vs cs:List Nat) (b:Nat) (wc:World) (r:Option (It×Nat)) (S4:St) (Y4:Nat->Prop) (v4:Value) (L4 U:List Nat):Prop where
 held:eH w ps Z bt bl D t v bN wc S4 Y4 v4 L4 vk vv vc sz ks vs cs
 sum:L=L4++U
 put:Bt.Put S S4 o t y e U r
 num:U.length=Bt.trail (Bt.fullB t e.k y)
 all:r.isSome=(Bt.fullB t e.k y).all id
 up:wc.heap[b]?=some (.cells (iQ r) 274 (0,0))
theorem Bt.trail_cons(b:Bool)(r:List Bool):Bt.trail r<=Bt.trail (b::r):=by
 conv=>rhs;unfold Bt.trail
 by_cases h:r.all id=true
 ·rw[if_pos h,Bt.trail_all h]
  split<;>omega
 ·rw[if_neg h];exact Nat.le_refl _
section
variable {w wc wc':World}{ps:Nat}{Z:Nat->Prop}{bt bl D t:Nat}{v:Value}{bN:Nat}{S S' S2:St}{o:Nat->Nat}{Y Y':Nat->Prop}{v' v2:Value}{L L' L2:List Nat}{vk vv vc uk uv uc:Value}{sz sz' k:Nat}{ks vs cs ks' vs' cs':List Nat}{e:It}
theorem eH.other(h:eH w ps Z bt bl D t v bN wc S' Y v' L' vk vv vc sz ks vs cs){b:Nat}{cs0:Array Value}{fr:Nat×Nat}(hb:Y b)(h3:w.heap.size+3<=b)(hx:wc.heap[b]?=some (.cells cs0 274 fr))(hz:cs0.size<64)(kp:Fo (fun k=>k≠b) wc wc'):eH w ps Z bt bl D t v bN wc' S' Y v' L' vk vv vc sz ks vs cs:=by
 have n3:∀{u:Value} {l:List Nat},FE wc (w.heap.size+3) u l->∀g,u.ownBlock=some g->g≠b:=fun hu g hg q=>by
  obtain⟨ad,ai,e1⟩:=(hu.block hg).2.2;rw[q,hx] at e1
  cases e1
 have nb:bN≠b:=fun q=>by
  have e1:=h.box;rw[q,hx] at e1
  cases e1
 refine h.move (h.st.write (b:=b) hb hx ⟨by decide,by decide⟩ hz kp.size fun k _ hk=>kp.block k hk) (fun k hk=>hk) (kp.mono fun k hk=>?_) (h.sp.keeps fun k hk=>kp.block k (by have:=h.zl k (h.spz k hk);omega)) h.own ((kp.block bN nb).trans h.box) ⟨?_,?_,?_,h.rows.kv,h.rows.kc,h.rows.vc⟩ h.yk
 ·exact qBuac
 ·exact h.rows.k.at fun g hg=>kp.block g (n3 h.rows.k g hg)
 ·exact h.rows.v.at fun g hg=>kp.block g (n3 h.rows.v g hg)
 ·exact h.rows.c.at fun g hg=>kp.block g (n3 h.rows.c g hg)
theorem Bt.Walk.kid_lt {d:Nat}{x:Bt (d+2)}(hx:Bt.Walk S o t x)(hk:Fr e.k (Bn.es x)=k):k<(Bn.ks x).length:=hk▸hx.klen e.k
theorem BG {d:Nat}(hrec:j4 d){x:Bt (d+2)}(hx:Bt.Walk S o t x)(hnd:(Bt.nodes x).Nodup){i:Nat}(hid:i+(d+1)<40)(spare:lG S t L)(hLx:∀h∈L,h∉Bt.nodes x)(hL:L.length<=1000)(hnew:∀a∈Bt.its x,a.k≠e.k)(hit:Bt.ItLt (Bt.its x))(hkh:e.kh<2^64)(hvh:e.vh<2^64)(htr:Bt.trail (Bt.fullB t e.k x)<=L.length)(hk:Fr e.k (Bn.es x)=k)(hkl:k<(Bn.ks x).length)
 {Y1:Nat->Prop} (Hd:eH w ps Z bt bl D t v bN wc S Y1 v L vk vv vc sz ks vs cs):
 Ct 182 #[FH ps t,Xu (Bt.hd (Bn.ks x)[k]:Nat),SV e.k,Id e.kh e.vh,JB bt bl,Xi ((i:Int)+1)] wc fun en w'=>∃(r:Option (It×Nat)) (S4:St) (v4:Value) (L4 U:List Nat),en=.returned (ky r)/\(L=L4++U/\Bt.Put S S4 o t (Bn.ks x)[k] e U r/\U.length=Bt.trail (Bt.fullB t e.k (Bn.ks x)[k])/\r.isSome=(Bt.fullB t e.k (Bn.ks x)[k]).all id/\eH w ps Z bt bl D t v bN w' S4 Y1 v4 L4 vk vv vc sz ks vs cs/\Fo (fun k=>Y1 k/\k≠bl) wc w'):=by
 have hm:=aF hkl;have ad:∀a∈Bt.its (Bn.ks x)[k],a∈Bt.its x:=fun a ha=>Bt.kid_its hx.ok.okN hm ha;have ai:(Bt.nodes (Bn.ks x)[k]).Nodup:=by
  rw[Bt.nodes_parts hkl] at hnd;exact(av.1 (av.1 hnd).2.1).1
 have al:Bt.trail (Bt.fullB t e.k (Bn.ks x)[k])<=L.length:=by
  rw[mI t e.k x hk hkl] at htr;exact aK (Bt.trail_cons _ _) htr
 have hc:=hrec (i+1) Hd.st (hx.kid hm) ai (by omega) Hd.sp spare (fun h hh q=>hLx h hh (Bt.mem_nodes_kid hm q)) (Hd.zy _ Hd.zs.1) (Hd.zy _ Hd.zs.2.1) (fun b hb=>Hd.zy _ (Hd.zs.2.2 b hb)) hL (fun a ha=>hnew a (ad a ha)) (fun a ha=>hit a (ad a ha)) hkh hvh al;have e1:((i+1:Nat):Int)=(i:Int)+1:=by omega
 rw[e1] at hc;refine hc.mono ?_;rintro en w' ⟨r,S4,v4,L4,U,rfl,h1,h2,h3,h4,h5,h6,h7,h8⟩;exact⟨r,S4,v4,L4,U,rfl,h1,h2,h7,h8,Hd.kid h3 h4 h5 h6,h4⟩
end
section
variable {w wc wc':World}{ps:Nat}{Z:Nat->Prop}{bt bl D t:Nat}{v:Value}{bN:Nat}{S S4:St}{o:Nat->Nat}{Y:Nat->Prop}{v4:Value}{L L4 U:List Nat}{vk vv vc:Value}{sz:Nat}{ks vs cs:List Nat}{e:It}{d:Nat}{y:Bt (d+1)}{r:Option (It×Nat)}{Y1:Nat->Prop}{w0:World}
theorem jp.new(h:L=L4++U/\Bt.Put S S4 o t y e U r/\U.length=Bt.trail (Bt.fullB t e.k y)/\r.isSome=(Bt.fullB t e.k y).all id/\eH w ps Z bt bl D t v bN wc S4 Y v4 L4 vk vv vc sz ks vs cs/\Fo (fun k=>Y1 k/\k≠bl) w0 wc):
 jp w ps S o Z bt bl D t v L y e bN vk vv vc sz ks vs cs wc.heap.size (wc.alloc (.cells (iQ r) 274)) r S4 (fun k=>Y k\/(wc.heap.size<=k/\k<(wc.alloc (.cells (iQ r) 274)).heap.size)) v4 L4 U:=
 ⟨h.2.2.2.2.1.below ((ab _ wc).alloc Ih _),h.1,h.2.1,h.2.2.1,h.2.2.2.1,heap_alloc_new wc _⟩
theorem jp.set(h:L=L4++U/\Bt.Put S S4 o t y e U r/\U.length=Bt.trail (Bt.fullB t e.k y)/\r.isSome=(Bt.fullB t e.k y).all id/\eH w ps Z bt bl D t v bN wc S4 Y v4 L4 vk vv vc sz ks vs cs/\Fo (fun k=>Y1 k/\k≠bl) w0 wc){b:Nat}(hb:Y b)(h3:w.heap.size+3<=b){z0 z1 z2 z3 c0 c1 c2 c3:Value}(hx:wc.heap[b]?=some (.cells #[z0,z1,z2,z3] 274 (0,0)))(hr:iQ r=#[c0,c1,c2,c3]):
 jp w ps S o Z bt bl D t v L y e bN vk vv vc sz ks vs cs b ((((wc.setCell ⟨b,0,none⟩ (c0)).setCell ⟨b,1,none⟩ (c1)).setCell ⟨b,2,none⟩ (c2)).setCell ⟨b,3,none⟩ (c3)) r S4 Y v4 L4 U:=
 ⟨h.2.2.2.2.1.other hb h3 hx (by simp) ((((Fo.mark fun _ h=>h).trans (Fo.mark fun _ h=>h)).trans (Fo.mark fun _ h=>h)).trans (Fo.mark fun _ h=>h)),h.1,h.2.1,h.2.2.1,h.2.2.2.1,by
  rw[hr];exact heap_setCell (i:=3) (v:=c3) (heap_setCell (i:=2) (v:=c2) (heap_setCell (i:=1) (v:=c1) (heap_setCell (i:=0) (v:=c0) hx)))⟩
theorem jp.ne {b:Nat}(h:jp w ps S o Z bt bl D t v L y e bN vk vv vc sz ks vs cs b wc r S4 Y v4 L4 U):b<wc.heap.size/\vk.ownBlock≠some b/\vv.ownBlock≠some b/\vc.ownBlock≠some b/\b≠bN:=by
 have hb:=h.up;refine⟨(gl hb),fun q=>?_,fun q=>?_,fun q=>?_,fun q=>?_⟩
 ·obtain⟨cs,fr,e⟩:=(h.held.rows.k.block q).2.2;rw[hb] at e
  cases e
 ·obtain⟨cs,fr,e⟩:=(h.held.rows.v.block q).2.2;rw[hb] at e
  cases e
 ·obtain⟨cs,fr,e⟩:=(h.held.rows.c.block q).2.2;rw[hb] at e
  cases e
 ·have e:=h.held.box;rw[<-q,hb] at e
  injection e with e
  injection e with _ e
  exact absurd e (by decide)
end
theorem Bt.bnok_of {S:St}{o:Nat->Nat}(hf:Fw S o){t:Nat}(t1:2<=t)(t2:t<=16){d:Nat}{x:Bt (d+1)}(hk:∀k∈Bn.ks x,Bt.At S t k)(ok:Bt.Ok t x):iU t (Bt.bn x):=by
 refine⟨t1,t2,by unfold Bt.bn;rw[ao];exact ok.1,by unfold Bt.bn;rw[ao,ao],?_⟩;have hq:=ok.2.1;unfold Bt.bn;simp only[ao]
 by_cases hd0:d=0
 ·rw[if_pos hd0] at hq;exact aa hq
 ·rw[if_neg hd0] at hq;refine ae ⟨hq,?_⟩;rw[dL];intro hc;obtain⟨k,ad,e⟩:=aA.1 (cW.1 hc);exact(Bt.At.hd_ok hf (hk k ad)).1 e
section
variable {w wc wc':World}{ps:Nat}{Z:Nat->Prop}{bt bl D t:Nat}{v:Value}{bN:Nat}{S S4 S2:St}{o:Nat->Nat}{Y:Nat->Prop}{v4 v2:Value}{L L4 L2 U:List Nat}{vk vv vc:Value}{sz:Nat}{ks vs cs:List Nat}{e:It}{d:Nat}
theorem eH.fin(h:eH w ps Z bt bl D t v bN wc S2 Y v2 L2 vk vv vc sz ks vs cs){z0 z1 z2 z3:Value}(hx:wc.heap[w.heap.size+2]?=some (.cells #[z0,z1,z2,z3] 274 (0,0)))(c0 c1 c2 c3:Value)(wd:World)(hwd:wd=((((wc.setCell ⟨w.heap.size+2,0,none⟩ (c0)).setCell ⟨w.heap.size+2,1,none⟩ (c1)).setCell ⟨w.heap.size+2,2,none⟩ (c2)).setCell ⟨w.heap.size+2,3,none⟩ (c3))):
 Ig wd ps S2 Z/\Fo (fun k=>Z k/\k≠bl) w wd/\gz wd bt bl D ps t v2 L2/\wd.heap[w.heap.size+2]?=some (.cells #[c0,c1,c2,c3] 274 (0,0)):=by
 subst hwd;have kp:Fo (fun k=>k≠w.heap.size+2) wc ((((wc.setCell ⟨w.heap.size+2,0,none⟩ (c0)).setCell ⟨w.heap.size+2,1,none⟩ (c1)).setCell ⟨w.heap.size+2,2,none⟩ (c2)).setCell ⟨w.heap.size+2,3,none⟩ (c3)):=(((Fo.mark fun _ h=>h).trans (Fo.mark fun _ h=>h)).trans (Fo.mark fun _ h=>h)).trans (Fo.mark fun _ h=>h);refine⟨(h.st.write (b:=w.heap.size+2) h.yb.2.2 hx ⟨by decide,by decide⟩ (by simp) kp.size fun k _ hk=>kp.block k hk).mono fun k hk=>h.zy k hk,h.keep.trans (kp.mono fun k hk=>by have:=h.zl k hk.1;omega),h.sp.keeps fun k hk=>kp.block k (by have:=h.zl k (h.spz k hk);omega),?_⟩;exact heap_setCell (i:=3) (v:=c3) (heap_setCell (i:=2) (v:=c2) (heap_setCell (i:=1) (v:=c1) (heap_setCell (i:=0) (v:=c0) hx)))
theorem gQ.putting {x:Bt (d+1)}{U:List Nat}{x':Bt (d+1)}{L':List Nat}{v':Value}{S':St}(M:gQ w ps S o Z bt bl D t v L x e bN wc S' Y v' L' U x' vk vv vc):Fv S'/\S'.len (Bn.h x)=(6*t,0)/\Bn.h x<2^64/\(Bt.its x').length=(Bt.its x).length+1/\(Bt.bn x').keys.length=(Bn.es x').length/\(Bt.bn x').vals.length=(Bn.es x').length/\(Bt.bn x').kids.length=(Bn.ks x').length:=by
 obtain⟨ws,hr,hw⟩:=M.mid.own;refine⟨M.mid.fit.inv,by rw[jw M.mid.fit.tab hr,hw],(fL M.mid.fit hr).2.1,by rw[M.mid.its,Bt.insB_length],?_,?_,?_⟩
 ·unfold Bt.bn;rw[ao]
 ·unfold Bt.bn;rw[ao]
 ·unfold Bt.bn;rw[ao]
end
theorem FE.some {w:World}{D:Nat}{v:Value}{l:List Nat}(h:FE w D v l)(hl:0<l.length):∃b c,v=.slice (some ⟨b,0,none⟩) l.length c/\l.length<=c:=by
 rcases h.2 with⟨e,e2⟩ | ⟨b,c,ai,e,hb,al,ad,an,ar,ht⟩
 ·exact absurd e2 (by intro q;simp[q] at hl)
 ·exact⟨b,c,e,ad⟩
theorem FD.take {w:World}{b n c c' j:Nat}{l:List Nat}(h:FD w (.slice (some ⟨b,0,none⟩) n c) l)(hj:j<=l.length):FD w (.slice (some ⟨b,0,none⟩) j c') (l.take j):=by
 obtain⟨A,c1,e,hc⟩:=h
 injection e with e1 e2 e3
 subst e1;refine⟨_,c',by rw[ay,dl hj],fun k hk=>?_⟩;have ad:k<l.length:=by rw[ay] at hk;omega
 obtain⟨g,o,eg,hg⟩:=hc k ad;exact⟨g,o,eg,by rw[hg,dw]⟩
theorem FD.drop {w:World}{b n c c' j:Nat}{l:List Nat}(h:FD w (.slice (some ⟨b,0,none⟩) n c) l)(hj:j<=l.length):FD w (.slice (some ⟨b,j,none⟩) (n-j) c') (l.drop j):=by
 obtain⟨A,c1,e,hc⟩:=h
 injection e with e1 e2 e3
 subst e1;refine⟨_,c',by rw[aN,e2],fun k hk=>?_⟩;have ad:j+k<l.length:=by rw[aN] at hk;omega
 obtain⟨g,o,eg,hg⟩:=hc (j+k) ad
 injection eg with eg
 injection eg with e4 e5 e6
 subst e4 e5;exact⟨b,j,rfl,by rw[dN];rw[bO] at hg;exact hg⟩
structure eV (wc wd:World) (ps:Nat) (S':St) (Y:Nat->Prop) (bL bR:Nat) (l r:Array Value):Prop where
 st:Ig wd ps S' (fun k=>Y k\/k=bL\/k=bR)
 yl:∀k,Y k->k<wc.heap.size
 kp:Fo Y wc wd
 bl:wd.heap[bL]?=some (.cells l 215 (0,0))
 br:wd.heap[bR]?=some (.cells r 215 (0,0))
 ge:wc.heap.size<=bL/\wc.heap.size<=bR/\bL≠bR
section
variable {wc wd wd':World}{ps:Nat}{S' S2:St}{Y:Nat->Prop}{bL bR:Nat}{l r:Array Value}
theorem eV.start(st:Ig wc ps S' Y)(l r:Array Value):eV wc ((wc.alloc (.cells l 215)).alloc (.cells r 215)).drew ps S' Y wc.heap.size (wc.heap.size+1) l r:=by
 have z1:(wc.alloc (.cells l 215)).heap.size=wc.heap.size+1:=by simp
 have b1:=(ab wc.heap.size wc).alloc Ih (.cells l 215);have c1:=(ab (wc.alloc (.cells l 215)).heap.size (wc.alloc (.cells l 215))).alloc Ih (.cells r 215);have b2:=b1.trans (c1.mono (by rw[z1];omega));have q1:=heap_alloc_new wc (.cells l 215);have q2:=heap_alloc_new (wc.alloc (.cells l 215)) (.cells r 215);have q3:=(c1.block wc.heap.size (by rw[z1];omega)).trans q1;rw[z1] at q2;have hs:((wc.alloc (.cells l 215)).alloc (.cells r 215)).drew.heap.size=wc.heap.size+2:=by simp
 refine⟨(st.wide b2.drew).mono fun k hk=>?_,st.yl,st.keep b2.drew,q3,q2,Nat.le_refl _,by omega,by omega⟩
 rcases hk with hk | rfl | rfl
 ·exact aa hk
 ·exact ae ⟨Nat.le_refl _,by rw[hs];omega⟩
 ·exact ae ⟨by omega,by rw[hs];omega⟩
theorem eV.turn(h:eV wc wd ps S' Y bL bR l r):eV wc wd ps S' Y bR bL r l:=
 ⟨h.st.mono fun k hk=>by rcases hk with hk | hk | hk;exact aa hk;exact ae (ae hk);exact ae (aa hk),h.yl,h.kp,h.br,h.bl,h.ge.2.1,h.ge.1,h.ge.2.2.symm⟩
theorem eV.lt(h:eV wc wd ps S' Y bL bR l r):bL<wd.heap.size/\bR<wd.heap.size:=⟨(gl h.bl),(gl h.br)⟩
theorem eV.below(h:eV wc wd ps S' Y bL bR l r)(hb:Below wd.heap.size wd wd'):eV wc wd' ps S' Y bL bR l r:=
 ⟨h.st.below hb,h.yl,h.kp.trans (Fo.of_below hb fun k hk=>by have:=h.yl k hk;have:=h.kp.size;omega),(hb.block _ h.lt.1).trans h.bl,(hb.block _ h.lt.2).trans h.br,h.ge⟩
theorem eV.put(h:eV wc wd ps S' Y bL bR l r)(st:Ig wd' ps S2 (fun k=>Y k\/k=bL\/k=bR))(kp:Fo (fun k=>Y k\/k=bL\/k=bR) wd wd'):eV wc wd' ps S2 Y bL bR l r:=
 ⟨st,h.yl,h.kp.trans (kp.mono fun _ hk=>aa hk),(kp.block _ (ae (aa rfl))).trans h.bl,(kp.block _ (ae (ae rfl))).trans h.br,h.ge⟩
theorem eV.setL(h:eV wc wd ps S' Y bL bR l r)(hl:l.size<64)(i:Nat)(v:Value)(l':Array Value)(e:(wd.setCell ⟨bL,i,none⟩ v).heap[bL]?=some (.cells l' 215 (0,0))):eV wc (wd.setCell ⟨bL,i,none⟩ v) ps S' Y bL bR l' r:=
 ⟨h.st.write (b:=bL) (ae (aa rfl)) h.bl ⟨by decide,by decide⟩ hl (by simp) fun k _ hk=>FB hk,h.yl,h.kp.trans (Fo.mark fun k hk=>by have:=h.yl k hk;have:=h.ge.1;omega),e,(FB (Ne.symm h.ge.2.2)).trans h.br,h.ge⟩
theorem eV.row(h:eV wc wd ps S' Y bL bR l r){v:Value}{u:List Nat}(hu:FD wc v u)(hy:∀g,v.ownBlock=some g->Y g):FD wd v u:=hu.keeps fun g hg _=>h.kp.block g (hy g hg)
end
section
variable {wc wd:World}{ps:Nat}{S':St}{Y:Nat->Prop}{bL bR:Nat}{a b c z a' b' c' z':Value}
theorem eV.setL2(h:eV wc wd ps S' Y bL bR #[a,b,c,z] #[a',b',c',z'])(v:Value):eV wc (wd.setCell ⟨bL,2,none⟩ v) ps S' Y bL bR #[a,b,v,z] #[a',b',c',z']:=h.setL (by simp) 2 v _ (heap_setCell (i:=2) (v:=v) h.bl)
theorem eV.setL3(h:eV wc wd ps S' Y bL bR #[a,b,c,z] #[a',b',c',z'])(v:Value):eV wc (wd.setCell ⟨bL,3,none⟩ v) ps S' Y bL bR #[a,b,c,v] #[a',b',c',z']:=h.setL (by simp) 3 v _ (heap_setCell (i:=3) (v:=v) h.bl)
theorem eV.setR2(h:eV wc wd ps S' Y bL bR #[a,b,c,z] #[a',b',c',z'])(v:Value):eV wc (wd.setCell ⟨bR,2,none⟩ v) ps S' Y bL bR #[a,b,c,z] #[a',b',v,z']:=(h.turn.setL2 v).turn
theorem eV.setR3(h:eV wc wd ps S' Y bL bR #[a,b,c,z] #[a',b',c',z'])(v:Value):eV wc (wd.setCell ⟨bR,3,none⟩ v) ps S' Y bL bR #[a,b,c,z] #[a',b',c',v]:=(h.turn.setL3 v).turn
end
theorem EC {α:Type}(f:α->Nat)(l:List α)(a j:Nat):(((l.drop a).take j).map f).sum<=(l.map f).sum:=by
 have h1:(l.map f).sum=((l.take a).map f).sum+((l.drop a).map f).sum:=by rw[<-dF,<-aJ,aQ]
 have h2:((l.drop a).map f).sum=(((l.drop a).take j).map f).sum+(((l.drop a).drop j).map f).sum:=by rw[<-dF,<-aJ,aQ]
 omega
theorem ED {α:Type}(f:α->Nat)(l:List α){j:Nat}(h:j<l.length):((l.take (j+1)).map f).sum=((l.take j).map f).sum+f l[j]:=by
 rw[aO h,aJ,dF];simp
namespace Bt
theorem Put.same {S S':St}{o:Nat->Nat}{t d:Nat}{x:Bt (d+1)}{e:It}{U V:List Nat}{r:Option (It×Nat)}(h:Put S S' o t x e U r)(hv:∀y,y∈U↔y∈V):Put S S' o t x e V r:=by
 refine⟨h.fit,h.grew,fun y h1 h2=>h.fr y h1 fun q=>h2 ((hv y).1 q),?_⟩;have:=h.res
 cases r with
 | none=>
  obtain⟨y,a,b,c,d,e,f,g⟩:=this;exact⟨y,a,b,c,d,e,f,fun z hz=>(g z hz).imp id (hv z).1⟩
 | some q=>
  obtain⟨m,g⟩:=q;obtain⟨y1,y2,a1,a2,a3,a4,a5,a6,a7,a8,a9,ad,ai⟩:=this;exact⟨y1,y2,a1,a2,a3,a4,a5,a6,a7,a8,a9,ad,fun z hz=>(ai z hz).imp id (hv z).1⟩
end Bt
namespace Bt
theorem leftOf_bn(t:Nat){d:Nat}(x:Bt (d+1)):(bn (leftOf t x)).keys=(bn x).keys.take t/\(bn (leftOf t x)).vals=(bn x).vals.take t/\(bn (leftOf t x)).kids=(bn x).kids.take (t+1):=by
 refine⟨?_,?_,?_⟩
 ·show ((Bn.es x).take t).map _=((Bn.es x).map _).take t
  rw[bS]
 ·show ((Bn.es x).take t).map _=((Bn.es x).map _).take t
  rw[bS]
 ·show ((Bn.ks x).take (t+1)).map _=((Bn.ks x).map _).take (t+1)
  rw[bS]
theorem rightOf_bn(t:Nat){d:Nat}(x:Bt (d+1))(g:Nat):(bn (rightOf t x g)).keys=(bn x).keys.drop (t+1)/\(bn (rightOf t x g)).vals=(bn x).vals.drop (t+1)/\(bn (rightOf t x g)).kids=(bn x).kids.drop (t+1)/\(bn (rightOf t x g)).kids=((Bn.ks x).drop (t+1)).map hd:=by
 refine⟨?_,?_,?_,rfl⟩
 ·show ((Bn.es x).drop (t+1)).map _=((Bn.es x).map _).drop (t+1)
  rw[co]
 ·show ((Bn.es x).drop (t+1)).map _=((Bn.es x).map _).drop (t+1)
  rw[co]
 ·show ((Bn.ks x).drop (t+1)).map _=((Bn.ks x).map _).drop (t+1)
  rw[co]
end Bt
section
variable {w wc:World}{ps:Nat}{Z:Nat->Prop}{bt bl D t:Nat}{v:Value}{bN:Nat}{S S':St}{o:Nat->Nat}{Y:Nat->Prop}{v':Value}{L L' U:List Nat}{vk vv vc:Value}{e:It}{d:Nat}{x x':Bt (d+1)}
theorem gQ.spare(M:gQ w ps S o Z bt bl D t v L x e bN wc S' Y v' L' U x' vk vv vc)(htr:Bt.trail (Bt.fullB t e.k x)<=L.length)(spare:lG S t L)(hLx:∀h∈L,h∉Bt.nodes x)(hn:(Bn.es x').length=2*t):∃L2 g,L'=L2++[g]/\g∉U/\g∉Bt.nodes x/\g≠Bn.h x/\∃wg,reco S g=some wg/\reco S' g=some wg/\wg.length=6*t:=by
 have an:=M.num;rw[if_pos hn] at an;have ad:L.length=L'.length+U.length:=by rw[M.sum,aD]
 have al:L'≠[]:=fun q=>by rw[q] at ad;simp at ad;omega
 obtain⟨L2,g,hg⟩:∃L2 g,L'=L2++[g]:=⟨L'.dropLast,L'.getLast al,(List.dropLast_concat_getLast al).symm⟩;have hm:g∈L:=by rw[M.sum,hg];simp
 have ai:=spare.nd;rw[M.sum,hg] at ai;have hU:g∉U:=fun q=>(av.1 ai).2.2 g (by simp) g q rfl;obtain⟨wg,h1,h2⟩:=spare.recs g hm;exact⟨L2,g,hg,hU,hLx g hm,fun q=>hLx g hm (q▸Bt.hd_mem x),wg,h1,(M.mid.fr g (hLx g hm) hU).trans h1,h2⟩
theorem gQ.halves(M:gQ w ps S o Z bt bl D t v L x e bN wc S' Y v' L' U x' vk vv vc)(t1:2<=t)(hn:(Bn.es x').length=2*t)(g:Nat):Bt.Ok t (Bt.leftOf t x')/\Bt.Ok t (Bt.rightOf t x' g)/\(Bt.its x').length=(Bt.its (Bt.leftOf t x')).length+1+(Bt.its (Bt.rightOf t x' g)).length/\(∀k∈Bn.ks (Bt.leftOf t x'),Bt.At S' t k)/\(∀k∈Bn.ks (Bt.rightOf t x' g),Bt.At S' t k)/\(Bt.its (Bt.rightOf t x' g)).length=(Bn.es x').length-(t+1)+(((Bn.ks x').drop (t+1)).map fun k=>(Bt.its k).length).sum:=by
 obtain⟨c1,c2,c3,c4,c5⟩:=M.mid.okN.split (by omega) hn g;refine⟨c2,c3,?_,fun k hk=>M.mid.kids k (bC hk),fun k hk=>M.mid.kids k (bq hk),?_⟩
 ·have:=congrArg List.length c1;rw[aD,ak] at this;omega
 ·rw[Bt.its_len c3.okN]
  show ((Bn.es x').drop (t+1)).length+_=_
  rw[aN]
  rfl
theorem gQ.lts(M:gQ w ps S o Z bt bl D t v L x e bN wc S' Y v' L' U x' vk vv vc)(t1:2<=t)(hn:(Bn.es x').length=2*t)(g:Nat):iT (Bt.bn (Bt.leftOf t x'))/\iT (Bt.bn (Bt.rightOf t x' g)):=by
 have hs:=(M.halves t1 hn g).2.2.1;have hz:(Bt.its x').length<2^64:=M.mid.lt.size;have ad:∀q∈Bn.es x',q.kh<2^64/\q.vh<2^64:=fun q hq=>⟨M.mid.lt.keys _ (aA.2 ⟨q,hq,rfl⟩),M.mid.lt.vals _ (aA.2 ⟨q,hq,rfl⟩)⟩;exact⟨Bt.bnLt_of M.mid.fit (fun q hq=>ad q (bC hq)) (fun k hk=>M.mid.kids k (bC hk)) (by omega),Bt.bnLt_of M.mid.fit (fun q hq=>ad q (bq hq)) (fun k hk=>M.mid.kids k (bq hk)) (by omega)⟩
end
theorem ri {S':St}{o:Nat->Nat}{t ps:Nat}:∀{d:Nat} {k:Bt d},Fw S' o->2<=t->t<=16->Bt.At S' t k->Bt.Ok t k->(Bt.its k).length<2^62->∀(W:World) (Yx:Nat->Prop),Ig W ps S' Yx->Cb 175 #[FH ps t,Xu (Bt.hd k:Nat)] W (Xi (Bt.its k).length)
 | 0,k,_,_,_,_,_,_=>nomatch k
 | _+1,_,hf,t1,t2,ha,ok,hz=>fun _ _ hst=>nS hst hf.inv (Bt.At.read hf t1 t2 ha ok) hz
section
variable {w wc:World}{ps:Nat}{Z:Nat->Prop}{bt bl D t:Nat}{v:Value}{bN:Nat}{S S':St}{o:Nat->Nat}{Y:Nat->Prop}{v':Value}{L L' U:List Nat}{vk vv vc:Value}{e:It}{d:Nat}{x x':Bt (d+1)}
theorem gQ.left_put(M:gQ w ps S o Z bt bl D t v L x e bN wc S' Y v' L' U x' vk vv vc)(t1:2<=t)(t2:t<=16)(hn:(Bn.es x').length=2*t){g:Nat}(hgx:g≠Bn.h x){wg:List Nat}(hg:reco S' g=some wg):Fw (FC S' (Bn.h x) 0 (bnWords t (Bt.bn (Bt.leftOf t x')))) o/\reco (FC S' (Bn.h x) 0 (bnWords t (Bt.bn (Bt.leftOf t x')))) g=some wg:=by
 obtain⟨ws,hr,hw⟩:=M.mid.own;have hh:Bt.hd (Bt.leftOf t x')=Bn.h x:=M.mid.hd;have hp:=Bt.put_node (x:=Bt.leftOf t x') M.mid.fit (fun k hk=>M.mid.kids k (bC hk)) (fun k hk=>by
  show Bn.h x'∉_
  exact Bt.hd_kids M.mid.nd k (bC hk)) (by rw[hh];exact hr) hw (M.lts t1 hn 0).1 (by show ((Bn.es x').take t).length<1000;rw[ay];omega)
 rw[hh] at hp;exact⟨hp.1,(hp.2.2.1 g hgx).trans hg⟩
theorem gQ.done(M:gQ w ps S o Z bt bl D t v L x e bN wc S' Y v' L' U x' vk vv vc)(t1:2<=t)(t2:t<=16)(hn:(Bn.es x').length=2*t){g:Nat}(hU:g∉U)(hx:g∉Bt.nodes x){wg:List Nat}(h1:reco S g=some wg)(h2:wg.length=6*t)(ht:t<(Bn.es x').length):
 Bt.Put S (FC (FC S' (Bn.h x) 0 (bnWords t (Bt.bn (Bt.leftOf t x')))) g 0 (bnWords t (Bt.bn (Bt.rightOf t x' g)))) o t x e (g::U) (some ((Bn.es x')[t],g))/\(g::U).length=Bt.trail (Bt.fullB t e.k x)/\true=(Bt.fullB t e.k x).all id:=by
 have ai:=M.num;have ad:=M.all;rw[if_pos hn] at ai;rw[decide_eq_true hn] at ad;exact⟨(M.mid.cut (by omega) t2 hn hU hx h1 h2).same fun y=>by simp[or_comm],by rw[ak];exact ai,ad⟩
end
end
section
open Lf Tr
def ff(l:List It):List Nat:=l.flatMap fun d=>[d.kh,d.vh]
theorem gh {l:List It}{y:Nat}:y∈ff l↔∃d∈l,y=d.kh\/y=d.vh:=by
 unfold ff;simp[List.mem_flatMap]
theorem nO(a b:List It):ff (a++b)=ff a++ff b:=by unfold ff;exact dC
namespace Bt
structure Tree (S:St) (o:Nat->Nat) (t:Nat) {d:Nat} (x:Bt (d+1)):Prop where
 fit:Fw S o
 t1:2<=t
 t2:t<=16
 at':At S t x
 ok:Ok t x
 sorted:(its x).Pairwise eU
 blobs:∀a∈its x,gu S a
 few:(its x).length<1000000
 nodes:(nodes x).Nodup
 texts:(ff (its x)).Nodup
 apart:∀h∈Bt.nodes x,h∉ff (its x)
 pos:1<=nk x
variable {S S':St}{o o':Nat->Nat}{t d:Nat}{x:Bt (d+1)}
theorem Tree.walk(h:Tree S o t x):Walk S o t x:=
 ⟨h.fit,h.t1,h.t2,h.at',h.ok,h.sorted,⟨fun a ha=>(blobs_lt h.fit (h.blobs a ha)).1,fun a ha=>jt h.fit (h.blobs a ha).lk (h.blobs a ha).k⟩,h.few⟩
theorem Tree.lts(h:Tree S o t x):ItLt (its x):=fun a ha=>blobs_lt h.fit (h.blobs a ha)
theorem Tree.low(h:Tree S o t x):d<19:=by
 have h1:=pow_le t h.t1 h.ok h.pos;have h2:=h.few
 rcases bW d 19 with h3 | h3
 ·exact h3
 ·have:2^20<=2^(d+1):=cy (by decide) (by omega);have e:2^20=1048576:=by decide
  omega
def recs(x:Bt (d+1)):List Nat:=Bt.nodes x++ff (its x)
theorem Tree.has(h:Tree S o t x):∀y∈recs x,reco S y≠none:=fun y hy q=>by
 rcases aj.1 hy with hy | hy
 ·obtain⟨n,e⟩:=h.at'.rec y hy;rw[q] at e;cases e
 ·obtain⟨a,ha,e⟩:=gh.1 hy;have hb:=h.blobs a ha;rcases e with rfl | rfl
  ·have:=hb.k;rw[q] at this;cases this
  ·have:=hb.v;rw[q] at this;cases this
theorem Tree.frame(h:Tree S o t x)(hf:Fw S' o')(hs:∀y∈recs x,reco S' y=reco S y):Tree S' o' t x:=
 ⟨hf,h.t1,h.t2,h.at'.frame fun y hy=>hs y (ax _ hy),h.ok,h.sorted,fun a ha=>(h.blobs a ha).frame (hs _ (aw _ (gh.2 ⟨a,ha,aa rfl⟩))) (hs _ (aw _ (gh.2 ⟨a,ha,ae rfl⟩))),h.few,h.nodes,h.texts,h.apart,h.pos⟩
theorem blobH_ins {e:It}:∀{l:List It},∀y,y∈ff (insB e l)↔y=e.kh\/y=e.vh\/y∈ff l:=fun {l} y=>by
 constructor
 ·intro hy;obtain⟨a,ha,q⟩:=gh.1 hy;rcases kg.1 ha with rfl | ha
  ·rcases q with q | q
   ·exact aa q
   ·exact ae (aa q)
  ·exact ae (ae (gh.2 ⟨a,ha,q⟩))
 ·rintro(q | q | hy)
  ·exact gh.2 ⟨e,kg.2 (aa rfl),aa q⟩
  ·exact gh.2 ⟨e,kg.2 (aa rfl),ae q⟩
  ·obtain⟨a,ha,q⟩:=gh.1 hy;exact gh.2 ⟨a,kg.2 (ae ha),q⟩
theorem zA {e:It}{l:List It}:(ff (insB e l)).Perm (e.kh::e.vh::ff l):=by
 have h:(insB e l).Perm (e::l):=by
  unfold insB;refine List.perm_middle.trans ?_;rw[aQ]
 unfold ff;exact h.flatMap_right _
structure New (S:St) (x:Bt (d+1)) (e:It):Prop where
 blobs:gu S e
 ne:e.kh≠e.vh
 off:e.kh∉recs x/\e.vh∉recs x
 key:∀a∈its x,a.k≠e.k
 few:(its x).length+1<1000000
theorem New.texts {e:It}(n:New S x e)(h:Tree S o t x){L:List Nat}(hL:∀y∈L,reco S y=none):(ff (insB e (its x))).Nodup/\∀y∈ff (insB e (its x)),y∉Bt.nodes x/\y∉L:=by
 refine⟨zA.nodup_iff.2 (aE.2 ⟨fun hm=>?_,aE.2 ⟨fun hm=>n.off.2 (aw _ hm),h.texts⟩⟩),fun y hy=>?_⟩
 ·rcases ag.1 hm with q | hm
  ·exact n.ne q
  ·exact n.off.1 (aw _ hm)
 ·have hk:reco S y≠none:=by
   intro q;obtain⟨a,ha,e1⟩:=gh.1 hy;have hb:gu S a:=by
    rcases kg.1 ha with rfl | ha
    ·exact n.blobs
    ·exact h.blobs a ha
   rcases e1 with rfl | rfl
   ·have:=hb.k;rw[q] at this
    cases this
   ·have:=hb.v;rw[q] at this
    cases this
  refine⟨fun hm=>?_,fun hm=>hk (hL y hm)⟩
  rcases(blobH_ins y).1 hy with q | q | hb
  ·exact n.off.1 (q▸ax _ hm)
  ·exact n.off.2 (q▸ax _ hm)
  ·exact h.apart y hm hb
theorem New.stay {e:It}(n:New S x e)(h:Tree S o t x){L:List Nat}(hL:∀y∈L,reco S y=none)(hS:∀y,y∉Bt.nodes x->y∉L->reco S' y=reco S y):∀a∈insB e (its x),gu S' a:=fun a ha=>by
 have hb:gu S a:=by
  rcases kg.1 ha with rfl | ha
  ·exact n.blobs
  ·exact h.blobs a ha
 have hd:=(n.texts h hL).2;have h1:=hd a.kh (gh.2 ⟨a,ha,aa rfl⟩);have h2:=hd a.vh (gh.2 ⟨a,ha,ae rfl⟩);exact hb.frame (hS _ h1.1 h1.2) (hS _ h2.1 h2.2)
theorem Tree.insert_none(h:Tree S o t x){e:It}(n:New S x e){S1 S2:St}{o1:Nat->Nat}{L U:List Nat}(hL:∀y∈L,reco S y=none)(h1:∀y,y∉L->reco S1 y=reco S y)(hU:∀y∈U,y∈L)(p:Put S1 S2 o1 t x e U none):
 ∃y:Bt (d+1),hd y=hd x/\Tree S2 o1 t y/\its y=insB e (its x)/\(∀z∈Bt.nodes y,z∈Bt.nodes x\/z∈U):=by
 obtain⟨y,a1,a2,a3,a4,a5,a6,a7⟩:=p.res;have hs:∀z,z∉Bt.nodes x->z∉L->reco S2 z=reco S z:=fun z q1 q2=>(p.fr z q1 fun q=>q2 (hU z q)).trans (h1 z q2);obtain⟨t3,t4⟩:=n.texts h hL;refine⟨y,a1,⟨p.fit,h.t1,h.t2,a2,a3,by rw[a5];exact uR h.sorted n.key,by rw[a5];exact n.stay h hL hs,by rw[a5,insB_length];exact n.few,a6,by rw[a5];exact t3,fun z hz hb=>?_,aK h.pos a4⟩,a5,a7⟩;rw[a5] at hb
 rcases a7 z hz with q | q
 ·exact(t4 z hb).1 q
 ·exact(t4 z hb).2 (hU z q)
def rootOf(g:Nat)(m:It)(y1 y2:Bt (d+1)):Bt (d+2):=(⟨g,[m],[y1,y2]⟩:Bn (Bt (d+1)))
theorem wJ(g:Nat)(m:It)(y1 y2:Bt (d+1)):Bt.nodes (rootOf g m y1 y2)=g::(Bt.nodes y1++Bt.nodes y2):=by
 rw[jQ]
 show g::([y1,y2].map Bt.nodes).flatten=_
 simp
theorem Tree.insert_root(h:Tree S o t x){e:It}(n:New S x e){S1 S2:St}{o1:Nat->Nat}{L U:List Nat}(hL:∀y∈L,reco S y=none)(h1:∀y,y∉L->reco S1 y=reco S y)(hU:∀y∈U,y∈L){m:It}{g:Nat}(p:Put S1 S2 o1 t x e U (some (m,g))){r:Nat}(hr:r∈L)(hrU:r∉U){ws:List Nat}(hw:reco S1 r=some ws)(hl:ws.length=6*t):
 ∃y1 y2:Bt (d+1),hd y1=hd x/\hd y2=g/\At S2 t y1/\At S2 t y2/\Ok t y1/\Ok t y2/\(its y1).length+(its y2).length+1<1000000/\Ok t (rootOf r m y1 y2)/\iT (bn (rootOf r m y1 y2))/\(reco S2 r=some ws)/\Tree (FC S2 r 0 (bnWords t (bn (rootOf r m y1 y2)))) o1 t (rootOf r m y1 y2)/\its (rootOf r m y1 y2)=insB e (its x)/\(∀z∈Bt.nodes (rootOf r m y1 y2),z∈Bt.nodes x\/z∈L)/\(∀z,z≠r->reco (FC S2 r 0 (bnWords t (bn (rootOf r m y1 y2)))) z=reco S2 z)/\ej S2 (FC S2 r 0 (bnWords t (bn (rootOf r m y1 y2)))) 0 0:=by
 obtain⟨y1,y2,a1,a2,a3,a4,a5,a6,a7,a8,a9,bb,al⟩:=p.res;have a':r∉Bt.nodes x:=fun q=>h.has r (ax _ q) (hL r hr);have a0:reco S2 r=some ws:=(p.fr r a' hrU).trans hw;have hs:∀z,z∉Bt.nodes x->z∉L->reco S2 z=reco S z:=fun z q1 q2=>(p.fr z q1 fun q=>q2 (hU z q)).trans (h1 z q2);obtain⟨t3,t4⟩:=n.texts h hL;have ai:r∉Bt.nodes y1++Bt.nodes y2:=fun q=>(al r q).elim a' hrU;have ad:its (rootOf r m y1 y2)=insB e (its x):=a9;have t1:=h.t1;have ok:Ok t (rootOf r m y1 y2):=by
  refine⟨by show 1<=2*t-1;omega,by show 2=if d+1=0 then 0 else 1+1;rw[if_neg (by omega)],fun k hk=>?_⟩;have hk:k∈ [y1,y2]:=hk
  rcases ag.1 hk with rfl | hk
  ·exact⟨a5,by omega⟩
  ·rw[aS.1 hk];exact⟨a6,by omega⟩
 have bc:(its y1).length+(its y2).length+1<1000000:=by
  have e1:=congrArg List.length a9;rw[aD,ak,insB_length] at e1;have:=n.few;omega
 have ar:∀k∈Bn.ks (rootOf r m y1 y2),At S2 t k:=fun k hk=>by
  have hk:k∈ [y1,y2]:=hk
  rcases ag.1 hk with rfl | hk
  ·exact a3
  ·rw[aS.1 hk];exact a4
 have ba:=n.stay h hL hs;have an:iT (bn (rootOf r m y1 y2)):=bnLt_of p.fit (fun a ha=>blobs_lt p.fit (ba a (by rw[<-ad];exact lN ok.okN ha))) ar (by rw[ad,insB_length];have:=n.few;omega);have bd:∀k∈Bn.ks (rootOf r m y1 y2),hd (rootOf r m y1 y2)∉Bt.nodes k:=fun k hk q=>by
  have hk:k∈ [y1,y2]:=hk;have q:r∈Bt.nodes k:=q
  rcases ag.1 hk with rfl | hk
  ·exact ai (ax _ q)
  ·rw[aS.1 hk] at q;exact ai (aw _ q)
 obtain⟨p1,p2,p3,p4⟩:=put_node (x:=rootOf r m y1 y2) p.fit ar bd (ws:=ws) a0 hl an (by show 1<1000;omega);have p3:∀z,z≠r->reco (FC S2 r 0 (bnWords t (bn (rootOf r m y1 y2)))) z=reco S2 z:=p3;have au:∀z∈Bt.nodes (rootOf r m y1 y2),z∈Bt.nodes x\/z∈L:=fun z hz=>by
  rw[wJ] at hz
  rcases ag.1 hz with rfl | hz
  ·exact ae hr
  ·exact(al z hz).imp id (hU z)
 refine⟨y1,y2,a1,a2,a3,a4,a5,a6,bc,ok,an,a0,⟨p1,h.t1,h.t2,p2,ok,by rw[ad];exact uR h.sorted n.key,?_,by rw[ad,insB_length];exact n.few,?_,by rw[ad];exact t3,fun z hz hb=>?_,Nat.le_refl 1⟩,ad,au,p3,p4⟩
 ·rw[ad];intro a ha;have h5:=t4 a.kh (gh.2 ⟨a,ha,aa rfl⟩);have h6:=t4 a.vh (gh.2 ⟨a,ha,ae rfl⟩);exact(ba a ha).frame (p3 _ fun q=>h5.2 (q▸hr)) (p3 _ fun q=>h6.2 (q▸hr))
 ·rw[wJ];exact aE.2 ⟨ai,bb⟩
 ·rw[ad] at hb
  rcases au z hz with q | q
  ·exact(t4 z hb).1 q
  ·exact(t4 z hb).2 q
end Bt
end
section
open Go.RowKit Tryz Go.BigFrame Go.Maps Go.WideMaps Lf Tr
open Go.Shelf
theorem Bt.trail_le:∀p:List Bool,Bt.trail p<=p.length
 | []=>Nat.le_refl _
 | b::r=>by
  unfold Bt.trail;have:=Bt.trail_le r;rw[ak];split
  ·split<;>omega
  ·omega
theorem uB(t:Nat)(key:List UInt8):∀{d:Nat} (x:Bt d),(Bt.fullB t key x).length<=d
 | 0,x=>nomatch x
 | d+1,x=>by
  unfold Bt.fullB;rw[ak];cases h:(Bn.ks x)[Fr key (Bn.es x)]? with
  | none=>simp
  | some k=>have:=uB t key k;simp only;omega
def iD(t:Nat)(key:List UInt8){d:Nat}(x:Bt (d+1)):Nat:=Bt.needB 0 true (Bt.fullB t key x)
theorem oE(t:Nat)(key:List UInt8){d:Nat}(x:Bt (d+1)):iD t key x=Bt.trail (Bt.fullB t key x)+(if(Bt.fullB t key x).all id=true then 1 else 0)/\iD t key x<=d+2:=by
 have h:=Bt.need_zero (Bt.fullB t key x);have h1:=Bt.trail_le (Bt.fullB t key x);have h2:=uB t key x;refine⟨h,?_⟩;unfold iD;rw[h];split<;>omega
theorem ku(w:World)(o1 o2 o3:Obj):Below w.heap.size w (w.drew.alloc o1)/\Below w.heap.size w ((w.drew.alloc o1).alloc o2)/\Below w.heap.size w (((w.drew.alloc o1).alloc o2).alloc o3)/\(((w.drew.alloc o1).alloc o2).alloc o3).heap[w.heap.size]?=some o1/\(((w.drew.alloc o1).alloc o2).alloc o3).heap[w.heap.size+1]?=some o2/\(((w.drew.alloc o1).alloc o2).alloc o3).heap[w.heap.size+2]?=some o3:=by
 have z1:(w.drew.alloc o1).heap.size=w.heap.size+1:=by simp
 have z2:((w.drew.alloc o1).alloc o2).heap.size=w.heap.size+2:=by simp
 have b1:=((ab w.heap.size w).drew).alloc Ih o1;have c2:=(ab (w.drew.alloc o1).heap.size (w.drew.alloc o1)).alloc Ih o2;have c3:=(ab ((w.drew.alloc o1).alloc o2).heap.size ((w.drew.alloc o1).alloc o2)).alloc Ih o3;have q1:=heap_alloc_new w.drew o1;have q2:=heap_alloc_new (w.drew.alloc o1) o2;have q3:=heap_alloc_new ((w.drew.alloc o1).alloc o2) o3;have r1:=(c3.block w.heap.size (by omega)).trans ((c2.block w.heap.size (by omega)).trans q1);rw[z1] at q2;rw[z2] at q3;have r2:=(c3.block (w.heap.size+1) (by omega)).trans q2;exact⟨b1,b1.trans (c2.mono (by rw[z1];omega)),(b1.trans (c2.mono (by rw[z1];omega))).trans (c3.mono (by rw[z2];omega)),r1,r2,q3⟩
theorem qBuaa{P:Prop}(h:P:=by
 rintro en au ⟨rfl,cj,a2,ar,a8,a7⟩;have bo:=T4.2.2.1.size;have ad:I au:=bk _ _ T4.2.2.1 ar;have hold:=(bf.out _ ad).2;have kF:Fo Y w au:=(HK.a.trans (Fo.of_below (a5.out.trans (T4.2.2.1.mono (by omega))) fun k hk=>by have:=HK.g k hk;have:=HK.a.size;omega)).trans (ar.mono fun k hk=>⟨aa (aa (aa hk)),by have:=HK.g k hk;omega⟩);obtain⟨x0,x1⟩:=Fp hold;obtain⟨f0,f1⟩:=ef hold;have an:=kq3 hold a2 kF;clear ar a8 a7 hold a2 kF T4
 try go_simp
 refine hK.out _ _ ad ?_;clear hK K
 try simp only[pu]
 refine eG fun K hK=>?_;go_simp
 try go_simp
 refine hK.out _ _ ad ?_;clear hK K
 try simp only[pu]
 refine eG fun K hK=>?_;go_simp
 try go_simp
 refine hK.out _ _ (a1 _ ad) ?_;clear hK K
 try simp only[pu]
 refine eG fun K hK=>?_;go_simp
 try go_simp
 refine hK.out _ _ (a1 _ ad) ?_;clear hK K
 try simp only[pu]
 refine eG fun K hK=>?_;go_simp
 try go_simp
 refine hK.out _ _ (a1 _ ad) ?_;clear hK K
 try simp only[pu]
 refine dX ?_;go_wp2_with fail;obtain⟨WF,ai⟩:=Ii ((au.setCell ⟨w.heap.size+1,0,none⟩ (Xu 0)).setCell ⟨w.heap.size+1,1,none⟩ (Xu 0));rw[ai];have eF:WF.heap[w.heap.size+1]?=some (.cells #[Xu 0,Xu 0] 104 (0,0)):=by
  rw[<-ai];exact heap_setCell (i:=1) (v:=Xu 0) (heap_setCell (i:=0) (v:=Xu 0) an.a)
 have a4:Ig WF ps (FC S2 rr 0 (bnWords t (Bt.bn (Bt.rootOf rr m y1 y2)))) Y:=by
  rw[<-ai];exact(an.b.write (b:=w.heap.size+1) (aa (aa (ae ⟨by omega,by omega⟩))) an.a ⟨by decide,by decide⟩ (by simp) (by simp) fun k _ hk=>(FB hk).trans (FB hk)).mono fun k hk=>aa (aa (aa hk))
 have kF:Fo Y w WF:=by
  rw[<-ai];have a0:∀k,Y k->k≠w.heap.size+1:=fun k hk=>by have:=HK.g k hk;omega
  exact(an.c.trans (Fo.mark a0)).trans (Fo.mark a0)
 clear ai x0 x1 f0 f1;obtain⟨u0,u1⟩:=Fp eF;exact bodyPost_ret (v:=.tuple #[Xu (rr:Nat),.agg #[Xu 0,Xu 0],.bool false,Xi 0]) (by simp[results,f137,go_sem,u0,u1]) rfl ⟨d+1,Bt.rootOf rr m y1 y2,_,o1,rfl,a4,kF,bd.out⟩):P:=h
theorem zI(hins:∀d,j4 d){w:World}{ps:Nat}{S:St}{o:Nat->Nat}{Y:Nat->Prop}(h:Ig w ps S Y){t d:Nat}{x:Bt (d+1)}(hx:Bt.Tree S o t x){e:It}(hn:Bt.New S x e)(hr:fc S (2*iD t e.k x) (iD t e.k x)):
 Ct 137 #[PV ps,Xi t,Xu (Bt.hd x:Nat),Id e.kh e.vh] w fun en w'=>∃(d':Nat) (y:Bt (d'+1)) (S':St) (o':Nat->Nat),en=.returned (.tuple #[Xu (Bt.hd y:Nat),Id 0 0,.bool false,Xi 0])/\Ig w' ps S' Y/\Fo Y w w'/\Bt.Tree S' o' t y/\Bt.its y=Bt.insB e (Bt.its x)/\(∀z∈Bt.nodes y,z∈Bt.nodes x\/reco S z=none)/\(∀z,z∉Bt.nodes x->reco S z≠none->reco S' z=reco S z)/\ej S S' (2*iD t e.k x) (iD t e.k x):=by
 have B0:=((ab w.heap.size w).alloc Ih (Xe e.kh e.vh)).alloc (by simp) (.cells #[Xu 0,Xu 0] 104);have z1:(w.alloc (Xe e.kh e.vh)).heap.size=w.heap.size+1:=by simp
 have q1:=heap_alloc_new w (Xe e.kh e.vh);have q2:=heap_alloc_new (w.alloc (Xe e.kh e.vh)) (.cells #[Xu 0,Xu 0] 104);have q1:=(((ab (w.alloc (Xe e.kh e.vh)).heap.size (w.alloc (Xe e.kh e.vh))).alloc Ih (.cells #[Xu 0,Xu 0] 104)).block w.heap.size (by simp)).trans q1;rw[z1] at q2;have hz:((w.alloc (Xe e.kh e.vh)).alloc (.cells #[Xu 0,Xu 0] 104)).heap.size=w.heap.size+2:=by simp
 generalize hW:(w.alloc (Xe e.kh e.vh)).alloc (.cells #[Xu 0,Xu 0] 104)=W0 at*;have A1:=(ab W0.heap.size W0).alloc Ih (Xc ps t);have q3:=heap_alloc_new W0 (Xc ps t);have ca:(W0.alloc (Xc ps t)).heap.size=w.heap.size+3:=by simp[hz]
 have hw:=hx.walk;have hi:=hx.fit.inv;have has:=kZ (h.below B0) hi hx.t1 hx.t2;obtain⟨W1,e4⟩:=Ii (W0.alloc (Xc ps t));rw[e4] at A1 q3 ca;have B1:=B0.trans (A1.mono (by omega));rw[hz] at q3;have d0:=jt hx.fit hn.blobs.lk hn.blobs.k;have ds:=iz (h.below B1) hi e.kh (Bt.blobs_lt hx.fit hn.blobs).1 (by rw[d0];simp);rw[d0] at ds;have q1:=(A1.block _ (by omega)).trans q1;have q2:=(A1.block _ (by omega)).trans q2;obtain⟨x0,x1⟩:=Fp q1;have H0:=kq7 h hx hn hr hw hi ca;have H1:=kq4 B1 q1 q2 q3;have eg:=If has;have eh:=If ds;have ii:Bt.hd x≠0:=(Bt.At.hd_ok hx.fit hx.at').1;have ik:((Bt.hd x:Nat):Int)≠0:=by omega
 clear z1 q1 q2 q3 B0 B1 A1 hw hi has d0 ds h hx hn hr;unfold Id;go_enter func137,ntmps137;go_wp2_with fail;refine eg.out.mono ?_;rintro en w1 ⟨rfl,rfl⟩;clear hW;go_wp2_with fail;refine eh.out.mono ?_;rintro en w2 ⟨rfl,bm⟩;clear x0 x1;have p1:=(bm.block _ (by have:=H0.g;omega)).trans H1.b;have p2:=(bm.block _ (by have:=H0.g;omega)).trans H1.c;have p3:=(bm.block _ (by have:=H0.g;omega)).trans H1.d;have b2:=H1.a.trans (bm.mono H1.a.size);obtain⟨x0,x1⟩:=Fp p3;have dv:=kI (H0.a.below b2) H0.f H0.e.read;have i0:w.heap.size+3<=w2.heap.size:=by have:=bm.size;have:=H0.g;omega
 unfold FH eC at dv;have em:=If dv;have H2:=kq4 b2 p1 p2 p3;clear bm p1 p2 p3 b2 dv eh eg H1 e4;go_wp2_with fail;refine em.out.mono ?_;rintro en w3 ⟨vk,vv,vc,rfl,rows,dk⟩;obtain⟨Ak,mk,ck,rfl⟩:=rows.k.slice;obtain⟨Av,mv,cv,rfl⟩:=rows.v.slice;obtain⟨Ac,mc,cc,rfl⟩:=rows.c.slice;obtain⟨sz,c5⟩:=Ii (Bt.bn x).size;rw[c5];clear c5;have A3:=(ab w3.heap.size w3).alloc Ih (.cells #[.slice Ak mk ck,.slice Av mv cv,.slice Ac mc cc,Xu sz] 215);obtain⟨W3,e5⟩:=Ii (w3.alloc (.cells #[.slice Ak mk ck,.slice Av mv cv,.slice Ac mc cc,Xu sz] 215));rw[e5] at A3;have c3:=dk.trans (A3.mono dk.size);have p1:=(c3.block _ (by omega)).trans H2.b;have p2:=(c3.block _ (by omega)).trans H2.c;have p3:=(c3.block _ (by omega)).trans H2.d;have B3:=H2.a.trans (c3.mono H2.a.size);have i1:w.heap.size+3<=W3.heap.size:=by have:=c3.size;omega
 have ih:=H0.b.low;have gb:=Bt.findB_none H0.c.key;have cn:=fun W (hw:Below W3.heap.size W3 W)=>pY (H0.a.below (B3.trans (hw.mono B3.size))) H0.e (by omega) e.k;rw[gb] at cn;have cp:=nT (R:=none) (cn W3 (ab _ _)) fun W hW=>cn W (by rw[hW];exact(ab _ _).alloc Ih _);unfold i7 Id at cp
 dsimp only[Option.isSome] at cp
 have ek:=If cp;have H3:=kq4 B3 p1 p2 p3;clear A3 c3 p1 p2 p3 B3 gb cn cp x0 x1 dk H2 em rows;go_wp2_with fail;refine ek.out.mono ?_;rintro en w4 ⟨rfl,dn⟩;clear e5;go_wp2_with fail;have A4:=(ab w4.heap.size w4).alloc Ih (.cells #[Xu 0,Xu 0] 104);obtain⟨W4,dc⟩:=Ii (w4.alloc (.cells #[Xu 0,Xu 0] 104));rw[dc] at A4;rw[dc];clear dc;have c4:=dn.trans (A4.mono dn.size);have p1:=(c4.block _ (by omega)).trans H3.b;have p2:=(c4.block _ (by omega)).trans H3.c;have p3:=(c4.block _ (by omega)).trans H3.d;have B4:=H3.a.trans (c4.mono H3.a.size);have d6:w.heap.size+3<=W4.heap.size:=by have:=c4.size;omega
 have ed:=H0.a.wide B4;have bj:=fun W (hw:Below W4.heap.size W4 W)=>zN (H0.a.below (B4.trans (hw.mono B4.size))) H0.e (by omega) e.k;obtain⟨q,hq⟩:=Ii (iD t e.k x);have iu:q<=22:=by have:=(oE t e.k x).2;omega
 have d5:=H0.d;rw[hq] at d5;have bt:=fun W (hw:Below W4.heap.size W4 W)=>tU (ed.below hw) H0.b.fit H0.b.t1 H0.b.t2 q (by omega) d5;have gg:Bt.needB 0 true (Bt.fullB t e.k x)=q:=hq;rw[gg] at bj;unfold FH at bj bt;have bj:=If bj;have bt:=If bt;have H4:=kq5 B4 p1 p2 p3 ed;have HQ:=If hq;clear A4 c4 p1 p2 p3 B4 ed hq gg d5 dn H3 ek;obtain⟨I,a3,a6⟩:=ic fun w'=>w'.heap[w.heap.size+2]?=W4.heap[w.heap.size+2]?;have ca:=fun x:Fq I=>(a3 _ x.ok).trans H4.d;obtain⟨r0,r1⟩:=fw ca;have ba:I W4.drew:=a6 _ rfl;have a9:=If a6;clear a3 a6 ca;refine fh I (.take 0 (.take 1 (.take 2 (.take 3 (.go 4 (.go 5 (.take 6 (.take 7 (.take 8 (.go 9 (.go 10 .nil))))))))))) (by kernel_rfl) (by kernel_rfl) ba ?_
 iterate 4
  refine' pT ?_ ?_;rotate_left
  ·intro x;go_simp
   try rfl
  try simp only[pu]
 refine pD fun K hK=>?_;go_simp;refine(bj.out _ (ab _ W4).drew).mono ?_;rintro en w5 ⟨rfl,dp⟩;have ev:I w5:=a9.out _ (dp.block _ d6);have B5:=(ab W4.heap.size W4).drew.trans dp;have bs:=If B5;clear dp B5
 try go_simp
 refine hK.out _ _ ev ?_;clear hK K
 try simp only[pu]
 refine pD fun K hK=>?_;go_simp;refine(bt.out _ bs.out).mono ?_;rintro en w6 ⟨rfl,S1,o1,v6,L,he,ec,ha,f6,ez,hc,f',fm,fn⟩;have cm:I w6:=a9.out _ ((ec.block _ (ae ⟨by omega,by omega⟩)).trans (bs.out.block _ d6));have H6:=kq9 he ec ha f6 ez hc f' fm fn;clear he ec ha f6 ez hc f' fm fn
 try go_simp
 refine hK.out _ _ cm ?_;clear hK K
 try simp only[pu]
 iterate 3
  refine' pT ?_ ?_;rotate_left
  ·intro x;go_simp
   try rfl
  try simp only[pu]
 refine pD fun K hK=>?_;go_simp
 try go_simp
 refine hK.out _ _ cm ?_;clear hK K
 try simp only[pu]
 refine pD fun K hK=>?_;go_simp
 try go_simp
 refine hK.out _ _ cm ?_;clear hK K
 try simp only[pu]
 refine eP ?_;have i5:=d6;have k6:∀k,w.heap.size<=k->k<W4.heap.size->w6.heap[k]?=W4.heap[k]?:=fun k h1 h2=>(H6.b.block k (ae ⟨h1,h2⟩)).trans (bs.out.block k h2);have p1:=(k6 w.heap.size (by omega) (by omega)).trans H4.b;have p2:=(k6 (w.heap.size+1) (by omega) (by omega)).trans H4.c;have p3:=(k6 (w.heap.size+2) (by omega) (by omega)).trans H4.d;obtain⟨x0,x1⟩:=Fp p1;obtain⟨y0,y1⟩:=Fp p3;have bu:Bt.Tree S1 o1 t x:=H0.b.frame H6.d fun y hy=>H6.h y fun hm=>H0.b.has y hy (H6.g y hm);have d1:=Bt.blobs_lt H0.b.fit H0.c.blobs;have cr:=hins d 0 H6.a bu.walk bu.nodes (by omega) H6.c H6.f (fun y hy q=>H0.b.has y (ax _ q) (H6.g y hy)) (ae (ae (aa rfl))) (ae (aa rfl)) (fun b hb=>ae (ae (ae hb))) (by have:=H6.e;omega) H0.c.key bu.lts d1.1 d1.2 (by have h1:=(oE t e.k x).1;have h2:=HQ.out;have h3:=H6.e;omega);unfold FH Id JB at cr;have e0:((0:Nat):Int)=0:=rfl;rw[e0] at cr;have eo:=If cr;have ep:=kq3 bu p2 k6;clear e0 cr bu d1 p1 p2 p3 k6 r0 r1 bj bt a9 ba ev cm;go_wp2_with fail;refine eo.out.mono ?_;rintro en w7 ⟨r,S2,v7,L7,U,rfl,h7⟩;have H7:=If h7;clear h7 eo x0 x1 y0 y1;have b':=H0.a.yl;have i2:=bs.out.size;have i3:=H6.b.size;have kY:Fo Y w w7:=((Fo.of_below H4.a b').trans (Fo.of_below bs.out fun k hk=>by have:=b' k hk;omega)).trans ((H6.b.mono fun k hk=>aa hk).trans (H7.out.2.2.2.1.mono fun k hk=>⟨aa (aa hk),by have:=b' k hk;omega⟩));have p2:=(H7.out.2.2.2.1.block (w.heap.size+1) ⟨aa (ae ⟨by omega,by omega⟩),by omega⟩).trans ep.b;have p3:=(H7.out.2.2.2.1.block (w.heap.size+2) ⟨aa (ae ⟨by omega,by omega⟩),by omega⟩).trans ((ep.c _ (by omega) (by omega)).trans H4.d);have c':∀y∈U,y∈L:=fun y hy=>by rw[H7.out.1];exact aw _ hy
 have fk:∀z,z∉Bt.nodes x->z∉L->reco S2 z=reco S z:=fun z h1 h2=>(H7.out.2.1.fr z h1 fun q=>h2 (c' z q)).trans (H6.h z h2);have fv:ej S S2 (2*q) q:=(H6.i.trans H7.out.2.1.grew).mono (by omega) (by omega);have gc:=(gl p2);have ho:=(gl p3);have HK:=kq7 kY p2 p3 c' fk fv b';clear kY p2 p3 c' fk fv b'
 rcases r with _ | ⟨m,g⟩
 ·dsimp only[ky,iQ]
  go_wp2_with fail;have A8:=(ab w7.heap.size w7).alloc Ih (.cells #[.bool false,Xu 0,Xu 0,Xu 0] 274);obtain⟨W8,bb⟩:=Ii (w7.alloc (.cells #[.bool false,Xu 0,Xu 0,Xu 0] 274));rw[bb] at A8;rw[bb];have p2:=(A8.block _ gc).trans HK.b;have ch:=H7.out.2.2.1.below A8;have k8:Fo Y w W8:=HK.a.trans (Fo.of_below A8 fun k hk=>by have:=HK.g k hk;have:=HK.a.size;omega);obtain⟨x0,x1⟩:=Fp p2;obtain⟨f0,f1⟩:=ef p2;have H8:=kq3 p2 ch k8;clear bb A8 p2 ch k8
  go_region
  go_wp2_with fail;obtain⟨WF,ai⟩:=Ii (((W8.setCell ⟨w.heap.size+1,0,none⟩ (Xu 0)).setCell ⟨w.heap.size+1,1,none⟩ (Xu 0))).drew;rw[ai];have eF:WF.heap[w.heap.size+1]?=some (.cells #[Xu 0,Xu 0] 104 (0,0)):=by
   rw[<-ai];exact heap_setCell (i:=1) (v:=Xu 0) (heap_setCell (i:=0) (v:=Xu 0) H8.a)
  have a4:Ig WF ps S2 Y:=by
   rw[<-ai];exact((H8.b.write (b:=w.heap.size+1) (aa (ae ⟨by omega,by omega⟩)) H8.a ⟨by decide,by decide⟩ (by simp) (by simp) fun k _ hk=>(FB hk).trans (FB hk)).below (ab _ _).drew).mono fun k hk=>aa (aa hk)
  have kF:Fo Y w WF:=by
   rw[<-ai];have a0:∀k,Y k->k≠w.heap.size+1:=fun k hk=>by have:=HK.g k hk;omega
   exact((H8.c.trans (Fo.mark a0)).trans (Fo.mark a0)).trans ⟨rfl,rfl,rfl,Nat.le_refl _,fun _ _=>rfl⟩
  clear ai x0 x1 f0 f1;obtain⟨u0,u1⟩:=Fp eF;obtain⟨y,bv,b0,b4,b9⟩:=H0.b.insert_none H0.c H6.g H6.h HK.d H7.out.2.1;exact bodyPost_ret (v:=.tuple #[Xu (Bt.hd x:Nat),.agg #[Xu 0,Xu 0],.bool false,Xi 0]) (by simp[results,f137,go_sem,u0,u1]) rfl ⟨d,y,S2,o1,by rw[bv];rfl,a4,kF,b0,b4,fun z hz=>(b9 z hz).imp id fun hu=>H6.g z (HK.d z hu),fun z h1 h2=>HK.e z h1 fun hm=>h2 (H6.g z hm),by rw[HQ.out];exact HK.f⟩
 ·dsimp only[ky,iQ]
  have hl:=H7.out.2.2.2.2.2.2.1;have e6:=H7.out.2.2.2.2.2.2.2;have gf:=(oE t e.k x).1;have e7:(Bt.fullB t e.k x).all id=true:=e6.symm;rw[if_pos e7,HQ.out] at gf;have c8:L7.length=1:=by
   have h1:=H6.e;have h2:=congrArg List.length H7.out.1;rw[aD] at h2;omega
  obtain⟨rr,cw⟩:∃rr,L7=[]++[rr]:=by
   cases L7 with
   | nil=>simp at c8
   | cons a l=>
    cases l with
    | nil=>exact⟨a,rfl⟩
    | cons b l=>simp at c8
  have cs:rr∈L:=by rw[H7.out.1,cw];simp
  have gk:rr∉U:=fun hm=>by
   have ga:=H6.f.nd;rw[H7.out.1,cw] at ga;exact(av.1 ga).2.2 rr (by simp) rr hm rfl
  obtain⟨ws,gp,ea⟩:=H6.f.recs rr cs;obtain⟨y1,y2,bv,b0,b4,b9,g6,g7,h9,g8,g9,eb,gs,gv,g0,g4,g5⟩:=H0.b.insert_root H0.c H6.g H6.h HK.d H7.out.2.1 cs gk gp ea;obtain⟨n1,d2⟩:=Ii (Bt.its y1).length;obtain⟨n2,d3⟩:=Ii (Bt.its y2).length;have d7:=fun W Yx hst=>ri (ps:=ps) H7.out.2.1.fit H0.b.t1 H0.b.t2 b4 g6 (by omega) W Yx hst;have d8:=fun W Yx hst=>ri (ps:=ps) H7.out.2.1.fit H0.b.t1 H0.b.t2 b9 g7 (by omega) W Yx hst;rw[bv,d2] at d7;rw[b0,d3] at d8;have it:n1+n2+1<1000000:=by omega
  have cx:=H7.out.2.2.2.2.1;rw[cw] at cx;have hA:∀(W:World) (b1 b2 b3:Nat),Below w7.heap.size w7 W->w7.heap.size<=b1->w7.heap.size<=b2->w7.heap.size<=b3->W.heap[b1]?=some (.cells #[Xu m.kh] 61 (0,0))->W.heap[b2]?=some (.cells #[Xu m.vh] 61 (0,0))->W.heap[b3]?=some (.cells #[Xu (Bt.hd x:Nat),Xu g] 61 (0,0))->
   Ct 214 #[.agg #[.slice (some ⟨b1,0,none⟩) 1 1,.slice (some ⟨b2,0,none⟩) 1 1,.slice (some ⟨b3,0,none⟩) 2 2,Xu ((n1:Int)+n2+1)],PV (w5.heap.size+1),PV w5.heap.size] W fun en w'=>en=.returned (Xu rr)/\∃v',Ig w' ps (FC S2 rr 0 (bnWords t (Bt.bn (Bt.rootOf rr m y1 y2)))) (fun k=>((Y k\/(w.heap.size<=k/\k<W4.heap.size))\/iJ w5.heap.size (w5.heap.size+1) v6 k)\/(w7.heap.size<=k/\k<W.heap.size))/\Fo (fun k=>(((Y k\/(w.heap.size<=k/\k<W4.heap.size))\/iJ w5.heap.size (w5.heap.size+1) v6 k)\/(w7.heap.size<=k/\k<W.heap.size))/\k≠w5.heap.size+1) W w'/\gz w' w5.heap.size (w5.heap.size+1) (w5.heap.size+2) ps t v' []/\v'.ownBlock=v7.ownBlock:=by
   intro W b1 b2 b3 hB g1 g2 g3 e1 e2 e3;have g':w5.heap.size+2<=w7.heap.size:=by
    have h1:=(gl cx.box);omega
   have gn:∀(b k:Nat),W.heap[b]?=some (.cells #[Xu k] 61 (0,0))->FD W (.slice (some ⟨b,0,none⟩) 1 1) [k]:=fun b k hb=>⟨_,1,rfl,fun i hi=>⟨b,0,rfl,by
    have hi:i=0:=by simp at hi;exact hi
    subst hi;rw[cell_of_block hb]
    rfl⟩⟩
   have h0:FD W (.slice (some ⟨b3,0,none⟩) 2 2) [Bt.hd x,g]:=⟨_,2,rfl,fun i hi=>⟨b3,0,rfl,by
    have hi:i=0\/i=1:=by simp at hi;omega
    rcases hi with rfl | rfl
    ·rw[cell_of_block e3]
     rfl
    ·rw[cell_of_block e3]
     rfl⟩⟩
   have hj:S2.len rr=(6*t,0):=by rw[jw H7.out.2.1.fit.tab eb,ea]
   have hf:∀k∈Bn.ks (Bt.rootOf rr m y1 y2),Bt.At S2 t k:=fun k hk=>by
    have hk:k∈ [y1,y2]:=hk
    rcases ag.1 hk with rfl | hk
    ·exact b4
    ·rw[aS.1 hk];exact b9
   have hh:(Bt.bn (Bt.rootOf rr m y1 y2)).kids=[Bt.hd x,g]:=by
    show[Bt.hd y1,Bt.hd y2]=_
    rw[bv,b0]
   have c5:(((Bt.bn (Bt.rootOf rr m y1 y2)).size:Nat):Int)=(n1:Int)+n2+1:=by
    show (((Bt.its y1++m::Bt.its y2).length:Nat):Int)=_
    rw[aD,ak,d2,d3];omega
   have d4:∀{b n c:Nat},w7.heap.size<=b->∀g,(Value.slice (some ⟨b,0,none⟩) n c).ownBlock=some g->g≠w5.heap.size+1:=fun hb g hg q=>by
    have hg:=Option.some.inj hg;simp only at hg;omega
   have d9:=pZ (n:=Bt.bn (Bt.rootOf rr m y1 y2)) (vk:=.slice (some ⟨b1,0,none⟩) 1 1) (vv:=.slice (some ⟨b2,0,none⟩) 1 1) (vc:=.slice (some ⟨b3,0,none⟩) 2 2) (H7.out.2.2.1.wide hB) H7.out.2.1.fit.inv (cx.keeps fun k hk=>hB.block k ?_) (aa (ae (ae (aa rfl)))) (aa (ae (aa rfl))) (fun b hb=>aa (ae (ae (ae (by rw[<-H7.out.2.2.2.2.2.1];exact hb))))) (by simp) (Bt.bnok_of H7.out.2.1.fit H0.b.t1 H0.b.t2 hf g8) (gn b1 _ e1) (gn b2 _ e2) (by rw[hh];exact h0) (d4 g1) (d4 g2) (d4 g3) (fL H7.out.2.1.fit eb).2.1 hj (kX g9 (by show 1<_;omega))
   ·unfold eC at d9;rw[c5] at d9;exact d9
   ·have h':=H7.out.2.2.1.yl;refine h' k (ae ?_)
    rcases hk with hk | hk | hk
    ·exact aa hk
    ·exact ae (aa hk)
    ·exact ae (ae (by rw[<-H7.out.2.2.2.2.2.1];exact hk))
  have HA:=If hA;have c6:=If d7;have c7:=If d8;have HT:=kq6 gs gv g0 g4 g5 cs;clear hl e6 gf e7 c8 cw gk gp ea bv b0 b4 b9 g6 g7 h9 g8 g9 eb gs gv g0 g4 g5 d2 d3 d7 d8 cx hA cs;go_wp2_with fail;have A8:=(ab w7.heap.size w7).alloc Ih (.cells #[.bool true,Xu (m.kh:Nat),Xu (m.vh:Nat),Xu g] 274);have p4:=heap_alloc_new w7 (.cells #[.bool true,Xu (m.kh:Nat),Xu (m.vh:Nat),Xu g] 274);obtain⟨W8,bb⟩:=Ii (w7.alloc (.cells #[.bool true,Xu (m.kh:Nat),Xu (m.vh:Nat),Xu g] 274));rw[bb] at A8 p4;rw[bb];clear bb;have p2:=(A8.block _ gc).trans HK.b;have p3:=(A8.block _ ho).trans HK.c;have ht:=(gl p2);have hv:=(gl p3);have gd:=(gl p4);have ch:=H7.out.2.2.1.below A8;obtain⟨I,a3,a6⟩:=ic fun w'=>∀k,k<W8.heap.size->w'.heap[k]?=W8.heap[k]?;have cb:=fun x:Fq I=>(a3 _ x.ok _ hv).trans p3;have cd:=fun x:Fq I=>(a3 _ x.ok _ gd).trans p4;obtain⟨r0,r1⟩:=fw cb;obtain⟨s0,s1,s2,s3⟩:=iB cd;have ba:I W8.drew:=a6 _ fun _ _=>rfl;have a9:=If a6;have a':=kq5 A8 p2 p3 p4 ch;have h5:IntKind.i64.wrap ((n1:Int)+n2)=(n1:Int)+n2:=aB _ (by omega);have h6:IntKind.u64.wrap ((n1:Int)+n2)=(n1:Int)+n2:=cJ _ (by omega);have h8:IntKind.u64.wrap ((n1:Int)+n2+1)=(n1:Int)+n2+1:=cJ _ (by omega);unfold FH at c6 c7;clear a3 a6 cb cd A8 p2 p3 p4 ch;refine fh I (.take 0 (.take 1 (.take 3 (.take 4 (.take 5 (.go 2 (.go 6 (.take 7 (.take 8 (.take 9 (.go 10 .nil))))))))))) (by kernel_rfl) (by kernel_rfl) ba ?_
  iterate 5
   refine' pT ?_ ?_;rotate_left
   ·intro x;go_simp
    try rfl
   try simp only[pu]
  refine pD fun K hK=>?_;go_simp;refine(c6.out _ _ (a'.e.below (ab _ W8).drew)).mono ?_;rintro en w9 ⟨rfl,e'⟩;have B9:=(ab W8.heap.size W8).drew.trans e';have cl:=If B9;clear e' B9
  try go_simp
  refine hK.out _ _ (a9.out _ fun k hk=>cl.out.block k hk) ?_;clear hK K
  try simp only[pu]
  refine pD fun K hK=>?_;go_simp;refine(c7.out _ _ (a'.e.below cl.out)).mono ?_;rintro en al ⟨rfl,e8⟩;have ee:=cl.out.trans (e8.mono cl.out.size);have bc:=If ee;clear e8 ee
  try go_simp
  refine hK.out _ _ (a9.out _ fun k hk=>bc.out.block k hk) ?_;clear hK K
  try simp only[pu]
  iterate 3
   refine' pT ?_ ?_;rotate_left
   ·intro x;go_simp
    try rfl
   try simp only[pu]
  refine pD fun K hK=>?_;go_simp
  try go_simp
  refine hK.out _ _ (a9.out _ fun k hk=>bc.out.block k hk) ?_;clear hK K
  try simp only[pu]
  refine eP ?_;go_wp2_with fail;clear r0 r1 s0 s1 s2 s3 ba a9 h5 h6 h8 c6 c7;have h4:=a'.a.size;have iv:=bc.out.size;have g':=a'.a;have a5:Hid (Below w7.heap.size w7 al):=If (a'.a.trans (bc.out.mono h4));have er:Bt.Tree (FC S2 rr 0 (bnWords t (Bt.bn (Bt.rootOf rr m y1 y2)))) o1 t (Bt.rootOf rr m y1 y2)/\Bt.its (Bt.rootOf rr m y1 y2)=Bt.insB e (Bt.its x)/\(∀z∈Bt.nodes (Bt.rootOf rr m y1 y2),z∈Bt.nodes x\/reco S z=none)/\(∀z,z∉Bt.nodes x->reco S z≠none->reco (FC S2 rr 0 (bnWords t (Bt.bn (Bt.rootOf rr m y1 y2)))) z=reco S z)/\ej S (FC S2 rr 0 (bnWords t (Bt.bn (Bt.rootOf rr m y1 y2)))) (2*iD t e.k x) (iD t e.k x):=by
   obtain⟨t1,t2,t3,t4,t5,t6⟩:=HT.out;refine⟨t1,t2,fun z hz=>(t3 z hz).imp id fun hm=>H6.g z hm,fun z h1 h2=>(t4 z fun q=>h2 (H6.g z (q▸t6))).trans (HK.e z h1 fun hm=>h2 (H6.g z hm)),?_⟩;rw[HQ.out];exact(HK.f.trans t5).mono (by omega) (by omega)
  have bd:=If er;obtain⟨I,a3,a6⟩:=ic fun w'=>w'.heap[w7.heap.size]?=some (.cells #[.bool true,Xu (m.kh:Nat),Xu (m.vh:Nat),Xu g] 274 (0,0))/\w'.heap[w.heap.size+1]?=some (.cells #[Xu 0,Xu 0] 104 (0,0));have cb:=fun x:Fq I=>(a3 _ x.ok).1;have cd:=fun x:Fq I=>(a3 _ x.ok).2;obtain⟨s0,s1,s2,s3⟩:=iB cb;obtain⟨r0,r1⟩:=fw cd;have hJ:∀W,Below al.heap.size al W->I W:=fun W hB=>a6 _ ⟨(hB.block _ (by omega)).trans ((bc.out.block _ gd).trans a'.d),(hB.block _ (by omega)).trans ((bc.out.block _ ht).trans a'.b)⟩;have ba:I al.drew:=hJ _ (ab _ al).drew;have bk:∀W w',Below al.heap.size al W->Fo (fun k=>(((Y k\/(w.heap.size<=k/\k<W4.heap.size))\/iJ w5.heap.size (w5.heap.size+1) v6 k)\/(w7.heap.size<=k/\k<W.heap.size))/\k≠w5.heap.size+1) W w'->I w':=fun W w' hB hk=>by
   have bo:=hB.size;have i4:=H7.out.2.2.2.1.size;have ib:=(gl H7.out.2.2.2.2.1.box);have h1:=a3 _ (hJ W hB);exact a6 _ ⟨(hk.block _ ⟨ae ⟨Nat.le_refl _,by omega⟩,by omega⟩).trans h1.1,(hk.block _ ⟨aa (aa (ae ⟨by omega,by omega⟩)),by omega⟩).trans h1.2⟩
  have a1:∀w',I w'->I ((w'.setCell ⟨w.heap.size+1,0,none⟩ (Xu 0)).setCell ⟨w.heap.size+1,1,none⟩ (Xu 0)):=fun w' hi=>a6 _ ⟨((FB (by omega)).trans (FB (by omega))).trans (a3 _ hi).1,heap_setCell (i:=1) (v:=Xu 0) (heap_setCell (i:=0) (v:=Xu 0) (a3 _ hi).2)⟩;have HJ:=If hJ;have bf:=If a3;clear cb cd a3 a6 g' er;refine Fi I (.take 0 (.take 1 (.take 2 (.take 3 (.take 5 (.take 6 (.take 7 (.take 9 (.take 10 (.take 11 (.take 13 (.take 16 (.three 4 8 12 (.two 8 12 (.go 12 (.take 14 (.go 15 (.go 17 (.go 18 (.go 19 (.go 20 .nil))))))) (.go 8 (.take 14 (.go 15 (.go 17 (.go 18 (.go 19 (.go 20 .nil)))))))) (.two 4 12 (.go 12 (.take 14 (.go 15 (.go 17 (.go 18 (.go 19 (.go 20 .nil))))))) (.go 4 (.take 14 (.go 15 (.go 17 (.go 18 (.go 19 (.go 20 .nil)))))))) (.two 4 8 (.go 8 (.take 14 (.go 15 (.go 17 (.go 18 (.go 19 (.go 20 .nil))))))) (.go 4 (.take 14 (.go 15 (.go 17 (.go 18 (.go 19 (.go 20 .nil))))))))))))))))))))) (by kernel_rfl) (by kernel_rfl) ba ?_
  iterate 12
   refine' lq ?_ ?_;rotate_left
   ·intro x;go_simp
    try rfl
   try simp only[pu]
  clear s0 s1 s2 s3 r0 r1;refine Dx ?_ ?_ ?_
  ·have T4:=ku al (Xf (m.kh:Nat)) (Xf (m.kh:Nat)) (Xf (m.kh:Nat));refine eG fun K hK=>?_;go_simp
   try go_simp
   refine hK.out _ _ (HJ.out _ T4.1) ?_;clear hK K
   try simp only[pu]
   clear T4;refine rP ?_ ?_
   ·have T4:=ku al (Xf (m.kh:Nat)) (Xf (m.vh:Nat)) (.cells #[Xu (Bt.hd x:Nat),Xu g] 61);refine eG fun K hK=>?_;go_simp
    try go_simp
    refine hK.out _ _ (HJ.out _ T4.2.1) ?_;clear hK K
    try simp only[pu]
    refine eG fun K hK=>?_;go_simp
    try go_simp
    refine hK.out _ _ (HJ.out _ T4.2.2.1) ?_;clear hK K
    try simp only[pu]
    refine' lq ?_ ?_;rotate_left
    ·intro x;go_simp
     try rfl
    try simp only[pu]
    refine eG fun K hK=>?_;go_simp;refine(HA.out _ al.heap.size (al.heap.size+1) (al.heap.size+2) (a5.out.trans (T4.2.2.1.mono (by omega))) (by omega) (by omega) (by omega) T4.2.2.2.1 T4.2.2.2.2.1 T4.2.2.2.2.2).mono ?_;exact qBuaa
   ·have T4:=ku al (Xf (m.kh:Nat)) (.cells #[Xu (Bt.hd x:Nat),Xu g] 61) (Xf (m.vh:Nat));refine eG fun K hK=>?_;go_simp
    try go_simp
    refine hK.out _ _ (HJ.out _ T4.2.1) ?_;clear hK K
    try simp only[pu]
    refine eG fun K hK=>?_;go_simp
    try go_simp
    refine hK.out _ _ (HJ.out _ T4.2.2.1) ?_;clear hK K
    try simp only[pu]
    refine' lq ?_ ?_;rotate_left
    ·intro x;go_simp
     try rfl
    try simp only[pu]
    refine eG fun K hK=>?_;go_simp;refine(HA.out _ al.heap.size (al.heap.size+2) (al.heap.size+1) (a5.out.trans (T4.2.2.1.mono (by omega))) (by omega) (by omega) (by omega) T4.2.2.2.1 T4.2.2.2.2.2 T4.2.2.2.2.1).mono ?_;exact qBuaa
  ·have T4:=ku al (Xf (m.vh:Nat)) (Xf (m.vh:Nat)) (Xf (m.vh:Nat));refine eG fun K hK=>?_;go_simp
   try go_simp
   refine hK.out _ _ (HJ.out _ T4.1) ?_;clear hK K
   try simp only[pu]
   clear T4;refine rP ?_ ?_
   ·have T4:=ku al (Xf (m.vh:Nat)) (Xf (m.kh:Nat)) (.cells #[Xu (Bt.hd x:Nat),Xu g] 61);refine eG fun K hK=>?_;go_simp
    try go_simp
    refine hK.out _ _ (HJ.out _ T4.2.1) ?_;clear hK K
    try simp only[pu]
    refine eG fun K hK=>?_;go_simp
    try go_simp
    refine hK.out _ _ (HJ.out _ T4.2.2.1) ?_;clear hK K
    try simp only[pu]
    refine' lq ?_ ?_;rotate_left
    ·intro x;go_simp
     try rfl
    try simp only[pu]
    refine eG fun K hK=>?_;go_simp;refine(HA.out _ (al.heap.size+1) al.heap.size (al.heap.size+2) (a5.out.trans (T4.2.2.1.mono (by omega))) (by omega) (by omega) (by omega) T4.2.2.2.2.1 T4.2.2.2.1 T4.2.2.2.2.2).mono ?_;exact qBuaa
   ·have T4:=ku al (Xf (m.vh:Nat)) (.cells #[Xu (Bt.hd x:Nat),Xu g] 61) (Xf (m.kh:Nat));refine eG fun K hK=>?_;go_simp
    try go_simp
    refine hK.out _ _ (HJ.out _ T4.2.1) ?_;clear hK K
    try simp only[pu]
    refine eG fun K hK=>?_;go_simp
    try go_simp
    refine hK.out _ _ (HJ.out _ T4.2.2.1) ?_;clear hK K
    try simp only[pu]
    refine' lq ?_ ?_;rotate_left
    ·intro x;go_simp
     try rfl
    try simp only[pu]
    refine eG fun K hK=>?_;go_simp;refine(HA.out _ (al.heap.size+2) al.heap.size (al.heap.size+1) (a5.out.trans (T4.2.2.1.mono (by omega))) (by omega) (by omega) (by omega) T4.2.2.2.2.2 T4.2.2.2.1 T4.2.2.2.2.1).mono ?_;exact qBuaa
  ·have T4:=ku al (.cells #[Xu (Bt.hd x:Nat),Xu g] 61) (.cells #[Xu (Bt.hd x:Nat),Xu g] 61) (.cells #[Xu (Bt.hd x:Nat),Xu g] 61);refine eG fun K hK=>?_;go_simp
   try go_simp
   refine hK.out _ _ (HJ.out _ T4.1) ?_;clear hK K
   try simp only[pu]
   clear T4;refine rP ?_ ?_
   ·have T4:=ku al (.cells #[Xu (Bt.hd x:Nat),Xu g] 61) (Xf (m.kh:Nat)) (Xf (m.vh:Nat));refine eG fun K hK=>?_;go_simp
    try go_simp
    refine hK.out _ _ (HJ.out _ T4.2.1) ?_;clear hK K
    try simp only[pu]
    refine eG fun K hK=>?_;go_simp
    try go_simp
    refine hK.out _ _ (HJ.out _ T4.2.2.1) ?_;clear hK K
    try simp only[pu]
    refine' lq ?_ ?_;rotate_left
    ·intro x;go_simp
     try rfl
    try simp only[pu]
    refine eG fun K hK=>?_;go_simp;refine(HA.out _ (al.heap.size+1) (al.heap.size+2) al.heap.size (a5.out.trans (T4.2.2.1.mono (by omega))) (by omega) (by omega) (by omega) T4.2.2.2.2.1 T4.2.2.2.2.2 T4.2.2.2.1).mono ?_;exact qBuaa
   ·have T4:=ku al (.cells #[Xu (Bt.hd x:Nat),Xu g] 61) (Xf (m.vh:Nat)) (Xf (m.kh:Nat));refine eG fun K hK=>?_;go_simp
    try go_simp
    refine hK.out _ _ (HJ.out _ T4.2.1) ?_;clear hK K
    try simp only[pu]
    refine eG fun K hK=>?_;go_simp
    try go_simp
    refine hK.out _ _ (HJ.out _ T4.2.2.1) ?_;clear hK K
    try simp only[pu]
    refine' lq ?_ ?_;rotate_left
    ·intro x;go_simp
     try rfl
    try simp only[pu]
    refine eG fun K hK=>?_;go_simp;refine(HA.out _ (al.heap.size+2) (al.heap.size+1) al.heap.size (a5.out.trans (T4.2.2.1.mono (by omega))) (by omega) (by omega) (by omega) T4.2.2.2.2.2 T4.2.2.2.2.1 T4.2.2.2.1).mono ?_;exact qBuaa
namespace Bt
structure Empty (S:St) (o:Nat->Nat) (t:Nat):Prop where
 fit:Fw S o
 t1:2<=t
 t2:t<=16
structure First (S:St) (e:It):Prop where
 blobs:gu S e
 ne:e.kh≠e.vh
def leafOf(r:Nat)(e:It):Bt 1:=(⟨r,[e],[]⟩:Bn (Bt 0))
theorem first_tree {S:St}{o:Nat->Nat}{t:Nat}(h:Empty S o t){e:It}(n:First S e){r:Nat}{ws:List Nat}(hw:reco S r=some ws)(hl:ws.length=6*t)(hk:r≠e.kh)(hv:r≠e.vh):
 Ok t (leafOf r e)/\iT (bn (leafOf r e))/\Tree (FC S r 0 (bnWords t (bn (leafOf r e)))) o t (leafOf r e)/\(∀z,z≠r->reco (FC S r 0 (bnWords t (bn (leafOf r e)))) z=reco S z)/\ej S (FC S r 0 (bnWords t (bn (leafOf r e)))) 0 0:=by
 have t1:=h.t1;have ok:Ok t (leafOf r e):=⟨by show 1<=2*t-1;omega,rfl,fun k hk=>by have hk:k∈([]:List (Bt 0)):=hk;simp at hk⟩;have al:∀k∈Bn.ks (leafOf r e),At S t k:=fun k hk=>by have hk:k∈([]:List (Bt 0)):=hk;simp at hk
 have ad:its (leafOf r e)=[e]:=its_leaf _;have hb:=blobs_lt h.fit n.blobs;have ai:iT (bn (leafOf r e)):=bnLt_of h.fit (fun a ha=>by
  have ha:a∈ [e]:=ha;rw[aS.1 ha];exact hb) al (by rw[ad];show 1<_;omega)
 obtain⟨p1,p2,p3,p4⟩:=put_node (x:=leafOf r e) h.fit al (fun k hk=>by have hk:k∈([]:List (Bt 0)):=hk;simp at hk) (ws:=ws) hw hl ai (by show 1<1000;omega);have p3:∀z,z≠r->reco (FC S r 0 (bnWords t (bn (leafOf r e)))) z=reco S z:=p3;have an:Bt.nodes (leafOf r e)=[r]:=by rw[jQ];rfl
 refine⟨ok,ai,⟨p1,h.t1,h.t2,p2,ok,by rw[ad];exact List.pairwise_singleton _ _,?_,by rw[ad];show 1<_;omega,by rw[an];simp,?_,?_,Nat.le_refl 1⟩,p3,p4⟩
 ·rw[ad];intro a ha;rw[aS.1 ha];exact n.blobs.frame (p3 _ (Ne.symm hk)) (p3 _ (Ne.symm hv))
 ·rw[ad]
  show[e.kh,e.vh].Nodup
  simp[n.ne]
 ·rw[ad,an];intro z hz hm;rw[aS.1 hz] at hm;have hm:r∈ [e.kh,e.vh]:=hm
  simp at hm
  exact hm.elim hk hv
end Bt
theorem xP(w:World)(o1 o2:Obj):Below w.heap.size w (w.drew.alloc o1)/\Below w.heap.size w ((w.drew.alloc o1).alloc o2)/\((w.drew.alloc o1).alloc o2).heap[w.heap.size]?=some o1/\((w.drew.alloc o1).alloc o2).heap[w.heap.size+1]?=some o2:=by
 have z1:(w.drew.alloc o1).heap.size=w.heap.size+1:=by simp
 have b1:=((ab w.heap.size w).drew).alloc Ih o1;have c2:=(ab (w.drew.alloc o1).heap.size (w.drew.alloc o1)).alloc Ih o2;have q1:=heap_alloc_new w.drew o1;have q2:=heap_alloc_new (w.drew.alloc o1) o2;have r1:=(c2.block w.heap.size (by omega)).trans q1;rw[z1] at q2;exact⟨b1,b1.trans (c2.mono (by rw[z1];omega)),r1,q2⟩
theorem qBuab{P:Prop}(h:P:=by
 rintro en a1 ⟨rfl,ec,a',a0,ch,cd⟩;have ad:I a1:=cx _ _ T4.2.1 a0;have hold:=(cs.out _ ad).2;have kF:Fo Y w a1:=(HK.a.trans (Fo.of_below T4.2.1 fun k hk=>by have:=HK.d k hk;omega)).trans (a0.mono fun k hk=>⟨aa (aa hk),by have:=HK.d k hk;omega⟩);obtain⟨x0,x1⟩:=Fp hold;obtain⟨f0,f1⟩:=ef hold;have an:=kq3 hold a' kF;clear a0 ch cd hold a' kF T4
 try go_simp
 refine hK.out _ _ ad ?_;clear hK K
 try simp only[pu]
 refine pD fun K hK=>?_;go_simp
 try go_simp
 refine hK.out _ _ ad ?_;clear hK K
 try simp only[pu]
 refine pD fun K hK=>?_;go_simp
 try go_simp
 refine hK.out _ _ (a2 _ ad) ?_;clear hK K
 try simp only[pu]
 refine pD fun K hK=>?_;go_simp
 try go_simp
 refine hK.out _ _ (a2 _ ad) ?_;clear hK K
 try simp only[pu]
 refine pD fun K hK=>?_;go_simp
 try go_simp
 refine hK.out _ _ (a2 _ ad) ?_;clear hK K
 try simp only[pu]
 refine eP ?_;go_wp2_with fail;obtain⟨WF,ai⟩:=Ii ((a1.setCell ⟨w.heap.size+1,0,none⟩ (Xu 0)).setCell ⟨w.heap.size+1,1,none⟩ (Xu 0));rw[ai];have eF:WF.heap[w.heap.size+1]?=some (.cells #[Xu 0,Xu 0] 104 (0,0)):=by
  rw[<-ai];exact heap_setCell (i:=1) (v:=Xu 0) (heap_setCell (i:=0) (v:=Xu 0) an.a)
 have ck:Ig WF ps (FC S1 rr 0 (bnWords t (Bt.bn (Bt.leafOf rr e)))) Y:=by
  rw[<-ai];exact(an.b.write (b:=w.heap.size+1) (aa (ae ⟨by omega,by omega⟩)) an.a ⟨by decide,by decide⟩ (by simp) (by simp) fun k _ hk=>(FB hk).trans (FB hk)).mono fun k hk=>aa (aa hk)
 have kF:Fo Y w WF:=by
  rw[<-ai];have a7:∀k,Y k->k≠w.heap.size+1:=fun k hk=>by have:=HK.d k hk;omega
  exact(an.c.trans (Fo.mark a7)).trans (Fo.mark a7)
 clear ai x0 x1 f0 f1;obtain⟨u0,u1⟩:=Fp eF;exact bodyPost_ret (v:=.tuple #[Xu (rr:Nat),.agg #[Xu 0,Xu 0],.bool false,Xi 0]) (by simp[results,f137,go_sem,u0,u1]) rfl ⟨Bt.leafOf rr e,_,o1,rfl,ck,kF,cp.out⟩):P:=h
theorem zH {w:World}{ps:Nat}{S:St}{o:Nat->Nat}{Y:Nat->Prop}(h:Ig w ps S Y){t:Nat}(hx:Bt.Empty S o t){e:It}(hn:Bt.First S e)(hr:fc S (2*1) 1):
 Ct 137 #[PV ps,Xi t,Xu 0,Id e.kh e.vh] w fun en w'=>∃(y:Bt 1) (S':St) (o':Nat->Nat),en=.returned (.tuple #[Xu (Bt.hd y:Nat),Id 0 0,.bool false,Xi 0])/\Ig w' ps S' Y/\Fo Y w w'/\Bt.Tree S' o' t y/\Bt.its y=[e]/\(∀z∈Bt.nodes y,reco S z=none)/\(∀z,reco S z≠none->reco S' z=reco S z)/\ej S S' 2 1:=by
 have B0:=((ab w.heap.size w).alloc Ih (Xe e.kh e.vh)).alloc (by simp) (.cells #[Xu 0,Xu 0] 104);have z1:(w.alloc (Xe e.kh e.vh)).heap.size=w.heap.size+1:=by simp
 have q1:=heap_alloc_new w (Xe e.kh e.vh);have q2:=heap_alloc_new (w.alloc (Xe e.kh e.vh)) (.cells #[Xu 0,Xu 0] 104);have q1:=(((ab (w.alloc (Xe e.kh e.vh)).heap.size (w.alloc (Xe e.kh e.vh))).alloc Ih (.cells #[Xu 0,Xu 0] 104)).block w.heap.size (by simp)).trans q1;rw[z1] at q2;have hz:((w.alloc (Xe e.kh e.vh)).alloc (.cells #[Xu 0,Xu 0] 104)).heap.size=w.heap.size+2:=by simp
 generalize hW:(w.alloc (Xe e.kh e.vh)).alloc (.cells #[Xu 0,Xu 0] 104)=W0 at*;have A1:=(ab W0.heap.size W0).alloc Ih (Xc ps t);have q3:=heap_alloc_new W0 (Xc ps t);have a9:(W0.alloc (Xc ps t)).heap.size=w.heap.size+3:=by simp[hz]
 have hi:=hx.fit.inv;have hw:=hi;have dp:S.len 0=(0,7):=fU S;have has:=kZ (h.below B0) hi hx.t1 hx.t2;obtain⟨W1,c6⟩:=Ii (W0.alloc (Xc ps t));rw[c6] at A1 q3 a9;have B1:=B0.trans (A1.mono (by omega));rw[hz] at q3;have b9:=jt hx.fit hn.blobs.lk hn.blobs.k;have bv:=iz (h.below B1) hi e.kh (Bt.blobs_lt hx.fit hn.blobs).1 (by rw[b9];simp);rw[b9] at bv;have q1:=(A1.block _ (by omega)).trans q1;have q2:=(A1.block _ (by omega)).trans q2;obtain⟨x0,x1⟩:=Fp q1;have H0:=kq7 h hx hn hr hw hi a9;have H1:=kq4 B1 q1 q2 q3;have cl:=If has;have cm:=If bv;clear z1 q1 q2 q3 B0 B1 A1 hw hi has b9 bv h hx hn hr;unfold Id;go_enter func137,ntmps137;go_wp2_with fail;refine cl.out.mono ?_;rintro en w1 ⟨rfl,rfl⟩;clear hW;go_wp2_with fail;refine cm.out.mono ?_;rintro en w2 ⟨rfl,a3⟩;clear x0 x1;have p1:=(a3.block _ (by have:=H0.g;omega)).trans H1.b;have p2:=(a3.block _ (by have:=H0.g;omega)).trans H1.c;have p3:=(a3.block _ (by have:=H0.g;omega)).trans H1.d;have b2:=H1.a.trans (a3.mono H1.a.size);obtain⟨x0,x1⟩:=Fp p3;have b4:=nQ (H0.a.below b2) H0.f H0.b.t1 H0.b.t2 0 (by omega) dp;have ee:w.heap.size+3<=w2.heap.size:=by have:=a3.size;have:=H0.g;omega
 unfold FH eC at b4;have cr:=If b4;have H2:=kq4 b2 p1 p2 p3;clear a3 p1 p2 p3 b2 b4 cm cl H1 c6;go_wp2_with fail;refine cr.out.mono ?_;rintro en w3 ⟨rfl,bs⟩;go_wp2_with fail;have A3:=(ab w3.heap.size w3).alloc Ih (.cells #[.slice none 0 0,.slice none 0 0,.slice none 0 0,Xu 0] 215);obtain⟨W3,bm⟩:=Ii (w3.alloc (.cells #[.slice none 0 0,.slice none 0 0,.slice none 0 0,Xu 0] 215));rw[bm] at A3;rw[bm];clear bm;have c3:=bs.trans (A3.mono bs.size);have p1:=(c3.block _ (by omega)).trans H2.b;have p2:=(c3.block _ (by omega)).trans H2.c;have p3:=(c3.block _ (by omega)).trans H2.d;have B3:=H2.a.trans (c3.mono H2.a.size);have eg:w.heap.size+3<=W3.heap.size:=by have:=c3.size;omega
 have b0:=fun W (hw:Below W3.heap.size W3 W)=>tT (H0.a.below (B3.trans (hw.mono B3.size))) H0.f H0.b.t1 H0.b.t2 0 (by omega) dp e.k;have bc:=nT (R:=none) (b0 W3 (ab _ _)) fun W hW=>b0 W (by rw[hW];exact(ab _ _).alloc Ih _);unfold i7 Id at bc
 dsimp only[Option.isSome] at bc
 have cn:=If bc;have H3:=kq4 B3 p1 p2 p3;clear A3 c3 p1 p2 p3 B3 b0 bc x0 x1 bs H2 cr;refine cn.out.mono ?_;rintro en w4 ⟨rfl,bt⟩;go_wp2_with fail;have A4:=(ab w4.heap.size w4).alloc Ih (.cells #[Xu 0,Xu 0] 104);obtain⟨W4,bo⟩:=Ii (w4.alloc (.cells #[Xu 0,Xu 0] 104));rw[bo] at A4;rw[bo];clear bo;have c4:=bt.trans (A4.mono bt.size);have p1:=(c4.block _ (by omega)).trans H3.b;have p2:=(c4.block _ (by omega)).trans H3.c;have p3:=(c4.block _ (by omega)).trans H3.d;have B4:=H3.a.trans (c4.mono H3.a.size);have d1:w.heap.size+3<=W4.heap.size:=by have:=c4.size;omega
 have cj:=H0.a.wide B4;have a6:=fun W (_:Below W4.heap.size W4 W)=>zO W ps t e.k;have a5:=fun W (hw:Below W4.heap.size W4 W)=>tU (cj.below hw) H0.b.fit H0.b.t1 H0.b.t2 1 (by omega) H0.d;unfold FH at a6 a5;have a6:=If a6;have a5:=If a5;have H4:=kq5 B4 p1 p2 p3 cj;clear A4 c4 p1 p2 p3 B4 cj bt H3 cn;obtain⟨I,al,ar⟩:=ic fun w'=>w'.heap[w.heap.size+2]?=W4.heap[w.heap.size+2]?;have a9:=fun x:Fq I=>(al _ x.ok).trans H4.d;obtain⟨r0,r1⟩:=fw a9;have ba:I W4.drew:=ar _ rfl;have bj:=If ar;clear al ar a9;refine fh I (.take 0 (.take 1 (.take 2 (.take 3 (.go 4 (.go 5 (.take 6 (.take 7 (.take 8 (.go 9 (.go 10 .nil))))))))))) (by kernel_rfl) (by kernel_rfl) ba ?_
 iterate 4
  refine' pT ?_ ?_;rotate_left
  ·intro x;go_simp
   try rfl
  try simp only[pu]
 refine pD fun K hK=>?_;go_simp;refine(a6.out _ (ab _ W4).drew).mono ?_;rintro en w5 ⟨rfl,bu⟩;have cw:I w5:=bj.out _ (bu.block _ d1);have B5:=(ab W4.heap.size W4).drew.trans bu;have a4:=If B5;clear bu B5
 try go_simp
 refine hK.out _ _ cw ?_;clear hK K
 try simp only[pu]
 refine pD fun K hK=>?_;go_simp;refine(a5.out _ a4.out).mono ?_;rintro en w6 ⟨rfl,S1,o1,v6,L,d9,cc,d7,f6,c5,d8,ds,au,dk⟩;have bb:I w6:=bj.out _ ((cc.block _ (ae ⟨by omega,by omega⟩)).trans (a4.out.block _ d1));have H6:=kq9 d9 cc d7 f6 c5 d8 ds au dk;clear d9 cc d7 f6 c5 d8 ds au dk
 try go_simp
 refine hK.out _ _ bb ?_;clear hK K
 try simp only[pu]
 iterate 3
  refine' pT ?_ ?_;rotate_left
  ·intro x;go_simp
   try rfl
  try simp only[pu]
 refine pD fun K hK=>?_;go_simp
 try go_simp
 refine hK.out _ _ bb ?_;clear hK K
 try simp only[pu]
 refine pD fun K hK=>?_;go_simp
 try go_simp
 refine hK.out _ _ bb ?_;clear hK K
 try simp only[pu]
 refine eP ?_;have k6:∀k,w.heap.size<=k->k<W4.heap.size->w6.heap[k]?=W4.heap[k]?:=fun k h1 h2=>(H6.b.block k (ae ⟨h1,h2⟩)).trans (a4.out.block k h2);have p1:=(k6 w.heap.size (by omega) (by omega)).trans H4.b;have p2:=(k6 (w.heap.size+1) (by omega) (by omega)).trans H4.c;have bf:=H0.a.yl;have eh:=a4.out.size;have ek:=H6.b.size;have kY:Fo Y w w6:=((Fo.of_below H4.a bf).trans (Fo.of_below a4.out fun k hk=>by have:=bf k hk;omega)).trans (H6.b.mono fun k hk=>aa hk);have bk:=H6.e;obtain⟨rr,eb⟩:∃rr,L=[]++[rr]:=by
  cases L with
  | nil=>simp at bk
  | cons a l=>
   cases l with
   | nil=>exact⟨a,rfl⟩
   | cons b l=>simp at bk
 subst eb;obtain⟨ws,bd,cb⟩:=H6.f.recs rr (by simp);have a8:=H6.g rr (by simp);have b':rr≠e.kh:=fun q=>by have:=H0.c.blobs.k;rw[<-q,a8] at this;cases this
 have ca:rr≠e.vh:=fun q=>by have:=H0.c.blobs.v;rw[<-q,a8] at this;cases this
 have au:∀z,z≠rr->reco S1 z=reco S z:=fun z hz=>H6.h z (by simpa using hz);have c8:Bt.Empty S1 o1 t:=⟨H6.d,H0.b.t1,H0.b.t2⟩;have dc:Bt.First S1 e:=⟨H0.c.blobs.frame (au _ (Ne.symm b')) (au _ (Ne.symm ca)),H0.c.ne⟩;obtain⟨ok,c7,d3,c',dn⟩:=Bt.first_tree c8 dc bd cb b' ca;have hA:∀(W:World) (b1 b2:Nat),Below w6.heap.size w6 W->w6.heap.size<=b1->w6.heap.size<=b2->W.heap[b1]?=some (.cells #[Xu e.kh] 61 (0,0))->W.heap[b2]?=some (.cells #[Xu e.vh] 61 (0,0))->
  Ct 214 #[.agg #[.slice (some ⟨b1,0,none⟩) 1 1,.slice (some ⟨b2,0,none⟩) 1 1,.slice none 0 0,Xu 1],PV (w5.heap.size+1),PV w5.heap.size] W fun en w'=>en=.returned (Xu rr)/\∃v',Ig w' ps (FC S1 rr 0 (bnWords t (Bt.bn (Bt.leafOf rr e)))) (fun k=>(Y k\/(w.heap.size<=k/\k<W4.heap.size))\/iJ w5.heap.size (w5.heap.size+1) v6 k)/\Fo (fun k=>((Y k\/(w.heap.size<=k/\k<W4.heap.size))\/iJ w5.heap.size (w5.heap.size+1) v6 k)/\k≠w5.heap.size+1) W w'/\gz w' w5.heap.size (w5.heap.size+1) (w5.heap.size+2) ps t v' []/\v'.ownBlock=v6.ownBlock:=by
  intro W b1 b2 hB g1 g2 e1 e2;have em:w5.heap.size+2<=w6.heap.size:=by
   have h1:=(gl H6.c.box);omega
  have d0:∀(b k:Nat),W.heap[b]?=some (.cells #[Xu k] 61 (0,0))->FD W (.slice (some ⟨b,0,none⟩) 1 1) [k]:=fun b k hb=>⟨_,1,rfl,fun i hi=>⟨b,0,rfl,by
   have hi:i=0:=by simp at hi;exact hi
   subst hi;rw[cell_of_block hb]
   rfl⟩⟩
  have ea:FD W (.slice none 0 0) []:=⟨none,0,rfl,fun i hi=>absurd hi (by simp)⟩;have d':S1.len rr=(6*t,0):=by rw[jw H6.d.tab bd,cb]
  have dv:∀{b n c:Nat},w6.heap.size<=b->∀g,(Value.slice (some ⟨b,0,none⟩) n c).ownBlock=some g->g≠w5.heap.size+1:=fun hb g hg q=>by
   have hg:=Option.some.inj hg;simp only at hg;omega
  have d2:=pZ (n:=Bt.bn (Bt.leafOf rr e)) (vk:=.slice (some ⟨b1,0,none⟩) 1 1) (vv:=.slice (some ⟨b2,0,none⟩) 1 1) (vc:=.slice none 0 0) (H6.a.below hB) H6.d.inv (H6.c.keeps fun k hk=>hB.block k (H6.a.yl k (ae hk))) (ae (ae (aa rfl))) (ae (aa rfl)) (fun b hb=>ae (ae (ae hb))) (by simp) (Bt.bnok_of H6.d H0.b.t1 H0.b.t2 (fun k hk=>by have hk:k∈([]:List (Bt 0)):=hk;simp at hk) ok) (d0 b1 _ e1) (d0 b2 _ e2) ea (dv g1) (dv g2) (fun g hg=>nomatch hg) (fL H6.d bd).2.1 d' (kX (t:=t) c7 (by show 1<_;omega));unfold eC at d2;exact d2
 have cv:Bt.Tree (FC S1 rr 0 (bnWords t (Bt.bn (Bt.leafOf rr e)))) o1 t (Bt.leafOf rr e)/\Bt.its (Bt.leafOf rr e)=[e]/\(∀z∈Bt.nodes (Bt.leafOf rr e),reco S z=none)/\(∀z,reco S z≠none->reco (FC S1 rr 0 (bnWords t (Bt.bn (Bt.leafOf rr e)))) z=reco S z)/\ej S (FC S1 rr 0 (bnWords t (Bt.bn (Bt.leafOf rr e)))) 2 1:=by
  refine⟨d3,Bt.its_leaf _,fun z hz=>?_,fun z hz=>?_,(H6.i.trans dn).mono (by omega) (by omega)⟩
  ·have hz:z∈ [rr]:=hz;rw[aS.1 hz];exact a8
  ·have d6:z≠rr:=fun q=>hz (q▸a8);exact(c' z d6).trans (au z d6)
 have HA:=If hA;have cp:=If cv;have ed:=(gl p2);have HK:=kq4 kY p2 p1 bf;obtain⟨x0,x1⟩:=Fp p1;clear bk bd cb a8 b' ca au c8 dc ok c7 d3 c' dn hA cv kY p1 p2 k6 bf r0 r1 a6 a5 bj ba cw bb;go_wp2_with fail;obtain⟨I,al,ar⟩:=ic fun w'=>w'.heap[w.heap.size]?=some (.cells #[Xu e.kh,Xu e.vh] 104 (0,0))/\w'.heap[w.heap.size+1]?=some (.cells #[Xu 0,Xu 0] 104 (0,0));have d4:=fun x:Fq I=>(al _ x.ok).1;have d5:=fun x:Fq I=>(al _ x.ok).2;obtain⟨s0,s1⟩:=fw d4;obtain⟨r0,r1⟩:=fw d5;have hJ:∀W,Below w6.heap.size w6 W->I W:=fun W hB=>ar _ ⟨(hB.block _ (by omega)).trans HK.c,(hB.block _ (by omega)).trans HK.b⟩;have ba:I w6.drew:=hJ _ (ab _ w6).drew;have cx:∀W w',Below w6.heap.size w6 W->Fo (fun k=>((Y k\/(w.heap.size<=k/\k<W4.heap.size))\/iJ w5.heap.size (w5.heap.size+1) v6 k)/\k≠w5.heap.size+1) W w'->I w':=fun W w' hB hk=>by
  have h1:=al _ (hJ W hB);exact ar _ ⟨(hk.block _ ⟨aa (ae ⟨by omega,by omega⟩),by omega⟩).trans h1.1,(hk.block _ ⟨aa (ae ⟨by omega,by omega⟩),by omega⟩).trans h1.2⟩
 have a2:∀w',I w'->I ((w'.setCell ⟨w.heap.size+1,0,none⟩ (Xu 0)).setCell ⟨w.heap.size+1,1,none⟩ (Xu 0)):=fun w' hi=>ar _ ⟨((FB (by omega)).trans (FB (by omega))).trans (al _ hi).1,heap_setCell (i:=1) (v:=Xu 0) (heap_setCell (i:=0) (v:=Xu 0) (al _ hi).2)⟩;have HJ:=If hJ;have cs:=If al;clear d4 d5 al ar x0 x1;refine fh I (.take 0 (.take 1 (.take 2 (.take 4 (.take 5 (.take 9 (.two 3 6 (.go 6 (.take 7 (.go 8 (.go 10 (.go 11 (.go 12 (.go 13 .nil))))))) (.go 3 (.take 7 (.go 8 (.go 10 (.go 11 (.go 12 (.go 13 .nil)))))))))))))) (by kernel_rfl) (by kernel_rfl) ba ?_
 iterate 6
  refine' pT ?_ ?_;rotate_left
  ·intro x;go_simp
   try rfl
  try simp only[pu]
 clear s0 s1 r0 r1;refine gL ?_ ?_
 ·have T4:=xP w6 (Xf (e.kh:Nat)) (Xf (e.vh:Nat));refine pD fun K hK=>?_;go_simp
  try go_simp
  refine hK.out _ _ (HJ.out _ T4.1) ?_;clear hK K
  try simp only[pu]
  refine pD fun K hK=>?_;go_simp
  try go_simp
  refine hK.out _ _ (HJ.out _ T4.2.1) ?_;clear hK K
  try simp only[pu]
  refine' pT ?_ ?_;rotate_left
  ·intro x;go_simp
   try rfl
  try simp only[pu]
  refine pD fun K hK=>?_;go_simp;refine(HA.out _ w6.heap.size (w6.heap.size+1) T4.2.1 (by omega) (by omega) T4.2.2.1 T4.2.2.2).mono ?_;exact qBuab
 ·have T4:=xP w6 (Xf (e.vh:Nat)) (Xf (e.kh:Nat));refine pD fun K hK=>?_;go_simp
  try go_simp
  refine hK.out _ _ (HJ.out _ T4.1) ?_;clear hK K
  try simp only[pu]
  refine pD fun K hK=>?_;go_simp
  try go_simp
  refine hK.out _ _ (HJ.out _ T4.2.1) ?_;clear hK K
  try simp only[pu]
  refine' pT ?_ ?_;rotate_left
  ·intro x;go_simp
   try rfl
  try simp only[pu]
  refine pD fun K hK=>?_;go_simp;refine(HA.out _ (w6.heap.size+1) w6.heap.size T4.2.1 (by omega) (by omega) T4.2.2.2 T4.2.2.1).mono ?_;exact qBuab