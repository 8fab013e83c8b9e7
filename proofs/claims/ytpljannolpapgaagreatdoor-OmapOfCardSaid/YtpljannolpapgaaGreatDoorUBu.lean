/- B-trees: insert: what its walk comes to between. -/
import Derived.Test.YtpljannolpapgaaGreatDoorUYg
set_option maxRecDepth 100000
set_option maxHeartbeats 6400000
namespace Go.Proofs.YtpljannolpapgaaGreatDoor
section
open Go.RowKit Tryz Go.BigFrame Go.Maps Go.WideMaps Lf Tr
open Go.Shelf
structure eH (w:World) (ps:Nat) (Z:Nat->Prop) (bt bl D t:Nat) (v:Value) (bN:Nat) (wc:World) (S':St) (Y:Nat->Prop) (v':Value) (L':List Nat) (vk vv vc:Value) (sz:Nat) (ks vs cs:List Nat):Prop where
 st:Ig wc ps S' Y
 zy:∀k,Z k->Y k
 zl:∀k,Z k->k<w.1.size
 zs:Z bl/\Z bt/\∀b,v.ownBlock=some b->Z b
 B_:Fo (fun k=>Z k/\k≠bl) w wc
 sp:gz wc bt bl D ps t v' L'
 own:v'.ownBlock=v.ownBlock
 box:wc.1[bN]?=some (.cells #[vk,vv,vc,Xu sz] 215 (0,0))
 rows:fN wc (w.1.size+3) vk vv vc ks vs cs
 yb:Y bN/\Y w.1.size/\Y (w.1.size+2)
 yk:∀g,(vk.ownBlock=some g\/vv.ownBlock=some g\/vc.ownBlock=some g)->Y g
 tree:wc.1[w.1.size]?=some (.cells #[PV ps,Xi t] 145 (0,0))
 res:wc.1[w.1.size+2]?=some (.cells #[.bool false,Xu 0,Xu 0,Xu 0] 274 (0,0))
 at3:w.1.size+3<=bN
theorem gz.keeps {w w':World}{bt bl D ps t:Nat}{v:Value}{L:List Nat}(h:gz w bt bl D ps t v L)(e:∀k,iJ bt bl v k->w'.1[k]?=w.1[k]?):gz w' bt bl D ps t v L:=
 ⟨(e bl (ae (ab rfl))).T h.box,(e bt (ab rfl)).T h.tree,h.row.at fun g hg=>e g (ae (ae hg)),h.lo⟩
section
variable {w wc wc':World}{ps:Nat}{Z:Nat->Prop}{bt bl D t:Nat}{v:Value}{bN:Nat}{S' S2:St}{Y Y':Nat->Prop}{v' v2:Value}{L' L2:List Nat}{vk vv vc uk uv uc:Value}{sz sz':Nat}{ks vs cs ks' vs' cs':List Nat}
theorem eH.ne(h:eH w ps Z bt bl D t v bN wc S' Y v' L' vk vv vc sz ks vs cs):vk.ownBlock≠some bN/\vv.ownBlock≠some bN/\vc.ownBlock≠some bN:=by
 have hb:=h.box;refine⟨fun q=>?_,fun q=>?_,fun q=>?_⟩
 ·obtain⟨cs,fr,e⟩:=(h.rows.k.block q).2.2
  grind
 ·obtain⟨cs,fr,e⟩:=(h.rows.v.block q).2.2
  grind
 ·obtain⟨cs,fr,e⟩:=(h.rows.c.block q).2.2
  grind
theorem eH.lt(h:eH w ps Z bt bl D t v bN wc S' Y v' L' vk vv vc sz ks vs cs):bN<wc.1.size:=(gl h.box)
theorem eH.spz(h:eH w ps Z bt bl D t v bN wc S' Y v' L' vk vv vc sz ks vs cs):∀k,iJ bt bl v' k->Z k:=fun k hk=>by
 rcases hk with rfl | rfl | hk
 ·exact h.zs.2.1
 ·exact h.zs.1
 ·exact h.zs.2.2 k (by rw[<-h.own];exact hk)
theorem eH.move(h:eH w ps Z bt bl D t v bN wc S' Y v' L' vk vv vc sz ks vs cs)(st:Ig wc' ps S2 Y')(hy:∀k,Y k->Y' k)(kp:Fo (fun k=>(Z k/\k≠bl)\/k=w.1.size\/k=w.1.size+2) wc wc')(sp:gz wc' bt bl D ps t v2 L2)(own:v2.ownBlock=v.ownBlock)
 (box:wc'.1[bN]?=some (.cells #[uk,uv,uc,Xu sz'] 215 (0,0))) (rows:fN wc' (w.1.size+3) uk uv uc ks' vs' cs') (yk:∀g,(uk.ownBlock=some g\/uv.ownBlock=some g\/uc.ownBlock=some g)->Y' g):eH w ps Z bt bl D t v bN wc' S2 Y' v2 L2 uk uv uc sz' ks' vs' cs':=
 ⟨st,fun k hk=>hy k (h.zy k hk),h.zl,h.zs,h.B_.T (kp.M fun _ hk=>ab hk),sp,own,box,rows,⟨hy _ h.yb.1,hy _ h.yb.2.1,hy _ h.yb.2.2⟩,yk,(kp.block _ (ae (ab rfl))).T h.tree,(kp.block _ (ae (ae rfl))).T h.res,h.at3⟩
theorem eH.a_(h:eH w ps Z bt bl D t v bN wc S' Y v' L' vk vv vc sz ks vs cs)(hb:D_ wc wc'):eH w ps Z bt bl D t v bN wc' S' (fun k=>Y k\/(wc.1.size<=k/\k<wc'.1.size)) v' L' vk vv vc sz ks vs cs:=by
 have ad:=h.st.yl;have ai:=h.B_.size;refine h.move (h.st.wide hb) (fun k hk=>ab hk) (Fo.A_ hb fun k hk=>?_) (h.sp.keeps fun k hk=>hb.block k (ad k (h.zy k (h.spz k hk)))) h.own ((hb.block bN h.lt).T h.box) (h.rows.a_ hb) fun g hg=>ab (h.yk g hg)
 rcases hk with hk | rfl | rfl
 ·exact ad k (h.zy k hk.1)
 ·exact ad _ h.yb.2.1
 ·exact ad _ h.yb.2.2
end
structure gQ (w:World) (ps:Nat) (S:St) (o:Nat->Nat) (Z:Nat->Prop) (bt bl D t:Nat) (v:Value) (L:List Nat) {d:Nat} (x:Bt (d+1)) (e:It) (bN:Nat) (wc:World) (S':St) (Y:Nat->Prop) (v':Value) (L' U:List Nat) (x':Bt (d+1)) (vk vv vc:Value):Prop where
 held:eH w ps Z bt bl D t v bN wc S' Y v' L' vk vv vc (Bt.its x).length (Bt.bn x').i_ (Bt.bn x').F4 (Bt.bn x').C_
 sum:L=L'++U
 mid:Bt.Mid S S' o t x e U x'
 num:U.length+(if(Bn.es x').length=2*t then 1 else 0)=Bt.trail (Bt.G0 t e.k x)
 all:decide ((Bn.es x').length=2*t)=(Bt.G0 t e.k x).all id
theorem fD.drew {w0 w:World}{B ps:Nat}{S:St}{Y:Nat->Prop}{v1 v2 u1 u2:Value}{m1 m2:List Nat}(h:fD w0 w B ps S Y v1 v2 u1 u2 m1 m2):fD w0 w.drew B ps S Y v1 v2 u1 u2 m1 m2:=h.a_ (aa _ w).drew
theorem fD.one {w0 w:World}{B ps:Nat}{S:St}{Y:Nat->Prop}{v1 v2 u1 u2:Value}{m1 m2:List Nat}(h:fD w0 w B ps S Y v1 v2 u1 u2 m1 m2)(x:Nat):fD w0 (w.alloc (Xf x)) B ps S Y v1 v2 u1 u2 m1 m2/\(w.alloc (Xf x)).1[w.1.size]?=some (.cells #[Xu x] 61 (0,0))/\u1.ownBlock≠some w.1.size/\u2.ownBlock≠some w.1.size/\w.1.size<(w.alloc (Xf x)).1.size/\D_ w (w.alloc (Xf x)):=
 ⟨h.a_ ((aa _ w).alloc Ih _),heap_alloc_new w _,fun q=>by have:=(h.own1.block q).2.1;omega,fun q=>by have:=(h.own2.block q).2.1;omega,s_,(aa _ w).alloc Ih _⟩
theorem fD.done {w0 w:World}{B ps:Nat}{S:St}{Y:Nat->Prop}{v1 v2 u1 u2:Value}{m1 m2:List Nat}(T:fD w0 w B ps S Y v1 v2 u1 u2 m1 m2){bN sz:Nat}{vc:Value}(hN:w0.1[bN]?=some (.cells #[v1,v2,vc,Xu sz] 215 (0,0)))(yN:Y bN)(n1:v1.ownBlock≠some bN)(n2:v2.ownBlock≠some bN):
 w.1[bN]?=some (.cells #[v1,v2,vc,Xu sz] 215 (0,0))/\(w.setCell (y_ bN) u1).1[bN]?=some (.cells #[u1,v2,vc,Xu sz] 215 (0,0))/\∀w',w'=(w.setCell (y_ bN) u1).setCell (x_ bN 1) u2->w'.1[bN]?=some (.cells #[u1,u2,vc,Xu sz] 215 (0,0))/\FE w' B u1 m1/\FE w' B u2 m2/\Ig w' ps S (fun k=>Y k\/(w0.1.size<=k/\k<w.1.size))/\Fo (fun k=>k<w0.1.size/\v1.ownBlock≠some k/\v2.ownBlock≠some k/\k≠bN) w0 w'/\w'.1.size=w.1.size:=by
 have an:bN<w0.1.size:=(gl hN);have e0:=(T.B_.block bN ⟨an,n1,n2⟩).T hN;have e1:(w.setCell (y_ bN) u1).1[bN]?=some (.cells #[u1,v2,vc,Xu sz] 215 (0,0)):=heap_setCell (i:=0) (v:=u1) e0;have e2:((w.setCell (y_ bN) u1).setCell (x_ bN 1) u2).1[bN]?=some (.cells #[u1,u2,vc,Xu sz] 215 (0,0)):=heap_setCell (i:=1) (v:=u2) e1;have ad:∀k,k≠bN->((w.setCell (y_ bN) u1).setCell (x_ bN 1) u2).1[k]?=w.1[k]?:=fun k hk=>(FB hk).T (FB hk);have q1:∀g,u1.ownBlock=some g->g≠bN:=fun g hg q=>by
  rcases T.p1 with e | ⟨g',e,ai⟩
  ·rw[e] at hg;exact n1 (hg.T (q▸rfl))
  grind
 have q2:∀g,u2.ownBlock=some g->g≠bN:=fun g hg q=>by
  rcases T.p2 with e | ⟨g',e,ai⟩
  ·rw[e] at hg;exact n2 (hg.T (q▸rfl))
  grind
 refine⟨e0,e1,?_⟩;rintro w' rfl;refine⟨e2,T.own1.at fun g hg=>ad g (q1 g hg),T.own2.at fun g hg=>ad g (q2 g hg),?_,?_,s_⟩
 ·exact T.st.write (b:=bN) (ab yN) e0 ⟨d_,d_⟩ s_ s_ fun k _ hk=>ad k hk
 ·exact((T.B_.M fun k hk=>⟨hk.1,hk.2.1,hk.2.2.1⟩).T (Fo.mark fun b hb=>hb.2.2.2)).T (Fo.mark fun b hb=>hb.2.2.2)
section
variable {w wc wc':World}{ps:Nat}{Z:Nat->Prop}{bt bl D t:Nat}{v:Value}{bN:Nat}{S' S2:St}{Y Y':Nat->Prop}{v' v2:Value}{L' L2:List Nat}{vk vv vc uk uv uc:Value}{sz sz':Nat}{ks vs cs ks' vs' cs':List Nat}
theorem eH.two(h:eH w ps Z bt bl D t v bN wc S' Y v' L' vk vv vc sz ks vs cs):fD wc wc (w.1.size+3) ps S' Y vk vv vk vv ks vs:=fD.start h.st h.rows.k h.rows.v h.rows.kv (fun g hg=>h.yk g (ab hg)) fun g hg=>h.yk g (ae (ab hg))
theorem qBuac{P:Prop}(h:P:=by
 rcases hk with hk | rfl | rfl
 ·have:=h.zl k hk.1;omega
 ·omega
 omega):P:=h
theorem eH.grow(h:eH w ps Z bt bl D t v bN wc S' Y v' L' vk vv vc sz ks vs cs)(T:fD wc wc' (w.1.size+3) ps S' Y vk vv uk uv ks' vs'):
 wc'.1[bN]?=some (.cells #[vk,vv,vc,Xu sz] 215 (0,0))/\(wc'.setCell (y_ bN) uk).1[bN]?=some (.cells #[uk,vv,vc,Xu sz] 215 (0,0))/\eH w ps Z bt bl D t v bN ((wc'.setCell (y_ bN) uk).setCell (x_ bN 1) uv) S' (fun k=>Y k\/(wc.1.size<=k/\k<wc'.1.size)) v' L' uk uv vc sz ks' vs' cs:=by
 have au:=h.st.yl;have ap:=h.B_.size;have hl:=h.lt;have h3:=h.at3;obtain⟨a0,a1,a2⟩:=T.done h.box h.yb.1 h.ne.1 h.ne.2.1;refine⟨a0,a1,?_⟩;obtain⟨b1,b2,b3,b4,b5,b6⟩:=a2 _ rfl;have an:∀g,(vk.ownBlock=some g\/vv.ownBlock=some g\/vc.ownBlock=some g)->w.1.size+3<=g/\g<wc.1.size:=fun g hg=>by
  rcases hg with hg | hg | hg
  ·exact⟨(h.rows.k.block hg).1,(h.rows.k.block hg).2.1⟩
  ·exact⟨(h.rows.v.block hg).1,(h.rows.v.block hg).2.1⟩
  ·exact⟨(h.rows.c.block hg).1,(h.rows.c.block hg).2.1⟩
 have kz:∀k,k<w.1.size+3->k<wc.1.size/\vk.ownBlock≠some k/\vv.ownBlock≠some k/\k≠bN:=fun k hk=>⟨o_,fun q=>by grind,fun q=>by grind,o_⟩;have ad:∀{u u0:Value},(u.ownBlock=u0.ownBlock\/∃g,u.ownBlock=some g/\wc.1.size<=g)->(∀g,u0.ownBlock=some g->vc.ownBlock≠some g)->∀g,u.ownBlock=some g->vc.ownBlock≠some g:=fun hu ha g hg q=>by
  grind
 refine h.move b4 (fun k hk=>ab hk) (b5.M fun k hk=>kz k ?_) (h.sp.keeps fun k hk=>b5.block k (kz k (by have:=h.zl k (h.spz k hk);omega))) h.own b1 ⟨b2,b3,?_,T.apart,ad T.p1 h.rows.kc,ad T.p2 h.rows.vc⟩ fun g hg=>?_
 ·exact qBuac
 ·refine h.rows.c.at fun g hg=>b5.block g ⟨(an g (ae (ae hg))).2,fun q=>h.rows.kc g q hg,fun q=>h.rows.vc g q hg,fun q=>h.ne.2.2 (q▸hg)⟩
 ·have ar:=b6
  rcases hg with hg | hg | hg
  ·rcases T.p1 with e | ⟨g',e,ai⟩
   ·exact ab (h.yk g (ab (e▸hg)))
   ·exact ae ⟨by grind,(T.own1.block hg).2.1⟩
  ·rcases T.p2 with e | ⟨g',e,ai⟩
   ·exact ab (h.yk g (ae (ab (e▸hg))))
   ·exact ae ⟨by grind,(T.own2.block hg).2.1⟩
  ·exact ab (h.yk g (ae (ae hg)))
theorem eH.grow3(h:eH w ps Z bt bl D t v bN wc S' Y v' L' vk vv vc sz ks vs cs)(I:kG wc wc' (w.1.size+3) ps S' Y vc uc cs'):
 wc'.1[bN]?=some (.cells #[vk,vv,vc,Xu sz] 215 (0,0))/\eH w ps Z bt bl D t v bN (wc'.setCell (x_ bN 2) uc) S' (fun k=>Y k\/(wc.1.size<=k/\k<wc'.1.size)) v' L' vk vv uc sz ks vs cs':=by
 have au:=h.st.yl;have ar:=h.B_.size;have hl:=h.lt;have h3:=h.at3;have e0:=(I.v_ hl h.ne.2.2).T h.box;refine⟨e0,?_⟩;have ap:=fun g (hg:vc.ownBlock=some g)=>h.rows.c.block hg;have an:∀k,k<wc.1.size->k≠bN->vc.ownBlock≠some k->(wc'.setCell (x_ bN 2) uc).1[k]?=wc.1[k]?:=fun k hk h1 h2=>(FB h1).T (I.v_ hk h2);have kz:∀k,k<w.1.size+3->(wc'.setCell (x_ bN 2) uc).1[k]?=wc.1[k]?:=fun k hk=>an k o_ o_ fun q=>by grind
 have ai:∀k,((Z k/\k≠bl)\/k=w.1.size\/k=w.1.size+2)->k<wc.1.size/\vc.ownBlock≠some k/\k≠bN:=fun k hk=>by
  have:k<w.1.size+3:=by
   rcases hk with hk | rfl | rfl
   ·have:=h.zl k hk.1;omega
   ·omega
   ·omega
  grind
 have n3:∀g,uc.ownBlock=some g->g≠bN:=fun g hg q=>by
  rcases I.at' with e | ⟨g',e,ad⟩
  ·rw[e] at hg;exact h.ne.2.2 (hg.T (q▸rfl))
  grind
 refine h.move (I.st.write (b:=bN) (ab h.yb.1) e0 ⟨d_,d_⟩ s_ s_ fun k _ hk=>FB hk) (fun k hk=>ab hk) (Fo.T (b:=wc') ⟨I.grown.os,I.grown.tape,I.grown.output,I.grown.size,fun k hk=>I.v_ (ai k hk).1 (ai k hk).2.1⟩ (Fo.mark fun k hk=>(ai k hk).2.2)) (h.sp.keeps fun k hk=>kz k (by have:=h.zl k (h.spz k hk);omega)) h.own (heap_setCell (i:=2) (v:=uc) e0) ⟨?_,?_,I.own.at fun g hg=>FB (n3 g hg),h.rows.kv,fun g hg q=>?_,fun g hg q=>?_⟩ fun g hg=>?_
 ·exact h.rows.k.at fun g hg=>an g (h.rows.k.block hg).2.1 (fun q=>h.ne.1 (q▸hg)) (h.rows.kc g hg)
 ·exact h.rows.v.at fun g hg=>an g (h.rows.v.block hg).2.1 (fun q=>h.ne.2.1 (q▸hg)) (h.rows.vc g hg)
 ·rcases I.at' with e | ⟨g',e,ad⟩
  ·exact h.rows.kc g hg (e▸q)
  ·rw[e] at q;have q:g'=g:=Option.some.inj q;have:=(h.rows.k.block hg).2.1;omega
 ·rcases I.at' with e | ⟨g',e,ad⟩
  ·exact h.rows.vc g hg (e▸q)
  ·rw[e] at q;have q:g'=g:=Option.some.inj q;have:=(h.rows.v.block hg).2.1;omega
 ·rcases hg with hg | hg | hg
  ·exact ab (h.yk g (ab hg))
  ·exact ab (h.yk g (ae (ab hg)))
  ·rcases I.at' with e | ⟨g',e,ad⟩
   ·exact ab (h.yk g (ae (ae (e▸hg))))
   ·exact ae ⟨by grind,(I.own.block hg).2.1⟩
theorem eH.size(h:eH w ps Z bt bl D t v bN wc S' Y v' L' vk vv vc sz ks vs cs)(n:Nat):eH w ps Z bt bl D t v bN (wc.setCell (x_ bN 3) (Xu n)) S' Y v' L' vk vv vc n ks vs cs:=by
 have hl:=h.lt;have h3:=h.at3;have ad:∀k,k≠bN->(wc.setCell (x_ bN 3) (Xu n)).1[k]?=wc.1[k]?:=fun k h1=>FB h1;refine h.move (h.st.write (b:=bN) h.yb.1 h.box ⟨d_,d_⟩ s_ s_ fun k _ hk=>FB hk) (fun k hk=>hk) (Fo.mark fun k hk=>?_) (h.sp.keeps fun k hk=>ad k (by have:=h.zl k (h.spz k hk);omega)) h.own (heap_setCell (i:=3) (v:=Xu n) h.box) ⟨?_,?_,?_,h.rows.kv,h.rows.kc,h.rows.vc⟩ h.yk
 ·exact qBuac
 ·exact h.rows.k.at fun g hg=>ad g fun q=>h.ne.1 (q▸hg)
 ·exact h.rows.v.at fun g hg=>ad g fun q=>h.ne.2.1 (q▸hg)
 ·exact h.rows.c.at fun g hg=>ad g fun q=>h.ne.2.2 (q▸hg)
theorem eH.kid(h:eH w ps Z bt bl D t v bN wc S' Y v' L' vk vv vc sz ks vs cs)(st:Ig wc' ps S2 Y)(kp:Fo (fun k=>Y k/\k≠bl) wc wc')(sp:gz wc' bt bl D ps t v2 L2)(own:v2.ownBlock=v'.ownBlock):eH w ps Z bt bl D t v bN wc' S2 Y v2 L2 vk vv vc sz ks vs cs:=by
 have ad:=h.zl bl h.zs.1;have h3:=h.at3;have q:=h.yk;have row:∀g,(vk.ownBlock=some g\/vv.ownBlock=some g\/vc.ownBlock=some g)->w.1.size+3<=g->wc'.1[g]?=wc.1[g]?:=fun g hg hg3=>kp.block g ⟨h.yk g hg,o_⟩;refine h.move st (fun k hk=>hk) (kp.M fun k hk=>?_) sp (own.T h.own) ((kp.block bN ⟨h.yb.1,o_⟩).T h.box) ⟨?_,?_,?_,h.rows.kv,h.rows.kc,h.rows.vc⟩ h.yk
 ·rcases hk with hk | rfl | rfl
  ·exact⟨h.zy k hk.1,hk.2⟩
  ·exact⟨h.yb.2.1,o_⟩
  ·exact⟨h.yb.2.2,o_⟩
 ·exact h.rows.k.at fun g hg=>row g (ab hg) (h.rows.k.block hg).1
 ·exact h.rows.v.at fun g hg=>row g (ae (ab hg)) (h.rows.v.block hg).1
 ·exact h.rows.c.at fun g hg=>row g (ae (ae hg)) (h.rows.c.block hg).1
end
namespace Bt
variable{U:List Nat}{d:Nat}{e:It}{k:Nat}
theorem leafPut_bn(x:Bt (d+1))(e:It):(bn (leafPut x e)).i_=(bn x).i_.take (Fr e.k (Bn.es x))++e.kh::(bn x).i_.drop (Fr e.k (Bn.es x))/\(bn (leafPut x e)).F4=(bn x).F4.take (Fr e.k (Bn.es x))++e.vh::(bn x).F4.drop (Fr e.k (Bn.es x))/\(bn (leafPut x e)).C_=(bn x).C_:=by
 refine⟨?_,?_,rfl⟩
 ·show ((Bn.es x).take _++e::(Bn.es x).drop _).map _=((Bn.es x).map _).take _++e.kh::((Bn.es x).map _).drop _
  simp_all
 ·show ((Bn.es x).take _++e::(Bn.es x).drop _).map _=((Bn.es x).map _).take _++e.vh::((Bn.es x).map _).drop _
  simp_all
theorem Ci(x:Bt (d+1))(e:It):(Bn.es (leafPut x e)).length=(Bn.es x).length+1:=lg (kH _) e
theorem BR(x:Bt (d+1))(e:It)(y1:Bt d)(m:It)(y2:Bt d):(Bn.es (ja x (Fr e.k (Bn.es x)) y1 m y2)).length=(Bn.es x).length+1:=lg (kH _) m
theorem kidPut_bn(x:Bt (d+1))(k:Nat)(hk:k<(Bn.ks x).length){y:Bt d}(hy:hd y=hd (Bn.ks x)[k]):(bn (ju x k y)).i_=(bn x).i_/\(bn (ju x k y)).F4=(bn x).F4/\(bn (ju x k y)).C_=(bn x).C_:=by
 refine⟨rfl,rfl,?_⟩
 show ((Bn.ks x).set k y).map hd=(Bn.ks x).map hd
 grind [List.map_set,hd,List.length_map,List.set_getElem_self]
theorem kidSplit_bn(x:Bt (d+1))(k:Nat)(hk:k<(Bn.ks x).length){y1 y2:Bt d}(m:It)(hy:hd y1=hd (Bn.ks x)[k]):(bn (ja x k y1 m y2)).i_=(bn x).i_.take k++m.kh::(bn x).i_.drop k/\(bn (ja x k y1 m y2)).F4=(bn x).F4.take k++m.vh::(bn x).F4.drop k/\(bn (ja x k y1 m y2)).C_=(bn x).C_.take (k+1)++hd y2::(bn x).C_.drop (k+1):=by
 refine⟨?_,?_,?_⟩
 ·show ((Bn.es x).take _++m::(Bn.es x).drop _).map _=((Bn.es x).map _).take _++m.kh::((Bn.es x).map _).drop _
  simp_all
 ·show ((Bn.es x).take _++m::(Bn.es x).drop _).map _=((Bn.es x).map _).take _++m.vh::((Bn.es x).map _).drop _
  simp_all
 ·show ((Bn.ks x).take k++y1::y2::(Bn.ks x).drop (k+1)).map hd=((Bn.ks x).map hd).take (k+1)++hd y2::((Bn.ks x).map hd).drop (k+1)
  rw[aQ,bg,bg,dj,List.map_drop,hy,aA (by grind),bP]
  simp
theorem num_leaf{t:Nat}(t1:1<=t)(x:Bt 1)(e:It):([]:List Nat).length+(if(Bn.es (leafPut x e)).length=2*t then 1 else 0)=trail (G0 t e.k x)/\decide ((Bn.es (leafPut x e)).length=2*t)=(G0 t e.k x).all id:=by
 rw[Ci,qJ]
 by_cases h:(Bn.es x).length=2*t-1
 ·simp[trail,h,show 2*t-1+1=2*t by omega]
 ·have h2:¬(Bn.es x).length+1=2*t:=o_
  simp[trail,h,h2]
theorem num_none{t d:Nat}(t1:1<=t){x:Bt (d+2)}(ok:Ok t x)(hk:Fr e.k (Bn.es x)=k)(h:k<(Bn.ks x).length)(y:Bt (d+1))(h1:U.length=trail (G0 t e.k (Bn.ks x)[k]))(h2:false=(G0 t e.k (Bn.ks x)[k]).all id):
 U.length+(if(Bn.es (ju x k y)).length=2*t then 1 else 0)=trail (G0 t e.k x)/\decide ((Bn.es (ju x k y)).length=2*t)=(G0 t e.k x).all id:=by
 rw[mI t e.k x hk h];have hl:¬(Bn.es (ju x k y)).length=2*t:=by
  have:=ok.1
  show ¬(Bn.es x).length=2*t
  omega
 have h3:¬(G0 t e.k (Bn.ks x)[k]).all id=true:=by rw[<-h2];simp
 unfold trail
 grind
theorem G_{t d:Nat}(t1:1<=t){x:Bt (d+2)}(hk:Fr e.k (Bn.es x)=k)(h:k<(Bn.ks x).length)(y1:Bt (d+1))(m:It)(y2:Bt (d+1))(h1:U.length=trail (G0 t e.k (Bn.ks x)[k]))(h2:true=(G0 t e.k (Bn.ks x)[k]).all id):
 U.length+(if(Bn.es (ja x k y1 m y2)).length=2*t then 1 else 0)=trail (G0 t e.k x)/\decide ((Bn.es (ja x k y1 m y2)).length=2*t)=(G0 t e.k x).all id:=by
 rw[mI t e.k x hk h];have hl:(Bn.es (ja x k y1 m y2)).length=(Bn.es x).length+1:=by rw[<-hk];exact BR x e y1 m y2
 have h3:=trail_all h2.S;unfold trail
 grind
theorem its_len{t d:Nat}{x:Bt (d+1)}(h:gY t x):(its x).length=(Bn.es x).length+((Bn.ks x).map fun k=>(its k).length).sum:=by
 rw[dQ,sZ _ _ (by rcases h.rows with h | h;exact ab h.1;omega),cy];rfl
end Bt
section
variable {w wc:World}{ps:Nat}{Z:Nat->Prop}{bt bl D t:Nat}{v:Value}{bN:Nat}{S S':St}{o:Nat->Nat}{Y:Nat->Prop}{v':Value}{L L' U:List Nat}{vk vv vc:Value}{sz k:Nat}{e:It}
theorem rJ {x:Bt 1}(hx:Bt.Walk S o t x)(hnd:(Bt.j_ x).Nodup)(hit:Bt.ItLt (Bt.its x))(hkh:e.kh<2^64)(hvh:e.vh<2^64)(hk:Fr e.k (Bn.es x)=k)(hsz:sz=(Bt.its x).length)
 (h:eH w ps Z bt bl D t v bN wc S Y v L vk vv vc sz ((Bt.bn x).i_.take k++e.kh::(Bt.bn x).i_.drop k) ((Bt.bn x).F4.take k++e.vh::(Bt.bn x).F4.drop k) (Bt.bn x).C_):gQ w ps S o Z bt bl D t v L x e bN wc S Y v L [] (Bt.leafPut x e) vk vv vc:=by
 have t1:1<=t:=by have:=hx.t1;omega
 obtain⟨n1,n2⟩:=Bt.num_leaf t1 x e;obtain⟨p1,p2,p3⟩:=Bt.leafPut_bn x e;subst hk hsz;rw[<-p1,<-p2,<-p3] at h;exact⟨h,s_,Bt.mid_leaf hx.fit t1 hx.at' hx.ok hnd hit ⟨hkh,hvh⟩ hx.few,n1,n2⟩
theorem Db {d:Nat}{x:Bt (d+2)}(hx:Bt.Walk S o t x)(hnd:(Bt.j_ x).Nodup)(hit:Bt.ItLt (Bt.its x))(hkh:e.kh<2^64)(hvh:e.vh<2^64)(hLx:∀h∈L,h∉Bt.j_ x)(hk:Fr e.k (Bn.es x)=k)(hkl:k<(Bn.ks x).length)(hsz:sz=(Bt.its x).length)
 (hL:L=L'++U) (hp:Bt.Put S S' o t (Bn.ks x)[k] e U none) (n1:U.length=Bt.trail (Bt.G0 t e.k (Bn.ks x)[k])) (n2:false=(Bt.G0 t e.k (Bn.ks x)[k]).all id)
 (h:eH w ps Z bt bl D t v bN wc S' Y v' L' vk vv vc sz (Bt.bn x).i_ (Bt.bn x).F4 (Bt.bn x).C_):∃x',gQ w ps S o Z bt bl D t v L x e bN wc S' Y v' L' U x' vk vv vc:=by
 have t1:1<=t:=by have:=hx.t1;omega
 subst hk hsz;obtain⟨y,hy,M⟩:=Bt.mid_kid t1 hx.at' hx.ok hnd hx.G6 hit (fun a ha=>by grind) hx.few (fun a ha=>hLx a (hL▸aE _ ha)) hkl hp;obtain⟨p1,p2,p3⟩:=Bt.kidPut_bn x _ hkl (y:=y) hy;obtain⟨m1,m2⟩:=Bt.num_none t1 hx.ok rfl hkl y n1 n2;rw[<-p1,<-p2,<-p3] at h;exact⟨_,h,hL,M,m1,m2⟩
theorem Dc {d:Nat}{x:Bt (d+2)}(hx:Bt.Walk S o t x)(hnd:(Bt.j_ x).Nodup)(hit:Bt.ItLt (Bt.its x))(hkh:e.kh<2^64)(hvh:e.vh<2^64)(hLx:∀h∈L,h∉Bt.j_ x)(hk:Fr e.k (Bn.es x)=k)(hkl:k<(Bn.ks x).length)(hsz:sz=(Bt.its x).length){m:It}{g:Nat}
 (hL:L=L'++U) (hp:Bt.Put S S' o t (Bn.ks x)[k] e U (some (m,g))) (n1:U.length=Bt.trail (Bt.G0 t e.k (Bn.ks x)[k])) (n2:true=(Bt.G0 t e.k (Bn.ks x)[k]).all id)
 (h:eH w ps Z bt bl D t v bN wc S' Y v' L' vk vv vc sz ((Bt.bn x).i_.take k++m.kh::(Bt.bn x).i_.drop k) ((Bt.bn x).F4.take k++m.vh::(Bt.bn x).F4.drop k) ((Bt.bn x).C_.take (k+1)++g::(Bt.bn x).C_.drop (k+1))):∃x',gQ w ps S o Z bt bl D t v L x e bN wc S' Y v' L' U x' vk vv vc:=by
 have t1:1<=t:=by have:=hx.t1;omega
 subst hk hsz;obtain⟨y1,y2,h1,h2,M⟩:=Bt.mid_split t1 hx.at' hx.ok hnd hx.G6 hit (fun a ha=>by grind) hx.few (fun a ha=>hLx a (hL▸aE _ ha)) hkl hp;obtain⟨p1,p2,p3⟩:=Bt.kidSplit_bn x _ hkl (y1:=y1) (y2:=y2) m h1;obtain⟨m1,m2⟩:=Bt.G_ t1 rfl hkl y1 m y2 n1 n2;have h2:Bt.hd (d:=d+1) y2=g:=h2;rw[h2] at p3;rw[<-p1,<-p2,<-p3] at h;exact⟨_,h,hL,M,m1,m2⟩
end
structure jp (w:World) (ps:Nat) (S:St) (o:Nat->Nat) (Z:Nat->Prop) (bt bl D t:Nat) (v:Value) (L:List Nat) {d:Nat} (y:Bt (d+1)) (e:It) (bN:Nat) (vk vv vc:Value) (sz:Nat) (ks vs cs:List Nat) (b:Nat) (wc:World) (r:Option (It×Nat)) (S4:St) (Y4:Nat->Prop) (v4:Value) (L4 U:List Nat):Prop where
 held:eH w ps Z bt bl D t v bN wc S4 Y4 v4 L4 vk vv vc sz ks vs cs
 sum:L=L4++U
 put:Bt.Put S S4 o t y e U r
 num:U.length=Bt.trail (Bt.G0 t e.k y)
 all:r.isSome=(Bt.G0 t e.k y).all id
 up:wc.1[b]?=some (.cells (iQ r) 274 (0,0))
theorem Bt.trail_cons(b:Bool)(r:List Bool):Bt.trail r<=Bt.trail (b::r):=by
 conv=>rhs;unfold Bt.trail
 by_cases h:r.all id=true
 ·rw[if_pos h,Bt.trail_all h]
  split<;>omega
 grind
section
variable {w wc wc':World}{ps:Nat}{Z:Nat->Prop}{bt bl D t:Nat}{v:Value}{bN:Nat}{S S' S2:St}{o:Nat->Nat}{Y Y':Nat->Prop}{v' v2:Value}{L L' L2:List Nat}{vk vv vc uk uv uc:Value}{sz sz' k:Nat}{ks vs cs ks' vs' cs':List Nat}{e:It}
theorem eH.v_(h:eH w ps Z bt bl D t v bN wc S' Y v' L' vk vv vc sz ks vs cs){b:Nat}{cs0:Array Value}{fr:Nat×Nat}(hb:Y b)(h3:w.1.size+3<=b)(hx:wc.1[b]?=some (.cells cs0 274 fr))(hz:cs0.size<64)(kp:Fo (fun k=>k≠b) wc wc'):eH w ps Z bt bl D t v bN wc' S' Y v' L' vk vv vc sz ks vs cs:=by
 have n3:∀{u:Value} {l:List Nat},FE wc (w.1.size+3) u l->∀g,u.ownBlock=some g->g≠b:=fun hu g hg q=>by
  obtain⟨ad,ai,e1⟩:=(hu.block hg).2.2
  grind
 have nb:bN≠b:=fun q=>by
  have e1:=h.box
  grind
 refine h.move (h.st.write (b:=b) hb hx ⟨d_,d_⟩ hz kp.size fun k _ hk=>kp.block k hk) (fun k hk=>hk) (kp.M fun k hk=>?_) (h.sp.keeps fun k hk=>kp.block k (by have:=h.zl k (h.spz k hk);omega)) h.own ((kp.block bN nb).T h.box) ⟨?_,?_,?_,h.rows.kv,h.rows.kc,h.rows.vc⟩ h.yk
 ·exact qBuac
 ·exact h.rows.k.at fun g hg=>kp.block g (n3 h.rows.k g hg)
 ·exact h.rows.v.at fun g hg=>kp.block g (n3 h.rows.v g hg)
 ·exact h.rows.c.at fun g hg=>kp.block g (n3 h.rows.c g hg)
theorem Bt.Walk.kid_lt {d:Nat}{x:Bt (d+2)}(hx:Bt.Walk S o t x)(hk:Fr e.k (Bn.es x)=k):k<(Bn.ks x).length:=hk▸hx.klen e.k
theorem BG {d:Nat}(hrec:j4 d){x:Bt (d+2)}(hx:Bt.Walk S o t x)(hnd:(Bt.j_ x).Nodup){i:Nat}(hid:i+(d+1)<40)(spare:lG S t L)(hLx:∀h∈L,h∉Bt.j_ x)(hL:L.length<=1000)(hnew:∀a∈Bt.its x,a.k≠e.k)(hit:Bt.ItLt (Bt.its x))(hkh:e.kh<2^64)(hvh:e.vh<2^64)(htr:Bt.trail (Bt.G0 t e.k x)<=L.length)(hk:Fr e.k (Bn.es x)=k)(hkl:k<(Bn.ks x).length)
 {Y1:Nat->Prop} (Hd:eH w ps Z bt bl D t v bN wc S Y1 v L vk vv vc sz ks vs cs):
 Ct 182 #[FH ps t,Xu (Bt.hd (Bn.ks x)[k]:Nat),SV e.k,Id e.kh e.vh,JB bt bl,Xi ((i:Int)+1)] wc fun en w'=>∃(r:Option (It×Nat)) (S4:St) (v4:Value) (L4 U:List Nat),en=.returned (ky r)/\(L=L4++U/\Bt.Put S S4 o t (Bn.ks x)[k] e U r/\U.length=Bt.trail (Bt.G0 t e.k (Bn.ks x)[k])/\r.isSome=(Bt.G0 t e.k (Bn.ks x)[k]).all id/\eH w ps Z bt bl D t v bN w' S4 Y1 v4 L4 vk vv vc sz ks vs cs/\Fo (fun k=>Y1 k/\k≠bl) wc w'):=by
 have hm:=aw hkl;have ad:∀a∈Bt.its (Bn.ks x)[k],a∈Bt.its x:=fun a ha=>Bt.kid_its hx.ok.okN hm ha;have ai:(Bt.j_ (Bn.ks x)[k]).Nodup:=by
  rw[Bt.nodes_parts hkl] at hnd;grind
 have an:Bt.trail (Bt.G0 t e.k (Bn.ks x)[k])<=L.length:=by
  grind [mI,Nat.le_trans,Bt.trail_cons]
 have hc:=hrec (i+1) Hd.st (hx.kid hm) ai o_ Hd.sp spare (fun h hh q=>hLx h hh (Bt.mem_nodes_kid hm q)) (Hd.zy _ Hd.zs.1) (Hd.zy _ Hd.zs.2.1) (fun b hb=>Hd.zy _ (Hd.zs.2.2 b hb)) hL (fun a ha=>hnew a (ad a ha)) (fun a ha=>hit a (ad a ha)) hkh hvh an;have e1:((i+1:Nat):Int)=(i:Int)+1:=o_
 refine hc.M ?_;rintro en w' ⟨r,S4,v4,L4,U,rfl,h1,h2,h3,h4,h5,h6,h7,h8⟩;exact⟨r,S4,v4,L4,U,rfl,h1,h2,h7,h8,Hd.kid h3 h4 h5 h6,h4⟩
end
section
variable {w wc wc':World}{ps:Nat}{Z:Nat->Prop}{bt bl D t:Nat}{v:Value}{bN:Nat}{S S4:St}{o:Nat->Nat}{Y:Nat->Prop}{v4:Value}{L L4 U:List Nat}{vk vv vc:Value}{sz:Nat}{ks vs cs:List Nat}{e:It}{d:Nat}{y:Bt (d+1)}{r:Option (It×Nat)}{Y1:Nat->Prop}{w0:World}
theorem jp.new(h:L=L4++U/\Bt.Put S S4 o t y e U r/\U.length=Bt.trail (Bt.G0 t e.k y)/\r.isSome=(Bt.G0 t e.k y).all id/\eH w ps Z bt bl D t v bN wc S4 Y v4 L4 vk vv vc sz ks vs cs/\Fo (fun k=>Y1 k/\k≠bl) w0 wc):
 jp w ps S o Z bt bl D t v L y e bN vk vv vc sz ks vs cs wc.1.size (wc.alloc (.cells (iQ r) 274)) r S4 (fun k=>Y k\/(wc.1.size<=k/\k<(wc.alloc (.cells (iQ r) 274)).1.size)) v4 L4 U:=
 ⟨h.2.2.2.2.1.a_ ((aa _ wc).alloc Ih _),h.1,h.2.1,h.2.2.1,h.2.2.2.1,heap_alloc_new wc _⟩
theorem jp.set(h:L=L4++U/\Bt.Put S S4 o t y e U r/\U.length=Bt.trail (Bt.G0 t e.k y)/\r.isSome=(Bt.G0 t e.k y).all id/\eH w ps Z bt bl D t v bN wc S4 Y v4 L4 vk vv vc sz ks vs cs/\Fo (fun k=>Y1 k/\k≠bl) w0 wc){b:Nat}(hb:Y b)(h3:w.1.size+3<=b){z0 z1 z2 z3 c0 c1 c2 c3:Value}(hx:wc.1[b]?=some (.cells #[z0,z1,z2,z3] 274 (0,0)))(hr:iQ r=#[c0,c1,c2,c3]):
 jp w ps S o Z bt bl D t v L y e bN vk vv vc sz ks vs cs b ((((wc.setCell (y_ b) (c0)).setCell (x_ b 1) (c1)).setCell (x_ b 2) (c2)).setCell (x_ b 3) (c3)) r S4 Y v4 L4 U:=
 ⟨h.2.2.2.2.1.v_ hb h3 hx s_ ((((Fo.mark fun _ h=>h).T (Fo.mark fun _ h=>h)).T (Fo.mark fun _ h=>h)).T (Fo.mark fun _ h=>h)),h.1,h.2.1,h.2.2.1,h.2.2.2.1,by
  rw[hr];exact heap_setCell (i:=3) (v:=c3) (heap_setCell (i:=2) (v:=c2) (heap_setCell (i:=1) (v:=c1) (heap_setCell (i:=0) (v:=c0) hx)))⟩
theorem jp.ne {b:Nat}(h:jp w ps S o Z bt bl D t v L y e bN vk vv vc sz ks vs cs b wc r S4 Y v4 L4 U):b<wc.1.size/\vk.ownBlock≠some b/\vv.ownBlock≠some b/\vc.ownBlock≠some b/\b≠bN:=by
 have hb:=h.up;refine⟨(gl hb),fun q=>?_,fun q=>?_,fun q=>?_,fun q=>?_⟩
 ·obtain⟨cs,fr,e⟩:=(h.held.rows.k.block q).2.2
  grind
 ·obtain⟨cs,fr,e⟩:=(h.held.rows.v.block q).2.2
  grind
 ·obtain⟨cs,fr,e⟩:=(h.held.rows.c.block q).2.2
  grind
 ·have e:=h.held.box
  grind
end
theorem Bt.bnok_of {S:St}{o:Nat->Nat}(hf:Fw S o){t:Nat}(t1:2<=t)(t2:t<=16){d:Nat}{x:Bt (d+1)}(hk:∀k∈Bn.ks x,Bt.At S t k)(ok:Bt.Ok t x):iU t (Bt.bn x):=by
 refine⟨t1,t2,by unfold Bt.bn;rw[ak];exact ok.1,by unfold Bt.bn;grind,?_⟩;have hq:=ok.2.1;unfold Bt.bn;simp only[ak]
 by_cases hd0:d=0
 ·grind
 ·rw[if_neg hd0] at hq;refine ae ⟨hq,?_⟩
  grind [List.contains_iff_mem,Bt.At.hd_ok]
section
variable {w wc wc':World}{ps:Nat}{Z:Nat->Prop}{bt bl D t:Nat}{v:Value}{bN:Nat}{S S4 S2:St}{o:Nat->Nat}{Y:Nat->Prop}{v4 v2:Value}{L L4 L2 U:List Nat}{vk vv vc:Value}{sz:Nat}{ks vs cs:List Nat}{e:It}{d:Nat}
theorem eH.fin(h:eH w ps Z bt bl D t v bN wc S2 Y v2 L2 vk vv vc sz ks vs cs){z0 z1 z2 z3:Value}(hx:wc.1[w.1.size+2]?=some (.cells #[z0,z1,z2,z3] 274 (0,0)))(c0 c1 c2 c3:Value)(wd:World)(hwd:wd=((((wc.setCell (y_ (w.1.size+2)) (c0)).setCell (x_ (w.1.size+2) 1) (c1)).setCell (x_ (w.1.size+2) 2) (c2)).setCell (x_ (w.1.size+2) 3) (c3))):
 Ig wd ps S2 Z/\Fo (fun k=>Z k/\k≠bl) w wd/\gz wd bt bl D ps t v2 L2/\wd.1[w.1.size+2]?=some (.cells #[c0,c1,c2,c3] 274 (0,0)):=by
 subst hwd;have kp:Fo (fun k=>k≠w.1.size+2) wc ((((wc.setCell (y_ (w.1.size+2)) (c0)).setCell (x_ (w.1.size+2) 1) (c1)).setCell (x_ (w.1.size+2) 2) (c2)).setCell (x_ (w.1.size+2) 3) (c3)):=(((Fo.mark fun _ h=>h).T (Fo.mark fun _ h=>h)).T (Fo.mark fun _ h=>h)).T (Fo.mark fun _ h=>h);refine⟨(h.st.write (b:=w.1.size+2) h.yb.2.2 hx ⟨d_,d_⟩ s_ kp.size fun k _ hk=>kp.block k hk).M fun k hk=>h.zy k hk,h.B_.T (kp.M fun k hk=>by have:=h.zl k hk.1;omega),h.sp.keeps fun k hk=>kp.block k (by have:=h.zl k (h.spz k hk);omega),?_⟩;exact heap_setCell (i:=3) (v:=c3) (heap_setCell (i:=2) (v:=c2) (heap_setCell (i:=1) (v:=c1) (heap_setCell (i:=0) (v:=c0) hx)))
theorem gQ.putting {x:Bt (d+1)}{U:List Nat}{x':Bt (d+1)}{L':List Nat}{v':Value}{S':St}(M:gQ w ps S o Z bt bl D t v L x e bN wc S' Y v' L' U x' vk vv vc):Fv S'/\S'.len (Bn.h x)=(6*t,0)/\Bn.h x<2^64/\(Bt.its x').length=(Bt.its x).length+1/\(Bt.bn x').i_.length=(Bn.es x').length/\(Bt.bn x').F4.length=(Bn.es x').length/\(Bt.bn x').C_.length=(Bn.ks x').length:=by
 obtain⟨ws,hr,hw⟩:=M.mid.own;refine⟨M.mid.fit.inv,by rw[jw M.mid.fit.tab hr,hw],(fL M.mid.fit hr).2.1,by rw[M.mid.its,Bt.insB_length],?_,?_,?_⟩
 ·unfold Bt.bn
  grind
 ·unfold Bt.bn
  grind
 ·unfold Bt.bn
  grind
end
theorem FE.some {w:World}{D:Nat}{v:Value}{l:List Nat}(h:FE w D v l)(hl:0<l.length):∃b c,v=.slice (some (y_ b)) l.length c/\l.length<=c:=by
 rcases h.2 with⟨e,e2⟩ | ⟨b,c,ad,e,hb,ai,ar,an,ap,ht⟩
 ·exact absurd e2 (by intro q;simp[q] at hl)
 grind
theorem FD.take {w:World}{b n c c' j:Nat}{l:List Nat}(h:FD w (.slice (some (y_ b)) n c) l)(hj:j<=l.length):FD w (.slice (some (y_ b)) j c') (l.take j):=by
 obtain⟨A,c1,e,hc⟩:=h
 injection e with e1 e2 e3
 subst e1;refine⟨_,c',by rw[aF,dL hj],fun k hk=>?_⟩;have ad:k<l.length:=by rw[aF] at hk;omega
 grind
theorem FD.drop {w:World}{b n c c' j:Nat}{l:List Nat}(h:FD w (.slice (some (y_ b)) n c) l)(hj:j<=l.length):FD w (.slice (some (x_ b j)) (n-j) c') (l.drop j):=by
 obtain⟨A,c1,e,hc⟩:=h
 injection e with e1 e2 e3
 subst e1;refine⟨_,c',by rw[bJ,e2],fun k hk=>?_⟩;have ad:j+k<l.length:=by rw[bJ] at hk;omega
 grind
structure eV (wc wd:World) (ps:Nat) (S':St) (Y:Nat->Prop) (bL bR:Nat) (l r:Array Value):Prop where
 st:Ig wd ps S' (fun k=>Y k\/k=bL\/k=bR)
 yl:∀k,Y k->k<wc.1.size
 kp:Fo Y wc wd
 bl:wd.1[bL]?=some (.cells l 215 (0,0))
 br:wd.1[bR]?=some (.cells r 215 (0,0))
 ge:wc.1.size<=bL/\wc.1.size<=bR/\bL≠bR
section
variable {wc wd wd':World}{ps:Nat}{S' S2:St}{Y:Nat->Prop}{bL bR:Nat}{l r:Array Value}
theorem eV.start(st:Ig wc ps S' Y)(l r:Array Value):eV wc ((wc.alloc (.cells l 215)).alloc (.cells r 215)).drew ps S' Y wc.1.size (wc.1.size+1) l r:=by
 have z1:(wc.alloc (.cells l 215)).1.size=wc.1.size+1:=s_
 have c1:=(aa (wc.alloc (.cells l 215)).1.size (wc.alloc (.cells l 215))).alloc Ih (.cells r 215);have b2:=(c_ wc (.cells l 215)).T (c1.M (by rw[z1];omega));have q2:=heap_alloc_new (wc.alloc (.cells l 215)) (.cells r 215);rw[z1] at q2;have hs:((wc.alloc (.cells l 215)).alloc (.cells r 215)).drew.1.size=wc.1.size+2:=s_
 refine⟨(st.wide b2.drew).M fun k hk=>?_,st.yl,st.B_ b2.drew,((c1.block wc.1.size (by rw[z1];omega)).T (heap_alloc_new wc (.cells l 215))),q2,Nat.le_refl _,o_,o_⟩
 grind
theorem eV.turn(h:eV wc wd ps S' Y bL bR l r):eV wc wd ps S' Y bR bL r l:=
 ⟨h.st.M fun k hk=>by rcases hk with hk | hk | hk;exact ab hk;exact ae (ae hk);exact ae (ab hk),h.yl,h.kp,h.br,h.bl,h.ge.2.1,h.ge.1,h.ge.2.2.S⟩
theorem eV.lt(h:eV wc wd ps S' Y bL bR l r):bL<wd.1.size/\bR<wd.1.size:=⟨(gl h.bl),(gl h.br)⟩
theorem eV.a_(h:eV wc wd ps S' Y bL bR l r)(hb:D_ wd wd'):eV wc wd' ps S' Y bL bR l r:=
 ⟨h.st.a_ hb,h.yl,h.kp.T (Fo.A_ hb fun k hk=>by have:=h.yl k hk;have:=h.kp.size;omega),(hb.block _ h.lt.1).T h.bl,(hb.block _ h.lt.2).T h.br,h.ge⟩
theorem eV.put(h:eV wc wd ps S' Y bL bR l r)(st:Ig wd' ps S2 (fun k=>Y k\/k=bL\/k=bR))(kp:Fo (fun k=>Y k\/k=bL\/k=bR) wd wd'):eV wc wd' ps S2 Y bL bR l r:=
 ⟨st,h.yl,h.kp.T (kp.M fun _ hk=>ab hk),(kp.block _ (ae (ab rfl))).T h.bl,(kp.block _ (ae (ae rfl))).T h.br,h.ge⟩
theorem eV.setL(h:eV wc wd ps S' Y bL bR l r)(hl:l.size<64)(i:Nat)(v:Value)(l':Array Value)(e:(wd.setCell (x_ bL i) v).1[bL]?=some (.cells l' 215 (0,0))):eV wc (wd.setCell (x_ bL i) v) ps S' Y bL bR l' r:=
 ⟨h.st.write (b:=bL) (ae (ab rfl)) h.bl ⟨d_,d_⟩ hl s_ fun k _ hk=>FB hk,h.yl,h.kp.T (Fo.mark fun k hk=>by have:=h.yl k hk;have:=h.ge.1;omega),e,(FB (Ne.S h.ge.2.2)).T h.br,h.ge⟩
theorem eV.row(h:eV wc wd ps S' Y bL bR l r){v:Value}{u:List Nat}(hu:FD wc v u)(hy:∀g,v.ownBlock=some g->Y g):FD wd v u:=hu.keeps fun g hg _=>h.kp.block g (hy g hg)
end
section
variable {wc wd:World}{ps:Nat}{S':St}{Y:Nat->Prop}{bL bR:Nat}{a b c z a' b' c' z':Value}
theorem eV.setL2(h:eV wc wd ps S' Y bL bR #[a,b,c,z] #[a',b',c',z'])(v:Value):eV wc (wd.setCell (x_ bL 2) v) ps S' Y bL bR #[a,b,v,z] #[a',b',c',z']:=h.setL s_ 2 v _ (heap_setCell (i:=2) (v:=v) h.bl)
theorem eV.setL3(h:eV wc wd ps S' Y bL bR #[a,b,c,z] #[a',b',c',z'])(v:Value):eV wc (wd.setCell (x_ bL 3) v) ps S' Y bL bR #[a,b,c,v] #[a',b',c',z']:=h.setL s_ 3 v _ (heap_setCell (i:=3) (v:=v) h.bl)
theorem eV.setR2(h:eV wc wd ps S' Y bL bR #[a,b,c,z] #[a',b',c',z'])(v:Value):eV wc (wd.setCell (x_ bR 2) v) ps S' Y bL bR #[a,b,c,z] #[a',b',v,z']:=(h.turn.setL2 v).turn
theorem eV.setR3(h:eV wc wd ps S' Y bL bR #[a,b,c,z] #[a',b',c',z'])(v:Value):eV wc (wd.setCell (x_ bR 3) v) ps S' Y bL bR #[a,b,c,z] #[a',b',c',v]:=(h.turn.setL3 v).turn
end
theorem EC {α:Type}(f:α->Nat)(l:List α)(a j:Nat):(((l.drop a).take j).map f).sum<=(l.map f).sum:=by
 have h1:(l.map f).sum=((l.take a).map f).sum+((l.drop a).map f).sum:=by rw[<-dK,<-aQ,aV]
 grind [List.take_append_drop]
theorem ED {α:Type}(f:α->Nat)(l:List α){j:Nat}(h:j<l.length):((l.take (j+1)).map f).sum=((l.take j).map f).sum+f l[j]:=by
 grind [List.take_succ_eq_append_getElem]
namespace Bt
theorem Put.same {S S':St}{o:Nat->Nat}{t d:Nat}{x:Bt (d+1)}{e:It}{U V:List Nat}{r:Option (It×Nat)}(h:Put S S' o t x e U r)(hv:∀y,y∈U↔y∈V):Put S S' o t x e V r:=by
 refine⟨h.fit,h.grew,fun y h1 h2=>h.fr y h1 fun q=>h2 ((hv y).1 q),?_⟩;have:=h.res;grind
end Bt
namespace Bt
theorem leftOf_bn(t:Nat){d:Nat}(x:Bt (d+1)):(bn (I_ t x)).i_=(bn x).i_.take t/\(bn (I_ t x)).F4=(bn x).F4.take t/\(bn (I_ t x)).C_=(bn x).C_.take (t+1):=by
 refine⟨?_,?_,?_⟩
 ·show ((Bn.es x).take t).map _=((Bn.es x).map _).take t
  simp_all
 ·show ((Bn.es x).take t).map _=((Bn.es x).map _).take t
  simp_all
 ·show ((Bn.ks x).take (t+1)).map _=((Bn.ks x).map _).take (t+1)
  simp_all
theorem rightOf_bn(t:Nat){d:Nat}(x:Bt (d+1))(g:Nat):(bn (I4 t x g)).i_=(bn x).i_.drop (t+1)/\(bn (I4 t x g)).F4=(bn x).F4.drop (t+1)/\(bn (I4 t x g)).C_=(bn x).C_.drop (t+1)/\(bn (I4 t x g)).C_=((Bn.ks x).drop (t+1)).map hd:=by
 refine⟨?_,?_,?_,rfl⟩
 ·show ((Bn.es x).drop (t+1)).map _=((Bn.es x).map _).drop (t+1)
  simp_all
 ·show ((Bn.es x).drop (t+1)).map _=((Bn.es x).map _).drop (t+1)
  simp_all
 ·show ((Bn.ks x).drop (t+1)).map _=((Bn.ks x).map _).drop (t+1)
  simp_all
end Bt
section
variable {w wc:World}{ps:Nat}{Z:Nat->Prop}{bt bl D t:Nat}{v:Value}{bN:Nat}{S S':St}{o:Nat->Nat}{Y:Nat->Prop}{v':Value}{L L' U:List Nat}{vk vv vc:Value}{e:It}{d:Nat}{x x':Bt (d+1)}
theorem gQ.spare(M:gQ w ps S o Z bt bl D t v L x e bN wc S' Y v' L' U x' vk vv vc)(htr:Bt.trail (Bt.G0 t e.k x)<=L.length)(spare:lG S t L)(hLx:∀h∈L,h∉Bt.j_ x)(hn:(Bn.es x').length=2*t):∃L2 g,L'=L2++[g]/\g∉U/\g∉Bt.j_ x/\g≠Bn.h x/\∃wg,l_ S g=some wg/\l_ S' g=some wg/\wg.length=6*t:=by
 have ap:=M.num;have an:L.length=L'.length+U.length:=by rw[M.sum,ag]
 have ai:L'≠[]:=fun q=>by grind
 obtain⟨L2,g,hg⟩:∃L2 g,L'=L2++[g]:=⟨L'.dropLast,L'.getLast ai,(List.dropLast_concat_getLast ai).S⟩;have hm:g∈L:=by rw[M.sum,hg];simp
 have ad:=spare.nd;rw[M.sum,hg] at ad;have hU:g∉U:=fun q=>(aC.1 ad).2.2 g s_ g q rfl;obtain⟨wg,h1,h2⟩:=spare.recs g hm;exact⟨L2,g,hg,hU,hLx g hm,fun q=>hLx g hm (q▸Bt.hd_mem x),wg,h1,(M.mid.fr g (hLx g hm) hU).T h1,h2⟩
theorem gQ.halves(M:gQ w ps S o Z bt bl D t v L x e bN wc S' Y v' L' U x' vk vv vc)(t1:2<=t)(hn:(Bn.es x').length=2*t)(g:Nat):Bt.Ok t (Bt.I_ t x')/\Bt.Ok t (Bt.I4 t x' g)/\(Bt.its x').length=(Bt.its (Bt.I_ t x')).length+1+(Bt.its (Bt.I4 t x' g)).length/\(∀k∈Bn.ks (Bt.I_ t x'),Bt.At S' t k)/\(∀k∈Bn.ks (Bt.I4 t x' g),Bt.At S' t k)/\(Bt.its (Bt.I4 t x' g)).length=(Bn.es x').length-(t+1)+(((Bn.ks x').drop (t+1)).map fun k=>(Bt.its k).length).sum:=by
 obtain⟨c1,c2,c3,c4,c5⟩:=M.mid.okN.split o_ hn g;refine⟨c2,c3,?_,fun k hk=>M.mid.C_ k (bB hk),fun k hk=>M.mid.C_ k (bA hk),?_⟩
 ·grind
 ·rw[Bt.its_len c3.okN]
  show ((Bn.es x').drop (t+1)).length+_=_
  rw[bJ]
  rfl
theorem gQ.lts(M:gQ w ps S o Z bt bl D t v L x e bN wc S' Y v' L' U x' vk vv vc)(t1:2<=t)(hn:(Bn.es x').length=2*t)(g:Nat):iT (Bt.bn (Bt.I_ t x'))/\iT (Bt.bn (Bt.I4 t x' g)):=by
 have hs:=(M.halves t1 hn g).2.2.1;have hz:(Bt.its x').length<2^64:=M.mid.lt.size;have ad:∀q∈Bn.es x',q.kh<2^64/\q.vh<2^64:=fun q hq=>⟨M.mid.lt.i_ _ (az.2 ⟨q,hq,rfl⟩),M.mid.lt.F4 _ (az.2 ⟨q,hq,rfl⟩)⟩;exact⟨Bt.bnLt_of M.mid.fit (fun q hq=>ad q (bB hq)) (fun k hk=>M.mid.C_ k (bB hk)) o_,Bt.bnLt_of M.mid.fit (fun q hq=>ad q (bA hq)) (fun k hk=>M.mid.C_ k (bA hk)) o_⟩
end
theorem ri {S':St}{o:Nat->Nat}{t ps:Nat}:∀{d:Nat} {k:Bt d},Fw S' o->2<=t->t<=16->Bt.At S' t k->Bt.Ok t k->(Bt.its k).length<2^62->∀(W:World) (Yx:Nat->Prop),Ig W ps S' Yx->Cb 175 #[FH ps t,Xu (Bt.hd k:Nat)] W (Xi (Bt.its k).length)
 | 0,k,_,_,_,_,_,_=>nomatch k
 | _+1,_,hf,t1,t2,ha,ok,hz=>fun _ _ hst=>nS hst hf.inv (Bt.At.read hf t1 t2 ha ok) hz
section
variable {w wc:World}{ps:Nat}{Z:Nat->Prop}{bt bl D t:Nat}{v:Value}{bN:Nat}{S S':St}{o:Nat->Nat}{Y:Nat->Prop}{v':Value}{L L' U:List Nat}{vk vv vc:Value}{e:It}{d:Nat}{x x':Bt (d+1)}
theorem gQ.left_put(M:gQ w ps S o Z bt bl D t v L x e bN wc S' Y v' L' U x' vk vv vc)(t1:2<=t)(t2:t<=16)(hn:(Bn.es x').length=2*t){g:Nat}(hgx:g≠Bn.h x){wg:List Nat}(hg:l_ S' g=some wg):Fw (FC S' (Bn.h x) 0 (w_ t (Bt.bn (Bt.I_ t x')))) o/\l_ (FC S' (Bn.h x) 0 (w_ t (Bt.bn (Bt.I_ t x')))) g=some wg:=by
 obtain⟨ws,hr,hw⟩:=M.mid.own;have hh:Bt.hd (Bt.I_ t x')=Bn.h x:=M.mid.hd;have hp:=Bt.put_node (x:=Bt.I_ t x') M.mid.fit (fun k hk=>M.mid.C_ k (bB hk)) (fun k hk=>by
  show Bn.h x'∉_
  exact Bt.hd_kids M.mid.nd k (bB hk)) (by rw[hh];exact hr) hw (M.lts t1 hn 0).1 (by show ((Bn.es x').take t).length<1000;rw[aF];omega)
 grind
theorem gQ.done(M:gQ w ps S o Z bt bl D t v L x e bN wc S' Y v' L' U x' vk vv vc)(t1:2<=t)(t2:t<=16)(hn:(Bn.es x').length=2*t){g:Nat}(hU:g∉U)(hx:g∉Bt.j_ x){wg:List Nat}(h1:l_ S g=some wg)(h2:wg.length=6*t)(ht:t<(Bn.es x').length):
 Bt.Put S (FC (FC S' (Bn.h x) 0 (w_ t (Bt.bn (Bt.I_ t x')))) g 0 (w_ t (Bt.bn (Bt.I4 t x' g)))) o t x e (g::U) (some ((Bn.es x')[t],g))/\(g::U).length=Bt.trail (Bt.G0 t e.k x)/\true=(Bt.G0 t e.k x).all id:=by
 have ai:=M.num;have ad:=M.all;rw[if_pos hn] at ai;rw[decide_eq_true hn] at ad;exact⟨(M.mid.cut o_ t2 hn hU hx h1 h2).same fun y=>by grind,o_,ad⟩
end
end
section
open Lf Tr
def ff(l:List It):List Nat:=l.flatMap fun d=>[d.kh,d.vh]
theorem gh {l:List It}{y:Nat}:y∈ff l↔∃d∈l,y=d.kh\/y=d.vh:=by
 unfold ff;grind
theorem nO(a b:List It):ff (a++b)=ff a++ff b:=by unfold ff;grind
namespace Bt
structure Tree (S:St) (o:Nat->Nat) (t:Nat) {d:Nat} (x:Bt (d+1)):Prop where
 fit:Fw S o
 t1:2<=t
 t2:t<=16
 at':At S t x
 ok:Ok t x
 G6:(its x).Pairwise eU
 G7:∀a∈its x,gu S a
 few:(its x).length<1000000
 j_:(j_ x).Nodup
 texts:(ff (its x)).Nodup
 apart:∀h∈Bt.j_ x,h∉ff (its x)
 pos:1<=nk x
variable {S S':St}{o o':Nat->Nat}{t d:Nat}{x:Bt (d+1)}
theorem Tree.walk(h:Tree S o t x):Walk S o t x:=
 ⟨h.fit,h.t1,h.t2,h.at',h.ok,h.G6,⟨fun a ha=>(blobs_lt h.fit (h.G7 a ha)).1,fun a ha=>jt h.fit (h.G7 a ha).lk (h.G7 a ha).k⟩,h.few⟩
theorem Tree.lts(h:Tree S o t x):ItLt (its x):=fun a ha=>blobs_lt h.fit (h.G7 a ha)
theorem Tree.low(h:Tree S o t x):d<19:=by
 have h1:=pow_le t h.t1 h.ok h.pos;have h2:=h.few
 rcases cB d 19 with h3 | h3
 ·omega
 ·have:2^20<=2^(d+1):=cQ d_ o_;omega
def recs(x:Bt (d+1)):List Nat:=Bt.j_ x++ff (its x)
theorem Tree.has(h:Tree S o t x):∀y∈recs x,l_ S y≠none:=fun y hy q=>by
 rcases ay.1 hy with hy | hy
 ·obtain⟨n,e⟩:=h.at'.rec y hy;rw[q] at e;cases e
 ·obtain⟨a,ha,e⟩:=gh.1 hy;have hb:=h.G7 a ha;rcases e with rfl | rfl
  ·have:=hb.k;rw[q] at this;cases this
  ·have:=hb.v;rw[q] at this;cases this
theorem Tree.frame(h:Tree S o t x)(hf:Fw S' o')(hs:∀y∈recs x,l_ S' y=l_ S y):Tree S' o' t x:=
 ⟨hf,h.t1,h.t2,h.at'.frame fun y hy=>hs y (aD _ hy),h.ok,h.G6,fun a ha=>(h.G7 a ha).frame (hs _ (aE _ (gh.2 ⟨a,ha,ab rfl⟩))) (hs _ (aE _ (gh.2 ⟨a,ha,ae rfl⟩))),h.few,h.j_,h.texts,h.apart,h.pos⟩
theorem blobH_ins {e:It}:∀{l:List It},∀y,y∈ff (insB e l)↔y=e.kh\/y=e.vh\/y∈ff l:=fun {l} y=>by
 constructor
 ·intro hy;obtain⟨a,ha,q⟩:=gh.1 hy;rcases kg.1 ha with rfl | ha
  ·rcases q with q | q
   ·exact ab q
   ·exact ae (ab q)
  ·exact ae (ae (gh.2 ⟨a,ha,q⟩))
 ·rintro(q | q | hy)
  ·exact gh.2 ⟨e,kg.2 (ab rfl),ab q⟩
  ·exact gh.2 ⟨e,kg.2 (ab rfl),ae q⟩
  ·obtain⟨a,ha,q⟩:=gh.1 hy;exact gh.2 ⟨a,kg.2 (ae ha),q⟩
theorem zA {e:It}{l:List It}:(ff (insB e l)).Perm (e.kh::e.vh::ff l):=by
 have h:(insB e l).Perm (e::l):=by
  refine List.perm_middle.T ?_;rw[aV]
 unfold ff
 grind
structure New (S:St) (x:Bt (d+1)) (e:It):Prop where
 G7:gu S e
 ne:e.kh≠e.vh
 off:e.kh∉recs x/\e.vh∉recs x
 key:∀a∈its x,a.k≠e.k
 few:(its x).length+1<1000000
theorem New.texts {e:It}(n:New S x e)(h:Tree S o t x){L:List Nat}(hL:∀y∈L,l_ S y=none):(ff (insB e (its x))).Nodup/\∀y∈ff (insB e (its x)),y∉Bt.j_ x/\y∉L:=by
 refine⟨zA.nodup_iff.2 (aG.2 ⟨fun hm=>?_,aG.2 ⟨fun hm=>n.off.2 (aE _ hm),h.texts⟩⟩),fun y hy=>?_⟩
 ·rcases aj.1 hm with q | hm
  ·exact n.ne q
  ·exact n.off.1 (aE _ hm)
 ·have hk:l_ S y≠none:=by
   intro q;obtain⟨a,ha,e1⟩:=gh.1 hy;have hb:gu S a:=by
    rcases kg.1 ha with rfl | ha
    ·exact n.G7
    ·exact h.G7 a ha
   rcases e1 with rfl | rfl
   ·have:=hb.k
    grind
   ·have:=hb.v
    grind
  refine⟨fun hm=>?_,fun hm=>hk (hL y hm)⟩
  rcases(blobH_ins y).1 hy with q | q | hb
  ·exact n.off.1 (q▸aD _ hm)
  ·exact n.off.2 (q▸aD _ hm)
  ·exact h.apart y hm hb
theorem New.stay {e:It}(n:New S x e)(h:Tree S o t x){L:List Nat}(hL:∀y∈L,l_ S y=none)(hS:∀y,y∉Bt.j_ x->y∉L->l_ S' y=l_ S y):∀a∈insB e (its x),gu S' a:=fun a ha=>by
 have hb:gu S a:=by
  rcases kg.1 ha with rfl | ha
  ·exact n.G7
  ·exact h.G7 a ha
 have hd:=(n.texts h hL).2;have h1:=hd a.kh (gh.2 ⟨a,ha,ab rfl⟩);have h2:=hd a.vh (gh.2 ⟨a,ha,ae rfl⟩);exact hb.frame (hS _ h1.1 h1.2) (hS _ h2.1 h2.2)
theorem Tree.insert_none(h:Tree S o t x){e:It}(n:New S x e){S1 S2:St}{o1:Nat->Nat}{L U:List Nat}(hL:∀y∈L,l_ S y=none)(h1:∀y,y∉L->l_ S1 y=l_ S y)(hU:∀y∈U,y∈L)(p:Put S1 S2 o1 t x e U none):
 ∃y:Bt (d+1),hd y=hd x/\Tree S2 o1 t y/\its y=insB e (its x)/\(∀z∈Bt.j_ y,z∈Bt.j_ x\/z∈U):=by
 obtain⟨y,a1,a2,a3,a4,a5,a6,a7⟩:=p.res;have hs:∀z,z∉Bt.j_ x->z∉L->l_ S2 z=l_ S z:=fun z q1 q2=>(p.fr z q1 fun q=>q2 (hU z q)).T (h1 z q2);obtain⟨t3,t4⟩:=n.texts h hL;refine⟨y,a1,⟨p.fit,h.t1,h.t2,a2,a3,by rw[a5];exact uR h.G6 n.key,by rw[a5];exact n.stay h hL hs,by rw[a5,insB_length];exact n.few,a6,by rw[a5];exact t3,fun z hz hb=>?_,aI h.pos a4⟩,a5,a7⟩;grind
def I5(g:Nat)(m:It)(y1 y2:Bt (d+1)):Bt (d+2):=(⟨g,[m],[y1,y2]⟩:Bn (Bt (d+1)))
theorem wJ(g:Nat)(m:It)(y1 y2:Bt (d+1)):Bt.j_ (I5 g m y1 y2)=g::(Bt.j_ y1++Bt.j_ y2):=by
 show g::([y1,y2].map Bt.j_).flatten=_
 simp
theorem Tree.insert_root(h:Tree S o t x){e:It}(n:New S x e){S1 S2:St}{o1:Nat->Nat}{L U:List Nat}(hL:∀y∈L,l_ S y=none)(h1:∀y,y∉L->l_ S1 y=l_ S y)(hU:∀y∈U,y∈L){m:It}{g:Nat}(p:Put S1 S2 o1 t x e U (some (m,g))){r:Nat}(hr:r∈L)(hrU:r∉U){ws:List Nat}(hw:l_ S1 r=some ws)(hl:ws.length=6*t):
 ∃y1 y2:Bt (d+1),hd y1=hd x/\hd y2=g/\At S2 t y1/\At S2 t y2/\Ok t y1/\Ok t y2/\(its y1).length+(its y2).length+1<1000000/\Ok t (I5 r m y1 y2)/\iT (bn (I5 r m y1 y2))/\(l_ S2 r=some ws)/\Tree (FC S2 r 0 (w_ t (bn (I5 r m y1 y2)))) o1 t (I5 r m y1 y2)/\its (I5 r m y1 y2)=insB e (its x)/\(∀z∈Bt.j_ (I5 r m y1 y2),z∈Bt.j_ x\/z∈L)/\(∀z,z≠r->l_ (FC S2 r 0 (w_ t (bn (I5 r m y1 y2)))) z=l_ S2 z)/\ej S2 (FC S2 r 0 (w_ t (bn (I5 r m y1 y2)))) 0 0:=by
 obtain⟨y1,y2,a1,a2,a3,a4,a5,a6,a7,a8,a9,ba,an⟩:=p.res;have a0:r∉Bt.j_ x:=fun q=>h.has r (aD _ q) (hL r hr);have au:l_ S2 r=some ws:=(p.fr r a0 hrU).T hw;have hs:∀z,z∉Bt.j_ x->z∉L->l_ S2 z=l_ S z:=fun z q1 q2=>(p.fr z q1 fun q=>q2 (hU z q)).T (h1 z q2);obtain⟨t3,t4⟩:=n.texts h hL;have ai:r∉Bt.j_ y1++Bt.j_ y2:=fun q=>(an r q).elim a0 hrU;have ad:its (I5 r m y1 y2)=insB e (its x):=a9;have t1:=h.t1;have ok:Ok t (I5 r m y1 y2):=by
  refine⟨by show 1<=2*t-1;omega,by show 2=if d+1=0 then 0 else 1+1;rw[if_neg o_],fun k hk=>?_⟩;have hk:k∈ [y1,y2]:=hk
  rcases aj.1 hk with rfl | hk
  ·exact⟨a5,o_⟩
  ·rw[aW.1 hk];exact⟨a6,o_⟩
 have bb:(its y1).length+(its y2).length+1<1000000:=by
  have e1:=congrArg List.length a9;rw[ag,ah,insB_length] at e1;have:=n.few;omega
 have ar:∀k∈Bn.ks (I5 r m y1 y2),At S2 t k:=fun k hk=>by
  have hk:k∈ [y1,y2]:=hk
  rcases aj.1 hk with rfl | hk
  ·exact a3
  ·rw[aW.1 hk];exact a4
 have a':=n.stay h hL hs;have ap:iT (bn (I5 r m y1 y2)):=bnLt_of p.fit (fun a ha=>blobs_lt p.fit (a' a (by rw[<-ad];exact lN ok.okN ha))) ar (by rw[ad,insB_length];have:=n.few;omega);have bc:∀k∈Bn.ks (I5 r m y1 y2),hd (I5 r m y1 y2)∉Bt.j_ k:=fun k hk q=>by
  have hk:k∈ [y1,y2]:=hk;have q:r∈Bt.j_ k:=q
  rcases aj.1 hk with rfl | hk
  ·exact ai (aD _ q)
  ·rw[aW.1 hk] at q;exact ai (aE _ q)
 obtain⟨p1,p2,p3,p4⟩:=put_node (x:=I5 r m y1 y2) p.fit ar bc (ws:=ws) au hl ap (by show 1<1000;omega);have p3:∀z,z≠r->l_ (FC S2 r 0 (w_ t (bn (I5 r m y1 y2)))) z=l_ S2 z:=p3;have bd:∀z∈Bt.j_ (I5 r m y1 y2),z∈Bt.j_ x\/z∈L:=fun z hz=>by
  rw[wJ] at hz
  rcases aj.1 hz with rfl | hz
  ·exact ae hr
  ·exact(an z hz).imp id (hU z)
 refine⟨y1,y2,a1,a2,a3,a4,a5,a6,bb,ok,ap,au,⟨p1,h.t1,h.t2,p2,ok,by rw[ad];exact uR h.G6 n.key,?_,by rw[ad,insB_length];exact n.few,?_,by rw[ad];exact t3,fun z hz hb=>?_,Nat.le_refl 1⟩,ad,bd,p3,p4⟩
 ·rw[ad];intro a ha;exact(a' a ha).frame (p3 _ fun q=>(t4 a.kh (gh.2 ⟨a,ha,ab rfl⟩)).2 (q▸hr)) (p3 _ fun q=>(t4 a.vh (gh.2 ⟨a,ha,ae rfl⟩)).2 (q▸hr))
 ·rw[wJ];exact aG.2 ⟨ai,ba⟩
 grind
end Bt
end
section
open Go.RowKit Tryz Go.BigFrame Go.Maps Go.WideMaps Lf Tr
open Go.Shelf
theorem Bt.trail_le:∀p:List Bool,Bt.trail p<=p.length
 | []=>Nat.le_refl _
 | b::r=>by
  unfold Bt.trail;have:=Bt.trail_le r;rw[ah];split
  ·split<;>omega
  ·omega
theorem uB(t:Nat)(key:List UInt8):∀{d:Nat} (x:Bt d),(Bt.G0 t key x).length<=d
 | 0,x=>nomatch x
 | d+1,x=>by
  unfold Bt.G0;rw[ah];cases h:(Bn.ks x)[Fr key (Bn.es x)]? with
  | none=>simp
  | some k=>have:=uB t key k;simp only;omega
def iD(t:Nat)(key:List UInt8){d:Nat}(x:Bt (d+1)):Nat:=Bt.needB 0 true (Bt.G0 t key x)
theorem oE(t:Nat)(key:List UInt8){d:Nat}(x:Bt (d+1)):iD t key x=Bt.trail (Bt.G0 t key x)+(if(Bt.G0 t key x).all id=true then 1 else 0)/\iD t key x<=d+2:=by
 have h:=Bt.need_zero (Bt.G0 t key x);have h1:=Bt.trail_le (Bt.G0 t key x);have h2:=uB t key x;refine⟨h,?_⟩;unfold iD;rw[h];split<;>omega
theorem ku(w:World)(o1 o2 o3:Obj):D_ w (w.drew.alloc o1)/\D_ w ((w.drew.alloc o1).alloc o2)/\D_ w (((w.drew.alloc o1).alloc o2).alloc o3)/\(((w.drew.alloc o1).alloc o2).alloc o3).1[w.1.size]?=some o1/\(((w.drew.alloc o1).alloc o2).alloc o3).1[w.1.size+1]?=some o2/\(((w.drew.alloc o1).alloc o2).alloc o3).1[w.1.size+2]?=some o3:=by
 have z1:(w.drew.alloc o1).1.size=w.1.size+1:=s_
 have z2:((w.drew.alloc o1).alloc o2).1.size=w.1.size+2:=s_
 have b1:=((aa w.1.size w).drew).alloc Ih o1;have c2:=(aa (w.drew.alloc o1).1.size (w.drew.alloc o1)).alloc Ih o2;have c3:=(aa ((w.drew.alloc o1).alloc o2).1.size ((w.drew.alloc o1).alloc o2)).alloc Ih o3;have q1:=heap_alloc_new w.drew o1;have q2:=heap_alloc_new (w.drew.alloc o1) o2;have q3:=heap_alloc_new ((w.drew.alloc o1).alloc o2) o3;have r1:=(c3.block w.1.size o_).T ((c2.block w.1.size o_).T q1);rw[z1] at q2;rw[z2] at q3;have r2:=(c3.block (w.1.size+1) o_).T q2;exact⟨b1,b1.T (c2.M (by rw[z1];omega)),(b1.T (c2.M (by rw[z1];omega))).T (c3.M (by rw[z2];omega)),r1,r2,q3⟩
theorem qBuaa{P:Prop}(h:P:=by
 rintro en au ⟨rfl,ch,a2,ar,a8,a7⟩;have bo:=T4.2.2.1.size;have ad:I au:=bk _ _ T4.2.2.1 ar;have hold:=(bf.O _ ad).2;have kF:Fo Y w au:=(HK.a.T (Fo.A_ (a5.O.T (T4.2.2.1.M o_)) fun k hk=>by have:=HK.g k hk;have:=HK.a.size;omega)).T (ar.M fun k hk=>⟨ab (ab (ab hk)),by have:=HK.g k hk;omega⟩);obtain⟨x0,x1⟩:=Fp hold;obtain⟨f0,f1⟩:=ef hold;have ap:=kq3 hold a2 kF;clear ar a8 a7 hold a2 kF T4
 try go_simp
 refine hK.O _ _ ad ?_;clear hK K
 try simp only[pu]
 refine eG fun K hK=>?_;go_simp
 try go_simp
 refine hK.O _ _ ad ?_;clear hK K
 try simp only[pu]
 refine eG fun K hK=>?_;go_simp
 try go_simp
 refine hK.O _ _ (a1 _ ad) ?_;clear hK K
 try simp only[pu]
 refine eG fun K hK=>?_;go_simp
 try go_simp
 refine hK.O _ _ (a1 _ ad) ?_;clear hK K
 try simp only[pu]
 refine eG fun K hK=>?_;go_simp
 try go_simp
 refine hK.O _ _ (a1 _ ad) ?_;clear hK K
 try simp only[pu]
 refine dX ?_;go_wp2_with fail;obtain⟨WF,ai⟩:=Ii ((au.setCell (y_ (w.1.size+1)) (Xu 0)).setCell (x_ (w.1.size+1) 1) (Xu 0));rw[ai];have eF:WF.1[w.1.size+1]?=some (.cells #[Xu 0,Xu 0] 104 (0,0)):=by
  rw[<-ai];exact heap_setCell (i:=1) (v:=Xu 0) (heap_setCell (i:=0) (v:=Xu 0) ap.a)
 have a4:Ig WF ps (FC S2 rr 0 (w_ t (Bt.bn (Bt.I5 rr m y1 y2)))) Y:=by
  rw[<-ai];exact(ap.b.write (b:=w.1.size+1) (ab (ab (ae ⟨o_,o_⟩))) ap.a ⟨d_,d_⟩ s_ s_ fun k _ hk=>(FB hk).T (FB hk)).M fun k hk=>ab (ab (ab hk))
 have kF:Fo Y w WF:=by
  rw[<-ai];have a0:∀k,Y k->k≠w.1.size+1:=fun k hk=>by have:=HK.g k hk;omega
  exact(ap.c.T (Fo.mark a0)).T (Fo.mark a0)
 clear ai x0 x1 f0 f1;obtain⟨u0,u1⟩:=Fp eF;exact bodyPost_ret (v:=.tuple #[Xu (rr:Nat),.agg #[Xu 0,Xu 0],.bool false,Xi 0]) (by simp[results,f137,go_sem,u0,u1]) rfl ⟨d+1,Bt.I5 rr m y1 y2,_,o1,rfl,a4,kF,bd.O⟩):P:=h
theorem zI(hins:∀d,j4 d){w:World}{ps:Nat}{S:St}{o:Nat->Nat}{Y:Nat->Prop}(h:Ig w ps S Y){t d:Nat}{x:Bt (d+1)}(hx:Bt.Tree S o t x){e:It}(hn:Bt.New S x e)(hr:fc S (2*iD t e.k x) (iD t e.k x)):
 Ct 137 #[PV ps,Xi t,Xu (Bt.hd x:Nat),Id e.kh e.vh] w fun en w'=>∃(d':Nat) (y:Bt (d'+1)) (S':St) (o':Nat->Nat),en=.returned (.tuple #[Xu (Bt.hd y:Nat),Id 0 0,.bool false,Xi 0])/\Ig w' ps S' Y/\Fo Y w w'/\Bt.Tree S' o' t y/\Bt.its y=Bt.insB e (Bt.its x)/\(∀z∈Bt.j_ y,z∈Bt.j_ x\/l_ S z=none)/\(∀z,z∉Bt.j_ x->l_ S z≠none->l_ S' z=l_ S z)/\ej S S' (2*iD t e.k x) (iD t e.k x):=by
 have B0:=(c_ w (Xe e.kh e.vh)).alloc s_ (.cells #[Xu 0,Xu 0] 104);have z1:(w.alloc (Xe e.kh e.vh)).1.size=w.1.size+1:=s_
 have q1:=heap_alloc_new w (Xe e.kh e.vh);have q2:=heap_alloc_new (w.alloc (Xe e.kh e.vh)) (.cells #[Xu 0,Xu 0] 104);have q1:=(((aa (w.alloc (Xe e.kh e.vh)).1.size (w.alloc (Xe e.kh e.vh))).alloc Ih (.cells #[Xu 0,Xu 0] 104)).block w.1.size s_).T q1;rw[z1] at q2;have hz:((w.alloc (Xe e.kh e.vh)).alloc (.cells #[Xu 0,Xu 0] 104)).1.size=w.1.size+2:=s_
 generalize hW:(w.alloc (Xe e.kh e.vh)).alloc (.cells #[Xu 0,Xu 0] 104)=W0 at*;have A1:=c_ W0 (Xc ps t);have q3:=heap_alloc_new W0 (Xc ps t);have b9:(W0.alloc (Xc ps t)).1.size=w.1.size+3:=by simp[hz]
 have hw:=hx.walk;have hi:=hx.fit.inv;have has:=kZ (h.a_ B0) hi hx.t1 hx.t2;obtain⟨W1,e7⟩:=Ii (W0.alloc (Xc ps t));rw[e7] at A1 q3 b9;have B1:=B0.T (A1.M o_);rw[hz] at q3;have d3:=jt hx.fit hn.G7.lk hn.G7.k;have d1:=iz (h.a_ B1) hi e.kh (Bt.blobs_lt hx.fit hn.G7).1 (by rw[d3];simp);rw[d3] at d1;have q1:=(A1.block _ o_).T q1;have q2:=(A1.block _ o_).T q2;obtain⟨x0,x1⟩:=Fp q1;have H0:=kq7 h hx hn hr hw hi b9;have H1:=kq4 B1 q1 q2 q3;have em:=If has;have eo:=If d1;have iu:Bt.hd x≠0:=(Bt.At.hd_ok hx.fit hx.at').1;have iv:((Bt.hd x:Nat):Int)≠0:=o_
 clear z1 q1 q2 q3 B0 B1 A1 hw hi has d3 d1 h hx hn hr;unfold Id;go_enter func137,ntmps137;go_wp2_with fail;refine em.O.M ?_;rintro en w1 ⟨rfl,rfl⟩;clear hW;go_wp2_with fail;refine eo.O.M ?_;rintro en w2 ⟨rfl,bm⟩;clear x0 x1;have p1:=(bm.block _ (by have:=H0.g;omega)).T H1.b;have p2:=(bm.block _ (by have:=H0.g;omega)).T H1.c;have p3:=(bm.block _ (by have:=H0.g;omega)).T H1.d;have b2:=b_ H1.a bm;obtain⟨x0,x1⟩:=Fp p3;have d2:=kI (H0.a.a_ b2) H0.f H0.e.read;have i3:w.1.size+3<=w2.1.size:=by have:=bm.size;have:=H0.g;omega
 unfold FH eC at d2;have er:=If d2;have H2:=kq4 b2 p1 p2 p3;clear bm p1 p2 p3 b2 d2 eo em H1 e7;go_wp2_with fail;refine er.O.M ?_;rintro en w3 ⟨vk,vv,vc,rfl,rows,ds⟩;obtain⟨Ak,mk,ck,rfl⟩:=rows.k.slice;obtain⟨Av,mv,cv,rfl⟩:=rows.v.slice;obtain⟨Ac,mc,cc,rfl⟩:=rows.c.slice;obtain⟨sz,c7⟩:=Ii (Bt.bn x).size;rw[c7];clear c7;have A3:=c_ w3 (.cells #[.slice Ak mk ck,.slice Av mv cv,.slice Ac mc cc,Xu sz] 215);obtain⟨W3,e8⟩:=Ii (w3.alloc (.cells #[.slice Ak mk ck,.slice Av mv cv,.slice Ac mc cc,Xu sz] 215));rw[e8] at A3;have c3:=b_ ds A3;have p1:=(c3.block _ o_).T H2.b;have p2:=(c3.block _ o_).T H2.c;have p3:=(c3.block _ o_).T H2.d;have B3:=b_ H2.a c3;have i4:w.1.size+3<=W3.1.size:=by have:=c3.size;omega
 have ik:=H0.b.low;have gc:=Bt.findB_none H0.c.key;have cp:=fun W (hw:D_ W3 W)=>pY (H0.a.a_ (b_ B3 hw)) H0.e o_ e.k;rw[gc] at cp;have cq:=nT (R:=none) (cp W3 (aa _ _)) fun W hW=>cp W (by rw[hW];exact(aa _ _).alloc Ih _);unfold i7 Id at cq
 dsimp only[Option.isSome] at cq
 have ep:=If cq;have H3:=kq4 B3 p1 p2 p3;clear A3 c3 p1 p2 p3 B3 gc cp cq x0 x1 ds H2 er rows;go_wp2_with fail;refine ep.O.M ?_;rintro en w4 ⟨rfl,dv⟩;clear e8;go_wp2_with fail;have A4:=c_ w4 (.cells #[Xu 0,Xu 0] 104);obtain⟨W4,dp⟩:=Ii (w4.alloc (.cells #[Xu 0,Xu 0] 104));rw[dp] at A4;rw[dp];clear dp;have c4:=b_ dv A4;have p1:=(c4.block _ o_).T H3.b;have p2:=(c4.block _ o_).T H3.c;have p3:=(c4.block _ o_).T H3.d;have B4:=b_ H3.a c4;have d9:w.1.size+3<=W4.1.size:=by have:=c4.size;omega
 have ek:=H0.a.wide B4;have bj:=fun W (hw:D_ W4 W)=>zN (H0.a.a_ (b_ B4 hw)) H0.e o_ e.k;obtain⟨q,hq⟩:=Ii (iD t e.k x);have i1:q<=22:=by have:=(oE t e.k x).2;omega
 have d8:=H0.d;rw[hq] at d8;have bs:=fun W (hw:D_ W4 W)=>tU (ek.a_ hw) H0.b.fit H0.b.t1 H0.b.t2 q o_ d8;have gn:Bt.needB 0 true (Bt.G0 t e.k x)=q:=hq;rw[gn] at bj;unfold FH at bj bs;have bj:=If bj;have bs:=If bs;have H4:=kq5 B4 p1 p2 p3 ek;have HQ:=If hq;clear A4 c4 p1 p2 p3 B4 ek hq gn d8 dv H3 ep;obtain⟨I,a3,a6⟩:=ic fun w'=>w'.1[w.1.size+2]?=W4.1[w.1.size+2]?;have b9:=fun x:Fq I=>(a3 _ x.ok).T H4.d;obtain⟨r0,r1⟩:=ft b9;have ba:I W4.drew:=a6 _ rfl;have a9:=If a6;clear a3 a6 b9;refine fh I (.take 0 (.take 1 (.take 2 (.take 3 (.go 4 (.go 5 (.take 6 (.take 7 (.take 8 (.go 9 (.go 10 .nil))))))))))) k_ k_ ba ?_
 iterate 4
  refine pT_ ?_
  try simp only[pu]
 refine pD fun K hK=>?_;go_simp;refine(bj.O _ (aa _ W4).drew).M ?_;rintro en w5 ⟨rfl,d0⟩;have e5:I w5:=a9.O _ (d0.block _ d9);have B5:=(aa W4.1.size W4).drew.T d0;have bq:=If B5;clear d0 B5
 try go_simp
 refine hK.O _ _ e5 ?_;clear hK K
 try simp only[pu]
 refine pD fun K hK=>?_;go_simp;refine(bs.O _ bq.O).M ?_;rintro en w6 ⟨rfl,S1,o1,v6,L,hh,eg,he,f6,e6,hf,ga,fv,fw⟩;have cn:I w6:=a9.O _ ((eg.block _ (ae ⟨o_,o_⟩)).T (bq.O.block _ d9));have H6:=kq9 hh eg he f6 e6 hf ga fv fw;clear hh eg he f6 e6 hf ga fv fw
 try go_simp
 refine hK.O _ _ cn ?_;clear hK K
 try simp only[pu]
 iterate 3
  refine pT_ ?_
  try simp only[pu]
 refine pD fun K hK=>?_;go_simp
 try go_simp
 refine hK.O _ _ cn ?_;clear hK K
 try simp only[pu]
 refine pD fun K hK=>?_;go_simp
 try go_simp
 refine hK.O _ _ cn ?_;clear hK K
 try simp only[pu]
 refine eP ?_;have jc:=d9;have k6:∀k,w.1.size<=k->k<W4.1.size->w6.1[k]?=W4.1[k]?:=fun k h1 h2=>(H6.b.block k (ae ⟨h1,h2⟩)).T (bq.O.block k h2);have p1:=(k6 w.1.size o_ o_).T H4.b;have p2:=(k6 (w.1.size+1) o_ o_).T H4.c;have p3:=(k6 (w.1.size+2) o_ o_).T H4.d;obtain⟨x0,x1⟩:=Fp p1;obtain⟨y0,y1⟩:=Fp p3;have bt:Bt.Tree S1 o1 t x:=H0.b.frame H6.d fun y hy=>H6.h y fun hm=>H0.b.has y hy (H6.g y hm);have d4:=Bt.blobs_lt H0.b.fit H0.c.G7;have cw:=hins d 0 H6.a bt.walk bt.j_ o_ H6.c H6.f (fun y hy q=>H0.b.has y (aD _ q) (H6.g y hy)) (ae (ae (ab rfl))) (ae (ab rfl)) (fun b hb=>ae (ae (ae hb))) (by have:=H6.e;omega) H0.c.key bt.lts d4.1 d4.2 (by have h1:=(oE t e.k x).1;have h2:=HQ.O;have h3:=H6.e;omega);unfold FH Id JB at cw;have e0:((0:Nat):Int)=0:=rfl;rw[e0] at cw;have ev:=If cw;have ez:=kq3 bt p2 k6;clear e0 cw bt d4 p1 p2 p3 k6 r0 r1 bj bs a9 ba e5 cn;go_wp2_with fail;refine ev.O.M ?_;rintro en w7 ⟨r,S2,v7,L7,U,rfl,h7⟩;have H7:=If h7;clear h7 ev x0 x1 y0 y1;have b8:=H0.a.yl;have i5:=bq.O.size;have i6:=H6.b.size;have kY:Fo Y w w7:=((Fo.A_ H4.a b8).T (Fo.A_ bq.O fun k hk=>by have:=b8 k hk;omega)).T ((H6.b.M fun k hk=>ab hk).T (H7.O.2.2.2.1.M fun k hk=>⟨ab (ab hk),by have:=b8 k hk;omega⟩));have p2:=(H7.O.2.2.2.1.block (w.1.size+1) ⟨ab (ae ⟨o_,o_⟩),o_⟩).T ez.b;have p3:=(H7.O.2.2.2.1.block (w.1.size+2) ⟨ab (ae ⟨o_,o_⟩),o_⟩).T ((ez.c _ o_ o_).T H4.d);have dn:∀y∈U,y∈L:=fun y hy=>by rw[H7.O.1];exact aE _ hy
 have fn:∀z,z∉Bt.j_ x->z∉L->l_ S2 z=l_ S z:=fun z h1 h2=>(H7.O.2.1.fr z h1 fun q=>h2 (dn z q)).T (H6.h z h2);have f':ej S S2 (2*q) q:=(H6.i.T H7.O.2.1.grew).M o_ o_;have gf:=(gl p2);have hv:=(gl p3);have HK:=kq7 kY p2 p3 dn fn f' b8;clear kY p2 p3 dn fn f' b8
 rcases r with _ | ⟨m,g⟩
 ·dsimp only[ky,iQ]
  go_wp2_with fail;have A8:=c_ w7 (.cells #[.bool false,Xu 0,Xu 0,Xu 0] 274);obtain⟨W8,bb⟩:=Ii (w7.alloc (.cells #[.bool false,Xu 0,Xu 0,Xu 0] 274));rw[bb] at A8;rw[bb];have p2:=(A8.block _ gf).T HK.b;have cb:=H7.O.2.2.1.a_ A8;have k8:Fo Y w W8:=HK.a.T (Fo.A_ A8 fun k hk=>by have:=HK.g k hk;have:=HK.a.size;omega);obtain⟨x0,x1⟩:=Fp p2;obtain⟨f0,f1⟩:=ef p2;have H8:=kq3 p2 cb k8;clear bb A8 p2 cb k8
  go_region
  go_wp2_with fail;obtain⟨WF,ai⟩:=Ii (((W8.setCell (y_ (w.1.size+1)) (Xu 0)).setCell (x_ (w.1.size+1) 1) (Xu 0))).drew;rw[ai];have eF:WF.1[w.1.size+1]?=some (.cells #[Xu 0,Xu 0] 104 (0,0)):=by
   rw[<-ai];exact heap_setCell (i:=1) (v:=Xu 0) (heap_setCell (i:=0) (v:=Xu 0) H8.a)
  have a4:Ig WF ps S2 Y:=by
   rw[<-ai];exact((H8.b.write (b:=w.1.size+1) (ab (ae ⟨o_,o_⟩)) H8.a ⟨d_,d_⟩ s_ s_ fun k _ hk=>(FB hk).T (FB hk)).a_ (aa _ _).drew).M fun k hk=>ab (ab hk)
  have kF:Fo Y w WF:=by
   rw[<-ai];have a0:∀k,Y k->k≠w.1.size+1:=fun k hk=>by have:=HK.g k hk;omega
   exact((H8.c.T (Fo.mark a0)).T (Fo.mark a0)).T ⟨rfl,rfl,rfl,Nat.le_refl _,fun _ _=>rfl⟩
  clear ai x0 x1 f0 f1;obtain⟨u0,u1⟩:=Fp eF;obtain⟨y,bu,bv,b0,b4⟩:=H0.b.insert_none H0.c H6.g H6.h HK.d H7.O.2.1;exact bodyPost_ret (v:=.tuple #[Xu (Bt.hd x:Nat),.agg #[Xu 0,Xu 0],.bool false,Xi 0]) (by simp[results,f137,go_sem,u0,u1]) rfl ⟨d,y,S2,o1,by rw[bu];rfl,a4,kF,bv,b0,fun z hz=>(b4 z hz).imp id fun hu=>H6.g z (HK.d z hu),fun z h1 h2=>HK.e z h1 fun hm=>h2 (H6.g z hm),by rw[HQ.O];exact HK.f⟩
 ·dsimp only[ky,iQ]
  have ht:=H7.O.2.2.2.2.2.2.1;have e':=H7.O.2.2.2.2.2.2.2;have gk:=(oE t e.k x).1;have fb:(Bt.G0 t e.k x).all id=true:=e'.S;rw[if_pos fb,HQ.O] at gk;have dk:L7.length=1:=by
   have h1:=H6.e;have h2:=congrArg List.length H7.O.1;rw[ag] at h2;omega
  obtain⟨rr,c5⟩:∃rr,L7=[]++[rr]:=by
   cases L7 with
   | nil=>simp at dk
   | cons a l=>
    cases l with
    | nil=>exact⟨a,rfl⟩
    | cons b l=>simp at dk
  have cx:rr∈L:=by rw[H7.O.1,c5];simp
  have gp:rr∉U:=fun hm=>by
   have gb:=H6.f.nd;rw[H7.O.1,c5] at gb;exact(aC.1 gb).2.2 rr s_ rr hm rfl
  obtain⟨ws,gv,ed⟩:=H6.f.recs rr cx;obtain⟨y1,y2,bu,bv,b0,b4,g8,g9,ib,g',ha,ee,g0,g4,g5,g6,g7⟩:=H0.b.insert_root H0.c H6.g H6.h HK.d H7.O.2.1 cx gp gv ed;obtain⟨n1,d5⟩:=Ii (Bt.its y1).length;obtain⟨n2,d6⟩:=Ii (Bt.its y2).length;have ea:=fun W Yx hst=>ri (ps:=ps) H7.O.2.1.fit H0.b.t1 H0.b.t2 b0 g8 o_ W Yx hst;have eb:=fun W Yx hst=>ri (ps:=ps) H7.O.2.1.fit H0.b.t1 H0.b.t2 b4 g9 o_ W Yx hst;rw[bu,d5] at ea;rw[bv,d6] at eb;have i0:n1+n2+1<1000000:=o_
  have c6:=H7.O.2.2.2.2.1;rw[c5] at c6;have hA:∀(W:World) (b1 b2 b3:Nat),D_ w7 W->w7.1.size<=b1->w7.1.size<=b2->w7.1.size<=b3->W.1[b1]?=some (.cells #[Xu m.kh] 61 (0,0))->W.1[b2]?=some (.cells #[Xu m.vh] 61 (0,0))->W.1[b3]?=some (.cells #[Xu (Bt.hd x:Nat),Xu g] 61 (0,0))->
   Ct 214 #[.agg #[.slice (some (y_ b1)) 1 1,.slice (some (y_ b2)) 1 1,.slice (some (y_ b3)) 2 2,Xu ((n1:Int)+n2+1)],PV (w5.1.size+1),PV w5.1.size] W fun en w'=>en=.returned (Xu rr)/\∃v',Ig w' ps (FC S2 rr 0 (w_ t (Bt.bn (Bt.I5 rr m y1 y2)))) (fun k=>((Y k\/(w.1.size<=k/\k<W4.1.size))\/iJ w5.1.size (w5.1.size+1) v6 k)\/(w7.1.size<=k/\k<W.1.size))/\Fo (fun k=>(((Y k\/(w.1.size<=k/\k<W4.1.size))\/iJ w5.1.size (w5.1.size+1) v6 k)\/(w7.1.size<=k/\k<W.1.size))/\k≠w5.1.size+1) W w'/\gz w' w5.1.size (w5.1.size+1) (w5.1.size+2) ps t v' []/\v'.ownBlock=v7.ownBlock:=by
   intro W b1 b2 b3 hB g1 g2 g3 e1 e2 e3;have hc:w5.1.size+2<=w7.1.size:=by
    have h1:=(gl c6.box);omega
   have gs:∀(b k:Nat),W.1[b]?=some (.cells #[Xu k] 61 (0,0))->FD W (.slice (some (y_ b)) 1 1) [k]:=fun b k hb=>⟨_,1,rfl,fun i hi=>⟨b,0,rfl,by
    have hi:i=0:=by simp at hi;exact hi
    subst hi;rw[t_ hb]
    rfl⟩⟩
   have h5:FD W (.slice (some (y_ b3)) 2 2) [Bt.hd x,g]:=⟨_,2,rfl,fun i hi=>⟨b3,0,rfl,by
    have hi:i=0\/i=1:=by simp at hi;omega
    rcases hi with rfl | rfl
    ·rw[t_ e3]
     rfl
    ·rw[t_ e3]
     rfl⟩⟩
   have ho:S2.len rr=(6*t,0):=by rw[jw H7.O.2.1.fit.tab ee,ed]
   have hj:∀k∈Bn.ks (Bt.I5 rr m y1 y2),Bt.At S2 t k:=fun k hk=>by
    have hk:k∈ [y1,y2]:=hk
    rcases aj.1 hk with rfl | hk
    ·exact b0
    ·rw[aW.1 hk];exact b4
   have hl:(Bt.bn (Bt.I5 rr m y1 y2)).C_=[Bt.hd x,g]:=by
    show[Bt.hd y1,Bt.hd y2]=_
    rw[bu,bv]
   have c7:(((Bt.bn (Bt.I5 rr m y1 y2)).size:Nat):Int)=(n1:Int)+n2+1:=by
    show (((Bt.its y1++m::Bt.its y2).length:Nat):Int)=_
    rw[ag,ah,d5,d6];omega
   have d7:∀{b n c:Nat},w7.1.size<=b->∀g,(Value.slice (some (y_ b)) n c).ownBlock=some g->g≠w5.1.size+1:=fun hb g hg q=>by
    have hg:=Option.some.inj hg;simp only at hg;omega
   have ec:=pZ (n:=Bt.bn (Bt.I5 rr m y1 y2)) (vk:=.slice (some (y_ b1)) 1 1) (vv:=.slice (some (y_ b2)) 1 1) (vc:=.slice (some (y_ b3)) 2 2) (H7.O.2.2.1.wide hB) H7.O.2.1.fit.inv (c6.keeps fun k hk=>hB.block k ?_) (ab (ae (ae (ab rfl)))) (ab (ae (ab rfl))) (fun b hb=>ab (ae (ae (ae (by rw[<-H7.O.2.2.2.2.2.1];exact hb))))) s_ (Bt.bnok_of H7.O.2.1.fit H0.b.t1 H0.b.t2 hj g') (gs b1 _ e1) (gs b2 _ e2) (by rw[hl];exact h5) (d7 g1) (d7 g2) (d7 g3) (fL H7.O.2.1.fit ee).2.1 ho (kX ha (by show 1<_;omega))
   ·unfold eC at ec;rw[c7] at ec;exact ec
   ·have ih:=H7.O.2.2.1.yl;refine ih k (ae ?_)
    rcases hk with hk | hk | hk
    ·exact ab hk
    ·exact ae (ab hk)
    ·exact ae (ae (by rw[<-H7.O.2.2.2.2.2.1];exact hk))
  have HA:=If hA;have c':=If ea;have dc:=If eb;have HT:=kq6 g0 g4 g5 g6 g7 cx;clear ht e' gk fb dk c5 gp gv ed bu bv b0 b4 g8 g9 ib g' ha ee g0 g4 g5 g6 g7 d5 d6 ea eb c6 hA cx;go_wp2_with fail;have A8:=c_ w7 (.cells #[.bool true,Xu (m.kh:Nat),Xu (m.vh:Nat),Xu g] 274);have p4:=heap_alloc_new w7 (.cells #[.bool true,Xu (m.kh:Nat),Xu (m.vh:Nat),Xu g] 274);obtain⟨W8,bb⟩:=Ii (w7.alloc (.cells #[.bool true,Xu (m.kh:Nat),Xu (m.vh:Nat),Xu g] 274));rw[bb] at A8 p4;rw[bb];clear bb;have p2:=(A8.block _ gf).T HK.b;have p3:=(A8.block _ hv).T HK.c;have h0:=(gl p2);have h4:=(gl p3);have gg:=(gl p4);have cb:=H7.O.2.2.1.a_ A8;obtain⟨I,a3,a6⟩:=ic fun w'=>∀k,k<W8.1.size->w'.1[k]?=W8.1[k]?;have b':=fun x:Fq I=>(a3 _ x.ok _ h4).T p3;have ca:=fun x:Fq I=>(a3 _ x.ok _ gg).T p4;obtain⟨r0,r1⟩:=ft b';obtain⟨s0,s1,s2,s3⟩:=iB ca;have ba:I W8.drew:=a6 _ fun _ _=>rfl;have a9:=If a6;have a':=kq5 A8 p2 p3 p4 cb;have h8:IntKind.i64.wrap ((n1:Int)+n2)=(n1:Int)+n2:=aq _ o_;have h9:IntKind.u64.wrap ((n1:Int)+n2)=(n1:Int)+n2:=bO _ o_;have h':IntKind.u64.wrap ((n1:Int)+n2+1)=(n1:Int)+n2+1:=bO _ o_;unfold FH at c' dc;clear a3 a6 b' ca A8 p2 p3 p4 cb;refine fh I (.take 0 (.take 1 (.take 3 (.take 4 (.take 5 (.go 2 (.go 6 (.take 7 (.take 8 (.take 9 (.go 10 .nil))))))))))) k_ k_ ba ?_
  iterate 5
   refine pT_ ?_
   try simp only[pu]
  refine pD fun K hK=>?_;go_simp;refine(c'.O _ _ (a'.e.a_ (aa _ W8).drew)).M ?_;rintro en w9 ⟨rfl,fm⟩;have B9:=(aa W8.1.size W8).drew.T fm;have cj:=If B9;clear fm B9
  try go_simp
  refine hK.O _ _ (a9.O _ fun k hk=>cj.O.block k hk) ?_;clear hK K
  try simp only[pu]
  refine pD fun K hK=>?_;go_simp;refine(dc.O _ _ (a'.e.a_ cj.O)).M ?_;rintro en an ⟨rfl,fk⟩;have el:=b_ cj.O fk;have bc:=If el;clear fk el
  try go_simp
  refine hK.O _ _ (a9.O _ fun k hk=>bc.O.block k hk) ?_;clear hK K
  try simp only[pu]
  iterate 3
   refine pT_ ?_
   try simp only[pu]
  refine pD fun K hK=>?_;go_simp
  try go_simp
  refine hK.O _ _ (a9.O _ fun k hk=>bc.O.block k hk) ?_;clear hK K
  try simp only[pu]
  refine eP ?_;go_wp2_with fail;clear r0 r1 s0 s1 s2 s3 ba a9 h8 h9 h' c' dc;have h6:=a'.a.size;have i2:=bc.O.size;have hc:=a'.a;have a5:Hid (D_ w7 an):=If (a'.a.T (bc.O.M h6));have e4:Bt.Tree (FC S2 rr 0 (w_ t (Bt.bn (Bt.I5 rr m y1 y2)))) o1 t (Bt.I5 rr m y1 y2)/\Bt.its (Bt.I5 rr m y1 y2)=Bt.insB e (Bt.its x)/\(∀z∈Bt.j_ (Bt.I5 rr m y1 y2),z∈Bt.j_ x\/l_ S z=none)/\(∀z,z∉Bt.j_ x->l_ S z≠none->l_ (FC S2 rr 0 (w_ t (Bt.bn (Bt.I5 rr m y1 y2)))) z=l_ S z)/\ej S (FC S2 rr 0 (w_ t (Bt.bn (Bt.I5 rr m y1 y2)))) (2*iD t e.k x) (iD t e.k x):=by
   obtain⟨t1,t2,t3,t4,t5,t6⟩:=HT.O;refine⟨t1,t2,fun z hz=>(t3 z hz).imp id fun hm=>H6.g z hm,fun z h1 h2=>(t4 z fun q=>h2 (H6.g z (q▸t6))).T (HK.e z h1 fun hm=>h2 (H6.g z hm)),?_⟩;rw[HQ.O];exact(HK.f.T t5).M o_ o_
  have bd:=If e4;obtain⟨I,a3,a6⟩:=ic fun w'=>w'.1[w7.1.size]?=some (.cells #[.bool true,Xu (m.kh:Nat),Xu (m.vh:Nat),Xu g] 274 (0,0))/\w'.1[w.1.size+1]?=some (.cells #[Xu 0,Xu 0] 104 (0,0));have b':=fun x:Fq I=>(a3 _ x.ok).1;have ca:=fun x:Fq I=>(a3 _ x.ok).2;obtain⟨s0,s1,s2,s3⟩:=iB b';obtain⟨r0,r1⟩:=ft ca;have hJ:∀W,D_ an W->I W:=fun W hB=>a6 _ ⟨(hB.block _ o_).T ((bc.O.block _ gg).T a'.d),(hB.block _ o_).T ((bc.O.block _ h0).T a'.b)⟩;have ba:I an.drew:=hJ _ (aa _ an).drew;have bk:∀W w',D_ an W->Fo (fun k=>(((Y k\/(w.1.size<=k/\k<W4.1.size))\/iJ w5.1.size (w5.1.size+1) v6 k)\/(w7.1.size<=k/\k<W.1.size))/\k≠w5.1.size+1) W w'->I w':=fun W w' hB hk=>by
   have bo:=hB.size;have i':=H7.O.2.2.2.1.size;have ii:=(gl H7.O.2.2.2.2.1.box);have h1:=a3 _ (hJ W hB);exact a6 _ ⟨(hk.block _ ⟨ae ⟨Nat.le_refl _,o_⟩,o_⟩).T h1.1,(hk.block _ ⟨ab (ab (ae ⟨o_,o_⟩)),o_⟩).T h1.2⟩
  have a1:∀w',I w'->I ((w'.setCell (y_ (w.1.size+1)) (Xu 0)).setCell (x_ (w.1.size+1) 1) (Xu 0)):=fun w' hi=>a6 _ ⟨((FB o_).T (FB o_)).T (a3 _ hi).1,heap_setCell (i:=1) (v:=Xu 0) (heap_setCell (i:=0) (v:=Xu 0) (a3 _ hi).2)⟩;have HJ:=If hJ;have bf:=If a3;clear b' ca a3 a6 hc e4;refine Fi I (.take 0 (.take 1 (.take 2 (.take 3 (.take 5 (.take 6 (.take 7 (.take 9 (.take 10 (.take 11 (.take 13 (.take 16 (.three 4 8 12 (.two 8 12 (.go 12 (.take 14 (.go 15 (.go 17 (.go 18 (.go 19 (.go 20 .nil))))))) (.go 8 (.take 14 (.go 15 (.go 17 (.go 18 (.go 19 (.go 20 .nil)))))))) (.two 4 12 (.go 12 (.take 14 (.go 15 (.go 17 (.go 18 (.go 19 (.go 20 .nil))))))) (.go 4 (.take 14 (.go 15 (.go 17 (.go 18 (.go 19 (.go 20 .nil)))))))) (.two 4 8 (.go 8 (.take 14 (.go 15 (.go 17 (.go 18 (.go 19 (.go 20 .nil))))))) (.go 4 (.take 14 (.go 15 (.go 17 (.go 18 (.go 19 (.go 20 .nil))))))))))))))))))))) k_ k_ ba ?_
  iterate 12
   refine' lq ?_ ?_;rotate_left
   ·intro x;go_simp
    try rfl
   try simp only[pu]
  clear s0 s1 s2 s3 r0 r1;refine Dx ?_ ?_ ?_
  ·have T4:=ku an (Xf (m.kh:Nat)) (Xf (m.kh:Nat)) (Xf (m.kh:Nat));refine eG fun K hK=>?_;go_simp
   try go_simp
   refine hK.O _ _ (HJ.O _ T4.1) ?_;clear hK K
   try simp only[pu]
   clear T4;refine rP ?_ ?_
   ·have T4:=ku an (Xf (m.kh:Nat)) (Xf (m.vh:Nat)) (.cells #[Xu (Bt.hd x:Nat),Xu g] 61);refine eG fun K hK=>?_;go_simp
    try go_simp
    refine hK.O _ _ (HJ.O _ T4.2.1) ?_;clear hK K
    try simp only[pu]
    refine eG fun K hK=>?_;go_simp
    try go_simp
    refine hK.O _ _ (HJ.O _ T4.2.2.1) ?_;clear hK K
    try simp only[pu]
    refine' lq ?_ ?_;rotate_left
    ·intro x;go_simp
     try rfl
    try simp only[pu]
    refine eG fun K hK=>?_;go_simp;refine(HA.O _ an.1.size (an.1.size+1) (an.1.size+2) (a5.O.T (T4.2.2.1.M o_)) o_ o_ o_ T4.2.2.2.1 T4.2.2.2.2.1 T4.2.2.2.2.2).M ?_;exact qBuaa
   ·have T4:=ku an (Xf (m.kh:Nat)) (.cells #[Xu (Bt.hd x:Nat),Xu g] 61) (Xf (m.vh:Nat));refine eG fun K hK=>?_;go_simp
    try go_simp
    refine hK.O _ _ (HJ.O _ T4.2.1) ?_;clear hK K
    try simp only[pu]
    refine eG fun K hK=>?_;go_simp
    try go_simp
    refine hK.O _ _ (HJ.O _ T4.2.2.1) ?_;clear hK K
    try simp only[pu]
    refine' lq ?_ ?_;rotate_left
    ·intro x;go_simp
     try rfl
    try simp only[pu]
    refine eG fun K hK=>?_;go_simp;refine(HA.O _ an.1.size (an.1.size+2) (an.1.size+1) (a5.O.T (T4.2.2.1.M o_)) o_ o_ o_ T4.2.2.2.1 T4.2.2.2.2.2 T4.2.2.2.2.1).M ?_;exact qBuaa
  ·have T4:=ku an (Xf (m.vh:Nat)) (Xf (m.vh:Nat)) (Xf (m.vh:Nat));refine eG fun K hK=>?_;go_simp
   try go_simp
   refine hK.O _ _ (HJ.O _ T4.1) ?_;clear hK K
   try simp only[pu]
   clear T4;refine rP ?_ ?_
   ·have T4:=ku an (Xf (m.vh:Nat)) (Xf (m.kh:Nat)) (.cells #[Xu (Bt.hd x:Nat),Xu g] 61);refine eG fun K hK=>?_;go_simp
    try go_simp
    refine hK.O _ _ (HJ.O _ T4.2.1) ?_;clear hK K
    try simp only[pu]
    refine eG fun K hK=>?_;go_simp
    try go_simp
    refine hK.O _ _ (HJ.O _ T4.2.2.1) ?_;clear hK K
    try simp only[pu]
    refine' lq ?_ ?_;rotate_left
    ·intro x;go_simp
     try rfl
    try simp only[pu]
    refine eG fun K hK=>?_;go_simp;refine(HA.O _ (an.1.size+1) an.1.size (an.1.size+2) (a5.O.T (T4.2.2.1.M o_)) o_ o_ o_ T4.2.2.2.2.1 T4.2.2.2.1 T4.2.2.2.2.2).M ?_;exact qBuaa
   ·have T4:=ku an (Xf (m.vh:Nat)) (.cells #[Xu (Bt.hd x:Nat),Xu g] 61) (Xf (m.kh:Nat));refine eG fun K hK=>?_;go_simp
    try go_simp
    refine hK.O _ _ (HJ.O _ T4.2.1) ?_;clear hK K
    try simp only[pu]
    refine eG fun K hK=>?_;go_simp
    try go_simp
    refine hK.O _ _ (HJ.O _ T4.2.2.1) ?_;clear hK K
    try simp only[pu]
    refine' lq ?_ ?_;rotate_left
    ·intro x;go_simp
     try rfl
    try simp only[pu]
    refine eG fun K hK=>?_;go_simp;refine(HA.O _ (an.1.size+2) an.1.size (an.1.size+1) (a5.O.T (T4.2.2.1.M o_)) o_ o_ o_ T4.2.2.2.2.2 T4.2.2.2.1 T4.2.2.2.2.1).M ?_;exact qBuaa
  ·have T4:=ku an (.cells #[Xu (Bt.hd x:Nat),Xu g] 61) (.cells #[Xu (Bt.hd x:Nat),Xu g] 61) (.cells #[Xu (Bt.hd x:Nat),Xu g] 61);refine eG fun K hK=>?_;go_simp
   try go_simp
   refine hK.O _ _ (HJ.O _ T4.1) ?_;clear hK K
   try simp only[pu]
   clear T4;refine rP ?_ ?_
   ·have T4:=ku an (.cells #[Xu (Bt.hd x:Nat),Xu g] 61) (Xf (m.kh:Nat)) (Xf (m.vh:Nat));refine eG fun K hK=>?_;go_simp
    try go_simp
    refine hK.O _ _ (HJ.O _ T4.2.1) ?_;clear hK K
    try simp only[pu]
    refine eG fun K hK=>?_;go_simp
    try go_simp
    refine hK.O _ _ (HJ.O _ T4.2.2.1) ?_;clear hK K
    try simp only[pu]
    refine' lq ?_ ?_;rotate_left
    ·intro x;go_simp
     try rfl
    try simp only[pu]
    refine eG fun K hK=>?_;go_simp;refine(HA.O _ (an.1.size+1) (an.1.size+2) an.1.size (a5.O.T (T4.2.2.1.M o_)) o_ o_ o_ T4.2.2.2.2.1 T4.2.2.2.2.2 T4.2.2.2.1).M ?_;exact qBuaa
   ·have T4:=ku an (.cells #[Xu (Bt.hd x:Nat),Xu g] 61) (Xf (m.vh:Nat)) (Xf (m.kh:Nat));refine eG fun K hK=>?_;go_simp
    try go_simp
    refine hK.O _ _ (HJ.O _ T4.2.1) ?_;clear hK K
    try simp only[pu]
    refine eG fun K hK=>?_;go_simp
    try go_simp
    refine hK.O _ _ (HJ.O _ T4.2.2.1) ?_;clear hK K
    try simp only[pu]
    refine' lq ?_ ?_;rotate_left
    ·intro x;go_simp
     try rfl
    try simp only[pu]
    refine eG fun K hK=>?_;go_simp;refine(HA.O _ (an.1.size+2) (an.1.size+1) an.1.size (a5.O.T (T4.2.2.1.M o_)) o_ o_ o_ T4.2.2.2.2.2 T4.2.2.2.2.1 T4.2.2.2.1).M ?_;exact qBuaa
namespace Bt
structure Empty (S:St) (o:Nat->Nat) (t:Nat):Prop where
 fit:Fw S o
 t1:2<=t
 t2:t<=16
structure First (S:St) (e:It):Prop where
 G7:gu S e
 ne:e.kh≠e.vh
def leafOf(r:Nat)(e:It):Bt 1:=(⟨r,[e],[]⟩:Bn (Bt 0))
theorem first_tree {S:St}{o:Nat->Nat}{t:Nat}(h:Empty S o t){e:It}(n:First S e){r:Nat}{ws:List Nat}(hw:l_ S r=some ws)(hl:ws.length=6*t)(hk:r≠e.kh)(hv:r≠e.vh):
 Ok t (leafOf r e)/\iT (bn (leafOf r e))/\Tree (FC S r 0 (w_ t (bn (leafOf r e)))) o t (leafOf r e)/\(∀z,z≠r->l_ (FC S r 0 (w_ t (bn (leafOf r e)))) z=l_ S z)/\ej S (FC S r 0 (w_ t (bn (leafOf r e)))) 0 0:=by
 have t1:=h.t1;have ok:Ok t (leafOf r e):=⟨by show 1<=2*t-1;omega,rfl,fun k hk=>by have hk:k∈([]:List (Bt 0)):=hk;simp at hk⟩;have an:∀k∈Bn.ks (leafOf r e),At S t k:=fun k hk=>by have hk:k∈([]:List (Bt 0)):=hk;simp at hk
 have ad:its (leafOf r e)=[e]:=its_leaf _;have hb:=blobs_lt h.fit n.G7;have ai:iT (bn (leafOf r e)):=bnLt_of h.fit (fun a ha=>by
  have ha:a∈ [e]:=ha;rw[aW.1 ha];exact hb) an (by rw[ad];show 1<_;omega)
 obtain⟨p1,p2,p3,p4⟩:=put_node (x:=leafOf r e) h.fit an (fun k hk=>by have hk:k∈([]:List (Bt 0)):=hk;simp at hk) (ws:=ws) hw hl ai (by show 1<1000;omega);have p3:∀z,z≠r->l_ (FC S r 0 (w_ t (bn (leafOf r e)))) z=l_ S z:=p3;have ap:Bt.j_ (leafOf r e)=[r]:=by rw[jQ];rfl
 refine⟨ok,ai,⟨p1,h.t1,h.t2,p2,ok,by rw[ad];exact List.pairwise_singleton _ _,?_,by rw[ad];show 1<_;omega,by rw[ap];simp,?_,?_,Nat.le_refl 1⟩,p3,p4⟩
 ·rw[ad];intro a ha;rw[aW.1 ha];exact n.G7.frame (p3 _ (Ne.S hk)) (p3 _ (Ne.S hv))
 ·rw[ad]
  show[e.kh,e.vh].Nodup
  simp[n.ne]
 ·rw[ad,ap];intro z hz hm;rw[aW.1 hz] at hm;have hm:r∈ [e.kh,e.vh]:=hm
  simp at hm
  exact hm.elim hk hv
end Bt
theorem xP(w:World)(o1 o2:Obj):D_ w (w.drew.alloc o1)/\D_ w ((w.drew.alloc o1).alloc o2)/\((w.drew.alloc o1).alloc o2).1[w.1.size]?=some o1/\((w.drew.alloc o1).alloc o2).1[w.1.size+1]?=some o2:=by
 have z1:(w.drew.alloc o1).1.size=w.1.size+1:=s_
 have b1:=((aa w.1.size w).drew).alloc Ih o1;have c2:=(aa (w.drew.alloc o1).1.size (w.drew.alloc o1)).alloc Ih o2;have q1:=heap_alloc_new w.drew o1;have q2:=heap_alloc_new (w.drew.alloc o1) o2;have r1:=(c2.block w.1.size o_).T q1;rw[z1] at q2;exact⟨b1,b1.T (c2.M (by rw[z1];omega)),r1,q2⟩
theorem qBuab{P:Prop}(h:P:=by
 rintro en a1 ⟨rfl,eg,a',a0,cc,cb⟩;have ad:I a1:=c6 _ _ T4.2.1 a0;have hold:=(cw.O _ ad).2;have kF:Fo Y w a1:=(HK.a.T (Fo.A_ T4.2.1 fun k hk=>by have:=HK.d k hk;omega)).T (a0.M fun k hk=>⟨ab (ab hk),by have:=HK.d k hk;omega⟩);obtain⟨x0,x1⟩:=Fp hold;obtain⟨f0,f1⟩:=ef hold;have ap:=kq3 hold a' kF;clear a0 cc cb hold a' kF T4
 try go_simp
 refine hK.O _ _ ad ?_;clear hK K
 try simp only[pu]
 refine pD fun K hK=>?_;go_simp
 try go_simp
 refine hK.O _ _ ad ?_;clear hK K
 try simp only[pu]
 refine pD fun K hK=>?_;go_simp
 try go_simp
 refine hK.O _ _ (a2 _ ad) ?_;clear hK K
 try simp only[pu]
 refine pD fun K hK=>?_;go_simp
 try go_simp
 refine hK.O _ _ (a2 _ ad) ?_;clear hK K
 try simp only[pu]
 refine pD fun K hK=>?_;go_simp
 try go_simp
 refine hK.O _ _ (a2 _ ad) ?_;clear hK K
 try simp only[pu]
 refine eP ?_;go_wp2_with fail;obtain⟨WF,ai⟩:=Ii ((a1.setCell (y_ (w.1.size+1)) (Xu 0)).setCell (x_ (w.1.size+1) 1) (Xu 0));rw[ai];have eF:WF.1[w.1.size+1]?=some (.cells #[Xu 0,Xu 0] 104 (0,0)):=by
  rw[<-ai];exact heap_setCell (i:=1) (v:=Xu 0) (heap_setCell (i:=0) (v:=Xu 0) ap.a)
 have cj:Ig WF ps (FC S1 rr 0 (w_ t (Bt.bn (Bt.leafOf rr e)))) Y:=by
  rw[<-ai];exact(ap.b.write (b:=w.1.size+1) (ab (ae ⟨o_,o_⟩)) ap.a ⟨d_,d_⟩ s_ s_ fun k _ hk=>(FB hk).T (FB hk)).M fun k hk=>ab (ab hk)
 have kF:Fo Y w WF:=by
  rw[<-ai];have a7:∀k,Y k->k≠w.1.size+1:=fun k hk=>by have:=HK.d k hk;omega
  exact(ap.c.T (Fo.mark a7)).T (Fo.mark a7)
 clear ai x0 x1 f0 f1;obtain⟨u0,u1⟩:=Fp eF;exact bodyPost_ret (v:=.tuple #[Xu (rr:Nat),.agg #[Xu 0,Xu 0],.bool false,Xi 0]) (by simp[results,f137,go_sem,u0,u1]) rfl ⟨Bt.leafOf rr e,_,o1,rfl,cj,kF,cq.O⟩):P:=h
theorem zH {w:World}{ps:Nat}{S:St}{o:Nat->Nat}{Y:Nat->Prop}(h:Ig w ps S Y){t:Nat}(hx:Bt.Empty S o t){e:It}(hn:Bt.First S e)(hr:fc S (2*1) 1):
 Ct 137 #[PV ps,Xi t,Xu 0,Id e.kh e.vh] w fun en w'=>∃(y:Bt 1) (S':St) (o':Nat->Nat),en=.returned (.tuple #[Xu (Bt.hd y:Nat),Id 0 0,.bool false,Xi 0])/\Ig w' ps S' Y/\Fo Y w w'/\Bt.Tree S' o' t y/\Bt.its y=[e]/\(∀z∈Bt.j_ y,l_ S z=none)/\(∀z,l_ S z≠none->l_ S' z=l_ S z)/\ej S S' 2 1:=by
 have B0:=(c_ w (Xe e.kh e.vh)).alloc s_ (.cells #[Xu 0,Xu 0] 104);have z1:(w.alloc (Xe e.kh e.vh)).1.size=w.1.size+1:=s_
 have q1:=heap_alloc_new w (Xe e.kh e.vh);have q2:=heap_alloc_new (w.alloc (Xe e.kh e.vh)) (.cells #[Xu 0,Xu 0] 104);have q1:=(((aa (w.alloc (Xe e.kh e.vh)).1.size (w.alloc (Xe e.kh e.vh))).alloc Ih (.cells #[Xu 0,Xu 0] 104)).block w.1.size s_).T q1;rw[z1] at q2;have hz:((w.alloc (Xe e.kh e.vh)).alloc (.cells #[Xu 0,Xu 0] 104)).1.size=w.1.size+2:=s_
 generalize hW:(w.alloc (Xe e.kh e.vh)).alloc (.cells #[Xu 0,Xu 0] 104)=W0 at*;have A1:=c_ W0 (Xc ps t);have q3:=heap_alloc_new W0 (Xc ps t);have a9:(W0.alloc (Xc ps t)).1.size=w.1.size+3:=by simp[hz]
 have hi:=hx.fit.inv;have hw:=hi;have d0:S.len 0=(0,7):=fU S;have has:=kZ (h.a_ B0) hi hx.t1 hx.t2;obtain⟨W1,c'⟩:=Ii (W0.alloc (Xc ps t));rw[c'] at A1 q3 a9;have B1:=B0.T (A1.M o_);rw[hz] at q3;have b4:=jt hx.fit hn.G7.lk hn.G7.k;have bu:=iz (h.a_ B1) hi e.kh (Bt.blobs_lt hx.fit hn.G7).1 (by rw[b4];simp);rw[b4] at bu;have q1:=(A1.block _ o_).T q1;have q2:=(A1.block _ o_).T q2;obtain⟨x0,x1⟩:=Fp q1;have H0:=kq7 h hx hn hr hw hi a9;have H1:=kq4 B1 q1 q2 q3;have ck:=If has;have cn:=If bu;clear z1 q1 q2 q3 B0 B1 A1 hw hi has b4 bu h hx hn hr;unfold Id;go_enter func137,ntmps137;go_wp2_with fail;refine ck.O.M ?_;rintro en w1 ⟨rfl,rfl⟩;clear hW;go_wp2_with fail;refine cn.O.M ?_;rintro en w2 ⟨rfl,a3⟩;clear x0 x1;have p1:=(a3.block _ (by have:=H0.g;omega)).T H1.b;have p2:=(a3.block _ (by have:=H0.g;omega)).T H1.c;have p3:=(a3.block _ (by have:=H0.g;omega)).T H1.d;have b2:=b_ H1.a a3;obtain⟨x0,x1⟩:=Fp p3;have b0:=nQ (H0.a.a_ b2) H0.f H0.b.t1 H0.b.t2 0 o_ d0;have el:w.1.size+3<=w2.1.size:=by have:=a3.size;have:=H0.g;omega
 unfold FH eC at b0;have cv:=If b0;have H2:=kq4 b2 p1 p2 p3;clear a3 p1 p2 p3 b2 b0 cn ck H1 c';go_wp2_with fail;refine cv.O.M ?_;rintro en w3 ⟨rfl,bq⟩;go_wp2_with fail;have A3:=c_ w3 (.cells #[n_,n_,n_,Xu 0] 215);obtain⟨W3,bm⟩:=Ii (w3.alloc (.cells #[n_,n_,n_,Xu 0] 215));rw[bm] at A3;rw[bm];clear bm;have c3:=b_ bq A3;have p1:=(c3.block _ o_).T H2.b;have p2:=(c3.block _ o_).T H2.c;have p3:=(c3.block _ o_).T H2.d;have B3:=b_ H2.a c3;have em:w.1.size+3<=W3.1.size:=by have:=c3.size;omega
 have bv:=fun W (hw:D_ W3 W)=>tT (H0.a.a_ (b_ B3 hw)) H0.f H0.b.t1 H0.b.t2 0 o_ d0 e.k;have bc:=nT (R:=none) (bv W3 (aa _ _)) fun W hW=>bv W (by rw[hW];exact(aa _ _).alloc Ih _);unfold i7 Id at bc
 dsimp only[Option.isSome] at bc
 have cp:=If bc;have H3:=kq4 B3 p1 p2 p3;clear A3 c3 p1 p2 p3 B3 bv bc x0 x1 bq H2 cv;refine cp.O.M ?_;rintro en w4 ⟨rfl,bs⟩;go_wp2_with fail;have A4:=c_ w4 (.cells #[Xu 0,Xu 0] 104);obtain⟨W4,bo⟩:=Ii (w4.alloc (.cells #[Xu 0,Xu 0] 104));rw[bo] at A4;rw[bo];clear bo;have c4:=b_ bs A4;have p1:=(c4.block _ o_).T H3.b;have p2:=(c4.block _ o_).T H3.c;have p3:=(c4.block _ o_).T H3.d;have B4:=b_ H3.a c4;have d4:w.1.size+3<=W4.1.size:=by have:=c4.size;omega
 have ch:=H0.a.wide B4;have a6:=fun W (_:D_ W4 W)=>zO W ps t e.k;have a5:=fun W (hw:D_ W4 W)=>tU (ch.a_ hw) H0.b.fit H0.b.t1 H0.b.t2 1 o_ H0.d;unfold FH at a6 a5;have a6:=If a6;have a5:=If a5;have H4:=kq5 B4 p1 p2 p3 ch;clear A4 c4 p1 p2 p3 B4 ch bs H3 cp;obtain⟨I,an,ar⟩:=ic fun w'=>w'.1[w.1.size+2]?=W4.1[w.1.size+2]?;have a9:=fun x:Fq I=>(an _ x.ok).T H4.d;obtain⟨r0,r1⟩:=ft a9;have ba:I W4.drew:=ar _ rfl;have bj:=If ar;clear an ar a9;refine fh I (.take 0 (.take 1 (.take 2 (.take 3 (.go 4 (.go 5 (.take 6 (.take 7 (.take 8 (.go 9 (.go 10 .nil))))))))))) k_ k_ ba ?_
 iterate 4
  refine pT_ ?_
  try simp only[pu]
 refine pD fun K hK=>?_;go_simp;refine(a6.O _ (aa _ W4).drew).M ?_;rintro en w5 ⟨rfl,bt⟩;have c5:I w5:=bj.O _ (bt.block _ d4);have B5:=(aa W4.1.size W4).drew.T bt;have a4:=If B5;clear bt B5
 try go_simp
 refine hK.O _ _ c5 ?_;clear hK K
 try simp only[pu]
 refine pD fun K hK=>?_;go_simp;refine(a5.O _ a4.O).M ?_;rintro en w6 ⟨rfl,S1,o1,v6,L,eb,ca,d',f6,c7,ea,d1,au,ds⟩;have bb:I w6:=bj.O _ ((ca.block _ (ae ⟨o_,o_⟩)).T (a4.O.block _ d4));have H6:=kq9 eb ca d' f6 c7 ea d1 au ds;clear eb ca d' f6 c7 ea d1 au ds
 try go_simp
 refine hK.O _ _ bb ?_;clear hK K
 try simp only[pu]
 iterate 3
  refine pT_ ?_
  try simp only[pu]
 refine pD fun K hK=>?_;go_simp
 try go_simp
 refine hK.O _ _ bb ?_;clear hK K
 try simp only[pu]
 refine pD fun K hK=>?_;go_simp
 try go_simp
 refine hK.O _ _ bb ?_;clear hK K
 try simp only[pu]
 refine eP ?_;have k6:∀k,w.1.size<=k->k<W4.1.size->w6.1[k]?=W4.1[k]?:=fun k h1 h2=>(H6.b.block k (ae ⟨h1,h2⟩)).T (a4.O.block k h2);have p1:=(k6 w.1.size o_ o_).T H4.b;have p2:=(k6 (w.1.size+1) o_ o_).T H4.c;have bf:=H0.a.yl;have eo:=a4.O.size;have ep:=H6.b.size;have kY:Fo Y w w6:=((Fo.A_ H4.a bf).T (Fo.A_ a4.O fun k hk=>by have:=bf k hk;omega)).T (H6.b.M fun k hk=>ab hk);have bk:=H6.e;obtain⟨rr,ee⟩:∃rr,L=[]++[rr]:=by
  cases L with
  | nil=>simp at bk
  | cons a l=>
   cases l with
   | nil=>exact⟨a,rfl⟩
   | cons b l=>simp at bk
 subst ee;obtain⟨ws,bd,b'⟩:=H6.f.recs rr s_;have a8:=H6.g rr s_;have b8:rr≠e.kh:=fun q=>by have:=H0.c.G7.k;rw[<-q,a8] at this;cases this
 have b9:rr≠e.vh:=fun q=>by have:=H0.c.G7.v;rw[<-q,a8] at this;cases this
 have au:∀z,z≠rr->l_ S1 z=l_ S z:=fun z hz=>H6.h z (by simpa using hz);have dk:Bt.Empty S1 o1 t:=⟨H6.d,H0.b.t1,H0.b.t2⟩;have dp:Bt.First S1 e:=⟨H0.c.G7.frame (au _ (Ne.S b8)) (au _ (Ne.S b9)),H0.c.ne⟩;obtain⟨ok,dc,d6,dn,dv⟩:=Bt.first_tree dk dp bd b' b8 b9;have hA:∀(W:World) (b1 b2:Nat),D_ w6 W->w6.1.size<=b1->w6.1.size<=b2->W.1[b1]?=some (.cells #[Xu e.kh] 61 (0,0))->W.1[b2]?=some (.cells #[Xu e.vh] 61 (0,0))->
  Ct 214 #[.agg #[.slice (some (y_ b1)) 1 1,.slice (some (y_ b2)) 1 1,n_,Xu 1],PV (w5.1.size+1),PV w5.1.size] W fun en w'=>en=.returned (Xu rr)/\∃v',Ig w' ps (FC S1 rr 0 (w_ t (Bt.bn (Bt.leafOf rr e)))) (fun k=>(Y k\/(w.1.size<=k/\k<W4.1.size))\/iJ w5.1.size (w5.1.size+1) v6 k)/\Fo (fun k=>((Y k\/(w.1.size<=k/\k<W4.1.size))\/iJ w5.1.size (w5.1.size+1) v6 k)/\k≠w5.1.size+1) W w'/\gz w' w5.1.size (w5.1.size+1) (w5.1.size+2) ps t v' []/\v'.ownBlock=v6.ownBlock:=by
  intro W b1 b2 hB g1 g2 e1 e2;have er:w5.1.size+2<=w6.1.size:=by
   have h1:=(gl H6.c.box);omega
  have d3:∀(b k:Nat),W.1[b]?=some (.cells #[Xu k] 61 (0,0))->FD W (.slice (some (y_ b)) 1 1) [k]:=fun b k hb=>⟨_,1,rfl,fun i hi=>⟨b,0,rfl,by
   have hi:i=0:=by simp at hi;exact hi
   subst hi;rw[t_ hb]
   rfl⟩⟩
  have ed:FD W n_ []:=⟨none,0,rfl,fun i hi=>absurd hi s_⟩;have ec:S1.len rr=(6*t,0):=by rw[jw H6.d.tab bd,b']
  have d2:∀{b n c:Nat},w6.1.size<=b->∀g,(Value.slice (some (y_ b)) n c).ownBlock=some g->g≠w5.1.size+1:=fun hb g hg q=>by
   have hg:=Option.some.inj hg;simp only at hg;omega
  have d5:=pZ (n:=Bt.bn (Bt.leafOf rr e)) (vk:=.slice (some (y_ b1)) 1 1) (vv:=.slice (some (y_ b2)) 1 1) (vc:=.slice none 0 0) (H6.a.a_ hB) H6.d.inv (H6.c.keeps fun k hk=>hB.block k (H6.a.yl k (ae hk))) (ae (ae (ab rfl))) (ae (ab rfl)) (fun b hb=>ae (ae (ae hb))) s_ (Bt.bnok_of H6.d H0.b.t1 H0.b.t2 (fun k hk=>by have hk:k∈([]:List (Bt 0)):=hk;simp at hk) ok) (d3 b1 _ e1) (d3 b2 _ e2) ed (d2 g1) (d2 g2) (fun g hg=>nomatch hg) (fL H6.d bd).2.1 ec (kX (t:=t) dc (by show 1<_;omega));unfold eC at d5;exact d5
 have cx:Bt.Tree (FC S1 rr 0 (w_ t (Bt.bn (Bt.leafOf rr e)))) o1 t (Bt.leafOf rr e)/\Bt.its (Bt.leafOf rr e)=[e]/\(∀z∈Bt.j_ (Bt.leafOf rr e),l_ S z=none)/\(∀z,l_ S z≠none->l_ (FC S1 rr 0 (w_ t (Bt.bn (Bt.leafOf rr e)))) z=l_ S z)/\ej S (FC S1 rr 0 (w_ t (Bt.bn (Bt.leafOf rr e)))) 2 1:=by
  refine⟨d6,Bt.its_leaf _,fun z hz=>?_,fun z hz=>?_,(H6.i.T dv).M o_ o_⟩
  ·have hz:z∈ [rr]:=hz;rw[aW.1 hz];exact a8
  ·have d9:z≠rr:=fun q=>hz (q▸a8);exact(dn z d9).T (au z d9)
 have HA:=If hA;have cq:=If cx;have ek:=(gl p2);have HK:=kq4 kY p2 p1 bf;obtain⟨x0,x1⟩:=Fp p1;clear bk bd b' a8 b8 b9 au dk dp ok dc d6 dn dv hA cx kY p1 p2 k6 bf r0 r1 a6 a5 bj ba c5 bb;go_wp2_with fail;obtain⟨I,an,ar⟩:=ic fun w'=>w'.1[w.1.size]?=some (.cells #[Xu e.kh,Xu e.vh] 104 (0,0))/\w'.1[w.1.size+1]?=some (.cells #[Xu 0,Xu 0] 104 (0,0));have d7:=fun x:Fq I=>(an _ x.ok).1;have d8:=fun x:Fq I=>(an _ x.ok).2;obtain⟨s0,s1⟩:=ft d7;obtain⟨r0,r1⟩:=ft d8;have hJ:∀W,D_ w6 W->I W:=fun W hB=>ar _ ⟨(hB.block _ o_).T HK.c,(hB.block _ o_).T HK.b⟩;have ba:I w6.drew:=hJ _ (aa _ w6).drew;have c6:∀W w',D_ w6 W->Fo (fun k=>((Y k\/(w.1.size<=k/\k<W4.1.size))\/iJ w5.1.size (w5.1.size+1) v6 k)/\k≠w5.1.size+1) W w'->I w':=fun W w' hB hk=>by
  have h1:=an _ (hJ W hB);exact ar _ ⟨(hk.block _ ⟨ab (ae ⟨o_,o_⟩),o_⟩).T h1.1,(hk.block _ ⟨ab (ae ⟨o_,o_⟩),o_⟩).T h1.2⟩
 have a2:∀w',I w'->I ((w'.setCell (y_ (w.1.size+1)) (Xu 0)).setCell (x_ (w.1.size+1) 1) (Xu 0)):=fun w' hi=>ar _ ⟨((FB o_).T (FB o_)).T (an _ hi).1,heap_setCell (i:=1) (v:=Xu 0) (heap_setCell (i:=0) (v:=Xu 0) (an _ hi).2)⟩;have HJ:=If hJ;have cw:=If an;clear d7 d8 an ar x0 x1;refine fh I (.take 0 (.take 1 (.take 2 (.take 4 (.take 5 (.take 9 (.two 3 6 (.go 6 (.take 7 (.go 8 (.go 10 (.go 11 (.go 12 (.go 13 .nil))))))) (.go 3 (.take 7 (.go 8 (.go 10 (.go 11 (.go 12 (.go 13 .nil)))))))))))))) k_ k_ ba ?_
 iterate 6
  refine pT_ ?_
  try simp only[pu]
 clear s0 s1 r0 r1;refine gL ?_ ?_
 ·have T4:=xP w6 (Xf (e.kh:Nat)) (Xf (e.vh:Nat));refine pD fun K hK=>?_;go_simp
  try go_simp
  refine hK.O _ _ (HJ.O _ T4.1) ?_;clear hK K
  try simp only[pu]
  refine pD fun K hK=>?_;go_simp
  try go_simp
  refine hK.O _ _ (HJ.O _ T4.2.1) ?_;clear hK K
  try simp only[pu]
  refine pT_ ?_
  try simp only[pu]
  refine pD fun K hK=>?_;go_simp;refine(HA.O _ w6.1.size (w6.1.size+1) T4.2.1 o_ o_ T4.2.2.1 T4.2.2.2).M ?_;exact qBuab
 ·have T4:=xP w6 (Xf (e.vh:Nat)) (Xf (e.kh:Nat));refine pD fun K hK=>?_;go_simp
  try go_simp
  refine hK.O _ _ (HJ.O _ T4.1) ?_;clear hK K
  try simp only[pu]
  refine pD fun K hK=>?_;go_simp
  try go_simp
  refine hK.O _ _ (HJ.O _ T4.2.1) ?_;clear hK K
  try simp only[pu]
  refine pT_ ?_
  try simp only[pu]
  refine pD fun K hK=>?_;go_simp;refine(HA.O _ (w6.1.size+1) w6.1.size T4.2.1 o_ o_ T4.2.2.2 T4.2.2.1).M ?_;exact qBuab