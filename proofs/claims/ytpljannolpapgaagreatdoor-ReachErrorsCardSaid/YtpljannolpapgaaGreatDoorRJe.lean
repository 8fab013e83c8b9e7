/- The store: Make: the walk. -/
import Derived.Test.YtpljannolpapgaaGreatDoorRTa
import Derived.Defers
import Derived.Test.YtpljannolpapgaaGreatDoorRKa
import Derived.Laws.BytesString
import Derived.Test.YtpljannolpapgaaGreatDoorRCl
set_option maxRecDepth 100000
set_option maxHeartbeats 3200000
namespace Go.Proofs.YtpljannolpapgaaGreatDoor
section
open Go.RowKit Tryz Go.BigFrame Go.Maps Go.WideMaps Lf
variable{S:St}{Y:Nat->Prop}{v:Value}{w:World}
theorem eR.of_keep{w w':World}{ps pa pm ph pt:Nat}(h:eR w ps pa pm ph pt v S Y)(hs:w.1.size<=w'.1.size)
 (hk:∀k,k<w.1.size->(¬Y k\/k=ps\/k=ph\/k=fy)->w'.1[k]?=w.1[k]?):eR w' ps pa pm ph pt v S Y:=by
 obtain⟨ai,ad⟩:=h.heap.slab;have an:∀k,¬YS Y ps ph pt v k->¬Y k:=fun k hk hy=>hk (ab hy);have ap:¬Y pt:=fun hy=>(h.off pt (ab hy)).1 rfl;refine⟨?_,⟨⟨ai,ad.of_keep hs fun k hkl hkk=>hk k hkl (ab (an k ?_))⟩,?_,h.heap.yh,h.heap.tab.of_block (hk fy h.heap.tab.lt (ae (ae (ae rfl)))),h.heap.yt⟩,h.tab.of_keep (hk pt h.tab.pt_lt (ab ap)) fun b hb=>hk b (h.tab.own_lt hb) (ab fun hy=>(h.off b (ab hy)).2 hb),h.off⟩
 ·rw[hk ps (gl h.hd) (ae (ab rfl))];exact h.hd
 ·rcases hkk with rfl | rfl | ⟨p,hp,rfl⟩
  ·exact ad.ya
  ·exact ad.ym
  ·exact ad.yp p hp
 ·rw[hk ph h.heap.lt (ae (ae (ab rfl)))];exact h.heap.hp
theorem eR.wide{w w':World}{ps pa pm ph pt:Nat}(h:eR w ps pa pm ph pt v S Y)(hb:D_ w w'):eR w' ps pa pm ph pt v S (fun k=>Y k\/(w.1.size<=k/\k<w'.1.size)):=by
 have h':=h.a_ hb;refine⟨h'.hd,?_,h'.tab,?_⟩
 ·refine(h.heap.wide hb).M ?_ (ae (ae (ab rfl))) (ae (ae (ae (ab rfl))));rintro k ((hk | hk) | hk)
  ·exact ab (ab hk)
  ·exact ae hk
  ·exact ab (ae hk)
 ·rintro k ((hk | hk) | hk)
  ·exact h.off k (ab hk)
  ·have h1:=h.tab.pt_lt;refine⟨o_,fun e=>?_⟩;have:=h.tab.own_lt e;omega
  ·exact h.off k (ae hk)
theorem eR.M{ps pa pm ph pt:Nat}{Y Z:Nat->Prop}(h:eR w ps pa pm ph pt v S Y)(hz:∀k,Z k->Y k):eR w ps pa pm ph pt v S Z:=
 ⟨h.hd,h.heap.M (fun _ hk=>hk.imp (hz _) id) (ae (ae (ab rfl))) (ae (ae (ae (ab rfl)))),h.tab,fun k hk=>h.off k (hk.imp (hz k) id)⟩
theorem eR.setCell{ps pa pm ph pt:Nat}(h:eR w ps pa pm ph pt v S Y){b o:Nat}(hy:Y b)(h1:b≠ps)(h2:b≠ph)(h3:b≠fy)(x:Value):eR (w.setCell (x_ b o) x) ps pa pm ph pt v S Y:=
 h.of_keep (Nat.le_of_eq (size_setCell w _ _).S) fun k _ hk=>FB (by
  rintro rfl;rcases hk with hk | hk | hk | hk
  ·exact hk hy
  ·exact h1 hk
  ·exact h2 hk
  ·exact h3 hk)
theorem yD{s:r_}(hw:eQ s)(n:Nat):(fR s n).1.1<=2^60:=by
 have hp:∀p c k,p<=1048576->fF p c k<=2^60:=fun p c k h=>by
  have:=KF c k;unfold fF;omega
 unfold fR
 by_cases h:n<1\/4000<n
 ·rw[if_pos h]
  simp
 ·rw[if_neg h]
  cases hc:gd n with
  | none=>
   simp only;have:=mJ hw (n:=fa n) (by have:=ua (n:=n) o_;omega);obtain⟨⟨⟨gp,ge⟩,gs⟩,hg⟩:∃g,s.grant (fa n)=g:=⟨_,rfl⟩;rw[hg] at this⊢;simp only at this
   cases ge with
   | zero=>simp only;omega
   | succ e=>simp
  | some c=>
   simp only
   cases hs:kt s c with
   | some pk=>
    obtain⟨p,k⟩:=pk;simp only[fP];exact hp _ _ _ (by have:=(GJ hw hs).1;omega)
   | none=>
    simp only;have:=mJ hw (n:=1) o_;obtain⟨⟨⟨gp,ge⟩,gs⟩,hg⟩:∃g,s.grant 1=g:=⟨_,rfl⟩;rw[hg] at this⊢;simp only at this
    cases ge with
    | zero=>simp only[fP];exact hp _ _ _ o_
    | succ e=>simp
theorem ut:∀(l:List mj) (k:Nat),gH l k<=k+l.length
 | [],k=>Nat.le_refl _
 | x::r,k=>by
  unfold gH;split
  ·simp
  ·have:=ut r (k+1);simp only[aj];omega
theorem vZ{t:Hs}(hw:iW t)(a:Nat):(t.open a).1.1<2^64:=by
 have h1:=ut t.p_ 0;have h2:=hw.len;have h3:=hw.most;have h4:(t.genAt (gH t.p_ 0)+1) % 4294967296<4294967296:=Nat.mod_lt _ d_;unfold Hs.open;simp only
 split
 ·simp
 ·simp only[gj];omega
theorem Dn(t:Hs)(a:Nat):(t.open a).2.most=t.most/\(t.open a).2.last=t.last:=by
 unfold Hs.open;simp only;split<;>exact⟨rfl,rfl⟩
theorem Cs{be bs ba:Nat}(he:w.cell? (y_ be)=some (Xi 0)):
 CallsD prog 63 #[PV be,PV bs,PV ba] .returning w fun e u' w'=>u'=.returning/\(e=.returned (.tuple #[])/\w'=w):=by
 go_enter_d func63,ntmps63
 go_wp2_with fail
 go_end0
 exact⟨rfl,rfl⟩
theorem sH{ps:Nat}(h:Ig w ps S Y)(n:Nat)(hn:n<=3998)(ho:(S.t.open (fR S.a (n+2)).1.1).1.2=0):
 Ct 31 #[PV ps,Xi n] w fun e w'=>e=.returned (.tuple #[Xu ((S.make n).1.1:Nat),Xi ((S.make n).1.2:Nat)])/\Ig w' ps (S.make n).2 Y/\Fo Y w w':=by
 have cb:(n:Int)<=3998:=o_
 have ap:=((aa _ w).alloc Ih (Xg ps)).alloc s_ (.cells #[Xi 0] 27);obtain⟨pa,pm,ph,pt,v,h⟩:=h;have h1:=h.wide ap;have au:=sI ⟨_,_,_,_,_,h1⟩;have b2:ph<w.1.size/\pt<w.1.size/\ps<w.1.size/\fy<w.1.size/\∀b,v.ownBlock=some b->b<w.1.size:=⟨h.heap.lt,h.tab.pt_lt,(gl h.hd),h.heap.tab.lt,fun b hb=>h.tab.own_lt hb⟩;have ch:((w.alloc (Xg ps)).alloc (.cells #[Xi 0] 27)).1.size=w.1.size+2:=s_
 have k0:((w.alloc (Xg ps)).alloc (.cells #[Xi 0] 27)).1[w.1.size]?=some (.cells #[PV ps] 26 (0,0)):=by
  rw[heap_alloc_old _ _ s_];exact heap_alloc_new w _
 have k1:((w.alloc (Xg ps)).alloc (.cells #[Xi 0] 27)).1[w.1.size+1]?=some (.cells #[Xi 0] 27 (0,0)):=by
  have:=heap_alloc_new (w.alloc (Xg ps)) (.cells #[Xi 0] 27);rwa[World.size_alloc] at this
 have hR:S.make n=match fR S.a (n+2) with
  | ((t_,0),a1)=>
   match S.t.open t_ with
   | ((h,0),t1)=>((h,0),⟨(a1.wr t_ h).wr (t_+1) n,t1⟩)
   | ((_,e),t1)=>((0,e),⟨(iM a1 t_).2,t1⟩)
  | ((_,e),a1)=>((0,e),{ S with a:=a1 }):=by unfold St.make;rw[if_neg o_];rfl
 obtain⟨R,a'⟩:=Ii (S.make n);rw[a'] at hR⊢;have ar:=heap_alloc h1.heap (n+2) o_;have bq:=yD h1.heap.wf (n+2);obtain⟨⟨⟨ad,er⟩,a1⟩,hA⟩:∃r,fR S.a (n+2)=r:=⟨_,rfl⟩;rw[hA] at hR ho ar bq;simp only at hR ho ar bq;have ba:((n+2:Nat):Int)=(n:Int)+2:=o_
 rw[ba] at ar;have HG:=kq9 au ar h1 h ap k0 k1 hR ho
 cases er with
 | succ er=>
  have b4:(((er+1:Nat):Int) !=0)=true:=m_
  obtain⟨g1,bb⟩:=Ii (er+1);rw[bb] at HG b4 ar hR;have cc:¬(g1:Int)=0:=o_
  have bo:R=((0,g1),{ S with a:=a1 }):=by rw[hR,<-bb];rfl
  have b0:=If bo;clear bo;clear au ar h1 h ap k0 k1 hR ho a' hA ba bb
  go_enter_defers func31,ntmps31
  go_wp2_with fail;generalize ((w.alloc (Xg ps)).alloc (.cells #[Xi 0] 27))=W1 at*;obtain⟨au,ar,h1,h,ap,k0,k1,hR,ho⟩:=HG.O;refine Jc au ?_;obtain⟨_,_,_,c3,c4⟩:=h1.cells;have d0:W1.cell? (y_ w.1.size)=some (PV ps):=e_ k0
  clear au ar h1 h ap k0 k1 hR ho c4;go_wp2_with fail;refine HG.b.M ?_;rintro e w2 ⟨rfl,a5,an⟩;obtain⟨au,ar,h1,h,ap,k0,k1,hR,ho⟩:=HG.O;have h2:=h1.arena a5 an;have a0:=an.size;have j0:w2.1[w.1.size]?=some (.cells #[PV ps] 26 (0,0)):=(an.block _ (ab (ae ⟨Nat.le_refl _,o_⟩))).T k0;have j1:w2.1[w.1.size+1]?=some (.cells #[Xi 0] 27 (0,0)):=(an.block _ (ab (ae ⟨o_,o_⟩))).T k1;have e1:w2.cell? (y_ (w.1.size+1))=some (Xi 0):=e_ j1
  have f1:w2.frozen? (y_ (w.1.size+1))=false:=AT j1;have b1:w.1.size+1<w2.1.size:=o_
  have H2:=kq5 h2 a0 j0 j1 an;clear au ar h1 h ap k0 k1 hR ho h2 a0 j0 j1 a5 an c3 d0;go_wp2_with fail
  go_region
  go_wp2_with fail;obtain⟨_,_,h1,h,ap,_,_,hR,_⟩:=HG.O;obtain⟨h2,a0,j0,j1,an⟩:=H2.O;have x1:((w2.setCell (y_ (w.1.size+1)) (Xi g1)).setCell (y_ (w.1.size+1)) (Xi g1)).1[w.1.size+1]?=some (.cells #[Xi g1] 27 (0,0)):=by
   rw[heap_setCell (heap_setCell j1)]
   rfl
  have x2:=(h2.setCell (b:=w.1.size+1) (o:=0) (ae ⟨o_,o_⟩) o_ o_ o_ (Xi g1)).setCell (b:=w.1.size+1) (o:=0) (ae ⟨o_,o_⟩) o_ o_ o_ (Xi g1);have x3:=((aa _ ((w2.setCell (y_ (w.1.size+1)) (Xi g1)).setCell (y_ (w.1.size+1)) (Xi g1))).alloc Ih (Xh ad));have x4:=(x2.a_ x3).a_ (w':=(((w2.setCell (y_ (w.1.size+1)) (Xi g1)).setCell (y_ (w.1.size+1)) (Xi g1)).alloc (Xh ad)).drew) ⟨rfl,rfl,rfl,Nat.le_refl _,fun _ _=>rfl⟩;have x5:∀k,k<w.1.size->(((w2.setCell (y_ (w.1.size+1)) (Xi g1)).setCell (y_ (w.1.size+1)) (Xi g1)).alloc (Xh ad)).drew.1[k]?=w2.1[k]?:=fun k hk=>by
   show (World.alloc _ _).1[k]?=_
   rw[heap_alloc_old _ _ m_,FB o_,FB o_]
  have x6:(((w2.setCell (y_ (w.1.size+1)) (Xi g1)).setCell (y_ (w.1.size+1)) (Xi g1)).alloc (Xh ad)).drew.cell? (y_ (w.1.size+1))=some (Xi g1):=by
   show (World.alloc _ _).cell? _=_
   rw[q_ (by rw[heap_alloc_old _ _ m_];exact x1)]
   rfl
  have x7:w2.1.size<=(((w2.setCell (y_ (w.1.size+1)) (Xi g1)).setCell (y_ (w.1.size+1)) (Xi g1)).alloc (Xh ad)).drew.1.size:=by
   show _<=(World.alloc _ _).1.size
   simp
  have x8:(((w2.setCell (y_ (w.1.size+1)) (Xi g1)).setCell (y_ (w.1.size+1)) (Xi g1)).alloc (Xh ad)).drew.os=w2.os/\(((w2.setCell (y_ (w.1.size+1)) (Xi g1)).setCell (y_ (w.1.size+1)) (Xi g1)).alloc (Xh ad)).drew.tape=w2.tape/\(((w2.setCell (y_ (w.1.size+1)) (Xi g1)).setCell (y_ (w.1.size+1)) (Xi g1)).alloc (Xh ad)).drew.output=w2.output:=⟨rfl,rfl,rfl⟩;obtain rfl:=b0.O;generalize (((w2.setCell (y_ (w.1.size+1)) (Xi g1)).setCell (y_ (w.1.size+1)) (Xi g1)).alloc (Xh ad)).drew=W9 at*;refine⟨.tuple #[Xu 0,Xi g1],?_,rfl,⟨_,_,_,_,_,x4.M fun k hk=>ab hk⟩,?_⟩
  ·simp[results,f31,go_sem,x6]
  ·refine⟨x8.1.T (an.os.T ap.os),x8.2.1.T (an.tape.T ap.tape),x8.2.2.T (an.output.T ap.output),o_,fun k hk=>?_⟩;have a6:=h.yl k hk;rw[x5 k a6,an.block k (ab (ab hk)),ap.block k a6]
 | zero=>
  clear au ar h1 h ap k0 k1 hR ho a' hA ba
  go_enter_defers func31,ntmps31
  go_wp2_with fail;generalize ((w.alloc (Xg ps)).alloc (.cells #[Xi 0] 27))=W1 at*;obtain⟨au,ar,h1,h,ap,k0,k1,hR,ho⟩:=HG.O;refine Jc au ?_;obtain⟨_,_,_,c3,c4⟩:=h1.cells;have d0:W1.cell? (y_ w.1.size)=some (PV ps):=e_ k0
  clear au ar h1 h ap k0 k1 hR ho c4;go_wp2_with fail;refine HG.b.M ?_;rintro e w2 ⟨rfl,a5,an⟩;obtain⟨au,ar,h1,h,ap,k0,k1,hR,ho⟩:=HG.O;have h2:=h1.arena a5 an;have a0:=an.size;have j0:w2.1[w.1.size]?=some (.cells #[PV ps] 26 (0,0)):=(an.block _ (ab (ae ⟨Nat.le_refl _,o_⟩))).T k0;have j1:w2.1[w.1.size+1]?=some (.cells #[Xi 0] 27 (0,0)):=(an.block _ (ab (ae ⟨o_,o_⟩))).T k1;have e1:w2.cell? (y_ (w.1.size+1))=some (Xi 0):=e_ j1
  have f1:w2.frozen? (y_ (w.1.size+1))=false:=AT j1;have b1:w.1.size+1<w2.1.size:=o_
  have H2:=kq5 h2 a0 j0 j1 an;clear au ar h1 h ap k0 k1 hR ho h2 a0 j0 j1 a5 an c3 d0;go_wp2_with fail
  go_name_world W3 HW3
  obtain⟨⟨⟨hh,he⟩,t1⟩,hO⟩:∃r,S.t.open ad=r:=⟨_,rfl⟩;obtain⟨h2,a0,j0,j1,an⟩:=H2.O;have bs:Below (w2.setCell (y_ (w.1.size+1)) (Xi 0)).1.size (w2.setCell (y_ (w.1.size+1)) (Xi 0)) ((w2.setCell (y_ (w.1.size+1)) (Xi 0)).alloc (Xh ad)):=(aa _ _).alloc Ih _;have h3:=(h2.setCell (b:=w.1.size+1) (o:=0) (ae ⟨o_,o_⟩) o_ o_ o_ (Xi 0)).wide bs;have z3:((w2.setCell (y_ (w.1.size+1)) (Xi 0)).alloc (Xh ad)).1.size=w2.1.size+1:=s_
  have g0:((w2.setCell (y_ (w.1.size+1)) (Xi 0)).alloc (Xh ad)).1[w.1.size]?=some (.cells #[PV ps] 26 (0,0)):=by
   rw[heap_alloc_old _ _ m_,FB o_];exact j0
  have g1:((w2.setCell (y_ (w.1.size+1)) (Xi 0)).alloc (Xh ad)).1[w.1.size+1]?=some (.cells #[Xi 0] 27 (0,0)):=by
   rw[heap_alloc_old _ _ m_,heap_setCell j1]
   rfl
  have g2:((w2.setCell (y_ (w.1.size+1)) (Xi 0)).alloc (Xh ad)).1[w2.1.size]?=some (.cells #[Xi ad] 3 (0,0)):=by
   have:=heap_alloc_new (w2.setCell (y_ (w.1.size+1)) (Xi 0)) (Xh ad);rwa[size_setCell] at this
  have a4:∀k,k<w2.1.size->k≠w.1.size+1->((w2.setCell (y_ (w.1.size+1)) (Xi 0)).alloc (Xh ad)).1[k]?=w2.1[k]?:=fun k hk hne=>by
   rw[heap_alloc_old _ _ m_,FB hne]
  have a2:((w2.setCell (y_ (w.1.size+1)) (Xi 0)).alloc (Xh ad)).os=w2.os/\((w2.setCell (y_ (w.1.size+1)) (Xi 0)).alloc (Xh ad)).tape=w2.tape/\((w2.setCell (y_ (w.1.size+1)) (Xi 0)).alloc (Xh ad)).output=w2.output:=⟨rfl,rfl,rfl⟩;clear bs;simp only[size_setCell] at h3;rw[HW3] at h3 z3 g0 g1 g2 a4 a2;rw[z3] at h3;obtain⟨au,ar,h1,h,ap,k0,k1,hR,ho⟩:=HG.O;rw[hO] at ho;simp only at ho;subst ho;have a3:=vZ h3.tab.wf ad;have a8:=Dn S.t ad;simp only at a3;rw[hO] at a3 a8;simp only at a3 a8;have d0:W3.cell? (y_ w.1.size)=some (PV ps):=e_ g0
  have d1:W3.cell? (y_ (w.1.size+1))=some (Xi 0):=e_ g1
  have d2:W3.cell? (y_ w2.1.size)=some (Xi ad):=e_ g2
  have bf:W3.frozen? (y_ (w.1.size+1))=false:=AT g1;have d4:=h3.cells.2.2.2.2;have a9:∀q,Ct 65 #[PV pt,Xi ad] (W3.drewN q) fun e w'=>e=.returned (.tuple #[Xu hh,Xi 0])/\(w'.cell? (y_ w.1.size)=some (PV ps)/\w'.cell? (x_ ps 4)=some (PV pt)/\w'.cell? (y_ w2.1.size)=some (Xi ad))/\(w'.cell? (y_ (w.1.size+1))=some (Xi 0)/\w'.frozen? (y_ (w.1.size+1))=false)/\∃v',eR w' ps pa pm ph pt v' ⟨a1,t1⟩ (fun k=>(Y k\/w.1.size<=k/\k<W1.1.size)\/w2.1.size<=k/\k<w2.1.size+1)/\Fo (fun k=>k<W3.1.size/\k≠pt/\v.ownBlock≠some k) W3 w':=fun q=>by
   have bj:=h3.a_ (w':=W3.drewN q) ⟨rfl,rfl,rfl,Nat.le_refl _,fun _ _=>rfl⟩;have bc:=EL bj.tab ad o_ (fun k=>k<W3.1.size/\k≠pt/\v.ownBlock≠some k) (fun b hb=>⟨hb.1,hb.2.1,fun e=>hb.2.2 e.S⟩);simp only at bc;rw[hO] at bc;refine bc.M ?_;rintro e w' ⟨rfl,⟨v',ht,b9⟩,hk⟩;have hZ:∀k,k<w2.1.size+1->w.1.size<=k\/k=ps->k<W3.1.size/\k≠pt/\v.ownBlock≠some k:=fun k hk1 an=>by
    refine⟨o_,?_,fun e=>?_⟩
    ·rcases an with an | rfl
     ·omega
     ·exact(h.off _ (ae (ab rfl))).1
    ·rcases an with an | rfl
     ·have:=b2.2.2.2.2 k e;omega
     ·exact(h.off _ (ae (ab rfl))).2 e
   have n0:=hk.block w.1.size (hZ _ o_ (ab Ih));have n1:=hk.block (w.1.size+1) (hZ _ o_ (ab o_));have n2:=hk.block w2.1.size (hZ _ o_ (ab o_));have n3:=hk.block ps (hZ _ o_ (ae rfl));refine⟨rfl,⟨(World.cell?_of_block n0).T d0,(World.cell?_of_block n3).T d4,(World.cell?_of_block n2).T d2⟩,⟨(World.cell?_of_block n1).T d1,(World.frozen?_of_block n1).T bf⟩,v',?_,⟨hk.os,hk.tape,hk.output,hk.size,hk.block⟩⟩;exact bj.table ht a8 _ (fun k h1 h2 h3=>⟨h1,h2,h3⟩) hk (fun b hb e=>b9 b hb e.S)
  have H3:=kq10 h3 z3 g0 g1 g2 a4 a2 a9 a3 hO;clear au ar h1 h ap k0 k1 hR h3 z3 g0 g1 g2 a4 a2 a9 a3 hO a8 h2 a0 j0 j1 an e1 f1 HW3
  go_region_held3 (fun w'=>w'.cell? (y_ w.1.size)=some (PV ps)/\w'.cell? (x_ ps 4)=some (PV pt)/\w'.cell? (y_ w2.1.size)=some (Xi ad)) (first | exact⟨d0,d4,d2⟩ | exact hQ | exact⟨(World.cell?_of_block (FB (show w.1.size≠w.1.size+1 by omega))).T hQ.1,(World.cell?_of_block (FB (show ps≠w.1.size+1 by omega))).T hQ.2.1,(World.cell?_of_block (FB (show w2.1.size≠w.1.size+1 by omega))).T hQ.2.2⟩)
   (first | (go_at_call 65;refine(H3.h 1).M ?_;rintro e w4 ⟨rfl,hQ,⟨e4,f4⟩,v',h4,k4⟩))
  obtain⟨h3,z3,g0,g1,g2,a4,a2,a9,a3,hO⟩:=H3.O;have h5:=h4.setCell (b:=w.1.size+1) (o:=0) (ab (ae ⟨o_,o_⟩)) o_ o_ o_ (Xi 0);have q0:(w4.setCell (y_ (w.1.size+1)) (Xi 0)).cell? (y_ w.1.size)=some (PV ps):=(World.cell?_of_block (FB (show w.1.size≠w.1.size+1 by omega))).T hQ.1;have q2:(w4.setCell (y_ (w.1.size+1)) (Xi 0)).cell? (y_ w2.1.size)=some (Xi ad):=(World.cell?_of_block (FB (show w2.1.size≠w.1.size+1 by omega))).T hQ.2.2;have q1:(w4.setCell (y_ (w.1.size+1)) (Xi 0)).cell? (y_ (w.1.size+1))=some (Xi 0):=World.cell?_setCell_same' _ _ _ (by rw[e4];rfl);have bu:(w4.setCell (y_ (w.1.size+1)) (Xi 0)).frozen? (y_ (w.1.size+1))=false:=by rw[World.frozen?_setCell];exact f4
  have q3:=h5.cells.2.2.1;have k5:∀k,k<w.1.size->k≠pt->v.ownBlock≠some k->(w4.setCell (y_ (w.1.size+1)) (Xi 0)).1[k]?=W3.1[k]?:=fun k h1 h2 h3=>by
   rw[FB o_];exact k4.block k ⟨o_,h2,h3⟩
  have s5:W3.1.size<=(w4.setCell (y_ (w.1.size+1)) (Xi 0)).1.size:=by rw[size_setCell];exact k4.size
  have o5:(w4.setCell (y_ (w.1.size+1)) (Xi 0)).os=W3.os/\(w4.setCell (y_ (w.1.size+1)) (Xi 0)).tape=W3.tape/\(w4.setCell (y_ (w.1.size+1)) (Xi 0)).output=W3.output:=⟨k4.os,k4.tape,k4.output⟩;generalize w4.setCell (y_ (w.1.size+1)) (Xi 0)=W5 at*;have H5:=kq6 h5 k5 s5 o5 z3 a3;clear h3 z3 g0 g1 g2 a4 a2 a9 a3 hO h5 k5 s5 o5 hQ e4 f4 h4 k4 d0 d1 d2 bf d4;go_wp2_with fail;refine lD (C:=fun w'=>∃q:Nat,w'=(W5).drewN q) 6 k_ k_ ⟨1,rfl⟩ ?_;simp only[ci,bW,bZ,c8]
  repeat (first | go_big_quiet_skip | (go_big_quiet_want;go_big_quiet_op;first | go_big_quiet_on))
  refine wpQuiet_nil ?_;rintro _ ⟨q,rfl⟩;have a7:=((H5.a.a_ (w':=W5.drewN q) ⟨rfl,rfl,rfl,Nat.le_refl _,fun _ _=>rfl⟩).heap.write' ad hh (ai:=ad) (xi:=hh) o_ H5.f rfl rfl);go_wp2_with fail;refine a7.M ?_;rintro e w6 ⟨rfl,bk,k6⟩;have h6:=(H5.a.a_ (w':=W5.drewN q) ⟨rfl,rfl,rfl,Nat.le_refl _,fun _ _=>rfl⟩).arena bk k6;have y0:∀k,w.1.size<=k->k<w.1.size+2->w6.1[k]?=W5.1[k]?:=fun k h1 h2=>k6.block k (ab (ab (ae ⟨h1,o_⟩)));have y2:w6.1[w2.1.size]?=W5.1[w2.1.size]?:=k6.block _ (ab (ae ⟨Nat.le_refl _,o_⟩));have bx:=y0 w.1.size Ih o_;have bd:=y0 (w.1.size+1) o_ o_;have u0:w6.cell? (y_ w.1.size)=some (PV ps):=(World.cell?_of_block bx).T q0;have u1:w6.cell? (y_ (w.1.size+1))=some (Xi 0):=(World.cell?_of_block bd).T q1;have bv:w6.frozen? (y_ (w.1.size+1))=false:=(World.frozen?_of_block bd).T bu;have u2:w6.cell? (y_ w2.1.size)=some (Xi ad):=(World.cell?_of_block y2).T q2;have u3:=h6.cells.2.2.1;have H6:=kq2 h6 k6;clear h6 k6 bk a7 y0 bx bd y2 q0 q1 bu q2 q3;go_wp2_with fail;refine lD (C:=fun w'=>∃q:Nat,w'=(w6).drewN q) 8 k_ k_ ⟨1,rfl⟩ ?_;simp only[ci,bW,bZ,c8]
  repeat (first | go_big_quiet_skip | (go_big_quiet_want;go_big_quiet_op;first | go_big_quiet_on))
  refine wpQuiet_nil ?_;rintro _ ⟨q,rfl⟩;have a7:=((H6.a.a_ (w':=w6.drewN q) ⟨rfl,rfl,rfl,Nat.le_refl _,fun _ _=>rfl⟩).heap.write' (ad+1) n (ai:=(ad:Int)+1) (xi:=n) o_ o_ o_ rfl);go_wp2_with fail;refine a7.M ?_;rintro e w7 ⟨rfl,bm,k7⟩;have h7:=(H6.a.a_ (w':=w6.drewN q) ⟨rfl,rfl,rfl,Nat.le_refl _,fun _ _=>rfl⟩).arena bm k7;have y1:w7.1[w.1.size+1]?=w6.1[w.1.size+1]?:=k7.block _ (ab (ab (ae ⟨o_,o_⟩)));have v1:w7.cell? (y_ (w.1.size+1))=some (Xi 0):=(World.cell?_of_block y1).T u1;have cj:w7.frozen? (y_ (w.1.size+1))=false:=(World.frozen?_of_block y1).T bv;have H7:=kq2 h7 k7;clear h7 k7 bm a7 y1 u0 u1 bv u2 u3;go_wp2_with fail;refine leaves_cons (f:=63) (args:=#[PV (w.1.size+1),PV w.1.size,PV w2.1.size]) s_ (by simp[go_sem]) ?_;refine(Cs (w:=w7.setCell (y_ (w.1.size+1)) (Xi 0)) (World.cell?_setCell_same' _ _ _ (by rw[v1];rfl))).M ?_;rintro e u' ck ⟨rfl,rfl,rfl⟩;have x1:(w7.setCell (y_ (w.1.size+1)) (Xi 0)).cell? (y_ (w.1.size+1))=some (Xi 0):=World.cell?_setCell_same' _ _ _ (by rw[v1];rfl);obtain⟨_,_,h1,h,ap,_,_,hR,_⟩:=HG.O;obtain⟨_,a0,_,_,an⟩:=H2.O;obtain⟨_,_,_,_,_,a4,a2,_,_,hO⟩:=H3.O;obtain⟨_,k5,s5,o5,_,_⟩:=H5.O;obtain⟨_,k6⟩:=H6.O;obtain⟨h7,k7⟩:=H7.O;rw[hO] at hR;obtain rfl:R=((hh,0),⟨(a1.wr ad hh).wr (ad+1) n,t1⟩):=hR;have b':=k6.size;have ca:=k7.size;simp only[AG] at b' ca;refine⟨.tuple #[Xu hh,Xi 0],?_,rfl,⟨_,_,_,_,_,(h7.setCell (b:=w.1.size+1) (o:=0) (ab (ae ⟨o_,o_⟩)) o_ o_ o_ (Xi 0)).M fun k hk=>ab (ab hk)⟩,?_⟩
  ·simp[results,f31,go_sem,x1]
  ·refine⟨k7.os.T (k6.os.T (o5.1.T (a2.1.T (an.os.T ap.os)))),k7.tape.T (k6.tape.T (o5.2.1.T (a2.2.1.T (an.tape.T ap.tape)))),k7.output.T (k6.output.T (o5.2.2.T (a2.2.2.T (an.output.T ap.output)))),?_,fun k hk=>?_⟩
   ·rw[size_setCell];omega
   ·have a6:=h.yl k hk;have bt:=h.off k (ab hk);rw[FB o_];refine(k7.block k (ab (ab (ab hk)))).T ((k6.block k (ab (ab (ab hk)))).T ?_);rw[show (W5.drewN _).1[k]?=W5.1[k]? from rfl,k5 k a6 bt.1 bt.2,a4 k o_ o_,an.block k (ab (ab hk)),ap.block k a6]
def dO(w:World)(k:Nat):Prop:=∃cs ty fr,w.1[k]?=some (.cells cs ty fr)/\(ty=94\/ty=160)
section
variable {w w':World}{ps pa pm ph pt:Nat}{v:Value}{S:St}{Y:Nat->Prop}
theorem eR.heads(h:eR w ps pa pm ph pt v S Y):eR w ps pa pm ph pt v S (fun k=>Y k\/dO w k):=by
 have ai:∀{k:Nat} {cs:Array Value} {ty:TypeId} {fr:Nat×Nat},w.1[k]?=some (.cells cs ty fr)->ty≠94/\ty≠160->¬dO w k:=by
  rintro k cs ty fr e an ⟨a0,a3,a2,e',q⟩;rw[e] at e'
  injection e' with e'
  injection e' with _ e' _
  rcases q with rfl | rfl
  ·exact an.1 e'
  ·exact an.2 e'
 have ar:¬dO w pt:=ai h.tab.hd ⟨d_,d_⟩;have hv:∀k,v.ownBlock=some k->¬dO w k:=fun k e=>by
  rcases h.tab.row.2 with⟨rfl,_⟩ | ⟨g,au,a1,rfl,_,hg,_⟩
  ·cases e
  ·have e:g=k:=Option.some.inj e;subst e;exact ai hg ⟨d_,d_⟩
 obtain⟨ap,hs⟩:=h.heap.slab;have ad:∀k,YS (fun k=>Y k\/dO w k) ps ph pt v k->YS Y ps ph pt v k\/dO w k:=fun k hk=>by
  rcases hk with (hk | hk) | hk
  ·exact ab (ab hk)
  ·exact ae hk
  ·exact ab (ae hk)
 have hlt:∀k,dO w k->k<w.1.size:=fun k ⟨_,_,_,e,_⟩=>(gl e);refine⟨h.hd,⟨⟨ap,hs.wf,hs.hd,hs.map,hs.pg,hs.inj,fun q=>?_,fun q=>?_,fun p hp q=>?_,fun k hk=>?_⟩,h.heap.hp,?_,h.heap.tab,?_⟩,h.tab,fun k hk=>?_⟩
 ·rcases ad _ q with q | q
  ·exact hs.ya q
  ·exact ai hs.hd ⟨d_,d_⟩ q
 ·rcases ad _ q with q | q
  ·exact hs.ym q
  ·obtain⟨_,_,_,e,_⟩:=q;obtain⟨es,c,e2,_⟩:=hs.map;rw[e] at e2
   cases e2
 ·rcases ad _ q with q | q
  ·exact hs.yp p hp q
  ·obtain⟨l,h1,h2⟩:=kK hp;exact ai (hs.pg _ h2) ⟨d_,d_⟩ q
 ·rcases ad _ hk with q | q
  ·exact hs.yl k q
  ·exact hlt k q
 ·exact ae (ae (ab rfl))
 ·exact ae (ae (ae (ab rfl)))
 ·rcases hk with (hk | hk) | hk
  ·exact h.off k (ab hk)
  ·exact⟨fun e=>ar (e▸hk),fun e=>hv k e hk⟩
  ·exact h.off k (ae hk)
theorem eR.far(h:eR w ps pa pm ph pt v S Y)(hs:w.1.size<=w'.1.size)
 (hk:∀k,k<w.1.size->(¬Y k\/k=ps\/k=ph\/k=fy)->w'.1[k]?=w.1[k]?):eR w' ps pa pm ph pt v S (fun k=>Y k\/(w.1.size<=k/\k<w'.1.size)):=by
 obtain⟨w2,ad⟩:∃w2:World,w2= { w with heap:=Array.ofFn fun k:Fin w'.1.size=>if h:k.val<w.1.size then w.1[k.val] else w'.1[k.val] }:=⟨_,rfl⟩;have ai:w2.1.size=w'.1.size:=by rw[ad];simp
 have an:∀k,w2.1[k]?=if k<w.1.size then w.1[k]? else w'.1[k]?:=fun k=>by
  rw[ad];show (Array.ofFn _)[k]?=_
  rw[Array.getElem?_ofFn];by_cases h1:k<w.1.size
  ·rw[if_pos h1,dif_pos o_,bY h1];simp[h1]
  ·rw[if_neg h1];by_cases h2:k<w'.1.size
   ·rw[dif_pos h2,bY h2];simp[h1]
   ·rw[dif_neg h2,cX o_]
 have ap:D_ w w2:=⟨by rw[ad],by rw[ad],by rw[ad],by rw[ai];exact hs,fun k hk=>by rw[an,if_pos hk]⟩;have hz:=h.wide ap;rw[ai] at hz;refine hz.of_keep (by rw[ai];exact Nat.le_refl _) fun k hkl hc=>?_;rw[an];by_cases h1:k<w.1.size
 ·rw[if_pos h1];exact hk k h1 (hc.imp (fun q hy=>q (ab hy)) id)
 ·rw[if_neg h1]
end
structure dP (ps po:Nat) (S T:St) (X Z:Nat->Prop) (w:World):Prop where
 a:Ig w ps S X
 b:Ig w po T Z
 cov:∀k,k<w.1.size->X k\/Z k
 ha:∀k,dO w k->X k
 hb:∀k,dO w k->Z k
 tab:X fy/\Z fy
section
variable {ps po:Nat}{S S' T:St}{X X1 Z:Nat->Prop}{w w':World}
theorem dP.swap(h:dP ps po S T X Z w):dP po ps T S Z X w:=⟨h.b,h.a,fun k hk=>(h.cov k hk).symm,h.hb,h.ha,h.tab.symm⟩
theorem dP.step(h:dP ps po S T X Z w)(hs:Ig w' ps S' X1)(hx:∀k,X k->X1 k)(hk:Fo X w w'):
 ∃X2 Z2:Nat->Prop,dP ps po S' T X2 Z2 w'/\(∀k,X1 k->X2 k)/\(∀k,Z k->Z2 k)/\∀k,w.1.size<=k->k<w'.1.size->Z2 k:=by
 obtain⟨pa,pm,ph,pt,v,hi⟩:=hs;obtain⟨qa,qm,qh,qt,u,hj⟩:=h.b;have ai:dO w po:=⟨_,_,_,hj.hd,ab rfl⟩;have an:dO w qh:=⟨_,_,_,hj.heap.hp,ae rfl⟩;have ad:=hj.far hk.size fun k hkl hc=>hk.block k (by
  rcases hc with hc | rfl | rfl | rfl
  ·exact(h.cov k hkl).resolve_right hc
  ·exact h.ha _ ai
  ·exact h.ha _ an
  ·exact h.tab.1)
 refine⟨_,_,⟨⟨pa,pm,ph,pt,v,hi.heads⟩,⟨qa,qm,qh,qt,u,ad.heads⟩,fun k hkl=>?_,fun k q=>ae q,fun k q=>ae q,ab (hx _ h.tab.1),ab (ab h.tab.2)⟩,fun k q=>ab q,fun k q=>ab (ab q),fun k h1 h2=>ab (ae ⟨h1,h2⟩)⟩
 by_cases h1:k<w.1.size
 ·rcases h.cov k h1 with q | q
  ·exact ab (ab (hx k q))
  ·exact ae (ab (ab q))
 ·exact ae (ab (ae ⟨o_,hkl⟩))
theorem dP.a_(h:dP ps po S T X Z w)(hb:D_ w w'):∃X2 Z2:Nat->Prop,dP ps po S T X2 Z2 w'/\(∀k,X k->X2 k)/\(∀k,Z k->Z2 k)/\(∀k,w.1.size<=k->k<w'.1.size->X2 k)/\∀k,w.1.size<=k->k<w'.1.size->Z2 k:=by
 obtain⟨X2,Z2,h1,h2,h3,h4⟩:=h.step (h.a.wide hb) (fun k q=>ab q) (Fo.v_ hb h.a.yl);exact⟨X2,Z2,h1,fun k q=>h2 k (ab q),h3,fun k q1 q2=>h2 k (ae ⟨q1,q2⟩),h4⟩
end
end
section
open Lf
variable{n:Nat}{o:Nat->Nat}{p:Nat}{s:r_}
theorem oS(hw:eQ s){a:Nat}(hp:a / 64∈s.j_)(x:Nat):(s.wr a x).rd a=x:=by
 obtain⟨l,h1,h2⟩:=kK hp;have hl:=hw.len _ h2;unfold r_.rd;rw[Lf.r_.page?_wr,h1];grind
theorem oM(s:r_)(p:Nat)(x:Hr):(Ie s p x).j_=s.j_:=by unfold Ie;rw[i9,i9]
theorem Ke(s:r_)(p:Nat)(x:Hr):(Ie s p x).B_.length=s.B_.length:=by unfold Ie;rw[kL,kL]
theorem ng(s:r_)(p:Nat)(x:Hr):(Ie s p x).E1=s.E1:=rfl
theorem rS(hw:eQ s)(p:Nat){x:Hr}(h1:x.l_<256)(h2:x.n<256)(h3:x.w<2^64):eQ (Ie s p x):=
 (hw.wr _ _ o_).wr _ _ h3
theorem oN(p:Nat)(x:Hr){b:Nat}(h1:b≠p*64)(h2:b≠p*64+1):(Ie s p x).rd b=s.rd b:=by
 unfold Ie;rw[r_.rd_wr_ne _ _ _ _ h2,r_.rd_wr_ne _ _ _ _ h1]
theorem rR(hw:eQ s)(hp:p∈s.j_){x:Hr}(h1:x.l_<256)(h2:x.n<256):FA (Ie s p x) p=x:=by
 have e1:(p*64+1) / 64=p:=o_
 have e0:p*64 / 64=p:=o_
 have ad:eQ (s.wr (p*64) (x.l_+x.n*256)):=hw.wr _ _ o_;have r1:(Ie s p x).rd (p*64+1)=x.w:=oS ad (by rw[e1,i9];exact hp) _;have r0:(Ie s p x).rd (p*64)=x.l_+x.n*256:=by
  unfold Ie;rw[r_.rd_wr_ne _ _ _ _ o_];exact oS hw (by rw[e0];exact hp) _
 unfold FA;obtain⟨a,b,c⟩:=x
 grind
theorem lQ{s s':r_}(h:∀b,b / 64=p->b % 64<2->s'.rd b=s.rd b):FA s' p=FA s p:=by
 grind [FA]
theorem yi(s:r_)(a:Nat):∀n,(s.zero a n).j_=s.j_
 | 0=>rfl
 | n+1=>by show (r_.wr _ _ _).j_=_;rw[i9,yi s a n]
theorem yj(s:r_)(a:Nat):∀n,(s.zero a n).B_.length=s.B_.length
 | 0=>rfl
 | n+1=>by show (r_.wr _ _ _).B_.length=_;rw[kL,yj s a n]
theorem yn(s:r_)(a:Nat):∀n,(s.zero a n).E1=s.E1
 | 0=>rfl
 | n+1=>by show (r_.wr _ _ _).E1=_;exact yn s a n
theorem yo {s:r_}(hw:eQ s)(a:Nat):∀n,eQ (s.zero a n)
 | 0=>hw
 | n+1=>(yo hw a n).wr _ _ o_
theorem tj(s:r_)(a:Nat){b:Nat}:∀n,(b<a\/a+n<=b)->(s.zero a n).rd b=s.rd b
 | 0,_=>rfl
 | n+1,h=>by
  show (r_.wr _ _ _).rd b=_
  rw[r_.rd_wr_ne _ _ _ _ o_];exact tj s a n o_
theorem lj(a q:Nat)(b:fQ)(r:List (Nat×fQ)):((a,b)::r).lookup q=if q=a then some b else r.lookup q:=by
 grind
theorem LG(p q:Nat)(l:fQ):∀r:List (Nat×fQ),(ins p l r).lookup q=if q=p then some l else r.lookup q
 | []=>by
  unfold ins;rw[lj]
 | x::r=>by
  obtain⟨a,b⟩:=x;unfold ins;simp only;split
  ·rename_i h;rw[lj,LG p q l r,lj];by_cases e:q=a
   ·rw[if_pos e,if_neg o_,if_pos e]
   ·rw[if_neg e,if_neg e]
  ·rw[lj]
theorem page?_add(s:r_)(p q:Nat):(s.add p).page? q=if q=p then some jB else s.page? q:=LG p q jB s.B_
theorem tx(s:r_)(p:Nat){b:Nat}:∀n,(b / 64<p\/p+n<=b / 64)->(s.G0 p n).rd b=s.rd b
 | 0,_=>rfl
 | n+1,h=>by
  rw[<-tx s p n o_];show ((s.G0 p n).add (p+n)).rd b=_
  unfold r_.rd;rw[page?_add,if_neg o_]
theorem tz {s:r_}(hw:eQ s){p:Nat}:∀n,(∀k,k<n->p+k∉s.j_)->p+n<=1048576->(s.B_.length+n)*64<=s.E1->eQ (s.G0 p n)
 | 0,_,_,_=>hw
 | n+1,h1,h2,h3=>by
  refine(tz hw n (fun k hk=>h1 k o_) o_ o_).add ?_ o_ ?_
  ·rw[nK];rintro(h | h)
   ·exact h1 n o_ h
   ·omega
  ·rw[mu,mw];omega
theorem ry(p q:Nat):∀r:List (Nat×fQ),q≠p->(r.filter fun x=>x.1≠p).lookup q=r.lookup q
 | [],_=>rfl
 | x::r,h=>by
  obtain⟨a,b⟩:=x;rw[List.filter_cons];split
  ·rw[lj,lj,ry p q r h]
  ·rename_i h1;have:a=p:=by grind
   subst this;rw[ry a q r h,lj,if_neg h]
theorem AE(s:r_){p b:Nat}(h:b / 64≠p):(s.del p).rd b=s.rd b:=by
 unfold r_.rd;have:(s.del p).page? (b / 64)=s.page? (b / 64):=ry p _ s.B_ h;grind
theorem qr(s:r_)(p:Nat){b:Nat}:∀n,(b / 64<p\/p+n<=b / 64)->(s.delRun p n).rd b=s.rd b
 | 0,_=>rfl
 | n+1,h=>by
  rw[<-qr s p n o_];exact AE _ o_
theorem ug {s:r_}(hw:eQ s)(p:Nat):∀n,eQ (s.delRun p n)
 | 0=>hw
 | n+1=>(ug hw p n).del _
theorem Jk(s:r_)(p:Nat):∀n,(s.delRun p n).E1=s.E1
 | 0=>rfl
 | n+1=>Jk s p n
theorem qo(s:r_)(p:Nat):∀n,(s.delRun p n).B_.length<=s.B_.length
 | 0=>Nat.le_refl _
 | n+1=>aH (List.length_filter_le _ _) (qo s p n)
def gr(x:Hr):Nat:=if x.l_=2 then x.n else 1
def kT(x:Hr):Prop:=(x.l_=1/\x.n<8)\/(x.l_=2/\1<=x.n/\x.n<=64)
structure Own (s:r_) (o:Nat->Nat):Prop where
 wf:eQ s
 up:∀p∈s.j_,o p∈s.j_/\o (o p)=o p/\o p<=p/\p<o p+gr (FA s (o p))
 down:∀h∈s.j_,o h=h->kT (FA s h)/\∀k,k<gr (FA s h)->h+k∈s.j_/\o (h+k)=h
theorem kT.small{x:Hr}(h:kT x):x.l_<256/\x.n<256:=by rcases h with h | h<;>omega
theorem rD {s:r_}{o:Nat->Nat}(h:Own s o):∀(ks:List Nat) (nx:Nat),ks.Pairwise (·<·)->(∀q∈ks,q∈s.j_)->(∀q∈ks,o q∈ks->nx<=q)->(∀q∈ks,o q∉ks->q<nx)->∀y,y∈gC s nx ks↔(y.1∈ks/\o y.1=y.1/\y.2=FA s y.1)
 | [],nx,_,_,_,_,y=>by simp[gC]
 | p::r,nx,hs,hk,h1,h2,y=>by
  have ai:=(bC.1 hs).1;have ar:=(bC.1 hs).2;have ap:=hk p (av ..);have up:=h.up p ap;unfold gC;by_cases hlt:p<nx
  ·rw[if_pos hlt];have ad:o p∉p::r:=fun hm=>by have:=h1 p (av ..) hm;omega
   have an:o p≠p:=fun e=>ad (by rw[e];exact av ..);have au:∀q∈r,o q∈p::r->o q∈r:=fun q hq hm=>by
    rcases ah.1 hm with e | e
    ·exfalso
     have:=(h.up q (hk q (ak _ hq))).2.1;rw[e] at this;exact an this
    ·exact e
   rw[rD h r nx ar (fun q hq=>hk q (ak _ hq)) (fun q hq hm=>h1 q (ak _ hq) (ak _ hm))
    (fun q hq hm=>h2 q (ak _ hq) fun hm2=>hm (au q hq hm2)) y]
   constructor
   ·rintro⟨a,b,c⟩;exact⟨ak _ a,b,c⟩
   ·rintro⟨a,b,c⟩;rcases ah.1 a with e | e
    ·exfalso;rw[e] at b;exact an b
    ·exact⟨e,b,c⟩
  ·rw[if_neg hlt];have a2:o p∈p::r:=Classical.byContradiction fun hn=>hlt (h2 p (av ..) hn);have ad:o p=p:=by
    grind
   have sp:p<p+gr (FA s p):=by grind
   rw[ah,rD h r _ ar (fun q hq=>hk q (ak _ hq)) ?_ ?_ y]
   ·grind
   ·intro q hq hm;have a0:=ai q hq;have a3:=h1 q (ak _ hq) (ak _ hm);split
    ·rename_i hk2;refine Classical.byContradiction fun hn=>?_;have a1:gr (FA s p)=(FA s p).n:=by unfold gr;rw[if_pos hk2]
     have:=((h.down p ap ad).2 (q-p) (by rw[a1];omega)).2;rw[show p+(q-p)=q by omega] at this;rw[this] at hm;have:=ai p hm;omega
    omega
   ·intro q hq hm;have a0:=ai q hq;by_cases e:o q=p
    ·have hu:=(h.up q (hk q (ak _ hq))).2.2.2;rw[e] at hu;unfold gr at hu;split
     ·rename_i hk2;rw[if_pos hk2] at hu;exact hu
     ·rename_i hk2;rw[if_neg hk2] at hu;omega
    grind
theorem Own.mem_heads(h:Own s o)(y:Nat×Hr):y∈heads s↔(y.1∈s.j_/\o y.1=y.1/\y.2=FA s y.1):=
 rD h s.j_ 0 h.wf.F1 (fun _ hq=>hq) (fun _ _ _=>cC _) (fun q hq hn=>absurd (h.up q hq).1 hn) y
theorem JI{c k:Nat}(hc:c<8)(hk:k<eJ c)(h:Nat):fF h c k=h*64+2+k*et c/\k*et c+et c<=62/\2<=et c:=by
 have e:fF h c k=h*64+2+k*et c:=by unfold fF iL;grind
 refine⟨e,?_⟩;have:c=0\/c=1\/c=2\/c=3\/c=4\/c=5\/c=6\/c=7:=o_
 rcases this with rfl | rfl | rfl | rfl | rfl | rfl | rfl | rfl<;>simp[eJ,et,iP] at hk⊢ <;>omega
theorem wV{c k k':Nat}(h:k≠k'):k*et c+et c<=k'*et c\/k'*et c+et c<=k*et c:=by
 rcases Nat.lt_or_gt_of_ne h with h | h
 ·left
  have:=dB (et c) (show k+1<=k' from h)
  grind
 ·right
  have:=dB (et c) (show k'+1<=k from h)
  grind
theorem jA{c k:Nat}(h:k<eJ c):c<8/\k<31:=by
 have hc:c<8:=by
  unfold eJ at h
  grind
 refine⟨hc,?_⟩;have:c=0\/c=1\/c=2\/c=3\/c=4\/c=5\/c=6\/c=7:=o_
 rcases this with rfl | rfl | rfl | rfl | rfl | rfl | rfl | rfl<;>simp[eJ,iP] at h<;>omega
def nH(x:Hr)(h a r:Nat):Prop:=(x.l_=1/\∃k,k<eJ x.n/\x.w.testBit k=true/\a=fF h x.n k/\r=et x.n)\/(x.l_=2/\a=h*64+2/\r+2=x.n*64)
def gZ(s:r_)(o:Nat->Nat)(h a r:Nat):Prop:=h∈s.j_/\o h=h/\nH (FA s h) h a r
def eO(s:r_)(o:Nat->Nat)(a r:Nat):Prop:=∃h,gZ s o h a r
theorem nH.pos{x:Hr}{h a r:Nat}(_:kT x)(hb:nH x h a r):2<=r/\a / 64=h/\2<=a % 64:=by
 rcases hb with⟨h1,k,h2,h3,h4,h5⟩ | ⟨h1,h2,h3⟩
 ·obtain⟨e1,e2,e3⟩:=JI (jA h2).1 h2 h;omega
 omega
theorem gZ.word(ho:Own s o){h a r b:Nat}(hp:gZ s o h a r)(hb:b<r):(a+b) / 64∈s.j_/\o ((a+b) / 64)=h/\((a+b) / 64=h->2<=(a+b) % 64):=by
 obtain⟨h1,h2,h3⟩:=hp;obtain⟨hd,dn⟩:=ho.down h h1 h2
 rcases h3 with⟨g1,k,g2,g3,g4,g5⟩ | ⟨g1,g2,g3⟩
 ·obtain⟨e1,e2,e3⟩:=JI (jA g2).1 g2 h
  grind
 ·have hs:gr (FA s h)=(FA s h).n:=by unfold gr;rw[if_pos g1]
  have:=dn ((a+b) / 64-h) (by rw[hs];omega)
  grind
theorem gZ.not_head(ho:Own s o){h a r b h':Nat}(hp:gZ s o h a r)(hb:b<r)(hh:o h'=h')(e:(a+b) / 64=h'):2<=(a+b) % 64:=by
 obtain⟨_,h2,h3⟩:=hp.word ho hb;grind
theorem gZ.pos(ho:Own s o){h a r:Nat}(hp:gZ s o h a r):2<=r/\a / 64=h/\2<=a % 64:=hp.2.2.pos (ho.down h hp.1 hp.2.1).1
theorem gZ.apart(ho:Own s o){h a r h' a' r':Nat}(hp:gZ s o h a r)(hp':gZ s o h' a' r'):(a=a'/\r=r')\/a+r<=a'\/a'+r'<=a:=by
 by_cases e:h=h'
 ·subst e
  rcases hp.2.2 with⟨g1,k,g2,g3,g4,g5⟩ | ⟨g1,g2,g3⟩
  ·rcases hp'.2.2 with⟨f1,k',f2,f3,f4,f5⟩ | ⟨f1,f2,f3⟩
   ·by_cases ek:k=k'
    ·subst ek
     left;exact⟨g4.T f4.S,g5.T f5.S⟩
    ·right
     have hc:=(jA g2).1;rw[(JI hc g2 h).1] at g4;rw[(JI hc f2 h).1] at f4;have:=wV (c:=(FA s h).n) ek;omega
   omega
  ·rcases hp'.2.2 with⟨f1,k',f2,f3,f4,f5⟩ | ⟨f1,f2,f3⟩
   ·omega
   omega
 ·right
  refine Classical.byContradiction fun hn=>e ?_;have p1:=(hp.pos ho).1;have p2:=(hp'.pos ho).1
  rcases Nat.le_total a a' with hl | hl
  ·have w1:=(hp.word ho (b:=a'-a) o_).2.1;have w2:=(hp'.word ho (b:=0) o_).2.1
   grind
  ·have w1:=(hp'.word ho (b:=a-a') o_).2.1;have w2:=(hp.word ho (b:=0) o_).2.1
   grind
theorem eO.apart(ho:Own s o){a r a' r':Nat}(hp:eO s o a r)(hp':eO s o a' r'):(a=a'/\r=r')\/a+r<=a'\/a'+r'<=a:=by
 obtain⟨h,hp⟩:=hp;obtain⟨h',hp'⟩:=hp';exact hp.apart ho hp'
theorem eO.ok(ho:Own s o){a r b:Nat}(hp:eO s o a r)(hb:b<r):s.err (a+b)=0/\a+b<=gK/\(a+b) / 64∈s.j_:=by
 obtain⟨h,hp⟩:=hp;have hk:=(hp.word ho hb).1;have:=ho.wf.top _ hk;grind [gK,Gt]
theorem Own.same{s s':r_}(h:Own s o)(hw:eQ s')(hk:s'.j_=s.j_)(hg:∀p∈s.j_,o p=p->FA s' p=FA s p):Own s' o where
 wf:=hw
 up p hp:=by
  rw[hk] at hp⊢;have:=h.up p hp;grind
 down p hp ho:=by
  rw[hk] at hp⊢;rw[hg p hp ho];exact h.down p hp ho
theorem gZ.same{s s':r_}(hk:s'.j_=s.j_)(hg:∀p∈s.j_,o p=p->FA s' p=FA s p){h a r:Nat}(hp:gZ s o h a r):gZ s' o h a r:=
 ⟨by rw[hk];exact hp.1,hp.2.1,by rw[hg h hp.1 hp.2.1];exact hp.2.2⟩
theorem Own.wr(h:Own s o){a r b x:Nat}(hp:eO s o a r)(hb:b<r)(hx:x<2^64):Own (s.wr (a+b) x) o/\(∀a0 r0,eO s o a0 r0->eO (s.wr (a+b) x) o a0 r0):=by
 obtain⟨h0,hp⟩:=hp;have hg:∀p∈s.j_,o p=p->FA (s.wr (a+b) x) p=FA s p:=fun p _ ho=>lQ fun c e1 e2=>r_.rd_wr_ne _ _ _ _ (by
  rintro rfl;have:=hp.not_head h hb ho e1;omega)
 exact⟨h.same (h.wf.wr _ _ hx) (i9 _ _ _) hg,fun a0 r0 ⟨h1,q⟩=>⟨h1,q.same (i9 _ _ _) hg⟩⟩
theorem eQ.rd_lt(hw:eQ s)(a:Nat):s.rd a<2^64:=by
 by_cases hp:a / 64∈s.j_
 ·obtain⟨l,h1,h2⟩:=kK hp;rw[rY h1];have hl:=hw.len _ h2;have hi:a % 64<l.length:=by grind
  rw[ay,af hi];exact hw.word _ h2 _ (ao hi)
 ·rw[oR hp];decide
theorem eQ.getH_lt(hw:eQ s)(p:Nat):(FA s p).w<2^64:=hw.rd_lt _
theorem sR{w k j:Nat}:(iY w k).testBit j=(w.testBit j || decide (k=j)):=by
 unfold iY;grind
theorem xC{w k j:Nat}(hk:k<64)(hj:j<64):(iy w k).testBit j=(w.testBit j && !decide (k=j)):=by
 unfold iy;have h2:(2:Nat)^k<2^64:=Nat.pow_lt_pow_right d_ hk;have h1:(18446744073709551615-2^k:Nat)=2^64-(2^k+1):=by
  have:(2:Nat)^64=2^64:=d_
  omega
 rw[Nat.testBit_and,h1,dt h2,Nat.testBit_two_pow]
 grind
structure Hu (s s':r_) (o o':Nat->Nat) (a r:Nat):Prop where
 own:Own s' o'
 pl:∀a0 r0,eO s' o' a0 r0↔eO s o a0 r0\/(a0=a/\r0=r)
 fresh:∀r0,¬eO s o a r0
 rd:∀a0 r0 b,eO s o a0 r0->b<r0->s'.rd (a0+b)=s.rd (a0+b)
 E1:s'.E1=s.E1
theorem Ip{c k k' h:Nat}(hk:k<eJ c)(hk':k'<eJ c)(e:fF h c k=fF h c k'):k=k':=by
 have hc:=(jA hk).1;have h1:=JI hc hk h;have h2:=JI hc hk' h;refine Classical.byContradiction fun hn=>?_;have:=wV (c:=c) hn;omega
theorem we(h:Own s o){p k:Nat}(hp:p∈s.j_)(ho:o p=p)(hk1:(FA s p).l_=1)(hk:k<eJ (FA s p).n)(hb:(FA s p).w.testBit k=false):
 Hu s (fP s p k).2 o o (fF p (FA s p).n k) (et (FA s p).n)/\(fP s p k).2.B_.length=s.B_.length:=by
 obtain⟨x,hx⟩:=Ii (FA s p);have hd:=(h.down p hp ho).1;have a4:=h.wf.getH_lt p;have hc:=jA hk;rw[hx] at hk1 hk hb hd a4 hc⊢;obtain⟨e1,e2,e3⟩:=JI hc.1 hk p;obtain⟨a,ha⟩:=Ii (fF p x.n k);obtain⟨r,hr⟩:=Ii (et x.n);obtain⟨y,hy⟩:∃y:Hr,{ x with w:=iY x.w k } =y:=⟨_,rfl⟩;have ai:y.l_=1:=by grind
 have an:y.n=x.n:=by grind
 have au:y.w=iY x.w k:=by grind
 have ar:y.l_<256/\y.n<256:=o_
 have a9:y.w<2^64:=by rw[au];exact tO a4 o_
 have hs:(fP s p k).2=(Ie s p y).zero a r:=by
  unfold fP nY
  grind
 rw[ha,hr,hs];rw[ha] at e1;rw[hr] at e1 e2 e3;have a8:eQ (Ie s p y):=rS h.wf p ar.1 ar.2 a9;have a7:eQ ((Ie s p y).zero a r):=yo a8 a r;have ap:((Ie s p y).zero a r).j_=s.j_:=by rw[yi,oM]
 have a6:∀b,(b<a\/a+r<=b)->b≠p*64->b≠p*64+1->((Ie s p y).zero a r).rd b=s.rd b:=fun b h1 h2 h3=>by rw[tj _ _ _ h1,oN p y h2 h3]
 have ad:FA ((Ie s p y).zero a r) p=y:=by
  rw[lQ (s:=Ie s p y) (fun b h1 h2=>tj _ _ _ o_)];exact rR h.wf hp ar.1 ar.2
 have a5:∀q,q≠p->FA ((Ie s p y).zero a r) q=FA s q:=fun q hq=>lQ fun b h1 h2=>a6 b o_ o_ o_;have a3:Own ((Ie s p y).zero a r) o:=by
  refine⟨a7,?_,?_⟩
  ·intro q hq;rw[ap] at hq⊢;have:=h.up q hq
   by_cases e:o q=p
   ·rw[e,ad];rw[e,hx] at this;refine⟨this.1,this.2.1,this.2.2.1,?_⟩;have h4:=this.2.2.2;unfold gr at h4⊢;rw[ai];rw[hk1] at h4;exact h4
   grind
  ·intro q hq hoq;rw[ap] at hq⊢;have:=h.down q hq hoq
   by_cases e:q=p
   ·subst e;rw[ad];rw[hx] at this;refine⟨ab ⟨ai,by rw[an];exact hc.1⟩,fun j hj=>this.2 j ?_⟩;unfold gr at hj⊢;rw[ai] at hj;rw[hk1];exact hj
   grind
 have a1:∀a0 r0,eO ((Ie s p y).zero a r) o a0 r0↔eO s o a0 r0\/(a0=a/\r0=r):=by
  intro a0 r0
  constructor
  ·rintro⟨h0,g1,g2,g3⟩;rw[ap] at g1
   by_cases e:h0=p
   ·subst e;rw[ad] at g3
    rcases g3 with⟨f1,k',f2,f3,f4,f5⟩ | ⟨f1,_⟩
    ·rw[au,sR] at f3;rw[an] at f2 f4 f5
     by_cases ek:k=k'
     ·subst ek
      right;exact⟨f4.T ha,f5.T hr⟩
     ·left
      refine⟨h0,g1,g2,ab ⟨by rw[hx];exact hk1,k',by rw[hx];exact f2,?_,by rw[hx];exact f4,by rw[hx];exact f5⟩⟩;rw[hx]
      simpa[ek] using f3
    omega
   ·rw[a5 _ e] at g3;exact ab ⟨h0,g1,g2,g3⟩
  ·rintro(⟨h0,g1,g2,g3⟩ | ⟨rfl,rfl⟩)
   ·refine⟨h0,by rw[ap];exact g1,g2,?_⟩
    by_cases e:h0=p
    ·subst e;rw[ad];rw[hx] at g3
     rcases g3 with⟨f1,k',f2,f3,f4,f5⟩ | ⟨f1,_⟩
     ·exact ab ⟨ai,k',by rw[an];exact f2,by rw[au,sR,f3];rfl,by rw[an];exact f4,by rw[an];exact f5⟩
     ·omega
    grind
   ·refine⟨p,by grind,ho,?_⟩;rw[ad];exact ab ⟨ai,k,by grind,by rw[au,sR];simp,by grind,by grind⟩
 have a2:∀r0,¬eO s o a r0:=by
  rintro r0 ⟨h0,hq⟩;have ba:=(hq.pos h).2.1;have:h0=p:=o_
  subst this;have g3:=hq.2.2;rw[hx] at g3
  rcases g3 with⟨f1,k',f2,f3,f4,f5⟩ | ⟨f1,_⟩
  ·have:=Ip hk f2 (ha.T f4);subst this;rw[hb] at f3
   cases f3
  omega
 refine⟨⟨a3,a1,a2,?_,?_⟩,?_⟩
 ·intro a0 r0 b hq hbr;have a':=eO.apart a3 ((a1 a0 r0).2 (ab hq)) ((a1 a r).2 (ae ⟨rfl,rfl⟩));have bb:¬a0=a:=by rintro rfl;exact a2 _ hq
  obtain⟨h0,hq⟩:=hq;have hh:=fun e=>hq.not_head h (b:=b) hbr ho e
  grind
 ·rw[yn,ng]
 ·rw[yj,Ke]
theorem uD(hw:eQ s)(h1:1<=n)(h2:n<=100)(h3:(s.B_.length+n)*64<=s.E1):∃p,s.grant n=((p,0),s.G0 p n)/\p<=409601/\∀k,k<n->p+k∉s.j_:=by
 obtain⟨t,_,ht,hf⟩:=qH n s.B_.length s.j_ (by rw[i8];omega) 0;have ai:s.run n t=true:=J7.2 hf;obtain⟨t',h4,h5,h6⟩:=Oc t ai;have he:=qE h5 (s.B_.length*n+1) 0 (cC _) o_ fun g _ hg=>h6 g hg;have hg:s.grant n=((t',0),s.G0 t' n):=by
  unfold r_.grant
  grind
 have ad:=mJ hw h2;rw[hg] at ad;exact⟨t',hg,ad,J7.1 h5⟩
theorem Il(h:Own s o){p n:Nat}{x:Hr}(hx:kT x)(hxn:gr x=n)(hxw:x.w<2^64)(hfree:∀k,k<n->p+k∉s.j_)(hp:p+n<=1048576)(hr:(s.B_.length+n)*64<=s.E1):
 ∃o',Own (Ie (s.G0 p n) p x) o'/\o' p=p/\p∈(Ie (s.G0 p n) p x).j_/\FA (Ie (s.G0 p n) p x) p=x/\
  (∀a r,eO (Ie (s.G0 p n) p x) o' a r↔eO s o a r\/nH x p a r)/\(∀a r b,eO s o a r->b<r->(Ie (s.G0 p n) p x).rd (a+b)=s.rd (a+b)):=by
 have a6:1<=n:=by
  rw[<-hxn];unfold gr;rcases hx with hx | hx
  ·rw[if_neg o_];exact Nat.le_refl _
  grind
 have a1:eQ (s.G0 p n):=tz h.wf n hfree hp hr;obtain⟨au,a0⟩:=hx.small;have a5:eQ (Ie (s.G0 p n) p x):=rS a1 p au a0 hxw;have ad:∀q,q∈(Ie (s.G0 p n) p x).j_↔q∈s.j_\/(p<=q/\q<p+n):=fun q=>by rw[oM,nK]
 have ap:p∈(Ie (s.G0 p n) p x).j_:=(ad p).2 (ae o_);have a2:FA (Ie (s.G0 p n) p x) p=x:=rR a1 (by rw[<-oM (s.G0 p n) p x];omega) au a0;have ar:∀b,(b / 64<p\/p+n<=b / 64)->(Ie (s.G0 p n) p x).rd b=s.rd b:=fun b hb=>by
  rw[oN p x o_ o_,tx s p n hb]
 have a3:∀q,q∈s.j_->q<p\/p+n<=q:=fun q hq=>by
  refine Classical.byContradiction fun hc=>?_;have:=hfree (q-p) o_;grind
 have an:∀q,q∈s.j_->FA (Ie (s.G0 p n) p x) q=FA s q:=fun q hq=>lQ fun b h1 h2=>ar b (by grind);have ai:∀q,q∈s.j_->(if p<=q/\q<p+n then p else o q)=o q:=fun q hq=>if_neg (by grind);have a4:Own (Ie (s.G0 p n) p x) (fun q=>if p<=q/\q<p+n then p else o q):=by
  refine⟨a5,?_,?_⟩
  ·intro q hq;rcases(ad q).1 hq with hq | hq
   ·have:=h.up q hq;simp only[ai q hq,ai _ this.1];rw[an _ this.1];exact⟨(ad _).2 (ab this.1),this.2⟩
   grind
  ·intro q hq hoq;rcases(ad q).1 hq with hq | hq
   ·rw[ai q hq] at hoq;rw[an q hq];have:=h.down q hq hoq;refine⟨this.1,fun k hk=>?_⟩;have h3:=this.2 k hk;simp only[ai _ h3.1];exact⟨(ad _).2 (ab h3.1),h3.2⟩
   grind
 refine⟨_,a4,if_pos o_,ap,a2,?_,?_⟩
 ·intro a r;constructor
  ·rintro⟨q,g1,g2,g3⟩;dsimp only at g2
   rcases(ad q).1 g1 with hq | hq
   ·rw[ai q hq] at g2;rw[an q hq] at g3;exact ab ⟨q,hq,g2,g3⟩
   grind
  ·rintro(⟨q,g1,g2,g3⟩ | hb)
   ·exact⟨q,(ad q).2 (ab g1),by grind,by grind⟩
   ·exact⟨p,ap,by grind,by grind⟩
 ·rintro a r b ⟨q,hq⟩ hb;exact ar _ (a3 _ (hq.word h hb).1)
theorem Hy{n c:Nat}(h:gd n=some c):n<=et c/\c<8:=by
 refine⟨?_,tZ h⟩;have:=List.find?_some h;unfold et;grind
theorem Ox(h:gd n=none):28<n:=by
 have:=bS.1 h 7 s_
 simp[iP] at this
 omega
theorem zn{w n k:Nat}(h:fW w n=some k):w.testBit k=false:=by
 unfold fW at h;grind
theorem yE(h:Own s o)(h1:1<=n)(h2:n<=4000)(hr:(s.B_.length+fa n)*64<=s.E1):
 ∃a s' o' r,fR s n=((a,0),s')/\Hu s s' o o' a r/\n<=r/\s'.B_.length<=s.B_.length+fa n:=by
 cases hc:gd n with
 | none=>
  have ar:=Ox hc;have ad:fa n=(n+65) / 64:=by unfold fa;grind
  obtain⟨p,hg,hp,hf⟩:=uD h.wf (n:=fa n) o_ o_ hr;have hx:kT ⟨2,fa n,n⟩:=ae ⟨rfl,by grind,by grind⟩;have ai:gr ⟨2,fa n,n⟩=fa n:=rfl;obtain⟨o',q1,q2,q3,q4,q5,q6⟩:=Il h hx ai (by grind) hf o_ hr;refine⟨p*64+2,Ie (s.G0 p (fa n)) p ⟨2,fa n,n⟩,o',fa n*64-2,?_,⟨q1,?_,?_,q6,?_⟩,o_,?_⟩
  ·unfold fR
   grind
  ·intro a0 r0;rw[q5]
   constructor
   ·rintro(hq | ⟨f1,_⟩ | ⟨f1,f2,f3⟩)
    ·exact ab hq
    ·cases f1
    grind
   ·rintro(hq | ⟨rfl,rfl⟩)
    ·grind
    ·exact ae (ae ⟨rfl,rfl,by grind⟩)
  ·rintro r0 ⟨q,hq⟩;have e:=(hq.pos h).2.1;have e2:q=p:=o_
   subst e2;exact hf 0 o_ hq.1
  ·rw[ng,mw]
  ·rw[Ke,mu];omega
 | some c=>
  obtain⟨au,ap⟩:=Hy hc;have ad:fa n=1:=by unfold fa;grind
  cases hs:kt s c with
  | some pk=>
   obtain⟨p,k⟩:=pk;obtain⟨x,hm,g1,g2,g3⟩:=oX _ hs;obtain⟨m1,m2,m3⟩:=(h.mem_heads _).1 hm;simp only at m1 m2 m3;subst m3;obtain⟨T,hl⟩:=we h m1 m2 g1 (by rw[g2];exact tN g3) (zn g3);refine⟨(fP s p k).1,(fP s p k).2,o,et (FA s p).n,?_,T,by grind,o_⟩;unfold fR;rw[if_neg o_,hc];simp only[hs]
  | none=>
   rw[ad] at hr;obtain⟨p,hg,hp,hf⟩:=uD h.wf (n:=1) o_ o_ hr;have hx:kT ⟨1,c,0⟩:=ab ⟨rfl,ap⟩;have ai:gr ⟨1,c,0⟩=1:=rfl;obtain⟨o',q1,q2,q3,q4,q5,q6⟩:=Il h hx ai (by grind) hf o_ hr;have a1:0<eJ c:=by
    have:c=0\/c=1\/c=2\/c=3\/c=4\/c=5\/c=6\/c=7:=o_
    rcases this with rfl | rfl | rfl | rfl | rfl | rfl | rfl | rfl<;>simp[eJ,iP]
   obtain⟨T,hl⟩:=we q1 (k:=0) q3 q2 (by rw[q4]) (by grind) (by grind);have an:∀a r,eO (Ie (s.G0 p 1) p ⟨1,c,0⟩) o' a r↔eO s o a r:=fun a r=>by
    rw[q5]
    constructor
    ·rintro(hq | ⟨_,k,_,f,_⟩ | ⟨f,_⟩)
     ·exact hq
     ·simp at f
     ·cases f
    grind
   refine⟨(fP (Ie (s.G0 p 1) p ⟨1,c,0⟩) p 0).1,(fP (Ie (s.G0 p 1) p ⟨1,c,0⟩) p 0).2,o',et (FA (Ie (s.G0 p 1) p ⟨1,c,0⟩) p).n,?_,⟨T.own,?_,?_,?_,?_⟩,?_,?_⟩
   ·unfold fR
    grind
   ·intro a0 r0;rw[T.pl,an]
    rfl
   ·intro r0 hq;exact T.fresh r0 ((an _ _).2 hq)
   ·intro a0 r0 b hq hb;rw[T.rd a0 r0 b ((an _ _).2 hq) hb]
    grind
   ·rw[T.E1,ng,mw]
   ·grind
   ·rw[hl,Ke,mu,ad];omega
structure yu (s s':r_) (o:Nat->Nat) (a:Nat):Prop where
 own:Own s' o
 pl:∀a0 r0,eO s' o a0 r0↔eO s o a0 r0/\a0≠a
 rd:∀a0 r0 b,eO s' o a0 r0->b<r0->s'.rd (a0+b)=s.rd (a0+b)
 E1:s'.E1=s.E1
 len:s'.B_.length<=s.B_.length
theorem GC(h:Own s o){p n:Nat}(hp:p∈s.j_)(ho:o p=p)(hn:gr (FA s p)=n):
 Own (s.delRun p n) o/\(∀a r,eO (s.delRun p n) o a r↔eO s o a r/\a / 64≠p)/\(∀a r b,eO (s.delRun p n) o a r->b<r->(s.delRun p n).rd (a+b)=s.rd (a+b)):=by
 have dn:=(h.down p hp ho).2;have ad:∀q,q∈(s.delRun p n).j_↔q∈s.j_/\¬(p<=q/\q<p+n):=fun q=>vL;have ai:∀q,q∈(s.delRun p n).j_->FA (s.delRun p n) q=FA s q:=fun q hq=>lQ fun b h1 h2=>qr s p n (by grind);have au:∀q,q∈s.j_->(o q=p↔p<=q/\q<p+n):=fun q hq=>by
  constructor
  ·intro e;have:=h.up q hq
   grind
  ·intro e;have:=(dn (q-p) o_).2
   grind
 have ap:Own (s.delRun p n) o:=by
  refine⟨ug h.wf p n,?_,?_⟩
  ·intro q hq;obtain⟨g1,g2⟩:=(ad q).1 hq;have:=h.up q g1
   grind
  ·intro q hq hoq;obtain⟨g1,g2⟩:=(ad q).1 hq;have:=h.down q g1 hoq
   grind
 have ar:∀a r,eO (s.delRun p n) o a r↔eO s o a r/\a / 64≠p:=by
  intro a r
  constructor
  ·rintro⟨q,g1,g2,g3⟩;rw[ai q g1] at g3;have hq:gZ s o q a r:=⟨((ad q).1 g1).1,g2,g3⟩;refine⟨⟨q,hq⟩,?_⟩;rw[(hq.pos h).2.1]
   grind
  ·rintro⟨⟨q,hq⟩,an⟩;rw[(hq.pos h).2.1] at an;have hk:q∈(s.delRun p n).j_:=(ad q).2 ⟨hq.1,fun hc=>an (by rw[<-hq.2.1];exact(au q hq.1).2 hc)⟩;exact⟨q,hk,hq.2.1,by rw[ai q hk];exact hq.2.2⟩
 refine⟨ap,ar,?_⟩;rintro a r b ⟨q,hq⟩ hb;have hk:=((ad _).1 (hq.word ap hb).1).2;exact qr s p n o_
theorem wH(hw:eQ s){p n:Nat}(h1:1<=n)(h2:n<=64)(hk:∀k,k<n->p+k∈s.j_):s.release p n=(0,s.delRun p n):=by
 have ad:=hw.top _ (hk (n-1) o_);unfold r_.release;rw[if_neg o_,if_pos (si.2 hk)]
theorem qv(a:Nat):∀(l:List (Nat×Hr)) {p k:Nat} {x:Hr},fS a l=some (p,k,x)->(p,x)∈l/\((x.l_=2/\a=p*64+2)\/(x.l_=1/\k<eJ x.n/\fF p x.n k=a/\x.w.testBit k=true))
 | [],p,k,x,h=>by unfold fS at h;cases h
 | (q,y)::r,p,k,x,h=>by
  unfold fS at h;split at h
  ·rename_i hc;have h:=Option.some.inj h;injection h with e1 e2
   injection e2 with e2 e3
   subst e1 e2 e3;exact⟨av ..,ab hc⟩
  ·split at h
   ·have:=qv a r h;exact⟨ak _ this.1,this.2⟩
   ·rename_i hc;split at h
    ·rename_i k' hk';have h:=Option.some.inj h;injection h with e1 e2
     injection e2 with e2 e3
     subst e1 e2 e3;unfold JL at hk';have hm:=cI hk';have hp:=List.find?_some hk';simp only[bw] at hm;simp only[aM,decide_eq_true_eq,jI] at hp;have ad:¬(y.l_≠1):=fun e=>hc (ab e);exact⟨av ..,ae ⟨dw.1 ad,hm,hp.1,hp.2.2⟩⟩
    ·have:=qv a r h;exact⟨ak _ this.1,this.2⟩
theorem qw(a:Nat):∀(l:List (Nat×Hr)),fS a l=none->∀p x,(p,x)∈l->¬(x.l_=2/\a=p*64+2)/\(x.l_=1->a / 64=p->∀k,k<eJ x.n->fF p x.n k=a->x.w.testBit k=false)
 | [],_,p,x,hm=>by cases hm
 | (q,y)::r,h,p,x,hm=>by
  unfold fS at h;split at h
  ·cases h
  ·rename_i hc1;split at h
   ·rename_i hc;rcases ah.1 hm with e | e
    ·injection e with e1 e2
     subst e1 e2;refine⟨hc1,fun g1 g2=>?_⟩;rcases hc with hc | hc
     ·exact absurd g1 hc
     ·exact absurd g2 hc
    ·exact qw a r h p x e
   ·split at h
    ·cases h
    ·rename_i hs;rcases ah.1 hm with e | e
     ·injection e with e1 e2
      subst e1 e2;refine⟨hc1,fun _ _ k hk he=>?_⟩;unfold JL at hs;have:=bS.1 hs k (bw.2 hk);have ad:=(jA hk).2;simpa[he,jI,show k<64 by omega] using this
     ·exact qw a r h p x e
theorem GY(h:Own s o){a r:Nat}(hp:eO s o a r):∃p k,kb s a=some (p,k,FA s p)/\p∈s.j_/\o p=p/\a / 64=p/\(((FA s p).l_=2/\a=p*64+2)\/((FA s p).l_=1/\k<eJ (FA s p).n/\fF p (FA s p).n k=a/\(FA s p).w.testBit k=true)):=by
 obtain⟨q,hq⟩:=hp;have ai:=(hq.pos h).2.1;have ad:(q,FA s q)∈heads s:=(h.mem_heads _).2 ⟨hq.1,hq.2.1,rfl⟩
 cases hf:kb s a with
 | none=>
  exfalso
  have:=qw a _ hf q _ ad
  rcases hq.2.2 with⟨f1,k,f2,f3,f4,f5⟩ | ⟨f1,f2,f3⟩
  ·grind
  ·omega
 | some t=>
  obtain⟨p,k,x⟩:=t;obtain⟨hm,hx⟩:=qv a _ hf;obtain⟨m1,m2,m3⟩:=(h.mem_heads _).1 hm;simp only at m1 m2 m3;subst m3;refine⟨p,k,rfl,m1,m2,?_,hx⟩
  rcases hx with hx | hx
  ·omega
  ·obtain⟨e1,e2,e3⟩:=JI (jA hx.2.1).1 hx.2.1 p;omega
theorem Mt(h:Own s o){a r:Nat}(hp:eO s o a r):∃s',iM s a=(0,s')/\yu s s' o a:=by
 obtain⟨p,k,hf,m1,m2,m3,hx⟩:=GY h hp;have hd:=h.down p m1 m2;obtain⟨x,ai⟩:=Ii (FA s p);have a':=h.wf.getH_lt p;rw[ai] at hf hx hd a'
 rcases hx with⟨x1,x2⟩ | ⟨x1,x2,x3,x4⟩
 ·have a4:gr x=x.n:=by unfold gr;grind
  obtain⟨ba,dn⟩:=hd;rw[a4] at dn;have hn:1<=x.n/\x.n<=64:=by rcases ba with g | g<;>omega
  have bc:=wH h.wf hn.1 hn.2 fun j hj=>(dn j hj).1;obtain⟨q1,q2,q3⟩:=GC (n:=x.n) h m1 m2 (by grind);refine⟨s.delRun p x.n,?_,q1,?_,q3,Jk s p _,qo s p _⟩
  ·unfold iM
   grind
  ·intro a0 r0;rw[q2]
   constructor
   ·grind
   ·rintro⟨g,a2⟩;refine⟨g,fun e=>a2 ?_⟩;obtain⟨q,hq⟩:=g;have:=(hq.pos h).2.1;have e2:q=p:=o_
    subst e2;have g3:=hq.2.2;rw[ai] at g3
    rcases g3 with⟨f1,_⟩ | ⟨f1,f2,f3⟩
    ·omega
    omega
 ·have a6:=(jA x2).1;have bf:=(jA x2).2;obtain⟨e1,e2,e3⟩:=JI a6 x2 p;obtain⟨y,hy⟩:∃y:Hr,{ x with w:=iy x.w k } =y:=⟨_,rfl⟩;have au:y.l_=1:=by grind
  have an:y.n=x.n:=by grind
  have a5:y.w=iy x.w k:=by grind
  have a1:y.l_<256/\y.n<256:=o_
  have bd:y.w<2^64:=by rw[a5];exact cO Nat.and_le_left a'
  have a9:eQ (Ie s p y):=rS h.wf p a1.1 a1.2 bd;have ad:FA (Ie s p y) p=y:=rR h.wf m1 a1.1 a1.2;have a8:∀q,q≠p->FA (Ie s p y) q=FA s q:=fun q hq=>lQ fun b h1 h2=>oN p y o_ o_;have ap:=oM s p y;have a3:Own (Ie s p y) o:=by
   refine⟨a9,?_,?_⟩
   ·intro q hq;rw[ap] at hq⊢;have:=h.up q hq
    by_cases e:o q=p
    ·rw[e,ad];rw[e,ai] at this;refine⟨this.1,this.2.1,this.2.2.1,?_⟩;have h4:=this.2.2.2;unfold gr at h4⊢;rw[au];rw[x1] at h4;exact h4
    grind
   ·intro q hq hoq;rw[ap] at hq⊢;have:=h.down q hq hoq
    by_cases e:q=p
    ·subst e;rw[ad];rw[ai] at this;refine⟨ab ⟨au,by rw[an];exact a6⟩,fun j hj=>this.2 j ?_⟩;unfold gr at hj⊢;rw[au] at hj;rw[x1];exact hj
    grind
  have ar:∀a0 r0,eO (Ie s p y) o a0 r0↔eO s o a0 r0/\a0≠a:=by
   intro a0 r0
   constructor
   ·rintro⟨q,g1,g2,g3⟩;rw[ap] at g1
    by_cases e:q=p
    ·subst e;rw[ad] at g3
     rcases g3 with⟨f1,k',f2,f3,f4,f5⟩ | ⟨f1,_⟩
     ·rw[an] at f2 f4 f5;rw[a5,xC o_ (by have:=(jA f2).2;omega)] at f3;simp only[aM,Bool.not_eq_true',decide_eq_false_iff_not] at f3;refine⟨⟨q,g1,g2,by rw[ai];exact ab ⟨x1,k',f2,f3.1,f4,f5⟩⟩,?_⟩;intro e;exact f3.2 (Ip x2 f2 (x3.T (e.S.T f4)))
     omega
    ·rw[a8 _ e] at g3;have hq:gZ s o q a0 r0:=⟨g1,g2,g3⟩;refine⟨⟨q,hq⟩,?_⟩;have:=(hq.pos h).2.1;omega
   ·rintro⟨⟨q,hq⟩,a2⟩;refine⟨q,by rw[ap];exact hq.1,hq.2.1,?_⟩
    by_cases e:q=p
    ·subst e;rw[ad];have g3:=hq.2.2;rw[ai] at g3
     rcases g3 with⟨f1,k',f2,f3,f4,f5⟩ | ⟨f1,_⟩
     ·refine ab ⟨au,k',by rw[an];exact f2,?_,by rw[an];exact f4,by rw[an];exact f5⟩;rw[a5,xC o_ (by have:=(jA f2).2;omega),f3];have:k≠k':=by rintro rfl;exact a2 (f4.T x3)
      simp[this]
     omega
    ·rw[a8 _ e];exact hq.2.2
  have bb:∀a0 r0 b,eO (Ie s p y) o a0 r0->b<r0->(Ie s p y).rd (a0+b)=s.rd (a0+b):=by
   intro a0 r0 b hq hb;obtain⟨q,hq⟩:=((ar a0 r0).1 hq).1;have hh:=fun e=>hq.not_head h (b:=b) hb m2 e;refine oN p y ?_ ?_
   ·intro e;have:=hh o_;omega
   omega
  have a7:iM s a=(0,li s p k):=by
   unfold iM
   grind
  by_cases hz:y=⟨1,x.n,0⟩
  ·have a4:gr (FA (Ie s p y) p)=1:=by rw[ad,hz];rfl
   obtain⟨q1,q2,q3⟩:=GC a3 (p:=p) (n:=1) (by grind) m2 a4;have bc:=wH a9 (p:=p) (n:=1) o_ o_ fun j hj=>by
    grind
   refine⟨(Ie s p y).delRun p 1,?_,q1,?_,?_,?_,?_⟩
   ·rw[a7];unfold li
    grind
   ·intro a0 r0;rw[q2,ar]
    constructor
    ·grind
    ·intro g;refine⟨g,fun e=>?_⟩;obtain⟨q,hq⟩:=(ar a0 r0).2 g;have:=(hq.pos a3).2.1;have e2:q=p:=o_
     subst e2;have g3:=hq.2.2;rw[ad,hz] at g3
     rcases g3 with⟨_,k',_,f,_⟩ | ⟨f,_⟩
     ·simp at f
     grind
   ·grind
   ·rw[Jk,ng]
   ·exact aH (qo _ _ _) (by rw[Ke];omega)
  ·refine⟨Ie s p y,?_,a3,ar,bb,ng s p y,by rw[Ke];exact Nat.le_refl _⟩;rw[a7];unfold li
   grind
end
section
open Go.RowKit Tryz Go.BigFrame Go.Maps Go.WideMaps Lf
variable{S:St}{Y:Nat->Prop}{ps:Nat}{w:World}
def iw(S:St)(n:Nat):Prop:=(S.t.open (fR S.a (n+2)).1.1).1.2=0/\Fv (S.make n).2
theorem oA(hw:iW S.t)(n:Nat):(S.make n).1.1<2^64:=by
 have h:=vZ hw;unfold St.make
 split
 ·simp
 ·split
  ·rename_i t_ a1 _;have:=h t_
   split
   ·rename_i hh t1 he;rw[he] at this;exact this
   ·simp
  ·simp
theorem Ig.tabwf(h:Ig w ps S Y):iW S.t:=by
 obtain⟨_,_,_,_,_,h⟩:=h;exact h.tab.wf
theorem jm.w_{w w':World}{B:Nat}{v:Value}{ws:List Nat}(h:jm w B v ws)(hk:Fo Y w w')(hy:∀k,B<=k->k<w.1.size->Y k):jm w' B v ws:=by
 obtain⟨G,c,rfl,hB,hc⟩:=h;refine⟨G,c,rfl,hB,fun i hi=>?_⟩;have h1:=hc i hi;have hlt:G<w.1.size:=by
  unfold World.cell? at h1
  split at h1
  ·rename_i heq;exact(gl heq)
  ·cases h1
 exact(World.cell?_of_block (hk.block G (hy G hB hlt))).T h1
theorem tP(h:Ig w ps S Y)(hi:Fv S)(l:List UInt8)(hl:l.length<=1000)(hm:iw S (many l.length)):
 Ct 129 #[PV ps,SV l] w fun e w'=>e=.returned (.tuple #[Xu ((fx S l).1.1:Nat),Xi ((fx S l).1.2:Nat)])/\Ig w' ps (fx S l).2 Y/\Fo Y w w':=by
 have a4:=fB h hi 0 o_;rw[fU] at a4;have a8:=fun W=>xE l W hl;have bb:=te l hl;have a7:=xZ l o_;obtain⟨R,hR⟩:=Ii (fx S l);rw[hR];unfold fx at hR;rw[if_neg o_] at hR;obtain⟨bc,a3⟩:=hm;have ad:=fun W (hW:Ig W ps S (fun k=>Y k\/(w.1.size<=k/\k<W.1.size)))=>sH hW (many l.length) (by unfold many;split<;>omega) bc;have a6:=oA h.tabwf (many l.length);have a5:many l.length<=200:=by unfold many;split<;>omega
 obtain⟨⟨⟨hh,er⟩,S1⟩,hS⟩:∃r,S.make (many l.length)=r:=⟨_,rfl⟩;rw[hS] at ad a6 a3 hR;simp only at ad a6 a3 hR;rw[<-bb] at ad a5;obtain⟨ws,bj⟩:=Ii (FK l);rw[bj] at a8 ad a5 a7 hR;have HG:=kq7 a4 a8 ad hR h a7 a3;clear a4 a8 ad hR h a7 a3 bc hS bb bj hi;obtain⟨n,hn⟩:=Ii ws.length;have HN:=If hn;rw[hn] at a5;clear hn;go_enter func129,ntmps129;go_wp2_with fail;refine Jc HG.a ?_;go_wp2_with fail;refine(HG.b _).M ?_;rintro e w2 ⟨v,rfl,C_,hb⟩;have a9:=HG.e.wide hb;have H2:=kq3 C_ hb a9;have bm:=C_;obtain⟨G,cp,rfl,_,_⟩:=bm;rw[HN.O] at H2;simp only[HN.O];clear C_ hb a9;go_wp2_with fail;have ad:=HG.c w2 H2.c;rw[HN.O] at ad;refine ad.M ?_;rintro e w3 ⟨rfl,h3,k3⟩;clear ad;have bf:=H2.a.w_ k3 (fun k h1 h2=>ae ⟨h1,h2⟩);have H3:=kq3 h3 k3 bf;clear h3 k3 bf
 cases er with
 | succ er=>
  have bk:(((er+1:Nat):Int) !=0)=true:=m_
  obtain⟨g1,a2⟩:=Ii (er+1);rw[a2] at HG bk;have ai:R=((0,g1),S1):=by rw[<-HG.d,<-a2];rfl
  have au:=If ai;simp only[a2];clear ai a2;go_wp2_with fail;go_ret2;obtain rfl:=au.O;exact⟨rfl,H3.a.M fun k hk=>ab hk,(Fo.v_ H2.b HG.e.yl).T (H3.b.M fun k hk=>ab hk)⟩
 | zero=>
  have ai:R=((hh,0),FC S1 hh 0 ws):=by rw[<-HG.d];rfl
  have au:=If ai;clear ai;go_wp2_with fail
  go_loopw [11,12,40] (fun _ _ i wr=>∃k:Nat,k<=n/\i=Xi k/\∃Sk,Ig wr ps Sk (fun k=>Y k\/(w.1.size<=k/\k<w2.1.size))/\Fv Sk/\FC Sk hh k (ws.drop k)=R.2/\Fo (fun k=>Y k\/(w.1.size<=k/\k<w2.1.size)) w2 wr) (fun _ _ i _=>n-(intOf i).toNat)
  case atStart=>exact⟨0,o_,rfl,S1,H3.a,HG.g,by rw[au.O];rfl,H3.b⟩
  case round=>
   obtain⟨k,hk,rfl,Sk,a1,a0,ar,an⟩:=hrel
   by_cases hlt:k<n
   ·have bo:(k:Int)<n:=o_
    have ap:k<ws.length:=by rw[HN.O];exact hlt
    obtain⟨G',c',he,_,a'⟩:=H2.a.w_ an (fun k h1 h2=>ae ⟨h1,h2⟩)
    injection he with he1 he2 he3
    injection he1 with he1
    injection he1 with he1
    subst he1;have c1:=a' k ap;have hx:=HG.f _ (ao ap);have hd:ws.drop k=ws[k]::ws.drop (k+1):=bJ ap;rw[hd] at ar;have bd:=LV a1 a0 hh k ws[k] a6 o_ hx;have ba:=a0.put hh k ws[k];generalize ws[k]=x at*;have HK:=kq5 bd ba ar an ap;clear bd ba ar an ap a' hd a1 a0 he2 he3;go_wp2_with fail;refine HK.a.M ?_;rintro e w4 ⟨rfl,h4,k4⟩;have H4:=kq2 h4 (HK.d.T k4);clear h4 k4;go_wp2_with fail;go_roundw
    case rel=>exact⟨k+1,o_,s_,_,H4.a,HK.b,HK.c,H4.b⟩
    case measure=>simp[intOf];omega
   ·obtain rfl:k=n:=o_
    have HK:=kq3 a1 ar an;clear a1 ar an a0;go_wp2_with fail;go_ret2;have hf:Sk=R.2:=by rw[<-HK.b,dm (by rw[HN.O];exact Nat.le_refl _)];rfl
    have e1:R.1=(hh,0):=by rw[au.O]
    rw[e1,<-hf];exact⟨rfl,HK.a.M fun k hk=>ab hk,(Fo.v_ H2.b HG.e.yl).T (HK.c.M fun k hk=>ab hk)⟩
end
section
open Lf
variable{S:St}{h:Nat}{n:Nat}{o:Nat->Nat}{s:r_}{ws:List Nat}
structure Fw (S:St) (o:Nat->Nat):Prop where
 own:Own S.a o
 tab:iW S.t
 live:∀(i:Nat) (x:mj),S.t.p_[i]?=some x->x.is=1->∃r,eO S.a o x.t_ r/\S.a.rd (x.t_+1)+2<=r/\S.a.rd (x.t_+1)<=3998
 inj:∀(i j:Nat) (x y:mj),S.t.p_[i]?=some x->S.t.p_[j]?=some y->x.is=1->y.is=1->x.t_=y.t_->i=j
 full:∀a r,eO S.a o a r->∃(i:Nat) (x:mj),S.t.p_[i]?=some x/\x.is=1/\x.t_=a/\S.a.rd a=gj x.gen i
theorem eO.wr_back(h:Own s o){a r b x:Nat}(hp:eO s o a r)(hb:b<r){a0 r0:Nat}(hq:eO (s.wr (a+b) x) o a0 r0):eO s o a0 r0:=by
 obtain⟨h0,hp⟩:=hp;obtain⟨h1,q⟩:=hq;have hg:∀p∈(s.wr (a+b) x).j_,o p=p->FA s p=FA (s.wr (a+b) x) p:=fun p _ ho=>(lQ fun c e1 e2=>r_.rd_wr_ne _ _ _ _ (by
  rintro rfl;have:=hp.not_head h hb ho e1;omega)).S
 exact⟨h1,q.same (i9 _ _ _).S hg⟩
theorem Fw.inv(h:Fw S o):Fv S where
 len i hi h1:=by
  obtain⟨r,h2,h3,h4⟩:=h.live i _ (af hi) h1;have:=(h2.ok h.own (b:=0) o_).2.1;unfold gK at this;omega
 apart i j hi hj hne h1 h2:=by
  obtain⟨r,g2,g3,g4⟩:=h.live i _ (af hi) h1;obtain⟨r',f2,f3,f4⟩:=h.live j _ (af hj) h2;rcases eO.apart h.own g2 f2 with hq | hq | hq
  ·exact absurd (h.inj i j _ _ (af hi) (af hj) h1 h2 hq.1) hne
  ·left;omega
  omega
theorem l6{t:Hs}(ht:iW t){h k:Nat}:t.of h=some k↔∃x:mj,t.p_[k]?=some x/\x.is=1/\h=gj x.gen k:=by
 unfold Hs.of gj
 constructor
 ·grind
 ·rintro⟨x,hx,h1,rfl⟩;have hk:k<t.p_.length:=(aC.1 hx).1;have hl:=ht.len;have hm:=ht.most.2
  grind
def Lf.i_(S:St)(h:Nat):Option (List Nat):=
 match S.t.of h with
 | none=>none
 | some k=>some ((List.range (S.a.rd ((S.t.p_.getD k ⟨0,0,0⟩).t_+1))).map fun j=>S.a.rd ((S.t.p_.getD k ⟨0,0,0⟩).t_+2+j))
def gE(s:r_)(a:Nat):List Nat:=(List.range (s.rd (a+1))).map fun j=>s.rd (a+2+j)
theorem Jy(s:r_)(a:Nat):(gE s a).length=s.rd (a+1):=by simp[gE]
theorem E7{a k:Nat}(h:k<s.rd (a+1)):(gE s a).getD k 0=s.rd (a+2+k):=by
 grind [gE,List.getElem?_range]
theorem gT(ht:iW S.t):i_ S h=some ws↔∃(k:Nat) (x:mj),S.t.p_[k]?=some x/\x.is=1/\h=gj x.gen k/\ws=gE S.a x.t_:=by
 unfold i_
 constructor
 ·intro hh
  split at hh
  ·grind
  ·rename_i k hk;obtain⟨x,hx,h1,h2⟩:=(l6 ht).1 hk;refine⟨k,x,hx,h1,h2,?_⟩;have e:S.t.p_.getD k ⟨0,0,0⟩=x:=by grind
   rw[e] at hh;exact(Option.some.inj hh).S
 ·rintro⟨k,x,hx,h1,h2,rfl⟩;rw[(l6 ht).2 ⟨x,hx,h1,h2⟩];have e:S.t.p_.getD k ⟨0,0,0⟩=x:=by grind
  simp only[e]
  rfl
theorem JH{S S':St}(he:∀ws,i_ S h=some ws↔i_ S' h=some ws):i_ S' h=i_ S h:=by
 grind [i_]
theorem jw(ht:iW S.t)(hl:i_ S h=some ws):S.len h=(ws.length,0):=by
 obtain⟨k,x,hx,h1,h2,rfl⟩:=(gT ht).1 hl;have hk:k<S.t.p_.length:=(aC.1 hx).1;grind [List.getElem?_eq_getElem,Option.some.inj,St.len,St.at_some,l6,Jy]
theorem oy(hl:i_ S h=none):S.len h=(0,7):=by
 grind [i_,St.len,St.at_none]
theorem ru(hf:Fw S o)(hl:i_ S h=some ws){k:Nat}(hk:k<ws.length):S.get h k=(ws.getD k 0,0):=by
 obtain⟨i,x,hx,h1,h2,rfl⟩:=(gT hf.tab).1 hl;have hi:i<S.t.p_.length:=(aC.1 hx).1;have ad:S.t.p_[i]=x:=by have:=af hi;rw[hx] at this;exact(Option.some.inj this).S
 rw[Jy] at hk;obtain⟨r,g1,g2,g3⟩:=hf.live i x hx h1;have ai:=g1.ok hf.own (b:=2+k) o_;unfold St.get;rw[St.at_some ((l6 hf.tab).2 ⟨x,hx,h1,h2⟩) hi,ad];simp only;rw[if_pos hk,E7 hk]
 grind
theorem fL(hf:Fw S o)(hl:i_ S h=some ws):0<h/\h<2^64/\ws.length<=3998/\∀v∈ws,v<2^64:=by
 obtain⟨i,x,hx,h1,rfl,rfl⟩:=(gT hf.tab).1 hl;have hi:i<S.t.p_.length:=(aC.1 hx).1;have hl:=hf.tab.len;have hm:=hf.tab.most.2;have hg:=(hf.tab.slot x (dg hx)).2.1;obtain⟨r,g1,g2,g3⟩:=hf.live i x hx h1;refine⟨by unfold gj;omega,by unfold gj;omega,by rw[Jy];omega,fun v hv=>?_⟩;obtain⟨j,_,rfl⟩:=az.1 hv;exact hf.own.wf.rd_lt _
structure ej (S S':St) (p q:Nat):Prop where
 E1:S'.a.E1=S.a.E1
 most:S'.t.most=S.t.most
 last:S'.t.last=S.t.last
 B_:S'.a.B_.length<=S.a.B_.length+p
 p_:S'.t.p_.length<=S.t.p_.length+q
theorem ej.refl(S:St):ej S S 0 0:=⟨rfl,rfl,rfl,Nat.le_refl _,Nat.le_refl _⟩
theorem ej.T{S T U:St}{p q p' q':Nat}(h:ej S T p q)(k:ej T U p' q'):ej S U (p+p') (q+q'):=
 ⟨k.E1.T h.E1,k.most.T h.most,k.last.T h.last,by have:=h.B_;have:=k.B_;omega,by have:=h.p_;have:=k.p_;omega⟩
theorem ej.M{S S':St}{p q p' q':Nat}(h:ej S S' p q)(hp:p<=p')(hq:q<=q'):ej S S' p' q':=
 ⟨h.E1,h.most,h.last,by have:=h.B_;omega,by have:=h.p_;omega⟩
theorem Cn(hf:Fw S o)(hl:i_ S h=some ws){k x:Nat}(hk:k<ws.length)(hx:x<2^64):
 ∃S',S.put h k x=(0,S')/\Fw S' o/\i_ S' h=some (ws.set k x)/\(∀h',h'≠h->i_ S' h'=i_ S h')/\ej S S' 0 0:=by
 obtain⟨i,y,hy,h1,h2,rfl⟩:=(gT hf.tab).1 hl;have hi:i<S.t.p_.length:=(aC.1 hy).1;have a1:S.t.p_[i]=y:=by have:=af hi;rw[hy] at this;exact(Option.some.inj this).S
 rw[Jy] at hk;obtain⟨r,g1,g2,g3⟩:=hf.live i y hy h1;have ai:=g1.ok hf.own (b:=2+k) o_;obtain⟨ap,ar⟩:=hf.own.wr g1 (b:=2+k) (x:=x) o_ hx;rw[<-dE] at ai ap ar;have hS:S.put h k x=(0,⟨S.a.wr (y.t_+2+k) x,S.t⟩):=by
  unfold St.put;rw[St.at_some ((l6 hf.tab).2 ⟨y,hy,h1,h2⟩) hi,a1];simp only;rw[if_pos hk,ai.1]
 have ad:∀(j:Nat) (z:mj),S.t.p_[j]?=some z->z.is=1->j≠i->∀b,b<2+S.a.rd (z.t_+1)->(S.a.wr (y.t_+2+k) x).rd (z.t_+b)=S.a.rd (z.t_+b):=by
  intro j z hz hz1 hne b hb;obtain⟨r',f1,f2,f3⟩:=hf.live j z hz hz1;refine r_.rd_wr_ne _ _ _ _ ?_
  rcases eO.apart hf.own f1 g1 with hq | hq | hq
  ·exact absurd (hf.inj j i z y hz hy hz1 h1 hq.1) hne
  ·omega
  ·omega
 have au:(S.a.wr (y.t_+2+k) x).rd (y.t_+1)=S.a.rd (y.t_+1):=r_.rd_wr_ne _ _ _ _ o_;refine⟨_,hS,⟨ap,hf.tab,?_,hf.inj,fun a0 r0 hq=>?_⟩,?_,?_,⟨rfl,rfl,rfl,by show (r_.wr _ _ _).B_.length<=_;rw[kL];exact Nat.le_refl _,Nat.le_refl _⟩⟩
 ·intro j z hz hz1;obtain⟨r',f1,f2,f3⟩:=hf.live j z hz hz1;refine⟨r',ar _ _ f1,?_⟩
  by_cases e:j=i
  ·subst e;have hz:S.t.p_[j]?=some z:=hz;rw[hy] at hz
   injection hz with hz
   subst hz
   show (S.a.wr (y.t_+2+k) x).rd (y.t_+1)+2<=r'/\(S.a.wr (y.t_+2+k) x).rd (y.t_+1)<=3998
   rw[au];exact⟨f2,f3⟩
  ·show (S.a.wr (y.t_+2+k) x).rd (z.t_+1)+2<=r'/\(S.a.wr (y.t_+2+k) x).rd (z.t_+1)<=3998
   rw[ad j z hz hz1 e 1 o_];exact⟨f2,f3⟩
 ·obtain⟨j,z,f1,f2,f3,f4⟩:=hf.full a0 r0 (eO.wr_back hf.own g1 (b:=2+k) (x:=x) o_ (by rw[<-dE];exact hq));refine⟨j,z,f1,f2,f3,?_⟩
  show (S.a.wr (y.t_+2+k) x).rd a0=_
  by_cases e:j=i
  ·subst e;rw[hy] at f1
   injection f1 with f1
   subst f1;rw[r_.rd_wr_ne _ _ _ _ o_];exact f4
  ·have:=ad j z f1 f2 e 0 o_;rw[f3] at this;exact this.T f4
 ·refine(gT (S:=⟨S.a.wr (y.t_+2+k) x,S.t⟩) hf.tab).2 ⟨i,y,hy,h1,h2,?_⟩;refine dx fun j=>?_
  show _=(gE (S.a.wr (y.t_+2+k) x) y.t_)[j]?
  unfold gE;rw[au]
  by_cases hj:j<S.a.rd (y.t_+1)
  ·rw[bQ,bU hj]
   by_cases e:k=j
   ·subst e;rw[cD (by simp;exact hk)]
    show some x=some ((S.a.wr (y.t_+2+k) x).rd (y.t_+2+k))
    rw[oS hf.own.wf ai.2.2]
   ·rw[cT e,bQ,bU hj]
    show some _=some ((S.a.wr (y.t_+2+k) x).rd (y.t_+2+j))
    rw[r_.rd_wr_ne _ _ _ _ o_]
  ·rw[aY m_,aY m_]
 ·intro h' hne;refine JH (S':=⟨S.a.wr (y.t_+2+k) x,S.t⟩) fun ws'=>?_;have hw:∀(j:Nat) (z:mj),S.t.p_[j]?=some z->z.is=1->h'=gj z.gen j->gE (S.a.wr (y.t_+2+k) x) z.t_=gE S.a z.t_:=by
   intro j z hz hz1 he;have an:j≠i:=by
    rintro rfl;rw[hy] at hz
    injection hz with hz
    subst hz;exact hne (he.T h2.S)
   unfold gE;rw[ad j z hz hz1 an 1 o_];refine bg fun b hb=>?_;have hb:=bw.1 hb;have:=ad j z hz hz1 an (2+b) o_;rw[<-dE] at this;exact this
  rw[gT hf.tab,gT (S:=⟨S.a.wr (y.t_+2+k) x,S.t⟩) hf.tab]
  constructor
  ·rintro⟨j,z,q1,q2,q3,q4⟩;exact⟨j,z,q1,q2,q3,by rw[q4];exact(hw j z q1 q2 q3).S⟩
  ·rintro⟨j,z,q1,q2,q3,q4⟩;exact⟨j,z,q1,q2,q3,by rw[q4];exact hw j z q1 q2 q3⟩
theorem vw {o:Nat->Nat}{h:Nat}:∀(l:List Nat) {S:St} {ws:List Nat} {k:Nat},Fw S o->i_ S h=some ws->k+l.length<=ws.length->(∀v∈l,v<2^64)->
 Fw (FC S h k l) o/\i_ (FC S h k l) h=some (ws.take k++l++ws.drop (k+l.length))/\(∀h',h'≠h->i_ (FC S h k l) h'=i_ S h')/\ej S (FC S h k l) 0 0
 | [],S,ws,k,hf,hl,hk,hv=>by
  refine⟨hf,?_,fun _ _=>rfl,ej.refl S⟩;show i_ S h=_
  simp_all
 | x::r,S,ws,k,hf,hl,hk,hv=>by
  simp only[aj] at hk;obtain⟨S',e,ad,ap,ar,ai⟩:=Cn hf hl (k:=k) (x:=x) o_ (hv x (av ..));obtain⟨q1,q2,q3,q4⟩:=vw r ad ap (k:=k+1) (by rw[bA];omega) (fun v hm=>hv v (ak _ hm));have e2:FC S h k (x::r)=FC S' h (k+1) r:=by
   show FC (S.put h k x).2 h (k+1) r=_
   rw[e]
  rw[e2];refine⟨q1,?_,fun h' hn=>(q3 h' hn).T (ar h' hn),(ai.T q4).M o_ o_⟩;rw[q2];congr 1
  have an:k<ws.length:=o_
  rw[List.drop_set_of_lt o_,List.take_set,List.take_add_one,af an];have:k-(ws.take k).length=0:=m_
  grind
theorem mR{l ws:List Nat}(hf:Fw S o)(hl:i_ S h=some ws)(hk:l.length=ws.length)(hv:∀v∈l,v<2^64):
 Fw (FC S h 0 l) o/\i_ (FC S h 0 l) h=some l/\(∀h',h'≠h->i_ (FC S h 0 l) h'=i_ S h')/\ej S (FC S h 0 l) 0 0:=by
 have:=vw l hf hl (k:=0) o_ hv;grind
theorem uu:∀(l:List mj) (k0:Nat),∃k,gH l k0=k0+k/\k<=l.length/\(∀x:mj,l[k]?=some x->x.is=0)
 | [],k0=>⟨0,rfl,Nat.le_refl _,s_⟩
 | y::r,k0=>by
  unfold gH;by_cases h:y.is=0
  ·rw[if_pos h];exact⟨0,rfl,o_,fun x hx=>by simp at hx;rw[<-hx];exact h⟩
  ·rw[if_neg h];obtain⟨k,h1,h2,h3⟩:=uu r (k0+1);exact⟨k+1,by rw[h1];omega,by simp only[aj];omega,fun x hx=>h3 x (by simpa using hx)⟩
def fc(S:St)(p q:Nat):Prop:=(S.a.B_.length+p)*64<=S.a.E1/\S.t.p_.length+q<=S.t.most
theorem fc.grew{S S':St}{p q p' q':Nat}(h:fc S (p+p') (q+q'))(hg:ej S S' p q):fc S' p' q':=by
 obtain⟨h1,h2⟩:=h;obtain⟨g1,g2,_,g4,g5⟩:=hg;refine⟨?_,by rw[g2];omega⟩;omega
theorem fc.M{p q p' q':Nat}(h:fc S p q)(hp:p'<=p)(hq:q'<=q):fc S p' q':=
 ⟨aH (dB 64 o_) h.1,by have:=h.2;omega⟩
theorem oz(hf:Fw S o)(hn:n<=3998)(hr:fc S (fa (n+2)) 1):
 ∃h S' o' ws,S.make n=((h,0),S')/\Fw S' o'/\i_ S h=none/\ws.length=n/\i_ S' h=some ws/\(∀h',h'≠h->i_ S' h'=i_ S h')/\ej S S' (fa (n+2)) 1/\(S.t.open (fR S.a (n+2)).1.1).1.2=0:=by
 obtain⟨a,s',o',r,ea,T,b1,bu⟩:=yE hf.own (n:=n+2) o_ o_ hr.1;obtain⟨k,a3,b0,a1⟩:=uu S.t.p_ 0;rw[bz] at a3;have bj:k≠S.t.most:=by have:=hr.2;omega
 have hm:=hf.tab.most.2;have bk:=hf.tab.len;obtain⟨l,hl⟩:=Ii (if k=S.t.p_.length then S.t.p_++[⟨0,0,0⟩] else S.t.p_);have a6:k<l.length:=by
  rw[<-hl]
  split
  ·simp only[ag,aj,aL];omega
  ·omega
 have bm:l.length<=S.t.p_.length+1:=by rw[<-hl];split<;>simp
 have bo:l.length<=S.t.most:=by
  rw[<-hl]
  split
  ·have:=hr.2
   simp;omega
  ·exact bk
 have a5:∀i:Nat,i≠k->l[i]?=S.t.p_[i]?:=by
  intro i hi;rw[<-hl]
  split
  ·rename_i e
   rcases cE i S.t.p_.length with h | h
   ·rw[List.getElem?_append_left h]
   ·rw[List.getElem?_append_right h,aY h,aY m_]
  ·rfl
 obtain⟨g,hg⟩:=Ii ((S.t.genAt k+1) % 4294967296);have bd:g<4294967296:=by rw[<-hg];omega
 obtain⟨h,hh⟩:=Ii (gj g k);have bf:h<2^64:=by rw[<-hh];unfold gj;omega
 have a8:S.t.open a=((h,0),{ S.t with p_:=l.set k ⟨1,g,a⟩ }):=by
  unfold Hs.open;simp only[a3];rw[if_neg bj];simp only[hl,hg,hh]
 have ad:=(T.pl a r).2 (ae ⟨rfl,rfl⟩);obtain⟨ar,an⟩:=T.own.wr ad (b:=0) (x:=h) o_ bf;rw[Nat.add_zero] at ar an;obtain⟨bv,a9⟩:=ar.wr (an _ _ ad) (b:=1) (x:=n) o_ o_;have bq:S.make n=((h,0),⟨(s'.wr a h).wr (a+1) n,{ S.t with p_:=l.set k ⟨1,g,a⟩ }⟩):=by
  unfold St.make;rw[if_neg o_,ea];simp only[a8]
 have ap:∀a0 r0 b,eO S.a o a0 r0->b<r0->((s'.wr a h).wr (a+1) n).rd (a0+b)=S.a.rd (a0+b):=by
  intro a0 r0 b hq hb;have bx:=eO.apart T.own ((T.pl a0 r0).2 (ab hq)) ad;have a7:a0≠a:=by rintro rfl;exact T.fresh _ hq
  rw[r_.rd_wr_ne _ _ _ _ o_,r_.rd_wr_ne _ _ _ _ o_];exact T.rd a0 r0 b hq hb
 have a4:((s'.wr a h).wr (a+1) n).rd (a+1)=n:=oS ar.wf (by rw[i9];exact(ad.ok T.own (b:=1) o_).2.2) _;have ai:∀(i:Nat) (x:mj),(l.set k ⟨1,g,a⟩)[i]?=some x->(i=k/\x=⟨1,g,a⟩)\/(i≠k/\S.t.p_[i]?=some x):=by
  intro i x hx
  by_cases e:i=k
  ·subst e;rw[cD a6] at hx;exact ab ⟨rfl,(Option.some.inj hx).S⟩
  ·rw[cT (fun h=>e h.S),a5 i e] at hx;exact ae ⟨e,hx⟩
 have a':(l.set k ⟨1,g,a⟩)[k]?=some ⟨1,g,a⟩:=cD a6;have ba:∀i:Nat,i≠k->(l.set k (⟨1,g,a⟩:mj))[i]?=S.t.p_[i]?:=fun i e=>by rw[cT (fun h=>e h.S),a5 i e]
 have bb:a<=4611686018427387903:=by have:=(ad.ok T.own (b:=0) o_).2.1;unfold gK at this;omega
 have a2:iW { S.t with p_:=l.set k ⟨1,g,a⟩ }:=by
  refine⟨hf.tab.most,hf.tab.last,by simp only[bA];exact bo,fun x hx=>?_⟩;obtain⟨i,hi⟩:=List.getElem?_of_mem hx
  rcases ai i x hi with⟨_,e⟩ | ⟨_,e⟩
  ·subst e;exact⟨by show 1<=2;decide,bd,bb⟩
  ·exact hf.tab.slot x (dg e)
 have bc:Fw ⟨(s'.wr a h).wr (a+1) n,{ S.t with p_:=l.set k ⟨1,g,a⟩ }⟩ o':=by
  refine⟨bv,a2,?_,?_,fun a0 r0 hq=>?_⟩
  ·intro i x hx h1
   rcases ai i x hx with⟨_,e⟩ | ⟨_,e⟩
   ·subst e;refine⟨r,a9 _ _ (an _ _ ad),?_⟩;simp only;rw[a4];omega
   ·obtain⟨r0,f1,f2,f3⟩:=hf.live i x e h1;refine⟨r0,a9 _ _ (an _ _ ((T.pl _ _).2 (ab f1))),?_⟩;simp only;rw[ap _ _ 1 f1 o_];exact⟨f2,f3⟩
  ·intro i j x y hx hy h1 h2 he
   rcases ai i x hx with⟨e1,e⟩ | ⟨e1,e⟩
   ·rcases ai j y hy with⟨e2,e'⟩ | ⟨e2,e'⟩
    ·rw[e1,e2]
    ·subst e;obtain⟨r0,f1,_⟩:=hf.live j y e' h2;rw[<-he] at f1;exact absurd f1 (T.fresh _)
   ·rcases ai j y hy with⟨e2,e'⟩ | ⟨e2,e'⟩
    ·subst e';obtain⟨r0,f1,_⟩:=hf.live i x e h1;rw[he] at f1;exact absurd f1 (T.fresh _)
    ·exact hf.inj i j x y e e' h1 h2 he
  ·have q1:=eO.wr_back ar (an _ _ ad) (b:=1) (x:=n) o_ hq
   rcases(T.pl _ _).1 (eO.wr_back T.own ad (b:=0) (x:=h) o_ (by rw[Nat.add_zero];exact q1)) with f | ⟨e1,e2⟩
   ·obtain⟨i,x,f1,f2,f3,f4⟩:=hf.full _ _ f;have au:i≠k:=by rintro rfl;have:=a1 x f1;omega
    have h0:0<r0:=by obtain⟨h0,bt⟩:=f;have:=(bt.pos hf.own).1;omega
    exact⟨i,x,(ba i au).T f1,f2,f3,(ap a0 r0 0 f h0).T f4⟩
   ·rw[e1];refine⟨k,_,a',rfl,rfl,?_⟩
    show ((s'.wr a h).wr (a+1) n).rd a=gj g k
    rw[r_.rd_wr_ne _ _ _ _ o_,oS T.own.wf (a:=a) (ad.ok T.own (b:=0) o_).2.2];exact hh.S
 have bs:i_ S h=none:=by
  cases hq:i_ S h with
  | none=>rfl
  | some ws=>
   exfalso
   obtain⟨i,x,hx,h1,h2,_⟩:=(gT hf.tab).1 hq;have hi:i<S.t.p_.length:=(aC.1 hx).1;have e:i=k:=by rw[<-hh] at h2;unfold gj at h2;omega
   subst e;have:=a1 x hx;omega
 refine⟨h,_,o',gE ((s'.wr a h).wr (a+1) n) a,bq,bc,bs,by rw[Jy,a4],?_,?_,?_,?_⟩
 ·exact(gT a2).2 ⟨k,_,a',rfl,hh.S,rfl⟩
 ·intro h' a7;refine JH fun ws=>?_;rw[gT hf.tab,gT a2];have hw:∀(i:Nat) (x:mj),S.t.p_[i]?=some x->x.is=1->gE ((s'.wr a h).wr (a+1) n) x.t_=gE S.a x.t_:=by
   intro i x hx h1;obtain⟨r0,f1,f2,f3⟩:=hf.live i x hx h1;unfold gE;rw[ap _ _ 1 f1 o_];refine bg fun b hb=>?_;have hb:=bw.1 hb;have:=ap _ _ (2+b) f1 o_;rw[<-dE] at this;exact this
  constructor
  ·rintro⟨i,x,hx,h1,h2,h3⟩;have au:i≠k:=by rintro rfl;have:=a1 x hx;omega
   exact⟨i,x,(ba i au).T hx,h1,h2,by rw[h3];exact(hw i x hx h1).S⟩
  ·rintro⟨i,x,hx,h1,h2,h3⟩
   rcases ai i x hx with⟨e1,e⟩ | ⟨e1,e⟩
   ·subst e1 e;exact absurd (h2.T hh) a7
   ·exact⟨i,x,e,h1,h2,by rw[h3];exact hw i x e h1⟩
 ·refine⟨T.E1,rfl,rfl,?_,?_⟩
  ·show (r_.wr _ _ _).B_.length<=_
   rw[kL,kL];exact bu
  ·simp only[bA];exact bm
 ·rw[ea];simp only[a8]
theorem rz(hf:Fw S o)(hn:n<=3998)(hr:fc S (fa (n+2)) 1):iw S n:=by
 obtain⟨h,S',o',ws,e,ad,_,_,_,_,_,ho⟩:=oz hf hn hr;exact⟨ho,by rw[e];exact ad.inv⟩
theorem mQ(hf:Fw S o)(hl:i_ S h=some ws):
 ∃S',S.drop h=(0,S')/\Fw S' o/\i_ S' h=none/\(∀h',h'≠h->i_ S' h'=i_ S h')/\ej S S' 0 0:=by
 obtain⟨k,x,hx,h1,h2,rfl⟩:=(gT hf.tab).1 hl;have hk:k<S.t.p_.length:=(aC.1 hx).1;have a5:S.t.p_[k]=x:=by have:=af hk;rw[hx] at this;exact(Option.some.inj this).S
 have a4:=(l6 hf.tab).2 ⟨x,hx,h1,h2⟩;obtain⟨r,g1,g2,g3⟩:=hf.live k x hx h1;obtain⟨s',es,F⟩:=Mt hf.own g1;obtain⟨z,hz⟩:∃z:Nat,(if x.gen=S.t.last then 2 else 0)=z:=⟨_,rfl⟩;have a6:z≠1/\z<=2:=by rw[<-hz];split<;>omega
 have a7:S.t.close h=(0,{ S.t with p_:=S.t.p_.set k { x with is:=z } }):=by
  rw[Hs.close_some a4 hk,a5,hz]
 have an:∀(i:Nat) (y:mj),(S.t.p_.set k { x with is:=z })[i]?=some y->y.is=1->i≠k/\S.t.p_[i]?=some y:=by
  intro i y hy ad
  by_cases e:i=k
  ·subst e;rw[cD hk] at hy
   injection hy with hy
   rw[<-hy] at ad;exact absurd ad a6.1
  ·rw[cT (fun h=>e h.S)] at hy;exact⟨e,hy⟩
 have au:∀i:Nat,i≠k->(S.t.p_.set k { x with is:=z })[i]?=S.t.p_[i]?:=fun i e=>cT (fun h=>e h.S);have a3:∀(i:Nat) (y:mj),S.t.p_[i]?=some y->y.is=1->i≠k->y.t_≠x.t_:=fun i y hy ad hi e=>hi (hf.inj i k y x hy hx ad h1 e);have a1:iW { S.t with p_:=S.t.p_.set k { x with is:=z } }:=by
  refine⟨hf.tab.most,hf.tab.last,by simp only[bA];exact hf.tab.len,fun y hy=>?_⟩;obtain⟨i,hi⟩:=List.getElem?_of_mem hy
  by_cases e:i=k
  ·subst e;rw[cD hk] at hi
   injection hi with hi
   rw[<-hi];have:=hf.tab.slot x (dg hx);exact⟨a6.2,this.2⟩
  ·rw[au i e] at hi;exact hf.tab.slot y (dg hi)
 have a8:S.drop h=(0,⟨s',{ S.t with p_:=S.t.p_.set k { x with is:=z } }⟩):=by
  unfold St.drop;rw[St.at_some a4 hk,a5];simp only[a7,es]
 have a9:Fw ⟨s',{ S.t with p_:=S.t.p_.set k { x with is:=z } }⟩ o:=by
  refine⟨F.own,a1,?_,?_,fun a0 r0 hq=>?_⟩
  ·intro i y hy ad;obtain⟨hi,hy⟩:=an i y hy ad;obtain⟨r0,f1,f2,f3⟩:=hf.live i y hy ad;have hp:=(F.pl _ _).2 ⟨f1,a3 i y hy ad hi⟩;refine⟨r0,hp,?_⟩;simp only;rw[F.rd _ _ 1 hp o_];exact⟨f2,f3⟩
  ·intro i j y y' hy ar h3 h4 he;exact hf.inj i j y y' (an i y hy h3).2 (an j y' ar h4).2 h3 h4 he
  ·obtain⟨q,a'⟩:=(F.pl _ _).1 hq;obtain⟨i,y,f1,f2,f3,f4⟩:=hf.full _ _ q;have ap:i≠k:=by
    rintro rfl;rw[hx] at f1
    injection f1 with f1
    subst f1;exact a' f3.S
   have h0:0<r0:=by obtain⟨h0,ba⟩:=q;have:=(ba.pos hf.own).1;omega
   exact⟨i,y,(au i ap).T f1,f2,f3,(F.rd a0 r0 0 hq h0).T f4⟩
 refine⟨_,a8,a9,?_,?_,⟨F.E1,rfl,rfl,F.len,by simp only[bA];exact Nat.le_refl _⟩⟩
 ·cases hq:i_ (⟨s',{ S.t with p_:=S.t.p_.set k { x with is:=z } }⟩:St) h with
  | none=>rfl
  | some ws=>
   exfalso
   obtain⟨i,y,hy,ad,ai,_⟩:=(gT a1).1 hq;obtain⟨hi,hy⟩:=an i y hy ad;have bb:i<S.t.p_.length:=(aC.1 hy).1;have:=hf.tab.len;have:=hf.tab.most.2;rw[h2] at ai;unfold gj at ai;omega
 ·intro h' hn;refine JH fun ws=>?_;rw[gT hf.tab,gT a1];have hw:∀(i:Nat) (y:mj),S.t.p_[i]?=some y->y.is=1->i≠k->gE s' y.t_=gE S.a y.t_:=by
   intro i y hy ad hi;obtain⟨r0,f1,f2,f3⟩:=hf.live i y hy ad;have hp:=(F.pl _ _).2 ⟨f1,a3 i y hy ad hi⟩;unfold gE;rw[F.rd _ _ 1 hp o_];refine bg fun b hb=>?_;have hb:=bw.1 hb;have:=F.rd _ _ (2+b) hp o_;rw[<-dE] at this;exact this
  constructor
  ·rintro⟨i,y,hy,ad,ai,a2⟩;have ap:i≠k:=by
    rintro rfl;rw[hx] at hy
    injection hy with hy
    subst hy;exact hn (ai.T h2.S)
   exact⟨i,y,(au i ap).T hy,ad,ai,by rw[a2];exact(hw i y hy ad ap).S⟩
  ·rintro⟨i,y,hy,ad,ai,a2⟩;obtain⟨hi,ar⟩:=an i y hy ad;exact⟨i,y,ar,ad,ai,by rw[a2];exact hw i y ar ad hi⟩
end
section
open Go.RowKit Tryz Go.BigFrame Go.Maps Go.WideMaps Lf
open Go.Shelf
variable{B:Nat}{N:Nat}{S:St}{Y:Nat->Prop}{e:TypeId}{g:Nat}{k:Nat}{l:List UInt8}{lb:Array Value}{ps:Nat}{q:List Nat}{size:Nat}{v:Value}{w:World}
attribute [local go_sem] Oper.semAt_some
abbrev Jf:= { x:Nat // x<2^64 }
def mG(x:Jf):Array Value:=#[Xu (x.1:Nat)]
def iR(l:List Jf):List Nat:=l.map (·.1)
theorem uC(h:Ig w ps S Y)(hh k:Nat):(S.get hh k).1<2^64:=by
 obtain⟨pa,pm,ph,pt,v,h⟩:=h;rw[St.get_place]
 rcases S.place_cases hh k with⟨p,hp⟩ | ⟨e,hp⟩
 ·rw[hp];exact h.heap.rd_lt p
 ·rw[hp]
  show 0<_;omega
theorem zB(ps hh:Nat)(w:World):
 Ct 96 #[PV ps,Xu hh] w fun e w'=>e=.returned (.func (.func 149) #[] #[PV w.1.size,PV (w.1.size+1)])/\w'=(w.alloc (Xg ps)).alloc (Xf hh):=by
 go_enter func96,ntmps96
 go_wp2
 go_ret;exact⟨rfl,rfl⟩
theorem E9(h:Ig w ps S Y)(hi:Fv S)(hh:Nat)(hl:hh<2^64)(Bs Bh:Nat)(hBs:Bs<w.1.size/\w.cell? (y_ Bs)=some (PV ps))(hBh:Bh<w.1.size/\w.cell? (y_ Bh)=some (Xu hh)):
 SeqStopsK Fence.wide 6 prog 149 #[PV Bs,PV Bh] mG (Below w.1.size) (fun xs=>iR xs=kM S hh) (fun _=>True) 3998 w:=fun l J Jx W hW hJ hJx hY h0=>by
 have bc:Fence.wide.fn 42:=trivial;have bb:Fence.wide.fn 123:=trivial;have au:CallsIn Fence.wide 5 prog 42 #[PV ps,Xu hh] W _:=callsIn_wide.2 (fB (h.a_ hW) hi hh hl);have a5:∀W',D_ w W'->∀k:Nat,k<=4000->CallsIn Fence.wide 5 prog 123 #[PV ps,Xu hh,Xi k] W' _:=fun W' hW' k hk=>callsIn_wide.2 (sG (h.a_ hW') hi hh k hl o_);have a6:=fun k=>uC h hh k;have hn:(S.len hh).1<=3998:=hi.at_le hh;obtain⟨q,hq⟩:=Ii (kM S hh);have a0:∀k,q.take (k+1)=if k<(S.len hh).1 then q.take k++[(S.get hh k).1] else q.take k:=fun k=>by
  rw[<-hq];unfold kM;split
  ·rename_i hk;rw[<-du,<-du,List.take_range,List.take_range,Nat.min_eq_left o_,Nat.min_eq_left o_,dr,aN];rfl
  ·rename_i hk;rw[aQ m_,aQ m_]
 have a1:q.length=(S.len hh).1:=by rw[<-hq];simp[kM]
 rw[hq];obtain⟨n,a8⟩:=Ii (S.len hh).1;rw[a8] at au hn a0 a1;have cs:=(hW.cell (p:=y_ Bs) hBs.1).T hBs.2;have ch:=(hW.cell (p:=y_ Bh) hBh.1).T hBh.2;have HG:=kq7 a5 a6 a0 a1 hBs hBh hW;have HJ:=kq4 hJ hJx hY h0;have HL:=If au;clear a5 a6 hq a0 a1 hBs hBh hW hJ hJx hY h0 au a8 hi h;refine callsIn_of_wp func149 rfl trivial ?_ rfl;simp only[ntmps149,aS,aj,aL,Nat.reduceAdd,Nat.reduceSub,aO,aP,aT,aR,aX,aJ];gi_wp2_with fail;refine HL.O.M ?_;rintro e w1 ⟨rfl,rfl⟩;clear HL;gi_wp2_with fail;gi_loopw [6,7,8,16] (fun _ _ _ i wr=>∃k:Nat,k<=n/\i=Xi k/\Hid (D_ w wr/\∃pX,iR pX=q.take k/\J pX wr)) (fun _ _ _ i _=>n-(intOf i).toNat)
 case atStart=>exact⟨0,o_,rfl,HG.g,[],rfl,HJ.d⟩
 case round=>
  obtain⟨k,hk,rfl,ad⟩:=hrel;by_cases hlt:k<n
  ·have bd:(k:Int)<n:=o_
   have cs:=(ad.O.1.cell (p:=y_ Bs) HG.e.1).T HG.e.2;have ch:=(ad.O.1.cell (p:=y_ Bh) HG.f.1).T HG.f.2;have an:=HG.a wr ad.O.1 k o_;obtain⟨pX,ai,ap⟩:=ad.O.2;have a9:pX.length=k:=by
    have:=congrArg List.length ai;simp only[iR,am,aK] at this;rw[HG.d] at this;omega
   obtain⟨xX,a2⟩:∃xX:Jf,(S.get hh k).1=xX.1:=⟨⟨_,HG.b k⟩,rfl⟩;obtain⟨fn,bf,a',ba,hy,ar⟩:=HJ.c pX xX wr ap o_;have hv:iR (pX++[xX])=q.take (k+1):=by
    rw[HG.c k,if_pos hlt,<-ai,a2];simp[iR]
   dsimp only[mG] at hy
   rw[a2] at an;generalize (S.get hh k).2=er at an;obtain⟨x,hx⟩:=xX;simp only at an hy;clear a2;have HV:=If hv;have HE:=If an;clear hv an ai ap a9;gi_wp2_with fail;refine HE.O.M ?_;rintro e w2 ⟨rfl,rfl⟩;clear HE;gi_wp2_with fail;refine ar.M ?_;rintro e w4 (⟨rfl,a3,a7⟩ | ⟨rfl,a4⟩)
   ·have H4:=kq2 (ad.O.1.T a7) a3;clear a3 a7 hy ar;gi_wp2_with fail;go_roundw
    case rel=>exact⟨k+1,o_,s_,H4.a,_,HV.O,H4.b⟩
    case measure=>simp[intOf];omega
   ·have H4:=If a4;clear a4 hy ar;gi_wp2_with fail;refine bodyPost_ret (results_none rfl _ _ _) rfl ?_;exact⟨⟨_,rfl⟩,.inr ⟨_,trivial,H4.O⟩⟩
  ·obtain rfl:k=n:=o_
   gi_wp2
   go_end0
   obtain⟨pX,ai,ap⟩:=ad.O.2;rw[aQ (by rw[HG.d];exact Nat.le_refl _)] at ai;exact⟨⟨_,rfl⟩,.inl ⟨_,ai,ap⟩⟩
attribute [local go_sem] Oper.semAt_some
theorem BL{W W':World}{base B:Nat}{xs:List Value}(h:W.ownsRow base e size v k xs)(hg:W.grownBy W' v.ownBlock):KeepsFrom B W W':=
 ⟨hg.size,fun j o _ hj ho=>(hg.block j (gl hj) (fun e'=>by
  rcases h.2 with⟨rfl,_⟩ | ⟨g,ai,an,rfl,_,ad,_⟩
  ·cases e'
  ·have:j=g:=by simpa[Value.ownBlock] using e'
   subst this;rw[ad] at hj;injection hj with hj
   subst hj;cases ho)).T hj⟩
theorem nN{n:Nat}(W:World)(l:Nat)(o o':Obj)(hl:n<=l)(_:W.1[l]?=some o)(_:o.isCells=false)(_:o.isWalk=false):Below n W (W.putObj l o'):=
 ⟨rfl,rfl,rfl,s_,fun k hk=>World.putObj_heap_other o_⟩
theorem wi{W W':World}{row:Option Nat}{base:Nat}{xs:List Value}(h:W.ownsRow base e size v k xs)(hg:W.grownBy W' row)(hr:∀r,row=some r->∃o:Obj,W.1[r]?=some o/\o.isCells=false):W'.ownsRow base e size v k xs:=by
 refine h.kept hg ?_
 rcases h.2 with⟨rfl,_⟩ | ⟨g,ai,an,rfl,_,ad,_⟩
 ·exact ab rfl
 ·refine ae fun e'=>?_;obtain⟨o,ho,hc⟩:=hr g (by rw[<-e'];rfl);rw[ad] at ho
  injection ho with ho
  subst ho
  cases hc
theorem qS{W:World}{t:TypeId}(h:W.1[B]?=some (.cells #[v] t (0,0))):W.cell? (y_ B)=some v/\W.frozen? (y_ B)=false:=⟨e_ h,AT h⟩
def uV(q:List Nat):List Value:=q.map fun x:Nat=>Value.int .u64 x
theorem yF(hN:N<=100000)(eg:∀args w,(callFunc g args).run prog w=.ok (.enter g args) w)
 (hseq:SeqStopsK Fence.wide 6 prog g lb mG (Below w.1.size) (fun xs=>iR xs=q) (fun _=>True) N w):
 CallsIn Fence.wide 7 prog 148 #[n_,.func (.func g) #[] lb] w fun e w'=>∃v,e=.returned v/\w'.ownsRow w.1.size 60 1 v q.length (uV q)/\D_ w w':=by
 have h1:1<=7:=o_
 obtain⟨i0,hi,bm,bo,bq⟩:=info_parts uQ;refine callsIn_of_wp_marks func148 rfl trivial ?_ rfl;simp only[ntmps148,aS,aj,aL,Nat.reduceAdd,Nat.reduceSub,aO,aP,aT,aR,aX,aJ];gi_wp2_with fail;have k0:(w.alloc (.cells #[n_] 177)).1[w.1.size]?=some (.cells #[n_] 177 (0,0)):=heap_alloc_new w _;have a0:D_ w (w.alloc (.cells #[n_] 177)):=(aa _ w).alloc Ih _;have bc:(w.alloc (.cells #[n_] 177)).1.size=w.1.size+1:=s_
 generalize w.alloc (.cells #[n_] 177)=W0 at*;refine wpIn_rangeFunc_ownH rfl h1 (gf:=g) (lb:=lb) rfl trivial eg hseq (fun h k=>h.T k) (fun W l o o' h1 h2 h3 h4=>nN W l o o' o_ h2 h3 h4) a0 (fun _=>rfl)
  (fun ai W=>(∃v,W.1[w.1.size]?=some (.cells #[v] 177 (0,0))/\W.ownsRow w.1.size 60 1 v ai.length (uV (iR ai)))/\D_ w W)
  (fun _ _ _=>False)
  (OwnFrom.and (Own.from (fun s A B row hs hg hr=>by
   obtain⟨v,hv,C_⟩:=hs;refine⟨v,(hg.block _ (gl hv) (fun e=>?_)).T hv,wi C_ hg hr⟩;obtain⟨o,ho,hc⟩:=hr _ e.S;rw[hv] at ho;injection ho with ho
   subst ho;cases hc) _) (ownFrom_below Ih o_))
  (fun cd=>Own.from (fun s A B row hs hg hr=>hs) _)
  ⟨⟨_,k0,rfl,ab ⟨rfl,rfl⟩⟩,a0⟩
  (fun x a' _=>a'= { tmps:=#[n_,.func (.func g) #[] lb,PV w.1.size,undef,n_,Xu (x.1:Nat),.func (.func g) #[] lb,Xu (x.1:Nat),undef,undef,undef,undef,undef],defers:=[] })
  (fun x a' _ X W' row hs hg hr=>hs)
  ?assign ?body ?done ?stop
 case assign=>
  rintro l ai ⟨x,hx⟩ W K hI hK;have HK:=If hK;have HI:=If hI;clear hK hI;simp only[mG];gi_wp2
  exact HK.O _ _ (KeepsFrom.refl _ _) (aa _ _) HI.O rfl
 case body=>
  rintro l ai ⟨x,hx⟩ a' W hl _ ⟨⟨v,hv,C_⟩,hB⟩ rfl hlt;obtain⟨c1,f1⟩:=qS hv;have HI:=kq6 hv C_ hB hlt bc hl;obtain⟨m,hm⟩:=Ii ai.length;have bu:m<=100000:=o_
  rw[hm] at HI;clear hv C_ hB hlt hm;gi_wp2_with (gi_at_builtin;refine wpListIn_append_own_at _ rfl _ _ 177 rfl w.1.size 60 i0 (Xu 0) 1 8 underlying177 hi bm bo bq rfl d_ _ _ _ rfl (HI.b.alloc _) (y_ W.1.size) 1 1 [Xu x] rfl rfl (cell_one_new _ _ _) ?c2 ?c3 ?c4 ?c5 ?_)
  case c2=>simp[Value.oneCell']
  case c3=>unfold maxLen;omega
  case c4=>omega
  case c5=>have:=HI.c.size;simp;omega
  intro v' w1 hown hgrow _ hat;obtain⟨g',au,bd,rfl,a3,ap,a8,a9,ba,bb⟩:=hown.2.resolve_left (by rintro⟨_,h⟩;exact absurd h s_);obtain⟨hv,C_,hB,hlt,bc,hl⟩:=HI.O;have an:=hB.size;have a4:=(gl hv);have a7:v.ownBlock≠some w.1.size:=fun e'=>by
   rcases C_.2 with⟨rfl,_⟩ | ⟨g0,bs,bt,rfl,_,bf,_⟩
   ·cases e'
   ·have:g0=w.1.size:=by simpa[Value.ownBlock] using e'
    subst this;rw[bf] at hv;injection hv with hv
    injection hv with _ hv
    exact absurd hv d_
  have ad:w1.1[w.1.size]?=some (.cells #[v] 177 (0,0)):=by
   rw[hgrow.block _ m_ (fun e=>a7 e.S),heap_alloc_old W _ a4];exact hv
  have a5:g'≠w.1.size:=fun e=>by
   subst e;rw[ap] at ad;injection ad with ad
   injection ad with _ ad
   exact absurd ad d_
  have a1:Below w.1.size W w1:=((aa _ W).M an |>.alloc an (.cells #[Xu x] 60)).grown hgrow m_ (fun k e=>(C_.lt k e).1);have a6:KeepsFrom W0.1.size W w1:=((KeepsOthers.alloc W (.cells #[Xu x] 60)).from _).T (BL (C_.alloc _) hgrow);obtain⟨d1,e1⟩:=qS ad;have HW:=kq11 ad ap a5 a1 a6 hown a3 a8 a9 ba bb;clear ad ap a5 a1 a6 hown a3 a8 a9 ba bb hgrow hat a7 a4 an hv C_ hB hlt hl;gi_wp2_with fail;have a2:=HW.d.setCell (p:=y_ w.1.size) (Nat.le_refl w.1.size) (.slice (some (y_ g')) (m+1) au);refine⟨HW.e.T ((KeepsOthers.setCell _ _ _).from _),a2,⟨_,heap_setCell HW.a,?_⟩,HI.c.T a2⟩;have bj:(ai++[(⟨x,hx⟩:Jf)]).length=m+1:=by have:=HW.f.1;simp[uV,iR] at this⊢;omega
  have bk:uV (iR (ai++[(⟨x,hx⟩:Jf)]))=uV (iR ai)++[Xu x]:=by simp[uV,iR]
  rw[bj,bk];exact⟨HW.f.1,ae ⟨g',au,bd,rfl,HW.g,(FB HW.c).T HW.b,HW.O.2.2.2.2.2.2.2⟩⟩
 case done=>
  rintro D ys W hD hS ⟨⟨v,hv,C_⟩,hB⟩ hK;obtain⟨c1,f1⟩:=qS hv;have ar:ys.length=q.length:=by rw[<-hS];simp[iR]
  rw[hS,ar] at C_;have HI:=kq5 C_ hB hv ar hS;clear C_ hB hv ar hS f1;gi_wp2
  refine⟨s_,.inl ⟨_,_,rfl,run_takeDeferred hK,?_⟩⟩;refine⟨v,by simp[results,f148,go_sem],v,rfl,?_,HI.b.T (nN W D _ _ o_ hK rfl rfl)⟩;exact wi HI.a (grownBy_putObj' W D _) (fun r e=>by cases e;exact⟨_,hK,rfl⟩)
 case stop=>
  rintro D cd ai W hD bv hF;exact hF.elim
theorem Eb(h:w.ownsRow B 60 1 v q.length (uV q))(hq:q≠[]):jm w B v q:=by
 rcases h.2 with⟨_,hx⟩ | ⟨g,ad,ai,hv,hb,hg,h1,h2,h3,h4⟩
 ·exact absurd (bI.1 hx) hq
 ·refine⟨g,ad,hv,hb,fun i hi=>?_⟩;rw[q_ hg];have:(ai.toList.take (q.length*1))[i]?=(uV q)[i]?:=by rw[h4]
  rw[cP o_,bM] at this;rw[this]
  simp[uV,List.getElem?_eq_getElem hi]
theorem AA(hN:N<=100000)(eg:∀args w,(callFunc g args).run prog w=.ok (.enter g args) w)
 (hseq:SeqStopsK Fence.wide 6 prog g lb mG (Below w.1.size) (fun xs=>iR xs=q) (fun _=>True) N w):
 Ct 95 #[.func (.func g) #[] lb] w fun e w'=>∃v,e=.returned v/\w'.ownsRow w.1.size 60 1 v q.length (uV q)/\D_ w w':=by
 have ha:=callsIn_wide.1 (yF hN eg hseq);have HA:=If ha;clear ha hseq eg;go_enter func95,ntmps95;go_wp2_with fail;refine HA.O.M ?_;rintro e w1 ⟨v,rfl,hr⟩;have HR:=If hr;clear hr;go_wp2_with fail;go_ret;exact⟨_,rfl,HR.O⟩
theorem BD:(prog.info? 5).map (fun i=>(i.zero,i.size,i.bytes))=some (some (.int .u8 0),1,1):=k_
def bV(l:List UInt8)(k:Nat):List Value:=(List.range k).map fun i=>Value.int .u8 (FN l i:Nat)
theorem AC(w:World):(convert 226 9 n_).run prog w=.ok (.string ⟨#[]⟩) w:=k_
theorem AB(h:w.ownsRow B 5 1 v l.length (bV l l.length)):(convert 226 9 v).run prog w=.ok (SV l) w:=by
 rcases h.2 with⟨rfl,hx⟩ | ⟨g,ad,ai,rfl,hb,hg,h1,h2,h3,h4⟩
 ·obtain rfl:=bI.1 hx;exact AC w
 ·refine run_convert_bytes_back (P:=prog) w _ _ 5 (y_ g) ad l underlying226 underlying5 underlying9 (fun j hj=>?_);have an:((y_ g):Addr).add j=(x_ g j):=by unfold Addr.add;split<;>simp_all
  rw[an,q_ hg];have:(ai.toList.take (l.length*1))[j]?=(bV l l.length)[j]?:=by rw[h4]
  rw[cP o_,bM] at this;rw[this]
  simp[bV,FN,List.getD_eq_getElem?_getD,hj]
theorem EP(h:jm w B v (FK l))(hl:l.length<=1000):
 Cb 94 #[v] w (.tuple #[SV l,Xi 0]):=by
 have hm:=fun W=>xD l.length W o_;rw[<-te l hl] at hm;have a6:=fun W=>xE l W hl;have ap:=Ks l;have a3:∃r,FK l=l.length::r:=⟨_,rfl⟩;obtain⟨i0,hi,a8,a9,a'⟩:=info_parts BD;have h':=h;obtain⟨G,c,rfl,hB,hc⟩:=h;obtain⟨n,hn⟩:=Ii l.length;obtain⟨m,an⟩:=Ii (FK l).length;have c0:w.cell? (y_ G)=some (Xu n):=by
  have:=hc 0 o_;obtain⟨r,hr⟩:=a3;rw[this]
  simp[hr,hn]
 have a2:∀i,i<n->w.cell? ⟨G,1+i / 8,none⟩=some (Xu (cell l (i / 8) 8:Nat)):=fun i hi=>by
  have h1:=xY l i o_;obtain⟨h2,h3⟩:=aC.1 h1;rw[hc _ h2,h3]
 rw[an,hn] at hm;rw[an] at ap;rw[hn] at ap hl;have bc:((m:Int)==0)=false:=m_
 have bj:(n:Int)<=1000:=o_
 have bf:m<=200:=o_
 have bd:(0:Int)<m:=o_
 have HG:=kq7 hm a6 h' hn an a2 ap;rw[an];clear hm a6 h' hn an a2 ap hB hc a3;go_enter func94,ntmps94;go_wp2_with fail;refine Jc (HG.a _) ?_;go_wp2_with fail
 go_loopw [4,5,32] (fun v _ i wr=>∃k:Nat,k<=n/\i=Xi k/\wr.ownsRow w.1.size 5 1 v k (bV l k)/\D_ w wr) (fun _ _ i _=>n-(intOf i).toNat)
 case atStart=>exact⟨0,o_,rfl,⟨rfl,ab ⟨rfl,rfl⟩⟩,aa _ _⟩
 case round=>
  obtain⟨k,hk,rfl,C_,hB⟩:=hrel
  by_cases hlt:k<n
  ·have bb:(k:Int)<n:=o_
   have hG:G<w.1.size:=by
    unfold World.cell? at c0
    split at c0
    ·rename_i ai;exact(gl ai)
    ·cases c0
   have a7:=(hB.cell (p:=⟨G,1+k / 8,none⟩) hG).T (HG.f k hlt);have ad:=tW l (k / 8) (7-k % 8) (k % 8) o_;rw[show 8*(k / 8)+k % 8=k by omega] at ad;obtain⟨q,hq⟩:=Ii (k / 8);obtain⟨r,hr⟩:=Ii (k % 8);obtain⟨s,hs⟩:=Ii (8*(7-r));have bq:r<8:=o_
   rw[hr,hs] at ad;rw[hq] at a7 ad;have bm:1+q<m:=by have:=HG.g;omega
   have bk:(k:Int) / 8=(q:Int):=o_
   have bo:(k:Int) % 8=(r:Int):=o_
   have bs:8*(7-(r:Int))=(s:Int):=o_
   have hx:=cell_lt l q 8 Ih;generalize cell l q 8=x at*;have HI:=kq3 C_ hB ad;have bt:s<=56:=o_
   clear C_ hB ad hq hr hs
   go_wp2_with (at_builtin;refine wpList_append_own_at _ rfl _ _ 226 rfl w.1.size 5 i0 (.int .u8 0) 1 1 underlying226 hi a8 a9 a' rfl d_ _ _ _ rfl (HI.a.alloc _) (y_ wr.1.size) 1 1 [.int .u8 (FN l k:Nat)] rfl rfl ?c1 ?c2 ?c3 ?c4 ?c5 ?_)
   case c1=>
    rw[show ((x:Int) / 2^s % 256)=((FN l k:Nat):Int) by rw[<-HI.c];push_cast;rfl];exact cell_one_new _ _ _
   case c2=>simp[Value.oneCell']
   case c3=>unfold maxLen;omega
   case c4=>omega
   case c5=>have:=HI.b.size;simp;omega
   intro v' w1 hown hgrow _ hat;have ar:=HI.b.size;have a0:Below w.1.size wr w1:=((aa _ wr).M ar |>.alloc ar (.cells #[.int .u8 ((x:Int) / 2^s % 256)] 5)).grown hgrow m_ (fun k e=>(HI.a.lt k e).1);have a1:bV l k++[.int .u8 (FN l k:Nat)]=bV l (k+1):=by simp[bV,List.range_succ]
   rw[a1] at hown;have HW:=kq2 hown (HI.b.T a0);clear hown hgrow hat ar a0 a1;go_wp2_with fail;go_roundw
   case rel=>exact⟨k+1,o_,s_,HW.O⟩
   case measure=>simp[intOf];omega
  ·obtain rfl:k=n:=o_
   have ba:(convert 226 9 u4).run prog wr=.ok (SV l) wr:=AB (by rw[HG.d];exact C_);have HI:=If hB;clear C_ hB;go_wp2_with fail;refine(HG.b wr).M ?_;rintro e w2 ⟨v2,rfl,a5,au⟩;have a4:=(HG.c.a_ HI.O).a_ au;have ai:=E8 a5 a4 (by rw[HG.e];omega);rw[HG.e] at ai;have HE:=kq2 ai (b_ HI.O au);clear a5 a4 au ai;go_wp2_with fail;refine HE.a.M ?_;rintro e w3 ⟨rfl,q,rfl⟩;go_wp2_with fail;go_ret2;exact⟨rfl,HE.b.T ⟨rfl,rfl,rfl,Nat.le_refl _,fun _ _=>rfl⟩⟩
theorem iz(h:Ig w ps S Y)(hi:Fv S)(hh:Nat)(hl:hh<2^64)(hg:(fz S hh).2≠8):
 Cb 51 #[PV ps,Xu hh] w (.tuple #[SV (fz S hh).1,Xi ((fz S hh).2:Nat)]):=by
 have ad:=fB h hi hh hl;obtain⟨R,hR⟩:=Ii (fz S hh);rw[hR] at hg⊢;unfold fz at hR;obtain⟨⟨n,er⟩,hn⟩:∃r,S.len hh=r:=⟨_,rfl⟩;rw[hn] at ad hR;simp only at ad
 cases er with
 | succ er=>
  have ai:R=([],er+1):=by rw[<-hR];rfl
  have a4:(((er+1:Nat):Int) !=0)=true:=m_
  obtain⟨g1,au⟩:=Ii (er+1);rw[au] at ad ai a4;have HG:=kq2 ad ai;clear ad hR ai au hg h hi hn;go_enter func51,ntmps51;go_wp2_with fail;refine Jc HG.a ?_;go_wp2_with fail;go_ret2;obtain rfl:=HG.b;exact⟨rfl,aa _ _⟩
 | zero=>
  cases ht:dZ (kM S hh) with
  | none=>
   rw[ht] at hR;exact absurd (by rw[<-hR];rfl) hg
  | some t=>
   have ai:R=(t,0):=by rw[<-hR,ht];rfl
   obtain⟨a3,a2⟩:=EM ht;have HG:=kq6 ad ai h hi a2 a3;clear ad hR ai hg h hi hn ht a2 a3;go_enter func51,ntmps51;go_wp2_with fail;refine Jc HG.a ?_;go_wp2_with fail;refine dR (zB ps hh w) fun w1 hw1=>?_;have hb:D_ w w1:=by rw[hw1];exact((aa _ w).alloc Ih _).alloc s_ _
   have a5:w1.1.size=w.1.size+2:=by rw[hw1];simp
   have k0:w1.cell? (y_ w.1.size)=some (PV ps):=by
    have:w1.1[w.1.size]?=some (.cells #[PV ps] 26 (0,0)):=by rw[hw1,heap_alloc_old _ _ s_];exact heap_alloc_new w _
    rw[q_ this]
    rfl
   have k1:w1.cell? (y_ (w.1.size+1))=some (Xu hh):=by
    have h0:w1.1[w.1.size+1]?=some (.cells #[Xu hh] 61 (0,0)):=by
     have:=heap_alloc_new (w.alloc (Xg ps)) (Xf hh);rw[World.size_alloc] at this;rw[hw1];exact this
    rw[q_ h0]
    rfl
   have an:=E9 (HG.c.a_ hb) HG.d hh hl w.1.size (w.1.size+1) ⟨o_,k0⟩ ⟨o_,k1⟩;rw[HG.e] at an;have ar:=AA o_ (enters_of func149 k_ rfl) an;have HC:=kq2 ar hb;clear an ar hb a5 k0 k1 hw1;go_wp2_with fail;refine HC.a.M ?_;rintro e w2 ⟨v,rfl,C_,ap⟩;have a1:=Eb C_ (by unfold FK;simp);have a0:=EP a1 HG.f;have HO:=kq2 a0 (b_ HC.b ap);clear C_ ap a1 a0;go_wp2_with fail;refine dR HO.a fun w3 hb3=>?_;have HB:=If (b_ HO.b hb3);clear hb3;go_wp2_with fail;go_ret2;obtain rfl:=HG.b;exact⟨rfl,HB.O⟩
theorem ud:∀(a b:List UInt8),Fu a b=Lib.compareBytes a b
 | [],[]=>rfl
 | [],_::_=>rfl
 | _::_,[]=>rfl
 | a::l,b::m=>by
  unfold Fu Lib.compareBytes;rw[ud l m]
theorem EA(a b:List UInt8)(w:World):
 Ct 135 #[SV a,SV b] w fun e w'=>e=.returned (Xi (Fu a b))/\w'=w:=by
 have hc:=bytealg_CompareString ⟨a.toArray⟩ ⟨b.toArray⟩ w;rw[ud];have HC:=If hc;clear hc;go_enter func135,ntmps135;go_wp2_with fail;refine Jc HC.O ?_;go_wp2_with fail;go_ret;exact⟨rfl,rfl⟩
theorem sT(a b:List UInt8)(w:World):
 Ct 88 #[SV a,SV b] w fun e w'=>e=.returned (Xi (Fu a b))/\w'=w:=by
 have HC:=If (EA a b w);go_enter func88,ntmps88;go_wp2_with fail;refine Jc HC.O ?_;go_wp2_with fail;go_ret;exact⟨rfl,rfl⟩
end
section
open Go.RowKit Tryz Go.BigFrame Go.Maps Go.WideMaps Lf
def eC(vk vv vc:Value)(s:Nat):Value:=.agg #[vk,vv,vc,Xu s]
structure iU (t:Nat) (n:BN):Prop where
 lo:2<=t
 hi:t<=16
 many:n.j_.length<=2*t-1
 C9:n.C9.length=n.j_.length
 A6:n.A6.length=0\/(n.A6.length=n.j_.length+1/\n.A6.contains 0=false)
theorem om {t:Nat}(h1:2<=t)(h2:t<=16):isDeg (t:Int)=true:=by unfold isDeg;rw[decide_eq_true o_,decide_eq_true o_];rfl
theorem pW(t:Nat)(h1:2<=t)(h2:t<=16)(w:World):
 Ct 125 #[Xi t] w fun e w'=>e=.returned (Xi (6*(t:Int)))/\w=w':=by
 have HG:=If (om h1 h2▸nP (t:Int) w);go_enter func125,ntmps125;go_wp2_with fail;refine Jc HG.O ?_;go_wp2_with fail;go_ret;exact⟨rfl,rfl⟩
theorem qJeaa{P:Prop}(h:P:=by
 go_wp2_with fail;refine Jc (HG.a _) ?_;go_wp2_with fail;go_ret;exact⟨rfl,HG.b⟩):P:=h
theorem N3 {w:World}{t:Nat}{n:BN}{vk vv vc:Value}(hn:iU t n)(hk:FD w vk n.j_)(hv:FD w vv n.C9)(hc:FD w vc n.A6):
 Cb 199 #[Xi t,eC vk vv vc n.size] w (.bool true):=by
 obtain⟨h1,h2,h3,h4,h5⟩:=hn;unfold eC;have ad:=fun W (hW:D_ w W)=>Bg (hc.a_ hW) o_;have ai:=fun W=>om h1 h2▸nP (t:Int) W;obtain⟨Ak,ck,rfl,-⟩:=hk;obtain⟨Av,cv,rfl,-⟩:=hv;obtain⟨Ac,cc,rfl,-⟩:=hc;rw[h4];obtain⟨k,an⟩:=Ii n.j_.length;rw[an] at h3 h5⊢;generalize n.size=sz at*;have ap:(k:Int)<=2*(t:Int)-1:=o_
 have ar:decide ((k:Int)<=2*(t:Int)-1)=true:=decide_eq_true ap
 rcases h5 with h5 | ⟨h5,h6⟩
 ·rw[h5] at ad⊢;have B0:=c_ w (.cells #[.slice Ak k ck,.slice Av k cv,.slice Ac 0 cc,Xu sz] 215);have q0:=heap_alloc_new w (.cells #[.slice Ak k ck,.slice Av k cv,.slice Ac 0 cc,Xu sz] 215);obtain⟨c0,c1,c2,c3⟩:=Fy q0;have HG:=kq2 ai B0;clear ai B0 ad q0 an h4 h5;go_enter func199,ntmps199;exact qJeaa
 ·rw[h6] at ad;rw[h5] at ad⊢;have hq:(((k+1:Nat):Int)==0)=false:=m_
  have au:((k+1:Nat):Int)=(k:Int)+1:=o_
  have a0:¬((k:Int)+1=0):=o_
  have B0:=c_ w (.cells #[.slice Ak k ck,.slice Av k cv,.slice Ac (k+1) cc,Xu sz] 215);have q0:=heap_alloc_new w (.cells #[.slice Ak k ck,.slice Av k cv,.slice Ac (k+1) cc,Xu sz] 215);obtain⟨c0,c1,c2,c3⟩:=Fy q0;have HG:=kq3 ai B0 ad;clear ai B0 ad q0 an h4 h5 h6;go_enter func199,ntmps199;go_wp2_with fail;refine Jc (HG.c _ HG.b) ?_;exact qJeaa