/- The store: Make: the walk. -/
import Derived.Test.YtpljannolpapgaaGreatDoorVTa
import Derived.Defers
import Derived.Test.YtpljannolpapgaaGreatDoorVKa
import Derived.Laws.BytesString
import Derived.Test.YtpljannolpapgaaGreatDoorVCl
import Derived.Laws.EntriesVeiled
set_option maxRecDepth 100000
set_option maxHeartbeats 6400000
namespace Go.Proofs.YtpljannolpapgaaGreatDoor
section
open Go.RowKit Tryz Go.BigFrame Go.Maps Go.WideMaps Lf
variable{S:St}{Y:Nat->Prop}{ps:Nat}{v:Value}{w:World}
theorem eR.of_keep{w w':World}{ps pa pm ph pt:Nat}(h:eR w ps pa pm ph pt v S Y)(hs:w.heap.size<=w'.heap.size)
 (hk:∀k,k<w.heap.size->(¬Y k\/k=ps\/k=ph\/k=fy)->w'.heap[k]?=w.heap[k]?):eR w' ps pa pm ph pt v S Y:=by
 obtain⟨ai,ad⟩:=h.heap.slab;have an:∀k,¬YS Y ps ph pt v k->¬Y k:=fun k hk hy=>hk (ab hy);have ap:¬Y pt:=fun hy=>(h.off pt (ab hy)).1 rfl;refine⟨?_,⟨⟨ai,ad.of_keep hs fun k hkl hkk=>hk k hkl (ab (an k ?_))⟩,?_,h.heap.yh,h.heap.tab.of_block (hk fy h.heap.tab.lt (ae (ae (ae rfl)))),h.heap.yt⟩,h.tab.of_keep (hk pt h.tab.pt_lt (ab ap)) fun b hb=>hk b (h.tab.own_lt hb) (ab fun hy=>(h.off b (ab hy)).2 hb),h.off⟩
 ·rw[hk ps (gl h.hd) (ae (ab rfl))];exact h.hd
 ·rcases hkk with rfl | rfl | ⟨p,hp,rfl⟩
  ·exact ad.ya
  ·exact ad.ym
  ·exact ad.yp p hp
 ·rw[hk ph h.heap.lt (ae (ae (ab rfl)))];exact h.heap.hp
theorem eR.wide{w w':World}{ps pa pm ph pt:Nat}(h:eR w ps pa pm ph pt v S Y)(hb:Below w.heap.size w w'):eR w' ps pa pm ph pt v S (fun k=>Y k\/(w.heap.size<=k/\k<w'.heap.size)):=by
 have h':=h.below hb;refine⟨h'.hd,?_,h'.tab,?_⟩
 ·refine(h.heap.wide hb).mono ?_ (ae (ae (ab rfl))) (ae (ae (ae (ab rfl))));rintro k ((hk | hk) | hk)
  ·exact ab (ab hk)
  ·exact ae hk
  ·exact ab (ae hk)
 ·rintro k ((hk | hk) | hk)
  ·exact h.off k (ab hk)
  ·have h1:=h.tab.pt_lt;refine⟨by omega,fun e=>?_⟩;have:=h.tab.own_lt e;omega
  ·exact h.off k (ae hk)
theorem eR.mono{ps pa pm ph pt:Nat}{Y Z:Nat->Prop}(h:eR w ps pa pm ph pt v S Y)(hz:∀k,Z k->Y k):eR w ps pa pm ph pt v S Z:=
 ⟨h.hd,h.heap.mono (fun _ hk=>hk.imp (hz _) id) (ae (ae (ab rfl))) (ae (ae (ae (ab rfl)))),h.tab,fun k hk=>h.off k (hk.imp (hz k) id)⟩
theorem eR.setCell{ps pa pm ph pt:Nat}(h:eR w ps pa pm ph pt v S Y){b o:Nat}(hy:Y b)(h1:b≠ps)(h2:b≠ph)(h3:b≠fy)(x:Value):eR (w.setCell ⟨b,o,none⟩ x) ps pa pm ph pt v S Y:=
 h.of_keep (Nat.le_of_eq (size_setCell w _ _).symm) fun k _ hk=>FB (by
  rintro rfl;rcases hk with hk | hk | hk | hk
  ·exact hk hy
  ·exact h1 hk
  ·exact h2 hk
  ·exact h3 hk)
theorem yD{s:Slab}(hw:eQ s)(n:Nat):(fR s n).1.1<=2^60:=by
 have hp:∀p c k,p<=1048576->fF p c k<=2^60:=fun p c k h=>by
  have:=JU c k;unfold fF;omega
 unfold fR
 by_cases h:n<1\/4000<n
 ·rw[if_pos h]
  simp
 ·rw[if_neg h]
  cases hc:gd n with
  | none=>
   simp only;have:=mJ hw (n:=fa n) (by have:=ua (n:=n) (by omega);omega);obtain⟨⟨⟨gp,ge⟩,gs⟩,hg⟩:∃g,s.grant (fa n)=g:=⟨_,rfl⟩;rw[hg] at this⊢;simp only at this
   cases ge with
   | zero=>simp only;omega
   | succ e=>simp
  | some c=>
   simp only
   cases hs:kt s c with
   | some pk=>
    obtain⟨p,k⟩:=pk;simp only[fP];exact hp _ _ _ (by have:=(GJ hw hs).1;omega)
   | none=>
    simp only;have:=mJ hw (n:=1) (by omega);obtain⟨⟨⟨gp,ge⟩,gs⟩,hg⟩:∃g,s.grant 1=g:=⟨_,rfl⟩;rw[hg] at this⊢;simp only at this
    cases ge with
    | zero=>simp only[fP];exact hp _ _ _ (by omega)
    | succ e=>simp
theorem ut:∀(l:List dR) (k:Nat),gH l k<=k+l.length
 | [],k=>Nat.le_refl _
 | x::r,k=>by
  unfold gH;split
  ·simp
  ·have:=ut r (k+1);simp only[ag];omega
theorem vZ{t:Hs}(hw:iW t)(a:Nat):(t.open a).1.1<2^64:=by
 have h1:=ut t.slots 0;have h2:=hw.len;have h3:=hw.most;have h4:(t.genAt (gH t.slots 0)+1) % 4294967296<4294967296:=Nat.mod_lt _ (by decide);unfold Hs.open;simp only
 split
 ·simp
 ·simp only[gj];omega
theorem Dn(t:Hs)(a:Nat):(t.open a).2.most=t.most/\(t.open a).2.last=t.last:=by
 unfold Hs.open;simp only;split<;>exact⟨rfl,rfl⟩
theorem Cs{be bs ba:Nat}(he:w.cell? ⟨be,0,none⟩=some (Xi 0)):
 CallsD prog 63 #[PV be,PV bs,PV ba] .returning w fun e u' w'=>u'=.returning/\(e=.returned (.tuple #[])/\w'=w):=by
 go_enter_d func63,ntmps63
 go_wp2_with fail
 go_end0
 exact⟨rfl,rfl⟩
theorem sH(h:Ig w ps S Y)(n:Nat)(hn:n<=3998)(ho:(S.t.open (fR S.a (n+2)).1.1).1.2=0):
 Ct 31 #[PV ps,Xi n] w fun e w'=>e=.returned (.tuple #[Xu ((S.make n).1.1:Nat),Xi ((S.make n).1.2:Nat)])/\Ig w' ps (S.make n).2 Y/\Fo Y w w':=by
 have cb:(n:Int)<=3998:=by omega
 have ap:=((aa _ w).alloc Ih (Xh ps)).alloc (by simp) (.cells #[Xi 0] 27);obtain⟨pa,pm,ph,pt,v,h⟩:=h;have h1:=h.wide ap;have au:=sI ⟨_,_,_,_,_,h1⟩;have b2:ph<w.heap.size/\pt<w.heap.size/\ps<w.heap.size/\fy<w.heap.size/\∀b,v.ownBlock=some b->b<w.heap.size:=⟨h.heap.lt,h.tab.pt_lt,(gl h.hd),h.heap.tab.lt,fun b hb=>h.tab.own_lt hb⟩;have ch:((w.alloc (Xh ps)).alloc (.cells #[Xi 0] 27)).heap.size=w.heap.size+2:=by simp
 have k0:((w.alloc (Xh ps)).alloc (.cells #[Xi 0] 27)).heap[w.heap.size]?=some (.cells #[PV ps] 26 (0,0)):=by
  rw[heap_alloc_old _ _ (by simp)];exact heap_alloc_new w _
 have k1:((w.alloc (Xh ps)).alloc (.cells #[Xi 0] 27)).heap[w.heap.size+1]?=some (.cells #[Xi 0] 27 (0,0)):=by
  have:=heap_alloc_new (w.alloc (Xh ps)) (.cells #[Xi 0] 27);rwa[World.size_alloc] at this
 have hR:S.make n=match fR S.a (n+2) with
  | ((addr,0),a1)=>
   match S.t.open addr with
   | ((h,0),t1)=>((h,0),⟨(a1.wr addr h).wr (addr+1) n,t1⟩)
   | ((_,e),t1)=>((0,e),⟨(iM a1 addr).2,t1⟩)
  | ((_,e),a1)=>((0,e),{ S with a:=a1 }):=by unfold St.make;rw[if_neg (by omega)];rfl
 obtain⟨R,a'⟩:=Ii (S.make n);rw[a'] at hR⊢;have ar:=heap_alloc h1.heap (n+2) (by omega);have bq:=yD h1.heap.wf (n+2);obtain⟨⟨⟨ad,er⟩,a1⟩,hA⟩:∃r,fR S.a (n+2)=r:=⟨_,rfl⟩;rw[hA] at hR ho ar bq;simp only at hR ho ar bq;have ba:((n+2:Nat):Int)=(n:Int)+2:=by omega
 rw[ba] at ar;have HG:=kq9 au ar h1 h ap k0 k1 hR ho
 cases er with
 | succ er=>
  have b4:(((er+1:Nat):Int) !=0)=true:=by simp;omega
  obtain⟨g1,bb⟩:=Ii (er+1);rw[bb] at HG b4 ar hR;have cc:¬(g1:Int)=0:=by omega
  have bo:R=((0,g1),{ S with a:=a1 }):=by rw[hR,<-bb];rfl
  have b0:=If bo;clear bo;clear au ar h1 h ap k0 k1 hR ho a' hA ba bb
  go_enter_defers func31,ntmps31
  go_wp2_with fail;generalize ((w.alloc (Xh ps)).alloc (.cells #[Xi 0] 27))=W1 at*;obtain⟨au,ar,h1,h,ap,k0,k1,hR,ho⟩:=HG.out;refine Jc au ?_;obtain⟨_,_,_,c3,c4⟩:=h1.cells;have d0:W1.cell? ⟨w.heap.size,0,none⟩=some (PV ps):=by rw[cell_of_block k0];rfl
  clear au ar h1 h ap k0 k1 hR ho c4;go_wp2_with fail;refine HG.b.mono ?_;rintro e w2 ⟨rfl,a5,an⟩;obtain⟨au,ar,h1,h,ap,k0,k1,hR,ho⟩:=HG.out;have h2:=h1.arena a5 an;have a0:=an.size;have j0:w2.heap[w.heap.size]?=some (.cells #[PV ps] 26 (0,0)):=(an.block _ (ab (ae ⟨Nat.le_refl _,by omega⟩))).trans k0;have j1:w2.heap[w.heap.size+1]?=some (.cells #[Xi 0] 27 (0,0)):=(an.block _ (ab (ae ⟨by omega,by omega⟩))).trans k1;have e1:w2.cell? ⟨w.heap.size+1,0,none⟩=some (Xi 0):=by rw[cell_of_block j1];rfl
  have f1:w2.frozen? ⟨w.heap.size+1,0,none⟩=false:=AT j1;have b1:w.heap.size+1<w2.heap.size:=by omega
  have H2:=kq5 h2 a0 j0 j1 an;clear au ar h1 h ap k0 k1 hR ho h2 a0 j0 j1 a5 an c3 d0;go_wp2_with fail
  go_region
  go_wp2_with fail;obtain⟨_,_,h1,h,ap,_,_,hR,_⟩:=HG.out;obtain⟨h2,a0,j0,j1,an⟩:=H2.out;have x1:((w2.setCell ⟨w.heap.size+1,0,none⟩ (Xi g1)).setCell ⟨w.heap.size+1,0,none⟩ (Xi g1)).heap[w.heap.size+1]?=some (.cells #[Xi g1] 27 (0,0)):=by
   rw[heap_setCell (heap_setCell j1)]
   rfl
  have x2:=(h2.setCell (b:=w.heap.size+1) (o:=0) (ae ⟨by omega,by omega⟩) (by omega) (by omega) (by omega) (Xi g1)).setCell (b:=w.heap.size+1) (o:=0) (ae ⟨by omega,by omega⟩) (by omega) (by omega) (by omega) (Xi g1);have x3:=((aa _ ((w2.setCell ⟨w.heap.size+1,0,none⟩ (Xi g1)).setCell ⟨w.heap.size+1,0,none⟩ (Xi g1))).alloc Ih (Xj ad));have x4:=(x2.below x3).below (w':=(((w2.setCell ⟨w.heap.size+1,0,none⟩ (Xi g1)).setCell ⟨w.heap.size+1,0,none⟩ (Xi g1)).alloc (Xj ad)).drew) ⟨rfl,rfl,rfl,Nat.le_refl _,fun _ _=>rfl⟩;have x5:∀k,k<w.heap.size->(((w2.setCell ⟨w.heap.size+1,0,none⟩ (Xi g1)).setCell ⟨w.heap.size+1,0,none⟩ (Xi g1)).alloc (Xj ad)).drew.heap[k]?=w2.heap[k]?:=fun k hk=>by
   show (World.alloc _ _).heap[k]?=_
   rw[heap_alloc_old _ _ (by simp;omega),FB (by omega),FB (by omega)]
  have x6:(((w2.setCell ⟨w.heap.size+1,0,none⟩ (Xi g1)).setCell ⟨w.heap.size+1,0,none⟩ (Xi g1)).alloc (Xj ad)).drew.cell? ⟨w.heap.size+1,0,none⟩=some (Xi g1):=by
   show (World.alloc _ _).cell? _=_
   rw[cell_of_block (by rw[heap_alloc_old _ _ (by simp;omega)];exact x1)]
   rfl
  have x7:w2.heap.size<=(((w2.setCell ⟨w.heap.size+1,0,none⟩ (Xi g1)).setCell ⟨w.heap.size+1,0,none⟩ (Xi g1)).alloc (Xj ad)).drew.heap.size:=by
   show _<=(World.alloc _ _).heap.size
   simp
  have x8:(((w2.setCell ⟨w.heap.size+1,0,none⟩ (Xi g1)).setCell ⟨w.heap.size+1,0,none⟩ (Xi g1)).alloc (Xj ad)).drew.os=w2.os/\(((w2.setCell ⟨w.heap.size+1,0,none⟩ (Xi g1)).setCell ⟨w.heap.size+1,0,none⟩ (Xi g1)).alloc (Xj ad)).drew.tape=w2.tape/\(((w2.setCell ⟨w.heap.size+1,0,none⟩ (Xi g1)).setCell ⟨w.heap.size+1,0,none⟩ (Xi g1)).alloc (Xj ad)).drew.output=w2.output:=⟨rfl,rfl,rfl⟩;obtain rfl:=b0.out;generalize (((w2.setCell ⟨w.heap.size+1,0,none⟩ (Xi g1)).setCell ⟨w.heap.size+1,0,none⟩ (Xi g1)).alloc (Xj ad)).drew=W9 at*;refine⟨.tuple #[Xu 0,Xi g1],?_,rfl,⟨_,_,_,_,_,x4.mono fun k hk=>ab hk⟩,?_⟩
  ·simp[results,f31,go_sem,x6]
  ·refine⟨x8.1.trans (an.os.trans ap.os),x8.2.1.trans (an.tape.trans ap.tape),x8.2.2.trans (an.output.trans ap.output),by omega,fun k hk=>?_⟩;have a6:=h.yl k hk;rw[x5 k a6,an.block k (ab (ab hk)),ap.block k a6]
 | zero=>
  clear au ar h1 h ap k0 k1 hR ho a' hA ba
  go_enter_defers func31,ntmps31
  go_wp2_with fail;generalize ((w.alloc (Xh ps)).alloc (.cells #[Xi 0] 27))=W1 at*;obtain⟨au,ar,h1,h,ap,k0,k1,hR,ho⟩:=HG.out;refine Jc au ?_;obtain⟨_,_,_,c3,c4⟩:=h1.cells;have d0:W1.cell? ⟨w.heap.size,0,none⟩=some (PV ps):=by rw[cell_of_block k0];rfl
  clear au ar h1 h ap k0 k1 hR ho c4;go_wp2_with fail;refine HG.b.mono ?_;rintro e w2 ⟨rfl,a5,an⟩;obtain⟨au,ar,h1,h,ap,k0,k1,hR,ho⟩:=HG.out;have h2:=h1.arena a5 an;have a0:=an.size;have j0:w2.heap[w.heap.size]?=some (.cells #[PV ps] 26 (0,0)):=(an.block _ (ab (ae ⟨Nat.le_refl _,by omega⟩))).trans k0;have j1:w2.heap[w.heap.size+1]?=some (.cells #[Xi 0] 27 (0,0)):=(an.block _ (ab (ae ⟨by omega,by omega⟩))).trans k1;have e1:w2.cell? ⟨w.heap.size+1,0,none⟩=some (Xi 0):=by rw[cell_of_block j1];rfl
  have f1:w2.frozen? ⟨w.heap.size+1,0,none⟩=false:=AT j1;have b1:w.heap.size+1<w2.heap.size:=by omega
  have H2:=kq5 h2 a0 j0 j1 an;clear au ar h1 h ap k0 k1 hR ho h2 a0 j0 j1 a5 an c3 d0;go_wp2_with fail
  go_name_world W3 HW3
  obtain⟨⟨⟨hh,he⟩,t1⟩,hO⟩:∃r,S.t.open ad=r:=⟨_,rfl⟩;obtain⟨h2,a0,j0,j1,an⟩:=H2.out;have bs:Below (w2.setCell ⟨w.heap.size+1,0,none⟩ (Xi 0)).heap.size (w2.setCell ⟨w.heap.size+1,0,none⟩ (Xi 0)) ((w2.setCell ⟨w.heap.size+1,0,none⟩ (Xi 0)).alloc (Xj ad)):=(aa _ _).alloc Ih _;have h3:=(h2.setCell (b:=w.heap.size+1) (o:=0) (ae ⟨by omega,by omega⟩) (by omega) (by omega) (by omega) (Xi 0)).wide bs;have z3:((w2.setCell ⟨w.heap.size+1,0,none⟩ (Xi 0)).alloc (Xj ad)).heap.size=w2.heap.size+1:=by simp
  have g0:((w2.setCell ⟨w.heap.size+1,0,none⟩ (Xi 0)).alloc (Xj ad)).heap[w.heap.size]?=some (.cells #[PV ps] 26 (0,0)):=by
   rw[heap_alloc_old _ _ (by simp;omega),FB (by omega)];exact j0
  have g1:((w2.setCell ⟨w.heap.size+1,0,none⟩ (Xi 0)).alloc (Xj ad)).heap[w.heap.size+1]?=some (.cells #[Xi 0] 27 (0,0)):=by
   rw[heap_alloc_old _ _ (by simp;omega),heap_setCell j1]
   rfl
  have g2:((w2.setCell ⟨w.heap.size+1,0,none⟩ (Xi 0)).alloc (Xj ad)).heap[w2.heap.size]?=some (.cells #[Xi ad] 3 (0,0)):=by
   have:=heap_alloc_new (w2.setCell ⟨w.heap.size+1,0,none⟩ (Xi 0)) (Xj ad);rwa[size_setCell] at this
  have a4:∀k,k<w2.heap.size->k≠w.heap.size+1->((w2.setCell ⟨w.heap.size+1,0,none⟩ (Xi 0)).alloc (Xj ad)).heap[k]?=w2.heap[k]?:=fun k hk hne=>by
   rw[heap_alloc_old _ _ (by simp;omega),FB hne]
  have a2:((w2.setCell ⟨w.heap.size+1,0,none⟩ (Xi 0)).alloc (Xj ad)).os=w2.os/\((w2.setCell ⟨w.heap.size+1,0,none⟩ (Xi 0)).alloc (Xj ad)).tape=w2.tape/\((w2.setCell ⟨w.heap.size+1,0,none⟩ (Xi 0)).alloc (Xj ad)).output=w2.output:=⟨rfl,rfl,rfl⟩;clear bs;simp only[size_setCell] at h3;rw[HW3] at h3 z3 g0 g1 g2 a4 a2;rw[z3] at h3;obtain⟨au,ar,h1,h,ap,k0,k1,hR,ho⟩:=HG.out;rw[hO] at ho;simp only at ho;subst ho;have a3:=vZ h3.tab.wf ad;have a8:=Dn S.t ad;simp only at a3;rw[hO] at a3 a8;simp only at a3 a8;have d0:W3.cell? ⟨w.heap.size,0,none⟩=some (PV ps):=by rw[cell_of_block g0];rfl
  have d1:W3.cell? ⟨w.heap.size+1,0,none⟩=some (Xi 0):=by rw[cell_of_block g1];rfl
  have d2:W3.cell? ⟨w2.heap.size,0,none⟩=some (Xi ad):=by rw[cell_of_block g2];rfl
  have bf:W3.frozen? ⟨w.heap.size+1,0,none⟩=false:=AT g1;have d4:=h3.cells.2.2.2.2;have a9:∀q,Ct 65 #[PV pt,Xi ad] (W3.drewN q) fun e w'=>e=.returned (.tuple #[Xu hh,Xi 0])/\(w'.cell? ⟨w.heap.size,0,none⟩=some (PV ps)/\w'.cell? ⟨ps,4,none⟩=some (PV pt)/\w'.cell? ⟨w2.heap.size,0,none⟩=some (Xi ad))/\(w'.cell? ⟨w.heap.size+1,0,none⟩=some (Xi 0)/\w'.frozen? ⟨w.heap.size+1,0,none⟩=false)/\∃v',eR w' ps pa pm ph pt v' ⟨a1,t1⟩ (fun k=>(Y k\/w.heap.size<=k/\k<W1.heap.size)\/w2.heap.size<=k/\k<w2.heap.size+1)/\Fo (fun k=>k<W3.heap.size/\k≠pt/\v.ownBlock≠some k) W3 w':=fun q=>by
   have bj:=h3.below (w':=W3.drewN q) ⟨rfl,rfl,rfl,Nat.le_refl _,fun _ _=>rfl⟩;have bc:=EL bj.tab ad (by omega) (fun k=>k<W3.heap.size/\k≠pt/\v.ownBlock≠some k) (fun b hb=>⟨hb.1,hb.2.1,fun e=>hb.2.2 e.symm⟩);simp only at bc;rw[hO] at bc;refine bc.mono ?_;rintro e w' ⟨rfl,⟨v',ht,b9⟩,hk⟩;have hZ:∀k,k<w2.heap.size+1->w.heap.size<=k\/k=ps->k<W3.heap.size/\k≠pt/\v.ownBlock≠some k:=fun k hk1 an=>by
    refine⟨by omega,?_,fun e=>?_⟩
    ·rcases an with an | rfl
     ·omega
     ·exact(h.off _ (ae (ab rfl))).1
    ·rcases an with an | rfl
     ·have:=b2.2.2.2.2 k e;omega
     ·exact(h.off _ (ae (ab rfl))).2 e
   have n0:=hk.block w.heap.size (hZ _ (by omega) (ab Ih));have n1:=hk.block (w.heap.size+1) (hZ _ (by omega) (ab (by omega)));have n2:=hk.block w2.heap.size (hZ _ (by omega) (ab (by omega)));have n3:=hk.block ps (hZ _ (by omega) (ae rfl));refine⟨rfl,⟨(World.cell?_of_block n0).trans d0,(World.cell?_of_block n3).trans d4,(World.cell?_of_block n2).trans d2⟩,⟨(World.cell?_of_block n1).trans d1,(World.frozen?_of_block n1).trans bf⟩,v',?_,⟨hk.os,hk.tape,hk.output,hk.size,hk.block⟩⟩;exact bj.table ht a8 _ (fun k h1 h2 h3=>⟨h1,h2,h3⟩) hk (fun b hb e=>b9 b hb e.symm)
  have H3:=kq10 h3 z3 g0 g1 g2 a4 a2 a9 a3 hO;clear au ar h1 h ap k0 k1 hR h3 z3 g0 g1 g2 a4 a2 a9 a3 hO a8 h2 a0 j0 j1 an e1 f1 HW3
  go_region_held3 (fun w'=>w'.cell? ⟨w.heap.size,0,none⟩=some (PV ps)/\w'.cell? ⟨ps,4,none⟩=some (PV pt)/\w'.cell? ⟨w2.heap.size,0,none⟩=some (Xi ad)) (first | exact⟨d0,d4,d2⟩ | exact hQ | exact⟨(World.cell?_of_block (FB (show w.heap.size≠w.heap.size+1 by omega))).trans hQ.1,(World.cell?_of_block (FB (show ps≠w.heap.size+1 by omega))).trans hQ.2.1,(World.cell?_of_block (FB (show w2.heap.size≠w.heap.size+1 by omega))).trans hQ.2.2⟩)
   (first | (go_at_call 65;refine(H3.h 1).mono ?_;rintro e w4 ⟨rfl,hQ,⟨e4,f4⟩,v',h4,k4⟩))
  obtain⟨h3,z3,g0,g1,g2,a4,a2,a9,a3,hO⟩:=H3.out;have h5:=h4.setCell (b:=w.heap.size+1) (o:=0) (ab (ae ⟨by omega,by omega⟩)) (by omega) (by omega) (by omega) (Xi 0);have q0:(w4.setCell ⟨w.heap.size+1,0,none⟩ (Xi 0)).cell? ⟨w.heap.size,0,none⟩=some (PV ps):=(World.cell?_of_block (FB (show w.heap.size≠w.heap.size+1 by omega))).trans hQ.1;have q2:(w4.setCell ⟨w.heap.size+1,0,none⟩ (Xi 0)).cell? ⟨w2.heap.size,0,none⟩=some (Xi ad):=(World.cell?_of_block (FB (show w2.heap.size≠w.heap.size+1 by omega))).trans hQ.2.2;have q1:(w4.setCell ⟨w.heap.size+1,0,none⟩ (Xi 0)).cell? ⟨w.heap.size+1,0,none⟩=some (Xi 0):=World.cell?_setCell_same' _ _ _ (by rw[e4];rfl);have bu:(w4.setCell ⟨w.heap.size+1,0,none⟩ (Xi 0)).frozen? ⟨w.heap.size+1,0,none⟩=false:=by rw[World.frozen?_setCell];exact f4
  have q3:=h5.cells.2.2.1;have k5:∀k,k<w.heap.size->k≠pt->v.ownBlock≠some k->(w4.setCell ⟨w.heap.size+1,0,none⟩ (Xi 0)).heap[k]?=W3.heap[k]?:=fun k h1 h2 h3=>by
   rw[FB (by omega)];exact k4.block k ⟨by omega,h2,h3⟩
  have s5:W3.heap.size<=(w4.setCell ⟨w.heap.size+1,0,none⟩ (Xi 0)).heap.size:=by rw[size_setCell];exact k4.size
  have o5:(w4.setCell ⟨w.heap.size+1,0,none⟩ (Xi 0)).os=W3.os/\(w4.setCell ⟨w.heap.size+1,0,none⟩ (Xi 0)).tape=W3.tape/\(w4.setCell ⟨w.heap.size+1,0,none⟩ (Xi 0)).output=W3.output:=⟨k4.os,k4.tape,k4.output⟩;generalize w4.setCell ⟨w.heap.size+1,0,none⟩ (Xi 0)=W5 at*;have H5:=kq6 h5 k5 s5 o5 z3 a3;clear h3 z3 g0 g1 g2 a4 a2 a9 a3 hO h5 k5 s5 o5 hQ e4 f4 h4 k4 d0 d1 d2 bf d4;go_wp2_with fail;refine lD (C:=fun w'=>∃q:Nat,w'=(W5).drewN q) 6 (by kernel_rfl) (by kernel_rfl) ⟨1,rfl⟩ ?_;simp only[bW,cJ,bU,cT]
  repeat (first | go_big_quiet_skip | (go_big_quiet_want;go_big_quiet_op;first | go_big_quiet_on))
  refine wpQuiet_nil ?_;rintro _ ⟨q,rfl⟩;have a7:=((H5.a.below (w':=W5.drewN q) ⟨rfl,rfl,rfl,Nat.le_refl _,fun _ _=>rfl⟩).heap.write' ad hh (ai:=ad) (xi:=hh) (by omega) H5.f rfl rfl);go_wp2_with fail;refine a7.mono ?_;rintro e w6 ⟨rfl,bk,k6⟩;have h6:=(H5.a.below (w':=W5.drewN q) ⟨rfl,rfl,rfl,Nat.le_refl _,fun _ _=>rfl⟩).arena bk k6;have y0:∀k,w.heap.size<=k->k<w.heap.size+2->w6.heap[k]?=W5.heap[k]?:=fun k h1 h2=>k6.block k (ab (ab (ae ⟨h1,by omega⟩)));have y2:w6.heap[w2.heap.size]?=W5.heap[w2.heap.size]?:=k6.block _ (ab (ae ⟨Nat.le_refl _,by omega⟩));have bx:=y0 w.heap.size Ih (by omega);have bd:=y0 (w.heap.size+1) (by omega) (by omega);have u0:w6.cell? ⟨w.heap.size,0,none⟩=some (PV ps):=(World.cell?_of_block bx).trans q0;have u1:w6.cell? ⟨w.heap.size+1,0,none⟩=some (Xi 0):=(World.cell?_of_block bd).trans q1;have bv:w6.frozen? ⟨w.heap.size+1,0,none⟩=false:=(World.frozen?_of_block bd).trans bu;have u2:w6.cell? ⟨w2.heap.size,0,none⟩=some (Xi ad):=(World.cell?_of_block y2).trans q2;have u3:=h6.cells.2.2.1;have H6:=kq2 h6 k6;clear h6 k6 bk a7 y0 bx bd y2 q0 q1 bu q2 q3;go_wp2_with fail;refine lD (C:=fun w'=>∃q:Nat,w'=(w6).drewN q) 8 (by kernel_rfl) (by kernel_rfl) ⟨1,rfl⟩ ?_;simp only[bW,cJ,bU,cT]
  repeat (first | go_big_quiet_skip | (go_big_quiet_want;go_big_quiet_op;first | go_big_quiet_on))
  refine wpQuiet_nil ?_;rintro _ ⟨q,rfl⟩;have a7:=((H6.a.below (w':=w6.drewN q) ⟨rfl,rfl,rfl,Nat.le_refl _,fun _ _=>rfl⟩).heap.write' (ad+1) n (ai:=(ad:Int)+1) (xi:=n) (by omega) (by omega) (by omega) rfl);go_wp2_with fail;refine a7.mono ?_;rintro e w7 ⟨rfl,bm,k7⟩;have h7:=(H6.a.below (w':=w6.drewN q) ⟨rfl,rfl,rfl,Nat.le_refl _,fun _ _=>rfl⟩).arena bm k7;have y1:w7.heap[w.heap.size+1]?=w6.heap[w.heap.size+1]?:=k7.block _ (ab (ab (ae ⟨by omega,by omega⟩)));have v1:w7.cell? ⟨w.heap.size+1,0,none⟩=some (Xi 0):=(World.cell?_of_block y1).trans u1;have cj:w7.frozen? ⟨w.heap.size+1,0,none⟩=false:=(World.frozen?_of_block y1).trans bv;have H7:=kq2 h7 k7;clear h7 k7 bm a7 y1 u0 u1 bv u2 u3;go_wp2_with fail;refine leaves_cons (f:=63) (args:=#[PV (w.heap.size+1),PV w.heap.size,PV w2.heap.size]) (by simp) (by simp[go_sem]) ?_;refine(Cs (w:=w7.setCell ⟨w.heap.size+1,0,none⟩ (Xi 0)) (World.cell?_setCell_same' _ _ _ (by rw[v1];rfl))).mono ?_;rintro e u' ck ⟨rfl,rfl,rfl⟩;have x1:(w7.setCell ⟨w.heap.size+1,0,none⟩ (Xi 0)).cell? ⟨w.heap.size+1,0,none⟩=some (Xi 0):=World.cell?_setCell_same' _ _ _ (by rw[v1];rfl);obtain⟨_,_,h1,h,ap,_,_,hR,_⟩:=HG.out;obtain⟨_,a0,_,_,an⟩:=H2.out;obtain⟨_,_,_,_,_,a4,a2,_,_,hO⟩:=H3.out;obtain⟨_,k5,s5,o5,_,_⟩:=H5.out;obtain⟨_,k6⟩:=H6.out;obtain⟨h7,k7⟩:=H7.out;rw[hO] at hR;obtain rfl:R=((hh,0),⟨(a1.wr ad hh).wr (ad+1) n,t1⟩):=hR;have b':=k6.size;have ca:=k7.size;simp only[AG] at b' ca;refine⟨.tuple #[Xu hh,Xi 0],?_,rfl,⟨_,_,_,_,_,(h7.setCell (b:=w.heap.size+1) (o:=0) (ab (ae ⟨by omega,by omega⟩)) (by omega) (by omega) (by omega) (Xi 0)).mono fun k hk=>ab (ab hk)⟩,?_⟩
  ·simp[results,f31,go_sem,x1]
  ·refine⟨k7.os.trans (k6.os.trans (o5.1.trans (a2.1.trans (an.os.trans ap.os)))),k7.tape.trans (k6.tape.trans (o5.2.1.trans (a2.2.1.trans (an.tape.trans ap.tape)))),k7.output.trans (k6.output.trans (o5.2.2.trans (a2.2.2.trans (an.output.trans ap.output)))),?_,fun k hk=>?_⟩
   ·rw[size_setCell];omega
   ·have a6:=h.yl k hk;have bt:=h.off k (ab hk);rw[FB (by omega)];refine(k7.block k (ab (ab (ab hk)))).trans ((k6.block k (ab (ab (ab hk)))).trans ?_);rw[show (W5.drewN _).heap[k]?=W5.heap[k]? from rfl,k5 k a6 bt.1 bt.2,a4 k (by omega) (by omega),an.block k (ab (ab hk)),ap.block k a6]
def iw(S:St)(n:Nat):Prop:=(S.t.open (fR S.a (n+2)).1.1).1.2=0/\Fv (S.make n).2
theorem oA(hw:iW S.t)(n:Nat):(S.make n).1.1<2^64:=by
 have h:=vZ hw;unfold St.make
 split
 ·simp
 ·split
  ·rename_i addr a1 _;have:=h addr
   split
   ·rename_i hh t1 he;rw[he] at this;exact this
   ·simp
  ·simp
theorem Ig.tabwf(h:Ig w ps S Y):iW S.t:=by
 obtain⟨_,_,_,_,_,h⟩:=h;exact h.tab.wf
theorem jm.keep{w w':World}{B:Nat}{ws:List Nat}(h:jm w B v ws)(hk:Fo Y w w')(hy:∀k,B<=k->k<w.heap.size->Y k):jm w' B v ws:=by
 obtain⟨G,c,rfl,hB,hc⟩:=h;refine⟨G,c,rfl,hB,fun i hi=>?_⟩;have h1:=hc i hi;have hlt:G<w.heap.size:=by
  unfold World.cell? at h1
  split at h1
  ·rename_i heq;exact(gl heq)
  ·cases h1
 exact(World.cell?_of_block (hk.block G (hy G hB hlt))).trans h1
theorem tP(h:Ig w ps S Y)(hi:Fv S)(l:List UInt8)(hl:l.length<=1000)(hm:iw S (many l.length)):
 Ct 129 #[PV ps,SV l] w fun e w'=>e=.returned (.tuple #[Xu ((fx S l).1.1:Nat),Xi ((fx S l).1.2:Nat)])/\Ig w' ps (fx S l).2 Y/\Fo Y w w':=by
 have a4:=fB h hi 0 (by omega);rw[fU] at a4;have a8:=fun W=>xE l W hl;have bb:=te l hl;have a7:=xZ l (by omega);obtain⟨R,hR⟩:=Ii (fx S l);rw[hR];unfold fx at hR;rw[if_neg (by omega)] at hR;obtain⟨bc,a3⟩:=hm;have ad:=fun W (hW:Ig W ps S (fun k=>Y k\/(w.heap.size<=k/\k<W.heap.size)))=>sH hW (many l.length) (by unfold many;split<;>omega) bc;have a6:=oA h.tabwf (many l.length);have a5:many l.length<=200:=by unfold many;split<;>omega
 obtain⟨⟨⟨hh,er⟩,S1⟩,hS⟩:∃r,S.make (many l.length)=r:=⟨_,rfl⟩;rw[hS] at ad a6 a3 hR;simp only at ad a6 a3 hR;rw[<-bb] at ad a5;obtain⟨ws,bj⟩:=Ii (FK l);rw[bj] at a8 ad a5 a7 hR;have HG:=kq7 a4 a8 ad hR h a7 a3;clear a4 a8 ad hR h a7 a3 bc hS bb bj hi;obtain⟨n,hn⟩:=Ii ws.length;have HN:=If hn;rw[hn] at a5;clear hn;go_enter func129,ntmps129;go_wp2_with fail;refine Jc HG.a ?_;go_wp2_with fail;refine(HG.b _).mono ?_;rintro e w2 ⟨v,rfl,hrow,hb⟩;have a9:=HG.e.wide hb;have H2:=kq3 hrow hb a9;have bm:=hrow;obtain⟨G,cp,rfl,_,_⟩:=bm;rw[HN.out] at H2;simp only[HN.out];clear hrow hb a9;go_wp2_with fail;have ad:=HG.c w2 H2.c;rw[HN.out] at ad;refine ad.mono ?_;rintro e w3 ⟨rfl,h3,k3⟩;clear ad;have bf:=H2.a.keep k3 (fun k h1 h2=>ae ⟨h1,h2⟩);have H3:=kq3 h3 k3 bf;clear h3 k3 bf
 cases er with
 | succ er=>
  have bk:(((er+1:Nat):Int) !=0)=true:=by simp;omega
  obtain⟨g1,a2⟩:=Ii (er+1);rw[a2] at HG bk;have ai:R=((0,g1),S1):=by rw[<-HG.d,<-a2];rfl
  have au:=If ai;simp only[a2];clear ai a2;go_wp2_with fail;go_ret2;obtain rfl:=au.out;exact⟨rfl,H3.a.mono fun k hk=>ab hk,(Fo.of_below H2.b HG.e.yl).trans (H3.b.mono fun k hk=>ab hk)⟩
 | zero=>
  have ai:R=((hh,0),FC S1 hh 0 ws):=by rw[<-HG.d];rfl
  have au:=If ai;clear ai;go_wp2_with fail
  go_loopw [11,12,40] (fun _ _ i wr=>∃k:Nat,k<=n/\i=Xi k/\∃Sk,Ig wr ps Sk (fun k=>Y k\/(w.heap.size<=k/\k<w2.heap.size))/\Fv Sk/\FC Sk hh k (ws.drop k)=R.2/\Fo (fun k=>Y k\/(w.heap.size<=k/\k<w2.heap.size)) w2 wr) (fun _ _ i _=>n-(intOf i).toNat)
  case atStart=>exact⟨0,by omega,rfl,S1,H3.a,HG.g,by rw[au.out];rfl,H3.b⟩
  case round=>
   obtain⟨k,hk,rfl,Sk,a1,a0,ar,an⟩:=hrel
   by_cases hlt:k<n
   ·have bo:(k:Int)<n:=by omega
    have ap:k<ws.length:=by rw[HN.out];exact hlt
    obtain⟨G',c',he,_,a'⟩:=H2.a.keep an (fun k h1 h2=>ae ⟨h1,h2⟩)
    injection he with he1 he2 he3
    injection he1 with he1
    injection he1 with he1
    subst he1;have c1:=a' k ap;have hx:=HG.f _ (aw ap);have hd:ws.drop k=ws[k]::ws.drop (k+1):=bM ap;rw[hd] at ar;have bd:=KK a1 a0 hh k ws[k] a6 (by omega) hx;have ba:=a0.put hh k ws[k];generalize ws[k]=x at*;have HK:=kq5 bd ba ar an ap;clear bd ba ar an ap a' hd a1 a0 he2 he3;go_wp2_with fail;refine HK.a.mono ?_;rintro e w4 ⟨rfl,h4,k4⟩;have H4:=kq2 h4 (HK.d.trans k4);clear h4 k4;go_wp2_with fail;go_roundw
    case rel=>exact⟨k+1,by omega,by simp,_,H4.a,HK.b,HK.c,H4.b⟩
    case measure=>simp[intOf];omega
   ·obtain rfl:k=n:=by omega
    have HK:=kq3 a1 ar an;clear a1 ar an a0;go_wp2_with fail;go_ret2;have hf:Sk=R.2:=by rw[<-HK.b,dr (by rw[HN.out];exact Nat.le_refl _)];rfl
    have e1:R.1=(hh,0):=by rw[au.out]
    rw[e1,<-hf];exact⟨rfl,HK.a.mono fun k hk=>ab hk,(Fo.of_below H2.b HG.e.yl).trans (HK.c.mono fun k hk=>ab hk)⟩
end
section
open Go.RowKit Tryz Go.BigFrame Go.Maps Go.WideMaps Lf
open Go.Shelf
variable{B:Nat}{N:Nat}{S:St}{Y:Nat->Prop}{e:TypeId}{g:Nat}{k:Nat}{l:List UInt8}{lb:Array Value}{ps:Nat}{q:List Nat}{size:Nat}{v:Value}{w:World}
attribute [local go_sem] Oper.semAt_some
abbrev Jf:= { x:Nat // x<2^64 }
def mG(x:Jf):Array Value:=#[Xu (x.1:Nat)]
def iR(l:List Jf):List Nat:=l.map (·.1)
theorem uC(h:Ig w ps S Y)(hh k:Nat):(S.get hh k).1<2^64:=by
 obtain⟨pa,pm,ph,pt,v,h⟩:=h;rw[St.get_place]
 rcases S.place_cases hh k with⟨p,hp⟩ | ⟨e,hp⟩
 ·rw[hp];exact h.heap.rd_lt p
 ·rw[hp]
  show 0<_;omega
theorem zB(ps hh:Nat)(w:World):
 Ct 96 #[PV ps,Xu hh] w fun e w'=>e=.returned (.func (.func 149) #[] #[PV w.heap.size,PV (w.heap.size+1)])/\w'=(w.alloc (Xh ps)).alloc (Xf hh):=by
 go_enter func96,ntmps96
 go_wp2
 go_ret;exact⟨rfl,rfl⟩
theorem E9(h:Ig w ps S Y)(hi:Fv S)(hh:Nat)(hl:hh<2^64)(Bs Bh:Nat)(hBs:Bs<w.heap.size/\w.cell? ⟨Bs,0,none⟩=some (PV ps))(hBh:Bh<w.heap.size/\w.cell? ⟨Bh,0,none⟩=some (Xu hh)):
 SeqStopsK Fence.wide 6 prog 149 #[PV Bs,PV Bh] mG (Below w.heap.size) (fun xs=>iR xs=kM S hh) (fun _=>True) 3998 w:=fun l J Jx W hW hJ hJx hY h0=>by
 have bc:Fence.wide.fn 42:=trivial;have bb:Fence.wide.fn 123:=trivial;have au:CallsIn Fence.wide 5 prog 42 #[PV ps,Xu hh] W _:=callsIn_wide.2 (fB (h.below hW) hi hh hl);have a5:∀W',Below w.heap.size w W'->∀k:Nat,k<=4000->CallsIn Fence.wide 5 prog 123 #[PV ps,Xu hh,Xi k] W' _:=fun W' hW' k hk=>callsIn_wide.2 (sG (h.below hW') hi hh k hl (by omega));have a6:=fun k=>uC h hh k;have hn:(S.len hh).1<=3998:=hi.at_le hh;obtain⟨q,hq⟩:=Ii (kM S hh);have a0:∀k,q.take (k+1)=if k<(S.len hh).1 then q.take k++[(S.get hh k).1] else q.take k:=fun k=>by
  rw[<-hq];unfold kM;split
  ·rename_i hk;rw[<-dh,<-dh,List.take_range,List.take_range,dE (by omega),dE (by omega),du,aP];rfl
  ·rename_i hk;rw[aT (by simp;omega),aT (by simp;omega)]
 have a1:q.length=(S.len hh).1:=by rw[<-hq];simp[kM]
 rw[hq];obtain⟨n,a8⟩:=Ii (S.len hh).1;rw[a8] at au hn a0 a1;have cs:=(hW.cell (p:=⟨Bs,0,none⟩) hBs.1).trans hBs.2;have ch:=(hW.cell (p:=⟨Bh,0,none⟩) hBh.1).trans hBh.2;have HG:=kq7 a5 a6 a0 a1 hBs hBh hW;have HJ:=kq4 hJ hJx hY h0;have HL:=If au;clear a5 a6 hq a0 a1 hBs hBh hW hJ hJx hY h0 au a8 hi h;refine callsIn_of_wp func149 rfl trivial ?_ rfl;simp only[ntmps149,aR,ag,aM,Nat.reduceAdd,Nat.reduceSub,aN,aO,aU,aQ,aY,aK];gi_wp2_with fail;refine HL.out.mono ?_;rintro e w1 ⟨rfl,rfl⟩;clear HL;gi_wp2_with fail;gi_loopw [6,7,8,16] (fun _ _ _ i wr=>∃k:Nat,k<=n/\i=Xi k/\Hid (Below w.heap.size w wr/\∃pX,iR pX=q.take k/\J pX wr)) (fun _ _ _ i _=>n-(intOf i).toNat)
 case atStart=>exact⟨0,by omega,rfl,HG.g,[],rfl,HJ.d⟩
 case round=>
  obtain⟨k,hk,rfl,ad⟩:=hrel;by_cases hlt:k<n
  ·have bd:(k:Int)<n:=by omega
   have cs:=(ad.out.1.cell (p:=⟨Bs,0,none⟩) HG.e.1).trans HG.e.2;have ch:=(ad.out.1.cell (p:=⟨Bh,0,none⟩) HG.f.1).trans HG.f.2;have an:=HG.a wr ad.out.1 k (by omega);obtain⟨pX,ai,ap⟩:=ad.out.2;have a9:pX.length=k:=by
    have:=congrArg List.length ai;simp only[iR,ao,aL] at this;rw[HG.d] at this;omega
   obtain⟨xX,a2⟩:∃xX:Jf,(S.get hh k).1=xX.1:=⟨⟨_,HG.b k⟩,rfl⟩;obtain⟨fn,bf,a',ba,hy,ar⟩:=HJ.c pX xX wr ap (by omega);have hv:iR (pX++[xX])=q.take (k+1):=by
    rw[HG.c k,if_pos hlt,<-ai,a2];simp[iR]
   dsimp only[mG] at hy
   rw[a2] at an;generalize (S.get hh k).2=er at an;obtain⟨x,hx⟩:=xX;simp only at an hy;clear a2;have HV:=If hv;have HE:=If an;clear hv an ai ap a9;gi_wp2_with fail;refine HE.out.mono ?_;rintro e w2 ⟨rfl,rfl⟩;clear HE;gi_wp2_with fail;refine ar.mono ?_;rintro e w4 (⟨rfl,a3,a7⟩ | ⟨rfl,a4⟩)
   ·have H4:=kq2 (ad.out.1.trans a7) a3;clear a3 a7 hy ar;gi_wp2_with fail;go_roundw
    case rel=>exact⟨k+1,by omega,by simp,H4.a,_,HV.out,H4.b⟩
    case measure=>simp[intOf];omega
   ·have H4:=If a4;clear a4 hy ar;gi_wp2_with fail;refine bodyPost_ret (results_none rfl _ _ _) rfl ?_;exact⟨⟨_,rfl⟩,.inr ⟨_,trivial,H4.out⟩⟩
  ·obtain rfl:k=n:=by omega
   gi_wp2
   go_end0
   obtain⟨pX,ai,ap⟩:=ad.out.2;rw[aT (by rw[HG.d];exact Nat.le_refl _)] at ai;exact⟨⟨_,rfl⟩,.inl ⟨_,ai,ap⟩⟩
attribute [local go_sem] Oper.semAt_some
theorem BL{W W':World}{base B:Nat}{xs:List Value}(h:W.ownsRow base e size v k xs)(hg:W.grownBy W' v.ownBlock):KeepsFrom B W W':=
 ⟨hg.size,fun j o _ hj ho=>(hg.block j (gl hj) (fun e'=>by
  rcases h.2 with⟨rfl,_⟩ | ⟨g,ai,an,rfl,_,ad,_⟩
  ·cases e'
  ·have:j=g:=by simpa[Value.ownBlock] using e'
   subst this;rw[ad] at hj;injection hj with hj
   subst hj;cases ho)).trans hj⟩
theorem nN{n:Nat}(W:World)(l:Nat)(o o':Obj)(hl:n<=l)(_:W.heap[l]?=some o)(_:o.isCells=false)(_:o.isWalk=false):Below n W (W.putObj l o'):=
 ⟨rfl,rfl,rfl,by simp,fun k hk=>World.putObj_heap_other (by omega)⟩
theorem wi{W W':World}{row:Option Nat}{base:Nat}{xs:List Value}(h:W.ownsRow base e size v k xs)(hg:W.grownBy W' row)(hr:∀r,row=some r->∃o:Obj,W.heap[r]?=some o/\o.isCells=false):W'.ownsRow base e size v k xs:=by
 refine h.kept hg ?_
 rcases h.2 with⟨rfl,_⟩ | ⟨g,ai,an,rfl,_,ad,_⟩
 ·exact ab rfl
 ·refine ae fun e'=>?_;obtain⟨o,ho,hc⟩:=hr g (by rw[<-e'];rfl);rw[ad] at ho
  injection ho with ho
  subst ho
  cases hc
theorem qS{W:World}{t:TypeId}(h:W.heap[B]?=some (.cells #[v] t (0,0))):W.cell? ⟨B,0,none⟩=some v/\W.frozen? ⟨B,0,none⟩=false:=⟨by rw[cell_of_block h];rfl,AT h⟩
def uV(q:List Nat):List Value:=q.map fun x:Nat=>Value.int .u64 x
theorem yF(hN:N<=100000)(eg:∀args w,(callFunc g args).run prog w=.ok (.enter g args) w)
 (hseq:SeqStopsK Fence.wide 6 prog g lb mG (Below w.heap.size) (fun xs=>iR xs=q) (fun _=>True) N w):
 CallsIn Fence.wide 7 prog 148 #[.slice none 0 0,.func (.func g) #[] lb] w fun e w'=>∃v,e=.returned v/\w'.ownsRow w.heap.size 60 1 v q.length (uV q)/\Below w.heap.size w w':=by
 have h1:1<=7:=by omega
 obtain⟨i0,hi,bm,bo,bq⟩:=info_parts uQ;refine callsIn_of_wp_marks func148 rfl trivial ?_ rfl;simp only[ntmps148,aR,ag,aM,Nat.reduceAdd,Nat.reduceSub,aN,aO,aU,aQ,aY,aK];gi_wp2_with fail;have k0:(w.alloc (.cells #[.slice none 0 0] 177)).heap[w.heap.size]?=some (.cells #[.slice none 0 0] 177 (0,0)):=heap_alloc_new w _;have a0:Below w.heap.size w (w.alloc (.cells #[.slice none 0 0] 177)):=(aa _ w).alloc Ih _;have bc:(w.alloc (.cells #[.slice none 0 0] 177)).heap.size=w.heap.size+1:=by simp
 generalize w.alloc (.cells #[.slice none 0 0] 177)=W0 at*;refine wpIn_rangeFunc_ownH rfl h1 (gf:=g) (lb:=lb) rfl trivial eg hseq (fun h k=>h.trans k) (fun W l o o' h1 h2 h3 h4=>nN W l o o' (by omega) h2 h3 h4) a0 (fun _=>rfl)
  (fun ai W=>(∃v,W.heap[w.heap.size]?=some (.cells #[v] 177 (0,0))/\W.ownsRow w.heap.size 60 1 v ai.length (uV (iR ai)))/\Below w.heap.size w W)
  (fun _ _ _=>False)
  (OwnFrom.and (Own.from (fun s A B row hs hg hr=>by
   obtain⟨v,hv,hrow⟩:=hs;refine⟨v,(hg.block _ (gl hv) (fun e=>?_)).trans hv,wi hrow hg hr⟩;obtain⟨o,ho,hc⟩:=hr _ e.symm;rw[hv] at ho;injection ho with ho
   subst ho;cases hc) _) (ownFrom_below Ih (by omega)))
  (fun cd=>Own.from (fun s A B row hs hg hr=>hs) _)
  ⟨⟨_,k0,rfl,ab ⟨rfl,rfl⟩⟩,a0⟩
  (fun x a' _=>a'= { tmps:=#[.slice none 0 0,.func (.func g) #[] lb,PV w.heap.size,undef,.slice none 0 0,Xu (x.1:Nat),.func (.func g) #[] lb,Xu (x.1:Nat),undef,undef,undef,undef,undef],defers:=[] })
  (fun x a' _ X W' row hs hg hr=>hs)
  ?assign ?body ?done ?stop
 case assign=>
  rintro l ai ⟨x,hx⟩ W K hI hK;have HK:=If hK;have HI:=If hI;clear hK hI;simp only[mG];gi_wp2
  exact HK.out _ _ (KeepsFrom.refl _ _) (aa _ _) HI.out rfl
 case body=>
  rintro l ai ⟨x,hx⟩ a' W hl _ ⟨⟨v,hv,hrow⟩,hB⟩ rfl hlt;obtain⟨c1,f1⟩:=qS hv;have HI:=kq6 hv hrow hB hlt bc hl;obtain⟨m,hm⟩:=Ii ai.length;have bu:m<=100000:=by omega
  rw[hm] at HI;clear hv hrow hB hlt hm;gi_wp2_with (gi_at_builtin;refine wpListIn_append_own_at _ rfl _ _ 177 rfl w.heap.size 60 i0 (Xu 0) 1 8 underlying177 hi bm bo bq rfl (by decide) _ _ _ rfl (HI.b.alloc _) ⟨W.heap.size,0,none⟩ 1 1 [Xu x] rfl rfl (cell_one_new _ _ _) ?c2 ?c3 ?c4 ?c5 ?_)
  case c2=>simp[Value.oneCell']
  case c3=>unfold maxLen;omega
  case c4=>omega
  case c5=>have:=HI.c.size;simp;omega
  intro v' w1 hown hgrow _ hat;obtain⟨g',au,bd,rfl,a3,ap,a8,a9,ba,bb⟩:=hown.2.resolve_left (by rintro⟨_,h⟩;exact absurd h (by simp));obtain⟨hv,hrow,hB,hlt,bc,hl⟩:=HI.out;have an:=hB.size;have a4:=(gl hv);have a7:v.ownBlock≠some w.heap.size:=fun e'=>by
   rcases hrow.2 with⟨rfl,_⟩ | ⟨g0,bs,bt,rfl,_,bf,_⟩
   ·cases e'
   ·have:g0=w.heap.size:=by simpa[Value.ownBlock] using e'
    subst this;rw[bf] at hv;injection hv with hv
    injection hv with _ hv
    exact absurd hv (by decide)
  have ad:w1.heap[w.heap.size]?=some (.cells #[v] 177 (0,0)):=by
   rw[hgrow.block _ (by simp;omega) (fun e=>a7 e.symm),heap_alloc_old W _ a4];exact hv
  have a5:g'≠w.heap.size:=fun e=>by
   subst e;rw[ap] at ad;injection ad with ad
   injection ad with _ ad
   exact absurd ad (by decide)
  have a1:Below w.heap.size W w1:=((aa _ W).mono an |>.alloc an (.cells #[Xu x] 60)).grown hgrow (by simp;omega) (fun k e=>(hrow.lt k e).1);have a6:KeepsFrom W0.heap.size W w1:=((KeepsOthers.alloc W (.cells #[Xu x] 60)).from _).trans (BL (hrow.alloc _) hgrow);obtain⟨d1,e1⟩:=qS ad;have HW:=kq11 ad ap a5 a1 a6 hown a3 a8 a9 ba bb;clear ad ap a5 a1 a6 hown a3 a8 a9 ba bb hgrow hat a7 a4 an hv hrow hB hlt hl;gi_wp2_with fail;have a2:=HW.d.setCell (p:=⟨w.heap.size,0,none⟩) (Nat.le_refl w.heap.size) (.slice (some ⟨g',0,none⟩) (m+1) au);refine⟨HW.e.trans ((KeepsOthers.setCell _ _ _).from _),a2,⟨_,heap_setCell HW.a,?_⟩,HI.c.trans a2⟩;have bj:(ai++[(⟨x,hx⟩:Jf)]).length=m+1:=by have:=HW.f.1;simp[uV,iR] at this⊢;omega
  have bk:uV (iR (ai++[(⟨x,hx⟩:Jf)]))=uV (iR ai)++[Xu x]:=by simp[uV,iR]
  rw[bj,bk];exact⟨HW.f.1,ae ⟨g',au,bd,rfl,HW.g,(FB HW.c).trans HW.b,HW.out.2.2.2.2.2.2.2⟩⟩
 case done=>
  rintro D ys W hD hS ⟨⟨v,hv,hrow⟩,hB⟩ hK;obtain⟨c1,f1⟩:=qS hv;have ar:ys.length=q.length:=by rw[<-hS];simp[iR]
  rw[hS,ar] at hrow;have HI:=kq5 hrow hB hv ar hS;clear hrow hB hv ar hS f1;gi_wp2
  refine⟨by simp,.inl ⟨_,_,rfl,run_takeDeferred hK,?_⟩⟩;refine⟨v,by simp[results,f148,go_sem],v,rfl,?_,HI.b.trans (nN W D _ _ (by omega) hK rfl rfl)⟩;exact wi HI.a (grownBy_putObj' W D _) (fun r e=>by cases e;exact⟨_,hK,rfl⟩)
 case stop=>
  rintro D cd ai W hD bv hF;exact hF.elim
theorem Eb(h:w.ownsRow B 60 1 v q.length (uV q))(hq:q≠[]):jm w B v q:=by
 rcases h.2 with⟨_,hx⟩ | ⟨g,ad,ai,hv,hb,hg,h1,h2,h3,h4⟩
 ·exact absurd (cO.1 hx) hq
 ·refine⟨g,ad,hv,hb,fun i hi=>?_⟩;rw[cell_of_block hg];have:(ai.toList.take (q.length*1))[i]?=(uV q)[i]?:=by rw[h4]
  rw[dg (by omega),bQ] at this;rw[this]
  simp[uV,List.getElem?_eq_getElem hi]
theorem AA(hN:N<=100000)(eg:∀args w,(callFunc g args).run prog w=.ok (.enter g args) w)
 (hseq:SeqStopsK Fence.wide 6 prog g lb mG (Below w.heap.size) (fun xs=>iR xs=q) (fun _=>True) N w):
 Ct 95 #[.func (.func g) #[] lb] w fun e w'=>∃v,e=.returned v/\w'.ownsRow w.heap.size 60 1 v q.length (uV q)/\Below w.heap.size w w':=by
 have ha:=callsIn_wide.1 (yF hN eg hseq);have HA:=If ha;clear ha hseq eg;go_enter func95,ntmps95;go_wp2_with fail;refine HA.out.mono ?_;rintro e w1 ⟨v,rfl,hr⟩;have HR:=If hr;clear hr;go_wp2_with fail;go_ret;exact⟨_,rfl,HR.out⟩
theorem BD:(prog.info? 5).map (fun i=>(i.zero,i.size,i.bytes))=some (some (.int .u8 0),1,1):=by kernel_rfl
def bV(l:List UInt8)(k:Nat):List Value:=(List.range k).map fun i=>Value.int .u8 (FN l i:Nat)
theorem AC(w:World):(convert 226 9 (.slice none 0 0)).run prog w=.ok (.string ⟨#[]⟩) w:=by kernel_rfl
theorem AB(h:w.ownsRow B 5 1 v l.length (bV l l.length)):(convert 226 9 v).run prog w=.ok (SV l) w:=by
 rcases h.2 with⟨rfl,hx⟩ | ⟨g,ad,ai,rfl,hb,hg,h1,h2,h3,h4⟩
 ·obtain rfl:=cO.1 hx;exact AC w
 ·refine run_convert_bytes_back (P:=prog) w _ _ 5 ⟨g,0,none⟩ ad l underlying226 underlying5 underlying9 (fun j hj=>?_);have an:(⟨g,0,none⟩:Addr).add j=⟨g,j,none⟩:=by unfold Addr.add;split<;>simp_all
  rw[an,cell_of_block hg];have:(ai.toList.take (l.length*1))[j]?=(bV l l.length)[j]?:=by rw[h4]
  rw[dg (by omega),bQ] at this;rw[this]
  simp[bV,FN,List.getD_eq_getElem?_getD,hj]
theorem EP(h:jm w B v (FK l))(hl:l.length<=1000):
 Cb 94 #[v] w (.tuple #[SV l,Xi 0]):=by
 have hm:=fun W=>xD l.length W (by omega);rw[<-te l hl] at hm;have a6:=fun W=>xE l W hl;have ap:=JR l;have a3:∃r,FK l=l.length::r:=⟨_,rfl⟩;obtain⟨i0,hi,a8,a9,a'⟩:=info_parts BD;have h':=h;obtain⟨G,c,rfl,hB,hc⟩:=h;obtain⟨n,hn⟩:=Ii l.length;obtain⟨m,an⟩:=Ii (FK l).length;have c0:w.cell? ⟨G,0,none⟩=some (Xu n):=by
  have:=hc 0 (by omega);obtain⟨r,hr⟩:=a3;rw[this]
  simp[hr,hn]
 have a2:∀i,i<n->w.cell? ⟨G,1+i / 8,none⟩=some (Xu (cell l (i / 8) 8:Nat)):=fun i hi=>by
  have h1:=xY l i (by omega);obtain⟨h2,h3⟩:=aq.1 h1;rw[hc _ h2,h3]
 rw[an,hn] at hm;rw[an] at ap;rw[hn] at ap hl;have bc:((m:Int)==0)=false:=by simp;omega
 have bj:(n:Int)<=1000:=by omega
 have bf:m<=200:=by omega
 have bd:(0:Int)<m:=by omega
 have HG:=kq7 hm a6 h' hn an a2 ap;rw[an];clear hm a6 h' hn an a2 ap hB hc a3;go_enter func94,ntmps94;go_wp2_with fail;refine Jc (HG.a _) ?_;go_wp2_with fail
 go_loopw [4,5,32] (fun v _ i wr=>∃k:Nat,k<=n/\i=Xi k/\wr.ownsRow w.heap.size 5 1 v k (bV l k)/\Below w.heap.size w wr) (fun _ _ i _=>n-(intOf i).toNat)
 case atStart=>exact⟨0,by omega,rfl,⟨rfl,ab ⟨rfl,rfl⟩⟩,aa _ _⟩
 case round=>
  obtain⟨k,hk,rfl,hrow,hB⟩:=hrel
  by_cases hlt:k<n
  ·have bb:(k:Int)<n:=by omega
   have hG:G<w.heap.size:=by
    unfold World.cell? at c0
    split at c0
    ·rename_i ai;exact(gl ai)
    ·cases c0
   have a7:=(hB.cell (p:=⟨G,1+k / 8,none⟩) hG).trans (HG.f k hlt);have ad:=tW l (k / 8) (7-k % 8) (k % 8) (by omega);rw[show 8*(k / 8)+k % 8=k by omega] at ad;obtain⟨q,hq⟩:=Ii (k / 8);obtain⟨r,hr⟩:=Ii (k % 8);obtain⟨s,hs⟩:=Ii (8*(7-r));have bq:r<8:=by omega
   rw[hr,hs] at ad;rw[hq] at a7 ad;have bm:1+q<m:=by have:=HG.g;omega
   have bk:(k:Int) / 8=(q:Int):=by omega
   have bo:(k:Int) % 8=(r:Int):=by omega
   have bs:8*(7-(r:Int))=(s:Int):=by omega
   have hx:=cell_lt l q 8 Ih;generalize cell l q 8=x at*;have HI:=kq3 hrow hB ad;have bt:s<=56:=by omega
   clear hrow hB ad hq hr hs
   go_wp2_with (at_builtin;refine wpList_append_own_at _ rfl _ _ 226 rfl w.heap.size 5 i0 (.int .u8 0) 1 1 underlying226 hi a8 a9 a' rfl (by decide) _ _ _ rfl (HI.a.alloc _) ⟨wr.heap.size,0,none⟩ 1 1 [.int .u8 (FN l k:Nat)] rfl rfl ?c1 ?c2 ?c3 ?c4 ?c5 ?_)
   case c1=>
    rw[show ((x:Int) / 2^s % 256)=((FN l k:Nat):Int) by rw[<-HI.c];push_cast;rfl];exact cell_one_new _ _ _
   case c2=>simp[Value.oneCell']
   case c3=>unfold maxLen;omega
   case c4=>omega
   case c5=>have:=HI.b.size;simp;omega
   intro v' w1 hown hgrow _ hat;have ar:=HI.b.size;have a0:Below w.heap.size wr w1:=((aa _ wr).mono ar |>.alloc ar (.cells #[.int .u8 ((x:Int) / 2^s % 256)] 5)).grown hgrow (by simp;omega) (fun k e=>(HI.a.lt k e).1);have a1:bV l k++[.int .u8 (FN l k:Nat)]=bV l (k+1):=by simp[bV,List.range_succ]
   rw[a1] at hown;have HW:=kq2 hown (HI.b.trans a0);clear hown hgrow hat ar a0 a1;go_wp2_with fail;go_roundw
   case rel=>exact⟨k+1,by omega,by simp,HW.out⟩
   case measure=>simp[intOf];omega
  ·obtain rfl:k=n:=by omega
   have ba:(convert 226 9 u4).run prog wr=.ok (SV l) wr:=AB (by rw[HG.d];exact hrow);have HI:=If hB;clear hrow hB;go_wp2_with fail;refine(HG.b wr).mono ?_;rintro e w2 ⟨v2,rfl,a5,au⟩;have a4:=(HG.c.below HI.out).below au;have ai:=E8 a5 a4 (by rw[HG.e];omega);rw[HG.e] at ai;have HE:=kq2 ai (HI.out.trans (au.mono HI.out.size));clear a5 a4 au ai;go_wp2_with fail;refine HE.a.mono ?_;rintro e w3 ⟨rfl,q,rfl⟩;go_wp2_with fail;go_ret2;exact⟨rfl,HE.b.trans ⟨rfl,rfl,rfl,Nat.le_refl _,fun _ _=>rfl⟩⟩
theorem iz(h:Ig w ps S Y)(hi:Fv S)(hh:Nat)(hl:hh<2^64)(hg:(fz S hh).2≠8):
 Cb 51 #[PV ps,Xu hh] w (.tuple #[SV (fz S hh).1,Xi ((fz S hh).2:Nat)]):=by
 have ad:=fB h hi hh hl;obtain⟨R,hR⟩:=Ii (fz S hh);rw[hR] at hg⊢;unfold fz at hR;obtain⟨⟨n,er⟩,hn⟩:∃r,S.len hh=r:=⟨_,rfl⟩;rw[hn] at ad hR;simp only at ad
 cases er with
 | succ er=>
  have ai:R=([],er+1):=by rw[<-hR];rfl
  have a4:(((er+1:Nat):Int) !=0)=true:=by simp;omega
  obtain⟨g1,au⟩:=Ii (er+1);rw[au] at ad ai a4;have HG:=kq2 ad ai;clear ad hR ai au hg h hi hn;go_enter func51,ntmps51;go_wp2_with fail;refine Jc HG.a ?_;go_wp2_with fail;go_ret2;obtain rfl:=HG.b;exact⟨rfl,aa _ _⟩
 | zero=>
  cases ht:dZ (kM S hh) with
  | none=>
   rw[ht] at hR;exact absurd (by rw[<-hR];rfl) hg
  | some t=>
   have ai:R=(t,0):=by rw[<-hR,ht];rfl
   obtain⟨a3,a2⟩:=EM ht;have HG:=kq6 ad ai h hi a2 a3;clear ad hR ai hg h hi hn ht a2 a3;go_enter func51,ntmps51;go_wp2_with fail;refine Jc HG.a ?_;go_wp2_with fail;refine b8 (zB ps hh w) fun w1 hw1=>?_;have hb:Below w.heap.size w w1:=by rw[hw1];exact((aa _ w).alloc Ih _).alloc (by simp) _
   have a5:w1.heap.size=w.heap.size+2:=by rw[hw1];simp
   have k0:w1.cell? ⟨w.heap.size,0,none⟩=some (PV ps):=by
    have:w1.heap[w.heap.size]?=some (.cells #[PV ps] 26 (0,0)):=by rw[hw1,heap_alloc_old _ _ (by simp)];exact heap_alloc_new w _
    rw[cell_of_block this]
    rfl
   have k1:w1.cell? ⟨w.heap.size+1,0,none⟩=some (Xu hh):=by
    have h0:w1.heap[w.heap.size+1]?=some (.cells #[Xu hh] 61 (0,0)):=by
     have:=heap_alloc_new (w.alloc (Xh ps)) (Xf hh);rw[World.size_alloc] at this;rw[hw1];exact this
    rw[cell_of_block h0]
    rfl
   have an:=E9 (HG.c.below hb) HG.d hh hl w.heap.size (w.heap.size+1) ⟨by omega,k0⟩ ⟨by omega,k1⟩;rw[HG.e] at an;have ar:=AA (by omega) (enters_of func149 (by kernel_rfl) rfl) an;have HC:=kq2 ar hb;clear an ar hb a5 k0 k1 hw1;go_wp2_with fail;refine HC.a.mono ?_;rintro e w2 ⟨v,rfl,hrow,ap⟩;have a1:=Eb hrow (by unfold FK;simp);have a0:=EP a1 HG.f;have HO:=kq2 a0 (HC.b.trans (ap.mono HC.b.size));clear hrow ap a1 a0;go_wp2_with fail;refine b8 HO.a fun w3 hb3=>?_;have HB:=If (HO.b.trans (hb3.mono HO.b.size));clear hb3;go_wp2_with fail;go_ret2;obtain rfl:=HG.b;exact⟨rfl,HB.out⟩
theorem ud:∀(a b:List UInt8),Fu a b=Lib.compareBytes a b
 | [],[]=>rfl
 | [],_::_=>rfl
 | _::_,[]=>rfl
 | a::l,b::m=>by
  unfold Fu Lib.compareBytes;rw[ud l m]
theorem EA(a b:List UInt8)(w:World):
 Ct 135 #[SV a,SV b] w fun e w'=>e=.returned (Xi (Fu a b))/\w'=w:=by
 have hc:=bytealg_CompareString ⟨a.toArray⟩ ⟨b.toArray⟩ w;rw[ud];have HC:=If hc;clear hc;go_enter func135,ntmps135;go_wp2_with fail;refine Jc HC.out ?_;go_wp2_with fail;go_ret;exact⟨rfl,rfl⟩
theorem sT(a b:List UInt8)(w:World):
 Ct 88 #[SV a,SV b] w fun e w'=>e=.returned (Xi (Fu a b))/\w'=w:=by
 have HC:=If (EA a b w);go_enter func88,ntmps88;go_wp2_with fail;refine Jc HC.out ?_;go_wp2_with fail;go_ret;exact⟨rfl,rfl⟩
end
section
open Go.RowKit Tryz Go.BigFrame Go.Maps Go.WideMaps Lf
variable{S:St}{W:World}{Y:Nat->Prop}{b:Nat}{fr:Nat×Nat}{kind:Nat}{ps:Nat}{t:TypeId}{w:World}{z:Nat}
def eS(n:Nd):Value:=.agg #[Xu n.key,Xu n.val,Xu n.left,Xu n.right,Xu n.mark,Xu n.size]
structure ji (n:Nd):Prop where
 key:n.key<2^64
 val:n.val<2^64
 left:n.left<2^64
 right:n.right<2^64
 mark:n.mark<2^64
 size:n.size<2^64
theorem qJeab{P:Prop}(h:P:=by
 go_enter func122,ntmps122;go_wp2_with fail;refine Jc HG.a ?_;go_wp2_with fail;go_ret;obtain rfl:=HG.b;exact⟨rfl,rfl⟩):P:=h
theorem oG(h:Ig w ps S Y)(hi:Fv S)(hh:Nat)(hl:hh<2^64):
 Ct 122 #[PV ps,Xu hh] w fun e w'=>e=.returned (Xi (fZ S hh:Nat))/\w=w':=by
 have ai:=fB h hi hh hl;obtain⟨R,hR⟩:=Ii (fZ S hh);rw[hR];unfold fZ at hR;obtain⟨⟨n,er⟩,hn⟩:∃r,S.len hh=r:=⟨_,rfl⟩;rw[hn] at ai hR;simp only at ai
 cases er with
 | succ er=>
  have ad:R=er+1:=by rw[<-hR];rfl
  have ap:(((er+1:Nat):Int)==0)=false:=by simp;omega
  obtain⟨g1,an⟩:=Ii (er+1);rw[an] at ai ad ap;have HG:=kq2 ai ad;clear ai hR ad an h hi hn;exact qJeab
 | zero=>
  by_cases h6:n=6
  ·have ad:R=0:=by rw[<-hR,h6];rfl
   subst h6;have HG:=kq2 ai ad;clear ai hR ad h hi hn;exact qJeab
  ·have ad:R=8:=by rw[<-hR];show (if n≠6 then 8 else 0)=8;rw[if_pos h6]
   have ap:((n:Int) !=6)=true:=by simp;omega
   have HG:=kq2 ai ad;clear ai hR ad h hi hn h6;exact qJeab
theorem Dj(n:Nd)(w:World):
 Cb 216 #[eS n] w (eS n):=by
 obtain⟨k,v,l,r,m,s⟩:=n;unfold eS;simp only;have hb:∀o o',Below w.heap.size w ((w.alloc o).alloc o'):=fun o o'=>((aa _ w).alloc Ih o).alloc (by simp) o';have HB:=If hb;clear hb;go_enter func216,ntmps216;go_wp2_with fail;refine bodyPost_ret (v:=.agg #[Xu k,Xu v,Xu l,Xu r,Xu m,Xu s]) (by simp[results,f216,go_sem]) rfl ⟨rfl,HB.out _ _⟩
def ke(S:St)(hh k:Nat):List Value:=(List.range 6).map fun i=>Xu (if i<k then((S.get hh i).1:Nat) else(0:Nat))
theorem iO(h:Ig w ps S Y)(hi:Fv S)(hh:Nat)(hl:hh<2^64):
 Cb 76 #[PV ps,Xu hh] w (.tuple #[eS (getNode S hh).1,Xi ((getNode S hh).2:Nat)]):=by
 have ai:Below w.heap.size w (w.alloc (.cells #[Xu 0,Xu 0,Xu 0,Xu 0,Xu 0,Xu 0] 139)):=(aa _ w).alloc Ih _;have has:=oG (h.below ai) hi hh hl;have ap:=fun W (hW:Below w.heap.size w W) (k:Nat) (hk:k<=6)=>sG (h.below hW) hi hh k hl (by omega);obtain⟨R,hR⟩:=Ii (getNode S hh);rw[hR];unfold getNode at hR;obtain⟨a,ha⟩:=Ii (fZ S hh);rw[ha] at has hR
 cases a with
 | succ a=>
  have ad:R=(Nd.zero,a+1):=by rw[<-hR];rfl
  have a7:(((a+1:Nat):Int) !=0)=true:=by simp;omega
  obtain⟨g1,au⟩:=Ii (a+1);rw[au] at has ad a7;have HG:=kq3 has ad ai;clear has hR ad au h hi ha ap ai;go_enter func76,ntmps76;go_wp2_with fail;refine Jc HG.a ?_;go_wp2_with fail;obtain rfl:=HG.b;refine bodyPost_ret (v:=.tuple #[eS Nd.zero,Xi g1]) (by simp[results,f76,go_sem,eS,Nd.zero]) rfl ⟨rfl,(aa _ w).alloc Ih _⟩
 | zero=>
  have ad:R=(⟨(S.get hh 0).1,(S.get hh 1).1,(S.get hh 2).1,(S.get hh 3).1,(S.get hh 4).1,(S.get hh 5).1⟩,0):=by rw[<-hR];rfl
  have HG:=kq4 has ad ai ap;clear has hR ad h hi ha ap ai;go_enter func76,ntmps76;go_wp2_with fail;refine Jc HG.a ?_;go_wp2_with fail;have hA:∀k,ke S hh k=[Xu (if 0<k then((S.get hh 0).1:Nat) else(0:Nat)),Xu (if 1<k then((S.get hh 1).1:Nat) else(0:Nat)),Xu (if 2<k then((S.get hh 2).1:Nat) else(0:Nat)),Xu (if 3<k then((S.get hh 3).1:Nat) else(0:Nat)),Xu (if 4<k then((S.get hh 4).1:Nat) else(0:Nat)),Xu (if 5<k then((S.get hh 5).1:Nat) else(0:Nat))]:=fun k=>rfl;have a6:∀k,k<6->(ke S hh k).toArray.setIfInBounds k (Xu ((S.get hh k).1:Nat))=(ke S hh (k+1)).toArray:=fun k hk=>by
   apply Array.toList_inj.1;simp only[cR];apply dB (by simp[ke]);intro n h1 h2;simp only[ke,List.getElem_set,bI,dG]
   by_cases e:k=n
   ·subst e
    simp
   ·rw[if_neg e]
    by_cases e2:n<k
    ·rw[if_pos e2,if_pos (by omega)]
    ·rw[if_neg e2,if_neg (by omega)]
  go_name_world W0 HW0
  have q1:W0.heap[w.heap.size+1]?=some (.cells (ke S hh 0).toArray 212 (0,0)):=by
   rw[<-HW0];have:=heap_alloc_new (w.alloc (.cells #[Xu 0,Xu 0,Xu 0,Xu 0,Xu 0,Xu 0] 139)) (.cells #[Xu 0,Xu 0,Xu 0,Xu 0,Xu 0,Xu 0] 212);rw[World.size_alloc] at this;exact this
  have q0:W0.heap[w.heap.size]?=some (.cells #[Xu 0,Xu 0,Xu 0,Xu 0,Xu 0,Xu 0] 139 (0,0)):=by
   rw[<-HW0,heap_alloc_old _ _ (by simp)];exact heap_alloc_new w _
  have qb:Below w.heap.size w W0:=by rw[<-HW0];exact HG.c.alloc (by simp) _
  clear HW0;have H0:=kq5 q1 q0 qb hA a6;clear q1 q0 qb hA a6
  go_loopw [8,16] (fun _ i wr=>∃k:Nat,k<=6/\i=Xi k/\wr.heap[w.heap.size+1]?=some (.cells (ke S hh k).toArray 212 (0,0))/\wr.heap[w.heap.size]?=some (.cells #[Xu 0,Xu 0,Xu 0,Xu 0,Xu 0,Xu 0] 139 (0,0))/\Below w.heap.size w wr) (fun _ i _=>6-(intOf i).toNat)
  case atStart=>exact⟨0,by omega,rfl,H0.a,H0.b,H0.c⟩
  case round=>
   obtain⟨k,hk,rfl,r1,r0,rb⟩:=hrel
   by_cases hlt:k<6
   ·have a8:(k:Int)<6:=by omega
    have an:=HG.d wr rb k hk;have c1:∃v,wr.cell? ⟨w.heap.size+1,k,none⟩=some v:=by
     rw[cell_of_block r1];refine⟨(ke S hh k)[k]'(by simp[ke];omega),?_⟩;rw[bG,af]
    obtain⟨v0,c1⟩:=c1;have f1:wr.frozen? ⟨w.heap.size+1,k,none⟩=false:=AT r1;have ar:=H0.e k hlt;generalize (S.get hh k).1=x at an ar;generalize (S.get hh k).2=er at an;have HK:=kq5 an r1 r0 rb ar;clear an r1 r0 rb ar;go_wp2_with fail;refine Jc HK.a ?_;go_wp2_with fail;go_roundw
    case rel=>
     refine⟨k+1,by omega,by simp,?_,?_,HK.d.setCell (p:=⟨w.heap.size+1,k,none⟩) (by simp) _⟩
     ·rw[heap_setCell HK.b,HK.e]
     ·rw[FB (by omega)];exact HK.c
    case measure=>simp[intOf];omega
   ·obtain rfl:k=6:=by omega
    have hA:=H0.d 6;simp only[show (0:Nat)<6 from by decide,show (1:Nat)<6 from by decide,show (2:Nat)<6 from by decide,show (3:Nat)<6 from by decide,show (4:Nat)<6 from by decide,show (5:Nat)<6 from by decide,if_true] at hA;rw[hA] at r1;have g0:=HG.b;generalize (S.get hh 0).1=x0 at r1 g0;generalize (S.get hh 1).1=x1 at r1 g0;generalize (S.get hh 2).1=x2 at r1 g0;generalize (S.get hh 3).1=x3 at r1 g0;generalize (S.get hh 4).1=x4 at r1 g0;generalize (S.get hh 5).1=x5 at r1 g0;have a0:wr.cell? ⟨w.heap.size+1,0,none⟩=some (Xu x0):=by rw[cell_of_block r1];rfl
    have a1:wr.cell? ⟨w.heap.size+1,1,none⟩=some (Xu x1):=by rw[cell_of_block r1];rfl
    have a2:wr.cell? ⟨w.heap.size+1,2,none⟩=some (Xu x2):=by rw[cell_of_block r1];rfl
    have a3:wr.cell? ⟨w.heap.size+1,3,none⟩=some (Xu x3):=by rw[cell_of_block r1];rfl
    have a4:wr.cell? ⟨w.heap.size+1,4,none⟩=some (Xu x4):=by rw[cell_of_block r1];rfl
    have a5:wr.cell? ⟨w.heap.size+1,5,none⟩=some (Xu x5):=by rw[cell_of_block r1];rfl
    have b0:wr.cell? ⟨w.heap.size,0,none⟩=some (Xu 0):=by rw[cell_of_block r0];rfl
    have b1:wr.cell? ⟨w.heap.size,1,none⟩=some (Xu 0):=by rw[cell_of_block r0];rfl
    have b2:wr.cell? ⟨w.heap.size,2,none⟩=some (Xu 0):=by rw[cell_of_block r0];rfl
    have b3:wr.cell? ⟨w.heap.size,3,none⟩=some (Xu 0):=by rw[cell_of_block r0];rfl
    have b4:wr.cell? ⟨w.heap.size,4,none⟩=some (Xu 0):=by rw[cell_of_block r0];rfl
    have b5:wr.cell? ⟨w.heap.size,5,none⟩=some (Xu 0):=by rw[cell_of_block r0];rfl
    have bf:∀o,wr.frozen? ⟨w.heap.size,o,none⟩=false:=fun o=>AT r0;have f0:=bf 0;have f1:=bf 1;have f2:=bf 2;have f3:=bf 3;have f4:=bf 4;have f5:=bf 5;have HK:=kq4 r1 r0 rb g0;clear r1 r0 rb g0 hA bf;go_wp2_with fail;have hX:((((((wr.setCell ⟨w.heap.size,0,none⟩ (Xu x0)).setCell ⟨w.heap.size,1,none⟩ (Xu x1)).setCell ⟨w.heap.size,2,none⟩ (Xu x2)).setCell ⟨w.heap.size,3,none⟩ (Xu x3)).setCell ⟨w.heap.size,4,none⟩ (Xu x4)).setCell ⟨w.heap.size,5,none⟩ (Xu x5)).heap[w.heap.size]?=some (.cells #[Xu x0,Xu x1,Xu x2,Xu x3,Xu x4,Xu x5] 139 (0,0)):=by
     rw[heap_setCell (heap_setCell (heap_setCell (heap_setCell (heap_setCell (heap_setCell HK.b)))))]
     rfl
    have hY:Below w.heap.size w ((((((wr.setCell ⟨w.heap.size,0,none⟩ (Xu x0)).setCell ⟨w.heap.size,1,none⟩ (Xu x1)).setCell ⟨w.heap.size,2,none⟩ (Xu x2)).setCell ⟨w.heap.size,3,none⟩ (Xu x3)).setCell ⟨w.heap.size,4,none⟩ (Xu x4)).setCell ⟨w.heap.size,5,none⟩ (Xu x5)):=
     (((((HK.c.setCell (p:=⟨w.heap.size,0,none⟩) (Nat.le_refl w.heap.size) _).setCell (p:=⟨w.heap.size,1,none⟩) (Nat.le_refl w.heap.size) _).setCell (p:=⟨w.heap.size,2,none⟩) (Nat.le_refl w.heap.size) _).setCell (p:=⟨w.heap.size,3,none⟩) (Nat.le_refl w.heap.size) _).setCell (p:=⟨w.heap.size,4,none⟩) (Nat.le_refl w.heap.size) _).setCell (p:=⟨w.heap.size,5,none⟩) (Nat.le_refl w.heap.size) _
    generalize ((((((wr.setCell ⟨w.heap.size,0,none⟩ (Xu x0)).setCell ⟨w.heap.size,1,none⟩ (Xu x1)).setCell ⟨w.heap.size,2,none⟩ (Xu x2)).setCell ⟨w.heap.size,3,none⟩ (Xu x3)).setCell ⟨w.heap.size,4,none⟩ (Xu x4)).setCell ⟨w.heap.size,5,none⟩ (Xu x5))=W9 at*;have e0:W9.cell? ⟨w.heap.size,0,none⟩=some (Xu x0):=by rw[cell_of_block hX];rfl
    have e1:W9.cell? ⟨w.heap.size,1,none⟩=some (Xu x1):=by rw[cell_of_block hX];rfl
    have e2:W9.cell? ⟨w.heap.size,2,none⟩=some (Xu x2):=by rw[cell_of_block hX];rfl
    have e3:W9.cell? ⟨w.heap.size,3,none⟩=some (Xu x3):=by rw[cell_of_block hX];rfl
    have e4:W9.cell? ⟨w.heap.size,4,none⟩=some (Xu x4):=by rw[cell_of_block hX];rfl
    have e5:W9.cell? ⟨w.heap.size,5,none⟩=some (Xu x5):=by rw[cell_of_block hX];rfl
    obtain rfl:=HK.d;exact bodyPost_ret (v:=.tuple #[.agg #[Xu x0,Xu x1,Xu x2,Xu x3,Xu x4,Xu x5],Xi 0]) (by simp[results,f76,go_sem,e0,e1,e2,e3,e4,e5]) rfl ⟨rfl,hY⟩
theorem vT(h:Ig w ps S Y)(hi:Fv S)(hh:Nat)(hl:hh<2^64)(ha:fZ S hh≠0):
 Ct 145 #[PV ps,Xu hh] w fun e w'=>e=.returned (Xi (fZ S hh:Nat))/\w=w':=by
 have has:=oG h hi hh hl;generalize fZ S hh=a at*;have ad:((a:Int) !=0)=true:=by simp;omega
 have HG:=If has;clear has ha h hi;go_enter func145,ntmps145;go_wp2_with fail;refine Jc HG.out ?_;go_wp2_with fail;go_ret;exact⟨rfl,rfl⟩
def vR(n:Nd):List Nat:=[n.key,n.val,n.left,n.right,n.mark,n.size]
def jh(ps hh:Nat)(n:Nd)(Y:Nat->Prop)(w2:World)(F:St)(k:Nat)(wr:World):Prop:=∃Sk,Ig wr ps Sk Y/\Fv Sk/\FC Sk hh k ((vR n).drop k)=F/\Fo Y w2 wr
theorem jh.step{ps hh:Nat}{n:Nd}{w2:World}{F:St}{k:Nat}{wr:World}(h:jh ps hh n Y w2 F k wr)(hl:hh<2^64)(x:Nat)(hx:x<2^64)(hk:k<6)(hxk:(vR n)[k]?=some x):
 Ct 167 #[PV ps,Xu hh,Xi k,Xu x] wr fun e w'=>∃er:Int,e=.returned (Xi er)/\jh ps hh n Y w2 F (k+1) w':=by
 obtain⟨Sk,h1,h2,h3,h4⟩:=h;refine(KK h1 h2 hh k x hl (by omega) hx).mono ?_;rintro e w' ⟨rfl,h5,h6⟩;obtain⟨hlt,hv⟩:=aq.1 hxk;rw[bM hlt,hv] at h3;exact⟨_,rfl,_,h5,h2.put hh k x,h3,h4.trans h6⟩
theorem lS(a0 a1 a2 a3 a4 a5:Value)(w:World):
 (Instr.index 212 (.agg #[a0,a1,a2,a3,a4,a5]) (Xi 0)).run prog w=.ok a0 w/\
 (Instr.index 212 (.agg #[a0,a1,a2,a3,a4,a5]) (Xi 1)).run prog w=.ok a1 w/\
 (Instr.index 212 (.agg #[a0,a1,a2,a3,a4,a5]) (Xi 2)).run prog w=.ok a2 w/\
 (Instr.index 212 (.agg #[a0,a1,a2,a3,a4,a5]) (Xi 3)).run prog w=.ok a3 w/\
 (Instr.index 212 (.agg #[a0,a1,a2,a3,a4,a5]) (Xi 4)).run prog w=.ok a4 w/\
 (Instr.index 212 (.agg #[a0,a1,a2,a3,a4,a5]) (Xi 5)).run prog w=.ok a5 w:=by
 refine⟨?_,?_,?_,?_,?_,?_⟩<;>kernel_rfl
theorem rM(h:Ig w ps S Y)(hi:Fv S)(hh:Nat)(hl:hh<2^64)(n:Nd)(hn:ji n):
 Ct 183 #[PV ps,Xu hh,eS n] w fun e w'=>e=.returned (Xi ((gM S hh n).1:Nat))/\Ig w' ps (gM S hh n).2 Y/\Fo Y w w':=by
 have hY:=h.yl;obtain⟨R,hR⟩:=Ii (gM S hh n);rw[hR];unfold gM at hR;have hf:=fun W=>Dj n W;have hP:∀{F:St} {w2:World},True:=trivial;obtain⟨k0,k1,k2,k3,k4,k5⟩:=n;obtain⟨l0,l1,l2,l3,l4,l5⟩:=hn;simp only at l0 l1 l2 l3 l4 l5;unfold eS at hf⊢;simp only at hf⊢;have ai:Below w.heap.size w (w.alloc (Xb k0 k1 k2 k3 k4 k5)):=(aa _ w).alloc Ih _;have has:=oG (h.below ai) hi hh hl;obtain⟨a,ha⟩:=Ii (fZ S hh);rw[ha] at has hR
 cases a with
 | succ a=>
  have ad:R=(a+1,S):=by rw[<-hR];rfl
  have au:(((a+1:Nat):Int) !=0)=true:=by simp;omega
  obtain⟨g1,ar⟩:=Ii (a+1);rw[ar] at has ad au;have HG:=kq4 has ad ai h;clear has hR ad ar h hi ha hf ai hY;go_enter func183,ntmps183;go_wp2_with fail;refine Jc HG.a ?_;go_wp2_with fail;go_ret;obtain rfl:=HG.b;exact⟨rfl,HG.d.below HG.c,HG.d.keep HG.c⟩
 | zero=>
  have ad:R=(0,FC S hh 0 [k0,k1,k2,k3,k4,k5]):=by rw[<-hR];rfl
  have HG:=kq6 has ad ai h hi hf;clear has hR ad h hi ha hf ai hY;go_enter func183,ntmps183;go_wp2_with fail;refine Jc HG.a ?_;go_wp2_with fail;refine b8 (HG.f _) fun w2 hb2=>?_;have ap:=HG.c.trans (hb2.mono HG.c.size);have H0:jh ps hh ⟨k0,k1,k2,k3,k4,k5⟩ Y w2 R.2 0 w2:=⟨S,HG.d.below ap,HG.e,by rw[HG.b];rfl,Fo.refl _ _⟩;have HB:=If ap;clear ap hb2;go_wp2_with fail
  go_loopw [8,9,18] (fun _ _ i wr=>(i=Xi 0/\jh ps hh ⟨k0,k1,k2,k3,k4,k5⟩ Y w2 R.2 0 wr)\/(i=Xi 1/\jh ps hh ⟨k0,k1,k2,k3,k4,k5⟩ Y w2 R.2 1 wr)\/(i=Xi 2/\jh ps hh ⟨k0,k1,k2,k3,k4,k5⟩ Y w2 R.2 2 wr)\/(i=Xi 3/\jh ps hh ⟨k0,k1,k2,k3,k4,k5⟩ Y w2 R.2 3 wr)\/(i=Xi 4/\jh ps hh ⟨k0,k1,k2,k3,k4,k5⟩ Y w2 R.2 4 wr)\/(i=Xi 5/\jh ps hh ⟨k0,k1,k2,k3,k4,k5⟩ Y w2 R.2 5 wr)\/(i=Xi 6/\jh ps hh ⟨k0,k1,k2,k3,k4,k5⟩ Y w2 R.2 6 wr)) (fun _ _ i _=>6-(intOf i).toNat)
  case atStart=>exact ab ⟨rfl,H0⟩
  case round=>
   rcases hrel with⟨rfl,hP⟩ | ⟨rfl,hP⟩ | ⟨rfl,hP⟩ | ⟨rfl,hP⟩ | ⟨rfl,hP⟩ | ⟨rfl,hP⟩ | ⟨rfl,hP⟩
   ·have HS:=If (hP.step hl k0 l0 (by decide) rfl);have an:=fun w=>(lS (Xu k0) (Xu k1) (Xu k2) (Xu k3) (Xu k4) (Xu k5) w).1;clear hP H0;go_wp2_with fail;refine HS.out.mono ?_;rintro e w3 ⟨er,rfl,hP⟩;go_wp2_with fail;go_roundw
    case rel=>exact ae (ab ⟨rfl,hP⟩)
    case measure=>simp[intOf]
   ·have HS:=If (hP.step hl k1 l1 (by decide) rfl);have an:=fun w=>(lS (Xu k0) (Xu k1) (Xu k2) (Xu k3) (Xu k4) (Xu k5) w).2.1;clear hP H0;go_wp2_with fail;refine HS.out.mono ?_;rintro e w3 ⟨er,rfl,hP⟩;go_wp2_with fail;go_roundw
    case rel=>exact ae (ae (ab ⟨rfl,hP⟩))
    case measure=>simp[intOf]
   ·have HS:=If (hP.step hl k2 l2 (by decide) rfl);have an:=fun w=>(lS (Xu k0) (Xu k1) (Xu k2) (Xu k3) (Xu k4) (Xu k5) w).2.2.1;clear hP H0;go_wp2_with fail;refine HS.out.mono ?_;rintro e w3 ⟨er,rfl,hP⟩;go_wp2_with fail;go_roundw
    case rel=>exact ae (ae (ae (ab ⟨rfl,hP⟩)))
    case measure=>simp[intOf]
   ·have HS:=If (hP.step hl k3 l3 (by decide) rfl);have an:=fun w=>(lS (Xu k0) (Xu k1) (Xu k2) (Xu k3) (Xu k4) (Xu k5) w).2.2.2.1;clear hP H0;go_wp2_with fail;refine HS.out.mono ?_;rintro e w3 ⟨er,rfl,hP⟩;go_wp2_with fail;go_roundw
    case rel=>exact ae (ae (ae (ae (ab ⟨rfl,hP⟩))))
    case measure=>simp[intOf]
   ·have HS:=If (hP.step hl k4 l4 (by decide) rfl);have an:=fun w=>(lS (Xu k0) (Xu k1) (Xu k2) (Xu k3) (Xu k4) (Xu k5) w).2.2.2.2.1;clear hP H0;go_wp2_with fail;refine HS.out.mono ?_;rintro e w3 ⟨er,rfl,hP⟩;go_wp2_with fail;go_roundw
    case rel=>exact ae (ae (ae (ae (ae (ab ⟨rfl,hP⟩)))))
    case measure=>simp[intOf]
   ·have HS:=If (hP.step hl k5 l5 (by decide) rfl);have an:=fun w=>(lS (Xu k0) (Xu k1) (Xu k2) (Xu k3) (Xu k4) (Xu k5) w).2.2.2.2.2;clear hP H0;go_wp2_with fail;refine HS.out.mono ?_;rintro e w3 ⟨er,rfl,hP⟩;go_wp2_with fail;go_roundw
    case rel=>exact ae (ae (ae (ae (ae (ae ⟨rfl,hP⟩)))))
    case measure=>simp[intOf]
   ·have HP:=If hP;clear hP H0;go_wp2_with fail;go_ret;obtain⟨Sk,h1,h2,h3,h4⟩:=HP.out;have e1:R.1=0:=by rw[HG.b]
    have e2:Sk=R.2:=h3;rw[e1,<-e2];exact⟨rfl,h1,(Fo.of_below HB.out HG.d.yl).trans h4⟩
theorem vU(h:Ig w ps S Y)(hm:iw S 6)(n:Nd)(hn:ji n):
 Ct 140 #[PV ps,eS n] w fun e w'=>e=.returned (.tuple #[Xu ((ga S n).1.1:Nat),Xi ((ga S n).1.2:Nat)])/\Ig w' ps (ga S n).2 Y/\Fo Y w w':=by
 have an:=fun W (hW:Below w.heap.size w W)=>sH (h.wide hW) 6 (by omega) hm.1;have a8:=oA h.tabwf 6;have ai:=hm.2;obtain⟨R,hR⟩:=Ii (ga S n);rw[hR];unfold ga at hR;obtain⟨⟨⟨hh,er⟩,S1⟩,hS⟩:∃r,S.make 6=r:=⟨_,rfl⟩;rw[hS] at an a8 ai hR;simp only at an a8 ai;have ap:=fun W Z (hW:Ig W ps S1 Z)=>rM hW ai hh a8 n hn;obtain⟨k0,k1,k2,k3,k4,k5⟩:=n;unfold eS at ap⊢;simp only at ap⊢;have a6:Below w.heap.size w (w.alloc (Xb k0 k1 k2 k3 k4 k5)):=(aa _ w).alloc Ih _;have kx:=heap_alloc_new w (Xb k0 k1 k2 k3 k4 k5);have HG:=kq6 (an _ a6) hR a6 h ap kx;clear an hR a6 hm ai hS hn ap kx;go_enter func140,ntmps140;go_wp2_with fail;refine HG.a.mono ?_;rintro e w1 ⟨rfl,h1,a9⟩;have hx:w1.heap[w.heap.size]?=some (.cells #[Xu k0,Xu k1,Xu k2,Xu k3,Xu k4,Xu k5] 139 (0,0)):=(a9.block _ (ae ⟨Nat.le_refl _,by simp⟩)).trans HG.f;have a0:w1.cell? ⟨w.heap.size,0,none⟩=some (Xu k0):=by rw[cell_of_block hx];rfl
 have a1:w1.cell? ⟨w.heap.size,1,none⟩=some (Xu k1):=by rw[cell_of_block hx];rfl
 have a2:w1.cell? ⟨w.heap.size,2,none⟩=some (Xu k2):=by rw[cell_of_block hx];rfl
 have a3:w1.cell? ⟨w.heap.size,3,none⟩=some (Xu k3):=by rw[cell_of_block hx];rfl
 have a4:w1.cell? ⟨w.heap.size,4,none⟩=some (Xu k4):=by rw[cell_of_block hx];rfl
 have a5:w1.cell? ⟨w.heap.size,5,none⟩=some (Xu k5):=by rw[cell_of_block hx];rfl
 have au:=h1.mono (Z:=Y) fun k hk=>ab hk;have a':=(Fo.of_below HG.c h.yl).trans (a9.mono (Z:=Y) fun k hk=>ab hk);have H1:=kq3 au a' (HG.e w1 Y au);clear h1 a9 hx au a' h
 cases er with
 | succ er=>
  have ad:R=((0,er+1),S1):=by rw[<-HG.b];rfl
  have bb:(((er+1:Nat):Int) !=0)=true:=by simp;omega
  obtain⟨g1,a7⟩:=Ii (er+1);rw[a7] at ad bb;simp only[a7];have ar:=If ad;clear ad a7;go_wp2_with fail;go_ret2;obtain rfl:=ar.out;exact⟨rfl,H1.a,H1.b⟩
 | zero=>
  have ad:R=((hh,(gM S1 hh ⟨k0,k1,k2,k3,k4,k5⟩).1),(gM S1 hh ⟨k0,k1,k2,k3,k4,k5⟩).2):=by rw[<-HG.b];rfl
  have ar:=If ad;clear ad;go_wp2_with fail;refine H1.c.mono ?_;rintro e w2 ⟨rfl,h2,ba⟩;have H2:=kq2 h2 (H1.b.trans ba);clear h2 ba;go_wp2_with fail;go_ret2;obtain rfl:=ar.out;exact⟨rfl,H2.out⟩
theorem fs(h:Ig w ps S Y)(hh:Nat):ji (getNode S hh).1:=by
 have g:=fun k=>uC h hh k;unfold getNode
 split
 ·exact⟨g 0,g 1,g 2,g 3,g 4,g 5⟩
 ·have z:0<2^64:=by decide
  exact⟨z,z,z,z,z,z⟩
theorem num_some{x y:Nat}(h:num x=some y):y=x/\x<2^62:=by
 unfold num at h
 split at h
 ·rename_i hx
  injection h with h;exact⟨h.symm,by omega⟩
 ·cases h
theorem nB(h:Ig w ps S Y):S.words<=262144:=by
 obtain⟨_,_,_,_,_,h⟩:=h;have:=h.heap.wf.room;have:=h.heap.wf.quota;unfold St.words;omega
theorem sX(h:Ig w ps S Y):
 Cb 162 #[PV ps] w (Xi (limit S:Nat)):=by
 have hw:=xo h;have ad:=nB h;unfold limit;generalize S.words=m at*;have HG:=If hw;clear hw h;go_enter func162,ntmps162;go_wp2_with fail;refine b8 HG.out fun w1 hb=>?_;have HB:=If hb;clear hb;go_wp2_with fail;go_ret;exact⟨by simp,HB.out⟩
theorem qJeac{P:Prop}(h:P:=by
 clear hb;go_wp2_with fail;go_ret;exact⟨rfl,HB.out⟩):P:=h
theorem EZ(h:Ig w ps S Y)(hi:Fv S)(n:Nd)(hn:n.key<2^64){t:List UInt8}(ht:gD S n.key=some t):
 Cb 314 #[PV ps,eS n] w (SV t):=by
 unfold gD at ht
 split at ht
 ·cases ht
 ·rename_i h8
  injection ht with ht
  obtain⟨k0,k1,k2,k3,k4,k5⟩:=n;simp only at hn ht h8;have ad:Below w.heap.size w (w.alloc (Xb k0 k1 k2 k3 k4 k5)):=(aa _ w).alloc Ih _;have hg:=iz (h.below ad) hi k0 hn h8;rw[ht] at hg;generalize (fz S k0).2=er at*;unfold eS;simp only;have HG:=kq2 hg ad;clear hg ad h hi ht h8;go_enter func314,ntmps314;go_wp2_with fail;refine b8 HG.a fun w1 hb=>?_;have HB:=If (HG.b.trans (hb.mono HG.b.size));exact qJeac
theorem qJeag{P:Prop}(h:P:=by
 unfold getNode at he⊢
 split
 ·rename_i e;rw[e] at he;exact absurd rfl he
 ·rfl):P:=h
theorem qJeaf{P:Prop}(h:P:=by
 go_wp2_with fail;refine b8 HG.out fun w1 hb=>?_;have HB:=If (hb.alloc hb.size (Xb k0 k1 k2 k3 k4 k5));exact qJeac):P:=h
theorem qJead{P:Prop}(h:P:=by
 go_wp2_with fail;refine b8 HG.out fun w1 hb=>?_;have HB:=If (hb.alloc hb.size (.cells #[Xu 0,Xu 0,Xu 0,Xu 0,Xu 0,Xu 0] 139));exact qJeac):P:=h
theorem kP(h:Ig w ps S Y)(hi:Fv S)(hh:Nat)(hl:hh<2^64)(hz:fY S hh=some z):
 Cb 224 #[PV ps,Xu hh] w (Xi z):=by
 have hg:=iO h hi hh hl;unfold fY sj at hz;obtain⟨rfl,an⟩:=num_some hz;clear hz;have ad:(getNode S hh).2≠0->(getNode S hh).1=Nd.zero:=fun he=>by
  exact qJeag
 obtain⟨⟨⟨k0,k1,k2,k3,k4,k5⟩,er⟩,hE⟩:∃r,getNode S hh=r:=⟨_,rfl⟩;rw[hE] at hg an ad⊢;simp only at hg an ad⊢;unfold eS at hg;simp only at hg
 cases er with
 | succ er=>
  have h0:=ad (by omega)
  injection h0 with h0 h1 h2 h3 h4 h5
  subst h0 h1 h2 h3 h4 h5;have ap:(((er+1:Nat):Int) !=0)=true:=by simp;omega
  obtain⟨g1,ai⟩:=Ii (er+1);rw[ai] at hg ap;have HG:=If hg;clear hg h hi hE ad ai;go_enter func224,ntmps224;exact qJead
 | zero=>
  have HG:=If hg;clear hg h hi hE ad;go_enter func224,ntmps224;exact qJeaf
theorem fJ(h:Ig w ps S Y)(hi:Fv S)(hh:Nat)(hl:hh<2^64)(hz:eE S hh=some z):
 Cb 217 #[PV ps,Xu hh] w (Xi z):=by
 have hg:=iO h hi hh hl;unfold eE mU at hz;obtain⟨rfl,an⟩:=num_some hz;clear hz;have ad:(getNode S hh).2≠0->(getNode S hh).1=Nd.zero:=fun he=>by
  exact qJeag
 obtain⟨⟨⟨k0,k1,k2,k3,k4,k5⟩,er⟩,hE⟩:∃r,getNode S hh=r:=⟨_,rfl⟩;rw[hE] at hg an ad⊢;simp only at hg an ad⊢;unfold eS at hg;simp only at hg
 cases er with
 | succ er=>
  have h0:=ad (by omega)
  injection h0 with h0 h1 h2 h3 h4 h5
  subst h0 h1 h2 h3 h4 h5;have ap:(((er+1:Nat):Int) !=0)=true:=by simp;omega
  obtain⟨g1,ai⟩:=Ii (er+1);rw[ai] at hg ap;have HG:=If hg;clear hg h hi hE ad ai;go_enter func217,ntmps217;exact qJead
 | zero=>
  have HG:=If hg;clear hg h hi hE ad;go_enter func217,ntmps217;exact qJeaf
theorem qJeae{P:Prop}(h:P:=by
 go_wp2_with fail;go_ret2;obtain rfl:=HE.a;exact⟨rfl,HE.b⟩):P:=h
theorem xT(h:Ig w ps S Y)(hi:Fv S)(root:Nat)(hl:root<2^64)(k:List UInt8){R:Nat×Nat}(hR:ij S k (limit S) root 0=some R):
 Cb 311 #[PV ps,Xu root,SV k] w (.tuple #[Xu R.1,Xi R.2]):=by
 have a4:=sX h;have bk:=nB h;have hL:limit S<=40000:=by unfold limit;omega
 obtain⟨L,a8⟩:=Ii (limit S);rw[a8] at a4 hL hR;have bc:=fun hh=>fs h hh;have HG:=kq5 a4 h hi hR bc;clear a4 h hi hR bk a8 bc;go_enter func311,ntmps311;go_wp2_with fail;refine b8 HG.a fun w1 hb1=>?_;have bd:=If hb1;clear hb1;go_wp2_with fail
 go_loopw [1,7,9,10,11,12] (fun r b i _ _ _ wr=>∃f root bb ii:Nat,r=Xu root/\b=Xi bb/\i=Xi ii/\f+ii=L/\root<2^64/\bb<2^62/\Hid (ij S k f root bb=some R/\Below w.heap.size w wr)) (fun _ _ i _ _ _ _=>L-(intOf i).toNat)
 case atStart=>exact⟨L,root,0,0,rfl,rfl,rfl,by omega,hl,by omega,HG.d,bd.out⟩
 case round=>
  obtain⟨f,root,bb,ii,rfl,rfl,rfl,hf,bo,bj,ad⟩:=hrel;have bt:ii<=40000:=by omega
  cases f with
  | zero=>
   have bu:ii=L:=by omega
   have an:R=(0,bb):=by have h9:=ad.out.1;rw[AF] at h9;exact(Option.some.inj h9).symm
   have HE:=kq2 an ad.out.2;clear an ad
   by_cases hr0:root=0
   ·subst hr0;exact qJeae
   ·have hq:((root:Int) !=0)=true:=by simp;omega
    have bs:(L:Int)<=ii:=by omega
    clear hr0;exact qJeae
  | succ f=>
   by_cases hr0:root=0
   ·have an:R=(0,bb):=by have h9:=ad.out.1;rw[JO,if_pos hr0] at h9;exact(Option.some.inj h9).symm
    have HE:=kq2 an ad.out.2;clear an ad;subst hr0;exact qJeae
   ·have hq:((root:Int) !=0)=true:=by simp;omega
    have hlt:(ii:Int)<L:=by omega
    have hd:=ad.out.1;rw[JO,if_neg hr0] at hd;have a1:=HG.b.below ad.out.2;have hg:=iO a1 HG.c root bo;have a5:=HG.e root;obtain⟨⟨nd,er⟩,hE⟩:∃r,getNode S root=r:=⟨_,rfl⟩;rw[hE] at hg a5 hd;simp only at hg a5 hd;obtain⟨k0,k1,k2,k3,k4,k5⟩:=nd;obtain⟨n0,n1,n2,n3,n4,n5⟩:=a5;simp only at n0 n1 n2 n3 n4 n5;have ap:eS ⟨k0,k1,k2,k3,k4,k5⟩=.agg #[Xu k0,Xu k1,Xu k2,Xu k3,Xu k4,Xu k5]:=rfl;rw[ap] at hg
    cases er with
    | succ er=>
     rw[if_pos (by omega)] at hd;have hd:=Option.some.inj hd;have bm:(((er+1:Nat):Int) !=0)=true:=by simp;omega
     obtain⟨g1,a9⟩:=Ii (er+1);rw[a9] at hg bm;have HE:=kq3 hg hd ad.out.2;clear hg hd ad a1 hE hr0 a9 ap;go_wp2_with fail;refine b8 HE.a fun w2 hb2=>?_;have bf:=If ((HE.c.trans (hb2.mono HE.c.size)).alloc (aB HE.c.size hb2.size) (Xb k0 k1 k2 k3 k4 k5));clear hb2;go_wp2_with fail;go_ret2;obtain rfl:=HE.b;exact⟨rfl,bf.out⟩
    | zero=>
     rw[if_neg (by omega)] at hd
     cases ht:gD S k0 with
     | none=>rw[ht] at hd;cases hd
     | some t=>
      rw[ht] at hd;simp only at hd;have HE:=kq3 hg ad.out.2 ht;clear hg ad a1 hE hr0 ht;go_wp2_with fail;refine b8 HE.a fun w2 hb2=>?_;have a0:=(HE.b.trans (hb2.mono HE.b.size)).alloc (aB HE.b.size hb2.size) (Xb k0 k1 k2 k3 k4 k5);have hk:=EZ (HG.b.below a0) HG.c ⟨k0,k1,k2,k3,k4,k5⟩ n0 HE.c;rw[ap] at hk;have hx:=heap_alloc_new w2 (Xb k0 k1 k2 k3 k4 k5);have a':w2.heap.size<(w2.alloc (Xb k0 k1 k2 k3 k4 k5)).heap.size:=by simp
      have HK:=kq4 hk a0 hx a';clear hb2 a0 hk hx a' ap;go_wp2_with fail;refine b8 HK.a fun w3 hb3=>?_;have HC:=If (sT k t w3);have a7:=HK.b.trans (hb3.mono HK.b.size);have a6:=(hb3.block _ HK.d).trans HK.c;have a2:w3.cell? ⟨w2.heap.size,2,none⟩=some (Xu k2):=by rw[cell_of_block a6];rfl
      have a3:w3.cell? ⟨w2.heap.size,3,none⟩=some (Xu k3):=by rw[cell_of_block a6];rfl
      have ai:=If a7;clear hb3 a7 a6;go_wp2_with fail;refine Jc HC.out ?_;generalize Fu k t=c at*
      by_cases hc:c<0
      ·rw[if_pos hc] at hd;have HD:=If hd;clear hd;go_wp2_with fail;go_roundw
       case rel=>exact⟨f,k2,bb,ii+1,rfl,rfl,by simp,by omega,n2,bj,HD.out,ai.out⟩
       case measure=>simp[intOf];omega
      ·rw[if_neg hc] at hd
       cases hz:fY S k2 with
       | none=>rw[hz] at hd;cases hd
       | some z=>
        rw[hz] at hd;simp only at hd;have bv:z<2^62:=by have:=num_some hz;omega
        have ar:=kP (HG.b.below ai.out) HG.c k2 n2 hz
        by_cases hc2:0<c
        ·rw[if_pos hc2] at hd
         cases hn:num (bb+(z+1)) with
         | none=>rw[hn] at hd;cases hd
         | some b2=>
          rw[hn] at hd;simp only at hd;obtain⟨rfl,ba⟩:=num_some hn;have HD:=kq2 hd ar;clear hd ar hn hz;go_wp2_with fail;refine b8 HD.b fun w5 hb5=>?_;have bq:w5.cell? ⟨w2.heap.size,3,none⟩=some (Xu k3):=by
           rw[<-a3];refine hb5.cell (p:=⟨w2.heap.size,3,none⟩) ?_;unfold World.cell? at a3
           split at a3
           ·rename_i heq;exact(gl heq)
           ·cases a3
          have au:=If (ai.out.trans (hb5.mono ai.out.size));clear hb5;go_wp2_with fail;go_roundw
          case rel=>exact⟨f,k3,bb+(z+1),ii+1,rfl,by simp,by simp,by omega,n3,ba,HD.a,au.out⟩
          case measure=>simp[intOf];omega
        ·rw[if_neg hc2] at hd;obtain rfl:c=0:=by omega
         cases hn:num (bb+z) with
         | none=>rw[hn] at hd;cases hd
         | some b2=>
          rw[hn] at hd;simp only at hd;obtain⟨rfl,ba⟩:=num_some hn;have hd:=Option.some.inj hd;have HD:=kq2 hd ar;clear hd ar hn hz;go_wp2_with fail;refine b8 HD.b fun w5 hb5=>?_;have au:=If (ai.out.trans (hb5.mono ai.out.size));clear hb5;go_wp2_with fail;go_ret2;obtain rfl:=HD.a;exact⟨by simp,au.out⟩
theorem E1(h:Ig w ps S Y)(hi:Fv S)(root:Nat)(hl:root<2^64)(k:List UInt8)(hR:oP S root k=some z):
 Cb 310 #[PV ps,Xu root,SV k] w (Xi z):=by
 unfold oP at hR
 cases hd:ij S k (limit S) root 0 with
 | none=>rw[hd] at hR;cases hR
 | some R=>
  rw[hd] at hR
  injection hR with hR
  have HG:=kq2 (xT h hi root hl k hd) hR;clear h hi hd hR;go_enter func310,ntmps310;go_wp2_with fail;refine b8 HG.a fun w1 hb=>?_;have HB:=If hb;clear hb;go_wp2_with fail;go_ret;obtain rfl:=HG.b;exact⟨rfl,HB.out⟩
def gP(n:Nd)(h:Nat):Value:=.agg #[Xu n.key,Xu n.val,Xu n.left,Xu n.right,Xu n.mark,Xu n.size,Xu h]
theorem Ew{u0 u1 u2 u3 u4 u5 u6:Value}(h:W.heap[b]?=some (.cells #[u0,u1,u2,u3,u4,u5,u6] t fr))(v0 v1 v2 v3 v4 v5 v6:Value):(((((((W.setCell ⟨b,0,none⟩ (v0)).setCell ⟨b,1,none⟩ (v1)).setCell ⟨b,2,none⟩ (v2)).setCell ⟨b,3,none⟩ (v3)).setCell ⟨b,4,none⟩ (v4)).setCell ⟨b,5,none⟩ (v5)).setCell ⟨b,6,none⟩ (v6)).heap[b]?=some (.cells #[v0,v1,v2,v3,v4,v5,v6] t fr):=by
 rw[heap_setCell (heap_setCell (heap_setCell (heap_setCell (heap_setCell (heap_setCell (heap_setCell h))))))];rfl
theorem Ev{w W:World}(h:Below w.heap.size w W)(hb:w.heap.size<=b)(v0 v1 v2 v3 v4 v5 v6:Value):Below w.heap.size w (((((((W.setCell ⟨b,0,none⟩ (v0)).setCell ⟨b,1,none⟩ (v1)).setCell ⟨b,2,none⟩ (v2)).setCell ⟨b,3,none⟩ (v3)).setCell ⟨b,4,none⟩ (v4)).setCell ⟨b,5,none⟩ (v5)).setCell ⟨b,6,none⟩ (v6)):=
 ((((((h.setCell (p:=⟨b,0,none⟩) hb _).setCell (p:=⟨b,1,none⟩) hb _).setCell (p:=⟨b,2,none⟩) hb _).setCell (p:=⟨b,3,none⟩) hb _).setCell (p:=⟨b,4,none⟩) hb _).setCell (p:=⟨b,5,none⟩) hb _).setCell (p:=⟨b,6,none⟩) hb _
theorem gR(h:Ig w ps S Y)(hi:Fv S)(hh:Nat)(hl:hh<2^64):
 Cb 186 #[PV ps,Xu hh] w (gP (getNode S hh).1 hh):=by
 have ad:Below w.heap.size w (w.alloc (.cells #[Xu 0,Xu 0,Xu 0,Xu 0,Xu 0,Xu 0,Xu 0] 280)):=(aa _ w).alloc Ih _;have hg:=iO (h.below ad) hi hh hl;obtain⟨⟨⟨k0,k1,k2,k3,k4,k5⟩,er⟩,hE⟩:∃r,getNode S hh=r:=⟨_,rfl⟩;rw[hE] at hg⊢;unfold eS at hg;unfold gP;simp only at hg⊢;have hx:=heap_alloc_new w (.cells #[Xu 0,Xu 0,Xu 0,Xu 0,Xu 0,Xu 0,Xu 0] 280);have HG:=kq3 hg ad hx;clear hg ad h hi hE hx;go_enter func186,ntmps186;go_wp2_with fail;refine b8 HG.a fun w1 hb=>?_;have r0:=(hb.block w.heap.size (by simp)).trans HG.c;obtain⟨b0,b1,b2,b3,b4,b5,b6⟩:=gG r0;obtain⟨f0,f1,f2,f3,f4,f5,f6⟩:=qI r0;have hlt:w.heap.size<w1.heap.size:=(gl r0);have HB:=kq2 r0 (HG.b.trans (hb.mono HG.b.size));clear r0 hb;go_wp2_with fail;have hX:=Ew HB.a (Xu k0) (Xu k1) (Xu k2) (Xu k3) (Xu k4) (Xu k5) (Xu hh);have hY:=Ev HB.b (Nat.le_refl w.heap.size) (Xu k0) (Xu k1) (Xu k2) (Xu k3) (Xu k4) (Xu k5) (Xu hh);have ap:(((((((w1.setCell ⟨w.heap.size,0,none⟩ (Xu k0)).setCell ⟨w.heap.size,1,none⟩ (Xu k1)).setCell ⟨w.heap.size,2,none⟩ (Xu k2)).setCell ⟨w.heap.size,3,none⟩ (Xu k3)).setCell ⟨w.heap.size,4,none⟩ (Xu k4)).setCell ⟨w.heap.size,5,none⟩ (Xu k5)).setCell ⟨w.heap.size,6,none⟩ (Xu hh)).heap.size=w1.heap.size:=by simp
 generalize (((((((w1.setCell ⟨w.heap.size,0,none⟩ (Xu k0)).setCell ⟨w.heap.size,1,none⟩ (Xu k1)).setCell ⟨w.heap.size,2,none⟩ (Xu k2)).setCell ⟨w.heap.size,3,none⟩ (Xu k3)).setCell ⟨w.heap.size,4,none⟩ (Xu k4)).setCell ⟨w.heap.size,5,none⟩ (Xu k5)).setCell ⟨w.heap.size,6,none⟩ (Xu hh))=W9 at*;have ai:(W9.alloc (Xb k0 k1 k2 k3 k4 k5)).heap[w.heap.size]?=some (.cells #[Xu k0,Xu k1,Xu k2,Xu k3,Xu k4,Xu k5,Xu hh] 280 (0,0)):=by rw[heap_alloc_old _ _ (by omega)];exact hX
 have an:=hY.alloc hY.size (Xb k0 k1 k2 k3 k4 k5);generalize W9.alloc (Xb k0 k1 k2 k3 k4 k5)=W10 at*;obtain⟨e0,e1,e2,e3,e4,e5,e6⟩:=gG ai;exact bodyPost_ret (v:=.agg #[Xu k0,Xu k1,Xu k2,Xu k3,Xu k4,Xu k5,Xu hh]) (by simp[results,f186,go_sem,e0,e1,e2,e3,e4,e5,e6]) rfl ⟨rfl,an⟩
theorem pQ(h:Ig w ps S Y)(hi:Fv S)(hh:Nat)(hl:hh<2^64):
 Cb 184 #[PV ps,Xu hh] w (.bool (isT S hh)):=by
 have hg:=iO h hi hh hl;obtain⟨R,hR⟩:=Ii (isT S hh);rw[hR];unfold isT at hR;obtain⟨⟨⟨k0,k1,k2,k3,k4,k5⟩,er⟩,hE⟩:∃r,getNode S hh=r:=⟨_,rfl⟩;rw[hE] at hg hR;unfold eS at hg;simp only at hg hR;have ad:R=(((hh:Int)==0) || ((er:Int)==0)):=by
  rw[<-hR]
  by_cases a:hh=0<;>by_cases b:er=0<;>simp[a,b]<;>omega
 have HG:=kq2 hg ad;clear hg h hi hE hR ad
 by_cases h0:hh=0
 ·subst h0;go_enter func184,ntmps184;go_wp2_with fail;refine b8 HG.a fun w1 hb=>?_;have HB:=If (hb.alloc hb.size (Xb k0 k1 k2 k3 k4 k5));clear hb;go_wp2_with fail;go_ret;obtain rfl:=HG.b;exact⟨by simp,HB.out⟩
 ·have hq:((hh:Int)==0)=false:=by simp;omega
  go_enter func184,ntmps184;go_wp2_with fail;refine b8 HG.a fun w1 hb=>?_;have HB:=If (hb.alloc hb.size (Xb k0 k1 k2 k3 k4 k5));clear hb;go_wp2_with fail;go_ret;obtain rfl:=HG.b;exact⟨by simp[hq],HB.out⟩
theorem rT(hi:Fv S)(hh:Nat)(n:Nd):Fv (gM S hh n).2:=by
 unfold gM
 split
 ·exact(rV hh _ S 0 hi).1
 ·exact hi
theorem Ht{S S':St}{n:Nd}{h l r:Nat}(hw:fu S n h l r=some S'):∃a b x y,eE S l=some a/\eE S r=some b/\fY S l=some x/\fY S r=some y/\S'=(gM S h { n with left:=l,right:=r,mark:=max a b+1,size:=x+y+1 }).2:=by
 unfold fu at hw
 split at hw
 ·rename_i a b x y h1 h2 h3 h4;exact⟨a,b,x,y,h1,h2,h3,h4,(Option.some.inj hw).symm⟩
 ·cases hw
theorem gX{S S':St}{n:Nd}{h l r:Nat}(hi:Fv S)(hw:fu S n h l r=some S'):Fv S':=by
 obtain⟨_,_,_,_,_,_,_,_,rfl⟩:=Ht hw;exact rT hi _ _
theorem jG{S S':St}(h:Ig w ps S Y)(hi:Fv S)(n:Nd)(hn:ji n)(hh l r:Nat)(hl:hh<2^64)(hll:l<2^64)(hrl:r<2^64)(hw:fu S n hh l r=some S'):
 Ct 219 #[gP n hh,PV ps,Xu l,Xu r] w fun e w'=>e=.returned (Xu hh)/\Ig w' ps S' Y/\Fo Y w w':=by
 obtain⟨a,b,x,y,h1,h2,h3,h4,rfl⟩:=Ht hw;have ha:a<2^62:=by have:=num_some h1;omega
 have hb:b<2^62:=by have:=num_some h2;omega
 have hx:x<2^62:=by have:=num_some h3;omega
 have hy:y<2^62:=by have:=num_some h4;omega
 obtain⟨m,hm⟩:=Ii (max a b);have a3:m<2^62:=by omega
 have a2:max (a:Int) (b:Int)=(m:Int):=by omega
 rw[hm];obtain⟨k0,k1,k2,k3,k4,k5⟩:=n;obtain⟨n0,n1,n2,n3,n4,n5⟩:=hn;simp only at n0 n1 n2 n3 n4 n5;simp only[gP];have ad:=fun W Z (hW:Ig W ps S Z)=>rM hW hi hh hl ⟨k0,k1,l,r,m+1,x+y+1⟩ ⟨n0,n1,hll,hrl,by simp only;omega,by simp only;omega⟩;have a0:eS ⟨k0,k1,l,r,m+1,x+y+1⟩=.agg #[Xu k0,Xu k1,Xu l,Xu r,Xu ((m:Int)+1),Xu ((x:Int)+y+1)]:=by simp[eS]
 rw[a0] at ad;have q0:=heap_alloc_new w (Xa k0 k1 l r k4 k5 hh);have qb:Below w.heap.size w (w.alloc (Xa k0 k1 l r k4 k5 hh)):=(aa _ w).alloc Ih _;have ai:=fun W (hW:Below w.heap.size w W)=>fJ (h.below hW) hi l hll h1;have an:=fun W (hW:Below w.heap.size w W)=>fJ (h.below hW) hi r hrl h2;have ap:=fun W (hW:Below w.heap.size w W)=>kP (h.below hW) hi l hll h3;have ar:=fun W (hW:Below w.heap.size w W)=>kP (h.below hW) hi r hrl h4;have HG:=kq8 ai an ap ar ad h q0 qb;clear ai an ap ar ad h q0 qb h1 h2 h3 h4 hw hm hi a0;go_enter func219,ntmps219;go_wp2_with fail;refine b8 (HG.a _ HG.h) fun w1 hb1=>?_;have r1:=(hb1.block w.heap.size (by simp)).trans HG.g;have H1:=kq2 (HG.h.trans (hb1.mono (by simp))) r1;clear hb1 r1;go_wp2_with fail;refine b8 (HG.b _ H1.a) fun w2 hb2=>?_;have r2:=(hb2.block w.heap.size (gl H1.b)).trans H1.b;obtain⟨c0,c1,c2,c3,c4,c5,c6⟩:=gG r2;obtain⟨f0,f1,f2,f3,f4,f5,f6⟩:=qI r2;have H2:=kq2 (H1.a.trans (hb2.mono H1.a.size)) r2;clear hb2 r2;go_wp2_with fail;have r3:(w2.setCell ⟨w.heap.size,4,none⟩ (Xu ((m:Int)+1))).heap[w.heap.size]?=some (.cells #[Xu k0,Xu k1,Xu l,Xu r,Xu ((m:Int)+1),Xu k5,Xu hh] 280 (0,0)):=by rw[heap_setCell H2.b];rfl
 have B3:=H2.a.setCell (p:=⟨w.heap.size,4,none⟩) (Nat.le_refl w.heap.size) (Xu ((m:Int)+1));generalize w2.setCell ⟨w.heap.size,4,none⟩ (Xu ((m:Int)+1))=w3 at*;refine b8 (HG.c _ B3) fun w4 hb4=>?_;have H4:=kq2 (B3.trans (hb4.mono B3.size)) ((hb4.block w.heap.size (gl r3)).trans r3);clear hb4 r3 B3 c0 c1 c2 c3 c4 c5 c6 f0 f1 f2 f3 f4 f5 f6;go_wp2_with fail;refine b8 (HG.d _ H4.a) fun w5 hb5=>?_;have r5:=(hb5.block w.heap.size (gl H4.b)).trans H4.b;obtain⟨c0,c1,c2,c3,c4,c5,c6⟩:=gG r5;obtain⟨f0,f1,f2,f3,f4,f5,f6⟩:=qI r5;have H5:=kq2 (H4.a.trans (hb5.mono H4.a.size)) r5;clear hb5 r5;go_wp2_with fail;have r6:(w5.setCell ⟨w.heap.size,5,none⟩ (Xu ((x:Int)+y+1))).heap[w.heap.size]?=some (.cells #[Xu k0,Xu k1,Xu l,Xu r,Xu ((m:Int)+1),Xu ((x:Int)+y+1),Xu hh] 280 (0,0)):=by rw[heap_setCell H5.b];rfl
 have B6:=H5.a.setCell (p:=⟨w.heap.size,5,none⟩) (Nat.le_refl w.heap.size) (Xu ((x:Int)+y+1));have au:w.heap.size<(w5.setCell ⟨w.heap.size,5,none⟩ (Xu ((x:Int)+y+1))).heap.size:=(gl r6);refine(HG.e _ _ (HG.f.wide B6)).mono ?_;rintro e w7 ⟨rfl,h7,k7⟩;have r7:=(k7.block w.heap.size (ae ⟨Nat.le_refl _,au⟩)).trans r6;have a1:w7.cell? ⟨w.heap.size,6,none⟩=some (Xu hh):=by rw[cell_of_block r7];rfl
 have H7:=kq2 (h7.mono (Z:=Y) fun k hk=>ab hk) ((Fo.of_below B6 HG.f.yl).trans (k7.mono fun k hk=>ab hk));clear h7 k7 r7 r6 B6 au c0 c1 c2 c3 c4 c5 c6 f0 f1 f2 f3 f4 f5 f6;go_wp2_with fail;go_ret;exact⟨rfl,H7.out⟩
def eL(f:FuncId):Value:=.func (.func f) #[] #[]
def j6(kind:Nat)(j c:FuncId):Prop:=∀W,Cb 208 #[Xi kind] W (.tuple #[.agg #[eL j,eL c],.bool true])
def gS(ps:Nat)(j c:FuncId):Value:=.agg #[PV ps,eL j,eL c]
theorem ew{u0 u1:Value}(h:W.heap[b]?=some (.cells #[u0,u1] t fr))(v0 v1:Value):((W.setCell ⟨b,0,none⟩ (v0)).setCell ⟨b,1,none⟩ (v1)).heap[b]?=some (.cells #[v0,v1] t fr):=by
 rw[heap_setCell (heap_setCell h)];rfl
theorem eT{w W:World}(h:Below w.heap.size w W)(hb:w.heap.size<=b)(v0 v1:Value):Below w.heap.size w ((W.setCell ⟨b,0,none⟩ (v0)).setCell ⟨b,1,none⟩ (v1)):=
 (h.setCell (p:=⟨b,0,none⟩) hb _).setCell (p:=⟨b,1,none⟩) hb _
theorem xf{u0 u1 u2:Value}(h:W.heap[b]?=some (.cells #[u0,u1,u2] t fr))(v0 v1 v2:Value):(((W.setCell ⟨b,0,none⟩ (v0)).setCell ⟨b,1,none⟩ (v1)).setCell ⟨b,2,none⟩ (v2)).heap[b]?=some (.cells #[v0,v1,v2] t fr):=by
 rw[heap_setCell (heap_setCell (heap_setCell h))];rfl
theorem xe{w W:World}(h:Below w.heap.size w W)(hb:w.heap.size<=b)(v0 v1 v2:Value):Below w.heap.size w (((W.setCell ⟨b,0,none⟩ (v0)).setCell ⟨b,1,none⟩ (v1)).setCell ⟨b,2,none⟩ (v2)):=
 ((h.setCell (p:=⟨b,0,none⟩) hb _).setCell (p:=⟨b,1,none⟩) hb _).setCell (p:=⟨b,2,none⟩) hb _
theorem E2:j6 1 141 234:=by
 intro W;simp only[eL];go_enter func208,ntmps208;go_wp2_with fail;exact bodyPost_ret (v:=.tuple #[.agg #[.func (.func 141) #[] #[],.func (.func 234) #[] #[]],.bool true]) (by simp[results,f208,go_sem]) rfl ⟨rfl,(aa _ _).alloc Ih _⟩
theorem qJeaa{P:Prop}(h:P:=by
 obtain⟨c0,c1,c2⟩:=fq r2;obtain⟨f0,f1,f2⟩:=uA r2;obtain⟨d0,d1⟩:=Fp q2;have HX:=kq2 r2 B2;clear r2 B2 q2;go_wp2_with fail;have q3:=xf HX.a (PV ps) (.func (.func j) #[] #[]) (.func (.func c) #[] #[]);have B3:=xe HX.b (Nat.le_refl w.heap.size) (PV ps) (.func (.func j) #[] #[]) (.func (.func c) #[] #[]);generalize (((wr.setCell ⟨w.heap.size,0,none⟩ (PV ps)).setCell ⟨w.heap.size,1,none⟩ (.func (.func j) #[] #[])).setCell ⟨w.heap.size,2,none⟩ (.func (.func c) #[] #[]))=W3 at*;obtain⟨e0,e1,e2⟩:=fq q3;exact bodyPost_ret (v:=.tuple #[.agg #[PV ps,.func (.func j) #[] #[],.func (.func c) #[] #[]],Xi 0]) (by simp[results,f176,go_sem,e0,e1,e2]) rfl ⟨rfl,B3⟩):P:=h
theorem yG(h:Ig w ps S Y)(hi:Fv S){j c:FuncId}(hk:j6 kind j c):
 Cb 176 #[PV ps,Xi kind,.string ⟨#[]⟩,.slice none 0 0] w (.tuple #[gS ps j c,Xi 0]):=by
 have q0:=heap_alloc_new w (.cells #[.pointer none,.nilFunc,.nilFunc] 265);have B0:=(aa w.heap.size w).alloc Ih (.cells #[.pointer none,.nilFunc,.nilFunc] 265);have ai:=fB (h.below B0) hi 0 (by omega);rw[fU] at ai;simp only[gS,j6,eL] at hk⊢;have HG:=kq4 ai hk q0 B0;clear ai hk h hi q0 B0;go_enter func176,ntmps176;go_wp2_with fail;refine Jc HG.a ?_;go_wp2_with fail;refine b8 (HG.b _) fun w2 hb2=>?_;have ad:=hb2.alloc hb2.size (.cells #[.func (.func j) #[] #[],.func (.func c) #[] #[]] 263);have r2:=(ad.block w.heap.size (by simp)).trans HG.c;have q2:=heap_alloc_new w2 (.cells #[.func (.func j) #[] #[],.func (.func c) #[] #[]] 263);have B2:=HG.d.trans (ad.mono HG.d.size);go_wp2_with fail;generalize w2.alloc (.cells #[.func (.func j) #[] #[],.func (.func c) #[] #[]] 263)=W at*;generalize w2.heap.size=bt at*;have HR:=kq3 r2 B2 q2;clear r2 B2 hb2 ad q2
 go_loopw [15,16,17,40] (fun _ _ _ i wr=>i=Xi 0/\wr=W) (fun _ _ _ _ _=>0)
 case atStart=>exact⟨rfl,rfl⟩
 case round=>
  obtain⟨rfl,rfl⟩:=hrel;obtain⟨r2,B2,q2⟩:=HR.out;exact qJeaa
theorem yH(h:Ig w ps S Y)(hi:Fv S){j c:FuncId}(hk:j6 kind j c)(a b:Nat)(ha:a<2^64)(hb:b<2^64)(hta:isT S a=true)(htb:isT S b=true)(rb:Nat)(hr:w.heap[rb]?=some (.cells #[Xu a,Xu b] t fr)):
 Cb 176 #[PV ps,Xi kind,.string ⟨#[]⟩,.slice (some ⟨rb,0,none⟩) 2 2] w (.tuple #[gS ps j c,Xi 0]):=by
 have q0:=heap_alloc_new w (.cells #[.pointer none,.nilFunc,.nilFunc] 265);have B0:=(aa w.heap.size w).alloc Ih (.cells #[.pointer none,.nilFunc,.nilFunc] 265);have a6:=fB (h.below B0) hi 0 (by omega);rw[fU] at a6;have ap:=fun W (hW:Below w.heap.size w W)=>iO (h.below hW) hi a ha;have ar:=fun W (hW:Below w.heap.size w W)=>iO (h.below hW) hi b hb;have ai:∀er:Nat,(getNode S a).2=er->(((a:Int) !=0) && ((er:Int) !=0))=false:=fun er he=>by
  unfold isT at hta;simp only[he,Bool.or_eq_true,decide_eq_true_eq] at hta
  rcases hta with e | e<;>simp[e]
 have an:∀er:Nat,(getNode S b).2=er->(((b:Int) !=0) && ((er:Int) !=0))=false:=fun er he=>by
  unfold isT at htb;simp only[he,Bool.or_eq_true,decide_eq_true_eq] at htb
  rcases htb with e | e<;>simp[e]
 obtain⟨⟨⟨a0,a1,a2,a3,a4,a5⟩,ea⟩,a7⟩:∃q,getNode S a=q:=⟨_,rfl⟩;obtain⟨⟨⟨b0,b1,b2,b3,b4,b5⟩,eb⟩,a8⟩:∃q,getNode S b=q:=⟨_,rfl⟩;rw[a7] at ap ai;rw[a8] at ar an;have ai:=ai ea rfl;have an:=an eb rfl;simp only[gS,j6,eL,eS] at hk ap ar⊢;have HG:=kq7 a6 hk q0 B0 ap ar hr;clear a6 hk h hi q0 B0 ap ar hta htb a7 a8 hr;have HZ:=kq2 ai an;clear ai an;go_enter func176,ntmps176;go_wp2_with fail;refine Jc HG.a ?_;go_wp2_with fail;refine b8 (HG.b _) fun w2 hb2=>?_;have au:=hb2.alloc hb2.size (.cells #[.func (.func j) #[] #[],.func (.func c) #[] #[]] 263);have r2:=(au.block w.heap.size (by simp)).trans HG.c;have q2:=heap_alloc_new w2 (.cells #[.func (.func j) #[] #[],.func (.func c) #[] #[]] 263);have B2:=HG.d.trans (au.mono HG.d.size);have a9:w.heap.size<w2.heap.size:=by have:=hb2.size;simp at this;omega
 go_wp2_with fail;generalize w2.alloc (.cells #[.func (.func j) #[] #[],.func (.func c) #[] #[]] 263)=W at*;generalize w2.heap.size=bt at*;have HR:=kq4 r2 B2 q2 a9;clear r2 B2 hb2 au q2 a9
 go_loopw [15,16,17,40] (fun _ _ _ i wr=>(i=Xi 0/\Below W.heap.size W wr)\/(i=Xi 1/\Below W.heap.size W wr)\/(i=Xi 2/\Below W.heap.size W wr)) (fun _ _ _ i _=>2-(intOf i).toNat)
 case atStart=>exact ab ⟨rfl,aa _ _⟩
 case round=>
  obtain⟨rfl,hW⟩ | ⟨rfl,hW⟩ | ⟨rfl,hW⟩:=hrel
  ·have ad:=((HR.b.trans (hW.mono HR.b.size)).block rb (gl HG.g)).trans HG.g;obtain⟨c0,c1⟩:=Fp ad;have HW:=If hW;clear hW ad;go_wp2_with fail;refine b8 (HG.e _ (HR.b.trans (HW.out.mono HR.b.size))) fun w5 hb5=>?_;have H5:=If ((HW.out.trans (hb5.mono HW.out.size)).alloc (HW.out.trans (hb5.mono HW.out.size)).size (Xb a0 a1 a2 a3 a4 a5));clear hb5;have hz:=HZ.a;go_wp2_with fail
   all_goals exact⟨ae (ab ⟨rfl,H5.out⟩),by simp[intOf]⟩
  ·have ad:=((HR.b.trans (hW.mono HR.b.size)).block rb (gl HG.g)).trans HG.g;obtain⟨c0,c1⟩:=Fp ad;have HW:=If hW;clear hW ad;go_wp2_with fail;refine b8 (HG.f _ (HR.b.trans (HW.out.mono HR.b.size))) fun w5 hb5=>?_;have H5:=If ((HW.out.trans (hb5.mono HW.out.size)).alloc (HW.out.trans (hb5.mono HW.out.size)).size (Xb b0 b1 b2 b3 b4 b5));clear hb5;have hz:=HZ.b;go_wp2_with fail
   all_goals exact⟨ae (ae ⟨rfl,H5.out⟩),by simp[intOf]⟩
  ·obtain⟨r2,B2,q2,-⟩:=HR.out
   replace B2:=B2.trans (hW.mono B2.size)
   replace r2:=(hW.block _ (gl r2)).trans r2
   replace q2:=(hW.block _ (gl q2)).trans q2
   exact qJeaa
theorem xj{u0 u1 u2 u3 u4 u5:Value}(h:W.heap[b]?=some (.cells #[u0,u1,u2,u3,u4,u5] t fr))(v0 v1 v2 v3 v4 v5:Value):((((((W.setCell ⟨b,0,none⟩ (v0)).setCell ⟨b,1,none⟩ (v1)).setCell ⟨b,2,none⟩ (v2)).setCell ⟨b,3,none⟩ (v3)).setCell ⟨b,4,none⟩ (v4)).setCell ⟨b,5,none⟩ (v5)).heap[b]?=some (.cells #[v0,v1,v2,v3,v4,v5] t fr):=by
 rw[heap_setCell (heap_setCell (heap_setCell (heap_setCell (heap_setCell (heap_setCell h)))))];rfl
theorem KJ{w W:World}(h:Below w.heap.size w W)(hb:w.heap.size<=b)(v0 v1 v2 v3 v4 v5:Value):Below w.heap.size w ((((((W.setCell ⟨b,0,none⟩ (v0)).setCell ⟨b,1,none⟩ (v1)).setCell ⟨b,2,none⟩ (v2)).setCell ⟨b,3,none⟩ (v3)).setCell ⟨b,4,none⟩ (v4)).setCell ⟨b,5,none⟩ (v5)):=
 (((((h.setCell (p:=⟨b,0,none⟩) hb _).setCell (p:=⟨b,1,none⟩) hb _).setCell (p:=⟨b,2,none⟩) hb _).setCell (p:=⟨b,3,none⟩) hb _).setCell (p:=⟨b,4,none⟩) hb _).setCell (p:=⟨b,5,none⟩) hb _
structure kW (j:FuncId) (jn:Jn):Prop where
 enter:∀(args:Array Value) (w:World),(callFunc j args).run prog w=.ok (.enter j args) w
 inv:∀{S S':St} {l m r:Nat} {R:Nat×Nat},Fv S->jn S l m r=some (R,S')->Fv S'
 lt:∀{S S':St} {l m r:Nat} {R:Nat×Nat},Fv S->l<2^64->m<2^64->r<2^64->jn S l m r=some (R,S')->R.1<2^64
 ok:∀{S S':St} {l m r:Nat} {R:Nat×Nat},jn S l m r=some (R,S')->R.2=0
 call:∀{w:World} {ps:Nat} {S S':St} {Y:Nat->Prop} {l m r:Nat} {R:Nat×Nat},Ig w ps S Y->Fv S->l<2^64->m<2^64->r<2^64->jn S l m r=some (R,S')->
  Ct j #[PV ps,Xu l,Xu m,Xu r] w fun e w'=>e=.returned (.tuple #[Xu R.1,Xi R.2])/\Ig w' ps S' Y/\Fo Y w w'
theorem nW{j:FuncId}{jn:Jn}(hj:kW j jn){S S':St}{l m r x:Nat}(h:jq jn S l m r=some (x,S')):jn S l m r=some ((x,0),S'):=by
 unfold jq at h;obtain⟨⟨⟨a,b⟩,S1⟩,h1,h2⟩:=aD.1 h;have:=hj.ok h1;simp only at this;subst this;simp only[if_true] at h2
 injection h2 with e1 e2
 rw[h1,e1,e2]
theorem qn{S S':St}(h:Ig w ps S Y)(hi:Fv S){j c:FuncId}{jn:Jn}(hj:kW j jn)(l m r:Nat)(hl:l<2^64)(hm:m<2^64)(hr:r<2^64){x:Nat}(hx:jq jn S l m r=some (x,S')):
 Ct 313 #[gS ps j c,Xu l,Xu m,Xu r] w fun e w'=>e=.returned (Xu x)/\Ig w' ps S' Y/\Fo Y w w':=by
 have h1:=nW hj hx;have q0:=heap_alloc_new w (.cells #[PV ps,eL j,eL c] 265);have B0:=(aa w.heap.size w).alloc Ih (.cells #[PV ps,eL j,eL c] 265);have hc:=hj.call (h.below B0) hi hl hm hr h1;simp only[gS,eL] at q0 B0 hc⊢;have ad:=hj.enter;have HG:=kq4 hc B0 q0 h;clear hc q0 B0 h hi hj hx h1;go_enter func313,ntmps313;go_wp2_with fail;refine HG.a.mono ?_;rintro e w1 ⟨rfl,h1,k1⟩;have H1:=kq2 h1 ((Fo.of_below HG.b HG.d.yl).trans k1);clear h1 k1;go_wp2_with fail;go_ret;exact⟨rfl,H1.out⟩
theorem AD(h:Ig w ps S Y)(hi:Fv S){j c:FuncId}(hh:Nat)(hl:hh<2^64){t:List UInt8}(ht:gD S (getNode S hh).1.key=some t):
 Cb 315 #[gS ps j c,Xu hh] w (.tuple #[SV t,eS (getNode S hh).1]):=by
 have hlt:=fs h hh;have hg:=fun W (hW:Below w.heap.size w W)=>iO (h.below hW) hi hh hl;obtain⟨⟨⟨k0,k1,k2,k3,k4,k5⟩,er⟩,hE⟩:∃q,getNode S hh=q:=⟨_,rfl⟩;rw[hE] at hg hlt ht⊢;unfold gD at ht
 split at ht
 ·cases ht
 rename_i h8;have ht:=Option.some.inj ht;have hb:=fun W (hW:Below w.heap.size w W)=>iz (h.below hW) hi k0 hlt.key h8;simp only at hb ht;rw[ht] at hb;generalize (fz S k0).2=eb at*;have q0:=heap_alloc_new w (.cells #[PV ps,eL j,eL c] 265);have B1:=(aa w.heap.size w).alloc Ih (.cells #[PV ps,eL j,eL c] 265);have Bz:=(aa (w.alloc (.cells #[PV ps,eL j,eL c] 265)).heap.size (w.alloc (.cells #[PV ps,eL j,eL c] 265))).alloc Ih (.cells #[Xu 0,Xu 0,Xu 0,Xu 0,Xu 0,Xu 0] 139);have q1:=(Bz.block w.heap.size (by simp)).trans q0;have z1:=heap_alloc_new (w.alloc (.cells #[PV ps,eL j,eL c] 265)) (.cells #[Xu 0,Xu 0,Xu 0,Xu 0,Xu 0,Xu 0] 139);have B0:=B1.trans (Bz.mono B1.size);simp only[World.size_alloc] at z1;simp only[gS,eL,eS] at B0 hg q1 z1⊢;have HG:=kq5 hg hb B0 q1 z1;clear hg hb B0 h hi hlt hE ht h8 q0 q1 B1 Bz z1;go_enter func315,ntmps315;go_wp2_with fail;refine b8 (HG.a _ HG.c) fun w1 hb1=>?_;have ad:=hb1.alloc hb1.size (Xb k0 k1 k2 k3 k4 k5);have q2:=heap_alloc_new w1 (Xb k0 k1 k2 k3 k4 k5);have r2:=(ad.block w.heap.size (by simp;omega)).trans HG.d;have z2:=(ad.block (w.heap.size+1) (by simp)).trans HG.e;obtain⟨c0,c1,c2⟩:=fq r2;have H2:=kq3 (HG.c.trans (ad.mono HG.c.size)) q2 z2;clear hb1 ad q2 r2 z2;go_wp2_with fail;refine b8 (HG.b _ H2.a) fun w3 hb3=>?_;have q3:=(hb3.block _ (gl H2.b)).trans H2.b;have z3:=(hb3.block _ (gl H2.c)).trans H2.c;obtain⟨d0,d1,d2,d3,d4,d5⟩:=ia q3;obtain⟨e0,e1,e2,e3,e4,e5⟩:=ia z3;obtain⟨f0,f1,f2,f3,f4,f5⟩:=lP z3;have H3:=kq2 (H2.a.trans (hb3.mono H2.a.size)) z3;clear hb3 q3 z3;go_wp2_with fail
 go_region
 go_wp2_with fail;have q6:((((((w3.setCell ⟨(w.heap.size+1),0,none⟩ (Xu k0)).setCell ⟨(w.heap.size+1),1,none⟩ (Xu k1)).setCell ⟨(w.heap.size+1),2,none⟩ (Xu k2)).setCell ⟨(w.heap.size+1),3,none⟩ (Xu k3)).setCell ⟨(w.heap.size+1),4,none⟩ (Xu k4)).setCell ⟨(w.heap.size+1),5,none⟩ (Xu k5)).drew.heap[w.heap.size+1]?=_:=xj H3.b (Xu k0) (Xu k1) (Xu k2) (Xu k3) (Xu k4) (Xu k5);have B6:=(KJ H3.a (ct w.heap.size) (Xu k0) (Xu k1) (Xu k2) (Xu k3) (Xu k4) (Xu k5)).drew;generalize ((((((w3.setCell ⟨(w.heap.size+1),0,none⟩ (Xu k0)).setCell ⟨(w.heap.size+1),1,none⟩ (Xu k1)).setCell ⟨(w.heap.size+1),2,none⟩ (Xu k2)).setCell ⟨(w.heap.size+1),3,none⟩ (Xu k3)).setCell ⟨(w.heap.size+1),4,none⟩ (Xu k4)).setCell ⟨(w.heap.size+1),5,none⟩ (Xu k5)).drew=W6 at*;obtain⟨g0,g1,g2,g3,g4,g5⟩:=ia q6;exact bodyPost_ret (v:=.tuple #[SV t,.agg #[Xu k0,Xu k1,Xu k2,Xu k3,Xu k4,Xu k5]]) (by simp[results,f315,go_sem,g0,g1,g2,g3,g4,g5]) rfl ⟨rfl,B6⟩
theorem uf{j c:FuncId}{jn:Jn}(hjn:kW j jn)(key:List UInt8):∀(f d:Nat),d+f=200->∀{w:World} {S S':St} {Y:Nat->Prop} {root l m r:Nat},Ig w ps S Y->Fv S->root<2^64->
 kr jn key f S root=some ((l,m,r),S')->
 (Ct 312 #[gS ps j c,Xu root,SV key,Xi d] w fun e w'=>e=.returned (.tuple #[Xu l,Xu m,Xu r])/\Ig w' ps S' Y/\Fo Y w w')/\Fv S'/\l<2^64/\m<2^64/\r<2^64:=by
 intro f;induction f with
 | zero=>
  intro d hd w S S' Y root l m r h hi hl hs;obtain rfl:d=200:=by omega
  rw[wZ] at hs;have hs:=Option.some.inj hs;injection hs with e1 e2
  injection e1 with e1 e3
  injection e3 with e3 e4
  subst e1 e2 e3 e4;refine⟨?_,hi,by decide,by decide,by decide⟩;have HG:=kq2 (h.below ((aa w.heap.size w).alloc Ih (.cells #[PV ps,.func (.func j) #[] #[],.func (.func c) #[] #[]] 265))) (h.keep ((aa w.heap.size w).alloc Ih (.cells #[PV ps,.func (.func j) #[] #[],.func (.func c) #[] #[]] 265)));simp only[gS,eL];clear h hi hd hjn;go_enter func312,ntmps312;go_wp2_with fail;all_goals (go_ret3;exact⟨rfl,HG.out⟩)
 | succ f ih=>
  intro d hd w S S' Y root l m r h hi hl hs;rw[sk] at hs;split at hs
  ·rename_i h0;subst h0;have hs:=Option.some.inj hs;injection hs with e1 e2
   injection e1 with e1 e3
   injection e3 with e3 e4
   subst e1 e2 e3 e4;refine⟨?_,hi,by decide,by decide,by decide⟩;have HG:=kq2 (h.below ((aa w.heap.size w).alloc Ih (.cells #[PV ps,.func (.func j) #[] #[],.func (.func c) #[] #[]] 265))) (h.keep ((aa w.heap.size w).alloc Ih (.cells #[PV ps,.func (.func j) #[] #[],.func (.func c) #[] #[]] 265)));simp only[gS,eL];clear h hi hd hjn ih;go_enter func312,ntmps312;go_wp2_with fail;all_goals (go_ret3;exact⟨rfl,HG.out⟩)
  ·rename_i h0;split at hs
   ·cases hs
   rename_i k hk;have hq:((root:Int)==0)=false:=by simp;omega
   have bb:((d:Int)==200)=false:=by simp;omega
   have bc:IntKind.i64.wrap ((d:Int)+1)=(d:Int)+1:=az _ (by omega);have hlt:=fs h root;have q0:=heap_alloc_new w (.cells #[PV ps,eL j,eL c] 265);have B0:=(aa w.heap.size w).alloc Ih (.cells #[PV ps,eL j,eL c] 265);have an:=fun W (hW:Below w.heap.size w W)=>AD (j:=j) (c:=c) (h.below hW) hi root hl hk;have a5:=fun W=>sT key k W;split at hs
   ·rename_i hc;have a':(Fu key k<0)=True:=eq_true hc;split at hs
    ·cases hs
    rename_i l1 m1 r1 S1 h1;obtain⟨⟨x,S2⟩,au,he⟩:=aD.1 hs;injection he with e1 e2
    injection e1 with e1 e3
    injection e3 with e3 e4
    simp only at e1 e3 e4 au;subst e1 e2 e3 e4;have ai:=fun W Z (hW:Ig W ps S Z)=>(ih (d+1) (by omega) hW hi hlt.left h1).1;obtain⟨-,ar,a1,a6,a3⟩:=ih (d+1) (by omega) h hi hlt.left h1;have a4:=nW hjn au;have ad:=fun W Z (hW:Ig W ps S1 Z)=>qn (c:=c) hW ar hjn r1 root (getNode S root).1.right a3 hl hlt.right au;refine⟨?_,hjn.inv ar a4,a1,a6,(by have q:=hjn.lt ar (by first | exact hl | exact a3 | exact hlt.right) (by first | exact hl | exact a3 | exact hlt.right) (by first | exact hl | exact a3 | exact hlt.right) a4;exact q)⟩;obtain⟨⟨⟨k0,k1,k2,k3,k4,k5⟩,er⟩,hE⟩:∃q,getNode S root=q:=⟨_,rfl⟩;rw[hE] at an hlt ai ad;simp only at hlt ai ad;simp only[gS,eL,eS] at q0 B0 an ai ad⊢;have HG:=kq7 an a5 q0 B0 ai ad h;clear an a5 q0 B0 ai ad h hi hE hk h1 hs au ar hjn ih hd h0 hlt a1 a6 a3 a4 hl;go_enter func312,ntmps312;go_wp2_with fail;refine b8 (HG.a _ HG.d) fun w1 hb1=>?_;have ap:=hb1.alloc hb1.size (Xb k0 k1 k2 k3 k4 k5);have q2:=heap_alloc_new w1 (Xb k0 k1 k2 k3 k4 k5);have r2:=(ap.block w.heap.size (by simp)).trans HG.c;have a2:w.heap.size<=w1.heap.size:=by have:=hb1.size;simp at this;omega
    have B2:=HG.d.trans (ap.mono HG.d.size);go_wp2_with fail;generalize w1.alloc (Xb k0 k1 k2 k3 k4 k5)=W at*;generalize w1.heap.size=b12 at*;refine Jc (HG.b _) ?_;obtain⟨c0,c1,c2⟩:=fq r2;obtain⟨d0,d1,d2,d3,d4,d5⟩:=ia q2;have l8:=(gl r2);have a9:=(gl q2);have H2:=kq3 B2 r2 q2;have a8:=If a2;clear hb1 ap q2 r2 B2 a2;go_wp2_with fail;refine(HG.e _ _ (HG.g.wide H2.a)).mono ?_;rintro e w3 ⟨rfl,h3,a0⟩;have r3:=(a0.block w.heap.size (ae ⟨Nat.le_refl _,l8⟩)).trans H2.b;have q3:=(a0.block b12 (ae ⟨a8.out,a9⟩)).trans H2.c;obtain⟨e0,e1,e2⟩:=fq r3;obtain⟨g0,g1,g2,g3,g4,g5⟩:=ia q3;have H3:=kq2 h3 a0;clear h3 a0 r3 q3 c0 c1 c2 d0 d1 d2 d3 d4 d5;go_wp2_with fail;refine(HG.f _ _ H3.a).mono ?_;rintro e w4 ⟨rfl,h4,a7⟩;have H4:=kq2 (h4.mono (Z:=Y) fun k hk=>ab hk) ((Fo.of_below H2.a HG.g.yl).trans ((H3.b.trans a7).mono fun k hk=>ab hk));clear h4 a7 e0 e1 e2 g0 g1 g2 g3 g4 g5;go_wp2_with fail;go_ret3;exact⟨rfl,H4.out⟩
   ·rename_i hc;split at hs
    ·rename_i hc2;have a':(Fu key k<0)=False:=eq_false hc;have ba:(0<Fu key k)=True:=eq_true hc2;split at hs
     ·cases hs
     rename_i l1 m1 r1 S1 h1;obtain⟨⟨x,S2⟩,au,he⟩:=aD.1 hs;injection he with e1 e2
     injection e1 with e1 e3
     injection e3 with e3 e4
     simp only at e1 e3 e4 au;subst e1 e2 e3 e4;have ai:=fun W Z (hW:Ig W ps S Z)=>(ih (d+1) (by omega) hW hi hlt.right h1).1;obtain⟨-,ar,a1,a6,a3⟩:=ih (d+1) (by omega) h hi hlt.right h1;have a4:=nW hjn au;have ad:=fun W Z (hW:Ig W ps S1 Z)=>qn (c:=c) hW ar hjn (getNode S root).1.left root l1 hlt.left hl a1 au;refine⟨?_,hjn.inv ar a4,(by have q:=hjn.lt ar (by first | exact hl | exact a1 | exact hlt.left) (by first | exact hl | exact a1 | exact hlt.left) (by first | exact hl | exact a1 | exact hlt.left) a4;exact q),a6,a3⟩;obtain⟨⟨⟨k0,k1,k2,k3,k4,k5⟩,er⟩,hE⟩:∃q,getNode S root=q:=⟨_,rfl⟩;rw[hE] at an hlt ai ad;simp only at hlt ai ad;simp only[gS,eL,eS] at q0 B0 an ai ad⊢;have HG:=kq7 an a5 q0 B0 ai ad h;clear an a5 q0 B0 ai ad h hi hE hk h1 hs au ar hjn ih hd h0 hlt a1 a6 a3 a4 hl;go_enter func312,ntmps312;go_wp2_with fail;refine b8 (HG.a _ HG.d) fun w1 hb1=>?_;have ap:=hb1.alloc hb1.size (Xb k0 k1 k2 k3 k4 k5);have q2:=heap_alloc_new w1 (Xb k0 k1 k2 k3 k4 k5);have r2:=(ap.block w.heap.size (by simp)).trans HG.c;have a2:w.heap.size<=w1.heap.size:=by have:=hb1.size;simp at this;omega
     have B2:=HG.d.trans (ap.mono HG.d.size);go_wp2_with fail;generalize w1.alloc (Xb k0 k1 k2 k3 k4 k5)=W at*;generalize w1.heap.size=b12 at*;refine Jc (HG.b _) ?_;obtain⟨c0,c1,c2⟩:=fq r2;obtain⟨d0,d1,d2,d3,d4,d5⟩:=ia q2;have l8:=(gl r2);have a9:=(gl q2);have H2:=kq3 B2 r2 q2;have a8:=If a2;clear hb1 ap q2 r2 B2 a2;go_wp2_with fail;refine(HG.e _ _ (HG.g.wide H2.a)).mono ?_;rintro e w3 ⟨rfl,h3,a0⟩;have r3:=(a0.block w.heap.size (ae ⟨Nat.le_refl _,l8⟩)).trans H2.b;have q3:=(a0.block b12 (ae ⟨a8.out,a9⟩)).trans H2.c;obtain⟨e0,e1,e2⟩:=fq r3;obtain⟨g0,g1,g2,g3,g4,g5⟩:=ia q3;have H3:=kq2 h3 a0;clear h3 a0 r3 q3 c0 c1 c2 d0 d1 d2 d3 d4 d5;go_wp2_with fail;refine(HG.f _ _ H3.a).mono ?_;rintro e w4 ⟨rfl,h4,a7⟩;have H4:=kq2 (h4.mono (Z:=Y) fun k hk=>ab hk) ((Fo.of_below H2.a HG.g.yl).trans ((H3.b.trans a7).mono fun k hk=>ab hk));clear h4 a7 e0 e1 e2 g0 g1 g2 g3 g4 g5;go_wp2_with fail;go_ret3;exact⟨rfl,H4.out⟩
    ·rename_i hc2;have a':(Fu key k<0)=False:=eq_false hc;have ba:(0<Fu key k)=False:=eq_false hc2;have hs:=Option.some.inj hs;injection hs with e1 e2
     injection e1 with e1 e3
     injection e3 with e3 e4
     subst e1 e2 e3 e4;refine⟨?_,hi,hlt.left,hl,hlt.right⟩;have ai:=True.intro;have ad:=True.intro;obtain⟨⟨⟨k0,k1,k2,k3,k4,k5⟩,er⟩,hE⟩:∃q,getNode S root=q:=⟨_,rfl⟩;rw[hE] at an hlt⊢;simp only at hlt⊢;simp only[gS,eL,eS] at q0 B0 an⊢;have HG:=kq5 an a5 q0 B0 h;clear an a5 q0 B0 ai ad h hi hE hk hjn ih hd h0 hlt hl;go_enter func312,ntmps312;go_wp2_with fail;refine b8 (HG.a _ HG.d) fun w1 hb1=>?_;have ap:=hb1.alloc hb1.size (Xb k0 k1 k2 k3 k4 k5);have q2:=heap_alloc_new w1 (Xb k0 k1 k2 k3 k4 k5);have r2:=(ap.block w.heap.size (by simp)).trans HG.c;have a2:w.heap.size<=w1.heap.size:=by have:=hb1.size;simp at this;omega
     have B2:=HG.d.trans (ap.mono HG.d.size);go_wp2_with fail;generalize w1.alloc (Xb k0 k1 k2 k3 k4 k5)=W at*;generalize w1.heap.size=b12 at*;refine Jc (HG.b _) ?_;obtain⟨c0,c1,c2⟩:=fq r2;obtain⟨d0,d1,d2,d3,d4,d5⟩:=ia q2;have l8:=(gl r2);have a9:=(gl q2);have H2:=kq3 B2 r2 q2;have a8:=If a2;clear hb1 ap q2 r2 B2 a2;go_wp2_with fail;go_quiet (fail)
     go_wp2_with fail;go_ret3;exact⟨rfl,HG.e.below (H2.a.trans ⟨rfl,rfl,rfl,Nat.le_refl _,fun _ _=>rfl⟩),HG.e.keep (H2.a.trans ⟨rfl,rfl,rfl,Nat.le_refl _,fun _ _=>rfl⟩)⟩
