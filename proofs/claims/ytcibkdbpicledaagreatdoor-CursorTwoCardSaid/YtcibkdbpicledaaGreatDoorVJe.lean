/- The store: Make: the walk. -/
import Derived.Test.YtcibkdbpicledaaGreatDoorVTa
import Derived.Defers
import Derived.Deep.RegionHeld3
import Derived.Deep.OwnRows
import Derived.Laws.IdiomStrings
import Derived.Maps.OwnIn
import Derived.Laws.BytesString
import Derived.Test.YtcibkdbpicledaaGreatDoorVCl
set_option maxRecDepth 100000
set_option maxHeartbeats 3200000
namespace Go.Proofs.YtcibkdbpicledaaGreatDoor
open Go.RowKit Tryz Go.BigFrame Go.Maps Go.WideMaps Lf
variable{S:St}{Y:Nat->Prop}{v:Value}{w:World}
theorem eR.of_keep{w w':World}{ps pa pm ph pt:Nat}(h:eR w ps pa pm ph pt v S Y)(hs:w.heap.size<=w'.heap.size)
 (hk:∀k,k<w.heap.size->(¬Y k\/k=ps\/k=ph\/k=fy)->w'.heap[k]?=w.heap[k]?):eR w' ps pa pm ph pt v S Y:=by
 obtain⟨ai,ad⟩:=h.heap.slab;have al:∀k,¬YS Y ps ph pt v k->¬Y k:=fun k hk hy=>hk (ab hy);have ap:¬Y pt:=fun hy=>(h.off pt (ab hy)).1 rfl;refine⟨?_,⟨⟨ai,ad.of_keep hs fun k hkl hkk=>hk k hkl (ab (al k ?_))⟩,?_,h.heap.yh,h.heap.tab.of_block (hk fy h.heap.tab.lt (ae (ae (ae rfl)))),h.heap.yt⟩,h.tab.of_keep (hk pt h.tab.pt_lt (ab ap)) fun b hb=>hk b (h.tab.own_lt hb) (ab fun hy=>(h.off b (ab hy)).2 hb),h.off⟩
 ·rw[hk ps (gl h.hd) (ae (ab rfl))];exact h.hd
 ·rcases hkk with rfl | rfl | ⟨p,hp,rfl⟩
  ·exact ad.ya
  ·exact ad.ym
  ·exact ad.yp p hp
 ·rw[hk ph h.heap.lt (ae (ae (ab rfl)))];exact h.heap.hp
theorem eR.wide{w w':World}{ps pa pm ph pt:Nat}(h:eR w ps pa pm ph pt v S Y)(hb:Below w.heap.size w w'):eR w' ps pa pm ph pt v S (fun k=>Y k\/(w.heap.size<=k/\k<w'.heap.size)):=by
 have h':=h.below hb;refine⟨h'.hd,?_,h'.tab,?_⟩
 ·refine(h.heap.wide hb).mono ?_ (ae (ae (ab rfl))) (ae (ae (ae (ab rfl))));rintro k ((hk | hk) | hk)
  ·exact ab (ab hk)
  ·exact ae hk
  ·exact ab (ae hk)
 ·rintro k ((hk | hk) | hk)
  ·exact h.off k (ab hk)
  ·have h1:=h.tab.pt_lt;refine⟨by omega,fun e=>?_⟩;have:=h.tab.own_lt e;omega
  ·exact h.off k (ae hk)
theorem eR.mono{ps pa pm ph pt:Nat}{Y Z:Nat->Prop}(h:eR w ps pa pm ph pt v S Y)(hz:∀k,Z k->Y k):eR w ps pa pm ph pt v S Z:=
 ⟨h.hd,h.heap.mono (fun _ hk=>hk.imp (hz _) id) (ae (ae (ab rfl))) (ae (ae (ae (ab rfl)))),h.tab,fun k hk=>h.off k (hk.imp (hz k) id)⟩
theorem eR.setCell{ps pa pm ph pt:Nat}(h:eR w ps pa pm ph pt v S Y){b o:Nat}(hy:Y b)(h1:b≠ps)(h2:b≠ph)(h3:b≠fy)(x:Value):eR (w.setCell ⟨b,o,none⟩ x) ps pa pm ph pt v S Y:=
 h.of_keep (dT (size_setCell w _ _).symm) fun k _ hk=>FB (by
  rintro rfl;rcases hk with hk | hk | hk | hk
  ·exact hk hy
  ·exact h1 hk
  ·exact h2 hk
  ·exact h3 hk)
theorem yD{s:Slab}(hw:eQ s)(n:Nat):(fR s n).1.1<=2^60:=by
 have hp:∀p c k,p<=1048576->fF p c k<=2^60:=fun p c k h=>by
  have:=qi c k;unfold fF;omega
 unfold fR
 by_cases h:n<1\/4000<n
 ·rw[if_pos h]
  simp
 ·rw[if_neg h]
  cases hc:gd n with
  | none=>
   simp only;have:=mJ hw (n:=fa n) (by have:=ua (n:=n) (by omega);omega);obtain⟨⟨⟨gp,ge⟩,gs⟩,hg⟩:∃g,s.grant (fa n)=g:=⟨_,rfl⟩;rw[hg] at this⊢;simp only at this
   cases ge with
   | zero=>simp only;omega
   | succ e=>simp
  | some c=>
   simp only
   cases hs:kt s c with
   | some pk=>
    obtain⟨p,k⟩:=pk;simp only[fP];exact hp _ _ _ (by have:=(GJ hw hs).1;omega)
   | none=>
    simp only;have:=mJ hw (n:=1) (by omega);obtain⟨⟨⟨gp,ge⟩,gs⟩,hg⟩:∃g,s.grant 1=g:=⟨_,rfl⟩;rw[hg] at this⊢;simp only at this
    cases ge with
    | zero=>simp only[fP];exact hp _ _ _ (by omega)
    | succ e=>simp
theorem ut:∀(l:List cm) (k:Nat),gH l k<=k+l.length
 | [],k=>Nat.le_refl _
 | x::r,k=>by
  unfold gH;split
  ·simp
  ·have:=ut r (k+1);simp only[av];omega
theorem vZ{t:Hs}(hw:iW t)(a:Nat):(t.open a).1.1<2^64:=by
 have h1:=ut t.slots 0;have h2:=hw.len;have h3:=hw.most;have h4:(t.genAt (gH t.slots 0)+1) % 4294967296<4294967296:=Nat.mod_lt _ (by decide);unfold Hs.open;simp only
 split
 ·simp
 ·simp only[gj];omega
theorem Dn(t:Hs)(a:Nat):(t.open a).2.most=t.most/\(t.open a).2.last=t.last:=by
 unfold Hs.open;simp only;split<;>exact⟨rfl,rfl⟩
theorem Cs{be bs ba:Nat}(he:w.cell? ⟨be,0,none⟩=some (Xi 0)):
 CallsD prog 92 #[PV be,PV bs,PV ba] .returning w fun e u' w'=>u'=.returning/\(e=.returned (.tuple #[])/\w'=w):=by
 go_enter_d func92,ntmps92
 go_wp2_with fail
 go_end0
 exact⟨rfl,rfl⟩
theorem sH{ps:Nat}(h:Ig w ps S Y)(n:Nat)(hn:n<=3998)(ho:(S.t.open (fR S.a (n+2)).1.1).1.2=0):
 Ct 68 #[PV ps,Xi n] w fun e w'=>e=.returned (.tuple #[Xu ((S.make n).1.1:Nat),Xi ((S.make n).1.2:Nat)])/\Ig w' ps (S.make n).2 Y/\Fo Y w w':=by
 have cc:(n:Int)<=3998:=by omega
 have ap:=((aa _ w).alloc Ih (Xk ps)).alloc (by simp) (.cells #[Xi 0] 30);obtain⟨pa,pm,ph,pt,v,h⟩:=h;have h1:=h.wide ap;have au:=sI ⟨_,_,_,_,_,h1⟩;have b8:ph<w.heap.size/\pt<w.heap.size/\ps<w.heap.size/\fy<w.heap.size/\∀b,v.ownBlock=some b->b<w.heap.size:=⟨h.heap.lt,h.tab.pt_lt,(gl h.hd),h.heap.tab.lt,fun b hb=>h.tab.own_lt hb⟩;have ch:((w.alloc (Xk ps)).alloc (.cells #[Xi 0] 30)).heap.size=w.heap.size+2:=by simp
 have k0:((w.alloc (Xk ps)).alloc (.cells #[Xi 0] 30)).heap[w.heap.size]?=some (.cells #[PV ps] 25 (0,0)):=by
  rw[heap_alloc_old _ _ (by simp)];exact heap_alloc_new w _
 have k1:((w.alloc (Xk ps)).alloc (.cells #[Xi 0] 30)).heap[w.heap.size+1]?=some (.cells #[Xi 0] 30 (0,0)):=by
  have:=heap_alloc_new (w.alloc (Xk ps)) (.cells #[Xi 0] 30);rwa[World.size_alloc] at this
 have hR:S.make n=match fR S.a (n+2) with
  | ((addr,0),a1)=>
   match S.t.open addr with
   | ((h,0),t1)=>((h,0),⟨(a1.wr addr h).wr (addr+1) n,t1⟩)
   | ((_,e),t1)=>((0,e),⟨(iM a1 addr).2,t1⟩)
  | ((_,e),a1)=>((0,e),{ S with a:=a1 }):=by unfold St.make;rw[if_neg (by omega)];rfl
 obtain⟨R,a'⟩:=Ii (S.make n);rw[a'] at hR⊢;have ar:=heap_alloc h1.heap (n+2) (by omega);have bs:=yD h1.heap.wf (n+2);obtain⟨⟨⟨ad,er⟩,a1⟩,hA⟩:∃r,fR S.a (n+2)=r:=⟨_,rfl⟩;rw[hA] at hR ho ar bs;simp only at hR ho ar bs;have ba:((n+2:Nat):Int)=(n:Int)+2:=by omega
 rw[ba] at ar;have HG:=kq9 au ar h1 h ap k0 k1 hR ho
 cases er with
 | succ er=>
  have b9:(((er+1:Nat):Int) !=0)=true:=by simp;omega
  obtain⟨g1,bb⟩:=Ii (er+1);rw[bb] at HG b9 ar hR;have cd:¬(g1:Int)=0:=by omega
  have bo:R=((0,g1),{ S with a:=a1 }):=by rw[hR,<-bb];rfl
  have b2:=If bo;clear bo;clear au ar h1 h ap k0 k1 hR ho a' hA ba bb
  go_enter_defers func68,ntmps68
  go_wp2_with fail;generalize ((w.alloc (Xk ps)).alloc (.cells #[Xi 0] 30))=W1 at*;obtain⟨au,ar,h1,h,ap,k0,k1,hR,ho⟩:=HG.out;refine Jc au ?_;obtain⟨_,_,_,c3,c4⟩:=h1.cells;have d0:W1.cell? ⟨w.heap.size,0,none⟩=some (PV ps):=by rw[cell_of_block k0];rfl
  clear au ar h1 h ap k0 k1 hR ho c4;go_wp2_with fail;refine HG.b.mono ?_;rintro e w2 ⟨rfl,a5,al⟩;obtain⟨au,ar,h1,h,ap,k0,k1,hR,ho⟩:=HG.out;have h2:=h1.arena a5 al;have a0:=al.size;have j0:w2.heap[w.heap.size]?=some (.cells #[PV ps] 25 (0,0)):=(al.block _ (ab (ae ⟨Nat.le_refl _,by omega⟩))).trans k0;have j1:w2.heap[w.heap.size+1]?=some (.cells #[Xi 0] 30 (0,0)):=(al.block _ (ab (ae ⟨by omega,by omega⟩))).trans k1;have e1:w2.cell? ⟨w.heap.size+1,0,none⟩=some (Xi 0):=by rw[cell_of_block j1];rfl
  have f1:w2.frozen? ⟨w.heap.size+1,0,none⟩=false:=AT j1;have b4:w.heap.size+1<w2.heap.size:=by omega
  have H2:=kq5 h2 a0 j0 j1 al;clear au ar h1 h ap k0 k1 hR ho h2 a0 j0 j1 a5 al c3 d0;go_wp2_with fail
  go_region
  go_wp2_with fail;obtain⟨_,_,h1,h,ap,_,_,hR,_⟩:=HG.out;obtain⟨h2,a0,j0,j1,al⟩:=H2.out;have x1:((w2.setCell ⟨w.heap.size+1,0,none⟩ (Xi g1)).setCell ⟨w.heap.size+1,0,none⟩ (Xi g1)).heap[w.heap.size+1]?=some (.cells #[Xi g1] 30 (0,0)):=by
   rw[heap_setCell (heap_setCell j1)]
   rfl
  have x2:=(h2.setCell (b:=w.heap.size+1) (o:=0) (ae ⟨by omega,by omega⟩) (by omega) (by omega) (by omega) (Xi g1)).setCell (b:=w.heap.size+1) (o:=0) (ae ⟨by omega,by omega⟩) (by omega) (by omega) (by omega) (Xi g1);have x3:=((aa _ ((w2.setCell ⟨w.heap.size+1,0,none⟩ (Xi g1)).setCell ⟨w.heap.size+1,0,none⟩ (Xi g1))).alloc Ih (Xl ad));have x4:=(x2.below x3).below (w':=(((w2.setCell ⟨w.heap.size+1,0,none⟩ (Xi g1)).setCell ⟨w.heap.size+1,0,none⟩ (Xi g1)).alloc (Xl ad)).drew) ⟨rfl,rfl,rfl,Nat.le_refl _,fun _ _=>rfl⟩;have x5:∀k,k<w.heap.size->(((w2.setCell ⟨w.heap.size+1,0,none⟩ (Xi g1)).setCell ⟨w.heap.size+1,0,none⟩ (Xi g1)).alloc (Xl ad)).drew.heap[k]?=w2.heap[k]?:=fun k hk=>by
   show (World.alloc _ _).heap[k]?=_
   rw[heap_alloc_old _ _ (by simp;omega),FB (by omega),FB (by omega)]
  have x6:(((w2.setCell ⟨w.heap.size+1,0,none⟩ (Xi g1)).setCell ⟨w.heap.size+1,0,none⟩ (Xi g1)).alloc (Xl ad)).drew.cell? ⟨w.heap.size+1,0,none⟩=some (Xi g1):=by
   show (World.alloc _ _).cell? _=_
   rw[cell_of_block (by rw[heap_alloc_old _ _ (by simp;omega)];exact x1)]
   rfl
  have x7:w2.heap.size<=(((w2.setCell ⟨w.heap.size+1,0,none⟩ (Xi g1)).setCell ⟨w.heap.size+1,0,none⟩ (Xi g1)).alloc (Xl ad)).drew.heap.size:=by
   show _<=(World.alloc _ _).heap.size
   simp
  have x8:(((w2.setCell ⟨w.heap.size+1,0,none⟩ (Xi g1)).setCell ⟨w.heap.size+1,0,none⟩ (Xi g1)).alloc (Xl ad)).drew.os=w2.os/\(((w2.setCell ⟨w.heap.size+1,0,none⟩ (Xi g1)).setCell ⟨w.heap.size+1,0,none⟩ (Xi g1)).alloc (Xl ad)).drew.tape=w2.tape/\(((w2.setCell ⟨w.heap.size+1,0,none⟩ (Xi g1)).setCell ⟨w.heap.size+1,0,none⟩ (Xi g1)).alloc (Xl ad)).drew.output=w2.output:=⟨rfl,rfl,rfl⟩;obtain rfl:=b2.out;generalize (((w2.setCell ⟨w.heap.size+1,0,none⟩ (Xi g1)).setCell ⟨w.heap.size+1,0,none⟩ (Xi g1)).alloc (Xl ad)).drew=W9 at*;refine⟨.tuple #[Xu 0,Xi g1],?_,rfl,⟨_,_,_,_,_,x4.mono fun k hk=>ab hk⟩,?_⟩
  ·simp[results,f68,go_sem,x6]
  ·refine⟨x8.1.trans (al.os.trans ap.os),x8.2.1.trans (al.tape.trans ap.tape),x8.2.2.trans (al.output.trans ap.output),by omega,fun k hk=>?_⟩;have a6:=h.yl k hk;rw[x5 k a6,al.block k (ab (ab hk)),ap.block k a6]
 | zero=>
  clear au ar h1 h ap k0 k1 hR ho a' hA ba
  go_enter_defers func68,ntmps68
  go_wp2_with fail;generalize ((w.alloc (Xk ps)).alloc (.cells #[Xi 0] 30))=W1 at*;obtain⟨au,ar,h1,h,ap,k0,k1,hR,ho⟩:=HG.out;refine Jc au ?_;obtain⟨_,_,_,c3,c4⟩:=h1.cells;have d0:W1.cell? ⟨w.heap.size,0,none⟩=some (PV ps):=by rw[cell_of_block k0];rfl
  clear au ar h1 h ap k0 k1 hR ho c4;go_wp2_with fail;refine HG.b.mono ?_;rintro e w2 ⟨rfl,a5,al⟩;obtain⟨au,ar,h1,h,ap,k0,k1,hR,ho⟩:=HG.out;have h2:=h1.arena a5 al;have a0:=al.size;have j0:w2.heap[w.heap.size]?=some (.cells #[PV ps] 25 (0,0)):=(al.block _ (ab (ae ⟨Nat.le_refl _,by omega⟩))).trans k0;have j1:w2.heap[w.heap.size+1]?=some (.cells #[Xi 0] 30 (0,0)):=(al.block _ (ab (ae ⟨by omega,by omega⟩))).trans k1;have e1:w2.cell? ⟨w.heap.size+1,0,none⟩=some (Xi 0):=by rw[cell_of_block j1];rfl
  have f1:w2.frozen? ⟨w.heap.size+1,0,none⟩=false:=AT j1;have b4:w.heap.size+1<w2.heap.size:=by omega
  have H2:=kq5 h2 a0 j0 j1 al;clear au ar h1 h ap k0 k1 hR ho h2 a0 j0 j1 a5 al c3 d0;go_wp2_with fail
  go_name_world W3 HW3
  obtain⟨⟨⟨hh,he⟩,t1⟩,hO⟩:∃r,S.t.open ad=r:=⟨_,rfl⟩;obtain⟨h2,a0,j0,j1,al⟩:=H2.out;have bt:Below (w2.setCell ⟨w.heap.size+1,0,none⟩ (Xi 0)).heap.size (w2.setCell ⟨w.heap.size+1,0,none⟩ (Xi 0)) ((w2.setCell ⟨w.heap.size+1,0,none⟩ (Xi 0)).alloc (Xl ad)):=(aa _ _).alloc Ih _;have h3:=(h2.setCell (b:=w.heap.size+1) (o:=0) (ae ⟨by omega,by omega⟩) (by omega) (by omega) (by omega) (Xi 0)).wide bt;have z3:((w2.setCell ⟨w.heap.size+1,0,none⟩ (Xi 0)).alloc (Xl ad)).heap.size=w2.heap.size+1:=by simp
  have g0:((w2.setCell ⟨w.heap.size+1,0,none⟩ (Xi 0)).alloc (Xl ad)).heap[w.heap.size]?=some (.cells #[PV ps] 25 (0,0)):=by
   rw[heap_alloc_old _ _ (by simp;omega),FB (by omega)];exact j0
  have g1:((w2.setCell ⟨w.heap.size+1,0,none⟩ (Xi 0)).alloc (Xl ad)).heap[w.heap.size+1]?=some (.cells #[Xi 0] 30 (0,0)):=by
   rw[heap_alloc_old _ _ (by simp;omega),heap_setCell j1]
   rfl
  have g2:((w2.setCell ⟨w.heap.size+1,0,none⟩ (Xi 0)).alloc (Xl ad)).heap[w2.heap.size]?=some (.cells #[Xi ad] 3 (0,0)):=by
   have:=heap_alloc_new (w2.setCell ⟨w.heap.size+1,0,none⟩ (Xi 0)) (Xl ad);rwa[size_setCell] at this
  have a4:∀k,k<w2.heap.size->k≠w.heap.size+1->((w2.setCell ⟨w.heap.size+1,0,none⟩ (Xi 0)).alloc (Xl ad)).heap[k]?=w2.heap[k]?:=fun k hk hne=>by
   rw[heap_alloc_old _ _ (by simp;omega),FB hne]
  have a2:((w2.setCell ⟨w.heap.size+1,0,none⟩ (Xi 0)).alloc (Xl ad)).os=w2.os/\((w2.setCell ⟨w.heap.size+1,0,none⟩ (Xi 0)).alloc (Xl ad)).tape=w2.tape/\((w2.setCell ⟨w.heap.size+1,0,none⟩ (Xi 0)).alloc (Xl ad)).output=w2.output:=⟨rfl,rfl,rfl⟩;clear bt;simp only[size_setCell] at h3;rw[HW3] at h3 z3 g0 g1 g2 a4 a2;rw[z3] at h3;obtain⟨au,ar,h1,h,ap,k0,k1,hR,ho⟩:=HG.out;rw[hO] at ho;simp only at ho;subst ho;have a3:=vZ h3.tab.wf ad;have a8:=Dn S.t ad;simp only at a3;rw[hO] at a3 a8;simp only at a3 a8;have d0:W3.cell? ⟨w.heap.size,0,none⟩=some (PV ps):=by rw[cell_of_block g0];rfl
  have d1:W3.cell? ⟨w.heap.size+1,0,none⟩=some (Xi 0):=by rw[cell_of_block g1];rfl
  have d2:W3.cell? ⟨w2.heap.size,0,none⟩=some (Xi ad):=by rw[cell_of_block g2];rfl
  have bf:W3.frozen? ⟨w.heap.size+1,0,none⟩=false:=AT g1;have d4:=h3.cells.2.2.2.2;have a9:∀q,Ct 94 #[PV pt,Xi ad] (W3.drewN q) fun e w'=>e=.returned (.tuple #[Xu hh,Xi 0])/\(w'.cell? ⟨w.heap.size,0,none⟩=some (PV ps)/\w'.cell? ⟨ps,4,none⟩=some (PV pt)/\w'.cell? ⟨w2.heap.size,0,none⟩=some (Xi ad))/\(w'.cell? ⟨w.heap.size+1,0,none⟩=some (Xi 0)/\w'.frozen? ⟨w.heap.size+1,0,none⟩=false)/\∃v',eR w' ps pa pm ph pt v' ⟨a1,t1⟩ (fun k=>(Y k\/w.heap.size<=k/\k<W1.heap.size)\/w2.heap.size<=k/\k<w2.heap.size+1)/\Fo (fun k=>k<W3.heap.size/\k≠pt/\v.ownBlock≠some k) W3 w':=fun q=>by
   have bj:=h3.below (w':=W3.drewN q) ⟨rfl,rfl,rfl,Nat.le_refl _,fun _ _=>rfl⟩;have bc:=EL bj.tab ad (by omega) (fun k=>k<W3.heap.size/\k≠pt/\v.ownBlock≠some k) (fun b hb=>⟨hb.1,hb.2.1,fun e=>hb.2.2 e.symm⟩);simp only at bc;rw[hO] at bc;refine bc.mono ?_;rintro e w' ⟨rfl,⟨v',ht,b'⟩,hk⟩;have hZ:∀k,k<w2.heap.size+1->w.heap.size<=k\/k=ps->k<W3.heap.size/\k≠pt/\v.ownBlock≠some k:=fun k hk1 al=>by
    refine⟨by omega,?_,fun e=>?_⟩
    ·rcases al with al | rfl
     ·omega
     ·exact(h.off _ (ae (ab rfl))).1
    ·rcases al with al | rfl
     ·have:=b8.2.2.2.2 k e;omega
     ·exact(h.off _ (ae (ab rfl))).2 e
   have n0:=hk.block w.heap.size (hZ _ (by omega) (ab Ih));have n1:=hk.block (w.heap.size+1) (hZ _ (by omega) (ab (by omega)));have n2:=hk.block w2.heap.size (hZ _ (by omega) (ab (by omega)));have n3:=hk.block ps (hZ _ (by omega) (ae rfl));refine⟨rfl,⟨(World.cell?_of_block n0).trans d0,(World.cell?_of_block n3).trans d4,(World.cell?_of_block n2).trans d2⟩,⟨(World.cell?_of_block n1).trans d1,(World.frozen?_of_block n1).trans bf⟩,v',?_,⟨hk.os,hk.tape,hk.output,hk.size,hk.block⟩⟩;exact bj.table ht a8 _ (fun k h1 h2 h3=>⟨h1,h2,h3⟩) hk (fun b hb e=>b' b hb e.symm)
  have H3:=kq10 h3 z3 g0 g1 g2 a4 a2 a9 a3 hO;clear au ar h1 h ap k0 k1 hR h3 z3 g0 g1 g2 a4 a2 a9 a3 hO a8 h2 a0 j0 j1 al e1 f1 HW3
  go_region_held3 (fun w'=>w'.cell? ⟨w.heap.size,0,none⟩=some (PV ps)/\w'.cell? ⟨ps,4,none⟩=some (PV pt)/\w'.cell? ⟨w2.heap.size,0,none⟩=some (Xi ad)) (first | exact⟨d0,d4,d2⟩ | exact hQ | exact⟨(World.cell?_of_block (FB (show w.heap.size≠w.heap.size+1 by omega))).trans hQ.1,(World.cell?_of_block (FB (show ps≠w.heap.size+1 by omega))).trans hQ.2.1,(World.cell?_of_block (FB (show w2.heap.size≠w.heap.size+1 by omega))).trans hQ.2.2⟩)
   (first | (go_at_call 94;refine(H3.h 1).mono ?_;rintro e w4 ⟨rfl,hQ,⟨e4,f4⟩,v',h4,k4⟩))
  obtain⟨h3,z3,g0,g1,g2,a4,a2,a9,a3,hO⟩:=H3.out;have h5:=h4.setCell (b:=w.heap.size+1) (o:=0) (ab (ae ⟨by omega,by omega⟩)) (by omega) (by omega) (by omega) (Xi 0);have q0:(w4.setCell ⟨w.heap.size+1,0,none⟩ (Xi 0)).cell? ⟨w.heap.size,0,none⟩=some (PV ps):=(World.cell?_of_block (FB (show w.heap.size≠w.heap.size+1 by omega))).trans hQ.1;have q2:(w4.setCell ⟨w.heap.size+1,0,none⟩ (Xi 0)).cell? ⟨w2.heap.size,0,none⟩=some (Xi ad):=(World.cell?_of_block (FB (show w2.heap.size≠w.heap.size+1 by omega))).trans hQ.2.2;have q1:(w4.setCell ⟨w.heap.size+1,0,none⟩ (Xi 0)).cell? ⟨w.heap.size+1,0,none⟩=some (Xi 0):=World.cell?_setCell_same' _ _ _ (by rw[e4];rfl);have bv:(w4.setCell ⟨w.heap.size+1,0,none⟩ (Xi 0)).frozen? ⟨w.heap.size+1,0,none⟩=false:=by rw[World.frozen?_setCell];exact f4
  have q3:=h5.cells.2.2.1;have k5:∀k,k<w.heap.size->k≠pt->v.ownBlock≠some k->(w4.setCell ⟨w.heap.size+1,0,none⟩ (Xi 0)).heap[k]?=W3.heap[k]?:=fun k h1 h2 h3=>by
   rw[FB (by omega)];exact k4.block k ⟨by omega,h2,h3⟩
  have s5:W3.heap.size<=(w4.setCell ⟨w.heap.size+1,0,none⟩ (Xi 0)).heap.size:=by rw[size_setCell];exact k4.size
  have o5:(w4.setCell ⟨w.heap.size+1,0,none⟩ (Xi 0)).os=W3.os/\(w4.setCell ⟨w.heap.size+1,0,none⟩ (Xi 0)).tape=W3.tape/\(w4.setCell ⟨w.heap.size+1,0,none⟩ (Xi 0)).output=W3.output:=⟨k4.os,k4.tape,k4.output⟩;generalize w4.setCell ⟨w.heap.size+1,0,none⟩ (Xi 0)=W5 at*;have H5:=kq6 h5 k5 s5 o5 z3 a3;clear h3 z3 g0 g1 g2 a4 a2 a9 a3 hO h5 k5 s5 o5 hQ e4 f4 h4 k4 d0 d1 d2 bf d4;go_wp2_with fail;refine lD (C:=fun w'=>∃q:Nat,w'=(W5).drewN q) 6 (by kernel_rfl) (by kernel_rfl) ⟨1,rfl⟩ ?_;simp only[bP,cB,bX,cL]
  repeat (first | go_big_quiet_skip | (go_big_quiet_want;go_big_quiet_op;first | go_big_quiet_on))
  refine wpQuiet_nil ?_;rintro _ ⟨q,rfl⟩;have a7:=((H5.a.below (w':=W5.drewN q) ⟨rfl,rfl,rfl,Nat.le_refl _,fun _ _=>rfl⟩).heap.write' ad hh (ai:=ad) (xi:=hh) (by omega) H5.f rfl rfl);go_wp2_with fail;refine a7.mono ?_;rintro e w6 ⟨rfl,bk,k6⟩;have h6:=(H5.a.below (w':=W5.drewN q) ⟨rfl,rfl,rfl,Nat.le_refl _,fun _ _=>rfl⟩).arena bk k6;have y0:∀k,w.heap.size<=k->k<w.heap.size+2->w6.heap[k]?=W5.heap[k]?:=fun k h1 h2=>k6.block k (ab (ab (ae ⟨h1,by omega⟩)));have y2:w6.heap[w2.heap.size]?=W5.heap[w2.heap.size]?:=k6.block _ (ab (ae ⟨Nat.le_refl _,by omega⟩));have b1:=y0 w.heap.size Ih (by omega);have bd:=y0 (w.heap.size+1) (by omega) (by omega);have u0:w6.cell? ⟨w.heap.size,0,none⟩=some (PV ps):=(World.cell?_of_block b1).trans q0;have u1:w6.cell? ⟨w.heap.size+1,0,none⟩=some (Xi 0):=(World.cell?_of_block bd).trans q1;have b0:w6.frozen? ⟨w.heap.size+1,0,none⟩=false:=(World.frozen?_of_block bd).trans bv;have u2:w6.cell? ⟨w2.heap.size,0,none⟩=some (Xi ad):=(World.cell?_of_block y2).trans q2;have u3:=h6.cells.2.2.1;have H6:=kq2 h6 k6;clear h6 k6 bk a7 y0 b1 bd y2 q0 q1 bv q2 q3;go_wp2_with fail;refine lD (C:=fun w'=>∃q:Nat,w'=(w6).drewN q) 8 (by kernel_rfl) (by kernel_rfl) ⟨1,rfl⟩ ?_;simp only[bP,cB,bX,cL]
  repeat (first | go_big_quiet_skip | (go_big_quiet_want;go_big_quiet_op;first | go_big_quiet_on))
  refine wpQuiet_nil ?_;rintro _ ⟨q,rfl⟩;have a7:=((H6.a.below (w':=w6.drewN q) ⟨rfl,rfl,rfl,Nat.le_refl _,fun _ _=>rfl⟩).heap.write' (ad+1) n (ai:=(ad:Int)+1) (xi:=n) (by omega) (by omega) (by omega) rfl);go_wp2_with fail;refine a7.mono ?_;rintro e w7 ⟨rfl,bm,k7⟩;have h7:=(H6.a.below (w':=w6.drewN q) ⟨rfl,rfl,rfl,Nat.le_refl _,fun _ _=>rfl⟩).arena bm k7;have y1:w7.heap[w.heap.size+1]?=w6.heap[w.heap.size+1]?:=k7.block _ (ab (ab (ae ⟨by omega,by omega⟩)));have v1:w7.cell? ⟨w.heap.size+1,0,none⟩=some (Xi 0):=(World.cell?_of_block y1).trans u1;have cj:w7.frozen? ⟨w.heap.size+1,0,none⟩=false:=(World.frozen?_of_block y1).trans b0;have H7:=kq2 h7 k7;clear h7 k7 bm a7 y1 u0 u1 b0 u2 u3;go_wp2_with fail;refine leaves_cons (f:=92) (args:=#[PV (w.heap.size+1),PV w.heap.size,PV w2.heap.size]) (by simp) (by simp[go_sem]) ?_;refine(Cs (w:=w7.setCell ⟨w.heap.size+1,0,none⟩ (Xi 0)) (World.cell?_setCell_same' _ _ _ (by rw[v1];rfl))).mono ?_;rintro e u' ck ⟨rfl,rfl,rfl⟩;have x1:(w7.setCell ⟨w.heap.size+1,0,none⟩ (Xi 0)).cell? ⟨w.heap.size+1,0,none⟩=some (Xi 0):=World.cell?_setCell_same' _ _ _ (by rw[v1];rfl);obtain⟨_,_,h1,h,ap,_,_,hR,_⟩:=HG.out;obtain⟨_,a0,_,_,al⟩:=H2.out;obtain⟨_,_,_,_,_,a4,a2,_,_,hO⟩:=H3.out;obtain⟨_,k5,s5,o5,_,_⟩:=H5.out;obtain⟨_,k6⟩:=H6.out;obtain⟨h7,k7⟩:=H7.out;rw[hO] at hR;obtain rfl:R=((hh,0),⟨(a1.wr ad hh).wr (ad+1) n,t1⟩):=hR;have ca:=k6.size;have cb:=k7.size;simp only[AG] at ca cb;refine⟨.tuple #[Xu hh,Xi 0],?_,rfl,⟨_,_,_,_,_,(h7.setCell (b:=w.heap.size+1) (o:=0) (ab (ae ⟨by omega,by omega⟩)) (by omega) (by omega) (by omega) (Xi 0)).mono fun k hk=>ab (ab hk)⟩,?_⟩
  ·simp[results,f68,go_sem,x1]
  ·refine⟨k7.os.trans (k6.os.trans (o5.1.trans (a2.1.trans (al.os.trans ap.os)))),k7.tape.trans (k6.tape.trans (o5.2.1.trans (a2.2.1.trans (al.tape.trans ap.tape)))),k7.output.trans (k6.output.trans (o5.2.2.trans (a2.2.2.trans (al.output.trans ap.output)))),?_,fun k hk=>?_⟩
   ·rw[size_setCell];omega
   ·have a6:=h.yl k hk;have bu:=h.off k (ab hk);rw[FB (by omega)];refine(k7.block k (ab (ab (ab hk)))).trans ((k6.block k (ab (ab (ab hk)))).trans ?_);rw[show (W5.drewN _).heap[k]?=W5.heap[k]? from rfl,k5 k a6 bu.1 bu.2,a4 k (by omega) (by omega),al.block k (ab (ab hk)),ap.block k a6]
end Go.Proofs.YtcibkdbpicledaaGreatDoor
namespace Go.Proofs.YtcibkdbpicledaaGreatDoor
open Lf
variable{S:St}
theorem vy(p i x:Nat):∀(l:List (Nat×fQ)) (q:Nat),(l.map fun y=>if y.1=p then(y.1,y.2.set i x) else y).lookup q=(l.lookup q).map fun t=>if q=p then t.set i x else t
 | [],q=>rfl
 | (a,t)::l,q=>by
  have ih:=vy p i x l q;by_cases h2:a=p
  ·have e:((a,t)::l).map (fun y=>if y.1=p then(y.1,y.2.set i x) else y)=(a,t.set i x)::l.map (fun y=>if y.1=p then(y.1,y.2.set i x) else y):=by simp[h2]
   rw[e,dp,dp];by_cases h1:q=a
   ·simp[h1,h2]
   ·have ad:(q==a)=false:=by simpa using h1
    simp only[ad];exact ih
  ·have e:((a,t)::l).map (fun y=>if y.1=p then(y.1,y.2.set i x) else y)=(a,t)::l.map (fun y=>if y.1=p then(y.1,y.2.set i x) else y):=by simp[h2]
   rw[e,dp,dp];by_cases h1:q=a
   ·simp[h1,h2]
   ·have ad:(q==a)=false:=by simpa using h1
    simp only[ad];exact ih
theorem Lf.Slab.page?_wr(s:Slab)(a x q:Nat):(s.wr a x).page? q=(s.page? q).map fun t=>if q=a / 64 then t.set (a % 64) x else t:=vy (a / 64) (a % 64) x s.pages q
theorem Lf.Slab.rd_wr_ne(s:Slab)(a x b:Nat)(h:b≠a):(s.wr a x).rd b=s.rd b:=by
 unfold Slab.rd;rw[Slab.page?_wr]
 cases s.page? (b / 64) with
 | none=>rfl
 | some t=>
  simp only[cZ]
  by_cases e:b / 64=a / 64
  ·rw[if_pos e];have:a % 64≠b % 64:=by omega
   simp[List.getD_eq_getElem?_getD,List.getElem?_set_ne this]
  ·rw[if_neg e]
theorem Lf.St.place_some{h k p:Nat}(hp:S.place h k=(p,0)):∃j,S.t.of h=some j/\∃hj:j<S.t.slots.length,p=S.t.slots[j].addr+2+k/\k<S.a.rd (S.t.slots[j].addr+1)/\S.t.slots[j].is=1:=by
 cases hk:S.t.of h with
 | none=>
  unfold St.place at hp;rw[St.at_none hk] at hp
  simp at hp
 | some j=>
  obtain⟨hj,h1,_⟩:=Hs.of_lt hk;refine⟨j,rfl,hj,?_⟩;unfold St.place at hp;rw[St.at_some hk hj] at hp;simp only at hp
  split at hp
  ·rename_i hlt;simp only[Prod.mk.injEq,and_true] at hp;exact⟨hp.symm,hlt,h1⟩
  ·simp at hp
theorem Fv.place_ne(hi:Fv S){h k p:Nat}(hp:S.place h k=(p,0))(i:Nat)(hl:i<S.t.slots.length)(h1:S.t.slots[i].is=1):S.t.slots[i].addr+1≠p:=by
 obtain⟨j,_,hj,rfl,hk,h2⟩:=St.place_some hp
 by_cases e:i=j
 ·subst e;omega
 ·have:=hi.apart i j hl hj e h1 h2;omega
theorem Fv.put(hi:Fv S)(h k x:Nat):Fv (S.put h k x).2:=by
 rw[St.put_place]
 rcases S.place_cases h k with⟨p,hp⟩ | ⟨e,hp⟩
 ·rw[hp];have key:∀(i:Nat) (hl:i<S.t.slots.length),S.t.slots[i].is=1->(S.a.wr p x).rd (S.t.slots[i].addr+1)=S.a.rd (S.t.slots[i].addr+1):=fun i hl h1=>Slab.rd_wr_ne _ _ _ _ (hi.place_ne hp i hl h1);refine⟨fun i hl h1=>?_,fun i j hl hj hne h1 h2=>?_⟩
  ·have ad:S.t.slots[i].is=1:=h1
   show (S.a.wr p x).rd (S.t.slots[i].addr+1)<=3998/\_
   rw[key i hl ad];exact hi.len i hl ad
  ·show S.t.slots[i].addr+2+(S.a.wr p x).rd (S.t.slots[i].addr+1)<=S.t.slots[j].addr\/S.t.slots[j].addr+2+(S.a.wr p x).rd (S.t.slots[j].addr+1)<=S.t.slots[i].addr
   rw[key i hl h1,key j hj h2];exact hi.apart i j hl hj hne h1 h2
 ·rw[hp];exact hi
theorem wD(S:St)(h k x:Nat):(S.put h k x).2.t=S.t:=by
 rw[St.put_place];rcases S.place_cases h k with⟨p,hp⟩ | ⟨e,hp⟩<;>· rw[hp];rfl
theorem Fv.put_at(hi:Fv S)(h k x h':Nat):(S.put h k x).2.at h'=S.at h':=by
 cases hk:S.t.of h' with
 | none=>rw[St.at_none hk,St.at_none (by rw[wD];exact hk)]
 | some j=>
  obtain⟨hj,h1,_⟩:=Hs.of_lt hk;rw[St.at_some hk hj];rw[St.put_place]
  rcases S.place_cases h k with⟨p,hp⟩ | ⟨e,hp⟩
  ·rw[hp];refine(St.at_some (S:= { S with a:=S.a.wr p x }) (h:=h') hk hj).trans ?_
   show (S.t.slots[j].addr,(S.a.wr p x).rd (S.t.slots[j].addr+1),0)=_
   rw[Slab.rd_wr_ne _ _ _ _ (hi.place_ne hp j hj h1)]
  ·rw[hp];exact St.at_some hk hj
theorem rV(h:Nat):∀(l:List Nat) (S:St) (k:Nat),Fv S->Fv (FC S h k l)/\(∀h',(FC S h k l).at h'=S.at h')/\(FC S h k l).t=S.t
 | [],S,k,hi=>⟨hi,fun _=>rfl,rfl⟩
 | x::r,S,k,hi=>by
  obtain⟨h1,h2,h3⟩:=rV h r (S.put h k x).2 (k+1) (hi.put h k x);exact⟨h1,fun h'=>(h2 h').trans (hi.put_at h k x h'),h3.trans (wD S h k x)⟩
theorem yL(S:St):S.at 0=(0,0,7):=St.at_none (by rfl)
theorem fU(S:St):S.len 0=(0,7):=by unfold St.len;rw[yL]
end Go.Proofs.YtcibkdbpicledaaGreatDoor
namespace Go.Proofs.YtcibkdbpicledaaGreatDoor.Lf
def FN(l:List UInt8)(i:Nat):Nat:=(l.getD i 0).toNat
theorem mC(l:List UInt8)(i:Nat):FN l i<256:=(l.getD i 0).toNat_lt
def gx(l:List UInt8)(j:Nat):Nat->Nat
 | 0=>0
 | r+1=>gx l j r*256+FN l (8*j+r)
theorem wj(l:List UInt8)(j:Nat):∀r,gx l j r<256^r
 | 0=>by simp[gx]
 | r+1=>by
  have:=wj l j r;have:=mC l (8*j+r);simp only[gx,Nat.pow_succ];omega
theorem GS(l:List UInt8)(j:Nat):nV (l.drop (8*j))=gx l j 8:=by
 have h:∀q,(l.drop (8*j)).getD q 0=l.getD (8*j+q) 0:=fun q=>by
  simp[List.getD_eq_getElem?_getD,List.getElem?_drop]
 simp only[nV,show List.range 8=[0,1,2,3,4,5,6,7] from rfl,List.foldl_cons,List.foldl_nil,h]
 simp[gx,FN]
def cell(l:List UInt8)(j r:Nat):Nat:=gx l j r*256^(8-r)
theorem cell_lt(l:List UInt8)(j r:Nat)(h:r<=8):cell l j r<2^64:=by
 have h1:=wj l j r;have h2:256^r*256^(8-r)=2^64:=by rw[<-Nat.pow_add,show r+(8-r)=8 by omega]
 have h3:0<256^(8-r):=Nat.pow_pos (by decide);unfold cell;rw[<-h2];exact cR h1 h3
theorem tY(l:List UInt8)(j r:Nat)(h:r<8):cell l j (r+1)=cell l j r+FN l (8*j+r)*2^(8*(7-r)):=by
 have e:256^(8-r)=256*256^(7-r):=by rw[show 8-r=(7-r)+1 by omega,Nat.pow_succ,Nat.mul_comm]
 have e2:2^(8*(7-r))=256^(7-r):=by rw[Nat.pow_mul]
 unfold cell;rw[e,e2,show 8-(r+1)=7-r by omega];simp only[gx,Nat.add_mul,Nat.mul_assoc]
theorem Ag(l:List UInt8)(j r:Nat)(h:r<8):cell l j r ||| FN l (8*j+r)*2^(8*(7-r))=cell l j (r+1):=by
 have e:cell l j r=gx l j r<<<(8*(8-r)):=by
  rw[Nat.shiftLeft_eq,Nat.pow_mul]
  rfl
 have h1:FN l (8*j+r)*2^(8*(7-r))<2^(8*(8-r)):=by
  rw[show 8*(8-r)=8+8*(7-r) by omega,Nat.pow_add];exact cR (mC _ _) (Nat.pow_pos (by decide))
 rw[tY l j r h,e];exact(cN h1 _).symm
theorem Ah(l:List UInt8)(j:Nat):cell l j 0=0:=by simp[cell,gx]
theorem Ad(l:List UInt8)(i:Nat)(h:l.length<=i):FN l i=0:=by
 simp[FN,List.getD_eq_getElem?_getD,List.getElem?_eq_none h]
theorem tX(l:List UInt8)(j r:Nat)(h:l.length<=8*j+r):∀d,r+d<=8->cell l j (r+d)=cell l j r
 | 0,_=>rfl
 | d+1,hd=>by
  have:=tY l j (r+d) (by omega);rw[Ad l _ (by omega),Nat.zero_mul,Nat.add_zero] at this;rw[<-dy,this];exact tX l j r h d (by omega)
theorem tV(l:List UInt8)(j:Nat):cell l j 8=nV (l.drop (8*j)):=by rw[GS];simp[cell]
def iC(l:List UInt8)(i:Nat):List Nat:=l.length::(List.range ((l.length+7) / 8)).map fun j=>cell l j (min 8 (i-8*j))
theorem Cd(l:List UInt8)(i:Nat):(iC l i).length=1+(l.length+7) / 8:=by simp[iC];omega
theorem Cg(l:List UInt8):iC l 0=l.length::List.replicate ((l.length+7) / 8) 0:=by
 unfold iC
 congr 1
 apply dm (by simp);intro n h1 h2
 simp[Ah]
theorem rm(l:List UInt8):iC l l.length=FK l:=by
 unfold iC FK qg
 congr 1
 apply aS;intro j hj;rw[<-tV]
 by_cases h:8*j+8<=l.length
 ·rw[dw (by omega)]
 ·rw[Nat.min_eq_right (by omega)];have:=tX l j (l.length-8*j) (by omega) (8-(l.length-8*j)) (by omega);rw[<-this]
  congr 1
  omega
theorem Cc(l:List UInt8)(i:Nat)(h:i<l.length):(iC l i)[1+i / 8]?=some (cell l (i / 8) (i % 8)):=by
 unfold iC;rw[Nat.add_comm 1,bD,aT,bC (by omega)];simp only[cZ,Option.some.injEq]
 congr 1
 omega
theorem Cf(l:List UInt8)(i:Nat):iC l (i+1)=(iC l i).set (1+i / 8) (cell l (i / 8) (i % 8+1)):=by
 unfold iC;rw[Nat.add_comm 1,List.set_cons_succ]
 congr 1
 apply dm (by simp);intro n h1 h2;rw[List.getElem_set];simp only[bp,cU]
 by_cases e:i / 8=n
 ·rw[if_pos e];subst e
  congr 1
  omega
 ·rw[if_neg e]
  congr 1
  omega
theorem Ce(l:List UInt8)(i:Nat)(hl:l.length<2^64):∀x∈iC l i,x<2^64:=by
 intro x hx;unfold iC at hx
 rcases ah.1 hx with rfl | hx
 ·exact hl
 ·obtain⟨j,_,rfl⟩:=ay.1 hx;exact cell_lt _ _ _ (Nat.min_le_left _ _)
theorem pj(l:List UInt8):(FK l).length=1+(l.length+7) / 8:=by rw[<-rm,Cd]
theorem te(l:List UInt8)(h:l.length<=1000):(FK l).length=many l.length:=by
 rw[pj];unfold many;rw[if_neg (by omega)]
theorem xZ(l:List UInt8)(hl:l.length<2^64):∀x∈FK l,x<2^64:=by rw[<-rm];exact Ce l _ hl
theorem xY(l:List UInt8)(i:Nat)(h:i<l.length):(FK l)[1+i / 8]?=some (cell l (i / 8) 8):=by
 unfold FK qg;rw[Nat.add_comm 1,bD,aT,bC (by omega)];simp only[cZ,Option.some.injEq];exact(tV _ _).symm
theorem tW(l:List UInt8)(j:Nat):∀d r,r+d=7->cell l j 8 / 2^(8*d) % 256=FN l (8*j+r):=by
 intro d r hr;have key:∀k,k<=8-(r+1)->gx l j (r+1+k) / 256^k=gx l j (r+1):=by
  intro k
  induction k with
  | zero=>intro _;simp
  | succ k ih=>
   intro hk;rw[show r+1+(k+1)=(r+1+k)+1 by omega];simp only[gx];rw[Nat.pow_succ,Nat.mul_comm (256^k),<-Nat.div_div_eq_div_mul];have hb:=mC l (8*j+(r+1+k));rw[show (gx l j (r+1+k)*256+FN l (8*j+(r+1+k))) / 256=gx l j (r+1+k) by omega];exact ih (by omega)
 have h1:=key d (by omega);have e:cell l j 8=gx l j 8:=by simp[cell]
 have e8:gx l j 8=gx l j (r+1+d):=by rw[show r+1+d=8 by omega]
 rw[e,Nat.pow_mul,show (2:Nat)^8=256 from rfl,e8,h1];simp only[gx];have hb:=mC l (8*j+r);omega
theorem Af(l:List UInt8):mE (FK l) l.length=l:=by
 unfold mE;apply dm (by simp);intro i h1 h2;simp only[bp,cU];rw[am,xY l i h2];simp only[ci];have h:=tW l (i / 8) (7-i % 8) (i % 8) (by omega);rw[show 8*(i / 8)+i % 8=i by omega,Nat.pow_mul,show (2:Nat)^8=256 from rfl] at h;apply UInt8.toNat_inj.1;rw[UInt8.toNat_ofNat'];rw[show (2:Nat)^8=256 from rfl,h];simp[FN,List.getD_eq_getElem?_getD,List.getElem?_eq_getElem h2]
theorem EN(l:List UInt8)(h:l.length<=1000):dZ (FK l)=some l:=by
 have h1:=te l h;have h2:=Af l;have e:∃r,FK l=l.length::r:=⟨_,rfl⟩;obtain⟨r,e⟩:=e;rw[e] at h1 h2⊢;unfold dZ;simp only;rw[if_neg (by omega),h2,<-e,if_pos rfl]
theorem EM {ws:List Nat}{l:List UInt8}(h:dZ ws=some l):l.length<=1000/\ws=FK l:=by
 unfold dZ at h
 split at h
 ·cases h
 ·rename_i n r
  split at h
  ·cases h
  ·rename_i hn
   split at h
   ·rename_i hw
    injection h with h
    have hl:l.length=n:=by rw[<-h];simp[mE]
    rw[h] at hw;exact⟨by omega,hw.symm⟩
   ·cases h
end Go.Proofs.YtcibkdbpicledaaGreatDoor.Lf
namespace Go.Proofs.YtcibkdbpicledaaGreatDoor
open Go.RowKit Tryz Go.BigFrame Go.Maps Go.WideMaps Lf
variable{w:World}{ws:List Nat}
theorem xD(n:Nat)(w:World)(hn:n<=1099511627776):
 Ct 69 #[Xi n] w fun e w'=>e=.returned (Xi (many n:Nat))/\w=w':=by
 unfold many
 by_cases h:1000<n
 ·rw[if_pos h];have h':(1000:Int)<n:=by omega
  go_enter func69,ntmps69
  go_wp2
  go_ret;exact⟨rfl,rfl⟩
 ·rw[if_neg h];have h':(n:Int)<=1000:=by omega
  have hq:((1+(n+7) / 8:Nat):Int)=1+((n:Int)+7) / 8:=by omega
  rw[hq];clear h hq;go_enter func69,ntmps69
  go_wp2
  go_ret;exact⟨by simp;omega,rfl⟩
theorem EO{B G m cap i c x y:Nat}(hb:w.cell? ⟨B,0,none⟩=some (.slice (some ⟨G,0,none⟩) m cap))(hi:1+i / 8<m)(hm:m<=200)
 (hx:w.cell? ⟨G,1+i / 8,none⟩=some (Xu x)) (hf:w.frozen? ⟨G,1+i / 8,none⟩=false) (hxl:x<2^64) (hc:c<256) (hy:x ||| c*2^(8*(7-i % 8))=y):
 Ct 125 #[Xi i,.int .u8 c,PV B] w fun e w'=>e=.returned (.tuple #[])/\∃q,w'=(w.drewN q).setCell ⟨G,1+i / 8,none⟩ (Xu y):=by
 obtain⟨q,hq⟩:=Ii (i / 8);obtain⟨r,hr⟩:=Ii (i % 8);have ap:r<8:=by omega
 obtain⟨s,hs⟩:=Ii (8*(7-r));rw[hq] at hi hx hf⊢;rw[hr,hs] at hy;have ai:(i:Int) / 8=(q:Int):=by omega
 have al:(i:Int) % 8=(r:Int):=by omega
 have ar:8*(7-(r:Int))=(s:Int):=by omega
 have ad:i<9223372036854775807:=by omega
 go_enter func125,ntmps125;go_wp2_with fail;refine lD (C:=fun w'=>∃q:Nat,w'=(w).drewN q) 15 (by kernel_rfl) (by kernel_rfl) ⟨1,rfl⟩ ?_;simp only[bP,cB,bX,cL];repeat (first | go_big_quiet_skip | (go_big_quiet_want;go_big_quiet_op;first | go_big_quiet_on))
 refine wpQuiet_nil ?_;rintro _ ⟨q,rfl⟩;go_wp2_with fail;have hw:IntKind.u64.wrap ((c:Int)*2^s)=((c*2^s:Nat):Int):=by
  have h1:c*2^s<256*2^56:=bz (cR hc (Nat.pow_pos (by decide))) (Nat.mul_le_mul_left _ (cM (by decide) (by omega)));have h2:((c:Int)*2^s)=((c*2^s:Nat):Int):=by push_cast;rfl
  rw[h2];show ((c*2^s:Nat):Int) % 18446744073709551616=_
  omega
 have h1:c*2^s<2^64:=bz (cR hc (Nat.pow_pos (by decide))) (Nat.mul_le_mul_left 256 (cM (n:=2) (by decide) (show s<=56 by omega)));rw[hw,bits_or_u64_nat _ _ hxl h1,hy];go_end0
 exact⟨rfl,_,rfl⟩
def jm(w:World)(B:Nat)(v:Value)(ws:List Nat):Prop:=∃G c,v=.slice (some ⟨G,0,none⟩) ws.length c/\B<=G/\∀(i:Nat) (h:i<ws.length),w.cell? ⟨G,i,none⟩=some (Xu (ws[i]:Nat))
theorem jm.below{w w':World}{B:Nat}{v:Value}(h:jm w B v ws)(hb:Below w.heap.size w w'):jm w' B v ws:=by
 obtain⟨G,c,rfl,hB,hc⟩:=h;refine⟨G,c,rfl,hB,fun i hi=>?_⟩;have h1:=hc i hi;have ad:G<w.heap.size:=by
  unfold World.cell? at h1
  split at h1
  ·rename_i heq;exact(gl heq)
  ·cases h1
 exact(hb.cell (p:=⟨G,i,none⟩) ad).trans h1
theorem E8{B B':Nat}{v v':Value}(h:jm w B v ws)(h':jm w B' v' ws)(hl:ws.length<=100000):
 Ct 124 #[v,v'] w fun e w'=>e=.returned (.bool true)/\∃q,w'=w.drewN q:=by
 obtain⟨G,c,rfl,_,hc⟩:=h;obtain⟨G',c',rfl,_,ad⟩:=h';obtain⟨n,hn⟩:=Ii ws.length;rw[hn] at hl;have H:=kq3 hc ad hn;rw[hn];clear hc ad hn;go_enter func124,ntmps124;go_wp2_with fail
 go_loopw [13] (fun i wr=>∃k:Nat,k<=n/\i=Xi k/\∃q,wr=w.drewN q) (fun i _=>n-(intOf i).toNat)
 case atStart=>exact⟨0,by omega,rfl,0,rfl⟩
 case round=>
  obtain⟨k,hk,rfl,q,rfl⟩:=hrel
  by_cases hlt:k<n
  ·have ai:(k:Int)<n:=by omega
   have c1:=H.a k (by rw[H.c];exact hlt);have c2:=H.b k (by rw[H.c];exact hlt);generalize ws[k]'(by rw[H.c];exact hlt)=x at c1 c2;go_wp2_with fail
   go_quiet (fail)
   go_wp2_with fail;go_roundw
   case rel=>exact⟨k+1,by omega,by simp,_,rfl⟩
   case measure=>simp[intOf];omega
  ·obtain rfl:k=n:=by omega
   go_wp2_with fail;go_ret;exact⟨rfl,_,rfl⟩
end Go.Proofs.YtcibkdbpicledaaGreatDoor
namespace Go.Proofs.YtcibkdbpicledaaGreatDoor
open Go.RowKit Tryz Go.BigFrame Go.Maps Go.WideMaps Lf
variable{S:St}{Y:Nat->Prop}{ps:Nat}{w:World}
abbrev SV(l:List UInt8):Value:=.string ⟨l.toArray⟩
theorem uQ:(prog.info? 82).map (fun i=>(i.zero,i.size,i.bytes))=some (some (Xu 0),1,8):=by kernel_rfl
theorem vB(n:Nat)(hn:n<=1000000)(W:World):(Instr.makeSlice 162 (Xi (n:Int)) (Xi (n:Int))).run prog W=.ok (.slice (some ⟨W.heap.size,0,none⟩) n n) (W.alloc (.cells ((List.replicate n 0).map fun x:Nat=>Value.int .u64 x).toArray 82)):=by
 obtain⟨i0,hi,ad,ai,al⟩:=info_parts uQ;have e:((List.replicate n 0).map fun x:Nat=>Value.int .u64 x).toArray=madeCells #[Xu 0] n:=by
  apply Array.toList_inj.1;rw[toList_madeCells_one]
  simp
 rw[e];exact run_make_row 162 82 i0 (Xu 0) underlying162 hi ad ai rfl .i64 .i64 n (by rw[al];omega) (by omega) W
theorem Ae(l:List UInt8):∃(capF:World->Nat) (csF:World->Array Value) (frF:World->Nat×Nat),(∀W,(convert 9 49 (SV l)).run prog W=.ok (.slice (some ⟨W.heap.size,0,none⟩) l.length (capF W)) (W.drew.alloc (.cells (csF W) 5 (frF W))))/\∀W i,i<l.length->(csF W)[i]?=some (.int .u8 (FN l i:Nat)):=by
 refine⟨_,_,_,fun W=>run_bytes_of_string W _ _ _ _ underlying9 underlying49 underlying5,?_⟩;intro W i hi;rw[bytesRow_at _ _ _ (by simpa using hi)];simp[FN,List.getD_eq_getElem?_getD,List.getElem?_eq_getElem hi]
structure pM (l:List UInt8) (w:World) (k:Nat) (wr:World):Prop where
 row:wr.heap[w.heap.size]?=some (.cells ((iC l k).map fun x:Nat=>Value.int .u64 x).toArray 82 (0,0))
 box:wr.cell? ⟨w.heap.size+1,0,none⟩=some (.slice (some ⟨w.heap.size,0,none⟩) (1+(l.length+7) / 8) (1+(l.length+7) / 8))
 bytes:∀i,i<l.length->wr.cell? ⟨w.heap.size+2,i,none⟩=some (.int .u8 (FN l i:Nat))
 below:Below w.heap.size w wr
theorem xE(l:List UInt8)(w:World)(hl:l.length<=1000):
 Ct 98 #[SV l] w fun e w'=>∃v,e=.returned (.tuple #[v,Xi 0])/\jm w' w.heap.size v (FK l)/\Below w.heap.size w w':=by
 have a9:(l.length:Int)<=1000:=by omega
 have hm:=fun W=>xD l.length W (by omega);have a7:many l.length=1+(l.length+7) / 8:=by unfold many;rw[if_neg (by omega)]
 rw[a7] at hm;obtain⟨n,hn⟩:=Ii l.length;obtain⟨m,a1⟩:=Ii (1+(n+7) / 8);have a':m<=200:=by omega
 rw[hn,a1] at hm;have H:=kq3 hm hn a1;clear hm a7 a1;go_enter func98,ntmps98;go_wp2_with fail;simp only[hn] at a9⊢;clear hn;refine Jc (H.a _) ?_;have a6:=vB m (by omega);obtain⟨ad,a0⟩:∃cs,((List.replicate m 0).map fun x:Nat=>Value.int .u64 x).toArray=cs:=⟨_,rfl⟩;rw[a0] at a6;obtain⟨ba,ar,au,a3,a2⟩:=Ae l;rw[H.b] at a3;have HB:=kq2 a0 a2;clear a0 a2;have bc:(0:Int)<m:=by have:=H.c;omega
 have bd:0<ad.size:=by have:=H.c;rw[<-HB.a];simp;omega
 go_wp2_with fail
 go_name_world W HW
 have hW:pM l w 0 W:=by
  have e1:∀k:Nat,W.heap[k]?=(((w.alloc (.cells (ad.setIfInBounds 0 (Xu l.length)) 82)).alloc (.cells #[.slice (some ⟨w.heap.size,0,none⟩) m m] 162)).alloc (.cells (ar ((w.alloc (.cells (ad.setIfInBounds 0 (Xu l.length)) 82)).alloc (.cells #[.slice (some ⟨w.heap.size,0,none⟩) m m] 162))) 5 (au ((w.alloc (.cells (ad.setIfInBounds 0 (Xu l.length)) 82)).alloc (.cells #[.slice (some ⟨w.heap.size,0,none⟩) m m] 162))))).heap[k]?:=fun k=>by rw[<-HW];rfl
  have hB:Below w.heap.size w W:=by
   rw[<-HW];have h3:=(((aa _ w).alloc Ih (.cells (ad.setIfInBounds 0 (Xu l.length)) 82)).alloc (by simp) (.cells #[.slice (some ⟨w.heap.size,0,none⟩) m m] 162)).alloc (by simp;omega) (.cells (ar ((w.alloc (.cells (ad.setIfInBounds 0 (Xu l.length)) 82)).alloc (.cells #[.slice (some ⟨w.heap.size,0,none⟩) m m] 162))) 5 (au ((w.alloc (.cells (ad.setIfInBounds 0 (Xu l.length)) 82)).alloc (.cells #[.slice (some ⟨w.heap.size,0,none⟩) m m] 162))));exact⟨h3.os,h3.tape,h3.output,h3.size,h3.block⟩
  have ai:(l.length+7) / 8+1=m:=by have:=H.b;have:=H.c;omega
  refine⟨?_,?_,?_,hB⟩
  ·rw[e1,heap_alloc_old _ _ (by simp;omega),heap_alloc_old _ _ (by simp),heap_alloc_new,Cg,<-HB.a,<-ai]
   simp[List.replicate_succ]
  ·have:W.heap[w.heap.size+1]?=some (.cells #[.slice (some ⟨w.heap.size,0,none⟩) m m] 162):=by
    rw[e1,heap_alloc_old _ _ (by simp)];have:=heap_alloc_new (w.alloc (.cells (ad.setIfInBounds 0 (Xu l.length)) 82)) (.cells #[.slice (some ⟨w.heap.size,0,none⟩) m m] 162)
    simpa using this
   rw[cell_of_block this,show 1+(l.length+7) / 8=m by omega]
   rfl
  ·intro i hi;have:W.heap[w.heap.size+2]?=some (.cells (ar ((w.alloc (.cells (ad.setIfInBounds 0 (Xu l.length)) 82)).alloc (.cells #[.slice (some ⟨w.heap.size,0,none⟩) m m] 162))) 5 (au ((w.alloc (.cells (ad.setIfInBounds 0 (Xu l.length)) 82)).alloc (.cells #[.slice (some ⟨w.heap.size,0,none⟩) m m] 162)))):=by
    rw[e1];have:=heap_alloc_new ((w.alloc (.cells (ad.setIfInBounds 0 (Xu l.length)) 82)).alloc (.cells #[.slice (some ⟨w.heap.size,0,none⟩) m m] 162)) (.cells (ar ((w.alloc (.cells (ad.setIfInBounds 0 (Xu l.length)) 82)).alloc (.cells #[.slice (some ⟨w.heap.size,0,none⟩) m m] 162))) 5 (au ((w.alloc (.cells (ad.setIfInBounds 0 (Xu l.length)) 82)).alloc (.cells #[.slice (some ⟨w.heap.size,0,none⟩) m m] 162))))
    simpa using this
   rw[cell_of_block this];exact HB.b _ i hi
 clear HW a6 a3;have HA:=If hW;clear hW
 go_loopw [6,7,24] (fun _ _ i wr=>∃k:Nat,k<=n/\i=Xi k/\pM l w k wr) (fun _ _ i _=>n-(intOf i).toNat)
 case atStart=>exact⟨0,by omega,rfl,HA.out⟩
 case round=>
  obtain⟨k,hk,rfl,hA⟩:=hrel;have ap:=H.b;have ai:=H.c
  by_cases hlt:k<n
  ·have bb:(k:Int)<n:=by omega
   have c1:=hA.bytes k (by omega);have a4:=Cc l k (by omega);have c2:wr.cell? ⟨w.heap.size,1+k / 8,none⟩=some (Xu (cell l (k / 8) (k % 8):Nat)):=by
    rw[cell_of_block hA.row,cq,aT,a4]
    rfl
   have al:=hA.box;rw[ap,ai] at al;have a5:=fun W' (h1:W'.heap=wr.heap)=>EO (w:=W') (B:=w.heap.size+1) (G:=w.heap.size) (m:=m) (cap:=m) (i:=k) (c:=FN l k) (x:=cell l (k / 8) (k % 8)) (y:=cell l (k / 8) (k % 8+1))
    (by rw[<-al];simp only[World.cell?,h1]) (by omega) a' (by rw[<-c2];simp only[World.cell?,h1]) (by rw[AT (h1▸hA.row)]) (cell_lt _ _ _ (by omega)) (mC _ _) (by have:=Ag l (k / 8) (k % 8) (by omega);rwa[show 8*(k / 8)+k % 8=k by omega] at this)
   have HK:=kq2 hA a5;clear hA a5 al c2 a4 ap ai;go_wp2_with fail;refine(HK.b _ rfl).mono ?_;rintro e w2 ⟨rfl,q,rfl⟩;have HN:pM l w (k+1) ((wr.drewN q).setCell ⟨w.heap.size,1+k / 8,none⟩ (Xu (cell l (k / 8) (k % 8+1):Nat))):=by
    have hA:=HK.a;have hB:Below w.heap.size w ((wr.drewN q).setCell ⟨w.heap.size,1+k / 8,none⟩ (Xu (cell l (k / 8) (k % 8+1):Nat))):=by
     have:Below w.heap.size w (wr.drewN q):=⟨hA.below.os,hA.below.tape,hA.below.output,hA.below.size,hA.below.block⟩;exact this.setCell (p:=⟨w.heap.size,1+k / 8,none⟩) (Nat.le_refl w.heap.size) _
    refine⟨?_,?_,?_,hB⟩
    ·rw[heap_setCell (show (wr.drewN q).heap[w.heap.size]?=_ from hA.row),Cf]
     simp
    ·rw[<-hA.box];exact World.cell?_of_block (w:=wr.drewN q) (FB (w:=wr.drewN q) (k:=w.heap.size+1) (by omega))
    ·intro i hi;rw[<-hA.bytes i hi];exact World.cell?_of_block (w:=wr.drewN q) (FB (w:=wr.drewN q) (k:=w.heap.size+2) (by omega))
   have a8:=If HN;clear HN;go_wp2_with fail;go_roundw
   case rel=>exact⟨k+1,by omega,by simp,a8.out⟩
   case measure=>simp[intOf];omega
  ·obtain rfl:k=n:=by omega
   have al:=hA.box;rw[ap,ai] at al;have HK:=kq3 hA ai ap;clear hA ai ap;go_wp2_with fail;go_ret2;refine⟨_,rfl,⟨w.heap.size,m,?_,Nat.le_refl _,?_⟩,HK.a.below⟩
   ·rw[pj,HK.c,HK.b]
    rfl
   ·intro i hi;have h:=HK.a.row;rw[<-HK.c,rm] at h;rw[cell_of_block h,cq,aT,af hi]
    rfl
def iw(S:St)(n:Nat):Prop:=(S.t.open (fR S.a (n+2)).1.1).1.2=0/\Fv (S.make n).2
theorem oA(hw:iW S.t)(n:Nat):(S.make n).1.1<2^64:=by
 have h:=vZ hw;unfold St.make
 split
 ·simp
 ·split
  ·rename_i addr a1 _;have:=h addr
   split
   ·rename_i hh t1 he;rw[he] at this;exact this
   ·simp
  ·simp
theorem Ig.tabwf(h:Ig w ps S Y):iW S.t:=by
 obtain⟨_,_,_,_,_,h⟩:=h;exact h.tab.wf
theorem jm.keep{w w':World}{B:Nat}{v:Value}{ws:List Nat}(h:jm w B v ws)(hk:Fo Y w w')(hy:∀k,B<=k->k<w.heap.size->Y k):jm w' B v ws:=by
 obtain⟨G,c,rfl,hB,hc⟩:=h;refine⟨G,c,rfl,hB,fun i hi=>?_⟩;have h1:=hc i hi;have ad:G<w.heap.size:=by
  unfold World.cell? at h1
  split at h1
  ·rename_i heq;exact(gl heq)
  ·cases h1
 exact(World.cell?_of_block (hk.block G (hy G hB ad))).trans h1
theorem tP(h:Ig w ps S Y)(hi:Fv S)(l:List UInt8)(hl:l.length<=1000)(hm:iw S (many l.length)):
 Ct 106 #[PV ps,SV l] w fun e w'=>e=.returned (.tuple #[Xu ((fx S l).1.1:Nat),Xi ((fx S l).1.2:Nat)])/\Ig w' ps (fx S l).2 Y/\Fo Y w w':=by
 have a4:=fB h hi 0 (by omega);rw[fU] at a4;have a8:=fun W=>xE l W hl;have bb:=te l hl;have a7:=xZ l (by omega);obtain⟨R,hR⟩:=Ii (fx S l);rw[hR];unfold fx at hR;rw[if_neg (by omega)] at hR;obtain⟨bc,a3⟩:=hm;have ad:=fun W (hW:Ig W ps S (fun k=>Y k\/(w.heap.size<=k/\k<W.heap.size)))=>sH hW (many l.length) (by unfold many;split<;>omega) bc;have a6:=oA h.tabwf (many l.length);have a5:many l.length<=200:=by unfold many;split<;>omega
 obtain⟨⟨⟨hh,er⟩,S1⟩,hS⟩:∃r,S.make (many l.length)=r:=⟨_,rfl⟩;rw[hS] at ad a6 a3 hR;simp only at ad a6 a3 hR;rw[<-bb] at ad a5;obtain⟨ws,bj⟩:=Ii (FK l);rw[bj] at a8 ad a5 a7 hR;have HG:=kq7 a4 a8 ad hR h a7 a3;clear a4 a8 ad hR h a7 a3 bc hS bb bj hi;obtain⟨n,hn⟩:=Ii ws.length;have HN:=If hn;rw[hn] at a5;clear hn;go_enter func106,ntmps106;go_wp2_with fail;refine Jc HG.a ?_;go_wp2_with fail;refine(HG.b _).mono ?_;rintro e w2 ⟨v,rfl,hrow,hb⟩;have a9:=HG.e.wide hb;have H2:=kq3 hrow hb a9;have bm:=hrow;obtain⟨G,cp,rfl,_,_⟩:=bm;rw[HN.out] at H2;simp only[HN.out];clear hrow hb a9;go_wp2_with fail;have ad:=HG.c w2 H2.c;rw[HN.out] at ad;refine ad.mono ?_;rintro e w3 ⟨rfl,h3,k3⟩;clear ad;have bf:=H2.a.keep k3 (fun k h1 h2=>ae ⟨h1,h2⟩);have H3:=kq3 h3 k3 bf;clear h3 k3 bf
 cases er with
 | succ er=>
  have bk:(((er+1:Nat):Int) !=0)=true:=by simp;omega
  obtain⟨g1,a2⟩:=Ii (er+1);rw[a2] at HG bk;have ai:R=((0,g1),S1):=by rw[<-HG.d,<-a2];rfl
  have au:=If ai;simp only[a2];clear ai a2;go_wp2_with fail;go_ret2;obtain rfl:=au.out;exact⟨rfl,H3.a.mono fun k hk=>ab hk,(Fo.of_below H2.b HG.e.yl).trans (H3.b.mono fun k hk=>ab hk)⟩
 | zero=>
  have ai:R=((hh,0),FC S1 hh 0 ws):=by rw[<-HG.d];rfl
  have au:=If ai;clear ai;go_wp2_with fail
  go_loopw [11,12,40] (fun _ _ i wr=>∃k:Nat,k<=n/\i=Xi k/\∃Sk,Ig wr ps Sk (fun k=>Y k\/(w.heap.size<=k/\k<w2.heap.size))/\Fv Sk/\FC Sk hh k (ws.drop k)=R.2/\Fo (fun k=>Y k\/(w.heap.size<=k/\k<w2.heap.size)) w2 wr) (fun _ _ i _=>n-(intOf i).toNat)
  case atStart=>exact⟨0,by omega,rfl,S1,H3.a,HG.g,by rw[au.out];rfl,H3.b⟩
  case round=>
   obtain⟨k,hk,rfl,Sk,a1,a0,ar,al⟩:=hrel
   by_cases hlt:k<n
   ·have bo:(k:Int)<n:=by omega
    have ap:k<ws.length:=by rw[HN.out];exact hlt
    obtain⟨G',c',he,_,a'⟩:=H2.a.keep al (fun k h1 h2=>ae ⟨h1,h2⟩)
    injection he with he1 he2 he3
    injection he1 with he1
    injection he1 with he1
    subst he1;have c1:=a' k ap;have hx:=HG.f _ (aF ap);have hd:ws.drop k=ws[k]::ws.drop (k+1):=aV ap;rw[hd] at ar;have bd:=xl a1 a0 hh k ws[k] a6 (by omega) hx;have ba:=a0.put hh k ws[k];generalize ws[k]=x at*;have HK:=kq5 bd ba ar al ap;clear bd ba ar al ap a' hd a1 a0 he2 he3;go_wp2_with fail;refine HK.a.mono ?_;rintro e w4 ⟨rfl,h4,k4⟩;have H4:=kq2 h4 (HK.d.trans k4);clear h4 k4;go_wp2_with fail;go_roundw
    case rel=>exact⟨k+1,by omega,by simp,_,H4.a,HK.b,HK.c,H4.b⟩
    case measure=>simp[intOf];omega
   ·obtain rfl:k=n:=by omega
    have HK:=kq3 a1 ar al;clear a1 ar al a0;go_wp2_with fail;go_ret2;have hf:Sk=R.2:=by rw[<-HK.b,bU (by rw[HN.out];exact Nat.le_refl _)];rfl
    have e1:R.1=(hh,0):=by rw[au.out]
    rw[e1,<-hf];exact⟨rfl,HK.a.mono fun k hk=>ab hk,(Fo.of_below H2.b HG.e.yl).trans (HK.c.mono fun k hk=>ab hk)⟩
end Go.Proofs.YtcibkdbpicledaaGreatDoor
namespace Go.Proofs.YtcibkdbpicledaaGreatDoor
open Go.RowKit Tryz Go.BigFrame Go.Maps Go.WideMaps Lf
open Go.Shelf
variable{B:Nat}{N:Nat}{S:St}{Y:Nat->Prop}{e:TypeId}{g:Nat}{k:Nat}{l:List UInt8}{lb:Array Value}{ps:Nat}{q:List Nat}{size:Nat}{v:Value}{w:World}
attribute [local go_sem] Oper.semAt_some
abbrev Jf:= { x:Nat // x<2^64 }
def mG(x:Jf):Array Value:=#[Xu (x.1:Nat)]
def iR(l:List Jf):List Nat:=l.map (·.1)
theorem uC(h:Ig w ps S Y)(hh k:Nat):(S.get hh k).1<2^64:=by
 obtain⟨pa,pm,ph,pt,v,h⟩:=h;rw[St.get_place]
 rcases S.place_cases hh k with⟨p,hp⟩ | ⟨e,hp⟩
 ·rw[hp];exact h.heap.rd_lt p
 ·rw[hp]
  show 0<_;omega
theorem zB(ps hh:Nat)(w:World):
 Ct 105 #[PV ps,Xu hh] w fun e w'=>e=.returned (.func (.func 134) #[] #[PV w.heap.size,PV (w.heap.size+1)])/\w'=(w.alloc (Xk ps)).alloc (Xh hh):=by
 go_enter func105,ntmps105
 go_wp2
 go_ret;exact⟨rfl,rfl⟩
theorem E9(h:Ig w ps S Y)(hi:Fv S)(hh:Nat)(hl:hh<2^64)(Bs Bh:Nat)(hBs:Bs<w.heap.size/\w.cell? ⟨Bs,0,none⟩=some (PV ps))(hBh:Bh<w.heap.size/\w.cell? ⟨Bh,0,none⟩=some (Xu hh)):
 SeqStopsK Fence.wide 6 prog 134 #[PV Bs,PV Bh] mG (Below w.heap.size) (fun xs=>iR xs=kM S hh) (fun _=>True) 3998 w:=fun l J Jx W hW hJ hJx hY h0=>by
 have bc:Fence.wide.fn 85:=trivial;have bb:Fence.wide.fn 96:=trivial;have au:CallsIn Fence.wide 5 prog 85 #[PV ps,Xu hh] W _:=callsIn_wide.2 (fB (h.below hW) hi hh hl);have a5:∀W',Below w.heap.size w W'->∀k:Nat,k<=4000->CallsIn Fence.wide 5 prog 96 #[PV ps,Xu hh,Xi k] W' _:=fun W' hW' k hk=>callsIn_wide.2 (sG (h.below hW') hi hh k hl (by omega));have a6:=fun k=>uC h hh k;have hn:(S.len hh).1<=3998:=hi.at_le hh;obtain⟨q,hq⟩:=Ii (kM S hh);have a0:∀k,q.take (k+1)=if k<(S.len hh).1 then q.take k++[(S.get hh k).1] else q.take k:=fun k=>by
  rw[<-hq];unfold kM;split
  ·rename_i hk;rw[<-bT,<-bT,List.take_range,List.take_range,dw (by omega),dw (by omega),du,aM];rfl
  ·rename_i hk;rw[aU (by simp;omega),aU (by simp;omega)]
 have a1:q.length=(S.len hh).1:=by rw[<-hq];simp[kM]
 rw[hq];obtain⟨n,a8⟩:=Ii (S.len hh).1;rw[a8] at au hn a0 a1;have cs:=(hW.cell (p:=⟨Bs,0,none⟩) hBs.1).trans hBs.2;have ch:=(hW.cell (p:=⟨Bh,0,none⟩) hBh.1).trans hBh.2;have HG:=kq7 a5 a6 a0 a1 hBs hBh hW;have HJ:=kq4 hJ hJx hY h0;have HL:=If au;clear a5 a6 hq a0 a1 hBs hBh hW hJ hJx hY h0 au a8 hi h;refine callsIn_of_wp func134 rfl trivial ?_ rfl;simp only[ntmps134,bq,av,aL,Nat.reduceAdd,Nat.reduceSub,aX,aY,bw,bg,aW,aP];gi_wp2_with fail;refine HL.out.mono ?_;rintro e w1 ⟨rfl,rfl⟩;clear HL;gi_wp2_with fail;gi_loopw [6,7,8,16] (fun _ _ _ i wr=>∃k:Nat,k<=n/\i=Xi k/\Hid (Below w.heap.size w wr/\∃pX,iR pX=q.take k/\J pX wr)) (fun _ _ _ i _=>n-(intOf i).toNat)
 case atStart=>exact⟨0,by omega,rfl,HG.g,[],rfl,HJ.d⟩
 case round=>
  obtain⟨k,hk,rfl,ad⟩:=hrel;by_cases hlt:k<n
  ·have bd:(k:Int)<n:=by omega
   have cs:=(ad.out.1.cell (p:=⟨Bs,0,none⟩) HG.e.1).trans HG.e.2;have ch:=(ad.out.1.cell (p:=⟨Bh,0,none⟩) HG.f.1).trans HG.f.2;have al:=HG.a wr ad.out.1 k (by omega);obtain⟨pX,ai,ap⟩:=ad.out.2;have a9:pX.length=k:=by
    have:=congrArg List.length ai;simp only[iR,aq,aB] at this;rw[HG.d] at this;omega
   obtain⟨xX,a2⟩:∃xX:Jf,(S.get hh k).1=xX.1:=⟨⟨_,HG.b k⟩,rfl⟩;obtain⟨fn,bf,a',ba,hy,ar⟩:=HJ.c pX xX wr ap (by omega);have hv:iR (pX++[xX])=q.take (k+1):=by
    rw[HG.c k,if_pos hlt,<-ai,a2];simp[iR]
   dsimp only[mG] at hy
   rw[a2] at al;generalize (S.get hh k).2=er at al;obtain⟨x,hx⟩:=xX;simp only at al hy;clear a2;have HV:=If hv;have HE:=If al;clear hv al ai ap a9;gi_wp2_with fail;refine HE.out.mono ?_;rintro e w2 ⟨rfl,rfl⟩;clear HE;gi_wp2_with fail;refine ar.mono ?_;rintro e w4 (⟨rfl,a3,a7⟩ | ⟨rfl,a4⟩)
   ·have H4:=kq2 (ad.out.1.trans a7) a3;clear a3 a7 hy ar;gi_wp2_with fail;go_roundw
    case rel=>exact⟨k+1,by omega,by simp,H4.a,_,HV.out,H4.b⟩
    case measure=>simp[intOf];omega
   ·have H4:=If a4;clear a4 hy ar;gi_wp2_with fail;refine bodyPost_ret (results_none rfl _ _ _) rfl ?_;exact⟨⟨_,rfl⟩,.inr ⟨_,trivial,H4.out⟩⟩
  ·obtain rfl:k=n:=by omega
   gi_wp2
   go_end0
   obtain⟨pX,ai,ap⟩:=ad.out.2;rw[aU (by rw[HG.d];exact Nat.le_refl _)] at ai;exact⟨⟨_,rfl⟩,.inl ⟨_,ai,ap⟩⟩
attribute [local go_sem] Oper.semAt_some
theorem BL{W W':World}{base B:Nat}{xs:List Value}(h:W.ownsRow base e size v k xs)(hg:W.grownBy W' v.ownBlock):KeepsFrom B W W':=
 ⟨hg.size,fun j o _ hj ho=>(hg.block j (gl hj) (fun e'=>by
  rcases h.2 with⟨rfl,_⟩ | ⟨g,ai,al,rfl,_,ad,_⟩
  ·cases e'
  ·have:j=g:=by simpa[Value.ownBlock] using e'
   subst this;rw[ad] at hj;injection hj with hj
   subst hj;cases ho)).trans hj⟩
theorem nN{n:Nat}(W:World)(l:Nat)(o o':Obj)(hl:n<=l)(_:W.heap[l]?=some o)(_:o.isCells=false)(_:o.isWalk=false):Below n W (W.putObj l o'):=
 ⟨rfl,rfl,rfl,by simp,fun k hk=>World.putObj_heap_other (by omega)⟩
theorem wi{W W':World}{row:Option Nat}{base:Nat}{xs:List Value}(h:W.ownsRow base e size v k xs)(hg:W.grownBy W' row)(hr:∀r,row=some r->∃o:Obj,W.heap[r]?=some o/\o.isCells=false):W'.ownsRow base e size v k xs:=by
 refine h.kept hg ?_
 rcases h.2 with⟨rfl,_⟩ | ⟨g,ai,al,rfl,_,ad,_⟩
 ·exact ab rfl
 ·refine ae fun e'=>?_;obtain⟨o,ho,hc⟩:=hr g (by rw[<-e'];rfl);rw[ad] at ho
  injection ho with ho
  subst ho
  cases hc
theorem qS{W:World}{t:TypeId}(h:W.heap[B]?=some (.cells #[v] t (0,0))):W.cell? ⟨B,0,none⟩=some v/\W.frozen? ⟨B,0,none⟩=false:=⟨by rw[cell_of_block h];rfl,AT h⟩
def uV(q:List Nat):List Value:=q.map fun x:Nat=>Value.int .u64 x
theorem yF(hN:N<=100000)(eg:∀args w,(callFunc g args).run prog w=.ok (.enter g args) w)
 (hseq:SeqStopsK Fence.wide 6 prog g lb mG (Below w.heap.size) (fun xs=>iR xs=q) (fun _=>True) N w):
 CallsIn Fence.wide 7 prog 133 #[.slice none 0 0,.func (.func g) #[] lb] w fun e w'=>∃v,e=.returned v/\w'.ownsRow w.heap.size 82 1 v q.length (uV q)/\Below w.heap.size w w':=by
 have h1:1<=7:=by omega
 obtain⟨i0,hi,bo,bs,bt⟩:=info_parts uQ;refine callsIn_of_wp_marks func133 rfl trivial ?_ rfl;simp only[ntmps133,bq,av,aL,Nat.reduceAdd,Nat.reduceSub,aX,aY,bw,bg,aW,aP];gi_wp2_with fail;have k0:(w.alloc (.cells #[.slice none 0 0] 162)).heap[w.heap.size]?=some (.cells #[.slice none 0 0] 162 (0,0)):=heap_alloc_new w _;have a1:Below w.heap.size w (w.alloc (.cells #[.slice none 0 0] 162)):=(aa _ w).alloc Ih _;have bd:(w.alloc (.cells #[.slice none 0 0] 162)).heap.size=w.heap.size+1:=by simp
 generalize w.alloc (.cells #[.slice none 0 0] 162)=W0 at*;refine wpIn_rangeFunc_ownH rfl h1 (gf:=g) (lb:=lb) rfl trivial eg hseq (fun h k=>h.trans k) (fun W l o o' h1 h2 h3 h4=>nN W l o o' (by omega) h2 h3 h4) a1 (fun _=>rfl)
  (fun ai W=>(∃v,W.heap[w.heap.size]?=some (.cells #[v] 162 (0,0))/\W.ownsRow w.heap.size 82 1 v ai.length (uV (iR ai)))/\Below w.heap.size w W)
  (fun _ _ _=>False)
  (OwnFrom.and (Own.from (fun s A B row hs hg hr=>by
   obtain⟨v,hv,hrow⟩:=hs;refine⟨v,(hg.block _ (gl hv) (fun e=>?_)).trans hv,wi hrow hg hr⟩;obtain⟨o,ho,hc⟩:=hr _ e.symm;rw[hv] at ho;injection ho with ho
   subst ho;cases hc) _) (ownFrom_below Ih (by omega)))
  (fun cd=>Own.from (fun s A B row hs hg hr=>hs) _)
  ⟨⟨_,k0,rfl,ab ⟨rfl,rfl⟩⟩,a1⟩
  (fun x a' _=>a'= { tmps:=#[.slice none 0 0,.func (.func g) #[] lb,PV w.heap.size,undef,.slice none 0 0,Xu (x.1:Nat),.func (.func g) #[] lb,Xu (x.1:Nat),undef,undef,undef,undef,undef],defers:=[] })
  (fun x a' _ X W' row hs hg hr=>hs)
  ?assign ?body ?done ?stop
 case assign=>
  rintro l ai ⟨x,hx⟩ W K hI hK;have HK:=If hK;have HI:=If hI;clear hK hI;simp only[mG];gi_wp2
  exact HK.out _ _ (KeepsFrom.refl _ _) (aa _ _) HI.out rfl
 case body=>
  rintro l ai ⟨x,hx⟩ a' W hl _ ⟨⟨v,hv,hrow⟩,hB⟩ rfl al;obtain⟨c1,f1⟩:=qS hv;have HI:=kq6 hv hrow hB al bd hl;obtain⟨m,hm⟩:=Ii ai.length;have b0:m<=100000:=by omega
  rw[hm] at HI;clear hv hrow hB al hm;gi_wp2_with (gi_at_builtin;refine wpListIn_append_own_at _ rfl _ _ 162 rfl w.heap.size 82 i0 (Xu 0) 1 8 underlying162 hi bo bs bt rfl (by decide) _ _ _ rfl (HI.b.alloc _) ⟨W.heap.size,0,none⟩ 1 1 [Xu x] rfl rfl (cell_one_new _ _ _) ?c2 ?c3 ?c4 ?c5 ?_)
  case c2=>simp[Value.oneCell']
  case c3=>unfold maxLen;omega
  case c4=>omega
  case c5=>have:=HI.c.size;simp;omega
  intro v' w1 hown hgrow _ hat;obtain⟨g',a0,bf,rfl,a4,ar,a9,ba,bb,bc⟩:=hown.2.resolve_left (by rintro⟨_,h⟩;exact absurd h (by simp));obtain⟨hv,hrow,hB,al,bd,hl⟩:=HI.out;have ap:=hB.size;have a5:=(gl hv);have a8:v.ownBlock≠some w.heap.size:=fun e'=>by
   rcases hrow.2 with⟨rfl,_⟩ | ⟨g0,bu,bv,rfl,_,bj,_⟩
   ·cases e'
   ·have:g0=w.heap.size:=by simpa[Value.ownBlock] using e'
    subst this;rw[bj] at hv;injection hv with hv
    injection hv with _ hv
    exact absurd hv (by decide)
  have ad:w1.heap[w.heap.size]?=some (.cells #[v] 162 (0,0)):=by
   rw[hgrow.block _ (by simp;omega) (fun e=>a8 e.symm),heap_alloc_old W _ a5];exact hv
  have a6:g'≠w.heap.size:=fun e=>by
   subst e;rw[ar] at ad;injection ad with ad
   injection ad with _ ad
   exact absurd ad (by decide)
  have a2:Below w.heap.size W w1:=((aa _ W).mono ap |>.alloc ap (.cells #[Xu x] 82)).grown hgrow (by simp;omega) (fun k e=>(hrow.lt k e).1);have a7:KeepsFrom W0.heap.size W w1:=((KeepsOthers.alloc W (.cells #[Xu x] 82)).from _).trans (BL (hrow.alloc _) hgrow);obtain⟨d1,e1⟩:=qS ad;have HW:=kq11 ad ar a6 a2 a7 hown a4 a9 ba bb bc;clear ad ar a6 a2 a7 hown a4 a9 ba bb bc hgrow hat a8 a5 ap hv hrow hB al hl;gi_wp2_with fail;have a3:=HW.d.setCell (p:=⟨w.heap.size,0,none⟩) (Nat.le_refl w.heap.size) (.slice (some ⟨g',0,none⟩) (m+1) a0);refine⟨HW.e.trans ((KeepsOthers.setCell _ _ _).from _),a3,⟨_,heap_setCell HW.a,?_⟩,HI.c.trans a3⟩;have bk:(ai++[(⟨x,hx⟩:Jf)]).length=m+1:=by have:=HW.f.1;simp[uV,iR] at this⊢;omega
  have bm:uV (iR (ai++[(⟨x,hx⟩:Jf)]))=uV (iR ai)++[Xu x]:=by simp[uV,iR]
  rw[bk,bm];exact⟨HW.f.1,ae ⟨g',a0,bf,rfl,HW.g,(FB HW.c).trans HW.b,HW.out.2.2.2.2.2.2.2⟩⟩
 case done=>
  rintro D ys W hD hS ⟨⟨v,hv,hrow⟩,hB⟩ hK;obtain⟨c1,f1⟩:=qS hv;have au:ys.length=q.length:=by rw[<-hS];simp[iR]
  rw[hS,au] at hrow;have HI:=kq5 hrow hB hv au hS;clear hrow hB hv au hS f1;gi_wp2
  refine⟨by simp,.inl ⟨_,_,rfl,run_takeDeferred hK,?_⟩⟩;refine⟨v,by simp[results,f133,go_sem],v,rfl,?_,HI.b.trans (nN W D _ _ (by omega) hK rfl rfl)⟩;exact wi HI.a (grownBy_putObj' W D _) (fun r e=>by cases e;exact⟨_,hK,rfl⟩)
 case stop=>
  rintro D cd ai W hD b1 hF;exact hF.elim
theorem Eb(h:w.ownsRow B 82 1 v q.length (uV q))(hq:q≠[]):jm w B v q:=by
 rcases h.2 with⟨_,hx⟩ | ⟨g,ad,ai,hv,hb,hg,h1,h2,h3,h4⟩
 ·exact absurd (ce.1 hx) hq
 ·refine⟨g,ad,hv,hb,fun i hi=>?_⟩;rw[cell_of_block hg];have:(ai.toList.take (q.length*1))[i]?=(uV q)[i]?:=by rw[h4]
  rw[ct (by omega),bI] at this;rw[this]
  simp[uV,List.getElem?_eq_getElem hi]
theorem AA(hN:N<=100000)(eg:∀args w,(callFunc g args).run prog w=.ok (.enter g args) w)
 (hseq:SeqStopsK Fence.wide 6 prog g lb mG (Below w.heap.size) (fun xs=>iR xs=q) (fun _=>True) N w):
 Ct 104 #[.func (.func g) #[] lb] w fun e w'=>∃v,e=.returned v/\w'.ownsRow w.heap.size 82 1 v q.length (uV q)/\Below w.heap.size w w':=by
 have ha:=callsIn_wide.1 (yF hN eg hseq);have HA:=If ha;clear ha hseq eg;go_enter func104,ntmps104;go_wp2_with fail;refine HA.out.mono ?_;rintro e w1 ⟨v,rfl,hr⟩;have HR:=If hr;clear hr;go_wp2_with fail;go_ret;exact⟨_,rfl,HR.out⟩
theorem BD:(prog.info? 5).map (fun i=>(i.zero,i.size,i.bytes))=some (some (.int .u8 0),1,1):=by kernel_rfl
def bV(l:List UInt8)(k:Nat):List Value:=(List.range k).map fun i=>Value.int .u8 (FN l i:Nat)
theorem AC(w:World):(convert 49 9 (.slice none 0 0)).run prog w=.ok (.string ⟨#[]⟩) w:=by kernel_rfl
theorem AB(h:w.ownsRow B 5 1 v l.length (bV l l.length)):(convert 49 9 v).run prog w=.ok (SV l) w:=by
 rcases h.2 with⟨rfl,hx⟩ | ⟨g,ad,ai,rfl,hb,hg,h1,h2,h3,h4⟩
 ·obtain rfl:=ce.1 hx;exact AC w
 ·refine run_convert_bytes_back (P:=prog) w _ _ 5 ⟨g,0,none⟩ ad l underlying49 underlying5 underlying9 (fun j hj=>?_);have al:(⟨g,0,none⟩:Addr).add j=⟨g,j,none⟩:=by unfold Addr.add;split<;>simp_all
  rw[al,cell_of_block hg];have:(ai.toList.take (l.length*1))[j]?=(bV l l.length)[j]?:=by rw[h4]
  rw[ct (by omega),bI] at this;rw[this]
  simp[bV,FN,List.getD_eq_getElem?_getD,hj]
theorem EP(h:jm w B v (FK l))(hl:l.length<=1000):
 Cb 97 #[v] w (.tuple #[SV l,Xi 0]):=by
 have hm:=fun W=>xD l.length W (by omega);rw[<-te l hl] at hm;have a6:=fun W=>xE l W hl;have ap:=pj l;have a3:∃r,FK l=l.length::r:=⟨_,rfl⟩;obtain⟨i0,hi,a8,a9,a'⟩:=info_parts BD;have h':=h;obtain⟨G,c,rfl,hB,hc⟩:=h;obtain⟨n,hn⟩:=Ii l.length;obtain⟨m,al⟩:=Ii (FK l).length;have c0:w.cell? ⟨G,0,none⟩=some (Xu n):=by
  have:=hc 0 (by omega);obtain⟨r,hr⟩:=a3;rw[this]
  simp[hr,hn]
 have a2:∀i,i<n->w.cell? ⟨G,1+i / 8,none⟩=some (Xu (cell l (i / 8) 8:Nat)):=fun i hi=>by
  have h1:=xY l i (by omega);obtain⟨h2,h3⟩:=aA.1 h1;rw[hc _ h2,h3]
 rw[al,hn] at hm;rw[al] at ap;rw[hn] at ap hl;have bc:((m:Int)==0)=false:=by simp;omega
 have bj:(n:Int)<=1000:=by omega
 have bf:m<=200:=by omega
 have bd:(0:Int)<m:=by omega
 have HG:=kq7 hm a6 h' hn al a2 ap;rw[al];clear hm a6 h' hn al a2 ap hB hc a3;go_enter func97,ntmps97;go_wp2_with fail;refine Jc (HG.a _) ?_;go_wp2_with fail
 go_loopw [4,5,32] (fun v _ i wr=>∃k:Nat,k<=n/\i=Xi k/\wr.ownsRow w.heap.size 5 1 v k (bV l k)/\Below w.heap.size w wr) (fun _ _ i _=>n-(intOf i).toNat)
 case atStart=>exact⟨0,by omega,rfl,⟨rfl,ab ⟨rfl,rfl⟩⟩,aa _ _⟩
 case round=>
  obtain⟨k,hk,rfl,hrow,hB⟩:=hrel
  by_cases hlt:k<n
  ·have bb:(k:Int)<n:=by omega
   have hG:G<w.heap.size:=by
    unfold World.cell? at c0
    split at c0
    ·rename_i ai;exact(gl ai)
    ·cases c0
   have a7:=(hB.cell (p:=⟨G,1+k / 8,none⟩) hG).trans (HG.f k hlt);have ad:=tW l (k / 8) (7-k % 8) (k % 8) (by omega);rw[show 8*(k / 8)+k % 8=k by omega] at ad;obtain⟨q,hq⟩:=Ii (k / 8);obtain⟨r,hr⟩:=Ii (k % 8);obtain⟨s,hs⟩:=Ii (8*(7-r));have bs:r<8:=by omega
   rw[hr,hs] at ad;rw[hq] at a7 ad;have bm:1+q<m:=by have:=HG.g;omega
   have bk:(k:Int) / 8=(q:Int):=by omega
   have bo:(k:Int) % 8=(r:Int):=by omega
   have bt:8*(7-(r:Int))=(s:Int):=by omega
   have hx:=cell_lt l q 8 Ih;generalize cell l q 8=x at*;have HI:=kq3 hrow hB ad;have bu:s<=56:=by omega
   clear hrow hB ad hq hr hs
   go_wp2_with (at_builtin;refine wpList_append_own_at _ rfl _ _ 49 rfl w.heap.size 5 i0 (.int .u8 0) 1 1 underlying49 hi a8 a9 a' rfl (by decide) _ _ _ rfl (HI.a.alloc _) ⟨wr.heap.size,0,none⟩ 1 1 [.int .u8 (FN l k:Nat)] rfl rfl ?c1 ?c2 ?c3 ?c4 ?c5 ?_)
   case c1=>
    rw[show ((x:Int) / 2^s % 256)=((FN l k:Nat):Int) by rw[<-HI.c];push_cast;rfl];exact cell_one_new _ _ _
   case c2=>simp[Value.oneCell']
   case c3=>unfold maxLen;omega
   case c4=>omega
   case c5=>have:=HI.b.size;simp;omega
   intro v' w1 hown hgrow _ hat;have ar:=HI.b.size;have a0:Below w.heap.size wr w1:=((aa _ wr).mono ar |>.alloc ar (.cells #[.int .u8 ((x:Int) / 2^s % 256)] 5)).grown hgrow (by simp;omega) (fun k e=>(HI.a.lt k e).1);have a1:bV l k++[.int .u8 (FN l k:Nat)]=bV l (k+1):=by simp[bV,List.range_succ]
   rw[a1] at hown;have HW:=kq2 hown (HI.b.trans a0);clear hown hgrow hat ar a0 a1;go_wp2_with fail;go_roundw
   case rel=>exact⟨k+1,by omega,by simp,HW.out⟩
   case measure=>simp[intOf];omega
  ·obtain rfl:k=n:=by omega
   have ba:(convert 49 9 u4).run prog wr=.ok (SV l) wr:=AB (by rw[HG.d];exact hrow);have HI:=If hB;clear hrow hB;go_wp2_with fail;refine(HG.b wr).mono ?_;rintro e w2 ⟨v2,rfl,a5,au⟩;have a4:=(HG.c.below HI.out).below au;have ai:=E8 a5 a4 (by rw[HG.e];omega);rw[HG.e] at ai;have HE:=kq2 ai (HI.out.trans (au.mono HI.out.size));clear a5 a4 au ai;go_wp2_with fail;refine HE.a.mono ?_;rintro e w3 ⟨rfl,q,rfl⟩;go_wp2_with fail;go_ret2;exact⟨rfl,HE.b.trans ⟨rfl,rfl,rfl,Nat.le_refl _,fun _ _=>rfl⟩⟩
theorem iz(h:Ig w ps S Y)(hi:Fv S)(hh:Nat)(hl:hh<2^64)(hg:(fz S hh).2≠8):
 Cb 80 #[PV ps,Xu hh] w (.tuple #[SV (fz S hh).1,Xi ((fz S hh).2:Nat)]):=by
 have ad:=fB h hi hh hl;obtain⟨R,hR⟩:=Ii (fz S hh);rw[hR] at hg⊢;unfold fz at hR;obtain⟨⟨n,er⟩,hn⟩:∃r,S.len hh=r:=⟨_,rfl⟩;rw[hn] at ad hR;simp only at ad
 cases er with
 | succ er=>
  have ai:R=([],er+1):=by rw[<-hR];rfl
  have a4:(((er+1:Nat):Int) !=0)=true:=by simp;omega
  obtain⟨g1,au⟩:=Ii (er+1);rw[au] at ad ai a4;have HG:=kq2 ad ai;clear ad hR ai au hg h hi hn;go_enter func80,ntmps80;go_wp2_with fail;refine Jc HG.a ?_;go_wp2_with fail;go_ret2;obtain rfl:=HG.b;exact⟨rfl,aa _ _⟩
 | zero=>
  cases ht:dZ (kM S hh) with
  | none=>
   rw[ht] at hR;exact absurd (by rw[<-hR];rfl) hg
  | some t=>
   have ai:R=(t,0):=by rw[<-hR,ht];rfl
   obtain⟨a3,a2⟩:=EM ht;have HG:=kq6 ad ai h hi a2 a3;clear ad hR ai hg h hi hn ht a2 a3;go_enter func80,ntmps80;go_wp2_with fail;refine Jc HG.a ?_;go_wp2_with fail;refine wx (zB ps hh w) fun w1 hw1=>?_;have hb:Below w.heap.size w w1:=by rw[hw1];exact((aa _ w).alloc Ih _).alloc (by simp) _
   have a5:w1.heap.size=w.heap.size+2:=by rw[hw1];simp
   have k0:w1.cell? ⟨w.heap.size,0,none⟩=some (PV ps):=by
    have:w1.heap[w.heap.size]?=some (.cells #[PV ps] 25 (0,0)):=by rw[hw1,heap_alloc_old _ _ (by simp)];exact heap_alloc_new w _
    rw[cell_of_block this]
    rfl
   have k1:w1.cell? ⟨w.heap.size+1,0,none⟩=some (Xu hh):=by
    have h0:w1.heap[w.heap.size+1]?=some (.cells #[Xu hh] 83 (0,0)):=by
     have:=heap_alloc_new (w.alloc (Xk ps)) (Xh hh);rw[World.size_alloc] at this;rw[hw1];exact this
    rw[cell_of_block h0]
    rfl
   have al:=E9 (HG.c.below hb) HG.d hh hl w.heap.size (w.heap.size+1) ⟨by omega,k0⟩ ⟨by omega,k1⟩;rw[HG.e] at al;have ar:=AA (by omega) (enters_of func134 (by kernel_rfl) rfl) al;have HC:=kq2 ar hb;clear al ar hb a5 k0 k1 hw1;go_wp2_with fail;refine HC.a.mono ?_;rintro e w2 ⟨v,rfl,hrow,ap⟩;have a1:=Eb hrow (by unfold FK;simp);have a0:=EP a1 HG.f;have HO:=kq2 a0 (HC.b.trans (ap.mono HC.b.size));clear hrow ap a1 a0;go_wp2_with fail;refine wx HO.a fun w3 hb3=>?_;have HB:=If (HO.b.trans (hb3.mono HO.b.size));clear hb3;go_wp2_with fail;go_ret2;obtain rfl:=HG.b;exact⟨rfl,HB.out⟩
theorem ud:∀(a b:List UInt8),Fu a b=Lib.compareBytes a b
 | [],[]=>rfl
 | [],_::_=>rfl
 | _::_,[]=>rfl
 | a::l,b::m=>by
  unfold Fu Lib.compareBytes;rw[ud l m]
theorem EA(a b:List UInt8)(w:World):
 Ct 183 #[SV a,SV b] w fun e w'=>e=.returned (Xi (Fu a b))/\w'=w:=by
 have hc:=bytealg_CompareString ⟨a.toArray⟩ ⟨b.toArray⟩ w;rw[ud];have HC:=If hc;clear hc;go_enter func183,ntmps183;go_wp2_with fail;refine Jc HC.out ?_;go_wp2_with fail;go_ret;exact⟨rfl,rfl⟩
theorem sT(a b:List UInt8)(w:World):
 Ct 161 #[SV a,SV b] w fun e w'=>e=.returned (Xi (Fu a b))/\w'=w:=by
 have HC:=If (EA a b w);go_enter func161,ntmps161;go_wp2_with fail;refine Jc HC.out ?_;go_wp2_with fail;go_ret;exact⟨rfl,rfl⟩
end Go.Proofs.YtcibkdbpicledaaGreatDoor
namespace Go.Proofs.YtcibkdbpicledaaGreatDoor
open Go.RowKit Tryz Go.BigFrame Go.Maps Go.WideMaps Lf
variable{S:St}{Y:Nat->Prop}{ps:Nat}{w:World}
def eS(n:Nd):Value:=.agg #[Xu n.key,Xu n.val,Xu n.left,Xu n.right,Xu n.mark,Xu n.size]
structure ji (n:Nd):Prop where
 key:n.key<2^64
 val:n.val<2^64
 left:n.left<2^64
 right:n.right<2^64
 mark:n.mark<2^64
 size:n.size<2^64
theorem qJeaa{P:Prop}(h:P:=by
 go_enter func168,ntmps168;go_wp2_with fail;refine Jc HG.a ?_;go_wp2_with fail;go_ret;obtain rfl:=HG.b;exact⟨rfl,rfl⟩):P:=h
theorem oG(h:Ig w ps S Y)(hi:Fv S)(hh:Nat)(hl:hh<2^64):
 Ct 168 #[PV ps,Xu hh] w fun e w'=>e=.returned (Xi (fZ S hh:Nat))/\w=w':=by
 have ai:=fB h hi hh hl;obtain⟨R,hR⟩:=Ii (fZ S hh);rw[hR];unfold fZ at hR;obtain⟨⟨n,er⟩,hn⟩:∃r,S.len hh=r:=⟨_,rfl⟩;rw[hn] at ai hR;simp only at ai
 cases er with
 | succ er=>
  have ad:R=er+1:=by rw[<-hR];rfl
  have ap:(((er+1:Nat):Int)==0)=false:=by simp;omega
  obtain⟨g1,al⟩:=Ii (er+1);rw[al] at ai ad ap;have HG:=kq2 ai ad;clear ai hR ad al h hi hn;exact qJeaa
 | zero=>
  by_cases h6:n=6
  ·have ad:R=0:=by rw[<-hR,h6];rfl
   subst h6;have HG:=kq2 ai ad;clear ai hR ad h hi hn;exact qJeaa
  ·have ad:R=8:=by rw[<-hR];show (if n≠6 then 8 else 0)=8;rw[if_pos h6]
   have ap:((n:Int) !=6)=true:=by simp;omega
   have HG:=kq2 ai ad;clear ai hR ad h hi hn h6;exact qJeaa
theorem Dj(n:Nd)(w:World):
 Cb 265 #[eS n] w (eS n):=by
 obtain⟨k,v,l,r,m,s⟩:=n;unfold eS;simp only;have hb:∀o o',Below w.heap.size w ((w.alloc o).alloc o'):=fun o o'=>((aa _ w).alloc Ih o).alloc (by simp) o';have HB:=If hb;clear hb;go_enter func265,ntmps265;go_wp2_with fail;refine bodyPost_ret (v:=.agg #[Xu k,Xu v,Xu l,Xu r,Xu m,Xu s]) (by simp[results,f265,go_sem]) rfl ⟨rfl,HB.out _ _⟩
def ke(S:St)(hh k:Nat):List Value:=(List.range 6).map fun i=>Xu (if i<k then((S.get hh i).1:Nat) else(0:Nat))
theorem iO(h:Ig w ps S Y)(hi:Fv S)(hh:Nat)(hl:hh<2^64):
 Cb 140 #[PV ps,Xu hh] w (.tuple #[eS (getNode S hh).1,Xi ((getNode S hh).2:Nat)]):=by
 have ai:Below w.heap.size w (w.alloc (.cells #[Xu 0,Xu 0,Xu 0,Xu 0,Xu 0,Xu 0] 232)):=(aa _ w).alloc Ih _;have has:=oG (h.below ai) hi hh hl;have ap:=fun W (hW:Below w.heap.size w W) (k:Nat) (hk:k<=6)=>sG (h.below hW) hi hh k hl (by omega);obtain⟨R,hR⟩:=Ii (getNode S hh);rw[hR];unfold getNode at hR;obtain⟨a,ha⟩:=Ii (fZ S hh);rw[ha] at has hR
 cases a with
 | succ a=>
  have ad:R=(Nd.zero,a+1):=by rw[<-hR];rfl
  have a7:(((a+1:Nat):Int) !=0)=true:=by simp;omega
  obtain⟨g1,au⟩:=Ii (a+1);rw[au] at has ad a7;have HG:=kq3 has ad ai;clear has hR ad au h hi ha ap ai;go_enter func140,ntmps140;go_wp2_with fail;refine Jc HG.a ?_;go_wp2_with fail;obtain rfl:=HG.b;refine bodyPost_ret (v:=.tuple #[eS Nd.zero,Xi g1]) (by simp[results,f140,go_sem,eS,Nd.zero]) rfl ⟨rfl,(aa _ w).alloc Ih _⟩
 | zero=>
  have ad:R=(⟨(S.get hh 0).1,(S.get hh 1).1,(S.get hh 2).1,(S.get hh 3).1,(S.get hh 4).1,(S.get hh 5).1⟩,0):=by rw[<-hR];rfl
  have HG:=kq4 has ad ai ap;clear has hR ad h hi ha ap ai;go_enter func140,ntmps140;go_wp2_with fail;refine Jc HG.a ?_;go_wp2_with fail;have hA:∀k,ke S hh k=[Xu (if 0<k then((S.get hh 0).1:Nat) else(0:Nat)),Xu (if 1<k then((S.get hh 1).1:Nat) else(0:Nat)),Xu (if 2<k then((S.get hh 2).1:Nat) else(0:Nat)),Xu (if 3<k then((S.get hh 3).1:Nat) else(0:Nat)),Xu (if 4<k then((S.get hh 4).1:Nat) else(0:Nat)),Xu (if 5<k then((S.get hh 5).1:Nat) else(0:Nat))]:=fun k=>rfl;have a6:∀k,k<6->(ke S hh k).toArray.setIfInBounds k (Xu ((S.get hh k).1:Nat))=(ke S hh (k+1)).toArray:=fun k hk=>by
   apply Array.toList_inj.1;simp only[cT];apply dm (by simp[ke]);intro n h1 h2;simp only[ke,List.getElem_set,bp,cU]
   by_cases e:k=n
   ·subst e
    simp
   ·rw[if_neg e]
    by_cases e2:n<k
    ·rw[if_pos e2,if_pos (by omega)]
    ·rw[if_neg e2,if_neg (by omega)]
  go_name_world W0 HW0
  have q1:W0.heap[w.heap.size+1]?=some (.cells (ke S hh 0).toArray 273 (0,0)):=by
   rw[<-HW0];have:=heap_alloc_new (w.alloc (.cells #[Xu 0,Xu 0,Xu 0,Xu 0,Xu 0,Xu 0] 232)) (.cells #[Xu 0,Xu 0,Xu 0,Xu 0,Xu 0,Xu 0] 273);rw[World.size_alloc] at this;exact this
  have q0:W0.heap[w.heap.size]?=some (.cells #[Xu 0,Xu 0,Xu 0,Xu 0,Xu 0,Xu 0] 232 (0,0)):=by
   rw[<-HW0,heap_alloc_old _ _ (by simp)];exact heap_alloc_new w _
  have qb:Below w.heap.size w W0:=by rw[<-HW0];exact HG.c.alloc (by simp) _
  clear HW0;have H0:=kq5 q1 q0 qb hA a6;clear q1 q0 qb hA a6
  go_loopw [8,16] (fun _ i wr=>∃k:Nat,k<=6/\i=Xi k/\wr.heap[w.heap.size+1]?=some (.cells (ke S hh k).toArray 273 (0,0))/\wr.heap[w.heap.size]?=some (.cells #[Xu 0,Xu 0,Xu 0,Xu 0,Xu 0,Xu 0] 232 (0,0))/\Below w.heap.size w wr) (fun _ i _=>6-(intOf i).toNat)
  case atStart=>exact⟨0,by omega,rfl,H0.a,H0.b,H0.c⟩
  case round=>
   obtain⟨k,hk,rfl,r1,r0,rb⟩:=hrel
   by_cases hlt:k<6
   ·have a8:(k:Int)<6:=by omega
    have al:=HG.d wr rb k hk;have c1:∃v,wr.cell? ⟨w.heap.size+1,k,none⟩=some v:=by
     rw[cell_of_block r1];refine⟨(ke S hh k)[k]'(by simp[ke];omega),?_⟩;rw[cq,af]
    obtain⟨v0,c1⟩:=c1;have f1:wr.frozen? ⟨w.heap.size+1,k,none⟩=false:=AT r1;have ar:=H0.e k hlt;generalize (S.get hh k).1=x at al ar;generalize (S.get hh k).2=er at al;have HK:=kq5 al r1 r0 rb ar;clear al r1 r0 rb ar;go_wp2_with fail;refine Jc HK.a ?_;go_wp2_with fail;go_roundw
    case rel=>
     refine⟨k+1,by omega,by simp,?_,?_,HK.d.setCell (p:=⟨w.heap.size+1,k,none⟩) (by simp) _⟩
     ·rw[heap_setCell HK.b,HK.e]
     ·rw[FB (by omega)];exact HK.c
    case measure=>simp[intOf];omega
   ·obtain rfl:k=6:=by omega
    have hA:=H0.d 6;simp only[show (0:Nat)<6 from by decide,show (1:Nat)<6 from by decide,show (2:Nat)<6 from by decide,show (3:Nat)<6 from by decide,show (4:Nat)<6 from by decide,show (5:Nat)<6 from by decide,if_true] at hA;rw[hA] at r1;have g0:=HG.b;generalize (S.get hh 0).1=x0 at r1 g0;generalize (S.get hh 1).1=x1 at r1 g0;generalize (S.get hh 2).1=x2 at r1 g0;generalize (S.get hh 3).1=x3 at r1 g0;generalize (S.get hh 4).1=x4 at r1 g0;generalize (S.get hh 5).1=x5 at r1 g0;have a0:wr.cell? ⟨w.heap.size+1,0,none⟩=some (Xu x0):=by rw[cell_of_block r1];rfl
    have a1:wr.cell? ⟨w.heap.size+1,1,none⟩=some (Xu x1):=by rw[cell_of_block r1];rfl
    have a2:wr.cell? ⟨w.heap.size+1,2,none⟩=some (Xu x2):=by rw[cell_of_block r1];rfl
    have a3:wr.cell? ⟨w.heap.size+1,3,none⟩=some (Xu x3):=by rw[cell_of_block r1];rfl
    have a4:wr.cell? ⟨w.heap.size+1,4,none⟩=some (Xu x4):=by rw[cell_of_block r1];rfl
    have a5:wr.cell? ⟨w.heap.size+1,5,none⟩=some (Xu x5):=by rw[cell_of_block r1];rfl
    have b0:wr.cell? ⟨w.heap.size,0,none⟩=some (Xu 0):=by rw[cell_of_block r0];rfl
    have b1:wr.cell? ⟨w.heap.size,1,none⟩=some (Xu 0):=by rw[cell_of_block r0];rfl
    have b2:wr.cell? ⟨w.heap.size,2,none⟩=some (Xu 0):=by rw[cell_of_block r0];rfl
    have b3:wr.cell? ⟨w.heap.size,3,none⟩=some (Xu 0):=by rw[cell_of_block r0];rfl
    have b4:wr.cell? ⟨w.heap.size,4,none⟩=some (Xu 0):=by rw[cell_of_block r0];rfl
    have b5:wr.cell? ⟨w.heap.size,5,none⟩=some (Xu 0):=by rw[cell_of_block r0];rfl
    have bf:∀o,wr.frozen? ⟨w.heap.size,o,none⟩=false:=fun o=>AT r0;have f0:=bf 0;have f1:=bf 1;have f2:=bf 2;have f3:=bf 3;have f4:=bf 4;have f5:=bf 5;have HK:=kq4 r1 r0 rb g0;clear r1 r0 rb g0 hA bf;go_wp2_with fail;have hX:((((((wr.setCell ⟨w.heap.size,0,none⟩ (Xu x0)).setCell ⟨w.heap.size,1,none⟩ (Xu x1)).setCell ⟨w.heap.size,2,none⟩ (Xu x2)).setCell ⟨w.heap.size,3,none⟩ (Xu x3)).setCell ⟨w.heap.size,4,none⟩ (Xu x4)).setCell ⟨w.heap.size,5,none⟩ (Xu x5)).heap[w.heap.size]?=some (.cells #[Xu x0,Xu x1,Xu x2,Xu x3,Xu x4,Xu x5] 232 (0,0)):=by
     rw[heap_setCell (heap_setCell (heap_setCell (heap_setCell (heap_setCell (heap_setCell HK.b)))))]
     rfl
    have hY:Below w.heap.size w ((((((wr.setCell ⟨w.heap.size,0,none⟩ (Xu x0)).setCell ⟨w.heap.size,1,none⟩ (Xu x1)).setCell ⟨w.heap.size,2,none⟩ (Xu x2)).setCell ⟨w.heap.size,3,none⟩ (Xu x3)).setCell ⟨w.heap.size,4,none⟩ (Xu x4)).setCell ⟨w.heap.size,5,none⟩ (Xu x5)):=
     (((((HK.c.setCell (p:=⟨w.heap.size,0,none⟩) (Nat.le_refl w.heap.size) _).setCell (p:=⟨w.heap.size,1,none⟩) (Nat.le_refl w.heap.size) _).setCell (p:=⟨w.heap.size,2,none⟩) (Nat.le_refl w.heap.size) _).setCell (p:=⟨w.heap.size,3,none⟩) (Nat.le_refl w.heap.size) _).setCell (p:=⟨w.heap.size,4,none⟩) (Nat.le_refl w.heap.size) _).setCell (p:=⟨w.heap.size,5,none⟩) (Nat.le_refl w.heap.size) _
    generalize ((((((wr.setCell ⟨w.heap.size,0,none⟩ (Xu x0)).setCell ⟨w.heap.size,1,none⟩ (Xu x1)).setCell ⟨w.heap.size,2,none⟩ (Xu x2)).setCell ⟨w.heap.size,3,none⟩ (Xu x3)).setCell ⟨w.heap.size,4,none⟩ (Xu x4)).setCell ⟨w.heap.size,5,none⟩ (Xu x5))=W9 at*;have e0:W9.cell? ⟨w.heap.size,0,none⟩=some (Xu x0):=by rw[cell_of_block hX];rfl
    have e1:W9.cell? ⟨w.heap.size,1,none⟩=some (Xu x1):=by rw[cell_of_block hX];rfl
    have e2:W9.cell? ⟨w.heap.size,2,none⟩=some (Xu x2):=by rw[cell_of_block hX];rfl
    have e3:W9.cell? ⟨w.heap.size,3,none⟩=some (Xu x3):=by rw[cell_of_block hX];rfl
    have e4:W9.cell? ⟨w.heap.size,4,none⟩=some (Xu x4):=by rw[cell_of_block hX];rfl
    have e5:W9.cell? ⟨w.heap.size,5,none⟩=some (Xu x5):=by rw[cell_of_block hX];rfl
    obtain rfl:=HK.d;exact bodyPost_ret (v:=.tuple #[.agg #[Xu x0,Xu x1,Xu x2,Xu x3,Xu x4,Xu x5],Xi 0]) (by simp[results,f140,go_sem,e0,e1,e2,e3,e4,e5]) rfl ⟨rfl,hY⟩
theorem vT(h:Ig w ps S Y)(hi:Fv S)(hh:Nat)(hl:hh<2^64)(ha:fZ S hh≠0):
 Ct 303 #[PV ps,Xu hh] w fun e w'=>e=.returned (Xi (fZ S hh:Nat))/\w=w':=by
 have has:=oG h hi hh hl;generalize fZ S hh=a at*;have ad:((a:Int) !=0)=true:=by simp;omega
 have HG:=If has;clear has ha h hi;go_enter func303,ntmps303;go_wp2_with fail;refine Jc HG.out ?_;go_wp2_with fail;go_ret;exact⟨rfl,rfl⟩
def vR(n:Nd):List Nat:=[n.key,n.val,n.left,n.right,n.mark,n.size]
def jh(ps hh:Nat)(n:Nd)(Y:Nat->Prop)(w2:World)(F:St)(k:Nat)(wr:World):Prop:=∃Sk,Ig wr ps Sk Y/\Fv Sk/\FC Sk hh k ((vR n).drop k)=F/\Fo Y w2 wr
theorem jh.step{ps hh:Nat}{n:Nd}{w2:World}{F:St}{k:Nat}{wr:World}(h:jh ps hh n Y w2 F k wr)(hl:hh<2^64)(x:Nat)(hx:x<2^64)(hk:k<6)(hxk:(vR n)[k]?=some x):
 Ct 99 #[PV ps,Xu hh,Xi k,Xu x] wr fun e w'=>∃er:Int,e=.returned (Xi er)/\jh ps hh n Y w2 F (k+1) w':=by
 obtain⟨Sk,h1,h2,h3,h4⟩:=h;refine(xl h1 h2 hh k x hl (by omega) hx).mono ?_;rintro e w' ⟨rfl,h5,h6⟩;obtain⟨ad,hv⟩:=aA.1 hxk;rw[aV ad,hv] at h3;exact⟨_,rfl,_,h5,h2.put hh k x,h3,h4.trans h6⟩
theorem lS(a0 a1 a2 a3 a4 a5:Value)(w:World):
 (Instr.index 273 (.agg #[a0,a1,a2,a3,a4,a5]) (Xi 0)).run prog w=.ok a0 w/\
 (Instr.index 273 (.agg #[a0,a1,a2,a3,a4,a5]) (Xi 1)).run prog w=.ok a1 w/\
 (Instr.index 273 (.agg #[a0,a1,a2,a3,a4,a5]) (Xi 2)).run prog w=.ok a2 w/\
 (Instr.index 273 (.agg #[a0,a1,a2,a3,a4,a5]) (Xi 3)).run prog w=.ok a3 w/\
 (Instr.index 273 (.agg #[a0,a1,a2,a3,a4,a5]) (Xi 4)).run prog w=.ok a4 w/\
 (Instr.index 273 (.agg #[a0,a1,a2,a3,a4,a5]) (Xi 5)).run prog w=.ok a5 w:=by
 refine⟨?_,?_,?_,?_,?_,?_⟩<;>kernel_rfl
theorem rM(h:Ig w ps S Y)(hi:Fv S)(hh:Nat)(hl:hh<2^64)(n:Nd)(hn:ji n):
 Ct 254 #[PV ps,Xu hh,eS n] w fun e w'=>e=.returned (Xi ((gM S hh n).1:Nat))/\Ig w' ps (gM S hh n).2 Y/\Fo Y w w':=by
 have hY:=h.yl;obtain⟨R,hR⟩:=Ii (gM S hh n);rw[hR];unfold gM at hR;have hf:=fun W=>Dj n W;have hP:∀{F:St} {w2:World},True:=trivial;obtain⟨k0,k1,k2,k3,k4,k5⟩:=n;obtain⟨l0,l1,l2,l3,l4,l5⟩:=hn;simp only at l0 l1 l2 l3 l4 l5;unfold eS at hf⊢;simp only at hf⊢;have ai:Below w.heap.size w (w.alloc (Xd k0 k1 k2 k3 k4 k5)):=(aa _ w).alloc Ih _;have has:=oG (h.below ai) hi hh hl;obtain⟨a,ha⟩:=Ii (fZ S hh);rw[ha] at has hR
 cases a with
 | succ a=>
  have ad:R=(a+1,S):=by rw[<-hR];rfl
  have au:(((a+1:Nat):Int) !=0)=true:=by simp;omega
  obtain⟨g1,ar⟩:=Ii (a+1);rw[ar] at has ad au;have HG:=kq4 has ad ai h;clear has hR ad ar h hi ha hf ai hY;go_enter func254,ntmps254;go_wp2_with fail;refine Jc HG.a ?_;go_wp2_with fail;go_ret;obtain rfl:=HG.b;exact⟨rfl,HG.d.below HG.c,HG.d.keep HG.c⟩
 | zero=>
  have ad:R=(0,FC S hh 0 [k0,k1,k2,k3,k4,k5]):=by rw[<-hR];rfl
  have HG:=kq6 has ad ai h hi hf;clear has hR ad h hi ha hf ai hY;go_enter func254,ntmps254;go_wp2_with fail;refine Jc HG.a ?_;go_wp2_with fail;refine wx (HG.f _) fun w2 hb2=>?_;have ap:=HG.c.trans (hb2.mono HG.c.size);have H0:jh ps hh ⟨k0,k1,k2,k3,k4,k5⟩ Y w2 R.2 0 w2:=⟨S,HG.d.below ap,HG.e,by rw[HG.b];rfl,Fo.refl _ _⟩;have HB:=If ap;clear ap hb2;go_wp2_with fail
  go_loopw [8,9,18] (fun _ _ i wr=>(i=Xi 0/\jh ps hh ⟨k0,k1,k2,k3,k4,k5⟩ Y w2 R.2 0 wr)\/(i=Xi 1/\jh ps hh ⟨k0,k1,k2,k3,k4,k5⟩ Y w2 R.2 1 wr)\/(i=Xi 2/\jh ps hh ⟨k0,k1,k2,k3,k4,k5⟩ Y w2 R.2 2 wr)\/(i=Xi 3/\jh ps hh ⟨k0,k1,k2,k3,k4,k5⟩ Y w2 R.2 3 wr)\/(i=Xi 4/\jh ps hh ⟨k0,k1,k2,k3,k4,k5⟩ Y w2 R.2 4 wr)\/(i=Xi 5/\jh ps hh ⟨k0,k1,k2,k3,k4,k5⟩ Y w2 R.2 5 wr)\/(i=Xi 6/\jh ps hh ⟨k0,k1,k2,k3,k4,k5⟩ Y w2 R.2 6 wr)) (fun _ _ i _=>6-(intOf i).toNat)
  case atStart=>exact ab ⟨rfl,H0⟩
  case round=>
   rcases hrel with⟨rfl,hP⟩ | ⟨rfl,hP⟩ | ⟨rfl,hP⟩ | ⟨rfl,hP⟩ | ⟨rfl,hP⟩ | ⟨rfl,hP⟩ | ⟨rfl,hP⟩
   ·have HS:=If (hP.step hl k0 l0 (by decide) rfl);have al:=fun w=>(lS (Xu k0) (Xu k1) (Xu k2) (Xu k3) (Xu k4) (Xu k5) w).1;clear hP H0;go_wp2_with fail;refine HS.out.mono ?_;rintro e w3 ⟨er,rfl,hP⟩;go_wp2_with fail;go_roundw
    case rel=>exact ae (ab ⟨rfl,hP⟩)
    case measure=>simp[intOf]
   ·have HS:=If (hP.step hl k1 l1 (by decide) rfl);have al:=fun w=>(lS (Xu k0) (Xu k1) (Xu k2) (Xu k3) (Xu k4) (Xu k5) w).2.1;clear hP H0;go_wp2_with fail;refine HS.out.mono ?_;rintro e w3 ⟨er,rfl,hP⟩;go_wp2_with fail;go_roundw
    case rel=>exact ae (ae (ab ⟨rfl,hP⟩))
    case measure=>simp[intOf]
   ·have HS:=If (hP.step hl k2 l2 (by decide) rfl);have al:=fun w=>(lS (Xu k0) (Xu k1) (Xu k2) (Xu k3) (Xu k4) (Xu k5) w).2.2.1;clear hP H0;go_wp2_with fail;refine HS.out.mono ?_;rintro e w3 ⟨er,rfl,hP⟩;go_wp2_with fail;go_roundw
    case rel=>exact ae (ae (ae (ab ⟨rfl,hP⟩)))
    case measure=>simp[intOf]
   ·have HS:=If (hP.step hl k3 l3 (by decide) rfl);have al:=fun w=>(lS (Xu k0) (Xu k1) (Xu k2) (Xu k3) (Xu k4) (Xu k5) w).2.2.2.1;clear hP H0;go_wp2_with fail;refine HS.out.mono ?_;rintro e w3 ⟨er,rfl,hP⟩;go_wp2_with fail;go_roundw
    case rel=>exact ae (ae (ae (ae (ab ⟨rfl,hP⟩))))
    case measure=>simp[intOf]
   ·have HS:=If (hP.step hl k4 l4 (by decide) rfl);have al:=fun w=>(lS (Xu k0) (Xu k1) (Xu k2) (Xu k3) (Xu k4) (Xu k5) w).2.2.2.2.1;clear hP H0;go_wp2_with fail;refine HS.out.mono ?_;rintro e w3 ⟨er,rfl,hP⟩;go_wp2_with fail;go_roundw
    case rel=>exact ae (ae (ae (ae (ae (ab ⟨rfl,hP⟩)))))
    case measure=>simp[intOf]
   ·have HS:=If (hP.step hl k5 l5 (by decide) rfl);have al:=fun w=>(lS (Xu k0) (Xu k1) (Xu k2) (Xu k3) (Xu k4) (Xu k5) w).2.2.2.2.2;clear hP H0;go_wp2_with fail;refine HS.out.mono ?_;rintro e w3 ⟨er,rfl,hP⟩;go_wp2_with fail;go_roundw
    case rel=>exact ae (ae (ae (ae (ae (ae ⟨rfl,hP⟩)))))
    case measure=>simp[intOf]
   ·have HP:=If hP;clear hP H0;go_wp2_with fail;go_ret;obtain⟨Sk,h1,h2,h3,h4⟩:=HP.out;have e1:R.1=0:=by rw[HG.b]
    have e2:Sk=R.2:=h3;rw[e1,<-e2];exact⟨rfl,h1,(Fo.of_below HB.out HG.d.yl).trans h4⟩
theorem vU(h:Ig w ps S Y)(hm:iw S 6)(n:Nd)(hn:ji n):
 Ct 295 #[PV ps,eS n] w fun e w'=>e=.returned (.tuple #[Xu ((ft S n).1.1:Nat),Xi ((ft S n).1.2:Nat)])/\Ig w' ps (ft S n).2 Y/\Fo Y w w':=by
 have al:=fun W (hW:Below w.heap.size w W)=>sH (h.wide hW) 6 (by omega) hm.1;have a8:=oA h.tabwf 6;have ai:=hm.2;obtain⟨R,hR⟩:=Ii (ft S n);rw[hR];unfold ft at hR;obtain⟨⟨⟨hh,er⟩,S1⟩,hS⟩:∃r,S.make 6=r:=⟨_,rfl⟩;rw[hS] at al a8 ai hR;simp only at al a8 ai;have ap:=fun W Z (hW:Ig W ps S1 Z)=>rM hW ai hh a8 n hn;obtain⟨k0,k1,k2,k3,k4,k5⟩:=n;unfold eS at ap⊢;simp only at ap⊢;have a6:Below w.heap.size w (w.alloc (Xd k0 k1 k2 k3 k4 k5)):=(aa _ w).alloc Ih _;have kx:=heap_alloc_new w (Xd k0 k1 k2 k3 k4 k5);have HG:=kq6 (al _ a6) hR a6 h ap kx;clear al hR a6 hm ai hS hn ap kx;go_enter func295,ntmps295;go_wp2_with fail;refine HG.a.mono ?_;rintro e w1 ⟨rfl,h1,a9⟩;have hx:w1.heap[w.heap.size]?=some (.cells #[Xu k0,Xu k1,Xu k2,Xu k3,Xu k4,Xu k5] 232 (0,0)):=(a9.block _ (ae ⟨Nat.le_refl _,by simp⟩)).trans HG.f;have a0:w1.cell? ⟨w.heap.size,0,none⟩=some (Xu k0):=by rw[cell_of_block hx];rfl
 have a1:w1.cell? ⟨w.heap.size,1,none⟩=some (Xu k1):=by rw[cell_of_block hx];rfl
 have a2:w1.cell? ⟨w.heap.size,2,none⟩=some (Xu k2):=by rw[cell_of_block hx];rfl
 have a3:w1.cell? ⟨w.heap.size,3,none⟩=some (Xu k3):=by rw[cell_of_block hx];rfl
 have a4:w1.cell? ⟨w.heap.size,4,none⟩=some (Xu k4):=by rw[cell_of_block hx];rfl
 have a5:w1.cell? ⟨w.heap.size,5,none⟩=some (Xu k5):=by rw[cell_of_block hx];rfl
 have au:=h1.mono (Z:=Y) fun k hk=>ab hk;have a':=(Fo.of_below HG.c h.yl).trans (a9.mono (Z:=Y) fun k hk=>ab hk);have H1:=kq3 au a' (HG.e w1 Y au);clear h1 a9 hx au a' h
 cases er with
 | succ er=>
  have ad:R=((0,er+1),S1):=by rw[<-HG.b];rfl
  have bb:(((er+1:Nat):Int) !=0)=true:=by simp;omega
  obtain⟨g1,a7⟩:=Ii (er+1);rw[a7] at ad bb;simp only[a7];have ar:=If ad;clear ad a7;go_wp2_with fail;go_ret2;obtain rfl:=ar.out;exact⟨rfl,H1.a,H1.b⟩
 | zero=>
  have ad:R=((hh,(gM S1 hh ⟨k0,k1,k2,k3,k4,k5⟩).1),(gM S1 hh ⟨k0,k1,k2,k3,k4,k5⟩).2):=by rw[<-HG.b];rfl
  have ar:=If ad;clear ad;go_wp2_with fail;refine H1.c.mono ?_;rintro e w2 ⟨rfl,h2,ba⟩;have H2:=kq2 h2 (H1.b.trans ba);clear h2 ba;go_wp2_with fail;go_ret2;obtain rfl:=ar.out;exact⟨rfl,H2.out⟩
end Go.Proofs.YtcibkdbpicledaaGreatDoor
namespace Go.Proofs.YtcibkdbpicledaaGreatDoor.Lf
def num(x:Nat):Option Nat:=match x / 4611686018427387904 with | 0=>some x | _+1=>none
def eE(S:St)(h:Nat):Option Nat:=num (mU S h)
def fY(S:St)(h:Nat):Option Nat:=num (sj S h)
def gD(S:St)(h:Nat):Option (List UInt8):=if(fz S h).2=8 then none else some (fz S h).1
def ij(S:St)(k:List UInt8):Nat->Nat->Nat->Option (Nat×Nat)
 | 0,_,below=>some (0,below)
 | f+1,root,below=>
  if root=0 then some (0,below)
  else if(getNode S root).2≠0 then some (0,below)
  else match gD S (getNode S root).1.key with
   | none=>none
   | some t=>
    if Fu k t<0 then ij S k f (getNode S root).1.left below
    else match fY S (getNode S root).1.left with
     | none=>none
     | some z=>
      if 0<Fu k t then(match num (below+(z+1)) with | none=>none | some b=>ij S k f (getNode S root).1.right b)
      else(match num (below+z) with | none=>none | some b=>some (root,b))
theorem AF(S:St)(k:List UInt8)(root below:Nat):ij S k 0 root below=some (0,below):=rfl
theorem n8(S:St)(k:List UInt8)(f root below:Nat):ij S k (f+1) root below=
 if root=0 then some (0,below)
 else if(getNode S root).2≠0 then some (0,below)
 else match gD S (getNode S root).1.key with
  | none=>none
  | some t=>
   if Fu k t<0 then ij S k f (getNode S root).1.left below
   else match fY S (getNode S root).1.left with
    | none=>none
    | some z=>
     if 0<Fu k t then(match num (below+(z+1)) with | none=>none | some b=>ij S k f (getNode S root).1.right b)
     else(match num (below+z) with | none=>none | some b=>some (root,b)):=rfl
def oP(S:St)(root:Nat)(k:List UInt8):Option Nat:=(ij S k (limit S) root 0).map (·.2)
def j8(S:St):Nat->Nat->Nat->Option (Nat×Nat)
 | 0,_,_=>some (0,2)
 | f+1,root,k=>
  if(getNode S root).2≠0 then some (0,2)
  else match fY S (getNode S root).1.left with
   | none=>none
   | some z=>
    if k<z then j8 S f (getNode S root).1.left k
    else if z<k then j8 S f (getNode S root).1.right (k-(z+1))
    else some (root,0)
theorem yK(S:St)(root k:Nat):j8 S 0 root k=some (0,2):=rfl
theorem tF(S:St)(f root k:Nat):j8 S (f+1) root k=
 if(getNode S root).2≠0 then some (0,2)
 else match fY S (getNode S root).1.left with
  | none=>none
  | some z=>
   if k<z then j8 S f (getNode S root).1.left k
   else if z<k then j8 S f (getNode S root).1.right (k-(z+1))
   else some (root,0):=rfl
def kD(S:St)(root k:Nat):Option (Nat×Nat):=
 match fY S root with
 | none=>none
 | some z=>if z<=k then some (0,2) else j8 S (limit S) root k
def fu(S:St)(n:Nd)(h l r:Nat):Option St:=
 match eE S l,eE S r,fY S l,fY S r with
 | some a,some b,some x,some y=>some (gM S h { n with left:=l,right:=r,mark:=max a b+1,size:=x+y+1 }).2
 | _,_,_,_=>none
def isT(S:St)(h:Nat):Bool:=h=0 || (getNode S h).2=0
abbrev Jn:=St->Nat->Nat->Nat->Option ((Nat×Nat)×St)
def jq(jn:Jn)(S:St)(l m r:Nat):Option (Nat×St):=
 (jn S l m r).map fun x=>(if x.1.2=0 then x.1.1 else m,x.2)
def kr(jn:Jn)(key:List UInt8):Nat->St->Nat->Option ((Nat×Nat×Nat)×St)
 | 0,S,_=>some ((0,0,0),S)
 | f+1,S,root=>
  if root=0 then some ((0,0,0),S)
  else match gD S (getNode S root).1.key with
   | none=>none
   | some k=>
    if Fu key k<0 then
     match kr jn key f S (getNode S root).1.left with
     | none=>none
     | some ((l,m,r),S1)=>(jq jn S1 r root (getNode S root).1.right).map fun x=>((l,m,x.1),x.2)
    else if 0<Fu key k then
     match kr jn key f S (getNode S root).1.right with
     | none=>none
     | some ((l,m,r),S1)=>(jq jn S1 (getNode S root).1.left root l).map fun x=>((x.1,m,r),x.2)
    else some (((getNode S root).1.left,root,(getNode S root).1.right),S)
theorem wZ(jn:Jn)(key:List UInt8)(S:St)(root:Nat):kr jn key 0 S root=some ((0,0,0),S):=rfl
theorem sk(jn:Jn)(key:List UInt8)(f:Nat)(S:St)(root:Nat):kr jn key (f+1) S root=
 if root=0 then some ((0,0,0),S)
 else match gD S (getNode S root).1.key with
  | none=>none
  | some k=>
   if Fu key k<0 then
    match kr jn key f S (getNode S root).1.left with
    | none=>none
    | some ((l,m,r),S1)=>(jq jn S1 r root (getNode S root).1.right).map fun x=>((l,m,x.1),x.2)
   else if 0<Fu key k then
    match kr jn key f S (getNode S root).1.right with
    | none=>none
    | some ((l,m,r),S1)=>(jq jn S1 (getNode S root).1.left root l).map fun x=>((x.1,m,r),x.2)
   else some (((getNode S root).1.left,root,(getNode S root).1.right),S):=rfl
end Go.Proofs.YtcibkdbpicledaaGreatDoor.Lf
namespace Go.Proofs.YtcibkdbpicledaaGreatDoor
open Go.RowKit Tryz Go.BigFrame Go.Maps Go.WideMaps Lf
variable{S:St}{Y:Nat->Prop}{ps:Nat}{w:World}{z:Nat}
theorem fs(h:Ig w ps S Y)(hh:Nat):ji (getNode S hh).1:=by
 have g:=fun k=>uC h hh k;unfold getNode
 split
 ·exact⟨g 0,g 1,g 2,g 3,g 4,g 5⟩
 ·have z:0<2^64:=by decide
  exact⟨z,z,z,z,z,z⟩
theorem num_some{x y:Nat}(h:num x=some y):y=x/\x<2^62:=by
 unfold num at h
 split at h
 ·rename_i hx
  injection h with h;exact⟨h.symm,by omega⟩
 ·cases h
theorem nB(h:Ig w ps S Y):S.words<=262144:=by
 obtain⟨_,_,_,_,_,h⟩:=h;have:=h.heap.wf.room;have:=h.heap.wf.quota;unfold St.words;omega
theorem sX(h:Ig w ps S Y):
 Cb 187 #[PV ps] w (Xi (limit S:Nat)):=by
 have hw:=xo h;have ad:=nB h;unfold limit;generalize S.words=m at*;have HG:=If hw;clear hw h;go_enter func187,ntmps187;go_wp2_with fail;refine wx HG.out fun w1 hb=>?_;have HB:=If hb;clear hb;go_wp2_with fail;go_ret;exact⟨by simp,HB.out⟩
theorem qJeab{P:Prop}(h:P:=by
 clear hb;go_wp2_with fail;go_ret;exact⟨rfl,HB.out⟩):P:=h
theorem EZ(h:Ig w ps S Y)(hi:Fv S)(n:Nd)(hn:n.key<2^64){t:List UInt8}(ht:gD S n.key=some t):
 Cb 305 #[PV ps,eS n] w (SV t):=by
 unfold gD at ht
 split at ht
 ·cases ht
 ·rename_i h8
  injection ht with ht
  obtain⟨k0,k1,k2,k3,k4,k5⟩:=n;simp only at hn ht h8;have ad:Below w.heap.size w (w.alloc (Xd k0 k1 k2 k3 k4 k5)):=(aa _ w).alloc Ih _;have hg:=iz (h.below ad) hi k0 hn h8;rw[ht] at hg;generalize (fz S k0).2=er at*;unfold eS;simp only;have HG:=kq2 hg ad;clear hg ad h hi ht h8;go_enter func305,ntmps305;go_wp2_with fail;refine wx HG.a fun w1 hb=>?_;have HB:=If (HG.b.trans (hb.mono HG.b.size));exact qJeab
theorem qJeaf{P:Prop}(h:P:=by
 unfold getNode at he⊢
 split
 ·rename_i e;rw[e] at he;exact absurd rfl he
 ·rfl):P:=h
theorem qJeae{P:Prop}(h:P:=by
 go_wp2_with fail;refine wx HG.out fun w1 hb=>?_;have HB:=If (hb.alloc hb.size (Xd k0 k1 k2 k3 k4 k5));exact qJeab):P:=h
theorem qJeac{P:Prop}(h:P:=by
 go_wp2_with fail;refine wx HG.out fun w1 hb=>?_;have HB:=If (hb.alloc hb.size (.cells #[Xu 0,Xu 0,Xu 0,Xu 0,Xu 0,Xu 0] 232));exact qJeab):P:=h
theorem kP(h:Ig w ps S Y)(hi:Fv S)(hh:Nat)(hl:hh<2^64)(hz:fY S hh=some z):
 Cb 253 #[PV ps,Xu hh] w (Xi z):=by
 have hg:=iO h hi hh hl;unfold fY sj at hz;obtain⟨rfl,al⟩:=num_some hz;clear hz;have ad:(getNode S hh).2≠0->(getNode S hh).1=Nd.zero:=fun he=>by
  exact qJeaf
 obtain⟨⟨⟨k0,k1,k2,k3,k4,k5⟩,er⟩,hE⟩:∃r,getNode S hh=r:=⟨_,rfl⟩;rw[hE] at hg al ad⊢;simp only at hg al ad⊢;unfold eS at hg;simp only at hg
 cases er with
 | succ er=>
  have h0:=ad (by omega)
  injection h0 with h0 h1 h2 h3 h4 h5
  subst h0 h1 h2 h3 h4 h5;have ap:(((er+1:Nat):Int) !=0)=true:=by simp;omega
  obtain⟨g1,ai⟩:=Ii (er+1);rw[ai] at hg ap;have HG:=If hg;clear hg h hi hE ad ai;go_enter func253,ntmps253;exact qJeac
 | zero=>
  have HG:=If hg;clear hg h hi hE ad;go_enter func253,ntmps253;exact qJeae
theorem fJ(h:Ig w ps S Y)(hi:Fv S)(hh:Nat)(hl:hh<2^64)(hz:eE S hh=some z):
 Cb 222 #[PV ps,Xu hh] w (Xi z):=by
 have hg:=iO h hi hh hl;unfold eE mU at hz;obtain⟨rfl,al⟩:=num_some hz;clear hz;have ad:(getNode S hh).2≠0->(getNode S hh).1=Nd.zero:=fun he=>by
  exact qJeaf
 obtain⟨⟨⟨k0,k1,k2,k3,k4,k5⟩,er⟩,hE⟩:∃r,getNode S hh=r:=⟨_,rfl⟩;rw[hE] at hg al ad⊢;simp only at hg al ad⊢;unfold eS at hg;simp only at hg
 cases er with
 | succ er=>
  have h0:=ad (by omega)
  injection h0 with h0 h1 h2 h3 h4 h5
  subst h0 h1 h2 h3 h4 h5;have ap:(((er+1:Nat):Int) !=0)=true:=by simp;omega
  obtain⟨g1,ai⟩:=Ii (er+1);rw[ai] at hg ap;have HG:=If hg;clear hg h hi hE ad ai;go_enter func222,ntmps222;exact qJeac
 | zero=>
  have HG:=If hg;clear hg h hi hE ad;go_enter func222,ntmps222;exact qJeae
end Go.Proofs.YtcibkdbpicledaaGreatDoor
namespace Go.Proofs.YtcibkdbpicledaaGreatDoor
open Go.RowKit Tryz Go.BigFrame Go.Maps Go.WideMaps Lf
variable{S:St}{Y:Nat->Prop}{b:Nat}{ps:Nat}{w:World}
theorem qJead{P:Prop}(h:P:=by
 go_wp2_with fail;go_ret2;obtain rfl:=HE.a;exact⟨rfl,HE.b⟩):P:=h
theorem xT(h:Ig w ps S Y)(hi:Fv S)(root:Nat)(hl:root<2^64)(k:List UInt8){R:Nat×Nat}(hR:ij S k (limit S) root 0=some R):
 Cb 300 #[PV ps,Xu root,SV k] w (.tuple #[Xu R.1,Xi R.2]):=by
 have a4:=sX h;have bk:=nB h;have hL:limit S<=40000:=by unfold limit;omega
 obtain⟨L,a8⟩:=Ii (limit S);rw[a8] at a4 hL hR;have bc:=fun hh=>fs h hh;have HG:=kq5 a4 h hi hR bc;clear a4 h hi hR bk a8 bc;go_enter func300,ntmps300;go_wp2_with fail;refine wx HG.a fun w1 hb1=>?_;have bd:=If hb1;clear hb1;go_wp2_with fail
 go_loopw [1,7,9,10,11,12] (fun r b i _ _ _ wr=>∃f root bb ii:Nat,r=Xu root/\b=Xi bb/\i=Xi ii/\f+ii=L/\root<2^64/\bb<2^62/\Hid (ij S k f root bb=some R/\Below w.heap.size w wr)) (fun _ _ i _ _ _ _=>L-(intOf i).toNat)
 case atStart=>exact⟨L,root,0,0,rfl,rfl,rfl,by omega,hl,by omega,HG.d,bd.out⟩
 case round=>
  obtain⟨f,root,bb,ii,rfl,rfl,rfl,hf,bo,bj,ad⟩:=hrel;have bu:ii<=40000:=by omega
  cases f with
  | zero=>
   have bv:ii=L:=by omega
   have al:R=(0,bb):=by have h9:=ad.out.1;rw[AF] at h9;exact(Option.some.inj h9).symm
   have HE:=kq2 al ad.out.2;clear al ad
   by_cases hr0:root=0
   ·subst hr0;exact qJead
   ·have hq:((root:Int) !=0)=true:=by simp;omega
    have bt:(L:Int)<=ii:=by omega
    clear hr0;exact qJead
  | succ f=>
   by_cases hr0:root=0
   ·have al:R=(0,bb):=by have h9:=ad.out.1;rw[n8,if_pos hr0] at h9;exact(Option.some.inj h9).symm
    have HE:=kq2 al ad.out.2;clear al ad;subst hr0;exact qJead
   ·have hq:((root:Int) !=0)=true:=by simp;omega
    have b0:(ii:Int)<L:=by omega
    have hd:=ad.out.1;rw[n8,if_neg hr0] at hd;have a1:=HG.b.below ad.out.2;have hg:=iO a1 HG.c root bo;have a5:=HG.e root;obtain⟨⟨nd,er⟩,hE⟩:∃r,getNode S root=r:=⟨_,rfl⟩;rw[hE] at hg a5 hd;simp only at hg a5 hd;obtain⟨k0,k1,k2,k3,k4,k5⟩:=nd;obtain⟨n0,n1,n2,n3,n4,n5⟩:=a5;simp only at n0 n1 n2 n3 n4 n5;have ap:eS ⟨k0,k1,k2,k3,k4,k5⟩=.agg #[Xu k0,Xu k1,Xu k2,Xu k3,Xu k4,Xu k5]:=rfl;rw[ap] at hg
    cases er with
    | succ er=>
     rw[if_pos (by omega)] at hd;have hd:=Option.some.inj hd;have bm:(((er+1:Nat):Int) !=0)=true:=by simp;omega
     obtain⟨g1,a9⟩:=Ii (er+1);rw[a9] at hg bm;have HE:=kq3 hg hd ad.out.2;clear hg hd ad a1 hE hr0 a9 ap;go_wp2_with fail;refine wx HE.a fun w2 hb2=>?_;have bf:=If ((HE.c.trans (hb2.mono HE.c.size)).alloc (aO HE.c.size hb2.size) (Xd k0 k1 k2 k3 k4 k5));clear hb2;go_wp2_with fail;go_ret2;obtain rfl:=HE.b;exact⟨rfl,bf.out⟩
    | zero=>
     rw[if_neg (by omega)] at hd
     cases ht:gD S k0 with
     | none=>rw[ht] at hd;cases hd
     | some t=>
      rw[ht] at hd;simp only at hd;have HE:=kq3 hg ad.out.2 ht;clear hg ad a1 hE hr0 ht;go_wp2_with fail;refine wx HE.a fun w2 hb2=>?_;have a0:=(HE.b.trans (hb2.mono HE.b.size)).alloc (aO HE.b.size hb2.size) (Xd k0 k1 k2 k3 k4 k5);have hk:=EZ (HG.b.below a0) HG.c ⟨k0,k1,k2,k3,k4,k5⟩ n0 HE.c;rw[ap] at hk;have hx:=heap_alloc_new w2 (Xd k0 k1 k2 k3 k4 k5);have a':w2.heap.size<(w2.alloc (Xd k0 k1 k2 k3 k4 k5)).heap.size:=by simp
      have HK:=kq4 hk a0 hx a';clear hb2 a0 hk hx a' ap;go_wp2_with fail;refine wx HK.a fun w3 hb3=>?_;have HC:=If (sT k t w3);have a7:=HK.b.trans (hb3.mono HK.b.size);have a6:=(hb3.block _ HK.d).trans HK.c;have a2:w3.cell? ⟨w2.heap.size,2,none⟩=some (Xu k2):=by rw[cell_of_block a6];rfl
      have a3:w3.cell? ⟨w2.heap.size,3,none⟩=some (Xu k3):=by rw[cell_of_block a6];rfl
      have ai:=If a7;clear hb3 a7 a6;go_wp2_with fail;refine Jc HC.out ?_;generalize Fu k t=c at*
      by_cases hc:c<0
      ·rw[if_pos hc] at hd;have HD:=If hd;clear hd;go_wp2_with fail;go_roundw
       case rel=>exact⟨f,k2,bb,ii+1,rfl,rfl,by simp,by omega,n2,bj,HD.out,ai.out⟩
       case measure=>simp[intOf];omega
      ·rw[if_neg hc] at hd
       cases hz:fY S k2 with
       | none=>rw[hz] at hd;cases hd
       | some z=>
        rw[hz] at hd;simp only at hd;have b1:z<2^62:=by have:=num_some hz;omega
        have ar:=kP (HG.b.below ai.out) HG.c k2 n2 hz
        by_cases hc2:0<c
        ·rw[if_pos hc2] at hd
         cases hn:num (bb+(z+1)) with
         | none=>rw[hn] at hd;cases hd
         | some b2=>
          rw[hn] at hd;simp only at hd;obtain⟨rfl,ba⟩:=num_some hn;have HD:=kq2 hd ar;clear hd ar hn hz;go_wp2_with fail;refine wx HD.b fun w5 hb5=>?_;have bs:w5.cell? ⟨w2.heap.size,3,none⟩=some (Xu k3):=by
           rw[<-a3];refine hb5.cell (p:=⟨w2.heap.size,3,none⟩) ?_;unfold World.cell? at a3
           split at a3
           ·rename_i heq;exact(gl heq)
           ·cases a3
          have au:=If (ai.out.trans (hb5.mono ai.out.size));clear hb5;go_wp2_with fail;go_roundw
          case rel=>exact⟨f,k3,bb+(z+1),ii+1,rfl,by simp,by simp,by omega,n3,ba,HD.a,au.out⟩
          case measure=>simp[intOf];omega
        ·rw[if_neg hc2] at hd;obtain rfl:c=0:=by omega
         cases hn:num (bb+z) with
         | none=>rw[hn] at hd;cases hd
         | some b2=>
          rw[hn] at hd;simp only at hd;obtain⟨rfl,ba⟩:=num_some hn;have hd:=Option.some.inj hd;have HD:=kq2 hd ar;clear hd ar hn hz;go_wp2_with fail;refine wx HD.b fun w5 hb5=>?_;have au:=If (ai.out.trans (hb5.mono ai.out.size));clear hb5;go_wp2_with fail;go_ret2;obtain rfl:=HD.a;exact⟨by simp,au.out⟩
theorem E1(h:Ig w ps S Y)(hi:Fv S)(root:Nat)(hl:root<2^64)(k:List UInt8){z:Nat}(hR:oP S root k=some z):
 Cb 298 #[PV ps,Xu root,SV k] w (Xi z):=by
 unfold oP at hR
 cases hd:ij S k (limit S) root 0 with
 | none=>rw[hd] at hR;cases hR
 | some R=>
  rw[hd] at hR
  injection hR with hR
  have HG:=kq2 (xT h hi root hl k hd) hR;clear h hi hd hR;go_enter func298,ntmps298;go_wp2_with fail;refine wx HG.a fun w1 hb=>?_;have HB:=If hb;clear hb;go_wp2_with fail;go_ret;obtain rfl:=HG.b;exact⟨rfl,HB.out⟩
def gP(n:Nd)(h:Nat):Value:=.agg #[Xu n.key,Xu n.val,Xu n.left,Xu n.right,Xu n.mark,Xu n.size,Xu h]
theorem Ew{W:World}{u0 u1 u2 u3 u4 u5 u6:Value}{t:TypeId}{fr:Nat×Nat}(h:W.heap[b]?=some (.cells #[u0,u1,u2,u3,u4,u5,u6] t fr))(v0 v1 v2 v3 v4 v5 v6:Value):(((((((W.setCell ⟨b,0,none⟩ (v0)).setCell ⟨b,1,none⟩ (v1)).setCell ⟨b,2,none⟩ (v2)).setCell ⟨b,3,none⟩ (v3)).setCell ⟨b,4,none⟩ (v4)).setCell ⟨b,5,none⟩ (v5)).setCell ⟨b,6,none⟩ (v6)).heap[b]?=some (.cells #[v0,v1,v2,v3,v4,v5,v6] t fr):=by
 rw[heap_setCell (heap_setCell (heap_setCell (heap_setCell (heap_setCell (heap_setCell (heap_setCell h))))))];rfl
theorem Ev{w W:World}(h:Below w.heap.size w W)(hb:w.heap.size<=b)(v0 v1 v2 v3 v4 v5 v6:Value):Below w.heap.size w (((((((W.setCell ⟨b,0,none⟩ (v0)).setCell ⟨b,1,none⟩ (v1)).setCell ⟨b,2,none⟩ (v2)).setCell ⟨b,3,none⟩ (v3)).setCell ⟨b,4,none⟩ (v4)).setCell ⟨b,5,none⟩ (v5)).setCell ⟨b,6,none⟩ (v6)):=
 ((((((h.setCell (p:=⟨b,0,none⟩) hb _).setCell (p:=⟨b,1,none⟩) hb _).setCell (p:=⟨b,2,none⟩) hb _).setCell (p:=⟨b,3,none⟩) hb _).setCell (p:=⟨b,4,none⟩) hb _).setCell (p:=⟨b,5,none⟩) hb _).setCell (p:=⟨b,6,none⟩) hb _
theorem gR(h:Ig w ps S Y)(hi:Fv S)(hh:Nat)(hl:hh<2^64):
 Cb 220 #[PV ps,Xu hh] w (gP (getNode S hh).1 hh):=by
 have ad:Below w.heap.size w (w.alloc (.cells #[Xu 0,Xu 0,Xu 0,Xu 0,Xu 0,Xu 0,Xu 0] 319)):=(aa _ w).alloc Ih _;have hg:=iO (h.below ad) hi hh hl;obtain⟨⟨⟨k0,k1,k2,k3,k4,k5⟩,er⟩,hE⟩:∃r,getNode S hh=r:=⟨_,rfl⟩;rw[hE] at hg⊢;unfold eS at hg;unfold gP;simp only at hg⊢;have hx:=heap_alloc_new w (.cells #[Xu 0,Xu 0,Xu 0,Xu 0,Xu 0,Xu 0,Xu 0] 319);have HG:=kq3 hg ad hx;clear hg ad h hi hE hx;go_enter func220,ntmps220;go_wp2_with fail;refine wx HG.a fun w1 hb=>?_;have r0:=(hb.block w.heap.size (by simp)).trans HG.c;obtain⟨b0,b1,b2,b3,b4,b5,b6⟩:=gG r0;obtain⟨f0,f1,f2,f3,f4,f5,f6⟩:=qI r0;have ap:w.heap.size<w1.heap.size:=(gl r0);have HB:=kq2 r0 (HG.b.trans (hb.mono HG.b.size));clear r0 hb;go_wp2_with fail;have hX:=Ew HB.a (Xu k0) (Xu k1) (Xu k2) (Xu k3) (Xu k4) (Xu k5) (Xu hh);have hY:=Ev HB.b (Nat.le_refl w.heap.size) (Xu k0) (Xu k1) (Xu k2) (Xu k3) (Xu k4) (Xu k5) (Xu hh);have ar:(((((((w1.setCell ⟨w.heap.size,0,none⟩ (Xu k0)).setCell ⟨w.heap.size,1,none⟩ (Xu k1)).setCell ⟨w.heap.size,2,none⟩ (Xu k2)).setCell ⟨w.heap.size,3,none⟩ (Xu k3)).setCell ⟨w.heap.size,4,none⟩ (Xu k4)).setCell ⟨w.heap.size,5,none⟩ (Xu k5)).setCell ⟨w.heap.size,6,none⟩ (Xu hh)).heap.size=w1.heap.size:=by simp
 generalize (((((((w1.setCell ⟨w.heap.size,0,none⟩ (Xu k0)).setCell ⟨w.heap.size,1,none⟩ (Xu k1)).setCell ⟨w.heap.size,2,none⟩ (Xu k2)).setCell ⟨w.heap.size,3,none⟩ (Xu k3)).setCell ⟨w.heap.size,4,none⟩ (Xu k4)).setCell ⟨w.heap.size,5,none⟩ (Xu k5)).setCell ⟨w.heap.size,6,none⟩ (Xu hh))=W9 at*;have ai:(W9.alloc (Xd k0 k1 k2 k3 k4 k5)).heap[w.heap.size]?=some (.cells #[Xu k0,Xu k1,Xu k2,Xu k3,Xu k4,Xu k5,Xu hh] 319 (0,0)):=by rw[heap_alloc_old _ _ (by omega)];exact hX
 have al:=hY.alloc hY.size (Xd k0 k1 k2 k3 k4 k5);generalize W9.alloc (Xd k0 k1 k2 k3 k4 k5)=W10 at*;obtain⟨e0,e1,e2,e3,e4,e5,e6⟩:=gG ai;exact bodyPost_ret (v:=.agg #[Xu k0,Xu k1,Xu k2,Xu k3,Xu k4,Xu k5,Xu hh]) (by simp[results,f220,go_sem,e0,e1,e2,e3,e4,e5,e6]) rfl ⟨rfl,al⟩
theorem pQ(h:Ig w ps S Y)(hi:Fv S)(hh:Nat)(hl:hh<2^64):
 Cb 218 #[PV ps,Xu hh] w (.bool (isT S hh)):=by
 have hg:=iO h hi hh hl;obtain⟨R,hR⟩:=Ii (isT S hh);rw[hR];unfold isT at hR;obtain⟨⟨⟨k0,k1,k2,k3,k4,k5⟩,er⟩,hE⟩:∃r,getNode S hh=r:=⟨_,rfl⟩;rw[hE] at hg hR;unfold eS at hg;simp only at hg hR;have ad:R=(((hh:Int)==0) || ((er:Int)==0)):=by
  rw[<-hR]
  by_cases a:hh=0<;>by_cases b:er=0<;>simp[a,b]<;>omega
 have HG:=kq2 hg ad;clear hg h hi hE hR ad
 by_cases h0:hh=0
 ·subst h0;go_enter func218,ntmps218;go_wp2_with fail;refine wx HG.a fun w1 hb=>?_;have HB:=If (hb.alloc hb.size (Xd k0 k1 k2 k3 k4 k5));clear hb;go_wp2_with fail;go_ret;obtain rfl:=HG.b;exact⟨by simp,HB.out⟩
 ·have hq:((hh:Int)==0)=false:=by simp;omega
  go_enter func218,ntmps218;go_wp2_with fail;refine wx HG.a fun w1 hb=>?_;have HB:=If (hb.alloc hb.size (Xd k0 k1 k2 k3 k4 k5));clear hb;go_wp2_with fail;go_ret;obtain rfl:=HG.b;exact⟨by simp[hq],HB.out⟩