/- The store: Make: the walk. -/
import Derived.Test.YtcibkdbpicledaaGreatDoorZHd
import Derived.Defers
import Derived.Maps.OwnIn
import Derived.Laws.BytesString
set_option maxRecDepth 100000
set_option maxHeartbeats 3200000
namespace Go.Proofs.YtcibkdbpicledaaGreatDoor
section
open Go.RowKit Tryz Go.BigFrame Go.Maps Go.WideMaps Lf
variable{S:St}{Y:Nat->Prop}{ps:Nat}{v:Value}{w:World}
theorem eR.of_keep{w w':World}{ps pa pm ph pt:Nat}(h:eR w ps pa pm ph pt v S Y)(hs:w.heap.size<=w'.heap.size)
 (hk:∀k,k<w.heap.size->(¬Y k\/k=ps\/k=ph\/k=fy)->w'.heap[k]?=w.heap[k]?):eR w' ps pa pm ph pt v S Y:=by
 obtain⟨ai,ad⟩:=h.heap.slab;have al:∀k,¬YS Y ps ph pt v k->¬Y k:=fun k hk hy=>hk (ab hy);have an:¬Y pt:=fun hy=>(h.off pt (ab hy)).1 rfl;refine⟨?_,⟨⟨ai,ad.of_keep hs fun k hkl hkk=>hk k hkl (ab (al k ?_))⟩,?_,h.heap.yh,h.heap.tab.of_block (hk fy h.heap.tab.lt (ae (ae (ae rfl)))),h.heap.yt⟩,h.tab.of_keep (hk pt h.tab.pt_lt (ab an)) fun b hb=>hk b (h.tab.own_lt hb) (ab fun hy=>(h.off b (ab hy)).2 hb),h.off⟩
 ·rw[hk ps (gl h.hd) (ae (ab rfl))];exact h.hd
 ·rcases hkk with rfl | rfl | ⟨p,hp,rfl⟩
  ·exact ad.ya
  ·exact ad.ym
  ·exact ad.yp p hp
 ·rw[hk ph h.heap.lt (ae (ae (ab rfl)))];exact h.heap.hp
theorem eR.wide{w w':World}{ps pa pm ph pt:Nat}(h:eR w ps pa pm ph pt v S Y)(hb:Below w.heap.size w w'):eR w' ps pa pm ph pt v S (fun k=>Y k\/(w.heap.size<=k/\k<w'.heap.size)):=by
 have h':=h.below hb;refine⟨h'.hd,?_,h'.tab,?_⟩
 ·refine(h.heap.wide hb).mono ?_ (ae (ae (ab rfl))) (ae (ae (ae (ab rfl))));rintro k ((hk | hk) | hk)
  ·exact ab (ab hk)
  ·exact ae hk
  ·exact ab (ae hk)
 ·rintro k ((hk | hk) | hk)
  ·exact h.off k (ab hk)
  ·have h1:=h.tab.pt_lt;refine⟨by omega,fun e=>?_⟩;have:=h.tab.own_lt e;omega
  ·exact h.off k (ae hk)
theorem eR.mono{ps pa pm ph pt:Nat}{Y Z:Nat->Prop}(h:eR w ps pa pm ph pt v S Y)(hz:∀k,Z k->Y k):eR w ps pa pm ph pt v S Z:=
 ⟨h.hd,h.heap.mono (fun _ hk=>hk.imp (hz _) id) (ae (ae (ab rfl))) (ae (ae (ae (ab rfl)))),h.tab,fun k hk=>h.off k (hk.imp (hz k) id)⟩
theorem eR.setCell{ps pa pm ph pt:Nat}(h:eR w ps pa pm ph pt v S Y){b o:Nat}(hy:Y b)(h1:b≠ps)(h2:b≠ph)(h3:b≠fy)(x:Value):eR (w.setCell ⟨b,o,none⟩ x) ps pa pm ph pt v S Y:=
 h.of_keep (Nat.le_of_eq (size_setCell w _ _).symm) fun k _ hk=>FB (by
  rintro rfl;rcases hk with hk | hk | hk | hk
  ·exact hk hy
  ·exact h1 hk
  ·exact h2 hk
  ·exact h3 hk)
theorem yD{s:Slab}(hw:eQ s)(n:Nat):(fR s n).1.1<=2^60:=by
 have hp:∀p c k,p<=1048576->fF p c k<=2^60:=fun p c k h=>by
  have:=qi c k;unfold fF;omega
 unfold fR
 by_cases h:n<1\/4000<n
 ·rw[if_pos h]
  simp
 ·rw[if_neg h]
  cases hc:gd n with
  | none=>
   simp only;have:=mJ hw (n:=fa n) (by have:=ua (n:=n) (by omega);omega);obtain⟨⟨⟨gp,ge⟩,gs⟩,hg⟩:∃g,s.grant (fa n)=g:=⟨_,rfl⟩;rw[hg] at this⊢;simp only at this
   cases ge with
   | zero=>simp only;omega
   | succ e=>simp
  | some c=>
   simp only
   cases hs:kt s c with
   | some pk=>
    obtain⟨p,k⟩:=pk;simp only[fP];exact hp _ _ _ (by have:=(GJ hw hs).1;omega)
   | none=>
    simp only;have:=mJ hw (n:=1) (by omega);obtain⟨⟨⟨gp,ge⟩,gs⟩,hg⟩:∃g,s.grant 1=g:=⟨_,rfl⟩;rw[hg] at this⊢;simp only at this
    cases ge with
    | zero=>simp only[fP];exact hp _ _ _ (by omega)
    | succ e=>simp
theorem ut:∀(l:List e9) (k:Nat),gH l k<=k+l.length
 | [],k=>Nat.le_refl _
 | x::r,k=>by
  unfold gH;split
  ·simp
  ·have:=ut r (k+1);simp only[ak];omega
theorem vZ{t:Hs}(hw:iW t)(a:Nat):(t.open a).1.1<2^64:=by
 have h1:=ut t.slots 0;have h2:=hw.len;have h3:=hw.most;have h4:(t.genAt (gH t.slots 0)+1) % 4294967296<4294967296:=Nat.mod_lt _ (by decide);unfold Hs.open;simp only
 split
 ·simp
 ·simp only[gj];omega
theorem Dn(t:Hs)(a:Nat):(t.open a).2.most=t.most/\(t.open a).2.last=t.last:=by
 unfold Hs.open;simp only;split<;>exact⟨rfl,rfl⟩
theorem Cs{be bs ba:Nat}(he:w.cell? ⟨be,0,none⟩=some (.int .i64 0)):
 CallsD prog 92 #[PV be,PV bs,PV ba] .returning w fun e u' w'=>u'=.returning/\(e=.returned (.tuple #[])/\w'=w):=by
 go_enter_d func92,ntmps92
 go_wp2_with fail
 go_end0
 exact⟨rfl,rfl⟩
theorem sH(h:Ig w ps S Y)(n:Nat)(hn:n<=3998)(ho:(S.t.open (fR S.a (n+2)).1.1).1.2=0):
 Ct 68 #[PV ps,.int .i64 n] w fun e w'=>e=.returned (.tuple #[.int .u64 ((S.make n).1.1:Nat),.int .i64 ((S.make n).1.2:Nat)])/\Ig w' ps (S.make n).2 Y/\Fo Y w w':=by
 have ca:(n:Int)<=3998:=by omega
 have an:=((aa _ w).alloc Ih (.cells #[PV ps] 25)).alloc (by simp) (.cells #[.int .i64 0] 30);obtain⟨pa,pm,ph,pt,v,h⟩:=h;have h1:=h.wide an;have ap:=sI ⟨_,_,_,_,_,h1⟩;have b2:ph<w.heap.size/\pt<w.heap.size/\ps<w.heap.size/\fy<w.heap.size/\∀b,v.ownBlock=some b->b<w.heap.size:=⟨h.heap.lt,h.tab.pt_lt,(gl h.hd),h.heap.tab.lt,fun b hb=>h.tab.own_lt hb⟩;have cc:((w.alloc (.cells #[PV ps] 25)).alloc (.cells #[.int .i64 0] 30)).heap.size=w.heap.size+2:=by simp
 have k0:((w.alloc (.cells #[PV ps] 25)).alloc (.cells #[.int .i64 0] 30)).heap[w.heap.size]?=some (.cells #[PV ps] 25 (0,0)):=by
  rw[heap_alloc_old _ _ (by simp)];exact heap_alloc_new w _
 have k1:((w.alloc (.cells #[PV ps] 25)).alloc (.cells #[.int .i64 0] 30)).heap[w.heap.size+1]?=some (.cells #[.int .i64 0] 30 (0,0)):=by
  have:=heap_alloc_new (w.alloc (.cells #[PV ps] 25)) (.cells #[.int .i64 0] 30);rwa[World.size_alloc] at this
 have hR:S.make n=match fR S.a (n+2) with
  | ((addr,0),a1)=>
   match S.t.open addr with
   | ((h,0),t1)=>((h,0),⟨(a1.wr addr h).wr (addr+1) n,t1⟩)
   | ((_,e),t1)=>((0,e),⟨(iM a1 addr).2,t1⟩)
  | ((_,e),a1)=>((0,e),{ S with a:=a1 }):=by unfold St.make;rw[if_neg (by omega)];rfl
 obtain⟨R,a8⟩:=Ii (S.make n);rw[a8] at hR⊢;have ao:=heap_alloc h1.heap (n+2) (by omega);have bm:=yD h1.heap.wf (n+2);obtain⟨⟨⟨ad,er⟩,a1⟩,hA⟩:∃r,fR S.a (n+2)=r:=⟨_,rfl⟩;rw[hA] at hR ho ao bm;simp only at hR ho ao bm;have a9:((n+2:Nat):Int)=(n:Int)+2:=by omega
 rw[a9] at ao;have HG:=kq9 ap ao h1 h an k0 k1 hR ho
 cases er with
 | succ er=>
  have b4:(((er+1:Nat):Int) !=0)=true:=by simp;omega
  obtain⟨g1,a'⟩:=Ii (er+1);rw[a'] at HG b4 ao hR;have cb:¬(g1:Int)=0:=by omega
  have bk:R=((0,g1),{ S with a:=a1 }):=by rw[hR,<-a'];rfl
  have b0:=If bk;clear bk;clear ap ao h1 h an k0 k1 hR ho a8 hA a9 a'
  go_enter_defers func68,ntmps68
  go_wp2_with fail;generalize ((w.alloc (.cells #[PV ps] 25)).alloc (.cells #[.int .i64 0] 30))=W1 at*;obtain⟨ap,ao,h1,h,an,k0,k1,hR,ho⟩:=HG.out;refine ap.mono ?_;rintro e w1 ⟨rfl,rfl⟩;obtain⟨_,_,_,c3,c4⟩:=h1.cells;have d0:W1.cell? ⟨w.heap.size,0,none⟩=some (PV ps):=by rw[Fs k0];rfl
  clear ap ao h1 h an k0 k1 hR ho c4;go_wp2_with fail;refine HG.b.mono ?_;rintro e w2 ⟨rfl,a3,al⟩;obtain⟨ap,ao,h1,h,an,k0,k1,hR,ho⟩:=HG.out;have h2:=h1.arena a3 al;have ar:=al.size;have j0:w2.heap[w.heap.size]?=some (.cells #[PV ps] 25 (0,0)):=(al.block _ (ab (ae ⟨Nat.le_refl _,by omega⟩))).trans k0;have j1:w2.heap[w.heap.size+1]?=some (.cells #[.int .i64 0] 30 (0,0)):=(al.block _ (ab (ae ⟨by omega,by omega⟩))).trans k1;have e1:w2.cell? ⟨w.heap.size+1,0,none⟩=some (.int .i64 0):=by rw[Fs j1];rfl
  have f1:w2.frozen? ⟨w.heap.size+1,0,none⟩=false:=AT j1;have b1:w.heap.size+1<w2.heap.size:=by omega
  have H2:=kq5 h2 ar j0 j1 al;clear ap ao h1 h an k0 k1 hR ho h2 ar j0 j1 a3 al c3 d0;go_wp2_with fail
  go_region
  go_wp2_with fail;obtain⟨_,_,h1,h,an,_,_,hR,_⟩:=HG.out;obtain⟨h2,ar,j0,j1,al⟩:=H2.out;have x1:((w2.setCell ⟨w.heap.size+1,0,none⟩ (.int .i64 g1)).setCell ⟨w.heap.size+1,0,none⟩ (.int .i64 g1)).heap[w.heap.size+1]?=some (.cells #[.int .i64 g1] 30 (0,0)):=by
   rw[heap_setCell (heap_setCell j1)]
   rfl
  have x2:=(h2.setCell (b:=w.heap.size+1) (o:=0) (ae ⟨by omega,by omega⟩) (by omega) (by omega) (by omega) (.int .i64 g1)).setCell (b:=w.heap.size+1) (o:=0) (ae ⟨by omega,by omega⟩) (by omega) (by omega) (by omega) (.int .i64 g1);have x3:=((aa _ ((w2.setCell ⟨w.heap.size+1,0,none⟩ (.int .i64 g1)).setCell ⟨w.heap.size+1,0,none⟩ (.int .i64 g1))).alloc Ih (.cells #[.int .i64 ad] 3));have x4:=(x2.below x3).below (w':=(((w2.setCell ⟨w.heap.size+1,0,none⟩ (.int .i64 g1)).setCell ⟨w.heap.size+1,0,none⟩ (.int .i64 g1)).alloc (.cells #[.int .i64 ad] 3)).drew) ⟨rfl,rfl,rfl,Nat.le_refl _,fun _ _=>rfl⟩;have x5:∀k,k<w.heap.size->(((w2.setCell ⟨w.heap.size+1,0,none⟩ (.int .i64 g1)).setCell ⟨w.heap.size+1,0,none⟩ (.int .i64 g1)).alloc (.cells #[.int .i64 ad] 3)).drew.heap[k]?=w2.heap[k]?:=fun k hk=>by
   show (World.alloc _ _).heap[k]?=_
   rw[heap_alloc_old _ _ (by simp;omega),FB (by omega),FB (by omega)]
  have x6:(((w2.setCell ⟨w.heap.size+1,0,none⟩ (.int .i64 g1)).setCell ⟨w.heap.size+1,0,none⟩ (.int .i64 g1)).alloc (.cells #[.int .i64 ad] 3)).drew.cell? ⟨w.heap.size+1,0,none⟩=some (.int .i64 g1):=by
   show (World.alloc _ _).cell? _=_
   rw[Fs (by rw[heap_alloc_old _ _ (by simp;omega)];exact x1)]
   rfl
  have x7:w2.heap.size<=(((w2.setCell ⟨w.heap.size+1,0,none⟩ (.int .i64 g1)).setCell ⟨w.heap.size+1,0,none⟩ (.int .i64 g1)).alloc (.cells #[.int .i64 ad] 3)).drew.heap.size:=by
   show _<=(World.alloc _ _).heap.size
   simp
  have x8:(((w2.setCell ⟨w.heap.size+1,0,none⟩ (.int .i64 g1)).setCell ⟨w.heap.size+1,0,none⟩ (.int .i64 g1)).alloc (.cells #[.int .i64 ad] 3)).drew.os=w2.os/\(((w2.setCell ⟨w.heap.size+1,0,none⟩ (.int .i64 g1)).setCell ⟨w.heap.size+1,0,none⟩ (.int .i64 g1)).alloc (.cells #[.int .i64 ad] 3)).drew.tape=w2.tape/\(((w2.setCell ⟨w.heap.size+1,0,none⟩ (.int .i64 g1)).setCell ⟨w.heap.size+1,0,none⟩ (.int .i64 g1)).alloc (.cells #[.int .i64 ad] 3)).drew.output=w2.output:=⟨rfl,rfl,rfl⟩;obtain rfl:=b0.out;generalize (((w2.setCell ⟨w.heap.size+1,0,none⟩ (.int .i64 g1)).setCell ⟨w.heap.size+1,0,none⟩ (.int .i64 g1)).alloc (.cells #[.int .i64 ad] 3)).drew=W9 at*;refine⟨.tuple #[.int .u64 0,.int .i64 g1],?_,rfl,⟨_,_,_,_,_,x4.mono fun k hk=>ab hk⟩,?_⟩
  ·simp[results,f68,go_sem,x6]
  ·refine⟨x8.1.trans (al.os.trans an.os),x8.2.1.trans (al.tape.trans an.tape),x8.2.2.trans (al.output.trans an.output),by omega,fun k hk=>?_⟩;have a4:=h.yl k hk;rw[x5 k a4,al.block k (ab (ab hk)),an.block k a4]
 | zero=>
  clear ap ao h1 h an k0 k1 hR ho a8 hA a9
  go_enter_defers func68,ntmps68
  go_wp2_with fail;generalize ((w.alloc (.cells #[PV ps] 25)).alloc (.cells #[.int .i64 0] 30))=W1 at*;obtain⟨ap,ao,h1,h,an,k0,k1,hR,ho⟩:=HG.out;refine ap.mono ?_;rintro e w1 ⟨rfl,rfl⟩;obtain⟨_,_,_,c3,c4⟩:=h1.cells;have d0:W1.cell? ⟨w.heap.size,0,none⟩=some (PV ps):=by rw[Fs k0];rfl
  clear ap ao h1 h an k0 k1 hR ho c4;go_wp2_with fail;refine HG.b.mono ?_;rintro e w2 ⟨rfl,a3,al⟩;obtain⟨ap,ao,h1,h,an,k0,k1,hR,ho⟩:=HG.out;have h2:=h1.arena a3 al;have ar:=al.size;have j0:w2.heap[w.heap.size]?=some (.cells #[PV ps] 25 (0,0)):=(al.block _ (ab (ae ⟨Nat.le_refl _,by omega⟩))).trans k0;have j1:w2.heap[w.heap.size+1]?=some (.cells #[.int .i64 0] 30 (0,0)):=(al.block _ (ab (ae ⟨by omega,by omega⟩))).trans k1;have e1:w2.cell? ⟨w.heap.size+1,0,none⟩=some (.int .i64 0):=by rw[Fs j1];rfl
  have f1:w2.frozen? ⟨w.heap.size+1,0,none⟩=false:=AT j1;have b1:w.heap.size+1<w2.heap.size:=by omega
  have H2:=kq5 h2 ar j0 j1 al;clear ap ao h1 h an k0 k1 hR ho h2 ar j0 j1 a3 al c3 d0;go_wp2_with fail
  go_name_world W3 HW3
  obtain⟨⟨⟨hh,he⟩,t1⟩,hO⟩:∃r,S.t.open ad=r:=⟨_,rfl⟩;obtain⟨h2,ar,j0,j1,al⟩:=H2.out;have bo:Below (w2.setCell ⟨w.heap.size+1,0,none⟩ (.int .i64 0)).heap.size (w2.setCell ⟨w.heap.size+1,0,none⟩ (.int .i64 0)) ((w2.setCell ⟨w.heap.size+1,0,none⟩ (.int .i64 0)).alloc (.cells #[.int .i64 ad] 3)):=(aa _ _).alloc Ih _;have h3:=(h2.setCell (b:=w.heap.size+1) (o:=0) (ae ⟨by omega,by omega⟩) (by omega) (by omega) (by omega) (.int .i64 0)).wide bo;have z3:((w2.setCell ⟨w.heap.size+1,0,none⟩ (.int .i64 0)).alloc (.cells #[.int .i64 ad] 3)).heap.size=w2.heap.size+1:=by simp
  have g0:((w2.setCell ⟨w.heap.size+1,0,none⟩ (.int .i64 0)).alloc (.cells #[.int .i64 ad] 3)).heap[w.heap.size]?=some (.cells #[PV ps] 25 (0,0)):=by
   rw[heap_alloc_old _ _ (by simp;omega),FB (by omega)];exact j0
  have g1:((w2.setCell ⟨w.heap.size+1,0,none⟩ (.int .i64 0)).alloc (.cells #[.int .i64 ad] 3)).heap[w.heap.size+1]?=some (.cells #[.int .i64 0] 30 (0,0)):=by
   rw[heap_alloc_old _ _ (by simp;omega),heap_setCell j1]
   rfl
  have g2:((w2.setCell ⟨w.heap.size+1,0,none⟩ (.int .i64 0)).alloc (.cells #[.int .i64 ad] 3)).heap[w2.heap.size]?=some (.cells #[.int .i64 ad] 3 (0,0)):=by
   have:=heap_alloc_new (w2.setCell ⟨w.heap.size+1,0,none⟩ (.int .i64 0)) (.cells #[.int .i64 ad] 3);rwa[size_setCell] at this
  have a2:∀k,k<w2.heap.size->k≠w.heap.size+1->((w2.setCell ⟨w.heap.size+1,0,none⟩ (.int .i64 0)).alloc (.cells #[.int .i64 ad] 3)).heap[k]?=w2.heap[k]?:=fun k hk hne=>by
   rw[heap_alloc_old _ _ (by simp;omega),FB hne]
  have au:((w2.setCell ⟨w.heap.size+1,0,none⟩ (.int .i64 0)).alloc (.cells #[.int .i64 ad] 3)).os=w2.os/\((w2.setCell ⟨w.heap.size+1,0,none⟩ (.int .i64 0)).alloc (.cells #[.int .i64 ad] 3)).tape=w2.tape/\((w2.setCell ⟨w.heap.size+1,0,none⟩ (.int .i64 0)).alloc (.cells #[.int .i64 ad] 3)).output=w2.output:=⟨rfl,rfl,rfl⟩;clear bo;simp only[size_setCell] at h3;rw[HW3] at h3 z3 g0 g1 g2 a2 au;rw[z3] at h3;obtain⟨ap,ao,h1,h,an,k0,k1,hR,ho⟩:=HG.out;rw[hO] at ho;simp only at ho;subst ho;have a0:=vZ h3.tab.wf ad;have a6:=Dn S.t ad;simp only at a0;rw[hO] at a0 a6;simp only at a0 a6;have d0:W3.cell? ⟨w.heap.size,0,none⟩=some (PV ps):=by rw[Fs g0];rfl
  have d1:W3.cell? ⟨w.heap.size+1,0,none⟩=some (.int .i64 0):=by rw[Fs g1];rfl
  have d2:W3.cell? ⟨w2.heap.size,0,none⟩=some (.int .i64 ad):=by rw[Fs g2];rfl
  have bc:W3.frozen? ⟨w.heap.size+1,0,none⟩=false:=AT g1;have d4:=h3.cells.2.2.2.2;have a7:∀q,Ct 94 #[PV pt,.int .i64 ad] (W3.drewN q) fun e w'=>e=.returned (.tuple #[.int .u64 hh,.int .i64 0])/\(w'.cell? ⟨w.heap.size,0,none⟩=some (PV ps)/\w'.cell? ⟨ps,4,none⟩=some (PV pt)/\w'.cell? ⟨w2.heap.size,0,none⟩=some (.int .i64 ad))/\(w'.cell? ⟨w.heap.size+1,0,none⟩=some (.int .i64 0)/\w'.frozen? ⟨w.heap.size+1,0,none⟩=false)/\∃v',eR w' ps pa pm ph pt v' ⟨a1,t1⟩ (fun k=>(Y k\/w.heap.size<=k/\k<W1.heap.size)\/w2.heap.size<=k/\k<w2.heap.size+1)/\Fo (fun k=>k<W3.heap.size/\k≠pt/\v.ownBlock≠some k) W3 w':=fun q=>by
   have bd:=h3.below (w':=W3.drewN q) ⟨rfl,rfl,rfl,Nat.le_refl _,fun _ _=>rfl⟩;have ba:=EL bd.tab ad (by omega) (fun k=>k<W3.heap.size/\k≠pt/\v.ownBlock≠some k) (fun b hb=>⟨hb.1,hb.2.1,fun e=>hb.2.2 e.symm⟩);simp only at ba;rw[hO] at ba;refine ba.mono ?_;rintro e w' ⟨rfl,⟨v',ht,b8⟩,hk⟩;have hZ:∀k,k<w2.heap.size+1->w.heap.size<=k\/k=ps->k<W3.heap.size/\k≠pt/\v.ownBlock≠some k:=fun k hk1 al=>by
    refine⟨by omega,?_,fun e=>?_⟩
    ·rcases al with al | rfl
     ·omega
     ·exact(h.off _ (ae (ab rfl))).1
    ·rcases al with al | rfl
     ·have:=b2.2.2.2.2 k e;omega
     ·exact(h.off _ (ae (ab rfl))).2 e
   have n0:=hk.block w.heap.size (hZ _ (by omega) (ab Ih));have n1:=hk.block (w.heap.size+1) (hZ _ (by omega) (ab (by omega)));have n2:=hk.block w2.heap.size (hZ _ (by omega) (ab (by omega)));have n3:=hk.block ps (hZ _ (by omega) (ae rfl));refine⟨rfl,⟨(World.cell?_of_block n0).trans d0,(World.cell?_of_block n3).trans d4,(World.cell?_of_block n2).trans d2⟩,⟨(World.cell?_of_block n1).trans d1,(World.frozen?_of_block n1).trans bc⟩,v',?_,⟨hk.os,hk.tape,hk.output,hk.size,hk.block⟩⟩;exact bd.table ht a6 _ (fun k h1 h2 h3=>⟨h1,h2,h3⟩) hk (fun b hb e=>b8 b hb e.symm)
  have H3:=kq10 h3 z3 g0 g1 g2 a2 au a7 a0 hO;clear ap ao h1 h an k0 k1 hR h3 z3 g0 g1 g2 a2 au a7 a0 hO a6 h2 ar j0 j1 al e1 f1 HW3
  go_region_held3 (fun w'=>w'.cell? ⟨w.heap.size,0,none⟩=some (PV ps)/\w'.cell? ⟨ps,4,none⟩=some (PV pt)/\w'.cell? ⟨w2.heap.size,0,none⟩=some (.int .i64 ad)) (first | exact⟨d0,d4,d2⟩ | exact hQ | exact⟨(World.cell?_of_block (FB (show w.heap.size≠w.heap.size+1 by omega))).trans hQ.1,(World.cell?_of_block (FB (show ps≠w.heap.size+1 by omega))).trans hQ.2.1,(World.cell?_of_block (FB (show w2.heap.size≠w.heap.size+1 by omega))).trans hQ.2.2⟩)
   (first | (go_at_call 94;refine(H3.h 1).mono ?_;rintro e w4 ⟨rfl,hQ,⟨e4,f4⟩,v',h4,k4⟩))
  obtain⟨h3,z3,g0,g1,g2,a2,au,a7,a0,hO⟩:=H3.out;have h5:=h4.setCell (b:=w.heap.size+1) (o:=0) (ab (ae ⟨by omega,by omega⟩)) (by omega) (by omega) (by omega) (.int .i64 0);have q0:(w4.setCell ⟨w.heap.size+1,0,none⟩ (.int .i64 0)).cell? ⟨w.heap.size,0,none⟩=some (PV ps):=(World.cell?_of_block (FB (show w.heap.size≠w.heap.size+1 by omega))).trans hQ.1;have q2:(w4.setCell ⟨w.heap.size+1,0,none⟩ (.int .i64 0)).cell? ⟨w2.heap.size,0,none⟩=some (.int .i64 ad):=(World.cell?_of_block (FB (show w2.heap.size≠w.heap.size+1 by omega))).trans hQ.2.2;have q1:(w4.setCell ⟨w.heap.size+1,0,none⟩ (.int .i64 0)).cell? ⟨w.heap.size+1,0,none⟩=some (.int .i64 0):=World.cell?_setCell_same' _ _ _ (by rw[e4];rfl);have bt:(w4.setCell ⟨w.heap.size+1,0,none⟩ (.int .i64 0)).frozen? ⟨w.heap.size+1,0,none⟩=false:=by rw[World.frozen?_setCell];exact f4
  have q3:=h5.cells.2.2.1;have k5:∀k,k<w.heap.size->k≠pt->v.ownBlock≠some k->(w4.setCell ⟨w.heap.size+1,0,none⟩ (.int .i64 0)).heap[k]?=W3.heap[k]?:=fun k h1 h2 h3=>by
   rw[FB (by omega)];exact k4.block k ⟨by omega,h2,h3⟩
  have s5:W3.heap.size<=(w4.setCell ⟨w.heap.size+1,0,none⟩ (.int .i64 0)).heap.size:=by rw[size_setCell];exact k4.size
  have o5:(w4.setCell ⟨w.heap.size+1,0,none⟩ (.int .i64 0)).os=W3.os/\(w4.setCell ⟨w.heap.size+1,0,none⟩ (.int .i64 0)).tape=W3.tape/\(w4.setCell ⟨w.heap.size+1,0,none⟩ (.int .i64 0)).output=W3.output:=⟨k4.os,k4.tape,k4.output⟩;generalize w4.setCell ⟨w.heap.size+1,0,none⟩ (.int .i64 0)=W5 at*;have H5:=kq6 h5 k5 s5 o5 z3 a0;clear h3 z3 g0 g1 g2 a2 au a7 a0 hO h5 k5 s5 o5 hQ e4 f4 h4 k4 d0 d1 d2 bc d4;go_wp2_with fail;refine lD (C:=fun w'=>∃q:Nat,w'=(W5).drewN q) 6 (by kernel_rfl) (by kernel_rfl) ⟨1,rfl⟩ ?_;simp only[bS,cF,ce,cR]
  repeat (first | go_big_quiet_skip | (go_big_quiet_want;go_big_quiet_op;first | go_big_quiet_on))
  refine wpQuiet_nil ?_;rintro _ ⟨q,rfl⟩;have a5:=((H5.a.below (w':=W5.drewN q) ⟨rfl,rfl,rfl,Nat.le_refl _,fun _ _=>rfl⟩).heap.write' ad hh (ai:=ad) (xi:=hh) (by omega) H5.f rfl rfl);go_wp2_with fail;refine a5.mono ?_;rintro e w6 ⟨rfl,bf,k6⟩;have h6:=(H5.a.below (w':=W5.drewN q) ⟨rfl,rfl,rfl,Nat.le_refl _,fun _ _=>rfl⟩).arena bf k6;have y0:∀k,w.heap.size<=k->k<w.heap.size+2->w6.heap[k]?=W5.heap[k]?:=fun k h1 h2=>k6.block k (ab (ab (ae ⟨h1,by omega⟩)));have y2:w6.heap[w2.heap.size]?=W5.heap[w2.heap.size]?:=k6.block _ (ab (ae ⟨Nat.le_refl _,by omega⟩));have bv:=y0 w.heap.size Ih (by omega);have bb:=y0 (w.heap.size+1) (by omega) (by omega);have u0:w6.cell? ⟨w.heap.size,0,none⟩=some (PV ps):=(World.cell?_of_block bv).trans q0;have u1:w6.cell? ⟨w.heap.size+1,0,none⟩=some (.int .i64 0):=(World.cell?_of_block bb).trans q1;have bu:w6.frozen? ⟨w.heap.size+1,0,none⟩=false:=(World.frozen?_of_block bb).trans bt;have u2:w6.cell? ⟨w2.heap.size,0,none⟩=some (.int .i64 ad):=(World.cell?_of_block y2).trans q2;have u3:=h6.cells.2.2.1;have H6:=kq2 h6 k6;clear h6 k6 bf a5 y0 bv bb y2 q0 q1 bt q2 q3;go_wp2_with fail;refine lD (C:=fun w'=>∃q:Nat,w'=(w6).drewN q) 8 (by kernel_rfl) (by kernel_rfl) ⟨1,rfl⟩ ?_;simp only[bS,cF,ce,cR]
  repeat (first | go_big_quiet_skip | (go_big_quiet_want;go_big_quiet_op;first | go_big_quiet_on))
  refine wpQuiet_nil ?_;rintro _ ⟨q,rfl⟩;have a5:=((H6.a.below (w':=w6.drewN q) ⟨rfl,rfl,rfl,Nat.le_refl _,fun _ _=>rfl⟩).heap.write' (ad+1) n (ai:=(ad:Int)+1) (xi:=n) (by omega) (by omega) (by omega) rfl);go_wp2_with fail;refine a5.mono ?_;rintro e w7 ⟨rfl,bj,k7⟩;have h7:=(H6.a.below (w':=w6.drewN q) ⟨rfl,rfl,rfl,Nat.le_refl _,fun _ _=>rfl⟩).arena bj k7;have y1:w7.heap[w.heap.size+1]?=w6.heap[w.heap.size+1]?:=k7.block _ (ab (ab (ae ⟨by omega,by omega⟩)));have v1:w7.cell? ⟨w.heap.size+1,0,none⟩=some (.int .i64 0):=(World.cell?_of_block y1).trans u1;have cd:w7.frozen? ⟨w.heap.size+1,0,none⟩=false:=(World.frozen?_of_block y1).trans bu;have H7:=kq2 h7 k7;clear h7 k7 bj a5 y1 u0 u1 bu u2 u3;go_wp2_with fail;refine leaves_cons (f:=92) (args:=#[PV (w.heap.size+1),PV w.heap.size,PV w2.heap.size]) (by simp) (by simp[go_sem]) ?_;refine(Cs (w:=w7.setCell ⟨w.heap.size+1,0,none⟩ (.int .i64 0)) (World.cell?_setCell_same' _ _ _ (by rw[v1];rfl))).mono ?_;rintro e u' ch ⟨rfl,rfl,rfl⟩;have x1:(w7.setCell ⟨w.heap.size+1,0,none⟩ (.int .i64 0)).cell? ⟨w.heap.size+1,0,none⟩=some (.int .i64 0):=World.cell?_setCell_same' _ _ _ (by rw[v1];rfl);obtain⟨_,_,h1,h,an,_,_,hR,_⟩:=HG.out;obtain⟨_,ar,_,_,al⟩:=H2.out;obtain⟨_,_,_,_,_,a2,au,_,_,hO⟩:=H3.out;obtain⟨_,k5,s5,o5,_,_⟩:=H5.out;obtain⟨_,k6⟩:=H6.out;obtain⟨h7,k7⟩:=H7.out;rw[hO] at hR;obtain rfl:R=((hh,0),⟨(a1.wr ad hh).wr (ad+1) n,t1⟩):=hR;have b9:=k6.size;have b':=k7.size;simp only[AG] at b9 b';refine⟨.tuple #[.int .u64 hh,.int .i64 0],?_,rfl,⟨_,_,_,_,_,(h7.setCell (b:=w.heap.size+1) (o:=0) (ab (ae ⟨by omega,by omega⟩)) (by omega) (by omega) (by omega) (.int .i64 0)).mono fun k hk=>ab (ab hk)⟩,?_⟩
  ·simp[results,f68,go_sem,x1]
  ·refine⟨k7.os.trans (k6.os.trans (o5.1.trans (au.1.trans (al.os.trans an.os)))),k7.tape.trans (k6.tape.trans (o5.2.1.trans (au.2.1.trans (al.tape.trans an.tape)))),k7.output.trans (k6.output.trans (o5.2.2.trans (au.2.2.trans (al.output.trans an.output)))),?_,fun k hk=>?_⟩
   ·rw[size_setCell];omega
   ·have a4:=h.yl k hk;have bs:=h.off k (ab hk);rw[FB (by omega)];refine(k7.block k (ab (ab (ab hk)))).trans ((k6.block k (ab (ab (ab hk)))).trans ?_);rw[show (W5.drewN _).heap[k]?=W5.heap[k]? from rfl,k5 k a4 bs.1 bs.2,a2 k (by omega) (by omega),al.block k (ab (ab hk)),an.block k a4]
def iw(S:St)(n:Nat):Prop:=(S.t.open (fR S.a (n+2)).1.1).1.2=0/\Fv (S.make n).2
theorem oA(hw:iW S.t)(n:Nat):(S.make n).1.1<2^64:=by
 have h:=vZ hw;unfold St.make
 split
 ·simp
 ·split
  ·rename_i addr a1 _;have:=h addr
   split
   ·rename_i hh t1 he;rw[he] at this;exact this
   ·simp
  ·simp
theorem Ig.tabwf(h:Ig w ps S Y):iW S.t:=by
 obtain⟨_,_,_,_,_,h⟩:=h;exact h.tab.wf
theorem jm.keep{w w':World}{B:Nat}{ws:List Nat}(h:jm w B v ws)(hk:Fo Y w w')(hy:∀k,B<=k->k<w.heap.size->Y k):jm w' B v ws:=by
 obtain⟨G,c,rfl,hB,hc⟩:=h;refine⟨G,c,rfl,hB,fun i hi=>?_⟩;have h1:=hc i hi;have ad:G<w.heap.size:=by
  unfold World.cell? at h1
  split at h1
  ·rename_i heq;exact(gl heq)
  ·cases h1
 exact(World.cell?_of_block (hk.block G (hy G hB ad))).trans h1
theorem tP(h:Ig w ps S Y)(hi:Fv S)(l:List UInt8)(hl:l.length<=1000)(hm:iw S (many l.length)):
 Ct 106 #[PV ps,SV l] w fun e w'=>e=.returned (.tuple #[.int .u64 ((fx S l).1.1:Nat),.int .i64 ((fx S l).1.2:Nat)])/\Ig w' ps (fx S l).2 Y/\Fo Y w w':=by
 have a2:=fB h hi 0 (by omega);rw[fU] at a2;have a6:=fun W=>xE l W hl;have a':=te l hl;have a5:=xZ l (by omega);obtain⟨R,hR⟩:=Ii (fx S l);rw[hR];unfold fx at hR;rw[if_neg (by omega)] at hR;obtain⟨ba,a1⟩:=hm;have ad:=fun W (hW:Ig W ps S (fun k=>Y k\/(w.heap.size<=k/\k<W.heap.size)))=>sH hW (many l.length) (by unfold many;split<;>omega) ba;have a4:=oA h.tabwf (many l.length);have a3:many l.length<=200:=by unfold many;split<;>omega
 obtain⟨⟨⟨hh,er⟩,S1⟩,hS⟩:∃r,S.make (many l.length)=r:=⟨_,rfl⟩;rw[hS] at ad a4 a1 hR;simp only at ad a4 a1 hR;rw[<-a'] at ad a3;obtain⟨ws,bd⟩:=Ii (FK l);rw[bd] at a6 ad a3 a5 hR;have HG:=kq7 a2 a6 ad hR h a5 a1;clear a2 a6 ad hR h a5 a1 ba hS a' bd hi;obtain⟨n,hn⟩:=Ii ws.length;have HN:=If hn;rw[hn] at a3;clear hn;go_enter func106,ntmps106;go_wp2_with fail;refine HG.a.mono ?_;rintro e w1 ⟨rfl,rfl⟩;go_wp2_with fail;refine(HG.b _).mono ?_;rintro e w2 ⟨v,rfl,hrow,hb⟩;have a7:=HG.e.wide hb;have H2:=kq3 hrow hb a7;have bj:=hrow;obtain⟨G,cp,rfl,_,_⟩:=bj;rw[HN.out] at H2;simp only[HN.out];clear hrow hb a7;go_wp2_with fail;have ad:=HG.c w2 H2.c;rw[HN.out] at ad;refine ad.mono ?_;rintro e w3 ⟨rfl,h3,k3⟩;clear ad;have bc:=H2.a.keep k3 (fun k h1 h2=>ae ⟨h1,h2⟩);have H3:=kq3 h3 k3 bc;clear h3 k3 bc
 cases er with
 | succ er=>
  have bf:(((er+1:Nat):Int) !=0)=true:=by simp;omega
  obtain⟨g1,a0⟩:=Ii (er+1);rw[a0] at HG bf;have ai:R=((0,g1),S1):=by rw[<-HG.d,<-a0];rfl
  have ap:=If ai;simp only[a0];clear ai a0;go_wp2_with fail;go_ret2;obtain rfl:=ap.out;exact⟨rfl,H3.a.mono fun k hk=>ab hk,(Fo.of_below H2.b HG.e.yl).trans (H3.b.mono fun k hk=>ab hk)⟩
 | zero=>
  have ai:R=((hh,0),FC S1 hh 0 ws):=by rw[<-HG.d];rfl
  have ap:=If ai;clear ai;go_wp2_with fail
  go_loopw [11,12,40] (fun _ _ i wr=>∃k:Nat,k<=n/\i=.int .i64 k/\∃Sk,Ig wr ps Sk (fun k=>Y k\/(w.heap.size<=k/\k<w2.heap.size))/\Fv Sk/\FC Sk hh k (ws.drop k)=R.2/\Fo (fun k=>Y k\/(w.heap.size<=k/\k<w2.heap.size)) w2 wr) (fun _ _ i _=>n-(intOf i).toNat)
  case atStart=>exact⟨0,by omega,rfl,S1,H3.a,HG.g,by rw[ap.out];rfl,H3.b⟩
  case round=>
   obtain⟨k,hk,rfl,Sk,au,ar,ao,al⟩:=hrel
   by_cases hlt:k<n
   ·have bk:(k:Int)<n:=by omega
    have an:k<ws.length:=by rw[HN.out];exact hlt
    obtain⟨G',c',he,_,a8⟩:=H2.a.keep al (fun k h1 h2=>ae ⟨h1,h2⟩)
    injection he with he1 he2 he3
    injection he1 with he1
    injection he1 with he1
    subst he1;have c1:=a8 k an;have hx:=HG.f _ (aG an);have hd:ws.drop k=ws[k]::ws.drop (k+1):=aY an;rw[hd] at ao;have bb:=xl au ar hh k ws[k] a4 (by omega) hx;have a9:=ar.put hh k ws[k];generalize ws[k]=x at*;have HK:=kq5 bb a9 ao al an;clear bb a9 ao al an a8 hd au ar he2 he3;go_wp2_with fail;refine HK.a.mono ?_;rintro e w4 ⟨rfl,h4,k4⟩;have H4:=kq2 h4 (HK.d.trans k4);clear h4 k4;go_wp2_with fail;go_roundw
    case rel=>exact⟨k+1,by omega,by simp,_,H4.a,HK.b,HK.c,H4.b⟩
    case measure=>simp[intOf];omega
   ·obtain rfl:k=n:=by omega
    have HK:=kq3 au ao al;clear au ao al ar;go_wp2_with fail;go_ret2;have hf:Sk=R.2:=by rw[<-HK.b,bY (by rw[HN.out];exact Nat.le_refl _)];rfl
    have e1:R.1=(hh,0):=by rw[ap.out]
    rw[e1,<-hf];exact⟨rfl,HK.a.mono fun k hk=>ab hk,(Fo.of_below H2.b HG.e.yl).trans (HK.c.mono fun k hk=>ab hk)⟩
end
section
open Go.RowKit Tryz Go.BigFrame Go.Maps Go.WideMaps Lf
open Go.Shelf
variable{B:Nat}{N:Nat}{S:St}{Y:Nat->Prop}{e:TypeId}{g:Nat}{k:Nat}{l:List UInt8}{lb:Array Value}{ps:Nat}{q:List Nat}{size:Nat}{v:Value}{w:World}
attribute [local go_sem] Oper.semAt_some
abbrev mt:= { x:Nat // x<2^64 }
def mG(x:mt):Array Value:=#[.int .u64 (x.1:Nat)]
def iR(l:List mt):List Nat:=l.map (·.1)
theorem uC(h:Ig w ps S Y)(hh k:Nat):(S.get hh k).1<2^64:=by
 obtain⟨pa,pm,ph,pt,v,h⟩:=h;rw[St.get_place]
 rcases S.place_cases hh k with⟨p,hp⟩ | ⟨e,hp⟩
 ·rw[hp];exact h.heap.rd_lt p
 ·rw[hp]
  show 0<_;omega
theorem zB(ps hh:Nat)(w:World):
 Ct 105 #[PV ps,.int .u64 hh] w fun e w'=>e=.returned (.func (.func 134) #[] #[PV w.heap.size,PV (w.heap.size+1)])/\w'=(w.alloc (.cells #[PV ps] 25)).alloc (.cells #[.int .u64 hh] 83):=by
 go_enter func105,ntmps105
 go_wp2
 go_ret;exact⟨rfl,rfl⟩
theorem E9(h:Ig w ps S Y)(hi:Fv S)(hh:Nat)(hl:hh<2^64)(Bs Bh:Nat)(hBs:Bs<w.heap.size/\w.cell? ⟨Bs,0,none⟩=some (PV ps))(hBh:Bh<w.heap.size/\w.cell? ⟨Bh,0,none⟩=some (.int .u64 hh)):
 SeqStopsK Fence.wide 6 prog 134 #[PV Bs,PV Bh] mG (Below w.heap.size) (fun xs=>iR xs=kM S hh) (fun _=>True) 3998 w:=fun l J Jx W hW hJ hJx hY h0=>by
 have ba:Fence.wide.fn 85:=trivial;have a':Fence.wide.fn 96:=trivial;have ap:CallsIn Fence.wide 5 prog 85 #[PV ps,.int .u64 hh] W _:=callsIn_wide.2 (fB (h.below hW) hi hh hl);have a3:∀W',Below w.heap.size w W'->∀k:Nat,k<=4000->CallsIn Fence.wide 5 prog 96 #[PV ps,.int .u64 hh,.int .i64 k] W' _:=fun W' hW' k hk=>callsIn_wide.2 (sG (h.below hW') hi hh k hl (by omega));have a4:=fun k=>uC h hh k;have hn:(S.len hh).1<=3998:=hi.at_le hh;obtain⟨q,hq⟩:=Ii (kM S hh);have ar:∀k,q.take (k+1)=if k<(S.len hh).1 then q.take k++[(S.get hh k).1] else q.take k:=fun k=>by
  rw[<-hq];unfold kM;split
  ·rename_i hk;rw[<-bX,<-bX,List.take_range,List.take_range,cX (by omega),cX (by omega),dI,aL];rfl
  ·rename_i hk;rw[bi (by simp;omega),bi (by simp;omega)]
 have au:q.length=(S.len hh).1:=by rw[<-hq];simp[kM]
 rw[hq];obtain⟨n,a6⟩:=Ii (S.len hh).1;rw[a6] at ap hn ar au;have cs:=(hW.cell (p:=⟨Bs,0,none⟩) hBs.1).trans hBs.2;have ch:=(hW.cell (p:=⟨Bh,0,none⟩) hBh.1).trans hBh.2;have HG:=kq7 a3 a4 ar au hBs hBh hW;have HJ:=kq4 hJ hJx hY h0;have HL:=If ap;clear a3 a4 hq ar au hBs hBh hW hJ hJx hY h0 ap a6 hi h;refine callsIn_of_wp func134 rfl trivial ?_ rfl;simp only[ntmps134,bp,ak,aK,Nat.reduceAdd,Nat.reduceSub,aV,aW,bw,aZ,aU,aP];gi_wp2_with fail;refine HL.out.mono ?_;rintro e w1 ⟨rfl,rfl⟩;clear HL;gi_wp2_with fail;gi_loopw [6,7,8,16] (fun _ _ _ i wr=>∃k:Nat,k<=n/\i=.int .i64 k/\Hid (Below w.heap.size w wr/\∃pX,iR pX=q.take k/\J pX wr)) (fun _ _ _ i _=>n-(intOf i).toNat)
 case atStart=>exact⟨0,by omega,rfl,HG.g,[],rfl,HJ.d⟩
 case round=>
  obtain⟨k,hk,rfl,ad⟩:=hrel;by_cases hlt:k<n
  ·have bb:(k:Int)<n:=by omega
   have cs:=(ad.out.1.cell (p:=⟨Bs,0,none⟩) HG.e.1).trans HG.e.2;have ch:=(ad.out.1.cell (p:=⟨Bh,0,none⟩) HG.f.1).trans HG.f.2;have al:=HG.a wr ad.out.1 k (by omega);obtain⟨pX,ai,an⟩:=ad.out.2;have a7:pX.length=k:=by
    have:=congrArg List.length ai;simp only[iR,aq,ay] at this;rw[HG.d] at this;omega
   obtain⟨xX,a0⟩:∃xX:mt,(S.get hh k).1=xX.1:=⟨⟨_,HG.b k⟩,rfl⟩;obtain⟨fn,bc,a8,a9,hy,ao⟩:=HJ.c pX xX wr an (by omega);have hv:iR (pX++[xX])=q.take (k+1):=by
    rw[HG.c k,if_pos hlt,<-ai,a0];simp[iR]
   dsimp only[mG] at hy
   rw[a0] at al;generalize (S.get hh k).2=er at al;obtain⟨x,hx⟩:=xX;simp only at al hy;clear a0;have HV:=If hv;have HE:=If al;clear hv al ai an a7;gi_wp2_with fail;refine HE.out.mono ?_;rintro e w2 ⟨rfl,rfl⟩;clear HE;gi_wp2_with fail;refine ao.mono ?_;rintro e w4 (⟨rfl,a1,a5⟩ | ⟨rfl,a2⟩)
   ·have H4:=kq2 (ad.out.1.trans a5) a1;clear a1 a5 hy ao;gi_wp2_with fail;go_roundw
    case rel=>exact⟨k+1,by omega,by simp,H4.a,_,HV.out,H4.b⟩
    case measure=>simp[intOf];omega
   ·have H4:=If a2;clear a2 hy ao;gi_wp2_with fail;refine bodyPost_ret (results_none rfl _ _ _) rfl ?_;exact⟨⟨_,rfl⟩,.inr ⟨_,trivial,H4.out⟩⟩
  ·obtain rfl:k=n:=by omega
   gi_wp2
   go_end0
   obtain⟨pX,ai,an⟩:=ad.out.2;rw[bi (by rw[HG.d];exact Nat.le_refl _)] at ai;exact⟨⟨_,rfl⟩,.inl ⟨_,ai,an⟩⟩
attribute [local go_sem] Oper.semAt_some
theorem BL{W W':World}{base B:Nat}{xs:List Value}(h:W.ownsRow base e size v k xs)(hg:W.grownBy W' v.ownBlock):KeepsFrom B W W':=
 ⟨hg.size,fun j o _ hj ho=>(hg.block j (gl hj) (fun e'=>by
  rcases h.2 with⟨rfl,_⟩ | ⟨g,ai,al,rfl,_,ad,_⟩
  ·cases e'
  ·have:j=g:=by simpa[Value.ownBlock] using e'
   subst this;rw[ad] at hj;injection hj with hj
   subst hj;cases ho)).trans hj⟩
theorem nN{n:Nat}(W:World)(l:Nat)(o o':Obj)(hl:n<=l)(_:W.heap[l]?=some o)(_:o.isCells=false)(_:o.isWalk=false):Below n W (W.putObj l o'):=
 ⟨rfl,rfl,rfl,by simp,fun k hk=>World.putObj_heap_other (by omega)⟩
theorem wi{W W':World}{row:Option Nat}{base:Nat}{xs:List Value}(h:W.ownsRow base e size v k xs)(hg:W.grownBy W' row)(hr:∀r,row=some r->∃o:Obj,W.heap[r]?=some o/\o.isCells=false):W'.ownsRow base e size v k xs:=by
 refine h.kept hg ?_
 rcases h.2 with⟨rfl,_⟩ | ⟨g,ai,al,rfl,_,ad,_⟩
 ·exact ab rfl
 ·refine ae fun e'=>?_;obtain⟨o,ho,hc⟩:=hr g (by rw[<-e'];rfl);rw[ad] at ho
  injection ho with ho
  subst ho
  cases hc
theorem qS{W:World}{t:TypeId}(h:W.heap[B]?=some (.cells #[v] t (0,0))):W.cell? ⟨B,0,none⟩=some v/\W.frozen? ⟨B,0,none⟩=false:=⟨by rw[Fs h];rfl,AT h⟩
def uV(q:List Nat):List Value:=q.map fun x:Nat=>Value.int .u64 x
theorem yF(hN:N<=100000)(eg:∀args w,(callFunc g args).run prog w=.ok (.enter g args) w)
 (hseq:SeqStopsK Fence.wide 6 prog g lb mG (Below w.heap.size) (fun xs=>iR xs=q) (fun _=>True) N w):
 CallsIn Fence.wide 7 prog 133 #[.slice none 0 0,.func (.func g) #[] lb] w fun e w'=>∃v,e=.returned v/\w'.ownsRow w.heap.size 82 1 v q.length (uV q)/\Below w.heap.size w w':=by
 have h1:1<=7:=by omega
 obtain⟨i0,hi,bk,bm,bo⟩:=info_parts uQ;refine callsIn_of_wp_marks func133 rfl trivial ?_ rfl;simp only[ntmps133,bp,ak,aK,Nat.reduceAdd,Nat.reduceSub,aV,aW,bw,aZ,aU,aP];gi_wp2_with fail;have k0:(w.alloc (.cells #[.slice none 0 0] 162)).heap[w.heap.size]?=some (.cells #[.slice none 0 0] 162 (0,0)):=heap_alloc_new w _;have au:Below w.heap.size w (w.alloc (.cells #[.slice none 0 0] 162)):=(aa _ w).alloc Ih _;have bb:(w.alloc (.cells #[.slice none 0 0] 162)).heap.size=w.heap.size+1:=by simp
 generalize w.alloc (.cells #[.slice none 0 0] 162)=W0 at*;refine wpIn_rangeFunc_ownH rfl h1 (gf:=g) (lb:=lb) rfl trivial eg hseq (fun h k=>h.trans k) (fun W l o o' h1 h2 h3 h4=>nN W l o o' (by omega) h2 h3 h4) au (fun _=>rfl)
  (fun ai W=>(∃v,W.heap[w.heap.size]?=some (.cells #[v] 162 (0,0))/\W.ownsRow w.heap.size 82 1 v ai.length (uV (iR ai)))/\Below w.heap.size w W)
  (fun _ _ _=>False)
  (OwnFrom.and (Own.from (fun s A B row hs hg hr=>by
   obtain⟨v,hv,hrow⟩:=hs;refine⟨v,(hg.block _ (gl hv) (fun e=>?_)).trans hv,wi hrow hg hr⟩;obtain⟨o,ho,hc⟩:=hr _ e.symm;rw[hv] at ho;injection ho with ho
   subst ho;cases hc) _) (ownFrom_below Ih (by omega)))
  (fun cd=>Own.from (fun s A B row hs hg hr=>hs) _)
  ⟨⟨_,k0,rfl,ab ⟨rfl,rfl⟩⟩,au⟩
  (fun x a' _=>a'= { tmps:=#[.slice none 0 0,.func (.func g) #[] lb,PV w.heap.size,undef,.slice none 0 0,.int .u64 (x.1:Nat),.func (.func g) #[] lb,.int .u64 (x.1:Nat),undef,undef,undef,undef,undef],defers:=[] })
  (fun x a' _ X W' row hs hg hr=>hs)
  ?assign ?body ?done ?stop
 case assign=>
  rintro l ai ⟨x,hx⟩ W K hI hK;have HK:=If hK;have HI:=If hI;clear hK hI;simp only[mG];gi_wp2
  exact HK.out _ _ (KeepsFrom.refl _ _) (aa _ _) HI.out rfl
 case body=>
  rintro l ai ⟨x,hx⟩ a' W hl _ ⟨⟨v,hv,hrow⟩,hB⟩ rfl al;obtain⟨c1,f1⟩:=qS hv;have HI:=kq6 hv hrow hB al bb hl;obtain⟨m,hm⟩:=Ii ai.length;have bu:m<=100000:=by omega
  rw[hm] at HI;clear hv hrow hB al hm;gi_wp2_with (gi_at_builtin;refine wpListIn_append_own_at _ rfl _ _ 162 rfl w.heap.size 82 i0 (.int .u64 0) 1 8 underlying162 hi bk bm bo rfl (by decide) _ _ _ rfl (HI.b.alloc _) ⟨W.heap.size,0,none⟩ 1 1 [.int .u64 x] rfl rfl (cell_one_new _ _ _) ?c2 ?c3 ?c4 ?c5 ?_)
  case c2=>simp[Value.oneCell']
  case c3=>unfold maxLen;omega
  case c4=>omega
  case c5=>have:=HI.c.size;simp;omega
  intro v' w1 hown hgrow _ hat;obtain⟨g',ar,bc,rfl,a2,ao,a7,a8,a9,ba⟩:=hown.2.resolve_left (by rintro⟨_,h⟩;exact absurd h (by simp));obtain⟨hv,hrow,hB,al,bb,hl⟩:=HI.out;have an:=hB.size;have a3:=(gl hv);have a6:v.ownBlock≠some w.heap.size:=fun e'=>by
   rcases hrow.2 with⟨rfl,_⟩ | ⟨g0,bs,bt,rfl,_,bd,_⟩
   ·cases e'
   ·have:g0=w.heap.size:=by simpa[Value.ownBlock] using e'
    subst this;rw[bd] at hv;injection hv with hv
    injection hv with _ hv
    exact absurd hv (by decide)
  have ad:w1.heap[w.heap.size]?=some (.cells #[v] 162 (0,0)):=by
   rw[hgrow.block _ (by simp;omega) (fun e=>a6 e.symm),heap_alloc_old W _ a3];exact hv
  have a4:g'≠w.heap.size:=fun e=>by
   subst e;rw[ao] at ad;injection ad with ad
   injection ad with _ ad
   exact absurd ad (by decide)
  have a0:Below w.heap.size W w1:=((aa _ W).mono an |>.alloc an (.cells #[.int .u64 x] 82)).grown hgrow (by simp;omega) (fun k e=>(hrow.lt k e).1);have a5:KeepsFrom W0.heap.size W w1:=((KeepsOthers.alloc W (.cells #[.int .u64 x] 82)).from _).trans (BL (hrow.alloc _) hgrow);obtain⟨d1,e1⟩:=qS ad;have HW:=kq11 ad ao a4 a0 a5 hown a2 a7 a8 a9 ba;clear ad ao a4 a0 a5 hown a2 a7 a8 a9 ba hgrow hat a6 a3 an hv hrow hB al hl;gi_wp2_with fail;have a1:=HW.d.setCell (p:=⟨w.heap.size,0,none⟩) (Nat.le_refl w.heap.size) (.slice (some ⟨g',0,none⟩) (m+1) ar);refine⟨HW.e.trans ((KeepsOthers.setCell _ _ _).from _),a1,⟨_,heap_setCell HW.a,?_⟩,HI.c.trans a1⟩;have bf:(ai++[(⟨x,hx⟩:mt)]).length=m+1:=by have:=HW.f.1;simp[uV,iR] at this⊢;omega
  have bj:uV (iR (ai++[(⟨x,hx⟩:mt)]))=uV (iR ai)++[.int .u64 x]:=by simp[uV,iR]
  rw[bf,bj];exact⟨HW.f.1,ae ⟨g',ar,bc,rfl,HW.g,(FB HW.c).trans HW.b,HW.out.2.2.2.2.2.2.2⟩⟩
 case done=>
  rintro D ys W hD hS ⟨⟨v,hv,hrow⟩,hB⟩ hK;obtain⟨c1,f1⟩:=qS hv;have ap:ys.length=q.length:=by rw[<-hS];simp[iR]
  rw[hS,ap] at hrow;have HI:=kq5 hrow hB hv ap hS;clear hrow hB hv ap hS f1;gi_wp2
  refine⟨by simp,.inl ⟨_,_,rfl,run_takeDeferred hK,?_⟩⟩;refine⟨v,by simp[results,f133,go_sem],v,rfl,?_,HI.b.trans (nN W D _ _ (by omega) hK rfl rfl)⟩;exact wi HI.a (grownBy_putObj' W D _) (fun r e=>by cases e;exact⟨_,hK,rfl⟩)
 case stop=>
  rintro D cd ai W hD bv hF;exact hF.elim
theorem Eb(h:w.ownsRow B 82 1 v q.length (uV q))(hq:q≠[]):jm w B v q:=by
 rcases h.2 with⟨_,hx⟩ | ⟨g,ad,ai,hv,hb,hg,h1,h2,h3,h4⟩
 ·exact absurd (ci.1 hx) hq
 ·refine⟨g,ad,hv,hb,fun i hi=>?_⟩;rw[Fs hg];have:(ai.toList.take (q.length*1))[i]?=(uV q)[i]?:=by rw[h4]
  rw[cA (by omega),bK] at this;rw[this]
  simp[uV,List.getElem?_eq_getElem hi]
theorem AA(hN:N<=100000)(eg:∀args w,(callFunc g args).run prog w=.ok (.enter g args) w)
 (hseq:SeqStopsK Fence.wide 6 prog g lb mG (Below w.heap.size) (fun xs=>iR xs=q) (fun _=>True) N w):
 Ct 104 #[.func (.func g) #[] lb] w fun e w'=>∃v,e=.returned v/\w'.ownsRow w.heap.size 82 1 v q.length (uV q)/\Below w.heap.size w w':=by
 have ha:=callsIn_wide.1 (yF hN eg hseq);have HA:=If ha;clear ha hseq eg;go_enter func104,ntmps104;go_wp2_with fail;refine HA.out.mono ?_;rintro e w1 ⟨v,rfl,hr⟩;have HR:=If hr;clear hr;go_wp2_with fail;go_ret;exact⟨_,rfl,HR.out⟩
theorem BD:(prog.info? 5).map (fun i=>(i.zero,i.size,i.bytes))=some (some (.int .u8 0),1,1):=by kernel_rfl
def bV(l:List UInt8)(k:Nat):List Value:=(List.range k).map fun i=>Value.int .u8 (FN l i:Nat)
theorem AC(w:World):(convert 49 9 (.slice none 0 0)).run prog w=.ok (.string ⟨#[]⟩) w:=by kernel_rfl
theorem AB(h:w.ownsRow B 5 1 v l.length (bV l l.length)):(convert 49 9 v).run prog w=.ok (SV l) w:=by
 rcases h.2 with⟨rfl,hx⟩ | ⟨g,ad,ai,rfl,hb,hg,h1,h2,h3,h4⟩
 ·obtain rfl:=ci.1 hx;exact AC w
 ·refine run_convert_bytes_back (P:=prog) w _ _ 5 ⟨g,0,none⟩ ad l underlying49 underlying5 underlying9 (fun j hj=>?_);have al:(⟨g,0,none⟩:Addr).add j=⟨g,j,none⟩:=by unfold Addr.add;split<;>simp_all
  rw[al,Fs hg];have:(ai.toList.take (l.length*1))[j]?=(bV l l.length)[j]?:=by rw[h4]
  rw[cA (by omega),bK] at this;rw[this]
  simp[bV,FN,List.getD_eq_getElem?_getD,hj]
theorem EP(h:jm w B v (FK l))(hl:l.length<=1000):
 Cb 97 #[v] w (.tuple #[SV l,.int .i64 0]):=by
 have hm:=fun W=>xD l.length W (by omega);rw[<-te l hl] at hm;have a4:=fun W=>xE l W hl;have an:=pj l;have a1:∃r,FK l=l.length::r:=⟨_,rfl⟩;obtain⟨i0,hi,a6,a7,a8⟩:=info_parts BD;have h':=h;obtain⟨G,c,rfl,hB,hc⟩:=h;obtain⟨n,hn⟩:=Ii l.length;obtain⟨m,al⟩:=Ii (FK l).length;have c0:w.cell? ⟨G,0,none⟩=some (.int .u64 n):=by
  have:=hc 0 (by omega);obtain⟨r,hr⟩:=a1;rw[this]
  simp[hr,hn]
 have a0:∀i,i<n->w.cell? ⟨G,1+i / 8,none⟩=some (.int .u64 (cell l (i / 8) 8:Nat)):=fun i hi=>by
  have h1:=xY l i (by omega);obtain⟨h2,h3⟩:=aA.1 h1;rw[hc _ h2,h3]
 rw[al,hn] at hm;rw[al] at an;rw[hn] at an hl;have ba:((m:Int)==0)=false:=by simp;omega
 have bd:(n:Int)<=1000:=by omega
 have bc:m<=200:=by omega
 have bb:(0:Int)<m:=by omega
 have HG:=kq7 hm a4 h' hn al a0 an;rw[al];clear hm a4 h' hn al a0 an hB hc a1;go_enter func97,ntmps97;go_wp2_with fail;refine(HG.a _).mono ?_;rintro e w1 ⟨rfl,rfl⟩;go_wp2_with fail
 go_loopw [4,5,32] (fun v _ i wr=>∃k:Nat,k<=n/\i=.int .i64 k/\wr.ownsRow w.heap.size 5 1 v k (bV l k)/\Below w.heap.size w wr) (fun _ _ i _=>n-(intOf i).toNat)
 case atStart=>exact⟨0,by omega,rfl,⟨rfl,ab ⟨rfl,rfl⟩⟩,aa _ _⟩
 case round=>
  obtain⟨k,hk,rfl,hrow,hB⟩:=hrel
  by_cases hlt:k<n
  ·have a':(k:Int)<n:=by omega
   have hG:G<w.heap.size:=by
    unfold World.cell? at c0
    split at c0
    ·rename_i ai;exact(gl ai)
    ·cases c0
   have a5:=(hB.cell (p:=⟨G,1+k / 8,none⟩) hG).trans (HG.f k hlt);have ad:=tW l (k / 8) (7-k % 8) (k % 8) (by omega);rw[show 8*(k / 8)+k % 8=k by omega] at ad;obtain⟨q,hq⟩:=Ii (k / 8);obtain⟨r,hr⟩:=Ii (k % 8);obtain⟨s,hs⟩:=Ii (8*(7-r));have bm:r<8:=by omega
   rw[hr,hs] at ad;rw[hq] at a5 ad;have bj:1+q<m:=by have:=HG.g;omega
   have bf:(k:Int) / 8=(q:Int):=by omega
   have bk:(k:Int) % 8=(r:Int):=by omega
   have bo:8*(7-(r:Int))=(s:Int):=by omega
   have hx:=jK l q 8 Ih;generalize cell l q 8=x at*;have HI:=kq3 hrow hB ad;have bs:s<=56:=by omega
   clear hrow hB ad hq hr hs
   go_wp2_with (at_builtin;refine wpList_append_own_at _ rfl _ _ 49 rfl w.heap.size 5 i0 (.int .u8 0) 1 1 underlying49 hi a6 a7 a8 rfl (by decide) _ _ _ rfl (HI.a.alloc _) ⟨wr.heap.size,0,none⟩ 1 1 [.int .u8 (FN l k:Nat)] rfl rfl ?c1 ?c2 ?c3 ?c4 ?c5 ?_)
   case c1=>
    rw[show ((x:Int) / 2^s % 256)=((FN l k:Nat):Int) by rw[<-HI.c];push_cast;rfl];exact cell_one_new _ _ _
   case c2=>simp[Value.oneCell']
   case c3=>unfold maxLen;omega
   case c4=>omega
   case c5=>have:=HI.b.size;simp;omega
   intro v' w1 hown hgrow _ hat;have ao:=HI.b.size;have ar:Below w.heap.size wr w1:=((aa _ wr).mono ao |>.alloc ao (.cells #[.int .u8 ((x:Int) / 2^s % 256)] 5)).grown hgrow (by simp;omega) (fun k e=>(HI.a.lt k e).1);have au:bV l k++[.int .u8 (FN l k:Nat)]=bV l (k+1):=by simp[bV,List.range_succ]
   rw[au] at hown;have HW:=kq2 hown (HI.b.trans ar);clear hown hgrow hat ao ar au;go_wp2_with fail;go_roundw
   case rel=>exact⟨k+1,by omega,by simp,HW.out⟩
   case measure=>simp[intOf];omega
  ·obtain rfl:k=n:=by omega
   have a9:(convert 49 9 u4).run prog wr=.ok (SV l) wr:=AB (by rw[HG.d];exact hrow);have HI:=If hB;clear hrow hB;go_wp2_with fail;refine(HG.b wr).mono ?_;rintro e w2 ⟨v2,rfl,a3,ap⟩;have a2:=(HG.c.below HI.out).below ap;have ai:=E8 a3 a2 (by rw[HG.e];omega);rw[HG.e] at ai;have HE:=kq2 ai (HI.out.trans (ap.mono HI.out.size));clear a3 a2 ap ai;go_wp2_with fail;refine HE.a.mono ?_;rintro e w3 ⟨rfl,q,rfl⟩;go_wp2_with fail;go_ret2;exact⟨rfl,HE.b.trans ⟨rfl,rfl,rfl,Nat.le_refl _,fun _ _=>rfl⟩⟩
theorem iz(h:Ig w ps S Y)(hi:Fv S)(hh:Nat)(hl:hh<2^64)(hg:(fz S hh).2≠8):
 Cb 80 #[PV ps,.int .u64 hh] w (.tuple #[SV (fz S hh).1,.int .i64 ((fz S hh).2:Nat)]):=by
 have ad:=fB h hi hh hl;obtain⟨R,hR⟩:=Ii (fz S hh);rw[hR] at hg⊢;unfold fz at hR;obtain⟨⟨n,er⟩,hn⟩:∃r,S.len hh=r:=⟨_,rfl⟩;rw[hn] at ad hR;simp only at ad
 cases er with
 | succ er=>
  have ai:R=([],er+1):=by rw[<-hR];rfl
  have a4:(((er+1:Nat):Int) !=0)=true:=by simp;omega
  obtain⟨g1,au⟩:=Ii (er+1);rw[au] at ad ai a4;have HG:=kq2 ad ai;clear ad hR ai au hg h hi hn;go_enter func80,ntmps80;go_wp2_with fail;refine HG.a.mono ?_;rintro e w1 ⟨rfl,rfl⟩;go_wp2_with fail;go_ret2;obtain rfl:=HG.b;exact⟨rfl,aa _ _⟩
 | zero=>
  cases ht:mm (kM S hh) with
  | none=>
   rw[ht] at hR;exact absurd (by rw[<-hR];rfl) hg
  | some t=>
   have ai:R=(t,0):=by rw[<-hR,ht];rfl
   obtain⟨a3,a2⟩:=EM ht;have HG:=kq6 ad ai h hi a2 a3;clear ad hR ai hg h hi hn ht a2 a3;go_enter func80,ntmps80;go_wp2_with fail;refine HG.a.mono ?_;rintro e w1 ⟨rfl,rfl⟩;go_wp2_with fail;refine(zB ps hh w).mono ?_;rintro e w1 ⟨rfl,al⟩;have hb:Below w.heap.size w w1:=by rw[al];exact((aa _ w).alloc Ih _).alloc (by simp) _
   have a5:w1.heap.size=w.heap.size+2:=by rw[al];simp
   have k0:w1.cell? ⟨w.heap.size,0,none⟩=some (PV ps):=by
    have:w1.heap[w.heap.size]?=some (.cells #[PV ps] 25 (0,0)):=by rw[al,heap_alloc_old _ _ (by simp)];exact heap_alloc_new w _
    rw[Fs this]
    rfl
   have k1:w1.cell? ⟨w.heap.size+1,0,none⟩=some (.int .u64 hh):=by
    have h0:w1.heap[w.heap.size+1]?=some (.cells #[.int .u64 hh] 83 (0,0)):=by
     have:=heap_alloc_new (w.alloc (.cells #[PV ps] 25)) (.cells #[.int .u64 hh] 83);rw[World.size_alloc] at this;rw[al];exact this
    rw[Fs h0]
    rfl
   have an:=E9 (HG.c.below hb) HG.d hh hl w.heap.size (w.heap.size+1) ⟨by omega,k0⟩ ⟨by omega,k1⟩;rw[HG.e] at an;have ar:=AA (by omega) (enters_of func134 (by kernel_rfl) rfl) an;have HC:=kq2 ar hb;clear an ar hb a5 k0 k1 al;go_wp2_with fail;refine HC.a.mono ?_;rintro e w2 ⟨v,rfl,hrow,ao⟩;have a1:=Eb hrow (by unfold FK;simp);have a0:=EP a1 HG.f;have HO:=kq2 a0 (HC.b.trans (ao.mono HC.b.size));clear hrow ao a1 a0;go_wp2_with fail;refine HO.a.mono ?_;rintro e w3 ⟨rfl,ap⟩;have HB:=If (HO.b.trans (ap.mono HO.b.size));clear ap;go_wp2_with fail;go_ret2;obtain rfl:=HG.b;exact⟨rfl,HB.out⟩
theorem ud:∀(a b:List UInt8),Fu a b=Lib.compareBytes a b
 | [],[]=>rfl
 | [],_::_=>rfl
 | _::_,[]=>rfl
 | a::l,b::m=>by
  unfold Fu Lib.compareBytes;rw[ud l m]
theorem EA(a b:List UInt8)(w:World):
 Ct 183 #[SV a,SV b] w fun e w'=>e=.returned (.int .i64 (Fu a b))/\w'=w:=by
 have hc:=bytealg_CompareString ⟨a.toArray⟩ ⟨b.toArray⟩ w;rw[ud];have HC:=If hc;clear hc;go_enter func183,ntmps183;go_wp2_with fail;refine HC.out.mono ?_;rintro e w1 ⟨rfl,rfl⟩;go_wp2_with fail;go_ret;exact⟨rfl,rfl⟩
theorem sT(a b:List UInt8)(w:World):
 Ct 161 #[SV a,SV b] w fun e w'=>e=.returned (.int .i64 (Fu a b))/\w'=w:=by
 have HC:=If (EA a b w);go_enter func161,ntmps161;go_wp2_with fail;refine HC.out.mono ?_;rintro e w1 ⟨rfl,rfl⟩;go_wp2_with fail;go_ret;exact⟨rfl,rfl⟩
end
section
open Go.RowKit Tryz Go.BigFrame Go.Maps Go.WideMaps Lf
variable{S:St}{Y:Nat->Prop}{ps:Nat}{w:World}
def eS(n:Nd):Value:=.agg #[.int .u64 n.key,.int .u64 n.val,.int .u64 n.left,.int .u64 n.right,.int .u64 n.mark,.int .u64 n.size]
structure ji (n:Nd):Prop where
 key:n.key<2^64
 val:n.val<2^64
 left:n.left<2^64
 right:n.right<2^64
 mark:n.mark<2^64
 size:n.size<2^64
theorem qJeaa{P:Prop}(h:P:=by
 go_enter func168,ntmps168;go_wp2_with fail;refine HG.a.mono ?_;rintro e w1 ⟨rfl,rfl⟩;go_wp2_with fail;go_ret;obtain rfl:=HG.b;exact⟨rfl,rfl⟩):P:=h
theorem oG(h:Ig w ps S Y)(hi:Fv S)(hh:Nat)(hl:hh<2^64):
 Ct 168 #[PV ps,.int .u64 hh] w fun e w'=>e=.returned (.int .i64 (fZ S hh:Nat))/\w=w':=by
 have ai:=fB h hi hh hl;obtain⟨R,hR⟩:=Ii (fZ S hh);rw[hR];unfold fZ at hR;obtain⟨⟨n,er⟩,hn⟩:∃r,S.len hh=r:=⟨_,rfl⟩;rw[hn] at ai hR;simp only at ai
 cases er with
 | succ er=>
  have ad:R=er+1:=by rw[<-hR];rfl
  have an:(((er+1:Nat):Int)==0)=false:=by simp;omega
  obtain⟨g1,al⟩:=Ii (er+1);rw[al] at ai ad an;have HG:=kq2 ai ad;clear ai hR ad al h hi hn;exact qJeaa
 | zero=>
  by_cases h6:n=6
  ·have ad:R=0:=by rw[<-hR,h6];rfl
   subst h6;have HG:=kq2 ai ad;clear ai hR ad h hi hn;exact qJeaa
  ·have ad:R=8:=by rw[<-hR];show (if n≠6 then 8 else 0)=8;rw[if_pos h6]
   have an:((n:Int) !=6)=true:=by simp;omega
   have HG:=kq2 ai ad;clear ai hR ad h hi hn h6;exact qJeaa
theorem Dj(n:Nd)(w:World):
 Cb 265 #[eS n] w (eS n):=by
 obtain⟨k,v,l,r,m,s⟩:=n;unfold eS;simp only;have hb:∀o o',Below w.heap.size w ((w.alloc o).alloc o'):=fun o o'=>((aa _ w).alloc Ih o).alloc (by simp) o';have HB:=If hb;clear hb;go_enter func265,ntmps265;go_wp2_with fail;refine bodyPost_ret (v:=.agg #[.int .u64 k,.int .u64 v,.int .u64 l,.int .u64 r,.int .u64 m,.int .u64 s]) (by simp[results,f265,go_sem]) rfl ⟨rfl,HB.out _ _⟩
def ke(S:St)(hh k:Nat):List Value:=(List.range 6).map fun i=> .int .u64 (if i<k then((S.get hh i).1:Nat) else(0:Nat))
theorem iO(h:Ig w ps S Y)(hi:Fv S)(hh:Nat)(hl:hh<2^64):
 Cb 140 #[PV ps,.int .u64 hh] w (.tuple #[eS (getNode S hh).1,.int .i64 ((getNode S hh).2:Nat)]):=by
 have ai:Below w.heap.size w (w.alloc (.cells #[.int .u64 0,.int .u64 0,.int .u64 0,.int .u64 0,.int .u64 0,.int .u64 0] 232)):=(aa _ w).alloc Ih _;have has:=oG (h.below ai) hi hh hl;have an:=fun W (hW:Below w.heap.size w W) (k:Nat) (hk:k<=6)=>sG (h.below hW) hi hh k hl (by omega);obtain⟨R,hR⟩:=Ii (getNode S hh);rw[hR];unfold getNode at hR;obtain⟨a,ha⟩:=Ii (fZ S hh);rw[ha] at has hR
 cases a with
 | succ a=>
  have ad:R=(Nd.zero,a+1):=by rw[<-hR];rfl
  have au:(((a+1:Nat):Int) !=0)=true:=by simp;omega
  obtain⟨g1,ap⟩:=Ii (a+1);rw[ap] at has ad au;have HG:=kq3 has ad ai;clear has hR ad ap h hi ha an ai;go_enter func140,ntmps140;go_wp2_with fail;refine HG.a.mono ?_;rintro e w1 ⟨rfl,rfl⟩;go_wp2_with fail;obtain rfl:=HG.b;refine bodyPost_ret (v:=.tuple #[eS Nd.zero,.int .i64 g1]) (by simp[results,f140,go_sem,eS,Nd.zero]) rfl ⟨rfl,(aa _ w).alloc Ih _⟩
 | zero=>
  have ad:R=(⟨(S.get hh 0).1,(S.get hh 1).1,(S.get hh 2).1,(S.get hh 3).1,(S.get hh 4).1,(S.get hh 5).1⟩,0):=by rw[<-hR];rfl
  have HG:=kq4 has ad ai an;clear has hR ad h hi ha an ai;go_enter func140,ntmps140;go_wp2_with fail;refine HG.a.mono ?_;rintro e w1 ⟨rfl,rfl⟩;go_wp2_with fail;have hA:∀k,ke S hh k=[.int .u64 (if 0<k then((S.get hh 0).1:Nat) else(0:Nat)),.int .u64 (if 1<k then((S.get hh 1).1:Nat) else(0:Nat)),.int .u64 (if 2<k then((S.get hh 2).1:Nat) else(0:Nat)),.int .u64 (if 3<k then((S.get hh 3).1:Nat) else(0:Nat)),.int .u64 (if 4<k then((S.get hh 4).1:Nat) else(0:Nat)),.int .u64 (if 5<k then((S.get hh 5).1:Nat) else(0:Nat))]:=fun k=>rfl;have ar:∀k,k<6->(ke S hh k).toArray.setIfInBounds k (.int .u64 ((S.get hh k).1:Nat))=(ke S hh (k+1)).toArray:=fun k hk=>by
   apply Array.toList_inj.1;simp only[c8];apply dD (by simp[ke]);intro n h1 h2;simp only[ke,List.getElem_set,bq,dM]
   by_cases e:k=n
   ·subst e
    simp
   ·rw[if_neg e]
    by_cases e2:n<k
    ·rw[if_pos e2,if_pos (by omega)]
    ·rw[if_neg e2,if_neg (by omega)]
  go_name_world W0 HW0
  have q1:W0.heap[w.heap.size+1]?=some (.cells (ke S hh 0).toArray 273 (0,0)):=by
   rw[<-HW0];have:=heap_alloc_new (w.alloc (.cells #[.int .u64 0,.int .u64 0,.int .u64 0,.int .u64 0,.int .u64 0,.int .u64 0] 232)) (.cells #[.int .u64 0,.int .u64 0,.int .u64 0,.int .u64 0,.int .u64 0,.int .u64 0] 273);rw[World.size_alloc] at this;exact this
  have q0:W0.heap[w.heap.size]?=some (.cells #[.int .u64 0,.int .u64 0,.int .u64 0,.int .u64 0,.int .u64 0,.int .u64 0] 232 (0,0)):=by
   rw[<-HW0,heap_alloc_old _ _ (by simp)];exact heap_alloc_new w _
  have qb:Below w.heap.size w W0:=by rw[<-HW0];exact HG.c.alloc (by simp) _
  clear HW0;have H0:=kq5 q1 q0 qb hA ar;clear q1 q0 qb hA ar
  go_loopw [8,16] (fun _ i wr=>∃k:Nat,k<=6/\i=.int .i64 k/\wr.heap[w.heap.size+1]?=some (.cells (ke S hh k).toArray 273 (0,0))/\wr.heap[w.heap.size]?=some (.cells #[.int .u64 0,.int .u64 0,.int .u64 0,.int .u64 0,.int .u64 0,.int .u64 0] 232 (0,0))/\Below w.heap.size w wr) (fun _ i _=>6-(intOf i).toNat)
  case atStart=>exact⟨0,by omega,rfl,H0.a,H0.b,H0.c⟩
  case round=>
   obtain⟨k,hk,rfl,r1,r0,rb⟩:=hrel
   by_cases hlt:k<6
   ·have a6:(k:Int)<6:=by omega
    have al:=HG.d wr rb k hk;have c1:∃v,wr.cell? ⟨w.heap.size+1,k,none⟩=some v:=by
     rw[Fs r1];refine⟨(ke S hh k)[k]'(by simp[ke];omega),?_⟩;rw[cz,af]
    obtain⟨v0,c1⟩:=c1;have f1:wr.frozen? ⟨w.heap.size+1,k,none⟩=false:=AT r1;have ao:=H0.e k hlt;generalize (S.get hh k).1=x at al ao;generalize (S.get hh k).2=er at al;have HK:=kq5 al r1 r0 rb ao;clear al r1 r0 rb ao;go_wp2_with fail;refine HK.a.mono ?_;rintro e w2 ⟨rfl,rfl⟩;go_wp2_with fail;go_roundw
    case rel=>
     refine⟨k+1,by omega,by simp,?_,?_,HK.d.setCell (p:=⟨w.heap.size+1,k,none⟩) (by simp) _⟩
     ·rw[heap_setCell HK.b,HK.e]
     ·rw[FB (by omega)];exact HK.c
    case measure=>simp[intOf];omega
   ·obtain rfl:k=6:=by omega
    have hA:=H0.d 6;simp only[show (0:Nat)<6 from by decide,show (1:Nat)<6 from by decide,show (2:Nat)<6 from by decide,show (3:Nat)<6 from by decide,show (4:Nat)<6 from by decide,show (5:Nat)<6 from by decide,if_true] at hA;rw[hA] at r1;have g0:=HG.b;generalize (S.get hh 0).1=x0 at r1 g0;generalize (S.get hh 1).1=x1 at r1 g0;generalize (S.get hh 2).1=x2 at r1 g0;generalize (S.get hh 3).1=x3 at r1 g0;generalize (S.get hh 4).1=x4 at r1 g0;generalize (S.get hh 5).1=x5 at r1 g0;have a0:wr.cell? ⟨w.heap.size+1,0,none⟩=some (.int .u64 x0):=by rw[Fs r1];rfl
    have a1:wr.cell? ⟨w.heap.size+1,1,none⟩=some (.int .u64 x1):=by rw[Fs r1];rfl
    have a2:wr.cell? ⟨w.heap.size+1,2,none⟩=some (.int .u64 x2):=by rw[Fs r1];rfl
    have a3:wr.cell? ⟨w.heap.size+1,3,none⟩=some (.int .u64 x3):=by rw[Fs r1];rfl
    have a4:wr.cell? ⟨w.heap.size+1,4,none⟩=some (.int .u64 x4):=by rw[Fs r1];rfl
    have a5:wr.cell? ⟨w.heap.size+1,5,none⟩=some (.int .u64 x5):=by rw[Fs r1];rfl
    have b0:wr.cell? ⟨w.heap.size,0,none⟩=some (.int .u64 0):=by rw[Fs r0];rfl
    have b1:wr.cell? ⟨w.heap.size,1,none⟩=some (.int .u64 0):=by rw[Fs r0];rfl
    have b2:wr.cell? ⟨w.heap.size,2,none⟩=some (.int .u64 0):=by rw[Fs r0];rfl
    have b3:wr.cell? ⟨w.heap.size,3,none⟩=some (.int .u64 0):=by rw[Fs r0];rfl
    have b4:wr.cell? ⟨w.heap.size,4,none⟩=some (.int .u64 0):=by rw[Fs r0];rfl
    have b5:wr.cell? ⟨w.heap.size,5,none⟩=some (.int .u64 0):=by rw[Fs r0];rfl
    have bf:∀o,wr.frozen? ⟨w.heap.size,o,none⟩=false:=fun o=>AT r0;have f0:=bf 0;have f1:=bf 1;have f2:=bf 2;have f3:=bf 3;have f4:=bf 4;have f5:=bf 5;have HK:=kq4 r1 r0 rb g0;clear r1 r0 rb g0 hA bf;go_wp2_with fail;have hX:((((((wr.setCell ⟨w.heap.size,0,none⟩ (.int .u64 x0)).setCell ⟨w.heap.size,1,none⟩ (.int .u64 x1)).setCell ⟨w.heap.size,2,none⟩ (.int .u64 x2)).setCell ⟨w.heap.size,3,none⟩ (.int .u64 x3)).setCell ⟨w.heap.size,4,none⟩ (.int .u64 x4)).setCell ⟨w.heap.size,5,none⟩ (.int .u64 x5)).heap[w.heap.size]?=some (.cells #[.int .u64 x0,.int .u64 x1,.int .u64 x2,.int .u64 x3,.int .u64 x4,.int .u64 x5] 232 (0,0)):=by
     rw[heap_setCell (heap_setCell (heap_setCell (heap_setCell (heap_setCell (heap_setCell HK.b)))))]
     rfl
    have hY:Below w.heap.size w ((((((wr.setCell ⟨w.heap.size,0,none⟩ (.int .u64 x0)).setCell ⟨w.heap.size,1,none⟩ (.int .u64 x1)).setCell ⟨w.heap.size,2,none⟩ (.int .u64 x2)).setCell ⟨w.heap.size,3,none⟩ (.int .u64 x3)).setCell ⟨w.heap.size,4,none⟩ (.int .u64 x4)).setCell ⟨w.heap.size,5,none⟩ (.int .u64 x5)):=
     (((((HK.c.setCell (p:=⟨w.heap.size,0,none⟩) (Nat.le_refl w.heap.size) _).setCell (p:=⟨w.heap.size,1,none⟩) (Nat.le_refl w.heap.size) _).setCell (p:=⟨w.heap.size,2,none⟩) (Nat.le_refl w.heap.size) _).setCell (p:=⟨w.heap.size,3,none⟩) (Nat.le_refl w.heap.size) _).setCell (p:=⟨w.heap.size,4,none⟩) (Nat.le_refl w.heap.size) _).setCell (p:=⟨w.heap.size,5,none⟩) (Nat.le_refl w.heap.size) _
    generalize ((((((wr.setCell ⟨w.heap.size,0,none⟩ (.int .u64 x0)).setCell ⟨w.heap.size,1,none⟩ (.int .u64 x1)).setCell ⟨w.heap.size,2,none⟩ (.int .u64 x2)).setCell ⟨w.heap.size,3,none⟩ (.int .u64 x3)).setCell ⟨w.heap.size,4,none⟩ (.int .u64 x4)).setCell ⟨w.heap.size,5,none⟩ (.int .u64 x5))=W9 at*;have e0:W9.cell? ⟨w.heap.size,0,none⟩=some (.int .u64 x0):=by rw[Fs hX];rfl
    have e1:W9.cell? ⟨w.heap.size,1,none⟩=some (.int .u64 x1):=by rw[Fs hX];rfl
    have e2:W9.cell? ⟨w.heap.size,2,none⟩=some (.int .u64 x2):=by rw[Fs hX];rfl
    have e3:W9.cell? ⟨w.heap.size,3,none⟩=some (.int .u64 x3):=by rw[Fs hX];rfl
    have e4:W9.cell? ⟨w.heap.size,4,none⟩=some (.int .u64 x4):=by rw[Fs hX];rfl
    have e5:W9.cell? ⟨w.heap.size,5,none⟩=some (.int .u64 x5):=by rw[Fs hX];rfl
    obtain rfl:=HK.d;exact bodyPost_ret (v:=.tuple #[.agg #[.int .u64 x0,.int .u64 x1,.int .u64 x2,.int .u64 x3,.int .u64 x4,.int .u64 x5],.int .i64 0]) (by simp[results,f140,go_sem,e0,e1,e2,e3,e4,e5]) rfl ⟨rfl,hY⟩
theorem vT(h:Ig w ps S Y)(hi:Fv S)(hh:Nat)(hl:hh<2^64)(ha:fZ S hh≠0):
 Ct 303 #[PV ps,.int .u64 hh] w fun e w'=>e=.returned (.int .i64 (fZ S hh:Nat))/\w=w':=by
 have has:=oG h hi hh hl;generalize fZ S hh=a at*;have ad:((a:Int) !=0)=true:=by simp;omega
 have HG:=If has;clear has ha h hi;go_enter func303,ntmps303;go_wp2_with fail;refine HG.out.mono ?_;rintro e w1 ⟨rfl,rfl⟩;go_wp2_with fail;go_ret;exact⟨rfl,rfl⟩