/- Blobs: the words of a record, told one by one: the iterator's contract. -/
import Derived.Test.YtpljannolpapgaaGreatDoorVFb
import Derived.Maps.OwnIn
import Derived.Laws.BytesString
import Derived.Test.YtpljannolpapgaaGreatDoorVLh
import Derived.Test.YtpljannolpapgaaGreatDoorVCl
import Derived.Laws.EntriesVeiled
set_option maxRecDepth 100000
set_option maxHeartbeats 6400000
namespace Go.Proofs.YtpljannolpapgaaGreatDoor
section
open Go.RowKit Tryz Go.BigFrame Go.Maps Go.WideMaps Lf
open Go.Shelf
variable{B:Nat}{N:Nat}{S:St}{Y:Nat->Prop}{e:TypeId}{g:Nat}{k:Nat}{l:List UInt8}{lb:Array Value}{ps:Nat}{q:List Nat}{size:Nat}{v:Value}{w:World}
attribute [local go_sem] Oper.semAt_some
abbrev Jf:= { x:Nat // x<2^64 }
def mG(x:Jf):Array Value:=#[Xu (x.1:Nat)]
def iR(l:List Jf):List Nat:=l.map (·.1)
theorem uC(h:Ig w ps S Y)(hh k:Nat):(S.get hh k).1<2^64:=by
 obtain⟨pa,pm,ph,pt,v,h⟩:=h;rw[St.get_place]
 rcases S.place_cases hh k with⟨p,hp⟩ | ⟨e,hp⟩
 ·rw[hp];exact h.heap.rd_lt p
 ·rw[hp]
  show 0<_;omega
theorem zB(ps hh:Nat)(w:World):
 Ct 96 #[PV ps,Xu hh] w fun e w'=>e=.returned (.func (.func 149) #[] #[PV w.heap.size,PV (w.heap.size+1)])/\w'=(w.alloc (Xh ps)).alloc (Xf hh):=by
 go_enter func96,ntmps96
 go_wp2
 go_ret;exact⟨rfl,rfl⟩
theorem E9(h:Ig w ps S Y)(hi:Fv S)(hh:Nat)(hl:hh<2^64)(Bs Bh:Nat)(hBs:Bs<w.heap.size/\w.cell? ⟨Bs,0,none⟩=some (PV ps))(hBh:Bh<w.heap.size/\w.cell? ⟨Bh,0,none⟩=some (Xu hh)):
 SeqStopsK Fence.wide 6 prog 149 #[PV Bs,PV Bh] mG (Below w.heap.size) (fun xs=>iR xs=kM S hh) (fun _=>True) 3998 w:=fun l J Jx W hW hJ hJx hY h0=>by
 have bc:Fence.wide.fn 42:=trivial;have bb:Fence.wide.fn 123:=trivial;have au:CallsIn Fence.wide 5 prog 42 #[PV ps,Xu hh] W _:=callsIn_wide.2 (fB (h.below hW) hi hh hl);have a5:∀W',Below w.heap.size w W'->∀k:Nat,k<=4000->CallsIn Fence.wide 5 prog 123 #[PV ps,Xu hh,Xi k] W' _:=fun W' hW' k hk=>callsIn_wide.2 (sG (h.below hW') hi hh k hl (by omega));have a6:=fun k=>uC h hh k;have hn:(S.len hh).1<=3998:=hi.at_le hh;obtain⟨q,hq⟩:=Ii (kM S hh);have a0:∀k,q.take (k+1)=if k<(S.len hh).1 then q.take k++[(S.get hh k).1] else q.take k:=fun k=>by
  rw[<-hq];unfold kM;split
  ·rename_i hk;rw[<-bS,<-bS,List.take_range,List.take_range,dl (by omega),dl (by omega),dE,aJ];rfl
  ·rename_i hk;rw[aZ (by simp;omega),aZ (by simp;omega)]
 have a1:q.length=(S.len hh).1:=by rw[<-hq];simp[kM]
 rw[hq];obtain⟨n,a8⟩:=Ii (S.len hh).1;rw[a8] at au hn a0 a1;have cs:=(hW.cell (p:=⟨Bs,0,none⟩) hBs.1).trans hBs.2;have ch:=(hW.cell (p:=⟨Bh,0,none⟩) hBh.1).trans hBh.2;have HG:=kq7 a5 a6 a0 a1 hBs hBh hW;have HJ:=kq4 hJ hJx hY h0;have HL:=If au;clear a5 a6 hq a0 a1 hBs hBh hW hJ hJx hY h0 au a8 hi h;refine callsIn_of_wp func149 rfl trivial ?_ rfl;simp only[ntmps149,bp,ak,aM,Nat.reduceAdd,Nat.reduceSub,aV,aW,bx,bg,aY,aR];gi_wp2_with fail;refine HL.out.mono ?_;rintro e w1 ⟨rfl,rfl⟩;clear HL;gi_wp2_with fail;gi_loopw [6,7,8,16] (fun _ _ _ i wr=>∃k:Nat,k<=n/\i=Xi k/\Hid (Below w.heap.size w wr/\∃pX,iR pX=q.take k/\J pX wr)) (fun _ _ _ i _=>n-(intOf i).toNat)
 case atStart=>exact⟨0,by omega,rfl,HG.g,[],rfl,HJ.d⟩
 case round=>
  obtain⟨k,hk,rfl,ad⟩:=hrel;by_cases hlt:k<n
  ·have bd:(k:Int)<n:=by omega
   have cs:=(ad.out.1.cell (p:=⟨Bs,0,none⟩) HG.e.1).trans HG.e.2;have ch:=(ad.out.1.cell (p:=⟨Bh,0,none⟩) HG.f.1).trans HG.f.2;have al:=HG.a wr ad.out.1 k (by omega);obtain⟨pX,ai,an⟩:=ad.out.2;have a9:pX.length=k:=by
    have:=congrArg List.length ai;simp only[iR,ao,ay] at this;rw[HG.d] at this;omega
   obtain⟨xX,a2⟩:∃xX:Jf,(S.get hh k).1=xX.1:=⟨⟨_,HG.b k⟩,rfl⟩;obtain⟨fn,bf,a',ba,hy,ar⟩:=HJ.c pX xX wr an (by omega);have hv:iR (pX++[xX])=q.take (k+1):=by
    rw[HG.c k,if_pos hlt,<-ai,a2];simp[iR]
   dsimp only[mG] at hy
   rw[a2] at al;generalize (S.get hh k).2=er at al;obtain⟨x,hx⟩:=xX;simp only at al hy;clear a2;have HV:=If hv;have HE:=If al;clear hv al ai an a9;gi_wp2_with fail;refine HE.out.mono ?_;rintro e w2 ⟨rfl,rfl⟩;clear HE;gi_wp2_with fail;refine ar.mono ?_;rintro e w4 (⟨rfl,a3,a7⟩ | ⟨rfl,a4⟩)
   ·have H4:=kq2 (ad.out.1.trans a7) a3;clear a3 a7 hy ar;gi_wp2_with fail;go_roundw
    case rel=>exact⟨k+1,by omega,by simp,H4.a,_,HV.out,H4.b⟩
    case measure=>simp[intOf];omega
   ·have H4:=If a4;clear a4 hy ar;gi_wp2_with fail;refine bodyPost_ret (results_none rfl _ _ _) rfl ?_;exact⟨⟨_,rfl⟩,.inr ⟨_,trivial,H4.out⟩⟩
  ·obtain rfl:k=n:=by omega
   gi_wp2
   go_end0
   obtain⟨pX,ai,an⟩:=ad.out.2;rw[aZ (by rw[HG.d];exact Nat.le_refl _)] at ai;exact⟨⟨_,rfl⟩,.inl ⟨_,ai,an⟩⟩
attribute [local go_sem] Oper.semAt_some
theorem BL{W W':World}{base B:Nat}{xs:List Value}(h:W.ownsRow base e size v k xs)(hg:W.grownBy W' v.ownBlock):KeepsFrom B W W':=
 ⟨hg.size,fun j o _ hj ho=>(hg.block j (gl hj) (fun e'=>by
  rcases h.2 with⟨rfl,_⟩ | ⟨g,ai,al,rfl,_,ad,_⟩
  ·cases e'
  ·have:j=g:=by simpa[Value.ownBlock] using e'
   subst this;rw[ad] at hj;injection hj with hj
   subst hj;cases ho)).trans hj⟩
theorem nN{n:Nat}(W:World)(l:Nat)(o o':Obj)(hl:n<=l)(_:W.heap[l]?=some o)(_:o.isCells=false)(_:o.isWalk=false):Below n W (W.putObj l o'):=
 ⟨rfl,rfl,rfl,by simp,fun k hk=>World.putObj_heap_other (by omega)⟩
theorem wi{W W':World}{row:Option Nat}{base:Nat}{xs:List Value}(h:W.ownsRow base e size v k xs)(hg:W.grownBy W' row)(hr:∀r,row=some r->∃o:Obj,W.heap[r]?=some o/\o.isCells=false):W'.ownsRow base e size v k xs:=by
 refine h.kept hg ?_
 rcases h.2 with⟨rfl,_⟩ | ⟨g,ai,al,rfl,_,ad,_⟩
 ·exact aa rfl
 ·refine ae fun e'=>?_;obtain⟨o,ho,hc⟩:=hr g (by rw[<-e'];rfl);rw[ad] at ho
  injection ho with ho
  subst ho
  cases hc
theorem qS{W:World}{t:TypeId}(h:W.heap[B]?=some (.cells #[v] t (0,0))):W.cell? ⟨B,0,none⟩=some v/\W.frozen? ⟨B,0,none⟩=false:=⟨by rw[cell_of_block h];rfl,AT h⟩
def uV(q:List Nat):List Value:=q.map fun x:Nat=>Value.int .u64 x
theorem yF(hN:N<=100000)(eg:∀args w,(callFunc g args).run prog w=.ok (.enter g args) w)
 (hseq:SeqStopsK Fence.wide 6 prog g lb mG (Below w.heap.size) (fun xs=>iR xs=q) (fun _=>True) N w):
 CallsIn Fence.wide 7 prog 148 #[.slice none 0 0,.func (.func g) #[] lb] w fun e w'=>∃v,e=.returned v/\w'.ownsRow w.heap.size 60 1 v q.length (uV q)/\Below w.heap.size w w':=by
 have h1:1<=7:=by omega
 obtain⟨i0,hi,bo,bs,bt⟩:=info_parts uQ;refine callsIn_of_wp_marks func148 rfl trivial ?_ rfl;simp only[ntmps148,bp,ak,aM,Nat.reduceAdd,Nat.reduceSub,aV,aW,bx,bg,aY,aR];gi_wp2_with fail;have k0:(w.alloc (.cells #[.slice none 0 0] 177)).heap[w.heap.size]?=some (.cells #[.slice none 0 0] 177 (0,0)):=heap_alloc_new w _;have a1:Below w.heap.size w (w.alloc (.cells #[.slice none 0 0] 177)):=(ab _ w).alloc Ih _;have bd:(w.alloc (.cells #[.slice none 0 0] 177)).heap.size=w.heap.size+1:=by simp
 generalize w.alloc (.cells #[.slice none 0 0] 177)=W0 at*;refine wpIn_rangeFunc_ownH rfl h1 (gf:=g) (lb:=lb) rfl trivial eg hseq (fun h k=>h.trans k) (fun W l o o' h1 h2 h3 h4=>nN W l o o' (by omega) h2 h3 h4) a1 (fun _=>rfl)
  (fun ai W=>(∃v,W.heap[w.heap.size]?=some (.cells #[v] 177 (0,0))/\W.ownsRow w.heap.size 60 1 v ai.length (uV (iR ai)))/\Below w.heap.size w W)
  (fun _ _ _=>False)
  (OwnFrom.and (Own.from (fun s A B row hs hg hr=>by
   obtain⟨v,hv,hrow⟩:=hs;refine⟨v,(hg.block _ (gl hv) (fun e=>?_)).trans hv,wi hrow hg hr⟩;obtain⟨o,ho,hc⟩:=hr _ e.symm;rw[hv] at ho;injection ho with ho
   subst ho;cases hc) _) (ownFrom_below Ih (by omega)))
  (fun cd=>Own.from (fun s A B row hs hg hr=>hs) _)
  ⟨⟨_,k0,rfl,aa ⟨rfl,rfl⟩⟩,a1⟩
  (fun x a' _=>a'= { tmps:=#[.slice none 0 0,.func (.func g) #[] lb,PV w.heap.size,undef,.slice none 0 0,Xu (x.1:Nat),.func (.func g) #[] lb,Xu (x.1:Nat),undef,undef,undef,undef,undef],defers:=[] })
  (fun x a' _ X W' row hs hg hr=>hs)
  ?assign ?body ?done ?stop
 case assign=>
  rintro l ai ⟨x,hx⟩ W K hI hK;have HK:=If hK;have HI:=If hI;clear hK hI;simp only[mG];gi_wp2
  exact HK.out _ _ (KeepsFrom.refl _ _) (ab _ _) HI.out rfl
 case body=>
  rintro l ai ⟨x,hx⟩ a' W hl _ ⟨⟨v,hv,hrow⟩,hB⟩ rfl al;obtain⟨c1,f1⟩:=qS hv;have HI:=kq6 hv hrow hB al bd hl;obtain⟨m,hm⟩:=Ii ai.length;have b0:m<=100000:=by omega
  rw[hm] at HI;clear hv hrow hB al hm;gi_wp2_with (gi_at_builtin;refine wpListIn_append_own_at _ rfl _ _ 177 rfl w.heap.size 60 i0 (Xu 0) 1 8 underlying177 hi bo bs bt rfl (by decide) _ _ _ rfl (HI.b.alloc _) ⟨W.heap.size,0,none⟩ 1 1 [Xu x] rfl rfl (cell_one_new _ _ _) ?c2 ?c3 ?c4 ?c5 ?_)
  case c2=>simp[Value.oneCell']
  case c3=>unfold maxLen;omega
  case c4=>omega
  case c5=>have:=HI.c.size;simp;omega
  intro v' w1 hown hgrow _ hat;obtain⟨g',a0,bf,rfl,a4,ar,a9,ba,bb,bc⟩:=hown.2.resolve_left (by rintro⟨_,h⟩;exact absurd h (by simp));obtain⟨hv,hrow,hB,al,bd,hl⟩:=HI.out;have an:=hB.size;have a5:=(gl hv);have a8:v.ownBlock≠some w.heap.size:=fun e'=>by
   rcases hrow.2 with⟨rfl,_⟩ | ⟨g0,bu,bv,rfl,_,bj,_⟩
   ·cases e'
   ·have:g0=w.heap.size:=by simpa[Value.ownBlock] using e'
    subst this;rw[bj] at hv;injection hv with hv
    injection hv with _ hv
    exact absurd hv (by decide)
  have ad:w1.heap[w.heap.size]?=some (.cells #[v] 177 (0,0)):=by
   rw[hgrow.block _ (by simp;omega) (fun e=>a8 e.symm),heap_alloc_old W _ a5];exact hv
  have a6:g'≠w.heap.size:=fun e=>by
   subst e;rw[ar] at ad;injection ad with ad
   injection ad with _ ad
   exact absurd ad (by decide)
  have a2:Below w.heap.size W w1:=((ab _ W).mono an |>.alloc an (.cells #[Xu x] 60)).grown hgrow (by simp;omega) (fun k e=>(hrow.lt k e).1);have a7:KeepsFrom W0.heap.size W w1:=((KeepsOthers.alloc W (.cells #[Xu x] 60)).from _).trans (BL (hrow.alloc _) hgrow);obtain⟨d1,e1⟩:=qS ad;have HW:=kq11 ad ar a6 a2 a7 hown a4 a9 ba bb bc;clear ad ar a6 a2 a7 hown a4 a9 ba bb bc hgrow hat a8 a5 an hv hrow hB al hl;gi_wp2_with fail;have a3:=HW.d.setCell (p:=⟨w.heap.size,0,none⟩) (Nat.le_refl w.heap.size) (.slice (some ⟨g',0,none⟩) (m+1) a0);refine⟨HW.e.trans ((KeepsOthers.setCell _ _ _).from _),a3,⟨_,heap_setCell HW.a,?_⟩,HI.c.trans a3⟩;have bk:(ai++[(⟨x,hx⟩:Jf)]).length=m+1:=by have:=HW.f.1;simp[uV,iR] at this⊢;omega
  have bm:uV (iR (ai++[(⟨x,hx⟩:Jf)]))=uV (iR ai)++[Xu x]:=by simp[uV,iR]
  rw[bk,bm];exact⟨HW.f.1,ae ⟨g',a0,bf,rfl,HW.g,(FB HW.c).trans HW.b,HW.out.2.2.2.2.2.2.2⟩⟩
 case done=>
  rintro D ys W hD hS ⟨⟨v,hv,hrow⟩,hB⟩ hK;obtain⟨c1,f1⟩:=qS hv;have au:ys.length=q.length:=by rw[<-hS];simp[iR]
  rw[hS,au] at hrow;have HI:=kq5 hrow hB hv au hS;clear hrow hB hv au hS f1;gi_wp2
  refine⟨by simp,.inl ⟨_,_,rfl,run_takeDeferred hK,?_⟩⟩;refine⟨v,by simp[results,f148,go_sem],v,rfl,?_,HI.b.trans (nN W D _ _ (by omega) hK rfl rfl)⟩;exact wi HI.a (grownBy_putObj' W D _) (fun r e=>by cases e;exact⟨_,hK,rfl⟩)
 case stop=>
  rintro D cd ai W hD b1 hF;exact hF.elim
theorem Eb(h:w.ownsRow B 60 1 v q.length (uV q))(hq:q≠[]):jm w B v q:=by
 rcases h.2 with⟨_,hx⟩ | ⟨g,ad,ai,hv,hb,hg,h1,h2,h3,h4⟩
 ·exact absurd (bZ.1 hx) hq
 ·refine⟨g,ad,hv,hb,fun i hi=>?_⟩;rw[cell_of_block hg];have:(ai.toList.take (q.length*1))[i]?=(uV q)[i]?:=by rw[h4]
  rw[ci (by omega),bF] at this;rw[this]
  simp[uV,List.getElem?_eq_getElem hi]
theorem AA(hN:N<=100000)(eg:∀args w,(callFunc g args).run prog w=.ok (.enter g args) w)
 (hseq:SeqStopsK Fence.wide 6 prog g lb mG (Below w.heap.size) (fun xs=>iR xs=q) (fun _=>True) N w):
 Ct 95 #[.func (.func g) #[] lb] w fun e w'=>∃v,e=.returned v/\w'.ownsRow w.heap.size 60 1 v q.length (uV q)/\Below w.heap.size w w':=by
 have ha:=callsIn_wide.1 (yF hN eg hseq);have HA:=If ha;clear ha hseq eg;go_enter func95,ntmps95;go_wp2_with fail;refine HA.out.mono ?_;rintro e w1 ⟨v,rfl,hr⟩;have HR:=If hr;clear hr;go_wp2_with fail;go_ret;exact⟨_,rfl,HR.out⟩
theorem BD:(prog.info? 5).map (fun i=>(i.zero,i.size,i.bytes))=some (some (.int .u8 0),1,1):=by kernel_rfl
def bV(l:List UInt8)(k:Nat):List Value:=(List.range k).map fun i=>Value.int .u8 (FN l i:Nat)
theorem AC(w:World):(convert 226 9 (.slice none 0 0)).run prog w=.ok (.string ⟨#[]⟩) w:=by kernel_rfl
theorem AB(h:w.ownsRow B 5 1 v l.length (bV l l.length)):(convert 226 9 v).run prog w=.ok (SV l) w:=by
 rcases h.2 with⟨rfl,hx⟩ | ⟨g,ad,ai,rfl,hb,hg,h1,h2,h3,h4⟩
 ·obtain rfl:=bZ.1 hx;exact AC w
 ·refine run_convert_bytes_back (P:=prog) w _ _ 5 ⟨g,0,none⟩ ad l underlying226 underlying5 underlying9 (fun j hj=>?_);have al:(⟨g,0,none⟩:Addr).add j=⟨g,j,none⟩:=by unfold Addr.add;split<;>simp_all
  rw[al,cell_of_block hg];have:(ai.toList.take (l.length*1))[j]?=(bV l l.length)[j]?:=by rw[h4]
  rw[ci (by omega),bF] at this;rw[this]
  simp[bV,FN,List.getD_eq_getElem?_getD,hj]
theorem EP(h:jm w B v (FK l))(hl:l.length<=1000):
 Cb 94 #[v] w (.tuple #[SV l,Xi 0]):=by
 have hm:=fun W=>xD l.length W (by omega);rw[<-te l hl] at hm;have a6:=fun W=>xE l W hl;have an:=pj l;have a3:∃r,FK l=l.length::r:=⟨_,rfl⟩;obtain⟨i0,hi,a8,a9,a'⟩:=info_parts BD;have h':=h;obtain⟨G,c,rfl,hB,hc⟩:=h;obtain⟨n,hn⟩:=Ii l.length;obtain⟨m,al⟩:=Ii (FK l).length;have c0:w.cell? ⟨G,0,none⟩=some (Xu n):=by
  have:=hc 0 (by omega);obtain⟨r,hr⟩:=a3;rw[this]
  simp[hr,hn]
 have a2:∀i,i<n->w.cell? ⟨G,1+i / 8,none⟩=some (Xu (cell l (i / 8) 8:Nat)):=fun i hi=>by
  have h1:=xY l i (by omega);obtain⟨h2,h3⟩:=az.1 h1;rw[hc _ h2,h3]
 rw[al,hn] at hm;rw[al] at an;rw[hn] at an hl;have bc:((m:Int)==0)=false:=by simp;omega
 have bj:(n:Int)<=1000:=by omega
 have bf:m<=200:=by omega
 have bd:(0:Int)<m:=by omega
 have HG:=kq7 hm a6 h' hn al a2 an;rw[al];clear hm a6 h' hn al a2 an hB hc a3;go_enter func94,ntmps94;go_wp2_with fail;refine Jc (HG.a _) ?_;go_wp2_with fail
 go_loopw [4,5,32] (fun v _ i wr=>∃k:Nat,k<=n/\i=Xi k/\wr.ownsRow w.heap.size 5 1 v k (bV l k)/\Below w.heap.size w wr) (fun _ _ i _=>n-(intOf i).toNat)
 case atStart=>exact⟨0,by omega,rfl,⟨rfl,aa ⟨rfl,rfl⟩⟩,ab _ _⟩
 case round=>
  obtain⟨k,hk,rfl,hrow,hB⟩:=hrel
  by_cases hlt:k<n
  ·have bb:(k:Int)<n:=by omega
   have hG:G<w.heap.size:=by
    unfold World.cell? at c0
    split at c0
    ·rename_i ai;exact(gl ai)
    ·cases c0
   have a7:=(hB.cell (p:=⟨G,1+k / 8,none⟩) hG).trans (HG.f k hlt);have ad:=tW l (k / 8) (7-k % 8) (k % 8) (by omega);rw[show 8*(k / 8)+k % 8=k by omega] at ad;obtain⟨q,hq⟩:=Ii (k / 8);obtain⟨r,hr⟩:=Ii (k % 8);obtain⟨s,hs⟩:=Ii (8*(7-r));have bs:r<8:=by omega
   rw[hr,hs] at ad;rw[hq] at a7 ad;have bm:1+q<m:=by have:=HG.g;omega
   have bk:(k:Int) / 8=(q:Int):=by omega
   have bo:(k:Int) % 8=(r:Int):=by omega
   have bt:8*(7-(r:Int))=(s:Int):=by omega
   have hx:=cell_lt l q 8 Ih;generalize cell l q 8=x at*;have HI:=kq3 hrow hB ad;have bu:s<=56:=by omega
   clear hrow hB ad hq hr hs
   go_wp2_with (at_builtin;refine wpList_append_own_at _ rfl _ _ 226 rfl w.heap.size 5 i0 (.int .u8 0) 1 1 underlying226 hi a8 a9 a' rfl (by decide) _ _ _ rfl (HI.a.alloc _) ⟨wr.heap.size,0,none⟩ 1 1 [.int .u8 (FN l k:Nat)] rfl rfl ?c1 ?c2 ?c3 ?c4 ?c5 ?_)
   case c1=>
    rw[show ((x:Int) / 2^s % 256)=((FN l k:Nat):Int) by rw[<-HI.c];push_cast;rfl];exact cell_one_new _ _ _
   case c2=>simp[Value.oneCell']
   case c3=>unfold maxLen;omega
   case c4=>omega
   case c5=>have:=HI.b.size;simp;omega
   intro v' w1 hown hgrow _ hat;have ar:=HI.b.size;have a0:Below w.heap.size wr w1:=((ab _ wr).mono ar |>.alloc ar (.cells #[.int .u8 ((x:Int) / 2^s % 256)] 5)).grown hgrow (by simp;omega) (fun k e=>(HI.a.lt k e).1);have a1:bV l k++[.int .u8 (FN l k:Nat)]=bV l (k+1):=by simp[bV,List.range_succ]
   rw[a1] at hown;have HW:=kq2 hown (HI.b.trans a0);clear hown hgrow hat ar a0 a1;go_wp2_with fail;go_roundw
   case rel=>exact⟨k+1,by omega,by simp,HW.out⟩
   case measure=>simp[intOf];omega
  ·obtain rfl:k=n:=by omega
   have ba:(convert 226 9 u4).run prog wr=.ok (SV l) wr:=AB (by rw[HG.d];exact hrow);have HI:=If hB;clear hrow hB;go_wp2_with fail;refine(HG.b wr).mono ?_;rintro e w2 ⟨v2,rfl,a5,au⟩;have a4:=(HG.c.below HI.out).below au;have ai:=E8 a5 a4 (by rw[HG.e];omega);rw[HG.e] at ai;have HE:=kq2 ai (HI.out.trans (au.mono HI.out.size));clear a5 a4 au ai;go_wp2_with fail;refine HE.a.mono ?_;rintro e w3 ⟨rfl,q,rfl⟩;go_wp2_with fail;go_ret2;exact⟨rfl,HE.b.trans ⟨rfl,rfl,rfl,Nat.le_refl _,fun _ _=>rfl⟩⟩
theorem iz(h:Ig w ps S Y)(hi:Fv S)(hh:Nat)(hl:hh<2^64)(hg:(fz S hh).2≠8):
 Cb 51 #[PV ps,Xu hh] w (.tuple #[SV (fz S hh).1,Xi ((fz S hh).2:Nat)]):=by
 have ad:=fB h hi hh hl;obtain⟨R,hR⟩:=Ii (fz S hh);rw[hR] at hg⊢;unfold fz at hR;obtain⟨⟨n,er⟩,hn⟩:∃r,S.len hh=r:=⟨_,rfl⟩;rw[hn] at ad hR;simp only at ad
 cases er with
 | succ er=>
  have ai:R=([],er+1):=by rw[<-hR];rfl
  have a4:(((er+1:Nat):Int) !=0)=true:=by simp;omega
  obtain⟨g1,au⟩:=Ii (er+1);rw[au] at ad ai a4;have HG:=kq2 ad ai;clear ad hR ai au hg h hi hn;go_enter func51,ntmps51;go_wp2_with fail;refine Jc HG.a ?_;go_wp2_with fail;go_ret2;obtain rfl:=HG.b;exact⟨rfl,ab _ _⟩
 | zero=>
  cases ht:dZ (kM S hh) with
  | none=>
   rw[ht] at hR;exact absurd (by rw[<-hR];rfl) hg
  | some t=>
   have ai:R=(t,0):=by rw[<-hR,ht];rfl
   obtain⟨a3,a2⟩:=EM ht;have HG:=kq6 ad ai h hi a2 a3;clear ad hR ai hg h hi hn ht a2 a3;go_enter func51,ntmps51;go_wp2_with fail;refine Jc HG.a ?_;go_wp2_with fail;refine wx (zB ps hh w) fun w1 hw1=>?_;have hb:Below w.heap.size w w1:=by rw[hw1];exact((ab _ w).alloc Ih _).alloc (by simp) _
   have a5:w1.heap.size=w.heap.size+2:=by rw[hw1];simp
   have k0:w1.cell? ⟨w.heap.size,0,none⟩=some (PV ps):=by
    have:w1.heap[w.heap.size]?=some (.cells #[PV ps] 26 (0,0)):=by rw[hw1,heap_alloc_old _ _ (by simp)];exact heap_alloc_new w _
    rw[cell_of_block this]
    rfl
   have k1:w1.cell? ⟨w.heap.size+1,0,none⟩=some (Xu hh):=by
    have h0:w1.heap[w.heap.size+1]?=some (.cells #[Xu hh] 61 (0,0)):=by
     have:=heap_alloc_new (w.alloc (Xh ps)) (Xf hh);rw[World.size_alloc] at this;rw[hw1];exact this
    rw[cell_of_block h0]
    rfl
   have al:=E9 (HG.c.below hb) HG.d hh hl w.heap.size (w.heap.size+1) ⟨by omega,k0⟩ ⟨by omega,k1⟩;rw[HG.e] at al;have ar:=AA (by omega) (enters_of func149 (by kernel_rfl) rfl) al;have HC:=kq2 ar hb;clear al ar hb a5 k0 k1 hw1;go_wp2_with fail;refine HC.a.mono ?_;rintro e w2 ⟨v,rfl,hrow,an⟩;have a1:=Eb hrow (by unfold FK;simp);have a0:=EP a1 HG.f;have HO:=kq2 a0 (HC.b.trans (an.mono HC.b.size));clear hrow an a1 a0;go_wp2_with fail;refine wx HO.a fun w3 hb3=>?_;have HB:=If (HO.b.trans (hb3.mono HO.b.size));clear hb3;go_wp2_with fail;go_ret2;obtain rfl:=HG.b;exact⟨rfl,HB.out⟩
theorem ud:∀(a b:List UInt8),Fu a b=Lib.compareBytes a b
 | [],[]=>rfl
 | [],_::_=>rfl
 | _::_,[]=>rfl
 | a::l,b::m=>by
  unfold Fu Lib.compareBytes;rw[ud l m]
theorem EA(a b:List UInt8)(w:World):
 Ct 135 #[SV a,SV b] w fun e w'=>e=.returned (Xi (Fu a b))/\w'=w:=by
 have hc:=bytealg_CompareString ⟨a.toArray⟩ ⟨b.toArray⟩ w;rw[ud];have HC:=If hc;clear hc;go_enter func135,ntmps135;go_wp2_with fail;refine Jc HC.out ?_;go_wp2_with fail;go_ret;exact⟨rfl,rfl⟩
theorem sT(a b:List UInt8)(w:World):
 Ct 88 #[SV a,SV b] w fun e w'=>e=.returned (Xi (Fu a b))/\w'=w:=by
 have HC:=If (EA a b w);go_enter func88,ntmps88;go_wp2_with fail;refine Jc HC.out ?_;go_wp2_with fail;go_ret;exact⟨rfl,rfl⟩
end
section
open Go.RowKit Tryz Go.BigFrame Go.Maps Go.WideMaps Lf
variable{S:St}{Y:Nat->Prop}{ps:Nat}{w:World}
def eS(n:Nd):Value:=.agg #[Xu n.key,Xu n.val,Xu n.left,Xu n.right,Xu n.mark,Xu n.size]
structure ji (n:Nd):Prop where
 key:n.key<2^64
 val:n.val<2^64
 left:n.left<2^64
 right:n.right<2^64
 mark:n.mark<2^64
 size:n.size<2^64
theorem qKeab{P:Prop}(h:P:=by
 go_enter func122,ntmps122;go_wp2_with fail;refine Jc HG.a ?_;go_wp2_with fail;go_ret;obtain rfl:=HG.b;exact⟨rfl,rfl⟩):P:=h
theorem oG(h:Ig w ps S Y)(hi:Fv S)(hh:Nat)(hl:hh<2^64):
 Ct 122 #[PV ps,Xu hh] w fun e w'=>e=.returned (Xi (fZ S hh:Nat))/\w=w':=by
 have ai:=fB h hi hh hl;obtain⟨R,hR⟩:=Ii (fZ S hh);rw[hR];unfold fZ at hR;obtain⟨⟨n,er⟩,hn⟩:∃r,S.len hh=r:=⟨_,rfl⟩;rw[hn] at ai hR;simp only at ai
 cases er with
 | succ er=>
  have ad:R=er+1:=by rw[<-hR];rfl
  have an:(((er+1:Nat):Int)==0)=false:=by simp;omega
  obtain⟨g1,al⟩:=Ii (er+1);rw[al] at ai ad an;have HG:=kq2 ai ad;clear ai hR ad al h hi hn;exact qKeab
 | zero=>
  by_cases h6:n=6
  ·have ad:R=0:=by rw[<-hR,h6];rfl
   subst h6;have HG:=kq2 ai ad;clear ai hR ad h hi hn;exact qKeab
  ·have ad:R=8:=by rw[<-hR];show (if n≠6 then 8 else 0)=8;rw[if_pos h6]
   have an:((n:Int) !=6)=true:=by simp;omega
   have HG:=kq2 ai ad;clear ai hR ad h hi hn h6;exact qKeab
theorem Dj(n:Nd)(w:World):
 Cb 216 #[eS n] w (eS n):=by
 obtain⟨k,v,l,r,m,s⟩:=n;unfold eS;simp only;have hb:∀o o',Below w.heap.size w ((w.alloc o).alloc o'):=fun o o'=>((ab _ w).alloc Ih o).alloc (by simp) o';have HB:=If hb;clear hb;go_enter func216,ntmps216;go_wp2_with fail;refine bodyPost_ret (v:=.agg #[Xu k,Xu v,Xu l,Xu r,Xu m,Xu s]) (by simp[results,f216,go_sem]) rfl ⟨rfl,HB.out _ _⟩
def ke(S:St)(hh k:Nat):List Value:=(List.range 6).map fun i=>Xu (if i<k then((S.get hh i).1:Nat) else(0:Nat))
theorem iO(h:Ig w ps S Y)(hi:Fv S)(hh:Nat)(hl:hh<2^64):
 Cb 76 #[PV ps,Xu hh] w (.tuple #[eS (getNode S hh).1,Xi ((getNode S hh).2:Nat)]):=by
 have ai:Below w.heap.size w (w.alloc (.cells #[Xu 0,Xu 0,Xu 0,Xu 0,Xu 0,Xu 0] 139)):=(ab _ w).alloc Ih _;have has:=oG (h.below ai) hi hh hl;have an:=fun W (hW:Below w.heap.size w W) (k:Nat) (hk:k<=6)=>sG (h.below hW) hi hh k hl (by omega);obtain⟨R,hR⟩:=Ii (getNode S hh);rw[hR];unfold getNode at hR;obtain⟨a,ha⟩:=Ii (fZ S hh);rw[ha] at has hR
 cases a with
 | succ a=>
  have ad:R=(Nd.zero,a+1):=by rw[<-hR];rfl
  have a7:(((a+1:Nat):Int) !=0)=true:=by simp;omega
  obtain⟨g1,au⟩:=Ii (a+1);rw[au] at has ad a7;have HG:=kq3 has ad ai;clear has hR ad au h hi ha an ai;go_enter func76,ntmps76;go_wp2_with fail;refine Jc HG.a ?_;go_wp2_with fail;obtain rfl:=HG.b;refine bodyPost_ret (v:=.tuple #[eS Nd.zero,Xi g1]) (by simp[results,f76,go_sem,eS,Nd.zero]) rfl ⟨rfl,(ab _ w).alloc Ih _⟩
 | zero=>
  have ad:R=(⟨(S.get hh 0).1,(S.get hh 1).1,(S.get hh 2).1,(S.get hh 3).1,(S.get hh 4).1,(S.get hh 5).1⟩,0):=by rw[<-hR];rfl
  have HG:=kq4 has ad ai an;clear has hR ad h hi ha an ai;go_enter func76,ntmps76;go_wp2_with fail;refine Jc HG.a ?_;go_wp2_with fail;have hA:∀k,ke S hh k=[Xu (if 0<k then((S.get hh 0).1:Nat) else(0:Nat)),Xu (if 1<k then((S.get hh 1).1:Nat) else(0:Nat)),Xu (if 2<k then((S.get hh 2).1:Nat) else(0:Nat)),Xu (if 3<k then((S.get hh 3).1:Nat) else(0:Nat)),Xu (if 4<k then((S.get hh 4).1:Nat) else(0:Nat)),Xu (if 5<k then((S.get hh 5).1:Nat) else(0:Nat))]:=fun k=>rfl;have a6:∀k,k<6->(ke S hh k).toArray.setIfInBounds k (Xu ((S.get hh k).1:Nat))=(ke S hh (k+1)).toArray:=fun k hk=>by
   apply Array.toList_inj.1;simp only[cT];apply dy (by simp[ke]);intro n h1 h2;simp only[ke,List.getElem_set,bz,dI]
   by_cases e:k=n
   ·subst e
    simp
   ·rw[if_neg e]
    by_cases e2:n<k
    ·rw[if_pos e2,if_pos (by omega)]
    ·rw[if_neg e2,if_neg (by omega)]
  go_name_world W0 HW0
  have q1:W0.heap[w.heap.size+1]?=some (.cells (ke S hh 0).toArray 212 (0,0)):=by
   rw[<-HW0];have:=heap_alloc_new (w.alloc (.cells #[Xu 0,Xu 0,Xu 0,Xu 0,Xu 0,Xu 0] 139)) (.cells #[Xu 0,Xu 0,Xu 0,Xu 0,Xu 0,Xu 0] 212);rw[World.size_alloc] at this;exact this
  have q0:W0.heap[w.heap.size]?=some (.cells #[Xu 0,Xu 0,Xu 0,Xu 0,Xu 0,Xu 0] 139 (0,0)):=by
   rw[<-HW0,heap_alloc_old _ _ (by simp)];exact heap_alloc_new w _
  have qb:Below w.heap.size w W0:=by rw[<-HW0];exact HG.c.alloc (by simp) _
  clear HW0;have H0:=kq5 q1 q0 qb hA a6;clear q1 q0 qb hA a6
  go_loopw [8,16] (fun _ i wr=>∃k:Nat,k<=6/\i=Xi k/\wr.heap[w.heap.size+1]?=some (.cells (ke S hh k).toArray 212 (0,0))/\wr.heap[w.heap.size]?=some (.cells #[Xu 0,Xu 0,Xu 0,Xu 0,Xu 0,Xu 0] 139 (0,0))/\Below w.heap.size w wr) (fun _ i _=>6-(intOf i).toNat)
  case atStart=>exact⟨0,by omega,rfl,H0.a,H0.b,H0.c⟩
  case round=>
   obtain⟨k,hk,rfl,r1,r0,rb⟩:=hrel
   by_cases hlt:k<6
   ·have a8:(k:Int)<6:=by omega
    have al:=HG.d wr rb k hk;have c1:∃v,wr.cell? ⟨w.heap.size+1,k,none⟩=some v:=by
     rw[cell_of_block r1];refine⟨(ke S hh k)[k]'(by simp[ke];omega),?_⟩;rw[cg,af]
    obtain⟨v0,c1⟩:=c1;have f1:wr.frozen? ⟨w.heap.size+1,k,none⟩=false:=AT r1;have ar:=H0.e k hlt;generalize (S.get hh k).1=x at al ar;generalize (S.get hh k).2=er at al;have HK:=kq5 al r1 r0 rb ar;clear al r1 r0 rb ar;go_wp2_with fail;refine Jc HK.a ?_;go_wp2_with fail;go_roundw
    case rel=>
     refine⟨k+1,by omega,by simp,?_,?_,HK.d.setCell (p:=⟨w.heap.size+1,k,none⟩) (by simp) _⟩
     ·rw[heap_setCell HK.b,HK.e]
     ·rw[FB (by omega)];exact HK.c
    case measure=>simp[intOf];omega
   ·obtain rfl:k=6:=by omega
    have hA:=H0.d 6;simp only[show (0:Nat)<6 from by decide,show (1:Nat)<6 from by decide,show (2:Nat)<6 from by decide,show (3:Nat)<6 from by decide,show (4:Nat)<6 from by decide,show (5:Nat)<6 from by decide,if_true] at hA;rw[hA] at r1;have g0:=HG.b;generalize (S.get hh 0).1=x0 at r1 g0;generalize (S.get hh 1).1=x1 at r1 g0;generalize (S.get hh 2).1=x2 at r1 g0;generalize (S.get hh 3).1=x3 at r1 g0;generalize (S.get hh 4).1=x4 at r1 g0;generalize (S.get hh 5).1=x5 at r1 g0;have a0:wr.cell? ⟨w.heap.size+1,0,none⟩=some (Xu x0):=by rw[cell_of_block r1];rfl
    have a1:wr.cell? ⟨w.heap.size+1,1,none⟩=some (Xu x1):=by rw[cell_of_block r1];rfl
    have a2:wr.cell? ⟨w.heap.size+1,2,none⟩=some (Xu x2):=by rw[cell_of_block r1];rfl
    have a3:wr.cell? ⟨w.heap.size+1,3,none⟩=some (Xu x3):=by rw[cell_of_block r1];rfl
    have a4:wr.cell? ⟨w.heap.size+1,4,none⟩=some (Xu x4):=by rw[cell_of_block r1];rfl
    have a5:wr.cell? ⟨w.heap.size+1,5,none⟩=some (Xu x5):=by rw[cell_of_block r1];rfl
    have b0:wr.cell? ⟨w.heap.size,0,none⟩=some (Xu 0):=by rw[cell_of_block r0];rfl
    have b1:wr.cell? ⟨w.heap.size,1,none⟩=some (Xu 0):=by rw[cell_of_block r0];rfl
    have b2:wr.cell? ⟨w.heap.size,2,none⟩=some (Xu 0):=by rw[cell_of_block r0];rfl
    have b3:wr.cell? ⟨w.heap.size,3,none⟩=some (Xu 0):=by rw[cell_of_block r0];rfl
    have b4:wr.cell? ⟨w.heap.size,4,none⟩=some (Xu 0):=by rw[cell_of_block r0];rfl
    have b5:wr.cell? ⟨w.heap.size,5,none⟩=some (Xu 0):=by rw[cell_of_block r0];rfl
    have bf:∀o,wr.frozen? ⟨w.heap.size,o,none⟩=false:=fun o=>AT r0;have f0:=bf 0;have f1:=bf 1;have f2:=bf 2;have f3:=bf 3;have f4:=bf 4;have f5:=bf 5;have HK:=kq4 r1 r0 rb g0;clear r1 r0 rb g0 hA bf;go_wp2_with fail;have hX:((((((wr.setCell ⟨w.heap.size,0,none⟩ (Xu x0)).setCell ⟨w.heap.size,1,none⟩ (Xu x1)).setCell ⟨w.heap.size,2,none⟩ (Xu x2)).setCell ⟨w.heap.size,3,none⟩ (Xu x3)).setCell ⟨w.heap.size,4,none⟩ (Xu x4)).setCell ⟨w.heap.size,5,none⟩ (Xu x5)).heap[w.heap.size]?=some (.cells #[Xu x0,Xu x1,Xu x2,Xu x3,Xu x4,Xu x5] 139 (0,0)):=by
     rw[heap_setCell (heap_setCell (heap_setCell (heap_setCell (heap_setCell (heap_setCell HK.b)))))]
     rfl
    have hY:Below w.heap.size w ((((((wr.setCell ⟨w.heap.size,0,none⟩ (Xu x0)).setCell ⟨w.heap.size,1,none⟩ (Xu x1)).setCell ⟨w.heap.size,2,none⟩ (Xu x2)).setCell ⟨w.heap.size,3,none⟩ (Xu x3)).setCell ⟨w.heap.size,4,none⟩ (Xu x4)).setCell ⟨w.heap.size,5,none⟩ (Xu x5)):=
     (((((HK.c.setCell (p:=⟨w.heap.size,0,none⟩) (Nat.le_refl w.heap.size) _).setCell (p:=⟨w.heap.size,1,none⟩) (Nat.le_refl w.heap.size) _).setCell (p:=⟨w.heap.size,2,none⟩) (Nat.le_refl w.heap.size) _).setCell (p:=⟨w.heap.size,3,none⟩) (Nat.le_refl w.heap.size) _).setCell (p:=⟨w.heap.size,4,none⟩) (Nat.le_refl w.heap.size) _).setCell (p:=⟨w.heap.size,5,none⟩) (Nat.le_refl w.heap.size) _
    generalize ((((((wr.setCell ⟨w.heap.size,0,none⟩ (Xu x0)).setCell ⟨w.heap.size,1,none⟩ (Xu x1)).setCell ⟨w.heap.size,2,none⟩ (Xu x2)).setCell ⟨w.heap.size,3,none⟩ (Xu x3)).setCell ⟨w.heap.size,4,none⟩ (Xu x4)).setCell ⟨w.heap.size,5,none⟩ (Xu x5))=W9 at*;have e0:W9.cell? ⟨w.heap.size,0,none⟩=some (Xu x0):=by rw[cell_of_block hX];rfl
    have e1:W9.cell? ⟨w.heap.size,1,none⟩=some (Xu x1):=by rw[cell_of_block hX];rfl
    have e2:W9.cell? ⟨w.heap.size,2,none⟩=some (Xu x2):=by rw[cell_of_block hX];rfl
    have e3:W9.cell? ⟨w.heap.size,3,none⟩=some (Xu x3):=by rw[cell_of_block hX];rfl
    have e4:W9.cell? ⟨w.heap.size,4,none⟩=some (Xu x4):=by rw[cell_of_block hX];rfl
    have e5:W9.cell? ⟨w.heap.size,5,none⟩=some (Xu x5):=by rw[cell_of_block hX];rfl
    obtain rfl:=HK.d;exact bodyPost_ret (v:=.tuple #[.agg #[Xu x0,Xu x1,Xu x2,Xu x3,Xu x4,Xu x5],Xi 0]) (by simp[results,f76,go_sem,e0,e1,e2,e3,e4,e5]) rfl ⟨rfl,hY⟩
theorem vT(h:Ig w ps S Y)(hi:Fv S)(hh:Nat)(hl:hh<2^64)(ha:fZ S hh≠0):
 Ct 145 #[PV ps,Xu hh] w fun e w'=>e=.returned (Xi (fZ S hh:Nat))/\w=w':=by
 have has:=oG h hi hh hl;generalize fZ S hh=a at*;have ad:((a:Int) !=0)=true:=by simp;omega
 have HG:=If has;clear has ha h hi;go_enter func145,ntmps145;go_wp2_with fail;refine Jc HG.out ?_;go_wp2_with fail;go_ret;exact⟨rfl,rfl⟩
def vR(n:Nd):List Nat:=[n.key,n.val,n.left,n.right,n.mark,n.size]
def jh(ps hh:Nat)(n:Nd)(Y:Nat->Prop)(w2:World)(F:St)(k:Nat)(wr:World):Prop:=∃Sk,Ig wr ps Sk Y/\Fv Sk/\FC Sk hh k ((vR n).drop k)=F/\Fo Y w2 wr
theorem jh.step{ps hh:Nat}{n:Nd}{w2:World}{F:St}{k:Nat}{wr:World}(h:jh ps hh n Y w2 F k wr)(hl:hh<2^64)(x:Nat)(hx:x<2^64)(hk:k<6)(hxk:(vR n)[k]?=some x):
 Ct 167 #[PV ps,Xu hh,Xi k,Xu x] wr fun e w'=>∃er:Int,e=.returned (Xi er)/\jh ps hh n Y w2 F (k+1) w':=by
 obtain⟨Sk,h1,h2,h3,h4⟩:=h;refine(xl h1 h2 hh k x hl (by omega) hx).mono ?_;rintro e w' ⟨rfl,h5,h6⟩;obtain⟨ad,hv⟩:=az.1 hxk;rw[aU ad,hv] at h3;exact⟨_,rfl,_,h5,h2.put hh k x,h3,h4.trans h6⟩
theorem lS(a0 a1 a2 a3 a4 a5:Value)(w:World):
 (Instr.index 212 (.agg #[a0,a1,a2,a3,a4,a5]) (Xi 0)).run prog w=.ok a0 w/\
 (Instr.index 212 (.agg #[a0,a1,a2,a3,a4,a5]) (Xi 1)).run prog w=.ok a1 w/\
 (Instr.index 212 (.agg #[a0,a1,a2,a3,a4,a5]) (Xi 2)).run prog w=.ok a2 w/\
 (Instr.index 212 (.agg #[a0,a1,a2,a3,a4,a5]) (Xi 3)).run prog w=.ok a3 w/\
 (Instr.index 212 (.agg #[a0,a1,a2,a3,a4,a5]) (Xi 4)).run prog w=.ok a4 w/\
 (Instr.index 212 (.agg #[a0,a1,a2,a3,a4,a5]) (Xi 5)).run prog w=.ok a5 w:=by
 refine⟨?_,?_,?_,?_,?_,?_⟩<;>kernel_rfl
theorem rM(h:Ig w ps S Y)(hi:Fv S)(hh:Nat)(hl:hh<2^64)(n:Nd)(hn:ji n):
 Ct 183 #[PV ps,Xu hh,eS n] w fun e w'=>e=.returned (Xi ((gM S hh n).1:Nat))/\Ig w' ps (gM S hh n).2 Y/\Fo Y w w':=by
 have hY:=h.yl;obtain⟨R,hR⟩:=Ii (gM S hh n);rw[hR];unfold gM at hR;have hf:=fun W=>Dj n W;have hP:∀{F:St} {w2:World},True:=trivial;obtain⟨k0,k1,k2,k3,k4,k5⟩:=n;obtain⟨l0,l1,l2,l3,l4,l5⟩:=hn;simp only at l0 l1 l2 l3 l4 l5;unfold eS at hf⊢;simp only at hf⊢;have ai:Below w.heap.size w (w.alloc (Xd k0 k1 k2 k3 k4 k5)):=(ab _ w).alloc Ih _;have has:=oG (h.below ai) hi hh hl;obtain⟨a,ha⟩:=Ii (fZ S hh);rw[ha] at has hR
 cases a with
 | succ a=>
  have ad:R=(a+1,S):=by rw[<-hR];rfl
  have au:(((a+1:Nat):Int) !=0)=true:=by simp;omega
  obtain⟨g1,ar⟩:=Ii (a+1);rw[ar] at has ad au;have HG:=kq4 has ad ai h;clear has hR ad ar h hi ha hf ai hY;go_enter func183,ntmps183;go_wp2_with fail;refine Jc HG.a ?_;go_wp2_with fail;go_ret;obtain rfl:=HG.b;exact⟨rfl,HG.d.below HG.c,HG.d.keep HG.c⟩
 | zero=>
  have ad:R=(0,FC S hh 0 [k0,k1,k2,k3,k4,k5]):=by rw[<-hR];rfl
  have HG:=kq6 has ad ai h hi hf;clear has hR ad h hi ha hf ai hY;go_enter func183,ntmps183;go_wp2_with fail;refine Jc HG.a ?_;go_wp2_with fail;refine wx (HG.f _) fun w2 hb2=>?_;have an:=HG.c.trans (hb2.mono HG.c.size);have H0:jh ps hh ⟨k0,k1,k2,k3,k4,k5⟩ Y w2 R.2 0 w2:=⟨S,HG.d.below an,HG.e,by rw[HG.b];rfl,Fo.refl _ _⟩;have HB:=If an;clear an hb2;go_wp2_with fail
  go_loopw [8,9,18] (fun _ _ i wr=>(i=Xi 0/\jh ps hh ⟨k0,k1,k2,k3,k4,k5⟩ Y w2 R.2 0 wr)\/(i=Xi 1/\jh ps hh ⟨k0,k1,k2,k3,k4,k5⟩ Y w2 R.2 1 wr)\/(i=Xi 2/\jh ps hh ⟨k0,k1,k2,k3,k4,k5⟩ Y w2 R.2 2 wr)\/(i=Xi 3/\jh ps hh ⟨k0,k1,k2,k3,k4,k5⟩ Y w2 R.2 3 wr)\/(i=Xi 4/\jh ps hh ⟨k0,k1,k2,k3,k4,k5⟩ Y w2 R.2 4 wr)\/(i=Xi 5/\jh ps hh ⟨k0,k1,k2,k3,k4,k5⟩ Y w2 R.2 5 wr)\/(i=Xi 6/\jh ps hh ⟨k0,k1,k2,k3,k4,k5⟩ Y w2 R.2 6 wr)) (fun _ _ i _=>6-(intOf i).toNat)
  case atStart=>exact aa ⟨rfl,H0⟩
  case round=>
   rcases hrel with⟨rfl,hP⟩ | ⟨rfl,hP⟩ | ⟨rfl,hP⟩ | ⟨rfl,hP⟩ | ⟨rfl,hP⟩ | ⟨rfl,hP⟩ | ⟨rfl,hP⟩
   ·have HS:=If (hP.step hl k0 l0 (by decide) rfl);have al:=fun w=>(lS (Xu k0) (Xu k1) (Xu k2) (Xu k3) (Xu k4) (Xu k5) w).1;clear hP H0;go_wp2_with fail;refine HS.out.mono ?_;rintro e w3 ⟨er,rfl,hP⟩;go_wp2_with fail;go_roundw
    case rel=>exact ae (aa ⟨rfl,hP⟩)
    case measure=>simp[intOf]
   ·have HS:=If (hP.step hl k1 l1 (by decide) rfl);have al:=fun w=>(lS (Xu k0) (Xu k1) (Xu k2) (Xu k3) (Xu k4) (Xu k5) w).2.1;clear hP H0;go_wp2_with fail;refine HS.out.mono ?_;rintro e w3 ⟨er,rfl,hP⟩;go_wp2_with fail;go_roundw
    case rel=>exact ae (ae (aa ⟨rfl,hP⟩))
    case measure=>simp[intOf]
   ·have HS:=If (hP.step hl k2 l2 (by decide) rfl);have al:=fun w=>(lS (Xu k0) (Xu k1) (Xu k2) (Xu k3) (Xu k4) (Xu k5) w).2.2.1;clear hP H0;go_wp2_with fail;refine HS.out.mono ?_;rintro e w3 ⟨er,rfl,hP⟩;go_wp2_with fail;go_roundw
    case rel=>exact ae (ae (ae (aa ⟨rfl,hP⟩)))
    case measure=>simp[intOf]
   ·have HS:=If (hP.step hl k3 l3 (by decide) rfl);have al:=fun w=>(lS (Xu k0) (Xu k1) (Xu k2) (Xu k3) (Xu k4) (Xu k5) w).2.2.2.1;clear hP H0;go_wp2_with fail;refine HS.out.mono ?_;rintro e w3 ⟨er,rfl,hP⟩;go_wp2_with fail;go_roundw
    case rel=>exact ae (ae (ae (ae (aa ⟨rfl,hP⟩))))
    case measure=>simp[intOf]
   ·have HS:=If (hP.step hl k4 l4 (by decide) rfl);have al:=fun w=>(lS (Xu k0) (Xu k1) (Xu k2) (Xu k3) (Xu k4) (Xu k5) w).2.2.2.2.1;clear hP H0;go_wp2_with fail;refine HS.out.mono ?_;rintro e w3 ⟨er,rfl,hP⟩;go_wp2_with fail;go_roundw
    case rel=>exact ae (ae (ae (ae (ae (aa ⟨rfl,hP⟩)))))
    case measure=>simp[intOf]
   ·have HS:=If (hP.step hl k5 l5 (by decide) rfl);have al:=fun w=>(lS (Xu k0) (Xu k1) (Xu k2) (Xu k3) (Xu k4) (Xu k5) w).2.2.2.2.2;clear hP H0;go_wp2_with fail;refine HS.out.mono ?_;rintro e w3 ⟨er,rfl,hP⟩;go_wp2_with fail;go_roundw
    case rel=>exact ae (ae (ae (ae (ae (ae ⟨rfl,hP⟩)))))
    case measure=>simp[intOf]
   ·have HP:=If hP;clear hP H0;go_wp2_with fail;go_ret;obtain⟨Sk,h1,h2,h3,h4⟩:=HP.out;have e1:R.1=0:=by rw[HG.b]
    have e2:Sk=R.2:=h3;rw[e1,<-e2];exact⟨rfl,h1,(Fo.of_below HB.out HG.d.yl).trans h4⟩
theorem vU(h:Ig w ps S Y)(hm:iw S 6)(n:Nd)(hn:ji n):
 Ct 140 #[PV ps,eS n] w fun e w'=>e=.returned (.tuple #[Xu ((ft S n).1.1:Nat),Xi ((ft S n).1.2:Nat)])/\Ig w' ps (ft S n).2 Y/\Fo Y w w':=by
 have al:=fun W (hW:Below w.heap.size w W)=>sH (h.wide hW) 6 (by omega) hm.1;have a8:=oA h.tabwf 6;have ai:=hm.2;obtain⟨R,hR⟩:=Ii (ft S n);rw[hR];unfold ft at hR;obtain⟨⟨⟨hh,er⟩,S1⟩,hS⟩:∃r,S.make 6=r:=⟨_,rfl⟩;rw[hS] at al a8 ai hR;simp only at al a8 ai;have an:=fun W Z (hW:Ig W ps S1 Z)=>rM hW ai hh a8 n hn;obtain⟨k0,k1,k2,k3,k4,k5⟩:=n;unfold eS at an⊢;simp only at an⊢;have a6:Below w.heap.size w (w.alloc (Xd k0 k1 k2 k3 k4 k5)):=(ab _ w).alloc Ih _;have kx:=heap_alloc_new w (Xd k0 k1 k2 k3 k4 k5);have HG:=kq6 (al _ a6) hR a6 h an kx;clear al hR a6 hm ai hS hn an kx;go_enter func140,ntmps140;go_wp2_with fail;refine HG.a.mono ?_;rintro e w1 ⟨rfl,h1,a9⟩;have hx:w1.heap[w.heap.size]?=some (.cells #[Xu k0,Xu k1,Xu k2,Xu k3,Xu k4,Xu k5] 139 (0,0)):=(a9.block _ (ae ⟨Nat.le_refl _,by simp⟩)).trans HG.f;have a0:w1.cell? ⟨w.heap.size,0,none⟩=some (Xu k0):=by rw[cell_of_block hx];rfl
 have a1:w1.cell? ⟨w.heap.size,1,none⟩=some (Xu k1):=by rw[cell_of_block hx];rfl
 have a2:w1.cell? ⟨w.heap.size,2,none⟩=some (Xu k2):=by rw[cell_of_block hx];rfl
 have a3:w1.cell? ⟨w.heap.size,3,none⟩=some (Xu k3):=by rw[cell_of_block hx];rfl
 have a4:w1.cell? ⟨w.heap.size,4,none⟩=some (Xu k4):=by rw[cell_of_block hx];rfl
 have a5:w1.cell? ⟨w.heap.size,5,none⟩=some (Xu k5):=by rw[cell_of_block hx];rfl
 have au:=h1.mono (Z:=Y) fun k hk=>aa hk;have a':=(Fo.of_below HG.c h.yl).trans (a9.mono (Z:=Y) fun k hk=>aa hk);have H1:=kq3 au a' (HG.e w1 Y au);clear h1 a9 hx au a' h
 cases er with
 | succ er=>
  have ad:R=((0,er+1),S1):=by rw[<-HG.b];rfl
  have bb:(((er+1:Nat):Int) !=0)=true:=by simp;omega
  obtain⟨g1,a7⟩:=Ii (er+1);rw[a7] at ad bb;simp only[a7];have ar:=If ad;clear ad a7;go_wp2_with fail;go_ret2;obtain rfl:=ar.out;exact⟨rfl,H1.a,H1.b⟩
 | zero=>
  have ad:R=((hh,(gM S1 hh ⟨k0,k1,k2,k3,k4,k5⟩).1),(gM S1 hh ⟨k0,k1,k2,k3,k4,k5⟩).2):=by rw[<-HG.b];rfl
  have ar:=If ad;clear ad;go_wp2_with fail;refine H1.c.mono ?_;rintro e w2 ⟨rfl,h2,ba⟩;have H2:=kq2 h2 (H1.b.trans ba);clear h2 ba;go_wp2_with fail;go_ret2;obtain rfl:=ar.out;exact⟨rfl,H2.out⟩
end
section
open Lf
variable{S:St}{h:Nat}{n:Nat}{o:Nat->Nat}{t:List UInt8}
theorem D4(hf:Fw S o){ws:List Nat}(hl:reco S h=some ws):kM S h=ws:=by
 unfold kM;rw[jw hf.tab hl];refine du fun i=>?_
 by_cases hi:i<ws.length
 ·rw[bi,bH hi]
  show some (S.get h i).1=_
  rw[ru hf hl hi,af hi,am,af hi]
  rfl
 ·rw[aH (by simp;omega),aH (by omega)]
theorem jt(hf:Fw S o)(ht:t.length<=1000)(hl:reco S h=some (FK t)):fz S h=(t,0):=by
 unfold fz;rw[jw hf.tab hl];simp only;rw[D4 hf hl,EN t ht]
theorem Cu(h:n<=1000):many n=1+(n+7) / 8/\many n<=126:=by
 have:many n=1+(n+7) / 8:=by unfold many;rw[if_neg (by omega)]
 omega
theorem qh(h1:1<=n)(h2:n<=4000):fa n<=(n+65) / 64:=by
 unfold fa;rw[if_neg (by omega)];split<;>omega
theorem oL(hf:Fw S o)(ht:t.length<=1000)(hr:fc S 3 1):
 ∃h S' o',fx S t=((h,0),S')/\Fw S' o'/\reco S h=none/\reco S' h=some (FK t)/\(∀h',h'≠h->reco S' h'=reco S h')/\ej S S' 3 1/\iw S (many t.length):=by
 obtain⟨m1,m2⟩:=Cu ht;have ad:fa (many t.length+2)<=3:=aK (qh (by omega) (by omega)) (by omega);obtain⟨h,S1,o1,ws,e,ai,hn,al,hl,ho,hg,_⟩:=oz hf (n:=many t.length) (by omega) (hr.mono ad Ih);have an:=rz hf (n:=many t.length) (by omega) (hr.mono ad Ih);obtain⟨q1,q2,q3,q4⟩:=mR ai hl (l:=FK t) (by rw[pj,al,m1]) (xZ t (by omega));refine⟨h,FC S1 h 0 (FK t),o1,?_,q1,hn,q2,fun h' hne=>(q3 h' hne).trans (ho h' hne),(hg.trans q4).mono (by omega) (by omega),an⟩;unfold fx;rw[if_neg (by omega),e];rfl
def eM(n:Nd):List Nat:=[n.key,n.val,n.left,n.right,n.mark,n.size]
theorem pN(hf:Fw S o){n:Nd}(hl:reco S h=some (eM n)):fZ S h=0:=by
 unfold fZ;rw[jw hf.tab hl];simp[eM]
theorem gw(hf:Fw S o){n:Nd}(hl:reco S h=some (eM n)):getNode S h=(n,0):=by
 have g:=fun k hk=>ru hf hl (k:=k) hk;have ad:(eM n).length=6:=rfl;unfold getNode;rw[pN hf hl];simp only;rw[g 0 (by omega),g 1 (by omega),g 2 (by omega),g 3 (by omega),g 4 (by omega),g 5 (by omega)];rfl
theorem Bd(hl:reco S h=none):getNode S h=(Nd.zero,7):=by
 unfold getNode fZ;rw[oy hl];rfl
theorem Co:reco S 0=none:=by
 unfold reco Hs.of;simp
theorem Bc(S:St):getNode S 0=(Nd.zero,7):=Bd Co
theorem vS{n:Nd}(hn:ji n):∀v∈eM n,v<2^64:=by
 intro v hv;have h1:=hn.key;have h2:=hn.val;have h3:=hn.left;have h4:=hn.right;have h5:=hn.mark;have h6:=hn.size;simp only[eM,ag,List.mem_nil_iff,or_false] at hv;rcases hv with rfl | rfl | rfl | rfl | rfl | rfl<;>assumption
theorem ww(hf:Fw S o){n0 n:Nd}(hl:reco S h=some (eM n0))(hn:ji n):
 ∃S',gM S h n=(0,S')/\Fw S' o/\reco S' h=some (eM n)/\(∀h',h'≠h->reco S' h'=reco S h')/\ej S S' 0 0:=by
 obtain⟨q1,q2,q3,q4⟩:=mR hf hl (l:=eM n) rfl (vS hn);refine⟨FC S h 0 (eM n),?_,q1,q2,q3,q4⟩;unfold gM;rw[pN hf hl];rfl
theorem Cq(hf:Fw S o){n:Nd}(hn:ji n)(hr:fc S 1 1):
 ∃h S' o',ft S n=((h,0),S')/\Fw S' o'/\reco S h=none/\reco S' h=some (eM n)/\(∀h',h'≠h->reco S' h'=reco S h')/\ej S S' 1 1/\iw S 6:=by
 have ad:fa (6+2)<=1:=aK (qh (by omega) (by omega)) (by omega);obtain⟨h,S1,o1,ws,e,ai,an,al,hl,ho,hg,_⟩:=oz hf (n:=6) (by omega) (hr.mono ad Ih);have ar:=rz hf (n:=6) (by omega) (hr.mono ad Ih);obtain⟨q1,q2,q3,q4⟩:=mR ai hl (l:=eM n) (by rw[al];rfl) (vS hn);have ha:fZ S1 h=0:=by
  unfold fZ;rw[jw ai.tab hl,al]
  rfl
 refine⟨h,FC S1 h 0 (eM n),o1,?_,q1,an,q2,fun h' hne=>(q3 h' hne).trans (ho h' hne),(hg.trans q4).mono (by omega) (by omega),ar⟩;unfold ft;rw[e];simp only;unfold gM;rw[ha]
 rfl
theorem AH(hf:Fw S o){n:Nd}(hl:reco S h=some (eM n)):
 ∃S',jr S h=(0,S')/\Fw S' o/\reco S' h=none/\(∀h',h'≠h->reco S' h'=reco S h')/\ej S S' 0 0:=by
 obtain⟨S',e,q⟩:=mQ hf hl;refine⟨S',?_,q⟩;unfold jr;rw[pN hf hl];exact e
theorem ux(q n l:Nat)(hq:q<=262144)(hn:1<=n/\n<=65536)(hl:1<=l/\l<4294967296):Fw ⟨⟨q,[]⟩,⟨n,l,[]⟩⟩ id where
 own:=⟨⟨List.Pairwise.nil,by simp,by simp,by simp[Slab.keys],by simp,hq⟩,by simp[Slab.keys],by simp[Slab.keys]⟩
 tab:=⟨hn,hl,by simp,by simp⟩
 live:=by simp
 inj:=by simp
end
section
open Go.RowKit Tryz Go.BigFrame Go.Maps Go.WideMaps Lf
variable{S:St}{Y:Nat->Prop}{b:Nat}{ps:Nat}{w:World}{z:Nat}
theorem fs(h:Ig w ps S Y)(hh:Nat):ji (getNode S hh).1:=by
 have g:=fun k=>uC h hh k;unfold getNode
 split
 ·exact⟨g 0,g 1,g 2,g 3,g 4,g 5⟩
 ·have z:0<2^64:=by decide
  exact⟨z,z,z,z,z,z⟩
theorem num_some{x y:Nat}(h:num x=some y):y=x/\x<2^62:=by
 unfold num at h
 split at h
 ·rename_i hx
  injection h with h;exact⟨h.symm,by omega⟩
 ·cases h
theorem nB(h:Ig w ps S Y):S.words<=262144:=by
 obtain⟨_,_,_,_,_,h⟩:=h;have:=h.heap.wf.room;have:=h.heap.wf.quota;unfold St.words;omega
theorem sX(h:Ig w ps S Y):
 Cb 162 #[PV ps] w (Xi (limit S:Nat)):=by
 have hw:=xo h;have ad:=nB h;unfold limit;generalize S.words=m at*;have HG:=If hw;clear hw h;go_enter func162,ntmps162;go_wp2_with fail;refine wx HG.out fun w1 hb=>?_;have HB:=If hb;clear hb;go_wp2_with fail;go_ret;exact⟨by simp,HB.out⟩
theorem qKeac{P:Prop}(h:P:=by
 clear hb;go_wp2_with fail;go_ret;exact⟨rfl,HB.out⟩):P:=h
theorem EZ(h:Ig w ps S Y)(hi:Fv S)(n:Nd)(hn:n.key<2^64){t:List UInt8}(ht:gD S n.key=some t):
 Cb 314 #[PV ps,eS n] w (SV t):=by
 unfold gD at ht
 split at ht
 ·cases ht
 ·rename_i h8
  injection ht with ht
  obtain⟨k0,k1,k2,k3,k4,k5⟩:=n;simp only at hn ht h8;have ad:Below w.heap.size w (w.alloc (Xd k0 k1 k2 k3 k4 k5)):=(ab _ w).alloc Ih _;have hg:=iz (h.below ad) hi k0 hn h8;rw[ht] at hg;generalize (fz S k0).2=er at*;unfold eS;simp only;have HG:=kq2 hg ad;clear hg ad h hi ht h8;go_enter func314,ntmps314;go_wp2_with fail;refine wx HG.a fun w1 hb=>?_;have HB:=If (HG.b.trans (hb.mono HG.b.size));exact qKeac
theorem qKeak{P:Prop}(h:P:=by
 unfold getNode at he⊢
 split
 ·rename_i e;rw[e] at he;exact absurd rfl he
 ·rfl):P:=h
theorem qKeah{P:Prop}(h:P:=by
 go_wp2_with fail;refine wx HG.out fun w1 hb=>?_;have HB:=If (hb.alloc hb.size (Xd k0 k1 k2 k3 k4 k5));exact qKeac):P:=h
theorem qKeae{P:Prop}(h:P:=by
 go_wp2_with fail;refine wx HG.out fun w1 hb=>?_;have HB:=If (hb.alloc hb.size (.cells #[Xu 0,Xu 0,Xu 0,Xu 0,Xu 0,Xu 0] 139));exact qKeac):P:=h
theorem kP(h:Ig w ps S Y)(hi:Fv S)(hh:Nat)(hl:hh<2^64)(hz:fY S hh=some z):
 Cb 224 #[PV ps,Xu hh] w (Xi z):=by
 have hg:=iO h hi hh hl;unfold fY sj at hz;obtain⟨rfl,al⟩:=num_some hz;clear hz;have ad:(getNode S hh).2≠0->(getNode S hh).1=Nd.zero:=fun he=>by
  exact qKeak
 obtain⟨⟨⟨k0,k1,k2,k3,k4,k5⟩,er⟩,hE⟩:∃r,getNode S hh=r:=⟨_,rfl⟩;rw[hE] at hg al ad⊢;simp only at hg al ad⊢;unfold eS at hg;simp only at hg
 cases er with
 | succ er=>
  have h0:=ad (by omega)
  injection h0 with h0 h1 h2 h3 h4 h5
  subst h0 h1 h2 h3 h4 h5;have an:(((er+1:Nat):Int) !=0)=true:=by simp;omega
  obtain⟨g1,ai⟩:=Ii (er+1);rw[ai] at hg an;have HG:=If hg;clear hg h hi hE ad ai;go_enter func224,ntmps224;exact qKeae
 | zero=>
  have HG:=If hg;clear hg h hi hE ad;go_enter func224,ntmps224;exact qKeah
theorem fJ(h:Ig w ps S Y)(hi:Fv S)(hh:Nat)(hl:hh<2^64)(hz:eE S hh=some z):
 Cb 217 #[PV ps,Xu hh] w (Xi z):=by
 have hg:=iO h hi hh hl;unfold eE mU at hz;obtain⟨rfl,al⟩:=num_some hz;clear hz;have ad:(getNode S hh).2≠0->(getNode S hh).1=Nd.zero:=fun he=>by
  exact qKeak
 obtain⟨⟨⟨k0,k1,k2,k3,k4,k5⟩,er⟩,hE⟩:∃r,getNode S hh=r:=⟨_,rfl⟩;rw[hE] at hg al ad⊢;simp only at hg al ad⊢;unfold eS at hg;simp only at hg
 cases er with
 | succ er=>
  have h0:=ad (by omega)
  injection h0 with h0 h1 h2 h3 h4 h5
  subst h0 h1 h2 h3 h4 h5;have an:(((er+1:Nat):Int) !=0)=true:=by simp;omega
  obtain⟨g1,ai⟩:=Ii (er+1);rw[ai] at hg an;have HG:=If hg;clear hg h hi hE ad ai;go_enter func217,ntmps217;exact qKeae
 | zero=>
  have HG:=If hg;clear hg h hi hE ad;go_enter func217,ntmps217;exact qKeah
theorem qKeag{P:Prop}(h:P:=by
 go_wp2_with fail;go_ret2;obtain rfl:=HE.a;exact⟨rfl,HE.b⟩):P:=h
theorem xT(h:Ig w ps S Y)(hi:Fv S)(root:Nat)(hl:root<2^64)(k:List UInt8){R:Nat×Nat}(hR:ij S k (limit S) root 0=some R):
 Cb 311 #[PV ps,Xu root,SV k] w (.tuple #[Xu R.1,Xi R.2]):=by
 have a4:=sX h;have bk:=nB h;have hL:limit S<=40000:=by unfold limit;omega
 obtain⟨L,a8⟩:=Ii (limit S);rw[a8] at a4 hL hR;have bc:=fun hh=>fs h hh;have HG:=kq5 a4 h hi hR bc;clear a4 h hi hR bk a8 bc;go_enter func311,ntmps311;go_wp2_with fail;refine wx HG.a fun w1 hb1=>?_;have bd:=If hb1;clear hb1;go_wp2_with fail
 go_loopw [1,7,9,10,11,12] (fun r b i _ _ _ wr=>∃f root bb ii:Nat,r=Xu root/\b=Xi bb/\i=Xi ii/\f+ii=L/\root<2^64/\bb<2^62/\Hid (ij S k f root bb=some R/\Below w.heap.size w wr)) (fun _ _ i _ _ _ _=>L-(intOf i).toNat)
 case atStart=>exact⟨L,root,0,0,rfl,rfl,rfl,by omega,hl,by omega,HG.d,bd.out⟩
 case round=>
  obtain⟨f,root,bb,ii,rfl,rfl,rfl,hf,bo,bj,ad⟩:=hrel;have bu:ii<=40000:=by omega
  cases f with
  | zero=>
   have bv:ii=L:=by omega
   have al:R=(0,bb):=by have h9:=ad.out.1;rw[AF] at h9;exact(Option.some.inj h9).symm
   have HE:=kq2 al ad.out.2;clear al ad
   by_cases hr0:root=0
   ·subst hr0;exact qKeag
   ·have hq:((root:Int) !=0)=true:=by simp;omega
    have bt:(L:Int)<=ii:=by omega
    clear hr0;exact qKeag
  | succ f=>
   by_cases hr0:root=0
   ·have al:R=(0,bb):=by have h9:=ad.out.1;rw[n8,if_pos hr0] at h9;exact(Option.some.inj h9).symm
    have HE:=kq2 al ad.out.2;clear al ad;subst hr0;exact qKeag
   ·have hq:((root:Int) !=0)=true:=by simp;omega
    have b0:(ii:Int)<L:=by omega
    have hd:=ad.out.1;rw[n8,if_neg hr0] at hd;have a1:=HG.b.below ad.out.2;have hg:=iO a1 HG.c root bo;have a5:=HG.e root;obtain⟨⟨nd,er⟩,hE⟩:∃r,getNode S root=r:=⟨_,rfl⟩;rw[hE] at hg a5 hd;simp only at hg a5 hd;obtain⟨k0,k1,k2,k3,k4,k5⟩:=nd;obtain⟨n0,n1,n2,n3,n4,n5⟩:=a5;simp only at n0 n1 n2 n3 n4 n5;have an:eS ⟨k0,k1,k2,k3,k4,k5⟩=.agg #[Xu k0,Xu k1,Xu k2,Xu k3,Xu k4,Xu k5]:=rfl;rw[an] at hg
    cases er with
    | succ er=>
     rw[if_pos (by omega)] at hd;have hd:=Option.some.inj hd;have bm:(((er+1:Nat):Int) !=0)=true:=by simp;omega
     obtain⟨g1,a9⟩:=Ii (er+1);rw[a9] at hg bm;have HE:=kq3 hg hd ad.out.2;clear hg hd ad a1 hE hr0 a9 an;go_wp2_with fail;refine wx HE.a fun w2 hb2=>?_;have bf:=If ((HE.c.trans (hb2.mono HE.c.size)).alloc (aK HE.c.size hb2.size) (Xd k0 k1 k2 k3 k4 k5));clear hb2;go_wp2_with fail;go_ret2;obtain rfl:=HE.b;exact⟨rfl,bf.out⟩
    | zero=>
     rw[if_neg (by omega)] at hd
     cases ht:gD S k0 with
     | none=>rw[ht] at hd;cases hd
     | some t=>
      rw[ht] at hd;simp only at hd;have HE:=kq3 hg ad.out.2 ht;clear hg ad a1 hE hr0 ht;go_wp2_with fail;refine wx HE.a fun w2 hb2=>?_;have a0:=(HE.b.trans (hb2.mono HE.b.size)).alloc (aK HE.b.size hb2.size) (Xd k0 k1 k2 k3 k4 k5);have hk:=EZ (HG.b.below a0) HG.c ⟨k0,k1,k2,k3,k4,k5⟩ n0 HE.c;rw[an] at hk;have hx:=heap_alloc_new w2 (Xd k0 k1 k2 k3 k4 k5);have a':w2.heap.size<(w2.alloc (Xd k0 k1 k2 k3 k4 k5)).heap.size:=by simp
      have HK:=kq4 hk a0 hx a';clear hb2 a0 hk hx a' an;go_wp2_with fail;refine wx HK.a fun w3 hb3=>?_;have HC:=If (sT k t w3);have a7:=HK.b.trans (hb3.mono HK.b.size);have a6:=(hb3.block _ HK.d).trans HK.c;have a2:w3.cell? ⟨w2.heap.size,2,none⟩=some (Xu k2):=by rw[cell_of_block a6];rfl
      have a3:w3.cell? ⟨w2.heap.size,3,none⟩=some (Xu k3):=by rw[cell_of_block a6];rfl
      have ai:=If a7;clear hb3 a7 a6;go_wp2_with fail;refine Jc HC.out ?_;generalize Fu k t=c at*
      by_cases hc:c<0
      ·rw[if_pos hc] at hd;have HD:=If hd;clear hd;go_wp2_with fail;go_roundw
       case rel=>exact⟨f,k2,bb,ii+1,rfl,rfl,by simp,by omega,n2,bj,HD.out,ai.out⟩
       case measure=>simp[intOf];omega
      ·rw[if_neg hc] at hd
       cases hz:fY S k2 with
       | none=>rw[hz] at hd;cases hd
       | some z=>
        rw[hz] at hd;simp only at hd;have b1:z<2^62:=by have:=num_some hz;omega
        have ar:=kP (HG.b.below ai.out) HG.c k2 n2 hz
        by_cases hc2:0<c
        ·rw[if_pos hc2] at hd
         cases hn:num (bb+(z+1)) with
         | none=>rw[hn] at hd;cases hd
         | some b2=>
          rw[hn] at hd;simp only at hd;obtain⟨rfl,ba⟩:=num_some hn;have HD:=kq2 hd ar;clear hd ar hn hz;go_wp2_with fail;refine wx HD.b fun w5 hb5=>?_;have bs:w5.cell? ⟨w2.heap.size,3,none⟩=some (Xu k3):=by
           rw[<-a3];refine hb5.cell (p:=⟨w2.heap.size,3,none⟩) ?_;unfold World.cell? at a3
           split at a3
           ·rename_i heq;exact(gl heq)
           ·cases a3
          have au:=If (ai.out.trans (hb5.mono ai.out.size));clear hb5;go_wp2_with fail;go_roundw
          case rel=>exact⟨f,k3,bb+(z+1),ii+1,rfl,by simp,by simp,by omega,n3,ba,HD.a,au.out⟩
          case measure=>simp[intOf];omega
        ·rw[if_neg hc2] at hd;obtain rfl:c=0:=by omega
         cases hn:num (bb+z) with
         | none=>rw[hn] at hd;cases hd
         | some b2=>
          rw[hn] at hd;simp only at hd;obtain⟨rfl,ba⟩:=num_some hn;have hd:=Option.some.inj hd;have HD:=kq2 hd ar;clear hd ar hn hz;go_wp2_with fail;refine wx HD.b fun w5 hb5=>?_;have au:=If (ai.out.trans (hb5.mono ai.out.size));clear hb5;go_wp2_with fail;go_ret2;obtain rfl:=HD.a;exact⟨by simp,au.out⟩
theorem E1(h:Ig w ps S Y)(hi:Fv S)(root:Nat)(hl:root<2^64)(k:List UInt8)(hR:oP S root k=some z):
 Cb 310 #[PV ps,Xu root,SV k] w (Xi z):=by
 unfold oP at hR
 cases hd:ij S k (limit S) root 0 with
 | none=>rw[hd] at hR;cases hR
 | some R=>
  rw[hd] at hR
  injection hR with hR
  have HG:=kq2 (xT h hi root hl k hd) hR;clear h hi hd hR;go_enter func310,ntmps310;go_wp2_with fail;refine wx HG.a fun w1 hb=>?_;have HB:=If hb;clear hb;go_wp2_with fail;go_ret;obtain rfl:=HG.b;exact⟨rfl,HB.out⟩
def gP(n:Nd)(h:Nat):Value:=.agg #[Xu n.key,Xu n.val,Xu n.left,Xu n.right,Xu n.mark,Xu n.size,Xu h]
theorem Ew{W:World}{u0 u1 u2 u3 u4 u5 u6:Value}{t:TypeId}{fr:Nat×Nat}(h:W.heap[b]?=some (.cells #[u0,u1,u2,u3,u4,u5,u6] t fr))(v0 v1 v2 v3 v4 v5 v6:Value):(((((((W.setCell ⟨b,0,none⟩ (v0)).setCell ⟨b,1,none⟩ (v1)).setCell ⟨b,2,none⟩ (v2)).setCell ⟨b,3,none⟩ (v3)).setCell ⟨b,4,none⟩ (v4)).setCell ⟨b,5,none⟩ (v5)).setCell ⟨b,6,none⟩ (v6)).heap[b]?=some (.cells #[v0,v1,v2,v3,v4,v5,v6] t fr):=by
 rw[heap_setCell (heap_setCell (heap_setCell (heap_setCell (heap_setCell (heap_setCell (heap_setCell h))))))];rfl
theorem Ev{w W:World}(h:Below w.heap.size w W)(hb:w.heap.size<=b)(v0 v1 v2 v3 v4 v5 v6:Value):Below w.heap.size w (((((((W.setCell ⟨b,0,none⟩ (v0)).setCell ⟨b,1,none⟩ (v1)).setCell ⟨b,2,none⟩ (v2)).setCell ⟨b,3,none⟩ (v3)).setCell ⟨b,4,none⟩ (v4)).setCell ⟨b,5,none⟩ (v5)).setCell ⟨b,6,none⟩ (v6)):=
 ((((((h.setCell (p:=⟨b,0,none⟩) hb _).setCell (p:=⟨b,1,none⟩) hb _).setCell (p:=⟨b,2,none⟩) hb _).setCell (p:=⟨b,3,none⟩) hb _).setCell (p:=⟨b,4,none⟩) hb _).setCell (p:=⟨b,5,none⟩) hb _).setCell (p:=⟨b,6,none⟩) hb _
theorem gR(h:Ig w ps S Y)(hi:Fv S)(hh:Nat)(hl:hh<2^64):
 Cb 186 #[PV ps,Xu hh] w (gP (getNode S hh).1 hh):=by
 have ad:Below w.heap.size w (w.alloc (.cells #[Xu 0,Xu 0,Xu 0,Xu 0,Xu 0,Xu 0,Xu 0] 280)):=(ab _ w).alloc Ih _;have hg:=iO (h.below ad) hi hh hl;obtain⟨⟨⟨k0,k1,k2,k3,k4,k5⟩,er⟩,hE⟩:∃r,getNode S hh=r:=⟨_,rfl⟩;rw[hE] at hg⊢;unfold eS at hg;unfold gP;simp only at hg⊢;have hx:=heap_alloc_new w (.cells #[Xu 0,Xu 0,Xu 0,Xu 0,Xu 0,Xu 0,Xu 0] 280);have HG:=kq3 hg ad hx;clear hg ad h hi hE hx;go_enter func186,ntmps186;go_wp2_with fail;refine wx HG.a fun w1 hb=>?_;have r0:=(hb.block w.heap.size (by simp)).trans HG.c;obtain⟨b0,b1,b2,b3,b4,b5,b6⟩:=gG r0;obtain⟨f0,f1,f2,f3,f4,f5,f6⟩:=qI r0;have an:w.heap.size<w1.heap.size:=(gl r0);have HB:=kq2 r0 (HG.b.trans (hb.mono HG.b.size));clear r0 hb;go_wp2_with fail;have hX:=Ew HB.a (Xu k0) (Xu k1) (Xu k2) (Xu k3) (Xu k4) (Xu k5) (Xu hh);have hY:=Ev HB.b (Nat.le_refl w.heap.size) (Xu k0) (Xu k1) (Xu k2) (Xu k3) (Xu k4) (Xu k5) (Xu hh);have ar:(((((((w1.setCell ⟨w.heap.size,0,none⟩ (Xu k0)).setCell ⟨w.heap.size,1,none⟩ (Xu k1)).setCell ⟨w.heap.size,2,none⟩ (Xu k2)).setCell ⟨w.heap.size,3,none⟩ (Xu k3)).setCell ⟨w.heap.size,4,none⟩ (Xu k4)).setCell ⟨w.heap.size,5,none⟩ (Xu k5)).setCell ⟨w.heap.size,6,none⟩ (Xu hh)).heap.size=w1.heap.size:=by simp
 generalize (((((((w1.setCell ⟨w.heap.size,0,none⟩ (Xu k0)).setCell ⟨w.heap.size,1,none⟩ (Xu k1)).setCell ⟨w.heap.size,2,none⟩ (Xu k2)).setCell ⟨w.heap.size,3,none⟩ (Xu k3)).setCell ⟨w.heap.size,4,none⟩ (Xu k4)).setCell ⟨w.heap.size,5,none⟩ (Xu k5)).setCell ⟨w.heap.size,6,none⟩ (Xu hh))=W9 at*;have ai:(W9.alloc (Xd k0 k1 k2 k3 k4 k5)).heap[w.heap.size]?=some (.cells #[Xu k0,Xu k1,Xu k2,Xu k3,Xu k4,Xu k5,Xu hh] 280 (0,0)):=by rw[heap_alloc_old _ _ (by omega)];exact hX
 have al:=hY.alloc hY.size (Xd k0 k1 k2 k3 k4 k5);generalize W9.alloc (Xd k0 k1 k2 k3 k4 k5)=W10 at*;obtain⟨e0,e1,e2,e3,e4,e5,e6⟩:=gG ai;exact bodyPost_ret (v:=.agg #[Xu k0,Xu k1,Xu k2,Xu k3,Xu k4,Xu k5,Xu hh]) (by simp[results,f186,go_sem,e0,e1,e2,e3,e4,e5,e6]) rfl ⟨rfl,al⟩
theorem pQ(h:Ig w ps S Y)(hi:Fv S)(hh:Nat)(hl:hh<2^64):
 Cb 184 #[PV ps,Xu hh] w (.bool (isT S hh)):=by
 have hg:=iO h hi hh hl;obtain⟨R,hR⟩:=Ii (isT S hh);rw[hR];unfold isT at hR;obtain⟨⟨⟨k0,k1,k2,k3,k4,k5⟩,er⟩,hE⟩:∃r,getNode S hh=r:=⟨_,rfl⟩;rw[hE] at hg hR;unfold eS at hg;simp only at hg hR;have ad:R=(((hh:Int)==0) || ((er:Int)==0)):=by
  rw[<-hR]
  by_cases a:hh=0<;>by_cases b:er=0<;>simp[a,b]<;>omega
 have HG:=kq2 hg ad;clear hg h hi hE hR ad
 by_cases h0:hh=0
 ·subst h0;go_enter func184,ntmps184;go_wp2_with fail;refine wx HG.a fun w1 hb=>?_;have HB:=If (hb.alloc hb.size (Xd k0 k1 k2 k3 k4 k5));clear hb;go_wp2_with fail;go_ret;obtain rfl:=HG.b;exact⟨by simp,HB.out⟩
 ·have hq:((hh:Int)==0)=false:=by simp;omega
  go_enter func184,ntmps184;go_wp2_with fail;refine wx HG.a fun w1 hb=>?_;have HB:=If (hb.alloc hb.size (Xd k0 k1 k2 k3 k4 k5));clear hb;go_wp2_with fail;go_ret;obtain rfl:=HG.b;exact⟨by simp[hq],HB.out⟩
theorem rT(hi:Fv S)(hh:Nat)(n:Nd):Fv (gM S hh n).2:=by
 unfold gM
 split
 ·exact(rV hh _ S 0 hi).1
 ·exact hi
theorem Ht{S S':St}{n:Nd}{h l r:Nat}(hw:fu S n h l r=some S'):∃a b x y,eE S l=some a/\eE S r=some b/\fY S l=some x/\fY S r=some y/\S'=(gM S h { n with left:=l,right:=r,mark:=max a b+1,size:=x+y+1 }).2:=by
 unfold fu at hw
 split at hw
 ·rename_i a b x y h1 h2 h3 h4;exact⟨a,b,x,y,h1,h2,h3,h4,(Option.some.inj hw).symm⟩
 ·cases hw
theorem gX{S S':St}{n:Nd}{h l r:Nat}(hi:Fv S)(hw:fu S n h l r=some S'):Fv S':=by
 obtain⟨_,_,_,_,_,_,_,_,rfl⟩:=Ht hw;exact rT hi _ _
theorem jG{S S':St}(h:Ig w ps S Y)(hi:Fv S)(n:Nd)(hn:ji n)(hh l r:Nat)(hl:hh<2^64)(hll:l<2^64)(hrl:r<2^64)(hw:fu S n hh l r=some S'):
 Ct 219 #[gP n hh,PV ps,Xu l,Xu r] w fun e w'=>e=.returned (Xu hh)/\Ig w' ps S' Y/\Fo Y w w':=by
 obtain⟨a,b,x,y,h1,h2,h3,h4,rfl⟩:=Ht hw;have ha:a<2^62:=by have:=num_some h1;omega
 have hb:b<2^62:=by have:=num_some h2;omega
 have hx:x<2^62:=by have:=num_some h3;omega
 have hy:y<2^62:=by have:=num_some h4;omega
 obtain⟨m,hm⟩:=Ii (max a b);have a3:m<2^62:=by omega
 have a2:max (a:Int) (b:Int)=(m:Int):=by omega
 rw[hm];obtain⟨k0,k1,k2,k3,k4,k5⟩:=n;obtain⟨n0,n1,n2,n3,n4,n5⟩:=hn;simp only at n0 n1 n2 n3 n4 n5;simp only[gP];have ad:=fun W Z (hW:Ig W ps S Z)=>rM hW hi hh hl ⟨k0,k1,l,r,m+1,x+y+1⟩ ⟨n0,n1,hll,hrl,by simp only;omega,by simp only;omega⟩;have a0:eS ⟨k0,k1,l,r,m+1,x+y+1⟩=.agg #[Xu k0,Xu k1,Xu l,Xu r,Xu ((m:Int)+1),Xu ((x:Int)+y+1)]:=by simp[eS]
 rw[a0] at ad;have q0:=heap_alloc_new w (Xa k0 k1 l r k4 k5 hh);have qb:Below w.heap.size w (w.alloc (Xa k0 k1 l r k4 k5 hh)):=(ab _ w).alloc Ih _;have ai:=fun W (hW:Below w.heap.size w W)=>fJ (h.below hW) hi l hll h1;have al:=fun W (hW:Below w.heap.size w W)=>fJ (h.below hW) hi r hrl h2;have an:=fun W (hW:Below w.heap.size w W)=>kP (h.below hW) hi l hll h3;have ar:=fun W (hW:Below w.heap.size w W)=>kP (h.below hW) hi r hrl h4;have HG:=kq8 ai al an ar ad h q0 qb;clear ai al an ar ad h q0 qb h1 h2 h3 h4 hw hm hi a0;go_enter func219,ntmps219;go_wp2_with fail;refine wx (HG.a _ HG.h) fun w1 hb1=>?_;have r1:=(hb1.block w.heap.size (by simp)).trans HG.g;have H1:=kq2 (HG.h.trans (hb1.mono (by simp))) r1;clear hb1 r1;go_wp2_with fail;refine wx (HG.b _ H1.a) fun w2 hb2=>?_;have r2:=(hb2.block w.heap.size (gl H1.b)).trans H1.b;obtain⟨c0,c1,c2,c3,c4,c5,c6⟩:=gG r2;obtain⟨f0,f1,f2,f3,f4,f5,f6⟩:=qI r2;have H2:=kq2 (H1.a.trans (hb2.mono H1.a.size)) r2;clear hb2 r2;go_wp2_with fail;have r3:(w2.setCell ⟨w.heap.size,4,none⟩ (Xu ((m:Int)+1))).heap[w.heap.size]?=some (.cells #[Xu k0,Xu k1,Xu l,Xu r,Xu ((m:Int)+1),Xu k5,Xu hh] 280 (0,0)):=by rw[heap_setCell H2.b];rfl
 have B3:=H2.a.setCell (p:=⟨w.heap.size,4,none⟩) (Nat.le_refl w.heap.size) (Xu ((m:Int)+1));generalize w2.setCell ⟨w.heap.size,4,none⟩ (Xu ((m:Int)+1))=w3 at*;refine wx (HG.c _ B3) fun w4 hb4=>?_;have H4:=kq2 (B3.trans (hb4.mono B3.size)) ((hb4.block w.heap.size (gl r3)).trans r3);clear hb4 r3 B3 c0 c1 c2 c3 c4 c5 c6 f0 f1 f2 f3 f4 f5 f6;go_wp2_with fail;refine wx (HG.d _ H4.a) fun w5 hb5=>?_;have r5:=(hb5.block w.heap.size (gl H4.b)).trans H4.b;obtain⟨c0,c1,c2,c3,c4,c5,c6⟩:=gG r5;obtain⟨f0,f1,f2,f3,f4,f5,f6⟩:=qI r5;have H5:=kq2 (H4.a.trans (hb5.mono H4.a.size)) r5;clear hb5 r5;go_wp2_with fail;have r6:(w5.setCell ⟨w.heap.size,5,none⟩ (Xu ((x:Int)+y+1))).heap[w.heap.size]?=some (.cells #[Xu k0,Xu k1,Xu l,Xu r,Xu ((m:Int)+1),Xu ((x:Int)+y+1),Xu hh] 280 (0,0)):=by rw[heap_setCell H5.b];rfl
 have B6:=H5.a.setCell (p:=⟨w.heap.size,5,none⟩) (Nat.le_refl w.heap.size) (Xu ((x:Int)+y+1));have au:w.heap.size<(w5.setCell ⟨w.heap.size,5,none⟩ (Xu ((x:Int)+y+1))).heap.size:=(gl r6);refine(HG.e _ _ (HG.f.wide B6)).mono ?_;rintro e w7 ⟨rfl,h7,k7⟩;have r7:=(k7.block w.heap.size (ae ⟨Nat.le_refl _,au⟩)).trans r6;have a1:w7.cell? ⟨w.heap.size,6,none⟩=some (Xu hh):=by rw[cell_of_block r7];rfl
 have H7:=kq2 (h7.mono (Z:=Y) fun k hk=>aa hk) ((Fo.of_below B6 HG.f.yl).trans (k7.mono fun k hk=>aa hk));clear h7 k7 r7 r6 B6 au c0 c1 c2 c3 c4 c5 c6 f0 f1 f2 f3 f4 f5 f6;go_wp2_with fail;go_ret;exact⟨rfl,H7.out⟩
end
section
open Lf
def Lf.leftM(S:St)(h:Nat):Option (Nat×St):=
 match fu S (getNode S h).1 h (getNode S h).1.left (getNode S (getNode S h).1.right).1.left with
 | none=>none
 | some S1=>(fu S1 (getNode S (getNode S h).1.right).1 (getNode S h).1.right h (getNode S (getNode S h).1.right).1.right).map fun S2=>((getNode S h).1.right,S2)
def Lf.rightM(S:St)(h:Nat):Option (Nat×St):=
 match fu S (getNode S h).1 h (getNode S (getNode S h).1.left).1.right (getNode S h).1.right with
 | none=>none
 | some S1=>(fu S1 (getNode S (getNode S h).1.left).1 (getNode S h).1.left (getNode S (getNode S h).1.left).1.left h).map fun S2=>((getNode S h).1.left,S2)
def Lf.balM(S:St)(h:Nat):Option (Nat×St):=
 match eE S (getNode S h).1.left,eE S (getNode S h).1.right with
 | some a,some b=>
  if b+1<a then
   match eE S (getNode S (getNode S h).1.left).1.left,eE S (getNode S (getNode S h).1.left).1.right with
   | some c,some d=>
    if c<d then
     match leftM S (getNode S h).1.left with
     | none=>none
     | some (x,S1)=>match fu S1 (getNode S h).1 h x (getNode S h).1.right with
      | none=>none
      | some S2=>rightM S2 h
    else rightM S h
   | _,_=>none
  else if a+1<b then
   match eE S (getNode S (getNode S h).1.right).1.left,eE S (getNode S (getNode S h).1.right).1.right with
   | some c,some d=>
    if d<c then
     match rightM S (getNode S h).1.right with
     | none=>none
     | some (x,S1)=>match fu S1 (getNode S h).1 h (getNode S h).1.left x with
      | none=>none
      | some S2=>leftM S2 h
    else leftM S h
   | _,_=>none
  else some (h,S)
 | _,_=>none
def Lf.chk(o:Option (Nat×St)):Option (Nat×St):=
 match o with
 | none=>none
 | some (x,S)=>if x<2^64 then some (x,S) else none
theorem lM {o:Option (Nat×St)}{x:Nat}{S:St}(h:chk o=some (x,S)):o=some (x,S)/\x<2^64:=by
 unfold chk at h
 split at h
 ·cases h
 ·split at h
  ·rename_i hc
   injection h with h
   injection h with e1 e2
   subst e1 e2;exact⟨rfl,hc⟩
  ·cases h
theorem nU {x:Nat}{S:St}(h:x<2^64):chk (some (x,S))=some (x,S):=by
 unfold chk;simp only;rw[if_pos h]
def Lf.joinB(n:Nd)(m:Nat):Nat->St->Nat->Nat->Option (Nat×St)
 | 0,S,l,r=>(fu S n m l r).map fun S'=>(m,S')
 | f+1,S,l,r=>
  match eE S l,eE S r with
  | some a,some b=>
   if b+1<a then
    match joinB n m f S (getNode S l).1.right r with
    | none=>none
    | some (x,S1)=>
     match fu S1 (getNode S l).1 l (getNode S l).1.left x with
     | none=>none
     | some S2=>chk (balM S2 l)
   else if a+1<b then
    match joinB n m f S l (getNode S r).1.left with
    | none=>none
    | some (x,S1)=>
     match fu S1 (getNode S r).1 r x (getNode S r).1.right with
     | none=>none
     | some S2=>chk (balM S2 r)
   else(fu S n m l r).map fun S'=>(m,S')
  | _,_=>none
theorem qY(n:Nd)(m:Nat)(S:St)(l r:Nat):joinB n m 0 S l r=(fu S n m l r).map fun S'=>(m,S'):=rfl
theorem qX(n:Nd)(m f:Nat)(S:St)(l r:Nat):joinB n m (f+1) S l r=
 match eE S l,eE S r with
 | some a,some b=>
  if b+1<a then
   match joinB n m f S (getNode S l).1.right r with
   | none=>none
   | some (x,S1)=>
    match fu S1 (getNode S l).1 l (getNode S l).1.left x with
    | none=>none
    | some S2=>chk (balM S2 l)
  else if a+1<b then
   match joinB n m f S l (getNode S r).1.left with
   | none=>none
   | some (x,S1)=>
    match fu S1 (getNode S r).1 r x (getNode S r).1.right with
    | none=>none
    | some S2=>chk (balM S2 r)
  else(fu S n m l r).map fun S'=>(m,S')
 | _,_=>none:=rfl
def Lf.avlJ(S:St)(l m r:Nat):Option ((Nat×Nat)×St):=
 if m=0\/isT S l=false\/isT S m=false\/isT S r=false then none
 else(joinB (getNode S m).1 m 100 S l r).map fun x=>((x.1,0),x.2)
structure It where
 h:Nat
 kh:Nat
 vh:Nat
 k:List UInt8
 v:List UInt8
inductive Tr where
 | nil:Tr
 | node (l:Tr) (d:It) (m:Nat) (r:Tr):Tr
namespace Tr
variable{S:St}{o:Nat->Nat}
def root:Tr->Nat
 | nil=>0
 | node _ d _ _=>d.h
def mark:Tr->Nat
 | nil=>0
 | node _ _ m _=>m
def its:Tr->List It
 | nil=>[]
 | node l d _ r=>l.its++d::r.its
def hs(t:Tr):List Nat:=t.its.map (·.h)
def nd(l:Tr)(d:It)(m:Nat)(r:Tr):Nd:=⟨d.kh,d.vh,l.root,r.root,m,(node l d m r).its.length⟩
def At(S:St):Tr->Prop
 | nil=>True
 | node l d m r=>reco S d.h=some (eM (nd l d m r))/\At S l/\At S r
def mk(l:Tr)(d:It)(r:Tr):Tr:=node l d (max l.mark r.mark+1) r
theorem el(l:Tr)(d:It)(r:Tr):(mk l d r).its=l.its++d::r.its:=rfl
theorem eY(l:Tr)(d:It)(m:Nat)(r:Tr):(node l d m r).hs=l.hs++d.h::r.hs:=by
 show (l.its++d::r.its).map (·.h)=_
 simp[hs]
theorem At.frame {S S':St}:∀{t:Tr},At S t->(∀h∈t.hs,reco S' h=reco S h)->At S' t
 | nil,_,_=>trivial
 | node l d m r,⟨h1,h2,h3⟩,hf=>by
  rw[eY] at hf;refine⟨(hf d.h (by simp)).trans h1,h2.frame fun h hm=>hf h (by simp[hm]),h3.frame fun h hm=>hf h (by simp[hm])⟩
theorem At.getNode(hf:Fw S o){l:Tr}{d:It}{m:Nat}{r:Tr}(h:At S (node l d m r)):Lf.getNode S d.h=(nd l d m r,0):=gw hf h.1
theorem At.root_lt(hf:Fw S o):∀{t:Tr},At S t->t.root<2^64
 | nil,_=>by unfold root;decide
 | node _ _ _ _,h=>(fL hf h.1).2.1
theorem At.mark_eq(hf:Fw S o):∀{t:Tr},At S t->mU S t.root=t.mark/\sj S t.root=t.its.length
 | nil,_=>by
  show (Lf.getNode S 0).1.mark=0/\(Lf.getNode S 0).1.size=0
  rw[Bc];exact⟨rfl,rfl⟩
 | node l d m r,h=>by
  show (Lf.getNode S d.h).1.mark=m/\(Lf.getNode S d.h).1.size=_
  rw[h.getNode hf];exact⟨rfl,rfl⟩
theorem At.isT {S:St}{o:Nat->Nat}(hf:Fw S o):∀{t:Tr},At S t->Lf.isT S t.root=true
 | nil,_=>rfl
 | node l d m r,h=>by
  show Lf.isT S d.h=true
  unfold Lf.isT;rw[h.getNode hf];simp
theorem oI{x:Nat}(h:x<2^62):num x=some x:=by
 unfold num;rw[Nat.div_eq_of_lt h]
theorem At.height(hf:Fw S o){t:Tr}(h:At S t)(hm:t.mark<1000000):eE S t.root=some t.mark:=by
 unfold eE;rw[(h.mark_eq hf).1];exact oI (by omega)
theorem At.size(hf:Fw S o){t:Tr}(h:At S t)(hm:t.its.length<1000000):fY S t.root=some t.its.length:=by
 unfold fY;rw[(h.mark_eq hf).2];exact oI (by omega)
theorem jZ(hf:Fw S o){l r:Tr}{d:It}{n n0:Nd}(hl:At S l)(hr:At S r)(hd:reco S d.h=some (eM n0))(hk0:n0.key=d.kh)(hv0:n0.val=d.vh)(hk:n.key=d.kh)(hv:n.val=d.vh)
 (hnl:d.h∉l.hs) (hnr:d.h∉r.hs) (ml:l.mark<100000) (mr:r.mark<100000) (cl:l.its.length<100000) (cr:r.its.length<100000):
 ∃S',fu S n d.h l.root r.root=some S'/\Fw S' o/\At S' (mk l d r)/\(∀h',h'≠d.h->reco S' h'=reco S h')/\ej S S' 0 0:=by
 have hw:=(fL hf hd).2.2.2;have ai:d.kh<2^64:=by rw[<-hk0];exact hw _ (by simp[eM])
 have ar:d.vh<2^64:=by rw[<-hv0];exact hw _ (by simp[eM])
 have an:ji (nd l d (max l.mark r.mark+1) r):=by
  have:(node l d (max l.mark r.mark+1) r).its.length=l.its.length+(r.its.length+1):=by simp[its]
  refine⟨ai,ar,hl.root_lt hf,hr.root_lt hf,?_,?_⟩
  ·show max l.mark r.mark+1<_;omega
  ·show (node l d (max l.mark r.mark+1) r).its.length<_;omega
 obtain⟨S',e,ad,al,ho,hg⟩:=ww hf hd an;refine⟨S',?_,ad,?_,ho,hg⟩
 ·unfold fu;rw[hl.height hf (by omega),hr.height hf (by omega),hl.size hf (by omega),hr.size hf (by omega)];simp only;have:({ n with left:=l.root,right:=r.root,mark:=max l.mark r.mark+1,size:=l.its.length+r.its.length+1 }:Nd)=nd l d (max l.mark r.mark+1) r:=by
   unfold nd;rw[hk,hv];simp[its]
   omega
  rw[this,e]
 ·exact⟨al,hl.frame fun h hm=>ho h fun e=>hnl (e▸hm),hr.frame fun h hm=>ho h fun e=>hnr (e▸hm)⟩
def Sm(t:Tr):Prop:=t.mark<50000/\t.its.length<10000
theorem qKeai{P:Prop}(h:P:=by
 rw[g1];simp only[nd,root];rw[g2];simp only[nd,root] at e1 e2⊢;rw[e1];simp only[mk] at e2⊢;rw[e2]
 rfl):P:=h
theorem rq(hf:Fw S o){l a b:Tr}{d e:It}{m m':Nat}(h:At S (node l d m (node a e m' b)))(hd:(node l d m (node a e m' b)).hs.Nodup)(sl:Sm l)(sa:Sm a)(sb:Sm b):
 ∃S',leftM S d.h=some (e.h,S')/\Fw S' o/\At S' (mk (mk l d a) e b)/\(∀h',h'≠d.h->h'≠e.h->reco S' h'=reco S h')/\ej S S' 0 0:=by
 obtain⟨h1,h2,h3⟩:=h;have g1:=gw hf h1;have g2:=gw hf h3.1;simp only[eY,av,aE,aj,ag,not_or] at hd;obtain⟨a6,⟨ad,a7,ar,au⟩,ai⟩:=hd;have nl:d.h∉l.hs:=fun hm=>ai _ hm _ (aa rfl) rfl;have na:d.h∉a.hs:=ad.1;have al:d.h≠e.h:=ad.2.1;have a0:d.h∉b.hs:=ad.2.2;have a5:e.h∉l.hs:=fun hm=>ai _ hm _ (ae (ae (aa rfl))) rfl;have a3:e.h∉a.hs:=fun hm=>au _ hm _ (aa rfl) rfl;have a4:e.h∉b.hs:=ar.1;obtain⟨S1,e1,f1,a1,o1,w1⟩:=jZ hf (n:=nd l d m (node a e m' b)) h2 h3.2.1 h1 rfl rfl rfl rfl nl na (by have:=sl.1;omega) (by have:=sa.1;omega) (by have:=sl.2;omega) (by have:=sa.2;omega);have an:At S1 b:=h3.2.2.frame fun h hm=>o1 h fun e=>a0 (e▸hm);obtain⟨S2,e2,f2,a2,o2,w2⟩:=jZ f1 (n:=nd a e m' b) (d:=e) a1 an ((o1 _ fun e=>al e.symm).trans h3.1) rfl rfl rfl rfl
  (by rw[show (mk l d a).hs=l.hs++d.h::a.hs from eY ..];simp only[aj,ag,not_or];exact⟨a5,fun e=>al e.symm,a3⟩) a4
  (by show max l.mark a.mark+1<_;have:=sl.1;have:=sa.1;omega) (by have:=sb.1;omega) (by rw[el];simp;have:=sl.2;have:=sa.2;omega) (by have:=sb.2;omega)
 refine⟨S2,?_,f2,a2,fun h' q1 q2=>(o2 h' q2).trans (o1 h' q1),w1.trans w2⟩;unfold leftM;exact qKeai
theorem sf(hf:Fw S o){a b r:Tr}{d e:It}{m m':Nat}(h:At S (node (node a e m' b) d m r))(hd:(node (node a e m' b) d m r).hs.Nodup)(sa:Sm a)(sb:Sm b)(sr:Sm r):
 ∃S',rightM S d.h=some (e.h,S')/\Fw S' o/\At S' (mk a e (mk b d r))/\(∀h',h'≠d.h->h'≠e.h->reco S' h'=reco S h')/\ej S S' 0 0:=by
 obtain⟨h1,h2,h3⟩:=h;have g1:=gw hf h1;have g2:=gw hf h2.1;simp only[eY,av,aE,aj,ag] at hd;obtain⟨⟨a5,⟨an,a6⟩,ar⟩,⟨au,a7⟩,ad⟩:=hd;have nr:d.h∉r.hs:=au;have nb:d.h∉b.hs:=fun hm=>ad _ (ae (ae hm)) _ (aa rfl) rfl;have na:d.h∉a.hs:=fun hm=>ad _ (aa hm) _ (aa rfl) rfl;have ai:d.h≠e.h:=fun hm=>ad _ (ae (aa hm)) _ (aa rfl) rfl;have a0:e.h∉a.hs:=fun hm=>ar _ hm _ (aa rfl) rfl;have a3:e.h∉b.hs:=an;have a4:e.h∉r.hs:=fun hm=>ad _ (ae (aa rfl)) _ (ae hm) rfl;obtain⟨S1,e1,f1,a1,o1,w1⟩:=jZ hf (n:=nd (node a e m' b) d m r) (d:=d) h2.2.2 h3 h1 rfl rfl rfl rfl nb nr (by have:=sb.1;omega) (by have:=sr.1;omega) (by have:=sb.2;omega) (by have:=sr.2;omega);have al:At S1 a:=h2.2.1.frame fun h hm=>o1 h fun e=>na (e▸hm);obtain⟨S2,e2,f2,a2,o2,w2⟩:=jZ f1 (n:=nd a e m' b) (d:=e) al a1 ((o1 _ fun e=>ai e.symm).trans h2.1) rfl rfl rfl rfl a0
  (by rw[show (mk b d r).hs=b.hs++d.h::r.hs from eY ..];simp only[aj,ag,not_or];exact⟨a3,fun e=>ai e.symm,a4⟩)
  (by have:=sa.1;omega) (by show max b.mark r.mark+1<_;have:=sb.1;have:=sr.1;omega) (by have:=sa.2;omega) (by rw[el];simp;have:=sb.2;have:=sr.2;omega)
 refine⟨S2,?_,f2,a2,fun h' q1 q2=>(o2 h' q2).trans (o1 h' q1),w1.trans w2⟩;unfold rightM;exact qKeai
def eZ:Tr->Prop
 | nil=>True
 | node l _ m r=>eZ l/\eZ r/\m=max l.mark r.mark+1/\l.mark<=r.mark+1/\r.mark<=l.mark+1
theorem eZ.mark_le:∀{t:Tr},eZ t->t.mark<=t.its.length
 | nil,_=>Nat.le_refl _
 | node l d m r,⟨h1,h2,h3,_,_⟩=>by
  have:=h1.mark_le;have:=h2.mark_le;show m<=(l.its++d::r.its).length
  simp only[aD,ak];omega
theorem eZ.sm{t:Tr}(h:eZ t)(hl:t.its.length<10000):Sm t:=⟨by have:=h.mark_le;omega,hl⟩
theorem eZ.mk{l r:Tr}(d:It)(hl:eZ l)(hr:eZ r)(h1:l.mark<=r.mark+1)(h2:r.mark<=l.mark+1):eZ (Tr.mk l d r):=⟨hl,hr,rfl,h1,h2⟩
theorem ey(l:Tr)(d:It)(r:Tr):(mk l d r).mark=max l.mark r.mark+1:=rfl
theorem eZ.pos {t:Tr}(h:eZ t)(hm:0<t.mark):∃l d r,t=Tr.mk l d r/\eZ l/\eZ r/\l.mark<=r.mark+1/\r.mark<=l.mark+1:=by
 cases t with
 | nil=>exact absurd hm (by simp[mark])
 | node l d m r=>
  obtain⟨h1,h2,h3,h4,h5⟩:=h;exact⟨l,d,r,by unfold Tr.mk;rw[h3],h1,h2,h4,h5⟩
structure lF (S S':St) (o:Nat->Nat) (hs:List Nat) (t:Tr):Prop where
 fit:Fw S' o
 at':At S' t
 other:∀h',h'∉hs->reco S' h'=reco S h'
 grew:ej S S' 0 0
theorem qKeaj{P:Prop}(h:P:=by
 rw[show (mk a e b).root=e.h from rfl,g2];simp only[nd];rw[k3,k4];simp only;rw[if_neg c2,e1]
 rfl):P:=h
theorem qKeaf{P:Prop}(h:P:=by
 ·intro z1 z2;simp only[ey] at z1 z2;omega):P:=h
theorem qKead{P:Prop}(h:P:=by
 intro y hy;have y1:y≠d.h:=fun e=>hy (e▸a5);have y2:y≠e.h:=fun e=>hy (e▸a6);have y3:y≠x.h:=fun e=>hy (e▸bj);exact(o3 y y1 y3).trans ((o2 y y1).trans (o1 y y2 y3))):P:=h
theorem tJ(hf:Fw S o){l r:Tr}{d:It}(h:At S (mk l d r))(hd:(mk l d r).hs.Nodup)(bl:eZ l)(br:eZ r)(hc:(mk l d r).its.length<10000)(q1:l.mark<=r.mark+2)(q2:r.mark<=l.mark+2):
 ∃t S',balM S d.h=some (t.root,S')/\lF S S' o (mk l d r).hs t/\eZ t/\t.its=(mk l d r).its/\t.mark<=max l.mark r.mark+1/\max l.mark r.mark<=t.mark/\(l.mark<=r.mark+1->r.mark<=l.mark+1->t.mark=max l.mark r.mark+1):=by
 have ai:l.its.length<10000/\r.its.length<10000:=by rw[el] at hc;simp at hc;omega
 have sl:=bl.sm ai.1;have sr:=br.sm ai.2;have g1:=gw hf h.1;have k1:=h.2.1.height hf (by have:=sl.1;omega);have k2:=h.2.2.height hf (by have:=sr.1;omega)
 by_cases c1:r.mark+1<l.mark
 ·obtain⟨a,e,b,rfl,ba,bb,a8,a9⟩:=bl.pos (by omega);rw[ey] at c1 q1 q2;have al:a.its.length<10000/\b.its.length<10000:=by rw[el] at ai;simp at ai;omega
  have sa:=ba.sm al.1;have sb:=bb.sm al.2;have hl:=h.2.1;have g2:=gw hf hl.1;have k3:=hl.2.1.height hf (by have:=sa.1;omega);have k4:=hl.2.2.height hf (by have:=sb.1;omega);have a5:d.h∈(mk (mk a e b) d r).hs:=by rw[show (mk (mk a e b) d r).hs=(mk a e b).hs++d.h::r.hs from eY ..];simp
  have a6:e.h∈(mk (mk a e b) d r).hs:=by rw[show (mk (mk a e b) d r).hs=(mk a e b).hs++d.h::r.hs from eY ..,show (mk a e b).hs=a.hs++e.h::b.hs from eY ..];simp
  by_cases c2:a.mark<b.mark
  ·obtain⟨b1,x,b2,rfl,an,ar,bv,b0⟩:=bb.pos (by omega);rw[ey] at c1 c2 a8 a9 q1 q2;have au:b1.its.length<10000/\b2.its.length<10000:=by have:=al.2;rw[el] at this;simp at this;omega
   have s1:=an.sm au.1;have s2:=ar.sm au.2;have bj:x.h∈(mk (mk a e (mk b1 x b2)) d r).hs:=by
    rw[show (mk (mk a e (mk b1 x b2)) d r).hs=(mk a e (mk b1 x b2)).hs++d.h::r.hs from eY ..,show (mk a e (mk b1 x b2)).hs=a.hs++e.h::(mk b1 x b2).hs from eY ..,show (mk b1 x b2).hs=b1.hs++x.h::b2.hs from eY ..]
    simp
   have ca:(mk a e (mk b1 x b2)).hs.Nodup:=by
    have:=hd;rw[show (mk (mk a e (mk b1 x b2)) d r).hs=(mk a e (mk b1 x b2)).hs++d.h::r.hs from eY ..] at this;exact(av.1 this).1
   obtain⟨S1,e1,f1,a1,o1,w1⟩:=rq hf hl ca sa s1 s2;have bm:d.h∉(mk a e (mk b1 x b2)).hs:=by
    have:=hd;rw[show (mk (mk a e (mk b1 x b2)) d r).hs=(mk a e (mk b1 x b2)).hs++d.h::r.hs from eY ..] at this;exact fun hm=>(av.1 this).2.2 _ hm _ (aq ..) rfl
   have a0:(mk (mk a e b1) x b2).hs=(mk a e (mk b1 x b2)).hs:=by unfold hs;simp[el]
   have b9:d.h∉r.hs:=by
    have:=hd;rw[show (mk (mk a e (mk b1 x b2)) d r).hs=(mk a e (mk b1 x b2)).hs++d.h::r.hs from eY ..] at this;exact(aE.1 (av.1 this).2.1).1
   have bu:∀y,y∈(mk a e (mk b1 x b2)).hs->y≠d.h:=fun y hy e=>bm (e▸hy);have a4:e.h∈(mk a e (mk b1 x b2)).hs:=by rw[show (mk a e (mk b1 x b2)).hs=a.hs++e.h::(mk b1 x b2).hs from eY ..];simp
   have a7:x.h∈(mk a e (mk b1 x b2)).hs:=by rw[show (mk a e (mk b1 x b2)).hs=a.hs++e.h::(mk b1 x b2).hs from eY ..,show (mk b1 x b2).hs=b1.hs++x.h::b2.hs from eY ..];simp
   have bs:∀y∈r.hs,y∉(mk a e (mk b1 x b2)).hs:=by
    have:=hd;rw[show (mk (mk a e (mk b1 x b2)) d r).hs=(mk a e (mk b1 x b2)).hs++d.h::r.hs from eY ..] at this;exact fun y hy hm=>(av.1 this).2.2 _ hm _ (ah _ hy) rfl
   have cb:At S1 r:=h.2.2.frame fun y hy=>o1 y (fun e=>bs y hy (e▸a4)) (fun e=>bs y hy (e▸a7));obtain⟨S2,e2,f2,a2,o2,w2⟩:=jZ f1 (n:=nd (mk a e (mk b1 x b2)) d (max (mk a e (mk b1 x b2)).mark r.mark+1) r) (d:=d) a1 cb ((o1 _ (fun e=>bu _ a4 e.symm) (fun e=>bu _ a7 e.symm)).trans h.1) rfl rfl rfl rfl
    (by rw[a0];exact bm) b9 (by rw[ey,ey];have:=sa.1;have:=s1.1;have:=s2.1;omega) (by have:=sr.1;omega)
    (by have:(mk (mk a e b1) x b2).its.length=(mk a e (mk b1 x b2)).its.length:=(by simp[el]);omega) (by omega)
   have bc:Sm (mk a e b1):=⟨by rw[ey];have:=(ba.mark_le);have:=an.mark_le;omega,by have:=ai.1;simp[el] at this⊢;omega⟩;have a':(mk (mk (mk a e b1) x b2) d r).hs.Nodup:=by
    rw[show (mk (mk (mk a e b1) x b2) d r).hs=(mk (mk a e b1) x b2).hs++d.h::r.hs from eY ..,a0,<-show (mk (mk a e (mk b1 x b2)) d r).hs=(mk a e (mk b1 x b2)).hs++d.h::r.hs from eY ..];exact hd
   obtain⟨S3,e3,f3,a3,o3,w3⟩:=sf f2 a2 a' bc s2 sr;refine⟨mk (mk a e b1) x (mk b2 d r),S3,?_,⟨f3,a3,?_,(w1.trans w2).trans w3⟩,?_,?_,?_,?_,?_⟩
   ·unfold balM;rw[g1];simp only[nd];rw[k1,k2];simp only;rw[if_pos (by rw[ey,ey];omega)];rw[show (mk a e (mk b1 x b2)).root=e.h from rfl,g2];simp only[nd];rw[k3,k4];simp only;rw[if_pos (by rw[ey];omega),e1];simp only;have ad:=e2;rw[show (mk (mk a e b1) x b2).root=x.h from rfl] at ad;simp only[nd] at ad;rw[show (mk a e (mk b1 x b2)).root=e.h from rfl] at ad;rw[ad];exact e3
   ·exact qKead
   ·refine eZ.mk _ (eZ.mk _ ba an ?_ ?_) (eZ.mk _ ar br ?_ ?_) ?_ ?_<;>(try simp only[ey])<;>omega
   ·simp[el]
   ·simp only[ey];omega
   ·simp only[ey];omega
   exact qKeaf
  ·obtain⟨S1,e1,f1,a1,o1,w1⟩:=sf hf h hd sa sb sr;refine⟨mk a e (mk b d r),S1,?_,⟨f1,a1,fun y hy=>o1 y (fun e=>hy (e▸a5)) (fun e=>hy (e▸a6)),w1⟩,?_,?_,?_,?_,?_⟩
   ·unfold balM;rw[g1];simp only[nd];rw[k1,k2];simp only;rw[if_pos (by rw[ey];omega)];exact qKeaj
   ·refine eZ.mk _ ba (eZ.mk _ bb br ?_ ?_) ?_ ?_<;>(try simp only[ey])<;>omega
   ·simp[el]
   ·simp only[ey];omega
   ·simp only[ey];omega
   exact qKeaf
 ·by_cases c1':l.mark+1<r.mark
  ·obtain⟨a,e,b,rfl,ba,bb,a8,a9⟩:=br.pos (by omega);rw[ey] at c1 c1' q1 q2;have al:a.its.length<10000/\b.its.length<10000:=by rw[el] at ai;simp at ai;omega
   have sa:=ba.sm al.1;have sb:=bb.sm al.2;have hr:=h.2.2;have g2:=gw hf hr.1;have k3:=hr.2.1.height hf (by have:=sa.1;omega);have k4:=hr.2.2.height hf (by have:=sb.1;omega);have a5:d.h∈(mk l d (mk a e b)).hs:=by rw[show (mk l d (mk a e b)).hs=l.hs++d.h::(mk a e b).hs from eY ..];simp
   have a6:e.h∈(mk l d (mk a e b)).hs:=by rw[show (mk l d (mk a e b)).hs=l.hs++d.h::(mk a e b).hs from eY ..,show (mk a e b).hs=a.hs++e.h::b.hs from eY ..];simp
   by_cases c2:b.mark<a.mark
   ·obtain⟨b1,x,b2,rfl,an,ar,bv,b0⟩:=ba.pos (by omega);rw[ey] at c1 c1' c2 a8 a9 q1 q2;have au:b1.its.length<10000/\b2.its.length<10000:=by have:=al.1;rw[el] at this;simp at this;omega
    have s1:=an.sm au.1;have s2:=ar.sm au.2;have bd:(mk l d (mk (mk b1 x b2) e b)).hs=l.hs++d.h::(mk (mk b1 x b2) e b).hs:=eY ..;have bf:(mk (mk b1 x b2) e b).hs=(mk b1 x b2).hs++e.h::b.hs:=eY ..;have bt:(mk b1 x b2).hs=b1.hs++x.h::b2.hs:=eY ..;have bk:=hd;rw[bd] at bk;obtain⟨n1,n2,n3⟩:=av.1 bk;obtain⟨n4,n5⟩:=aE.1 n2;have bj:x.h∈(mk l d (mk (mk b1 x b2) e b)).hs:=by rw[bd,bf,bt];simp
    have a4:e.h∈(mk (mk b1 x b2) e b).hs:=by rw[bf];simp
    have a7:x.h∈(mk (mk b1 x b2) e b).hs:=by rw[bf,bt];simp
    obtain⟨S1,e1,f1,a1,o1,w1⟩:=sf hf hr n5 s1 s2 sb;have a0:(mk b1 x (mk b2 e b)).hs=(mk (mk b1 x b2) e b).hs:=by unfold hs;simp[el]
    have b4:d.h∉l.hs:=fun hm=>n3 _ hm _ (aq ..) rfl;have bo:∀y∈l.hs,y∉(mk (mk b1 x b2) e b).hs:=fun y hy hm=>n3 _ hy _ (ah _ hm) rfl;have b':At S1 l:=h.2.1.frame fun y hy=>o1 y (fun e=>bo y hy (e▸a4)) (fun e=>bo y hy (e▸a7));obtain⟨S2,e2,f2,a2,o2,w2⟩:=jZ f1 (n:=nd l d (max l.mark (mk (mk b1 x b2) e b).mark+1) (mk (mk b1 x b2) e b)) (d:=d) b' a1 ((o1 d.h (fun q=>n4 (q.symm▸a4)) (fun q=>n4 (q.symm▸a7))).trans h.1) rfl rfl rfl rfl
     b4 (by rw[a0];exact n4) (by have:=sl.1;omega) (by rw[ey,ey];have:=sb.1;have:=s1.1;have:=s2.1;omega) (by omega)
     (by have:(mk b1 x (mk b2 e b)).its.length=(mk (mk b1 x b2) e b).its.length:=(by simp[el]);omega)
    have bc:Sm (mk b2 e b):=⟨by rw[ey];have:=ar.mark_le;have:=bb.mark_le;omega,by have:=ai.2;simp[el] at this⊢;omega⟩;have a':(mk l d (mk b1 x (mk b2 e b))).hs.Nodup:=by
     rw[show (mk l d (mk b1 x (mk b2 e b))).hs=l.hs++d.h::(mk b1 x (mk b2 e b)).hs from eY ..,a0,<-bd];exact hd
    obtain⟨S3,e3,f3,a3,o3,w3⟩:=rq f2 a2 a' sl s1 bc;refine⟨mk (mk l d b1) x (mk b2 e b),S3,?_,⟨f3,a3,?_,(w1.trans w2).trans w3⟩,?_,?_,?_,?_,?_⟩
    ·unfold balM;rw[g1];simp only[nd];rw[k1,k2];simp only;rw[if_neg (by rw[ey,ey];omega),if_pos (by rw[ey,ey];omega)];rw[show (mk (mk b1 x b2) e b).root=e.h from rfl,g2];simp only[nd];rw[k3,k4];simp only;rw[if_pos (by rw[ey];omega),e1];simp only;have ad:=e2;rw[show (mk b1 x (mk b2 e b)).root=x.h from rfl] at ad;simp only[nd] at ad;rw[show (mk (mk b1 x b2) e b).root=e.h from rfl] at ad;rw[ad];exact e3
    ·exact qKead
    ·refine eZ.mk _ (eZ.mk _ bl an ?_ ?_) (eZ.mk _ ar bb ?_ ?_) ?_ ?_<;>(try simp only[ey])<;>omega
    ·simp[el]
    ·simp only[ey];omega
    ·simp only[ey];omega
    exact qKeaf
   ·obtain⟨S1,e1,f1,a1,o1,w1⟩:=rq hf h hd sl sa sb;refine⟨mk (mk l d a) e b,S1,?_,⟨f1,a1,fun y hy=>o1 y (fun e=>hy (e▸a5)) (fun e=>hy (e▸a6)),w1⟩,?_,?_,?_,?_,?_⟩
    ·unfold balM;rw[g1];simp only[nd];rw[k1,k2];simp only;rw[if_neg (by rw[ey];omega),if_pos (by rw[ey];omega)];exact qKeaj
    ·refine eZ.mk _ (eZ.mk _ bl ba ?_ ?_) bb ?_ ?_<;>(try simp only[ey])<;>omega
    ·simp[el]
    ·simp only[ey];omega
    ·simp only[ey];omega
    exact qKeaf
  ·refine⟨mk l d r,S,?_,⟨hf,h,fun _ _=>rfl,ej.refl S⟩,eZ.mk _ bl br (by omega) (by omega),rfl,by rw[ey];exact Nat.le_refl _,by rw[ey];omega,fun _ _=>rfl⟩;unfold balM;rw[g1];simp only[nd];rw[k1,k2];simp only;rw[if_neg c1,if_neg c1']
   rfl
end Tr
end
section
open Go.RowKit Tryz Go.BigFrame Go.Maps Go.WideMaps Lf
variable{S:St}{W:World}{Y:Nat->Prop}{b:Nat}{fr:Nat×Nat}{kind:Nat}{ps:Nat}{t:TypeId}{w:World}
def eL(f:FuncId):Value:=.func (.func f) #[] #[]
def j6(kind:Nat)(j c:FuncId):Prop:=∀W,Cb 208 #[Xi kind] W (.tuple #[.agg #[eL j,eL c],.bool true])
def gS(ps:Nat)(j c:FuncId):Value:=.agg #[PV ps,eL j,eL c]
theorem ew{u0 u1:Value}(h:W.heap[b]?=some (.cells #[u0,u1] t fr))(v0 v1:Value):((W.setCell ⟨b,0,none⟩ (v0)).setCell ⟨b,1,none⟩ (v1)).heap[b]?=some (.cells #[v0,v1] t fr):=by
 rw[heap_setCell (heap_setCell h)];rfl
theorem eT{w W:World}(h:Below w.heap.size w W)(hb:w.heap.size<=b)(v0 v1:Value):Below w.heap.size w ((W.setCell ⟨b,0,none⟩ (v0)).setCell ⟨b,1,none⟩ (v1)):=
 (h.setCell (p:=⟨b,0,none⟩) hb _).setCell (p:=⟨b,1,none⟩) hb _
theorem xf{u0 u1 u2:Value}(h:W.heap[b]?=some (.cells #[u0,u1,u2] t fr))(v0 v1 v2:Value):(((W.setCell ⟨b,0,none⟩ (v0)).setCell ⟨b,1,none⟩ (v1)).setCell ⟨b,2,none⟩ (v2)).heap[b]?=some (.cells #[v0,v1,v2] t fr):=by
 rw[heap_setCell (heap_setCell (heap_setCell h))];rfl
theorem xe{w W:World}(h:Below w.heap.size w W)(hb:w.heap.size<=b)(v0 v1 v2:Value):Below w.heap.size w (((W.setCell ⟨b,0,none⟩ (v0)).setCell ⟨b,1,none⟩ (v1)).setCell ⟨b,2,none⟩ (v2)):=
 ((h.setCell (p:=⟨b,0,none⟩) hb _).setCell (p:=⟨b,1,none⟩) hb _).setCell (p:=⟨b,2,none⟩) hb _
theorem E2:j6 1 141 234:=by
 intro W;simp only[eL];go_enter func208,ntmps208;go_wp2_with fail;exact bodyPost_ret (v:=.tuple #[.agg #[.func (.func 141) #[] #[],.func (.func 234) #[] #[]],.bool true]) (by simp[results,f208,go_sem]) rfl ⟨rfl,(ab _ _).alloc Ih _⟩
theorem qKeaa{P:Prop}(h:P:=by
 obtain⟨c0,c1,c2⟩:=fq r2;obtain⟨f0,f1,f2⟩:=uA r2;obtain⟨d0,d1⟩:=Fp q2;have HX:=kq2 r2 B2;clear r2 B2 q2;go_wp2_with fail;have q3:=xf HX.a (PV ps) (.func (.func j) #[] #[]) (.func (.func c) #[] #[]);have B3:=xe HX.b (Nat.le_refl w.heap.size) (PV ps) (.func (.func j) #[] #[]) (.func (.func c) #[] #[]);generalize (((wr.setCell ⟨w.heap.size,0,none⟩ (PV ps)).setCell ⟨w.heap.size,1,none⟩ (.func (.func j) #[] #[])).setCell ⟨w.heap.size,2,none⟩ (.func (.func c) #[] #[]))=W3 at*;obtain⟨e0,e1,e2⟩:=fq q3;exact bodyPost_ret (v:=.tuple #[.agg #[PV ps,.func (.func j) #[] #[],.func (.func c) #[] #[]],Xi 0]) (by simp[results,f176,go_sem,e0,e1,e2]) rfl ⟨rfl,B3⟩):P:=h
theorem yG(h:Ig w ps S Y)(hi:Fv S){j c:FuncId}(hk:j6 kind j c):
 Cb 176 #[PV ps,Xi kind,.string ⟨#[]⟩,.slice none 0 0] w (.tuple #[gS ps j c,Xi 0]):=by
 have q0:=heap_alloc_new w (.cells #[.pointer none,.nilFunc,.nilFunc] 265);have B0:=(ab w.heap.size w).alloc Ih (.cells #[.pointer none,.nilFunc,.nilFunc] 265);have ai:=fB (h.below B0) hi 0 (by omega);rw[fU] at ai;simp only[gS,j6,eL] at hk⊢;have HG:=kq4 ai hk q0 B0;clear ai hk h hi q0 B0;go_enter func176,ntmps176;go_wp2_with fail;refine Jc HG.a ?_;go_wp2_with fail;refine wx (HG.b _) fun w2 hb2=>?_;have ad:=hb2.alloc hb2.size (.cells #[.func (.func j) #[] #[],.func (.func c) #[] #[]] 263);have r2:=(ad.block w.heap.size (by simp)).trans HG.c;have q2:=heap_alloc_new w2 (.cells #[.func (.func j) #[] #[],.func (.func c) #[] #[]] 263);have B2:=HG.d.trans (ad.mono HG.d.size);go_wp2_with fail;generalize w2.alloc (.cells #[.func (.func j) #[] #[],.func (.func c) #[] #[]] 263)=W at*;generalize w2.heap.size=bt at*;have HR:=kq3 r2 B2 q2;clear r2 B2 hb2 ad q2
 go_loopw [15,16,17,40] (fun _ _ _ i wr=>i=Xi 0/\wr=W) (fun _ _ _ _ _=>0)
 case atStart=>exact⟨rfl,rfl⟩
 case round=>
  obtain⟨rfl,rfl⟩:=hrel;obtain⟨r2,B2,q2⟩:=HR.out;exact qKeaa
theorem yH(h:Ig w ps S Y)(hi:Fv S){j c:FuncId}(hk:j6 kind j c)(a b:Nat)(ha:a<2^64)(hb:b<2^64)(hta:isT S a=true)(htb:isT S b=true)(rb:Nat)(hr:w.heap[rb]?=some (.cells #[Xu a,Xu b] t fr)):
 Cb 176 #[PV ps,Xi kind,.string ⟨#[]⟩,.slice (some ⟨rb,0,none⟩) 2 2] w (.tuple #[gS ps j c,Xi 0]):=by
 have q0:=heap_alloc_new w (.cells #[.pointer none,.nilFunc,.nilFunc] 265);have B0:=(ab w.heap.size w).alloc Ih (.cells #[.pointer none,.nilFunc,.nilFunc] 265);have a6:=fB (h.below B0) hi 0 (by omega);rw[fU] at a6;have an:=fun W (hW:Below w.heap.size w W)=>iO (h.below hW) hi a ha;have ar:=fun W (hW:Below w.heap.size w W)=>iO (h.below hW) hi b hb;have ai:∀er:Nat,(getNode S a).2=er->(((a:Int) !=0) && ((er:Int) !=0))=false:=fun er he=>by
  unfold isT at hta;simp only[he,Bool.or_eq_true,decide_eq_true_eq] at hta
  rcases hta with e | e<;>simp[e]
 have al:∀er:Nat,(getNode S b).2=er->(((b:Int) !=0) && ((er:Int) !=0))=false:=fun er he=>by
  unfold isT at htb;simp only[he,Bool.or_eq_true,decide_eq_true_eq] at htb
  rcases htb with e | e<;>simp[e]
 obtain⟨⟨⟨a0,a1,a2,a3,a4,a5⟩,ea⟩,a7⟩:∃q,getNode S a=q:=⟨_,rfl⟩;obtain⟨⟨⟨b0,b1,b2,b3,b4,b5⟩,eb⟩,a8⟩:∃q,getNode S b=q:=⟨_,rfl⟩;rw[a7] at an ai;rw[a8] at ar al;have ai:=ai ea rfl;have al:=al eb rfl;simp only[gS,j6,eL,eS] at hk an ar⊢;have HG:=kq7 a6 hk q0 B0 an ar hr;clear a6 hk h hi q0 B0 an ar hta htb a7 a8 hr;have HZ:=kq2 ai al;clear ai al;go_enter func176,ntmps176;go_wp2_with fail;refine Jc HG.a ?_;go_wp2_with fail;refine wx (HG.b _) fun w2 hb2=>?_;have au:=hb2.alloc hb2.size (.cells #[.func (.func j) #[] #[],.func (.func c) #[] #[]] 263);have r2:=(au.block w.heap.size (by simp)).trans HG.c;have q2:=heap_alloc_new w2 (.cells #[.func (.func j) #[] #[],.func (.func c) #[] #[]] 263);have B2:=HG.d.trans (au.mono HG.d.size);have a9:w.heap.size<w2.heap.size:=by have:=hb2.size;simp at this;omega
 go_wp2_with fail;generalize w2.alloc (.cells #[.func (.func j) #[] #[],.func (.func c) #[] #[]] 263)=W at*;generalize w2.heap.size=bt at*;have HR:=kq4 r2 B2 q2 a9;clear r2 B2 hb2 au q2 a9
 go_loopw [15,16,17,40] (fun _ _ _ i wr=>(i=Xi 0/\Below W.heap.size W wr)\/(i=Xi 1/\Below W.heap.size W wr)\/(i=Xi 2/\Below W.heap.size W wr)) (fun _ _ _ i _=>2-(intOf i).toNat)
 case atStart=>exact aa ⟨rfl,ab _ _⟩
 case round=>
  obtain⟨rfl,hW⟩ | ⟨rfl,hW⟩ | ⟨rfl,hW⟩:=hrel
  ·have ad:=((HR.b.trans (hW.mono HR.b.size)).block rb (gl HG.g)).trans HG.g;obtain⟨c0,c1⟩:=Fp ad;have HW:=If hW;clear hW ad;go_wp2_with fail;refine wx (HG.e _ (HR.b.trans (HW.out.mono HR.b.size))) fun w5 hb5=>?_;have H5:=If ((HW.out.trans (hb5.mono HW.out.size)).alloc (HW.out.trans (hb5.mono HW.out.size)).size (Xd a0 a1 a2 a3 a4 a5));clear hb5;have hz:=HZ.a;go_wp2_with fail
   all_goals exact⟨ae (aa ⟨rfl,H5.out⟩),by simp[intOf]⟩
  ·have ad:=((HR.b.trans (hW.mono HR.b.size)).block rb (gl HG.g)).trans HG.g;obtain⟨c0,c1⟩:=Fp ad;have HW:=If hW;clear hW ad;go_wp2_with fail;refine wx (HG.f _ (HR.b.trans (HW.out.mono HR.b.size))) fun w5 hb5=>?_;have H5:=If ((HW.out.trans (hb5.mono HW.out.size)).alloc (HW.out.trans (hb5.mono HW.out.size)).size (Xd b0 b1 b2 b3 b4 b5));clear hb5;have hz:=HZ.b;go_wp2_with fail
   all_goals exact⟨ae (ae ⟨rfl,H5.out⟩),by simp[intOf]⟩
  ·obtain⟨r2,B2,q2,-⟩:=HR.out
   replace B2:=B2.trans (hW.mono B2.size)
   replace r2:=(hW.block _ (gl r2)).trans r2
   replace q2:=(hW.block _ (gl q2)).trans q2
   exact qKeaa
theorem xj{u0 u1 u2 u3 u4 u5:Value}(h:W.heap[b]?=some (.cells #[u0,u1,u2,u3,u4,u5] t fr))(v0 v1 v2 v3 v4 v5:Value):((((((W.setCell ⟨b,0,none⟩ (v0)).setCell ⟨b,1,none⟩ (v1)).setCell ⟨b,2,none⟩ (v2)).setCell ⟨b,3,none⟩ (v3)).setCell ⟨b,4,none⟩ (v4)).setCell ⟨b,5,none⟩ (v5)).heap[b]?=some (.cells #[v0,v1,v2,v3,v4,v5] t fr):=by
 rw[heap_setCell (heap_setCell (heap_setCell (heap_setCell (heap_setCell (heap_setCell h)))))];rfl
theorem xh{w W:World}(h:Below w.heap.size w W)(hb:w.heap.size<=b)(v0 v1 v2 v3 v4 v5:Value):Below w.heap.size w ((((((W.setCell ⟨b,0,none⟩ (v0)).setCell ⟨b,1,none⟩ (v1)).setCell ⟨b,2,none⟩ (v2)).setCell ⟨b,3,none⟩ (v3)).setCell ⟨b,4,none⟩ (v4)).setCell ⟨b,5,none⟩ (v5)):=
 (((((h.setCell (p:=⟨b,0,none⟩) hb _).setCell (p:=⟨b,1,none⟩) hb _).setCell (p:=⟨b,2,none⟩) hb _).setCell (p:=⟨b,3,none⟩) hb _).setCell (p:=⟨b,4,none⟩) hb _).setCell (p:=⟨b,5,none⟩) hb _
structure mz (j:FuncId) (jn:Jn):Prop where
 enter:∀(args:Array Value) (w:World),(callFunc j args).run prog w=.ok (.enter j args) w
 inv:∀{S S':St} {l m r:Nat} {R:Nat×Nat},Fv S->jn S l m r=some (R,S')->Fv S'
 lt:∀{S S':St} {l m r:Nat} {R:Nat×Nat},Fv S->l<2^64->m<2^64->r<2^64->jn S l m r=some (R,S')->R.1<2^64
 ok:∀{S S':St} {l m r:Nat} {R:Nat×Nat},jn S l m r=some (R,S')->R.2=0
 call:∀{w:World} {ps:Nat} {S S':St} {Y:Nat->Prop} {l m r:Nat} {R:Nat×Nat},Ig w ps S Y->Fv S->l<2^64->m<2^64->r<2^64->jn S l m r=some (R,S')->
  Ct j #[PV ps,Xu l,Xu m,Xu r] w fun e w'=>e=.returned (.tuple #[Xu R.1,Xi R.2])/\Ig w' ps S' Y/\Fo Y w w'
theorem nW{j:FuncId}{jn:Jn}(hj:mz j jn){S S':St}{l m r x:Nat}(h:jq jn S l m r=some (x,S')):jn S l m r=some ((x,0),S'):=by
 unfold jq at h;obtain⟨⟨⟨a,b⟩,S1⟩,h1,h2⟩:=aC.1 h;have:=hj.ok h1;simp only at this;subst this;simp only[if_true] at h2
 injection h2 with e1 e2
 rw[h1,e1,e2]
theorem qn{S S':St}(h:Ig w ps S Y)(hi:Fv S){j c:FuncId}{jn:Jn}(hj:mz j jn)(l m r:Nat)(hl:l<2^64)(hm:m<2^64)(hr:r<2^64){x:Nat}(hx:jq jn S l m r=some (x,S')):
 Ct 313 #[gS ps j c,Xu l,Xu m,Xu r] w fun e w'=>e=.returned (Xu x)/\Ig w' ps S' Y/\Fo Y w w':=by
 have h1:=nW hj hx;have q0:=heap_alloc_new w (.cells #[PV ps,eL j,eL c] 265);have B0:=(ab w.heap.size w).alloc Ih (.cells #[PV ps,eL j,eL c] 265);have hc:=hj.call (h.below B0) hi hl hm hr h1;simp only[gS,eL] at q0 B0 hc⊢;have ad:=hj.enter;have HG:=kq4 hc B0 q0 h;clear hc q0 B0 h hi hj hx h1;go_enter func313,ntmps313;go_wp2_with fail;refine HG.a.mono ?_;rintro e w1 ⟨rfl,h1,k1⟩;have H1:=kq2 h1 ((Fo.of_below HG.b HG.d.yl).trans k1);clear h1 k1;go_wp2_with fail;go_ret;exact⟨rfl,H1.out⟩
theorem AD(h:Ig w ps S Y)(hi:Fv S){j c:FuncId}(hh:Nat)(hl:hh<2^64){t:List UInt8}(ht:gD S (getNode S hh).1.key=some t):
 Cb 315 #[gS ps j c,Xu hh] w (.tuple #[SV t,eS (getNode S hh).1]):=by
 have ai:=fs h hh;have hg:=fun W (hW:Below w.heap.size w W)=>iO (h.below hW) hi hh hl;obtain⟨⟨⟨k0,k1,k2,k3,k4,k5⟩,er⟩,hE⟩:∃q,getNode S hh=q:=⟨_,rfl⟩;rw[hE] at hg ai ht⊢;unfold gD at ht
 split at ht
 ·cases ht
 rename_i h8;have ht:=Option.some.inj ht;have hb:=fun W (hW:Below w.heap.size w W)=>iz (h.below hW) hi k0 ai.key h8;simp only at hb ht;rw[ht] at hb;generalize (fz S k0).2=eb at*;have q0:=heap_alloc_new w (.cells #[PV ps,eL j,eL c] 265);have B1:=(ab w.heap.size w).alloc Ih (.cells #[PV ps,eL j,eL c] 265);have Bz:=(ab (w.alloc (.cells #[PV ps,eL j,eL c] 265)).heap.size (w.alloc (.cells #[PV ps,eL j,eL c] 265))).alloc Ih (.cells #[Xu 0,Xu 0,Xu 0,Xu 0,Xu 0,Xu 0] 139);have q1:=(Bz.block w.heap.size (by simp)).trans q0;have z1:=heap_alloc_new (w.alloc (.cells #[PV ps,eL j,eL c] 265)) (.cells #[Xu 0,Xu 0,Xu 0,Xu 0,Xu 0,Xu 0] 139);have B0:=B1.trans (Bz.mono B1.size);simp only[World.size_alloc] at z1;simp only[gS,eL,eS] at B0 hg q1 z1⊢;have HG:=kq5 hg hb B0 q1 z1;clear hg hb B0 h hi ai hE ht h8 q0 q1 B1 Bz z1;go_enter func315,ntmps315;go_wp2_with fail;refine wx (HG.a _ HG.c) fun w1 hb1=>?_;have ad:=hb1.alloc hb1.size (Xd k0 k1 k2 k3 k4 k5);have q2:=heap_alloc_new w1 (Xd k0 k1 k2 k3 k4 k5);have r2:=(ad.block w.heap.size (by simp;omega)).trans HG.d;have z2:=(ad.block (w.heap.size+1) (by simp)).trans HG.e;obtain⟨c0,c1,c2⟩:=fq r2;have H2:=kq3 (HG.c.trans (ad.mono HG.c.size)) q2 z2;clear hb1 ad q2 r2 z2;go_wp2_with fail;refine wx (HG.b _ H2.a) fun w3 hb3=>?_;have q3:=(hb3.block _ (gl H2.b)).trans H2.b;have z3:=(hb3.block _ (gl H2.c)).trans H2.c;obtain⟨d0,d1,d2,d3,d4,d5⟩:=ia q3;obtain⟨e0,e1,e2,e3,e4,e5⟩:=ia z3;obtain⟨f0,f1,f2,f3,f4,f5⟩:=lP z3;have H3:=kq2 (H2.a.trans (hb3.mono H2.a.size)) z3;clear hb3 q3 z3;go_wp2_with fail
 go_region
 go_wp2_with fail;have q6:((((((w3.setCell ⟨(w.heap.size+1),0,none⟩ (Xu k0)).setCell ⟨(w.heap.size+1),1,none⟩ (Xu k1)).setCell ⟨(w.heap.size+1),2,none⟩ (Xu k2)).setCell ⟨(w.heap.size+1),3,none⟩ (Xu k3)).setCell ⟨(w.heap.size+1),4,none⟩ (Xu k4)).setCell ⟨(w.heap.size+1),5,none⟩ (Xu k5)).drew.heap[w.heap.size+1]?=_:=xj H3.b (Xu k0) (Xu k1) (Xu k2) (Xu k3) (Xu k4) (Xu k5);have B6:=(xh H3.a (bG w.heap.size) (Xu k0) (Xu k1) (Xu k2) (Xu k3) (Xu k4) (Xu k5)).drew;generalize ((((((w3.setCell ⟨(w.heap.size+1),0,none⟩ (Xu k0)).setCell ⟨(w.heap.size+1),1,none⟩ (Xu k1)).setCell ⟨(w.heap.size+1),2,none⟩ (Xu k2)).setCell ⟨(w.heap.size+1),3,none⟩ (Xu k3)).setCell ⟨(w.heap.size+1),4,none⟩ (Xu k4)).setCell ⟨(w.heap.size+1),5,none⟩ (Xu k5)).drew=W6 at*;obtain⟨g0,g1,g2,g3,g4,g5⟩:=ia q6;exact bodyPost_ret (v:=.tuple #[SV t,.agg #[Xu k0,Xu k1,Xu k2,Xu k3,Xu k4,Xu k5]]) (by simp[results,f315,go_sem,g0,g1,g2,g3,g4,g5]) rfl ⟨rfl,B6⟩
theorem uf{j c:FuncId}{jn:Jn}(hjn:mz j jn)(key:List UInt8):∀(f d:Nat),d+f=200->∀{w:World} {S S':St} {Y:Nat->Prop} {root l m r:Nat},Ig w ps S Y->Fv S->root<2^64->
 kr jn key f S root=some ((l,m,r),S')->
 (Ct 312 #[gS ps j c,Xu root,SV key,Xi d] w fun e w'=>e=.returned (.tuple #[Xu l,Xu m,Xu r])/\Ig w' ps S' Y/\Fo Y w w')/\Fv S'/\l<2^64/\m<2^64/\r<2^64:=by
 intro f;induction f with
 | zero=>
  intro d hd w S S' Y root l m r h hi hl hs;obtain rfl:d=200:=by omega
  rw[wZ] at hs;have hs:=Option.some.inj hs;injection hs with e1 e2
  injection e1 with e1 e3
  injection e3 with e3 e4
  subst e1 e2 e3 e4;refine⟨?_,hi,by decide,by decide,by decide⟩;have HG:=kq2 (h.below ((ab w.heap.size w).alloc Ih (.cells #[PV ps,.func (.func j) #[] #[],.func (.func c) #[] #[]] 265))) (h.keep ((ab w.heap.size w).alloc Ih (.cells #[PV ps,.func (.func j) #[] #[],.func (.func c) #[] #[]] 265)));simp only[gS,eL];clear h hi hd hjn;go_enter func312,ntmps312;go_wp2_with fail;all_goals (go_ret3;exact⟨rfl,HG.out⟩)
 | succ f ih=>
  intro d hd w S S' Y root l m r h hi hl hs;rw[sk] at hs;split at hs
  ·rename_i h0;subst h0;have hs:=Option.some.inj hs;injection hs with e1 e2
   injection e1 with e1 e3
   injection e3 with e3 e4
   subst e1 e2 e3 e4;refine⟨?_,hi,by decide,by decide,by decide⟩;have HG:=kq2 (h.below ((ab w.heap.size w).alloc Ih (.cells #[PV ps,.func (.func j) #[] #[],.func (.func c) #[] #[]] 265))) (h.keep ((ab w.heap.size w).alloc Ih (.cells #[PV ps,.func (.func j) #[] #[],.func (.func c) #[] #[]] 265)));simp only[gS,eL];clear h hi hd hjn ih;go_enter func312,ntmps312;go_wp2_with fail;all_goals (go_ret3;exact⟨rfl,HG.out⟩)
  ·rename_i h0;split at hs
   ·cases hs
   rename_i k hk;have hq:((root:Int)==0)=false:=by simp;omega
   have bc:((d:Int)==200)=false:=by simp;omega
   have bd:IntKind.i64.wrap ((d:Int)+1)=(d:Int)+1:=aB _ (by omega);have ad:=fs h root;have q0:=heap_alloc_new w (.cells #[PV ps,eL j,eL c] 265);have B0:=(ab w.heap.size w).alloc Ih (.cells #[PV ps,eL j,eL c] 265);have an:=fun W (hW:Below w.heap.size w W)=>AD (j:=j) (c:=c) (h.below hW) hi root hl hk;have a6:=fun W=>sT key k W;split at hs
   ·rename_i hc;have ba:(Fu key k<0)=True:=eq_true hc;split at hs
    ·cases hs
    rename_i l1 m1 r1 S1 h1;obtain⟨⟨x,S2⟩,a0,he⟩:=aC.1 hs;injection he with e1 e2
    injection e1 with e1 e3
    injection e3 with e3 e4
    simp only at e1 e3 e4 a0;subst e1 e2 e3 e4;have al:=fun W Z (hW:Ig W ps S Z)=>(ih (d+1) (by omega) hW hi ad.left h1).1;obtain⟨-,au,a2,a7,a4⟩:=ih (d+1) (by omega) h hi ad.left h1;have a5:=nW hjn a0;have ai:=fun W Z (hW:Ig W ps S1 Z)=>qn (c:=c) hW au hjn r1 root (getNode S root).1.right a4 hl ad.right a0;refine⟨?_,hjn.inv au a5,a2,a7,(by have q:=hjn.lt au (by first | exact hl | exact a4 | exact ad.right) (by first | exact hl | exact a4 | exact ad.right) (by first | exact hl | exact a4 | exact ad.right) a5;exact q)⟩;obtain⟨⟨⟨k0,k1,k2,k3,k4,k5⟩,er⟩,hE⟩:∃q,getNode S root=q:=⟨_,rfl⟩;rw[hE] at an ad al ai;simp only at ad al ai;simp only[gS,eL,eS] at q0 B0 an al ai⊢;have HG:=kq7 an a6 q0 B0 al ai h;clear an a6 q0 B0 al ai h hi hE hk h1 hs a0 au hjn ih hd h0 ad a2 a7 a4 a5 hl;go_enter func312,ntmps312;go_wp2_with fail;refine wx (HG.a _ HG.d) fun w1 hb1=>?_;have ar:=hb1.alloc hb1.size (Xd k0 k1 k2 k3 k4 k5);have q2:=heap_alloc_new w1 (Xd k0 k1 k2 k3 k4 k5);have r2:=(ar.block w.heap.size (by simp)).trans HG.c;have a3:w.heap.size<=w1.heap.size:=by have:=hb1.size;simp at this;omega
    have B2:=HG.d.trans (ar.mono HG.d.size);go_wp2_with fail;generalize w1.alloc (Xd k0 k1 k2 k3 k4 k5)=W at*;generalize w1.heap.size=b12 at*;refine Jc (HG.b _) ?_;obtain⟨c0,c1,c2⟩:=fq r2;obtain⟨d0,d1,d2,d3,d4,d5⟩:=ia q2;have l8:=(gl r2);have a':=(gl q2);have H2:=kq3 B2 r2 q2;have a9:=If a3;clear hb1 ar q2 r2 B2 a3;go_wp2_with fail;refine(HG.e _ _ (HG.g.wide H2.a)).mono ?_;rintro e w3 ⟨rfl,h3,a1⟩;have r3:=(a1.block w.heap.size (ae ⟨Nat.le_refl _,l8⟩)).trans H2.b;have q3:=(a1.block b12 (ae ⟨a9.out,a'⟩)).trans H2.c;obtain⟨e0,e1,e2⟩:=fq r3;obtain⟨g0,g1,g2,g3,g4,g5⟩:=ia q3;have H3:=kq2 h3 a1;clear h3 a1 r3 q3 c0 c1 c2 d0 d1 d2 d3 d4 d5;go_wp2_with fail;refine(HG.f _ _ H3.a).mono ?_;rintro e w4 ⟨rfl,h4,a8⟩;have H4:=kq2 (h4.mono (Z:=Y) fun k hk=>aa hk) ((Fo.of_below H2.a HG.g.yl).trans ((H3.b.trans a8).mono fun k hk=>aa hk));clear h4 a8 e0 e1 e2 g0 g1 g2 g3 g4 g5;go_wp2_with fail;go_ret3;exact⟨rfl,H4.out⟩
   ·rename_i hc;split at hs
    ·rename_i hc2;have ba:(Fu key k<0)=False:=eq_false hc;have bb:(0<Fu key k)=True:=eq_true hc2;split at hs
     ·cases hs
     rename_i l1 m1 r1 S1 h1;obtain⟨⟨x,S2⟩,a0,he⟩:=aC.1 hs;injection he with e1 e2
     injection e1 with e1 e3
     injection e3 with e3 e4
     simp only at e1 e3 e4 a0;subst e1 e2 e3 e4;have al:=fun W Z (hW:Ig W ps S Z)=>(ih (d+1) (by omega) hW hi ad.right h1).1;obtain⟨-,au,a2,a7,a4⟩:=ih (d+1) (by omega) h hi ad.right h1;have a5:=nW hjn a0;have ai:=fun W Z (hW:Ig W ps S1 Z)=>qn (c:=c) hW au hjn (getNode S root).1.left root l1 ad.left hl a2 a0;refine⟨?_,hjn.inv au a5,(by have q:=hjn.lt au (by first | exact hl | exact a2 | exact ad.left) (by first | exact hl | exact a2 | exact ad.left) (by first | exact hl | exact a2 | exact ad.left) a5;exact q),a7,a4⟩;obtain⟨⟨⟨k0,k1,k2,k3,k4,k5⟩,er⟩,hE⟩:∃q,getNode S root=q:=⟨_,rfl⟩;rw[hE] at an ad al ai;simp only at ad al ai;simp only[gS,eL,eS] at q0 B0 an al ai⊢;have HG:=kq7 an a6 q0 B0 al ai h;clear an a6 q0 B0 al ai h hi hE hk h1 hs a0 au hjn ih hd h0 ad a2 a7 a4 a5 hl;go_enter func312,ntmps312;go_wp2_with fail;refine wx (HG.a _ HG.d) fun w1 hb1=>?_;have ar:=hb1.alloc hb1.size (Xd k0 k1 k2 k3 k4 k5);have q2:=heap_alloc_new w1 (Xd k0 k1 k2 k3 k4 k5);have r2:=(ar.block w.heap.size (by simp)).trans HG.c;have a3:w.heap.size<=w1.heap.size:=by have:=hb1.size;simp at this;omega
     have B2:=HG.d.trans (ar.mono HG.d.size);go_wp2_with fail;generalize w1.alloc (Xd k0 k1 k2 k3 k4 k5)=W at*;generalize w1.heap.size=b12 at*;refine Jc (HG.b _) ?_;obtain⟨c0,c1,c2⟩:=fq r2;obtain⟨d0,d1,d2,d3,d4,d5⟩:=ia q2;have l8:=(gl r2);have a':=(gl q2);have H2:=kq3 B2 r2 q2;have a9:=If a3;clear hb1 ar q2 r2 B2 a3;go_wp2_with fail;refine(HG.e _ _ (HG.g.wide H2.a)).mono ?_;rintro e w3 ⟨rfl,h3,a1⟩;have r3:=(a1.block w.heap.size (ae ⟨Nat.le_refl _,l8⟩)).trans H2.b;have q3:=(a1.block b12 (ae ⟨a9.out,a'⟩)).trans H2.c;obtain⟨e0,e1,e2⟩:=fq r3;obtain⟨g0,g1,g2,g3,g4,g5⟩:=ia q3;have H3:=kq2 h3 a1;clear h3 a1 r3 q3 c0 c1 c2 d0 d1 d2 d3 d4 d5;go_wp2_with fail;refine(HG.f _ _ H3.a).mono ?_;rintro e w4 ⟨rfl,h4,a8⟩;have H4:=kq2 (h4.mono (Z:=Y) fun k hk=>aa hk) ((Fo.of_below H2.a HG.g.yl).trans ((H3.b.trans a8).mono fun k hk=>aa hk));clear h4 a8 e0 e1 e2 g0 g1 g2 g3 g4 g5;go_wp2_with fail;go_ret3;exact⟨rfl,H4.out⟩
    ·rename_i hc2;have ba:(Fu key k<0)=False:=eq_false hc;have bb:(0<Fu key k)=False:=eq_false hc2;have hs:=Option.some.inj hs;injection hs with e1 e2
     injection e1 with e1 e3
     injection e3 with e3 e4
     subst e1 e2 e3 e4;refine⟨?_,hi,ad.left,hl,ad.right⟩;have al:=True.intro;have ai:=True.intro;obtain⟨⟨⟨k0,k1,k2,k3,k4,k5⟩,er⟩,hE⟩:∃q,getNode S root=q:=⟨_,rfl⟩;rw[hE] at an ad⊢;simp only at ad⊢;simp only[gS,eL,eS] at q0 B0 an⊢;have HG:=kq5 an a6 q0 B0 h;clear an a6 q0 B0 al ai h hi hE hk hjn ih hd h0 ad hl;go_enter func312,ntmps312;go_wp2_with fail;refine wx (HG.a _ HG.d) fun w1 hb1=>?_;have ar:=hb1.alloc hb1.size (Xd k0 k1 k2 k3 k4 k5);have q2:=heap_alloc_new w1 (Xd k0 k1 k2 k3 k4 k5);have r2:=(ar.block w.heap.size (by simp)).trans HG.c;have a3:w.heap.size<=w1.heap.size:=by have:=hb1.size;simp at this;omega
     have B2:=HG.d.trans (ar.mono HG.d.size);go_wp2_with fail;generalize w1.alloc (Xd k0 k1 k2 k3 k4 k5)=W at*;generalize w1.heap.size=b12 at*;refine Jc (HG.b _) ?_;obtain⟨c0,c1,c2⟩:=fq r2;obtain⟨d0,d1,d2,d3,d4,d5⟩:=ia q2;have l8:=(gl r2);have a':=(gl q2);have H2:=kq3 B2 r2 q2;have a9:=If a3;clear hb1 ar q2 r2 B2 a3;go_wp2_with fail;go_quiet (fail)
     go_wp2_with fail;go_ret3;exact⟨rfl,HG.e.below (H2.a.trans ⟨rfl,rfl,rfl,Nat.le_refl _,fun _ _=>rfl⟩),HG.e.keep (H2.a.trans ⟨rfl,rfl,rfl,Nat.le_refl _,fun _ _=>rfl⟩)⟩
