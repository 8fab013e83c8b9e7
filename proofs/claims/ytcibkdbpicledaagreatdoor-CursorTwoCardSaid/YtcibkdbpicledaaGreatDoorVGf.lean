/- Cursors over maps of any kind: where Next and Prev go: plain; a row beside a map. -/
import Derived.Test.YtcibkdbpicledaaGreatDoorVGe
import Derived.Test.YtcibkdbpicledaaGreatDoorVRg
set_option maxRecDepth 100000
namespace Go.Proofs.YtcibkdbpicledaaGreatDoor
open Go.RowKit Tryz Go.BigFrame Go.Maps Go.WideMaps Lf Tr
theorem IW {Q:Pr->Prop}{L:List Pr}{a b:List UInt8}(h:∀p∈L,Q p)(hq:Q (a,b)):∀p∈gV L a b,Q p:=fun p hp=>by
 unfold gV at hp;rcases ak.1 hp with hp | hp
 ·exact h p (cY.1 hp).1
 ·rcases ah.1 hp with rfl | hp
  ·exact hq
  ·exact h p (cY.1 hp).1
theorem Ir {Q:Pr->Prop}:∀(l L:List Pr),(∀p∈L,Q p)->(∀p∈l,Q p)->∀p∈l.foldl (fun L p=>gV L p.1 p.2) L,Q p
 | [],_,h,_=>h
 | x::l,_,h,hl=>Ir l _ (IW h (hl x (ag ..))) fun p hp=>hl p (aj _ hp)
theorem IX {L:List Pr}(hs:ms L){i:Nat}{p:Pr}(h:L[i]?=some p):eK L p.1=i/\(Bt.getL L p.1).isSome=true:=by
 cases hg:Bt.getL L p.1 with
 | none=>
  unfold Bt.getL at hg;have:=bG.1 (Option.map_eq_none_iff.1 hg) p (bA h)
  simp at this
 | some v=>
  have h2:=Dh hs hg;refine⟨?_,rfl⟩;obtain⟨i1,e1⟩:=aA.1 h;obtain⟨i2,e2⟩:=aA.1 h2;have hp:=co.1 hs
  rcases Nat.lt_trichotomy i (eK L p.1) with q | q | q
  ·have:=hp _ _ i1 i2 q;rw[e1,e2,fX] at this;omega
  ·exact q.symm
  ·have:=hp _ _ i2 i1 q;rw[e1,e2,fX] at this;omega
def pf(L:List Pr)(lim:Nat)(k:Int)(is:Nat)(ws:List Nat):Prop:=∃t,(is=0\/is=2\/is=1/\ws=Jt t (many lim)/\t.length<=lim)/\Ji L is t=k
def Jp(L:List Pr)(lim:Nat)(k:Int)(is:Nat)(ws:List Nat):Prop:=∃t,(is=0\/is=2\/is=1/\ws=Jt t (many lim)/\t.length<=lim)/\JC L is t=k
theorem Al {L:List Pr}(hs:ms L){lim:Nat}(hL:∀z∈L,z.1.length<=lim){i:Nat}{p:Pr}(h:L[i]?=some p):pf L lim ((i:Int)+1) 1 (Jt p.1 (many lim))/\Jp L lim ((i:Int)-1) 1 (Jt p.1 (many lim)):=by
 obtain⟨h1,h2⟩:=IX hs h;have h3:(1:Nat)=0\/(1:Nat)=2\/(1:Nat)=1/\Jt p.1 (many lim)=Jt p.1 (many lim)/\p.1.length<=lim:=ae (ae ⟨rfl,rfl,hL p (bA h)⟩);refine⟨⟨p.1,h3,?_⟩,p.1,h3,?_⟩
 ·unfold Ji;rw[h1,h2]
  rfl
 ·unfold JC;rw[h1]
  rfl
theorem PRow.cells {w:World}{A:Option Addr}{n c:Nat}{l:List Pr}(h:PRow w (.slice A n c) l){i:Nat}(hi:i<l.length):∃g o,A=some ⟨g,o,none⟩/\w.cell? ⟨g,o+i*2,none⟩=some (SV l[i].1)/\w.cell? ⟨g,o+i*2+1,none⟩=some (SV l[i].2):=by
 obtain⟨A',c2,e,hc⟩:=h;have e1:A=A':=by injection e
 rw[e1];exact hc i hi
section
variable {P:List (List UInt8×List UInt8)->Prop}{K:jo}{w W W':World}{ps pm px limit p q pc hh is:Nat}{ws:List Nat}{L:List (List UInt8×List UInt8)}{l:List (Nat×Obj)}
theorem an.less {p' q':Nat}(h:an K w ps pm px limit L p q l W)(hp:p'<=p)(hq:q'<=q):an K w ps pm px limit L p' q' l W:=by
 obtain⟨root,S,Y,h1,h2,h3⟩:=h.ex;exact⟨⟨root,S,Y,h1,h2.mono hp hq,h3⟩,h.nd,h.tb⟩
theorem an.adopt(ok:gB K P)(h:an K w ps pm px limit L p q l W)(hb:Below W.heap.size W W'){b:Nat}{o:Obj}(hl:W.heap.size<=b)(ho:W'.heap[b]?=some o):an K w ps pm px limit L p q ((b,o)::l) W':=by
 obtain⟨root,S,Y,h1,h2,h3⟩:=h.ex;have ad:=(gl ho);have lx:=ok.onLt h1.on;have lm:=(gl h1.map);have lb:=h1.bl.size;refine⟨⟨root,S,_,h1.wide ok hb,h2,fun x hx=>?_⟩,?_,h.tb⟩
 ·rcases ah.1 hx with rfl | hx
  ·exact⟨ae ⟨hl,ad⟩,by simp only;omega,by simp only;omega,by simp only;omega,ho⟩
  ·obtain⟨a,b,c,d,e⟩:=h3 x hx;exact⟨ab a,b,c,d,(hb.block _ (gl e)).trans e⟩
 ·refine aE.2 ⟨fun hm=>?_,h.nd⟩;obtain⟨x,hx,e⟩:=ay.1 hm;have:=(gl (h3 x hx).2.2.2.2);omega
theorem an.row(ok:gB K P)(h:an K w ps pm px limit L p q l W)(hb:Below W.heap.size W W'){v:Value}{A:List Pr}(hr:W'.ownsRow W.heap.size 34 2 v A.length (FJ A)):
 ∃l',an K w ps pm px limit L p q l' W'/\(∀x∈l,x∈l')/\∀V:World,(∀x∈l',V.heap[x.1]?=some x.2)->PRow V v A:=by
 rcases hr.2 with⟨e,hx⟩ | ⟨g,ad,ai,hv,hB,hg,h1,h2,h3,h4⟩
 ·exact⟨l,h.below ok hb,fun _ hx=>hx,fun V _=>PRow.of_owns (B:=W.heap.size) ⟨hr.1,ab ⟨e,hx⟩⟩⟩
 ·exact⟨_,h.adopt ok hb hB hg,fun _ hx=>aj _ hx,fun V hV=>PRow.of_owns (B:=W.heap.size) ⟨hr.1,ae ⟨g,ad,ai,hv,hB,hV _ (ag ..),h1,h2,h3,h4⟩⟩⟩
theorem ao.onNext(ok:gB K P)(h:ao K w ps pm px limit L p q pc hh is ws l W)(hc:L.length<98)(hL:∀z∈L,z.1.length<=1000){k:Int}(hk:pf L limit k is ws)(x:Option (List UInt8×List UInt8))(hx:fj L k=x):
 Ct 39 #[PV pc] W fun e w'=>e=.returned (.tuple #[eu (x.getD ([],[])),Xi ((if x.isSome=true then 0 else 5:Nat):Nat)])/\ao K w ps pm px limit L p q pc hh (if x.isSome=true then 1 else 2) (Jt (x.getD ([],[])).1 (many limit)) l w':=by
 obtain⟨t,hi,rfl⟩:=hk;exact h.Next ok hc hL hi x hx
theorem ao.onPrev(ok:gB K P)(h:ao K w ps pm px limit L p q pc hh is ws l W)(hc:L.length<98)(hL:∀z∈L,z.1.length<=1000){k:Int}(hk:Jp L limit k is ws)(x:Option (List UInt8×List UInt8))(hx:fj L k=x):
 Ct 41 #[PV pc] W fun e w'=>e=.returned (.tuple #[eu (x.getD ([],[])),Xi ((if x.isSome=true then 0 else 5:Nat):Nat)])/\ao K w ps pm px limit L p q pc hh (if x.isSome=true then 1 else 0) (Jt (x.getD ([],[])).1 (many limit)) l w':=by
 obtain⟨t,hi,rfl⟩:=hk;exact h.Prev ok hc hL hi x hx
end
