/- A region that draws its order, some of whose operations only read what the calls leave as it was, and whose others come in one forced order (the calls, each handed what the one ahead of it gave): one walk: the reads first, in a told order, then the others, in a told order. -/
import Derived.Deep.RegionHeld3
import Derived.Test.YtpljannolpapgaaGreatDoorVLf
set_option maxRecDepth 100000
namespace Go.Proofs.YtpljannolpapgaaGreatDoor.Qu
open Go Go.RowKit
section
variable {P:Program}{l:List Oper}{md:Region.Mode}{S:World->Prop}{Q:Exit->Act->World->Prop}
def kQ(P:Program)(l:List Oper)(S:World->Prop)(Q:Act->Prop):List Nat->Act->Prop
 | [],a=>Q a
 | i::is,a=>∃o,l[i]?=some o/\∃v,YieldsIf P l.toArray S o v a/\kQ P l S Q is (a.put o.dst v)
def lC(P:Program)(l:List Oper)(Q:Exit->Act->World->Prop)(S:World->Prop):List Nat->Act->World->Prop
 | [],a,w=>Q .normal a w
 | i::is,a,w=>∃o,l[i]?=some o/\Region.wanted o (yielded l.toArray a.tmps)=true/\o.wp P a w (fun a' w'=>S w'/\lC P l Q S is a' w') Q
def seqB(md:Region.Mode)(ops:Array Oper):List Nat->Array Bool->Bool
 | [],listed=>(Region.ready md ops listed).isEmpty
 | i::is,listed=>decide (Region.ready md ops listed=[i]) && seqB md ops is (listed.setIfInBounds i true)
def mL(md:Region.Mode)(ops:Array Oper)(js:List Nat):List Nat->Array Bool->Bool
 | [],listed=>seqB md ops js listed
 | i::is,listed=>(Region.ready md ops listed).contains i && Region.free md ops listed i && mL md ops js is (listed.setIfInBounds i true)
theorem yd:∀(js:List Nat) (listed:Array Bool) (a:Act) (w:World),
 seqB md l.toArray js listed=true->S w->lC P l Q S js a w->wpAnyH P md l.toArray Q S js.length listed a w
 | [],_,_,_,hB,_,h=>⟨by simpa[seqB] using hB,h⟩
 | j::js,listed,a,w,hB,hS,h=>by
  simp only[seqB,aI,decide_eq_true_eq] at hB;refine⟨fun h1=>(by rw[hB.1] at h1;cases h1),fun i hi=>?_⟩;rw[hB.1] at hi;have ai:i=j:=by simpa using hi
  subst ai;have al:=fun a' w' (hs:S w') (hq:lC P l Q S js a' w')=>yd js (listed.setIfInBounds i true) a' w' hB.2 hs hq;obtain⟨o,h0,hw,hh⟩:=h;have ad:l.toArray[i]?=some o:=by simpa using h0
  unfold wpOp;simp only[ad,hw,if_true];exact .inl (Oper.wp_mono (fun a' w' h'=>⟨h'.1,al a' w' h'.1 h'.2⟩) hh)
theorem yc {js:List Nat}{w:World}{Lq:Act->Prop}(hsel:Region.noSelect l.toArray=true)(hS:S w)(hQ:∀d v c a w,Q (.panic c) (Act.put a d v) w->Q (.panic c) a w)
 (hL:∀listed a,seqB md l.toArray js listed=true->Lq a->wpAnyH P md l.toArray Q S js.length listed a w):
 ∀(is:List Nat) (listed:Array Bool) (a:Act),
 mL md l.toArray js is listed=true->kQ P l S Lq is a->wpAnyH P md l.toArray Q S (is.length+js.length) listed a w
 | [],listed,a,hB,h=>by simpa using hL listed a (by simpa[mL] using hB) h
 | i::is,listed,a,hB,h=>by
  simp only[mL,aI] at hB;obtain⟨⟨hr,hf⟩,ai⟩:=hB;obtain⟨o,h0,v,hy,hK⟩:=h;have ad:l.toArray[i]?=some o:=by simpa using h0
  rw[ak,show is.length+1+js.length=(is.length+js.length)+1 by omega];exact wpAnyH_take ad hsel hf hr (fun c a w=>hQ _ _ c a w) hy hS (yc hsel hS hQ hL is _ _ ai hK)
end
def vq(md:Region.Mode)(ops:Array Oper)(is js:List Nat):Bool:=
 Region.noSelect ops && decide (is.length+js.length=ops.size) && mL md ops js is (Array.replicate ops.size false)
end Qu
open Qu
abbrev FG(I:World->Prop):World->Prop:=fun w'=>∃x:Fq I,w'=x.to
theorem Jz {P:Program}{id:Nat}{Q:Exit->Act->World->Prop}{a:Act}{w:World}{l:List Oper}(I:World->Prop)(is js:List Nat)(hm:P.follows .mixedOrders=true)(hB:vq .any l.toArray is js=true)
 (hI:I w.drew)
 (h:kQ P l (FG I) (fun a'=>lC P l (NoPanic Q) (FG I) js a' w.drew) is a):(Code.region id l.toArray true).wp P Q a w:=by
 simp only[vq,aI,decide_eq_true_eq] at hB;obtain⟨⟨ai,hn⟩,ad⟩:=hB;have hS:FG I w.drew:=⟨⟨_,hI⟩,rfl⟩;refine wp_region_noPanic (wp_region_held_drew (S:=FG I) hm hS (fun _=>?_));have:=yc (md:=.any) (js:=js) (Q:=NoPanic Q) ai hS (fun _ _ _ _ _ h=>(h:False).elim) (fun listed a' hq hl=>
  yd (md:=.any) (Q:=NoPanic Q) (S:=FG I) js listed a' w.drew hq hS hl) is _ a ad h
 rw[hn] at this;exact this
theorem Fc {P:Program}{l:List Oper}{S:World->Prop}{Q:Act->Prop}{i:Nat}{is:List Nat}{a:Act}(o:Oper)(ho:l[i]?=some o)(v:Value)(hw:Region.wanted o (yielded l.toArray a.tmps)=true)(hr:∀w,S w->(execOp a.eval o).run P w=.ok (.value v) w)
 (h:kQ P l S Q is (a.put o.dst v)):kQ P l S Q (i::is) a:=⟨o,ho,v,aa ⟨hw,hr⟩,h⟩
theorem hC {P:Program}{l:List Oper}{I:World->Prop}{Q:Act->Prop}{i:Nat}{is:List Nat}{a:Act}{o:Oper}{v:Value}(hr:∀x:Fq I,(execOp a.eval o).run P x.to=.ok (.value v) x.to)(h:kQ P l (FG I) Q is (a.put o.dst v))(ho:l[i]?=some o:=by rfl)(hw:Region.wanted o (yielded l.toArray a.tmps)=true:=by rfl):kQ P l (FG I) Q (i::is) a:=Fc o ho v hw (fun _ g=>by obtain⟨x,rfl⟩:=g;exact hr x) h
theorem mo {P:Program}{l:List Oper}{S:World->Prop}{Q:Act->Prop}{a:Act}(h:Q a):kQ P l S Q [] a:=h
theorem gF {P:Program}{l:List Oper}{Q:Exit->Act->World->Prop}{I:World->Prop}{i:Nat}{is:List Nat}{a:Act}{w:World}(o:Oper)(ho:l[i]?=some o)(hw:Region.wanted o (yielded l.toArray a.tmps)=true)
 (h:∀K':Act->World->Prop,Shut (∀a w,I w->lC P l Q (FG I) is a w->K' a w)->Oper.wp P o a w K' Q):lC P l Q (FG I) (i::is) a w:=
 ⟨o,ho,hw,h _ (fun _ _ hI hs=>⟨⟨⟨_,hI⟩,rfl⟩,hs⟩)⟩
theorem mp {P:Program}{l:List Oper}{Q:Exit->Act->World->Prop}{S:World->Prop}{a:Act}{w:World}(h:Q .normal a w):lC P l (NoPanic Q) S [] a w:=h
end Go.Proofs.YtpljannolpapgaaGreatDoor
namespace Go.Proofs.YtpljannolpapgaaGreatDoor.Qv
open Go Go.RowKit
section
variable {P:Program}{l:List Oper}{md:Region.Mode}{S:World->Prop}{Q:Exit->Act->World->Prop}
def iG(P:Program)(l:List Oper)(Q:Exit->Act->World->Prop)(S:World->Prop):List (Bool×Nat)->Act->World->Prop
 | [],a,w=>Q .normal a w
 | (true,i)::is,a,w=>∃o,l[i]?=some o/\∃v,YieldsIf P l.toArray S o v a/\iG P l Q S is (a.put o.dst v) w
 | (false,i)::is,a,w=>∃o,l[i]?=some o/\Region.wanted o (yielded l.toArray a.tmps)=true/\o.wp P a w (fun a' w'=>S w'/\iG P l Q S is a' w') Q
def lp(md:Region.Mode)(ops:Array Oper):List (Bool×Nat)->Array Bool->Bool
 | [],listed=>(Region.ready md ops listed).isEmpty
 | (true,i)::is,listed=>(Region.ready md ops listed).contains i && Region.free md ops listed i && lp md ops is (listed.setIfInBounds i true)
 | (false,i)::is,listed=>decide (Region.ready md ops listed=[i]) && lp md ops is (listed.setIfInBounds i true)
theorem tf(hsel:Region.noSelect l.toArray=true)(hQ:∀d v c a w,Q (.panic c) (Act.put a d v) w->Q (.panic c) a w):
 ∀(is:List (Bool×Nat)) (listed:Array Bool) (a:Act) (w:World),lp md l.toArray is listed=true->S w->iG P l Q S is a w->wpAnyH P md l.toArray Q S is.length listed a w
 | [],_,_,_,hB,_,h=>⟨by simpa[lp] using hB,h⟩
 | (true,i)::is,listed,a,w,hB,hS,h=>by
  simp only[lp,aI] at hB;obtain⟨⟨hr,hf⟩,ai⟩:=hB;obtain⟨o,h0,v,hy,hK⟩:=h;have ad:l.toArray[i]?=some o:=by simpa using h0
  exact wpAnyH_take ad hsel hf hr (fun c a w=>hQ _ _ c a w) hy hS (tf hsel hQ is _ _ _ ai hS hK)
 | (false,j)::is,listed,a,w,hB,hS,h=>by
  simp only[lp,aI,decide_eq_true_eq] at hB;refine⟨fun h1=>(by rw[hB.1] at h1;cases h1),fun i hi=>?_⟩;rw[hB.1] at hi;have al:i=j:=by simpa using hi
  subst al;have an:=fun a' w' (hs:S w') (hq:iG P l Q S is a' w')=>tf hsel hQ is (listed.setIfInBounds i true) a' w' hB.2 hs hq;obtain⟨o,h0,hw,hh⟩:=h;have ad:l.toArray[i]?=some o:=by simpa using h0
  unfold wpOp;simp only[ad,hw,if_true];exact .inl (Oper.wp_mono (fun a' w' h'=>⟨h'.1,an a' w' h'.1 h'.2⟩) hh)
def vr(md:Region.Mode)(ops:Array Oper)(is:List (Bool×Nat)):Bool:=
 Region.noSelect ops && decide (is.length=ops.size) && lp md ops is (Array.replicate ops.size false)
end
end Qv
open Qv
theorem nF {P:Program}{id:Nat}{Q:Exit->Act->World->Prop}{a:Act}{w:World}{l:List Oper}(I:World->Prop)(is:List (Bool×Nat))(hm:P.follows .mixedOrders=true)(hB:vr .any l.toArray is=true)
 (hI:I w.drew) (h:iG P l (NoPanic Q) (FG I) is a w.drew):(Code.region id l.toArray true).wp P Q a w:=by
 simp only[vr,aI,decide_eq_true_eq] at hB;obtain⟨⟨ai,hn⟩,ad⟩:=hB;have hS:FG I w.drew:=⟨⟨_,hI⟩,rfl⟩;refine wp_region_noPanic (wp_region_held_drew (S:=FG I) hm hS (fun _=>?_));have:=tf (md:=.any) (Q:=NoPanic Q) ai (fun _ _ _ _ _ h=>(h:False).elim) is _ a w.drew ad hS h;rw[hn] at this;exact this
theorem De {P:Program}{l:List Oper}{I:World->Prop}{Q:Exit->Act->World->Prop}{i:Nat}{is:List (Bool×Nat)}{a:Act}{w:World}(o:Oper)(ho:l[i]?=some o)(v:Value)(hw:Region.wanted o (yielded l.toArray a.tmps)=true)(hr:∀w,FG I w->(execOp a.eval o).run P w=.ok (.value v) w)
 (h:iG P l Q (FG I) is (a.put o.dst v) w):iG P l Q (FG I) ((true,i)::is) a w:=⟨o,ho,v,aa ⟨hw,hr⟩,h⟩
theorem mT {P:Program}{l:List Oper}{I:World->Prop}{Q:Exit->Act->World->Prop}{i:Nat}{p:List (Bool×Nat)}{a:Act}{w:World}{o:Oper}{v:Value}(hr:∀x:Fq I,(execOp a.eval o).run P x.to=.ok (.value v) x.to)(h:iG P l Q (FG I) p (a.put o.dst v) w)(ho:l[i]?=some o:=by rfl)(hw:Region.wanted o (yielded l.toArray a.tmps)=true:=by rfl):iG P l Q (FG I) ((true,i)::p) a w:=De o ho v hw (fun _ g=>by obtain⟨x,rfl⟩:=g;exact hr x) h
theorem Dd {P:Program}{l:List Oper}{Q:Exit->Act->World->Prop}{I:World->Prop}{i:Nat}{is:List (Bool×Nat)}{a:Act}{w:World}(o:Oper)(ho:l[i]?=some o)(hw:Region.wanted o (yielded l.toArray a.tmps)=true)
 (h:∀K':Act->World->Prop,Shut (∀a w,I w->iG P l Q (FG I) is a w->K' a w)->Oper.wp P o a w K' Q):iG P l Q (FG I) ((false,i)::is) a w:=
 ⟨o,ho,hw,h _ (fun _ _ hI hs=>⟨⟨⟨_,hI⟩,rfl⟩,hs⟩)⟩
theorem mD {P:Program}{l:List Oper}{I:World->Prop}{Q:Exit->Act->World->Prop}{i:Nat}{p:List (Bool×Nat)}{a:Act}{w:World}{o:Oper}(h:∀K':Act->World->Prop,Shut (∀a w,I w->iG P l Q (FG I) p a w->K' a w)->Oper.wp P o a w K' Q)(ho:l[i]?=some o:=by rfl)(hw:Region.wanted o (yielded l.toArray a.tmps)=true:=by rfl):iG P l Q (FG I) ((false,i)::p) a w:=Dd o ho hw h
theorem mX {P:Program}{l:List Oper}{Q:Exit->Act->World->Prop}{S:World->Prop}{a:Act}{w:World}(h:Q .normal a w):iG P l (NoPanic Q) S [] a w:=h
end Go.Proofs.YtpljannolpapgaaGreatDoor
namespace Go.Proofs.YtpljannolpapgaaGreatDoor.Qw
open Go Go.RowKit
inductive Plan where
 | nil
 | take (i:Nat) (p:Plan)
 | go (i:Nat) (p:Plan)
 | two (i j:Nat) (p q:Plan)
def Plan.len:Plan->Nat
 | .nil=>0
 | .take _ p=>p.len+1
 | .go _ p=>p.len+1
 | .two _ _ p _=>p.len+1
section
variable {P:Program}{l:List Oper}{md:Region.Mode}{S:World->Prop}{Q:Exit->Act->World->Prop}
def wpPlan(P:Program)(l:List Oper)(Q:Exit->Act->World->Prop)(S:World->Prop):Plan->Act->World->Prop
 | .nil,a,w=>Q .normal a w
 | .take i p,a,w=>∃o,l[i]?=some o/\∃v,YieldsIf P l.toArray S o v a/\wpPlan P l Q S p (a.put o.dst v) w
 | .go i p,a,w=>∃o,l[i]?=some o/\Region.wanted o (yielded l.toArray a.tmps)=true/\o.wp P a w (fun a' w'=>S w'/\wpPlan P l Q S p a' w') Q
 | .two i j p q,a,w=>(∃o,l[i]?=some o/\Region.wanted o (yielded l.toArray a.tmps)=true/\o.wp P a w (fun a' w'=>S w'/\wpPlan P l Q S p a' w') Q)/\
  (∃o,l[j]?=some o/\Region.wanted o (yielded l.toArray a.tmps)=true/\o.wp P a w (fun a' w'=>S w'/\wpPlan P l Q S q a' w') Q)
def fG(md:Region.Mode)(ops:Array Oper):Plan->Array Bool->Bool
 | .nil,listed=>(Region.ready md ops listed).isEmpty
 | .take i p,listed=>(Region.ready md ops listed).contains i && Region.free md ops listed i && fG md ops p (listed.setIfInBounds i true)
 | .go i p,listed=>decide (Region.ready md ops listed=[i]) && fG md ops p (listed.setIfInBounds i true)
 | .two i j p q,listed=>decide (Region.ready md ops listed=[i,j]) && decide (p.len=q.len) && fG md ops p (listed.setIfInBounds i true) && fG md ops q (listed.setIfInBounds j true)
theorem wpAnyH_plan(hsel:Region.noSelect l.toArray=true)(hQ:∀d v c a w,Q (.panic c) (Act.put a d v) w->Q (.panic c) a w):
 ∀(p:Plan) (listed:Array Bool) (a:Act) (w:World),fG md l.toArray p listed=true->S w->wpPlan P l Q S p a w->wpAnyH P md l.toArray Q S p.len listed a w
 | .nil,_,_,_,hB,_,h=>⟨by simpa[fG] using hB,h⟩
 | .take i p,listed,a,w,hB,hS,h=>by
  simp only[fG,aI] at hB;obtain⟨⟨hr,hf⟩,al⟩:=hB;obtain⟨o,h0,v,hy,hK⟩:=h;have ad:l.toArray[i]?=some o:=by simpa using h0
  exact wpAnyH_take ad hsel hf hr (fun c a w=>hQ _ _ c a w) hy hS (wpAnyH_plan hsel hQ p _ _ _ al hS hK)
 | .go j p,listed,a,w,hB,hS,h=>by
  simp only[fG,aI,decide_eq_true_eq] at hB;refine⟨fun h1=>(by rw[hB.1] at h1;cases h1),fun i hi=>?_⟩;rw[hB.1] at hi;have an:i=j:=by simpa using hi
  subst an;have ai:=fun a' w' (hs:S w') (hq:wpPlan P l Q S p a' w')=>wpAnyH_plan hsel hQ p (listed.setIfInBounds i true) a' w' hB.2 hs hq;obtain⟨o,h0,hw,hh⟩:=h;have ad:l.toArray[i]?=some o:=by simpa using h0
  unfold wpOp;simp only[ad,hw,if_true];exact .inl (Oper.wp_mono (fun a' w' h'=>⟨h'.1,ai a' w' h'.1 h'.2⟩) hh)
 | .two i j p q,listed,a,w,hB,hS,h=>by
  simp only[fG,aI,decide_eq_true_eq] at hB;obtain⟨⟨⟨hr,au⟩,hp⟩,hq⟩:=hB;refine⟨fun h1=>(by rw[hr] at h1;cases h1),fun k hk=>?_⟩;rw[hr] at hk;have ar:k=i\/k=j:=by simpa using hk
  rcases ar with rfl | rfl
  ·have ai:=fun a' w' (hs:S w') (hq':wpPlan P l Q S p a' w')=>wpAnyH_plan hsel hQ p (listed.setIfInBounds k true) a' w' hp hs hq';obtain⟨o,h0,hw,hh⟩:=h.1;have ad:l.toArray[k]?=some o:=by simpa using h0
   unfold wpOp;simp only[ad,hw,if_true];exact .inl (Oper.wp_mono (fun a' w' h'=>⟨h'.1,ai a' w' h'.1 h'.2⟩) hh)
  ·have ai:=fun a' w' (hs:S w') (hq':wpPlan P l Q S q a' w')=>wpAnyH_plan hsel hQ q (listed.setIfInBounds k true) a' w' hq hs hq';rw[<-au] at ai;obtain⟨o,h0,hw,hh⟩:=h.2;have ad:l.toArray[k]?=some o:=by simpa using h0
   unfold wpOp;simp only[ad,hw,if_true];exact .inl (Oper.wp_mono (fun a' w' h'=>⟨h'.1,ai a' w' h'.1 h'.2⟩) hh)
def lexPlanB(md:Region.Mode)(ops:Array Oper)(p:Plan):Bool:=
 Region.noSelect ops && decide (p.len=ops.size) && fG md ops p (Array.replicate ops.size false)
end
end Qw
open Qw
theorem fh {P:Program}{id:Nat}{Q:Exit->Act->World->Prop}{a:Act}{w:World}{l:List Oper}(I:World->Prop)(p:Plan)(hm:P.follows .mixedOrders=true)(hB:lexPlanB .any l.toArray p=true)
 (hI:I w.drew) (h:wpPlan P l (NoPanic Q) (FG I) p a w.drew):(Code.region id l.toArray true).wp P Q a w:=by
 simp only[lexPlanB,aI,decide_eq_true_eq] at hB;obtain⟨⟨ai,hn⟩,ad⟩:=hB;have hS:FG I w.drew:=⟨⟨_,hI⟩,rfl⟩;refine wp_region_noPanic (wp_region_held_drew (S:=FG I) hm hS (fun _=>?_));have:=wpAnyH_plan (md:=.any) (Q:=NoPanic Q) ai (fun _ _ _ _ _ h=>(h:False).elim) p _ a w.drew ad hS h;rw[hn] at this;exact this
theorem DC {P:Program}{l:List Oper}{I:World->Prop}{Q:Exit->Act->World->Prop}{i:Nat}{p:Plan}{a:Act}{w:World}(o:Oper)(ho:l[i]?=some o)(v:Value)(hw:Region.wanted o (yielded l.toArray a.tmps)=true)(hr:∀w,FG I w->(execOp a.eval o).run P w=.ok (.value v) w)
 (h:wpPlan P l Q (FG I) p (a.put o.dst v) w):wpPlan P l Q (FG I) (.take i p) a w:=⟨o,ho,v,aa ⟨hw,hr⟩,h⟩
theorem pT {P:Program}{l:List Oper}{I:World->Prop}{Q:Exit->Act->World->Prop}{i:Nat}{p:Plan}{a:Act}{w:World}{o:Oper}{v:Value}(hr:∀x:Fq I,(execOp a.eval o).run P x.to=.ok (.value v) x.to)(h:wpPlan P l Q (FG I) p (a.put o.dst v) w)(ho:l[i]?=some o:=by rfl)(hw:Region.wanted o (yielded l.toArray a.tmps)=true:=by rfl):wpPlan P l Q (FG I) (.take i p) a w:=DC o ho v hw (fun _ g=>by obtain⟨x,rfl⟩:=g;exact hr x) h
theorem DB {P:Program}{l:List Oper}{Q:Exit->Act->World->Prop}{I:World->Prop}{i:Nat}{p:Plan}{a:Act}{w:World}(o:Oper)(ho:l[i]?=some o)(hw:Region.wanted o (yielded l.toArray a.tmps)=true)
 (h:∀K':Act->World->Prop,Shut (∀a w,I w->wpPlan P l Q (FG I) p a w->K' a w)->Oper.wp P o a w K' Q):wpPlan P l Q (FG I) (.go i p) a w:=
 ⟨o,ho,hw,h _ (fun _ _ hI hs=>⟨⟨⟨_,hI⟩,rfl⟩,hs⟩)⟩
theorem pD {P:Program}{l:List Oper}{Q:Exit->Act->World->Prop}{I:World->Prop}{i:Nat}{p:Plan}{a:Act}{w:World}{o:Oper}
 (h:∀K':Act->World->Prop,Shut (∀a w,I w->wpPlan P l Q (FG I) p a w->K' a w)->Oper.wp P o a w K' Q) (ho:l[i]?=some o:=by rfl) (hw:Region.wanted o (yielded l.toArray a.tmps)=true:=by rfl):wpPlan P l Q (FG I) (.go i p) a w:=DB o ho hw h
theorem gL {P:Program}{l:List Oper}{Q:Exit->Act->World->Prop}{I:World->Prop}{i j:Nat}{p q:Plan}{a:Act}{w:World}(h1:wpPlan P l Q (FG I) (.go i p) a w)(h2:wpPlan P l Q (FG I) (.go j q) a w):wpPlan P l Q (FG I) (.two i j p q) a w:=⟨h1,h2⟩
theorem eP {P:Program}{l:List Oper}{Q:Exit->Act->World->Prop}{S:World->Prop}{a:Act}{w:World}(h:Q .normal a w):wpPlan P l (NoPanic Q) S .nil a w:=h
end Go.Proofs.YtpljannolpapgaaGreatDoor
namespace Go.Proofs.YtpljannolpapgaaGreatDoor.Qz
open Go Go.RowKit Qw
section
variable {P:Program}{ops:Array Oper}{l:List Oper}{md:Region.Mode}{S:World->Prop}{Q:Exit->Act->World->Prop}{late:Nat->Bool}
def wpAnyL(P:Program)(md:Region.Mode)(ops:Array Oper)(Q:Exit->Act->World->Prop)(S:World->Prop)(late:Nat->Bool):Nat->Array Bool->Act->World->Prop
 | 0,listed,a,w=>Region.ready md ops listed=[]/\Q .normal a w
 | fuel+1,listed,a,w=>
  (Region.ready md ops listed=[]->Q .normal a w)/\
  ∀i∈Region.ready md ops listed,wpOp P ops Q i (fun a' w'=>(late i=false->S w')/\wpAnyL P md ops Q S late fuel (listed.setIfInBounds i true) a' w') a w
theorem yf:∀(fuel:Nat) (listed:Array Bool) (a:Act) (w:World),wpAnyL P md ops Q S late fuel listed a w->wpAny P md ops Q fuel listed a w
 | 0,_,_,_,h=>h
 | fuel+1,_,_,_,h=>⟨h.1,fun i hi=>wpOp_mono (fun a' w' h'=>yf fuel _ a' w' h'.2) (h.2 i hi)⟩
def kS(md:Region.Mode)(ops:Array Oper)(listed:Array Bool):Prop:=∀(k:Nat) (ok:Oper),ops[k]?=some ok->listed.getD k false=true->∀e∈ok.after,Region.binds md e=true->listed.getD e.on false=true
theorem kS.set {listed:Array Bool}(h:kS md ops listed){j:Nat}(hj:j∈Region.ready md ops listed):kS md ops (listed.setIfInBounds j true):=fun k ok hk hl e he hb=>by
 refine getD_set_true ?_;by_cases hjk:j=k
 ·subst hjk;obtain⟨_,o,ho,ad⟩:=mem_ready.1 hj;rw[hk] at ho;injection ho with ho
  subst ho;exact ad e he hb
 ·rw[getD_set_ne false hjk] at hl;exact h k ok hk hl e he hb
theorem Ay(n:Nat):kS md ops (Array.replicate n false):=fun k _ _ hl=>by
 exfalso
 rw[Array.getD_eq_getD_getElem?,Array.getElem?_replicate] at hl;split at hl<;>simp at hl
def kC(md:Region.Mode)(ops:Array Oper)(i:Nat):Nat->Nat->Bool
 | 0,_=>false
 | n+1,j=>match ops[j]? with
  | some o=>o.after.any fun e=>Region.binds md e && (e.on==i || kC md ops i n e.on)
  | none=>false
theorem xR {listed:Array Bool}(hc:kS md ops listed){i:Nat}:∀(n j:Nat) (oj:Oper),kC md ops i n j=true->ops[j]?=some oj->(∀e∈oj.after,Region.binds md e=true->listed.getD e.on false=true)->listed.getD i false=true
 | 0,_,_,h,_,_=>by simp[kC] at h
 | n+1,j,oj,h,hj,hall=>by
  simp only[kC,hj,Array.any_eq_true'] at h;obtain⟨e,he,hb⟩:=h;simp only[aI,Bool.or_eq_true,beq_iff_eq] at hb;have h1:=hall e he hb.1;rcases hb.2 with h2 | h2
  ·rw[<-h2];exact h1
  ·cases ho:ops[e.on]? with
   | none=>
    cases n with
    | zero=>simp[kC] at h2
    | succ n=>simp[kC,ho] at h2
   | some o=>exact xR hc n e.on o h2 ho (hc e.on o ho h1)
theorem Ck {listed:Array Bool}{i:Nat}(h0:listed.getD i true=false)(h1:listed.getD i false=true):False:=by
 rcases bW i listed.size with h' | h'
 ·simp[h'] at h0 h1;rw[h0] at h1;cases h1
 ·simp[Array.getElem?_eq_none h'] at h1
theorem Fa {i:Nat}{oi:Oper}{v:Value}(hi:ops[i]?=some oi)(hsel:∀(j:Nat) (o:Oper) cs b,ops[j]?=some o->o.op≠ .select cs b)
 (hQ:∀c a w,Q (.panic c) (a.put oi.dst v) w->Q (.panic c) a w)
 (hlate:∀j oj,ops[j]?=some oj->late j=true->kC md ops i 8 j=true):
 ∀(ai:Nat) (ad:Array Bool) (a:Act) (w:World),kS md ops ad->
  (∀j oj,ops[j]?=some oj->j≠i->ad.getD j true=false->(∀e∈oj.after,Region.binds md e=true->e.on≠i)->oi.apart ops oj=true)->
  i∈Region.ready md ops ad->YieldsIf P ops S oi v a->S w->
  wpAnyL P md ops Q S late ai (ad.setIfInBounds i true) (a.put oi.dst v) w->wpAnyL P md ops Q S late (ai+1) ad a w:=by
 intro ai;induction ai with
 | zero=>
  intro ad a w _ _ hr hy hS H;refine⟨fun h=>(by rw[h] at hr;cases hr),fun j hj=>?_⟩;by_cases hji:j=i
  ·subst hji;exact hy.wpOp hi hS ⟨fun _=>hS,H⟩
  ·have:=ready_mono hj hji;rw[H.1] at this;cases this
 | succ ai ih=>
  intro ad a w hcl hfree hr hy hS H;refine⟨fun h=>(by rw[h] at hr;cases hr),fun j hj=>?_⟩;by_cases hji:j=i
  ·subst hji;exact hy.wpOp hi hS ⟨fun _=>hS,H⟩
  ·have h1:=H.2 j (ready_mono hj hji);obtain⟨ar,oj,al,an⟩:=mem_ready.1 hj;have a1:∀e∈oj.after,Region.binds md e=true->e.on≠i:=fun e he hb heq=>by
    have h1:=an e he hb;have h0:=(mem_ready.1 hr).1;rw[heq] at h1;rcases bW i ad.size with h' | h'
    ·simp[h'] at h0 h1;rw[h0] at h1;cases h1
    ·simp[Array.getElem?_eq_none h'] at h1
   have a0:late j=false:=by
    cases hc:late j with
    | false=>rfl
    | true=>exact(Ck (mem_ready.1 hr).1 (xR hcl 8 j oj (hlate j oj al hc) al an)).elim
   have h2:=wpOp_putIf al (hfree j oj al hji ar a1) (fun cs b=>hsel i oi cs b hi) (fun cs b=>hsel j oj cs b al) hQ hy h1;have au:∀k ok,ops[k]?=some ok->k≠i->(ad.setIfInBounds j true).getD k true=false->
    (∀e∈ok.after,Region.binds md e=true->e.on≠i)->oi.apart ops ok=true:=fun k ok hk hki hun hno=>by
    refine hfree k ok hk hki ?_ hno;by_cases hjk:j=k
    ·subst hjk;exact ar
    ·rw[getD_set_ne true hjk] at hun;exact hun
   refine wpOp_mono (fun a' w' h3=>⟨h3.2.1,ih (ad.setIfInBounds j true) a' w' (hcl.set hj) au (ready_mono hr (Ne.symm hji)) h3.1 (h3.2.1 a0) ?_⟩) h2;rw[Array.setIfInBounds_comm _ _ hji];exact h3.2.2
def sW(md:Region.Mode)(ops:Array Oper)(late:Nat->Bool)(i:Nat):Bool:=
 !(late i) && (List.range ops.size).all fun j=> !(late j) || kC md ops i 8 j
theorem EU {i:Nat}(h:sW md ops late i=true):∀j oj,ops[j]?=some oj->late j=true->kC md ops i 8 j=true:=fun j oj hj hl=>by
 simp only[sW,aI,List.all_eq_true] at h;simpa[hl] using h.2 j (bw.2 (gl hj))
def fI(P:Program)(l:List Oper)(Q:Exit->Act->World->Prop)(S:World->Prop)(late:Nat->Bool):Plan->Act->World->Prop
 | .nil,a,w=>Q .normal a w
 | .take i p,a,w=>∃o,l[i]?=some o/\∃v,YieldsIf P l.toArray S o v a/\fI P l Q S late p (a.put o.dst v) w
 | .go i p,a,w=>∃o,l[i]?=some o/\Region.wanted o (yielded l.toArray a.tmps)=true/\o.wp P a w (fun a' w'=>(late i=false->S w')/\fI P l Q S late p a' w') Q
 | .two i j p q,a,w=>(∃o,l[i]?=some o/\Region.wanted o (yielded l.toArray a.tmps)=true/\o.wp P a w (fun a' w'=>(late i=false->S w')/\fI P l Q S late p a' w') Q)/\
  (∃o,l[j]?=some o/\Region.wanted o (yielded l.toArray a.tmps)=true/\o.wp P a w (fun a' w'=>(late j=false->S w')/\fI P l Q S late q a' w') Q)
def jU(md:Region.Mode)(ops:Array Oper)(late:Nat->Bool):Plan->Bool->Array Bool->Bool
 | .nil,_,listed=>(Region.ready md ops listed).isEmpty
 | .take i p,k,listed=>k && (Region.ready md ops listed).contains i && Region.free md ops listed i && sW md ops late i && jU md ops late p k (listed.setIfInBounds i true)
 | .go i p,k,listed=>decide (Region.ready md ops listed=[i]) && jU md ops late p (k && !(late i)) (listed.setIfInBounds i true)
 | .two i j p q,k,listed=>decide (Region.ready md ops listed=[i,j]) && decide (p.len=q.len) && jU md ops late p (k && !(late i)) (listed.setIfInBounds i true) && jU md ops late q (k && !(late j)) (listed.setIfInBounds j true)
theorem qG {k b:Bool}(e:(k && !b)=true):b=false:=by cases b<;>simp_all
theorem wpAnyL_plan(hsel:Region.noSelect l.toArray=true)(hQ:∀d v c a w,Q (.panic c) (Act.put a d v) w->Q (.panic c) a w):
 ∀(p:Plan) (k:Bool) (listed:Array Bool) (a:Act) (w:World),kS md l.toArray listed->jU md l.toArray late p k listed=true->(k=true->S w)->fI P l Q S late p a w->wpAnyL P md l.toArray Q S late p.len listed a w
 | .nil,_,_,_,_,_,hB,_,h=>⟨by simpa[jU] using hB,h⟩
 | .take i p,k,listed,a,w,hcl,hB,hS,h=>by
  simp only[jU,aI] at hB;obtain⟨⟨⟨⟨hk,hr⟩,hf⟩,hw⟩,an⟩:=hB;obtain⟨o,h0,v,hy,hK⟩:=h;have ad:l.toArray[i]?=some o:=by simpa using h0
  exact Fa ad (Region.noSelect_spec hsel) (fun c a w=>hQ _ _ c a w) (EU hw) _ listed a w hcl (Region.free_spec ad hf) (by simpa using hr) hy (hS hk) (wpAnyL_plan hsel hQ p k _ _ _ (hcl.set (by simpa using hr)) an hS hK)
 | .go j p,k,listed,a,w,hcl,hB,hS,h=>by
  simp only[jU,aI,decide_eq_true_eq] at hB;refine⟨fun h1=>(by rw[hB.1] at h1;cases h1),fun i hi=>?_⟩;have ar:=hi;rw[hB.1] at hi;have au:i=j:=by simpa using hi
  subst au;have ai:=fun a' w' (hs:late i=false->S w') (hq:fI P l Q S late p a' w')=>wpAnyL_plan hsel hQ p (k && !(late i)) (listed.setIfInBounds i true) a' w' (hcl.set ar) hB.2 (fun e=>hs (qG e)) hq;obtain⟨o,h0,hw,hh⟩:=h;have ad:l.toArray[i]?=some o:=by simpa using h0
  unfold wpOp;simp only[ad,hw,if_true];exact .inl (Oper.wp_mono (fun a' w' h'=>⟨h'.1,ai a' w' h'.1 h'.2⟩) hh)
 | .two i j p q,k,listed,a,w,hcl,hB,hS,h=>by
  simp only[jU,aI,decide_eq_true_eq] at hB;obtain⟨⟨⟨hr,a0⟩,hp⟩,hq⟩:=hB;refine⟨fun h1=>(by rw[hr] at h1;cases h1),fun m hm=>?_⟩;have al:=hm;rw[hr] at hm;have a1:m=i\/m=j:=by simpa using hm
  rcases a1 with rfl | rfl
  ·have ai:=fun a' w' (hs:late m=false->S w') (hq':fI P l Q S late p a' w')=>wpAnyL_plan hsel hQ p (k && !(late m)) (listed.setIfInBounds m true) a' w' (hcl.set al) hp (fun e=>hs (qG e)) hq';obtain⟨o,h0,hw,hh⟩:=h.1;have ad:l.toArray[m]?=some o:=by simpa using h0
   unfold wpOp;simp only[ad,hw,if_true];exact .inl (Oper.wp_mono (fun a' w' h'=>⟨h'.1,ai a' w' h'.1 h'.2⟩) hh)
  ·have ai:=fun a' w' (hs:late m=false->S w') (hq':fI P l Q S late q a' w')=>wpAnyL_plan hsel hQ q (k && !(late m)) (listed.setIfInBounds m true) a' w' (hcl.set al) hq (fun e=>hs (qG e)) hq';rw[<-a0] at ai;obtain⟨o,h0,hw,hh⟩:=h.2;have ad:l.toArray[m]?=some o:=by simpa using h0
   unfold wpOp;simp only[ad,hw,if_true];exact .inl (Oper.wp_mono (fun a' w' h'=>⟨h'.1,ai a' w' h'.1 h'.2⟩) hh)
def vt(md:Region.Mode)(ops:Array Oper)(late:Nat->Bool)(p:Plan):Bool:=
 Region.noSelect ops && decide (p.len=ops.size) && jU md ops late p true (Array.replicate ops.size false)
end
end Qz
open Qw Qz
theorem nG {P:Program}{id:Nat}{Q:Exit->Act->World->Prop}{a:Act}{w:World}{l:List Oper}(I:World->Prop)(late:Nat->Bool)(p:Plan)(hm:P.follows .mixedOrders=true)(hB:vt .any l.toArray late p=true)
 (hI:I w.drew) (h:fI P l (NoPanic Q) (FG I) late p a w.drew):(Code.region id l.toArray true).wp P Q a w:=by
 simp only[vt,aI,decide_eq_true_eq] at hB;obtain⟨⟨ai,hn⟩,ad⟩:=hB;have hS:FG I w.drew:=⟨⟨_,hI⟩,rfl⟩;refine wp_region_noPanic (wp_region_any hm (yf (S:=FG I) (late:=late) _ _ _ _ ?_));have:=wpAnyL_plan (md:=.any) (Q:=NoPanic Q) ai (fun _ _ _ _ _ h=>(h:False).elim) p true _ a w.drew (Ay _) ad (fun _=>hS) h;rw[hn] at this;exact this
theorem DA {P:Program}{l:List Oper}{I:World->Prop}{late:Nat->Bool}{Q:Exit->Act->World->Prop}{i:Nat}{p:Plan}{a:Act}{w:World}(o:Oper)(ho:l[i]?=some o)(v:Value)(hw:Region.wanted o (yielded l.toArray a.tmps)=true)(hr:∀w,FG I w->(execOp a.eval o).run P w=.ok (.value v) w)
 (h:fI P l Q (FG I) late p (a.put o.dst v) w):fI P l Q (FG I) late (.take i p) a w:=⟨o,ho,v,aa ⟨hw,hr⟩,h⟩
theorem qT {P:Program}{l:List Oper}{I:World->Prop}{Q:Exit->Act->World->Prop}{late:Nat->Bool}{i:Nat}{p:Plan}{a:Act}{w:World}{o:Oper}{v:Value}(hr:∀x:Fq I,(execOp a.eval o).run P x.to=.ok (.value v) x.to)(h:fI P l Q (FG I) late p (a.put o.dst v) w)(ho:l[i]?=some o:=by rfl)(hw:Region.wanted o (yielded l.toArray a.tmps)=true:=by rfl):fI P l Q (FG I) late (.take i p) a w:=DA o ho v hw (fun _ g=>by obtain⟨x,rfl⟩:=g;exact hr x) h
theorem Dy {P:Program}{l:List Oper}{Q:Exit->Act->World->Prop}{I:World->Prop}{late:Nat->Bool}{i:Nat}{p:Plan}{a:Act}{w:World}(o:Oper)(ho:l[i]?=some o)(hw:Region.wanted o (yielded l.toArray a.tmps)=true)
 (h:∀K':Act->World->Prop,Shut (∀a w,I w->fI P l Q (FG I) late p a w->K' a w)->Oper.wp P o a w K' Q):fI P l Q (FG I) late (.go i p) a w:=
 ⟨o,ho,hw,h _ (fun _ _ hI hs=>⟨fun _=>⟨⟨_,hI⟩,rfl⟩,hs⟩)⟩
theorem qD {P:Program}{l:List Oper}{I:World->Prop}{Q:Exit->Act->World->Prop}{late:Nat->Bool}{i:Nat}{p:Plan}{a:Act}{w:World}{o:Oper}(h:∀K':Act->World->Prop,Shut (∀a w,I w->fI P l Q (FG I) late p a w->K' a w)->Oper.wp P o a w K' Q)(ho:l[i]?=some o:=by rfl)(hw:Region.wanted o (yielded l.toArray a.tmps)=true:=by rfl):fI P l Q (FG I) late (.go i p) a w:=Dy o ho hw h
theorem Dz {P:Program}{l:List Oper}{Q:Exit->Act->World->Prop}{I:World->Prop}{late:Nat->Bool}{i:Nat}{p:Plan}{a:Act}{w:World}(o:Oper)(ho:l[i]?=some o)(hl:late i=true)(hw:Region.wanted o (yielded l.toArray a.tmps)=true)
 (h:∀K':Act->World->Prop,Shut (∀a w,True->fI P l Q (FG I) late p a w->K' a w)->Oper.wp P o a w K' Q):fI P l Q (FG I) late (.go i p) a w:=
 ⟨o,ho,hw,h _ (fun _ _ _ hs=>⟨fun e=>(by rw[hl] at e;cases e),hs⟩)⟩
theorem qL {P:Program}{l:List Oper}{I:World->Prop}{Q:Exit->Act->World->Prop}{late:Nat->Bool}{i:Nat}{p:Plan}{a:Act}{w:World}{o:Oper}(h:∀K':Act->World->Prop,Shut (∀a w,True->fI P l Q (FG I) late p a w->K' a w)->Oper.wp P o a w K' Q)(ho:l[i]?=some o:=by rfl)(hl:late i=true:=by rfl)(hw:Region.wanted o (yielded l.toArray a.tmps)=true:=by rfl):fI P l Q (FG I) late (.go i p) a w:=Dz o ho hl hw h
theorem Jh {P:Program}{l:List Oper}{Q:Exit->Act->World->Prop}{I:World->Prop}{late:Nat->Bool}{i j:Nat}{p q:Plan}{a:Act}{w:World}(h1:fI P l Q (FG I) late (.go i p) a w)(h2:fI P l Q (FG I) late (.go j q) a w):fI P l Q (FG I) late (.two i j p q) a w:=⟨h1,h2⟩
theorem jd {P:Program}{l:List Oper}{Q:Exit->Act->World->Prop}{S:World->Prop}{late:Nat->Bool}{a:Act}{w:World}(h:Q .normal a w):fI P l (NoPanic Q) S late .nil a w:=h
end Go.Proofs.YtpljannolpapgaaGreatDoor
namespace Go.Proofs.YtpljannolpapgaaGreatDoor.Qc
open Go Go.RowKit
inductive Plan where
 | nil
 | take (i:Nat) (p:Plan)
 | go (i:Nat) (p:Plan)
 | two (i j:Nat) (p q:Plan)
 | three (i j k:Nat) (p q r:Plan)
def Plan.len:Plan->Nat
 | .nil=>0
 | .take _ p=>p.len+1
 | .go _ p=>p.len+1
 | .two _ _ p _=>p.len+1
 | .three _ _ _ p _ _=>p.len+1
section
variable {P:Program}{l:List Oper}{md:Region.Mode}{S:World->Prop}{Q:Exit->Act->World->Prop}
def wpPlan(P:Program)(l:List Oper)(Q:Exit->Act->World->Prop)(S:World->Prop):Plan->Act->World->Prop
 | .nil,a,w=>Q .normal a w
 | .take i p,a,w=>∃o,l[i]?=some o/\∃v,YieldsIf P l.toArray S o v a/\wpPlan P l Q S p (a.put o.dst v) w
 | .go i p,a,w=>∃o,l[i]?=some o/\Region.wanted o (yielded l.toArray a.tmps)=true/\o.wp P a w (fun a' w'=>S w'/\wpPlan P l Q S p a' w') Q
 | .two i j p q,a,w=>(∃o,l[i]?=some o/\Region.wanted o (yielded l.toArray a.tmps)=true/\o.wp P a w (fun a' w'=>S w'/\wpPlan P l Q S p a' w') Q)/\
  (∃o,l[j]?=some o/\Region.wanted o (yielded l.toArray a.tmps)=true/\o.wp P a w (fun a' w'=>S w'/\wpPlan P l Q S q a' w') Q)
 | .three i j k p q r,a,w=>(∃o,l[i]?=some o/\Region.wanted o (yielded l.toArray a.tmps)=true/\o.wp P a w (fun a' w'=>S w'/\wpPlan P l Q S p a' w') Q)/\
  (∃o,l[j]?=some o/\Region.wanted o (yielded l.toArray a.tmps)=true/\o.wp P a w (fun a' w'=>S w'/\wpPlan P l Q S q a' w') Q)/\
  (∃o,l[k]?=some o/\Region.wanted o (yielded l.toArray a.tmps)=true/\o.wp P a w (fun a' w'=>S w'/\wpPlan P l Q S r a' w') Q)
def fG(md:Region.Mode)(ops:Array Oper):Plan->Array Bool->Bool
 | .nil,listed=>(Region.ready md ops listed).isEmpty
 | .take i p,listed=>(Region.ready md ops listed).contains i && Region.free md ops listed i && fG md ops p (listed.setIfInBounds i true)
 | .go i p,listed=>decide (Region.ready md ops listed=[i]) && fG md ops p (listed.setIfInBounds i true)
 | .two i j p q,listed=>decide (Region.ready md ops listed=[i,j]) && decide (p.len=q.len) && fG md ops p (listed.setIfInBounds i true) && fG md ops q (listed.setIfInBounds j true)
 | .three i j k p q r,listed=>decide (Region.ready md ops listed=[i,j,k]) && decide (p.len=q.len) && decide (p.len=r.len) && fG md ops p (listed.setIfInBounds i true) && fG md ops q (listed.setIfInBounds j true) && fG md ops r (listed.setIfInBounds k true)
theorem wpAnyH_plan(hsel:Region.noSelect l.toArray=true)(hQ:∀d v c a w,Q (.panic c) (Act.put a d v) w->Q (.panic c) a w):
 ∀(p:Plan) (listed:Array Bool) (a:Act) (w:World),fG md l.toArray p listed=true->S w->wpPlan P l Q S p a w->wpAnyH P md l.toArray Q S p.len listed a w
 | .nil,_,_,_,hB,_,h=>⟨by simpa[fG] using hB,h⟩
 | .take i p,listed,a,w,hB,hS,h=>by
  simp only[fG,aI] at hB;obtain⟨⟨hr,hf⟩,ar⟩:=hB;obtain⟨o,h0,v,hy,hK⟩:=h;have ai:l.toArray[i]?=some o:=by simpa using h0
  exact wpAnyH_take ai hsel hf hr (fun c a w=>hQ _ _ c a w) hy hS (wpAnyH_plan hsel hQ p _ _ _ ar hS hK)
 | .go j p,listed,a,w,hB,hS,h=>by
  simp only[fG,aI,decide_eq_true_eq] at hB;refine⟨fun h1=>(by rw[hB.1] at h1;cases h1),fun i hi=>?_⟩;rw[hB.1] at hi;have au:i=j:=by simpa using hi
  subst au;have ad:=fun a' w' (hs:S w') (hq:wpPlan P l Q S p a' w')=>wpAnyH_plan hsel hQ p (listed.setIfInBounds i true) a' w' hB.2 hs hq;obtain⟨o,h0,hw,hh⟩:=h;have ai:l.toArray[i]?=some o:=by simpa using h0
  unfold wpOp;simp only[ai,hw,if_true];exact .inl (Oper.wp_mono (fun a' w' h'=>⟨h'.1,ad a' w' h'.1 h'.2⟩) hh)
 | .two i j p q,listed,a,w,hB,hS,h=>by
  simp only[fG,aI,decide_eq_true_eq] at hB;obtain⟨⟨⟨hr,an⟩,hp⟩,hq⟩:=hB;refine⟨fun h1=>(by rw[hr] at h1;cases h1),fun k hk=>?_⟩;rw[hr] at hk;have al:k=i\/k=j:=by simpa using hk
  rcases al with rfl | rfl
  ·have ad:=fun a' w' (hs:S w') (hq':wpPlan P l Q S p a' w')=>wpAnyH_plan hsel hQ p (listed.setIfInBounds k true) a' w' hp hs hq';obtain⟨o,h0,hw,hh⟩:=h.1;have ai:l.toArray[k]?=some o:=by simpa using h0
   unfold wpOp;simp only[ai,hw,if_true];exact .inl (Oper.wp_mono (fun a' w' h'=>⟨h'.1,ad a' w' h'.1 h'.2⟩) hh)
  ·have ad:=fun a' w' (hs:S w') (hq':wpPlan P l Q S q a' w')=>wpAnyH_plan hsel hQ q (listed.setIfInBounds k true) a' w' hq hs hq';rw[<-an] at ad;obtain⟨o,h0,hw,hh⟩:=h.2;have ai:l.toArray[k]?=some o:=by simpa using h0
   unfold wpOp;simp only[ai,hw,if_true];exact .inl (Oper.wp_mono (fun a' w' h'=>⟨h'.1,ad a' w' h'.1 h'.2⟩) hh)
 | .three i j m p q r,listed,a,w,hB,hS,h=>by
  simp only[fG,aI,decide_eq_true_eq] at hB;obtain⟨⟨⟨⟨⟨hr,an⟩,a0⟩,hp⟩,hq⟩,a1⟩:=hB;refine⟨fun h1=>(by rw[hr] at h1;cases h1),fun k hk=>?_⟩;rw[hr] at hk;have al:k=i\/k=j\/k=m:=by simpa using hk
  rcases al with rfl | rfl | rfl
  ·have ad:=fun a' w' (hs:S w') (hq':wpPlan P l Q S p a' w')=>wpAnyH_plan hsel hQ p (listed.setIfInBounds k true) a' w' hp hs hq';obtain⟨o,h0,hw,hh⟩:=h.1;have ai:l.toArray[k]?=some o:=by simpa using h0
   unfold wpOp;simp only[ai,hw,if_true];exact .inl (Oper.wp_mono (fun a' w' h'=>⟨h'.1,ad a' w' h'.1 h'.2⟩) hh)
  ·have ad:=fun a' w' (hs:S w') (hq':wpPlan P l Q S q a' w')=>wpAnyH_plan hsel hQ q (listed.setIfInBounds k true) a' w' hq hs hq';rw[<-an] at ad;obtain⟨o,h0,hw,hh⟩:=h.2.1;have ai:l.toArray[k]?=some o:=by simpa using h0
   unfold wpOp;simp only[ai,hw,if_true];exact .inl (Oper.wp_mono (fun a' w' h'=>⟨h'.1,ad a' w' h'.1 h'.2⟩) hh)
  ·have ad:=fun a' w' (hs:S w') (hq':wpPlan P l Q S r a' w')=>wpAnyH_plan hsel hQ r (listed.setIfInBounds k true) a' w' a1 hs hq';rw[<-a0] at ad;obtain⟨o,h0,hw,hh⟩:=h.2.2;have ai:l.toArray[k]?=some o:=by simpa using h0
   unfold wpOp;simp only[ai,hw,if_true];exact .inl (Oper.wp_mono (fun a' w' h'=>⟨h'.1,ad a' w' h'.1 h'.2⟩) hh)
def lexPlanB(md:Region.Mode)(ops:Array Oper)(p:Plan):Bool:=
 Region.noSelect ops && decide (p.len=ops.size) && fG md ops p (Array.replicate ops.size false)
end
end Qc
theorem Fi {P:Program}{id:Nat}{Q:Exit->Act->World->Prop}{a:Act}{w:World}{l:List Oper}(I:World->Prop)(p:Qc.Plan)(hm:P.follows .mixedOrders=true)(hB:Qc.lexPlanB .any l.toArray p=true)
 (hI:I w.drew) (h:Qc.wpPlan P l (NoPanic Q) (FG I) p a w.drew):(Code.region id l.toArray true).wp P Q a w:=by
 simp only[Qc.lexPlanB,aI,decide_eq_true_eq] at hB;obtain⟨⟨ai,hn⟩,ad⟩:=hB;have hS:FG I w.drew:=⟨⟨_,hI⟩,rfl⟩;refine wp_region_noPanic (wp_region_held_drew (S:=FG I) hm hS (fun _=>?_));have:=Qc.wpAnyH_plan (md:=.any) (Q:=NoPanic Q) ai (fun _ _ _ _ _ h=>(h:False).elim) p _ a w.drew ad hS h;rw[hn] at this;exact this
theorem Dw {P:Program}{l:List Oper}{I:World->Prop}{Q:Exit->Act->World->Prop}{i:Nat}{p:Qc.Plan}{a:Act}{w:World}(o:Oper)(ho:l[i]?=some o)(v:Value)(hw:Region.wanted o (yielded l.toArray a.tmps)=true)(hr:∀w,FG I w->(execOp a.eval o).run P w=.ok (.value v) w)
 (h:Qc.wpPlan P l Q (FG I) p (a.put o.dst v) w):Qc.wpPlan P l Q (FG I) (.take i p) a w:=⟨o,ho,v,aa ⟨hw,hr⟩,h⟩
theorem lq {P:Program}{l:List Oper}{I:World->Prop}{Q:Exit->Act->World->Prop}{i:Nat}{p:Qc.Plan}{a:Act}{w:World}{o:Oper}{v:Value}(hr:∀x:Fq I,(execOp a.eval o).run P x.to=.ok (.value v) x.to)(h:Qc.wpPlan P l Q (FG I) p (a.put o.dst v) w)(ho:l[i]?=some o:=by rfl)(hw:Region.wanted o (yielded l.toArray a.tmps)=true:=by rfl):Qc.wpPlan P l Q (FG I) (.take i p) a w:=Dw o ho v hw (fun _ g=>by obtain⟨x,rfl⟩:=g;exact hr x) h
theorem Dv {P:Program}{l:List Oper}{Q:Exit->Act->World->Prop}{I:World->Prop}{i:Nat}{p:Qc.Plan}{a:Act}{w:World}(o:Oper)(ho:l[i]?=some o)(hw:Region.wanted o (yielded l.toArray a.tmps)=true)
 (h:∀K':Act->World->Prop,Shut (∀a w,I w->Qc.wpPlan P l Q (FG I) p a w->K' a w)->Oper.wp P o a w K' Q):Qc.wpPlan P l Q (FG I) (.go i p) a w:=
 ⟨o,ho,hw,h _ (fun _ _ hI hs=>⟨⟨⟨_,hI⟩,rfl⟩,hs⟩)⟩
theorem eG {P:Program}{l:List Oper}{I:World->Prop}{Q:Exit->Act->World->Prop}{i:Nat}{p:Qc.Plan}{a:Act}{w:World}{o:Oper}(h:∀K':Act->World->Prop,Shut (∀a w,I w->Qc.wpPlan P l Q (FG I) p a w->K' a w)->Oper.wp P o a w K' Q)(ho:l[i]?=some o:=by rfl)(hw:Region.wanted o (yielded l.toArray a.tmps)=true:=by rfl):Qc.wpPlan P l Q (FG I) (.go i p) a w:=Dv o ho hw h
theorem rP {P:Program}{l:List Oper}{Q:Exit->Act->World->Prop}{I:World->Prop}{i j:Nat}{p q:Qc.Plan}{a:Act}{w:World}(h1:Qc.wpPlan P l Q (FG I) (.go i p) a w)(h2:Qc.wpPlan P l Q (FG I) (.go j q) a w):Qc.wpPlan P l Q (FG I) (.two i j p q) a w:=⟨h1,h2⟩
theorem Dx {P:Program}{l:List Oper}{Q:Exit->Act->World->Prop}{I:World->Prop}{i j k:Nat}{p q r:Qc.Plan}{a:Act}{w:World}(h1:Qc.wpPlan P l Q (FG I) (.go i p) a w)(h2:Qc.wpPlan P l Q (FG I) (.go j q) a w)(h3:Qc.wpPlan P l Q (FG I) (.go k r) a w):Qc.wpPlan P l Q (FG I) (.three i j k p q r) a w:=⟨h1,h2,h3⟩
theorem dX {P:Program}{l:List Oper}{Q:Exit->Act->World->Prop}{S:World->Prop}{a:Act}{w:World}(h:Q .normal a w):Qc.wpPlan P l (NoPanic Q) S .nil a w:=h
