/- What walks, joined trees and their parts compute, where all is well (none: not looked at here): plain Lean, no program in sight. -/
import Derived.Test.YtpljannolpapgaaGreatDoorVTa
import Derived.Test.YtpljannolpapgaaGreatDoorVQu
set_option maxRecDepth 100000
namespace Go.Proofs.YtpljannolpapgaaGreatDoor.Lf
def num(x:Nat):Option Nat:=match x / 4611686018427387904 with | 0=>some x | _+1=>none
def eE(S:St)(h:Nat):Option Nat:=num (mU S h)
def fY(S:St)(h:Nat):Option Nat:=num (sj S h)
def gD(S:St)(h:Nat):Option (List UInt8):=if(fz S h).2=8 then none else some (fz S h).1
def ij(S:St)(k:List UInt8):Nat->Nat->Nat->Option (Nat×Nat)
 | 0,_,below=>some (0,below)
 | f+1,root,below=>
  if root=0 then some (0,below)
  else if(getNode S root).2≠0 then some (0,below)
  else match gD S (getNode S root).1.key with
   | none=>none
   | some t=>
    if Fu k t<0 then ij S k f (getNode S root).1.left below
    else match fY S (getNode S root).1.left with
     | none=>none
     | some z=>
      if 0<Fu k t then(match num (below+(z+1)) with | none=>none | some b=>ij S k f (getNode S root).1.right b)
      else(match num (below+z) with | none=>none | some b=>some (root,b))
theorem AF(S:St)(k:List UInt8)(root below:Nat):ij S k 0 root below=some (0,below):=rfl
theorem n8(S:St)(k:List UInt8)(f root below:Nat):ij S k (f+1) root below=
 if root=0 then some (0,below)
 else if(getNode S root).2≠0 then some (0,below)
 else match gD S (getNode S root).1.key with
  | none=>none
  | some t=>
   if Fu k t<0 then ij S k f (getNode S root).1.left below
   else match fY S (getNode S root).1.left with
    | none=>none
    | some z=>
     if 0<Fu k t then(match num (below+(z+1)) with | none=>none | some b=>ij S k f (getNode S root).1.right b)
     else(match num (below+z) with | none=>none | some b=>some (root,b)):=rfl
def oP(S:St)(root:Nat)(k:List UInt8):Option Nat:=(ij S k (limit S) root 0).map (·.2)
def j8(S:St):Nat->Nat->Nat->Option (Nat×Nat)
 | 0,_,_=>some (0,2)
 | f+1,root,k=>
  if(getNode S root).2≠0 then some (0,2)
  else match fY S (getNode S root).1.left with
   | none=>none
   | some z=>
    if k<z then j8 S f (getNode S root).1.left k
    else if z<k then j8 S f (getNode S root).1.right (k-(z+1))
    else some (root,0)
theorem yK(S:St)(root k:Nat):j8 S 0 root k=some (0,2):=rfl
theorem tF(S:St)(f root k:Nat):j8 S (f+1) root k=
 if(getNode S root).2≠0 then some (0,2)
 else match fY S (getNode S root).1.left with
  | none=>none
  | some z=>
   if k<z then j8 S f (getNode S root).1.left k
   else if z<k then j8 S f (getNode S root).1.right (k-(z+1))
   else some (root,0):=rfl
def kD(S:St)(root k:Nat):Option (Nat×Nat):=
 match fY S root with
 | none=>none
 | some z=>if z<=k then some (0,2) else j8 S (limit S) root k
def fu(S:St)(n:Nd)(h l r:Nat):Option St:=
 match eE S l,eE S r,fY S l,fY S r with
 | some a,some b,some x,some y=>some (gM S h { n with left:=l,right:=r,mark:=max a b+1,size:=x+y+1 }).2
 | _,_,_,_=>none
def isT(S:St)(h:Nat):Bool:=h=0 || (getNode S h).2=0
abbrev Jn:=St->Nat->Nat->Nat->Option ((Nat×Nat)×St)
def jq(jn:Jn)(S:St)(l m r:Nat):Option (Nat×St):=
 (jn S l m r).map fun x=>(if x.1.2=0 then x.1.1 else m,x.2)
def kr(jn:Jn)(key:List UInt8):Nat->St->Nat->Option ((Nat×Nat×Nat)×St)
 | 0,S,_=>some ((0,0,0),S)
 | f+1,S,root=>
  if root=0 then some ((0,0,0),S)
  else match gD S (getNode S root).1.key with
   | none=>none
   | some k=>
    if Fu key k<0 then
     match kr jn key f S (getNode S root).1.left with
     | none=>none
     | some ((l,m,r),S1)=>(jq jn S1 r root (getNode S root).1.right).map fun x=>((l,m,x.1),x.2)
    else if 0<Fu key k then
     match kr jn key f S (getNode S root).1.right with
     | none=>none
     | some ((l,m,r),S1)=>(jq jn S1 (getNode S root).1.left root l).map fun x=>((x.1,m,r),x.2)
    else some (((getNode S root).1.left,root,(getNode S root).1.right),S)
theorem wZ(jn:Jn)(key:List UInt8)(S:St)(root:Nat):kr jn key 0 S root=some ((0,0,0),S):=rfl
theorem sk(jn:Jn)(key:List UInt8)(f:Nat)(S:St)(root:Nat):kr jn key (f+1) S root=
 if root=0 then some ((0,0,0),S)
 else match gD S (getNode S root).1.key with
  | none=>none
  | some k=>
   if Fu key k<0 then
    match kr jn key f S (getNode S root).1.left with
    | none=>none
    | some ((l,m,r),S1)=>(jq jn S1 r root (getNode S root).1.right).map fun x=>((l,m,x.1),x.2)
   else if 0<Fu key k then
    match kr jn key f S (getNode S root).1.right with
    | none=>none
    | some ((l,m,r),S1)=>(jq jn S1 (getNode S root).1.left root l).map fun x=>((x.1,m,r),x.2)
   else some (((getNode S root).1.left,root,(getNode S root).1.right),S):=rfl
end Go.Proofs.YtpljannolpapgaaGreatDoor.Lf
namespace Go.Proofs.YtpljannolpapgaaGreatDoor.Qx
open Go Go.RowKit Qw Qu
def iI(Q:Exit->Act->World->Prop):Exit->Act->World->Prop
 | .normal,a,w=>Q .normal a w
 | _,_,_=>False
theorem iI.imp {Q:Exit->Act->World->Prop}:∀(e:Exit) (a:Act) (w:World),iI Q e a w->Q e a w:=fun e a w h=>by
 cases e<;>first | exact h | exact(h:False).elim
theorem iI.shut {Q:Exit->Act->World->Prop}:¬LetsOut (iI Q):=fun⟨_,_,h⟩=>h
theorem wM {n:Nat}{P:Program}{row:String}{args:Array Value}{w:World}{R:Value->World->Prop}(h:Rows P row args w R):RowsIn Fence.wide n P row args w R:=
 fun c cs _=>let ⟨v,w',r,s⟩:=h c cs;⟨v,w',r,stepsIn_wide.2 s⟩
section
variable {P:Program}{ops:Array Oper}{md:Region.Mode}{S:World->Prop}{Q:Exit->Act->World->Prop}{l n:Nat}
theorem Ff {o:Oper}{a:Act}{w:World}{K:Act->World->Prop}(hnd:∀c,o.op≠ .defer c)(h:o.wp P a w K Q):o.wpIn (Fence.wide.inRound l) n P a w K Q:=by
 refine⟨fun _ _=>trivial,?_⟩;rw[Oper.semAt_eq _ _ _ hnd];unfold Oper.wp at h;generalize (execOp a.eval o).run P w=r at h⊢
 cases r with
 | ok x w'=>
  cases x with
  | value v=>exact h
  | skip=>exact h
  | defer d=>exact h
  | enter f args=>exact⟨fun hd=>(by cases hd),(callsIn_wide.2 h:CallsIn Fence.wide (n-1) P f args w' _)⟩
  | row row args=>exact⟨fun hd=>(by cases hd),wM h⟩
  | _=>exact(h:False).elim
 | halt x w'=>
  cases x<;>first | exact h | exact(h:False).elim
theorem JE(hnd:kl ops=true)(hl:¬LetsOut Q):∀(fuel:Nat) (listed:Array Bool) (a:Act) (w:World),wpAnyH P md ops Q S fuel listed a w->wpAnyIn (Fence.wide.inRound l) n P md ops Q fuel listed a w
 | 0,_,_,_,h=>h
 | fuel+1,listed,a,w,h=>by
  refine⟨h.1,fun i hi=>?_⟩;have h2:=h.2 i hi;unfold wpOp at h2;unfold wpOpIn;split
  ·rename_i ho;simp only[ho] at h2;exact JE hnd hl fuel _ _ _ h2.2
  ·rename_i o ho;simp only[ho] at h2;split
   ·rename_i hw;simp only[hw,if_true] at h2;rcases h2 with h2 | h2
    ·exact Ff (rL hnd ho) (Oper.wp_mono (fun a' w' h'=>JE hnd hl fuel _ _ _ h'.2) h2)
    ·exact absurd h2.2 hl
   ·rename_i hw;simp only[hw] at h2;exact⟨fun _ _=>trivial,JE hnd hl fuel _ _ _ h2.2⟩
end
end Qx
open Qw Qu Qx
theorem yg {P:Program}{id r n:Nat}{Q:Exit->Act->World->Prop}{a:Act}{w:World}{l:List Oper}(I:World->Prop)(p:Plan)(hnd:kl l.toArray=true)(hm:P.follows .mixedOrders=true)(hB:lexPlanB .any l.toArray p=true)
 (hI:I w.drew) (h:wpPlan P l (iI Q) (FG I) p a w.drew):(Code.region id l.toArray true).wpIn (Fence.wide.inRound r) n P Q a w:=by
 simp only[lexPlanB,aI,decide_eq_true_eq] at hB;obtain⟨⟨ai,hn⟩,ad⟩:=hB;have hS:FG I w.drew:=⟨⟨_,hI⟩,rfl⟩;have:=wpAnyH_plan (md:=.any) (Q:=iI Q) ai (fun _ _ _ _ _ h=>(h:False).elim) p _ a w.drew ad hS h;rw[hn] at this;exact Code.wpIn_mono iI.imp (wpIn_region_any hm (JE hnd iI.shut _ _ _ _ this))
theorem jy {P:Program}{l:List Oper}{Q:Exit->Act->World->Prop}{S:World->Prop}{a:Act}{w:World}(h:Q .normal a w):wpPlan P l (iI Q) S .nil a w:=h
end Go.Proofs.YtpljannolpapgaaGreatDoor
namespace Go.Proofs.YtpljannolpapgaaGreatDoor.Qy
open Go Go.RowKit Qw Qu Qx Qz
section
variable {P:Program}{ops:Array Oper}{md:Region.Mode}{S:World->Prop}{Q:Exit->Act->World->Prop}{n:Nat}{late:Nat->Bool}
theorem Fd {o:Oper}{a:Act}{w:World}{K:Act->World->Prop}(hnd:∀c,o.op≠ .defer c)(h:o.wp P a w K Q):o.wpIn Fence.wide n P a w K Q:=by
 refine⟨fun _ _=>trivial,?_⟩;rw[Oper.semAt_eq _ _ _ hnd];unfold Oper.wp at h;generalize (execOp a.eval o).run P w=r at h⊢
 cases r with
 | ok x w'=>
  cases x with
  | value v=>exact h
  | skip=>exact h
  | defer d=>exact h
  | enter f args=>exact⟨fun hd=>(by cases hd),(callsIn_wide.2 h:CallsIn Fence.wide (n-1) P f args w' _)⟩
  | row row args=>exact⟨fun hd=>(by cases hd),wM h⟩
  | _=>exact(h:False).elim
 | halt x w'=>
  cases x<;>first | exact h | exact(h:False).elim
theorem I8(hnd:kl ops=true)(hl:¬LetsOut Q):∀(fuel:Nat) (listed:Array Bool) (a:Act) (w:World),Qz.wpAnyL P md ops Q S late fuel listed a w->wpAnyIn Fence.wide n P md ops Q fuel listed a w
 | 0,_,_,_,h=>h
 | fuel+1,listed,a,w,h=>by
  refine⟨h.1,fun i hi=>?_⟩;have h2:=h.2 i hi;unfold wpOp at h2;unfold wpOpIn;split
  ·rename_i ho;simp only[ho] at h2;exact I8 hnd hl fuel _ _ _ h2.2
  ·rename_i o ho;simp only[ho] at h2;split
   ·rename_i hw;simp only[hw,if_true] at h2;rcases h2 with h2 | h2
    ·exact Fd (rL hnd ho) (Oper.wp_mono (fun a' w' h'=>I8 hnd hl fuel _ _ _ h'.2) h2)
    ·exact absurd h2.2 hl
   ·rename_i hw;simp only[hw] at h2;exact⟨fun _ _=>trivial,I8 hnd hl fuel _ _ _ h2.2⟩
end
end Qy
open Qw Qu Qx Qz Qy
theorem Jb {P:Program}{id n:Nat}{Q:Exit->Act->World->Prop}{a:Act}{w:World}{l:List Oper}(I:World->Prop)(late:Nat->Bool)(p:Plan)(hnd:kl l.toArray=true)(hm:P.follows .mixedOrders=true)(hB:vt .any l.toArray late p=true)
 (hI:I w.drew) (h:fI P l (iI Q) (FG I) late p a w.drew):(Code.region id l.toArray true).wpIn Fence.wide n P Q a w:=by
 simp only[vt,aI,decide_eq_true_eq] at hB;obtain⟨⟨ai,hn⟩,ad⟩:=hB;have hS:FG I w.drew:=⟨⟨_,hI⟩,rfl⟩;have:=Qz.wpAnyL_plan (md:=.any) (Q:=iI Q) ai (fun _ _ _ _ _ h=>(h:False).elim) p true _ a w.drew (Ay _) ad (fun _=>hS) h;rw[hn] at this;exact Code.wpIn_mono iI.imp (wpIn_region_any hm (I8 hnd iI.shut _ _ _ _ this))
theorem I9(A B:World->Prop):∃I:World->Prop,(∀w',I w'->A w'/\B w')/\(∀w',A w'->B w'->I w'):=⟨fun w'=>A w'/\B w',fun _ h=>h,fun _ a b=>⟨a,b⟩⟩
theorem Ja {P:Program}{l:List Oper}{Q:Exit->Act->World->Prop}{S:World->Prop}{late:Nat->Bool}{a:Act}{w:World}(h:Q .normal a w):fI P l (iI Q) S late .nil a w:=h
