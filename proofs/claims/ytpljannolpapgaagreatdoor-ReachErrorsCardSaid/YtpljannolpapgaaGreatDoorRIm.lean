/- Laws of layer 21 over maps of any l_: made, long, awake; two rows of F_, compared: the walks. -/
import Derived.Test.YtpljannolpapgaaGreatDoorRIh
import Derived.Test.YtpljannolpapgaaGreatDoorRIl
set_option maxRecDepth 100000
namespace Go.Proofs.YtpljannolpapgaaGreatDoor
open Go.RowKit Tryz Go.BigFrame Go.Maps Go.WideMaps Lf Tr
theorem F6:∀(l:List Pr) (i:Nat) (h:i<l.length),(FJ l)[i*2]?=some (SV l[i].1)/\(FJ l)[i*2+1]?=some (SV l[i].2)
 | p::l,0,_=>⟨rfl,rfl⟩
 | p::l,i+1,h=>by
  obtain⟨h1,h2⟩:=F6 l i (by simpa using h);have e:FJ (p::l)=SV p.1::SV p.2::FJ l:=by simp[FJ]
  rw[e,show (i+1)*2=i*2+1+1 by omega,cz,cz,cz,cz];exact⟨h1,h2⟩
theorem PRow.of_owns {w:World}{B:Nat}{v:Value}{l:List Pr}(h:w.ownsRow B 40 2 v l.length (FJ l)):PRow w v l:=by
 rcases h.2 with⟨rfl,hx⟩ | ⟨g,ad,ai,hv,hb,hg,h1,h2,h3,h4⟩
 ·obtain rfl:=bI.1 hx;exact PRow.nil w
 ·refine⟨some (y_ g),ad,hv,fun i hi=>⟨g,0,rfl,?_⟩⟩;obtain⟨p1,p2⟩:=F6 l i hi;rw[<-h4] at p1 p2;rw[cP o_,bM] at p1 p2;rw[q_ hg,q_ hg,bz];exact⟨p1,p2⟩
theorem PRow.new(W:World)(l:List Pr)(t:TypeId):PRow (W.alloc (.cells (FJ l).toArray t)) (.slice (some (y_ W.1.size)) l.length l.length) l:=
 ⟨_,_,rfl,fun i hi=>⟨_,_,rfl,by
  obtain⟨p1,p2⟩:=F6 l i hi;rw[q_ (heap_alloc_new _ _),q_ (heap_alloc_new _ _),bz,bO,bO];exact⟨p1,p2⟩⟩⟩
