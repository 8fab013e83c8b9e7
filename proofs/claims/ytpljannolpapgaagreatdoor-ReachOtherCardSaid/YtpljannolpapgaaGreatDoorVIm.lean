/- Laws of layer 21 over maps of any kind: made, long, awake; two rows of pairs, compared: the walks. -/
import Derived.Test.YtpljannolpapgaaGreatDoorVIh
import Derived.Test.YtpljannolpapgaaGreatDoorVIl
set_option maxRecDepth 100000
namespace Go.Proofs.YtpljannolpapgaaGreatDoor
open Go.RowKit Tryz Go.BigFrame Go.Maps Go.WideMaps Lf Tr
theorem F6:∀(l:List Pr) (i:Nat) (h:i<l.length),(FJ l)[i*2]?=some (SV l[i].1)/\(FJ l)[i*2+1]?=some (SV l[i].2)
 | p::l,0,_=>⟨rfl,rfl⟩
 | p::l,i+1,h=>by
  obtain⟨h1,h2⟩:=F6 l i (by simpa using h);have e:FJ (p::l)=SV p.1::SV p.2::FJ l:=by simp[FJ]
  rw[e,show (i+1)*2=i*2+1+1 by omega,cN,cN,cN,cN];exact⟨h1,h2⟩
theorem PRow.new(W:World)(l:List Pr)(t:TypeId):PRow (W.alloc (.cells (FJ l).toArray t)) (.slice (some ⟨W.heap.size,0,none⟩) l.length l.length) l:=
 ⟨_,_,rfl,fun i hi=>⟨_,_,rfl,by
  obtain⟨p1,p2⟩:=F6 l i hi;rw[cell_of_block (heap_alloc_new _ _),cell_of_block (heap_alloc_new _ _),bH,bG,bG];exact⟨p1,p2⟩⟩⟩
