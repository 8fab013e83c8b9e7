/- Laws of layer 21 over maps of any kind: made, long, awake; two rows of pairs, compared: the walks. -/
import Derived.Test.YtpljannolpapgaaGreatDoorVIh
import Derived.Test.YtpljannolpapgaaGreatDoorVIl
set_option maxRecDepth 100000
namespace Go.Proofs.YtpljannolpapgaaGreatDoor
open Go.RowKit Tryz Go.BigFrame Go.Maps Go.WideMaps Lf Tr
theorem F6:∀(l:List Pr) (i:Nat) (h:i<l.length),(FJ l)[i*2]?=some (SV l[i].1)/\(FJ l)[i*2+1]?=some (SV l[i].2)
 | p::l,0,_=>⟨rfl,rfl⟩
 | p::l,i+1,h=>by
  obtain⟨h1,h2⟩:=F6 l i (by simpa using h);have e:FJ (p::l)=SV p.1::SV p.2::FJ l:=by simp[FJ]
  rw[e,show (i+1)*2=i*2+1+1 by omega,bD,bD,bD,bD];exact⟨h1,h2⟩
theorem PRow.of_owns {w:World}{B:Nat}{v:Value}{l:List Pr}(h:w.ownsRow B 40 2 v l.length (FJ l)):PRow w v l:=by
 rcases h.2 with⟨rfl,hx⟩ | ⟨g,ad,ai,hv,hb,hg,h1,h2,h3,h4⟩
 ·obtain rfl:=bZ.1 hx;exact PRow.nil w
 ·refine⟨some ⟨g,0,none⟩,ad,hv,fun i hi=>⟨g,0,rfl,?_⟩⟩;obtain⟨p1,p2⟩:=F6 l i hi;rw[<-h4] at p1 p2;rw[ci (by omega),bF] at p1 p2;rw[cell_of_block hg,cell_of_block hg,bO];exact⟨p1,p2⟩
theorem PRow.first {w:World}{A:Option Addr}{n c:Nat}{l:List Pr}(h:PRow w (.slice A n c) l)(k:Nat)(hk:k<=l.length)(c':Nat):PRow w (.slice A k c') (l.take k):=by
 obtain⟨A',c2,e,hc⟩:=h;have e1:A=A':=by injection e
 have hl:(l.take k).length=k:=by rw[ay];omega
 refine⟨A',c',by rw[hl,e1],fun i hi=>?_⟩;rw[hl] at hi;rw[dw];exact hc i (by omega)