/- An argument that is a row of Bools, as the row that it reads as. -/
import Derived.Test.YtcibkdbpicledaaGreatDoorVRa
import Derived.Test.YtcibkdbpicledaaGreatDoorVGk
import Derived.Deep.Grids
set_option maxRecDepth 100000
namespace Go.Proofs.YtcibkdbpicledaaGreatDoor
open Go.ChangeShapes Go.WideShapes Go.ChangeAt Go.RowKit Lf
theorem open_brow {H:Type}{enc:TypeId×Value->H}{W:World}{r:Reach}{b0:Nat}{held:Bool}{v:Value}{d:DataW H}{ps:List MemPlace}(hval:Value.okWide Tryz.prog W r b0 81 v)(hd:DataW.Trod enc Tryz.prog W 0 (fun _=>true) held 81 v d ps):∃l:List Bool,Jl W v l:=by
 obtain⟨a0,ap,ai,rfl⟩:=okWide_slice Tryz.underlying81 hval;obtain⟨a2,hf⟩:=hd
 rcases Go.Deep.open_bools Tryz.underlying81 Tryz.underlying4 (show Tryz.prog.cellsOf 4=1 by kernel_rfl) hf with⟨hc,-⟩ | ⟨a,len,ad,B,hc,_,hl,_,_,al⟩
 ·have hc:[Value.slice a0 ap ai]=[.slice none 0 0]:=hc
  injection hc with hc
  rw[hc];exact⟨[],none,0,rfl,fun i hi=>absurd hi (by simp)⟩
 ·have hc:[Value.slice a0 ap ai]=[.slice (some a) len ad]:=hc
  injection hc with hc
  rw[hc];refine⟨(List.range len).map B,some a,ad,by rw[aq,dC],fun i hi=>?_⟩;rw[aq,dC] at hi;obtain⟨sb,so,a1⟩:=a;have c:=al i (by omega);have au:a1=none:=by simpa[Addr.add] using World.cell?_spot (al 0 (by omega))
  subst au;have ar:(⟨sb,so,none⟩:Addr).add i=⟨sb,so+i,none⟩:=by unfold Addr.add;split<;>simp_all
  rw[ar] at c;exact⟨sb,so,rfl,by rw[c,bp,cU]⟩