/- An argument that is a row of numbers, as the row that it reads as. -/
import Derived.Test.YtpljannolpapgaaGreatDoorTRa
import Derived.Test.YtpljannolpapgaaGreatDoorTYi
import Derived.Deep.Grids
set_option maxRecDepth 100000
namespace Go.Proofs.YtpljannolpapgaaGreatDoor
open Go.ChangeShapes Go.WideShapes Go.ChangeAt Go.RowKit Lf
theorem open_irow {H:Type}{enc:TypeId×Value->H}{W:World}{r:Reach}{b0:Nat}{sp:Nat->Bool}{held:Bool}{v:Value}{d:DataW H}{ps:List MemPlace}(hval:Value.okWide Tryz.prog W r b0 57 v)(hd:DataW.Trod enc Tryz.prog W 0 sp held 57 v d ps):∃l:List Int,L0 W v l:=by
 obtain⟨a0,ap,an,rfl⟩:=okWide_slice Tryz.underlying57 hval;obtain⟨a3,hf⟩:=hd
 rcases Go.Deep.open_slice1 Tryz.underlying57 (show Tryz.prog.cellsOf 3=1 by kernel_rfl) hf with⟨hc,-⟩ | ⟨a,len,ai,m,k,V,D,P,hc,_,hl,_,hm,_,ad⟩
 ·have hc:[Value.slice a0 ap an]=[n_]:=hc
  injection hc with hc
  rw[hc];exact⟨[],none,0,rfl,fun i hi=>absurd hi s_⟩
 ·have hc:[Value.slice a0 ap an]=[.slice (some a) len ai]:=hc
  injection hc with hc
  rw[hc];have a4:len<=m:=by rw[hm];split<;>omega
  have ar:∀i,i<len->∃z:Int,V i=.int .i64 z:=fun i hi=>by
   obtain⟨z,e1,-,-⟩:=DataW.trod_int Tryz.underlying3 (ad i o_).2;exact⟨z,by simpa using e1⟩
  obtain⟨f,hf⟩:=Go.Deep.choose_lt ar;refine⟨(List.range len).map f,some a,ai,by rw[am,dh],fun i hi=>?_⟩;rw[am,dh] at hi;obtain⟨sb,so,a2⟩:=a;have c:=(ad i o_).1;have a1:a2=none:=by simpa[Addr.add] using World.cell?_spot (ad 0 o_).1
  subst a1;have au:((x_ sb so):Addr).add i=⟨sb,so+i,none⟩:=by unfold Addr.add;split<;>simp_all
  rw[au,hf i hi] at c;exact⟨sb,so,rfl,by rw[c,bG,dM]⟩