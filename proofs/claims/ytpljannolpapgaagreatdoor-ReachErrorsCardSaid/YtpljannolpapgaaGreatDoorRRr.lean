/- An argument that is a row of F_, as the row that it reads as. -/
import Derived.Test.YtpljannolpapgaaGreatDoorRRa
import Derived.Test.YtpljannolpapgaaGreatDoorRPr
import Derived.Deep.SlicePairs
set_option maxRecDepth 100000
namespace Go.Proofs.YtpljannolpapgaaGreatDoor
open Go.ChangeShapes Go.WideShapes Go.ChangeAt Go.RowKit Lf
theorem open_prow {H:Type}{enc:TypeId×Value->H}{W:World}{r:Reach}{b0:Nat}{sp:Nat->Bool}{held:Bool}{v:Value}{d:DataW H}{ps:List MemPlace}(hval:Value.okWide Tryz.prog W r b0 22 v)(hd:DataW.Trod enc Tryz.prog W 0 sp held 22 v d ps):∃l:List (List UInt8×List UInt8),PRow W v l:=by
 obtain⟨a0,ar,an,rfl⟩:=okWide_slice Tryz.underlying22 hval;obtain⟨a3,hf⟩:=hd
 rcases Go.Deep.open_slice_pairs Tryz.underlying22 Tryz.underlying40 (show Tryz.prog.cellsOf 40=2 by kernel_rfl) rfl rfl (show Tryz.prog.cellsOf 9=1 by kernel_rfl) (show Tryz.prog.cellsOf 9=1 by kernel_rfl) hf with⟨hc,-⟩ | ⟨a,len,ai,m,k,V0,V1,D0,D1,P0,P1,hc,_,hl,_,hm,_,ad⟩
 ·have hc:[Value.slice a0 ar an]=[n_]:=hc
  injection hc with hc
  rw[hc];exact⟨[],PRow.nil W⟩
 ·have hc:[Value.slice a0 ar an]=[.slice (some a) len ai]:=hc
  injection hc with hc
  rw[hc];have a4:len<=m:=by rw[hm];split<;>omega
  have au:∀i,i<len->∃p:List UInt8×List UInt8,V0 i=SV p.1/\V1 i=SV p.2:=fun i hi=>by
   obtain⟨_,_,h1,h2⟩:=ad i o_;obtain⟨s1,e1,-,-⟩:=DataW.trod_string Tryz.underlying9 h1;obtain⟨s2,e2,-,-⟩:=DataW.trod_string Tryz.underlying9 h2;exact⟨(s1.data.toList,s2.data.toList),by unfold SV;simpa using e1,by unfold SV;simpa using e2⟩
  obtain⟨f,hf⟩:=Go.Deep.choose_lt au;refine⟨(List.range len).map f,some a,ai,by rw[am,dL],fun i hi=>?_⟩;rw[am,dL] at hi;obtain⟨sb,so,a2⟩:=a;obtain⟨c0,c1,_,_⟩:=ad i o_;have a1:a2=none:=by simpa[Addr.add] using World.cell?_spot (ad 0 o_).1
  subst a1;obtain⟨h0,h1⟩:=hf i hi;have ap:∀j,((x_ sb so):Addr).add j=⟨sb,so+j,none⟩:=fun j=>by unfold Addr.add;split<;>simp_all
  rw[h0,ap] at c0;rw[h1,ap] at c1;refine⟨sb,so,rfl,?_⟩;rw[bG,List.getElem_range];exact⟨c0,c1⟩