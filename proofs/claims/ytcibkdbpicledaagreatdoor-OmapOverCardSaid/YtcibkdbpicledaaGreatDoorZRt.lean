/- An argument that is a row of texts, as the row that it reads as. -/
import Derived.Test.YtcibkdbpicledaaGreatDoorZRa
import Derived.Test.YtcibkdbpicledaaGreatDoorZIu
import Derived.SliceStrings
set_option maxRecDepth 100000
namespace Go.Proofs.YtcibkdbpicledaaGreatDoor
open Go.ChangeShapes Go.WideShapes Go.ChangeAt Go.RowKit Lf
theorem open_srow {H:Type}{enc:TypeId×Value->H}{W:World}{r:Reach}{b0:Nat}{sp:Nat->Bool}{held:Bool}{v:Value}{d:DataW H}{ps:List MemPlace}(hval:Value.okWide Tryz.prog W r b0 39 v)(hd:DataW.Trod enc Tryz.prog W 0 sp held 39 v d ps):∃l:List (List UInt8),GN W v l:=by
 obtain⟨a0,ao,ai,rfl⟩:=okWide_slice Tryz.underlying39 hval;obtain⟨a1,hf⟩:=hd
 rcases open_strings Tryz.underlying39 Tryz.underlying9 (show Tryz.prog.cellsOf 9=1 by kernel_rfl) hf with⟨hc,-⟩ | ⟨a,len,ad,ss,hc,_,hl,_,hz,_,al,_⟩
 ·have hc:[Value.slice a0 ao ai]=[.slice none 0 0]:=hc
  injection hc with hc
  rw[hc];exact⟨[],none,0,rfl,fun i hi=>absurd hi (by simp)⟩
 ·have hc:[Value.slice a0 ao ai]=[.slice (some a) len ad]:=hc
  injection hc with hc
  rw[hc];have an:len<=ss.length:=by rw[hz];split<;>omega
  refine⟨(ss.take len).map (fun s=>s.data.toList),some a,ad,by rw[aq,ay,cX an],fun i hi=>?_⟩;rw[aq,ay,cX an] at hi;obtain⟨sb,so,au⟩:=a;have c:=al i (by omega);have ar:au=none:=by simpa[Addr.add] using World.cell?_spot (al 0 (by omega))
  subst ar;refine⟨sb,so,rfl,?_⟩;have ap:(⟨sb,so,none⟩:Addr).add i=⟨sb,so+i,none⟩:=by unfold Addr.add;split<;>simp_all
  rw[ap] at c;rw[c,bq,dR,aj,af (by omega)];unfold SV
  simp