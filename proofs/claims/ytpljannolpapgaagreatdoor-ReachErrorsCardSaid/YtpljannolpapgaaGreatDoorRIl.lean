/- Ranges of maps of any l_: some, Scan, Back, Count: the walks. -/
import Derived.Test.YtpljannolpapgaaGreatDoorRIk
set_option maxRecDepth 100000
namespace Go.Proofs.YtpljannolpapgaaGreatDoor
open Go.RowKit Tryz Go.BigFrame Go.Maps Go.WideMaps Lf Tr
open Go.Shelf
attribute [local go_sem] Oper.semAt_some
theorem Gy:(prog.info? 40).map (fun i=>(i.zero,i.size,i.bytes))=some (some (.agg #[.string ⟨#[]⟩,.string ⟨#[]⟩]),2,32):=k_
def FJ(l:List Pr):List Value:=l.flatMap fun p=>[SV p.1,SV p.2]
theorem GE(l:List Pr):(FJ l).length=l.length*2:=by
 unfold FJ
 induction l with
 | nil=>rfl
 | cons a l ih=>simp only[co,ag,aj,aL,ih];omega