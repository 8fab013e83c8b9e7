/- Ranges of maps of any h_: some, Scan, Back, Count: the walks. -/
import Derived.Test.YtpljannolpapgaaGreatDoorUIk
set_option maxRecDepth 100000
namespace Go.Proofs.YtpljannolpapgaaGreatDoor
open Go.RowKit Tryz Go.BigFrame Go.Maps Go.WideMaps Lf Tr
open Go.Shelf
attribute [local go_sem] Oper.semAt_some
theorem Gy:(prog.info? 40).map (fun i=>(i.zero,i.size,i.bytes))=some (some (.agg #[.string ⟨#[]⟩,.string ⟨#[]⟩]),2,32):=k_
def FJ(l:List Pr):List Value:=l.flatMap fun p=>[SV p.1,SV p.2]
theorem GE(l:List Pr):(FJ l).length=l.length*2:=by
 unfold FJ
 induction l with
 | nil=>rfl
 | cons a l ih=>simp only[cU,ag,ah,aK,ih];omega
theorem Gj {w:World}{B B':Nat}{e:TypeId}{size:Nat}{v:Value}{n:Nat}{xs:List Value}(h:w.ownsRow B e size v n xs)(hB:B'<=B):w.ownsRow B' e size v n xs:=
 ⟨h.1,h.2.imp id fun⟨g,cap,cur,h1,h2,h3⟩=>⟨g,cap,cur,h1,aI hB h2,h3⟩⟩
