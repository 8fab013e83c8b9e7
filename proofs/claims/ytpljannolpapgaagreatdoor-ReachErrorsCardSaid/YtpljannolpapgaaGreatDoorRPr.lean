/- Rows of F_ in memory; F_ compared. -/
import Derived.Test.YtpljannolpapgaaGreatDoorRKa
import Derived.Laws.StructEq
set_option maxRecDepth 100000
namespace Go.Proofs.YtpljannolpapgaaGreatDoor
open Go.RowKit Tryz Go.BigFrame Go.Maps Go.WideMaps Lf
variable{v:Value}{w:World}
def PRow(w:World)(v:Value)(l:List (List UInt8×List UInt8)):Prop:=∃A c,v=.slice A l.length c/\∀(i:Nat) (h:i<l.length),∃g o,A=some (x_ g o)/\w.cell? ⟨g,o+i*2,none⟩=some (SV l[i].1)/\w.cell? ⟨g,o+i*2+1,none⟩=some (SV l[i].2)
theorem cell_lt{g o:Nat}(h:w.cell? (x_ g o)=some v):g<w.1.size:=by
 unfold World.cell? at h
 split at h
 ·rename_i heq;exact(gl heq)
 ·cases h
theorem PRow.a_{w w':World}{l:List (List UInt8×List UInt8)}(h:PRow w v l)(hb:D_ w w'):PRow w' v l:=by
 obtain⟨A,c,rfl,hc⟩:=h;refine⟨A,c,rfl,fun i hi=>?_⟩;obtain⟨g,o,rfl,h1,h2⟩:=hc i hi;exact⟨g,o,rfl,(hb.cell (p:=x_ g _) (cell_lt h1)).T h1,(hb.cell (p:=x_ g _) (cell_lt h2)).T h2⟩
theorem PRow.nil(w:World):PRow w n_ []:=⟨none,0,rfl,fun i hi=>absurd hi s_⟩
theorem PRow.one{g c:Nat}{a b:List UInt8}{t:TypeId}{fr:Nat×Nat}(h:w.1[g]?=some (.cells #[SV a,SV b] t fr)):PRow w (.slice (some (y_ g)) 1 c) [(a,b)]:=
 ⟨_,c,rfl,fun i hi=>by
  obtain rfl:i=0:=by simpa using hi
  exact⟨g,0,rfl,e_ h,e_ h⟩⟩
