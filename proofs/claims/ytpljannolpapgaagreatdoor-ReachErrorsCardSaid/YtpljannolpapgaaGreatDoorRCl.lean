/- The cells of a block that is known, all at once: plain. -/
import Derived.Test.YtpljannolpapgaaGreatDoorRLf
set_option maxRecDepth 100000
namespace Go.Proofs.YtpljannolpapgaaGreatDoor
open Go.RowKit Tryz Go.BigFrame Go.Maps Go.WideMaps Lf
variable{I:World->Prop}{b:Nat}{cs:Array Value}{fr:Nat×Nat}{t:TypeId}{w:World}
theorem Fp{v0 v1:Value}(h:w.1[b]?=some (.cells #[v0,v1] t fr)):w.cell? (y_ b)=some v0/\w.cell? (x_ b 1)=some v1:=⟨e_ h,e_ h⟩
theorem fq{v0 v1 v2:Value}(h:w.1[b]?=some (.cells #[v0,v1,v2] t fr)):w.cell? (y_ b)=some v0/\w.cell? (x_ b 1)=some v1/\w.cell? (x_ b 2)=some v2:=⟨e_ h,e_ h,e_ h⟩
theorem Fy{v0 v1 v2 v3:Value}(h:w.1[b]?=some (.cells #[v0,v1,v2,v3] t fr)):w.cell? (y_ b)=some v0/\w.cell? (x_ b 1)=some v1/\w.cell? (x_ b 2)=some v2/\w.cell? (x_ b 3)=some v3:=⟨e_ h,e_ h,e_ h,e_ h⟩
theorem ld{v0 v1 v2 v3 v4:Value}(h:w.1[b]?=some (.cells #[v0,v1,v2,v3,v4] t fr)):w.cell? (y_ b)=some v0/\w.cell? (x_ b 1)=some v1/\w.cell? (x_ b 2)=some v2/\w.cell? (x_ b 3)=some v3/\w.cell? (x_ b 4)=some v4:=⟨e_ h,e_ h,e_ h,e_ h,e_ h⟩
theorem ia{v0 v1 v2 v3 v4 v5:Value}(h:w.1[b]?=some (.cells #[v0,v1,v2,v3,v4,v5] t fr)):w.cell? (y_ b)=some v0/\w.cell? (x_ b 1)=some v1/\w.cell? (x_ b 2)=some v2/\w.cell? (x_ b 3)=some v3/\w.cell? (x_ b 4)=some v4/\w.cell? (x_ b 5)=some v5:=⟨e_ h,e_ h,e_ h,e_ h,e_ h,e_ h⟩
theorem gG{v0 v1 v2 v3 v4 v5 v6:Value}(h:w.1[b]?=some (.cells #[v0,v1,v2,v3,v4,v5,v6] t fr)):w.cell? (y_ b)=some v0/\w.cell? (x_ b 1)=some v1/\w.cell? (x_ b 2)=some v2/\w.cell? (x_ b 3)=some v3/\w.cell? (x_ b 4)=some v4/\w.cell? (x_ b 5)=some v5/\w.cell? (x_ b 6)=some v6:=⟨e_ h,e_ h,e_ h,e_ h,e_ h,e_ h,e_ h⟩
theorem ef(h:w.1[b]?=some (.cells cs t (0,0))):w.frozen? (y_ b)=false/\w.frozen? (x_ b 1)=false:=⟨AT h,AT h⟩
theorem uA(h:w.1[b]?=some (.cells cs t (0,0))):w.frozen? (y_ b)=false/\w.frozen? (x_ b 1)=false/\w.frozen? (x_ b 2)=false:=⟨AT h,AT h,AT h⟩
theorem fO(h:w.1[b]?=some (.cells cs t (0,0))):w.frozen? (y_ b)=false/\w.frozen? (x_ b 1)=false/\w.frozen? (x_ b 2)=false/\w.frozen? (x_ b 3)=false:=⟨AT h,AT h,AT h,AT h⟩
theorem G2(h:w.1[b]?=some (.cells cs t (0,0))):w.frozen? (y_ b)=false/\w.frozen? (x_ b 1)=false/\w.frozen? (x_ b 2)=false/\w.frozen? (x_ b 3)=false/\w.frozen? (x_ b 4)=false:=⟨AT h,AT h,AT h,AT h,AT h⟩
theorem lP(h:w.1[b]?=some (.cells cs t (0,0))):w.frozen? (y_ b)=false/\w.frozen? (x_ b 1)=false/\w.frozen? (x_ b 2)=false/\w.frozen? (x_ b 3)=false/\w.frozen? (x_ b 4)=false/\w.frozen? (x_ b 5)=false:=⟨AT h,AT h,AT h,AT h,AT h,AT h⟩
theorem qI(h:w.1[b]?=some (.cells cs t (0,0))):w.frozen? (y_ b)=false/\w.frozen? (x_ b 1)=false/\w.frozen? (x_ b 2)=false/\w.frozen? (x_ b 3)=false/\w.frozen? (x_ b 4)=false/\w.frozen? (x_ b 5)=false/\w.frozen? (x_ b 6)=false:=⟨AT h,AT h,AT h,AT h,AT h,AT h,AT h⟩
theorem mt{v0 v1:Value}(h:∀x:Fq I,x.to.1[b]?=some (.cells #[v0,v1] t fr)):(∀x:Fq I,x.to.cell? (y_ b)=some v0)/\(∀x:Fq I,x.to.cell? (x_ b 1)=some v1):=⟨fun x=>(Fp (h x)).1,fun x=>(Fp (h x)).2⟩
theorem qf{v0 v1 v2:Value}(h:∀x:Fq I,x.to.1[b]?=some (.cells #[v0,v1,v2] t fr)):(∀x:Fq I,x.to.cell? (y_ b)=some v0)/\(∀x:Fq I,x.to.cell? (x_ b 1)=some v1)/\(∀x:Fq I,x.to.cell? (x_ b 2)=some v2):=⟨fun x=>(fq (h x)).1,fun x=>(fq (h x)).2.1,fun x=>(fq (h x)).2.2⟩
theorem iB{v0 v1 v2 v3:Value}(h:∀x:Fq I,x.to.1[b]?=some (.cells #[v0,v1,v2,v3] t fr)):(∀x:Fq I,x.to.cell? (y_ b)=some v0)/\(∀x:Fq I,x.to.cell? (x_ b 1)=some v1)/\(∀x:Fq I,x.to.cell? (x_ b 2)=some v2)/\(∀x:Fq I,x.to.cell? (x_ b 3)=some v3):=⟨fun x=>(Fy (h x)).1,fun x=>(Fy (h x)).2.1,fun x=>(Fy (h x)).2.2.1,fun x=>(Fy (h x)).2.2.2⟩
theorem iK{v0 v1 v2 v3 v4:Value}(h:∀x:Fq I,x.to.1[b]?=some (.cells #[v0,v1,v2,v3,v4] t fr)):(∀x:Fq I,x.to.cell? (y_ b)=some v0)/\(∀x:Fq I,x.to.cell? (x_ b 1)=some v1)/\(∀x:Fq I,x.to.cell? (x_ b 2)=some v2)/\(∀x:Fq I,x.to.cell? (x_ b 3)=some v3)/\(∀x:Fq I,x.to.cell? (x_ b 4)=some v4):=⟨fun x=>(ld (h x)).1,fun x=>(ld (h x)).2.1,fun x=>(ld (h x)).2.2.1,fun x=>(ld (h x)).2.2.2.1,fun x=>(ld (h x)).2.2.2.2⟩
theorem iZ{v0 v1 v2 v3 v4 v5 v6:Value}(h:∀x:Fq I,x.to.1[b]?=some (.cells #[v0,v1,v2,v3,v4,v5,v6] t fr)):(∀x:Fq I,x.to.cell? (y_ b)=some v0)/\(∀x:Fq I,x.to.cell? (x_ b 1)=some v1)/\(∀x:Fq I,x.to.cell? (x_ b 2)=some v2)/\(∀x:Fq I,x.to.cell? (x_ b 3)=some v3)/\(∀x:Fq I,x.to.cell? (x_ b 4)=some v4)/\(∀x:Fq I,x.to.cell? (x_ b 5)=some v5)/\(∀x:Fq I,x.to.cell? (x_ b 6)=some v6):=⟨fun x=>(gG (h x)).1,fun x=>(gG (h x)).2.1,fun x=>(gG (h x)).2.2.1,fun x=>(gG (h x)).2.2.2.1,fun x=>(gG (h x)).2.2.2.2.1,fun x=>(gG (h x)).2.2.2.2.2.1,fun x=>(gG (h x)).2.2.2.2.2.2⟩
