/- Rows with a pair put in: what is found then: plain. -/
import Derived.Test.YtcibkdbpicledaaGreatDoorZRg
set_option maxRecDepth 100000
namespace Go.Proofs.YtcibkdbpicledaaGreatDoor
open Go.RowKit Tryz Go.BigFrame Go.Maps Go.WideMaps Lf Tr
theorem Gx {L:List Pr}(a b:List UInt8):Bt.getL (gV L a b) a=some b:=by
 unfold Bt.getL gV;have h:(L.filter fun p=>decide (Fu p.1 a<0)).find? (fun p=>p.1==a)=none:=bF.2 fun p hp=>by
  have:=(dt.1 hp).2;simp only[decide_eq_true_eq] at this;simp only[beq_iff_eq];intro e;rw[e,fX] at this;omega
 rw[List.find?_append,h,Option.none_or,List.find?_cons_of_pos (by simp)]
 rfl
theorem Hf(L:List Pr)(a b c:List UInt8):gV (gV L a b) a c=gV L a c:=by
 have z1:∀M:List Pr,(M.filter fun p=>decide (Fu p.1 a<0) && decide (0<Fu p.1 a))=[]:=fun M=>ct.2 fun p _=>by simp;omega
 have z2:∀M:List Pr,(M.filter fun p=>decide (0<Fu p.1 a) && decide (Fu p.1 a<0))=[]:=fun M=>ct.2 fun p _=>by simp;omega
 have h1:∀(L M:List Pr),(L.filter (fun p=>decide (Fu p.1 a<0))++(a,b)::M.filter fun p=>decide (0<Fu p.1 a)).filter (fun p=>decide (Fu p.1 a<0))=L.filter fun p=>decide (Fu p.1 a<0):=fun L M=>by
  rw[c9,dK,dm (by simp[fX]),dK,z1,bZ];exact List.filter_congr fun p _=>Bool.and_self _
 have h2:∀(L M:List Pr),(L.filter (fun p=>decide (Fu p.1 a<0))++(a,b)::M.filter fun p=>decide (0<Fu p.1 a)).filter (fun p=>decide (0<Fu p.1 a))=M.filter fun p=>decide (0<Fu p.1 a):=fun L M=>by
  rw[c9,dK,dm (by simp[fX]),dK,z2,aU];exact List.filter_congr fun p _=>Bool.and_self _
 unfold gV;rw[h1,h2]
theorem Gv {L:List Pr}(hs:ms L){a v:List UInt8}(h:Bt.getL L a=some v):FT L a=(eK L a:Nat)/\L[eK L a]?=some (a,v):=by
 have:=Dh hs h;unfold FT;rw[this];exact⟨if_pos rfl,rfl⟩
theorem Gu {L:List Pr}(hs:ms L){a:List UInt8}(h:Bt.getL L a=none):FT L a= -1:=by
 unfold FT;refine if_neg fun e=>?_;obtain⟨p,hp,hk⟩:=aB.1 e;have:=(Dg hs h).1 p hp;rw[hk,fX] at this;omega
theorem He {L:List Pr}(hs:ms L)(a b:List UInt8):(gV L a b).length=if(Bt.getL L a).isSome=true then L.length else L.length+1:=by
 have hc:=nZ L a;rw[<-G5 hs];unfold Ge
 cases h:Bt.getL L a with
 | none=>
  have hf:=Gu hs h;unfold FT at hf;rw[if_neg (fun e=>by rw[if_pos e] at hf;omega),aE,ak,ay,aN]
  simp
  omega
 | some v=>
  have hp:=(Gv hs h).2;have hl:=(aA.1 hp).1;rw[hp,if_pos (show Option.map Prod.fst (some (a,v))=some a from rfl),aE,ak,ay,aN]
  simp
  omega