/- CursorTwo: the key just above one: plain. -/
import Derived.Test.YtcibkdbpicledaaGreatDoorVGi
import Derived.Test.YtcibkdbpicledaaGreatDoorVGf
set_option maxRecDepth 100000
namespace Go.Proofs.YtcibkdbpicledaaGreatDoor
open Go.RowKit Tryz Go.BigFrame Go.Maps Go.WideMaps Lf Tr
theorem JG:∀a b:List UInt8,Fu a (b++[0])<0↔Fu a b<0\/a=b
 | [],[]=>by decide
 | [],y::b=>by simp[Fu]
 | x::a,[]=>by
  have h:∀l:List UInt8,¬Fu l []<0:=fun l=>by cases l<;>simp[Fu]
  have h1:=h a;simp only[aW,Fu];have h0:¬x<0:=by
   show ¬x.toNat<0
   omega
  rw[if_neg h0];split<;>simp_all
 | x::a,y::b=>by
  have ih:=JG a b;simp only[aP,Fu];by_cases h1:x<y
  ·rw[if_pos h1,if_pos h1];simp
  ·rw[if_neg h1,if_neg h1];by_cases h2:y<x
   ·rw[if_pos h2,if_pos h2];have ad:x≠y:=fun e=>by subst e;exact h1 h2
    simp[ad]
   ·rw[if_neg h2,if_neg h2,ih];have he:x=y:=by
     have ai:¬x.toNat<y.toNat:=h1;have al:¬y.toNat<x.toNat:=h2;exact UInt8.toNat_inj.1 (by omega)
    simp[he]
theorem Jm {key:List UInt8}:∀{L:List Pr},ms L->eK L (key++[0])=eK L key+if(Bt.getL L key).isSome=true then 1 else 0
 | [],_=>rfl
 | p::L,hs=>by
  obtain⟨hp,hs⟩:=aK.1 hs;have ih:=Jm (key:=key) hs;have hn:=JG p.1 key;have hz:∀k,(∀q∈L,¬Fu q.1 k<0)->eK L k=0:=fun k h=>by
   unfold eK;exact dj.2 fun q hq=>by simpa using h q hq
  have hc:∀k,eK (p::L) k=eK L k+if Fu p.1 k<0 then 1 else 0:=fun k=>by
   unfold eK;rw[List.countP_cons];simp
  rw[hc,hc];by_cases he:p.1=key
  ·have hg:(Bt.getL (p::L) key).isSome=true:=by
    unfold Bt.getL;rw[List.find?_cons_of_pos (by simp[he])];rfl
   have hb:∀q∈L,Fu key q.1<0:=fun q hq=>he▸hp q hq;have ad:∀q∈L,¬Fu q.1 key<0:=fun q hq h=>by
    have:=ig (hb q hq) h;rw[fX] at this;omega
   have ai:∀q∈L,¬Fu q.1 (key++[0])<0:=fun q hq h=>by
    rcases(JG _ _).1 h with h | h
    ·exact ad q hq h
    ·have:=hb q hq;rw[h,fX] at this;omega
   rw[hz _ ad,hz _ ai,hg,if_pos (hn.2 (ae he)),he,fX];simp
  ·have hg:Bt.getL (p::L) key=Bt.getL L key:=by
    unfold Bt.getL;rw[List.find?_cons_of_neg (by simpa using he)]
   rw[hg,ih];have hi:(Fu p.1 (key++[0])<0)=(Fu p.1 key<0):=propext ⟨fun h=>(hn.1 h).resolve_right he,fun h=>hn.2 (ab h)⟩;simp only[hi];omega
