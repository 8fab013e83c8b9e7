/- Maps made of rows of pairs (the law's made of layer 20); the kinds that there are: the walks. -/
import Derived.Test.YtcibkdbpicledaaGreatDoorXDg
import Derived.Test.YtcibkdbpicledaaGreatDoorXPr
set_option maxRecDepth 100000
set_option maxHeartbeats 800000
namespace Go.Proofs.YtcibkdbpicledaaGreatDoor
open Go.RowKit Tryz Go.BigFrame Go.Maps Go.WideMaps Lf Tr
def im(l:List (List UInt8×List UInt8)):List (List UInt8×List UInt8):=l.foldl (fun L p=>gV L p.1 p.2) []
theorem DF(l:List (List UInt8×List UInt8))(p:List UInt8×List UInt8):im (l++[p])=gV (im l) p.1 p.2:=by
 unfold im;rw[List.foldl_append];rfl
theorem xQ(p q:List UInt8×List UInt8->Bool)(h:∀x,¬(p x=true/\q x=true)):∀L:List (List UInt8×List UInt8),(L.filter p).length+(L.filter q).length<=L.length
 | []=>Nat.le_refl _
 | x::L=>by
  have ih:=xQ p q h L;have hx:=h x;rw[List.filter_cons,List.filter_cons,aj];split<;>split<;>(try simp only[aj])<;>first | omega | (exfalso;exact hx ⟨by assumption,by assumption⟩)
theorem DG(L:List (List UInt8×List UInt8))(a b:List UInt8):(gV L a b).length<=L.length+1:=by
 unfold gV;rw[aE,aj];have:=xQ (fun p=>decide (Fu p.1 a<0)) (fun p=>decide (0<Fu p.1 a)) (fun x ⟨h1,h2⟩=>by simp at h1 h2;omega) L;omega
theorem wo:∀(l L:List (List UInt8×List UInt8)),(l.foldl (fun L p=>gV L p.1 p.2) L).length<=L.length+l.length
 | [],_=>Nat.le_refl _
 | p::l,L=>by
  have h1:=wo l (gV L p.1 p.2);have h2:=DG L p.1 p.2;rw[List.foldl_cons,aj];omega
theorem wt(l:List (List UInt8×List UInt8)):(im l).length<=l.length:=by
 have h:=wo l [];rwa[aL,bK] at h
theorem xB {α:Type}{l:List α}{i:Nat}(h:i<l.length):l.take (i+1)=l.take i++[l[i]]:=by
 rw[List.take_add_one,af h];rfl
def FO(kind t:Int):Bool:=decide (kind=1\/kind=2\/kind=3/\2<=t/\t<=16)
theorem qIfaa{P:Prop}(h:P:=by
 go_enter func19,ntmps19;go_wp2_with fail;go_ret;exact⟨rfl,rfl⟩):P:=h
theorem Gd(kind t:Int)(w:World):
 Ct 19 #[.int .i64 kind,.int .i64 t] w fun e w'=>e=.returned (.bool (FO kind t))/\w=w':=by
 by_cases h1:kind=1
 ·rw[show FO kind t=true from decide_eq_true (ab h1)];subst h1;exact qIfaa
 by_cases h2:kind=2
 ·rw[show FO kind t=true from decide_eq_true (ae (ab h2))];subst h2;exact qIfaa
 by_cases h3:kind=3
 ·subst h3
  by_cases h4:2<=t
  ·by_cases h5:t<=16
   ·rw[show FO 3 t=true from decide_eq_true (ae (ae ⟨rfl,h4,h5⟩))];exact qIfaa
   ·rw[show FO 3 t=false from decide_eq_false (by omega)];exact qIfaa
  ·rw[show FO 3 t=false from decide_eq_false (by omega)];exact qIfaa
 ·rw[show FO kind t=false from decide_eq_false (by omega)];have e1:(kind==1)=false:=by simpa using h1
  have e2:(kind==2)=false:=by simpa using h2
  have e3:(kind==3)=false:=by simpa using h3
  exact qIfaa
def pK(l:List (List UInt8×List UInt8)):Prop:=∀p∈l,p.1.length<=1000/\p.2.length<=1000
