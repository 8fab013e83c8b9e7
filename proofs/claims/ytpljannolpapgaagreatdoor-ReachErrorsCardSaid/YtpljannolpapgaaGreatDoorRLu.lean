/- The map of a tree: omap.Of of a right tree, at any A_: the walk. -/
import Derived.Test.YtpljannolpapgaaGreatDoorRIm
set_option maxRecDepth 100000
set_option maxHeartbeats 3200000
namespace Go.Proofs.YtpljannolpapgaaGreatDoor
open Go.RowKit Tryz Go.BigFrame Go.Maps Go.WideMaps Lf Tr
def Hb(m:Int)(l:List Pr):Bool:=l.any fun p=>decide (m<p.1.length) || decide (m<p.2.length)
def zq(m:Int)(l:List Pr):Nat:=if m<0\/1000<m then 2 else if Hb m l then 4 else 0
def JS(w w':World)(px ps:Nat)(m:Int)(l:List Pr)(v:Value):Prop:=if zq m l=0 then ∃pm,v=PV pm/\Ic w' pm px ps m.toNat/\w.1.size<=pm else v=.pointer none
theorem Nr {m:Int}{l:List Pr}{i:Nat}(hi:i<l.length)(h:Hb m (l.take i)=false):Hb m (l.take (i+1))=(decide (m<(l[i].1.length:Int)) || decide (m<(l[i].2.length:Int)))/\(Hb m (l.take (i+1))=true->Hb m l=true):=by
 refine⟨?_,fun h=>?_⟩
 ·rw[aw hi];unfold Hb at h⊢;rw[List.any_append,h]
  simp
 ·unfold Hb at h⊢;obtain⟨x,hx,ad⟩:=List.any_eq_true.1 h;exact List.any_eq_true.2 ⟨x,bD hx,ad⟩
theorem Nj {w:World}{ps px:Nat}{S:St}{Y:Nat->Prop}{L:List Pr}(h:Ig w ps S Y)(hi:Fv S)(hc:Cb 56 #[PV px] w (Xi 0))(hls:∀W,D_ w W->Ct 26 #[PV px] W fun e w'=>∃v,e=.returned v/\w'.ownsRow W.1.size 40 2 v L.length (FJ L)/\D_ W w')(hl:L.length<=1000)(m:Int):
 Ct 22 #[PV ps,PV px,Xi m] w fun e w'=>∃v,e=.returned (.tuple #[v,Xi (zq m L:Nat)])/\JS w w' px ps m L v/\D_ w w':=by
 have an:=fB h hi 0 o_;rw[fU] at an;have HG:=kq3 an hc hls;clear an hc hls h hi;have ar:∀{W},D_ w W->(m<0\/1000<m)->∃v,Ending.returned (.tuple #[.pointer none,Xi 2])=.returned (.tuple #[v,Xi (zq m L:Nat)])/\JS w W px ps m L v/\D_ w W:=fun hb h=>by
  have e:zq m L=2:=if_pos h;exact⟨_,by rw[e];rfl,by unfold JS;rw[e];rfl,hb⟩
 have a2:∀{W},D_ w W->¬m<0->¬1000<m->Hb m L=true->∃v,Ending.returned (.tuple #[.pointer none,Xi 4])=.returned (.tuple #[v,Xi (zq m L:Nat)])/\JS w W px ps m L v/\D_ w W:=fun hb h1 h2 h3=>by
  have e:zq m L=4:=by unfold zq;rw[if_neg o_,if_pos h3]
  exact⟨_,by rw[e];rfl,by unfold JS;rw[e];rfl,hb⟩
 have HB:=kq2 @ar @a2;clear ar a2;go_enter func22,ntmps22;go_wp2_with fail;refine Jc HG.a ?_;go_wp2_with fail;refine dR HG.b fun w1 hb1=>?_;have H1:=If hb1;clear hb1
 by_cases m1:m<0
 ·go_wp2_with fail;go_ret2;exact HB.a H1.O (.inl m1)
 ·by_cases m2:1000<m
  ·go_wp2_with fail;go_ret2;exact HB.a H1.O (.inr m2)
  ·go_wp2_with fail;refine(HG.c _ H1.O).M ?_;rintro e w2 ⟨v,rfl,hv,au⟩;have hp:=PRow.of_owns hv;obtain⟨A,c,rfl,a0⟩:=hp;obtain⟨n,hn⟩:=Ii L.length;rw[hn] at hl⊢;have H2:=kq3 a0 hn (b_ H1.O au);clear a0 hn au hv;go_wp2_with fail
   go_loopw [11,33] (fun _ s33 wr=>∃i:Nat,s33=Xi i/\i<=n/\Hid (Hb m (L.take i)=false/\D_ w2 wr)) (fun _ s33 _=>n-(intOf s33).toNat)
   case atStart=>exact⟨0,rfl,o_,rfl,aa _ _⟩
   case round=>
    obtain⟨i,rfl,a4,I⟩:=hrel;have ad:=b_ H2.c I.O.2
    by_cases hlt:i<n
    ·have a3:(i:Int)<n:=o_
     have ai:i<L.length:=by have:=H2.b;omega
     obtain⟨g,o,rfl,c0,c1⟩:=H2.a i ai;have d0:=(I.O.2.cell (p:=⟨g,o+i*2,none⟩) (fK c0)).T c0;have d1:=(I.O.2.cell (p:=⟨g,o+i*2+1,none⟩) (fK c1)).T c1;have ap:=Nr ai I.O.1;obtain⟨pk,a1⟩:=Ii L[i];rw[a1] at d0 d1 ap;obtain⟨a,b⟩:=pk;have HN:=kq5 ap ad I.O.2 (ad.alloc ad.size (Xn a b)) (I.O.2.alloc I.O.2.size (Xn a b));clear a1 ai c0 c1 ap ad I
     by_cases ha:m<(a.length:Int)
     ·go_wp2_with fail;go_ret2;exact HB.b HN.d m1 m2 (HN.a.2 (by rw[HN.a.1,decide_eq_true ha];rfl))
     ·by_cases hb:m<(b.length:Int)
      ·go_wp2_with fail;go_ret2;exact HB.b HN.d m1 m2 (HN.a.2 (by rw[HN.a.1,decide_eq_true hb,Bool.or_true]))
      ·go_wp2_with fail;go_roundw
       case rel=>exact⟨i+1,s_,o_,by rw[HN.a.1,decide_eq_false ha,decide_eq_false hb];rfl,HN.e⟩
       case measure=>simp[intOf];omega
    ·obtain rfl:i=n:=o_
     have a3:¬(i:Int)<i:=o_
     have hF:Hb m L=false:=by have:=I.O.1;rwa[aQ (by rw[H2.b];exact Nat.le_refl _)] at this
     have e:zq m L=0:=by unfold zq;rw[if_neg o_,hF];rfl
     have q:=heap_alloc_new wr (.cells #[PV ps,PV px,Xi m] 116);have HE:=kq4 e q (ad.alloc ad.size (.cells #[PV ps,PV px,Xi m] 116)) ad.size;clear e q ad hF I;go_wp2_with fail;go_ret2;refine⟨PV wr.1.size,by rw[HE.a];rfl,?_,HE.c⟩;unfold JS;rw[if_pos HE.a];refine⟨_,rfl,?_,HE.d⟩;have hm:((m.toNat:Nat):Int)=m:=o_
     unfold Ic;rw[hm];exact HE.b
section
variable {P:List (List UInt8×List UInt8)->Prop}{K:jo}{w W:World}{ps pm px f9:Nat}{S:St}{o:Nat->Nat}{X Y:Nat->Prop}{L:List (List UInt8×List UInt8)}
structure Kb (K:jo) (X:Nat->Prop) (w w3 W:World) (ps pm px f9:Nat) (S:St) (Y:Nat->Prop) (L:List (List UInt8×List UInt8)):Prop where
 m:fi K w W ps pm px 1000 f9 S Y L
 x:∀k,X k->Y k/\k≠px
 kp:Fo X w3 W
end
