/- The document's answers about rows of F_: rows put one behind the u_, Put, Sorted: plain laws and the walks. -/
import Derived.Test.YtpljannolpapgaaGreatDoorRIm
set_option maxRecDepth 100000
namespace Go.Proofs.YtpljannolpapgaaGreatDoor
open Go.RowKit Tryz Go.BigFrame Go.Maps Go.WideMaps Lf Tr
theorem IU(l m:List Pr):FJ (l++m)=FJ l++FJ m:=by unfold FJ;exact dD
theorem IV {w:World}{g o:Nat}{m:List Pr}(hc:∀i (h:i<m.length),w.cell? ⟨g,o+i*2,none⟩=some (SV m[i].1)/\w.cell? ⟨g,o+i*2+1,none⟩=some (SV m[i].2)):∀j u,(FJ m)[j]?=some u->w.cell? (((x_ g o):Addr).add j)=some u:=fun j u hj=>by
 have hl:=(aC.1 hj).1;rw[GE] at hl;have ad:((x_ g o):Addr).add j=⟨g,o+j,none⟩:=by unfold Addr.add;split<;>simp_all
 rw[ad];obtain⟨h1,h2⟩:=F6 m (j / 2) o_;obtain⟨c1,c2⟩:=hc (j / 2) o_;rcases dA j with q | q
 ·rw[show j / 2*2=j by omega] at h1 c1;rw[h1] at hj;injection hj with hj
  rw[<-hj];exact c1
 ·rw[show j / 2*2+1=j by omega] at h2;rw[show o+j / 2*2+1=o+j by omega] at c2;rw[h2] at hj;injection hj with hj
  rw[<-hj];exact c2
theorem F9 {w:World}{B:Nat}{v u:Value}{l m:List Pr}(h:w.ownsRow B 40 2 v l.length (FJ l))(hu:PRow w u m)(hn:l.length+m.length<=100000)(hB:B<=w.1.size)(ty:TypeId):
 ∃v' w',(Builtin.append_ #[22,22] ty #[v,u]).run prog w=.ok v' w'/\w'.ownsRow B 40 2 v' (l++m).length (FJ (l++m))/\Below B w w':=by
 obtain⟨i0,ad,a0,a1,a2⟩:=info_parts Gy;obtain⟨A,c,rfl,hc⟩:=hu;have ar:∀k,v.ownBlock=some k->B<=k:=fun k e=>by
  rcases h.2 with⟨rfl,hx⟩ | ⟨g,an,ap,rfl,hb,_⟩
  ·cases e
  ·injection e with e
   subst e;exact hb
 have ai:∀(a:Addr),A=some a->(∀j u,(FJ m)[j]?=some u->w.cell? (a.add j)=some u)->∃v' w',(Builtin.append_ #[22,22] ty #[v,.slice A m.length c]).run prog w=.ok v' w'/\w'.ownsRow B 40 2 v' (l++m).length (FJ (l++m))/\Below B w w':=fun a e hcs=>by
  subst e;obtain⟨v',w',h1,h2,h3,_,_⟩:=run_append_own_at (P:=prog) (w:=w) B 22 ty 40 i0 (.agg #[.string ⟨#[]⟩,.string ⟨#[]⟩]) 2 32 underlying22 ad a0 a1 a2 rfl d_ v l.length (FJ l) h a m.length c (FJ m) (GE m) hcs (fun u hu=>by
   unfold FJ at hu;obtain⟨p,_,hp⟩:=List.mem_flatMap.1 hu
   rcases ah.1 hp with rfl | hp
   ·simp[Value.oneCell']
   ·rcases ah.1 hp with rfl | hp
    ·simp[Value.oneCell']
    ·cases hp) (by unfold maxLen;omega) o_ hB
  exact⟨v',w',h1,by rw[ag,IU];exact h2,(aa _ w).M hB |>.grown h3 hB ar⟩
 cases m with
 | nil=>
  cases A with
  | none=>
   refine⟨v,w,?_,by rw[aW];exact h,(aa _ w).M hB⟩
   rcases h.2 with⟨rfl,_⟩ | ⟨g,an,ap,rfl,_,_,au,_⟩
   ·simp[Builtin.append_,run_underlying (P:=prog) underlying22,sizeOf,typeInfo,ad,Builtin.lenOf,Builtin.firstCells]
   ·simp[Builtin.append_,run_underlying (P:=prog) underlying22,sizeOf,typeInfo,ad,Builtin.lenOf,Builtin.firstCells,au,storeCells]
  | some a=>exact ai a rfl fun j u hj=>by simp[FJ] at hj
 | cons p m=>
  obtain⟨g,o,rfl,_,_⟩:=hc 0 s_;refine ai (x_ g o) rfl (IV fun i hi=>?_);obtain⟨g',o',e,c0,c1⟩:=hc i hi
  injection e with e
  injection e with e1 e2
  subst e1 e2;exact⟨c0,c1⟩