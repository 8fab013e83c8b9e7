/- Cursors over maps of any kind: Handle, Seek: the walks. -/
import Derived.Test.YtcibkdbpicledaaGreatDoorVDg
set_option maxRecDepth 100000
set_option maxHeartbeats 800000
namespace Go.Proofs.YtcibkdbpicledaaGreatDoor
open Go.RowKit Tryz Go.BigFrame Go.Maps Go.WideMaps Lf Tr
section
variable {P:List (List UInt8×List UInt8)->Prop}{K:jo}{w W:World}{ps pm px limit p q pc hh is:Nat}{ws:List Nat}{L:List (List UInt8×List UInt8)}{l:List (Nat×Obj)}
theorem ao.handle(ok:gB K P)(h:ao K w ps pm px limit L p q pc hh is ws l W):
 Ct 44 #[PV pc] W fun e w'=>e=.returned (Xu hh)/\w'=W:=by
 have hC:=h.c;have HG:=If (ee hC (h.pos ok).1);unfold Ju at hC;obtain⟨c0,c1,c2,c3⟩:=Fy hC;clear hC h ok;go_enter func44,ntmps44;go_wp2_with fail;refine Jc HG.out ?_;go_wp2_with fail;go_ret;exact⟨rfl,rfl⟩
theorem ao.seek(ok:gB K P)(h:ao K w ps pm px limit L p q pc hh is ws l W)(t:List UInt8)(ht:t.length<=limit):
 Ct 45 #[PV pc,SV t] W fun e w'=>e=.returned (Xi 0)/\ao K w ps pm px limit L p q pc hh 1 (Jt t (many limit)) l w':=by
 have hC:=h.c;have ad:((limit:Int)<(t.length:Int))=False:=eq_false (by omega);have HG:=kq3 (ee hC (h.pos ok).1) (Ik h.m.on) (h.put ok t (by have:=h.lim;omega));unfold Ju at hC;obtain⟨c0,c1,c2,c3⟩:=Fy hC;clear hC h ok ht;go_enter func45,ntmps45;go_wp2_with fail;refine Jc HG.a ?_;go_wp2_with fail;refine Jc HG.b ?_;go_wp2_with fail;refine wx HG.c fun w2 m2=>?_;have HB:=If m2;clear m2;go_wp2_with fail;go_ret;exact⟨rfl,HB.out⟩
end
theorem an.turn {K:jo}{w W:World}{ps pm px limit p q a b:Nat}{x y:List Nat}{L:List (List UInt8×List UInt8)}{l:List (Nat×Obj)}(h:an (Jw (Jw K a x) b y) w ps pm px limit L p q l W):an (Jw (Jw K b y) a x) w ps pm px limit L p q l W:=by
 obtain⟨root,S,Y,h1,h2,h3⟩:=h.ex;refine⟨⟨root,S,Y,⟨h1.st,?_,h1.on,h1.map,h1.bl,h1.own,h1.yx,h1.ym,h1.lx,h1.lm,h1.ne⟩,h2,h3⟩,h.nd,h.tb⟩;obtain⟨o,R,T,rfl,⟨T2,rfl,hH,n1,r1⟩,n2,r2⟩:=h1.hold;simp only[ah,not_or] at n2;exact⟨o,_,b::T2,rfl,⟨T2,rfl,hH,n2.2,r2⟩,by simp only[ah,not_or];exact⟨fun e=>n2.1 e.symm,n1⟩,r1⟩
theorem ao.turn {K:jo}{w W:World}{ps pm px limit p q pc hh is pd kk js:Nat}{ws vs:List Nat}{L:List (List UInt8×List UInt8)}{l:List (Nat×Obj)}(h:ao (Jw K kk vs) w ps pm px limit L p q pc hh is ws ((pd,A6 pm ps kk js)::l) W)(hn:vs.length=many limit):ao (Jw K hh ws) w ps pm px limit L p q pd kk js vs ((pc,A6 pm ps hh is)::l) W:=
 ⟨h.m.turn.swap,hn,h.lim⟩
