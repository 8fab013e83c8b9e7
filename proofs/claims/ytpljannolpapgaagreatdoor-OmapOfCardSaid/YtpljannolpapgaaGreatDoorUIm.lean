/- Laws of layer 21 over maps of any h_: made, long, awake; two rows of F5, compared: the walks. -/
import Derived.Test.YtpljannolpapgaaGreatDoorUIh
import Derived.Test.YtpljannolpapgaaGreatDoorUIl
set_option maxRecDepth 100000
set_option maxHeartbeats 3200000
namespace Go.Proofs.YtpljannolpapgaaGreatDoor
open Go.RowKit Tryz Go.BigFrame Go.Maps Go.WideMaps Lf Tr
variable{w:World}
theorem F6:∀(l:List Pr) (i:Nat) (h:i<l.length),(FJ l)[i*2]?=some (SV l[i].1)/\(FJ l)[i*2+1]?=some (SV l[i].2)
 | p::l,0,_=>⟨rfl,rfl⟩
 | p::l,i+1,h=>by
  obtain⟨h1,h2⟩:=F6 l i (by simpa using h);have e:FJ (p::l)=SV p.1::SV p.2::FJ l:=by simp[FJ]
  rw[e,show (i+1)*2=i*2+1+1 by omega,bC,bC,bC,bC];exact⟨h1,h2⟩
theorem PRow.of_owns{B:Nat}{v:Value}{l:List Pr}(h:w.ownsRow B 40 2 v l.length (FJ l)):PRow w v l:=by
 rcases h.2 with⟨rfl,hx⟩ | ⟨g,ad,ai,hv,hb,hg,h1,h2,h3,h4⟩
 ·obtain rfl:=bG.1 hx;exact PRow.nil w
 ·refine⟨some (y_ g),ad,hv,fun i hi=>⟨g,0,rfl,?_⟩⟩;obtain⟨p1,p2⟩:=F6 l i hi;rw[<-h4] at p1 p2;rw[cM o_,bM] at p1 p2;rw[t_ hg,t_ hg,bD];exact⟨p1,p2⟩
theorem PRow.first{A:Option Addr}{n c:Nat}{l:List Pr}(h:PRow w (.slice A n c) l)(k:Nat)(hk:k<=l.length)(c':Nat):PRow w (.slice A k c') (l.take k):=by
 obtain⟨A',c2,e,hc⟩:=h;have e1:A=A':=by injection e
 have hl:(l.take k).length=k:=by rw[aF];omega
 refine⟨A',c',by rw[hl,e1],fun i hi=>?_⟩;rw[hl] at hi;rw[List.getElem_take];exact hc i o_
def FQ(l m:List Pr):Bool:=decide (l=m)
theorem F0{v u:Value}{l m:List Pr}(hv:PRow w v l)(hu:PRow w u m)(hl:l.length<2^63)(_:m.length<2^63):
 Cb 25 #[v,u] w (.bool (FQ l m)):=by
 obtain⟨A,c,rfl,hc⟩:=hv;obtain⟨B,c',rfl,ap⟩:=hu
 by_cases hlm:l.length=m.length
 ·obtain⟨n,hn⟩:=Ii l.length;have a0:m.length=n:=by rw[<-hlm];exact hn
  obtain⟨R,hR⟩:=Ii (FQ l m);have HC:=kq5 hc ap hn a0 hR;rw[hn,a0,hR];rw[hn] at hl;have hq:((n:Int)==n)=true:=s_
  clear hc ap hlm hn a0 hR;go_enter func25,ntmps25;go_wp2_with fail
  go_loopw [5] (fun s5 wr=>∃i:Nat,s5=Xi i/\i<=n/\Hid (l.take i=m.take i)/\Hid (D_ w wr)) (fun s5 _=>n-(intOf s5).toNat)
  case atStart=>exact⟨0,rfl,o_,If s_,If (aa _ _)⟩
  case round=>
   obtain⟨i,rfl,a5,I0,I1⟩:=hrel
   by_cases hi:i<n
   ·have a4:(i:Int)<n:=o_
    have ar:i<l.length:=by rw[HC.c];exact hi
    have au:i<m.length:=by rw[HC.d];exact hi
    obtain⟨g,o,rfl,c0,c1⟩:=HC.a i ar;obtain⟨g',o',rfl,c2,c3⟩:=HC.b i au
    replace c0:=(I1.O.cell (p:=⟨g,o+i*2,none⟩) (cell_lt c0)).T c0
    replace c1:=(I1.O.cell (p:=⟨g,o+i*2+1,none⟩) (cell_lt c1)).T c1
    replace c2:=(I1.O.cell (p:=⟨g',o'+i*2,none⟩) (cell_lt c2)).T c2
    replace c3:=(I1.O.cell (p:=⟨g',o'+i*2+1,none⟩) (cell_lt c3)).T c3
    obtain⟨pk,ai⟩:=Ii l[i];obtain⟨pm,an⟩:=Ii m[i];rw[ai] at c0 c1;rw[an] at c2 c3;obtain⟨a,b⟩:=pk;obtain⟨x,y⟩:=pm;have ad:=pr_neq a b x y;have a3:l.take (i+1)=l.take i++[(a,b)]:=by rw[xB ar,ai]
    have a2:m.take (i+1)=m.take i++[(x,y)]:=by rw[xB au,an]
    have HP:=kq6 a3 a2 ai an ar au;clear a3 a2 ai an
    by_cases hab:(a==x && b==y)=true
    ·rw[hab] at ad;simp only[Bool.not_true] at ad;have HQ:=If hab;clear hab;go_wp2_with fail
     go_quiet (fail)
     go_wp2_with fail;go_roundw
     case rel=>
      refine⟨i+1,s_,o_,If ?_,If (I1.O.T ⟨rfl,rfl,rfl,Nat.le_refl _,fun _ _=>rfl⟩)⟩;have:=HQ.O
      simp at this
      rw[HP.a,HP.b,I0.O,this.1,this.2]
     case measure=>simp[intOf];omega
    ·have a1:(a==x && b==y)=false:=by simpa using hab
     rw[a1] at ad;simp only[Bool.not_false] at ad;have HQ:=If hab;clear hab a1;go_wp2_with fail
     go_quiet (fail)
     go_wp2_with fail;go_ret;refine⟨?_,I1.O.T ⟨rfl,rfl,rfl,Nat.le_refl _,fun _ _=>rfl⟩⟩;have hR:R=false:=by
      rw[<-HC.e];unfold FQ;refine decide_eq_false fun e=>HQ.O ?_;have h1:=HP.c;have h2:=HP.d;subst e;rw[h1] at h2
      injection h2 with h3 h4
      rw[h3,h4]
      simp
     rw[hR]
     rfl
   ·obtain rfl:i=n:=o_
    have a4:¬(i:Int)<i:=o_
    go_wp2_with fail;go_ret;refine⟨?_,I1.O⟩;have hR:R=true:=by
     rw[<-HC.e];unfold FQ;have:=I0.O;rw[aJ (by rw[HC.c];exact Nat.le_refl _),aJ (by rw[HC.d];exact Nat.le_refl _)] at this;exact decide_eq_true this
    rw[hR]
    rfl
 ·have hq:(((l.length:Nat):Int)==((m.length:Nat):Int))=false:=m_
  rw[show FQ l m=false from decide_eq_false fun e=>hlm (by rw[e])];clear hc ap hlm;generalize l.length=n1 at*;generalize m.length=n2 at*;go_enter func25,ntmps25;go_wp2_with fail;go_ret;exact⟨rfl,aa _ _⟩