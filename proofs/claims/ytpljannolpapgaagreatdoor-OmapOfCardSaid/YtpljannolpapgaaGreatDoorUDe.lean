/- The backend of B-trees: its methods: the walks. -/
import Derived.Test.YtpljannolpapgaaGreatDoorUBu
import Derived.Test.YtpljannolpapgaaGreatDoorUMg
import Derived.Test.YtpljannolpapgaaGreatDoorUPr
set_option maxRecDepth 100000
set_option maxHeartbeats 6400000
namespace Go.Proofs.YtpljannolpapgaaGreatDoor
section
open Go.RowKit Tryz Go.BigFrame Go.Maps Go.WideMaps Lf Tr
variable{w:World}
def jx(ps t:Nat):Value:=.agg #[PV ps,Xi t]
theorem C8(f:Nat)(v:Value)(w:World):(method (f+1) 164 v "loft/backend.size").run prog w=.ok (321,v) w:=k_
theorem AN(args:Array Value)(w:World):(callFunc 321 args).run prog w=.ok (.enter 321 args) w:=k_
theorem C7(f:Nat)(v:Value)(w:World):(method (f+1) 164 v "loft/backend.rank").run prog w=.ok (319,v) w:=k_
theorem AM(args:Array Value)(w:World):(callFunc 319 args).run prog w=.ok (.enter 319 args) w:=k_
theorem vN(f:Nat)(v:Value)(w:World):(method (f+1) 164 v "loft/backend.at").run prog w=.ok (316,v) w:=k_
theorem ul(args:Array Value)(w:World):(callFunc 316 args).run prog w=.ok (.enter 316 args) w:=k_
theorem vO(f:Nat)(v:Value)(w:World):(method (f+1) 164 v "loft/backend.find").run prog w=.ok (317,v) w:=k_
theorem um(args:Array Value)(w:World):(callFunc 317 args).run prog w=.ok (.enter 317 args) w:=k_
theorem rH(f:Nat)(v:Value)(w:World):(method (f+1) 164 v "loft/backend.insert").run prog w=.ok (318,v) w:=k_
theorem qu(args:Array Value)(w:World):(callFunc 318 args).run prog w=.ok (.enter 318 args) w:=k_
theorem CB{ps t hh z:Nat}(hs:∀W,D_ w W->Cb 324 #[PV ps,Xi t,Xu hh] W (Xi z)):
 Cb 321 #[jx ps t,Xu hh] w (Xi z):=by
 have B0:=c_ w (.cells #[PV ps,Xi t] 164);have hs:=hs _ B0;have HG:=kq2 hs B0;clear hs B0;simp only[jx];go_enter func321,ntmps321;go_wp2_with fail;refine e9 HG.a fun w1 hb1=>?_;have H1:=If (b_ HG.b hb1);clear hb1;go_wp2_with fail;go_ret;exact⟨rfl,H1.O⟩
theorem Cz{ps t hh z:Nat}(k:List UInt8)(hs:∀W,D_ w W->Cb 323 #[PV ps,Xi t,Xu hh,SV k] W (Xi z)):
 Cb 319 #[jx ps t,Xu hh,SV k] w (Xi z):=by
 have B0:=c_ w (.cells #[PV ps,Xi t] 164);have hs:=hs _ B0;have HG:=kq2 hs B0;clear hs B0;simp only[jx];go_enter func319,ntmps319;go_wp2_with fail;refine e9 HG.a fun w1 hb1=>?_;have H1:=If (b_ HG.b hb1);clear hb1;go_wp2_with fail;go_ret;exact⟨rfl,H1.O⟩
theorem vD{ps t hh:Nat}(k:List UInt8)(k0 k1:Nat)(z:Bool)(hs:∀W,D_ w W->Cb 178 #[PV ps,Xi t,Xu hh,SV k] W (.tuple #[Id k0 k1,.bool z])):
 Cb 317 #[jx ps t,Xu hh,SV k] w (.tuple #[Id k0 k1,.bool z]):=by
 have B1:=c_ w (.cells #[PV ps,Xi t] 164);have B0:=B1.alloc B1.size (.cells #[Xu 0,Xu 0] 104);have z1:=heap_alloc_new (w.alloc (.cells #[PV ps,Xi t] 164)) (.cells #[Xu 0,Xu 0] 104);simp only[World.size_alloc] at z1;have ha:=hs _ B0;simp only[Id,jx] at ha⊢;have HG:=kq3 ha B0 z1;clear ha B0 B1 hs z1;go_enter func317,ntmps317;go_wp2_with fail;refine e9 HG.a fun w2 hb2=>?_;have z2:=(hb2.block (w.1.size+1) s_).T HG.c;obtain⟨d0,d1⟩:=Fp z2;obtain⟨f0,f1⟩:=ef z2;have HW:=kq2 (b_ HG.b hb2) z2;clear hb2 z2;go_wp2_with fail;have q3:=ew HW.b (Xu k0) (Xu k1);have B3:=eT HW.a (bH w.1.size) (Xu k0) (Xu k1);generalize ((w2.setCell (y_ (w.1.size+1)) (Xu k0)).setCell (x_ (w.1.size+1) 1) (Xu k1))=W3 at*;obtain⟨e0,e1⟩:=Fp q3;exact bodyPost_ret (v:=.tuple #[.agg #[Xu k0,Xu k1],.bool z]) (by simp[results,f317,go_sem,e0,e1]) rfl ⟨rfl,B3⟩
theorem KD{ps t hh:Nat}(k:Int)(k0 k1:Nat)(z:Nat)(hs:∀W,D_ w W->Cb 322 #[PV ps,Xi t,Xu hh,Xi k] W (.tuple #[Id k0 k1,Xi z])):
 Cb 316 #[jx ps t,Xu hh,Xi k] w (.tuple #[Id k0 k1,Xi z]):=by
 have B1:=c_ w (.cells #[PV ps,Xi t] 164);have B0:=B1.alloc B1.size (.cells #[Xu 0,Xu 0] 104);have z1:=heap_alloc_new (w.alloc (.cells #[PV ps,Xi t] 164)) (.cells #[Xu 0,Xu 0] 104);simp only[World.size_alloc] at z1;have ha:=hs _ B0;simp only[Id,jx] at ha⊢;have HG:=kq3 ha B0 z1;clear ha B0 B1 hs z1;go_enter func316,ntmps316;go_wp2_with fail;refine e9 HG.a fun w2 hb2=>?_;have z2:=(hb2.block (w.1.size+1) s_).T HG.c;obtain⟨d0,d1⟩:=Fp z2;obtain⟨f0,f1⟩:=ef z2;have HW:=kq2 (b_ HG.b hb2) z2;clear hb2 z2;go_wp2_with fail;have q3:=ew HW.b (Xu k0) (Xu k1);have B3:=eT HW.a (bH w.1.size) (Xu k0) (Xu k1);generalize ((w2.setCell (y_ (w.1.size+1)) (Xu k0)).setCell (x_ (w.1.size+1) 1) (Xu k1))=W3 at*;obtain⟨e0,e1⟩:=Fp q3;exact bodyPost_ret (v:=.tuple #[.agg #[Xu k0,Xu k1],Xi z]) (by simp[results,f316,go_sem,e0,e1]) rfl ⟨rfl,B3⟩
theorem rA{ps t hh p q:Nat}{S:St}{Y:Nat->Prop}(h:Ig w ps S Y)(was:Bool){R:Nat->Nat->Nat->St->Prop}(hs:∀W Z,Ig W ps S Z->Ct 137 #[PV ps,Xi t,Xu hh,Id p q] W fun e w'=>∃(x ik iv:Nat) (S':St),e=.returned (.tuple #[Xu x,Id ik iv,.bool was,Xi 0])/\Ig w' ps S' Z/\Fo Z W w'/\R x ik iv S'):
 Ct 318 #[jx ps t,Xu hh,Id p q] w fun e w'=>∃(x ik iv:Nat) (S':St),e=.returned (.tuple #[Xu x,Id ik iv,.bool was,Xi 0])/\Ig w' ps S' Y/\Fo Y w w'/\R x ik iv S':=by
 simp only[Id,jx] at hs⊢;have B1:=c_ w (.cells #[PV ps,Xi t] 164);have B2:=B1.alloc B1.size (Xe p q);have B3:=B2.alloc B2.size (.cells #[Xu 0,Xu 0] 104);have y3:=heap_alloc_new ((w.alloc (.cells #[PV ps,Xi t] 164)).alloc (Xe p q)) (.cells #[Xu 0,Xu 0] 104);have z2:((w.alloc (.cells #[PV ps,Xi t] 164)).alloc (Xe p q)).1.size=w.1.size+2:=s_
 have z3:(((w.alloc (.cells #[PV ps,Xi t] 164)).alloc (Xe p q)).alloc (.cells #[Xu 0,Xu 0] 104)).1.size=w.1.size+3:=s_
 rw[z2] at y3;have hY:=h.yl;have hw:=hs _ _ (h.wide B3);rw[z3] at hw;have HG:=kq4 hw (Fo.A_ B3 hY) y3 hY;clear hw h y3 B1 B2 B3 hY hs z2 z3;go_enter func318,ntmps318;go_wp2_with fail;refine HG.a.M ?_;rintro e w6 ⟨x,ik,iv,S',rfl,h6,k6,r6⟩;have y6:=(k6.block (w.1.size+2) (ae ⟨o_,o_⟩)).T HG.c;obtain⟨e0,e1⟩:=Fp y6;obtain⟨f0,f1⟩:=ef y6;have H6:=kq4 h6 (HG.b.T (k6.M fun k hk=>ab hk)) y6 r6;clear h6 k6 y6 r6;go_wp2_with fail;have q7:((w6.setCell (y_ (w.1.size+2)) (Xu ik)).setCell (x_ (w.1.size+2) 1) (Xu iv)).1[w.1.size+2]?=_:=ew H6.c (Xu ik) (Xu iv);have o7:∀k,k≠w.1.size+2->((w6.setCell (y_ (w.1.size+2)) (Xu ik)).setCell (x_ (w.1.size+2) 1) (Xu iv)).1[k]?=w6.1[k]?:=fun k hk=>fA hk _ _;have s7:Ig ((w6.setCell (y_ (w.1.size+2)) (Xu ik)).setCell (x_ (w.1.size+2) 1) (Xu iv)) ps S' Y:=(H6.a.write (b:=w.1.size+2) (ae ⟨o_,o_⟩) H6.c ⟨d_,d_⟩ s_ s_ fun k _ hk=>o7 k hk).M fun k hk=>ab hk;have k7:Fo Y w ((w6.setCell (y_ (w.1.size+2)) (Xu ik)).setCell (x_ (w.1.size+2) 1) (Xu iv)):=H6.b.T ⟨rfl,rfl,rfl,s_,fun k hk=>o7 k (by have:=HG.d k hk;omega)⟩;clear e0 e1 f0 f1 o7;generalize ((w6.setCell (y_ (w.1.size+2)) (Xu ik)).setCell (x_ (w.1.size+2) 1) (Xu iv))=W7 at*;obtain⟨e0,e1⟩:=Fp q7;exact bodyPost_ret (v:=.tuple #[Xu x,.agg #[Xu ik,Xu iv],.bool was,Xi 0]) (by simp[results,f318,go_sem,e0,e1]) rfl ⟨x,ik,iv,S',rfl,s7,k7,H6.d⟩
end
section
open Lf Tr
namespace Bt
variable{d:Nat}{e:It}{key:List UInt8}
def eD(e d:It):It:=if d.k=e.k then e else d
theorem wI(e d:It):(eD e d).k=d.k:=by
 unfold eD;grind
theorem mg{e d:It}(h:d.k≠e.k):eD e d=d:=if_neg h
def eA(f:It->It): {d:Nat} ->Bt d->Bt d
 | 0,x=>nomatch x
 | d+1,x=>(⟨Bn.h x,(Bn.es x).map f,(Bn.ks x).map fun k=>eA f k⟩:Bn (Bt d))
theorem CI(f:It->It)(x:Bt (d+1)):eA f x=(⟨Bn.h x,(Bn.es x).map f,(Bn.ks x).map (eA f)⟩:Bn (Bt d)):=rfl
theorem Ka(f:It->It):∀(es:List It) (ks:List (List It)),ei (es.map f) (ks.map (List.map f))=(ei es ks).map f
 | [],[]=>rfl
 | [],_::_=>rfl
 | e::es,[]=>by
  have:=Ka f es [];simp only[bg,List.map_nil] at this⊢;rw[ei,ei,bg,this]
 | e::es,k::ks=>by
  have:=Ka f es ks;simp only[bg];rw[ei,ei,aQ,bg,this]
theorem xW:∀(es:List It) (ks:List (List It)),(ks=[]\/ks.length=es.length+1)->(ei es ks).Perm (es++ks.flatten)
 | [],[],_=>List.Perm.refl _
 | [],[k],_=>by simp[ei]
 | [],_::_::_,h=>by simp at h
 | e::es,[],_=>by rw[jY];simp
 | e::es,k::ks,h=>by
  have ih:=xW es ks (ae (by simpa using h));rw[ei,dz];refine List.perm_middle.T (List.Perm.cons e ((ih.append_left k).T ?_));show (k++(es++ks.flatten)).Perm (es++(k++ks.flatten))
  rw[<-bp,<-bp];exact List.Perm.append_right _ List.perm_append_comm
theorem ln(f:It->It):∀{d:Nat} (x:Bt d),its (eA f x)=(its x).map f
 | 0,x=>nomatch x
 | d+1,x=>by
  show ei ((Bn.es x).map f) (((Bn.ks x).map (eA f)).map its)=(ei (Bn.es x) ((Bn.ks x).map its)).map f
  rw[<-Ka,cy,cy];congr 1
  exact aY fun k _=>ln f k
theorem lW(f:It->It):∀{d:Nat} (x:Bt d),j_ (eA f x)=j_ x
 | 0,x=>nomatch x
 | d+1,x=>by
  show Bn.h x::(((Bn.ks x).map (eA f)).map j_).flatten=Bn.h x::((Bn.ks x).map j_).flatten
  rw[cy];congr 2
  exact aY fun k _=>lW f k
theorem mapB_hd(f:It->It):∀{d:Nat} (x:Bt d),hd (eA f x)=hd x
 | 0,x=>nomatch x
 | _+1,_=>rfl
theorem vE(f:It->It):∀{d:Nat} (x:Bt d),nk (eA f x)=nk x
 | 0,x=>nomatch x
 | _+1,x=>by
  show ((Bn.es x).map f).length=(Bn.es x).length
  rw[ak]
theorem vF(f:It->It){t:Nat}:∀{d:Nat} {x:Bt d},Ok t x->Ok t (eA f x)
 | 0,x,_=>nomatch x
 | d+1,x,h=>by
  obtain⟨h1,h2,h3⟩:=h;refine⟨?_,?_,?_⟩
  ·show ((Bn.es x).map f).length<=_
   rw[ak];exact h1
  ·show ((Bn.ks x).map (eA f)).length=if d=0 then 0 else((Bn.es x).map f).length+1
   rw[ak,ak];exact h2
  ·intro k hk;have hk:k∈(Bn.ks x).map (eA f):=hk;obtain⟨c,hc,rfl⟩:=az.1 hk;exact⟨vF f (h3 c hc).1,by rw[vE];exact(h3 c hc).2⟩
theorem rC {f:It->It}{t:Nat}:∀{d:Nat} {x:Bt d},Ok t x->(∀a∈its x,f a=a)->eA f x=x
 | 0,x,_,_=>nomatch x
 | d+1,x,h,hf=>by
  have e1:(Bn.es x).map f=Bn.es x:=(aY fun a ha=>(hf a (lN h.okN ha):f a=id a)).T (dN _);have e2:(Bn.ks x).map (eA f)=Bn.ks x:=(aY fun k hk=>(rC (h.2.2 k hk).1 fun a ha=>hf a (kid_its h.okN hk ha):eA f k=id k)).T (dN _);rw[CI,e1,e2];rfl
theorem og{α:Type}{R:α->α->Prop}{L:List (List α)}(h:L.flatten.Pairwise R){i j:Nat}(hi:i<L.length)(hj:j<L.length)(hij:i<j):∀x∈L[i],∀y∈L[j],R x y:=by
 grind [List.pairwise_iff_getElem]
def nodeB(key:List UInt8): {d:Nat} ->Bt d->Option (Nat×BN×Nat)
 | 0,x=>nomatch x
 | _+1,x=>if fo key (Bn.es x)=true then some (Bn.h x,bn x,Fr key (Bn.es x)) else match (Bn.ks x)[Fr key (Bn.es x)]? with | some k=>nodeB key k | none=>none
theorem nodeB_here{x:Bt (d+1)}(h:fo key (Bn.es x)=true):nodeB key x=some (hd x,bn x,Fr key (Bn.es x)):=if_pos h
theorem nodeB_down{x:Bt (d+1)}(h:fo key (Bn.es x)=false){k:Bt d}(hk:(Bn.ks x)[Fr key (Bn.es x)]?=some k):nodeB key x=nodeB key k:=by
 show (if fo key (Bn.es x)=true then some (Bn.h x,bn x,Fr key (Bn.es x)) else match (Bn.ks x)[Fr key (Bn.es x)]? with | some k=>nodeB key k | none=>none)=_
 grind
theorem nodeB_none{x:Bt (d+1)}(h:fo key (Bn.es x)=false)(hk:(Bn.ks x)[Fr key (Bn.es x)]?=none):nodeB key x=none:=by
 show (if fo key (Bn.es x)=true then some (Bn.h x,bn x,Fr key (Bn.es x)) else match (Bn.ks x)[Fr key (Bn.es x)]? with | some k=>nodeB key k | none=>none)=_
 grind
def setN(n:BN)(k:Nat)(e:It):BN:= { n with i_:=n.i_.set k e.kh,F4:=n.F4.set k e.vh }
theorem Ca{a b:It}(h:eU a b):a.k≠b.k:=ne_of_lt h
theorem vd{t d:Nat}{x:Bt (d+1)}(ok:Ok t x)(hs:(its x).Pairwise eU):(Bn.es x++((Bn.ks x).map its).flatten).Pairwise fun a b=>a.k≠b.k:=by
 have h1:(its x).Pairwise fun a b=>a.k≠b.k:=hs.imp Ca;refine(List.Perm.pairwise_iff (fun h=>Ne.S h) (xW _ _ ?_)).1 (by rw[<-dQ];exact h1)
 rcases ok.okN.rows with⟨h0,_⟩ | ⟨h0,_⟩
 ·exact ab h0
 omega
theorem D8{es:List It}(hs:es.Pairwise fun a b=>a.k≠b.k){k:Nat}(hk:k<es.length)(he:es[k].k=e.k):es.map (eD e)=es.set k e:=by
 refine dD s_ fun i h1 h2=>?_;rw[bP,List.getElem_set]
 by_cases q:k=i
 ·subst q;rw[if_pos rfl];exact if_pos he
 ·rw[if_neg q]
  grind [List.pairwise_iff_getElem,hs,mg,Nat.lt_or_ge]
theorem CY{t d:Nat}{l:List (Bt d)}(ok:∀k∈l,Ok t k)(h:∀a∈(l.map its).flatten,a.k≠e.k):l.map (eA (eD e))=l:=
 (aY fun k hk=>(rC (ok k hk) fun a ha=>mg (h a (cI.2 ⟨its k,az.2 ⟨k,hk,rfl⟩,ha⟩)):eA (eD e) k=id k)).T (dN _)
structure RepAt (S:St) (o:Nat->Nat) (t:Nat) {d:Nat} (x:Bt d) (e e0:It) (g:Nat) (n:BN) (k:Nat):Prop where
 find:H_ e.k (its x)=some e0
 key:n.i_[k]?=some e0.kh
 val:n.F4[k]?=some e0.vh
 mem:g∈j_ x
 bnok:iU t (setN n k e)
 words:∀v∈w_ t (setN n k e),v<2^64
 len:l_ S g=some (w_ t n)
 fit:Fw (FC S g 0 (w_ t (setN n k e))) o
 at':At (FC S g 0 (w_ t (setN n k e))) t (eA (eD e) x)
 fr:∀z,z≠g->l_ (FC S g 0 (w_ t (setN n k e))) z=l_ S z
 grew:ej S (FC S g 0 (w_ t (setN n k e))) 0 0
theorem D7{S:St}{o:Nat->Nat}{t d:Nat}{x:Bt (d+1)}(he:e.kh<2^64/\e.vh<2^64)(hx:Walk S o t x)(hn:(j_ x).Nodup)(hb:ItLt (its x))(h:fo e.k (Bn.es x)=true):
 ∃e0,RepAt S o t x e e0 (hd x) (bn x) (Fr e.k (Bn.es x)):=by
 obtain⟨hk,ai⟩:=mO h;obtain⟨k1,k2,k3⟩:=bw.1 (vd hx.ok hx.G6);have a1:=D8 k1 hk ai;have a0:(Bn.ks x).map (eA (eD e))=Bn.ks x:=CY (fun k hk=>(hx.ok.2.2 k hk).1) fun a ha q=>k3 _ (aw hk) a ha (ai.T q.S);have a4:(its (eA (eD e) x)).length=(its x).length:=by rw[ln,ak]
 have ar:bn (eA (eD e) x)=setN (bn x) (Fr e.k (Bn.es x)) e:=by
  have e1:Bn.es (eA (eD e) x)=(Bn.es x).set (Fr e.k (Bn.es x)) e:=a1;have e2:Bn.ks (eA (eD e) x)=Bn.ks x:=a0;unfold bn setN
  simp_all
 have a5:∀a∈Bn.es (eA (eD e) x),a.kh<2^64/\a.vh<2^64:=fun a ha=>by
  have e1:Bn.es (eA (eD e) x)=(Bn.es x).set (Fr e.k (Bn.es x)) e:=a1;rw[e1] at ha
  rcases de ha with q | rfl
  ·exact hb a (lN hx.ok.okN q)
  omega
 have au:∀k∈Bn.ks (eA (eD e) x),At S t k:=fun k hk=>by
  have e2:Bn.ks (eA (eD e) x)=Bn.ks x:=a0;rw[e2] at hk;exact hx.at'.2 k hk
 have ap:=bnLt_of (x:=eA (eD e) x) hx.fit a5 au (by rw[a4];have:=hx.few;omega);have a6:∀k∈Bn.ks (eA (eD e) x),hd (eA (eD e) x)∉j_ k:=hd_kids (by rw[lW];omega);have a8:(Bn.es (eA (eD e) x)).length<=31:=by
  show ((Bn.es x).map (eD e)).length<=31
  rw[ak];exact hx.es.2.2
 have a7:(w_ t (bn x)).length=6*t:=jJ ..;have hp:=put_node (x:=eA (eD e) x) hx.fit au a6 (ws:=w_ t (bn x)) hx.at'.1 a7 ap o_;have ad:=hx.at'.bnok hx.fit hx.t1 hx.t2 hx.ok;have a2:=kX (t:=t) ap (by unfold bn;grind);rw[ar,mapB_hd] at hp;rw[ar] at a2;obtain⟨p1,p2,p3,p4⟩:=hp;have a3:H_ e.k (its x)=some (Bn.es x)[Fr e.k (Bn.es x)]:=by
  have an:=hx.G6;rw[dQ] at an⊢
  rcases hx.ok.okN.rows with⟨h0,_⟩ | ⟨h0,_⟩
  ·rw[h0,jY] at an⊢;exact Kv an hk ai
  ·exact((l7 h0 an).here hk ai).1
 exact⟨(Bn.es x)[Fr e.k (Bn.es x)],a3,by unfold bn;grind,by unfold bn;grind,hd_mem x,⟨ad.lo,ad.hi,by unfold setN;rw[bx];exact ad.many,by unfold setN;rw[bx,bx];exact ad.F4,by unfold setN;rw[bx];exact ad.C_⟩,a2,hx.at'.1,p1,p2,p3,p4⟩
theorem rep_at {S:St}{o:Nat->Nat}{t:Nat}{e:It}(he:e.kh<2^64/\e.vh<2^64){g:Nat}{n:BN}{k:Nat}:
 ∀{d:Nat} {x:Bt d},Walk S o t x->(j_ x).Nodup->ItLt (its x)->nodeB e.k x=some (g,n,k)->∃e0,RepAt S o t x e e0 g n k
 | 0,x,_,_,_,_=>nomatch x
 | d+1,x,hx,hn,hb,hnb=>by
  cases hh:fo e.k (Bn.es x) with
  | true=>
   rw[nodeB_here hh] at hnb;cases hnb
   exact D7 he hx hn hb hh
  | false=>
   cases hj:(Bn.ks x)[Fr e.k (Bn.es x)]? with
   | none=>
    rw[nodeB_none hh hj] at hnb;cases hnb
   | some c=>
    rw[nodeB_down hh hj] at hnb;obtain⟨a9,an⟩:=ax.1 hj;have ad:c∈Bn.ks x:=by grind
    have ap:((Bn.ks x).map j_).flatten.Nodup:=(aG.1 hn).2;have a8:(j_ c).Nodup:=(List.pairwise_flatten.1 ap).1 _ (az.2 ⟨c,ad,rfl⟩);obtain⟨e0,r⟩:=rep_at he (hx.kid ad) a8 (fun a ha=>hb a (kid_its hx.ok.okN ad ha)) hnb;have a6:g∈j_ x:=mem_nodes_kid ad r.mem;have a5:hd x≠g:=fun q=>hd_kids hn c ad (q▸r.mem);obtain⟨k1,k2,k3⟩:=bw.1 (vd hx.ok hx.G6);obtain⟨f1,f2⟩:e0∈its c/\e0.k=e.k:=by
     have:=r.find;grind [H_,List.mem_of_find?_eq_some]
    have a4:(Bn.es x).map (eD e)=Bn.es x:=(aY fun a ha=>(mg fun q=>k3 a ha e0 (cI.2 ⟨its c,az.2 ⟨c,ad,rfl⟩,f1⟩) (q.T f2.S):eD e a=id a)).T (dN _);have ba:(its (eA (eD e) x)).length=(its x).length:=by rw[ln,ak]
    have a3:bn (eA (eD e) x)=bn x:=by
     have e1:Bn.es (eA (eD e) x)=Bn.es x:=a4;have e2:(Bn.ks (eA (eD e) x)).map hd=(Bn.ks x).map hd:=by
      show ((Bn.ks x).map (eA (eD e))).map hd=_
      rw[cy];exact aY fun k _=>mapB_hd (eD e) k
     unfold bn;grind
    refine⟨e0,?_,r.key,r.val,a6,r.bnok,r.words,r.len,r.fit,⟨?_,fun k hk=>?_⟩,r.fr,r.grew⟩
    ·have a2:=hx.G6;rw[dQ] at a2⊢;rcases hx.ok.okN.rows with⟨h0,_⟩ | ⟨h0,_⟩
     ·grind
     ·rw[(l7 h0 a2).down (mN hh)];have a':Fr e.k (Bn.es x)<((Bn.ks x).map its).length:=by grind
      have:((Bn.ks x).map its).getD (Fr e.k (Bn.es x)) []=its c:=by grind
      rw[this];exact r.find
    ·show l_ _ (Bn.h x)=some (w_ t (bn (eA (eD e) x)))
     rw[a3];exact(r.fr _ a5).T hx.at'.1
    ·have hk:k∈(Bn.ks x).map (eA (eD e)):=hk;obtain⟨c',ai,rfl⟩:=az.1 hk;obtain⟨i,hi,a7⟩:=ci.1 ai;by_cases q:i=Fr e.k (Bn.es x)
     ·subst q;have:c'=c:=a7.S.T an;rw[this];exact r.at'
     ·have ar:i<((Bn.ks x).map its).length:=by grind
      have a0:Fr e.k (Bn.es x)<((Bn.ks x).map its).length:=by grind
      have au:i<((Bn.ks x).map j_).length:=by grind
      have a1:Fr e.k (Bn.es x)<((Bn.ks x).map j_).length:=by grind
      have hz:∀a∈its c',a.k≠e.k:=fun a ha q1=>by
       rcases cB i (Fr e.k (Bn.es x)) with h3 | h3
       ·exact og k2 ar a0 h3 a (by grind) e0 (by grind) (q1.T f2.S)
       ·exact og k2 a0 ar o_ e0 (by grind) a (by grind) (f2.T q1.S)
      rw[rC (hx.ok.2.2 c' ai).1 fun a ha=>mg (hz a ha)];refine(hx.at'.2 c' ai).frame fun z hz1=>r.fr z fun q1=>?_;rcases cB i (Fr e.k (Bn.es x)) with h3 | h3
      ·exact og ap au a1 h3 z (by grind) g (by rw[bP,an];exact r.mem) q1
      ·exact og ap a1 au o_ g (by rw[bP,an];exact r.mem) z (by grind) q1.S
theorem nodeB_some {S:St}{o:Nat->Nat}{t:Nat}{key:List UInt8}:∀{d:Nat} {x:Bt d},Walk S o t x->(H_ key (its x)).isSome=true->∃r,nodeB key x=some r
 | 0,x,_,_=>nomatch x
 | d+1,x,hx,hf=>by
  cases hh:fo key (Bn.es x) with
  | true=>exact⟨_,nodeB_here hh⟩
  | false=>
   have ad:=hx.G6;rw[dQ] at ad hf;rcases hx.ok.okN.rows with⟨h0,_⟩ | ⟨h0,_⟩
   ·rw[h0,jY] at ad hf;rw[findB_none (vl ad (mN hh))] at hf;grind
   ·rw[(l7 h0 ad).down (mN hh)] at hf;have an:=kH (key:=key) (Bn.es x);have ai:Fr key (Bn.es x)<(Bn.ks x).length:=by rw[ak] at h0;omega
    rw[jN ai] at hf;obtain⟨r,hr⟩:=nodeB_some (hx.kid (aw ai)) hf;grind [nodeB_down,List.getElem?_eq_getElem,trans]
end Bt
end
section
open Go.RowKit Tryz Go.BigFrame Go.Maps Go.WideMaps Lf Tr
variable{S:St}{Y:Nat->Prop}{l:List Nat}{ps:Nat}{w:World}
theorem Im{D b c k:Nat}(h:FE w D (.slice (some (y_ b)) l.length c) l)(x:Nat)(hk:k<l.length):
 FE (w.setCell (x_ b k) (Xu x)) D (.slice (some (y_ b)) l.length c) (l.set k x):=by
 rcases h.2 with⟨h0,_⟩ | ⟨g',an,ad,hv,hg,hb,h1,h2,h3,h4⟩
 ·cases h0
 ·injection hv with hv1 hv2 hv3
  injection hv1 with hv1
  injection hv1 with hv1
  subst hv1 hv3;refine⟨by simp[hV],ae ⟨b,c,ad.setIfInBounds k (Xu x),by rw[bx],hg,heap_setCell hb,by rw[bx];exact h1,h2,by simpa using h3,?_⟩⟩;have hl:(hV l).length=l.length:=by simp[hV]
  have ai:ad.toList=hV l++ad.toList.drop (l.length*1):=by rw[<-h4,aV]
  rw[bx];simp only[cZ];rw[ai,List.set_append_left _ _ o_,List.take_left' (by simp[hV])]
  simp[hV,List.map_set]
theorem qDead{P:Prop}(h:P:=by
 rw[h3] at this
 injection this with this
 injection this with _ this
 exact absurd this d_):P:=h
theorem wL{D b c k:Nat}(h:Ig w ps S Y)(ho:FE w D (.slice (some (y_ b)) l.length c) l)(hD:fy<D)(hy:Y b)(x:Nat):Ig (w.setCell (x_ b k) (Xu x)) ps S Y:=by
 obtain⟨h1,h2,cs,fr,h3⟩:=FE.block ho rfl;obtain⟨pa,pm,ph,pt,v,h⟩:=h;refine⟨pa,pm,ph,pt,v,h.of_keep (by rw[size_setCell];exact Nat.le_refl _) fun k hk hc=>FB ?_⟩;rintro rfl
 rcases hc with hc | rfl | rfl | rfl
 ·exact hc hy
 ·have:=h.hd;exact qDead
 ·have:=h.heap.hp;exact qDead
 ·exact absurd (aH hD h1) (Nat.lt_irrefl _)
theorem oJ{w w':World}{D:Nat}{v:Value}(h:FE w D v l)(hb:D_ w w'):FE w' D v l:=FE.at h fun g hg=>hb.block g (FE.ge h g hg).2
theorem mY{D b c k v:Nat}(h:FE w D (.slice (some (y_ b)) l.length c) l)(hk:l[k]?=some v):w.cell? (x_ b k)=some (Xu v)/\w.frozen? (x_ b k)=false:=by
 obtain⟨ad,ai⟩:=ax.1 hk;have h1:=World.ownsRow.cells h (g:=b) rfl k (Xu v) (by simp[hV,ai,ad]);rw[Addr.add_lit] at h1;obtain⟨_,_,cs,fr,h3⟩:=FE.block h rfl
 rcases h.2 with⟨h0,_⟩ | ⟨g',an,ap,hv,hg,hb,_⟩
 ·cases h0
 ·injection hv with hv1 _ _
  injection hv1 with hv1
  injection hv1 with hv1
  subst hv1;exact⟨by simpa using h1,AT hb⟩
theorem zR{o:Nat->Nat}(h:Ig w ps S Y){t d:Nat}{x:Bt (d+1)}(hx:Bt.Walk S o t x)(hd:d<40){e e0:It}{g:Nat}{n0:BN}{k0:Nat}(hnd:Bt.nodeB e.k x=some (g,n0,k0))(hrep:Bt.RepAt S o t x e e0 g n0 k0):
 Ct 179 #[FH ps t,Xu (Bt.hd x:Nat),SV e.k,Id e.kh e.vh] w fun en w'=>en=.returned (Id e0.kh e0.vh)/\Ig w' ps (FC S g 0 (w_ t (Bt.setN n0 k0 e))) Y/\Fo Y w w':=by
 have B0:=((c_ w (Xc ps t)).alloc s_ (Xe e.kh e.vh)).alloc m_ (.cells #[Xu 0,Xu 0] 104);have z1:(w.alloc (Xc ps t)).1.size=w.1.size+1:=s_
 have z2:((w.alloc (Xc ps t)).alloc (Xe e.kh e.vh)).1.size=w.1.size+2:=s_
 have q1:=heap_alloc_new w (Xc ps t);have q2:=heap_alloc_new (w.alloc (Xc ps t)) (Xe e.kh e.vh);have q3:=heap_alloc_new ((w.alloc (Xc ps t)).alloc (Xe e.kh e.vh)) (.cells #[Xu 0,Xu 0] 104);rw[z1] at q2;rw[z2] at q3;have c2:=(aa (w.1.size+2) ((w.alloc (Xc ps t)).alloc (Xe e.kh e.vh))).alloc (by rw[z2];exact Nat.le_refl _) (.cells #[Xu 0,Xu 0] 104);have c1:=(aa (w.1.size+1) (w.alloc (Xc ps t))).alloc (by rw[z1];exact Nat.le_refl _) (Xe e.kh e.vh);have q1:=(c2.block w.1.size o_).T ((c1.block w.1.size o_).T q1);have q2:=(c2.block (w.1.size+1) o_).T q2;have hz:w.1.size+3<=(((w.alloc (Xc ps t)).alloc (Xe e.kh e.vh)).alloc (.cells #[Xu 0,Xu 0] 104)).1.size:=s_
 have er:=xA h;generalize hW:((w.alloc (Xc ps t)).alloc (Xe e.kh e.vh)).alloc (.cells #[Xu 0,Xu 0] 104)=W0 at*;clear c1 c2 z1 z2;have hi:=hx.fit.inv;have a0:=fun W (hw:D_ W0 W) {n:BN} {hh:Nat} (hb:jg S t hh n)=>kI (h.a_ (b_ B0 hw)) hi hb;have em:=fun W (hw:D_ W0 W) {es:List It} {vk vv vc:Value} {sz:Nat} hk hl hs he=>nR (h.a_ (b_ B0 hw)) hi t (es:=es) (vk:=vk) (vv:=vv) (vc:=vc) (sz:=sz) hk hl hs he e.k;have eo:=fun W (hw:D_ W0 W)=>h.wide (b_ B0 hw);have eb:=fL hx.fit hrep.len;have cb:=jw hx.fit.tab hrep.len;rw[jJ] at cb;have a1:=fun(W:World) (Z:Nat->Prop) (hW:Ig W ps S Z) {vk vv vc:Value} (k1:FD W vk (Bt.setN n0 k0 e).i_) (k2:FD W vv (Bt.setN n0 k0 e).F4) (k3:FD W vc (Bt.setN n0 k0 e).C_)=>Jg hW hi hrep.bnok k1 k2 k3 g eb.2.1 cb hrep.words;have HG:=kq5 (kq7 B0 q1 q2 q3 hz er h.yl) @a0 @em eo @a1;have HX:=kq3 hx hnd hrep;obtain⟨h0,b8⟩:=Ii (Bt.hd x);have HR:=If b8;rw[b8];obtain⟨ek,b4⟩:=Ii e.k;have a5:=If b4;rw[b4];unfold FH Id;clear a0 em h hx hi B0 q1 q2 q3 hz b8 b4 hnd hrep a1 eo eb cb er;go_enter func179,ntmps179;go_wp2_with fail;clear hW
 go_loopw [1,9,10,11,12,13,14] (fun s1 _ _ _ _ _ s14 wr=>∃(d' i hh:Nat),s1=Xu hh/\s14=Xi i/\i+d'<40/\Hid (D_ W0 wr/\∃y:Bt (d'+1),Bt.Walk S o t y/\Bt.hd y=hh/\Bt.nodeB e.k y=some (g,n0,k0))) (fun _ _ _ _ _ _ s14 _=>40-(intOf s14).toNat)
 case atStart=>exact⟨d,0,h0,rfl,rfl,o_,aa _ _,x,HX.a,HR.O,HX.b⟩
 case round=>
  obtain⟨d',i,hh,rfl,rfl,g8,I⟩:=hrel;obtain⟨hB,y,hy,b',el⟩:=I.O;have ho:(i:Int)<40:=o_
  have t3:=(hB.block w.1.size (by have:=HG.a.e;omega)).T HG.a.b;obtain⟨x0,x1⟩:=Fp t3;have a0:=HG.b wr hB hy.read;unfold FH eC at a0;rw[b'] at a0;have HY:=kq4 hB hy b' el;clear hB hy b' el t3;obtain⟨n,hn⟩:=Ii (Bt.bn y);rw[hn] at a0;have dp:=If a0;clear a0;go_wp2_with fail;refine dp.O.M ?_;rintro en w1 ⟨vk,vv,vc,rfl,rows,hb⟩;obtain⟨Ak,ck,rfl⟩:=rows.k.F8;obtain⟨Av,cv,rfl⟩:=rows.v.F8;obtain⟨Ac,cc,rfl⟩:=rows.c.F8;have ai:n.i_.length=(Bn.es y).length:=by rw[<-hn];unfold Bt.bn;rw[ak]
  have an:n.F4.length=(Bn.es y).length:=by rw[<-hn];unfold Bt.bn;rw[ak]
  have bf:n.C_.length=(Bn.ks y).length:=by rw[<-hn];unfold Bt.bn;rw[ak]
  have hy:=HY.b;obtain⟨d1,d2,g7⟩:=hy.es;generalize ch:(Bn.es y).length=lk at*;generalize ee:(Bn.ks y).length=lc at*;rw[ai] at rows;rw[an] at rows;rw[bf] at rows;rw[ai,an,bf];generalize ep:n.size=sz at*;have A1:=c_ w1 (.cells #[.slice Ak lk ck,.slice Av lk cv,.slice Ac lc cc,Xu sz] 215);have p1:=heap_alloc_new w1 (.cells #[.slice Ak lk ck,.slice Av lk cv,.slice Ac lc cc,Xu sz] 215);have B1:=HY.a.T ((b_ hb A1).M HY.a.size);have bo:=rows.a_ A1;have cj:w1.1.size<(w1.alloc (.cells #[.slice Ak lk ck,.slice Av lk cv,.slice Ac lc cc,Xu sz] 215)).1.size:=s_
  have d9:=hb.size;have eg:(∀g,(Value.slice Ak lk ck).ownBlock=some g->g<w1.1.size)/\(∀g,(Value.slice Av lk cv).ownBlock=some g->g<w1.1.size)/\∀g,(Value.slice Ac lc cc).ownBlock=some g->g<w1.1.size:=⟨fun g q=>(rows.k.ge g q).2,fun g q=>(rows.v.ge g q).2,fun g q=>(rows.c.ge g q).2⟩;obtain⟨W1,d8⟩:=Ii (w1.alloc (.cells #[.slice Ak lk ck,.slice Av lk cv,.slice Ac lc cc,Xu sz] 215));rw[d8] at A1 p1 B1 bo cj;have t3:=(B1.block w.1.size (by have:=HG.a.e;omega)).T HG.a.b;obtain⟨x0,x1⟩:=Fp t3;obtain⟨y0,y1,y2,y3⟩:=Fy p1;have ec:n.i_=(Bn.es y).map (·.kh):=by rw[<-hn];rfl
  have cp:=bo.k.E_;rw[ec] at cp;have bj:=HG.c W1 B1 (vv:=.slice Av lk cv) (vc:=.slice Ac lc cc) (sz:=sz) cp o_ d1 d2;unfold FH eC at bj;rw[a5.O] at bj;have bq:=If bj;have e2:=HY.a.size;have H1:=kq8 B1 p1 bo t3 cj d9 e2 eg;clear bj rows bo hb A1 p1 B1 t3 cp ec dp cj d9 e2 d1 d2 eg;obtain⟨k,hk⟩:=Ii (Fr ek (Bn.es y));obtain⟨he,b9⟩:=Ii (fo ek (Bn.es y));rw[hk,b9] at bq;have g':k<=lk:=by rw[<-hk,<-ch];exact kH _
  have HK:=kq9 hk b9 ch ee hn ep ai an bf;clear hk b9 ch ee hn ep ai an bf hy;go_wp2_with fail;refine bq.O.M ?_;rintro en w2 ⟨rfl,bd⟩;have p2:=(bd.block w1.1.size H1.e).T H1.b;have t2:=(bd.block w.1.size (by have:=H1.a.size;have:=HG.a.e;omega)).T H1.d;clear x0 x1 y0 y1 y2 y3;obtain⟨x0,x1⟩:=Fp t2;obtain⟨y0,y1,y2,y3⟩:=Fy p2;have a4:=If bd;clear bd p2 t2 bq d8
  cases he with
  | true=>
   have a6:=Bt.nodeB_here (key:=e.k) (x:=y) (by rw[a5.O];exact HK.b);rw[HY.d,HY.c,a5.O,HK.a,HK.e] at a6
   injection a6 with a6
   injection a6 with hg1 a6
   injection a6 with hn1 hk1
   subst hg1 hn1 hk1;have hrep:=HX.c;have ca:=hrep.key;have ev:=hrep.val;obtain⟨g2,_⟩:=ax.1 ca;rw[HK.g] at g2;have ha:(k0:Int)<lk:=o_
   have R2:=H1.c.a_ a4.O;have ai:=HK.g;have an:=HK.h;obtain⟨gk,g5,cq,_⟩:=FE.some R2.k (by rw[ai];omega);obtain⟨gv,g6,cw,_⟩:=FE.some R2.v (by rw[an];omega)
   injection cq with cq hv1b hv1c
   injection cw with cw hv2b hv2c
   clear hv1b hv1c hv2b hv2c;subst cq cw;have Rk:=R2.k;have Rv:=R2.v;rw[<-ai] at Rk;rw[<-an] at Rv;obtain⟨dk,fk⟩:=mY Rk ca;obtain⟨dv,fv⟩:=mY Rv ev;have ed:gk≠gv:=fun q=>R2.kv gk rfl (by rw[q];rfl);have g0:=R2.k.ge gk rfl;have g4:=R2.v.ge gv rfl;have p2:=(a4.O.block w1.1.size H1.e).T H1.b;have t2:=(a4.O.block w.1.size (by have:=H1.a.size;have:=HG.a.e;omega)).T H1.d;have B2:=b_ H1.a a4.O;have a2:=(B2.block (w.1.size+1) (by have:=HG.a.e;omega)).T HG.a.c;have r2:=(B2.block (w.1.size+2) (by have:=HG.a.e;omega)).T HG.a.d;have hu:=B2.size;have ht:=H1.g;have hm:=H1.h.1 gk rfl;have hq:=H1.h.2.1 gv rfl;have hj:=H1.h.2.2;have hv:=H1.f;have hr:=HG.a.e;have fw:=kq11 R2 ai an p2 t2 a2 r2 B2 Rk Rv hrep;have d4:w1.1.size<w2.1.size:=(gl p2);obtain⟨I,ar,au⟩:=ub w2 w2.1.size;have e5:=fun x:Fq I=>(ar _ x.ok w1.1.size d4 o_).T p2;obtain⟨m0,m1,m2,m3⟩:=iB e5;have o1:∀x:Fq I,x.to.cell? (x_ gk k0)=some (Xu (e0.kh:Nat)):=fun x=>(j9 (ar _ x.ok gk g0.2 o_)).T dk;have o2:∀x:Fq I,x.to.cell? (x_ gv k0)=some (Xu (e0.vh:Nat)):=fun x=>(j9 (ar _ x.ok gv g4.2 o_)).T dv;have gp:I w2.drew:=au _ fun k hk _=>rfl;have HI:=If au;clear ar au e5 R2 Rk Rv ai an p2 t2 a2 r2 B2 ca ev hrep dk fk dv fv x0 x1 y0 y1 y2 y3;go_wp2_with fail;refine fh I (.take 0 (.take 1 (.take 2 (.take 3 (.take 4 (.take 5 (.take 6 (.take 7 (.take 8 (.take 9 (.take 10 (.go 11 (.go 12 .nil))))))))))))) k_ k_ gp ?_
   iterate 11
    refine pT_ ?_
    try simp only[pu]
   refine pD fun K hK=>?_;go_simp
   try go_simp
   refine hK.O _ _ (HI.O _ fun k hk _=>(c_ w2 _).drew.block k hk) ?_;clear hK K
   try simp only[pu]
   refine pD fun K hK=>?_;go_simp;have B8:D_ w2 (w2.alloc (Xe (e0.kh:Nat) (e0.vh:Nat))).drew:=(c_ w2 _).drew;have q8:(w2.alloc (Xe (e0.kh:Nat) (e0.vh:Nat))).drew.1[w2.1.size]?=_:=heap_alloc_new w2 (Xe (e0.kh:Nat) (e0.vh:Nat));have fn:=If (gl q8);generalize (w2.alloc (Xe (e0.kh:Nat) (e0.vh:Nat))).drew=w8 at*
   try go_simp
   refine hK.O _ _ (HI.O _ fun k hk _=>B8.block k hk) ?_;clear hK K
   try simp only[pu]
   refine eP ?_;clear m0 m1 m2 m3 o1 o2;have ad:=fw.O;have dn:=b_ ad.2.2.2.2.2.2.2.1 B8;have R8:=ad.1.a_ B8;have bc:=oJ ad.2.2.2.2.2.2.2.2.1 B8;have b1:=oJ ad.2.2.2.2.2.2.2.2.2.1 B8;have p8:=(B8.block w1.1.size d4).T ad.2.2.2.1;have t8:=(B8.block w.1.size o_).T ad.2.2.2.2.1;have a8:=(B8.block (w.1.size+1) o_).T ad.2.2.2.2.2.1;have r8:=(B8.block (w.1.size+2) o_).T ad.2.2.2.2.2.2.1;have fb:=HG.d w8 dn;have h4:=HG.a.f;obtain⟨d0,d3⟩:=mY bc ad.2.2.2.2.2.2.2.2.2.2.key;obtain⟨f',gg⟩:=mY b1 ad.2.2.2.2.2.2.2.2.2.2.val;have g3:=B8.size;have yk:Y gk\/(w.1.size<=gk/\gk<w8.1.size):=ae ⟨o_,o_⟩;have yv:Y gv\/(w.1.size<=gv/\gv<w8.1.size):=ae ⟨o_,o_⟩;have c':=wL (k:=k0) (fb.a_ (aa _ _).drew) (oJ bc (aa _ _).drew) o_ yk e.kh;have bv:=Im (oJ bc (aa _ _).drew) e.kh (k:=k0) (ax.1 ad.2.2.2.2.2.2.2.2.2.2.key).1;have o9:∀b,b≠gk->(w8.drew.setCell (x_ gk k0) (Xu (e.kh:Nat))).1[b]?=w8.1[b]?:=fun b hb=>FB hb;have a':FE (w8.drew.setCell (x_ gk k0) (Xu (e.kh:Nat))) wr.1.size (.slice (some (y_ gv)) n0.F4.length cv) n0.F4:=FE.at b1 fun g hg=>by
    have:g=gv:=by injection hg with hg;exact hg.S
    rw[this];exact o9 gv (Ne.S ed)
   have bt:FE (w8.drew.setCell (x_ gk k0) (Xu (e.kh:Nat))) wr.1.size (.slice Ac lc cc) n0.C_:=FE.at R8.c fun g hg=>o9 g fun q=>R8.kc gk rfl (by rw[<-q];exact hg);have p9:=(o9 w1.1.size o_).T p8;have t9:=(o9 w.1.size o_).T t8;have a9:=(o9 (w.1.size+1) o_).T a8;have r9:=(o9 (w.1.size+2) o_).T r8;have q9:=(o9 w2.1.size o_).T q8;have k9:Fo Y w8 (w8.drew.setCell (x_ gk k0) (Xu (e.kh:Nat))):=⟨rfl,rfl,rfl,s_,fun k hk=>o9 k (by have:=HG.a.g k hk;omega)⟩;have z9:(w8.drew.setCell (x_ gk k0) (Xu (e.kh:Nat))).1.size=w8.1.size:=s_
   obtain⟨ga,gn⟩:=mY a' ad.2.2.2.2.2.2.2.2.2.2.val;obtain⟨w9,e1⟩:=Ii (w8.drew.setCell (x_ gk k0) (Xu (e.kh:Nat)));rw[e1] at c' bv a' bt p9 t9 a9 r9 q9 k9 z9 ga gn;clear o9;have c7:=wL (k:=k0) c' a' o_ yv e.vh;have b0:=Im a' e.vh (k:=k0) (ax.1 ad.2.2.2.2.2.2.2.2.2.2.val).1;have ap:∀b,b≠gv->(w9.setCell (x_ gv k0) (Xu (e.vh:Nat))).1[b]?=w9.1[b]?:=fun b hb=>FB hb;have bu:FE (w9.setCell (x_ gv k0) (Xu (e.vh:Nat))) wr.1.size (.slice (some (y_ gk)) n0.i_.length ck) (n0.i_.set k0 e.kh):=FE.at bv fun g hg=>by
    have:g=gk:=by injection hg with hg;exact hg.S
    rw[this];exact ap gk ed
   have bs:FE (w9.setCell (x_ gv k0) (Xu (e.vh:Nat))) wr.1.size (.slice Ac lc cc) n0.C_:=FE.at bt fun g hg=>ap g fun q=>R8.vc gv rfl (by rw[<-q];exact hg);have a3:=(ap w1.1.size o_).T p9;have a7:=(ap w.1.size o_).T t9;have c6:=(ap (w.1.size+2) o_).T r9;have c5:=(ap w2.1.size o_).T q9;have b2:=(ap (w.1.size+1) o_).T a9;have cx:Fo Y w8 (w9.setCell (x_ gv k0) (Xu (e.vh:Nat))):=k9.T ⟨rfl,rfl,rfl,s_,fun k hk=>ap k (by have:=HG.a.g k hk;omega)⟩;have dc:(w9.setCell (x_ gv k0) (Xu (e.vh:Nat))).1.size=w8.1.size:=by simp[z9]
   obtain⟨fm,ez⟩:=Ii (w9.setCell (x_ gv k0) (Xu (e.vh:Nat)));rw[ez] at c7 b0 bu bs a3 a7 c6 c5 b2 cx dc;clear ap;obtain⟨I,ar,au⟩:=lB (fun w'=>w'.1[w1.1.size]?=some (.cells #[.slice (some (y_ gk)) lk ck,.slice (some (y_ gv)) lk cv,.slice Ac lc cc,Xu sz] 215)) (fun w'=>w'.1[w.1.size+1]?=some (Xe (e.kh:Nat) (e.vh:Nat)));have e3:=fun x:Fq I=>(ar _ x.ok).1;have e4:=fun x:Fq I=>(ar _ x.ok).2;obtain⟨m0,m1,m2,m3⟩:=iB e3;obtain⟨z0,z1⟩:=ft e4;have d6:I w8.drew:=au _ p8 a8;have d7:I w9:=au _ p9 a9;have d5:I fm:=au _ a3 b2;have gb:w8.drew.cell? (x_ gk k0)=some (Xu (e0.kh:Nat)):=d0;have gf:w8.drew.frozen? (x_ gk k0)=false:=d3;have HT:=kq8 c7 (kq3 bu b0 bs) a3 a7 c6 c5 cx dc;clear ar au e3 e4 fb c' c7 bv a' bt bu b0 bs p8 t8 a8 r8 q8 p9 t9 a9 r9 q9 k9 z9 a3 a7 c6 c5 b2 cx dc R8 bc b1 d0 d3 f' gg yk yv;go_wp2_with fail;refine fh I (.take 0 (.take 1 (.take 2 (.take 3 (.take 4 (.take 5 (.take 6 (.take 7 (.take 8 (.take 9 (.take 10 (.go 11 (.take 12 (.go 13 .nil)))))))))))))) k_ k_ d6 ?_
   iterate 11
    refine pT_ ?_
    try simp only[pu]
   refine pD fun K hK=>?_;go_simp
   try go_simp
   refine hK.O _ _ d7 ?_;clear hK K
   try simp only[pu]
   refine pT_ ?_
   try simp only[pu]
   refine pD fun K hK=>?_;go_simp
   try go_simp
   refine hK.O _ _ d5 ?_;clear hK K
   try simp only[pu]
   refine eP ?_;clear m0 m1 m2 m3 z0 z1 gb gf e1 ez d6 d7 d5;have c3:=FE.E_ HT.b.a;have c4:=FE.E_ HT.b.b;have e7:=FE.E_ HT.b.c;rw[ad.2.1] at c3;rw[ad.2.2.1] at c4;have a1:=HG.e fm _ HT.a (vk:=.slice (some (y_ gk)) lk ck) (vv:=.slice (some (y_ gv)) lk cv) (vc:=.slice Ac lc cc) c3 c4 e7;unfold eC at a1;rw[show (Bt.setN n0 k0 e).size=sz from HK.f] at a1;have ds:=If a1;have a3:=HT.c;have a7:=HT.d;obtain⟨x0,x1⟩:=Fp a7;obtain⟨y0,y1,y2,y3⟩:=Fy a3;clear a1 c3 c4 e7 a3 a7 ad;go_wp2_with fail;refine ds.O.M ?_;rintro en ba ⟨rfl,e',bk⟩;have bm:=(bk.block (w.1.size+2) (ae ⟨o_,o_⟩)).T HT.e;have e8:=(bk.block w2.1.size (ae ⟨o_,by have:=g3;have:w2.1.size<w8.1.size:=fn.O;omega⟩)).T HT.f;have e6:=(Fo.A_ (b_ HG.a.a dn) HG.a.g).T (HT.g.T (bk.M fun k hk=>ab hk));clear x0 x1 y0 y1 y2 y3;obtain⟨x0,x1⟩:=Fp e8;obtain⟨y0,y1⟩:=Fp bm;obtain⟨f0,f1⟩:=ef bm;have bb:=kq3 e' e6 bm;clear e' bk bm e8 e6 ds;go_wp2_with fail;have qF:=ew bb.c (Xu (e0.kh:Nat)) (Xu (e0.vh:Nat));have oF:∀k,k≠w.1.size+2->((ba.setCell (y_ (w.1.size+2)) (Xu (e0.kh:Nat))).setCell (x_ (w.1.size+2) 1) (Xu (e0.vh:Nat))).1[k]?=ba.1[k]?:=fun k hk=>fA hk _ _;have sF:Ig ((ba.setCell (y_ (w.1.size+2)) (Xu (e0.kh:Nat))).setCell (x_ (w.1.size+2) 1) (Xu (e0.vh:Nat))) ps (FC S g 0 (w_ t (Bt.setN n0 k0 e))) Y:=(bb.a.write (b:=w.1.size+2) (ae ⟨o_,o_⟩) bb.c ⟨d_,d_⟩ s_ s_ fun k _ hk=>oF k hk).M fun k hk=>ab hk;have kF:Fo Y w ((ba.setCell (y_ (w.1.size+2)) (Xu (e0.kh:Nat))).setCell (x_ (w.1.size+2) 1) (Xu (e0.vh:Nat))):=bb.b.T ⟨rfl,rfl,rfl,s_,fun k hk=>oF k (by have:=HG.a.g k hk;omega)⟩;clear x0 x1 y0 y1 f0 f1 oF;generalize ((ba.setCell (y_ (w.1.size+2)) (Xu (e0.kh:Nat))).setCell (x_ (w.1.size+2) 1) (Xu (e0.vh:Nat)))=WF at*;obtain⟨x0,x1⟩:=Fp qF;exact bodyPost_ret (v:=.agg #[Xu (e0.kh:Nat),Xu (e0.vh:Nat)]) (by simp[results,f179,go_sem,x0,x1]) rfl ⟨rfl,sF,kF⟩
  | false=>
   have hnd:=HY.d;obtain⟨c,hc⟩:∃c,(Bn.ks y)[Fr e.k (Bn.es y)]?=some c:=by
    cases hc:(Bn.ks y)[Fr e.k (Bn.es y)]? with
    | some c=>exact⟨c,rfl⟩
    | none=>
     rw[Bt.nodeB_none (by rw[a5.O];exact HK.b) hc] at hnd
     cases hnd
   rw[Bt.nodeB_down (by rw[a5.O];exact HK.b) hc] at hnd;rw[a5.O,HK.a] at hc
   cases d' with
   | zero=>rw[Bt.I6 (Bn.ks y)] at hc;cases hc
   | succ d'=>
    obtain⟨gc,oc,rfl,gs⟩:=FD.at (f:=Bt.hd) (l:=Bn.ks y) (by have:=(H1.c.a_ a4.O).c.E_;rw[<-HK.e] at this;exact this) hc;obtain⟨g1,ea⟩:=ax.1 hc;rw[HK.d] at g1;have g9:(k:Int)<lc:=o_
    have hf:((lc:Nat):Int)≠0:=o_
    obtain⟨nc,cn⟩:=Ii (Bt.hd c);rw[cn] at gs;have HC:=kq4 hc hnd cn ea;clear hc hnd cn ea;go_wp2_with fail;go_roundw
    case rel=>exact⟨d',i+1,nc,rfl,s_,o_,b_ H1.a a4.O,c,HY.b.kid (cP HC.a),HC.c,HC.b⟩
    case measure=>simp[intOf];omega
end
section
open Go.RowKit Tryz Go.BigFrame Go.Maps Go.WideMaps Lf Tr
open Go.Shelf
theorem zJ {w:World}{ps:Nat}{S:St}{o:Nat->Nat}{Y:Nat->Prop}(h:Ig w ps S Y){t d:Nat}{x:Bt (d+1)}(hx:Bt.Tree S o t x){e e0:It}(hn:gu S e){g:Nat}{n0:BN}{k0:Nat}(hnb:Bt.nodeB e.k x=some (g,n0,k0))(hr:Bt.RepAt S o t x e e0 g n0 k0):
 Ct 137 #[PV ps,Xi t,Xu (Bt.hd x:Nat),Id e.kh e.vh] w fun en w'=>en=.returned (.tuple #[Xu (Bt.hd x:Nat),Id e0.kh e0.vh,.bool true,Xi 0])/\Ig w' ps (FC S g 0 (w_ t (Bt.setN n0 k0 e))) Y/\Fo Y w w':=by
 have B0:=(c_ w (Xe e.kh e.vh)).alloc s_ (.cells #[Xu 0,Xu 0] 104);have z1:(w.alloc (Xe e.kh e.vh)).1.size=w.1.size+1:=s_
 have q1:=heap_alloc_new w (Xe e.kh e.vh);have q2:=heap_alloc_new (w.alloc (Xe e.kh e.vh)) (.cells #[Xu 0,Xu 0] 104);have q1:=(((aa (w.alloc (Xe e.kh e.vh)).1.size (w.alloc (Xe e.kh e.vh))).alloc Ih (.cells #[Xu 0,Xu 0] 104)).block w.1.size s_).T q1;rw[z1] at q2;have hz:((w.alloc (Xe e.kh e.vh)).alloc (.cells #[Xu 0,Xu 0] 104)).1.size=w.1.size+2:=s_
 generalize hW:(w.alloc (Xe e.kh e.vh)).alloc (.cells #[Xu 0,Xu 0] 104)=W0 at*;have A1:=c_ W0 (Xc ps t);have q3:=heap_alloc_new W0 (Xc ps t);have bd:(W0.alloc (Xc ps t)).1.size=w.1.size+3:=by simp[hz]
 have hw:=hx.walk;have hi:=hx.fit.inv;have has:=kZ (h.a_ B0) hi hx.t1 hx.t2;obtain⟨W1,a9⟩:=Ii (W0.alloc (Xc ps t));rw[a9] at A1 q3 bd;have B1:=B0.T (A1.M o_);rw[hz] at q3;have a2:=jt hx.fit hn.lk hn.k;have a0:=iz (h.a_ B1) hi e.kh (Bt.blobs_lt hx.fit hn).1 (by rw[a2];simp);rw[a2] at a0;have q1:=(A1.block _ o_).T q1;have q2:=(A1.block _ o_).T q2;obtain⟨x0,x1⟩:=Fp q1;have H0:=kq7 h hx hn hr hw hi bd;have ap:=kq2 hnb h.yl;clear hnb;have H1:=kq4 B1 q1 q2 q3;have a5:=If has;have a6:=If a0;have bo:Bt.hd x≠0:=(Bt.At.hd_ok hx.fit hx.at').1;have bq:((Bt.hd x:Nat):Int)≠0:=o_
 clear z1 q1 q2 q3 B0 B1 A1 hw hi has a2 a0 h hx hn hr;unfold Id;go_enter func137,ntmps137;go_wp2_with fail;refine a5.O.M ?_;rintro en w1 ⟨rfl,rfl⟩;clear hW;go_wp2_with fail;refine a6.O.M ?_;rintro en w2 ⟨rfl,ad⟩;clear x0 x1;have p1:=(ad.block _ (by have:=H0.g;omega)).T H1.b;have p2:=(ad.block _ (by have:=H0.g;omega)).T H1.c;have p3:=(ad.block _ (by have:=H0.g;omega)).T H1.d;have b2:=b_ H1.a ad;obtain⟨x0,x1⟩:=Fp p3;have a1:=kI (H0.a.a_ b2) H0.f H0.e.read;have bs:w.1.size+3<=w2.1.size:=by have:=ad.size;have:=H0.g;omega
 unfold FH eC at a1;have a8:=If a1;have H2:=kq4 b2 p1 p2 p3;clear ad p1 p2 p3 b2 a1 a6 a5 H1 a9;go_wp2_with fail;refine a8.O.M ?_;rintro en w3 ⟨vk,vv,vc,rfl,rows,ar⟩;obtain⟨Ak,mk,ck,rfl⟩:=rows.k.slice;obtain⟨Av,mv,cv,rfl⟩:=rows.v.slice;obtain⟨Ac,mc,cc,rfl⟩:=rows.c.slice;obtain⟨sz,bc⟩:=Ii (Bt.bn x).size;rw[bc];clear bc;have A3:=c_ w3 (.cells #[.slice Ak mk ck,.slice Av mv cv,.slice Ac mc cc,Xu sz] 215);obtain⟨W3,a'⟩:=Ii (w3.alloc (.cells #[.slice Ak mk ck,.slice Av mv cv,.slice Ac mc cc,Xu sz] 215));rw[a'] at A3;have c3:=b_ ar A3;have p1:=(c3.block _ o_).T H2.b;have p2:=(c3.block _ o_).T H2.c;have p3:=(c3.block _ o_).T H2.d;have B3:=b_ H2.a c3;have bt:w.1.size+3<=W3.1.size:=by have:=c3.size;omega
 have bm:=H0.b.low;have bb:=H0.d.find;have ai:=fun W (hw:D_ W3 W)=>pY (H0.a.a_ (b_ B3 hw)) H0.e o_ e.k;rw[bb] at ai;have an:=nT (R:=some e0) (ai W3 (aa _ _)) fun W hW=>ai W (by rw[hW];exact(aa _ _).alloc Ih _);unfold i7 Id at an
 dsimp only[Option.isSome] at an
 have a7:=If an;have H3:=kq4 B3 p1 p2 p3;clear A3 c3 p1 p2 p3 B3 bb ai an x0 x1 ar H2 a8 rows;go_wp2_with fail;refine a7.O.M ?_;rintro en w4 ⟨rfl,au⟩;clear a';have A4:=c_ w4 (Xe e0.kh e0.vh);obtain⟨W4,ba⟩:=Ii (w4.alloc (Xe e0.kh e0.vh));rw[ba] at A4;have c4:=b_ au A4;have p1:=(c4.block _ o_).T H3.b;have p2:=(c4.block _ o_).T H3.c;have p3:=(c4.block _ o_).T H3.d;have B4:=b_ H3.a c4;have bu:w.1.size+3<=W4.1.size:=by have:=c4.size;omega
 have bf:=H0.a.wide B4;have a3:=zR bf H0.e o_ ap.a H0.d;unfold FH Id at a3;have bk:=If a3;obtain⟨x0,x1⟩:=Fp p3;obtain⟨y0,y1⟩:=Fp p1;have H4:=kq2 B4 p2;clear A4 c4 p1 p2 p3 B4 bf au H3 a7 a3;go_wp2_with fail;refine bk.O.M ?_;rintro en w5 ⟨rfl,bj,a4⟩;clear ba x0 x1 y0 y1;have q5:=(a4.block (w.1.size+1) (ae ⟨o_,o_⟩)).T H4.b;obtain⟨x0,x1⟩:=Fp q5;obtain⟨f0,f1⟩:=ef q5;have H5:=kq3 bj a4 q5;clear bj a4 q5;go_wp2_with fail;have qF:=ew H5.c (Xu e0.kh) (Xu e0.vh);have oF:∀k,k≠w.1.size+1->((w5.setCell (y_ (w.1.size+1)) (Xu e0.kh)).setCell (x_ (w.1.size+1) 1) (Xu e0.vh)).1[k]?=w5.1[k]?:=fun k hk=>fA hk _ _;have sF:Ig ((w5.setCell (y_ (w.1.size+1)) (Xu e0.kh)).setCell (x_ (w.1.size+1) 1) (Xu e0.vh)) ps (FC S g 0 (w_ t (Bt.setN n0 k0 e))) Y:=(H5.a.write (b:=w.1.size+1) (ae ⟨o_,o_⟩) H5.c ⟨d_,d_⟩ s_ s_ fun k _ hk=>oF k hk).M fun k hk=>ab hk;have kF:Fo Y w ((w5.setCell (y_ (w.1.size+1)) (Xu e0.kh)).setCell (x_ (w.1.size+1) 1) (Xu e0.vh)):=((Fo.A_ H4.a ap.b).T (H5.b.M fun k hk=>ab hk)).T ⟨rfl,rfl,rfl,s_,fun k hk=>oF k (by have:=ap.b k hk;omega)⟩;clear x0 x1 f0 f1 oF;generalize ((w5.setCell (y_ (w.1.size+1)) (Xu e0.kh)).setCell (x_ (w.1.size+1) 1) (Xu e0.vh))=WF at*;obtain⟨u0,u1⟩:=Fp qF;exact bodyPost_ret (v:=.tuple #[Xu (Bt.hd x:Nat),.agg #[Xu e0.kh,Xu e0.vh],.bool true,Xi 0]) (by simp[results,f137,go_sem,u0,u1]) rfl ⟨rfl,sF,kF⟩
end
section
open Lf Tr
namespace Bt
variable{R:List Nat}{S:St}{o:Nat->Nat}
theorem two_fit(hf:Fw S o){a b:List UInt8}(ha:a.length<=1000)(hb:b.length<=1000)(hr:fc S 6 2):
 ∃ka vb S2 o2,itemsM S a b=some ((ka,vb),S2)/\nJ S a b/\Fw S2 o2/\l_ S ka=none/\l_ S vb=none/\ka≠vb/\l_ S2 ka=some (FK a)/\l_ S2 vb=some (FK b)/\(∀h',h'≠ka->h'≠vb->l_ S2 h'=l_ S h')/\ej S S2 6 2:=by
 obtain⟨ka,S1,o1,e1,f1,n1,l1,q1,g1,k1⟩:=oL hf ha (hr.M o_ o_);obtain⟨vb,S2,o2,e2,f2,n2,l2,q2,g2,k2⟩:=oL f1 hb (fc.grew (hr.M (p':=3+3) (q':=1+1) o_ o_) g1);have ad:ka≠vb:=by grind
 have ai:itemsM S a b=some ((ka,vb),S2):=by
  unfold itemsM
  grind
 exact⟨ka,vb,S2,o2,ai,⟨ha,hb,k1,by grind⟩,f2,n1,(q1 _ ad.S).S.T n2,ad,(q2 _ ad).T l1,l2,fun h' w1 w2=>(q2 h' w2).T (q1 h' w1),(g1.T g2).M o_ o_⟩
def getL(L:List (List UInt8×List UInt8))(a:List UInt8):Option (List UInt8):=(L.find? fun p=>p.1==a).map (·.2)
theorem getL_pairs(l:List It)(a:List UInt8):getL (F5 l) a=(H_ a l).map (·.v):=by
 unfold getL F5 H_;rw[List.find?_map,Option.map_map];rfl
theorem xu{l:List It}(hs:l.Pairwise eU){e e0:It}(hf:H_ e.k l=some e0):
 ∃A B,l=A++e0::B/\l.map (eD e)=A++e::B/\e0.k=e.k/\(∀x∈A,Fu x.k e.k<0)/\∀x∈B,Fu e.k x.k<0:=by
 unfold H_ at hf;have hk:e0.k=e.k:=by grind
 obtain⟨A,B,rfl⟩:=List.append_of_mem (bU hf);obtain⟨p1,p2,p3⟩:=bw.1 hs;obtain⟨p4,p5⟩:=bi.1 p2;have hA:∀x∈A,Fu x.k e.k<0:=fun x hx=>by
  grind [List.mem_cons_self,eU]
 have hB:∀x∈B,Fu e.k x.k<0:=fun x hx=>by
  have:=p4 x hx;unfold eU at this
  grind
 have e1:A.map (eD e)=A:=(aY fun x hx=>(mg (ne_of_lt (hA x hx)):eD e x=id x)).T (dN _);have e2:B.map (eD e)=B:=(aY fun x hx=>(mg (fun q=>by have:=hB x hx;rw[q,fX] at this;omega):eD e x=id x)).T (dN _);refine⟨A,B,rfl,?_,hk,hA,hB⟩;rw[aQ,bg,e1,e2]
 congr 2
 exact if_pos hk
theorem pairs_ins{e:It}{l:List It}(hs:l.Pairwise eU)(hn:∀d∈l,d.k≠e.k):F5 (insB e l)=gV (F5 l) e.k e.v:=by
 obtain⟨b1,b2,b3⟩:=lL (key:=e.k) hs;have ad:∀d∈l.drop (Fr e.k l),Fu e.k d.k<0:=fun d hd=>by
  have h1:=b2 d hd;have h2:=hn d (bA hd)
  grind [ie,Int.lt_trichotomy,Fu,absurd,jL]
 have h:=oO (a:=e.k) (b:=e.v) (d:=e) (tl:=l.take (Fr e.k l)) (tr:=l.drop (Fr e.k l)) (mid:=[]) ⟨rfl,rfl⟩ (fun x hx=>by grind) b1 ad;rw[bI,aV] at h;exact h
theorem Dq{e e0:It}{l:List It}(hs:l.Pairwise eU)(hf:H_ e.k l=some e0):F5 (l.map (eD e))=gV (F5 l) e.k e.v:=by
 obtain⟨A,B,h1,h2,h3,h4,h5⟩:=xu hs hf;have h:=oO (a:=e.k) (b:=e.v) (d:=e) (tl:=A) (tr:=B) (mid:=[e0]) ⟨rfl,rfl⟩ (fun x hx=>by rw[aW.1 hx];exact h3) h4 h5;grind
theorem qDeac{P:Prop}(h:P:=by
 exact(h.G7 a hx).frame (hS _ (ai _ (gh.2 ⟨a,hx,ab rfl⟩))) (hS _ (ai _ (gh.2 ⟨a,hx,ae rfl⟩)))):P:=h
theorem Tree.swap{t d:Nat}{x:Bt (d+1)}(h:Tree S o t x){e e0:It}(hb:gu S e)(ne:e.kh≠e.vh)(off:e.kh∉recs x/\e.vh∉recs x){g:Nat}{n:BN}{k:Nat}(r:RepAt S o t x e e0 g n k){S1:St}(hS1:S1=FC S g 0 (w_ t (setN n k e))):
 Fw S1 o/\fz S1 e0.vh=(e0.v,0)/\e0.kh<2^64/\e0.vh<2^64/\Fv (S1.drop e0.kh).2/\∃S3,S3=((S1.drop e0.kh).2.drop e0.vh).2/\Tree S3 o t (eA (eD e) x)/\F5 (its (eA (eD e) x))=gV (F5 (its x)) e.k e.v/\ej S S3 0 0/\(∀y,y∉recs x->l_ S3 y=l_ S y)/\∀y∈recs (eA (eD e) x),y∈recs x\/y=e.kh\/y=e.vh:=by
 obtain⟨A,B,h1,h2,h3,h4,h5⟩:=xu h.G6 r.find;have a0:e0∈its x:=by rw[h1];simp
 have an:=h.G7 e0 a0;have k0:e0.kh∈ff (its x):=gh.2 ⟨e0,a0,ab rfl⟩;have v0:e0.vh∈ff (its x):=gh.2 ⟨e0,a0,ae rfl⟩;have ai:∀y∈ff (its x),y≠g:=fun y hy q=>h.apart g r.mem (q▸hy);have a3:e.kh≠g/\e.vh≠g:=⟨fun q=>off.1 (q▸aD _ r.mem),fun q=>off.2 (q▸aD _ r.mem)⟩;have a6:=h.texts;rw[h1,nO] at a6;have ec:∀(z:It) (l:List It),ff (z::l)=z.kh::z.vh::ff l:=fun _ _=>rfl;obtain⟨t1,t2,t3⟩:=aC.1 a6;obtain⟨t4,t5⟩:=aG.1 t2;obtain⟨t6,t7⟩:=aG.1 t5;have oe:∀y,y=e.kh\/y=e.vh->y∉ff (its x)/\y∉Bt.j_ x:=fun y hy=>by
  rcases hy with rfl | rfl
  ·exact⟨fun q=>off.1 (aE _ q),fun q=>off.1 (aD _ q)⟩
  ·exact⟨fun q=>off.2 (aE _ q),fun q=>off.2 (aD _ q)⟩
 have ad:∀y,y∈ff A\/y∈ff B->y∈ff (its x):=fun y hy=>by
  rw[h1,nO,ec]
  rcases hy with hy | hy
  ·exact aD _ hy
  ·exact aE _ (am _ (am _ hy))
 have au:its (eA (eD e) x)=A++e::B:=by rw[ln,h2]
 have a2:∀y,y∈ff (its (eA (eD e) x))↔y∈ff A\/y=e.kh\/y=e.vh\/y∈ff B:=fun y=>by
  rw[au,nO,ec,ay,aj,aj]
 have ap:Tree S1 o t (eA (eD e) x):=by
  subst hS1;refine⟨r.fit,h.t1,h.t2,r.at',vF _ h.ok,?_,?_,?_,by rw[lW];exact h.j_,?_,?_,by rw[vE];exact h.pos⟩
  ·rw[ln];refine List.pairwise_map.2 (h.G6.imp fun {a b} q=>?_);unfold eU at q⊢;rw[wI,wI];exact q
  ·intro a ha;have hS:∀y,y≠g->l_ (FC S g 0 (w_ t (setN n k e))) y=l_ S y:=r.fr;rw[au] at ha
   rcases ay.1 ha with ha | ha
   ·have hx:a∈its x:=by rw[h1];exact aD _ ha
    exact qDeac
   ·rcases aj.1 ha with rfl | ha
    ·exact hb.frame (hS _ a3.1) (hS _ a3.2)
    ·have hx:a∈its x:=by rw[h1];exact aE _ (am _ ha)
     exact qDeac
  ·rw[ln,ak];exact h.few
  ·rw[au,nO,ec];refine aC.2 ⟨t1,aG.2 ⟨fun q=>?_,aG.2 ⟨fun q=>(oe _ (ae rfl)).1 (ad _ (ae q)),t7⟩⟩,fun y hy z hz=>?_⟩
   ·rcases aj.1 q with q | q
    ·exact ne q
    ·exact(oe _ (ab rfl)).1 (ad _ (ae q))
   ·rintro rfl
    rcases aj.1 hz with q | hz
    ·exact(oe y (ab q)).1 (ad _ (ab hy))
    ·rcases aj.1 hz with q | hz
     ·exact(oe y (ae q)).1 (ad _ (ab hy))
     ·exact t3 y hy y (am _ (am _ hz)) rfl
  ·intro y hy hb1;rw[lW] at hy
   rcases(a2 y).1 hb1 with q | q | q | q
   ·exact h.apart y hy (ad _ (ab q))
   ·exact(oe y (ab q)).2 hy
   ·exact(oe y (ae q)).2 hy
   ·exact h.apart y hy (ad _ (ae q))
 have ar:∀y,y≠g->l_ S1 y=l_ S y:=by rw[hS1];exact r.fr
 have a7:ej S S1 0 0:=by rw[hS1];exact r.grew
 have kk:l_ S1 e0.kh=some (FK e0.k):=(ar _ (ai _ k0)).T an.k;have vv:l_ S1 e0.vh=some (FK e0.v):=(ar _ (ai _ v0)).T an.v;have a8:e0.kh≠e0.vh:=fun q=>t4 (by rw[q];exact ao ..);obtain⟨S2,e2,f2,m2,o2,g2⟩:=mQ ap.fit kk;obtain⟨S3,e3,f3,m3,o3,g3⟩:=mQ f2 ((o2 _ a8.S).T vv);have a4:e0.kh∉recs (eA (eD e) x)/\e0.vh∉recs (eA (eD e) x):=by
  have a5:∀y,y=e0.kh\/y=e0.vh->y∉ff A/\y∉ff B:=fun y hy=>by
   rcases hy with rfl | rfl
   ·exact⟨fun q=>t3 _ q _ (ao ..) rfl,fun q=>t4 (am _ q)⟩
   ·exact⟨fun q=>t3 _ q _ (am _ (ao ..)) rfl,t6⟩
  have a1:∀y,y=e0.kh\/y=e0.vh->y∈ff (its x)->y∉recs (eA (eD e) x):=fun y hy hyx q=>by
   rcases ay.1 q with q | q
   ·rw[lW] at q;exact h.apart y q hyx
   ·rcases(a2 y).1 q with q | q | q | q
    ·exact(a5 y hy).1 q
    ·exact(oe y (ab q)).1 hyx
    ·exact(oe y (ae q)).1 hyx
    ·exact(a5 y hy).2 q
  exact⟨a1 _ (ab rfl) k0,a1 _ (ae rfl) v0⟩
 refine⟨ap.fit,jt ap.fit an.lv vv,(blobs_lt h.fit an).1,(blobs_lt h.fit an).2,by rw[e2];exact f2.inv,S3,by rw[e2,e3],ap.frame f3 (fun y hy=>(o3 y fun q=>a4.2 (q▸hy)).T (o2 y fun q=>a4.1 (q▸hy))),?_,((a7.T g2).T g3),fun y hy=>?_,fun y hy=>?_⟩
 ·rw[ln];exact Dq h.G6 r.find
 ·have w1:y≠e0.kh:=fun q=>hy (q▸aE _ k0);have w2:y≠e0.vh:=fun q=>hy (q▸aE _ v0);have w3:y≠g:=fun q=>hy (q▸aD _ r.mem);exact(o3 y w2).T ((o2 y w1).T (ar y w3))
 grind [recs,lW,List.mem_append_left,List.mem_append_right]
def Holds(S:St)(o:Nat->Nat)(t f9:Nat)(L:List (List UInt8×List UInt8))(R:List Nat):Prop:=
 (Empty S o t/\f9=0/\L=[]/\R=[])\/∃(d:Nat) (x:Bt (d+1)),Tree S o t x/\f9=hd x/\L=F5 (its x)/\R=recs x
theorem Holds.fit{t f9:Nat}{L:List (List UInt8×List UInt8)}(h:Holds S o t f9 L R):Fw S o:=by
 rcases h with⟨h,_⟩ | ⟨_,_,h,_⟩
 ·exact h.fit
 ·exact h.fit
theorem Holds.deg{t f9:Nat}{L:List (List UInt8×List UInt8)}(h:Holds S o t f9 L R):2<=t/\t<=16:=by
 rcases h with⟨h,_⟩ | ⟨_,_,h,_⟩
 ·exact⟨h.t1,h.t2⟩
 ·exact⟨h.t1,h.t2⟩
theorem Holds.has{t f9:Nat}{L:List (List UInt8×List UInt8)}(h:Holds S o t f9 L R):∀y∈R,l_ S y≠none:=by
 rcases h with⟨_,_,_,rfl⟩ | ⟨_,_,h,_,_,rfl⟩
 ·grind
 ·exact h.has
theorem Holds.frame{S S':St}{o o':Nat->Nat}{t f9:Nat}{L:List (List UInt8×List UInt8)}(h:Holds S o t f9 L R)(hf:Fw S' o')(hs:∀y∈R,l_ S' y=l_ S y):Holds S' o' t f9 L R:=by
 rcases h with⟨h,h1,h2,h3⟩ | ⟨d,x,h,h1,h2,h3⟩
 ·exact ab ⟨⟨hf,h.t1,h.t2⟩,h1,h2,h3⟩
 ·refine ae ⟨d,x,h.frame hf (by grind),h1,h2,h3⟩
end Bt
end
section
open Go.RowKit Tryz Go.BigFrame Go.Maps Go.WideMaps Lf Tr
variable{S:St}{o:Nat->Nat}
abbrev jE(w:World)(px ps t f9:Nat):Prop:=FF w px ps 164 (jx ps t) 3 t f9
theorem rZ(hf:Fw S o):l_ S 0=none:=by
 cases h:l_ S 0 with
 | none=>rfl
 | some ws=>have:=(fL hf h).1;omega
theorem jT(l:List It):(F5 l).length=l.length:=by unfold F5;grind
def eK(L:List (List UInt8×List UInt8))(a:List UInt8):Nat:=L.countP fun p=>decide (Fu p.1 a<0)
theorem ue(l:List It)(a:List UInt8):eK (F5 l) a=Fr a l:=by
 unfold eK F5 Fr;rw[List.countP_map];rfl
theorem Bt.Tree.low40{t d:Nat}{x:Bt (d+1)}(h:Bt.Tree S o t x):d<40:=by have:=h.low;omega
section
variable {w:World}{px ps t f9:Nat}{S:St}{o:Nat->Nat}{Y:Nat->Prop}{L:List (List UInt8×List UInt8)}{R:List Nat}
theorem uN(h:Ig w ps S Y)(hH:Bt.Holds S o t f9 L R):Cb 175 #[FH ps t,Xu f9] w (Xi (L.length:Nat)):=by
 rcases hH with⟨hE,rfl,rfl,rfl⟩ | ⟨d,x,hx,rfl,rfl,rfl⟩
 ·exact zQ h hE.fit.inv hE.t1 hE.t2 0 o_ (oy (rZ hE.fit))
 ·have:=nS h hx.fit.inv hx.walk.read hx.walk.size.2;rw[jT];exact this
theorem uM(h:Ig w ps S Y)(hH:Bt.Holds S o t f9 L R)(key:List UInt8):∃E:Option It,(∀W,D_ w W->Cb 210 #[FH ps t,Xu f9,SV key] W (.tuple #[i7 E,.bool E.isSome,Xi (eK L key:Nat)]))/\Bt.getL L key=E.map (fun a:It=>a.v)/\∀a,E=some a->a.k=key/\gu S a:=by
 rcases hH with⟨hE,rfl,rfl,rfl⟩ | ⟨d,x,hx,rfl,rfl,rfl⟩
 ·exact⟨none,fun W hW=>tT (h.a_ hW) hE.fit.inv hE.t1 hE.t2 0 o_ (oy (rZ hE.fit)) key,rfl,fun _ q=>by cases q⟩
 ·refine⟨Bt.H_ key (Bt.its x),fun W hW=>?_,Bt.getL_pairs _ _,fun a q=>?_⟩
  ·rw[ue];exact pY (h.a_ hW) hx.walk hx.low40 key
  ·unfold Bt.H_ at q;exact⟨by grind,hx.G7 a (bU q)⟩
theorem CF(h:Ig w ps S Y)(hH:Bt.Holds S o t f9 L R)(hT:jE w px ps t f9):
 Cb 19 #[PV px] w (Xi (L.length:Nat)):=
 xM hT C8 AN fun _ hW=>CB fun _ hV=>zX (uN (h.a_ (b_ hW hV)) hH)
theorem CH(h:Ig w ps S Y)(hH:Bt.Holds S o t f9 L R)(hT:jE w px ps t f9)(k:List UInt8):
 Cb 16 #[PV px,SV k] w (Xi (eK L k:Nat)):=by
 obtain⟨E,hd,_⟩:=uM h hH k;exact xO hT k C7 AM fun _ hW=>Cz k fun _ hV=>MF (hd _ (b_ hW hV))
theorem CE(h:Ig w ps S Y)(hH:Bt.Holds S o t f9 L R)(hT:jE w px ps t f9)(k:List UInt8):
 Cb 17 #[PV px,SV k] w (.tuple #[SV ((Bt.getL L k).getD []),.bool (Bt.getL L k).isSome]):=by
 have hf:=hH.fit;obtain⟨E,hd,hE,hb⟩:=uM h hH k;have ai:=fun W (hW:D_ w W) V (hV:D_ W V)=>nT (hd V (b_ hW hV)) fun V' hV'=>hd V' (by rw[hV'];exact(b_ hW hV).alloc (b_ hW hV).size _);rw[hE]
 cases E with
 | none=>exact nu (t:=[]) (e1:=0) hT k 0 0 false (fun _=>rfl) (fun e=>nomatch e) vO um fun _ hW=>vD k 0 0 false fun _ hV=>ai _ hW _ hV
 | some a=>
  have ad:=(hb a rfl).2;have hg:=jt hf ad.lv ad.v;exact nu hT k a.kh a.vh true a.v 0 (fun e=>nomatch e) (fun _ W hW=>by
   have:=iz (h.a_ hW) hf.inv a.vh (Bt.blobs_lt hf ad).2 (by grind);rw[hg] at this;exact this) vO um fun _ hW=>vD k a.kh a.vh true fun _ hV=>ai _ hW _ hV
theorem CC(h:Ig w ps S Y)(hH:Bt.Holds S o t f9 L R)(hT:jE w px ps t f9)(k:Nat){p:List UInt8×List UInt8}(hk:L[k]?=some p):
 Cb 18 #[PV px,Xi k] w (.tuple #[eu p,Xi 0]):=by
 rcases hH with⟨hE,rfl,rfl,rfl⟩ | ⟨d,x,hx,rfl,rfl,rfl⟩
 ·cases hk
 ·have hf:=hx.fit;have ai:∃e,(Bt.its x)[k]?=some e/\p=(e.k,e.v):=by
   grind [F5,Bt.its]
  obtain⟨e,ai,rfl⟩:=ai;have ad:=hx.G7 e (cP ai);have hl:=Bt.blobs_lt hf ad;have hg:=jt hf ad.lv ad.v;have an:=jt hf ad.lk ad.k;exact xH hT k (e.k,e.v) e.kh e.vh 0 0 0 (ab rfl) vN ul (fun _ hW=>KD k e.kh e.vh 0 fun _ hV=>zS (h.a_ (b_ hW hV)) hx.walk hx.low40 ai) (fun _ W hW=>by
   have:=iz (h.a_ hW) hf.inv e.kh hl.1 (by grind);rw[an] at this;exact this) (fun _ W hW=>by
   have:=iz (h.a_ hW) hf.inv e.vh hl.2 (by grind);rw[hg] at this;exact this)
theorem CD(h:Ig w ps S Y)(hH:Bt.Holds S o t f9 L R)(hT:jE w px ps t f9)(k:Int)(hk:k<0\/(L.length:Int)<=k):
 Cb 18 #[PV px,Xi k] w (.tuple #[eu ([],[]),Xi 2]):=
 xH hT k ([],[]) 0 0 0 0 2 (ae ⟨rfl,rfl⟩) vN ul (fun _ hW=>KD k 0 0 2 fun _ hV=>zT (h.a_ (b_ hW hV)) hH.fit.inv hH.deg.1 hH.deg.2 (fun _ hU=>uN (h.a_ ((b_ hW hV).T (hU.M (b_ hW hV).size))) hH) hk) (fun e=>nomatch e) fun e=>nomatch e
structure iV (S:St) (L:List (List UInt8×List UInt8)) (R:List Nat) (Hold:St->(Nat->Nat)->Nat->List (List UInt8×List UInt8)->List Nat->Prop) (a b:List UInt8) (p q:Nat) (x:Nat) (S3:St):Prop where
 holds:∃o3 R3,Hold S3 o3 x (gV L a b) R3/\∀y∈R3,y∈R\/l_ S y=none
 grew:ej S S3 p q
 apart:∀y,y∉R->l_ S y≠none->l_ S3 y=l_ S y
theorem qDeab{P:Prop}(h:P:=by
 obtain⟨rfl,rfl,hR⟩:=hR;refine e9 (sV px 0 0 W) fun w' hb=>?_;exact⟨S',rfl,hW.a_ hb,hW.B_ hb,hR⟩):P:=h
theorem CG {a:List UInt8}(hins:Bt.getL L a=none->L≠[]->∀d,j4 d)(h:Ig w ps S Y)(hH:Bt.Holds S o t f9 L R)(hT:jE w px ps t f9)(hpx:Y px)(b:List UInt8)(ha:a.length<=1000)(hb:b.length<=1000)(hc:L.length<126)(hr:fc S 20 9):
 Ct 43 #[PV px,eu (a,b)] w fun e w'=>∃(x:Nat) (S3:St),e=.returned (.tuple #[SV ((Bt.getL L a).getD []),.bool (Bt.getL L a).isSome,Xi 0])/\Ig w' ps S3 Y/\Fo (fun k=>Y k/\k≠px) w w'/\jE w' px ps t x/\iV S L R (fun S o x L R=>Bt.Holds S o t x L R) a b 20 9 x S3:=by
 obtain⟨ka,vb,S1,o1,au,ar,f1,n1,n2,a0,l1,l2,q1,g1⟩:=Bt.two_fit hH.fit ha hb (hr.M o_ o_);have ai:∀y,l_ S y≠none->l_ S1 y=l_ S y:=fun y hy=>q1 y (by grind) (by grind);have a6:fc S1 14 7:=fc.grew (hr.M (p':=6+14) (q':=2+7) o_ o_) g1;have an:gu S1 ⟨0,ka,vb,a,b⟩:=⟨l1,l2,ha,hb⟩
 rcases hH with⟨hE,rfl,rfl,rfl⟩ | ⟨d,x,hx,rfl,rfl,rfl⟩
 ·--the first key
  refine(ny h hE.fit.inv hT hpx a b ar au false [] (R:=fun x ik iv S'=>ik=0/\iv=0/\iV S [] [] (fun S o x L R=>Bt.Holds S o t x L R) a b 20 9 x S') (R2:=fun x S'=>iV S [] [] (fun S o x L R=>Bt.Holds S o t x L R) a b 20 9 x S') rH qu (fun W Z hW _ _=>rA hW false fun V Z' hV=>?_) fun x ik iv S' hR W Z hW _ _=>?_).M ?_
  ·refine(zH hV ⟨f1,hE.t1,hE.t2⟩ (e:=⟨0,ka,vb,a,b⟩) ⟨an,a0⟩ (a6.M o_ o_)).M ?_;rintro e w' ⟨y,S',o',rfl,hs,hk,ht,hi,hn,ap,hg⟩;refine⟨_,_,_,S',rfl,hs,hk,rfl,rfl,⟨⟨o',Bt.recs y,ae ⟨0,y,ht,rfl,?_,rfl⟩,fun z hzm=>?_⟩,(g1.T hg).M o_ o_,fun z _ hz=>(ap z (by grind)).T (ai z hz)⟩⟩
   ·rw[hi]
    rfl
   ·refine ae ?_
    cases q:l_ S z with
    | none=>rfl
    | some ws=>
     exfalso
     have bk:=ai z (by grind)
     rcases ay.1 hzm with hm | hm
     ·grind
     ·rw[hi] at hm;have hm:z∈ [ka,vb]:=hm
      grind
  ·exact qDeab
  ·rintro e w' ⟨x,S3,rfl,h1,h2,h3,h4⟩;exact⟨x,S3,rfl,h1,h2,h3,h4⟩
 ·have ad:Bt.Tree S1 o1 t x:=hx.frame f1 fun y hy=>ai y (hx.has y hy);have bd:(Bt.its x).length<126:=by rw[jT] at hc;omega
  have a5:ka∉Bt.recs x/\vb∉Bt.recs x:=⟨fun q=>hx.has _ q n1,fun q=>hx.has _ q n2⟩;have bf:d<=5:=by
   have h1:=Bt.pow_le t hx.t1 hx.ok hx.pos
   rcases cB 5 d with h3 | h3
   ·have:2^7<=2^(d+1):=cQ d_ o_;have e:2^7=128:=d_
    omega
   omega
  cases hf:Bt.H_ a (Bt.its x) with
  | none=>
   have a2:Bt.getL (F5 (Bt.its x)) a=none:=by rw[Bt.getL_pairs,hf];rfl
   have a4:∀z∈Bt.its x,z.k≠a:=fun z hz q=>by
    grind [Bt.H_,List.find?_eq_none]
   have a8:F5 (Bt.its x)≠[]:=fun q=>by
    have h1:=Bt.pow_le t hx.t1 hx.ok hx.pos;have h2:=congrArg List.length q
    grind [jT,Nat.pow_le_pow_right,Bt.its]
   have hq:=(oE t a x).2;have a':fc S1 (2*iD t a x) (iD t a x):=a6.M o_ o_;refine(ny h hx.fit.inv hT hpx a b ar au false [] (R:=fun x' ik iv S'=>ik=0/\iv=0/\iV S (F5 (Bt.its x)) (Bt.recs x) (fun S o x L R=>Bt.Holds S o t x L R) a b 20 9 x' S') (R2:=fun x' S'=>iV S (F5 (Bt.its x)) (Bt.recs x) (fun S o x L R=>Bt.Holds S o t x L R) a b 20 9 x' S') rH qu (fun W Z hW _ _=>rA hW false fun V Z' hV=>?_) fun x' ik iv S' hR W Z hW _ _=>?_).M ?_
   ·refine(zI (hins a2 a8) hV ad (e:=⟨0,ka,vb,a,b⟩) ⟨an,a0,a5,a4,o_⟩ a').M ?_;rintro e w' ⟨d',y,S',o',rfl,hs,hk,ht,hi,hn,ap,hg⟩;have hg:ej S1 S' (2*iD t a x) (iD t a x):=hg;refine⟨_,_,_,S',rfl,hs,hk,rfl,rfl,⟨⟨o',Bt.recs y,ae ⟨d',y,ht,rfl,?_,rfl⟩,fun z hzm=>?_⟩,(g1.T hg).M o_ o_,fun z hzx hz=>(ap z (fun q=>hzx (aD _ q)) (by rw[ai z hz];exact hz)).T (ai z hz)⟩⟩
    ·rw[hi];exact(Bt.pairs_ins (e:=⟨0,ka,vb,a,b⟩) hx.G6 a4).S
    grind [Bt.recs,List.mem_append_left,l_,Bt.blobH_ins,List.mem_append_right]
   ·exact qDeab
   ·grind
  | some e0=>
   have a2:Bt.getL (F5 (Bt.its x)) a=some e0.v:=by rw[Bt.getL_pairs,hf];rfl
   obtain⟨⟨g,n0,k0⟩,a3⟩:=Bt.nodeB_some (key:=a) ad.walk (by grind);obtain⟨e1,a1⟩:=Bt.rep_at (e:=⟨0,ka,vb,a,b⟩) (Bt.blobs_lt f1 an) ad.walk ad.j_ ad.lts a3;obtain rfl:e1=e0:=Option.some.inj (a1.find.S.T hf);obtain⟨S2,a9⟩:∃S2,S2=FC S1 g 0 (w_ t (Bt.setN n0 k0 ⟨0,ka,vb,a,b⟩)):=⟨_,rfl⟩;obtain⟨i2,b2,lk,lv,d2,S3,bc,bb,ba,g3,a7,bm⟩:=ad.swap an a0 a5 a1 a9;have bj:iV S (F5 (Bt.its x)) (Bt.recs x) (fun S o x L R=>Bt.Holds S o t x L R) a b 20 9 (Bt.hd x) S3:=by
    refine⟨⟨o1,_,ae ⟨d,_,bb,(Bt.mapB_hd _ x).S,ba.S,rfl⟩,fun y hy=>?_⟩,(g1.T g3).M o_ o_,fun y hy hz=>(a7 y hy).T (ai y hz)⟩
    grind
   refine(ny h hx.fit.inv hT hpx a b ar au true e1.v (R:=fun x' ik iv S'=>x'=Bt.hd x/\ik=e1.kh/\iv=e1.vh/\S'=S2) (R2:=fun x' S'=>iV S (F5 (Bt.its x)) (Bt.recs x) (fun S o x L R=>Bt.Holds S o t x L R) a b 20 9 x' S') rH qu (fun W Z hW _ _=>rA hW true fun V Z' hV=>?_) fun x' ik iv S' hR W Z hW hTW hZ=>?_).M ?_
   ·refine(zJ hV ad (e:=⟨0,ka,vb,a,b⟩) an a3 a1).M ?_
    grind
   ·obtain⟨rfl,rfl,rfl,rfl⟩:=hR;refine(xL hW i2.inv hTW hZ e1.kh e1.vh lk lv (by rw[b2];simp) d2).M ?_
    grind
   ·grind
end
theorem zZ {w:World}{ps:Nat}{S:St}{Y:Nat->Prop}(h:Ig w ps S Y)(hi:Fv S){t:Nat}(t1:2<=t)(t2:t<=16):
 Ct 87 #[PV ps,Xi 3,Xi t] w fun e w'=>e=.returned (Xi 0)/\w=w':=by
 have ad:=fB h hi 0 o_;rw[fU] at ad;have ai:=fun W=>pW t t1 t2 W;have h6:((6*(t:Int))==0)=false:=m_
 have HG:=kq2 ad ai;clear ad h hi ai;go_enter func87,ntmps87;go_wp2_with fail;refine Jc HG.a ?_;go_wp2_with fail;refine Jc (HG.b _) ?_;go_wp2_with fail;go_ret;exact⟨rfl,rfl⟩
theorem zU {w:World}{ps:Nat}{S:St}{Y:Nat->Prop}(h:Ig w ps S Y)(hi:Fv S){t:Nat}(t1:2<=t)(t2:t<=16):
 Ct 133 #[PV ps,Xi t,Xu 0] w fun e w'=>e=.returned (Xi 0)/\w=w':=by
 have HG:=If (kZ h hi t1 t2);clear h hi;go_enter func133,ntmps133;go_wp2_with fail;refine Jc HG.O ?_;go_wp2_with fail;go_ret;exact⟨rfl,rfl⟩
theorem qc {w:World}{ps:Nat}{S:St}{Y:Nat->Prop}(h:Ig w ps S Y)(hi:Fv S){t:Nat}(t1:2<=t)(t2:t<=16):
 Ct 86 #[PV ps,Xi 3,Xi t,Xu 0] w fun e w'=>e=.returned (Xi 0)/\w=w':=by
 have HG:=kq2 (zZ h hi t1 t2) (zU h hi t1 t2);clear h hi;go_enter func86,ntmps86;go_wp2_with fail;refine Jc HG.a ?_;go_wp2_with fail;refine Jc HG.b ?_;go_wp2_with fail;go_ret;exact⟨rfl,rfl⟩
theorem Cy {w:World}{ps:Nat}{S:St}{Y:Nat->Prop}(h:Ig w ps S Y)(hi:Fv S){t:Nat}(t1:2<=t)(t2:t<=16):
 Ct 47 #[PV ps,Xi 3,Xi t,Xu 0] w fun e w'=>∃px,e=.returned (.tuple #[PV px,Xi 0])/\jE w' px ps t 0/\D_ w w'/\w.1.size<=px:=by
 have HG:=If (qc h hi t1 t2);have q:=heap_alloc_new w (.cells #[PV ps,Xi 3,Xi t,.iface 164 (.agg #[PV ps,Xi t]),Xu 0] 100);have B:=c_ w (.cells #[PV ps,Xi 3,Xi t,.iface 164 (.agg #[PV ps,Xi t]),Xu 0] 100);have HB:=kq2 q B;clear h hi q B;go_enter func47,ntmps47;go_wp2_with fail;refine Jc HG.O ?_;go_wp2_with fail;go_ret2;exact⟨w.1.size,rfl,HB.a,HB.b,Nat.le_refl _⟩
theorem Cv {w:World}{ps:Nat}{S:St}{Y:Nat->Prop}(h:Ig w ps S Y)(hi:Fv S){t:Nat}(t1:2<=t)(t2:t<=16):
 Ct 13 #[PV ps,Xi 3,Xi t] w fun e w'=>∃px,e=.returned (.tuple #[PV px,Xi 0])/\jE w' px ps t 0/\D_ w w'/\w.1.size<=px:=by
 have HG:=If (Cy h hi t1 t2);clear h hi;go_enter func13,ntmps13;go_wp2_with fail;refine HG.O.M ?_;rintro e w1 ⟨px,rfl,hr⟩;have HB:=If hr;clear hr;go_wp2_with fail;go_ret2;exact⟨px,rfl,HB.O⟩
structure jo where
 On:World->Nat->Nat->Nat->Prop
 Hold:St->(Nat->Nat)->Nat->List (List UInt8×List UInt8)->List Nat->Prop
structure pL (K:jo):Prop where
 onBelow:∀{w w':World} {px ps f9:Nat},K.On w px ps f9->D_ w w'->K.On w' px ps f9
 onKeep:∀{w w':World} {px ps f9:Nat} {Y:Nat->Prop},K.On w px ps f9->Fo Y w w'->Y px->K.On w' px ps f9
 onLt:∀{w:World} {px ps f9:Nat},K.On w px ps f9->px<w.1.size
 onAt:∀{w w':World} {px ps f9:Nat},K.On w px ps f9->w'.1[px]?=w.1[px]?->K.On w' px ps f9
 fit:∀{S:St} {o:Nat->Nat} {f9:Nat} {L:List (List UInt8×List UInt8)} {R:List Nat},K.Hold S o f9 L R->Fw S o
 has:∀{S:St} {o:Nat->Nat} {f9:Nat} {L:List (List UInt8×List UInt8)} {R:List Nat},K.Hold S o f9 L R->∀y∈R,l_ S y≠none
 frame:∀{S S':St} {o o':Nat->Nat} {f9:Nat} {L:List (List UInt8×List UInt8)} {R:List Nat},K.Hold S o f9 L R->Fw S' o'->(∀y∈R,l_ S' y=l_ S y)->K.Hold S' o' f9 L R
 G6:∀{S:St} {o:Nat->Nat} {f9:Nat} {L:List (List UInt8×List UInt8)} {R:List Nat},K.Hold S o f9 L R->L.Pairwise fun p q=>Fu p.1 q.1<0
 len:∀{w:World} {px ps f9:Nat} {S:St} {o:Nat->Nat} {Y:Nat->Prop} {L:List (List UInt8×List UInt8)} {R:List Nat},Ig w ps S Y->K.Hold S o f9 L R->L.length<98->K.On w px ps f9->
  Cb 19 #[PV px] w (Xi (L.length:Nat))
 rank:∀{w:World} {px ps f9:Nat} {S:St} {o:Nat->Nat} {Y:Nat->Prop} {L:List (List UInt8×List UInt8)} {R:List Nat},Ig w ps S Y->K.Hold S o f9 L R->L.length<98->K.On w px ps f9->∀k:List UInt8,
  Cb 16 #[PV px,SV k] w (Xi (eK L k:Nat))
 get:∀{w:World} {px ps f9:Nat} {S:St} {o:Nat->Nat} {Y:Nat->Prop} {L:List (List UInt8×List UInt8)} {R:List Nat},Ig w ps S Y->K.Hold S o f9 L R->L.length<98->K.On w px ps f9->∀k:List UInt8,
  Cb 17 #[PV px,SV k] w (.tuple #[SV ((Bt.getL L k).getD []),.bool (Bt.getL L k).isSome])
 at':∀{w:World} {px ps f9:Nat} {S:St} {o:Nat->Nat} {Y:Nat->Prop} {L:List (List UInt8×List UInt8)} {R:List Nat},Ig w ps S Y->K.Hold S o f9 L R->L.length<98->K.On w px ps f9->∀(k:Nat) (p:List UInt8×List UInt8),L[k]?=some p->
  Cb 18 #[PV px,Xi k] w (.tuple #[eu p,Xi 0])
 atRef:∀{w:World} {px ps f9:Nat} {S:St} {o:Nat->Nat} {Y:Nat->Prop} {L:List (List UInt8×List UInt8)} {R:List Nat},Ig w ps S Y->K.Hold S o f9 L R->L.length<98->K.On w px ps f9->∀k:Int,k<2^62->(k<0\/(L.length:Int)<=k)->
  Cb 18 #[PV px,Xi k] w (.tuple #[eu ([],[]),Xi 2])
structure gB (K:jo) (P:List (List UInt8×List UInt8)->Prop):Prop extends pL K where
 put:∀{w:World} {px ps f9:Nat} {S:St} {o:Nat->Nat} {Y:Nat->Prop} {L:List (List UInt8×List UInt8)} {R:List Nat},Ig w ps S Y->K.Hold S o f9 L R->L.length<98->K.On w px ps f9->Y px->P L->∀a b:List UInt8,a.length<=1000->b.length<=1000->fc S 20 9->
  Ct 43 #[PV px,eu (a,b)] w fun e w'=>∃(x:Nat) (S3:St),e=.returned (.tuple #[SV ((Bt.getL L a).getD []),.bool (Bt.getL L a).isSome,Xi 0])/\Ig w' ps S3 Y/\Fo (fun k=>Y k/\k≠px) w w'/\K.On w' px ps x/\iV S L R K.Hold a b 20 9 x S3
abbrev Nc(K:jo):Prop:=gB K fun _=>True
def mS(t:Nat):jo:=⟨fun w px ps f9=>jE w px ps t f9,fun S o f9 L R=>Bt.Holds S o t f9 L R⟩
theorem uY {l:List It}(h:l.Pairwise eU):(F5 l).Pairwise fun p q=>Fu p.1 q.1<0:=by
 exact List.pairwise_map.2 (h.imp fun {a b} q=>q)
theorem CA(t:Nat):pL (mS t) where
 onBelow h hb:=FF.a_ h hb
 onKeep h hk hy:=FF.B_ h hk hy
 onLt h:=(gl h)
 onAt h e:=e.T h
 fit h:=Bt.Holds.fit h
 has h:=Bt.Holds.has h
 frame h:=Bt.Holds.frame h
 G6 h:=by
  rcases h with⟨_,_,rfl,_⟩ | ⟨_,_,h,_,rfl,_⟩
  ·simp_all
  ·exact uY h.G6
 len h hH _ hT:=CF h hH hT
 rank h hH _ hT k:=CH h hH hT k
 get h hH _ hT k:=CE h hH hT k
 at' h hH _ hT k p hk:=CC h hH hT k hk
 atRef h hH _ hT k _ hk:=CD h hH hT k hk
theorem Cw(hins:∀d,j4 d)(t:Nat){P:List (List UInt8×List UInt8)->Prop}:gB (mS t) P:=
 { CA t with put:=fun h hH hc hT hpx _ _ b ha hb hr=>CG (fun _ _=>hins) h hH hT hpx b ha hb o_ hr }
def jH(h_:Nat)(Ok:Tr->Prop):jo:=⟨fun w px ps f9=>FF w px ps 162 (fE ps h_) h_ 0 f9,fun S o f9 L R=>∃t:Tr,fC Ok S o t/\f9=t.f9/\L=F5 t.its/\R=eB t.its⟩
theorem At.item {S:St}:∀{t:Tr},Tr.At S t->∀d∈t.its,∃n0:Nd,l_ S d.h=some (eM n0)/\n0.key=d.kh/\n0.val=d.vh
 | .nil,_,d,hd=>by cases hd
 | .node l e m r,ha,d,hd=>by
  obtain⟨h1,h2,h3⟩:=ha;rcases ay.1 (show d∈l.its++e::r.its from hd) with hd | hd
  ·exact At.item h2 d hd
  ·rcases aj.1 hd with rfl | hd
   ·exact⟨_,h1,rfl,rfl⟩
   ·exact At.item h3 d hd
theorem tM {Ok:Tr->Prop}{S:St}{o:Nat->Nat}{t:Tr}(h:fC Ok S o t)(hc:t.its.length<98)(key:List UInt8):∃hh,ij S key (Lf.r_ S) t.f9 0=some (hh,eK (F5 t.its) key)/\((hh=0/\Bt.getL (F5 t.its) key=none)\/∃d:It,hh=d.h/\d.h≠0/\d.h<2^64/\Bt.getL (F5 t.its) key=some d.v/\gD S (f_ S d.h).1.val=some d.v):=by
 obtain⟨hh,e,q⟩:=h.down o_ key;rw[<-ue] at e;refine⟨hh,e,?_⟩;rw[Bt.getL_pairs]
 rcases q with⟨rfl,q⟩ | ⟨d,hd,hk,rfl⟩
 ·rw[Bt.findB_none q]
  grind
 ·obtain⟨n0,e1,e2,e3⟩:=At.item h.at' d hd;have hf:Bt.H_ key t.its=some d:=by
   cases hf:Bt.H_ key t.its with
   | none=>
    have:=bK.1 hf d hd;rw[hk] at this
    simp at this
   | some d'=>
    unfold Bt.H_ at hf;have ad:d'.k=key:=by grind
    have hp:=h.G6;rw[bW] at hp;obtain⟨i,hi,rfl⟩:=ci.1 hd;obtain⟨j,hj,rfl⟩:=ci.1 (bU hf);have ai:∀i j (hi:i<t.its.length) (hj:j<t.its.length),i<j->t.its[i].k≠t.its[j].k:=fun i j hi hj hij q=>by
     grind [eU,fX]
    rcases Nat.lt_trichotomy i j with q | q | q
    ·grind
    ·grind
    ·grind
  have ho:=fL h.fit e1;have hb:=h.G7 d hd;rw[hf];refine ae ⟨d,rfl,o_,ho.2.1,rfl,?_⟩;rw[gw h.fit e1,e3];exact At.blob h.fit hb.lv hb.v
theorem nZ(L:List (List UInt8×List UInt8))(a:List UInt8):eK L a<=L.length:=cD
theorem AL(args:Array Value)(w:World):(callFunc 304 args).run prog w=.ok (.enter 304 args) w:=by simp_all
theorem AK(args:Array Value)(w:World):(callFunc 302 args).run prog w=.ok (.enter 302 args) w:=by simp_all
theorem qt(args:Array Value)(w:World):(callFunc 299 args).run prog w=.ok (.enter 299 args) w:=by simp_all
theorem ui(args:Array Value)(w:World):(callFunc 300 args).run prog w=.ok (.enter 300 args) w:=by simp_all
theorem uj(args:Array Value)(w:World):(callFunc 301 args).run prog w=.ok (.enter 301 args) w:=by simp_all
theorem zg(h_:Nat)(Ok:Tr->Prop):pL (jH h_ Ok) where
 onBelow h hb:=FF.a_ h hb
 onKeep h hk hy:=FF.B_ h hk hy
 onLt h:=(gl h)
 onAt h e:=e.T h
 fit h:=by obtain⟨t,h,_⟩:=h;exact h.fit
 has h:=by obtain⟨t,h,_,_,rfl⟩:=h;exact h.some
 frame h hf hs:=by obtain⟨t,h,h1,h2,rfl⟩:=h;exact⟨t,h.frame hf hs,h1,h2,rfl⟩
 G6 h:=by obtain⟨t,h,_,rfl,_⟩:=h;exact uY h.G6
 len h hH hc hT:=by
  obtain⟨t,hb,rfl,rfl,rfl⟩:=hH;rw[jT] at hc⊢;exact xM hT Da AL fun _ hW=>zh (h.a_ hW) hb.fit.inv h_ _ (hb.at'.root_lt hb.fit) (hb.at'.size hb.fit o_)
 rank h hH hc hT k:=by
  obtain⟨t,hb,rfl,rfl,rfl⟩:=hH;rw[jT] at hc;obtain⟨hh,e,_⟩:=tM hb hc k;exact xO hT k C9 AK fun _ hW=>zf (h.a_ hW) hb.fit.inv h_ _ (hb.at'.root_lt hb.fit) k (by unfold oP;grind)
 get {w px ps f9 S o Y L R} h hH hc hT k:=by
  obtain⟨t,hb,rfl,rfl,rfl⟩:=hH;rw[jT] at hc;have hl:=hb.at'.root_lt hb.fit;obtain⟨hh,e,⟨rfl,q⟩ | ⟨d,rfl,q1,q2,q,q3⟩⟩:=tM hb hc k
  ·rw[q];refine nu (t:=[]) (e1:=0) hT k 0 0 false (fun _=>rfl) (fun e=>nomatch e) vP ui fun W hW=>?_;have:=tL (h.a_ hW) hb.fit.inv h_ t.f9 hl k e s_;simpa[Id,qM,Nd.zero] using this
  ·rw[q];obtain⟨b1,b2⟩:=sS q3;refine nu hT k (f_ S d.h).1.key (f_ S d.h).1.val true d.v (fz S (f_ S d.h).1.val).2 (fun e=>nomatch e) (fun _ W hW=>?_) vP ui fun W hW=>?_
   ·have:=iz (h.a_ hW) hb.fit.inv _ (fs h d.h).val b1;rwa[b2] at this
   ·have:=tL (h.a_ hW) hb.fit.inv h_ t.f9 hl k e q2;simpa[Id,q1] using this
 at' h hH hc hT k p hp:=by
  obtain⟨t,hb,rfl,rfl,rfl⟩:=hH;rw[jT] at hc;obtain⟨ad,ar⟩:=ax.1 hp;rw[jT] at ad;have an:=hb.place o_ ad;have hq:(F5 t.its)[k]?=some (t.its[k].k,t.its[k].v):=by grind [F5,List.getElem?_eq_getElem]
  have:p=(t.its[k].k,t.its[k].v):=Option.some.inj (hp.S.T hq);rw[<-this] at an;obtain⟨hh,ap,h1,h2,h3⟩:=EQ an;obtain⟨b1,b2⟩:=sS h2;obtain⟨b3,b4⟩:=sS h3;have ai:=fs h hh;exact xH hT (k:Int) p _ _ _ _ 0 (ab rfl) rI qt (fun W hW=>tK (h.a_ hW) hb.fit.inv h_ t.f9 (hb.at'.root_lt hb.fit) k o_ h1 ap)
   (fun _ W hW=>by have:=iz (h.a_ hW) hb.fit.inv _ ai.key b1;rwa[b2] at this) (fun _ W hW=>by have:=iz (h.a_ hW) hb.fit.inv _ ai.val b3;rwa[b4] at this)
 atRef {w px ps f9 S o Y L R} h hH hc hT k hk2 hk:=by
  obtain⟨t,hb,rfl,rfl,rfl⟩:=hH;rw[jT] at hc hk;by_cases h0:k<0
  ·refine xH hT k ([],[]) 0 0 0 0 2 (ae ⟨rfl,rfl⟩) rI qt (fun W hW=>?_) (fun e=>nomatch e) fun e=>nomatch e;have:=za (h.a_ hW) hb.fit.inv h_ t.f9 k h0;simpa[Id,qM,Nd.zero] using this
  ·obtain⟨n,rfl⟩:∃n:Nat,k=n:=⟨k.toNat,o_⟩;exact xH hT (n:Int) ([],[]) (f_ S 0).1.key (f_ S 0).1.val 0 0 2 (ae ⟨rfl,rfl⟩) rI qt (fun W hW=>tK (h.a_ hW) hb.fit.inv h_ t.f9 (hb.at'.root_lt hb.fit) n o_ (hb.over o_ o_) d_) (fun e=>nomatch e) fun e=>nomatch e
theorem pU {h_:Nat}{j c:FuncId}{jn:Jn}{Ok:Tr->Prop}(hk:jD h_ j c jn)(J:kV jn Ok){P:List (List UInt8×List UInt8)->Prop}:gB (jH h_ Ok) P where
 topL:=zg h_ Ok
 put {w px ps f9 S o Y L R} h hH hc hT hpx _ a b ha hb' hr:=by
  obtain⟨t,hb,rfl,rfl,rfl⟩:=hH;rw[jT] at hc;have a1:=hr.M (p':=7) (q':=3) o_ o_;have hl:=hb.at'.root_lt hb.fit;cases hf:Bt.H_ a t.its with
  | none=>
   have an:Bt.getL (F5 t.its) a=none:=by rw[Bt.getL_pairs,hf];rfl
   have a3:∀z∈t.its,z.k≠a:=fun z hz q=>by
    grind [Bt.H_,List.find?_eq_none]
   rw[an];obtain⟨u,S',o',po,ad,hB,ap,_,hg,ai,ar⟩:=DI J hb hc ha hb' a1 a3;unfold treePutM at ad;split at ad
   ·cases ad
   rename_i p S1 hit;have au:iV S (F5 t.its) (eB t.its) (jH h_ Ok).Hold a b 20 9 u.f9 S':=⟨⟨o',eB u.its,⟨u,hB,rfl,ap.S,rfl⟩,ar⟩,hg.M o_ o_,ai⟩;refine ny h hb.fit.inv hT hpx a b po.1 hit false [] (R:=fun x ik iv S2=>x=u.f9/\ik=0/\iv=0/\S2=S') (R2:=fun x S2=>iV S (F5 t.its) (eB t.its) (jH h_ Ok).Hold a b 20 9 x S2) vQ uj (fun W Z hW hp1 hp2=>?_) fun x ik iv S2 hR W Z hW _ _=>?_
   ·refine(zc hW (po.2 _ _ hit) hk t.f9 p.1 p.2 hl hp1 hp2 ad).M ?_;grind
   ·obtain⟨rfl,rfl,rfl,rfl⟩:=hR;refine e9 (sV px 0 0 W) fun w' hb=>?_;exact⟨_,rfl,hW.a_ hb,hW.B_ hb,au⟩
  | some d=>
   have an:Bt.getL (F5 t.its) a=some d.v:=by rw[Bt.getL_pairs,hf];rfl
   rw[an];have hd:d∈t.its:=by unfold Bt.H_ at hf;grind
   have a2:d.k=a:=by unfold Bt.H_ at hf;grind
   have a0:=Bt.blobs_lt hb.fit (hb.G7 d hd);obtain⟨u,S6,S8,o',po,ad,f6,b6,i6,e8,hB,ap,_,hg,ai,ar⟩:=DJ J hb hc ha hb' a1 hd a2;unfold treeRepM at ad;split at ad
   ·cases ad
   rename_i p S1 hit;have au:iV S (F5 t.its) (eB t.its) (jH h_ Ok).Hold a b 20 9 u.f9 S8:=⟨⟨o',eB u.its,⟨u,hB,rfl,ap.S,rfl⟩,ar⟩,hg.M o_ o_,ai⟩;refine ny h hb.fit.inv hT hpx a b po.1 hit true d.v (R:=fun x ik iv S2=>x=u.f9/\ik=d.kh/\iv=d.vh/\S2=S6) (R2:=fun x S2=>iV S (F5 t.its) (eB t.its) (jH h_ Ok).Hold a b 20 9 x S2) vQ uj (fun W Z hW hp1 hp2=>?_) fun x ik iv S2 hR W Z hW hTW hZ=>?_
   ·refine(zd hW (po.2 _ _ hit) hk t.f9 p.1 p.2 hl hp1 hp2 ad f6.inv).M ?_;grind
   ·obtain⟨rfl,rfl,rfl,rfl⟩:=hR;refine(xL hW f6.inv hTW hZ d.kh d.vh a0.1 a0.2 (by rw[b6];simp) i6).M ?_;grind
theorem Kj {w:World}{ps:Nat}{S:St}{Y:Nat->Prop}(h:Ig w ps S Y){t:Nat}(t1:2<=t)(t2:t<=16):
 Cb 81 #[FH ps t] w (Xi (S.words / (6*t)+1:Nat)):=by
 have B0:=c_ w (Xc ps t);have q0:=heap_alloc_new w (Xc ps t);have an:=fun W (hW:D_ w W)=>xo (h.a_ hW);have au:=fun W=>pW t t1 t2 W;have a4:=nB h;obtain⟨wd,ap⟩:=Ii S.words;rw[ap] at a4 an;have hq:((wd:Int)).tdiv (6*(t:Int))=((wd / (6*t):Nat):Int):=by
  rw[show (6*(t:Int))=((6*t:Nat):Int) by omega];exact(Int.ofNat_tdiv wd (6*t)).S
 have a3:wd / (6*t)<=wd:=Nat.div_le_self _ _;obtain⟨qq,ai⟩:=Ii (wd / (6*t));rw[ai] at hq a3;have h6:((6*(t:Int))==0)=false:=m_
 have a5:(6*(t:Int))≠0:=o_
 have a6:IntKind.i64.wrap ((qq:Int))=(qq:Int):=aq _ o_;have a7:IntKind.i64.wrap ((qq:Int)+1)=(qq:Int)+1:=aq _ o_;have HG:=kq4 an au B0 q0;obtain⟨W0,a2⟩:=Ii (w.alloc (Xc ps t));rw[a2] at HG;obtain⟨I,ar,ad⟩:=ic fun w'=>w'.1[w.1.size]?=some (Xc ps t);have a0:=fun x:Fq I=>ar _ x.ok;obtain⟨m0,m1⟩:=ft a0;have a1:I W0.drew:=ad _ HG.d;have HI:=If ad;have HQ:=kq2 ap ai;clear ar ad a0 an au B0 q0 h ap ai;unfold FH;go_enter func81,ntmps81;go_wp2_with fail;refine fh I (.take 0 (.take 1 (.take 3 (.take 4 (.go 2 (.go 5 (.take 6 (.take 7 (.go 8 .nil))))))))) k_ k_ a1 ?_
 iterate 4
  refine pT_ ?_
  try simp only[pu]
 refine pD fun K hK=>?_;go_simp;refine e9 (HG.a _ (HG.c.drew)) fun w1 hb1=>?_;have H1:=kq2 (b_ HG.c.drew hb1) (HI.O _ ((hb1.block w.1.size (gl HG.d)).T HG.d));clear hb1
 try go_simp
 refine hK.O _ _ (H1.b) ?_;clear hK K
 try simp only[pu]
 refine pD fun K hK=>?_;go_simp;refine Jc (HG.b w1) ?_
 try go_simp
 refine hK.O _ _ (H1.b) ?_;clear hK K
 try simp only[pu]
 iterate 2
  refine pT_ ?_
  try simp only[pu]
 refine pD fun K hK=>?_;go_simp
 try go_simp
 refine hK.O _ _ (H1.b) ?_;clear hK K
 try simp only[pu]
 refine eP ?_;go_wp2_with fail;go_ret;exact⟨by rw[HQ.a,HQ.b];first | rfl | simp,H1.a⟩
theorem zM {w:World}{ps:Nat}{S:St}{Y:Nat->Prop}(h:Ig w ps S Y){t:Nat}(t1:2<=t)(t2:t<=16):
 Ct 81 #[FH ps t] w fun e w'=>(∃z:Nat,e=.returned (Xi z)/\1<=z)/\D_ w w':=
 (Kj h t1 t2).M fun _ _ ⟨h1,h2⟩=>⟨⟨_,h1,Nat.le_add_left ..⟩,h2⟩
theorem zL {w:World}{ps:Nat}{S:St}{o:Nat->Nat}{Y:Nat->Prop}(h:Ig w ps S Y)(hf:Fw S o){t:Nat}(t1:2<=t)(t2:t<=16)(bl:Nat):
 Cb 120 #[FH ps t,n_,Xu 0,.pointer (some (y_ bl)),Xi 0] w n_:=by
 have B0:=c_ w (Xc ps t);have hg:=nQ (h.a_ B0) hf.inv t1 t2 0 o_ (oy (rZ hf));unfold FH eC at hg;have HG:=kq2 hg B0;clear hg B0 h hf;unfold FH;go_enter func120,ntmps120;go_wp2_with fail;refine e9 HG.a fun w1 hb1=>?_;have B1:=b_ HG.b hb1;have H1:=If (B1.alloc B1.size (.cells #[n_,n_,n_,Xu 0] 215));clear hb1 B1;go_wp2_with fail;go_ret;exact⟨rfl,H1.O⟩
theorem zV {w:World}{ps:Nat}{S:St}{o:Nat->Nat}{Y:Nat->Prop}(h:Ig w ps S Y)(hf:Fw S o){t:Nat}(t1:2<=t)(t2:t<=16):
 Cb 74 #[PV ps,Xi t,Xu 0] w n_:=by
 have ar:=kZ h hf.inv t1 t2;have B0:=c_ w (Xc ps t);have q0:=heap_alloc_new w (Xc ps t);have ad:=zM (h.a_ B0) t1 t2;have an:=fun W (hW:D_ w W) bl=>zL (h.a_ hW) hf t1 t2 bl;unfold FH at ad an;obtain⟨W0,ap⟩:=Ii (w.alloc (Xc ps t));rw[ap] at B0 q0 ad;obtain⟨x0,x1⟩:=Fp q0;have HG:=kq5 ar ad an B0 q0;clear ar ad an B0 q0 h hf;go_enter func74,ntmps74;go_wp2_with fail;refine Jc HG.a ?_;go_wp2_with fail;refine HG.b.M ?_;rintro e w1 ⟨⟨z,rfl,hz⟩,ai⟩;have q1:=(ai.block w.1.size (gl HG.e)).T HG.e;have B1:=b_ HG.d ai;have A2:=c_ w1 (Xj z);have q2:=(A2.block w.1.size (gl q1)).T q1;have B2:=b_ B1 A2;clear ap x0 x1;obtain⟨W1,au⟩:=Ii (w1.alloc (Xj z));rw[au] at q2 B2;obtain⟨x0,x1⟩:=Fp q2;have H2:=If B2;clear ai q1 B1 A2 q2 B2;go_wp2_with fail;refine e9 (HG.c _ H2.O _) fun w3 hb3=>?_;have H3:=If (b_ H2.O hb3);clear hb3;go_wp2_with fail;go_ret;exact⟨rfl,H3.O⟩
theorem Ab {w:World}{ps:Nat}{S:St}{o:Nat->Nat}{Y:Nat->Prop}(h:Ig w ps S Y)(hf:Fw S o){t:Nat}(t1:2<=t)(t2:t<=16):
 Cb 59 #[PV ps,Xi 3,Xi t,Xu 0] w (.tuple #[n_,Xi 0]):=by
 have hc:=qc h hf.inv t1 t2;have hl:=fun W (hW:D_ w W)=>zV (h.a_ hW) hf t1 t2;have HG:=kq2 hc hl;clear hc hl h hf;go_enter func59,ntmps59;go_wp2_with fail;refine Jc HG.a ?_;have H1:=If (aa w.1.size w);go_wp2_with fail;refine e9 (HG.b _ H1.O) fun w2 hb2=>?_;have H2:=If (b_ H1.O hb2);clear hb2;go_wp2_with fail
 go_loopw [16,18,19,20,21,22,62] (fun l1 _ _ _ _ _ k wr=>l1=.slice none 0 0/\k=Xi 0/\wr=w2) (fun _ _ _ _ _ _ _ _=>0)
 case atStart=>exact⟨rfl,rfl,rfl⟩
 case round=>
  obtain⟨rfl,rfl,rfl⟩:=hrel;go_wp2_with fail;go_ret2;exact⟨rfl,H2.O⟩
theorem CR {w:World}{ps:Nat}{S:St}{Y:Nat->Prop}(h:Ig w ps S Y)(h_ t:Int)(r_:Nat)(K:jo)(hlt:∀{w px ps f9},K.On w px ps f9->px<w.1.size)(hbl:∀{w w' px ps f9},K.On w px ps f9->D_ w w'->K.On w' px ps f9)(hn:Ct 13 #[PV ps,Xi h_,Xi t] w fun e w'=>∃px,e=.returned (.tuple #[PV px,Xi 0])/\K.On w' px ps 0/\D_ w w'/\w.1.size<=px)(ho:∀W px,Ig W ps S Y->K.On W px ps 0->Ct 22 #[PV ps,PV px,Xi r_] W fun e w'=>∃pm,e=.returned (.tuple #[PV pm,Xi 0])/\Ic w' pm px ps r_/\D_ W w'/\W.1.size<=pm):
 Ct 52 #[PV ps,Xi h_,Xi t,Xi r_] w fun e w'=>∃pm px,e=.returned (.tuple #[PV pm,Xi 0])/\Ic w' pm px ps r_/\K.On w' px ps 0/\D_ w w'/\w.1.size<=pm/\w.1.size<=px/\pm≠px:=by
 have ho:=fun W px (hW:D_ w W) (hT:K.On W px ps 0)=>ho W px (h.a_ hW) hT;have HG:=kq2 hn ho;clear hn ho h;go_enter func52,ntmps52;go_wp2_with fail;refine HG.a.M ?_;rintro e w1 ⟨px,rfl,hT,ad,lx⟩;have H1:=kq3 hT ad lx;clear hT ad lx;go_wp2_with fail;refine(HG.b _ px H1.b H1.a).M ?_;rintro e w2 ⟨pm,rfl,hM,ai,lm⟩;have H2:=kq3 hM ai lm;clear hM ai lm;go_wp2_with fail;go_ret2;have hlt:=hlt H1.a;exact⟨pm,px,rfl,H2.a,hbl H1.a H2.b,b_ H1.b H2.b,aI H1.b.size H2.c,H1.c,by have:=H2.c;omega⟩
structure j5 (h_ t:Int) (K:jo) (P:List (List UInt8×List UInt8)->Prop):Prop where
 ok:gB K P
 zero:∀{S:St} {o:Nat->Nat},Fw S o->K.Hold S o 0 [] []
 new:∀{w:World} {ps:Nat} {S:St} {o:Nat->Nat} {Y:Nat->Prop},Ig w ps S Y->Fw S o->Ct 13 #[PV ps,Xi h_,Xi t] w fun e w'=>∃px,e=.returned (.tuple #[PV px,Xi 0])/\K.On w' px ps 0/\D_ w w'/\w.1.size<=px
 of:∀{w:World} {ps px:Nat} {S:St} {o:Nat->Nat} {Y:Nat->Prop},Ig w ps S Y->Fw S o->K.On w px ps 0->∀r_:Nat,r_<=1000->Ct 22 #[PV ps,PV px,Xi r_] w fun e w'=>∃pm,e=.returned (.tuple #[PV pm,Xi 0])/\Ic w' pm px ps r_/\D_ w w'/\w.1.size<=pm
abbrev tp(h_ t:Int)(K:jo):Prop:=j5 h_ t K fun _=>True
def fj(L:List (List UInt8×List UInt8))(k:Int):Option (List UInt8×List UInt8):=if k<0 then none else L[k.toNat]?
def gI(L:List (List UInt8×List UInt8))(a:List UInt8):Int:=if(Bt.getL L a).isSome=true then(eK L a:Int) else(eK L a:Int)-1
structure fi (K:jo) (w W:World) (ps pm px r_ f9:Nat) (S:St) (Y:Nat->Prop) (L:List (List UInt8×List UInt8)):Prop where
 st:Ig W ps S Y
 hold:∃o R,K.Hold S o f9 L R
 on:K.On W px ps f9
 map:Ic W pm px ps r_
 bl:D_ w W
 own:∀k,k<w.1.size->Y k
 yx:Y px
 ym:Y pm
 lx:w.1.size<=px
 lm:w.1.size<=pm
 ne:pm≠px
theorem yJ {L:List (List UInt8×List UInt8)}{k:Int}(h:fj L k=none):k<0\/(L.length:Int)<=k:=by
 grind [fj,List.getElem?_eq_none_iff]
theorem tE {L:List (List UInt8×List UInt8)}{k:Int}{p:List UInt8×List UInt8}(h:fj L k=some p):∃n:Nat,k=n/\L[n]?=some p:=by
 grind [fj]
section
variable {P:List (List UInt8×List UInt8)->Prop}{K:jo}{w W:World}{ps pm px r_ f9:Nat}{S:St}{Y:Nat->Prop}{L:List (List UInt8×List UInt8)}
theorem fi.a_(ok:gB K P)(h:fi K w W ps pm px r_ f9 S Y L){W':World}(hb:D_ W W'):fi K w W' ps pm px r_ f9 S Y L:=
 ⟨h.st.a_ hb,h.hold,ok.onBelow h.on hb,h.map.a_ hb,b_ h.bl hb,h.own,h.yx,h.ym,h.lx,h.lm,h.ne⟩
theorem fi.treeAt(ok:gB K P)(h:fi K w W ps pm px r_ f9 S Y L)(hc:L.length<98)(k:Int)(hk:k<2^62)(q:Option (List UInt8×List UInt8))(hq:fj L k=q):
 ∀V,D_ W V->Cb 18 #[PV px,Xi k] V (.tuple #[eu (q.getD ([],[])),Xi ((if q.isSome=true then 0 else 2:Nat):Nat)]):=fun V hV=>by
 obtain⟨o,R,hH⟩:=h.hold;have h':=h.a_ ok hV;cases q with
 | none=>exact ok.atRef h'.st hH hc h'.on k hk (yJ hq)
 | some p=>
  obtain⟨n,rfl,hn⟩:=tE hq;exact ok.at' h'.st hH hc h'.on n p hn
theorem fi.len(ok:gB K P)(h:fi K w W ps pm px r_ f9 S Y L)(hc:L.length<98):
 Cb 39 #[PV pm] W (Xi (L.length:Nat)):=by
 obtain⟨o,R,hH⟩:=h.hold;exact CQ h.map (ok.len h.st hH hc h.on)
theorem fi.rank(ok:gB K P)(h:fi K w W ps pm px r_ f9 S Y L)(hc:L.length<98)(a:List UInt8):
 Cb 99 #[PV pm,SV a] W (Xi (eK L a:Nat)):=by
 obtain⟨o,R,hH⟩:=h.hold;exact CU h.map a (ok.rank h.st hH hc h.on a)
theorem fi.place(ok:gB K P)(h:fi K w W ps pm px r_ f9 S Y L)(hc:L.length<98)(a:List UInt8):
 ∀V,D_ W V->Cb 98 #[PV pm,SV a] V (Xi (gI L a)):=fun V hV=>by
 obtain⟨o,R,hH⟩:=h.hold;have h':=h.a_ ok hV;exact CL h'.map a (n:=eK L a) (by have:=nZ L a;omega) (Bt.getL L a).isSome ((Bt.getL L a).getD []) (ok.rank h'.st hH hc h'.on a) fun U hU=>ok.get (h'.a_ ok hU).st hH hc (h'.a_ ok hU).on a
theorem AZ(hc:L.length<98)(a:List UInt8):gI L a<2^62:=by
 have:=nZ L a;unfold gI;split<;>omega
theorem fi.floor(ok:gB K P)(h:fi K w W ps pm px r_ f9 S Y L)(hc:L.length<98)(a:List UInt8)(q:Option (List UInt8×List UInt8))(hq:fj L (gI L a)=q):
 Cb 53 #[PV pm,SV a] W (.tuple #[eu (q.getD ([],[])),Xi ((if q.isSome=true then 0 else 5:Nat):Nat)]):=by
 have ht:=h.treeAt ok hc (gI L a) (AZ hc a) q hq
 cases q with
 | none=>exact CP h.map a (gI L a) (h.place ok hc a) [] [] ht
 | some p=>exact CO h.map a (gI L a) (h.place ok hc a) p ht
theorem fi.ceiling(ok:gB K P)(h:fi K w W ps pm px r_ f9 S Y L)(hc:L.length<98)(a:List UInt8)(q:Option (List UInt8×List UInt8))(hq:fj L (eK L a:Nat)=q):
 Cb 54 #[PV pm,SV a] W (.tuple #[eu (q.getD ([],[])),Xi ((if q.isSome=true then 0 else 5:Nat):Nat)]):=by
 have hl:=nZ L a;have ht:=h.treeAt ok hc (eK L a:Nat) o_ q hq;have hr:=fun V (hV:D_ W V)=>(h.a_ ok hV).rank ok hc a
 cases q with
 | none=>exact CN h.map a (eK L a:Nat) hr [] [] ht
 | some p=>exact CM h.map a (eK L a:Nat) hr p ht
theorem fi.absent_there(ok:gB K P)(h:fi K w W ps pm px r_ f9 S Y L)(hc:L.length<98)(a b:List UInt8)(ha:a.length<=r_)(hb:b.length<=r_){v:List UInt8}(hv:Bt.getL L a=some v):
 Cb 55 #[PV pm,SV a,SV b] W (Xi 6):=by
 obtain⟨o,R,hH⟩:=h.hold;have hg:=ok.get h.st hH hc h.on a;rw[hv] at hg;exact CJ h.map a b ha hb hg
theorem fi.put {p q:Nat}(ok:gB K P)(h:fi K w W ps pm px r_ f9 S Y L)(hs:fc S (20+p) (9+q))(a b:List UInt8)(ha:a.length<=r_)(hb:b.length<=r_)(hl:r_<=1000)(hc:L.length<98)(hP:P L):
 Ct 24 #[PV pm,SV a,SV b] W fun e w'=>e=.returned (.tuple #[SV ((Bt.getL L a).getD []),.bool (Bt.getL L a).isSome,Xi 0])/\∃(x:Nat) (S3:St),fi K w w' ps pm px r_ x S3 Y (gV L a b)/\fc S3 p q:=by
 obtain⟨o,R,hH⟩:=h.hold;refine CS h.map a b _ _ ha hb ((ok.put h.st hH hc h.on h.yx hP a b o_ o_ (hs.M o_ o_)).M ?_);rintro e w' ⟨x,S3,rfl,h1,h2,h3,h4⟩;obtain⟨o3,R3,h5,_⟩:=h4.holds;exact⟨rfl,x,S3,⟨h1,⟨o3,R3,h5⟩,h3,(h2.block pm ⟨h.ym,h.ne⟩).T h.map,h.bl.T (Fo.a_ (h2.M fun k hk=>⟨h.own k hk,fun q=>by have:=h.lx;omega⟩)),h.own,h.yx,h.ym,h.lx,h.lm,h.ne⟩,fc.grew hs h4.grew⟩
theorem vK {h_ t:Int}(hk:j5 h_ t K P){o:Nat->Nat}(h:Ig W ps S Y)(hf:Fw S o)(hb:D_ w W)(hown:∀k,k<w.1.size->Y k)(r_:Nat)(hl:r_<=1000):
 Ct 52 #[PV ps,Xi h_,Xi t,Xi r_] W fun e w'=>∃(pm px:Nat) (Z:Nat->Prop),e=.returned (.tuple #[PV pm,Xi 0])/\fi K w w' ps pm px r_ 0 S Z []/\(∀k,Y k->Z k)/\D_ W w':=by
 refine(CR h h_ t r_ K hk.ok.onLt hk.ok.onBelow (hk.new h hf) fun V px hV hT=>hk.of hV hf hT r_ hl).M ?_;rintro e w' ⟨pm,px,rfl,hM,hT,ad,lm,lx,ne⟩;exact⟨pm,px,fun k=>Y k\/(W.1.size<=k/\k<w'.1.size),rfl,⟨h.wide ad,⟨o,[],hk.zero hf⟩,hT,hM,b_ hb ad,fun k hk=>ab (hown k hk),ae ⟨lx,hk.ok.onLt hT⟩,ae ⟨lm,(gl hM)⟩,aI hb.size lx,aI hb.size lm,ne⟩,fun k hk=>ab hk,ad⟩
end
theorem fi.wide {P:List (List UInt8×List UInt8)->Prop}{K:jo}(ok:gB K P){w W W':World}{ps pm px r_ f9:Nat}{S:St}{Y:Nat->Prop}{L:List (List UInt8×List UInt8)}(h:fi K w W ps pm px r_ f9 S Y L)(hb:D_ W W'):
 fi K w W' ps pm px r_ f9 S (fun k=>Y k\/(W.1.size<=k/\k<W'.1.size)) L:=
 ⟨h.st.wide hb,h.hold,ok.onBelow h.on hb,h.map.a_ hb,b_ h.bl hb,fun k hk=>ab (h.own k hk),ab h.yx,ab h.ym,h.lx,h.lm,h.ne⟩
theorem AO(W:World):(binOp .eql 40 (.agg #[SV [97],SV [120]]) (.agg #[SV [97],SV [120]])).run prog W=.ok (.bool true) W:=k_
theorem AP(W:World):(binOp .eql 40 (.agg #[SV [99],SV [121]]) (.agg #[SV [99],SV [121]])).run prog W=.ok (.bool true) W:=k_
theorem Nj(hK:tp 2 0 (jH 2 Rb)){w:World}(ht:gA w):
 Cb 20 #[] w (.bool true):=by
 have a':=xp ht 262144 1000 4294967295 o_ o_ o_;have au:=ux 262144 1000 4294967295 o_ o_ o_;obtain⟨K,an⟩:=Ii (jH 2 Rb);rw[an] at hK;clear an;have ba:fc ⟨⟨262144,[]⟩,⟨1000,4294967295,[]⟩⟩ (20+20) (9+9):=⟨d_,d_⟩;have ok:=hK.ok;have HG:=kq5 a' au ba hK ok;clear a' au ba hK ht ok;go_enter func20,ntmps20;go_wp2_with fail;refine HG.a.M ?_;rintro e w1 ⟨ps,rfl,a8,ap⟩;have a3:=vK HG.d a8 HG.b ap (fun k hk=>hk) 3 o_;have H1:=If a3;clear a8 ap a3;go_wp2_with fail;refine H1.O.M ?_;rintro e w2 ⟨pm,px,Y,rfl,hm,_,bb⟩;have a4:=hm.put HG.e HG.c [97] [120] d_ d_ o_ d_ trivial;have H2:=If a4;clear hm bb a4;go_wp2_with fail;refine H2.O.M ?_;rintro e w3 ⟨rfl,x1,S1,a2,a9⟩;have a5:=a2.put (p:=0) (q:=0) HG.e a9 [99] [121] d_ d_ o_ d_ trivial;have H3:=If a5;clear a2 a9 a5;go_wp2_with fail;refine H3.O.M ?_;rintro e w4 ⟨rfl,x2,S2,ad,bc⟩;have a0:=fun {V:World} (hV:D_ w4 V)=>(ad.a_ HG.e hV).floor HG.e d_ [98] (some ([97],[120])) d_;have a1:=fun {V:World} (hV:D_ w4 V)=>(ad.a_ HG.e hV).floor HG.e d_ [65] none d_;have ar:=fun {V:World} (hV:D_ w4 V)=>(ad.a_ HG.e hV).ceiling HG.e d_ [98] (some ([99],[121])) d_;have a7:=fun {V:World} (hV:D_ w4 V)=>CT (ad.a_ HG.e hV).map [97,98,99,100] [120] (ab d_);have a6:=fun {V:World} (hV:D_ w4 V)=>(ad.a_ HG.e hV).absent_there HG.e d_ [97] [122] d_ d_ (v:=[120]) d_;have HH:=kq6 (@a0) (@a1) (@ar) (@a7) (@a6) ad.bl;clear ad bc a0 a1 ar a7 a6;go_wp2_with fail;refine e9 (HH.a (aa _ _)) fun w5 hb5=>?_;have A5:=hb5.T ((c_ w5 (Xk [97] [120])).M hb5.size);have q5:=heap_alloc_new w5 (Xk [97] [120]);have H5:=kq2 A5 q5;clear A5 q5 hb5;simp only[eu,Option.getD_some,Option.isSome_some,if_true];go_wp2_with fail;refine e9 (HH.c H5.a) fun w6 hb6=>?_;have q6:=(hb6.block w5.1.size s_).T H5.b;have A6:=c_ w6 (Xk [99] [121]);have p6:=(A6.block _ (gl q6)).T q6;have r6:=heap_alloc_new w6 (Xk [99] [121]);have B6:=(b_ H5.a hb6);have H6:=kq3 (b_ B6 A6) p6 r6;clear q6 A6 p6 r6 B6 hb6;simp only[eu,Option.getD_some,Option.isSome_some,if_true];go_wp2_with fail;refine e9 (HH.b H6.a) fun w7 hb7=>?_;have q7:=(hb7.block w5.1.size (gl H6.b)).T H6.b;have p7:=(hb7.block w6.1.size (gl H6.c)).T H6.c;have B7:=b_ H6.a hb7;have A7:=c_ w7 (.cells #[.string ⟨#[]⟩,.string ⟨#[]⟩] 40);have q8:=(A7.block _ (gl q7)).T q7;have p8:=(A7.block _ (gl p7)).T p7;have H7:=kq3 (b_ B7 A7) q8 p8;clear hb7 q7 p7 B7 A7 q8 p8;simp only[eu,Option.getD_none,Option.isSome_none,du,if_false];go_wp2_with fail;refine Jc (HH.d H7.a) ?_;obtain⟨W8,ai⟩:=Ii (w7.alloc (.cells #[.string ⟨#[]⟩,.string ⟨#[]⟩] 40));have q8:=H7.b;have p8:=H7.c;rw[ai] at q8 p8;obtain⟨c0,c1⟩:=Fp p8;obtain⟨d0,d1⟩:=Fp q8;clear q8 p8;have ea:=AO;have ec:=AP;rw[ai];have H8:=If (ai▸H7.a);clear ai;go_wp2_with fail;refine e9 (HH.e H8.O) fun w9 hb9=>?_;have H9:=If (b_ H8.O hb9);clear hb9;go_wp2_with fail;go_ret;exact⟨rfl,b_ HH.f H9.O⟩
def im(l:List (List UInt8×List UInt8)):List (List UInt8×List UInt8):=l.foldl (fun L p=>gV L p.1 p.2) []
theorem DF(l:List (List UInt8×List UInt8))(p:List UInt8×List UInt8):im (l++[p])=gV (im l) p.1 p.2:=by
 unfold im;rw[List.foldl_append];rfl
theorem xQ(p q:List UInt8×List UInt8->Bool)(h:∀x,¬(p x=true/\q x=true)):∀L:List (List UInt8×List UInt8),(L.filter p).length+(L.filter q).length<=L.length
 | []=>Nat.le_refl _
 | x::L=>by
  have ih:=xQ p q h L;have hx:=h x;rw[List.filter_cons,List.filter_cons,ah];split<;>split<;>(try simp only[ah])<;>first | omega | (exfalso;exact hx ⟨by assumption,by assumption⟩)
theorem DG(L:List (List UInt8×List UInt8))(a b:List UInt8):(gV L a b).length<=L.length+1:=by
 unfold gV;rw[ag,ah];have:=xQ (fun p=>decide (Fu p.1 a<0)) (fun p=>decide (0<Fu p.1 a)) (fun x ⟨h1,h2⟩=>by simp at h1 h2;omega) L;omega
theorem wo:∀(l L:List (List UInt8×List UInt8)),(l.foldl (fun L p=>gV L p.1 p.2) L).length<=L.length+l.length
 | [],_=>Nat.le_refl _
 | p::l,L=>by
  have h1:=wo l (gV L p.1 p.2);have h2:=DG L p.1 p.2;rw[List.foldl_cons,ah];omega
theorem wt(l:List (List UInt8×List UInt8)):(im l).length<=l.length:=by
 have h:=wo l [];rwa[aK,bD] at h
theorem xB {α:Type}{l:List α}{i:Nat}(h:i<l.length):l.take (i+1)=l.take i++[l[i]]:=by
 rw[List.take_add_one,af h];rfl
def FO(h_ t:Int):Bool:=decide (h_=1\/h_=2\/h_=3/\2<=t/\t<=16)
theorem qDeaa{P:Prop}(h:P:=by
 go_enter func9,ntmps9;go_wp2_with fail;go_ret;exact⟨rfl,rfl⟩):P:=h
theorem Gd(h_ t:Int)(w:World):
 Ct 9 #[Xi h_,Xi t] w fun e w'=>e=.returned (.bool (FO h_ t))/\w=w':=by
 by_cases h1:h_=1
 ·rw[show FO h_ t=true from decide_eq_true (ab h1)];subst h1;exact qDeaa
 by_cases h2:h_=2
 ·rw[show FO h_ t=true from decide_eq_true (ae (ab h2))];subst h2;exact qDeaa
 by_cases h3:h_=3
 ·subst h3
  by_cases h4:2<=t
  ·by_cases h5:t<=16
   ·rw[show FO 3 t=true from decide_eq_true (ae (ae ⟨rfl,h4,h5⟩))];exact qDeaa
   ·rw[show FO 3 t=false from decide_eq_false o_];exact qDeaa
  ·rw[show FO 3 t=false from decide_eq_false o_];exact qDeaa
 ·rw[show FO h_ t=false from decide_eq_false o_];have e1:(h_==1)=false:=by simpa using h1
  have e2:(h_==2)=false:=by simpa using h2
  have e3:(h_==3)=false:=by simpa using h3
  exact qDeaa
def pK(l:List (List UInt8×List UInt8)):Prop:=∀p∈l,p.1.length<=1000/\p.2.length<=1000
theorem Cp {P:List (List UInt8×List UInt8)->Prop}{K:jo}{h_ t:Int}(hk:j5 h_ t K P){w:World}(ht:gA w){v:Value}{l:List (List UInt8×List UInt8)}(hv:PRow w v l)(hn:l.length<=60)(hl:pK l)(hP:∀i,i<l.length->P (im (l.take i))):
 Ct 21 #[Xi h_,Xi t,v] w fun e w'=>∃(ps pm px f9:Nat) (S:St) (Y:Nat->Prop),e=.returned (.tuple #[PV ps,PV pm,.bool true])/\fi K w w' ps pm px 1000 f9 S Y (im l)/\fc S (20*(200-l.length)) (9*(200-l.length)):=by
 obtain⟨A,c,rfl,hc⟩:=hv;have bc:=xp ht 262144 4000 4294967295 o_ o_ o_;have a6:=ux 262144 4000 4294967295 o_ o_ o_;have bd:fc ⟨⟨262144,[]⟩,⟨4000,4294967295,[]⟩⟩ (20*200) (9*200):=⟨d_,d_⟩;have HG:=kq5 bc a6 bd hk hl;have HC:=If hc;have a3:=If hk.ok;have bf:=If hP;obtain⟨n,a1⟩:=Ii l.length;have HN:=If a1;rw[a1] at hn⊢;clear bc a6 bd hk ht hc hl a1 hP;go_enter func21,ntmps21;go_wp2_with fail;refine HG.a.M ?_;rintro e w1 ⟨ps,rfl,bb,a5⟩;have a8:=vK HG.d bb HG.b a5 (fun k hk=>hk) 1000 o_;have H1:=If a8;clear bb a5 a8;go_wp2_with fail;refine H1.O.M ?_;rintro e w2 ⟨pm,px,Y,rfl,hm,_,bk⟩;have H2:=If hm;clear hm bk;go_wp2_with fail
 go_loopw [13,14,15,16] (fun s13 _ _ _ wr=>∃i:Nat,s13=Xi i/\i<=n/\Hid (∃f9 S,fi K w wr ps pm px 1000 f9 S Y (im (l.take i))/\fc S (20*(200-i)) (9*(200-i)))) (fun s13 _ _ _ _=>n-(intOf s13).toNat)
 case atStart=>exact⟨0,rfl,o_,0,_,H2.O,HG.c⟩
 case round=>
  obtain⟨i,rfl,bq,I0⟩:=hrel
  by_cases hi:i<n
  ·have bm:(i:Int)<n:=o_
   have an:i<l.length:=by rw[HN.O];exact hi
   obtain⟨f9,S,hM,hS⟩:=I0.O;obtain⟨g,o,rfl,c0,c1⟩:=HC.O i an;have ar:=hM.bl;have d0:=(ar.cell (p:=⟨g,o+i*2,none⟩) (cell_lt c0)).T c0;have d1:=(ar.cell (p:=⟨g,o+i*2+1,none⟩) (cell_lt c1)).T c1;obtain⟨pk,ap⟩:=Ii l[i];rw[ap] at c0 c1 d0 d1;obtain⟨a,b⟩:=pk;have a2:=HG.e (a,b) (by rw[<-ap];exact aw an);obtain⟨I,au,a0⟩:=lB (fun w'=>w'.cell? ⟨g,o+i*2,none⟩=some (SV a)) (fun w'=>w'.cell? ⟨g,o+i*2+1,none⟩=some (SV b));have o0:=fun x:Fq I=>(au _ x.ok).1;have o1:=fun x:Fq I=>(au _ x.ok).2;have bj:I wr.drew:=a0 _ d0 d1;have a7:=wt (l.take i);rw[aF] at a7;have hp:=(hM.a_ a3.O (aa _ _).drew).put (p:=20*(200-(i+1))) (q:=9*(200-(i+1))) a3.O (hS.M o_ o_) a b a2.1 a2.2 o_ o_ (bf.O i an);have a9:gV (im (l.take i)) a b=im (l.take (i+1)):=by rw[xB an,DF,ap]
   rw[a9] at hp;obtain⟨r1,a'⟩:=Ii ((Bt.getL (im (l.take i)) a).getD []);obtain⟨r2,ba⟩:=Ii (Bt.getL (im (l.take i)) a).isSome;rw[a',ba] at hp;have HP:=kq5 hp a0 c0 c1 ar;clear au a0 hM hS c0 c1 d0 d1 ap a2 a7 hp a9 a' ba ar;go_wp2_with fail;refine fh I (.take 0 (.take 1 (.take 2 (.take 3 (.take 4 (.take 5 (.take 6 (.take 7 (.take 8 (.take 9 (.take 10 (.go 11 (.take 12 (.take 13 (.take 14 (.take 15 (.go 16 (.go 17 (.go 18 .nil))))))))))))))))))) k_ k_ bj ?_
   iterate 11
    refine pT_ ?_
    try simp only[pu]
   refine pD fun K hK=>?_;go_simp;refine HP.a.M ?_;rintro e w3 ⟨rfl,bo,S3,ai,a4⟩;have ad:I w3:=HP.b _ ((ai.bl.cell (p:=⟨g,o+i*2,none⟩) (cell_lt HP.c)).T HP.c) ((ai.bl.cell (p:=⟨g,o+i*2+1,none⟩) (cell_lt HP.d)).T HP.d);have H3:=kq2 ai a4;clear ai a4
   try go_simp
   refine hK.O _ _ ad ?_;clear hK K
   try simp only[pu]
   iterate 4
    refine pT_ ?_
    try simp only[pu]
   refine pD fun K hK=>?_;go_simp
   try go_simp
   refine hK.O _ _ ad ?_;clear hK K
   try simp only[pu]
   refine pD fun K hK=>?_;go_simp
   try go_simp
   refine hK.O _ _ ad ?_;clear hK K
   try simp only[pu]
   refine pD fun K hK=>?_;go_simp
   try go_simp
   refine hK.O _ _ ad ?_;clear hK K
   try simp only[pu]
   refine eP ?_;go_wp2_with fail;go_roundw
   case rel=>exact⟨i+1,s_,o_,bo,S3,H3.O⟩
   case measure=>simp[intOf];omega
  ·obtain rfl:i=n:=o_
   have bm:¬(i:Int)<i:=o_
   obtain⟨f9,S,hM,hS⟩:=I0.O;rw[aJ (by rw[HN.O];exact Nat.le_refl _)] at hM;have HF:=kq2 hM hS;clear hM hS;go_wp2_with fail;go_ret3;exact⟨ps,pm,rfl,px,f9,S,⟨Y,HF.a⟩,HF.b⟩
theorem Mn {ps t d:Nat}{S:St}{o:Nat->Nat}{x:Bt (d+1)}(hx:Bt.Walk S o t x){w:World}{Y:Nat->Prop}(h:Ig w ps S Y)(hd:d<40)(hn:(Bt.j_ x).length<=S.words / (6*t)+1)(hl:(Bt.its x).length<=5000):
 Ct 74 #[PV ps,Xi t,Xu (Bt.hd x)] w fun e w'=>∃v,e=.returned v/\qj w' w.1.size v (Bt.its x)/\D_ w w':=by
 have ap:=kZ h hx.fit.inv hx.t1 hx.t2;have B0:=c_ w (Xc ps t);have q0:=heap_alloc_new w (Xc ps t);have ad:=Kj (h.a_ B0) hx.t1 hx.t2;obtain⟨W0,an⟩:=Ii (w.alloc (Xc ps t));rw[an] at B0 q0 ad;obtain⟨N,hN⟩:=Ii (S.words / (6*t)+1);rw[hN] at ad hn;have ar:N<=100000:=by
  have:=nB h;have:S.words / (6*t)<=S.words / 12:=Nat.div_le_div_left (by have:=hx.t1;omega) o_;omega
 have ai:=fun(w1:World) (v:Value) (bl:Nat) (hL:ta w bl w1 v [] N)=>MA (d+1) x hx (dp:=0) h hL o_ hn ar (by simpa using hl);unfold FH at ad ai;obtain⟨x0,x1⟩:=Fp q0;have HG:=kq5 ap ad ai B0 q0;clear ap ad ai B0 q0 h hN hn hl hx;go_enter func74,ntmps74;go_wp2_with fail;refine Jc HG.a ?_;go_wp2_with fail;refine e9 HG.b fun w1 hb1=>?_;have q1:=(hb1.block w.1.size (gl HG.e)).T HG.e;have B1:=b_ HG.d hb1;have A2:=c_ w1 (Xj N);have q2:=(A2.block w.1.size (gl q1)).T q1;have B2:=b_ B1 A2;have b2:=heap_alloc_new w1 (Xj N);clear an x0 x1;obtain⟨W1,au⟩:=Ii (w1.alloc (Xj N));rw[au] at q2 B2 b2;obtain⟨x0,x1⟩:=Fp q2;have H2:=If (show ta w w1.1.size W1 n_ [] N from⟨B2,World.ownsRow_nil _ _ _ _,b2,B1.size⟩);clear hb1 q1 B1 A2 q2 B2 b2;go_wp2_with fail;refine(HG.c W1 _ _ H2.O).M ?_;rintro e w3 ⟨v3,rfl,h3,k3⟩;have H3:=kq2 h3.own h3.bel;clear h3 k3;go_wp2_with fail;go_ret;exact⟨_,rfl,H3.O⟩