/- The backend of B-trees: its methods: the walks. -/
import Derived.Test.YtpljannolpapgaaGreatDoorVBu
import Derived.Test.YtpljannolpapgaaGreatDoorVFo
set_option maxRecDepth 100000
set_option maxHeartbeats 6400000
namespace Go.Proofs.YtpljannolpapgaaGreatDoor
section
open Go.RowKit Tryz Go.BigFrame Go.Maps Go.WideMaps Lf Tr
variable{w:World}
def jx(ps t:Nat):Value:=.agg #[PV ps,Xi t]
theorem C8(f:Nat)(v:Value)(w:World):(method (f+1) 164 v "loft/backend.size").run prog w=.ok (321,v) w:=by kernel_rfl
theorem AN(args:Array Value)(w:World):(callFunc 321 args).run prog w=.ok (.enter 321 args) w:=by kernel_rfl
theorem C7(f:Nat)(v:Value)(w:World):(method (f+1) 164 v "loft/backend.rank").run prog w=.ok (319,v) w:=by kernel_rfl
theorem AM(args:Array Value)(w:World):(callFunc 319 args).run prog w=.ok (.enter 319 args) w:=by kernel_rfl
theorem vN(f:Nat)(v:Value)(w:World):(method (f+1) 164 v "loft/backend.at").run prog w=.ok (316,v) w:=by kernel_rfl
theorem ul(args:Array Value)(w:World):(callFunc 316 args).run prog w=.ok (.enter 316 args) w:=by kernel_rfl
theorem vO(f:Nat)(v:Value)(w:World):(method (f+1) 164 v "loft/backend.find").run prog w=.ok (317,v) w:=by kernel_rfl
theorem um(args:Array Value)(w:World):(callFunc 317 args).run prog w=.ok (.enter 317 args) w:=by kernel_rfl
theorem rH(f:Nat)(v:Value)(w:World):(method (f+1) 164 v "loft/backend.insert").run prog w=.ok (318,v) w:=by kernel_rfl
theorem qu(args:Array Value)(w:World):(callFunc 318 args).run prog w=.ok (.enter 318 args) w:=by kernel_rfl
theorem CB{ps t hh z:Nat}(hs:∀W,Below w.heap.size w W->Cb 324 #[PV ps,Xi t,Xu hh] W (Xi z)):
 Cb 321 #[jx ps t,Xu hh] w (Xi z):=by
 have B0:=(ab w.heap.size w).alloc Ih (.cells #[PV ps,Xi t] 164);have hs:=hs _ B0;have HG:=kq2 hs B0;clear hs B0;simp only[jx];go_enter func321,ntmps321;go_wp2_with fail;refine wx HG.a fun w1 hb1=>?_;have H1:=If (HG.b.trans (hb1.mono HG.b.size));clear hb1;go_wp2_with fail;go_ret;exact⟨rfl,H1.out⟩
theorem Cz{ps t hh z:Nat}(k:List UInt8)(hs:∀W,Below w.heap.size w W->Cb 323 #[PV ps,Xi t,Xu hh,SV k] W (Xi z)):
 Cb 319 #[jx ps t,Xu hh,SV k] w (Xi z):=by
 have B0:=(ab w.heap.size w).alloc Ih (.cells #[PV ps,Xi t] 164);have hs:=hs _ B0;have HG:=kq2 hs B0;clear hs B0;simp only[jx];go_enter func319,ntmps319;go_wp2_with fail;refine wx HG.a fun w1 hb1=>?_;have H1:=If (HG.b.trans (hb1.mono HG.b.size));clear hb1;go_wp2_with fail;go_ret;exact⟨rfl,H1.out⟩
theorem vD{ps t hh:Nat}(k:List UInt8)(k0 k1:Nat)(z:Bool)(hs:∀W,Below w.heap.size w W->Cb 178 #[PV ps,Xi t,Xu hh,SV k] W (.tuple #[Id k0 k1,.bool z])):
 Cb 317 #[jx ps t,Xu hh,SV k] w (.tuple #[Id k0 k1,.bool z]):=by
 have B1:=(ab w.heap.size w).alloc Ih (.cells #[PV ps,Xi t] 164);have B0:=B1.alloc B1.size (.cells #[Xu 0,Xu 0] 104);have z1:=heap_alloc_new (w.alloc (.cells #[PV ps,Xi t] 164)) (.cells #[Xu 0,Xu 0] 104);simp only[World.size_alloc] at z1;have ha:=hs _ B0;simp only[Id,jx] at ha⊢;have HG:=kq3 ha B0 z1;clear ha B0 B1 hs z1;go_enter func317,ntmps317;go_wp2_with fail;refine wx HG.a fun w2 hb2=>?_;have z2:=(hb2.block (w.heap.size+1) (by simp)).trans HG.c;obtain⟨d0,d1⟩:=Fp z2;obtain⟨f0,f1⟩:=ef z2;have HW:=kq2 (HG.b.trans (hb2.mono HG.b.size)) z2;clear hb2 z2;go_wp2_with fail;have q3:=ew HW.b (Xu k0) (Xu k1);have B3:=eT HW.a (bG w.heap.size) (Xu k0) (Xu k1);generalize ((w2.setCell ⟨(w.heap.size+1),0,none⟩ (Xu k0)).setCell ⟨(w.heap.size+1),1,none⟩ (Xu k1))=W3 at*;obtain⟨e0,e1⟩:=Fp q3;exact bodyPost_ret (v:=.tuple #[.agg #[Xu k0,Xu k1],.bool z]) (by simp[results,f317,go_sem,e0,e1]) rfl ⟨rfl,B3⟩
theorem yZ{ps t hh:Nat}(k:Int)(k0 k1:Nat)(z:Nat)(hs:∀W,Below w.heap.size w W->Cb 322 #[PV ps,Xi t,Xu hh,Xi k] W (.tuple #[Id k0 k1,Xi z])):
 Cb 316 #[jx ps t,Xu hh,Xi k] w (.tuple #[Id k0 k1,Xi z]):=by
 have B1:=(ab w.heap.size w).alloc Ih (.cells #[PV ps,Xi t] 164);have B0:=B1.alloc B1.size (.cells #[Xu 0,Xu 0] 104);have z1:=heap_alloc_new (w.alloc (.cells #[PV ps,Xi t] 164)) (.cells #[Xu 0,Xu 0] 104);simp only[World.size_alloc] at z1;have ha:=hs _ B0;simp only[Id,jx] at ha⊢;have HG:=kq3 ha B0 z1;clear ha B0 B1 hs z1;go_enter func316,ntmps316;go_wp2_with fail;refine wx HG.a fun w2 hb2=>?_;have z2:=(hb2.block (w.heap.size+1) (by simp)).trans HG.c;obtain⟨d0,d1⟩:=Fp z2;obtain⟨f0,f1⟩:=ef z2;have HW:=kq2 (HG.b.trans (hb2.mono HG.b.size)) z2;clear hb2 z2;go_wp2_with fail;have q3:=ew HW.b (Xu k0) (Xu k1);have B3:=eT HW.a (bG w.heap.size) (Xu k0) (Xu k1);generalize ((w2.setCell ⟨(w.heap.size+1),0,none⟩ (Xu k0)).setCell ⟨(w.heap.size+1),1,none⟩ (Xu k1))=W3 at*;obtain⟨e0,e1⟩:=Fp q3;exact bodyPost_ret (v:=.tuple #[.agg #[Xu k0,Xu k1],Xi z]) (by simp[results,f316,go_sem,e0,e1]) rfl ⟨rfl,B3⟩
theorem rA{ps t hh p q:Nat}{S:St}{Y:Nat->Prop}(h:Ig w ps S Y)(was:Bool){R:Nat->Nat->Nat->St->Prop}(hs:∀W Z,Ig W ps S Z->Ct 137 #[PV ps,Xi t,Xu hh,Id p q] W fun e w'=>∃(x ik iv:Nat) (S':St),e=.returned (.tuple #[Xu x,Id ik iv,.bool was,Xi 0])/\Ig w' ps S' Z/\Fo Z W w'/\R x ik iv S'):
 Ct 318 #[jx ps t,Xu hh,Id p q] w fun e w'=>∃(x ik iv:Nat) (S':St),e=.returned (.tuple #[Xu x,Id ik iv,.bool was,Xi 0])/\Ig w' ps S' Y/\Fo Y w w'/\R x ik iv S':=by
 simp only[Id,jx] at hs⊢;have B1:=(ab w.heap.size w).alloc Ih (.cells #[PV ps,Xi t] 164);have B2:=B1.alloc B1.size (Xe p q);have B3:=B2.alloc B2.size (.cells #[Xu 0,Xu 0] 104);have y3:=heap_alloc_new ((w.alloc (.cells #[PV ps,Xi t] 164)).alloc (Xe p q)) (.cells #[Xu 0,Xu 0] 104);have z2:((w.alloc (.cells #[PV ps,Xi t] 164)).alloc (Xe p q)).heap.size=w.heap.size+2:=by simp
 have z3:(((w.alloc (.cells #[PV ps,Xi t] 164)).alloc (Xe p q)).alloc (.cells #[Xu 0,Xu 0] 104)).heap.size=w.heap.size+3:=by simp
 rw[z2] at y3;have hY:=h.yl;have hw:=hs _ _ (h.wide B3);rw[z3] at hw;have HG:=kq4 hw (Fo.of_below B3 hY) y3 hY;clear hw h y3 B1 B2 B3 hY hs z2 z3;go_enter func318,ntmps318;go_wp2_with fail;refine HG.a.mono ?_;rintro e w6 ⟨x,ik,iv,S',rfl,h6,k6,r6⟩;have y6:=(k6.block (w.heap.size+2) (ae ⟨by omega,by omega⟩)).trans HG.c;obtain⟨e0,e1⟩:=Fp y6;obtain⟨f0,f1⟩:=ef y6;have H6:=kq4 h6 (HG.b.trans (k6.mono fun k hk=>aa hk)) y6 r6;clear h6 k6 y6 r6;go_wp2_with fail;have q7:((w6.setCell ⟨(w.heap.size+2),0,none⟩ (Xu ik)).setCell ⟨(w.heap.size+2),1,none⟩ (Xu iv)).heap[w.heap.size+2]?=_:=ew H6.c (Xu ik) (Xu iv);have o7:∀k,k≠w.heap.size+2->((w6.setCell ⟨(w.heap.size+2),0,none⟩ (Xu ik)).setCell ⟨(w.heap.size+2),1,none⟩ (Xu iv)).heap[k]?=w6.heap[k]?:=fun k hk=>fA hk _ _;have s7:Ig ((w6.setCell ⟨(w.heap.size+2),0,none⟩ (Xu ik)).setCell ⟨(w.heap.size+2),1,none⟩ (Xu iv)) ps S' Y:=(H6.a.write (b:=w.heap.size+2) (ae ⟨by omega,by omega⟩) H6.c ⟨by decide,by decide⟩ (by simp) (by simp) fun k _ hk=>o7 k hk).mono fun k hk=>aa hk;have k7:Fo Y w ((w6.setCell ⟨(w.heap.size+2),0,none⟩ (Xu ik)).setCell ⟨(w.heap.size+2),1,none⟩ (Xu iv)):=H6.b.trans ⟨rfl,rfl,rfl,by simp,fun k hk=>o7 k (by have:=HG.d k hk;omega)⟩;clear e0 e1 f0 f1 o7;generalize ((w6.setCell ⟨(w.heap.size+2),0,none⟩ (Xu ik)).setCell ⟨(w.heap.size+2),1,none⟩ (Xu iv))=W7 at*;obtain⟨e0,e1⟩:=Fp q7;exact bodyPost_ret (v:=.tuple #[Xu x,.agg #[Xu ik,Xu iv],.bool was,Xi 0]) (by simp[results,f318,go_sem,e0,e1]) rfl ⟨x,ik,iv,S',rfl,s7,k7,H6.d⟩
end
section
open Lf Tr
namespace Bt
variable{d:Nat}{e:It}{key:List UInt8}
def eD(e d:It):It:=if d.k=e.k then e else d
theorem wI(e d:It):(eD e d).k=d.k:=by
 unfold eD
 split
 ·rename_i h;exact h.symm
 ·rfl
theorem mg{e d:It}(h:d.k≠e.k):eD e d=d:=if_neg h
def e9(f:It->It): {d:Nat} ->Bt d->Bt d
 | 0,x=>nomatch x
 | d+1,x=>(⟨Bn.h x,(Bn.es x).map f,(Bn.ks x).map fun k=>e9 f k⟩:Bn (Bt d))
theorem CI(f:It->It)(x:Bt (d+1)):e9 f x=(⟨Bn.h x,(Bn.es x).map f,(Bn.ks x).map (e9 f)⟩:Bn (Bt d)):=rfl
theorem ta(f:It->It):∀(es:List It) (ks:List (List It)),ei (es.map f) (ks.map (List.map f))=(ei es ks).map f
 | [],[]=>rfl
 | [],_::_=>rfl
 | e::es,[]=>by
  have:=ta f es [];simp only[aL,List.map_nil] at this⊢;rw[ei,ei,aL,this]
 | e::es,k::ks=>by
  have:=ta f es ks;simp only[aL];rw[ei,ei,aJ,aL,this]
theorem xW:∀(es:List It) (ks:List (List It)),(ks=[]\/ks.length=es.length+1)->(ei es ks).Perm (es++ks.flatten)
 | [],[],_=>List.Perm.refl _
 | [],[k],_=>by simp[ei]
 | [],_::_::_,h=>by simp at h
 | e::es,[],_=>by rw[jY];simp
 | e::es,k::ks,h=>by
  have ih:=xW es ks (ae (by simpa using h));rw[ei,cP];refine List.perm_middle.trans (List.Perm.cons e ((ih.append_left k).trans ?_));show (k++(es++ks.flatten)).Perm (es++(k++ks.flatten))
  rw[<-bK,<-bK];exact List.Perm.append_right _ List.perm_append_comm
theorem ln(f:It->It):∀{d:Nat} (x:Bt d),its (e9 f x)=(its x).map f
 | 0,x=>nomatch x
 | d+1,x=>by
  show ei ((Bn.es x).map f) (((Bn.ks x).map (e9 f)).map its)=(ei (Bn.es x) ((Bn.ks x).map its)).map f
  rw[<-ta,cI,cI];congr 1
  exact aP fun k _=>ln f k
theorem lW(f:It->It):∀{d:Nat} (x:Bt d),nodes (e9 f x)=nodes x
 | 0,x=>nomatch x
 | d+1,x=>by
  show Bn.h x::(((Bn.ks x).map (e9 f)).map nodes).flatten=Bn.h x::((Bn.ks x).map nodes).flatten
  rw[cI];congr 2
  exact aP fun k _=>lW f k
theorem mapB_hd(f:It->It):∀{d:Nat} (x:Bt d),hd (e9 f x)=hd x
 | 0,x=>nomatch x
 | _+1,_=>rfl
theorem vE(f:It->It):∀{d:Nat} (x:Bt d),nk (e9 f x)=nk x
 | 0,x=>nomatch x
 | _+1,x=>by
  show ((Bn.es x).map f).length=(Bn.es x).length
  rw[ao]
theorem vF(f:It->It){t:Nat}:∀{d:Nat} {x:Bt d},Ok t x->Ok t (e9 f x)
 | 0,x,_=>nomatch x
 | d+1,x,h=>by
  obtain⟨h1,h2,h3⟩:=h;refine⟨?_,?_,?_⟩
  ·show ((Bn.es x).map f).length<=_
   rw[ao];exact h1
  ·show ((Bn.ks x).map (e9 f)).length=if d=0 then 0 else((Bn.es x).map f).length+1
   rw[ao,ao];exact h2
  ·intro k hk;have hk:k∈(Bn.ks x).map (e9 f):=hk;obtain⟨c,hc,rfl⟩:=aA.1 hk;exact⟨vF f (h3 c hc).1,by rw[vE];exact(h3 c hc).2⟩
theorem rC {f:It->It}{t:Nat}:∀{d:Nat} {x:Bt d},Ok t x->(∀a∈its x,f a=a)->e9 f x=x
 | 0,x,_,_=>nomatch x
 | d+1,x,h,hf=>by
  have e1:(Bn.es x).map f=Bn.es x:=(aP fun a ha=>(hf a (lN h.okN ha):f a=id a)).trans (dK _);have e2:(Bn.ks x).map (e9 f)=Bn.ks x:=(aP fun k hk=>(rC (h.2.2 k hk).1 fun a ha=>hf a (kid_its h.okN hk ha):e9 f k=id k)).trans (dK _);rw[CI,e1,e2];rfl
theorem og{α:Type}{R:α->α->Prop}{L:List (List α)}(h:L.flatten.Pairwise R){i j:Nat}(hi:i<L.length)(hj:j<L.length)(hij:i<j):∀x∈L[i],∀y∈L[j],R x y:=by
 have:=(List.pairwise_flatten.1 h).2;rw[bJ] at this;exact this i j hi hj hij
def nodeB(key:List UInt8): {d:Nat} ->Bt d->Option (Nat×BN×Nat)
 | 0,x=>nomatch x
 | _+1,x=>if fo key (Bn.es x)=true then some (Bn.h x,bn x,Fr key (Bn.es x)) else match (Bn.ks x)[Fr key (Bn.es x)]? with | some k=>nodeB key k | none=>none
theorem nodeB_here{x:Bt (d+1)}(h:fo key (Bn.es x)=true):nodeB key x=some (hd x,bn x,Fr key (Bn.es x)):=if_pos h
theorem nodeB_down{x:Bt (d+1)}(h:fo key (Bn.es x)=false){k:Bt d}(hk:(Bn.ks x)[Fr key (Bn.es x)]?=some k):nodeB key x=nodeB key k:=by
 show (if fo key (Bn.es x)=true then some (Bn.h x,bn x,Fr key (Bn.es x)) else match (Bn.ks x)[Fr key (Bn.es x)]? with | some k=>nodeB key k | none=>none)=_
 rw[if_neg (by rw[h];decide),hk]
theorem nodeB_none{x:Bt (d+1)}(h:fo key (Bn.es x)=false)(hk:(Bn.ks x)[Fr key (Bn.es x)]?=none):nodeB key x=none:=by
 show (if fo key (Bn.es x)=true then some (Bn.h x,bn x,Fr key (Bn.es x)) else match (Bn.ks x)[Fr key (Bn.es x)]? with | some k=>nodeB key k | none=>none)=_
 rw[if_neg (by rw[h];decide),hk]
def setN(n:BN)(k:Nat)(e:It):BN:= { n with keys:=n.keys.set k e.kh,vals:=n.vals.set k e.vh }
theorem Ca{a b:It}(h:eU a b):a.k≠b.k:=ne_of_lt h
theorem vd{t d:Nat}{x:Bt (d+1)}(ok:Ok t x)(hs:(its x).Pairwise eU):(Bn.es x++((Bn.ks x).map its).flatten).Pairwise fun a b=>a.k≠b.k:=by
 have h1:(its x).Pairwise fun a b=>a.k≠b.k:=hs.imp Ca;refine(List.Perm.pairwise_iff (fun h=>Ne.symm h) (xW _ _ ?_)).1 (by rw[<-el];exact h1)
 rcases ok.okN.rows with⟨h0,_⟩ | ⟨h0,_⟩
 ·exact aa h0
 ·exact ae h0
theorem D8{es:List It}(hs:es.Pairwise fun a b=>a.k≠b.k){k:Nat}(hk:k<es.length)(he:es[k].k=e.k):es.map (eD e)=es.set k e:=by
 refine dy (by simp) fun i h1 h2=>?_;rw[ao] at h1;rw[bz,List.getElem_set]
 by_cases q:k=i
 ·subst q;rw[if_pos rfl];exact if_pos he
 ·rw[if_neg q];rw[bJ] at hs;refine mg fun q1=>?_
  rcases bW i k with h3 | h3
  ·exact hs i k h1 hk h3 (q1.trans he.symm)
  ·exact hs k i hk h1 (by omega) (he.trans q1.symm)
theorem CY{t d:Nat}{l:List (Bt d)}(ok:∀k∈l,Ok t k)(h:∀a∈(l.map its).flatten,a.k≠e.k):l.map (e9 (eD e))=l:=
 (aP fun k hk=>(rC (ok k hk) fun a ha=>mg (h a (cH.2 ⟨its k,aA.2 ⟨k,hk,rfl⟩,ha⟩)):e9 (eD e) k=id k)).trans (dK _)
structure RepAt (S:St) (o:Nat->Nat) (t:Nat) {d:Nat} (x:Bt d) (e e0:It) (g:Nat) (n:BN) (k:Nat):Prop where
 find:findB e.k (its x)=some e0
 key:n.keys[k]?=some e0.kh
 val:n.vals[k]?=some e0.vh
 mem:g∈nodes x
 bnok:iU t (setN n k e)
 words:∀v∈bnWords t (setN n k e),v<2^64
 len:reco S g=some (bnWords t n)
 fit:Fw (FC S g 0 (bnWords t (setN n k e))) o
 at':At (FC S g 0 (bnWords t (setN n k e))) t (e9 (eD e) x)
 fr:∀z,z≠g->reco (FC S g 0 (bnWords t (setN n k e))) z=reco S z
 grew:ej S (FC S g 0 (bnWords t (setN n k e))) 0 0
theorem D7{S:St}{o:Nat->Nat}{t d:Nat}{x:Bt (d+1)}(he:e.kh<2^64/\e.vh<2^64)(hx:Walk S o t x)(hn:(nodes x).Nodup)(hb:ItLt (its x))(h:fo e.k (Bn.es x)=true):
 ∃e0,RepAt S o t x e e0 (hd x) (bn x) (Fr e.k (Bn.es x)):=by
 obtain⟨hk,ai⟩:=mO h;have ka:=vd hx.ok hx.sorted;obtain⟨k1,k2,k3⟩:=bA.1 ka;have a2:=D8 k1 hk ai;have a0:(Bn.ks x).map (e9 (eD e))=Bn.ks x:=CY (fun k hk=>(hx.ok.2.2 k hk).1) fun a ha q=>k3 _ (aF hk) a ha (ai.trans q.symm);have a1:(its (e9 (eD e) x)).length=(its x).length:=by rw[ln,ao]
 have ar:bn (e9 (eD e) x)=setN (bn x) (Fr e.k (Bn.es x)) e:=by
  have e1:Bn.es (e9 (eD e) x)=(Bn.es x).set (Fr e.k (Bn.es x)) e:=a2;have e2:Bn.ks (e9 (eD e) x)=Bn.ks x:=a0;unfold bn setN;rw[e1,e2,a1,dO,dO]
 have a5:∀a∈Bn.es (e9 (eD e) x),a.kh<2^64/\a.vh<2^64:=fun a ha=>by
  have e1:Bn.es (e9 (eD e) x)=(Bn.es x).set (Fr e.k (Bn.es x)) e:=a2;rw[e1] at ha
  rcases cG ha with q | rfl
  ·exact hb a (lN hx.ok.okN q)
  ·exact he
 have au:∀k∈Bn.ks (e9 (eD e) x),At S t k:=fun k hk=>by
  have e2:Bn.ks (e9 (eD e) x)=Bn.ks x:=a0;rw[e2] at hk;exact hx.at'.2 k hk
 have an:=bnLt_of (x:=e9 (eD e) x) hx.fit a5 au (by rw[a1];have:=hx.few;omega);have a6:∀k∈Bn.ks (e9 (eD e) x),hd (e9 (eD e) x)∉nodes k:=hd_kids (by rw[lW];exact hn);have a8:(Bn.es (e9 (eD e) x)).length<=31:=by
  show ((Bn.es x).map (eD e)).length<=31
  rw[ao];exact hx.es.2.2
 have a7:(bnWords t (bn x)).length=6*t:=jJ ..;have hp:=put_node (x:=e9 (eD e) x) hx.fit au a6 (ws:=bnWords t (bn x)) hx.at'.1 a7 an (by omega);have ad:=hx.at'.bnok hx.fit hx.t1 hx.t2 hx.ok;have a3:=kX (t:=t) an (by unfold bn;rw[ao];omega);rw[ar,mapB_hd] at hp;rw[ar] at a3;obtain⟨p1,p2,p3,p4⟩:=hp;have a4:findB e.k (its x)=some (Bn.es x)[Fr e.k (Bn.es x)]:=by
  have al:=hx.sorted;rw[el] at al⊢
  rcases hx.ok.okN.rows with⟨h0,_⟩ | ⟨h0,_⟩
  ·rw[h0,jY] at al⊢;exact xA al hk ai
  ·exact((l7 h0 al).here hk ai).1
 exact⟨(Bn.es x)[Fr e.k (Bn.es x)],a4,by unfold bn;simp[List.getElem?_eq_getElem hk],by unfold bn;simp[List.getElem?_eq_getElem hk],hd_mem x,⟨ad.lo,ad.hi,by unfold setN;rw[bE];exact ad.many,by unfold setN;rw[bE,bE];exact ad.vals,by unfold setN;rw[bE];exact ad.kids⟩,a3,hx.at'.1,p1,p2,p3,p4⟩
theorem rep_at {S:St}{o:Nat->Nat}{t:Nat}{e:It}(he:e.kh<2^64/\e.vh<2^64){g:Nat}{n:BN}{k:Nat}:
 ∀{d:Nat} {x:Bt d},Walk S o t x->(nodes x).Nodup->ItLt (its x)->nodeB e.k x=some (g,n,k)->∃e0,RepAt S o t x e e0 g n k
 | 0,x,_,_,_,_=>nomatch x
 | d+1,x,hx,hn,hb,hnb=>by
  cases hh:fo e.k (Bn.es x) with
  | true=>
   rw[nodeB_here hh] at hnb;cases hnb
   exact D7 he hx hn hb hh
  | false=>
   cases hj:(Bn.ks x)[Fr e.k (Bn.es x)]? with
   | none=>
    rw[nodeB_none hh hj] at hnb;cases hnb
   | some c=>
    rw[nodeB_down hh hj] at hnb;obtain⟨an,ad⟩:=az.1 hj;have ai:c∈Bn.ks x:=by rw[<-ad];exact aF _
    have au:((Bn.ks x).map nodes).flatten.Nodup:=(aE.1 hn).2;have a':(nodes c).Nodup:=(List.pairwise_flatten.1 au).1 _ (aA.2 ⟨c,ai,rfl⟩);obtain⟨e0,r⟩:=rep_at he (hx.kid ai) a' (fun a ha=>hb a (kid_its hx.ok.okN ai ha)) hnb;have a8:g∈nodes x:=mem_nodes_kid ai r.mem;have a7:hd x≠g:=fun q=>hd_kids hn c ai (q▸r.mem);have ka:=vd hx.ok hx.sorted;obtain⟨k1,k2,k3⟩:=bA.1 ka;obtain⟨f1,f2⟩:e0∈its c/\e0.k=e.k:=by
     have:=r.find;unfold findB at this;exact⟨bI this,by simpa using cE this⟩
    have a6:(Bn.es x).map (eD e)=Bn.es x:=(aP fun a ha=>(mg fun q=>k3 a ha e0 (cH.2 ⟨its c,aA.2 ⟨c,ai,rfl⟩,f1⟩) (q.trans f2.symm):eD e a=id a)).trans (dK _);have a9:(its (e9 (eD e) x)).length=(its x).length:=by rw[ln,ao]
    have a5:bn (e9 (eD e) x)=bn x:=by
     have e1:Bn.es (e9 (eD e) x)=Bn.es x:=a6;have e2:(Bn.ks (e9 (eD e) x)).map hd=(Bn.ks x).map hd:=by
      show ((Bn.ks x).map (e9 (eD e))).map hd=_
      rw[cI];exact aP fun k _=>mapB_hd (eD e) k
     unfold bn;rw[e1,e2,a9]
    refine⟨e0,?_,r.key,r.val,a8,r.bnok,r.words,r.len,r.fit,⟨?_,fun k hk=>?_⟩,r.fr,r.grew⟩
    ·have a4:=hx.sorted;rw[el] at a4⊢;rcases hx.ok.okN.rows with⟨h0,_⟩ | ⟨h0,_⟩
     ·rw[List.map_eq_nil_iff] at h0;rw[h0] at hj;cases hj
     ·rw[(l7 h0 a4).down (mN hh)];have ba:Fr e.k (Bn.es x)<((Bn.ks x).map its).length:=by rw[ao];exact an
      have:((Bn.ks x).map its).getD (Fr e.k (Bn.es x)) []=its c:=by rw[jN an,ad]
      rw[this];exact r.find
    ·show reco _ (Bn.h x)=some (bnWords t (bn (e9 (eD e) x)))
     rw[a5];exact(r.fr _ a7).trans hx.at'.1
    ·have hk:k∈(Bn.ks x).map (e9 (eD e)):=hk;obtain⟨c',ar,rfl⟩:=aA.1 hk;obtain⟨i,hi,al⟩:=bT.1 ar;by_cases q:i=Fr e.k (Bn.es x)
     ·subst q;have:c'=c:=al.symm.trans ad;rw[this];exact r.at'
     ·have a0:i<((Bn.ks x).map its).length:=by rw[ao];exact hi
      have a2:Fr e.k (Bn.es x)<((Bn.ks x).map its).length:=by rw[ao];exact an
      have a1:i<((Bn.ks x).map nodes).length:=by rw[ao];exact hi
      have a3:Fr e.k (Bn.es x)<((Bn.ks x).map nodes).length:=by rw[ao];exact an
      have hz:∀a∈its c',a.k≠e.k:=fun a ha q1=>by
       rcases bW i (Fr e.k (Bn.es x)) with h3 | h3
       ·exact og k2 a0 a2 h3 a (by rw[bz,al];exact ha) e0 (by rw[bz,ad];exact f1) (q1.trans f2.symm)
       ·exact og k2 a2 a0 (by omega) e0 (by rw[bz,ad];exact f1) a (by rw[bz,al];exact ha) (f2.trans q1.symm)
      rw[rC (hx.ok.2.2 c' ar).1 fun a ha=>mg (hz a ha)];refine(hx.at'.2 c' ar).frame fun z hz1=>r.fr z fun q1=>?_;rcases bW i (Fr e.k (Bn.es x)) with h3 | h3
      ·exact og au a1 a3 h3 z (by rw[bz,al];exact hz1) g (by rw[bz,ad];exact r.mem) q1
      ·exact og au a3 a1 (by omega) g (by rw[bz,ad];exact r.mem) z (by rw[bz,al];exact hz1) q1.symm
theorem nodeB_some {S:St}{o:Nat->Nat}{t:Nat}{key:List UInt8}:∀{d:Nat} {x:Bt d},Walk S o t x->(findB key (its x)).isSome=true->∃r,nodeB key x=some r
 | 0,x,_,_=>nomatch x
 | d+1,x,hx,hf=>by
  cases hh:fo key (Bn.es x) with
  | true=>exact⟨_,nodeB_here hh⟩
  | false=>
   have ad:=hx.sorted;rw[el] at ad hf;rcases hx.ok.okN.rows with⟨h0,_⟩ | ⟨h0,_⟩
   ·rw[h0,jY] at ad hf;rw[findB_none (vl ad (mN hh))] at hf;cases hf
   ·rw[(l7 h0 ad).down (mN hh)] at hf;have al:=kH (key:=key) (Bn.es x);have ai:Fr key (Bn.es x)<(Bn.ks x).length:=by rw[ao] at h0;omega
    rw[jN ai] at hf;obtain⟨r,hr⟩:=nodeB_some (hx.kid (aF ai)) hf;exact⟨r,(nodeB_down hh (af ai)).trans hr⟩
end Bt
end
section
open Go.RowKit Tryz Go.BigFrame Go.Maps Go.WideMaps Lf Tr
variable{S:St}{Y:Nat->Prop}{l:List Nat}{ps:Nat}{w:World}
theorem Im{D b c k:Nat}(h:FE w D (.slice (some ⟨b,0,none⟩) l.length c) l)(x:Nat)(hk:k<l.length):
 FE (w.setCell ⟨b,k,none⟩ (Xu x)) D (.slice (some ⟨b,0,none⟩) l.length c) (l.set k x):=by
 rcases h.2 with⟨h0,_⟩ | ⟨g',al,ad,hv,hg,hb,h1,h2,h3,h4⟩
 ·cases h0
 ·injection hv with hv1 hv2 hv3
  injection hv1 with hv1
  injection hv1 with hv1
  subst hv1 hv3;refine⟨by simp[hV],ae ⟨b,c,ad.setIfInBounds k (Xu x),by rw[bE],hg,heap_setCell hb,by rw[bE];exact h1,h2,by simpa using h3,?_⟩⟩;have hl:(hV l).length=l.length:=by simp[hV]
  have ai:ad.toList=hV l++ad.toList.drop (l.length*1):=by rw[<-h4,aQ]
  rw[bE];simp only[cT];rw[ai,da _ _ (by omega),List.take_left' (by simp[hV])]
  simp[hV,List.map_set]
theorem qDeae{P:Prop}(h:P:=by
 rw[h3] at this
 injection this with this
 injection this with _ this
 exact absurd this (by decide)):P:=h
theorem wL{D b c k:Nat}(h:Ig w ps S Y)(ho:FE w D (.slice (some ⟨b,0,none⟩) l.length c) l)(hD:fy<D)(hy:Y b)(x:Nat):Ig (w.setCell ⟨b,k,none⟩ (Xu x)) ps S Y:=by
 obtain⟨h1,h2,cs,fr,h3⟩:=FE.block ho rfl;obtain⟨pa,pm,ph,pt,v,h⟩:=h;refine⟨pa,pm,ph,pt,v,h.of_keep (by rw[size_setCell];exact Nat.le_refl _) fun k hk hc=>FB ?_⟩;rintro rfl
 rcases hc with hc | rfl | rfl | rfl
 ·exact hc hy
 ·have:=h.hd;exact qDeae
 ·have:=h.heap.hp;exact qDeae
 ·exact absurd (aX hD h1) (Nat.lt_irrefl _)
theorem oJ{w w':World}{D:Nat}{v:Value}(h:FE w D v l)(hb:Below w.heap.size w w'):FE w' D v l:=FE.at h fun g hg=>hb.block g (FE.ge h g hg).2
theorem mY{D b c k v:Nat}(h:FE w D (.slice (some ⟨b,0,none⟩) l.length c) l)(hk:l[k]?=some v):w.cell? ⟨b,k,none⟩=some (Xu v)/\w.frozen? ⟨b,k,none⟩=false:=by
 obtain⟨ad,ai⟩:=az.1 hk;have h1:=World.ownsRow.cells h (g:=b) rfl k (Xu v) (by simp[hV,ai,ad]);rw[Addr.add_lit] at h1;obtain⟨_,_,cs,fr,h3⟩:=FE.block h rfl
 rcases h.2 with⟨h0,_⟩ | ⟨g',al,an,hv,hg,hb,_⟩
 ·cases h0
 ·injection hv with hv1 _ _
  injection hv1 with hv1
  injection hv1 with hv1
  subst hv1;exact⟨by simpa using h1,AT hb⟩
theorem zR{o:Nat->Nat}(h:Ig w ps S Y){t d:Nat}{x:Bt (d+1)}(hx:Bt.Walk S o t x)(hd:d<40){e e0:It}{g:Nat}{n0:BN}{k0:Nat}(hnd:Bt.nodeB e.k x=some (g,n0,k0))(hrep:Bt.RepAt S o t x e e0 g n0 k0):
 Ct 179 #[FH ps t,Xu (Bt.hd x:Nat),SV e.k,Id e.kh e.vh] w fun en w'=>en=.returned (Id e0.kh e0.vh)/\Ig w' ps (FC S g 0 (bnWords t (Bt.setN n0 k0 e))) Y/\Fo Y w w':=by
 have B0:=(((ab w.heap.size w).alloc Ih (Xc ps t)).alloc (by simp) (Xe e.kh e.vh)).alloc (by simp;omega) (.cells #[Xu 0,Xu 0] 104);have z1:(w.alloc (Xc ps t)).heap.size=w.heap.size+1:=by simp
 have z2:((w.alloc (Xc ps t)).alloc (Xe e.kh e.vh)).heap.size=w.heap.size+2:=by simp
 have q1:=heap_alloc_new w (Xc ps t);have q2:=heap_alloc_new (w.alloc (Xc ps t)) (Xe e.kh e.vh);have q3:=heap_alloc_new ((w.alloc (Xc ps t)).alloc (Xe e.kh e.vh)) (.cells #[Xu 0,Xu 0] 104);rw[z1] at q2;rw[z2] at q3;have c2:=(ab (w.heap.size+2) ((w.alloc (Xc ps t)).alloc (Xe e.kh e.vh))).alloc (by rw[z2];exact Nat.le_refl _) (.cells #[Xu 0,Xu 0] 104);have c1:=(ab (w.heap.size+1) (w.alloc (Xc ps t))).alloc (by rw[z1];exact Nat.le_refl _) (Xe e.kh e.vh);have q1:=(c2.block w.heap.size (by omega)).trans ((c1.block w.heap.size (by omega)).trans q1);have q2:=(c2.block (w.heap.size+1) (by omega)).trans q2;have hz:w.heap.size+3<=(((w.alloc (Xc ps t)).alloc (Xe e.kh e.vh)).alloc (.cells #[Xu 0,Xu 0] 104)).heap.size:=by simp
 have em:=ns h;generalize hW:((w.alloc (Xc ps t)).alloc (Xe e.kh e.vh)).alloc (.cells #[Xu 0,Xu 0] 104)=W0 at*;clear c1 c2 z1 z2;have hi:=hx.fit.inv;have a0:=fun W (hw:Below W0.heap.size W0 W) {n:BN} {hh:Nat} (hb:jg S t hh n)=>kI (h.below (B0.trans (hw.mono B0.size))) hi hb;have ee:=fun W (hw:Below W0.heap.size W0 W) {es:List It} {vk vv vc:Value} {sz:Nat} hk hl hs he=>nR (h.below (B0.trans (hw.mono B0.size))) hi t (es:=es) (vk:=vk) (vv:=vv) (vc:=vc) (sz:=sz) hk hl hs he e.k;have eg:=fun W (hw:Below W0.heap.size W0 W)=>h.wide (B0.trans (hw.mono B0.size));have d8:=fL hx.fit hrep.len;have ch:=jw hx.fit.tab hrep.len;rw[jJ] at ch;have a1:=fun(W:World) (Z:Nat->Prop) (hW:Ig W ps S Z) {vk vv vc:Value} (k1:FD W vk (Bt.setN n0 k0 e).keys) (k2:FD W vv (Bt.setN n0 k0 e).vals) (k3:FD W vc (Bt.setN n0 k0 e).kids)=>Jg hW hi hrep.bnok k1 k2 k3 g d8.2.1 ch hrep.words;have HG:=kq5 (kq7 B0 q1 q2 q3 hz em h.yl) @a0 @ee eg @a1;have HX:=kq3 hx hnd hrep;obtain⟨h0,b'⟩:=Ii (Bt.hd x);have HR:=If b';rw[b'];obtain⟨ek,b9⟩:=Ii e.k;have a5:=If b9;rw[b9];unfold FH Id;clear a0 ee h hx hi B0 q1 q2 q3 hz b' b9 hnd hrep a1 eg d8 ch em;go_enter func179,ntmps179;go_wp2_with fail;clear hW
 go_loopw [1,9,10,11,12,13,14] (fun s1 _ _ _ _ _ s14 wr=>∃(d' i hh:Nat),s1=Xu hh/\s14=Xi i/\i+d'<40/\Hid (Below W0.heap.size W0 wr/\∃y:Bt (d'+1),Bt.Walk S o t y/\Bt.hd y=hh/\Bt.nodeB e.k y=some (g,n0,k0))) (fun _ _ _ _ _ _ s14 _=>40-(intOf s14).toNat)
 case atStart=>exact⟨d,0,h0,rfl,rfl,by omega,ab _ _,x,HX.a,HR.out,HX.b⟩
 case round=>
  obtain⟨d',i,hh,rfl,rfl,g6,I⟩:=hrel;obtain⟨hB,y,hy,cb,ed⟩:=I.out;have hj:(i:Int)<40:=by omega
  have t3:=(hB.block w.heap.size (by have:=HG.a.e;omega)).trans HG.a.b;obtain⟨x0,x1⟩:=Fp t3;have a0:=HG.b wr hB hy.read;unfold FH eC at a0;rw[cb] at a0;have HY:=kq4 hB hy cb ed;clear hB hy cb ed t3;obtain⟨n,hn⟩:=Ii (Bt.bn y);rw[hn] at a0;have c':=If a0;clear a0;go_wp2_with fail;refine c'.out.mono ?_;rintro en w1 ⟨vk,vv,vc,rfl,rows,hb⟩;obtain⟨Ak,ck,rfl⟩:=rows.k.slice2;obtain⟨Av,cv,rfl⟩:=rows.v.slice2;obtain⟨Ac,cc,rfl⟩:=rows.c.slice2;have ai:n.keys.length=(Bn.es y).length:=by rw[<-hn];unfold Bt.bn;rw[ao]
  have al:n.vals.length=(Bn.es y).length:=by rw[<-hn];unfold Bt.bn;rw[ao]
  have bf:n.kids.length=(Bn.ks y).length:=by rw[<-hn];unfold Bt.bn;rw[ao]
  have hy:=HY.b;obtain⟨dp,ds,g5⟩:=hy.es;generalize cj:(Bn.es y).length=lk at*;generalize eb:(Bn.ks y).length=lc at*;rw[ai] at rows;rw[al] at rows;rw[bf] at rows;rw[ai,al,bf];generalize eh:n.size=sz at*;have A1:=(ab w1.heap.size w1).alloc Ih (.cells #[.slice Ak lk ck,.slice Av lk cv,.slice Ac lc cc,Xu sz] 215);have p1:=heap_alloc_new w1 (.cells #[.slice Ak lk ck,.slice Av lk cv,.slice Ac lc cc,Xu sz] 215);have B1:=HY.a.trans ((hb.trans (A1.mono hb.size)).mono HY.a.size);have bo:=rows.below A1;have cl:w1.heap.size<(w1.alloc (.cells #[.slice Ak lk ck,.slice Av lk cv,.slice Ac lc cc,Xu sz] 215)).heap.size:=by simp
  have d6:=hb.size;have ec:(∀g,(Value.slice Ak lk ck).ownBlock=some g->g<w1.heap.size)/\(∀g,(Value.slice Av lk cv).ownBlock=some g->g<w1.heap.size)/\∀g,(Value.slice Ac lc cc).ownBlock=some g->g<w1.heap.size:=⟨fun g q=>(rows.k.ge g q).2,fun g q=>(rows.v.ge g q).2,fun g q=>(rows.c.ge g q).2⟩;obtain⟨W1,d5⟩:=Ii (w1.alloc (.cells #[.slice Ak lk ck,.slice Av lk cv,.slice Ac lc cc,Xu sz] 215));rw[d5] at A1 p1 B1 bo cl;have t3:=(B1.block w.heap.size (by have:=HG.a.e;omega)).trans HG.a.b;obtain⟨x0,x1⟩:=Fp t3;obtain⟨y0,y1,y2,y3⟩:=Fy p1;have d9:n.keys=(Bn.es y).map (·.kh):=by rw[<-hn];rfl
  have cn:=bo.k.hrow;rw[d9] at cn;have bj:=HG.c W1 B1 (vv:=.slice Av lk cv) (vc:=.slice Ac lc cc) (sz:=sz) cn (by omega) dp ds;unfold FH eC at bj;rw[a5.out] at bj;have bs:=If bj;have ev:=HY.a.size;have H1:=kq8 B1 p1 bo t3 cl d6 ev ec;clear bj rows bo hb A1 p1 B1 t3 cn d9 c' cl d6 ev dp ds ec;obtain⟨k,hk⟩:=Ii (Fr ek (Bn.es y));obtain⟨he,ca⟩:=Ii (fo ek (Bn.es y));rw[hk,ca] at bs;have g8:k<=lk:=by rw[<-hk,<-cj];exact kH _
  have HK:=kq9 hk ca cj eb hn eh ai al bf;clear hk ca cj eb hn eh ai al bf hy;go_wp2_with fail;refine bs.out.mono ?_;rintro en w2 ⟨rfl,bd⟩;have p2:=(bd.block w1.heap.size H1.e).trans H1.b;have t2:=(bd.block w.heap.size (by have:=H1.a.size;have:=HG.a.e;omega)).trans H1.d;clear x0 x1 y0 y1 y2 y3;obtain⟨x0,x1⟩:=Fp t2;obtain⟨y0,y1,y2,y3⟩:=Fy p2;have a4:=If bd;clear bd p2 t2 bs d5
  cases he with
  | true=>
   have a6:=Bt.nodeB_here (key:=e.k) (x:=y) (by rw[a5.out];exact HK.b);rw[HY.d,HY.c,a5.out,HK.a,HK.e] at a6
   injection a6 with a6
   injection a6 with hg1 a6
   injection a6 with hn1 hk1
   subst hg1 hn1 hk1;have hrep:=HX.c;have cd:=hrep.key;have eo:=hrep.val;obtain⟨g0,_⟩:=az.1 cd;rw[HK.g] at g0;have g9:(k0:Int)<lk:=by omega
   have R2:=H1.c.below a4.out;have ai:=HK.g;have al:=HK.h;obtain⟨gk,g3,cp,_⟩:=FE.some R2.k (by rw[ai];omega);obtain⟨gv,g4,cr,_⟩:=FE.some R2.v (by rw[al];omega)
   injection cp with cp hv1b hv1c
   injection cr with cr hv2b hv2c
   clear hv1b hv1c hv2b hv2c;subst cp cr;have Rk:=R2.k;have Rv:=R2.v;rw[<-ai] at Rk;rw[<-al] at Rv;obtain⟨dk,fk⟩:=mY Rk cd;obtain⟨dv,fv⟩:=mY Rv eo;have ea:gk≠gv:=fun q=>R2.kv gk rfl (by rw[q];rfl);have gp:=R2.k.ge gk rfl;have g2:=R2.v.ge gv rfl;have p2:=(a4.out.block w1.heap.size H1.e).trans H1.b;have t2:=(a4.out.block w.heap.size (by have:=H1.a.size;have:=HG.a.e;omega)).trans H1.d;have B2:=H1.a.trans (a4.out.mono H1.a.size);have a2:=(B2.block (w.heap.size+1) (by have:=HG.a.e;omega)).trans HG.a.c;have r2:=(B2.block (w.heap.size+2) (by have:=HG.a.e;omega)).trans HG.a.d;have hr:=B2.size;have hq:=H1.g;have hf:=H1.h.1 gk rfl;have hm:=H1.h.2.1 gv rfl;have ha:=H1.h.2.2;have ht:=H1.f;have ho:=HG.a.e;have fm:=kq11 R2 ai al p2 t2 a2 r2 B2 Rk Rv hrep;have d1:w1.heap.size<w2.heap.size:=(gl p2);obtain⟨I,ar,au⟩:=ub w2 w2.heap.size;have e2:=fun x:Fq I=>(ar _ x.ok w1.heap.size d1 (by omega)).trans p2;obtain⟨m0,m1,m2,m3⟩:=iB e2;have o1:∀x:Fq I,x.to.cell? ⟨gk,k0,none⟩=some (Xu (e0.kh:Nat)):=fun x=>(j9 (ar _ x.ok gk gp.2 (by omega))).trans dk;have o2:∀x:Fq I,x.to.cell? ⟨gv,k0,none⟩=some (Xu (e0.vh:Nat)):=fun x=>(j9 (ar _ x.ok gv g2.2 (by omega))).trans dv;have gg:I w2.drew:=au _ fun k hk _=>rfl;have HI:=If au;clear ar au e2 R2 Rk Rv ai al p2 t2 a2 r2 B2 cd eo hrep dk fk dv fv x0 x1 y0 y1 y2 y3;go_wp2_with fail;refine fh I (.take 0 (.take 1 (.take 2 (.take 3 (.take 4 (.take 5 (.take 6 (.take 7 (.take 8 (.take 9 (.take 10 (.go 11 (.go 12 .nil))))))))))))) (by kernel_rfl) (by kernel_rfl) gg ?_
   iterate 11
    refine' pT ?_ ?_;rotate_left
    ·intro x;go_simp
     try rfl
    try simp only[pu]
   refine pD fun K hK=>?_;go_simp
   try go_simp
   refine hK.out _ _ (HI.out _ fun k hk _=>((ab w2.heap.size w2).alloc Ih _).drew.block k hk) ?_;clear hK K
   try simp only[pu]
   refine pD fun K hK=>?_;go_simp;have B8:Below w2.heap.size w2 (w2.alloc (Xe (e0.kh:Nat) (e0.vh:Nat))).drew:=((ab w2.heap.size w2).alloc Ih _).drew;have q8:(w2.alloc (Xe (e0.kh:Nat) (e0.vh:Nat))).drew.heap[w2.heap.size]?=_:=heap_alloc_new w2 (Xe (e0.kh:Nat) (e0.vh:Nat));have e':=If (gl q8);generalize (w2.alloc (Xe (e0.kh:Nat) (e0.vh:Nat))).drew=w8 at*
   try go_simp
   refine hK.out _ _ (HI.out _ fun k hk _=>B8.block k hk) ?_;clear hK K
   try simp only[pu]
   refine eP ?_;clear m0 m1 m2 m3 o1 o2;have ad:=fm.out;have c8:=ad.2.2.2.2.2.2.2.1.trans (B8.mono ad.2.2.2.2.2.2.2.1.size);have R8:=ad.1.below B8;have bc:=oJ ad.2.2.2.2.2.2.2.2.1 B8;have b2:=oJ ad.2.2.2.2.2.2.2.2.2.1 B8;have p8:=(B8.block w1.heap.size d1).trans ad.2.2.2.1;have t8:=(B8.block w.heap.size (by omega)).trans ad.2.2.2.2.1;have a8:=(B8.block (w.heap.size+1) (by omega)).trans ad.2.2.2.2.2.1;have r8:=(B8.block (w.heap.size+2) (by omega)).trans ad.2.2.2.2.2.2.1;have e7:=HG.d w8 c8;have hu:=HG.a.f;obtain⟨dn,d0⟩:=mY bc ad.2.2.2.2.2.2.2.2.2.2.key;obtain⟨fn,gd⟩:=mY b2 ad.2.2.2.2.2.2.2.2.2.2.val;have g1:=B8.size;have yk:Y gk\/(w.heap.size<=gk/\gk<w8.heap.size):=ae ⟨by omega,by omega⟩;have yv:Y gv\/(w.heap.size<=gv/\gv<w8.heap.size):=ae ⟨by omega,by omega⟩;have c6:=wL (k:=k0) (e7.below (ab _ _).drew) (oJ bc (ab _ _).drew) (by omega) yk e.kh;have b0:=Im (oJ bc (ab _ _).drew) e.kh (k:=k0) (az.1 ad.2.2.2.2.2.2.2.2.2.2.key).1;have o9:∀b,b≠gk->(w8.drew.setCell ⟨gk,k0,none⟩ (Xu (e.kh:Nat))).heap[b]?=w8.heap[b]?:=fun b hb=>FB hb;have a':FE (w8.drew.setCell ⟨gk,k0,none⟩ (Xu (e.kh:Nat))) wr.heap.size (.slice (some ⟨gv,0,none⟩) n0.vals.length cv) n0.vals:=FE.at b2 fun g hg=>by
    have:g=gv:=by injection hg with hg;exact hg.symm
    rw[this];exact o9 gv (Ne.symm ea)
   have bu:FE (w8.drew.setCell ⟨gk,k0,none⟩ (Xu (e.kh:Nat))) wr.heap.size (.slice Ac lc cc) n0.kids:=FE.at R8.c fun g hg=>o9 g fun q=>R8.kc gk rfl (by rw[<-q];exact hg);have p9:=(o9 w1.heap.size (by omega)).trans p8;have t9:=(o9 w.heap.size (by omega)).trans t8;have a9:=(o9 (w.heap.size+1) (by omega)).trans a8;have r9:=(o9 (w.heap.size+2) (by omega)).trans r8;have q9:=(o9 w2.heap.size (by omega)).trans q8;have k9:Fo Y w8 (w8.drew.setCell ⟨gk,k0,none⟩ (Xu (e.kh:Nat))):=⟨rfl,rfl,rfl,by simp,fun k hk=>o9 k (by have:=HG.a.g k hk;omega)⟩;have z9:(w8.drew.setCell ⟨gk,k0,none⟩ (Xu (e.kh:Nat))).heap.size=w8.heap.size:=by simp
   obtain⟨f',gf⟩:=mY a' ad.2.2.2.2.2.2.2.2.2.2.val;obtain⟨w9,er⟩:=Ii (w8.drew.setCell ⟨gk,k0,none⟩ (Xu (e.kh:Nat)));rw[er] at c6 b0 a' bu p9 t9 a9 r9 q9 k9 z9 f' gf;clear o9;have c5:=wL (k:=k0) c6 a' (by omega) yv e.vh;have b1:=Im a' e.vh (k:=k0) (az.1 ad.2.2.2.2.2.2.2.2.2.2.val).1;have an:∀b,b≠gv->(w9.setCell ⟨gv,k0,none⟩ (Xu (e.vh:Nat))).heap[b]?=w9.heap[b]?:=fun b hb=>FB hb;have bv:FE (w9.setCell ⟨gv,k0,none⟩ (Xu (e.vh:Nat))) wr.heap.size (.slice (some ⟨gk,0,none⟩) n0.keys.length ck) (n0.keys.set k0 e.kh):=FE.at b0 fun g hg=>by
    have:g=gk:=by injection hg with hg;exact hg.symm
    rw[this];exact an gk ea
   have bt:FE (w9.setCell ⟨gv,k0,none⟩ (Xu (e.vh:Nat))) wr.heap.size (.slice Ac lc cc) n0.kids:=FE.at bu fun g hg=>an g fun q=>R8.vc gv rfl (by rw[<-q];exact hg);have a3:=(an w1.heap.size (by omega)).trans p9;have a7:=(an w.heap.size (by omega)).trans t9;have c4:=(an (w.heap.size+2) (by omega)).trans r9;have c3:=(an w2.heap.size (by omega)).trans q9;have b4:=(an (w.heap.size+1) (by omega)).trans a9;have cs:Fo Y w8 (w9.setCell ⟨gv,k0,none⟩ (Xu (e.vh:Nat))):=k9.trans ⟨rfl,rfl,rfl,by simp,fun k hk=>an k (by have:=HG.a.g k hk;omega)⟩;have c7:(w9.setCell ⟨gv,k0,none⟩ (Xu (e.vh:Nat))).heap.size=w8.heap.size:=by simp[z9]
   obtain⟨e8,ep⟩:=Ii (w9.setCell ⟨gv,k0,none⟩ (Xu (e.vh:Nat)));rw[ep] at c5 b1 bv bt a3 a7 c4 c3 b4 cs c7;clear an;obtain⟨I,ar,au⟩:=lB (fun w'=>w'.heap[w1.heap.size]?=some (.cells #[.slice (some ⟨gk,0,none⟩) lk ck,.slice (some ⟨gv,0,none⟩) lk cv,.slice Ac lc cc,Xu sz] 215)) (fun w'=>w'.heap[w.heap.size+1]?=some (Xe (e.kh:Nat) (e.vh:Nat)));have ez:=fun x:Fq I=>(ar _ x.ok).1;have e1:=fun x:Fq I=>(ar _ x.ok).2;obtain⟨m0,m1,m2,m3⟩:=iB ez;obtain⟨z0,z1⟩:=fw e1;have d3:I w8.drew:=au _ p8 a8;have d4:I w9:=au _ p9 a9;have d2:I e8:=au _ a3 b4;have ga:w8.drew.cell? ⟨gk,k0,none⟩=some (Xu (e0.kh:Nat)):=dn;have gb:w8.drew.frozen? ⟨gk,k0,none⟩=false:=d0;have HT:=kq8 c5 (kq3 bv b1 bt) a3 a7 c4 c3 cs c7;clear ar au ez e1 e7 c6 c5 b0 a' bu bv b1 bt p8 t8 a8 r8 q8 p9 t9 a9 r9 q9 k9 z9 a3 a7 c4 c3 b4 cs c7 R8 bc b2 dn d0 fn gd yk yv;go_wp2_with fail;refine fh I (.take 0 (.take 1 (.take 2 (.take 3 (.take 4 (.take 5 (.take 6 (.take 7 (.take 8 (.take 9 (.take 10 (.go 11 (.take 12 (.go 13 .nil)))))))))))))) (by kernel_rfl) (by kernel_rfl) d3 ?_
   iterate 11
    refine' pT ?_ ?_;rotate_left
    ·intro x;go_simp
     try rfl
    try simp only[pu]
   refine pD fun K hK=>?_;go_simp
   try go_simp
   refine hK.out _ _ d4 ?_;clear hK K
   try simp only[pu]
   refine' pT ?_ ?_;rotate_left
   ·intro x;go_simp
    try rfl
   try simp only[pu]
   refine pD fun K hK=>?_;go_simp
   try go_simp
   refine hK.out _ _ d2 ?_;clear hK K
   try simp only[pu]
   refine eP ?_;clear m0 m1 m2 m3 z0 z1 ga gb er ep d3 d4 d2;have cw:=FE.hrow HT.b.a;have cx:=FE.hrow HT.b.b;have e4:=FE.hrow HT.b.c;rw[ad.2.1] at cw;rw[ad.2.2.1] at cx;have a1:=HG.e e8 _ HT.a (vk:=.slice (some ⟨gk,0,none⟩) lk ck) (vv:=.slice (some ⟨gv,0,none⟩) lk cv) (vc:=.slice Ac lc cc) cw cx e4;unfold eC at a1;rw[show (Bt.setN n0 k0 e).size=sz from HK.f] at a1;have dc:=If a1;have a3:=HT.c;have a7:=HT.d;obtain⟨x0,x1⟩:=Fp a7;obtain⟨y0,y1,y2,y3⟩:=Fy a3;clear a1 cw cx e4 a3 a7 ad;go_wp2_with fail;refine dc.out.mono ?_;rintro en ba ⟨rfl,e6,bk⟩;have bm:=(bk.block (w.heap.size+2) (ae ⟨by omega,by omega⟩)).trans HT.e;have e5:=(bk.block w2.heap.size (ae ⟨by omega,by have:=g1;have:w2.heap.size<w8.heap.size:=e'.out;omega⟩)).trans HT.f;have e3:=(Fo.of_below (HG.a.a.trans (c8.mono HG.a.a.size)) HG.a.g).trans (HT.g.trans (bk.mono fun k hk=>aa hk));clear x0 x1 y0 y1 y2 y3;obtain⟨x0,x1⟩:=Fp e5;obtain⟨y0,y1⟩:=Fp bm;obtain⟨f0,f1⟩:=ef bm;have bb:=kq3 e6 e3 bm;clear e6 bk bm e5 e3 dc;go_wp2_with fail;have qF:=ew bb.c (Xu (e0.kh:Nat)) (Xu (e0.vh:Nat));have oF:∀k,k≠w.heap.size+2->((ba.setCell ⟨w.heap.size+2,0,none⟩ (Xu (e0.kh:Nat))).setCell ⟨w.heap.size+2,1,none⟩ (Xu (e0.vh:Nat))).heap[k]?=ba.heap[k]?:=fun k hk=>fA hk _ _;have sF:Ig ((ba.setCell ⟨w.heap.size+2,0,none⟩ (Xu (e0.kh:Nat))).setCell ⟨w.heap.size+2,1,none⟩ (Xu (e0.vh:Nat))) ps (FC S g 0 (bnWords t (Bt.setN n0 k0 e))) Y:=(bb.a.write (b:=w.heap.size+2) (ae ⟨by omega,by omega⟩) bb.c ⟨by decide,by decide⟩ (by simp) (by simp) fun k _ hk=>oF k hk).mono fun k hk=>aa hk;have kF:Fo Y w ((ba.setCell ⟨w.heap.size+2,0,none⟩ (Xu (e0.kh:Nat))).setCell ⟨w.heap.size+2,1,none⟩ (Xu (e0.vh:Nat))):=bb.b.trans ⟨rfl,rfl,rfl,by simp,fun k hk=>oF k (by have:=HG.a.g k hk;omega)⟩;clear x0 x1 y0 y1 f0 f1 oF;generalize ((ba.setCell ⟨w.heap.size+2,0,none⟩ (Xu (e0.kh:Nat))).setCell ⟨w.heap.size+2,1,none⟩ (Xu (e0.vh:Nat)))=WF at*;obtain⟨x0,x1⟩:=Fp qF;exact bodyPost_ret (v:=.agg #[Xu (e0.kh:Nat),Xu (e0.vh:Nat)]) (by simp[results,f179,go_sem,x0,x1]) rfl ⟨rfl,sF,kF⟩
  | false=>
   have hnd:=HY.d;obtain⟨c,hc⟩:∃c,(Bn.ks y)[Fr e.k (Bn.es y)]?=some c:=by
    cases hc:(Bn.ks y)[Fr e.k (Bn.es y)]? with
    | some c=>exact⟨c,rfl⟩
    | none=>
     rw[Bt.nodeB_none (by rw[a5.out];exact HK.b) hc] at hnd
     cases hnd
   rw[Bt.nodeB_down (by rw[a5.out];exact HK.b) hc] at hnd;rw[a5.out,HK.a] at hc
   cases d' with
   | zero=>rw[Bt.nil_of_zero (Bn.ks y)] at hc;cases hc
   | succ d'=>
    obtain⟨gc,oc,rfl,gn⟩:=FD.at (f:=Bt.hd) (l:=Bn.ks y) (by have:=(H1.c.below a4.out).c.hrow;rw[<-HK.e] at this;exact this) hc;obtain⟨gs,d7⟩:=az.1 hc;rw[HK.d] at gs;have g7:(k:Int)<lc:=by omega
    have g':((lc:Nat):Int)≠0:=by omega
    obtain⟨nc,cm⟩:=Ii (Bt.hd c);rw[cm] at gn;have HC:=kq4 hc hnd cm d7;clear hc hnd cm d7;go_wp2_with fail;go_roundw
    case rel=>exact⟨d',i+1,nc,rfl,by simp,by omega,H1.a.trans (a4.out.mono H1.a.size),c,HY.b.kid (ce HC.a),HC.c,HC.b⟩
    case measure=>simp[intOf];omega
end
section
open Go.RowKit Tryz Go.BigFrame Go.Maps Go.WideMaps Lf Tr
open Go.Shelf
theorem zJ {w:World}{ps:Nat}{S:St}{o:Nat->Nat}{Y:Nat->Prop}(h:Ig w ps S Y){t d:Nat}{x:Bt (d+1)}(hx:Bt.Tree S o t x){e e0:It}(hn:gu S e){g:Nat}{n0:BN}{k0:Nat}(hnb:Bt.nodeB e.k x=some (g,n0,k0))(hr:Bt.RepAt S o t x e e0 g n0 k0):
 Ct 137 #[PV ps,Xi t,Xu (Bt.hd x:Nat),Id e.kh e.vh] w fun en w'=>en=.returned (.tuple #[Xu (Bt.hd x:Nat),Id e0.kh e0.vh,.bool true,Xi 0])/\Ig w' ps (FC S g 0 (bnWords t (Bt.setN n0 k0 e))) Y/\Fo Y w w':=by
 have B0:=((ab w.heap.size w).alloc Ih (Xe e.kh e.vh)).alloc (by simp) (.cells #[Xu 0,Xu 0] 104);have z1:(w.alloc (Xe e.kh e.vh)).heap.size=w.heap.size+1:=by simp
 have q1:=heap_alloc_new w (Xe e.kh e.vh);have q2:=heap_alloc_new (w.alloc (Xe e.kh e.vh)) (.cells #[Xu 0,Xu 0] 104);have q1:=(((ab (w.alloc (Xe e.kh e.vh)).heap.size (w.alloc (Xe e.kh e.vh))).alloc Ih (.cells #[Xu 0,Xu 0] 104)).block w.heap.size (by simp)).trans q1;rw[z1] at q2;have hz:((w.alloc (Xe e.kh e.vh)).alloc (.cells #[Xu 0,Xu 0] 104)).heap.size=w.heap.size+2:=by simp
 generalize hW:(w.alloc (Xe e.kh e.vh)).alloc (.cells #[Xu 0,Xu 0] 104)=W0 at*;have A1:=(ab W0.heap.size W0).alloc Ih (Xc ps t);have q3:=heap_alloc_new W0 (Xc ps t);have bd:(W0.alloc (Xc ps t)).heap.size=w.heap.size+3:=by simp[hz]
 have hw:=hx.walk;have hi:=hx.fit.inv;have has:=kZ (h.below B0) hi hx.t1 hx.t2;obtain⟨W1,a9⟩:=Ii (W0.alloc (Xc ps t));rw[a9] at A1 q3 bd;have B1:=B0.trans (A1.mono (by omega));rw[hz] at q3;have a2:=jt hx.fit hn.lk hn.k;have a0:=iz (h.below B1) hi e.kh (Bt.blobs_lt hx.fit hn).1 (by rw[a2];simp);rw[a2] at a0;have q1:=(A1.block _ (by omega)).trans q1;have q2:=(A1.block _ (by omega)).trans q2;obtain⟨x0,x1⟩:=Fp q1;have H0:=kq7 h hx hn hr hw hi bd;have an:=kq2 hnb h.yl;clear hnb;have H1:=kq4 B1 q1 q2 q3;have a5:=If has;have a6:=If a0;have bo:Bt.hd x≠0:=(Bt.At.hd_ok hx.fit hx.at').1;have bs:((Bt.hd x:Nat):Int)≠0:=by omega
 clear z1 q1 q2 q3 B0 B1 A1 hw hi has a2 a0 h hx hn hr;unfold Id;go_enter func137,ntmps137;go_wp2_with fail;refine a5.out.mono ?_;rintro en w1 ⟨rfl,rfl⟩;clear hW;go_wp2_with fail;refine a6.out.mono ?_;rintro en w2 ⟨rfl,ad⟩;clear x0 x1;have p1:=(ad.block _ (by have:=H0.g;omega)).trans H1.b;have p2:=(ad.block _ (by have:=H0.g;omega)).trans H1.c;have p3:=(ad.block _ (by have:=H0.g;omega)).trans H1.d;have b2:=H1.a.trans (ad.mono H1.a.size);obtain⟨x0,x1⟩:=Fp p3;have a1:=kI (H0.a.below b2) H0.f H0.e.read;have bt:w.heap.size+3<=w2.heap.size:=by have:=ad.size;have:=H0.g;omega
 unfold FH eC at a1;have a8:=If a1;have H2:=kq4 b2 p1 p2 p3;clear ad p1 p2 p3 b2 a1 a6 a5 H1 a9;go_wp2_with fail;refine a8.out.mono ?_;rintro en w3 ⟨vk,vv,vc,rfl,rows,ar⟩;obtain⟨Ak,mk,ck,rfl⟩:=rows.k.slice;obtain⟨Av,mv,cv,rfl⟩:=rows.v.slice;obtain⟨Ac,mc,cc,rfl⟩:=rows.c.slice;obtain⟨sz,bc⟩:=Ii (Bt.bn x).size;rw[bc];clear bc;have A3:=(ab w3.heap.size w3).alloc Ih (.cells #[.slice Ak mk ck,.slice Av mv cv,.slice Ac mc cc,Xu sz] 215);obtain⟨W3,a'⟩:=Ii (w3.alloc (.cells #[.slice Ak mk ck,.slice Av mv cv,.slice Ac mc cc,Xu sz] 215));rw[a'] at A3;have c3:=ar.trans (A3.mono ar.size);have p1:=(c3.block _ (by omega)).trans H2.b;have p2:=(c3.block _ (by omega)).trans H2.c;have p3:=(c3.block _ (by omega)).trans H2.d;have B3:=H2.a.trans (c3.mono H2.a.size);have bu:w.heap.size+3<=W3.heap.size:=by have:=c3.size;omega
 have bm:=H0.b.low;have bb:=H0.d.find;have ai:=fun W (hw:Below W3.heap.size W3 W)=>pY (H0.a.below (B3.trans (hw.mono B3.size))) H0.e (by omega) e.k;rw[bb] at ai;have al:=nT (R:=some e0) (ai W3 (ab _ _)) fun W hW=>ai W (by rw[hW];exact(ab _ _).alloc Ih _);unfold i7 Id at al
 dsimp only[Option.isSome] at al
 have a7:=If al;have H3:=kq4 B3 p1 p2 p3;clear A3 c3 p1 p2 p3 B3 bb ai al x0 x1 ar H2 a8 rows;go_wp2_with fail;refine a7.out.mono ?_;rintro en w4 ⟨rfl,au⟩;clear a';have A4:=(ab w4.heap.size w4).alloc Ih (Xe e0.kh e0.vh);obtain⟨W4,ba⟩:=Ii (w4.alloc (Xe e0.kh e0.vh));rw[ba] at A4;have c4:=au.trans (A4.mono au.size);have p1:=(c4.block _ (by omega)).trans H3.b;have p2:=(c4.block _ (by omega)).trans H3.c;have p3:=(c4.block _ (by omega)).trans H3.d;have B4:=H3.a.trans (c4.mono H3.a.size);have bv:w.heap.size+3<=W4.heap.size:=by have:=c4.size;omega
 have bf:=H0.a.wide B4;have a3:=zR bf H0.e (by omega) an.a H0.d;unfold FH Id at a3;have bk:=If a3;obtain⟨x0,x1⟩:=Fp p3;obtain⟨y0,y1⟩:=Fp p1;have H4:=kq2 B4 p2;clear A4 c4 p1 p2 p3 B4 bf au H3 a7 a3;go_wp2_with fail;refine bk.out.mono ?_;rintro en w5 ⟨rfl,bj,a4⟩;clear ba x0 x1 y0 y1;have q5:=(a4.block (w.heap.size+1) (ae ⟨by omega,by omega⟩)).trans H4.b;obtain⟨x0,x1⟩:=Fp q5;obtain⟨f0,f1⟩:=ef q5;have H5:=kq3 bj a4 q5;clear bj a4 q5;go_wp2_with fail;have qF:=ew H5.c (Xu e0.kh) (Xu e0.vh);have oF:∀k,k≠w.heap.size+1->((w5.setCell ⟨w.heap.size+1,0,none⟩ (Xu e0.kh)).setCell ⟨w.heap.size+1,1,none⟩ (Xu e0.vh)).heap[k]?=w5.heap[k]?:=fun k hk=>fA hk _ _;have sF:Ig ((w5.setCell ⟨w.heap.size+1,0,none⟩ (Xu e0.kh)).setCell ⟨w.heap.size+1,1,none⟩ (Xu e0.vh)) ps (FC S g 0 (bnWords t (Bt.setN n0 k0 e))) Y:=(H5.a.write (b:=w.heap.size+1) (ae ⟨by omega,by omega⟩) H5.c ⟨by decide,by decide⟩ (by simp) (by simp) fun k _ hk=>oF k hk).mono fun k hk=>aa hk;have kF:Fo Y w ((w5.setCell ⟨w.heap.size+1,0,none⟩ (Xu e0.kh)).setCell ⟨w.heap.size+1,1,none⟩ (Xu e0.vh)):=((Fo.of_below H4.a an.b).trans (H5.b.mono fun k hk=>aa hk)).trans ⟨rfl,rfl,rfl,by simp,fun k hk=>oF k (by have:=an.b k hk;omega)⟩;clear x0 x1 f0 f1 oF;generalize ((w5.setCell ⟨w.heap.size+1,0,none⟩ (Xu e0.kh)).setCell ⟨w.heap.size+1,1,none⟩ (Xu e0.vh))=WF at*;obtain⟨u0,u1⟩:=Fp qF;exact bodyPost_ret (v:=.tuple #[Xu (Bt.hd x:Nat),.agg #[Xu e0.kh,Xu e0.vh],.bool true,Xi 0]) (by simp[results,f137,go_sem,u0,u1]) rfl ⟨rfl,sF,kF⟩
end
section
open Lf Tr
namespace Bt
variable{R:List Nat}{S:St}{o:Nat->Nat}
theorem two_fit(hf:Fw S o){a b:List UInt8}(ha:a.length<=1000)(hb:b.length<=1000)(hr:fc S 6 2):
 ∃ka vb S2 o2,itemsM S a b=some ((ka,vb),S2)/\nJ S a b/\Fw S2 o2/\reco S ka=none/\reco S vb=none/\ka≠vb/\reco S2 ka=some (FK a)/\reco S2 vb=some (FK b)/\(∀h',h'≠ka->h'≠vb->reco S2 h'=reco S h')/\ej S S2 6 2:=by
 obtain⟨ka,S1,o1,e1,f1,n1,l1,q1,g1,k1⟩:=oL hf ha (hr.mono (by omega) (by omega));obtain⟨vb,S2,o2,e2,f2,n2,l2,q2,g2,k2⟩:=oL f1 hb (fc.grew (hr.mono (p':=3+3) (q':=1+1) (by omega) (by omega)) g1);have ad:ka≠vb:=by rintro rfl;rw[l1] at n2;cases n2
 have ai:itemsM S a b=some ((ka,vb),S2):=by
  unfold itemsM;rw[e1];simp only;rw[e2]
  simp
 exact⟨ka,vb,S2,o2,ai,⟨ha,hb,k1,by rw[e1];exact k2⟩,f2,n1,(q1 _ ad.symm).symm.trans n2,ad,(q2 _ ad).trans l1,l2,fun h' w1 w2=>(q2 h' w2).trans (q1 h' w1),(g1.trans g2).mono (by omega) (by omega)⟩
def getL(L:List (List UInt8×List UInt8))(a:List UInt8):Option (List UInt8):=(L.find? fun p=>p.1==a).map (·.2)
theorem getL_pairs(l:List It)(a:List UInt8):getL (pairs l) a=(findB a l).map (·.v):=by
 unfold getL pairs findB;rw[List.find?_map,Option.map_map];rfl
theorem xu{l:List It}(hs:l.Pairwise eU){e e0:It}(hf:findB e.k l=some e0):
 ∃A B,l=A++e0::B/\l.map (eD e)=A++e::B/\e0.k=e.k/\(∀x∈A,Fu x.k e.k<0)/\∀x∈B,Fu e.k x.k<0:=by
 unfold findB at hf;have hm:=bI hf;have hk:e0.k=e.k:=by simpa using cE hf
 obtain⟨A,B,rfl⟩:=List.append_of_mem hm;obtain⟨p1,p2,p3⟩:=bA.1 hs;obtain⟨p4,p5⟩:=aT.1 p2;have hA:∀x∈A,Fu x.k e.k<0:=fun x hx=>by
  have:=p3 x hx e0 (aq ..);unfold eU at this;rwa[hk] at this
 have hB:∀x∈B,Fu e.k x.k<0:=fun x hx=>by
  have:=p4 x hx;unfold eU at this;rwa[hk] at this
 have e1:A.map (eD e)=A:=(aP fun x hx=>(mg (ne_of_lt (hA x hx)):eD e x=id x)).trans (dK _);have e2:B.map (eD e)=B:=(aP fun x hx=>(mg (fun q=>by have:=hB x hx;rw[q,fX] at this;omega):eD e x=id x)).trans (dK _);refine⟨A,B,rfl,?_,hk,hA,hB⟩;rw[aJ,aL,e1,e2]
 congr 2
 exact if_pos hk
theorem pairs_ins{e:It}{l:List It}(hs:l.Pairwise eU)(hn:∀d∈l,d.k≠e.k):pairs (insB e l)=gV (pairs l) e.k e.v:=by
 obtain⟨b1,b2,b3⟩:=lL (key:=e.k) hs;have ad:∀d∈l.drop (Fr e.k l),Fu e.k d.k<0:=fun d hd=>by
  have h1:=b2 d hd;have h2:=hn d (bq hd);rw[ie]
  rcases cN (Fu d.k e.k) 0 with g | g | g
  ·exact absurd g h1
  ·exact absurd (jL g) h2
  ·omega
 have h:=oO (a:=e.k) (b:=e.v) (d:=e) (tl:=l.take (Fr e.k l)) (tr:=l.drop (Fr e.k l)) (mid:=[]) ⟨rfl,rfl⟩ (fun x hx=>by cases hx) b1 ad;rw[bP,aQ] at h;exact h
theorem Dq{e e0:It}{l:List It}(hs:l.Pairwise eU)(hf:findB e.k l=some e0):pairs (l.map (eD e))=gV (pairs l) e.k e.v:=by
 obtain⟨A,B,h1,h2,h3,h4,h5⟩:=xu hs hf;rw[h2,h1];have h:=oO (a:=e.k) (b:=e.v) (d:=e) (tl:=A) (tr:=B) (mid:=[e0]) ⟨rfl,rfl⟩ (fun x hx=>by rw[aS.1 hx];exact h3) h4 h5;rw[h]
 congr 2
 simp
theorem qDead{P:Prop}(h:P:=by
 exact(h.blobs a hx).frame (hS _ (ai _ (gh.2 ⟨a,hx,aa rfl⟩))) (hS _ (ai _ (gh.2 ⟨a,hx,ae rfl⟩)))):P:=h
theorem Tree.swap{t d:Nat}{x:Bt (d+1)}(h:Tree S o t x){e e0:It}(hb:gu S e)(ne:e.kh≠e.vh)(off:e.kh∉recs x/\e.vh∉recs x){g:Nat}{n:BN}{k:Nat}(r:RepAt S o t x e e0 g n k){S1:St}(hS1:S1=FC S g 0 (bnWords t (setN n k e))):
 Fw S1 o/\fz S1 e0.vh=(e0.v,0)/\e0.kh<2^64/\e0.vh<2^64/\Fv (S1.drop e0.kh).2/\∃S3,S3=((S1.drop e0.kh).2.drop e0.vh).2/\Tree S3 o t (e9 (eD e) x)/\pairs (its (e9 (eD e) x))=gV (pairs (its x)) e.k e.v/\ej S S3 0 0/\(∀y,y∉recs x->reco S3 y=reco S y)/\∀y∈recs (e9 (eD e) x),y∈recs x\/y=e.kh\/y=e.vh:=by
 obtain⟨A,B,h1,h2,h3,h4,h5⟩:=xu h.sorted r.find;have a1:e0∈its x:=by rw[h1];simp
 have al:=h.blobs e0 a1;have k0:e0.kh∈ff (its x):=gh.2 ⟨e0,a1,aa rfl⟩;have v0:e0.vh∈ff (its x):=gh.2 ⟨e0,a1,ae rfl⟩;have ai:∀y∈ff (its x),y≠g:=fun y hy q=>h.apart g r.mem (q▸hy);have a4:e.kh≠g/\e.vh≠g:=⟨fun q=>off.1 (q▸ax _ r.mem),fun q=>off.2 (q▸ax _ r.mem)⟩;have a2:=h.texts;rw[h1,nO] at a2;have ec:∀(z:It) (l:List It),ff (z::l)=z.kh::z.vh::ff l:=fun _ _=>rfl;rw[ec] at a2;obtain⟨t1,t2,t3⟩:=av.1 a2;obtain⟨t4,t5⟩:=aE.1 t2;obtain⟨t6,t7⟩:=aE.1 t5;have oe:∀y,y=e.kh\/y=e.vh->y∉ff (its x)/\y∉Bt.nodes x:=fun y hy=>by
  rcases hy with rfl | rfl
  ·exact⟨fun q=>off.1 (aw _ q),fun q=>off.1 (ax _ q)⟩
  ·exact⟨fun q=>off.2 (aw _ q),fun q=>off.2 (ax _ q)⟩
 have ad:∀y,y∈ff A\/y∈ff B->y∈ff (its x):=fun y hy=>by
  rw[h1,nO,ec]
  rcases hy with hy | hy
  ·exact ax _ hy
  ·exact aw _ (ah _ (ah _ hy))
 have a0:its (e9 (eD e) x)=A++e::B:=by rw[ln,h2]
 have ar:∀y,y∈ff (its (e9 (eD e) x))↔y∈ff A\/y=e.kh\/y=e.vh\/y∈ff B:=fun y=>by
  rw[a0,nO,ec,aj,ag,ag]
 have an:Tree S1 o t (e9 (eD e) x):=by
  subst hS1;refine⟨r.fit,h.t1,h.t2,r.at',vF _ h.ok,?_,?_,?_,by rw[lW];exact h.nodes,?_,?_,by rw[vE];exact h.pos⟩
  ·rw[ln];refine dQ.2 (h.sorted.imp fun {a b} q=>?_);unfold eU at q⊢;rw[wI,wI];exact q
  ·intro a ha;have hS:∀y,y≠g->reco (FC S g 0 (bnWords t (setN n k e))) y=reco S y:=r.fr;rw[a0] at ha
   rcases aj.1 ha with ha | ha
   ·have hx:a∈its x:=by rw[h1];exact ax _ ha
    exact qDead
   ·rcases ag.1 ha with rfl | ha
    ·exact hb.frame (hS _ a4.1) (hS _ a4.2)
    ·have hx:a∈its x:=by rw[h1];exact aw _ (ah _ ha)
     exact qDead
  ·rw[ln,ao];exact h.few
  ·rw[a0,nO,ec];refine av.2 ⟨t1,aE.2 ⟨fun q=>?_,aE.2 ⟨fun q=>(oe _ (ae rfl)).1 (ad _ (ae q)),t7⟩⟩,fun y hy z hz=>?_⟩
   ·rcases ag.1 q with q | q
    ·exact ne q
    ·exact(oe _ (aa rfl)).1 (ad _ (ae q))
   ·rintro rfl
    rcases ag.1 hz with q | hz
    ·exact(oe y (aa q)).1 (ad _ (aa hy))
    ·rcases ag.1 hz with q | hz
     ·exact(oe y (ae q)).1 (ad _ (aa hy))
     ·exact t3 y hy y (ah _ (ah _ hz)) rfl
  ·intro y hy hb1;rw[lW] at hy
   rcases(ar y).1 hb1 with q | q | q | q
   ·exact h.apart y hy (ad _ (aa q))
   ·exact(oe y (aa q)).2 hy
   ·exact(oe y (ae q)).2 hy
   ·exact h.apart y hy (ad _ (ae q))
 have au:∀y,y≠g->reco S1 y=reco S y:=by rw[hS1];exact r.fr
 have a7:ej S S1 0 0:=by rw[hS1];exact r.grew
 have kk:reco S1 e0.kh=some (FK e0.k):=(au _ (ai _ k0)).trans al.k;have vv:reco S1 e0.vh=some (FK e0.v):=(au _ (ai _ v0)).trans al.v;have a8:e0.kh≠e0.vh:=fun q=>t4 (by rw[q];exact aq ..);obtain⟨S2,e2,f2,m2,o2,g2⟩:=mQ an.fit kk;obtain⟨S3,e3,f3,m3,o3,g3⟩:=mQ f2 ((o2 _ a8.symm).trans vv);have a5:e0.kh∉recs (e9 (eD e) x)/\e0.vh∉recs (e9 (eD e) x):=by
  have a6:∀y,y=e0.kh\/y=e0.vh->y∉ff A/\y∉ff B:=fun y hy=>by
   rcases hy with rfl | rfl
   ·exact⟨fun q=>t3 _ q _ (aq ..) rfl,fun q=>t4 (ah _ q)⟩
   ·exact⟨fun q=>t3 _ q _ (ah _ (aq ..)) rfl,t6⟩
  have a3:∀y,y=e0.kh\/y=e0.vh->y∈ff (its x)->y∉recs (e9 (eD e) x):=fun y hy hyx q=>by
   unfold recs at q
   rcases aj.1 q with q | q
   ·rw[lW] at q;exact h.apart y q hyx
   ·rcases(ar y).1 q with q | q | q | q
    ·exact(a6 y hy).1 q
    ·exact(oe y (aa q)).1 hyx
    ·exact(oe y (ae q)).1 hyx
    ·exact(a6 y hy).2 q
  exact⟨a3 _ (aa rfl) k0,a3 _ (ae rfl) v0⟩
 refine⟨an.fit,jt an.fit al.lv vv,(blobs_lt h.fit al).1,(blobs_lt h.fit al).2,by rw[e2];exact f2.inv,S3,by rw[e2,e3],an.frame f3 (fun y hy=>(o3 y fun q=>a5.2 (q▸hy)).trans (o2 y fun q=>a5.1 (q▸hy))),?_,((a7.trans g2).trans g3),fun y hy=>?_,fun y hy=>?_⟩
 ·rw[ln];exact Dq h.sorted r.find
 ·have w1:y≠e0.kh:=fun q=>hy (q▸aw _ k0);have w2:y≠e0.vh:=fun q=>hy (q▸aw _ v0);have w3:y≠g:=fun q=>hy (q▸ax _ r.mem);exact(o3 y w2).trans ((o2 y w1).trans (au y w3))
 ·unfold recs at hy⊢
  rcases aj.1 hy with q | q
  ·rw[lW] at q;exact aa (ax _ q)
  ·rcases(ar y).1 q with q | q | q | q
   ·exact aa (aw _ (ad _ (aa q)))
   ·exact ae (aa q)
   ·exact ae (ae q)
   ·exact aa (aw _ (ad _ (ae q)))
def Holds(S:St)(o:Nat->Nat)(t root:Nat)(L:List (List UInt8×List UInt8))(R:List Nat):Prop:=
 (Empty S o t/\root=0/\L=[]/\R=[])\/∃(d:Nat) (x:Bt (d+1)),Tree S o t x/\root=hd x/\L=pairs (its x)/\R=recs x
theorem Holds.fit{t root:Nat}{L:List (List UInt8×List UInt8)}(h:Holds S o t root L R):Fw S o:=by
 rcases h with⟨h,_⟩ | ⟨_,_,h,_⟩
 ·exact h.fit
 ·exact h.fit
theorem Holds.deg{t root:Nat}{L:List (List UInt8×List UInt8)}(h:Holds S o t root L R):2<=t/\t<=16:=by
 rcases h with⟨h,_⟩ | ⟨_,_,h,_⟩
 ·exact⟨h.t1,h.t2⟩
 ·exact⟨h.t1,h.t2⟩
theorem Holds.has{t root:Nat}{L:List (List UInt8×List UInt8)}(h:Holds S o t root L R):∀y∈R,reco S y≠none:=by
 rcases h with⟨_,_,_,rfl⟩ | ⟨_,_,h,_,_,rfl⟩
 ·intro y hy
  cases hy
 ·exact h.has
theorem Holds.frame{S S':St}{o o':Nat->Nat}{t root:Nat}{L:List (List UInt8×List UInt8)}(h:Holds S o t root L R)(hf:Fw S' o')(hs:∀y∈R,reco S' y=reco S y):Holds S' o' t root L R:=by
 rcases h with⟨h,h1,h2,h3⟩ | ⟨d,x,h,h1,h2,h3⟩
 ·exact aa ⟨⟨hf,h.t1,h.t2⟩,h1,h2,h3⟩
 ·refine ae ⟨d,x,h.frame hf (by rw[<-h3];exact hs),h1,h2,h3⟩
end Bt
end
section
open Go.RowKit Tryz Go.BigFrame Go.Maps Go.WideMaps Lf Tr
variable{S:St}{o:Nat->Nat}
abbrev jE(w:World)(px ps t root:Nat):Prop:=FF w px ps 164 (jx ps t) 3 t root
theorem rZ(hf:Fw S o):reco S 0=none:=by
 cases h:reco S 0 with
 | none=>rfl
 | some ws=>have:=(fL hf h).1;omega
theorem jT(l:List It):(pairs l).length=l.length:=by unfold pairs;exact ao _
def eK(L:List (List UInt8×List UInt8))(a:List UInt8):Nat:=L.countP fun p=>decide (Fu p.1 a<0)
theorem ue(l:List It)(a:List UInt8):eK (pairs l) a=Fr a l:=by
 unfold eK pairs Fr;rw[List.countP_map];rfl
theorem Bt.Tree.low40{t d:Nat}{x:Bt (d+1)}(h:Bt.Tree S o t x):d<40:=by have:=h.low;omega
section
variable {w:World}{px ps t root:Nat}{S:St}{o:Nat->Nat}{Y:Nat->Prop}{L:List (List UInt8×List UInt8)}{R:List Nat}
theorem uN(h:Ig w ps S Y)(hH:Bt.Holds S o t root L R):Cb 175 #[FH ps t,Xu root] w (Xi (L.length:Nat)):=by
 rcases hH with⟨hE,rfl,rfl,rfl⟩ | ⟨d,x,hx,rfl,rfl,rfl⟩
 ·exact zQ h hE.fit.inv hE.t1 hE.t2 0 (by omega) (oy (rZ hE.fit))
 ·have:=nS h hx.fit.inv hx.walk.read hx.walk.size.2;rw[hx.walk.size.1] at this;rw[jT];exact this
theorem uM(h:Ig w ps S Y)(hH:Bt.Holds S o t root L R)(key:List UInt8):∃E:Option It,(∀W,Below w.heap.size w W->Cb 210 #[FH ps t,Xu root,SV key] W (.tuple #[i7 E,.bool E.isSome,Xi (eK L key:Nat)]))/\Bt.getL L key=E.map (fun a:It=>a.v)/\∀a,E=some a->a.k=key/\gu S a:=by
 rcases hH with⟨hE,rfl,rfl,rfl⟩ | ⟨d,x,hx,rfl,rfl,rfl⟩
 ·exact⟨none,fun W hW=>tT (h.below hW) hE.fit.inv hE.t1 hE.t2 0 (by omega) (oy (rZ hE.fit)) key,rfl,fun _ q=>by cases q⟩
 ·refine⟨Bt.findB key (Bt.its x),fun W hW=>?_,Bt.getL_pairs _ _,fun a q=>?_⟩
  ·rw[ue];exact pY (h.below hW) hx.walk hx.low40 key
  ·unfold Bt.findB at q;exact⟨by simpa using cE q,hx.blobs a (bI q)⟩
theorem CF(h:Ig w ps S Y)(hH:Bt.Holds S o t root L R)(hT:jE w px ps t root):
 Cb 19 #[PV px] w (Xi (L.length:Nat)):=
 xM hT C8 AN fun _ hW=>CB fun _ hV=>zX (uN (h.below (hW.trans (hV.mono hW.size))) hH)
theorem CH(h:Ig w ps S Y)(hH:Bt.Holds S o t root L R)(hT:jE w px ps t root)(k:List UInt8):
 Cb 16 #[PV px,SV k] w (Xi (eK L k:Nat)):=by
 obtain⟨E,hd,_⟩:=uM h hH k;exact xO hT k C7 AM fun _ hW=>Cz k fun _ hV=>zW (hd _ (hW.trans (hV.mono hW.size)))
theorem CE(h:Ig w ps S Y)(hH:Bt.Holds S o t root L R)(hT:jE w px ps t root)(k:List UInt8):
 Cb 17 #[PV px,SV k] w (.tuple #[SV ((Bt.getL L k).getD []),.bool (Bt.getL L k).isSome]):=by
 have hf:=hH.fit;obtain⟨E,hd,hE,hb⟩:=uM h hH k;have ai:=fun W (hW:Below w.heap.size w W) V (hV:Below W.heap.size W V)=>nT (hd V (hW.trans (hV.mono hW.size))) fun V' hV'=>hd V' (by rw[hV'];exact(hW.trans (hV.mono hW.size)).alloc (hW.trans (hV.mono hW.size)).size _);rw[hE]
 cases E with
 | none=>exact nu (t:=[]) (e1:=0) hT k 0 0 false (fun _=>rfl) (fun e=>nomatch e) vO um fun _ hW=>vD k 0 0 false fun _ hV=>ai _ hW _ hV
 | some a=>
  have ad:=(hb a rfl).2;have hl:=Bt.blobs_lt hf ad;have hg:=jt hf ad.lv ad.v;exact nu hT k a.kh a.vh true a.v 0 (fun e=>nomatch e) (fun _ W hW=>by
   have:=iz (h.below hW) hf.inv a.vh hl.2 (by rw[hg];simp);rw[hg] at this;exact this) vO um fun _ hW=>vD k a.kh a.vh true fun _ hV=>ai _ hW _ hV
theorem CC(h:Ig w ps S Y)(hH:Bt.Holds S o t root L R)(hT:jE w px ps t root)(k:Nat){p:List UInt8×List UInt8}(hk:L[k]?=some p):
 Cb 18 #[PV px,Xi k] w (.tuple #[eu p,Xi 0]):=by
 rcases hH with⟨hE,rfl,rfl,rfl⟩ | ⟨d,x,hx,rfl,rfl,rfl⟩
 ·cases hk
 ·have hf:=hx.fit;have ai:∃e,(Bt.its x)[k]?=some e/\p=(e.k,e.v):=by
   unfold pairs at hk;rw[bi] at hk
   cases q:(Bt.its x)[k]? with
   | none=>rw[q] at hk;cases hk
   | some e=>
    rw[q] at hk
    cases hk
    exact⟨e,rfl,rfl⟩
  obtain⟨e,ai,rfl⟩:=ai;have ad:=hx.blobs e (ce ai);have hl:=Bt.blobs_lt hf ad;have hg:=jt hf ad.lv ad.v;have al:=jt hf ad.lk ad.k;exact xH hT k (e.k,e.v) e.kh e.vh 0 0 0 (aa rfl) vN ul (fun _ hW=>yZ k e.kh e.vh 0 fun _ hV=>zS (h.below (hW.trans (hV.mono hW.size))) hx.walk hx.low40 ai) (fun _ W hW=>by
   have:=iz (h.below hW) hf.inv e.kh hl.1 (by rw[al];simp);rw[al] at this;exact this) (fun _ W hW=>by
   have:=iz (h.below hW) hf.inv e.vh hl.2 (by rw[hg];simp);rw[hg] at this;exact this)
theorem CD(h:Ig w ps S Y)(hH:Bt.Holds S o t root L R)(hT:jE w px ps t root)(k:Int)(hk:k<0\/(L.length:Int)<=k):
 Cb 18 #[PV px,Xi k] w (.tuple #[eu ([],[]),Xi 2]):=
 xH hT k ([],[]) 0 0 0 0 2 (ae ⟨rfl,rfl⟩) vN ul (fun _ hW=>yZ k 0 0 2 fun _ hV=>zT (h.below (hW.trans (hV.mono hW.size))) hH.fit.inv hH.deg.1 hH.deg.2 (fun _ hU=>uN (h.below ((hW.trans (hV.mono hW.size)).trans (hU.mono (hW.trans (hV.mono hW.size)).size))) hH) hk) (fun e=>nomatch e) fun e=>nomatch e
structure iV (S:St) (L:List (List UInt8×List UInt8)) (R:List Nat) (Hold:St->(Nat->Nat)->Nat->List (List UInt8×List UInt8)->List Nat->Prop) (a b:List UInt8) (p q:Nat) (x:Nat) (S3:St):Prop where
 holds:∃o3 R3,Hold S3 o3 x (gV L a b) R3/\∀y∈R3,y∈R\/reco S y=none
 grew:ej S S3 p q
 apart:∀y,y∉R->reco S y≠none->reco S3 y=reco S y
theorem qDeac{P:Prop}(h:P:=by
 obtain⟨rfl,rfl,hR⟩:=hR;refine wx (sV px 0 0 W) fun w' hb=>?_;exact⟨S',rfl,hW.below hb,hW.keep hb,hR⟩):P:=h
theorem qDeab{P:Prop}(h:P:=by
 have h1:=Bt.pow_le t hx.t1 hx.ok hx.pos
 rcases bW 5 d with h3 | h3
 ·have:2^7<=2^(d+1):=cy (by decide) (by omega);have e:2^7=128:=by decide
  omega
 ·exact h3):P:=h
theorem CG {a:List UInt8}(hins:Bt.getL L a=none->L≠[]->∀d,j4 d)(h:Ig w ps S Y)(hH:Bt.Holds S o t root L R)(hT:jE w px ps t root)(hpx:Y px)(b:List UInt8)(ha:a.length<=1000)(hb:b.length<=1000)(hc:L.length<126)(hr:fc S 20 9):
 Ct 43 #[PV px,eu (a,b)] w fun e w'=>∃(x:Nat) (S3:St),e=.returned (.tuple #[SV ((Bt.getL L a).getD []),.bool (Bt.getL L a).isSome,Xi 0])/\Ig w' ps S3 Y/\Fo (fun k=>Y k/\k≠px) w w'/\jE w' px ps t x/\iV S L R (fun S o x L R=>Bt.Holds S o t x L R) a b 20 9 x S3:=by
 obtain⟨ka,vb,S1,o1,a0,au,f1,n1,n2,a1,l1,l2,q1,g1⟩:=Bt.two_fit hH.fit ha hb (hr.mono (by omega) (by omega));have ad:∀y,reco S y≠none->reco S1 y=reco S y:=fun y hy=>q1 y (by rintro rfl;exact hy n1) (by rintro rfl;exact hy n2);have a7:fc S1 14 7:=fc.grew (hr.mono (p':=6+14) (q':=2+7) (by omega) (by omega)) g1;have al:gu S1 ⟨0,ka,vb,a,b⟩:=⟨l1,l2,ha,hb⟩
 rcases hH with⟨hE,rfl,rfl,rfl⟩ | ⟨d,x,hx,rfl,rfl,rfl⟩
 ·--the first key
  refine(ny h hE.fit.inv hT hpx a b au a0 false [] (R:=fun x ik iv S'=>ik=0/\iv=0/\iV S [] [] (fun S o x L R=>Bt.Holds S o t x L R) a b 20 9 x S') (R2:=fun x S'=>iV S [] [] (fun S o x L R=>Bt.Holds S o t x L R) a b 20 9 x S') rH qu (fun W Z hW _ _=>rA hW false fun V Z' hV=>?_) fun x ik iv S' hR W Z hW _ _=>?_).mono ?_
  ·refine(zH hV ⟨f1,hE.t1,hE.t2⟩ (e:=⟨0,ka,vb,a,b⟩) ⟨al,a1⟩ (a7.mono (by omega) (by omega))).mono ?_;rintro e w' ⟨y,S',o',rfl,hs,hk,ht,hi,hn,ar,hg⟩;refine⟨_,_,_,S',rfl,hs,hk,rfl,rfl,⟨⟨o',Bt.recs y,ae ⟨0,y,ht,rfl,?_,rfl⟩,fun z hzm=>?_⟩,(g1.trans hg).mono (by omega) (by omega),fun z _ hz=>(ar z (by rw[ad z hz];exact hz)).trans (ad z hz)⟩⟩
   ·rw[hi]
    rfl
   ·refine ae ?_
    cases q:reco S z with
    | none=>rfl
    | some ws=>
     exfalso
     have a8:=ad z (by rw[q];simp);unfold Bt.recs at hzm
     rcases aj.1 hzm with hm | hm
     ·rw[hn z hm,q] at a8
      cases a8
     ·rw[hi] at hm;have hm:z∈ [ka,vb]:=hm
      rcases ag.1 hm with rfl | hm
      ·rw[n1] at q
       cases q
      ·rw[aS.1 hm,n2] at q
       cases q
  ·exact qDeac
  ·rintro e w' ⟨x,S3,rfl,h1,h2,h3,h4⟩;exact⟨x,S3,rfl,h1,h2,h3,h4⟩
 ·have ai:Bt.Tree S1 o1 t x:=hx.frame f1 fun y hy=>ad y (hx.has y hy);have bk:(Bt.its x).length<126:=by rw[jT] at hc;exact hc
  have a6:ka∉Bt.recs x/\vb∉Bt.recs x:=⟨fun q=>hx.has _ q n1,fun q=>hx.has _ q n2⟩;have bm:d<=5:=by
   exact qDeab
  cases hf:Bt.findB a (Bt.its x) with
  | none=>
   have an:Bt.getL (pairs (Bt.its x)) a=none:=by rw[Bt.getL_pairs,hf];rfl
   rw[an];have a5:∀z∈Bt.its x,z.k≠a:=fun z hz q=>by
    unfold Bt.findB at hf;have:=bB.1 hf z hz;rw[q] at this
    simp at this
   have a':pairs (Bt.its x)≠[]:=fun q=>by
    have h1:=Bt.pow_le t hx.t1 hx.ok hx.pos;have h2:=congrArg List.length q;rw[jT] at h2;have h3:2^1<=2^(d+1):=cy (by decide) (by omega);have h2:(Bt.its x).length=0:=h2;omega
   have hq:=(oE t a x).2;have bc:fc S1 (2*iD t a x) (iD t a x):=a7.mono (by omega) (by omega);refine(ny h hx.fit.inv hT hpx a b au a0 false [] (R:=fun x' ik iv S'=>ik=0/\iv=0/\iV S (pairs (Bt.its x)) (Bt.recs x) (fun S o x L R=>Bt.Holds S o t x L R) a b 20 9 x' S') (R2:=fun x' S'=>iV S (pairs (Bt.its x)) (Bt.recs x) (fun S o x L R=>Bt.Holds S o t x L R) a b 20 9 x' S') rH qu (fun W Z hW _ _=>rA hW false fun V Z' hV=>?_) fun x' ik iv S' hR W Z hW _ _=>?_).mono ?_
   ·refine(zI (hins an a') hV ai (e:=⟨0,ka,vb,a,b⟩) ⟨al,a1,a6,a5,by omega⟩ bc).mono ?_;rintro e w' ⟨d',y,S',o',rfl,hs,hk,ht,hi,hn,ar,hg⟩;have hg:ej S1 S' (2*iD t a x) (iD t a x):=hg;refine⟨_,_,_,S',rfl,hs,hk,rfl,rfl,⟨⟨o',Bt.recs y,ae ⟨d',y,ht,rfl,?_,rfl⟩,fun z hzm=>?_⟩,(g1.trans hg).mono (by omega) (by omega),fun z hzx hz=>(ar z (fun q=>hzx (ax _ q)) (by rw[ad z hz];exact hz)).trans (ad z hz)⟩⟩
    ·rw[hi];exact(Bt.pairs_ins (e:=⟨0,ka,vb,a,b⟩) hx.sorted a5).symm
    ·unfold Bt.recs at hzm
     rcases aj.1 hzm with hm | hm
     ·rcases hn z hm with q | q
      ·exact aa (ax _ q)
      ·refine ae ?_
       cases q2:reco S z with
       | none=>rfl
       | some ws=>
        have:=ad z (by rw[q2];simp);rw[q,q2] at this
        cases this
     ·rw[hi] at hm
      rcases(Bt.blobH_ins z).1 hm with rfl | rfl | q
      ·exact ae n1
      ·exact ae n2
      ·exact aa (aw _ q)
   ·exact qDeac
   ·rintro e w' ⟨x',S3,rfl,h1,h2,h3,h4⟩;exact⟨x',S3,rfl,h1,h2,h3,h4⟩
  | some e0=>
   have an:Bt.getL (pairs (Bt.its x)) a=some e0.v:=by rw[Bt.getL_pairs,hf];rfl
   rw[an];obtain⟨⟨g,n0,k0⟩,a4⟩:=Bt.nodeB_some (key:=a) ai.walk (by rw[hf];rfl);obtain⟨e1,a2⟩:=Bt.rep_at (e:=⟨0,ka,vb,a,b⟩) (Bt.blobs_lt f1 al) ai.walk ai.nodes ai.lts a4;obtain rfl:e1=e0:=Option.some.inj (a2.find.symm.trans hf);obtain⟨S2,a3⟩:∃S2,S2=FC S1 g 0 (bnWords t (Bt.setN n0 k0 ⟨0,ka,vb,a,b⟩)):=⟨_,rfl⟩;obtain⟨i2,b2,lk,lv,d2,S3,ba,bj,bd,g3,a9,bf⟩:=ai.swap al a1 a6 a2 a3;have bb:iV S (pairs (Bt.its x)) (Bt.recs x) (fun S o x L R=>Bt.Holds S o t x L R) a b 20 9 (Bt.hd x) S3:=by
    refine⟨⟨o1,_,ae ⟨d,_,bj,(Bt.mapB_hd _ x).symm,bd.symm,rfl⟩,fun y hy=>?_⟩,(g1.trans g3).mono (by omega) (by omega),fun y hy hz=>(a9 y hy).trans (ad y hz)⟩
    rcases bf y hy with q | rfl | rfl
    ·exact aa q
    ·exact ae n1
    ·exact ae n2
   refine(ny h hx.fit.inv hT hpx a b au a0 true e1.v (R:=fun x' ik iv S'=>x'=Bt.hd x/\ik=e1.kh/\iv=e1.vh/\S'=S2) (R2:=fun x' S'=>iV S (pairs (Bt.its x)) (Bt.recs x) (fun S o x L R=>Bt.Holds S o t x L R) a b 20 9 x' S') rH qu (fun W Z hW _ _=>rA hW true fun V Z' hV=>?_) fun x' ik iv S' hR W Z hW hTW hZ=>?_).mono ?_
   ·refine(zJ hV ai (e:=⟨0,ka,vb,a,b⟩) al a4 a2).mono ?_;rintro e w' ⟨rfl,hs,hk⟩;rw[<-a3] at hs;exact⟨_,_,_,S2,rfl,hs,hk,rfl,rfl,rfl,rfl⟩
   ·obtain⟨rfl,rfl,rfl,rfl⟩:=hR;refine(xL hW i2.inv hTW hZ e1.kh e1.vh lk lv (by rw[b2];simp) d2).mono ?_;rintro e w' ⟨rfl,hs,hk⟩;rw[b2];rw[<-ba] at hs;exact⟨S3,rfl,hs,hk,bb⟩
   ·rintro e w' ⟨x',S4,rfl,h1,h2,h3,h4⟩;exact⟨x',S4,rfl,h1,h2,h3,h4⟩
end
structure pp (S S1:St) (o1:Nat->Nat) (ka vb:Nat) (a b:List UInt8):Prop where
 fit:Fw S1 o1
 k:reco S ka=none
 v:reco S vb=none
 ne:ka≠vb
 bl:gu S1 ⟨0,ka,vb,a,b⟩
 other:∀y,reco S y≠none->reco S1 y=reco S y
 none:∀y,reco S1 y=none->reco S y=none
 grew:ej S S1 6 2
theorem JJ {S Sa S1:St}{o1:Nat->Nat}{ka vb:Nat}{a b:List UInt8}(hf:Fw S1 o1)(n1:mt S Sa ka (FK a))(n2:mt Sa S1 vb (FK b))(g:ej S S1 6 2)(ha:a.length<=1000)(hb:b.length<=1000):pp S S1 o1 ka vb a b:=by
 have ad:vb≠ka:=fun e=>by have:=n2.none;rw[e,n1.some] at this;cases this
 refine⟨hf,n1.none,(n1.other vb ad).symm.trans n2.none,ad.symm,⟨(n2.other ka ad.symm).trans n1.some,n2.some,ha,hb⟩,fun y hy=>?_,fun y hy=>?_,g⟩
 ·have e1:y≠ka:=fun e=>hy (e▸n1.none);have e2:y≠vb:=fun e=>hy ((n1.other y e1).symm.trans (e▸n2.none));exact(n2.other y e2).trans (n1.other y e1)
 ·have e2:y≠vb:=fun e=>by rw[e,n2.some] at hy;cases hy
  have e1:y≠ka:=fun e=>by rw[e,n2.other _ ad.symm,n1.some] at hy;cases hy
  exact(n1.other y e1).symm.trans ((n2.other y e2).symm.trans hy)
theorem JS(hins:∀d,j4 d){w:World}{ps t root ka vb:Nat}{S S1:St}{o o1:Nat->Nat}{Y:Nat->Prop}{L:List (List UInt8×List UInt8)}{R:List Nat}{a b:List UInt8}(h:Ig w ps S1 Y)(hH:Bt.Holds S o t root L R)(hn:pp S S1 o1 ka vb a b)(hg:Bt.getL L a=none)(hc:L.length<126)(hr:fc S1 14 7):
 Ct 137 #[PV ps,Xi t,Xu root,Id ka vb] w fun e w'=>∃(x:Nat) (S':St),e=.returned (.tuple #[Xu x,Id 0 0,.bool false,Xi 0])/\Ig w' ps S' Y/\Fo Y w w'/\iV S L R (fun S o x L R=>Bt.Holds S o t x L R) a b 20 9 x S':=by
 rcases hH with⟨hE,rfl,rfl,rfl⟩ | ⟨d,x,hx,rfl,rfl,rfl⟩
 ·refine(zH h ⟨hn.fit,hE.t1,hE.t2⟩ (e:=⟨0,ka,vb,a,b⟩) ⟨hn.bl,hn.ne⟩ (hr.mono (by omega) (by omega))).mono ?_;rintro e w' ⟨y,S',o',rfl,hs,hk,ht,hi,ai,ad,hg⟩;refine⟨_,S',rfl,hs,hk,⟨⟨o',Bt.recs y,ae ⟨0,y,ht,rfl,?_,rfl⟩,fun z hzm=>?_⟩,(hn.grew.trans hg).mono (by omega) (by omega),fun z _ hz=>(ad z (by rw[hn.other z hz];exact hz)).trans (hn.other z hz)⟩⟩
  ·rw[hi]
   rfl
  ·refine ae ?_;unfold Bt.recs at hzm
   rcases aj.1 hzm with hm | hm
   ·exact hn.none z (ai z hm)
   ·rw[hi] at hm;have hm:z∈ [ka,vb]:=hm
    rcases ag.1 hm with rfl | hm
    ·exact hn.k
    ·rw[aS.1 hm];exact hn.v
 ·have an:Bt.Tree S1 o1 t x:=hx.frame hn.fit fun y hy=>hn.other y (hx.has y hy);have ar:(Bt.its x).length<126:=by rw[jT] at hc;exact hc
  have au:d<=5:=by
   exact qDeab
  have al:∀z∈Bt.its x,z.k≠a:=fun z hz q=>by
   rw[Bt.getL_pairs] at hg;have hf:=Option.map_eq_none_iff.1 hg;unfold Bt.findB at hf;have:=bB.1 hf z hz;rw[q] at this
   simp at this
  have hq:=(oE t a x).2;refine(zI hins h an (e:=⟨0,ka,vb,a,b⟩) ⟨hn.bl,hn.ne,⟨fun q=>hx.has _ q hn.k,fun q=>hx.has _ q hn.v⟩,al,by omega⟩ (hr.mono (by show 2*iD t a x<=14;omega) (by show iD t a x<=7;omega))).mono ?_;rintro e w' ⟨d',y,S',o',rfl,hs,hk,ht,hi,ai,ad,hg⟩;have hg:ej S1 S' (2*iD t a x) (iD t a x):=hg;refine⟨_,S',rfl,hs,hk,⟨⟨o',Bt.recs y,ae ⟨d',y,ht,rfl,?_,rfl⟩,fun z hzm=>?_⟩,(hn.grew.trans hg).mono (by omega) (by omega),fun z hzx hz=>(ad z (fun q=>hzx (ax _ q)) (by rw[hn.other z hz];exact hz)).trans (hn.other z hz)⟩⟩
  ·rw[hi];exact(Bt.pairs_ins (e:=⟨0,ka,vb,a,b⟩) hx.sorted al).symm
  ·unfold Bt.recs at hzm
   rcases aj.1 hzm with hm | hm
   ·exact(ai z hm).imp (ax _) (hn.none z)
   ·rw[hi] at hm
    rcases(Bt.blobH_ins z).1 hm with rfl | rfl | q
    ·exact ae hn.k
    ·exact ae hn.v
    ·exact aa (aw _ q)
structure mn (w:World) (ps:Nat) (S:St) (Y:Nat->Prop) (D:Nat) (v:Value) (L:List Nat):Prop where
 st:Ig w ps S (fun k=>Y k\/v.ownBlock=some k)
 own:FE w D v L
 lo:fy<D/\D<=w.heap.size
 off:∀g,v.ownBlock=some g->¬Y g
section
variable {w w':World}{ps D:Nat}{S:St}{Y Z:Nat->Prop}{v:Value}{L:List Nat}
theorem mn.wide(h:mn w ps S Y D v L)(hb:Below w.heap.size w w'):mn w' ps S (fun k=>Y k\/(w.heap.size<=k/\k<w'.heap.size)) D v L:=by
 refine⟨(h.st.wide hb).mono fun k hk=>?_,h.own.at fun g e=>hb.block g (h.own.ge g e).2,⟨h.lo.1,aK h.lo.2 hb.size⟩,fun g e hk=>?_⟩
 ·rcases hk with (hk | hk) | hk
  ·exact aa (aa hk)
  ·exact ae hk
  ·exact aa (ae hk)
 ·rcases hk with hk | hk
  ·exact h.off g e hk
  ·have:=(h.own.ge g e).2;omega
theorem mn.mono(h:mn w ps S Y D v L)(hz:∀k,Z k->Y k):mn w ps S Z D v L:=⟨h.st.mono fun k hk=>hk.imp (hz k) id,h.own,h.lo,fun g e hk=>h.off g e (hz g hk)⟩
theorem mn.below(h:mn w ps S Y D v L)(hb:Below w.heap.size w w'):mn w' ps S Y D v L:=(h.wide hb).mono fun _ hk=>aa hk
theorem mn.append(h:mn w ps S Y D v L)(hl:L.length<=100000)(x:Nat)(ty:TypeId):
 ∃v' w',(Builtin.append_ #[59,59] ty #[v,.slice (some ⟨w.heap.size,0,none⟩) 1 1]).run prog (w.alloc (Xf x))=.ok v' w'/\mn w' ps S Y D v' (L++[x])/\Fo Y w w'/\Below D w w':=by
 obtain⟨v2,w2,ar,ai,ad,al⟩:=jF h.own hl x h.lo.2 ty;have an:∀k,Y k->k<w.heap.size:=fun k hk=>h.st.yl k (aa hk);refine⟨v2,w2,ar,⟨h.st.row h.lo.1 h.own ai ad al,ai,⟨h.lo.1,aK h.lo.2 ad.size⟩,fun g e hk=>?_⟩,⟨ad.os,ad.tape,ad.output,ad.size,fun k hk=>ad.block k (an k hk) fun e=>h.off k e.symm hk⟩,ad.os,ad.tape,ad.output,ad.size,fun k hk=>ad.block k (aX hk h.lo.2) fun e=>by have:=(h.own.ge k e.symm).1;omega⟩
 rcases al with q | ⟨g',q,hg⟩
 ·rw[q] at e;exact h.off g e hk
 ·rw[q] at e;obtain rfl:g'=g:=Option.some.inj e;have:=an _ hk;omega
end
theorem JN {ps t:Nat}{S:St}{o:Nat->Nat}:∀(d:Nat) (x:Bt d),Bt.Walk S o t x->∀{w:World} {Y:Nat->Prop} {D most dp:Nat} {v:Value} {L:List Nat},mn w ps S Y D v L->dp+d<=40->L.length+(Bt.nodes x).length<=most->most<=100000->
 Ct 80 #[FH ps t,v,Xu (Bt.hd x:Nat),Xi most,Xi dp] w fun e w'=>∃v',e=.returned v'/\mn w' ps S Y D v' (L++Bt.nodes x)/\Fo Y w w'/\Below D w w':=by
 intro d;induction d with
 | zero=>exact fun x=>nomatch x
 | succ d ih=>
  intro x hx w Y D most dp v L h hd hl hm;have hn:(Bt.nodes x).length=1+((Bn.ks x).map fun k=>Bt.nodes k).flatten.length:=by
   show (Bn.h x::((Bn.ks x).map fun k=>Bt.nodes k).flatten).length=_
   rw[ak,dR]
  have B0:=(ab w.heap.size w).alloc Ih (Xc ps t);have q0:=heap_alloc_new w (Xc ps t);have z0:(w.alloc (Xc ps t)).heap.size=w.heap.size+1:=by simp
  have hg:=kI ((h.below B0).st) hx.fit.inv hx.read;obtain⟨A,c,rfl⟩:=h.own.slice2;have a5:((most:Int)<=(L.length:Int))=False:=eq_false (by omega);have a3:((dp:Int)==40)=false:=by simp;omega
  have HG:=kq7 hg h B0 q0 ih hx hl;unfold FH;obtain⟨c0,c1⟩:=Fp q0;clear hg h B0 q0 ih hl hx;go_enter func80,ntmps80;go_wp2_with fail;refine HG.a.mono ?_;rintro e w1 ⟨vk,vv,vc,rfl,hr,hb⟩;obtain⟨kA,km,kc,rfl⟩:=hr.k.slice;obtain⟨vA,vm,vC,rfl⟩:=hr.v.slice;obtain⟨cA,cc,rfl⟩:=hr.c.slice2;unfold eC;obtain⟨n,au⟩:=Ii (Bt.bn x).size;obtain⟨m,ai⟩:=Ii (Bt.bn x).kids.length;have al:m=(Bn.ks x).length:=by rw[<-ai];exact ao _
  have a6:m<=100:=by
   have h1:=HG.f.ok.1;have h2:=HG.f.ok.2.1;have:=HG.f.t2;rw[al];split at h2<;>omega
  rw[au,ai];have A1:=(ab w1.heap.size w1).alloc Ih (.cells #[.slice kA km kc,.slice vA vm vC,.slice cA m cc,Xu n] 215);have q1:=heap_alloc_new w1 (.cells #[.slice kA km kc,.slice vA vm vC,.slice cA m cc,Xu n] 215);have C1:=HG.c.trans (hb.mono HG.c.size);have C2:=C1.trans (A1.mono C1.size);have o2:=HG.b.wide C2;have z2:(w1.alloc (.cells #[.slice kA km kc,.slice vA vm vC,.slice cA m cc,Xu n] 215)).heap.size=w1.heap.size+1:=by simp
  have s1:=C1.size;obtain⟨v3,w3,an,o3,k3,e3⟩:=o2.append (by have:=HG.g;omega) (Bt.hd x) 59;have bl:∀k,w.heap.size<=k->k<w1.heap.size+1->w3.heap[k]?=(w1.alloc (.cells #[.slice kA km kc,.slice vA vm vC,.slice cA m cc,Xu n] 215)).heap[k]?:=fun k h1 h2=>k3.block k (ae ⟨h1,by rw[z2];exact h2⟩);have q3:=(bl w1.heap.size s1 (by omega)).trans q1;have t3:=(bl w.heap.size Ih (by omega)).trans ((A1.block _ (by have:=hb.size;omega)).trans ((hb.block _ (by omega)).trans HG.d));obtain⟨b0,b1,b2,b3⟩:=Fy q3;rw[z2] at o3 k3 an;have hrow:∀W,Fo (fun k=>Y k\/(w.heap.size<=k/\k<w1.heap.size+1)) w3 W->FD W (.slice cA m cc) ((Bn.ks x).map Bt.hd):=fun W hW=>by
   have hw:=hr.c;rw[ai] at hw;refine hw.hrow.keeps fun g e _=>?_;have ar:=hw.ge g e;rw[z0] at ar;exact(hW.block g (ae ⟨by omega,by omega⟩)).trans ((bl g (by omega) (by omega)).trans (A1.block g ar.2))
  have o3:mn w3 ps S (fun k=>Y k\/(w.heap.size<=k/\k<w1.heap.size+1)) D v3 (L++Bt.hd x::(((Bn.ks x).take 0).map fun k=>Bt.nodes k).flatten):=o3;have H3:=kq4 o3 hrow t3 (k3.mono (Z:=Y) fun k hk=>aa hk);have a1:=If (Fo.of_below C2 fun k hk=>HG.b.st.yl k (aa hk):Fo Y w _);have HE:=If ((C2.mono HG.b.lo.2).trans e3);have HB:=kq4 s1 hn al hm;clear e3 hn au ai al hm o3 hrow t3 k3 q3 bl q1 C1 C2 o2 A1 hr hb s1 z0 z2;go_wp2_with (at_builtin;refine Lib.wpList_append_run _ rfl _ _ _ _ rfl _ _ rfl rfl _ _ an ?_)
  clear b0 b1 b2 b3 c0 c1 an;go_loopw [1,14,41] (fun s1 _ s41 wr=>∃j:Nat,s41=Xi j/\j<=m/\Hid (mn wr ps S (fun k=>Y k\/(w.heap.size<=k/\k<w1.heap.size+1)) D s1 (L++Bt.hd x::(((Bn.ks x).take j).map fun k=>Bt.nodes k).flatten)/\Fo (fun k=>Y k\/(w.heap.size<=k/\k<w1.heap.size+1)) w3 wr/\Below D w3 wr)) (fun _ _ s41 _=>m-(intOf s41).toNat)
  case atStart=>exact⟨0,rfl,by omega,H3.a,Fo.refl _ _,ab _ _⟩
  case round=>
   obtain⟨j,rfl,a4,J0⟩:=hrel;by_cases hj:j<m
   ·have a2:(j:Int)<m:=by omega
    have ad:j<(Bn.ks x).length:=by have:=HB.c;omega
    obtain⟨g,o5,rfl,r0⟩:=(H3.b _ J0.out.2.1).at (af ad);have t5:=(J0.out.2.1.block w.heap.size (ae ⟨Nat.le_refl _,by have:=HB.a;omega⟩)).trans H3.c;obtain⟨c0,c1⟩:=Fp t5;have a0:(L++Bt.hd x::(((Bn.ks x).take j).map fun k=>Bt.nodes k).flatten).length+(Bt.nodes (Bn.ks x)[j]).length<=most:=by
     have h1:=HG.g;rw[HB.b] at h1;have h2:(((Bn.ks x).take (j+1)).map fun k=>Bt.nodes k).flatten.length<=((Bn.ks x).map fun k=>Bt.nodes k).flatten.length:=by
      conv=>rhs;rw[<-aQ (j+1) (Bn.ks x),aJ,cD,aD]
      omega
     rw[aO ad,aJ,cD,aD] at h2;simp only[aL,List.map_nil,cP,List.flatten_nil,bP] at h2;simp only[aD,ak];omega
    have hi:=HG.e (Bn.ks x)[j] (HG.f.kid (aF ad)) (dp:=dp+1) (most:=most) J0.out.1 (by omega) a0 HB.d;have HI:=If hi;clear hi a0 t5;unfold FH at HI;go_wp2_with fail;refine HI.out.mono ?_;rintro e w5 ⟨v5,rfl,o5,k5,e5⟩;have H5:=kq3 o5 (J0.out.2.1.trans k5) (J0.out.2.2.trans e5);clear o5 k5 e5 c0 c1 r0;go_wp2_with fail;go_roundw
    case rel=>
     refine⟨j+1,by simp,by omega,?_,H5.out.2⟩;have:=H5.a;rw[bK] at this;rw[aO ad,aJ,cD,aL,List.map_nil,cP,List.flatten_nil,bP];exact this
    case measure=>simp[intOf];omega
   ·obtain rfl:j=m:=by omega
    have a2:¬(j:Int)<j:=by omega
    have h1:=J0.out.1;rw[aZ (dS HB.c.symm)] at h1;have H5:=kq2 (h1.mono (Z:=Y) fun k hk=>aa hk) (H3.d.trans (J0.out.2.1.mono fun k hk=>aa hk));clear h1;go_wp2_with fail;go_ret;exact⟨_,rfl,H5.a,(a1.out).trans H5.b,HE.out.trans J0.out.2.2⟩
theorem zZ {w:World}{ps:Nat}{S:St}{Y:Nat->Prop}(h:Ig w ps S Y)(hi:Fv S){t:Nat}(t1:2<=t)(t2:t<=16):
 Ct 87 #[PV ps,Xi 3,Xi t] w fun e w'=>e=.returned (Xi 0)/\w=w':=by
 have ad:=fB h hi 0 (by omega);rw[fU] at ad;have ai:=fun W=>pW t t1 t2 W;have h6:((6*(t:Int))==0)=false:=by simp;omega
 have HG:=kq2 ad ai;clear ad h hi ai;go_enter func87,ntmps87;go_wp2_with fail;refine Jc HG.a ?_;go_wp2_with fail;refine Jc (HG.b _) ?_;go_wp2_with fail;go_ret;exact⟨rfl,rfl⟩
theorem zU {w:World}{ps:Nat}{S:St}{Y:Nat->Prop}(h:Ig w ps S Y)(hi:Fv S){t:Nat}(t1:2<=t)(t2:t<=16):
 Ct 133 #[PV ps,Xi t,Xu 0] w fun e w'=>e=.returned (Xi 0)/\w=w':=by
 have HG:=If (kZ h hi t1 t2);clear h hi;go_enter func133,ntmps133;go_wp2_with fail;refine Jc HG.out ?_;go_wp2_with fail;go_ret;exact⟨rfl,rfl⟩
theorem qc {w:World}{ps:Nat}{S:St}{Y:Nat->Prop}(h:Ig w ps S Y)(hi:Fv S){t:Nat}(t1:2<=t)(t2:t<=16):
 Ct 86 #[PV ps,Xi 3,Xi t,Xu 0] w fun e w'=>e=.returned (Xi 0)/\w=w':=by
 have HG:=kq2 (zZ h hi t1 t2) (zU h hi t1 t2);clear h hi;go_enter func86,ntmps86;go_wp2_with fail;refine Jc HG.a ?_;go_wp2_with fail;refine Jc HG.b ?_;go_wp2_with fail;go_ret;exact⟨rfl,rfl⟩
theorem Cy {w:World}{ps:Nat}{S:St}{Y:Nat->Prop}(h:Ig w ps S Y)(hi:Fv S){t:Nat}(t1:2<=t)(t2:t<=16):
 Ct 47 #[PV ps,Xi 3,Xi t,Xu 0] w fun e w'=>∃px,e=.returned (.tuple #[PV px,Xi 0])/\jE w' px ps t 0/\Below w.heap.size w w'/\w.heap.size<=px:=by
 have HG:=If (qc h hi t1 t2);have q:=heap_alloc_new w (.cells #[PV ps,Xi 3,Xi t,.iface 164 (.agg #[PV ps,Xi t]),Xu 0] 100);have B:=(ab w.heap.size w).alloc Ih (.cells #[PV ps,Xi 3,Xi t,.iface 164 (.agg #[PV ps,Xi t]),Xu 0] 100);have HB:=kq2 q B;clear h hi q B;go_enter func47,ntmps47;go_wp2_with fail;refine Jc HG.out ?_;go_wp2_with fail;go_ret2;exact⟨w.heap.size,rfl,HB.a,HB.b,Nat.le_refl _⟩
theorem Cv {w:World}{ps:Nat}{S:St}{Y:Nat->Prop}(h:Ig w ps S Y)(hi:Fv S){t:Nat}(t1:2<=t)(t2:t<=16):
 Ct 13 #[PV ps,Xi 3,Xi t] w fun e w'=>∃px,e=.returned (.tuple #[PV px,Xi 0])/\jE w' px ps t 0/\Below w.heap.size w w'/\w.heap.size<=px:=by
 have HG:=If (Cy h hi t1 t2);clear h hi;go_enter func13,ntmps13;go_wp2_with fail;refine HG.out.mono ?_;rintro e w1 ⟨px,rfl,hr⟩;have HB:=If hr;clear hr;go_wp2_with fail;go_ret2;exact⟨px,rfl,HB.out⟩
structure jo where
 On:World->Nat->Nat->Nat->Prop
 Hold:St->(Nat->Nat)->Nat->List (List UInt8×List UInt8)->List Nat->Prop
structure pL (K:jo):Prop where
 onBelow:∀{w w':World} {px ps root:Nat},K.On w px ps root->Below w.heap.size w w'->K.On w' px ps root
 onKeep:∀{w w':World} {px ps root:Nat} {Y:Nat->Prop},K.On w px ps root->Fo Y w w'->Y px->K.On w' px ps root
 onLt:∀{w:World} {px ps root:Nat},K.On w px ps root->px<w.heap.size
 onAt:∀{w w':World} {px ps root:Nat},K.On w px ps root->w'.heap[px]?=w.heap[px]?->K.On w' px ps root
 fit:∀{S:St} {o:Nat->Nat} {root:Nat} {L:List (List UInt8×List UInt8)} {R:List Nat},K.Hold S o root L R->Fw S o
 has:∀{S:St} {o:Nat->Nat} {root:Nat} {L:List (List UInt8×List UInt8)} {R:List Nat},K.Hold S o root L R->∀y∈R,reco S y≠none
 frame:∀{S S':St} {o o':Nat->Nat} {root:Nat} {L:List (List UInt8×List UInt8)} {R:List Nat},K.Hold S o root L R->Fw S' o'->(∀y∈R,reco S' y=reco S y)->K.Hold S' o' root L R
 sorted:∀{S:St} {o:Nat->Nat} {root:Nat} {L:List (List UInt8×List UInt8)} {R:List Nat},K.Hold S o root L R->L.Pairwise fun p q=>Fu p.1 q.1<0
 len:∀{w:World} {px ps root:Nat} {S:St} {o:Nat->Nat} {Y:Nat->Prop} {L:List (List UInt8×List UInt8)} {R:List Nat},Ig w ps S Y->K.Hold S o root L R->L.length<98->K.On w px ps root->
  Cb 19 #[PV px] w (Xi (L.length:Nat))
 rank:∀{w:World} {px ps root:Nat} {S:St} {o:Nat->Nat} {Y:Nat->Prop} {L:List (List UInt8×List UInt8)} {R:List Nat},Ig w ps S Y->K.Hold S o root L R->L.length<98->K.On w px ps root->∀k:List UInt8,
  Cb 16 #[PV px,SV k] w (Xi (eK L k:Nat))
 get:∀{w:World} {px ps root:Nat} {S:St} {o:Nat->Nat} {Y:Nat->Prop} {L:List (List UInt8×List UInt8)} {R:List Nat},Ig w ps S Y->K.Hold S o root L R->L.length<98->K.On w px ps root->∀k:List UInt8,
  Cb 17 #[PV px,SV k] w (.tuple #[SV ((Bt.getL L k).getD []),.bool (Bt.getL L k).isSome])
 at':∀{w:World} {px ps root:Nat} {S:St} {o:Nat->Nat} {Y:Nat->Prop} {L:List (List UInt8×List UInt8)} {R:List Nat},Ig w ps S Y->K.Hold S o root L R->L.length<98->K.On w px ps root->∀(k:Nat) (p:List UInt8×List UInt8),L[k]?=some p->
  Cb 18 #[PV px,Xi k] w (.tuple #[eu p,Xi 0])
 atRef:∀{w:World} {px ps root:Nat} {S:St} {o:Nat->Nat} {Y:Nat->Prop} {L:List (List UInt8×List UInt8)} {R:List Nat},Ig w ps S Y->K.Hold S o root L R->L.length<98->K.On w px ps root->∀k:Int,k<2^62->(k<0\/(L.length:Int)<=k)->
  Cb 18 #[PV px,Xi k] w (.tuple #[eu ([],[]),Xi 2])
structure gB (K:jo) (P:List (List UInt8×List UInt8)->Prop):Prop extends pL K where
 put:∀{w:World} {px ps root:Nat} {S:St} {o:Nat->Nat} {Y:Nat->Prop} {L:List (List UInt8×List UInt8)} {R:List Nat},Ig w ps S Y->K.Hold S o root L R->L.length<98->K.On w px ps root->Y px->P L->∀a b:List UInt8,a.length<=1000->b.length<=1000->fc S 20 9->
  Ct 43 #[PV px,eu (a,b)] w fun e w'=>∃(x:Nat) (S3:St),e=.returned (.tuple #[SV ((Bt.getL L a).getD []),.bool (Bt.getL L a).isSome,Xi 0])/\Ig w' ps S3 Y/\Fo (fun k=>Y k/\k≠px) w w'/\K.On w' px ps x/\iV S L R K.Hold a b 20 9 x S3
def mS(t:Nat):jo:=⟨fun w px ps root=>jE w px ps t root,fun S o root L R=>Bt.Holds S o t root L R⟩
theorem uY {l:List It}(h:l.Pairwise eU):(pairs l).Pairwise fun p q=>Fu p.1 q.1<0:=by
 unfold pairs;exact dQ.2 (h.imp fun {a b} q=>q)
theorem CA(t:Nat):pL (mS t) where
 onBelow h hb:=FF.below h hb
 onKeep h hk hy:=FF.keep h hk hy
 onLt h:=(gl h)
 onAt h e:=e.trans h
 fit h:=Bt.Holds.fit h
 has h:=Bt.Holds.has h
 frame h:=Bt.Holds.frame h
 sorted h:=by
  rcases h with⟨_,_,rfl,_⟩ | ⟨_,_,h,_,rfl,_⟩
  ·exact List.Pairwise.nil
  ·exact uY h.sorted
 len h hH _ hT:=CF h hH hT
 rank h hH _ hT k:=CH h hH hT k
 get h hH _ hT k:=CE h hH hT k
 at' h hH _ hT k p hk:=CC h hH hT k hk
 atRef h hH _ hT k _ hk:=CD h hH hT k hk
theorem Cw(hins:∀d,j4 d)(t:Nat){P:List (List UInt8×List UInt8)->Prop}:gB (mS t) P:=
 { CA t with put:=fun h hH hc hT hpx _ _ b ha hb hr=>CG (fun _ _=>hins) h hH hT hpx b ha hb (by omega) hr }
def jH(kind:Nat)(Ok:Tr->Prop):jo:=⟨fun w px ps root=>FF w px ps 162 (fE ps kind) kind 0 root,fun S o root L R=>∃t:Tr,fC Ok S o t/\root=t.root/\L=pairs t.its/\R=eB t.its⟩
theorem At.item {S:St}:∀{t:Tr},Tr.At S t->∀d∈t.its,∃n0:Nd,reco S d.h=some (eM n0)/\n0.key=d.kh/\n0.val=d.vh
 | .nil,_,d,hd=>by cases hd
 | .node l e m r,ha,d,hd=>by
  obtain⟨h1,h2,h3⟩:=ha;rcases aj.1 (show d∈l.its++e::r.its from hd) with hd | hd
  ·exact At.item h2 d hd
  ·rcases ag.1 hd with rfl | hd
   ·exact⟨_,h1,rfl,rfl⟩
   ·exact At.item h3 d hd
theorem tM {Ok:Tr->Prop}{S:St}{o:Nat->Nat}{t:Tr}(h:fC Ok S o t)(hc:t.its.length<98)(key:List UInt8):∃hh,ij S key (Lf.limit S) t.root 0=some (hh,eK (pairs t.its) key)/\((hh=0/\Bt.getL (pairs t.its) key=none)\/∃d:It,hh=d.h/\d.h≠0/\d.h<2^64/\Bt.getL (pairs t.its) key=some d.v/\gD S (getNode S d.h).1.val=some d.v):=by
 obtain⟨hh,e,q⟩:=h.down (by omega) key;rw[<-ue] at e;refine⟨hh,e,?_⟩;rw[Bt.getL_pairs]
 rcases q with⟨rfl,q⟩ | ⟨d,hd,hk,rfl⟩
 ·rw[Bt.findB_none q];exact aa ⟨rfl,rfl⟩
 ·obtain⟨n0,e1,e2,e3⟩:=At.item h.at' d hd;have hf:Bt.findB key t.its=some d:=by
   cases hf:Bt.findB key t.its with
   | none=>
    unfold Bt.findB at hf;have:=bB.1 hf d hd;rw[hk] at this
    simp at this
   | some d'=>
    unfold Bt.findB at hf;have hm:=bI hf;have ad:d'.k=key:=by simpa using cE hf
    have hp:=h.sorted;rw[bJ] at hp;obtain⟨i,hi,rfl⟩:=bT.1 hd;obtain⟨j,hj,rfl⟩:=bT.1 hm;have ai:∀i j (hi:i<t.its.length) (hj:j<t.its.length),i<j->t.its[i].k≠t.its[j].k:=fun i j hi hj hij q=>by
     have:=hp i j hi hj hij;unfold eU at this;rw[q,fX] at this;omega
    rcases Nat.lt_trichotomy i j with q | q | q
    ·exact absurd (hk.trans ad.symm) (ai i j hi hj q)
    ·subst q
     rfl
    ·exact absurd (ad.trans hk.symm) (ai j i hj hi q)
  have ho:=fL h.fit e1;have hb:=h.blobs d hd;rw[hf];refine ae ⟨d,rfl,by omega,ho.2.1,rfl,?_⟩;rw[gw h.fit e1,e3];exact At.blob h.fit hb.lv hb.v
theorem nZ(L:List (List UInt8×List UInt8))(a:List UInt8):eK L a<=L.length:=bY
theorem AL(args:Array Value)(w:World):(callFunc 304 args).run prog w=.ok (.enter 304 args) w:=by kernel_rfl
theorem AK(args:Array Value)(w:World):(callFunc 302 args).run prog w=.ok (.enter 302 args) w:=by kernel_rfl
theorem qt(args:Array Value)(w:World):(callFunc 299 args).run prog w=.ok (.enter 299 args) w:=by kernel_rfl
theorem ui(args:Array Value)(w:World):(callFunc 300 args).run prog w=.ok (.enter 300 args) w:=by kernel_rfl
theorem uj(args:Array Value)(w:World):(callFunc 301 args).run prog w=.ok (.enter 301 args) w:=by kernel_rfl
theorem zg(kind:Nat)(Ok:Tr->Prop):pL (jH kind Ok) where
 onBelow h hb:=FF.below h hb
 onKeep h hk hy:=FF.keep h hk hy
 onLt h:=(gl h)
 onAt h e:=e.trans h
 fit h:=by obtain⟨t,h,_⟩:=h;exact h.fit
 has h:=by obtain⟨t,h,_,_,rfl⟩:=h;exact h.some
 frame h hf hs:=by obtain⟨t,h,h1,h2,rfl⟩:=h;exact⟨t,h.frame hf hs,h1,h2,rfl⟩
 sorted h:=by obtain⟨t,h,_,rfl,_⟩:=h;exact uY h.sorted
 len h hH hc hT:=by
  obtain⟨t,hb,rfl,rfl,rfl⟩:=hH;rw[jT] at hc⊢;exact xM hT Da AL fun _ hW=>zh (h.below hW) hb.fit.inv kind _ (hb.at'.root_lt hb.fit) (hb.at'.size hb.fit (by omega))
 rank h hH hc hT k:=by
  obtain⟨t,hb,rfl,rfl,rfl⟩:=hH;rw[jT] at hc;obtain⟨hh,e,_⟩:=tM hb hc k;exact xO hT k C9 AK fun _ hW=>zf (h.below hW) hb.fit.inv kind _ (hb.at'.root_lt hb.fit) k (by unfold oP;rw[e];rfl)
 get {w px ps root S o Y L R} h hH hc hT k:=by
  obtain⟨t,hb,rfl,rfl,rfl⟩:=hH;rw[jT] at hc;have hl:=hb.at'.root_lt hb.fit;obtain⟨hh,e,⟨rfl,q⟩ | ⟨d,rfl,q1,q2,q,q3⟩⟩:=tM hb hc k
  ·rw[q];refine nu (t:=[]) (e1:=0) hT k 0 0 false (fun _=>rfl) (fun e=>nomatch e) vP ui fun W hW=>?_;have:=tL (h.below hW) hb.fit.inv kind t.root hl k e (by simp);simpa[Id,qM,Nd.zero] using this
  ·rw[q];obtain⟨b1,b2⟩:=sS q3;refine nu hT k (getNode S d.h).1.key (getNode S d.h).1.val true d.v (fz S (getNode S d.h).1.val).2 (fun e=>nomatch e) (fun _ W hW=>?_) vP ui fun W hW=>?_
   ·have:=iz (h.below hW) hb.fit.inv _ (fs h d.h).val b1;rwa[b2] at this
   ·have:=tL (h.below hW) hb.fit.inv kind t.root hl k e q2;simpa[Id,q1] using this
 at' h hH hc hT k p hp:=by
  obtain⟨t,hb,rfl,rfl,rfl⟩:=hH;rw[jT] at hc;obtain⟨ad,ar⟩:=az.1 hp;rw[jT] at ad;have al:=hb.place (by omega) ad;have hq:(pairs t.its)[k]?=some (t.its[k].k,t.its[k].v):=by unfold pairs;rw[bi,af ad];rfl
  have:p=(t.its[k].k,t.its[k].v):=Option.some.inj (hp.symm.trans hq);rw[<-this] at al;have hl:=hb.at'.root_lt hb.fit;obtain⟨hh,an,h1,h2,h3⟩:=EQ al;obtain⟨b1,b2⟩:=sS h2;obtain⟨b3,b4⟩:=sS h3;have ai:=fs h hh;exact xH hT (k:Int) p _ _ _ _ 0 (aa rfl) rI qt (fun W hW=>tK (h.below hW) hb.fit.inv kind t.root hl k (by omega) h1 an)
   (fun _ W hW=>by have:=iz (h.below hW) hb.fit.inv _ ai.key b1;rwa[b2] at this) (fun _ W hW=>by have:=iz (h.below hW) hb.fit.inv _ ai.val b3;rwa[b4] at this)
 atRef {w px ps root S o Y L R} h hH hc hT k hk2 hk:=by
  obtain⟨t,hb,rfl,rfl,rfl⟩:=hH;rw[jT] at hc hk;have hl:=hb.at'.root_lt hb.fit;by_cases h0:k<0
  ·refine xH hT k ([],[]) 0 0 0 0 2 (ae ⟨rfl,rfl⟩) rI qt (fun W hW=>?_) (fun e=>nomatch e) fun e=>nomatch e;have:=za (h.below hW) hb.fit.inv kind t.root k h0;simpa[Id,qM,Nd.zero] using this
  ·obtain⟨n,rfl⟩:∃n:Nat,k=n:=⟨k.toNat,by omega⟩;exact xH hT (n:Int) ([],[]) (getNode S 0).1.key (getNode S 0).1.val 0 0 2 (ae ⟨rfl,rfl⟩) rI qt (fun W hW=>tK (h.below hW) hb.fit.inv kind t.root hl n (by omega) (hb.over (by omega) (by omega)) (by decide)) (fun e=>nomatch e) fun e=>nomatch e
theorem pU {kind:Nat}{j c:FuncId}{jn:Jn}{Ok:Tr->Prop}(hk:jD kind j c jn)(J:kV jn Ok){P:List (List UInt8×List UInt8)->Prop}:gB (jH kind Ok) P where
 topL:=zg kind Ok
 put {w px ps root S o Y L R} h hH hc hT hpx _ a b ha hb' hr:=by
  obtain⟨t,hb,rfl,rfl,rfl⟩:=hH;rw[jT] at hc;have a1:=hr.mono (p':=7) (q':=3) (by omega) (by omega);have hl:=hb.at'.root_lt hb.fit;cases hf:Bt.findB a t.its with
  | none=>
   have an:Bt.getL (pairs t.its) a=none:=by rw[Bt.getL_pairs,hf];rfl
   have a3:∀z∈t.its,z.k≠a:=fun z hz q=>by
    unfold Bt.findB at hf;have:=bB.1 hf z hz;rw[q] at this;simp at this
   rw[an];obtain⟨u,S',o',po,ad,hB,ar,_,hg,al,au⟩:=DI J hb hc ha hb' a1 a3;unfold treePutM at ad;split at ad
   ·cases ad
   rename_i p S1 hit;have ai:iV S (pairs t.its) (eB t.its) (jH kind Ok).Hold a b 20 9 u.root S':=⟨⟨o',eB u.its,⟨u,hB,rfl,ar.symm,rfl⟩,au⟩,hg.mono (by omega) (by omega),al⟩;refine ny h hb.fit.inv hT hpx a b po.1 hit false [] (R:=fun x ik iv S2=>x=u.root/\ik=0/\iv=0/\S2=S') (R2:=fun x S2=>iV S (pairs t.its) (eB t.its) (jH kind Ok).Hold a b 20 9 x S2) vQ uj (fun W Z hW hp1 hp2=>?_) fun x ik iv S2 hR W Z hW _ _=>?_
   ·refine(zc hW (po.2 _ _ hit) hk t.root p.1 p.2 hl hp1 hp2 ad).mono ?_;rintro e w' ⟨rfl,h1,h2,_,_⟩;exact⟨_,_,_,S',rfl,h1,h2,rfl,rfl,rfl,rfl⟩
   ·obtain⟨rfl,rfl,rfl,rfl⟩:=hR;refine wx (sV px 0 0 W) fun w' hb=>?_;exact⟨_,rfl,hW.below hb,hW.keep hb,ai⟩
  | some d=>
   have an:Bt.getL (pairs t.its) a=some d.v:=by rw[Bt.getL_pairs,hf];rfl
   rw[an];have hd:d∈t.its:=by unfold Bt.findB at hf;exact bI hf
   have a2:d.k=a:=by unfold Bt.findB at hf;simpa using cE hf
   have a0:=Bt.blobs_lt hb.fit (hb.blobs d hd);obtain⟨u,S6,S8,o',po,ad,f6,b6,i6,e8,hB,ar,_,hg,al,au⟩:=DJ J hb hc ha hb' a1 hd a2;unfold treeRepM at ad;split at ad
   ·cases ad
   rename_i p S1 hit;have ai:iV S (pairs t.its) (eB t.its) (jH kind Ok).Hold a b 20 9 u.root S8:=⟨⟨o',eB u.its,⟨u,hB,rfl,ar.symm,rfl⟩,au⟩,hg.mono (by omega) (by omega),al⟩;refine ny h hb.fit.inv hT hpx a b po.1 hit true d.v (R:=fun x ik iv S2=>x=u.root/\ik=d.kh/\iv=d.vh/\S2=S6) (R2:=fun x S2=>iV S (pairs t.its) (eB t.its) (jH kind Ok).Hold a b 20 9 x S2) vQ uj (fun W Z hW hp1 hp2=>?_) fun x ik iv S2 hR W Z hW hTW hZ=>?_
   ·refine(zd hW (po.2 _ _ hit) hk t.root p.1 p.2 hl hp1 hp2 ad f6.inv).mono ?_;rintro e w' ⟨rfl,h1,h2,_,_⟩;exact⟨_,_,_,S6,rfl,h1,h2,rfl,rfl,rfl,rfl⟩
   ·obtain⟨rfl,rfl,rfl,rfl⟩:=hR;refine(xL hW f6.inv hTW hZ d.kh d.vh a0.1 a0.2 (by rw[b6];simp) i6).mono ?_;rintro e w' ⟨rfl,h1,h2⟩;rw[b6];rw[<-e8] at h1;exact⟨S8,rfl,h1,h2,ai⟩
theorem v8 {w:World}{ps:Nat}{S:St}{Y:Nat->Prop}(h:Ig w ps S Y){t:Nat}(t1:2<=t)(t2:t<=16):
 Cb 81 #[FH ps t] w (Xi (S.words / (6*t)+1:Nat)):=by
 have B0:=(ab w.heap.size w).alloc Ih (Xc ps t);have q0:=heap_alloc_new w (Xc ps t);have al:=fun W (hW:Below w.heap.size w W)=>xo (h.below hW);have au:=fun W=>pW t t1 t2 W;have a4:=nB h;obtain⟨wd,an⟩:=Ii S.words;rw[an] at a4 al;have hq:((wd:Int)).tdiv (6*(t:Int))=((wd / (6*t):Nat):Int):=by
  rw[show (6*(t:Int))=((6*t:Nat):Int) by omega];exact(Int.ofNat_tdiv wd (6*t)).symm
 have a3:wd / (6*t)<=wd:=Nat.div_le_self _ _;obtain⟨qq,ai⟩:=Ii (wd / (6*t));rw[ai] at hq a3;have h6:((6*(t:Int))==0)=false:=by simp;omega
 have a5:(6*(t:Int))≠0:=by omega
 have a6:IntKind.i64.wrap ((qq:Int))=(qq:Int):=aB _ (by omega);have a7:IntKind.i64.wrap ((qq:Int)+1)=(qq:Int)+1:=aB _ (by omega);have HG:=kq4 al au B0 q0;obtain⟨W0,a2⟩:=Ii (w.alloc (Xc ps t));rw[a2] at HG;obtain⟨I,ar,ad⟩:=ic fun w'=>w'.heap[w.heap.size]?=some (Xc ps t);have a0:=fun x:Fq I=>ar _ x.ok;obtain⟨m0,m1⟩:=fw a0;have a1:I W0.drew:=ad _ HG.d;have HI:=If ad;have HQ:=kq2 an ai;clear ar ad a0 al au B0 q0 h an ai;unfold FH;go_enter func81,ntmps81;go_wp2_with fail;refine fh I (.take 0 (.take 1 (.take 3 (.take 4 (.go 2 (.go 5 (.take 6 (.take 7 (.go 8 .nil))))))))) (by kernel_rfl) (by kernel_rfl) a1 ?_
 iterate 4
  refine' pT ?_ ?_;rotate_left
  ·intro x;go_simp
   try rfl
  try simp only[pu]
 refine pD fun K hK=>?_;go_simp;refine wx (HG.a _ (HG.c.drew)) fun w1 hb1=>?_;have H1:=kq2 (HG.c.drew.trans (hb1.mono HG.c.drew.size)) (HI.out _ ((hb1.block w.heap.size (gl HG.d)).trans HG.d));clear hb1
 try go_simp
 refine hK.out _ _ (H1.b) ?_;clear hK K
 try simp only[pu]
 refine pD fun K hK=>?_;go_simp;refine Jc (HG.b w1) ?_
 try go_simp
 refine hK.out _ _ (H1.b) ?_;clear hK K
 try simp only[pu]
 iterate 2
  refine' pT ?_ ?_;rotate_left
  ·intro x;go_simp
   try rfl
  try simp only[pu]
 refine pD fun K hK=>?_;go_simp
 try go_simp
 refine hK.out _ _ (H1.b) ?_;clear hK K
 try simp only[pu]
 refine eP ?_;go_wp2_with fail;go_ret;exact⟨by rw[HQ.a,HQ.b];first | rfl | simp,H1.a⟩
theorem zM {w:World}{ps:Nat}{S:St}{Y:Nat->Prop}(h:Ig w ps S Y){t:Nat}(t1:2<=t)(t2:t<=16):
 Ct 81 #[FH ps t] w fun e w'=>(∃z:Nat,e=.returned (Xi z)/\1<=z)/\Below w.heap.size w w':=
 (v8 h t1 t2).mono fun _ _ ⟨h1,h2⟩=>⟨⟨_,h1,Nat.le_add_left ..⟩,h2⟩
theorem zL {w:World}{ps:Nat}{S:St}{o:Nat->Nat}{Y:Nat->Prop}(h:Ig w ps S Y)(hf:Fw S o){t:Nat}(t1:2<=t)(t2:t<=16)(bl:Nat):
 Cb 120 #[FH ps t,.slice none 0 0,Xu 0,.pointer (some ⟨bl,0,none⟩),Xi 0] w (.slice none 0 0):=by
 have B0:=(ab w.heap.size w).alloc Ih (Xc ps t);have hg:=nQ (h.below B0) hf.inv t1 t2 0 (by omega) (oy (rZ hf));unfold FH eC at hg;have HG:=kq2 hg B0;clear hg B0 h hf;unfold FH;go_enter func120,ntmps120;go_wp2_with fail;refine wx HG.a fun w1 hb1=>?_;have B1:=HG.b.trans (hb1.mono HG.b.size);have H1:=If (B1.alloc B1.size (.cells #[.slice none 0 0,.slice none 0 0,.slice none 0 0,Xu 0] 215));clear hb1 B1;go_wp2_with fail;go_ret;exact⟨rfl,H1.out⟩
theorem zV {w:World}{ps:Nat}{S:St}{o:Nat->Nat}{Y:Nat->Prop}(h:Ig w ps S Y)(hf:Fw S o){t:Nat}(t1:2<=t)(t2:t<=16):
 Cb 74 #[PV ps,Xi t,Xu 0] w (.slice none 0 0):=by
 have ar:=kZ h hf.inv t1 t2;have B0:=(ab w.heap.size w).alloc Ih (Xc ps t);have q0:=heap_alloc_new w (Xc ps t);have ad:=zM (h.below B0) t1 t2;have al:=fun W (hW:Below w.heap.size w W) bl=>zL (h.below hW) hf t1 t2 bl;unfold FH at ad al;obtain⟨W0,an⟩:=Ii (w.alloc (Xc ps t));rw[an] at B0 q0 ad;obtain⟨x0,x1⟩:=Fp q0;have HG:=kq5 ar ad al B0 q0;clear ar ad al B0 q0 h hf;go_enter func74,ntmps74;go_wp2_with fail;refine Jc HG.a ?_;go_wp2_with fail;refine HG.b.mono ?_;rintro e w1 ⟨⟨z,rfl,hz⟩,ai⟩;have q1:=(ai.block w.heap.size (gl HG.e)).trans HG.e;have B1:=HG.d.trans (ai.mono HG.d.size);have A2:=(ab w1.heap.size w1).alloc Ih (Xk z);have q2:=(A2.block w.heap.size (gl q1)).trans q1;have B2:=B1.trans (A2.mono B1.size);clear an x0 x1;obtain⟨W1,au⟩:=Ii (w1.alloc (Xk z));rw[au] at q2 B2;obtain⟨x0,x1⟩:=Fp q2;have H2:=If B2;clear ai q1 B1 A2 q2 B2;go_wp2_with fail;refine wx (HG.c _ H2.out _) fun w3 hb3=>?_;have H3:=If (H2.out.trans (hb3.mono H2.out.size));clear hb3;go_wp2_with fail;go_ret;exact⟨rfl,H3.out⟩
theorem Ab {w:World}{ps:Nat}{S:St}{o:Nat->Nat}{Y:Nat->Prop}(h:Ig w ps S Y)(hf:Fw S o){t:Nat}(t1:2<=t)(t2:t<=16):
 Cb 59 #[PV ps,Xi 3,Xi t,Xu 0] w (.tuple #[.slice none 0 0,Xi 0]):=by
 have hc:=qc h hf.inv t1 t2;have hl:=fun W (hW:Below w.heap.size w W)=>zV (h.below hW) hf t1 t2;have HG:=kq2 hc hl;clear hc hl h hf;go_enter func59,ntmps59;go_wp2_with fail;refine Jc HG.a ?_;have H1:=If (ab w.heap.size w);go_wp2_with fail;refine wx (HG.b _ H1.out) fun w2 hb2=>?_;have H2:=If (H1.out.trans (hb2.mono H1.out.size));clear hb2;go_wp2_with fail
 go_loopw [16,18,19,20,21,22,62] (fun l1 _ _ _ _ _ k wr=>l1=.slice none 0 0/\k=Xi 0/\wr=w2) (fun _ _ _ _ _ _ _ _=>0)
 case atStart=>exact⟨rfl,rfl,rfl⟩
 case round=>
  obtain⟨rfl,rfl,rfl⟩:=hrel;go_wp2_with fail;go_ret2;exact⟨rfl,H2.out⟩
theorem qDeaa{P:Prop}(h:P:=by
 try go_simp
 refine hK.out _ _ (HG.d _ B2.a) ?_;clear hK K
 try simp only[pu]
 refine pD fun K hK=>?_;go_simp
 try go_simp
 refine hK.out _ _ (HG.d _ B2.a) ?_;clear hK K
 try simp only[pu]
 refine eP ?_;go_wp2_with fail;go_ret;exact⟨rfl,B2.b⟩):P:=h
theorem xI {w:World}{px ps kind td:Nat}{ty:TypeId}{kv:Value}(hT:FF w px ps ty kv kind td 0)(hs:∀W,Below w.heap.size w W->Cb 86 #[PV ps,Xi kind,Xi td,Xu 0] W (Xi 0)):
 Cb 56 #[PV px] w (Xi 0):=by
 have hn:=mW hT;have hs:=hs _ (ab _ w).drew;obtain⟨I,al,ad⟩:=kN px ps ty kv kind td 0;have ai:=fun x:Fq I=>al _ x.ok;simp only[FF] at ai;obtain⟨m0,m1,m2,m3,m4⟩:=iK ai;have an:I w.drew:=ad _ hT;have HG:=kq4 hn hs hT ad;clear hn hs hT al ad ai;go_enter func56,ntmps56;go_wp2_with fail;refine Jc HG.a ?_;go_wp2_with fail;refine fh I (.take 0 (.take 1 (.take 2 (.take 3 (.take 4 (.take 5 (.take 6 (.take 7 (.take 8 (.take 9 (.take 10 (.take 11 (.take 12 (.take 13 (.take 14 (.take 15 (.go 16 (.go 17 .nil)))))))))))))))))) (by kernel_rfl) (by kernel_rfl) an ?_
 iterate 16
  refine' pT ?_ ?_;rotate_left
  ·intro x;go_simp
   try rfl
  try simp only[pu]
 refine pD fun K hK=>?_;go_simp;refine wx HG.b fun w2 hb2=>?_;have T2:=FF.below (w:=w.drew) HG.c hb2;have B2:=kq2 T2 ((ab w.heap.size w).drew.trans hb2);clear T2 hb2;exact qDeaa
theorem xN {w:World}{px ps kind td:Nat}{ty:TypeId}{kv:Value}(hT:FF w px ps ty kv kind td 0)(hs:∀W,Below w.heap.size w W->Cb 59 #[PV ps,Xi kind,Xi td,Xu 0] W (.tuple #[.slice none 0 0,Xi 0])):
 Cb 26 #[PV px] w (.slice none 0 0):=by
 have hn:=mW hT;have hs:=hs _ (ab _ w).drew;obtain⟨I,al,ad⟩:=kN px ps ty kv kind td 0;have ai:=fun x:Fq I=>al _ x.ok;simp only[FF] at ai;obtain⟨m0,m1,m2,m3,m4⟩:=iK ai;have an:I w.drew:=ad _ hT;have HG:=kq4 hn hs hT ad;clear hn hs hT al ad ai;go_enter func26,ntmps26;go_wp2_with fail;refine Jc HG.a ?_;go_wp2_with fail;refine fh I (.take 0 (.take 1 (.take 2 (.take 3 (.take 4 (.take 5 (.take 6 (.take 7 (.take 8 (.take 9 (.take 10 (.take 11 (.take 12 (.take 13 (.take 14 (.take 15 (.go 16 (.take 17 (.take 18 (.take 19 (.go 20 (.go 21 .nil)))))))))))))))))))))) (by kernel_rfl) (by kernel_rfl) an ?_
 iterate 16
  refine' pT ?_ ?_;rotate_left
  ·intro x;go_simp
   try rfl
  try simp only[pu]
 refine pD fun K hK=>?_;go_simp;refine wx HG.b fun w2 hb2=>?_;have T2:=FF.below (w:=w.drew) HG.c hb2;have B2:=kq2 T2 ((ab w.heap.size w).drew.trans hb2);clear T2 hb2
 try go_simp
 refine hK.out _ _ (HG.d _ B2.a) ?_;clear hK K
 try simp only[pu]
 iterate 3
  refine' pT ?_ ?_;rotate_left
  ·intro x;go_simp
   try rfl
  try simp only[pu]
 refine pD fun K hK=>?_;go_simp;exact qDeaa
theorem vG {w:World}{ps px:Nat}{S:St}{Y:Nat->Prop}(h:Ig w ps S Y)(hi:Fv S)(hc:Cb 56 #[PV px] w (Xi 0))(hls:∀W,Below w.heap.size w W->Cb 26 #[PV px] W (.slice none 0 0))(limit:Nat)(hl:limit<=1000):
 Ct 22 #[PV ps,PV px,Xi limit] w fun e w'=>∃pm,e=.returned (.tuple #[PV pm,Xi 0])/\Ic w' pm px ps limit/\Below w.heap.size w w'/\w.heap.size<=pm:=by
 have ad:=fB h hi 0 (by omega);rw[fU] at ad;have h1:((limit:Int)<0)=False:=eq_false (by omega);have h2:(1000<(limit:Int))=False:=eq_false (by omega);have HG:=kq3 ad hc hls;clear ad hc hls h hi hl;go_enter func22,ntmps22;go_wp2_with fail;refine Jc HG.a ?_;go_wp2_with fail;refine wx HG.b fun w1 hb1=>?_;have H1:=If hb1;clear hb1;go_wp2_with fail;refine wx (HG.c _ H1.out) fun w2 hb2=>?_;have H2:=If (H1.out.trans (hb2.mono H1.out.size));clear hb2;go_wp2_with fail
 go_loopw [11,33] (fun _ k wr=>k=Xi 0/\wr=w2) (fun _ _ _=>0)
 case atStart=>exact⟨rfl,rfl⟩
 case round=>
  obtain⟨rfl,rfl⟩:=hrel;have q:=heap_alloc_new wr (.cells #[PV ps,PV px,Xi limit] 116);have HB:=kq2 q (H2.out.alloc H2.out.size (.cells #[PV ps,PV px,Xi limit] 116));clear q;go_wp2_with fail;go_ret2;exact⟨wr.heap.size,rfl,HB.a,HB.b,H2.out.size⟩
structure j5 (kind t:Int) (K:jo) (P:List (List UInt8×List UInt8)->Prop):Prop where
 ok:gB K P
 zero:∀{S:St} {o:Nat->Nat},Fw S o->K.Hold S o 0 [] []
 new:∀{w:World} {ps:Nat} {S:St} {o:Nat->Nat} {Y:Nat->Prop},Ig w ps S Y->Fw S o->Ct 13 #[PV ps,Xi kind,Xi t] w fun e w'=>∃px,e=.returned (.tuple #[PV px,Xi 0])/\K.On w' px ps 0/\Below w.heap.size w w'/\w.heap.size<=px
 of:∀{w:World} {ps px:Nat} {S:St} {o:Nat->Nat} {Y:Nat->Prop},Ig w ps S Y->Fw S o->K.On w px ps 0->∀limit:Nat,limit<=1000->Ct 22 #[PV ps,PV px,Xi limit] w fun e w'=>∃pm,e=.returned (.tuple #[PV pm,Xi 0])/\Ic w' pm px ps limit/\Below w.heap.size w w'/\w.heap.size<=pm
abbrev tp(kind t:Int)(K:jo):Prop:=j5 kind t K fun _=>True
theorem rj {P:List (List UInt8×List UInt8)->Prop}{kind:Nat}{j c:FuncId}{jn:Jn}{Ok:Tr->Prop}(hk:jD kind j c jn)(hok:gB (jH kind Ok) P)(hnil:Ok .nil)(t:Int):j5 kind t (jH kind Ok) P where
 ok:=hok
 zero hf:=⟨.nil,⟨hf,trivial,hnil,dP,fun _ h=>(List.not_mem_nil h).elim,List.Pairwise.nil⟩,rfl,rfl,rfl⟩
 new h hf:=ES h hf.inv hk t
 of h hf hT limit hl:=vG h hf.inv (xI hT fun _ hW=>JF (h.below hW) hf.inv hk 0) (fun _ hW=>xN (FF.below hT hW) fun _ hW'=>Aa (h.below (hW.trans (hW'.mono hW.size))) hf.inv hk 0) limit hl
theorem BT {P:List (List UInt8×List UInt8)->Prop}{t:Nat}(hok:gB (mS t) P)(t1:2<=t)(t2:t<=16):j5 3 t (mS t) P where
 ok:=hok
 zero hf:=aa ⟨⟨hf,t1,t2⟩,rfl,rfl,rfl⟩
 new h hf:=Cv h hf.inv t1 t2
 of h hf hT limit hl:=vG h hf.inv (xI hT fun _ hW=>((qc (h.below hW) hf.inv t1 t2).mono fun _ _ ⟨q1,q2⟩=>⟨q1,q2▸ab _ _⟩)) (fun _ hW=>xN (FF.below hT hW) fun _ hW'=>Ab (h.below (hW.trans (hW'.mono hW.size))) hf t1 t2) limit hl
