/- Binary trees gone through in order: the iterator's state. -/
import Derived.Test.YtpljannolpapgaaGreatDoorVBj
import Derived.Test.YtpljannolpapgaaGreatDoorVBk
set_option maxRecDepth 100000
set_option maxHeartbeats 3200000
namespace Go.Proofs.YtpljannolpapgaaGreatDoor
section
open Go.RowKit Tryz Go.BigFrame Go.Maps Go.WideMaps Lf Tr
def wa(x:It×Nd):Array Value:=#[Xu x.1.h,eS x.2]
def dU(n0:Nat)(X:Nat->Prop)(W W':World):Prop:=Below n0 W W'/\∀k o,X k->W.heap[k]?=some o->W'.heap[k]?=some o
theorem dU.refl(n0:Nat)(X:Nat->Prop)(W:World):dU n0 X W W:=⟨aa _ _,fun _ _ _ e=>e⟩
theorem dU.trans {n0:Nat}{X:Nat->Prop}{A B C:World}(h:dU n0 X A B)(k:dU n0 X B C):dU n0 X A C:=⟨h.1.trans (k.1),fun g o hx e=>k.2 g o hx (h.2 g o hx e)⟩
theorem dU.eq {n0 k:Nat}{X:Nat->Prop}{A B:World}(h:dU n0 X A B)(hx:X k)(hk:k<A.heap.size):B.heap[k]?=A.heap[k]?:=(h.2 k _ hx (cY hk)).trans (cY hk).symm
structure mn (w0:World) (D ps Bs Br:Nat) (J:(Nat->Prop)->List (It×Nd)->World->Prop) (pre:List (It×Nd)) (root:Nat) (v:Value) (st:List Nat) (W:World):Prop where
 ex:∃X,J X pre W/\(∀g,v.ownBlock=some g->X g)/\X Bs/\X Br
 bl:Below w0.heap.size w0 W
 own:FE W D v st
 cs:W.heap[Bs]?=some (Xh ps)
 cr:W.heap[Br]?=some (Xf root)
 lo:w0.heap.size<=Bs/\w0.heap.size<=Br/\Bs≠Br/\Bs<D/\Br<D/\D<=W.heap.size
set_option maxRecDepth 4000
section
variable {w0 W W':World}{D ps Bs Br root:Nat}{J:(Nat->Prop)->List (It×Nd)->World->Prop}{pre:List (It×Nd)}{v:Value}{st:List Nat}
theorem mn.below(hJ:yZ D J)(h:mn w0 D ps Bs Br J pre root v st W)(hb:Below W.heap.size W W'):mn w0 D ps Bs Br J pre root v st W':=by
 obtain⟨X,h1,h2,h3,h4⟩:=h.ex;have lt:∀{k o},W.heap[k]?=some o->W'.heap[k]?=some o:=fun e=>(hb.block _ (gl e)).trans e;have ad:=hb.size;have:=h.lo;exact⟨⟨X,hJ X X pre W W' none h1 (lf hb) (fun r e=>by cases e) (fun _ hk=> .inl hk),h2,h3,h4⟩,h.bl.trans (hb.mono h.bl.size),h.own.at fun g e=>hb.block g (h.own.ge g e).2,lt h.cs,lt h.cr,by omega⟩
theorem mn.write(hJ:yZ D J)(h:mn w0 D ps Bs Br J pre root v st W)(r:Nat):mn w0 D ps Bs Br J pre r v st (W.setCell ⟨Br,0,none⟩ (Xu r)):=by
 obtain⟨X,h1,h2,h3,h4⟩:=h.ex;have ad:=h.lo;refine⟨⟨X,hJ X X pre W _ (some Br) h1 (grownBy_setCell' W Br _) (fun r e=>by cases e;exact .inl h4) (fun _ hk=> .inl hk),h2,h3,h4⟩,h.bl.trans ⟨rfl,rfl,rfl,by simp,fun k hk=>FB (by omega)⟩,h.own.at fun g e=>FB (by have:=(h.own.ge g e).1;omega),(FB ad.2.2.1).trans h.cs,heap_setCell (i:=0) (v:=Xu r) h.cr,by rw[size_setCell];exact ad⟩
theorem mn.push(hJ:yZ D J)(h:mn w0 D ps Bs Br J pre root v st W)(hl:st.length<=100000)(x:Nat)(ty:TypeId):
 ∃A m c,v=.slice A m c/\∃A2 m2 c2 W2,(Builtin.append_ #[59,59] ty #[.slice A m c,.slice (some ⟨W.heap.size,0,none⟩) 1 1]).run prog (W.alloc (Xf x))=.ok (.slice A2 m2 c2) W2/\mn w0 D ps Bs Br J pre root (.slice A2 m2 c2) (st++[x]) W2/\∀k,k<W.heap.size->v.ownBlock≠some k->W2.heap[k]?=W.heap[k]?:=by
 obtain⟨X,h1,h2,h3,h4⟩:=h.ex;have ai:=h.lo;obtain⟨v2,W2,ap,an,ad,au⟩:=jF h.own hl x ai.2.2.2.2.2 ty;obtain⟨A,m,c,rfl⟩:=h.own.slice;obtain⟨A2,m2,c2,rfl⟩:=an.slice;have hk:∀k,k<D->W2.heap[k]?=W.heap[k]?:=fun k hk=>ad.block k (by omega) fun e=>by have:=(h.own.ge k e.symm).1;omega
 have ar:=ad.size;have hx:∀k,(X k\/(Value.slice A2 m2 c2).ownBlock=some k)->X k\/W.heap.size<=k/\k<W2.heap.size:=fun k hk=>by
  rcases hk with hk | hk
  ·exact .inl hk
  ·have hlt:=(an.ge k hk).2
   rcases au with e | ⟨g,e,hg⟩
   ·exact .inl (h2 k (e▸hk))
   ·rw[hk] at e
    cases e
    exact .inr ⟨hg,hlt⟩
 refine⟨A,m,c,rfl,A2,m2,c2,W2,ap,⟨⟨fun k=>X k\/(Value.slice A2 m2 c2).ownBlock=some k,hJ X _ pre W W2 _ h1 ad (fun r e=> .inl (h2 r e)) hx,fun g e=> .inr e,.inl h3,.inl h4⟩,h.bl.trans ⟨ad.os,ad.tape,ad.output,ar,fun k q=>hk k (by omega)⟩,an,(hk _ ai.2.2.2.1).trans h.cs,(hk _ ai.2.2.2.2.1).trans h.cr,by omega⟩,fun k hk hne=>ad.block k hk fun e=>hne e.symm⟩
theorem mn.pop {x:Nat}(h:mn w0 D ps Bs Br J pre root v (st++[x]) W):
 ∃b c,v=.slice (some ⟨b,0,none⟩) (st.length+1) c/\st.length+1<=c/\W.cell? ⟨b,st.length,none⟩=some (Xu x)/\mn w0 D ps Bs Br J pre root (.slice (some ⟨b,0,none⟩) st.length c) st W:=by
 obtain⟨b,c,e,hc⟩:∃b c,v=.slice (some ⟨b,0,none⟩) (st++[x]).length c/\(st++[x]).length<=c:=by
  rcases h.own.2 with⟨_,e0⟩ | ⟨b,c,an,e,_,_,ai,_⟩
  ·simp at e0
  ·exact⟨b,c,e,ai⟩
 rw[ah,bi] at e hc;subst e;have ho:FE W D (.slice (some ⟨b,0,none⟩) (st.length+1) c) (st++[x]):=h.own;have ad:=World.ownsRow.cells h.own (g:=b) rfl st.length (Xu x) (by simp[hV]);obtain⟨X,h1,h2,h3,h4⟩:=h.ex;refine⟨b,c,rfl,hc,?_,⟨X,h1,h2,h3,h4⟩,h.bl,ho.short,h.cs,h.cr,h.lo⟩;rw[<-ad];unfold Addr.add
 cases st<;>simp
theorem mn.yield {F:Fence}{m l:Nat}{P:Program}{x:It×Nd}{S:List (It×Nd)->Prop}(o:Obj)(hJ:yZ D J)(hY:∀X pre x W1,J X pre W1->(∃r,S (pre++x::r))->YieldAt F m P l (wa x) W1 fun e W'=>e=.returned (.bool true)/\J X (pre++[x]) W'/\dU w0.heap.size X W1 W')(h:mn w0 D ps Bs Br J pre root v st W)(hl:∃r,S (pre++x::r)):
 YieldAt F m P l (wa x) (W.alloc o) fun e W'=>e=.returned (.bool true)/\mn w0 D ps Bs Br J (pre++[x]) root v st W'/\W'.heap[W.heap.size]?=some o:=by
 obtain⟨X,h1,h2,h3,h4⟩:=h.ex;have hb:Below W.heap.size W (W.alloc o):=(aa _ _).alloc Ih _;have ai:=hJ X (fun k=>X k\/k=W.heap.size) pre W _ none h1 (lf hb) (fun r e=>by cases e) (fun k hk=>hk.imp id fun e=>by rw[World.size_alloc];omega);refine(hY _ pre x _ ai hl).mono ?_;rintro e W' ⟨rfl,hj,ad⟩;have ap:=ad.1.size;have an:=h.bl.size;have:=h.lo;have lt:∀{k c},W.heap[k]?=some c->(W.alloc o).heap[k]?=some c:=fun e=>(hb.block _ (gl e)).trans e;exact⟨rfl,⟨⟨_,hj,fun g e=> .inl (h2 g e),.inl h3,.inl h4⟩,(h.bl.trans (hb.mono an)).trans ad.1,h.own.at fun g e=>(ad.eq (.inl (h2 g e)) (aJ (h.own.ge g e).2 hb.size)).trans (hb.block g (h.own.ge g e).2),ad.2 _ _ (.inl h3) (lt h.cs),ad.2 _ _ (.inl h4) (lt h.cr),by rw[World.size_alloc] at ap;omega⟩,ad.2 _ _ (.inr rfl) (World.alloc_heap_new _ _)⟩
end
theorem JJ {F:Fence}{n:Nat}{P:Program}(w:World){ops:Array Oper}{rest:List Oper}{o:Oper}{a:Act}{Q:Exit->Act->World->Prop}
 (hg:o.guard=none) (s x:Operand) (t tn:TypeId) (hop:o.op=Op.call { callee:=Callee.builtin Builtin.append,args:=#[s,x],argTypes:=#[t,tn] })
 (vs vx:Value) (hs:a.eval s=vs) (hx:a.eval x=vx) (v':Value) (w':World) (hr:(Builtin.append_ #[t,tn] o.type #[vs,vx]).run P w=.ok v' w') (h:wpListIn F n P ops Q rest (a.put o.dst v') w'):wpListIn F n P ops Q (o::rest) a w:=by
 refine wpListIn_plain hg fun K hK'=>?_;unfold Oper.wpIn;refine⟨?_,?_⟩
 ·simp[Oper.about,hop,resolve,Target.leads,Sem.run_pure]
 ·rw[Oper.semAt_plain F _ _ (by rw[hop];intro c hc';cases hc')];simp[execOp,hop,resolve,invoke,builtin,hs,hx,hr,Result.andThen]
  exact hK' _ _ h
def JP:Value->Nat
 | .slice _ m _=>m
 | _=>0
theorem Tr.st_late:∀{st:List Tr},(∀x∈st,x≠ .nil)->st.length<=(st.flatMap late).length
 | [],_=>Nat.le_refl _
 | .nil::_,h=>absurd rfl (h _ (am ..))
 | .node l d m r::st,h=>by
  have:=st_late (st:=st) fun x hx=>h x (ak _ hx);simp only[bZ,late,ah,ag];omega
theorem Tr.is_node:∀t:Tr,t=.nil\/∃l d m r,t=.node l d m r
 | .nil=> .inl rfl
 | .node l d m r=> .inr ⟨l,d,m,r,rfl⟩
theorem Kw {α:Type}:∀st:List α,st=[]\/∃x st',st=x::st'
 | []=> .inl rfl
 | x::st=> .inr ⟨x,st,rfl⟩
theorem xb(n:Nd):eS n=.agg #[Xu n.key,Xu n.val,Xu n.left,Xu n.right,Xu n.mark,Xu n.size]:=rfl
theorem Ko {w0 w:World}{ps:Nat}{S:St}{o:Nat->Nat}{Y:Nat->Prop}{t:Tr}(h:Ig w0 ps S Y)(hf:Fw S o)(ha:Tr.At S t)(hN:t.nodes.length<limit S)(hN2:t.nodes.length<=1000)(Bs Br:Nat)(hb:Below w0.heap.size w0 w)(lo:w0.heap.size<=Bs/\w0.heap.size<=Br/\Bs≠Br/\Bs<w.heap.size/\Br<w.heap.size)(cs:w.heap[Bs]?=some (Xh ps))(cr:w.heap[Br]?=some (Xf t.root)):
 JT Fence.wide 6 prog 161 #[PV Bs,PV Br] wa (dU w0.heap.size) (fun k=>k=Bs\/k=Br) (fun xs=>xs=t.nodes) w:=fun l J W hW hJ hY h0=>by
 have c7:Fence.wide.fn 162:=trivial;have c6:Fence.wide.fn 76:=trivial;have ba:=hb.trans (hW.mono hb.size);have b2:CallsIn Fence.wide 5 prog 162 #[PV ps] W _:=callsIn_wide.2 (sX (h.below ba));have hL:1<=limit S/\limit S<=40000:=by have:=nB h;unfold limit;omega
 generalize limit S=L at*;have cs:=(hW.block Bs lo.2.2.2.1).trans cs;have cr:=(hW.block Br lo.2.2.2.2).trans cr;have cp:=hW.size;have hI:mn w0 W.heap.size ps Bs Br J [] t.root (.slice none 0 0) [] W:=⟨⟨_,h0,(fun g e=>nomatch e),.inl rfl,.inr rfl⟩,ba,World.ownsRow_nil _ _ _ _,cs,cr,by omega⟩;have HJ:=kq6 hJ hI hf ha hY h;have c0:(W).cell? ⟨Bs,0,none⟩=some (PV ps):=by rw[cell_of_block cs];rfl
 obtain⟨N,bd⟩:=Ii t.nodes.length;rw[bd] at hN hN2;have HN:=If bd;clear hI hW hJ hY h0 hb lo cs cr h hf ha ba cp bd;refine callsIn_of_wp func161 rfl trivial ?_ rfl;simp only[ntmps161,aR,ag,aM,Nat.reduceAdd,Nat.reduceSub,aN,aO,aU,aQ,aY,aK];gi_wp2_with fail;refine b2.mono ?_;rintro e w1 ⟨rfl,bq⟩;have H1:=If (mn.below HJ.a HJ.b bq);clear bq b2 c0;have cw:(0:Int)<L:=by omega
 gi_wp2_with fail;gi_loopw [4,6,7,8,9,10,11] (fun s4 s6 _ _ _ _ _ wr=>∃(k:Nat) (ad:List (It×Nd)) (r:Tr) (st:List Tr),s6=Xi k/\k=ad.length+st.length/\Hid (mn w0 W.heap.size ps Bs Br J ad r.root s4 (st.map topH).reverse wr/\ad++restN r st=t.nodes/\Tr.At S r/\(∀x∈st,Tr.At S x)/\∀x∈st,x≠ .nil)) (fun s4 s6 _ _ _ _ _ _=>N+JP s4-(intOf s6).toNat)
 case atStart=>exact⟨0,[],t,[],rfl,rfl,H1.out,by simp[restN],HJ.d,(fun x hx=>nomatch hx),(fun x hx=>nomatch hx)⟩
 case round=>
  obtain⟨k,ad,r,st,rfl,hk,J0⟩:=hrel;have a8:ad.length+st.length<=N:=by
   have e:=congrArg List.length J0.out.2.1;rw[HN.out,ah] at e;have:=st_late J0.out.2.2.2.2;unfold restN at e;rw[ah] at e;omega
  have ck:(k:Int)<L:=by omega
  obtain⟨p,hp⟩:=Ii ad.length;rw[hp] at hk a8;have HP:=If hp;have HL:=If (show JP u4=st.length by
   obtain⟨A,c,e⟩:=J0.out.1.own.slice2;rw[e];simp[JP])
  have HK:=If hk;clear hk;clear hp;gi_wp2_with fail;gi_loopw [4,6,7,8] (fun s4 s6 _ _ wr=>∃(k:Nat) (r:Tr) (st:List Tr),s6=Xi k/\k=p+st.length/\Hid (mn w0 W.heap.size ps Bs Br J ad r.root s4 (st.map topH).reverse wr/\ad++restN r st=t.nodes/\Tr.At S r/\(∀x∈st,Tr.At S x)/\∀x∈st,x≠ .nil)) (fun _ s6 _ _ _=>N-(intOf s6).toNat)
  case atStart=>exact⟨k,r,st,rfl,HK.out,J0.out⟩
  case round=>
   obtain⟨k,r,st,rfl,hk,J1⟩:=hrel;have a8:p+(r.nodes.length+st.length)<=N:=by
    have e:=congrArg List.length J1.out.2.1;rw[HN.out,ah,HP.out] at e;have:=st_late J1.out.2.2.2.2;unfold restN at e;rw[ah] at e;omega
   have ck:(k:Int)<L:=by omega
   have c8:k<=N:=by omega
   have a9:=If hk;clear hk;have cs:=J1.out.1.cs;have cr:=J1.out.1.cr;have c0:(wr).cell? ⟨Bs,0,none⟩=some (PV ps):=by rw[cell_of_block cs];rfl
   have b0:(wr).cell? ⟨Br,0,none⟩=some (Xu r.root):=by rw[cell_of_block cr];rfl
   have HQ:=kq2 cs cr;clear cs cr;rcases is_node r with rfl | ⟨l',d,m,r',rfl⟩
   ·--nothing more to the left
    replace b0:wr.cell? ⟨Br,0,none⟩=some (Xu 0):=b0
    rcases Kw st with rfl | ⟨x,au,rfl⟩
    ·obtain⟨A,c,rfl⟩:=J1.out.1.own.slice2;have bv:ad=t.nodes:=by
      have:=J1.out.2.1;rw[restN_nil,bD] at this;exact this
     have HF:=kq2 bv J1.out.1.ex;clear bv;gi_wp2_with fail;refine bodyPost_ret (results_none rfl _ _ _) rfl ?_;obtain⟨e1,X,hj,_⟩:=HF.out;exact⟨⟨_,rfl⟩,X,ad,e1,hj⟩
    ·rcases is_node x with rfl | ⟨l2,d2,m2,r2,rfl⟩
     ·exact absurd rfl (J1.out.2.2.2.2 _ (am ..))
     have ca:((Tr.node l2 d2 m2 r2::au).map topH).reverse=(au.map topH).reverse++[d2.h]:=by simp[topH]
     have bc:=J1.out.1;rw[ca] at bc;have a7:(au.map topH).reverse.length=au.length:=by simp
     obtain⟨bb,cc,rfl,cj,bu,hI⟩:=bc.pop;obtain⟨n,hn⟩:=Ii (au.map topH).reverse.length;rw[hn] at cj bu hI a7;rw[hn];have bj:=If (show k=p+(n+1) by rw[a9.out,ag,a7]);have a6:=J1.out.2.2.2.1 _ (am ..);have a3:=a6.getNode HJ.c;have a1:=(fL HJ.c a6.1).2.1;have ai:CallsIn Fence.wide 5 prog 76 #[PV ps,Xu d2.h] wr _:=callsIn_wide.2 (iO (HJ.f.below hI.bl) HJ.c.inv d2.h a1);rw[a3] at ai;obtain⟨nn,ap⟩:=Ii (Tr.nd l2 d2 m2 r2);have cb:nn.right=r2.root:=by rw[<-ap];rfl
     have bo:ad++(d2,nn)::restN r2 au=t.nodes:=by
      rw[<-ap,<-restN_pop];exact J1.out.2.1
     rw[ap] at ai;have HG:=kq6 ai hI cb bo a6 a7;have HU:=If (show p+(n+1)<=N by rw[ag] at a8;omega);have c9:n<=1000:=by have:=HU.out;omega
     have cx:((n:Int)+1==0)=false:=by simp;omega
     have hN2:¬((n:Int)+1=0):=by omega
     have c3:IntKind.i64.wrap ((n:Int)+1-1)=n:=by rw[Int.add_sub_cancel];exact az _ (by omega)
     have c4:(n:Int)<(n:Int)+1:=by omega
     clear ca bc a7 hn a6 a3 a1 ai ap cb bo hI a8;gi_wp2_with fail;refine HG.a.mono ?_;rintro e w2 ⟨rfl,a2⟩;have ar:=HG.b.below HJ.a a2;have cs:=ar.cs;have a0:(w2).cell? ⟨Bs,0,none⟩=some (PV ps):=by rw[cell_of_block cs];rfl
     have ch:=If ar;clear a2 ar cs c0 b0 bu;rw[xb];obtain⟨fn,dc,cu,cv,hy,bk⟩:=mn.yield (S:=fun xs=>xs=t.nodes) (Xb nn.key nn.val nn.left nn.right nn.mark nn.size) HJ.a HJ.e ch.out ⟨_,HG.d⟩;dsimp only[wa] at hy
     rw[xb] at hy;gi_wp2_with fail;refine bk.mono ?_;rintro e w4 ⟨rfl,an,bt⟩;have cr:=an.cr;obtain⟨g0,g1,g2,g3,g4,g5⟩:=ia bt;have e0:(w4).cell? ⟨Br,0,none⟩=some (Xu (Tr.root .nil:Nat)):=by rw[cell_of_block cr];rfl
     have f0:(w4).frozen? ⟨Br,0,none⟩=false:=AT cr;have H4:=If an;clear an bt cr hy bk a0;gi_wp2_with fail;go_roundw
     case rel=>
      refine⟨k,ad++[(d2,nn)],r2,au,rfl,?_,?_⟩
      ·rw[bj.out,ah,bi,HP.out,<-HG.f];omega
      ·rw[HG.c];refine⟨H4.out.write HJ.a r2.root,?_,HG.e.2.2,fun x hx=>J1.out.2.2.2.1 x (ak _ hx),fun x hx=>J1.out.2.2.2.2 x (ak _ hx)⟩;rw[bC];exact HG.d
     case measure=>
      rw[HL.out];have:=HK.out;have:=HU.out;have:=bj.out;simp[JP,intOf]
      omega
   ·have a5:=J1.out.2.2.1;have a3:=a5.getNode HJ.c;have a1:=fL HJ.c a5.1;have c5:((d.h:Int) !=0)=true:=by have:=a1.1;simp;omega
    have ai:CallsIn Fence.wide 5 prog 76 #[PV ps,Xu d.h] wr _:=callsIn_wide.2 (iO (HJ.f.below J1.out.1.bl) HJ.c.inv d.h a1.2.1);rw[a3] at ai;obtain⟨nn,ap⟩:=Ii (Tr.nd l' d m r');have hlt:nn.left=l'.root:=by rw[<-ap];rfl
    rw[ap] at ai;replace b0:wr.cell? ⟨Br,0,none⟩=some (Xu d.h):=b0
    have b1:(st.map topH).reverse.length<=1000:=by simp;omega
    have HG:=kq4 ai hlt a5 b1;clear a5 a3 a1 ai ap hlt b1;gi_wp2_with fail;refine HG.a.mono ?_;rintro e w2 ⟨rfl,a2⟩;have ar:=J1.out.1.below HJ.a a2;have b9:=ar.own;obtain⟨W3,bm⟩:=Ii (w2.alloc (Xb nn.key nn.val nn.left nn.right nn.mark nn.size));have bs:Below w2.heap.size w2 W3:=by rw[<-bm];exact(aa _ _).alloc Ih _
    have bf:W3.heap[w2.heap.size]?=some (Xb nn.key nn.val nn.left nn.right nn.mark nn.size):=by rw[<-bm];exact World.alloc_heap_new _ _
    have a4:=ar.below HJ.a bs;obtain⟨A,mm,c,rfl,A2,cq,c2,W4,cn,an,bx⟩:=a4.push HJ.a (by have:=HG.d;omega) d.h 59;have b':=(bx _ (gl bf) (fun e=>by have:=(b9.ge _ e).2;omega)).trans bf;have cs:=a4.cs;have cr:=a4.cr;have a0:(W3).cell? ⟨Bs,0,none⟩=some (PV ps):=by rw[cell_of_block cs];rfl
    have q0:(W3).cell? ⟨Br,0,none⟩=some (Xu d.h):=by rw[cell_of_block cr];rfl
    have a':=an.cr;obtain⟨g0,g1,g2,g3,g4,g5⟩:=ia b';have e0:(W4).cell? ⟨Br,0,none⟩=some (Xu (Tr.node l' d m r').root):=by rw[cell_of_block a'];rfl
    have f0:(W4).frozen? ⟨Br,0,none⟩=false:=AT a';have b4:cq=st.length+1:=by
     obtain⟨A',c',e⟩:=an.own.slice2;cases e
     simp
    have H4:=kq2 an b4;rw[xb];clear a2 ar b9 bs bf a4 an bx b' cs cr a' c0 b0 b4;gi_wp2_with (gi_at_builtin;refine JJ _ rfl _ _ _ _ rfl _ _ rfl rfl _ _ cn ?_)
    go_roundw
    case rel=>
     refine⟨k+1,l',Tr.node l' d m r'::st,by simp,by have:=a9.out;rw[ag];omega,?_⟩;rw[HG.b];refine⟨?_,by rw[restN_push];exact J1.out.2.1,HG.c.2.1,fun x hx=>?_,fun x hx=>?_⟩
     ·have:=H4.a.write HJ.a l'.root;rw[bg,List.reverse_cons];exact this
     ·rcases aj.1 hx with rfl | hx
      ·exact J1.out.2.2.1
      ·exact J1.out.2.2.2.1 x hx
     ·rcases aj.1 hx with rfl | hx
      ·exact fun e=>Tr.noConfusion e
      ·exact J1.out.2.2.2.2 x hx
    case measure=>
     have:1<=(Tr.node l' d m r').nodes.length:=by simp[nodes];omega
     have:=a9.out;simp[intOf]
     omega
attribute [local go_sem] Oper.semAt_some
structure pp (w:World) (Bo D:Nat) (X:Nat->Prop) (L:List Nat) (W:World):Prop where
 lo:w.heap.size<=Bo/\Bo<D/\D<=W.heap.size
 bl:Below w.heap.size w W
 xl:∀k,X k->w.heap.size<=k/\k≠Bo/\k<W.heap.size
 ex:∃A c,W.heap[Bo]?=some (.cells #[.slice A L.length c] 59)/\FE W D (.slice A L.length c) L/\∀g,(Value.slice A L.length c).ownBlock=some g->¬X g
section
variable {w W W':World}{Bo D B:Nat}{X X':Nat->Prop}{L:List Nat}{row:Option Nat}
theorem qXsab{P:Prop}(h:P:=by
 have ap:=hg.size;have ar:=h.lo;have au:=h.bl.size;have an:=(gl h1);have ad:∀k cs ty fr,W.heap[k]?=some (.cells cs ty fr)->¬X k->row≠some k:=fun k cs ty fr e hx e2=>by
  rcases hr k e2 with q | ⟨_,o,q,q2⟩
  ·exact hx q
  ·rw[e] at q
   cases q
   cases q2
 have ai:¬X Bo:=fun q=>(h.xl _ q).2.1 rfl;refine⟨by omega,h.bl.trans ⟨hg.os,hg.tape,hg.output,ap,fun k hk=>hg.block k (by omega) fun e=>?_⟩,fun k hk=>?_,A,c,(hg.block _ an fun e=>ad _ _ _ _ h1 ai e.symm).trans h1,h2.at fun g e=>hg.block g (h2.ge g e).2 fun q=>?_,fun g e q=>?_⟩
 ·rcases hr k e.symm with q | ⟨q,_⟩
  ·have:=(h.xl _ q).1;omega
  ·omega
 ·rcases hx k hk with q | q
  ·have:=h.xl _ q;omega
  ·omega
 ·obtain⟨_,_,cs,fr,e3⟩:=h2.block e;exact ad _ _ _ _ e3 (h3 g e) q.symm
 ·have:=(h2.ge g e).2
  rcases hx g q with q | q
  ·exact h3 g e q
  ·omega):P:=h
theorem pp.grown(h:pp w Bo D X L W)(hB:w.heap.size<=B)(hg:W.grownBy W' row)(hr:∀r,row=some r->X r\/B<=r/\∃o:Obj,W.heap[r]?=some o/\o.isCells=false)(hx:∀k,X' k->X k\/W.heap.size<=k/\k<W'.heap.size):pp w Bo D X' L W':=by
 obtain⟨A,c,h1,h2,h3⟩:=h.ex;exact qXsab
theorem pp.own {α:Type}(f:List α->List Nat)(hB:w.heap.size<=B):rs B (fun X xs W=>pp w Bo D X (f xs) W):=fun _ _ _ _ _ _ h hg hr hx=>h.grown hB hg hr hx
theorem pp.append(h:pp w Bo D X L W)(hl:L.length<=100000)(x:Nat)(ty:TypeId)(n0:Nat)(hn:n0<=Bo):
 ∃A c,W.heap[Bo]?=some (.cells #[.slice A L.length c] 59)/\∃A2 c2 W2,(Builtin.append_ #[59,59] ty #[.slice A L.length c,.slice (some ⟨W.heap.size,0,none⟩) 1 1]).run prog (W.alloc (Xf x))=.ok (.slice A2 (L.length+1) c2) W2/\(∃v,W2.heap[Bo]?=some (.cells #[v] 59))/\
  pp w Bo D X (L++[x]) (W2.setCell ⟨Bo,0,none⟩ (.slice A2 (L.length+1) c2))/\KeepsFrom D W (W2.setCell ⟨Bo,0,none⟩ (.slice A2 (L.length+1) c2))/\dU n0 X W (W2.setCell ⟨Bo,0,none⟩ (.slice A2 (L.length+1) c2)):=by
 obtain⟨A,c,h1,h2,h3⟩:=h.ex;have ar:=h.lo;have a3:=(gl h1);obtain⟨v2,W2,a1,ai,ad,a2⟩:=jF h2 hl x ar.2.2 ty;obtain⟨A2,c2,rfl⟩:=ai.slice2;have an:=ad.size;rw[ah,bi] at a1 ai a2;have au:∀k,k<W.heap.size->(k<D\/X k)->W2.heap[k]?=W.heap[k]?:=fun k hk q=>ad.block k hk fun e=>by
  rcases q with q | q
  ·have:=(h2.ge k e.symm).1;omega
  ·exact h3 k e.symm q
 have ap:=(au Bo a3 (.inl ar.2.1)).trans h1;have hs:∀k,k≠Bo->(W2.setCell ⟨Bo,0,none⟩ (.slice A2 (L.length+1) c2)).heap[k]?=W2.heap[k]?:=fun k hk=>FB hk;have a0:=ai;have key:∀k,k<W.heap.size->(k<D\/X k)->k≠Bo->(W2.setCell ⟨Bo,0,none⟩ (.slice A2 (L.length+1) c2)).heap[k]?=W.heap[k]?:=fun k hk q q2=>(hs k q2).trans (au k hk q);refine⟨A,c,h1,A2,c2,W2,a1,⟨_,ap⟩,⟨by rw[size_setCell];omega,h.bl.trans ⟨ad.os,ad.tape,ad.output,by rw[size_setCell];exact an,fun k hk=>key k (by have:=h.bl.size;omega) (.inl (by omega)) (by omega)⟩,(fun k hk=>by have:=h.xl k hk;rw[size_setCell];omega),A2,c2,?_,?_,fun g e q=>?_⟩,⟨by rw[size_setCell];exact an,fun k o hk e hc=>?_⟩,⟨ad.os,ad.tape,ad.output,by rw[size_setCell];exact an,fun k hk=>key k (by have:=h.lo;omega) (.inl (by omega)) (by omega)⟩,fun k o hk e=>(key k (gl e) (.inr hk) (h.xl k hk).2.1).trans e⟩
 ·rw[ah,bi];exact heap_setCell (i:=0) (v:=.slice A2 (L.length+1) c2) ap
 ·rw[ah,bi];exact a0.at fun g e=>hs g (by have:=(a0.ge g e).1;omega)
 ·rw[ah,bi] at e;rcases a2 with q2 | ⟨g',q2,hg⟩
  ·exact h3 g (q2▸e) q
  ·rw[e] at q2;cases q2
   have:=h.xl g q;omega
 ·have a4:=(gl e);refine(hs k (by omega)).trans ((ad.block k a4 fun q=>?_).trans e);obtain⟨_,_,cs,fr,e3⟩:=h2.block q.symm;rw[e] at e3;cases e3
  cases hc
end
theorem LU {w:World}{ps:Nat}{S:St}{o:Nat->Nat}{Y:Nat->Prop}{t:Tr}(h:Ig w ps S Y)(hf:Fw S o)(ha:Tr.At S t)(hN:t.nodes.length<limit S)(hN2:t.nodes.length<=1000):
 CallsIn Fence.wide 7 prog 75 #[PV ps,Xu t.root] w fun e w'=>∃v,e=.returned v/\FE w' (w.heap.size+3) v t.hs/\Below w.heap.size w w':=by
 have h1:1<=7:=by omega
 have a8:Fence.wide.fn 121:=trivial;have au:∀W,CallsIn Fence.wide 6 prog 121 #[PV ps,Xu t.root] W _:=fun W=>callsIn_wide.2 (EY ps t.root W);have HR:=kq5 h hf ha hN hN2;clear h hf ha hN hN2;refine callsIn_of_wp_marks func75 rfl trivial ?_ rfl;simp only[ntmps75,aR,ag,aM,Nat.reduceAdd,Nat.reduceSub,aN,aO,aU,aQ,aY,aK];gi_wp2_with fail;refine(au _).mono ?_;rintro e w4 ⟨rfl,rfl⟩;gi_wp2_with fail;have hb:=(((aa w.heap.size w).alloc Ih (.cells #[.slice none 0 0] 59)).alloc (by simp) (Xh ps)).alloc (by simp;omega) (Xf t.root);obtain⟨W0,ad⟩:=Ii (((w.alloc (.cells #[.slice none 0 0] 59)).alloc (Xh ps)).alloc (Xf t.root));have z0:W0.heap.size=w.heap.size+3:=by rw[<-ad];simp
 have g0:W0.heap[w.heap.size]?=some (.cells #[.slice none 0 0] 59):=by
  rw[<-ad,bX _ _ _ (by simp;omega),bX _ _ _ (by simp)];exact World.alloc_heap_new _ _
 have g1:W0.heap[w.heap.size+1]?=some (Xh ps):=by
  rw[<-ad,bX _ _ _ (by simp)];have:=World.alloc_heap_new (w.alloc (.cells #[.slice none 0 0] 59)) (Xh ps);rw[World.size_alloc] at this;exact this
 have g2:W0.heap[w.heap.size+1+1]?=some (Xf t.root):=by
  rw[<-ad];have:=World.alloc_heap_new ((w.alloc (.cells #[.slice none 0 0] 59)).alloc (Xh ps)) (Xf t.root);rw[World.size_alloc,World.size_alloc] at this;exact this
 rw[ad] at hb⊢;have a4:pp w w.heap.size (w.heap.size+3) (fun k=>k=w.heap.size+1\/k=w.heap.size+1+1) [] W0:=⟨by omega,hb,fun k hk=>by omega,none,0,g0,World.ownsRow_nil _ _ _ _,fun g e=>nomatch e⟩;clear ad au;refine Kb rfl h1 (gf:=161) (lb:=#[PV (w.heap.size+1),PV (w.heap.size+1+1)]) rfl trivial (enters_of func161 (by kernel_rfl) rfl)
  (Ko HR.a HR.b HR.c HR.d HR.e _ _ hb (by omega) g1 g2) (fun k hk=>by omega) dU.trans
  (fun X W l o o' h1 h2 h3 h4 h5=>⟨nN W l o o' (by omega) h3 h4 h5,fun k o2 hx e=>(World.putObj_heap_other (by intro q;subst q;exact h2 hx)).trans e⟩) (aa _ _) (fun _=>rfl)
  (fun X ai W=>pp w w.heap.size (w.heap.size+3) X (ai.map (·.1.h)) W)
  (pp.own (B:=W0.heap.size) (fun l:List (It×Nd)=>l.map (·.1.h)) (by omega))
  a4
  (fun x a' _=>a'= { tmps:=#[PV ps,Xu t.root,undef,undef,.slice none 0 0,PV w.heap.size,Xu x.1.h,PV ps,Xu t.root,.func (.func 161) #[] #[PV (w.heap.size+1),PV (w.heap.size+1+1)],Xu x.1.h,eS x.2,undef,undef,undef,undef,undef],defers:=[] })
  (fun x a' _ X W' row hs hg hr=>hs)
  ?assign ?body ?done
 case assign=>
  rintro l X ai x W K hI hK;have HK:=If hK;clear hK;simp only[wa]
  gi_wp2
  exact HK.out _ _ (KeepsFrom.refl _ _) (dU.refl _ _ _) hI rfl
 case body=>
  rintro l X ai x a' W a9 ba hI rfl ⟨r,a3⟩;have a2:(ai.map (·.1.h)).length<=100000:=by
   have:=congrArg List.length a3;have:=HR.e
   simp at*
   omega
  obtain⟨A,c,an,A2,c2,W2,a7,⟨v2,ap⟩,ar,a0,a1⟩:=hI.append a2 x.1.h 59 w.heap.size Ih;generalize (ai.map (·.1.h)).length=n at*;have c0:(W).cell? ⟨w.heap.size,0,none⟩=some (.slice A n c):=by rw[cell_of_block an];rfl
  have d0:(W2).cell? ⟨w.heap.size,0,none⟩=some (v2):=by rw[cell_of_block ap];rfl
  have f0:(W2).frozen? ⟨w.heap.size,0,none⟩=false:=AT ap;have HI:=kq3 ar a0 a1;clear hI ar a0 a1 an ap a3 a2
  gi_wp2_with (gi_at_builtin;refine JJ _ rfl _ _ _ _ rfl _ _ rfl rfl _ _ a7 ?_)
  refine⟨by rw[z0];exact HI.b,HI.c,?_⟩
  show pp w w.heap.size (w.heap.size+3) X ((ai++[x]).map (·.1.h)) _
  rw[aP];exact HI.a
 case done=>
  rintro D X xs W hD rfl hI hK;obtain⟨A,c,an,ho,_⟩:=hI.ex;have HI:=kq2 ho hI.bl;generalize (t.nodes.map (·.1.h)).length=n at*;have c0:(W).cell? ⟨w.heap.size,0,none⟩=some (.slice A n c):=by rw[cell_of_block an];rfl
  clear hI an ho
  gi_wp2
  refine⟨by simp,.inl ⟨_,_,rfl,run_takeDeferred hK,?_⟩⟩;obtain⟨ho,a5⟩:=HI.out;have a6:∀g,(Value.slice A n c).ownBlock=some g->g≠D:=fun g e q=>by
   subst q;obtain⟨_,_,cs,fr,e3⟩:=ho.block e;rw[hK] at e3
   cases e3
  refine⟨.slice A n c,by simp[results,f75,go_sem],_,rfl,?_,a5.trans (nN W D _ _ (by omega) hK rfl rfl)⟩;rw[<-nodes_h];exact ho.at fun g e=>World.putObj_heap_other (a6 g e)
theorem KO {w:World}{ps:Nat}{S:St}{o:Nat->Nat}{Y:Nat->Prop}{t:Tr}(h:Ig w ps S Y)(hf:Fw S o)(ha:Tr.At S t)(hN:t.nodes.length<limit S)(hN2:t.nodes.length<=1000):
 Ct 75 #[PV ps,Xu t.root] w fun e w'=>∃v,e=.returned v/\FE w' (w.heap.size+3) v t.hs/\Below w.heap.size w w':=callsIn_wide.1 (LU h hf ha hN hN2)
theorem Kg {w:World}{B:Nat}{v:Value}{l xs:List Nat}(h:FE w B v l)(hl:l.length+xs.length<=100000)(ad:Addr)(c:Nat)(hc:∀j u,(hV xs)[j]?=some u->w.cell? (ad.add j)=some u)(hB:B<=w.heap.size)(ty:TypeId):
 ∃v' w',(Builtin.append_ #[59,59] ty #[v,.slice (some ad) xs.length c]).run prog w=.ok v' w'/\FE w' B v' (l++xs)/\w.grownBy w' v.ownBlock/\(v'.ownBlock=v.ownBlock\/∃g,v'.ownBlock=some g/\w.heap.size<=g):=by
 obtain⟨i,hi,ai,an,ap⟩:=info_parts uP;obtain⟨v',w',h1,h2,h3,_,h4⟩:=run_append_own_at (P:=prog) (w:=w) B 59 ty 61 i (Xu 0) 1 8 underlying59 hi ai an ap rfl (by decide) v l.length (hV l) h ad xs.length c (hV xs) (by simp[hV]) hc (fun u hu=>by obtain⟨x,_,rfl⟩:=ay.1 hu;rfl) (by unfold maxLen;omega) (by omega) hB;refine⟨v',w',h1,?_,h3,?_⟩
 ·have e:hV (l++xs)=hV l++hV xs:=by simp[hV]
  unfold FE;rw[e,ah];exact h2
 ·rcases h4 with h4 | h4
  ·exact ab h4
  ·exact ae ⟨_,h4,Nat.le_refl _⟩
theorem qXsag{P:Prop}(h:P:=by
 exact⟨v',w',h1,h2,(World.grownBy_alloc w _ _).trans h3,h4.imp id fun⟨g,e,hg⟩=>⟨g,e,by simp at hg;omega⟩⟩):P:=h
theorem KV {w:World}{B:Nat}{v:Value}{l:List Nat}(h:FE w B v l)(hl:l.length<=10000)(x y:Nat)(hB:B<=w.heap.size)(ty:TypeId):
 ∃v' w',(Builtin.append_ #[59,59] ty #[v,.slice (some ⟨w.heap.size,0,none⟩) 2 2]).run prog (w.alloc (.cells #[Xu x,Xu y] 61))=.ok v' w'/\FE w' B v' (l++[x,y])/\w.grownBy w' v.ownBlock/\(v'.ownBlock=v.ownBlock\/∃g,v'.ownBlock=some g/\w.heap.size<=g):=by
 obtain⟨v',w',h1,h2,h3,h4⟩:=Kg (xs:=[x,y]) (w:=w.alloc (.cells #[Xu x,Xu y] 61)) (h.alloc _) (by simp;omega) ⟨w.heap.size,0,none⟩ 2 (fun j u hu=>by
  have hn:=World.alloc_heap_new w (.cells #[Xu x,Xu y] 61);rw[Addr.add_lit,bH,cell_of_block hn]
  rcases j with _ | _ | j
  ·exact hu
  ·exact hu
  ·simp[hV] at hu) (by simp;omega) ty
 exact qXsag
def Kx(D b:Nat)(X:Nat->Prop)(W W':World):Prop:=KeepsFrom D W W'/\dU b X W W'
theorem Kx.trans {D b:Nat}{X:Nat->Prop}{A B C:World}(h:Kx D b X A B)(k:Kx D b X B C):Kx D b X A C:=⟨⟨aB h.1.size k.1.size,fun i o h1 h2 h3=>k.1.same i o h1 (h.1.same i o h1 h2 h3) h3⟩,h.2.trans k.2⟩
structure dT (w:World) (ps mb Bm Bd Bl Bf D:Nat) (X:Nat->Prop) (ks sd:List Nat) (lk:List UInt8) (fb:Bool) (W:World):Prop where
 lo:w.heap.size+1<mb/\mb<Bm/\Bm<Bd/\Bd<Bl/\Bl<Bf/\Bf<D/\D<=W.heap.size
 bl:Below w.heap.size w W
 cs:W.heap[w.heap.size]?=some (Xh ps)
 ce:W.heap[w.heap.size+1]?=some (.cells #[Xi 0] 27)
 cm:W.heap[Bm]?=some (.cells #[.map (some mb)] 123)
 cd:∃A c,W.heap[Bd]?=some (.cells #[.slice A sd.length c] 59)/\FE W w.heap.size (.slice A sd.length c) sd/\∀g,(Value.slice A sd.length c).ownBlock=some g->¬X g
 cl:W.heap[Bl]?=some (.cells #[SV lk] 9)
 cf:W.heap[Bf]?=some (.cells #[.bool fb] 4)
 mp:dS W mb ks
 xl:∀k,X k->w.heap.size<=k/\k<W.heap.size/\k≠w.heap.size/\k≠w.heap.size+1/\k≠mb/\k≠Bm/\k≠Bd/\k≠Bl/\k≠Bf
section
variable {w W W':World}{ps mb Bm Bd Bl Bf D B:Nat}{X X':Nat->Prop}{ks sd:List Nat}{lk:List UInt8}{fb:Bool}{row:Option Nat}
theorem dT.grown(h:dT w ps mb Bm Bd Bl Bf D X ks sd lk fb W)(hB:D<=B)(hg:W.grownBy W' row)(hr:∀r,row=some r->X r\/B<=r/\∃o:Obj,W.heap[r]?=some o/\o.isCells=false)(hx:∀k,X' k->X k\/W.heap.size<=k/\k<W'.heap.size):dT w ps mb Bm Bd Bl Bf D X' ks sd lk fb W':=by
 obtain⟨A,c,d1,d2,d3⟩:=h.cd;have ad:=hg.size;have ai:=h.lo;have ne:∀k,k<D->¬X k->row≠some k:=fun k hk hx e=>by
  rcases hr k e with q | ⟨q,_⟩
  ·exact hx q
  ·omega
 have kp:∀{k o},W.heap[k]?=some o->k<D->¬X k->W'.heap[k]?=some o:=fun e hk hx=>(hg.block _ (gl e) fun q=>ne _ hk hx q.symm).trans e;have nx:∀{k:Nat},k=w.heap.size\/k=w.heap.size+1\/k=mb\/k=Bm\/k=Bd\/k=Bl\/k=Bf->¬X k:=fun q hx=>by have:=h.xl _ hx;omega
 refine⟨by omega,h.bl.trans ⟨hg.os,hg.tape,hg.output,ad,fun k hk=>hg.block k (by omega) fun e=>?_⟩,kp h.cs (by omega) (nx (by omega)),kp h.ce (by omega) (nx (by omega)),kp h.cm (by omega) (nx (by omega)),⟨A,c,kp d1 (by omega) (nx (by omega)),d2.at fun g e=>hg.block g (d2.ge g e).2 fun q=>?_,fun g e q=>?_⟩,kp h.cl (by omega) (nx (by omega)),kp h.cf (by omega) (nx (by omega)),h.mp.kept (hg.block _ h.mp.lt fun q=>ne mb (by omega) (nx (by omega)) q.symm),fun k hk=>?_⟩
 ·rcases hr k e.symm with q | ⟨q,_⟩
  ·have:=h.xl _ q;omega
  ·omega
 ·obtain⟨_,_,cs,fr,e3⟩:=d2.block e
  rcases hr g q.symm with q | ⟨_,o,q,q2⟩
  ·exact d3 g e q
  ·rw[e3] at q
   cases q
   cases q2
 ·have:=(d2.ge g e).2
  rcases hx g q with q | q
  ·exact d3 g e q
  ·omega
 ·rcases hx k hk with q | q
  ·have:=h.xl _ q;omega
  ·omega
theorem dT.below(h:dT w ps mb Bm Bd Bl Bf D X ks sd lk fb W)(hb:Below W.heap.size W W'):dT w ps mb Bm Bd Bl Bf D X ks sd lk fb W'/\Kx D w.heap.size X W W':=by
 have hg:=lf hb;have lt:∀{k o},W.heap[k]?=some o->W'.heap[k]?=some o:=fun e=>(hb.block _ (gl e)).trans e;exact⟨h.grown (B:=D) Ih hg (fun r e=>by cases e) (fun k hk=> .inl hk),⟨hb.size,fun k o _ e _=>lt e⟩,⟨hb.mono h.bl.size,fun k o _ e=>lt e⟩⟩
theorem dT.one {r:Nat}(h:dT w ps mb Bm Bd Bl Bf D X ks sd lk fb W)(hr:r=mb\/r=Bl\/r=Bf)(hg:W.grownBy W' (some r)){ks':List Nat}{lk':List UInt8}{fb':Bool}
 (cl:W'.heap[Bl]?=some (.cells #[SV lk'] 9)) (cf:W'.heap[Bf]?=some (.cells #[.bool fb'] 4)) (mp:dS W' mb ks'):dT w ps mb Bm Bd Bl Bf D X ks' sd lk' fb' W'/\Kx D w.heap.size X W W':=by
 obtain⟨A,c,d1,d2,d3⟩:=h.cd;have ad:=hg.size;have an:=h.lo;have ai:∀g,(Value.slice A sd.length c).ownBlock=some g->g≠r:=fun g e q=>by
  subst q;obtain⟨_,_,cs,fr,e3⟩:=d2.block e;rcases hr with rfl | rfl | rfl
  ·obtain⟨es,cc,e4⟩:=h.mp.obj;rw[e3] at e4;cases e4
  ·have e4:=h.cl;rw[e3] at e4;cases e4
  ·have e4:=h.cf;rw[e3] at e4;cases e4
 have kp:∀{k o},W.heap[k]?=some o->k≠r->W'.heap[k]?=some o:=fun e hk=>(hg.block _ (gl e) fun q=>hk (Option.some.inj q)).trans e;refine⟨⟨by omega,h.bl.trans ⟨hg.os,hg.tape,hg.output,ad,fun k hk=>hg.block k (by omega) fun q=>by have:=Option.some.inj q;omega⟩,kp h.cs (by omega),kp h.ce (by omega),kp h.cm (by omega),⟨A,c,kp d1 (by omega),d2.at fun g e=>hg.block g (d2.ge g e).2 fun q=>ai g e (Option.some.inj q),d3⟩,cl,cf,mp,fun k hk=>by have:=h.xl k hk;omega⟩,⟨ad,fun k o hk e _=>kp e (by omega)⟩,⟨hg.os,hg.tape,hg.output,ad,fun k hk=>hg.block k (by omega) fun q=>by have:=Option.some.inj q;omega⟩,fun k o hx e=>kp e fun q=>by have:=h.xl k hx;omega⟩
theorem dT.seen(h:dT w ps mb Bm Bd Bl Bf D X ks sd lk fb W){x:Nat}(hx:x<2^64)(hn:x∉ks)(hl:ks.length<100000):
 (Instr.lookup 123 (.map (some mb)) (Xu x) false).run prog W=.ok (Xi 0) W/\∃W',(Instr.mapUpdate 123 (.map (some mb)) (Xu x) (Xi 1)).run prog W=.ok () W'/\
  (Instr.lookup 123 (.map (some mb)) (Xu x) false).run prog W'=.ok (Xi 1) W'/\W.grownBy W' (some mb)/\dT w ps mb Bm Bd Bl Bf D X (ks++[x]) sd lk fb W'/\Kx D w.heap.size X W W':=by
 have hc:ks.count x=0:=List.count_eq_zero.2 hn;have h0:=h.mp.look x hx;obtain⟨W',hr,hm,hg⟩:=h.mp.store x hx hl;have h2:=hm.look x hx;have ad:(ks++[x]).count x=1:=by rw[List.count_append,hc];simp
 rw[hc] at h0 hr;rw[ad] at h2;have ai:=h.lo;have kp:∀{k o},W.heap[k]?=some o->k≠mb->W'.heap[k]?=some o:=fun e hk=>(hg.block _ (gl e) fun q=>hk (Option.some.inj q)).trans e;obtain⟨r1,r2⟩:=h.one (.inl rfl) hg (kp h.cl (by omega)) (kp h.cf (by omega)) hm;exact⟨h0,W',hr,h2,hg,r1,r2⟩
theorem dT.last(h:dT w ps mb Bm Bd Bl Bf D X ks sd lk fb W)(k:List UInt8):dT w ps mb Bm Bd Bl Bf D X ks sd k fb (W.setCell ⟨Bl,0,none⟩ (SV k))/\Kx D w.heap.size X W (W.setCell ⟨Bl,0,none⟩ (SV k)):=by
 have ad:=h.lo;exact h.one (.inr (.inl rfl)) (grownBy_setCell' W Bl _) (heap_setCell (i:=0) (v:=SV k) h.cl) ((FB (by omega)).trans h.cf) (h.mp.kept (FB (by omega)))
theorem dT.first(h:dT w ps mb Bm Bd Bl Bf D X ks sd lk fb W)(b:Bool):dT w ps mb Bm Bd Bl Bf D X ks sd lk b (W.setCell ⟨Bf,0,none⟩ (.bool b))/\Kx D w.heap.size X W (W.setCell ⟨Bf,0,none⟩ (.bool b)):=by
 have ad:=h.lo;exact h.one (.inr (.inr rfl)) (grownBy_setCell' W Bf _) ((FB (by omega)).trans h.cl) (heap_setCell (i:=0) (v:=.bool b) h.cf) (h.mp.kept (FB (by omega)))
theorem dT.side(h:dT w ps mb Bm Bd Bl Bf D X ks sd lk fb W)(hl:sd.length<=10000)(x y:Nat)(ty:TypeId):
 ∃A c,W.heap[Bd]?=some (.cells #[.slice A sd.length c] 59)/\∃A2 c2 W2,(Builtin.append_ #[59,59] ty #[.slice A sd.length c,.slice (some ⟨W.heap.size,0,none⟩) 2 2]).run prog (W.alloc (.cells #[Xu x,Xu y] 61))=.ok (.slice A2 (sd.length+2) c2) W2/\(∃v,W2.heap[Bd]?=some (.cells #[v] 59))/\
  dT w ps mb Bm Bd Bl Bf D X ks (sd++[x,y]) lk fb (W2.setCell ⟨Bd,0,none⟩ (.slice A2 (sd.length+2) c2))/\Kx D w.heap.size X W (W2.setCell ⟨Bd,0,none⟩ (.slice A2 (sd.length+2) c2)):=by
 obtain⟨A,c,d1,d2,d3⟩:=h.cd;have a5:=h.lo;have a3:=h.bl.size;obtain⟨v2,W2,a1,ar,ad,a2⟩:=KV d2 hl x y a3 ty;obtain⟨A2,c2,rfl⟩:=ar.slice2;have au:=ad.size;have el:(sd++[x,y]).length=sd.length+2:=by simp
 rw[el] at a1;have ai:∀g cs ty fr,W.heap[g]?=some (.cells cs ty fr)->ty≠61->(Value.slice A sd.length c).ownBlock≠some g:=fun g cs ty fr e q q2=>by
  obtain⟨_,_,an,ap,e3⟩:=d2.block q2;rw[e] at e3;cases e3
  exact q rfl
 have kp:∀{k o},W.heap[k]?=some o->(Value.slice A sd.length c).ownBlock≠some k->W2.heap[k]?=some o:=fun e q=>(ad.block _ (gl e) fun q2=>q q2.symm).trans e;have k1:=kp d1 (ai _ _ _ _ d1 (by decide));have hs:∀k,k≠Bd->(W2.setCell ⟨Bd,0,none⟩ (.slice A2 (sd.length+2) c2)).heap[k]?=W2.heap[k]?:=fun k hk=>FB hk;have kq:∀{k o},W.heap[k]?=some o->(Value.slice A sd.length c).ownBlock≠some k->k≠Bd->(W2.setCell ⟨Bd,0,none⟩ (.slice A2 (sd.length+2) c2)).heap[k]?=some o:=fun e q q2=>(hs _ q2).trans (kp e q);have lb:∀k,k<w.heap.size->(Value.slice A sd.length c).ownBlock≠some k:=fun k hk e=>by have:=(d2.ge k e).1;omega
 have hm:(Value.slice A sd.length c).ownBlock≠some mb:=fun e=>by
  obtain⟨_,_,an,ap,e3⟩:=d2.block e;obtain⟨es,cc,e4⟩:=h.mp.obj;rw[e3] at e4;cases e4
 have a0:∀k,k<w.heap.size->(W2.setCell ⟨Bd,0,none⟩ (.slice A2 (sd.length+2) c2)).heap[k]?=W.heap[k]?:=fun k hk=>(hs k (by omega)).trans (ad.block k (by omega) fun e=>lb k hk e.symm);refine⟨A,c,d1,A2,c2,W2,a1,⟨_,k1⟩,⟨by rw[size_setCell];omega,h.bl.trans ⟨ad.os,ad.tape,ad.output,by rw[size_setCell];exact au,a0⟩,kq h.cs (ai _ _ _ _ h.cs (by decide)) (by omega),kq h.ce (ai _ _ _ _ h.ce (by decide)) (by omega),kq h.cm (ai _ _ _ _ h.cm (by decide)) (by omega),⟨A2,c2,?_,?_,fun g e q=>?_⟩,kq h.cl (ai _ _ _ _ h.cl (by decide)) (by omega),kq h.cf (ai _ _ _ _ h.cf (by decide)) (by omega),?_,fun k hk=>?_⟩,⟨by rw[size_setCell];exact au,fun k o hk e hc=>kq e (fun q=>?_) (by omega)⟩,⟨ad.os,ad.tape,ad.output,by rw[size_setCell];exact au,a0⟩,fun k o hx e=>kq e (fun q=>d3 k q hx) fun q=>by have:=h.xl k hx;omega⟩
 ·rw[el];exact heap_setCell (i:=0) (v:=.slice A2 (sd.length+2) c2) k1
 ·exact ar.at fun g e=>hs g fun q=>by
   subst q;obtain⟨_,_,an,ap,e3⟩:=ar.block e;rw[k1] at e3;cases e3
 ·rcases a2 with q2 | ⟨g',q2,a4⟩
  ·rw[q2] at e;exact d3 g e q
  ·rw[q2] at e;cases e
   have:=h.xl g q;omega
 ·obtain⟨es,cc,e4⟩:=h.mp.obj;exact h.mp.kept ((kq e4 hm (by omega)).trans e4.symm)
 ·rw[size_setCell];have:=h.xl k hk;omega
 ·obtain⟨_,_,an,ap,e3⟩:=d2.block q;rw[e] at e3;cases e3
  cases hc
end
end
section
open Go.RowKit Tryz Go.BigFrame Go.Maps Go.WideMaps Lf
open Go.Shelf
variable{Y:Nat->Prop}{s:Slab}
attribute [local go_sem] Oper.semAt_some
theorem dU.of_below{n0:Nat}{X:Nat->Prop}{A B:World}(h:Below A.heap.size A B)(hn:n0<=A.heap.size):dU n0 X A B:=⟨h.mono hn,fun k _ _ e=>(h.block k (gl e)).trans e⟩
theorem Lj{w:World}{ph pa pm:Nat}(h:Fz w ph pa pm s Y):∀x∈kf s,x.1<=1048575/\x.2.kind<256/\x.2.n<2^56/\x.2.w<2^64:=by
 have key:∀(l:List Nat) (nx:Nat),(∀p∈l,p<=1048575)->∀x∈gC s nx l,x.1<=1048575/\x.2=FA s x.1:=by
  intro l
  induction l with
  | nil=>exact fun _ _ _ hx=>by cases hx
  | cons p l ih=>
   intro nx hp x hx;unfold gC at hx
   split at hx
   ·exact ih _ (fun q hq=>hp q (ak _ hq)) x hx
   ·rcases aj.1 hx with rfl | hx
    ·exact⟨hp p (am ..),rfl⟩
    ·exact ih _ (fun q hq=>hp q (ak _ hq)) x hx
 intro x hx;obtain⟨h1,h2⟩:=key s.keys 0 (fun p hp=>h.wf.top p hp) x hx;rw[h2];exact⟨h1,getH_lt h x.1⟩
theorem Km:∀{l:List (Nat×Hr)},(∀x∈l,x.1<=1048575/\x.2.kind<256/\x.2.n<2^56/\x.2.w<2^64)->∃r:List iH,gt r=l
 | [],_=>⟨[],rfl⟩
 | x::l,h=>by
  obtain⟨r,hr⟩:=Km (l:=l) fun y hy=>h y (ak _ hy);exact⟨⟨x,h x (am ..)⟩::r,by show _::r.map (·.1)=_;rw[show r.map (·.1)=l from hr]⟩
theorem Lh{w0 w:World}{ph pa pm:Nat}(h:Fz w0 ph pa pm s Y)(hb0:Below w0.heap.size w0 w)(B:Nat)(hBl:B<w.heap.size)(hB:w.cell? ⟨B,0,none⟩=some (PV ph)):
 JT Fence.wide 6 prog 159 #[PV B] mF (dU w0.heap.size) (fun k=>k=B) (fun xs=>gt xs=kf s) w:=fun l J W hW hJ hY h0=>by
 have a4:=hb0.trans (hW.mono hb0.size);have hH:=h.below a4;have bx:W.cell? ⟨B,0,none⟩=some (PV ph):=(hW.cell (p:=⟨B,0,none⟩) hBl).trans hB;have b4:CallsIn Fence.wide 5 prog 132 #[PV pa] W _:=callsIn_wide.2 hH.pages;have c1:=hH.cell;have bv:=hW.size;have HY:=If hY;have ck:Fence.wide.fn 132:=trivial;have cj:Fence.wide.fn 153:=trivial;have HJ:=If hJ;have H0:=kq6 hH h0 a4 (aJ hBl bv) bx h;clear hY hJ hH h0 h hB hW hBl hb0 a4 bv;refine callsIn_of_wp func159 rfl trivial ?_ rfl;simp only[ntmps159,aR,ag,aM,Nat.reduceAdd,Nat.reduceSub,aN,aO,aU,aQ,aY,aK];gi_wp2_with (gi_at_call 132;refine b4.mono ?_;rintro e w1 ⟨v,rfl,⟨A,c,rfl,hrow⟩,bb⟩)
 have HR:=kq3 hrow bb (H0.a.below bb);clear hrow bb c1;gi_loopw [3,5,13] (fun nx _ i wr=>∃k:Nat,k<=s.keys.length/\i=Xi k/\nx=Xi (fl s k).2/\Hid (dU w0.heap.size (fun k=>k=B\/W.heap.size<=k/\k<w1.heap.size) w1 wr/\∃pX,gt pX=(fl s k).1/\J (fun k=>k=B\/W.heap.size<=k/\k<w1.heap.size) pX wr)) (fun _ _ i _=>s.keys.length-(intOf i).toNat)
 case atStart=>exact⟨0,by omega,rfl,rfl,dU.refl _ _ _,[],rfl,HJ.out _ _ _ _ _ none H0.b (lf HR.b) (fun r e=>by cases e) (fun k hk=>hk)⟩
 case round=>
  obtain⟨k,hk,rfl,rfl,ad⟩:=hrel;have a9:=H0.c.trans ((HR.b.mono H0.c.size).trans ad.out.1.1);have an:=H0.f.below a9;have cn:k<=4096:=by
   have h1:=an.wf.room;have h2:=an.wf.quota;rw[i8] at hk;omega
  by_cases hlt:k<s.keys.length
  ·obtain⟨b,o,rfl,a4,bm,bo⟩:=HR.a k hlt;have bo:=(Ha (o:=o+k) (ad.out.1.eq (.inr ⟨a4,bm⟩) bm)).trans bo;have b0:=aJ H0.d HR.b.size;have ch:=(Ha (o:=0) (ad.out.1.eq (.inl rfl) b0)).trans ((HR.b.cell (p:=⟨B,0,none⟩) H0.d).trans H0.e);have bs:s.keys.getD k 0=s.keys[k]:=by rw[av,af hlt];rfl
   have b9:s.keys[k]<=1048575:=an.wf.top _ (aw _);have bu:=uG an k (by omega);have a6:fl s (k+1)=if s.keys[k]<(fl s k).2 then fl s k
    else((fl s k).1++[(s.keys[k],FA s s.keys[k])],if(FA s s.keys[k]).kind=2 then s.keys[k]+(FA s s.keys[k]).n else(fl s k).2):=by
    conv=>lhs;unfold fl
    rw[bs]
   have bt:=uF s k;have cq:(k:Int)<s.keys.length:=by omega
   have ar:Hid (k+1<=s.keys.length):=If hlt;have bd:∀pX:List iH,gt pX=(fl s (k+1)).1->∃r,gt (pX++r)=kf s:=fun pX hp=>by
    obtain⟨dd,hd⟩:∃dd,s.keys.length=k+1+dd:=⟨s.keys.length-(k+1),by omega⟩;obtain⟨r,hr⟩:=qO s (k+1) dd;rw[<-hd,qN] at hr;obtain⟨r2,b'⟩:=Km (l:=r) fun x hx=>Lj H0.f x (by rw[<-hr];exact aG _ hx);exact⟨r2,by show (pX++r2).map (·.1)=_;rw[aP,show pX.map (·.1)=(fl s (k+1)).1 from hp,show r2.map (·.1)=r from b',hr]⟩
   obtain⟨T,hT⟩:=Ii (fl s k);obtain⟨T',ba⟩:=Ii (fl s (k+1));rw[hT] at ad bu a6 bt⊢;rw[ba] at a6 bd;have bq:=getH_lt an s.keys[k];have b1:CallsIn Fence.wide 5 prog 153 #[PV ph,Xi (s.keys[k]:Nat)] wr _:=callsIn_wide.2 (qU an s.keys[k] (by omega));generalize FA s s.keys[k]=x at*;generalize s.keys[k]=p at*;obtain⟨a1,nx⟩:=T;simp only at ad bu a6 bt⊢;have HS:=kq5 ba a6 an bd a9;clear hT ba a6 an bs bd a9;by_cases hsk:p<nx
   ·have ap:T'=(a1,nx):=by rw[HS.b,if_pos hsk]
    gi_wp2_with fail;go_roundw
    case rel=>exact⟨k+1,ar.out,by go_num,by rw[HS.a,ap],by rw[HS.a,ap];exact ad⟩
    case measure=>have:=ar.out;simp[intOf];omega
   ·gi_wp2_with fail;refine b1.mono ?_;rintro e w2 ⟨rfl,a8⟩;obtain⟨w3,ai⟩:=Ii (w2.alloc (Xk x.kind x.n x.w));have a3:Below wr.heap.size wr w3:=by rw[<-ai];exact a8.alloc a8.size _
    obtain⟨pX,a0,a7⟩:=ad.out.2;have a':=HJ.out _ _ _ _ _ none a7 (lf a3) (fun r e=>by cases e) (fun _ hk=> .inl hk);have b2:pX.length=a1.length:=by rw[<-a0];exact(ao _).symm
    obtain⟨xX,bj⟩:∃xX:iH,xX.1=(p,x):=⟨⟨(p,x),b9,bq⟩,rfl⟩;have bc:gt (pX++[xX])=a1++[(p,x)]:=by show (pX++[xX]).map (·.1)=_;rw[aP,show pX.map (·.1)=a1 from a0];simp[bj]
    obtain⟨rr,bf⟩:=HS.d (pX++[xX]) (by rw[bc,HS.b,if_neg hsk]);rw[bC] at bf;obtain⟨fn,cu,cb,cc,hy,au⟩:=HY.out _ pX xX w3 a' ⟨rr,bf⟩;have bk:=If bc;clear bc a0 b2 a7 bf;dsimp only[mF] at hy
    rw[bj] at hy;obtain⟨kd,xn,xw⟩:=x;dsimp only[fT] at hy
    simp only at bq ai;clear bj;by_cases hk2:kd=2
    ·subst hk2;have ap:T'=(a1++[(p,⟨2,xn,xw⟩)],p+xn):=by rw[HS.b,if_neg hsk,if_pos rfl]
     rw[show ((2:Nat):Int)=2 from rfl] at ai hy;rw[<-ai] at hy au;have H3:=If a3;rw[<-ai] at H3;clear a3 a8 a' ai;simp only[fT];gi_wp2_with fail;refine au.mono ?_;rintro e w4 ⟨rfl,a2,a5⟩;have H4:=kq2 (ad.out.1.trans ((dU.of_below H3.out (HS.e.size)).trans a5)) a2;clear a2 a5 hy au;gi_wp2_with fail;go_roundw
     case rel=>exact⟨k+1,ar.out,by go_num,by rw[HS.a,ap];go_num,by rw[HS.a,ap];exact⟨H4.a,_,bk.out,H4.b⟩⟩
     case measure=>have:=ar.out;simp[intOf];omega
    ·have cp:((kd:Int)==2)=false:=by simp;omega
     have ap:T'=(a1++[(p,⟨kd,xn,xw⟩)],nx):=by rw[HS.b,if_neg hsk,if_neg hk2]
     have ca:=If hk2;clear hk2;rw[<-ai] at hy au;have H3:=If a3;rw[<-ai] at H3;clear a3 a8 a' ai;simp only[fT];gi_wp2_with fail;refine au.mono ?_;rintro e w4 ⟨rfl,a2,a5⟩;have H4:=kq2 (ad.out.1.trans ((dU.of_below H3.out (HS.e.size)).trans a5)) a2;clear a2 a5 hy au;gi_wp2_with fail;go_roundw
     case rel=>exact⟨k+1,ar.out,by go_num,by rw[HS.a,ap],by rw[HS.a,ap];exact⟨H4.a,_,bk.out,H4.b⟩⟩
     case measure=>have:=ar.out;simp[intOf];omega
  ·obtain rfl:k=s.keys.length:=by omega
   gi_wp2
   go_end0
   obtain⟨pX,a0,a7⟩:=ad.out.2;rw[qN] at a0;exact⟨⟨_,rfl⟩,_,pX,a0,a7⟩
end
section
open Go.RowKit Tryz Go.BigFrame Go.Maps Go.WideMaps Lf
variable{B:Nat}{D:Nat}{l:List Nat}{v:Value}{w:World}
def nV(l:List Nat):List Value:=l.map fun x:Nat=>Value.int .i64 x
theorem Lt:(prog.info? 3).map (fun i=>(i.zero,i.size,i.bytes))=some (some (Xi 0),1,8):=by kernel_rfl
abbrev mq(w:World)(B:Nat)(v:Value)(l:List Nat):Prop:=w.ownsRow B 3 1 v l.length (nV l)
theorem KT(h:mq w B v l)(hl:l.length<=100000)(x:Nat)(hB:B<=w.heap.size)(ty:TypeId):
 ∃v' w',(Builtin.append_ #[57,57] ty #[v,.slice (some ⟨w.heap.size,0,none⟩) 1 1]).run prog (w.alloc (Xj x))=.ok v' w'/\mq w' B v' (l++[x])/\w.grownBy w' v.ownBlock/\(v'.ownBlock=v.ownBlock\/∃g,v'.ownBlock=some g/\w.heap.size<=g):=by
 obtain⟨i,hi,ad,ai,an⟩:=info_parts Lt;obtain⟨v',w',h1,h2,h3,_,h4⟩:=run_append_own_at (P:=prog) (w:=w.alloc (Xj x)) B 57 ty 3 i (Xi 0) 1 8 underlying57 hi ad ai an rfl (by decide) v l.length (nV l) (h.alloc _) ⟨w.heap.size,0,none⟩ 1 1 [Xi x] rfl (cell_one_new _ _ _) (by simp[Value.oneCell']) (by unfold maxLen;omega) (by omega) (by simp;omega);refine⟨v',w',h1,?_,(World.grownBy_alloc w _ _).trans h3,?_⟩
 ·have e:nV (l++[x])=nV l++[Xi x]:=by simp[nV]
  unfold mq;rw[e,ah];exact h2
 ·rcases h4 with h4 | h4
  ·exact ab h4
  ·exact ae ⟨_,h4,by simp⟩
theorem mq.at{w w':World}(h:mq w D v l)(e:∀g,v.ownBlock=some g->w'.heap[g]?=w.heap[g]?):mq w' D v l:=by
 refine⟨h.1,?_⟩
 rcases h.2 with hn | ⟨g,ad,ai,rfl,hb,an,ap⟩
 ·exact .inl hn
 ·exact .inr ⟨g,ad,ai,rfl,hb,(e g rfl).trans an,ap⟩
theorem mq.ge(h:mq w D v l):∀g,v.ownBlock=some g->D<=g/\g<w.heap.size:=World.ownsRow.lt h
theorem mq.slice2(h:mq w D v l):∃A c,v=.slice A l.length c:=by
 rcases h.2 with⟨rfl,e⟩ | ⟨g,ad,ai,rfl,_⟩
 ·exact⟨none,0,by rw[e]⟩
 ·exact⟨_,_,rfl⟩
theorem mq.block(h:mq w B v l){g:Nat}(hg:v.ownBlock=some g):B<=g/\g<w.heap.size/\∃cs fr,w.heap[g]?=some (.cells cs 3 fr):=by
 rcases h.2 with⟨e,_⟩ | ⟨b,c,ai,e,hb,ad,ar,an,ap,ht⟩
 ·rw[e] at hg
  cases hg
 ·rw[e] at hg
  cases hg
  exact⟨hb,(gl ad),_,_,ad⟩
structure mZ (w:World) (Bo D:Nat) (X:Nat->Prop) (L:List Nat) (W:World):Prop where
 lo:w.heap.size<=Bo/\Bo<D/\D<=W.heap.size
 bl:Below w.heap.size w W
 xl:∀k,X k->w.heap.size<=k/\k≠Bo/\k<W.heap.size
 ex:∃A c,W.heap[Bo]?=some (.cells #[.slice A L.length c] 57)/\mq W D (.slice A L.length c) L/\∀g,(Value.slice A L.length c).ownBlock=some g->¬X g
section
variable {w W W':World}{Bo D B:Nat}{X X':Nat->Prop}{L:List Nat}{row:Option Nat}
theorem mZ.grown(h:mZ w Bo D X L W)(hB:w.heap.size<=B)(hg:W.grownBy W' row)(hr:∀r,row=some r->X r\/B<=r/\∃o:Obj,W.heap[r]?=some o/\o.isCells=false)(hx:∀k,X' k->X k\/W.heap.size<=k/\k<W'.heap.size):mZ w Bo D X' L W':=by
 obtain⟨A,c,h1,h2,h3⟩:=h.ex;exact qXsab
theorem mZ.own {α:Type}(f:List α->List Nat)(hB:w.heap.size<=B):rs B (fun X xs W=>mZ w Bo D X (f xs) W):=fun _ _ _ _ _ _ h hg hr hx=>h.grown hB hg hr hx
theorem mZ.append(h:mZ w Bo D X L W)(hl:L.length<=100000)(x:Nat)(ty:TypeId)(n0:Nat)(hn:n0<=Bo):
 ∃A c,W.heap[Bo]?=some (.cells #[.slice A L.length c] 57)/\∃A2 c2 W2,(Builtin.append_ #[57,57] ty #[.slice A L.length c,.slice (some ⟨W.heap.size,0,none⟩) 1 1]).run prog (W.alloc (Xj x))=.ok (.slice A2 (L.length+1) c2) W2/\(∃v,W2.heap[Bo]?=some (.cells #[v] 57))/\
  mZ w Bo D X (L++[x]) (W2.setCell ⟨Bo,0,none⟩ (.slice A2 (L.length+1) c2))/\KeepsFrom D W (W2.setCell ⟨Bo,0,none⟩ (.slice A2 (L.length+1) c2))/\dU n0 X W (W2.setCell ⟨Bo,0,none⟩ (.slice A2 (L.length+1) c2))/\∀k o,W.heap[k]?=some o->k≠Bo->(∀cs fr,o≠ .cells cs 3 fr)->(W2.setCell ⟨Bo,0,none⟩ (.slice A2 (L.length+1) c2)).heap[k]?=some o:=by
 obtain⟨A,c,h1,h2,h3⟩:=h.ex;have ar:=h.lo;have a3:=(gl h1);obtain⟨v2,W2,a1,ai,ad,a2⟩:=KT h2 hl x ar.2.2 ty;obtain⟨A2,c2,rfl⟩:=ai.slice2;have an:=ad.size;rw[ah,bi] at a1 ai a2;have au:∀k,k<W.heap.size->(k<D\/X k)->W2.heap[k]?=W.heap[k]?:=fun k hk q=>ad.block k hk fun e=>by
  rcases q with q | q
  ·have:=(h2.ge k e.symm).1;omega
  ·exact h3 k e.symm q
 have ap:=(au Bo a3 (.inl ar.2.1)).trans h1;have hs:∀k,k≠Bo->(W2.setCell ⟨Bo,0,none⟩ (.slice A2 (L.length+1) c2)).heap[k]?=W2.heap[k]?:=fun k hk=>FB hk;have a0:=ai;have key:∀k,k<W.heap.size->(k<D\/X k)->k≠Bo->(W2.setCell ⟨Bo,0,none⟩ (.slice A2 (L.length+1) c2)).heap[k]?=W.heap[k]?:=fun k hk q q2=>(hs k q2).trans (au k hk q);refine⟨A,c,h1,A2,c2,W2,a1,⟨_,ap⟩,⟨by rw[size_setCell];omega,h.bl.trans ⟨ad.os,ad.tape,ad.output,by rw[size_setCell];exact an,fun k hk=>key k (by have:=h.bl.size;omega) (.inl (by omega)) (by omega)⟩,(fun k hk=>by have:=h.xl k hk;rw[size_setCell];omega),A2,c2,?_,?_,fun g e q=>?_⟩,⟨by rw[size_setCell];exact an,fun k o hk e hc=>?_⟩,⟨⟨ad.os,ad.tape,ad.output,by rw[size_setCell];exact an,fun k hk=>key k (by have:=h.lo;omega) (.inl (by omega)) (by omega)⟩,fun k o hk e=>(key k (gl e) (.inr hk) (h.xl k hk).2.1).trans e⟩,fun k o e hk ht=>(hs k hk).trans ((ad.block k (gl e) fun q=>by
  obtain⟨_,_,cs,fr,e3⟩:=h2.block q.symm;rw[e] at e3;exact ht _ _ (Option.some.inj e3)).trans e)⟩
 ·rw[ah,bi];exact heap_setCell (i:=0) (v:=.slice A2 (L.length+1) c2) ap
 ·rw[ah,bi];exact a0.at fun g e=>hs g (by have:=(a0.ge g e).1;omega)
 ·rw[ah,bi] at e;rcases a2 with q2 | ⟨g',q2,hg⟩
  ·exact h3 g (q2▸e) q
  ·rw[e] at q2;cases q2
   have:=h.xl g q;omega
 ·have a4:=(gl e);refine(hs k (by omega)).trans ((ad.block k a4 fun q=>?_).trans e);obtain⟨_,_,cs,fr,e3⟩:=h2.block q.symm;rw[e] at e3;cases e3
  cases hc
end
end
section
open Go.RowKit Tryz Go.BigFrame Go.Maps Go.WideMaps Lf
open Go.Shelf
variable{X:Nat->Prop}{w:World}
attribute [local go_sem] Oper.semAt_some
theorem JZ(l m:List (Nat×Hr)):GB (l++m)=GB l++GB m:=by
 induction l with
 | nil=>rfl
 | cons x l ih=>obtain⟨p,y⟩:=x;simp only[aK,GB,ih,bC]
theorem dU.put{n0:Nat}{W:World}{l:Nat}{o o':Obj}(hn:n0<=l)(hx:¬X l)(h:W.heap[l]?=some o)(h1:o.isCells=false)(h2:o.isWalk=false):dU n0 X W (W.putObj l o'):=
 ⟨nN W l o o' hn h h1 h2,fun k o2 hk e=>(World.putObj_heap_other (by intro q;subst q;exact hx hk)).trans e⟩
theorem mZ.below{w W W':World}{Bo D:Nat}{L:List Nat}(h:mZ w Bo D X L W)(hb:Below W.heap.size W W'):mZ w Bo D X L W'/\Kx D w.heap.size X W W':=
 ⟨h.grown (B:=w.heap.size) Ih (lf hb) (fun r e=>by cases e) (fun _ hk=> .inl hk),⟨hb.size,fun k o _ e _=>(hb.block k (gl e)).trans e⟩,dU.of_below hb h.bl.size⟩
theorem mq.base{B B':Nat}{v:Value}{l:List Nat}(h:mq w B v l)(hB:B'<=B):mq w B' v l:=
 ⟨h.1,h.2.imp id fun⟨g,cap,cur,h1,h2,h3⟩=>⟨g,cap,cur,h1,aB hB h2,h3⟩⟩
def py(p n w k:Nat):List Nat:=((List.range k).filter fun j=>jI w j).map (fF p n)
theorem KA(p n w k:Nat):py p n w (k+1)=if jI w k=true then py p n w k++[fF p n k] else py p n w k:=by
 unfold py;rw[du,List.filter_append]
 by_cases h:jI w k=true
 ·rw[if_pos h,List.filter_cons_of_pos h]
  simp
 ·rw[if_neg h,List.filter_cons_of_neg h]
  simp
theorem Lw(p n w k m:Nat)(h:k<=m):(py p n w k).length<=(py p n w m).length:=by
 induction m with
 | zero=>rw[show k=0 by omega];exact Nat.le_refl _
 | succ m ih=>
  by_cases q:k=m+1
  ·rw[q];exact Nat.le_refl _
  ·have:=ih (by omega);rw[KA]
   split
   ·rw[ah];omega
   ·exact this
theorem Ll{ph pa pm:Nat}{s:Slab}{Y:Nat->Prop}(h:Fz w ph pa pm s Y)(hn:(G6 s).length<=90000):
 Ct 68 #[PV ph] w fun e w'=>∃v,e=.returned v/\mq w' w.heap.size v (G6 s)/\Below w.heap.size w w':=by
 refine(callsIn_wide (n:=7)).1 ?_;have h1:1<=7:=by omega
 have dd:Fence.wide.fn 117:=trivial;have c9:Fence.wide.fn 116:=trivial;have c8:Fence.wide.fn 118:=trivial;have dc:Fence.wide.fn 119:=trivial;have c':Fence.wide.fn 101:=trivial;have ca:=(callsIn_wide (n:=6)).2 (qV h);have b':∀W,CallsIn Fence.wide 6 prog 116 #[PV ph] W _:=fun W=>callsIn_wide.2 (qQ ph W);have HR:=kq3 h hn ca;clear h hn ca;refine callsIn_of_wp_marks func68 rfl trivial ?_ rfl;simp only[ntmps68,aR,ag,aM,Nat.reduceAdd,Nat.reduceSub,aN,aO,aU,aQ,aY,aK];gi_wp2_with fail;refine HR.c.mono ?_;rintro e w1 ⟨rfl,rfl⟩;gi_wp2_with fail;refine(b' _).mono ?_;rintro e w4 ⟨rfl,rfl⟩;gi_wp2_with fail;have hb:Below w.heap.size w ((w.alloc (.cells #[.slice none 0 0] 57)).alloc (Xm ph)):=((aa _ _).alloc Ih _).alloc (by simp) _;have g0:((w.alloc (.cells #[.slice none 0 0] 57)).alloc (Xm ph)).heap[w.heap.size]?=some (.cells #[.slice none 0 0] 57):=by
  rw[bX _ _ _ (by simp)];exact World.alloc_heap_new _ _
 have g1:((w.alloc (.cells #[.slice none 0 0] 57)).alloc (Xm ph)).heap[w.heap.size+1]?=some (Xm ph):=by
  have:=World.alloc_heap_new (w.alloc (.cells #[.slice none 0 0] 57)) (Xm ph);rw[World.size_alloc] at this;exact this
 have z0:((w.alloc (.cells #[.slice none 0 0] 57)).alloc (Xm ph)).heap.size=w.heap.size+2:=by simp
 generalize ((w.alloc (.cells #[.slice none 0 0] 57)).alloc (Xm ph))=W0 at*;have a4:mZ w w.heap.size (w.heap.size+2) (fun k=>k=w.heap.size+1) (GB (gt [])) W0:=⟨by omega,hb,fun k hk=>by omega,none,0,g0,World.ownsRow_nil _ _ _ _,fun g e=>nomatch e⟩;clear b';refine Kb rfl h1 (gf:=159) (lb:=#[PV (w.heap.size+1)]) rfl trivial (enters_of func159 (by kernel_rfl) rfl)
  (Lh HR.a hb (w.heap.size+1) (by omega) (by rw[cell_of_block g1];rfl)) (fun k hk=>by omega) dU.trans
  (fun X W l o o' h1 h2 h3 h4 h5=>dU.put (by omega) h2 h3 h4 h5) (aa _ _) (fun _=>rfl)
  (fun X ad W=>mZ w w.heap.size (w.heap.size+2) X (GB (gt ad)) W)
  (mZ.own (B:=W0.heap.size) (fun l:List iH=>GB (gt l)) (by omega))
  a4
  (fun x a' W=>∃bx,a'= { tmps:=#[PV ph,undef,.slice none 0 0,PV w.heap.size,Xi x.1.1,PV bx,undef,undef,undef,PV ph,.bool false,PV ph,.func (.func 159) #[] #[PV (w.heap.size+1)],Xi x.1.1,fT x.1.2,undef,undef,undef,undef,undef,undef,undef,undef,undef,undef,undef,undef,undef,undef,undef,undef,undef,undef,undef,undef,undef,undef,undef,undef,undef,undef,undef,undef,undef,undef,undef,undef,undef],defers:=[] } /\w.heap.size+2<=bx/\W.heap[bx]?=some (Xk x.1.2.kind x.1.2.n x.1.2.w))
  (fun x a' _ W W' row hs hg hr=>by
   obtain⟨bn,e1,e2,e3⟩:=hs;refine⟨bn,e1,e2,(hg.block _ (gl e3) fun q=>?_).trans e3⟩;obtain⟨_,o,q1,q2⟩:=hr bn q.symm;rw[e3] at q1
   cases q1
   cases q2)
  ?assign ?body ?done
 case assign=>
  rintro l X ad x W K hI hK;have HK:=If hK;have HI:=If hI;clear hK hI;simp only[mF,fT]
  gi_wp2
  obtain⟨i1,i2,i3⟩:=HI.out.below (W':=W.alloc (Xk x.1.2.kind x.1.2.n x.1.2.w)) ((aa _ _).alloc Ih _);exact HK.out _ _ ⟨i2.size,fun k o hk=>i2.same k o (by omega)⟩ i3 i1 ⟨W.heap.size,rfl,HI.out.lo.2.2,World.alloc_heap_new _ _⟩
 case body=>
  rintro l X ad ⟨⟨p,kd,xn,xw⟩,hx⟩ a' W dk dn hI ⟨bx,rfl,bu,a1⟩ ⟨rr,bo⟩;simp only at hx a1;obtain⟨cj,a2,ck,cn⟩:=hx;have au:(GB (gt ad)).length+(GB [(p,⟨kd,xn,xw⟩)]).length<=90000:=by
   have h2:=HR.b;unfold G6 at h2;rw[<-bo] at h2;have e:gt (ad++⟨(p,⟨kd,xn,xw⟩),cj,a2,ck,cn⟩::rr)=gt ad++((p,⟨kd,xn,xw⟩)::gt rr):=by
    show (ad++_::rr).map (·.1)=_
    rw[aP]
    rfl
   rw[e,JZ,show ((p,(⟨kd,xn,xw⟩:Hr))::gt rr)=[(p,⟨kd,xn,xw⟩)]++gt rr from rfl,JZ,ah,ah] at h2;omega
  have an:GB (gt (ad++[(⟨(p,⟨kd,xn,xw⟩),cj,a2,ck,cn⟩:iH)]))=GB (gt ad)++GB [(p,⟨kd,xn,xw⟩)]:=by
   rw[<-JZ]
   show GB ((ad++_).map (·.1))=_
   rw[aP]
   rfl
  obtain⟨b0,b1,b2⟩:=fq a1;simp only[fT]
  by_cases hk2:kd=2
  ·subst hk2;have e1:GB [(p,(⟨2,xn,xw⟩:Hr))]=[p*64+2]:=by simp[GB]
   rw[e1] at au an;obtain⟨A,c,ai,A2,c2,W2,cb,⟨v2,bb⟩,a0,ap,ar,_⟩:=hI.append (by omega) (p*64+2) 57 w.heap.size Ih;rw[show ((p*64+2:Nat):Int)=(p:Int)*64+2 by omega] at cb;generalize (GB (gt ad)).length=n at*;have c0:(W).cell? ⟨w.heap.size,0,none⟩=some (.slice A n c):=by rw[cell_of_block ai];rfl
   have d0:(W2).cell? ⟨w.heap.size,0,none⟩=some (v2):=by rw[cell_of_block bb];rfl
   have f0:(W2).frozen? ⟨w.heap.size,0,none⟩=false:=AT bb;have HI:=kq4 a0 ap ar an;clear hI a0 ap ar ai bb bo au an a1 e1
   gi_wp2_with (gi_at_builtin;refine JJ _ rfl _ _ _ _ rfl _ _ rfl rfl _ _ cb ?_)
   refine⟨by rw[z0];exact HI.b,HI.c,?_⟩
   show mZ w w.heap.size (w.heap.size+2) X (GB (gt (ad++_))) _
   rw[HI.d];exact HI.a
  ·have cx:((kd:Int)==2)=false:=by simp;omega
   have e1:GB [(p,(⟨kd,xn,xw⟩:Hr))]=py p xn xw (eJ xn):=by simp[GB,hk2,py]
   rw[e1] at au an;obtain⟨er,ch⟩:=wW xn;have a7:CallsIn Fence.wide 4 prog 117 #[Xi xn] W _:=callsIn_wide.2 (qk xn W);rw[ch] at a7;have cw:=nX xn;obtain⟨m,hm⟩:=Ii (eJ xn);rw[hm] at a7 cw au an;have HS:=kq5 a7 hI a1 au an;clear a7 ch hm hI a1 au an e1 hk2 bo;gi_wp2_with fail;refine(CallsIn.inRound l HS.a).mono ?_;rintro e w2 ⟨rfl,ai⟩;obtain⟨a0,a2⟩:=HS.b.below ai;have b9:=(ai.block _ (gl HS.c)).trans HS.c;have H2:=kq3 a0 a2 b9;clear ai a0 a2 b9 b0 b1 b2 cx;gi_wp2_with fail
   gi_loopw [8,31] (fun _ i wr=>∃k:Nat,i=Xi k/\k<=m/\Hid (mZ w w.heap.size (w.heap.size+2) X (GB (gt ad)++py p xn xw k) wr/\Kx (w.heap.size+2) w.heap.size X W wr/\wr.heap[bx]?=some (Xk kd xn xw))) (fun _ i _=>m-(intOf i).toNat)
   case atStart=>exact⟨0,rfl,by omega,by rw[show py p xn xw 0=[] from rfl,bD];exact H2.out⟩
   case round=>
    obtain⟨k,rfl,hk,J0⟩:=hrel
    by_cases hkm:k<m
    ·have c3:(k:Int)<m:=by omega
     have bv:=J0.out.2.2;obtain⟨b0,b1,b2⟩:=fq bv;have bf:CallsIn Fence.wide 4 prog 118 #[Xu xw,Xi k] wr _:=callsIn_wide.2 (zx xw k wr (by omega) (by omega));have bm:=fun W=>uJ p xn k W (by omega) (by omega) (by omega);have a6:=KA p xn xw k;have c4:=Lw p xn xw k m hk;obtain⟨bt,b4⟩:=Ii (jI xw k);obtain⟨P,hP⟩:=Ii (fF p xn k);rw[b4] at bf a6;rw[hP] at bm a6;have HE:=kq4 bf bm a6 (by rw[ah];have:=HS.d;omega:(GB (gt ad)++py p xn xw k).length<=100000);clear bf bm a6 c4 b4 hP bv;gi_wp2_with fail;refine(CallsIn.inRound l HE.a).mono ?_;rintro e w3 ⟨rfl,h3⟩;rw[<-h3];clear h3
     cases bt with
     | false=>
      gi_wp2_with fail;go_roundw
      case rel=>exact⟨k+1,by simp,by omega,by rw[HE.c,if_neg (by simp)];exact J0.out⟩
      case measure=>simp[intOf];omega
     | true=>
      obtain⟨A,c,ai,c7,_⟩:=J0.out.1.ex;have J1:=J0.out.1.below (aa wr.heap.size wr).drew;obtain⟨nl,bj⟩:=Ii (GB (gt ad)++py p xn xw k).length;rw[bj] at ai;obtain⟨I,a9,ba⟩:=ic fun w'=>w'.heap[bx]?=some (Xk kd xn xw)/\w'.heap[w.heap.size]?=some (.cells #[.slice A nl c] 57);have cq:=fun x:Fq I=>(a9 _ x.ok).1;have cu:=fun x:Fq I=>(a9 _ x.ok).2;have a4:I wr.drew:=ba _ ⟨J0.out.2.2,ai⟩;have HI:=kq4 ba J1 (show wr.drew.heap[bx]?=_/\wr.drew.heap[w.heap.size]?=_ from⟨J0.out.2.2,ai⟩) bj;clear a9 ba J1 ai c7 b0 b1 b2 bj
      gi_upto_region 14 with fail
      obtain⟨b0,b1,b2⟩:=qf cq;have c0:∀x:Fq I,x.to.cell? ⟨w.heap.size,0,none⟩=some (.slice A nl c):=fun x=>by rw[cell_of_block (cu x)];rfl
      refine LY I (fun i=>[7,8].contains i) (.take 0 (.take 1 (.take 2 (.take 3 (.take 4 (.go 5 (.go 6 (.go 7 (.go 8 .nil))))))))) (by kernel_rfl) (by kernel_rfl) (by kernel_rfl) a4 ?_;clear a4 cq cu;generalize wr.drew=Wd at*
      iterate 5
       refine' qT ?_ ?_;rotate_left
       ·intro x;go_simp
        try rfl
       try simp only[pu]
      refine qD fun K hK=>?_;go_simp;refine(HE.b Wd).mono ?_;rintro e w5 ⟨rfl,a5⟩;obtain⟨bq,cp⟩:=HI.b.1.below a5;have q5:=(a5.block _ (gl HI.c.1)).trans HI.c.1;have r5:=(a5.block _ (gl HI.c.2)).trans HI.c.2
      try go_simp
      refine hK.out _ _ (HI.a _ ⟨q5,r5⟩) ?_;clear hK K
      try simp only[pu]
      obtain⟨A5,c5,bs,A2,c2,W6,cc,⟨v6,bc⟩,a8,ap,ar,bk⟩:=bq.append HE.d P 57 w.heap.size Ih;have a3:=bs.symm.trans r5;rw[HI.d] at a3 cc a8 ap ar bk;obtain⟨rfl,rfl⟩:A5=A/\c5=c:=by simp at a3;exact a3
      have bd:Below w5.heap.size w5 (w5.alloc (Xj P)):=(aa _ _).alloc Ih _;have q6:=(bd.block _ (gl q5)).trans q5;have r6:=(bd.block _ (gl r5)).trans r5;have q9:=bk bx _ q5 (by omega) (fun cs fr e=>by cases e);have H9:=kq3 a8 (J0.out.2.1.trans (HI.b.2.trans (cp.trans ⟨ap,ar⟩))) q9;clear b0 b1 b2 c0;have d0:(W6).cell? ⟨w.heap.size,0,none⟩=some (v6):=by rw[cell_of_block bc];rfl
      have f0:(W6).frozen? ⟨w.heap.size,0,none⟩=false:=AT bc;refine qD fun K hK=>?_;go_simp
      try go_simp
      refine hK.out _ _ (HI.a _ ⟨q6,r6⟩) ?_;clear hK K
      try simp only[pu]
      refine qL (fun K hK=>kE _ _ _ rfl rfl rfl cc ?_)
      try go_simp
      refine hK.out _ _ trivial ?_;clear hK K
      try simp only[pu]
      clear bq cp q5 r5 bs bc a8 ap ar bk a3 bd q6 r6 q9 a5 HI;refine qL fun K hK=>?_;go_simp
      try go_simp
      refine hK.out _ _ trivial ?_;clear hK K
      try simp only[pu]
      refine Ja ?_;gi_wp2_with fail;go_roundw
      case rel=>exact⟨k+1,by simp,by omega,by rw[HE.c,if_pos trivial,<-bC];exact H9.out⟩
      case measure=>simp[intOf];omega
    ·obtain rfl:k=m:=by omega
     have c3:¬(k:Int)<k:=by omega
     gi_wp2_with fail;refine⟨J0.out.2.1.1,J0.out.2.1.2,?_⟩
     show mZ w w.heap.size (w.heap.size+2) X (GB (gt (ad++_))) _
     rw[HS.e];exact J0.out.1
 case done=>
  rintro D X xs W hD hS hI hK;obtain⟨A,c,ai,ho,_⟩:=hI.ex;have cv:GB (gt xs)=G6 s:=by rw[hS];rfl
  rw[cv] at ai ho;have HI:=kq2 ho hI.bl;generalize (G6 s).length=n at*;have c0:(W).cell? ⟨w.heap.size,0,none⟩=some (.slice A n c):=by rw[cell_of_block ai];rfl
  clear hI ai ho
  gi_wp2
  refine⟨by simp,.inl ⟨_,_,rfl,run_takeDeferred hK,?_⟩⟩;obtain⟨ho,bu⟩:=HI.out;have c6:∀g,(Value.slice A n c).ownBlock=some g->g≠D:=fun g e q=>by
   subst q;obtain⟨_,_,cs,fr,e3⟩:=ho.block e;rw[hK] at e3
   cases e3
  refine⟨.slice A n c,by simp[results,f68,go_sem],_,rfl,?_,bu.trans (nN W D _ _ (by omega) hK rfl rfl)⟩;exact(ho.at fun g e=>World.putObj_heap_other (c6 g e)).base (by omega)
end
section
open Go.RowKit Tryz Go.BigFrame Go.Maps Go.WideMaps Lf
variable{l:List Nat}{v:Value}{w:World}
theorem FE.base2{B B':Nat}(h:FE w B v l)(hB:B'<=B):FE w B' v l:=
 ⟨h.1,h.2.imp id fun⟨g,cap,cur,h1,h2,h3⟩=>⟨g,cap,cur,h1,aB hB h2,h3⟩⟩
theorem mq.cell_at{D:Nat}(h:mq w D v l){j:Nat}(hj:j<l.length):∃b c,v=.slice (some ⟨b,0,none⟩) l.length c/\D<=b/\w.cell? ⟨b,j,none⟩=some (Xi (l[j]:Nat)):=by
 rcases id h.2 with⟨_,e0⟩ | ⟨b,c,ad,e,_⟩
 ·rw[e0] at hj
  simp at hj
 ·have e2:=World.ownsRow.cells h (g:=b) (by rw[e];rfl) j (Xi (l[j]:Nat)) (by simp[nV,hj]);rw[Addr.add_lit,bH] at e2;exact⟨b,c,e,(h.ge b (by rw[e];rfl)).1,e2⟩
theorem qXsaf{P:Prop}(h:P:=by
 go_wp2_with (at_builtin;refine Lib.wpList_append_run _ rfl _ _ _ _ rfl _ _ rfl rfl _ _ a7 ?_)
 go_roundw
 case rel=>exact⟨j+1,by omega,by simp,HE⟩
 case measure=>simp[intOf];omega):P:=h
theorem J8{ps:Nat}{S:St}{o:Nat->Nat}{Y:Nat->Prop}(h:Ig w ps S Y)(hf:Fw S o):
 Ct 33 #[PV ps] w fun e w'=>∃v,e=.returned v/\FE w' w.heap.size v S.all/\Below w.heap.size w w':=by
 have a2:=sI h;obtain⟨pa,pm,ph,pt,vt,hI⟩:=h;have a0:(G6 S.a).length<=65536:=aB hf.live_le (aB hf.tab.len hf.tab.most.2);have a1:=Ll hI.heap (by omega);obtain⟨_,_,_,c3,_⟩:=hI.cells;have HR:=kq5 hI hf a2 a1 a0;clear hI hf a2 a1 a0;go_enter func33,ntmps33;go_wp2_with fail;refine Jc HR.c ?_;go_wp2_with fail;refine HR.d.mono ?_;rintro e w1 ⟨v0,rfl,an,ap⟩;obtain⟨A0,c0,rfl⟩:=an.slice2;have a9:(G6 S.a).length<=65536:=HR.e;have HV:=kq2 an ap;clear an ap c3;generalize hn:(G6 S.a).length=n at*;have HN:=If hn;clear hn;go_wp2_with fail
 go_loopw [3,5,6,7,16] (fun s3 _ _ _ s16 wr=>∃j:Nat,j<=n/\s16=Xi j/\Hid (FE wr w1.heap.size s3 (S.all.take j)/\Below w1.heap.size w1 wr)) (fun _ _ _ _ s16 _=>n-(intOf s16).toNat)
 case atStart=>exact⟨0,by omega,rfl,World.ownsRow_nil _ _ _ _,aa _ _⟩
 case round=>
  obtain⟨j,a',rfl,I⟩:=hrel
  by_cases hlt:j<n
  ·have a6:(j:Int)<n:=by omega
   have ai:Below w.heap.size w wr:=HV.b.trans (I.out.2.mono HV.b.size);have a5:mq wr w.heap.size (.slice A0 n c0) (G6 S.a):=HV.a.at fun g e=>I.out.2.block g (HV.a.ge g e).2;obtain⟨b,c,e,hb,hc⟩:=a5.cell_at (j:=j) (by rw[HN.out];exact hlt)
   injection e with e1 e2 e3
   subst e1;have hm:(G6 S.a)[j]'(by rw[HN.out];exact hlt)∈G6 S.a:=aw _;obtain⟨x,hx⟩:∃x,(G6 S.a)[j]'(by rw[HN.out];exact hlt)=x:=⟨_,rfl⟩;rw[hx] at hc hm;have a4:=(HR.a.heap.below ai).read x (HR.b.addr_le hm);obtain⟨_,_,c2,_,_⟩:=(HR.a.below ai).cells;have ar:S.all.take (j+1)=S.all.take j++[S.a.rd x]:=by
    unfold St.all;rw[aH (by rw[ao,HN.out];exact hlt),bI,hx]
   have au:(S.all.take j).length<=100000:=by rw[aL];omega
   have HM:=kq5 a4 ar au I.out.1 I.out.2;clear a4 ar au ai a5 hb hm e2 e3 I hx;go_wp2_with fail;refine Jc HM.a ?_;obtain⟨v2,w2,a7,a3,ad,a8⟩:=jF HM.d HM.c (S.a.rd x) HM.e.size 59;have HE:Hid (FE w2 w1.heap.size v2 (S.all.take (j+1))/\Below w1.heap.size w1 w2):=⟨by rw[HM.b];exact a3,HM.e.trans ⟨ad.os,ad.tape,ad.output,ad.size,fun k hk=>ad.block k (aJ hk HM.e.size) fun e=>by
    have:=(HM.d.ge k e.symm).1;omega⟩⟩
   clear a3 ad a8;exact qXsaf
  ·obtain rfl:j=n:=by omega
   have a6:¬(j:Int)<j:=by omega
   go_wp2_with fail;go_ret;refine⟨_,rfl,?_,HV.b.trans (I.out.2.mono HV.b.size)⟩;have e:S.all.take j=S.all:=by
    rw[aT];rw[zq,HN.out];exact Nat.le_refl _
   rw[<-e];exact FE.base2 I.out.1 HV.b.size
end
section
open Go.RowKit Tryz Go.BigFrame Go.Maps Go.WideMaps Lf Tr
variable{S:St}{Y:Nat->Prop}{kv:Value}{o:Nat->Nat}{ps:Nat}{t:Tr}{ty:TypeId}{w:World}
theorem KN{px ps kind td root:Nat}(hT:FF w px ps ty kv kind td root):
 Ct 41 #[PV px] w fun e w'=>e=.returned (Xu root)/\w=w':=by
 have HG:=If (kw hT);unfold FF at hT;obtain⟨c0,c1,c2,c3,c4⟩:=ld hT;clear hT;go_enter func41,ntmps41;go_wp2_with fail;refine Jc HG.out ?_;go_wp2_with fail;go_ret;exact⟨rfl,rfl⟩
theorem KM{px ps kind td root:Nat}(hT:FF w px ps ty kv kind td root):
 Cb 73 #[PV px] w (.tuple #[Xi kind,Xi td]):=by
 have HG:=If (kw hT);unfold FF at hT;obtain⟨c0,c1,c2,c3,c4⟩:=ld hT;clear hT;go_enter func73,ntmps73;go_wp2_with fail;refine Jc HG.out ?_;go_wp2_with fail
 go_region
 go_wp2_with fail;go_ret2;exact⟨rfl,(aa _ _).drew⟩
def pd(l:List (It×Nd)):List Nat:=l.flatMap fun x=>[x.1.h,x.2.key,x.2.val]
theorem LE(l:List (It×Nd)):(pd l).length=3*l.length:=by
 unfold pd
 induction l with
 | nil=>rfl
 | cons x r ih=>rw[bZ,ah,ih];simp;omega
theorem KU{B:Nat}{v:Value}{l:List Nat}(h:FE w B v l)(hl:l.length<=10000)(x y z:Nat)(hB:B<=w.heap.size)(ty:TypeId):
 ∃v' w',(Builtin.append_ #[59,59] ty #[v,.slice (some ⟨w.heap.size,0,none⟩) 3 3]).run prog (w.alloc (.cells #[Xu x,Xu y,Xu z] 61))=.ok v' w'/\FE w' B v' (l++[x,y,z])/\w.grownBy w' v.ownBlock/\(v'.ownBlock=v.ownBlock\/∃g,v'.ownBlock=some g/\w.heap.size<=g):=by
 obtain⟨v',w',h1,h2,h3,h4⟩:=Kg (xs:=[x,y,z]) (w:=w.alloc (.cells #[Xu x,Xu y,Xu z] 61)) (h.alloc _) (by simp;omega) ⟨w.heap.size,0,none⟩ 3 (fun j u hu=>by
  have hn:=World.alloc_heap_new w (.cells #[Xu x,Xu y,Xu z] 61);rw[Addr.add_lit,bH,cell_of_block hn]
  rcases j with _ | _ | _ | j
  ·exact hu
  ·exact hu
  ·exact hu
  ·simp[hV] at hu) (by simp;omega) ty
 exact qXsag
theorem KH{pm px ps lim kind td:Nat}(h:Ig w ps S Y)(hf:Fw S o)(hM:Ic w pm px ps lim)(hT:FF w px ps ty kv kind td t.root)(hk:kind=1\/kind=2)(ha:Tr.At S t)(hN:t.nodes.length<limit S)(hN2:t.nodes.length<=1000):
 Ct 36 #[PV pm] w fun e w'=>∃v,e=.returned v/\FE w' w.heap.size v (pd t.nodes)/\Below w.heap.size w w':=by
 have ba:¬((kind:Int)=3):=by omega
 have HR:=kq7 h hf hM hT ha hN hN2;clear h hf hM hT ha hN hN2 hk;go_enter func36,ntmps36;go_wp2_with fail;refine Jc (IQ HR.c) ?_;go_wp2_with fail;refine Jc (Gh HR.c) ?_;go_wp2_with fail;refine Jc (KN HR.d) ?_;go_wp2_with fail;refine Jc (Gh HR.c) ?_;go_wp2_with fail;refine b8 (KM HR.d) fun w1 hb1=>?_;have H1:=If hb1;clear hb1;go_wp2_with fail;refine(KO (HR.a.below H1.out) HR.b HR.e HR.f HR.g).mono ?_;rintro e w2 ⟨v0,rfl,an,ai⟩;obtain⟨A0,c0,rfl⟩:=an.slice2;have HV:=kq2 an (H1.out.trans (ai.mono H1.out.size));have HS:=kq2 H1.out.size ai.size;clear an ai H1;generalize hn:t.hs.length=n at*;have HN:=If hn;clear hn;have bb:n<=1000:=by rw[<-HN.out,<-nodes_h,ao];exact HR.g
 go_wp2_with fail
 go_loopw [7,11,12,13,55] (fun s7 _ _ _ s55 wr=>∃j:Nat,j<=n/\s55=Xi j/\Hid (FE wr w2.heap.size s7 (pd (t.nodes.take j))/\Below w2.heap.size w2 wr)) (fun _ _ _ _ s55 _=>n-(intOf s55).toNat)
 case atStart=>exact⟨0,by omega,rfl,World.ownsRow_nil _ _ _ _,aa _ _⟩
 case round=>
  obtain⟨j,a',rfl,I⟩:=hrel
  by_cases hlt:j<n
  ·have a6:(j:Int)<n:=by omega
   have ap:Below w.heap.size w wr:=HV.b.trans (I.out.2.mono HV.b.size);have au:j<t.nodes.length:=by rw[<-ao (f:=fun x:It×Nd=>x.1.h),nodes_h,HN.out];exact hlt
   have a3:FE wr (w1.heap.size+3) (.slice A0 n c0) t.hs:=HV.a.at fun g e=>I.out.2.block g (HV.a.ge g e).2;obtain⟨b,c,e,hb,hc⟩:=a3.cell_at (j:=j) (by rw[HN.out];exact hlt)
   injection e with e1 e2 e3
   subst e1;obtain⟨x,hx⟩:=Ii t.nodes[j];have a4:t.hs[j]'(by rw[HN.out];exact hlt)=x.1.h:=by
    rw[<-hx];have:t.hs=t.nodes.map (·.1.h):=(nodes_h t).symm;simp only[this,bI]
   rw[a4] at hc;obtain⟨l',m',r',x1,x2,_⟩:=nodes_at HR.e x (by rw[<-hx];exact aw _);have a5:reco S x.1.h=some (eM x.2):=by rw[x1];exact x2.1
   have a2:=Hb (HR.a.below ap) HR.b a5;have ar:pd (t.nodes.take (j+1))=pd (t.nodes.take j)++[x.1.h,x.2.key,x.2.val]:=by
    rw[aH au,hx];unfold pd
    simp
   have a0:(pd (t.nodes.take j)).length<=10000:=by rw[LE,aL];omega
   have HM:=kq5 a2 ar a0 I.out.1 I.out.2;clear a2 ar a0 ap a3 hb e2 e3 I hx a4 a5 x1 x2 au;generalize x.1.h=xh at*;generalize bc:x.2=xn at*;obtain⟨n1,n2,n3,n4,n5,n6⟩:=xn;unfold eS at HM;simp only at HM;go_wp2_with fail;refine b8 HM.a fun w3 hb3=>?_;have q3:(w3.alloc (Xb n1 n2 n3 n4 n5 n6)).heap[w3.heap.size]?=some (Xb n1 n2 n3 n4 n5 n6):=World.alloc_heap_new _ _;have B4:Below w2.heap.size w2 (w3.alloc (Xb n1 n2 n3 n4 n5 n6)):=(HM.e.trans (hb3.mono HM.e.size)).alloc (aB HM.e.size hb3.size) _;have O4:FE (w3.alloc (Xb n1 n2 n3 n4 n5 n6)) w2.heap.size u7 (pd (t.nodes.take j)):=(HM.d.at fun g e=>hb3.block g (HM.d.ge g e).2).alloc _;generalize a9:w3.alloc (Xb n1 n2 n3 n4 n5 n6)=W4 at*;obtain⟨k0,k1,k2,k3,k4,k5⟩:=ia q3;obtain⟨v2,w5,a7,a1,ad,a8⟩:=KU O4 HM.c xh n1 n2 B4.size 59;have HE:Hid (FE w5 w2.heap.size v2 (pd (t.nodes.take (j+1)))/\Below w2.heap.size w2 w5):=⟨by rw[HM.b];exact a1,B4.trans ⟨ad.os,ad.tape,ad.output,ad.size,fun k hk=>ad.block k (aJ hk B4.size) fun e=>by
    have:=(O4.ge k e.symm).1;omega⟩⟩
   clear a1 ad a8 q3 B4 O4 hb3;exact qXsaf
  ·obtain rfl:j=n:=by omega
   have a6:¬(j:Int)<j:=by omega
   go_wp2_with fail;go_ret;have hs:=HV.b.size;refine⟨_,rfl,?_,HV.b.trans (I.out.2.mono hs)⟩;have e:t.nodes.take j=t.nodes:=by
    rw[aT];rw[<-ao (f:=fun x:It×Nd=>x.1.h),nodes_h,HN.out];exact Nat.le_refl _
   rw[e] at I;exact FE.base2 I.out.1 hs
attribute [local go_sem] Oper.semAt_some
def m9(w2:World)(n:Nd)(h:Nat):World:=((((((w2.alloc (Xb n.key n.val n.left n.right n.mark n.size)).alloc (.map #[] 0)).alloc (Xf h)).alloc (.cells #[.map (some (w2.heap.size+1))] 123)).alloc (.cells #[.slice (some ⟨w2.heap.size+1+1,0,none⟩) 1 1] 59)).alloc (.cells #[.string ⟨#[]⟩] 9)).alloc (.cells #[.bool true] 4)
theorem wb(w:World)(o:Obj)(k:Nat):(w.alloc o).heap[k]?=if k=w.heap.size then some o else w.heap[k]?:=by
 show (w.heap.push o)[k]?=_
 rw[Array.getElem?_push]
theorem K9{w w2:World}(n:Nd)(h:Nat)(hb:Below w.heap.size w w2)(hz:w.heap.size+2<=w2.heap.size)(cs:w2.heap[w.heap.size]?=some (Xh ps))(ce:w2.heap[w.heap.size+1]?=some (.cells #[Xi 0] 27)):
 dT w ps (w2.heap.size+1) (w2.heap.size+1+1+1) (w2.heap.size+1+1+1+1) (w2.heap.size+1+1+1+1+1) (w2.heap.size+1+1+1+1+1+1) (w2.heap.size+7) (fun _=>False) [] [h] [] true (m9 w2 n h):=by
 have hs:(m9 w2 n h).heap.size=w2.heap.size+7:=by unfold m9;simp
 have ai:Below w.heap.size w (m9 w2 n h):=by
  unfold m9;refine((((((hb.alloc hb.size _).alloc ?_ _).alloc ?_ _).alloc ?_ _).alloc ?_ _).alloc ?_ _).alloc ?_ _<;>simp<;>omega
 have ad:∀k,(m9 w2 n h).heap[k]?=if k=w2.heap.size+6 then some (.cells #[.bool true] 4) else if k=w2.heap.size+5 then some (.cells #[.string ⟨#[]⟩] 9) else if k=w2.heap.size+4 then some (.cells #[.slice (some ⟨w2.heap.size+1+1,0,none⟩) 1 1] 59) else if k=w2.heap.size+3 then some (.cells #[.map (some (w2.heap.size+1))] 123) else if k=w2.heap.size+2 then some (Xf h) else if k=w2.heap.size+1 then some (.map #[] 0) else(w2.alloc (Xb n.key n.val n.left n.right n.mark n.size)).heap[k]?:=fun k=>by
  unfold m9;simp only[wb,World.size_alloc]
 have lo:∀k,k<w2.heap.size->(m9 w2 n h).heap[k]?=w2.heap[k]?:=fun k hk=>by
  rw[ad k,if_neg (by omega),if_neg (by omega),if_neg (by omega),if_neg (by omega),if_neg (by omega),if_neg (by omega),wb,if_neg (by omega)]
 refine⟨by omega,ai,(lo _ (by omega)).trans cs,(lo _ (by omega)).trans ce,?_,⟨some ⟨w2.heap.size+1+1,0,none⟩,1,?_,⟨by simp[hV],.inr ⟨w2.heap.size+1+1,1,#[Xu h],rfl,by omega,?_,Nat.le_refl _,by decide,rfl,rfl⟩⟩,fun _ _ hx=>hx⟩,?_,?_,?_,fun k hk=>hk.elim⟩
 ·rw[ad]
  simp
 ·rw[ad]
  simp
 ·rw[ad]
  simp
 ·rw[ad]
  simp[SV]
 ·rw[ad]
  simp
 ·have hm:(m9 w2 n h).heap[w2.heap.size+1]?=some (.map #[] 0):=by rw[ad];simp
  have:=dS.made (w2.alloc (Xb n.key n.val n.left n.right n.mark n.size));rw[World.size_alloc] at this;refine this.kept (hm.trans ?_);rw[wb,if_pos (by simp)]
def Kk(ps h b z:Nat)(nn:Nd)(x:It×Nd)(bn:Nat):Array Value:=#[PV ps,Xu h,PV b,undef,PV (b+1),Xi 0,Xi 7,PV z,Xi 0,PV (z+1+1+1),PV (z+1+1+1+1),PV (z+1+1+1+1+1),PV (z+1+1+1+1+1+1),Xu x.1.h,PV bn,undef,undef,undef,undef,undef,undef,undef,undef,.tuple #[Xi 0,Xi 7],PV ps,.tuple #[Xi 0,Xi 7],Xi 0,Xi 7,Xi 7,.bool false,Xu h,.bool false,.tuple #[.agg #[Xu nn.key,Xu nn.val,Xu nn.left,Xu nn.right,Xu nn.mark,Xu nn.size],Xi 0],PV ps,Xu h,.tuple #[.agg #[Xu nn.key,Xu nn.val,Xu nn.left,Xu nn.right,Xu nn.mark,Xu nn.size],Xi 0],.agg #[Xu nn.key,Xu nn.val,Xu nn.left,Xu nn.right,Xu nn.mark,Xu nn.size],Xi 0,Xi 0,.bool false,.map (some (z+1)),Xu h,.slice (some ⟨z+1+1,0,none⟩) 1 1,PV ps,Xu h,.func (.func 161) #[] #[PV (z+7),PV (z+7+1)],Xu x.1.h,eS x.2,undef,undef,undef,undef,undef,undef,undef,undef,undef,undef,undef,undef,undef,undef,undef,undef,undef,undef,undef,undef,undef,undef,undef,undef,undef,undef,undef,undef,undef,undef,undef,undef,undef,undef,undef,undef,undef,undef,undef,undef,undef,undef,undef,undef,undef,undef,undef,undef,undef,undef,undef,undef,undef,undef,undef,undef,undef,undef,undef,undef,undef,undef,undef,undef,undef,undef,undef,undef,undef,undef,undef,undef,undef,undef,undef,undef,undef,undef,undef,undef]
theorem Kq(a b c:Value)(w:World):(Instr.index 289 (.agg #[a,b,c]) (Xi 0)).run prog w=.ok a w:=by kernel_rfl
theorem Kr(a b c:Value)(w:World):(Instr.index 289 (.agg #[a,b,c]) (Xi 1)).run prog w=.ok b w:=by kernel_rfl
theorem Ks(a b c:Value)(w:World):(Instr.index 289 (.agg #[a,b,c]) (Xi 2)).run prog w=.ok c w:=by kernel_rfl
def kx(a:List (It×Nd))(x:It×Nd):Nat->List Nat
 | 0=>ma a
 | 1=>ma a++[x.1.h]
 | 2=>ma a++[x.1.h]++[x.2.key]
 | _=>ma a++[x.1.h]++[x.2.key]++[x.2.val]
theorem wk{a:List (It×Nd)}{x:It×Nd}(h:a.length<=1000)(j:Nat):(kx a x j).length<100000:=by
 have:=Kn a;unfold kx;split<;>(try simp only[ah,bi])<;>omega
theorem Lp{Ok:Tr->Prop}(h:fC Ok S o t):∀y∈ma t.nodes,y<2^64:=fun y hy=>by
 unfold ma at hy;obtain⟨d,hd,q⟩:=gU.1 hy;obtain⟨z,hz,rfl⟩:=ay.1 hd;obtain⟨l,m,r,e1,e2,_⟩:=nodes_at h.at' z hz;have hb:=h.blobs z.1 (by rw[<-nodes_its];exact hd);rcases q with rfl | rfl | rfl
 ·exact(fL h.fit e2.1).2.1
 ·exact(fL h.fit hb.k).2.1
 ·exact(fL h.fit hb.v).2.1
theorem Kl{ps mb Bm Bd Bl Bf D:Nat}{X:Nat->Prop}{a:List (It×Nd)}{x:It×Nd}{W:World}(nf:Ke S t a x)(h:dT w ps mb Bm Bd Bl Bf D X (kx a x 3) (mj t.root a++[x.2.left,x.2.right]) x.1.k false W):dT w ps mb Bm Bd Bl Bf D X (ma (a++[x])) (mj t.root (a++[x])) (pc (a++[x])) (a++[x]).isEmpty W:=by
 have e1:kx a x 3=ma (a++[x]):=by
  rw[Lo,<-nf.key,<-nf.val];unfold kx
  simp
 have e2:(a++[x]).isEmpty=false:=by simp
 rw[<-e1,LM,Ku,e2];exact h
theorem qXsah{P:Prop}(h:P:=by
 gi_wp2_with fail;go_roundw
 case rel=>exact⟨j+1,by simp,by omega,trivial⟩
 case measure=>simp[intOf];omega):P:=h
theorem qXsae{P:Prop}(h:P:=by
 obtain⟨r0,W6,r1,r2,hg,ai,ar⟩:=J0.out.1.seen (x:=x.1.h) HF.out.1.1 HF.out.1.2 (wk HF.out.2.2.2 _);have ad:=ai.cm;have q0:(W6).cell? ⟨z+1+1+1,0,none⟩=some (.map (some (z+1))):=by rw[cell_of_block ad];rfl
 have ap:=(hg.block _ (gl J0.out.2.2.1) (fun q=>by have:=Option.some.inj q;omega)).trans J0.out.2.2.1;have an:=(hg.block _ (gl J0.out.2.2.2) (fun q=>by have:=Option.some.inj q;omega)).trans J0.out.2.2.2;have H6:=kq4 ai (J0.out.2.1.trans ar) ap an;clear ad ap an ai ar hg;gi_wp2_with fail;go_roundw
 case rel=>exact⟨1,by omega,rfl,H6.out⟩
 case measure=>simp[intOf]):P:=h
theorem qXsad{P:Prop}(h:P:=by
 obtain⟨r0,W6,r1,r2,hg,ai,ar⟩:=J0.out.1.seen (x:=x.2.key) HF.out.2.1.1 HF.out.2.1.2 (wk HF.out.2.2.2 _);have ad:=ai.cm;have q0:(W6).cell? ⟨z+1+1+1,0,none⟩=some (.map (some (z+1))):=by rw[cell_of_block ad];rfl
 have ap:=(hg.block _ (gl J0.out.2.2.1) (fun q=>by have:=Option.some.inj q;omega)).trans J0.out.2.2.1;have an:=(hg.block _ (gl J0.out.2.2.2) (fun q=>by have:=Option.some.inj q;omega)).trans J0.out.2.2.2;have H6:=kq4 ai (J0.out.2.1.trans ar) ap an;clear ad ap an ai ar hg;gi_wp2_with fail;go_roundw
 case rel=>exact⟨2,by omega,rfl,H6.out⟩
 case measure=>simp[intOf]):P:=h
theorem qXsac{P:Prop}(h:P:=by
 obtain⟨r0,W6,r1,r2,hg,ai,ar⟩:=J0.out.1.seen (x:=x.2.val) HF.out.2.2.1.1 HF.out.2.2.1.2 (wk HF.out.2.2.2 _);have ad:=ai.cm;have q0:(W6).cell? ⟨z+1+1+1,0,none⟩=some (.map (some (z+1))):=by rw[cell_of_block ad];rfl
 have ap:=(hg.block _ (gl J0.out.2.2.1) (fun q=>by have:=Option.some.inj q;omega)).trans J0.out.2.2.1;have an:=(hg.block _ (gl J0.out.2.2.2) (fun q=>by have:=Option.some.inj q;omega)).trans J0.out.2.2.2;have H6:=kq4 ai (J0.out.2.1.trans ar) ap an;clear ad ap an ai ar hg;gi_wp2_with fail;go_roundw
 case rel=>exact⟨3,by omega,rfl,H6.out⟩
 case measure=>simp[intOf]):P:=h
theorem qXsaa{P:Prop}(h:P:=by
 have v0:(W7).frozen? ⟨z+1+1+1+1+1+1,0,none⟩=false:=AT q3;obtain⟨a6,bb⟩:=a1.first false;obtain⟨W8,bk⟩:=Ii (W7.setCell ⟨z+1+1+1+1+1+1,0,none⟩ (.bool false));have n8:∀k,k≠z+1+1+1+1+1+1->W8.heap[k]?=W7.heap[k]?:=fun k hk=>by rw[<-bk];exact FB hk
 rw[bk] at a6 bb;have q4:=(n8 bn (by omega)).trans ((n7 bn (by omega)).trans J0.out.2.2.2);obtain⟨n0,n1,n2,n3,n4,n5⟩:=ia q4;obtain⟨A,c,bs,A2,c2,W9,c7,⟨v9,a7⟩,a4,a2⟩:=a6.side (by rw[J7];have:=HF.out.2.2.2;omega) x.2.left x.2.right 59;generalize (mj t.root a).length=ns at*;have d0:(W8).cell? ⟨z+1+1+1+1,0,none⟩=some (.slice A ns c):=by rw[cell_of_block bs];rfl
 have e0:(W9).cell? ⟨z+1+1+1+1,0,none⟩=some (v9):=by rw[cell_of_block a7];rfl
 have g0:(W9).frozen? ⟨z+1+1+1+1,0,none⟩=false:=AT a7;have H9:=kq2 a4 (J0.out.2.1.trans (ba.trans (bb.trans a2)));clear a1 ba a6 bb a4 a2 q1 q2 q3 q4 bs a7 n7 n8 s7 hj;have ep:SV x.1.k=.string ⟨x.1.k.toArray⟩:=rfl
 gi_wp2_with (gi_at_builtin;refine JJ _ rfl _ _ _ _ rfl _ _ rfl rfl _ _ c7 ?_)
 obtain⟨a4,a2⟩:=H9.out;exact⟨⟨a2.1.size,fun k o hk=>a2.1.same k o (by omega)⟩,a2.2,Kl HB.d a4⟩):P:=h
theorem LS{Ok:Tr->Prop}{l:Tr}{d:It}{m:Nat}{r:Tr}(h:Ig w ps S Y)(hB:fC Ok S o (.node l d m r))(hN2:(Tr.node l d m r).its.length<=1000):
 CallsIn Fence.wide 7 prog 144 #[PV ps,Xu d.h] w fun e w'=>e=.returned (Xi 0)/\Below w.heap.size w w':=by
 have h1:1<=7:=by omega
 have gc:Fence.wide.fn 121:=trivial;have gg:Fence.wide.fn 42:=trivial;have gb:Fence.wide.fn 76:=trivial;have gk:Fence.wide.fn 192:=trivial;have fv:Fence.wide.fn 88:=trivial;have f':Fence.wide.fn 193:=trivial;have ea:∀W,CallsIn Fence.wide 6 prog 121 #[PV ps,Xu d.h] W _:=fun W=>callsIn_wide.2 (EY ps d.h W);have c5:=fun W (hW:Below w.heap.size w W)=>(callsIn_wide (n:=6)).2 (fB (h.below hW) hB.fit.inv 0 (by omega));simp only[fU] at c5;have ft:((d.h:Int)==0)=false:=by have:=(fL hB.fit hB.at'.1).1;simp;omega
 have d':=fun W (hW:Below w.heap.size w W)=>(callsIn_wide (n:=6)).2 (Hb (h.below hW) hB.fit hB.at'.1);have bd:Below w.heap.size w ((w.alloc (Xh ps)).alloc (.cells #[Xi 0] 27)):=((aa _ _).alloc Ih _).alloc (by simp) _;have a0:=kq6 h hB hN2 c5 d' bd;clear h hB hN2 c5 d' bd;refine callsIn_of_wp_marks func144 rfl trivial ?_ rfl;simp only[ntmps144,aR,ag,aM,Nat.reduceAdd,Nat.reduceSub,aN,aO,aU,aQ,aY,aK];gi_wp2_with fail;refine(a0.d _ a0.f).mono ?_;rintro e w1 ⟨rfl,rfl⟩;gi_wp2_with fail;refine(a0.e _ a0.f).mono ?_;rintro e w2 ⟨rfl,bo⟩;obtain⟨nn,b9⟩:=Ii (Tr.nd l d m r);rw[b9,xb];have HN:=If b9;clear b9;have ck:((w.alloc (Xh ps)).alloc (.cells #[Xi 0] 27)).heap[w.heap.size]?=some (Xh ps):=by
  rw[bX _ _ _ (by simp)];exact World.alloc_heap_new _ _
 have cj:((w.alloc (Xh ps)).alloc (.cells #[Xi 0] 27)).heap[w.heap.size+1]?=some (.cells #[Xi 0] 27):=by
  have:=World.alloc_heap_new (w.alloc (Xh ps)) (.cells #[Xi 0] 27);rw[World.size_alloc] at this;exact this
 have cn:=(bo.block _ (gl ck)).trans ck;have c9:=(bo.block _ (gl cj)).trans cj;have d4:=a0.f.trans (bo.mono a0.f.size);have e':w.heap.size+2<=w2.heap.size:=by have:=bo.size;simp at this;omega
 have c0:(w2).cell? ⟨w.heap.size,0,none⟩=some (PV ps):=by rw[cell_of_block cn];rfl
 have H2:=kq4 cn c9 d4 e';clear ck cj cn c9 bo d4;have e6:= @run_makeMap prog
 gi_upto_region 11 with fail
 obtain⟨W3,dp⟩:=Ii (m9 w2 nn d.h)
 show Code.wpIn _ _ _ _ _ _ (m9 w2 nn d.h)
 have b4:=K9 nn d.h H2.c H2.d H2.a H2.b;have bu:(m9 w2 nn d.h).heap.size=w2.heap.size+7:=by unfold m9;simp
 rw[dp] at b4 bu⊢;clear dp c0;have dc:=b4.cs;have c0:(W3).cell? ⟨w.heap.size,0,none⟩=some (PV ps):=by rw[cell_of_block dc];rfl
 have cb:=If b4;clear b4 dc e6;gi_wp2_with fail;refine(ea _).mono ?_;rintro e w4 ⟨rfl,rfl⟩;gi_wp2_with fail;clear ea;generalize w2.heap.size=z at*;have HT:=If a0.b;obtain⟨t,bx⟩:=Ii (Tr.node l d m r);rw[bx] at a0 HT;have b':t.root=d.h:=by rw[<-bx];rfl
 have em:nn.size=t.its.length:=by rw[<-HN.out,<-bx];rfl
 obtain⟨W0,bc⟩:=Ii ((W3.alloc (Xh ps)).alloc (Xf d.h));have z0:W0.heap.size=z+9:=by rw[<-bc];simp[bu]
 have ch:Below W3.heap.size W3 W0:=by rw[<-bc];exact((aa _ _).alloc Ih _).alloc (by simp) _
 have bd:Below w.heap.size w W0:=cb.out.bl.trans (ch.mono cb.out.bl.size);have g1:W0.heap[z+7]?=some (Xh ps):=by rw[<-bc,wb,wb];simp[bu]
 have g2:W0.heap[z+7+1]?=some (Xf t.root):=by rw[<-bc,wb,b'];simp[bu]
 have g4:=H2.d;have er:dT w ps (z+1) (z+1+1+1) (z+1+1+1+1) (z+1+1+1+1+1) (z+1+1+1+1+1+1) (z+7) (fun k=>k=z+7\/k=z+7+1) (ma []) (mj t.root []) (pc []) ([]:List (It×Nd)).isEmpty W0:=by
  have:=cb.out.grown (B:=z+7) (X':=fun k=>k=z+7\/k=z+7+1) Ih (lf ch) (fun r e=>by cases e) (fun k hk=> .inr (by rw[bu,z0];omega));rw[b'];exact this
 have hN:t.nodes.length<limit S/\t.nodes.length<=1000:=by
  rw[nodes_len];exact⟨HT.out.limit,a0.c⟩
 rw[bc];have cc:=kq2 em b';have HD:=If (show Tr.At S (.node l d m r) by rw[bx];exact HT.out.at');clear bc bx ch H2 em b';refine Kb rfl h1 (gf:=161) (lb:=#[PV (z+7),PV (z+7+1)]) rfl trivial (enters_of func161 (by kernel_rfl) rfl)
  (Ko a0.a HT.out.fit HT.out.at' hN.1 hN.2 _ _ bd (by omega) g1 g2) (fun k hk=>by omega) dU.trans
  (fun X W l o o' h1 h2 h3 h4 h5=>⟨nN W l o o' (by have:=bd.size;omega) h3 h4 h5,fun k o2 hx e=>(World.putObj_heap_other (by intro q;subst q;exact h2 hx)).trans e⟩) (aa _ _) (fun _=>rfl)
  (fun X a W=>dT w ps (z+1) (z+1+1+1) (z+1+1+1+1) (z+1+1+1+1+1) (z+1+1+1+1+1+1) (z+7) X (ma a) (mj t.root a) (pc a) a.isEmpty W)
  (fun X X' a W W' row hs hg hr hx=>hs.grown (B:=W0.heap.size) (by omega) hg hr hx)
  er
  (fun x a' W=>∃bn,a'= { tmps:=Kk ps d.h w.heap.size z nn x bn,defers:=[] } /\z+7<=bn/\W.heap[bn]?=some (Xb x.2.key x.2.val x.2.left x.2.right x.2.mark x.2.size))
  (fun x a' _ W W' row hs hg hr=>by
   obtain⟨bn,e1,e2,e3⟩:=hs;refine⟨bn,e1,e2,(hg.block _ (gl e3) fun q=>?_).trans e3⟩;obtain⟨_,o,q1,q2⟩:=hr bn q.symm;rw[e3] at q1
   cases q1
   cases q2)
  ?assign ?body ?done
 case assign=>
  rintro l' X g5 x W K hI hK;have HK:=If hK;have HI:=If hI;clear hK hI;simp only[wa];rw[xb]
  gi_wp2
  have hb:Below W.heap.size W (W.alloc (Xb x.2.key x.2.val x.2.left x.2.right x.2.mark x.2.size)):=(aa _ _).alloc Ih _;obtain⟨i1,i2,i3⟩:=HI.out.below hb;exact HK.out _ _ ⟨i2.size,fun k o hk=>i2.same k o (by omega)⟩ i3 i1 ⟨W.heap.size,rfl,HI.out.lo.2.2.2.2.2.2,World.alloc_heap_new _ _⟩
 case body=>
  rintro l' X a x a' W gn gp hI ⟨bn,rfl,d3,dv⟩ ⟨rr,ek⟩;have nf:=LC HT.out ek;have ev:a.isEmpty=true\/(a.isEmpty=false/\Fu (pc a) x.1.k<0):=by
   rcases nf.less with q | q
   ·left;rw[q];rfl
   ·rcases Kw a with q2 | ⟨_,_,q2⟩
    ·left;rw[q2];rfl
    ·right;exact⟨by rw[q2];rfl,q⟩
  have eg:=((callsIn_wide (n:=4)).2 (LV (a0.a.below hI.bl) HT.out.fit nf.rec' nf.bl.lk nf.bl.lv (by rw[nf.key];exact nf.bl.k) (by rw[nf.val];exact nf.bl.v))).inRound l';have d9:∀W1,Below w.heap.size w W1->CallsIn (Fence.wide.inRound l') 4 prog 193 #[PV ps,eS x.2] W1 _:=fun W1 hW=>((callsIn_wide (n:=4)).2 (by
   obtain⟨l2,m2,r2,e1,e2,e3⟩:=nf.sub;rw[e1];exact LT (a0.a.below hW) HT.out.fit e2.2.1 e2.2.2 (by have:=a0.c;omega))).inRound l'
  have hF:(x.1.h<2^64/\x.1.h∉kx a x 0)/\(x.2.key<2^64/\x.2.key∉kx a x 1)/\(x.2.val<2^64/\x.2.val∉kx a x 2)/\a.length<=1000:=by
   refine⟨⟨(fL HT.out.fit nf.rec').2.1,nf.h1⟩,⟨?_,?_⟩,⟨?_,?_⟩,by have:=nf.al;have:=a0.c;omega⟩
   ·rw[nf.key];exact(fL HT.out.fit nf.bl.k).2.1
   ·rw[nf.key];exact nf.h2
   ·rw[nf.val];exact(fL HT.out.fit nf.bl.v).2.1
   ·rw[nf.val];unfold kx;rw[nf.key];exact nf.h3
  have HF:=If hF;clear hF;have d5:=fun W1=>((callsIn_wide (n:=4)).2 (sT (pc a) x.1.k W1)).inRound l';have cs:=hI.cs;have c0:(W).cell? ⟨w.heap.size,0,none⟩=some (PV ps):=by rw[cell_of_block cs];rfl
  have HB:=kq6 hI d3 dv nf d9 d5;clear hI d3 dv nf d9 d5 cs ek;generalize a.isEmpty=fb at*;unfold Kk;rw[xb] at*;gi_wp2_with fail;refine eg.mono ?_;rintro e W1 ⟨rfl,bm⟩;unfold eu;obtain⟨dk,en⟩:=HB.a.below bm;obtain⟨W2,dn⟩:=Ii (W1.alloc (.cells #[SV x.1.k,SV x.1.v] 40));have b2:Below W1.heap.size W1 W2:=by rw[<-dn];exact(aa _ _).alloc Ih _
  have hp:W2.heap[W1.heap.size]?=some (.cells #[SV x.1.k,SV x.1.v] 40):=by rw[<-dn];exact World.alloc_heap_new _ _
  obtain⟨bf,eo⟩:=dk.below b2;have c8:=If (show z+7<=W1.heap.size from aB HB.a.lo.2.2.2.2.2.2 bm.size);have cp:=(b2.block _ (aJ (gl HB.c) bm.size)).trans ((bm.block _ (gl HB.c)).trans HB.c);have cs:=bf.cs;have cl:=bf.cl;have cf:=bf.cf;have s0:(W2).cell? ⟨w.heap.size,0,none⟩=some (PV ps):=by rw[cell_of_block cs];rfl
  have l0:(W2).cell? ⟨z+1+1+1+1+1,0,none⟩=some (SV (pc a)):=by rw[cell_of_block cl];rfl
  have f0:(W2).cell? ⟨z+1+1+1+1+1+1,0,none⟩=some (.bool fb):=by rw[cell_of_block cf];rfl
  obtain⟨p0,p1⟩:=Fp hp;obtain⟨n0,n1,n2,n3,n4,n5⟩:=ia cp;have au:=kq4 bf (en.trans eo) hp cp;clear dk en b2 hp bf eo cp cs cl cf bm c0 eg
  rcases ev with rfl | ⟨rfl,gs⟩
  ·gi_wp2_with fail;refine(HB.e W2 au.a.bl).mono ?_;rintro e W5 ⟨rfl,a5⟩;obtain⟨bj,b0⟩:=au.a.below a5;have bt:=(a5.block _ (gl au.c)).trans au.c;have a8:=(a5.block _ (gl au.d)).trans au.d;clear s0 l0 f0 p0 p1 n0 n1 n2 n3 n4 n5;obtain⟨n0,n1,n2,n3,n4,n5⟩:=ia a8;have ca:=kq4 bj (au.b.trans b0) bt a8;clear bj b0 bt a8 a5 au;have cw:=Kq (Xu x.1.h) (Xu x.2.key) (Xu x.2.val);have c3:=Kr (Xu x.1.h) (Xu x.2.key) (Xu x.2.val);have c4:=Ks (Xu x.1.h) (Xu x.2.key) (Xu x.2.val);gi_wp2_with fail;clear n0 n1 n2 n3 n4 n5
   gi_loopw [18,79] (fun _ i wr=>∃j:Nat,j<=3/\i=Xi j/\Hid (dT w ps (z+1) (z+1+1+1) (z+1+1+1+1) (z+1+1+1+1+1) (z+1+1+1+1+1+1) (z+7) X (kx a x j) (mj t.root a) (pc a) true wr/\Kx (z+7) w.heap.size X W wr/\wr.heap[W1.heap.size]?=some (.cells #[SV x.1.k,SV x.1.v] 40)/\wr.heap[bn]?=some (Xb x.2.key x.2.val x.2.left x.2.right x.2.mark x.2.size))) (fun _ i _=>3-(intOf i).toNat)
   case atStart=>exact⟨0,by omega,rfl,ca.out⟩
   case round=>
    obtain⟨j,hj,rfl,J0⟩:=hrel;have e5:=HB.b;have e7:=c8.out;have ad:=J0.out.1.cm;have m0:(wr).cell? ⟨z+1+1+1,0,none⟩=some (.map (some (z+1))):=by rw[cell_of_block ad];rfl
    clear ad
    rcases(show j=0\/j=1\/j=2\/j=3 by omega) with rfl | rfl | rfl | rfl
    ·exact qXsae
    ·exact qXsad
    ·exact qXsac
    ·clear m0 cw c3 c4;have q1:=J0.out.2.2.1;have q2:=J0.out.1.cl;obtain⟨p0,p1⟩:=Fp q1;have l0:(wr).cell? ⟨z+1+1+1+1+1,0,none⟩=some (SV (pc a)):=by rw[cell_of_block q2];rfl
     have u0:(wr).frozen? ⟨z+1+1+1+1+1,0,none⟩=false:=AT q2;obtain⟨a1,ba⟩:=J0.out.1.last x.1.k;obtain⟨W7,a3⟩:=Ii (wr.setCell ⟨z+1+1+1+1+1,0,none⟩ (SV x.1.k));have s7:W7.heap.size=wr.heap.size:=by rw[<-a3,size_setCell]
     have n7:∀k,k≠z+1+1+1+1+1->W7.heap[k]?=wr.heap[k]?:=fun k hk=>by rw[<-a3];exact FB hk
     rw[a3] at a1 ba;have q3:=a1.cf;have f0:(W7).cell? ⟨z+1+1+1+1+1+1,0,none⟩=some (.bool true):=by rw[cell_of_block q3];rfl
     exact qXsaa
  ·gi_wp2_with fail;refine(HB.f W2).mono ?_;rintro e w3 ⟨rfl,h3⟩;rw[h3];gi_wp2_with fail;refine(HB.e W2 au.a.bl).mono ?_;rintro e W5 ⟨rfl,a5⟩;obtain⟨bj,b0⟩:=au.a.below a5;have bt:=(a5.block _ (gl au.c)).trans au.c;have a8:=(a5.block _ (gl au.d)).trans au.d;clear s0 l0 f0 p0 p1 n0 n1 n2 n3 n4 n5;obtain⟨n0,n1,n2,n3,n4,n5⟩:=ia a8;have ca:=kq4 bj (au.b.trans b0) bt a8;clear bj b0 bt a8 a5 au;have cw:=Kq (Xu x.1.h) (Xu x.2.key) (Xu x.2.val);have c3:=Kr (Xu x.1.h) (Xu x.2.key) (Xu x.2.val);have c4:=Ks (Xu x.1.h) (Xu x.2.key) (Xu x.2.val);gi_wp2_with fail;clear n0 n1 n2 n3 n4 n5
   gi_loopw [18,79] (fun _ i wr=>∃j:Nat,j<=3/\i=Xi j/\Hid (dT w ps (z+1) (z+1+1+1) (z+1+1+1+1) (z+1+1+1+1+1) (z+1+1+1+1+1+1) (z+7) X (kx a x j) (mj t.root a) (pc a) false wr/\Kx (z+7) w.heap.size X W wr/\wr.heap[W1.heap.size]?=some (.cells #[SV x.1.k,SV x.1.v] 40)/\wr.heap[bn]?=some (Xb x.2.key x.2.val x.2.left x.2.right x.2.mark x.2.size))) (fun _ i _=>3-(intOf i).toNat)
   case atStart=>exact⟨0,by omega,rfl,ca.out⟩
   case round=>
    obtain⟨j,hj,rfl,J0⟩:=hrel;have e5:=HB.b;have e7:=c8.out;have ad:=J0.out.1.cm;have m0:(wr).cell? ⟨z+1+1+1,0,none⟩=some (.map (some (z+1))):=by rw[cell_of_block ad];rfl
    clear ad
    rcases(show j=0\/j=1\/j=2\/j=3 by omega) with rfl | rfl | rfl | rfl
    ·exact qXsae
    ·exact qXsad
    ·exact qXsac
    ·clear m0 cw c3 c4;have q1:=J0.out.2.2.1;have q2:=J0.out.1.cl;obtain⟨p0,p1⟩:=Fp q1;have l0:(wr).cell? ⟨z+1+1+1+1+1,0,none⟩=some (SV (pc a)):=by rw[cell_of_block q2];rfl
     have u0:(wr).frozen? ⟨z+1+1+1+1+1,0,none⟩=false:=AT q2;obtain⟨a1,ba⟩:=J0.out.1.last x.1.k;obtain⟨W7,a3⟩:=Ii (wr.setCell ⟨z+1+1+1+1+1,0,none⟩ (SV x.1.k));have s7:W7.heap.size=wr.heap.size:=by rw[<-a3,size_setCell]
     have n7:∀k,k≠z+1+1+1+1+1->W7.heap[k]?=wr.heap[k]?:=fun k hk=>by rw[<-a3];exact FB hk
     rw[a3] at a1 ba;have q3:=a1.cf;have f0:(W7).cell? ⟨z+1+1+1+1+1+1,0,none⟩=some (.bool false):=by rw[cell_of_block q3];rfl
     exact qXsaa
 case done=>
  rintro D' X xs W hD rfl hI hK;obtain⟨A,c,d1,d2,_⟩:=hI.cd;have d6:=hI.cs;have ad:=hI.cm;have a9:=hI.ce;have ec:=hI.mp.look;have el:=LN HT.out.at';have ed:=Lp HT.out;have cv:=(callsIn_wide (n:=6)).2 (Hb (a0.a.below hI.bl) HT.out.fit (show reco S d.h=some (eM nn) by rw[<-HN.out];exact HD.out.1));have bv:=J7 t.root t.nodes;rw[nodes_len,<-cc.a] at bv;have b9:nn.size<=1000:=by rw[cc.a];exact a0.c
  obtain⟨bq,cq,hv⟩:∃bq cq,Value.slice A (mj t.root t.nodes).length c=.slice (some ⟨bq,0,none⟩) (mj t.root t.nodes).length cq:=by
   rcases d2.2 with⟨_,e0⟩ | ⟨b,c2,fj,e,_⟩
   ·simp at e0
    rw[e0] at bv
    simp at bv
   ·exact⟨b,c2,e⟩
  obtain⟨rfl,rfl⟩:A=some ⟨bq,0,none⟩/\c=cq:=by cases hv;exact⟨rfl,rfl⟩
  have hrow:=fun j (hj:j<(mj t.root t.nodes).length)=>World.ownsRow.cells d2 (g:=bq) rfl j (Xu ((mj t.root t.nodes)[j]:Nat)) (by simp[hV,hj]);obtain⟨ns,c6⟩:=Ii (mj t.root t.nodes).length;rw[c6] at bv d1;have c0:(W).cell? ⟨w.heap.size,0,none⟩=some (PV ps):=by rw[cell_of_block d6];rfl
  have m0:(W).cell? ⟨z+1+1+1,0,none⟩=some (.map (some (z+1))):=by rw[cell_of_block ad];rfl
  have d0:(W).cell? ⟨z+1+1+1+1,0,none⟩=some (.slice (some ⟨bq,0,none⟩) ns c):=by rw[cell_of_block d1];rfl
  unfold eS at cv;have HI:=kq7 hI ec el ed cv hrow c6;have HK:=kq3 hK a9 bv;clear hI ec el ed cv hrow c6 d1 d2 d6 ad a9 hv hK;gi_wp2_with fail
  gi_loopw [20,102] (fun _ i wr=>∃j:Nat,i=Xi j/\j<=ns/\wr=W) (fun _ i _=>ns-(intOf i).toNat)
  case atStart=>exact⟨0,rfl,by omega,rfl⟩
  case round=>
   obtain⟨j,rfl,hj,e8⟩:=hrel;subst e8
   by_cases hjl:j<ns
   ·have eb:j<(mj t.root t.nodes).length:=by rw[HI.g];exact hjl
    have r0:=HI.f j eb;rw[Addr.add_lit] at r0;have hx:=HI.c _ (aw eb);generalize (mj t.root t.nodes)[j]=x at*;simp only[bH] at r0;have ez:(j:Int)<ns:=by omega
    by_cases h0:x=0
    ·have e9:((x:Int) !=0)=false:=by rw[h0];rfl
     clear hx h0;exact qXsah
    ·have e9:((x:Int) !=0)=true:=by simp;omega
     have hm:=hx.resolve_left h0;have gv:=HI.b x (HI.d x hm);have fm:(((ma t.nodes).count x:Nat):Int)≠0:=by have:=List.count_pos_iff.2 hm;omega
     generalize (ma t.nodes).count x=cx at*;have fk:((cx:Int)==0)=false:=by simp;omega
     clear hx h0 hm;exact qXsah
   ·obtain rfl:j=ns:=by omega
    have ez:¬(j:Int)<j:=by omega
    gi_wp2_with fail;refine HI.e.mono ?_;rintro e w6 ⟨rfl,b1⟩;obtain⟨ai,_⟩:=HI.a.below b1;obtain⟨W7,a3⟩:=Ii (w6.alloc (Xb nn.key nn.val nn.left nn.right nn.mark nn.size));have b7:Below w6.heap.size w6 W7:=by rw[<-a3];exact(aa _ _).alloc Ih _
    have ee:W7.heap[w6.heap.size]?=some (Xb nn.key nn.val nn.left nn.right nn.mark nn.size):=by rw[<-a3];exact World.alloc_heap_new _ _
    obtain⟨a1,_⟩:=ai.below b7;obtain⟨ds,d7,cu,e4⟩:=a1.mp.len 3;have d8:ds.length=3*nn.size:=by
     have e1:=Dk d7 (m:=ma t.nodes) fun y hy=>(cu y).1 hy;have e2:=Dk (Ln HT.out) (m:=ds) fun y hy=>(cu y).2 hy;rw[Kn,nodes_len,<-cc.a] at e1 e2;omega
    rw[d8,show ((3*nn.size:Nat):Int)=3*(nn.size:Int) by omega] at e4;have g3:IntKind.u64.wrap (3*(nn.size:Int))=3*(nn.size:Int):=bO _ (by omega);have ad:=a1.cm;have a9:=a1.ce;have q0:(W7).cell? ⟨z+1+1+1,0,none⟩=some (.map (some (z+1))):=by rw[cell_of_block ad];rfl
    have e0:(W7).cell? ⟨w.heap.size+1,0,none⟩=some (Xi 0):=by rw[cell_of_block a9];rfl
    have f0:(W7).frozen? ⟨w.heap.size+1,0,none⟩=false:=AT a9;obtain⟨n0,n1,n2,n3,n4,n5⟩:=ia ee;have H7:=kq3 a1.bl a9 (((b7.block _ (aJ (gl HK.a) b1.size)).trans ((b1.block _ (gl HK.a)).trans HK.a)));clear ai a1 b7 ee d7 cu d8 ad a9 b1 c0 m0 d0;gi_wp2_with fail;obtain⟨B7,c',k7⟩:=H7.out;have dd:D'≠w.heap.size+1:=fun q=>by
     rw[q,c'] at k7
     cases k7
    have cF:=heap_setCell (i:=0) (v:=Xi 0) c';have kF:=(FB (w:=W7) (b:=w.heap.size+1) (i:=0) (v:=Xi 0) dd).trans k7;have bF:Below w.heap.size w (W7.setCell ⟨w.heap.size+1,0,none⟩ (Xi 0)):=B7.trans ⟨rfl,rfl,rfl,by simp,fun k hk=>FB (by omega)⟩;generalize W7.setCell ⟨w.heap.size+1,0,none⟩ (Xi 0)=wF at*;refine⟨by simp,.inl ⟨_,_,rfl,run_takeDeferred kF,?_⟩⟩;have cG:=(World.putObj_heap_other (w:=wF) (o:=.deferred none) (fun q=>dd q.symm)).trans cF;have cH:(wF.putObj D' (.deferred none)).cell? ⟨w.heap.size+1,0,none⟩=some (Xi 0):=by rw[cell_of_block cG];rfl
    refine⟨Xi 0,by simp[results,f144,go_sem,cH],rfl,bF.trans (nN wF D' _ _ (by have:=bd.size;omega) kF rfl rfl)⟩
theorem LR{Ok:Tr->Prop}(h:Ig w ps S Y):∀{t:Tr},fC Ok S o t->t.its.length<=1000->
 Cb 144 #[PV ps,Xu t.root] w (Xi 0)
 | .nil,hB,_=>xS h hB.fit.inv
 | .node _ _ _ _,hB,hN=>callsIn_wide.1 (LS h hB hN)
theorem Tr.nodes_ok {S:St}{Ok:Tr->Prop}(sub:∀{l d m r},Ok (.node l d m r)->Ok l/\Ok r):∀{t:Tr},At S t->Ok t->∀x∈t.nodes,∃l m r,x.2=nd l x.1 m r/\At S (.node l x.1 m r)/\Ok (.node l x.1 m r)/\l.its.length+r.its.length<t.its.length
 | .nil,_,_,x,hx=>by cases hx
 | .node l d m r,⟨h1,h2,h3⟩,ok,x,hx=>by
  have hl:(Tr.node l d m r).its.length=l.its.length+(r.its.length+1):=by
   show (l.its++d::r.its).length=_
   rw[ah,ag]
  rcases ax.1 (show x∈nodes l++(d,nd l d m r)::nodes r from hx) with hx | hx
  ·obtain⟨l',m',r',a1,a2,a3,a4⟩:=nodes_ok sub h2 (sub ok).1 x hx;exact⟨l',m',r',a1,a2,a3,by omega⟩
  ·rcases aj.1 hx with rfl | hx
   ·exact⟨l,m,r,rfl,⟨h1,h2,h3⟩,ok,by omega⟩
   ·obtain⟨l',m',r',a1,a2,a3,a4⟩:=nodes_ok sub h3 (sub ok).2 x hx;exact⟨l',m',r',a1,a2,a3,by omega⟩
theorem KX(h:Ig w ps S Y)(hB:fC eZ S o t)(hN:t.its.length<=1000):
 Cb 234 #[PV ps,Xu t.root] w (Xi 0):=by
 have a0:=LR h hB hN;have a3:=fun W (hW:Below w.heap.size w W)=>KO (h.below hW) hB.fit hB.at' (by rw[nodes_len];exact hB.limit) (by rw[nodes_len];exact hN);obtain⟨n,hn⟩:=Ii t.hs.length;have ai:n=t.nodes.length:=by rw[<-hn,<-nodes_h,ao]
 have bc:n<=1000:=by rw[ai,nodes_len];exact hN
 have HG:=kq6 h hB a0 a3 hn ai;clear h hB a0 a3 hn ai;go_enter func234,ntmps234;go_wp2_with fail;refine b8 HG.c fun w1 hb1=>?_;have H1:=If hb1;clear hb1;go_wp2_with fail;refine(HG.d w1 H1.out).mono ?_;rintro e w2 ⟨v,rfl,an,au⟩;obtain⟨A,c,rfl⟩:=an.slice2;rw[HG.e];have H2:=kq2 (H1.out.trans (au.mono H1.out.size)) an;clear au an;go_wp2_with fail
 go_loopw [4,7,8,9,10,21] (fun _ _ _ _ _ i wr=>∃j:Nat,i=Xi j/\j<=n/\Hid (Below w2.heap.size w2 wr)) (fun _ _ _ _ _ i _=>n-(intOf i).toNat)
 case atStart=>exact⟨0,rfl,by omega,aa _ _⟩
 case round=>
  obtain⟨j,rfl,hj,J0⟩:=hrel
  by_cases hjl:j<n
  ·have a1:j<t.hs.length:=by rw[HG.e];exact hjl
   have a2:j<t.nodes.length:=by rw[<-HG.f];exact hjl
   have a5:=H2.b.at fun g e=>J0.out.block g (H2.b.ge g e).2;obtain⟨b,c',hv,_,r0⟩:=a5.cell_at a1;have ar:t.hs[j]=t.nodes[j].1.h:=by simp[<-nodes_h]
   rw[ar] at r0;obtain⟨l,m,r,e1,e2,e3,e4⟩:=nodes_ok (S:=S) (Ok:=eZ) (fun h=>⟨h.1,h.2.1⟩) HG.b.at' HG.b.ok _ (aw a2);obtain⟨x,hx⟩:=Ii t.nodes[j];rw[hx] at r0 e1 e2 e3;have ad:=H2.a.trans (J0.out.mono H2.a.size);have a8:(j:Int)<n:=by omega
   obtain⟨rfl,rfl⟩:A=some ⟨b,0,none⟩/\c=c':=by cases hv;exact⟨rfl,rfl⟩
   have hf:=HG.b.fit;have hg:=gR (HG.a.below ad) hf.inv x.1.h (fL hf e2.1).2.1;rw[e2.getNode hf] at hg;obtain⟨b1,b2,hm,a6,a7⟩:=e3;have a9:=b1.mark_le;have a':=b2.mark_le;have hA:=fun W (hW:Below w.heap.size w W)=>fJ (HG.a.below hW) hf.inv l.root (At.root_lt hf e2.2.1) (e2.2.1.height hf (by omega));have ap:=fun W (hW:Below w.heap.size w W)=>fJ (HG.a.below hW) hf.inv r.root (At.root_lt hf e2.2.2) (e2.2.2.height hf (by omega));simp only[gP,nd] at hg;have a4:max (l.mark:Int) (r.mark:Int)+1=(m:Int):=by omega
   have d1:¬((r.mark:Int)+1<l.mark):=by omega
   have d2:¬((l.mark:Int)+1<r.mark):=by omega
   have d3:IntKind.i64.wrap (max (l.mark:Int) (r.mark:Int)+1)=(m:Int):=by rw[a4];exact az _ (by omega)
   have d4:IntKind.u64.wrap (m:Int)=(m:Int):=bO _ (by omega);have d5:IntKind.i64.wrap ((r.mark:Int)+1)=(r.mark:Int)+1:=az _ (by omega);have d6:IntKind.i64.wrap ((l.mark:Int)+1)=(l.mark:Int)+1:=az _ (by omega);obtain⟨z,hz⟩:=Ii (Tr.node l x.1 m r).its.length;rw[hz] at hg;have HE:=kq4 hg hA ap ad;clear hg hA ap ad e1 e2 b1 b2 hm a6 a7 a9 a' hz a5 hv ar hx a1 a2 hf a4;generalize l.mark=lm at*;generalize r.mark=rm at*;generalize l.root=lr at*;generalize r.root=rr at*;go_wp2_with fail;refine b8 HE.a fun w3 hb3=>?_;have q:=heap_alloc_new w3 (Xa x.1.kh x.1.vh lr rr m z x.1.h);have B:=(HE.d.trans (hb3.mono HE.d.size)).alloc (by have:=hb3.size;have:=HE.d.size;omega) (Xa x.1.kh x.1.vh lr rr m z x.1.h);have B2:=(J0.out.trans (hb3.mono J0.out.size)).alloc (by have:=hb3.size;have:=J0.out.size;omega) (Xa x.1.kh x.1.vh lr rr m z x.1.h);clear hb3 r0
   go_upto_region 8 with fail
   generalize w3.alloc (Xa x.1.kh x.1.vh lr rr m z x.1.h)=W at*;have ql:=(gl q);have ba:∀x:Fq (Below W.heap.size W),x.to.cell? ⟨w3.heap.size,2,none⟩=some (Xu lr):=fun x=>by rw[cell_of_block ((x.ok.block _ ql).trans q)];rfl
   have bb:∀x:Fq (Below W.heap.size W),x.to.cell? ⟨w3.heap.size,3,none⟩=some (Xu rr):=fun x=>by rw[cell_of_block ((x.ok.block _ ql).trans q)];rfl
   have hA:=fun x:Fq (Below W.heap.size W)=>Calls.keeps_below (HE.b x.to (B.trans (x.ok.mono B.size)));have hB:=fun x:Fq (Below W.heap.size W)=>Calls.keeps_below (HE.c x.to (B.trans (x.ok.mono B.size)));have HB:=kq2 B2 q;clear B q B2;refine iq (Below W.heap.size W) (by kernel_rfl) (by kernel_rfl) (aa _ _).drew (fun _=>?_)
   repeat (first | go_big_quiet_skip | (go_big_quiet_want;go_big_quiet_op;first | go_big_quiet_on | (apply Exists.intro;refine⟨fun x=>?_,?_⟩;(· first | with_reducible exact hA x | with_reducible exact hB x);go_big_quiet_on)))
   refine wpQuiet_nil ?_;rintro _ ⟨y,rfl⟩;have q4:=(y.ok.block _ ql).trans HB.b;obtain⟨c0,c1,c2,c3,c4,c5,c6⟩:=gG q4;have HX:=If (HB.a.trans (y.ok.mono HB.a.size));clear hA hB ba bb q4 ql;go_wp2_with fail;go_roundw
   case rel=>exact⟨j+1,by simp,by omega,HX.out⟩
   case measure=>simp[intOf];omega
  ·obtain rfl:j=n:=by omega
   have a8:¬(j:Int)<j:=by omega
   go_wp2_with fail;go_ret;exact⟨rfl,H2.a.trans (J0.out.mono H2.a.size)⟩