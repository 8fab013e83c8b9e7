/- Rows of handles: slices.Insert of one: the walk. -/
import Derived.Test.YtpljannolpapgaaGreatDoorVFc
import Derived.Shelf.Spec.SlicesInsertGrow
import Derived.Test.YtpljannolpapgaaGreatDoorVYd
import Derived.Test.YtpljannolpapgaaGreatDoorVXq
set_option maxRecDepth 100000
set_option maxHeartbeats 6400000
namespace Go.Proofs.YtpljannolpapgaaGreatDoor
section
open Go.RowKit Tryz Go.BigFrame Go.Maps Go.WideMaps Lf
open Go.Shelf Go.Lib
variable{cur:Array Value}{l:List Nat}{x:Value}
def setL:Array Value->Nat->List Value->Array Value
 | a,_,[]=>a
 | a,o,v::r=>setL (a.setIfInBounds o v) (o+1) r
theorem lw:∀(vs:List Value) (a:Array Value) (o:Nat),(setL a o vs).size=a.size
 | [],_,_=>rfl
 | v::r,a,o=>by rw[setL,lw r];simp
theorem F2:∀(vs:List Value) (a:Array Value) (o j:Nat),(setL a o vs)[j]?=if o<=j/\j<o+vs.length/\j<a.size then vs[j-o]? else a[j]?
 | [],a,o,j=>by rw[setL,if_neg (by simp;omega)]
 | v::r,a,o,j=>by
  rw[setL,F2 r,Array.size_setIfInBounds,Array.getElem?_setIfInBounds];simp only[ag];by_cases h1:o+1<=j/\j<o+1+r.length/\j<a.size
  ·rw[if_pos h1,if_pos (by omega),show j-o=(j-(o+1))+1 by omega,cN]
  ·rw[if_neg h1];by_cases h2:o=j
   ·subst h2;rw[if_pos rfl];by_cases h3:o<a.size
    ·rw[if_pos h3,if_pos (by omega),Nat.sub_self];rfl
    ·rw[if_neg h3,if_neg (by omega),dm (by omega)]
   ·rw[if_neg h2,if_neg (by omega)]
theorem mM {ty:TypeId}{fr:Nat×Nat}{b:Nat}:∀(vs:List Value) {w:World} {cur:Array Value} (o:Nat),w.heap[b]?=some (.cells cur ty fr)->(w.setCells b o vs).heap[b]?=some (.cells (setL cur o vs) ty fr)
 | [],_,_,_,h=>h
 | v::r,w,cur,o,h=>by
  rw[World.setCells,setL];exact mM r (o+1) (heap_setCell h)
theorem ol {b k:Nat}(hk:k≠b):∀(vs:List Value) (w:World) (o:Nat),(w.setCells b o vs).heap[k]?=w.heap[k]?
 | [],_,_=>rfl
 | v::r,w,o=>by rw[World.setCells,ol hk r,FB hk]
theorem mK {b:Nat}:∀(vs:List Value) (w:World) (o:Nat),w.grownBy (w.setCells b o vs) (some b)
 | [],w,_=>⟨rfl,rfl,rfl,Nat.le_refl _,fun _ _ _=>rfl⟩
 | v::r,w,o=>by
  have h:=mK (b:=b) r (w.setCell ⟨b,o,none⟩ v) (o+1);rw[World.setCells];refine⟨h.os,h.tape,h.output,by have:=h.size;simpa using this,fun k h1 h2=>?_⟩;rw[ol (fun e=>h2 (by rw[e])) r,FB (fun e=>h2 (by rw[e]))]
theorem Le(w:World)(row:Option Nat):w.grownBy w.drew row:=⟨rfl,rfl,rfl,Nat.le_refl _,fun _ _ _=>rfl⟩
theorem Ed{cs:List Value}{n i:Nat}(h:cur.toList.take n=cs)(hn:cs.length=n)(hi:i<=n)(hc:n+1<=cur.size):(setL (setL cur (i+1) (cs.drop i)) i [x]).toList.take (n+1)=cs.take i++x::cs.drop i:=by
 have ad:∀j,j<n->cs[j]?=cur[j]?:=fun j hj=>by rw[<-h,cU,if_pos hj,bQ]
 refine dx fun j=>?_;rw[cU,bQ,F2,F2,lw,bS,hn]
 grind
theorem Ee{cs:List Value}{n i:Nat}(h:∀j,j<i->cur[j]?=cs[j]?)(hn:cs.length=n)(hi:i<=n)(hc:n+1<=cur.size):(setL (setL cur i [x]) (i+1) (cs.drop i)).toList.take (n+1)=cs.take i++x::cs.drop i:=by
 refine dx fun j=>?_;rw[cU,bQ,F2,F2,lw,bS,hn];grind
theorem uH(l:List Nat)(i x:Nat):hV (l.take i++x::l.drop i)=(hV l).take i++Xu x::(hV l).drop i:=by
 grind [hV,List.map_take,List.map_drop]
theorem uI:∀v∈hV l,v.oneCell'=true:=fun v hv=>by
 obtain⟨x,_,rfl⟩:=ay.1 hv;rfl
theorem lR{i x:Nat}(h:i<=l.length):(l.take i++x::l.drop i).length=l.length+1:=by
 grind
theorem Bj{w:World}{B:Nat}{v:Value}(h:FE w B v l)(hl:l.length<=1000){i:Nat}(hi:i<=l.length){x vb:Nat}(hx:w.heap[vb]?=some (.cells #[Xu x] 61 (0,0)))(hne:v.ownBlock≠some vb)(hB:B<=w.heap.size):
 Ct 215 #[v,Xi i,.slice (some ⟨vb,0,none⟩) 1 1] w fun e w'=>∃v',e=.returned v'/\FE w' B v' (l.take i++x::l.drop i)/\w.grownBy w' v.ownBlock/\(v'.ownBlock=v.ownBlock\/∃g,v'.ownBlock=some g/\w.heap.size<=g):=by
 obtain⟨n,hn⟩:=Ii l.length;have ar:w.cell? ⟨vb,0,none⟩=some (Xu x):=by rw[cell_of_block hx];rfl
 obtain⟨ti,a2,bc,a3,a4⟩:=info_parts uP
 by_cases b2:i=n
 ·subst b2;have hd:l.drop i=[]:=dr (by omega);have ht:l.take i=l:=aT (by omega);have bo:∀ty,∃v' w',(Builtin.append_ #[59,59] ty #[v,.slice (some ⟨vb,0,none⟩) 1 1]).run prog w=.ok v' w'/\FE w' B v' (l++[x])/\w.grownBy w' v.ownBlock/\(v'.ownBlock=v.ownBlock\/∃g,v'.ownBlock=some g/\w.heap.size<=g):=fun ty=>by
   obtain⟨v',w',h1,h2,h3,_,h4⟩:=run_append_own_at (P:=prog) (w:=w) B 59 ty 61 ti (Xu 0) 1 8 underlying59 a2 bc a3 a4 rfl (by decide) v l.length (hV l) h ⟨vb,0,none⟩ 1 1 [Xu x] rfl (fun j u hj=>by
    cases j with
    | zero=>simp only[List.getElem?_cons_zero,Option.some.injEq] at hj;subst hj;rw[Addr.add_lit];exact ar
    | succ j=>simp at hj) (by simp[Value.oneCell']) (by unfold maxLen;omega) (by omega) hB
   refine⟨v',w',h1,?_,h3,?_⟩
   ·have e:hV (l++[x])=hV l++[Xu x]:=by simp[hV]
    unfold FE;rw[e,ah];exact h2
   ·rcases h4 with h4 | h4
    ·exact ab h4
    ·exact ae ⟨_,h4,Nat.le_refl _⟩
  obtain⟨v',w',hr,ho,hg,hv⟩:=bo 59;rw[hd,ht];generalize b9:v.ownBlock=ob at hg hv⊢;have HF:=kq3 ho hg hv
  rcases h.2 with⟨rfl,e0⟩ | ⟨b,c,cc,rfl,-⟩
  ·obtain rfl:i=0:=by omega
   clear bo ho hg hv h hx ar hd ht a2 bc a3 a4 b9 hne e0;go_enter func215,ntmps215
   go_wp2_with (at_builtin;refine Lib.wpList_append_run _ rfl _ _ _ _ rfl _ _ rfl rfl _ _ hr ?_)
   all_goals
    go_ret;exact⟨v',rfl,HF.out⟩
  ·rw[hn] at hr⊢;clear bo ho hg hv h hx ar hd ht a2 bc a3 a4 b9 hne;go_enter func215,ntmps215
   go_wp2_with (at_builtin;refine Lib.wpList_append_run _ rfl _ _ _ _ rfl _ _ rfl rfl _ _ hr ?_)
   all_goals
    go_ret;exact⟨v',rfl,HF.out⟩
 ·have b2:i<n:=by omega
  rcases h.2 with⟨rfl,e0⟩ | ⟨b,c,cc,rfl,hb,an,c6,bx,bf,ap⟩
  ·omega
  rw[hn] at c6 ap⊢;rw[Nat.mul_one] at bf ap;have a8:(hV l).length=n:=by simp[hV,hn]
  have ca:vb≠b:=fun e=>hne (by rw[e];rfl);have au:∀j v,(hV l)[j]?=some v->w.cell? ⟨b,0+j,none⟩=some v:=fun j v hj=>by
   rw[bH,cell_of_block an,<-bQ];have c5:j<n:=by have:=(aq.1 hj).1;omega
   rw[<-ap,cU,if_pos c5] at hj;exact hj
  have bb:∀j v,[Value.int .u64 x][j]?=some v->w.cell? ⟨vb,0+j,none⟩=some v:=fun j v hj=>by
   cases j with
   | zero=>simp only[List.getElem?_cons_zero,Option.some.injEq] at hj;subst hj;exact ar
   | succ j=>simp at hj
  have a5:∀v∈ [Value.int .u64 x],v.oneCell'=true:=fun v hv=>by rw[aA.1 hv];rfl
  have ba:(prog.info? 61).map (·.size)=some 1:=by rw[a2];simp[a3]
  have d1:IntKind.i64.wrap ((i:Int)+1)=(i:Int)+1:=az _ (by omega);have dk:(0:Int)<=(i:Int)+1:=by omega
  have d0:((i:Int)+1).toNat=i+1:=by omega
  have bj:((hV l).drop i).length=n-i:=by rw[bS,a8]
  have d2:¬((i:Int)=(n:Int)):=by omega
  have dp:c<=9223372036854775807:=by unfold maxLen at bx;omega
  have d3:prog.follows .mixedOrders=true:=by kernel_rfl
  by_cases hroom:n+1<=c
  ·have bk:∀j,w.frozen? ⟨b,j,none⟩=false:=fun j=>AT an;have a':∀j,j<n+1->(w.cell? ⟨b,j,none⟩).isSome=true:=fun j hj=>by rw[cell_of_block an,cY (by omega)];rfl
   have c7:∀lb cb,(callFunc 238 #[.slice (some ⟨vb,0,none⟩) 1 1,.slice (some ⟨b,i+1,none⟩) lb cb]).run prog w=.ok (.value (.bool false)) w:=fun lb cb=>by
    rw[run_callFunc_extern (fn:=f238) (by kernel_rfl) (by kernel_rfl) (by kernel_rfl) (by kernel_rfl) (e:=Extern.SlicesOverlaps.overlaps #[59,59] #[4]) (by kernel_rfl),
     Lib.run_overlaps_apart w 59 4 61 underlying59 1 (fun _=>by kernel_rfl) ⟨vb,0,none⟩ ⟨b,i+1,none⟩ 1 1 lb cb ca 61 61 1 c (by simp[World.shape?,hx]) (by simp[World.shape?,an,bf]) (by omega) (AT hx) (AT hx)]
    rfl
   have a7:¬(c=i+1):=by omega
   have cq:(i:Int)<=(n:Int)+1:=by omega
   have dn:¬(c=i):=by omega
   have c4:i<=n:=by omega
   have b0:∀ty dc sc,(Builtin.copy_ #[59,59] ty #[.slice (some ⟨b,i+1,none⟩) (n-i) dc,.slice (some ⟨b,i,none⟩) (n+1-i) sc]).run prog w.drew=.ok (goInt ((hV l).drop i).length) (w.drew.setCells b (i+1) ((hV l).drop i)):=fun ty dc sc=>
    run_copy_cells w.drew _ _ ty 61 b (i+1) (n-i) dc ⟨b,i,none⟩ (n+1-i) sc ((hV l).drop i) underlying59 ba (by rw[bj];simp only[Nat.min_def];split<;>omega)
     (fun j v hj=>by rw[Addr.add_lit];have:=au (i+j) v (by rwa[List.getElem?_drop] at hj);rwa[bH] at this)
     (fun j hj=>a' _ (by omega)) (fun j hj=>bk _) (fun v hv=>uI v (bw hv))
   obtain⟨W1,ai⟩:∃W1,W1=w.drew.setCells b (i+1) ((hV l).drop i):=⟨_,rfl⟩;have b':∀k,k<n+1->(W1.cell? ⟨b,k,none⟩).isSome=true:=fun k hk=>by
    rw[ai];exact isSome_setCells b _ _ _ (fun j hj=>by rw[bj] at hj;exact a' (i+1+j) (by omega)) _ (a' k hk)
   have cx:∀(W:World),(∀x,W.cell? x=W1.cell? x)->(∀x,W.frozen? x=W1.frozen? x)->∀ty dc,(Builtin.copy_ #[59,59] ty #[.slice (some ⟨b,i,none⟩) (n+1-i) dc,.slice (some ⟨vb,0,none⟩) 1 1]).run prog W=.ok (goInt [Value.int .u64 x].length) (W.setCells b i [Xu x]):=fun W hWc hWf ty dc=>
    run_copy_cells W _ _ ty 61 b i (n+1-i) dc ⟨vb,0,none⟩ 1 1 [Xu x] underlying59 ba (by simp only[Nat.min_def,ag,aM];split<;>omega)
     (fun j v hj=>by
      rw[Addr.add_lit,hWc,ai,World.cell?_setCells_out b _ _ _ _ (fun h _=>absurd h ca)];exact bb j v hj)
     (fun j hj=>by rw[hWc];exact b' _ (by simp at hj;omega)) (fun j hj=>by rw[hWf,ai,World.frozen?_setCells];exact bk _) a5
   have a0:FE ((w.drew.setCells b (i+1) ((hV l).drop i)).setCells b i [Xu x]) B (.slice (some ⟨b,0,none⟩) (n+1) c) (l.take i++x::l.drop i):=by
    have a7:=mM [Xu x] i (mM ((hV l).drop i) (i+1) (w:=w.drew) an);refine⟨by simp[hV],.inr ⟨b,c,_,by rw[lR (by omega),hn],hb,a7,by rw[lR (by omega),hn];exact hroom,bx,by rw[lw,lw,bf,Nat.mul_one],?_⟩⟩;rw[lR (by omega),hn,Nat.mul_one,uH];exact Ed ap a8 (by omega) (by omega)
   have a1:w.grownBy ((w.drew.setCells b (i+1) ((hV l).drop i)).setCells b i [Xu x]) (some b):=(Le w _).trans ((mK _ _ _).trans (mK _ _ _));have HF:=kq2 a0 a1;rw[<-ai] at b0 HF;clear a0 a1 au a' bk b' ap an hx ar bb a5 hne h;go_enter func215,ntmps215
   go_wp2_with (simp only[c7])
   go_region_law_o (refine step_copy_runI rfl _ _ 59 59 rfl _ _ (by simp[Act.eval,Act.put]) (by simp[Act.eval,Act.put]) (b0 _ _ _) ?_)
   go_wp2_with (at_builtin;refine wpList_copy_runI _ rfl _ _ 59 59 rfl _ _ rfl rfl (cx _ (fun _=>rfl) (fun _=>rfl) _ _) ?_)
   go_ret;rw[<-ai];exact⟨_,rfl,HF.a,HF.b,ab rfl⟩
  ·have cw:c=n:=by omega
   subst cw;have cv:b<w.heap.size:=(gl an);have c8:vb<w.heap.size:=(gl hx);have b4:(c:Int)+1-(i:Int)=((c+1-i:Nat):Int):=by omega
   have bm:i+(c+1-i)=c+1:=by omega
   have hold:(Builtin.firstCells ti.size i (.slice (some ⟨b,0,none⟩) i c)).run prog w.drew=.ok ((hV l).take i).toArray w.drew:=by
    rw[a3];exact run_firstCells_some w.drew 1 i ⟨b,0,none⟩ i c ((hV l).take i) (by rw[aL];omega) (fun j v hj=>by
     rw[Addr.add_lit];rw[cU] at hj
     split at hj
     ·exact au j v hj
     ·cases hj)
   have a9:∀ty,(Builtin.append_ #[59,3] ty #[.slice (some ⟨b,0,none⟩) i c,Xi ((c:Int)+1-(i:Int))]).run prog w=
    .ok (.slice (some ⟨w.heap.size,0,none⟩) (c+1) (grownCap w (c+1) c 61)) (w.drew.alloc (.cells (((hV l).take i).toArray++Builtin.zeroCells (Value.int .u64 0).cells (c+1-i)++Builtin.zeroCells (Value.int .u64 0).cells (grownCap w (c+1) c 61-(c+1))) 61)):=fun ty=>by
    have h:=Lib.run_append_grow_zeros w 59 3 ty 61 ti _ .i64 .i64 underlying59 underlying3 a2 bc (some ⟨b,0,none⟩) i c ((hV l).take i) hold (c+1-i) (by omega) (by omega) (by omega) (by omega) (by rw[a4];omega) (by rw[a4,bm];exact growslice_fits (by omega) (by omega));rw[bm] at h;rw[b4];exact h
   obtain⟨G,hG⟩:∃G,G=grownCap w (c+1) c 61:=⟨_,rfl⟩;obtain⟨ad,a6⟩:∃ad:Array Value,ad=((hV l).take i).toArray++Builtin.zeroCells (Value.int .u64 0).cells (c+1-i)++Builtin.zeroCells (Value.int .u64 0).cells (G-(c+1)):=⟨_,rfl⟩;rw[<-hG] at a9;rw[<-a6] at a9;have cp:c+1<=G:=by rw[hG];exact grownCap_ge w _ _ _
   have bq:G<=maxLen:=by rw[hG];exact grownCap_le_maxLen w (c+1) c 61 (by unfold maxLen;omega)
   have bu:ad.size=G:=by
    rw[a6];simp only[Array.size_append,aR,size_zeroCells,aL,a8]
    simp[Value.cells]
    omega
   have bv:∀j,j<i->ad[j]?=(hV l)[j]?:=fun j hj=>by
    rw[a6,Array.append_assoc,Array.getElem?_append_left (by simp;omega),bG,cU,if_pos hj]
   obtain⟨W1,ai⟩:∃W1,W1=w.drew.alloc (.cells ad 61):=⟨_,rfl⟩;rw[<-ai] at a9;have hN:∀j,j<c+1->(W1.cell? ⟨w.heap.size,j,none⟩).isSome=true:=fun j hj=>by
    rw[ai,World.cell?_alloc_at (w:=w.drew) ad _ w.heap.size j rfl,cY (by omega)]
    rfl
   have bd:∀j,W1.frozen? ⟨w.heap.size,j,none⟩=false:=fun j=>by rw[ai];exact World.frozen?_alloc_at (w:=w.drew) ad _ w.heap.size j rfl
   have bs:∀j v,w.cell? ⟨b,j,none⟩=some v->W1.cell? ⟨b,j,none⟩=some v:=fun j v h=>by rw[ai,World.cell?_alloc_past (w:=w.drew) _ b j cv];exact h
   have bt:∀j v,w.cell? ⟨vb,j,none⟩=some v->W1.cell? ⟨vb,j,none⟩=some v:=fun j v h=>by rw[ai,World.cell?_alloc_past (w:=w.drew) _ vb j c8];exact h
   have c3:∀(W:World),(∀x,W.cell? x=W1.cell? x)->(∀x,W.frozen? x=W1.frozen? x)->∀ty dc,(Builtin.copy_ #[59,59] ty #[.slice (some ⟨w.heap.size,i,none⟩) (c+1-i) dc,.slice (some ⟨vb,0,none⟩) 1 1]).run prog W=.ok (goInt [Value.int .u64 x].length) (W.setCells w.heap.size i [Xu x]):=fun W hWc hWf ty dc=>
    run_copy_cells W _ _ ty 61 w.heap.size i (c+1-i) dc ⟨vb,0,none⟩ 1 1 [Xu x] underlying59 ba (by simp only[Nat.min_def,ag,aM];split<;>omega)
     (fun j v hj=>by rw[Addr.add_lit,hWc];exact bt _ v (bb j v hj))
     (fun j hj=>by rw[hWc];exact hN _ (by simp at hj;omega)) (fun j hj=>by rw[hWf];exact bd _) a5
   have cu:b≠w.heap.size:=by omega
   have b1:∀(W:World),(∀y,W.cell? y=(W1.setCells w.heap.size i [Xu x]).cell? y)->(∀y,W.frozen? y=(W1.setCells w.heap.size i [Xu x]).frozen? y)->∀ty dc sc,(Builtin.copy_ #[59,59] ty #[.slice (some ⟨w.heap.size,i+1,none⟩) (c-i) dc,.slice (some ⟨b,i,none⟩) (c-i) sc]).run prog W=.ok (goInt ((hV l).drop i).length) (W.setCells w.heap.size (i+1) ((hV l).drop i)):=fun W hWc hWf ty dc sc=>
    run_copy_cells W _ _ ty 61 w.heap.size (i+1) (c-i) dc ⟨b,i,none⟩ (c-i) sc ((hV l).drop i) underlying59 ba (by rw[bj];simp only[Nat.min_def];split<;>omega)
     (fun j v hj=>by
      rw[Addr.add_lit,hWc,World.cell?_setCells_out _ _ _ _ _ (fun h _=>absurd h cu)];have:=au (i+j) v (by rwa[List.getElem?_drop] at hj);rw[bH] at this;exact bs _ v this)
     (fun j hj=>by rw[hWc];exact isSome_setCells _ _ _ _ (fun t ht=>hN _ (by simp at ht;omega)) _ (hN _ (by omega)))
     (fun j hj=>by rw[hWf,World.frozen?_setCells];exact bd _) (fun v hv=>uI v (bw hv))
   have a0:FE (((w.alloc (.cells ad 61)).drew.setCells w.heap.size i [Xu x]).drew.setCells w.heap.size (i+1) ((hV l).drop i)) B (.slice (some ⟨w.heap.size,0,none⟩) (c+1) G) (l.take i++x::l.drop i):=by
    have a7:=mM ((hV l).drop i) (i+1) (w:=((w.alloc (.cells ad 61)).drew.setCells w.heap.size i [Xu x]).drew) (mM [Xu x] i (w:=(w.alloc (.cells ad 61)).drew) (heap_alloc_new w (.cells ad 61)));refine⟨by simp[hV],.inr ⟨w.heap.size,G,_,by rw[lR (by omega),hn],hB,a7,by rw[lR (by omega),hn];exact cp,bq,by rw[lw,lw,bu,Nat.mul_one],?_⟩⟩;rw[lR (by omega),hn,Nat.mul_one,uH];exact Ee bv a8 (by omega) (by omega)
   have a1:w.grownBy (((w.alloc (.cells ad 61)).drew.setCells w.heap.size i [Xu x]).drew.setCells w.heap.size (i+1) ((hV l).drop i)) (some b):=by
    have g1:=mK (b:=w.heap.size) [Xu x] (w.alloc (.cells ad 61)).drew i;have g2:=mK (b:=w.heap.size) ((hV l).drop i) ((w.alloc (.cells ad 61)).drew.setCells w.heap.size i [Xu x]).drew (i+1);refine⟨g2.os.trans g1.os,g2.tape.trans g1.tape,g2.output.trans g1.output,aB (by show w.heap.size<=(w.alloc _).heap.size;simp) (aB g1.size g2.size),fun k hk _=>?_⟩;have e1:=ol (b:=w.heap.size) (k:=k) (by omega) ((hV l).drop i) ((w.alloc (.cells ad 61)).drew.setCells w.heap.size i [Xu x]).drew (i+1);have e2:=ol (b:=w.heap.size) (k:=k) (by omega) [Xu x] (w.alloc (.cells ad 61)).drew i;exact e1.trans (e2.trans (heap_alloc_old _ _ hk))
   have HF:=kq2 a0 a1;subst ai;have ch:∀x,((w.alloc (.cells ad 61)).drew).cell? x=(w.drew.alloc (.cells ad 61)).cell? x:=fun x=>rfl;have cj:∀x,((w.alloc (.cells ad 61)).drew).frozen? x=(w.drew.alloc (.cells ad 61)).frozen? x:=fun x=>rfl;have ck:∀y,(((w.alloc (.cells ad 61)).drew.setCells w.heap.size i [Xu x]).drew).cell? y=((w.drew.alloc (.cells ad 61)).setCells w.heap.size i [Xu x]).cell? y:=fun x=>rfl;have cn:∀y,(((w.alloc (.cells ad 61)).drew.setCells w.heap.size i [Xu x]).drew).frozen? y=((w.drew.alloc (.cells ad 61)).setCells w.heap.size i [Xu x]).frozen? y:=fun x=>rfl;have c':¬(G=i):=by omega
   have dd:¬(G=i+1):=by omega
   have ds:¬(c=i):=by omega
   have c4:i<=c:=by omega
   have cq:(i:Int)<=(c:Int):=by omega
   have c9:G<=9223372036854775807:=by unfold maxLen at bq;omega
   have dv:(c:Int)<(c:Int)+1:=by omega
   clear b4 bm hold a6 hG bu bv hN bd bs bt a0 a1 au hx ar bb a5 hne h an ap hroom;go_enter func215,ntmps215
   go_wp2_with (first
    | (at_builtin;refine Lib.wpList_append_run _ rfl _ _ _ _ rfl _ _ rfl rfl _ _ (a9 _) ?_)
    | (at_builtin;refine wpList_copy_runI _ rfl _ _ 59 59 rfl _ _ rfl rfl (c3 _ ch cj _ _) ?_)
    | (at_builtin;refine wpList_copy_runI _ rfl _ _ 59 59 rfl _ _ rfl rfl (b1 _ (fun _=>rfl) (fun _=>rfl) _ _ _) ?_))
   go_region_law_o (refine step_copy_runI rfl _ _ 59 59 rfl (.slice (some ⟨w.heap.size,i+1,none⟩) (c-i) (G-(i+1))) (.slice (some ⟨b,i,none⟩) (c-i) (c-i)) (by simp[Act.eval,Act.put]) (by simp[Act.eval,Act.put]) (b1 _ ck cn 3 (G-(i+1)) (c-i)) ?_)
   go_wp2
   go_ret;exact⟨_,rfl,HF.a,HF.b,ae ⟨_,rfl,Nat.le_refl _⟩⟩
end
section
open Go.RowKit Tryz Go.BigFrame Go.Maps Go.WideMaps Lf
variable{R:Nat×Nat}{S:St}{Y:Nat->Prop}{ps:Nat}{w:World}{x:Nat}
theorem qBhaf{P:Prop}(h:P:=by
 split at h
 ·cases h
 ·rename_i S1 h1;obtain⟨S2,h2,h3⟩:=aD.1 h
  injection h3 with e1 e2
  subst e1 e2;exact⟨S1,h1,h2,rfl⟩):P:=h
theorem rp{S S':St}{hh x:Nat}(h:leftM S hh=some (x,S')):∃S1,fu S (getNode S hh).1 hh (getNode S hh).1.left (getNode S (getNode S hh).1.right).1.left=some S1/\fu S1 (getNode S (getNode S hh).1.right).1 (getNode S hh).1.right hh (getNode S (getNode S hh).1.right).1.right=some S'/\x=(getNode S hh).1.right:=by
 unfold leftM at h;exact qBhaf
theorem ow{S S':St}{hh x:Nat}(hi:Fv S)(h:leftM S hh=some (x,S')):Fv S':=by
 obtain⟨S1,h1,h2,_⟩:=rp h;exact gX (gX hi h1) h2
theorem qBhac{P:Prop}(h:P:=by
 iterate 13
  refine' hC ?_ ?_;rotate_left
  ·intro x;go_simp
   try rfl
  simp only[pu]
 refine mo ?_;clear y0 y1 y2 y3 y4 y5 y6 z0 z1 z2 z3 z4 z5 z6;refine gF _ (by rfl) (by rfl) (fun K hK=>?_);go_simp;refine(HG.c _ _ (HZ.a.below (aa _ _).drew)).mono ?_;rintro e w5 ⟨rfl,h5,ar⟩;have u5:=(ar.block b1 (ae ⟨by omega,a6⟩)).trans HZ.b;have v5:=(ar.block b2 (ae ⟨by omega,a7⟩)).trans HZ.c;have H5:=kq4 h5 ar u5 v5;clear h5 ar u5 v5
 try go_simp
 refine hK.out _ _ (HI.out _ H5.c H5.d) ?_;clear hK K
 try simp only[pu]
 refine gF _ (by rfl) (by rfl) (fun K hK=>?_);go_simp;refine(HG.d _ _ H5.a).mono ?_;rintro e w6 ⟨rfl,h6,au⟩;have u6:=(au.block b1 (ae ⟨by omega,a6⟩)).trans H5.c;have v6:=(au.block b2 (ae ⟨by omega,a7⟩)).trans H5.d;have H6:=kq4 h6 (H5.b.trans au) u6 v6;clear h6 au u6 v6
 try go_simp
 refine hK.out _ _ (HI.out _ H6.c H6.d) ?_;clear hK K
 try simp only[pu]
 refine gF _ (by rfl) (by rfl) (fun K hK=>?_)
 try go_simp
 refine hK.out _ _ (HI.out _ H6.c H6.d) ?_;clear hK K
 try simp only[pu]
 refine yW ?_;go_wp2_with fail;go_ret;exact⟨rfl,H6.a.mono fun k hk=>ab hk,(Fo.of_below HZ.d.drew HG.e.yl).trans (H6.b.mono fun k hk=>ab hk)⟩):P:=h
theorem pR{S S':St}(h:Ig w ps S Y)(hi:Fv S)(hh:Nat)(hl:hh<2^64)(hR:leftM S hh=some (x,S')):
 Ct 240 #[PV ps,Xu hh] w fun e w'=>e=.returned (Xu x)/\Ig w' ps S' Y/\Fo Y w w':=by
 obtain⟨S1,h1,h2,rfl⟩:=rp hR;have hlt:=fs h hh;have ap:=fs h (getNode S hh).1.right;have a3:=gX hi h1;have hg:=gR h hi hh hl;have an:=fun W (hW:Below w.heap.size w W)=>gR (h.below hW) hi (getNode S hh).1.right hlt.right;have ad:=fun W Z (hW:Ig W ps S Z)=>jG hW hi (getNode S hh).1 hlt hh (getNode S hh).1.left (getNode S (getNode S hh).1.right).1.left hl (by first | exact hlt.left | exact ap.right) (by first | exact ap.left | exact hlt.right) h1;have ai:=fun W Z (hW:Ig W ps S1 Z)=>jG hW a3 (getNode S (getNode S hh).1.right).1 ap (getNode S hh).1.right hh (getNode S (getNode S hh).1.right).1.right hlt.right (by first | exact hl | exact ap.left) (by first | exact ap.right | exact hl) h2;obtain⟨⟨⟨k0,k1,k2,k3,k4,k5⟩,er⟩,hE⟩:∃q,getNode S hh=q:=⟨_,rfl⟩;rw[hE] at hg an ad ai⊢;simp only at hg an ad ai⊢;obtain⟨⟨⟨g0,g1,g2,g3,g4,g5⟩,ba⟩,a2⟩:∃q,getNode S k3=q:=⟨_,rfl⟩;rw[a2] at an ad ai;simp only[gP] at hg an ad ai;have HG:=kq5 hg an ad ai h;clear hg an ad ai h hi a3 h1 h2 hlt ap hE a2 hR;go_enter func240,ntmps240;go_wp2_with fail;refine b8 HG.a fun w1 hb1=>?_;have q:=heap_alloc_new w1 (Xa k0 k1 k2 k3 k4 k5 hh);have B1:=hb1.alloc hb1.size (Xa k0 k1 k2 k3 k4 k5 hh);have bb:=hb1.size;clear hb1;go_wp2_with fail;generalize a9:w1.alloc (Xa k0 k1 k2 k3 k4 k5 hh)=W1 at*;have a':w1.heap.size<W1.heap.size:=(gl q);generalize w1.heap.size=b1 at*;refine b8 (HG.b _ B1) fun w2 hb2=>?_;have q2:=(hb2.block b1 a').trans q;have B2:=B1.trans (hb2.mono B1.size);have bc:=hb2.size;clear hb2 q a9;have q4:=heap_alloc_new w2 (Xa g0 g1 g2 g3 g4 g5 k3);have r4:=(((aa w2.heap.size w2).alloc Ih (Xa g0 g1 g2 g3 g4 g5 k3)).block b1 (by omega)).trans q2;have B4:=B2.alloc B2.size (Xa g0 g1 g2 g3 g4 g5 k3);have bd:w.heap.size<=w2.heap.size:=B2.size;clear q2 B1 B2;go_wp2_with fail;generalize w2.alloc (Xa g0 g1 g2 g3 g4 g5 k3)=W at*;generalize w2.heap.size=b2 at*;have a6:=(gl r4);have a7:=(gl q4);have HZ:=kq4 (HG.e.wide B4) r4 q4 B4;obtain⟨I,a0,a1⟩:∃I:World->Prop,(∀w',I w'->w'.heap[b1]?=some (.cells #[Xu k0,Xu k1,Xu k2,Xu k3,Xu k4,Xu k5,Xu hh] 280 (0,0))/\w'.heap[b2]?=some (.cells #[Xu g0,Xu g1,Xu g2,Xu g3,Xu g4,Xu g5,Xu k3] 280 (0,0)))/\(∀w',w'.heap[b1]?=some (.cells #[Xu k0,Xu k1,Xu k2,Xu k3,Xu k4,Xu k5,Xu hh] 280 (0,0))->w'.heap[b2]?=some (.cells #[Xu g0,Xu g1,Xu g2,Xu g3,Xu g4,Xu g5,Xu k3] 280 (0,0))->I w'):=⟨fun w'=>w'.heap[b1]?=some (.cells #[Xu k0,Xu k1,Xu k2,Xu k3,Xu k4,Xu k5,Xu hh] 280 (0,0))/\w'.heap[b2]?=some (.cells #[Xu g0,Xu g1,Xu g2,Xu g3,Xu g4,Xu g5,Xu k3] 280 (0,0)),fun _ h=>h,fun _ a b=>⟨a,b⟩⟩;have a4:=fun x:Fq I=>(a0 _ x.ok).1;have a5:=fun x:Fq I=>(a0 _ x.ok).2;obtain⟨y0,y1,y2,y3,y4,y5,y6⟩:=iZ a4;obtain⟨z0,z1,z2,z3,z4,z5,z6⟩:=iZ a5;have HI:=If a1;have a8:I W.drew:=a1 _ r4 q4;clear a4 a5 q4 r4 B4 a0 a1;refine Jz I [0,1,2,3,4,5,6,7,8,9,11,12,13] [10,14,15] (by kernel_rfl) (by kernel_rfl) a8 ?_;exact qBhac
theorem se{S S':St}{hh x:Nat}(h:rightM S hh=some (x,S')):∃S1,fu S (getNode S hh).1 hh (getNode S (getNode S hh).1.left).1.right (getNode S hh).1.right=some S1/\fu S1 (getNode S (getNode S hh).1.left).1 (getNode S hh).1.left (getNode S (getNode S hh).1.left).1.left hh=some S'/\x=(getNode S hh).1.left:=by
 unfold rightM at h;exact qBhaf
theorem oT{S S':St}{hh x:Nat}(hi:Fv S)(h:rightM S hh=some (x,S')):Fv S':=by
 obtain⟨S1,h1,h2,_⟩:=se h;exact gX (gX hi h1) h2
theorem pS{S S':St}(h:Ig w ps S Y)(hi:Fv S)(hh:Nat)(hl:hh<2^64)(hR:rightM S hh=some (x,S')):
 Ct 241 #[PV ps,Xu hh] w fun e w'=>e=.returned (Xu x)/\Ig w' ps S' Y/\Fo Y w w':=by
 obtain⟨S1,h1,h2,rfl⟩:=se hR;have hlt:=fs h hh;have ap:=fs h (getNode S hh).1.left;have a3:=gX hi h1;have hg:=gR h hi hh hl;have an:=fun W (hW:Below w.heap.size w W)=>gR (h.below hW) hi (getNode S hh).1.left hlt.left;have ad:=fun W Z (hW:Ig W ps S Z)=>jG hW hi (getNode S hh).1 hlt hh (getNode S (getNode S hh).1.left).1.right (getNode S hh).1.right hl (by first | exact hlt.left | exact ap.right) (by first | exact ap.left | exact hlt.right) h1;have ai:=fun W Z (hW:Ig W ps S1 Z)=>jG hW a3 (getNode S (getNode S hh).1.left).1 ap (getNode S hh).1.left (getNode S (getNode S hh).1.left).1.left hh hlt.left (by first | exact hl | exact ap.left) (by first | exact ap.right | exact hl) h2;obtain⟨⟨⟨k0,k1,k2,k3,k4,k5⟩,er⟩,hE⟩:∃q,getNode S hh=q:=⟨_,rfl⟩;rw[hE] at hg an ad ai⊢;simp only at hg an ad ai⊢;obtain⟨⟨⟨g0,g1,g2,g3,g4,g5⟩,ba⟩,a2⟩:∃q,getNode S k2=q:=⟨_,rfl⟩;rw[a2] at an ad ai;simp only[gP] at hg an ad ai;have HG:=kq5 hg an ad ai h;clear hg an ad ai h hi a3 h1 h2 hlt ap hE a2 hR;go_enter func241,ntmps241;go_wp2_with fail;refine b8 HG.a fun w1 hb1=>?_;have q:=heap_alloc_new w1 (Xa k0 k1 k2 k3 k4 k5 hh);have B1:=hb1.alloc hb1.size (Xa k0 k1 k2 k3 k4 k5 hh);have bb:=hb1.size;clear hb1;go_wp2_with fail;generalize a9:w1.alloc (Xa k0 k1 k2 k3 k4 k5 hh)=W1 at*;have a':w1.heap.size<W1.heap.size:=(gl q);generalize w1.heap.size=b1 at*;refine b8 (HG.b _ B1) fun w2 hb2=>?_;have q2:=(hb2.block b1 a').trans q;have B2:=B1.trans (hb2.mono B1.size);have bc:=hb2.size;clear hb2 q a9;have q4:=heap_alloc_new w2 (Xa g0 g1 g2 g3 g4 g5 k2);have r4:=(((aa w2.heap.size w2).alloc Ih (Xa g0 g1 g2 g3 g4 g5 k2)).block b1 (by omega)).trans q2;have B4:=B2.alloc B2.size (Xa g0 g1 g2 g3 g4 g5 k2);have bd:w.heap.size<=w2.heap.size:=B2.size;clear q2 B1 B2;go_wp2_with fail;generalize w2.alloc (Xa g0 g1 g2 g3 g4 g5 k2)=W at*;generalize w2.heap.size=b2 at*;have a6:=(gl r4);have a7:=(gl q4);have HZ:=kq4 (HG.e.wide B4) r4 q4 B4;obtain⟨I,a0,a1⟩:∃I:World->Prop,(∀w',I w'->w'.heap[b1]?=some (.cells #[Xu k0,Xu k1,Xu k2,Xu k3,Xu k4,Xu k5,Xu hh] 280 (0,0))/\w'.heap[b2]?=some (.cells #[Xu g0,Xu g1,Xu g2,Xu g3,Xu g4,Xu g5,Xu k2] 280 (0,0)))/\(∀w',w'.heap[b1]?=some (.cells #[Xu k0,Xu k1,Xu k2,Xu k3,Xu k4,Xu k5,Xu hh] 280 (0,0))->w'.heap[b2]?=some (.cells #[Xu g0,Xu g1,Xu g2,Xu g3,Xu g4,Xu g5,Xu k2] 280 (0,0))->I w'):=⟨fun w'=>w'.heap[b1]?=some (.cells #[Xu k0,Xu k1,Xu k2,Xu k3,Xu k4,Xu k5,Xu hh] 280 (0,0))/\w'.heap[b2]?=some (.cells #[Xu g0,Xu g1,Xu g2,Xu g3,Xu g4,Xu g5,Xu k2] 280 (0,0)),fun _ h=>h,fun _ a b=>⟨a,b⟩⟩;have a4:=fun x:Fq I=>(a0 _ x.ok).1;have a5:=fun x:Fq I=>(a0 _ x.ok).2;obtain⟨y0,y1,y2,y3,y4,y5,y6⟩:=iZ a4;obtain⟨z0,z1,z2,z3,z4,z5,z6⟩:=iZ a5;have HI:=If a1;have a8:I W.drew:=a1 _ r4 q4;clear a4 a5 q4 r4 B4 a0 a1;refine Jz I [0,1,2,3,4,5,6,7,8,9,10,11,12] [13,14,15] (by kernel_rfl) (by kernel_rfl) a8 ?_;exact qBhac
inductive BalDid (S S':St) (hh x a b:Nat):Prop
 | none (h1:a<=b+1) (h2:b<=a+1) (h3:x=hh) (h4:S'=S):BalDid S S' hh x a b
 | ll (c d:Nat) (h1:b+1<a) (h2:eE S (getNode S (getNode S hh).1.left).1.left=some c) (h3:eE S (getNode S (getNode S hh).1.left).1.right=some d) (h4:¬c<d) (h5:rightM S hh=some (x,S')):BalDid S S' hh x a b
 | lr (c d y:Nat) (S1 S2:St) (h1:b+1<a) (h2:eE S (getNode S (getNode S hh).1.left).1.left=some c) (h3:eE S (getNode S (getNode S hh).1.left).1.right=some d) (h4:c<d) (h5:leftM S (getNode S hh).1.left=some (y,S1)) (h6:fu S1 (getNode S hh).1 hh y (getNode S hh).1.right=some S2) (h7:rightM S2 hh=some (x,S')):BalDid S S' hh x a b
 | rr (c d:Nat) (h0:¬b+1<a) (h1:a+1<b) (h2:eE S (getNode S (getNode S hh).1.right).1.left=some c) (h3:eE S (getNode S (getNode S hh).1.right).1.right=some d) (h4:¬d<c) (h5:leftM S hh=some (x,S')):BalDid S S' hh x a b
 | rl (c d y:Nat) (S1 S2:St) (h0:¬b+1<a) (h1:a+1<b) (h2:eE S (getNode S (getNode S hh).1.right).1.left=some c) (h3:eE S (getNode S (getNode S hh).1.right).1.right=some d) (h4:d<c) (h5:rightM S (getNode S hh).1.right=some (y,S1)) (h6:fu S1 (getNode S hh).1 hh (getNode S hh).1.left y=some S2) (h7:leftM S2 hh=some (x,S')):BalDid S S' hh x a b
theorem tI{S S':St}{hh x:Nat}(h:balM S hh=some (x,S')):∃a b,eE S (getNode S hh).1.left=some a/\eE S (getNode S hh).1.right=some b/\BalDid S S' hh x a b:=by
 unfold balM at h
 split at h
 ·rename_i a b ha hb;refine⟨a,b,ha,hb,?_⟩
  split at h
  ·rename_i h1
   split at h
   ·rename_i c d hc hd
    split at h
    ·rename_i h4
     split at h
     ·cases h
     ·rename_i y S1 h5
      split at h
      ·cases h
      ·rename_i S2 h6;exact .lr c d y S1 S2 h1 hc hd h4 h5 h6 h
    ·rename_i h4;exact .ll c d h1 hc hd h4 h
   ·cases h
  ·rename_i h0
   split at h
   ·rename_i h1
    split at h
    ·rename_i c d hc hd
     split at h
     ·rename_i h4
      split at h
      ·cases h
      ·rename_i y S1 h5
       split at h
       ·cases h
       ·rename_i S2 h6;exact .rl c d y S1 S2 h0 h1 hc hd h4 h5 h6 h
     ·rename_i h4;exact .rr c d h0 h1 hc hd h4 h
    ·cases h
   ·rename_i h1
    injection h with h
    injection h with e1 e2
    exact .none (by omega) (by omega) e1.symm e2.symm
 ·cases h
theorem Cj{S S':St}(h:Ig w ps S Y){hh x:Nat}(hR:leftM S hh=some (x,S')):x<2^64:=by
 obtain⟨_,_,_,rfl⟩:=rp hR;exact(fs h hh).right
theorem D9{S S':St}(h:Ig w ps S Y){hh x:Nat}(hR:rightM S hh=some (x,S')):x<2^64:=by
 obtain⟨_,_,_,rfl⟩:=se hR;exact(fs h hh).left
theorem yQ(h:Ig w ps S Y)(hi:Fv S)(hh:Nat)(hl:hh<2^64){a b:Nat}(ha:eE S (getNode S hh).1.left=some a)(hb:eE S (getNode S hh).1.right=some b)(h1:a<=b+1)(h2:b<=a+1):
 Ct 218 #[PV ps,Xu hh] w fun e w'=>e=.returned (Xu hh)/\Ig w' ps S Y/\Fo Y w w':=by
 have hg:=gR h hi hh hl;have hlt:=fs h hh;have ai:a<2^62:=by have:=num_some ha;omega
 have an:b<2^62:=by have:=num_some hb;omega
 have hA:=fun W (hW:Below w.heap.size w W)=>fJ (h.below hW) hi (getNode S hh).1.left hlt.left ha;have hB:=fun W (hW:Below w.heap.size w W)=>fJ (h.below hW) hi (getNode S hh).1.right hlt.right hb;obtain⟨⟨⟨k0,k1,k2,k3,k4,k5⟩,er⟩,hE⟩:∃r,getNode S hh=r:=⟨_,rfl⟩;rw[hE] at hg hA hB;simp only at hg hA hB;simp only[gP] at hg;have d0:IntKind.i64.wrap ((a:Int)-b)=(a:Int)-b:=az _ (by omega);have d1:((1:Int)<(a:Int)-b)=False:=eq_false (by omega);have d2:((a:Int)-b< -1)=False:=eq_false (by omega);have HG:=kq4 hg hA hB h;clear hg hA hB h hi hE hlt ha hb h1 h2 ai an;go_enter func218,ntmps218;go_wp2_with fail;refine b8 HG.a fun w1 hb1=>?_;have q:=heap_alloc_new w1 (Xa k0 k1 k2 k3 k4 k5 hh);have B1:=hb1.alloc hb1.size (Xa k0 k1 k2 k3 k4 k5 hh);have a0:=hb1.size;clear hb1;go_wp2_with fail;generalize w1.alloc (Xa k0 k1 k2 k3 k4 k5 hh)=W at*;have ql:=(gl q);generalize w1.heap.size=b1 at*;have ap:∀x:Fq (Below W.heap.size W),x.to.cell? ⟨b1,2,none⟩=some (Xu k2):=fun x=>by rw[cell_of_block ((x.ok.block _ ql).trans q)];rfl
 have ar:∀x:Fq (Below W.heap.size W),x.to.cell? ⟨b1,3,none⟩=some (Xu k3):=fun x=>by rw[cell_of_block ((x.ok.block _ ql).trans q)];rfl
 have hA:=fun x:Fq (Below W.heap.size W)=>Calls.keeps_below (HG.b x.to (B1.trans (x.ok.mono B1.size)));have hB:=fun x:Fq (Below W.heap.size W)=>Calls.keeps_below (HG.c x.to (B1.trans (x.ok.mono B1.size)));have HB:=kq2 B1 q;clear B1 q;refine iq (Below W.heap.size W) (by kernel_rfl) (by kernel_rfl) (aa _ _).drew (fun _=>?_)
 repeat (first | go_big_quiet_skip | (go_big_quiet_want;go_big_quiet_op;first | go_big_quiet_on | (apply Exists.intro;refine⟨fun x=>?_,?_⟩;(· first | with_reducible exact hA x | with_reducible exact hB x);go_big_quiet_on)))
 refine wpQuiet_nil ?_;rintro _ ⟨v,rfl⟩;clear hA hB ap ar;have r2:=(v.ok.block b1 ql).trans HB.b;have HX:=kq2 (HB.a.trans (v.ok.mono HB.a.size)) r2;have au:=v.ok.size;obtain⟨w2,ad⟩:=Ii v.to;rw[ad] at HX r2 au⊢;clear ad v HB;clear r2;go_wp2_with fail;go_ret;exact⟨rfl,HG.d.below HX.a,Fo.of_below HX.a HG.d.yl⟩
theorem qBhaa{P:Prop}(h:P:=by
 generalize w3.heap.size=b2 at*;have a':=(gl r4);have ap:=(gl q4);have a8:∀x:Fq (Below W3.heap.size W3),x.to.cell? ⟨b2,2,none⟩=some (Xu g2):=fun x=>by rw[cell_of_block ((x.ok.block _ ap).trans q4)];rfl
 have a9:∀x:Fq (Below W3.heap.size W3),x.to.cell? ⟨b2,3,none⟩=some (Xu g3):=fun x=>by rw[cell_of_block ((x.ok.block _ ap).trans q4)];rfl
 have hC:=fun x:Fq (Below W3.heap.size W3)=>Calls.keeps_below (HG.f x.to (B4.trans (x.ok.mono B4.size)));have hD:=fun x:Fq (Below W3.heap.size W3)=>Calls.keeps_below (HG.g x.to (B4.trans (x.ok.mono B4.size)));have ai:=kq3 B4 r4 q4;clear B4 r4 q4;refine iq (Below W3.heap.size W3) (by kernel_rfl) (by kernel_rfl) (aa _ _).drew (fun _=>?_)
 repeat (first | go_big_quiet_skip | (go_big_quiet_want;go_big_quiet_op;first | go_big_quiet_on | (apply Exists.intro;refine⟨fun x=>?_,?_⟩;(· first | with_reducible exact hC x | with_reducible exact hD x);go_big_quiet_on)))
 refine wpQuiet_nil ?_;rintro _ ⟨v,rfl⟩;clear hC hD a8 a9;have r5:=(v.ok.block b1 a').trans ai.b;have q5:=(v.ok.block b2 ap).trans ai.c;have B5:=ai.a.trans (v.ok.mono ai.a.size);have bb:=v.ok.size;obtain⟨w5,a1⟩:=Ii v.to;rw[a1] at r5 q5 B5 bb⊢;clear a1 v ai;have ar:=kq3 B5 r5 q5;clear r5 q5 B5;go_wp2_with fail;refine(HG.h _ _ (HG.d.below ar.a)).mono ?_;rintro e w6 ⟨rfl,h6,k6⟩;have H6:=kq2 h6 ((Fo.of_below ar.a HG.d.yl).trans k6);clear h6 k6;go_wp2_with fail;go_ret;exact⟨rfl,H6.out⟩):P:=h
theorem yO{S S':St}(h:Ig w ps S Y)(hi:Fv S)(hh:Nat)(hl:hh<2^64){a b:Nat}(ha:eE S (getNode S hh).1.left=some a)(hb:eE S (getNode S hh).1.right=some b){c d x:Nat}(h1:b+1<a)(h2:eE S (getNode S (getNode S hh).1.left).1.left=some c)(h3:eE S (getNode S (getNode S hh).1.left).1.right=some d)(h4:¬c<d)(h5:rightM S hh=some (x,S')):
 Ct 218 #[PV ps,Xu hh] w fun e w'=>e=.returned (Xu x)/\Ig w' ps S' Y/\Fo Y w w':=by
 have hg:=gR h hi hh hl;have hlt:=fs h hh;have a2:a<2^62:=by have:=num_some ha;omega
 have a3:b<2^62:=by have:=num_some hb;omega
 have hA:=fun W (hW:Below w.heap.size w W)=>fJ (h.below hW) hi (getNode S hh).1.left hlt.left ha;have hB:=fun W (hW:Below w.heap.size w W)=>fJ (h.below hW) hi (getNode S hh).1.right hlt.right hb;have an:=fs h (getNode S hh).1.left;have ad:=fun W (hW:Below w.heap.size w W)=>gR (h.below hW) hi (getNode S hh).1.left hlt.left;have a4:c<2^62:=by have:=num_some h2;omega
 have a5:d<2^62:=by have:=num_some h3;omega
 have hC:=fun W (hW:Below w.heap.size w W)=>fJ (h.below hW) hi (getNode S (getNode S hh).1.left).1.left an.left h2;have hD:=fun W (hW:Below w.heap.size w W)=>fJ (h.below hW) hi (getNode S (getNode S hh).1.left).1.right an.right h3;have hF:=fun W Z (hW:Ig W ps S Z)=>pS hW hi hh hl h5;obtain⟨⟨⟨k0,k1,k2,k3,k4,k5⟩,er⟩,hE⟩:∃r,getNode S hh=r:=⟨_,rfl⟩;rw[hE] at hg hA hB ad hC hD;simp only at hg hA hB ad hC hD;obtain⟨⟨⟨g0,g1,g2,g3,g4,g5⟩,bc⟩,au⟩:∃q,getNode S k2=q:=⟨_,rfl⟩;rw[au] at ad hC hD;simp only[gP] at hg ad hC hD;have d0:IntKind.i64.wrap ((a:Int)-b)=(a:Int)-b:=az _ (by omega);have d1:((1:Int)<(a:Int)-b)=True:=eq_true (by omega);have d3:((c:Int)<d)=False:=eq_false (by omega);have HG:=kq8 hg hA hB h ad hC hD hF;clear hg hA hB h ad hC hD hF hi hE hlt ha hb h1 h2 a2 a3 h3 h4 h5 an au a4 a5;go_enter func218,ntmps218;go_wp2_with fail;refine b8 HG.a fun w1 hb1=>?_;have q:=heap_alloc_new w1 (Xa k0 k1 k2 k3 k4 k5 hh);have B1:=hb1.alloc hb1.size (Xa k0 k1 k2 k3 k4 k5 hh);have bd:=hb1.size;clear hb1;go_wp2_with fail;generalize w1.alloc (Xa k0 k1 k2 k3 k4 k5 hh)=W at*;have ql:=(gl q);generalize w1.heap.size=b1 at*;have a6:∀x:Fq (Below W.heap.size W),x.to.cell? ⟨b1,2,none⟩=some (Xu k2):=fun x=>by rw[cell_of_block ((x.ok.block _ ql).trans q)];rfl
 have a7:∀x:Fq (Below W.heap.size W),x.to.cell? ⟨b1,3,none⟩=some (Xu k3):=fun x=>by rw[cell_of_block ((x.ok.block _ ql).trans q)];rfl
 have hA:=fun x:Fq (Below W.heap.size W)=>Calls.keeps_below (HG.b x.to (B1.trans (x.ok.mono B1.size)));have hB:=fun x:Fq (Below W.heap.size W)=>Calls.keeps_below (HG.c x.to (B1.trans (x.ok.mono B1.size)));have HB:=kq2 B1 q;clear B1 q;refine iq (Below W.heap.size W) (by kernel_rfl) (by kernel_rfl) (aa _ _).drew (fun _=>?_)
 repeat (first | go_big_quiet_skip | (go_big_quiet_want;go_big_quiet_op;first | go_big_quiet_on | (apply Exists.intro;refine⟨fun x=>?_,?_⟩;(· first | with_reducible exact hA x | with_reducible exact hB x);go_big_quiet_on)))
 refine wpQuiet_nil ?_;rintro _ ⟨v,rfl⟩;clear hA hB a6 a7;have r2:=(v.ok.block b1 ql).trans HB.b;have HX:=kq2 (HB.a.trans (v.ok.mono HB.a.size)) r2;have ba:=v.ok.size;obtain⟨w2,a0⟩:=Ii v.to;rw[a0] at HX r2 ba⊢;clear a0 v HB;obtain⟨c0,c1,c2,c3,c4,c5,c6⟩:=gG r2;clear r2;go_wp2_with fail;clear c0 c1 c2 c3 c4 c5 c6;refine b8 (HG.e _ HX.a) fun w3 hb3=>?_;have r3:=(hb3.block b1 (by omega)).trans HX.b;have B3:=HX.a.trans (hb3.mono HX.a.size);have q4:=heap_alloc_new w3 (Xa g0 g1 g2 g3 g4 g5 k2);have bf:=hb3.size;have r4:=(((aa w3.heap.size w3).alloc Ih (Xa g0 g1 g2 g3 g4 g5 k2)).block b1 (by omega)).trans r3;have B4:=B3.alloc B3.size (Xa g0 g1 g2 g3 g4 g5 k2);have bj:w.heap.size<=w3.heap.size:=B3.size;clear hb3 r3 B3;go_wp2_with fail;generalize w3.alloc (Xa g0 g1 g2 g3 g4 g5 k2)=W3 at*;exact qBhaa
theorem qBhab{P:Prop}(h:P:=by
 iterate 8
  refine' hC ?_ ?_;rotate_left
  ·intro x;go_simp
   try rfl
  simp only[pu]
 refine mo ?_;clear y0 y1 y2 y3 y4 y5 y6 z0 z1 z2 z3 z4 z5 z6;refine gF _ (by rfl) (by rfl) (fun K hK=>?_);go_simp;refine(HG.i _ _ (HZ.out.below (aa _ _).drew)).mono ?_;rintro e w6 ⟨rfl,h6,k6⟩;have u6:=(k6.block b1 (ae ⟨by omega,by omega⟩)).trans an.b;have v6:=(k6.block b2 (ae ⟨by omega,by omega⟩)).trans an.c;have H6:=kq4 h6 k6 u6 v6;clear h6 k6 u6 v6
 try go_simp
 refine hK.out _ _ (HI.out _ H6.c H6.d) ?_;clear hK K
 try simp only[pu]
 refine gF _ (by rfl) (by rfl) (fun K hK=>?_);go_simp;refine(HG.j _ _ H6.a).mono ?_;rintro e w7 ⟨rfl,h7,k7⟩;have u7:=(k7.block b1 (ae ⟨by omega,by omega⟩)).trans H6.c;have v7:=(k7.block b2 (ae ⟨by omega,by omega⟩)).trans H6.d;have H7:=kq4 h7 (H6.b.trans k7) u7 v7;clear h7 k7 u7 v7
 try go_simp
 refine hK.out _ _ (HI.out _ H7.c H7.d) ?_;clear hK K
 try simp only[pu]
 refine yW ?_;go_wp2_with fail;refine(HG.h _ _ H7.a).mono ?_;rintro e w8 ⟨rfl,h8,k8⟩;have H8:=kq2 h8 (H7.b.trans k8);clear h8 k8;go_wp2_with fail;go_ret;exact⟨rfl,H8.a.mono fun k hk=>ab hk,(Fo.of_below an.a.drew HG.d.yl).trans (H8.b.mono fun k hk=>ab hk)⟩):P:=h
theorem yP{S S':St}(h:Ig w ps S Y)(hi:Fv S)(hh:Nat)(hl:hh<2^64){a b:Nat}(ha:eE S (getNode S hh).1.left=some a)(hb:eE S (getNode S hh).1.right=some b){c d x y:Nat}{S1 S2:St}(h1:b+1<a)(h2:eE S (getNode S (getNode S hh).1.left).1.left=some c)(h3:eE S (getNode S (getNode S hh).1.left).1.right=some d)(h4:c<d)(h5:leftM S (getNode S hh).1.left=some (y,S1))(h6:fu S1 (getNode S hh).1 hh y (getNode S hh).1.right=some S2)(h7:rightM S2 hh=some (x,S')):
 Ct 218 #[PV ps,Xu hh] w fun e w'=>e=.returned (Xu x)/\Ig w' ps S' Y/\Fo Y w w':=by
 have hg:=gR h hi hh hl;have hlt:=fs h hh;have a':a<2^62:=by have:=num_some ha;omega
 have ba:b<2^62:=by have:=num_some hb;omega
 have hA:=fun W (hW:Below w.heap.size w W)=>fJ (h.below hW) hi (getNode S hh).1.left hlt.left ha;have hB:=fun W (hW:Below w.heap.size w W)=>fJ (h.below hW) hi (getNode S hh).1.right hlt.right hb;have a0:=fs h (getNode S hh).1.left;have ad:=fun W (hW:Below w.heap.size w W)=>gR (h.below hW) hi (getNode S hh).1.left hlt.left;have bb:c<2^62:=by have:=num_some h2;omega
 have bc:d<2^62:=by have:=num_some h3;omega
 have hC:=fun W (hW:Below w.heap.size w W)=>fJ (h.below hW) hi (getNode S (getNode S hh).1.left).1.left a0.left h2;have hD:=fun W (hW:Below w.heap.size w W)=>fJ (h.below hW) hi (getNode S (getNode S hh).1.left).1.right a0.right h3;have au:=ow hi h5;have a3:=gX au h6;have a7:=Cj h h5;have hM:=fun W Z (hW:Ig W ps S Z)=>pR hW hi (getNode S hh).1.left hlt.left h5;have hN:=fun W Z (hW:Ig W ps S1 Z)=>jG hW au (getNode S hh).1 hlt hh y (getNode S hh).1.right hl a7 hlt.right h6;have hF:=fun W Z (hW:Ig W ps S2 Z)=>pS hW a3 hh hl h7;obtain⟨⟨⟨k0,k1,k2,k3,k4,k5⟩,er⟩,hE⟩:∃r,getNode S hh=r:=⟨_,rfl⟩;rw[hE] at hg hA hB ad hC hD hM hN;simp only at hg hA hB ad hC hD hM hN;obtain⟨⟨⟨g0,g1,g2,g3,g4,g5⟩,bs⟩,a2⟩:∃q,getNode S k2=q:=⟨_,rfl⟩;rw[a2] at ad hC hD;simp only[gP] at hg ad hC hD hN;have d0:IntKind.i64.wrap ((a:Int)-b)=(a:Int)-b:=az _ (by omega);have d1:((1:Int)<(a:Int)-b)=True:=eq_true (by omega);have d3:((c:Int)<d)=True:=eq_true (by omega);have HG:=kq10 hg hA hB h ad hC hD hF hM hN;clear hg hA hB h ad hC hD hF hM hN hi hE hlt ha hb h1 h2 a' ba h3 h4 h5 h6 h7 a0 a2 bb bc au a3 a7;go_enter func218,ntmps218;go_wp2_with fail;refine b8 HG.a fun w1 hb1=>?_;have q:=heap_alloc_new w1 (Xa k0 k1 k2 k3 k4 k5 hh);have B1:=hb1.alloc hb1.size (Xa k0 k1 k2 k3 k4 k5 hh);have bt:=hb1.size;clear hb1;go_wp2_with fail;generalize w1.alloc (Xa k0 k1 k2 k3 k4 k5 hh)=W at*;have ql:=(gl q);generalize w1.heap.size=b1 at*;have bd:∀x:Fq (Below W.heap.size W),x.to.cell? ⟨b1,2,none⟩=some (Xu k2):=fun x=>by rw[cell_of_block ((x.ok.block _ ql).trans q)];rfl
 have bf:∀x:Fq (Below W.heap.size W),x.to.cell? ⟨b1,3,none⟩=some (Xu k3):=fun x=>by rw[cell_of_block ((x.ok.block _ ql).trans q)];rfl
 have hA:=fun x:Fq (Below W.heap.size W)=>Calls.keeps_below (HG.b x.to (B1.trans (x.ok.mono B1.size)));have hB:=fun x:Fq (Below W.heap.size W)=>Calls.keeps_below (HG.c x.to (B1.trans (x.ok.mono B1.size)));have HB:=kq2 B1 q;clear B1 q;refine iq (Below W.heap.size W) (by kernel_rfl) (by kernel_rfl) (aa _ _).drew (fun _=>?_)
 repeat (first | go_big_quiet_skip | (go_big_quiet_want;go_big_quiet_op;first | go_big_quiet_on | (apply Exists.intro;refine⟨fun x=>?_,?_⟩;(· first | with_reducible exact hA x | with_reducible exact hB x);go_big_quiet_on)))
 refine wpQuiet_nil ?_;rintro _ ⟨v,rfl⟩;clear hA hB bd bf;have r2:=(v.ok.block b1 ql).trans HB.b;have HX:=kq2 (HB.a.trans (v.ok.mono HB.a.size)) r2;have bo:=v.ok.size;obtain⟨w2,a4⟩:=Ii v.to;rw[a4] at HX r2 bo⊢;clear a4 v HB;obtain⟨c0,c1,c2,c3,c4,c5,c6⟩:=gG r2;clear r2;go_wp2_with fail;clear c0 c1 c2 c3 c4 c5 c6;refine b8 (HG.e _ HX.a) fun w3 hb3=>?_;have r3:=(hb3.block b1 (by omega)).trans HX.b;have B3:=HX.a.trans (hb3.mono HX.a.size);have q4:=heap_alloc_new w3 (Xa g0 g1 g2 g3 g4 g5 k2);have bu:=hb3.size;have r4:=(((aa w3.heap.size w3).alloc Ih (Xa g0 g1 g2 g3 g4 g5 k2)).block b1 (by omega)).trans r3;have B4:=B3.alloc B3.size (Xa g0 g1 g2 g3 g4 g5 k2);have bv:w.heap.size<=w3.heap.size:=B3.size;clear hb3 r3 B3;go_wp2_with fail;generalize w3.alloc (Xa g0 g1 g2 g3 g4 g5 k2)=W3 at*;generalize w3.heap.size=b2 at*;have bm:=(gl r4);have a1:=(gl q4);have bj:∀x:Fq (Below W3.heap.size W3),x.to.cell? ⟨b2,2,none⟩=some (Xu g2):=fun x=>by rw[cell_of_block ((x.ok.block _ a1).trans q4)];rfl
 have bk:∀x:Fq (Below W3.heap.size W3),x.to.cell? ⟨b2,3,none⟩=some (Xu g3):=fun x=>by rw[cell_of_block ((x.ok.block _ a1).trans q4)];rfl
 have hC:=fun x:Fq (Below W3.heap.size W3)=>Calls.keeps_below (HG.f x.to (B4.trans (x.ok.mono B4.size)));have hD:=fun x:Fq (Below W3.heap.size W3)=>Calls.keeps_below (HG.g x.to (B4.trans (x.ok.mono B4.size)));have ai:=kq3 B4 r4 q4;clear B4 r4 q4;refine iq (Below W3.heap.size W3) (by kernel_rfl) (by kernel_rfl) (aa _ _).drew (fun _=>?_)
 repeat (first | go_big_quiet_skip | (go_big_quiet_want;go_big_quiet_op;first | go_big_quiet_on | (apply Exists.intro;refine⟨fun x=>?_,?_⟩;(· first | with_reducible exact hC x | with_reducible exact hD x);go_big_quiet_on)))
 refine wpQuiet_nil ?_;rintro _ ⟨v,rfl⟩;clear hC hD bj bk;have r5:=(v.ok.block b1 bm).trans ai.b;have q5:=(v.ok.block b2 a1).trans ai.c;have B5:=ai.a.trans (v.ok.mono ai.a.size);have bq:=v.ok.size;obtain⟨w5,a5⟩:=Ii v.to;rw[a5] at r5 q5 B5 bq⊢;clear a5 v ai;have an:=kq3 B5 r5 q5;have HZ:=If (HG.d.wide B5);clear B5;go_wp2_with fail;obtain⟨I,ap,ar⟩:∃I:World->Prop,(∀w',I w'->w'.heap[b1]?=some (.cells #[Xu k0,Xu k1,Xu k2,Xu k3,Xu k4,Xu k5,Xu hh] 280 (0,0))/\w'.heap[b2]?=some (.cells #[Xu g0,Xu g1,Xu g2,Xu g3,Xu g4,Xu g5,Xu k2] 280 (0,0)))/\(∀w',w'.heap[b1]?=some (.cells #[Xu k0,Xu k1,Xu k2,Xu k3,Xu k4,Xu k5,Xu hh] 280 (0,0))->w'.heap[b2]?=some (.cells #[Xu g0,Xu g1,Xu g2,Xu g3,Xu g4,Xu g5,Xu k2] 280 (0,0))->I w'):=⟨fun w'=>w'.heap[b1]?=some (.cells #[Xu k0,Xu k1,Xu k2,Xu k3,Xu k4,Xu k5,Xu hh] 280 (0,0))/\w'.heap[b2]?=some (.cells #[Xu g0,Xu g1,Xu g2,Xu g3,Xu g4,Xu g5,Xu k2] 280 (0,0)),fun _ h=>h,fun _ a b=>⟨a,b⟩⟩;have a6:=fun x:Fq I=>(ap _ x.ok).1;have a8:=fun x:Fq I=>(ap _ x.ok).2;obtain⟨y0,y1,y2,y3,y4,y5,y6⟩:=iZ a6;obtain⟨z0,z1,z2,z3,z4,z5,z6⟩:=iZ a8;have HI:=If ar;have a9:I w5.drew:=ar _ r5 q5;clear a6 a8 q5 r5 ap ar;refine Jz I [0,1,2,3,4,6,7,8] [5,9] (by kernel_rfl) (by kernel_rfl) a9 ?_;exact qBhab
theorem yS{S S':St}(h:Ig w ps S Y)(hi:Fv S)(hh:Nat)(hl:hh<2^64){a b:Nat}(ha:eE S (getNode S hh).1.left=some a)(hb:eE S (getNode S hh).1.right=some b){c d x:Nat}(h1:a+1<b)(h2:eE S (getNode S (getNode S hh).1.right).1.left=some c)(h3:eE S (getNode S (getNode S hh).1.right).1.right=some d)(h4:¬d<c)(h5:leftM S hh=some (x,S')):
 Ct 218 #[PV ps,Xu hh] w fun e w'=>e=.returned (Xu x)/\Ig w' ps S' Y/\Fo Y w w':=by
 have hg:=gR h hi hh hl;have hlt:=fs h hh;have a2:a<2^62:=by have:=num_some ha;omega
 have a3:b<2^62:=by have:=num_some hb;omega
 have hA:=fun W (hW:Below w.heap.size w W)=>fJ (h.below hW) hi (getNode S hh).1.left hlt.left ha;have hB:=fun W (hW:Below w.heap.size w W)=>fJ (h.below hW) hi (getNode S hh).1.right hlt.right hb;have an:=fs h (getNode S hh).1.right;have ad:=fun W (hW:Below w.heap.size w W)=>gR (h.below hW) hi (getNode S hh).1.right hlt.right;have a4:c<2^62:=by have:=num_some h2;omega
 have a5:d<2^62:=by have:=num_some h3;omega
 have hC:=fun W (hW:Below w.heap.size w W)=>fJ (h.below hW) hi (getNode S (getNode S hh).1.right).1.left an.left h2;have hD:=fun W (hW:Below w.heap.size w W)=>fJ (h.below hW) hi (getNode S (getNode S hh).1.right).1.right an.right h3;have hF:=fun W Z (hW:Ig W ps S Z)=>pR hW hi hh hl h5;obtain⟨⟨⟨k0,k1,k2,k3,k4,k5⟩,er⟩,hE⟩:∃r,getNode S hh=r:=⟨_,rfl⟩;rw[hE] at hg hA hB ad hC hD;simp only at hg hA hB ad hC hD;obtain⟨⟨⟨g0,g1,g2,g3,g4,g5⟩,bc⟩,au⟩:∃q,getNode S k3=q:=⟨_,rfl⟩;rw[au] at ad hC hD;simp only[gP] at hg ad hC hD;have d0:IntKind.i64.wrap ((a:Int)-b)=(a:Int)-b:=az _ (by omega);have d1:((1:Int)<(a:Int)-b)=False:=eq_false (by omega);have d2:((a:Int)-b< -1)=True:=eq_true (by omega);have d3:((d:Int)<c)=False:=eq_false (by omega);have HG:=kq8 hg hA hB h ad hC hD hF;clear hg hA hB h ad hC hD hF hi hE hlt ha hb h1 h2 a2 a3 h3 h4 h5 an au a4 a5;go_enter func218,ntmps218;go_wp2_with fail;refine b8 HG.a fun w1 hb1=>?_;have q:=heap_alloc_new w1 (Xa k0 k1 k2 k3 k4 k5 hh);have B1:=hb1.alloc hb1.size (Xa k0 k1 k2 k3 k4 k5 hh);have bd:=hb1.size;clear hb1;go_wp2_with fail;generalize w1.alloc (Xa k0 k1 k2 k3 k4 k5 hh)=W at*;have ql:=(gl q);generalize w1.heap.size=b1 at*;have a6:∀x:Fq (Below W.heap.size W),x.to.cell? ⟨b1,2,none⟩=some (Xu k2):=fun x=>by rw[cell_of_block ((x.ok.block _ ql).trans q)];rfl
 have a7:∀x:Fq (Below W.heap.size W),x.to.cell? ⟨b1,3,none⟩=some (Xu k3):=fun x=>by rw[cell_of_block ((x.ok.block _ ql).trans q)];rfl
 have hA:=fun x:Fq (Below W.heap.size W)=>Calls.keeps_below (HG.b x.to (B1.trans (x.ok.mono B1.size)));have hB:=fun x:Fq (Below W.heap.size W)=>Calls.keeps_below (HG.c x.to (B1.trans (x.ok.mono B1.size)));have HB:=kq2 B1 q;clear B1 q;refine iq (Below W.heap.size W) (by kernel_rfl) (by kernel_rfl) (aa _ _).drew (fun _=>?_)
 repeat (first | go_big_quiet_skip | (go_big_quiet_want;go_big_quiet_op;first | go_big_quiet_on | (apply Exists.intro;refine⟨fun x=>?_,?_⟩;(· first | with_reducible exact hA x | with_reducible exact hB x);go_big_quiet_on)))
 refine wpQuiet_nil ?_;rintro _ ⟨v,rfl⟩;clear hA hB a6 a7;have r2:=(v.ok.block b1 ql).trans HB.b;have HX:=kq2 (HB.a.trans (v.ok.mono HB.a.size)) r2;have ba:=v.ok.size;obtain⟨w2,a0⟩:=Ii v.to;rw[a0] at HX r2 ba⊢;clear a0 v HB;obtain⟨c0,c1,c2,c3,c4,c5,c6⟩:=gG r2;clear r2;go_wp2_with fail;clear c0 c1 c2 c3 c4 c5 c6;refine b8 (HG.e _ HX.a) fun w3 hb3=>?_;have r3:=(hb3.block b1 (by omega)).trans HX.b;have B3:=HX.a.trans (hb3.mono HX.a.size);have q4:=heap_alloc_new w3 (Xa g0 g1 g2 g3 g4 g5 k3);have bf:=hb3.size;have r4:=(((aa w3.heap.size w3).alloc Ih (Xa g0 g1 g2 g3 g4 g5 k3)).block b1 (by omega)).trans r3;have B4:=B3.alloc B3.size (Xa g0 g1 g2 g3 g4 g5 k3);have bj:w.heap.size<=w3.heap.size:=B3.size;clear hb3 r3 B3;go_wp2_with fail;generalize w3.alloc (Xa g0 g1 g2 g3 g4 g5 k3)=W3 at*;exact qBhaa
theorem yR{S S':St}(h:Ig w ps S Y)(hi:Fv S)(hh:Nat)(hl:hh<2^64){a b:Nat}(ha:eE S (getNode S hh).1.left=some a)(hb:eE S (getNode S hh).1.right=some b){c d x y:Nat}{S1 S2:St}(h1:a+1<b)(h2:eE S (getNode S (getNode S hh).1.right).1.left=some c)(h3:eE S (getNode S (getNode S hh).1.right).1.right=some d)(h4:d<c)(h5:rightM S (getNode S hh).1.right=some (y,S1))(h6:fu S1 (getNode S hh).1 hh (getNode S hh).1.left y=some S2)(h7:leftM S2 hh=some (x,S')):
 Ct 218 #[PV ps,Xu hh] w fun e w'=>e=.returned (Xu x)/\Ig w' ps S' Y/\Fo Y w w':=by
 have hg:=gR h hi hh hl;have hlt:=fs h hh;have a':a<2^62:=by have:=num_some ha;omega
 have ba:b<2^62:=by have:=num_some hb;omega
 have hA:=fun W (hW:Below w.heap.size w W)=>fJ (h.below hW) hi (getNode S hh).1.left hlt.left ha;have hB:=fun W (hW:Below w.heap.size w W)=>fJ (h.below hW) hi (getNode S hh).1.right hlt.right hb;have a0:=fs h (getNode S hh).1.right;have ad:=fun W (hW:Below w.heap.size w W)=>gR (h.below hW) hi (getNode S hh).1.right hlt.right;have bb:c<2^62:=by have:=num_some h2;omega
 have bc:d<2^62:=by have:=num_some h3;omega
 have hC:=fun W (hW:Below w.heap.size w W)=>fJ (h.below hW) hi (getNode S (getNode S hh).1.right).1.left a0.left h2;have hD:=fun W (hW:Below w.heap.size w W)=>fJ (h.below hW) hi (getNode S (getNode S hh).1.right).1.right a0.right h3;have au:=oT hi h5;have a3:=gX au h6;have a7:=D9 h h5;have hM:=fun W Z (hW:Ig W ps S Z)=>pS hW hi (getNode S hh).1.right hlt.right h5;have hN:=fun W Z (hW:Ig W ps S1 Z)=>jG hW au (getNode S hh).1 hlt hh (getNode S hh).1.left y hl hlt.left a7 h6;have hF:=fun W Z (hW:Ig W ps S2 Z)=>pR hW a3 hh hl h7;obtain⟨⟨⟨k0,k1,k2,k3,k4,k5⟩,er⟩,hE⟩:∃r,getNode S hh=r:=⟨_,rfl⟩;rw[hE] at hg hA hB ad hC hD hM hN;simp only at hg hA hB ad hC hD hM hN;obtain⟨⟨⟨g0,g1,g2,g3,g4,g5⟩,bs⟩,a2⟩:∃q,getNode S k3=q:=⟨_,rfl⟩;rw[a2] at ad hC hD;simp only[gP] at hg ad hC hD hN;have d0:IntKind.i64.wrap ((a:Int)-b)=(a:Int)-b:=az _ (by omega);have d1:((1:Int)<(a:Int)-b)=False:=eq_false (by omega);have d2:((a:Int)-b< -1)=True:=eq_true (by omega);have d3:((d:Int)<c)=True:=eq_true (by omega);have HG:=kq10 hg hA hB h ad hC hD hF hM hN;clear hg hA hB h ad hC hD hF hM hN hi hE hlt ha hb h1 h2 a' ba h3 h4 h5 h6 h7 a0 a2 bb bc au a3 a7;go_enter func218,ntmps218;go_wp2_with fail;refine b8 HG.a fun w1 hb1=>?_;have q:=heap_alloc_new w1 (Xa k0 k1 k2 k3 k4 k5 hh);have B1:=hb1.alloc hb1.size (Xa k0 k1 k2 k3 k4 k5 hh);have bt:=hb1.size;clear hb1;go_wp2_with fail;generalize w1.alloc (Xa k0 k1 k2 k3 k4 k5 hh)=W at*;have ql:=(gl q);generalize w1.heap.size=b1 at*;have bd:∀x:Fq (Below W.heap.size W),x.to.cell? ⟨b1,2,none⟩=some (Xu k2):=fun x=>by rw[cell_of_block ((x.ok.block _ ql).trans q)];rfl
 have bf:∀x:Fq (Below W.heap.size W),x.to.cell? ⟨b1,3,none⟩=some (Xu k3):=fun x=>by rw[cell_of_block ((x.ok.block _ ql).trans q)];rfl
 have hA:=fun x:Fq (Below W.heap.size W)=>Calls.keeps_below (HG.b x.to (B1.trans (x.ok.mono B1.size)));have hB:=fun x:Fq (Below W.heap.size W)=>Calls.keeps_below (HG.c x.to (B1.trans (x.ok.mono B1.size)));have HB:=kq2 B1 q;clear B1 q;refine iq (Below W.heap.size W) (by kernel_rfl) (by kernel_rfl) (aa _ _).drew (fun _=>?_)
 repeat (first | go_big_quiet_skip | (go_big_quiet_want;go_big_quiet_op;first | go_big_quiet_on | (apply Exists.intro;refine⟨fun x=>?_,?_⟩;(· first | with_reducible exact hA x | with_reducible exact hB x);go_big_quiet_on)))
 refine wpQuiet_nil ?_;rintro _ ⟨v,rfl⟩;clear hA hB bd bf;have r2:=(v.ok.block b1 ql).trans HB.b;have HX:=kq2 (HB.a.trans (v.ok.mono HB.a.size)) r2;have bo:=v.ok.size;obtain⟨w2,a4⟩:=Ii v.to;rw[a4] at HX r2 bo⊢;clear a4 v HB;obtain⟨c0,c1,c2,c3,c4,c5,c6⟩:=gG r2;clear r2;go_wp2_with fail;clear c0 c1 c2 c3 c4 c5 c6;refine b8 (HG.e _ HX.a) fun w3 hb3=>?_;have r3:=(hb3.block b1 (by omega)).trans HX.b;have B3:=HX.a.trans (hb3.mono HX.a.size);have q4:=heap_alloc_new w3 (Xa g0 g1 g2 g3 g4 g5 k3);have bu:=hb3.size;have r4:=(((aa w3.heap.size w3).alloc Ih (Xa g0 g1 g2 g3 g4 g5 k3)).block b1 (by omega)).trans r3;have B4:=B3.alloc B3.size (Xa g0 g1 g2 g3 g4 g5 k3);have bv:w.heap.size<=w3.heap.size:=B3.size;clear hb3 r3 B3;go_wp2_with fail;generalize w3.alloc (Xa g0 g1 g2 g3 g4 g5 k3)=W3 at*;generalize w3.heap.size=b2 at*;have bm:=(gl r4);have a1:=(gl q4);have bj:∀x:Fq (Below W3.heap.size W3),x.to.cell? ⟨b2,2,none⟩=some (Xu g2):=fun x=>by rw[cell_of_block ((x.ok.block _ a1).trans q4)];rfl
 have bk:∀x:Fq (Below W3.heap.size W3),x.to.cell? ⟨b2,3,none⟩=some (Xu g3):=fun x=>by rw[cell_of_block ((x.ok.block _ a1).trans q4)];rfl
 have hC:=fun x:Fq (Below W3.heap.size W3)=>Calls.keeps_below (HG.f x.to (B4.trans (x.ok.mono B4.size)));have hD:=fun x:Fq (Below W3.heap.size W3)=>Calls.keeps_below (HG.g x.to (B4.trans (x.ok.mono B4.size)));have ai:=kq3 B4 r4 q4;clear B4 r4 q4;refine iq (Below W3.heap.size W3) (by kernel_rfl) (by kernel_rfl) (aa _ _).drew (fun _=>?_)
 repeat (first | go_big_quiet_skip | (go_big_quiet_want;go_big_quiet_op;first | go_big_quiet_on | (apply Exists.intro;refine⟨fun x=>?_,?_⟩;(· first | with_reducible exact hC x | with_reducible exact hD x);go_big_quiet_on)))
 refine wpQuiet_nil ?_;rintro _ ⟨v,rfl⟩;clear hC hD bj bk;have r5:=(v.ok.block b1 bm).trans ai.b;have q5:=(v.ok.block b2 a1).trans ai.c;have B5:=ai.a.trans (v.ok.mono ai.a.size);have bq:=v.ok.size;obtain⟨w5,a5⟩:=Ii v.to;rw[a5] at r5 q5 B5 bq⊢;clear a5 v ai;have an:=kq3 B5 r5 q5;have HZ:=If (HG.d.wide B5);clear B5;go_wp2_with fail;obtain⟨I,ap,ar⟩:∃I:World->Prop,(∀w',I w'->w'.heap[b1]?=some (.cells #[Xu k0,Xu k1,Xu k2,Xu k3,Xu k4,Xu k5,Xu hh] 280 (0,0))/\w'.heap[b2]?=some (.cells #[Xu g0,Xu g1,Xu g2,Xu g3,Xu g4,Xu g5,Xu k3] 280 (0,0)))/\(∀w',w'.heap[b1]?=some (.cells #[Xu k0,Xu k1,Xu k2,Xu k3,Xu k4,Xu k5,Xu hh] 280 (0,0))->w'.heap[b2]?=some (.cells #[Xu g0,Xu g1,Xu g2,Xu g3,Xu g4,Xu g5,Xu k3] 280 (0,0))->I w'):=⟨fun w'=>w'.heap[b1]?=some (.cells #[Xu k0,Xu k1,Xu k2,Xu k3,Xu k4,Xu k5,Xu hh] 280 (0,0))/\w'.heap[b2]?=some (.cells #[Xu g0,Xu g1,Xu g2,Xu g3,Xu g4,Xu g5,Xu k3] 280 (0,0)),fun _ h=>h,fun _ a b=>⟨a,b⟩⟩;have a6:=fun x:Fq I=>(ap _ x.ok).1;have a8:=fun x:Fq I=>(ap _ x.ok).2;obtain⟨y0,y1,y2,y3,y4,y5,y6⟩:=iZ a6;obtain⟨z0,z1,z2,z3,z4,z5,z6⟩:=iZ a8;have HI:=If ar;have a9:I w5.drew:=ar _ r5 q5;clear a6 a8 q5 r5 ap ar;refine Jz I [0,1,2,3,4,5,6,7] [8,9] (by kernel_rfl) (by kernel_rfl) a9 ?_;exact qBhab
theorem tH{S S':St}{hh x:Nat}(hi:Fv S)(h:balM S hh=some (x,S')):Fv S':=by
 obtain⟨a,b,-,-,D⟩:=tI h
 cases D with
 | none _ _ _ h4=>rw[h4];exact hi
 | ll c d _ _ _ _ h5=>exact oT hi h5
 | lr c d y S1 S2 _ _ _ _ h5 h6 h7=>exact oT (gX (ow hi h5) h6) h7
 | rr c d _ _ _ _ _ h5=>exact ow hi h5
 | rl c d y S1 S2 _ _ _ _ _ h5 h6 h7=>exact ow (gX (oT hi h5) h6) h7
theorem tG{S S':St}(h:Ig w ps S Y)(hi:Fv S)(hh:Nat)(hl:hh<2^64)(hR:balM S hh=some (x,S')):
 Ct 218 #[PV ps,Xu hh] w fun e w'=>e=.returned (Xu x)/\Ig w' ps S' Y/\Fo Y w w':=by
 obtain⟨a,b,ha,hb,D⟩:=tI hR
 cases D with
 | none h1 h2 h3 h4=>subst h3 h4;exact yQ h hi x hl ha hb h1 h2
 | ll c d h1 h2 h3 h4 h5=>exact yO h hi hh hl ha hb h1 h2 h3 h4 h5
 | lr c d y S1 S2 h1 h2 h3 h4 h5 h6 h7=>exact yP h hi hh hl ha hb h1 h2 h3 h4 h5 h6 h7
 | rr c d _ h1 h2 h3 h4 h5=>exact yS h hi hh hl ha hb h1 h2 h3 h4 h5
 | rl c d y S1 S2 _ h1 h2 h3 h4 h5 h6 h7=>exact yR h hi hh hl ha hb h1 h2 h3 h4 h5 h6 h7
theorem lT(n:Nd){m:Nat}:∀(f:Nat) {S S':St} {l r x:Nat},Fv S->joinB n m f S l r=some (x,S')->Fv S'/\(m<2^64->x<2^64)
 | 0,S,S',l,r,x,hi,hj=>by
  rw[qY] at hj;obtain⟨S1,h1,h2⟩:=aD.1 hj;injection h2 with e1 e2
  subst e1 e2;exact⟨gX hi h1,id⟩
 | f+1,S,S',l,r,x,hi,hj=>by
  rw[qX] at hj;split at hj
  ·split at hj
   ·split at hj
    ·cases hj
    ·rename_i x1 S1 h1;split at hj
     ·cases hj
     ·rename_i S2 h2;obtain⟨hb,hx⟩:=lM hj;exact⟨tH (gX (lT n f hi h1).1 h2) hb,fun _=>hx⟩
   ·split at hj
    ·split at hj
     ·cases hj
     ·rename_i x1 S1 h1;split at hj
      ·cases hj
      ·rename_i S2 h2;obtain⟨hb,hx⟩:=lM hj;exact⟨tH (gX (lT n f hi h1).1 h2) hb,fun _=>hx⟩
    ·obtain⟨S1,h1,h2⟩:=aD.1 hj;injection h2 with e1 e2
     subst e1 e2;exact⟨gX hi h1,id⟩
  ·cases hj
theorem yU(n:Nd)(hn:ji n)(m:Nat)(hm:m<2^64):∀(f d:Nat),d+f=100->∀{w:World} {S S':St} {Y:Nat->Prop} {l r x:Nat},Ig w ps S Y->Fv S->l<2^64->r<2^64->
 joinB n m f S l r=some (x,S')->
 Ct 185 #[PV ps,Xu l,Xu r,gP n m,Xi d] w fun e w'=>e=.returned (Xu x)/\Ig w' ps S' Y/\Fo Y w w':=by
 intro f;induction f with
 | zero=>
  intro d hd w S S' Y l r x h hi hl hr hj;obtain rfl:d=100:=by omega
  rw[qY] at hj;obtain⟨S1,h1,h2⟩:=aD.1 hj;injection h2 with e1 e2
  subst e1 e2;obtain⟨a,b,-,-,ha,hb,-,-,-⟩:=Ht h1;have hA:=fun W (hW:Below w.heap.size w W)=>fJ (h.below hW) hi l hl ha;have hB:=fun W (hW:Below w.heap.size w W)=>fJ (h.below hW) hi r hr hb;have hW:=fun W Z (hW:Ig W ps S Z)=>jG hW hi n hn m l r hm hl hr h1;obtain⟨k0,k1,k2,k3,k4,k5⟩:=n;simp only[gP] at hW⊢;have q0:=heap_alloc_new w (Xa k0 k1 k2 k3 k4 k5 m);have B0:=(aa w.heap.size w).alloc Ih (Xa k0 k1 k2 k3 k4 k5 m);have HG:=kq6 hA hB hW h q0 B0;clear hA hB hW h hi hj h1 ha hb q0 B0 hd hn;go_enter func185,ntmps185;go_wp2_with fail;refine b8 (HG.a _ HG.f) fun w1 hb1=>?_;have H1:=kq2 (HG.f.trans (hb1.mono HG.f.size)) ((hb1.block w.heap.size (by simp)).trans HG.e);clear hb1;go_wp2_with fail;refine b8 (HG.b _ H1.a) fun w2 hb2=>?_;have r2:=(hb2.block w.heap.size (gl H1.b)).trans H1.b;obtain⟨c0,c1,c2,c3,c4,c5,c6⟩:=gG r2;have H2:=If (H1.a.trans (hb2.mono H1.a.size));clear hb2 r2;go_wp2_with fail;refine(HG.c _ _ (HG.d.below H2.out)).mono ?_;rintro e w3 ⟨rfl,h3,a8⟩;have H3:=kq2 h3 ((Fo.of_below H2.out HG.d.yl).trans a8);clear h3 a8;go_wp2_with fail;go_ret;exact⟨rfl,H3.out⟩
 | succ f ih=>
  intro d hd w S S' Y l r x h hi hl hr hj;rw[qX] at hj;split at hj
  case h_2=>cases hj
  rename_i a b ha hb;have bd:a<2^62:=by have:=num_some ha;omega
  have bf:b<2^62:=by have:=num_some hb;omega
  have hA:=fun W (hW:Below w.heap.size w W)=>fJ (h.below hW) hi l hl ha;have hB:=fun W (hW:Below w.heap.size w W)=>fJ (h.below hW) hi r hr hb;have bj:((d:Int)==100)=false:=by simp;omega
  split at hj
  ·rename_i hba;have ba:((b:Int)+1<a)=True:=eq_true (by omega);split at hj
   ·cases hj
   rename_i x1 S1 hj1;split at hj
   ·cases hj
   rename_i S2 hj2;obtain⟨hj,a'⟩:=lM hj;obtain⟨a1,ai⟩:=lT n f hi hj1;have ai:=ai hm;have a4:=gX a1 hj2;have ad:=fs h l;have hg:=fun W (hW:Below w.heap.size w W)=>gR (h.below hW) hi l hl;have cr:=fun W Z (hW:Ig W ps S Z)=>ih (d+1) (by omega) hW hi ad.right hr hj1;have cw:=fun W Z (hW:Ig W ps S1 Z)=>jG hW a1 (getNode S l).1 ad l (getNode S l).1.left x1 hl ad.left ai hj2;have cb:=fun W Z (hW:Ig W ps S2 Z)=>tG hW a4 _ hl hj;obtain⟨⟨⟨g0,g1,g2,g3,g4,g5⟩,er⟩,hE⟩:∃r,getNode S l=r:=⟨_,rfl⟩;rw[hE] at hg cr cw;obtain⟨k0,k1,k2,k3,k4,k5⟩:=n;simp only[gP] at hg cr cw⊢;have bb:IntKind.i64.wrap ((d:Int)+1)=(d:Int)+1:=az _ (by omega);have q0:=heap_alloc_new w (Xa k0 k1 k2 k3 k4 k5 m);have B0:=(aa w.heap.size w).alloc Ih (Xa k0 k1 k2 k3 k4 k5 m);have HG:=kq9 hA hB hg h q0 B0 cr cw cb;clear hA hB hg cr cw cb h hi a1 a4 hj hj1 hj2 ha hb q0 B0 ih hn ad a' ai hE;go_enter func185,ntmps185;go_wp2_with fail;refine b8 (HG.a _ HG.f) fun w1 hb1=>?_;have H1:=kq2 (HG.f.trans (hb1.mono HG.f.size)) ((hb1.block w.heap.size (by simp)).trans HG.e);clear hb1;go_wp2_with fail;refine b8 (HG.b _ H1.a) fun w2 hb2=>?_;have H2:=kq2 (H1.a.trans (hb2.mono H1.a.size)) ((hb2.block w.heap.size (gl H1.b)).trans H1.b);clear hb2;go_wp2_with fail;refine b8 (HG.c _ H2.a) fun w3 hb3=>?_;have r3:=(hb3.block w.heap.size (gl H2.b)).trans H2.b;have B3:=H2.a.trans (hb3.mono H2.a.size);have q4:=heap_alloc_new w3 (Xa g0 g1 g2 g3 g4 g5 l);have r4:=(((aa w3.heap.size w3).alloc Ih (Xa g0 g1 g2 g3 g4 g5 l)).block w.heap.size (gl r3)).trans r3;have B4:=B3.alloc B3.size (Xa g0 g1 g2 g3 g4 g5 l);clear hb3 r3;have a5:=B3.size;go_wp2_with fail;generalize w3.alloc (Xa g0 g1 g2 g3 g4 g5 l)=W at*;generalize w3.heap.size=b13 at*;have a3:=(gl r4);have a2:=(gl q4);have zw:=HG.d.wide B4;have HZ:=kq5 zw r4 q4 B4 a5;obtain⟨I,au,a0⟩:∃I:World->Prop,(∀w',I w'->w'.heap[w.heap.size]?=some (Xa k0 k1 k2 k3 k4 k5 m)/\w'.heap[b13]?=some (Xa g0 g1 g2 g3 g4 g5 l))/\(∀w',w'.heap[w.heap.size]?=some (Xa k0 k1 k2 k3 k4 k5 m)->w'.heap[b13]?=some (Xa g0 g1 g2 g3 g4 g5 l)->I w'):=⟨fun w'=>w'.heap[w.heap.size]?=some (Xa k0 k1 k2 k3 k4 k5 m)/\w'.heap[b13]?=some (Xa g0 g1 g2 g3 g4 g5 l),fun _ h=>h,fun _ a b=>⟨a,b⟩⟩;have a6:=fun x:Fq I=>(au _ x.ok).1;have a7:=fun x:Fq I=>(au _ x.ok).2;obtain⟨y0,y1,y2,y3,y4,y5,y6⟩:=iZ a6;obtain⟨z0,z1,z2,z3,z4,z5,z6⟩:=iZ a7;have HI:=If a0;have a9:I W.drew:=a0 _ r4 q4;clear a6 a7 q4 r4 zw B4 a5 au a0;refine Jz I [0,1,2,3,4,5,6,7,8,9,10,11,12,13] [14,15,16,17] (by kernel_rfl) (by kernel_rfl) a9 ?_;iterate 14
    refine' hC ?_ ?_;rotate_left
    ·intro x;go_simp;try rfl
    simp only[pu]
   refine mo ?_;clear y0 y1 y2 y3 y4 y5 y6 z0 z1 z2 z3 z4 z5 z6;refine gF _ (by rfl) (by rfl) (fun K hK=>?_);go_simp;refine(HG.g _ _ (HZ.a.below (aa _ _).drew)).mono ?_;rintro e w5 ⟨rfl,h5,an⟩;have u5:w5.heap[w.heap.size]?=_:=(an.block _ (ae ⟨Nat.le_refl _,a3⟩)).trans HZ.b;have v5:w5.heap[b13]?=_:=(an.block _ (ae ⟨HZ.e,a2⟩)).trans HZ.c;have H5:=kq4 h5 an u5 v5;clear h5 an u5 v5;try go_simp
   refine hK.out _ _ (HI.out _ H5.c H5.d) ?_;clear hK K;try simp only[pu]
   refine gF _ (by rfl) (by rfl) (fun K hK=>?_);go_simp;refine(HG.h _ _ H5.a).mono ?_;rintro e w6 ⟨rfl,h6,ap⟩;have u6:w6.heap[w.heap.size]?=_:=(ap.block _ (ae ⟨Nat.le_refl _,a3⟩)).trans H5.c;have v6:w6.heap[b13]?=_:=(ap.block _ (ae ⟨HZ.e,a2⟩)).trans H5.d;have H6:=kq4 h6 (H5.b.trans ap) u6 v6;clear h6 ap u6 v6;try go_simp
   refine hK.out _ _ (HI.out _ H6.c H6.d) ?_;clear hK K;try simp only[pu]
   refine gF _ (by rfl) (by rfl) (fun K hK=>?_);go_simp;refine(HG.i _ _ H6.a).mono ?_;rintro e w7 ⟨rfl,h7,ar⟩;have u7:w7.heap[w.heap.size]?=_:=(ar.block _ (ae ⟨Nat.le_refl _,a3⟩)).trans H6.c;have v7:w7.heap[b13]?=_:=(ar.block _ (ae ⟨HZ.e,a2⟩)).trans H6.d;have H7:=kq4 h7 (H6.b.trans ar) u7 v7;clear h7 ar u7 v7;try go_simp
   refine hK.out _ _ (HI.out _ H7.c H7.d) ?_;clear hK K;try simp only[pu]
   refine gF _ (by rfl) (by rfl) (fun K hK=>?_);try go_simp
   refine hK.out _ _ (HI.out _ H7.c H7.d) ?_;clear hK K;try simp only[pu]
   refine yW ?_;go_wp2_with fail;go_ret;exact⟨rfl,H7.a.mono fun k hk=>ab hk,(Fo.of_below HZ.d.drew HG.d.yl).trans (H7.b.mono fun k hk=>ab hk)⟩
  ·split at hj
   ·rename_i hab;have ba:((b:Int)+1<a)=False:=eq_false (by omega);have bc:((a:Int)+1<b)=True:=eq_true (by omega);split at hj
    ·cases hj
    rename_i x1 S1 hj1;split at hj
    ·cases hj
    rename_i S2 hj2;obtain⟨hj,a'⟩:=lM hj;obtain⟨a1,ai⟩:=lT n f hi hj1;have ai:=ai hm;have a4:=gX a1 hj2;have ad:=fs h r;have hg:=fun W (hW:Below w.heap.size w W)=>gR (h.below hW) hi r hr;have cr:=fun W Z (hW:Ig W ps S Z)=>ih (d+1) (by omega) hW hi hl ad.left hj1;have cw:=fun W Z (hW:Ig W ps S1 Z)=>jG hW a1 (getNode S r).1 ad r x1 (getNode S r).1.right hr ai ad.right hj2;have cb:=fun W Z (hW:Ig W ps S2 Z)=>tG hW a4 _ hr hj;obtain⟨⟨⟨g0,g1,g2,g3,g4,g5⟩,er⟩,hE⟩:∃q,getNode S r=q:=⟨_,rfl⟩;rw[hE] at hg cr cw;obtain⟨k0,k1,k2,k3,k4,k5⟩:=n;simp only[gP] at hg cr cw⊢;have bb:IntKind.i64.wrap ((d:Int)+1)=(d:Int)+1:=az _ (by omega);have q0:=heap_alloc_new w (Xa k0 k1 k2 k3 k4 k5 m);have B0:=(aa w.heap.size w).alloc Ih (Xa k0 k1 k2 k3 k4 k5 m);have HG:=kq9 hA hB hg h q0 B0 cr cw cb;clear hA hB hg cr cw cb h hi a1 a4 hj hj1 hj2 ha hb q0 B0 ih hn ad a' ai hE;go_enter func185,ntmps185;go_wp2_with fail;refine b8 (HG.a _ HG.f) fun w1 hb1=>?_;have H1:=kq2 (HG.f.trans (hb1.mono HG.f.size)) ((hb1.block w.heap.size (by simp)).trans HG.e);clear hb1;go_wp2_with fail;refine b8 (HG.b _ H1.a) fun w2 hb2=>?_;have H2:=kq2 (H1.a.trans (hb2.mono H1.a.size)) ((hb2.block w.heap.size (gl H1.b)).trans H1.b);clear hb2;go_wp2_with fail;refine b8 (HG.c _ H2.a) fun w3 hb3=>?_;have r3:=(hb3.block w.heap.size (gl H2.b)).trans H2.b;have B3:=H2.a.trans (hb3.mono H2.a.size);have q4:=heap_alloc_new w3 (Xa g0 g1 g2 g3 g4 g5 r);have r4:=(((aa w3.heap.size w3).alloc Ih (Xa g0 g1 g2 g3 g4 g5 r)).block w.heap.size (gl r3)).trans r3;have B4:=B3.alloc B3.size (Xa g0 g1 g2 g3 g4 g5 r);clear hb3 r3;have a5:=B3.size;go_wp2_with fail;generalize w3.alloc (Xa g0 g1 g2 g3 g4 g5 r)=W at*;generalize w3.heap.size=b13 at*;have a3:=(gl r4);have a2:=(gl q4);have zw:=HG.d.wide B4;have HZ:=kq5 zw r4 q4 B4 a5;obtain⟨I,au,a0⟩:∃I:World->Prop,(∀w',I w'->w'.heap[w.heap.size]?=some (Xa k0 k1 k2 k3 k4 k5 m)/\w'.heap[b13]?=some (Xa g0 g1 g2 g3 g4 g5 r))/\(∀w',w'.heap[w.heap.size]?=some (Xa k0 k1 k2 k3 k4 k5 m)->w'.heap[b13]?=some (Xa g0 g1 g2 g3 g4 g5 r)->I w'):=⟨fun w'=>w'.heap[w.heap.size]?=some (Xa k0 k1 k2 k3 k4 k5 m)/\w'.heap[b13]?=some (Xa g0 g1 g2 g3 g4 g5 r),fun _ h=>h,fun _ a b=>⟨a,b⟩⟩;have a6:=fun x:Fq I=>(au _ x.ok).1;have a7:=fun x:Fq I=>(au _ x.ok).2;obtain⟨y0,y1,y2,y3,y4,y5,y6⟩:=iZ a6;obtain⟨z0,z1,z2,z3,z4,z5,z6⟩:=iZ a7;have HI:=If a0;have a9:I W.drew:=a0 _ r4 q4;clear a6 a7 q4 r4 zw B4 a5 au a0;refine Jz I [0,1,2,3,4,5,6,7,8,9,10,12,13,14] [11,15,16,17] (by kernel_rfl) (by kernel_rfl) a9 ?_;iterate 14
     refine' hC ?_ ?_;rotate_left
     ·intro x;go_simp;try rfl
     simp only[pu]
    refine mo ?_;clear y0 y1 y2 y3 y4 y5 y6 z0 z1 z2 z3 z4 z5 z6;refine gF _ (by rfl) (by rfl) (fun K hK=>?_);go_simp;refine(HG.g _ _ (HZ.a.below (aa _ _).drew)).mono ?_;rintro e w5 ⟨rfl,h5,an⟩;have u5:w5.heap[w.heap.size]?=_:=(an.block _ (ae ⟨Nat.le_refl _,a3⟩)).trans HZ.b;have v5:w5.heap[b13]?=_:=(an.block _ (ae ⟨HZ.e,a2⟩)).trans HZ.c;have H5:=kq4 h5 an u5 v5;clear h5 an u5 v5;try go_simp
    refine hK.out _ _ (HI.out _ H5.c H5.d) ?_;clear hK K;try simp only[pu]
    refine gF _ (by rfl) (by rfl) (fun K hK=>?_);go_simp;refine(HG.h _ _ H5.a).mono ?_;rintro e w6 ⟨rfl,h6,ap⟩;have u6:w6.heap[w.heap.size]?=_:=(ap.block _ (ae ⟨Nat.le_refl _,a3⟩)).trans H5.c;have v6:w6.heap[b13]?=_:=(ap.block _ (ae ⟨HZ.e,a2⟩)).trans H5.d;have H6:=kq4 h6 (H5.b.trans ap) u6 v6;clear h6 ap u6 v6;try go_simp
    refine hK.out _ _ (HI.out _ H6.c H6.d) ?_;clear hK K;try simp only[pu]
    refine gF _ (by rfl) (by rfl) (fun K hK=>?_);go_simp;refine(HG.i _ _ H6.a).mono ?_;rintro e w7 ⟨rfl,h7,ar⟩;have u7:w7.heap[w.heap.size]?=_:=(ar.block _ (ae ⟨Nat.le_refl _,a3⟩)).trans H6.c;have v7:w7.heap[b13]?=_:=(ar.block _ (ae ⟨HZ.e,a2⟩)).trans H6.d;have H7:=kq4 h7 (H6.b.trans ar) u7 v7;clear h7 ar u7 v7;try go_simp
    refine hK.out _ _ (HI.out _ H7.c H7.d) ?_;clear hK K;try simp only[pu]
    refine gF _ (by rfl) (by rfl) (fun K hK=>?_);try go_simp
    refine hK.out _ _ (HI.out _ H7.c H7.d) ?_;clear hK K;try simp only[pu]
    refine yW ?_;go_wp2_with fail;go_ret;exact⟨rfl,H7.a.mono fun k hk=>ab hk,(Fo.of_below HZ.d.drew HG.d.yl).trans (H7.b.mono fun k hk=>ab hk)⟩
   ·rename_i hba hab;have ba:((b:Int)+1<a)=False:=eq_false (by omega);have bc:((a:Int)+1<b)=False:=eq_false (by omega);obtain⟨S1,h1,h2⟩:=aD.1 hj;injection h2 with e1 e2
    subst e1 e2;have hW:=fun W Z (hW:Ig W ps S Z)=>jG hW hi n hn m l r hm hl hr h1;obtain⟨k0,k1,k2,k3,k4,k5⟩:=n;simp only[gP] at hW⊢;have q0:=heap_alloc_new w (Xa k0 k1 k2 k3 k4 k5 m);have B0:=(aa w.heap.size w).alloc Ih (Xa k0 k1 k2 k3 k4 k5 m);have HG:=kq6 hA hB hW h q0 B0;clear hA hB hW h hi hj h1 ha hb q0 B0 hn ih;go_enter func185,ntmps185;go_wp2_with fail;refine b8 (HG.a _ HG.f) fun w1 hb1=>?_;have H1:=kq2 (HG.f.trans (hb1.mono HG.f.size)) ((hb1.block w.heap.size (by simp)).trans HG.e);clear hb1;go_wp2_with fail;refine b8 (HG.b _ H1.a) fun w2 hb2=>?_;have r2:=(hb2.block w.heap.size (gl H1.b)).trans H1.b;obtain⟨c0,c1,c2,c3,c4,c5,c6⟩:=gG r2;have H2:=If (H1.a.trans (hb2.mono H1.a.size));clear hb2 r2;go_wp2_with fail;refine(HG.c _ _ (HG.d.below H2.out)).mono ?_;rintro e w3 ⟨rfl,h3,a8⟩;have H3:=kq2 h3 ((Fo.of_below H2.out HG.d.yl).trans a8);clear h3 a8;go_wp2_with fail;go_ret;exact⟨rfl,H3.out⟩
theorem nL{S S':St}{l m r:Nat}(h:avlJ S l m r=some (R,S')):
 m≠0/\isT S l=true/\isT S m=true/\isT S r=true/\joinB (getNode S m).1 m 100 S l r=some (R.1,S')/\R.2=0:=by
 unfold avlJ at h
 split at h
 ·cases h
 ·rename_i hc;obtain⟨⟨x,S1⟩,h1,h2⟩:=aD.1 h
  injection h2 with e1 e2
  subst e1 e2;simp only[not_or,Bool.not_eq_false] at hc;exact⟨hc.1,hc.2.1,hc.2.2.1,hc.2.2.2,h1,rfl⟩
theorem yM{S S':St}(h:Ig w ps S Y)(hi:Fv S)(l m r:Nat)(hl:l<2^64)(hm:m<2^64)(hr:r<2^64)(hR:avlJ S l m r=some (R,S')):
 Ct 141 #[PV ps,Xu l,Xu m,Xu r] w fun e w'=>e=.returned (.tuple #[Xu R.1,Xi R.2])/\Ig w' ps S' Y/\Fo Y w w':=by
 obtain⟨h0,h1,h2,h3,h4,h5⟩:=nL hR;obtain⟨x,er⟩:=R;simp only at h4 h5;subst h5;have ap:=fB h hi 0 (by omega);rw[fU] at ap;have ad:=pQ h hi l hl;have ai:=fun W (hW:Below w.heap.size w W)=>pQ (h.below hW) hi m hm;have an:=fun W (hW:Below w.heap.size w W)=>pQ (h.below hW) hi r hr;have hg:=fun W (hW:Below w.heap.size w W)=>gR (h.below hW) hi m hm;have hj:=fun W (hW:Below w.heap.size w W)=>yU (getNode S m).1 (fs h m) m hm 100 0 rfl (h.below hW) hi hl hr h4;rw[h1] at ad;rw[h2] at ai;rw[h3] at an;obtain⟨⟨⟨k0,k1,k2,k3,k4,k5⟩,er⟩,hE⟩:∃q,getNode S m=q:=⟨_,rfl⟩;rw[hE] at hg hj;simp only[gP] at hg hj;have hq:((m:Int)==0)=false:=by simp;omega
 have HG:=kq7 ap ad ai an hg hj h;clear ap ad ai an hg hj h hi hE h0 h1 h2 h3 h4 hR;go_enter func141,ntmps141;go_wp2_with fail;refine Jc HG.a ?_;go_wp2_with fail;refine b8 HG.b fun w1 hb1=>?_;have H1:=If hb1;clear hb1;go_wp2_with fail;refine b8 (HG.c _ H1.out) fun w2 hb2=>?_;have H2:=If (H1.out.trans (hb2.mono H1.out.size));clear hb2;go_wp2_with fail;refine b8 (HG.d _ H2.out) fun w3 hb3=>?_;have H3:=If (H2.out.trans (hb3.mono H2.out.size));clear hb3;go_wp2_with fail;refine b8 (HG.e _ H3.out) fun w4 hb4=>?_;have H4:=If (H3.out.trans (hb4.mono H3.out.size));clear hb4;go_wp2_with fail;refine(HG.f _ H4.out).mono ?_;rintro e w5 ⟨rfl,h5,ar⟩;have H5:=kq2 h5 ((HG.g.keep H4.out).trans ar);clear h5 ar;go_wp2_with fail;go_ret2;exact⟨rfl,H5.out⟩
theorem BJ:kW 141 avlJ where
 enter args w:=by go_simp
 inv hi h:=(lT _ 100 hi (nL h).2.2.2.2.1).1
 lt hi _ hm _ h:=(lT _ 100 hi (nL h).2.2.2.2.1).2 hm
 ok h:=(nL h).2.2.2.2.2
 call h hi hl hm hr hR:=yM h hi _ _ _ hl hm hr hR
theorem vi:jD 1 141 234 avlJ:=⟨ab rfl,E2,BJ,Ai⟩
theorem uy(a0 a1 a2 a3 a4 a5:Value)(w:World):(Instr.field 139 (.agg #[a0,a1,a2,a3,a4,a5]) 4).run prog w=.ok a4 w:=by kernel_rfl
def Lf.blackT(S:St)(h:Nat):Nat:=(getNode S h).1.mark / 2
def Lf.redT(S:St)(h:Nat):Bool:=decide ((getNode S h).1.mark % 2=1)
def Lf.putRM(S:St)(h l r:Nat)(isRed:Bool):Option St:=
 match fY S l,fY S r with
 | some x,some y=>if 4611686018427387904<=blackT S l then none else
  some (gM S h { (getNode S h).1 with left:=l,right:=r,mark:=blackT S l*2+(if isRed then 1 else 2),size:=x+y+1 }).2
 | _,_=>none
theorem wA{S S':St}{h l r:Nat}{c:Bool}(hp:putRM S h l r c=some S'):∃x y,fY S l=some x/\fY S r=some y/\blackT S l<2^62/\
 S'=(gM S h { (getNode S h).1 with left:=l,right:=r,mark:=blackT S l*2+(if c then 1 else 2),size:=x+y+1 }).2:=by
 unfold putRM at hp;split at hp
 ·rename_i x y h1 h2;split at hp
  ·cases hp
  ·exact⟨x,y,h1,h2,by omega,(Option.some.inj hp).symm⟩
 ·cases hp
theorem oQ(h:Ig w ps S Y)(hi:Fv S)(hh:Nat)(hl:hh<2^64):
 Cb 220 #[PV ps,Xu hh] w (eS (getNode S hh).1):=by
 have B0:=(aa w.heap.size w).alloc Ih (.cells #[Xu 0,Xu 0,Xu 0,Xu 0,Xu 0,Xu 0] 139);have q0:=heap_alloc_new w (.cells #[Xu 0,Xu 0,Xu 0,Xu 0,Xu 0,Xu 0] 139);have hg:=iO (h.below B0) hi hh hl;obtain⟨⟨⟨k0,k1,k2,k3,k4,k5⟩,er⟩,hE⟩:∃r,getNode S hh=r:=⟨_,rfl⟩;rw[hE] at hg⊢;unfold eS at hg⊢;simp only at hg⊢;have HG:=kq3 hg B0 q0;clear hg h hi hE B0 q0;go_enter func220,ntmps220;go_wp2_with fail;refine b8 HG.a fun w1 hb=>?_;have ad:=hb.alloc hb.size (Xb k0 k1 k2 k3 k4 k5);have r0:=(ad.block w.heap.size (by simp)).trans HG.c;have B1:=HG.b.trans (ad.mono HG.b.size);obtain⟨c0,c1,c2,c3,c4,c5⟩:=ia r0;obtain⟨f0,f1,f2,f3,f4,f5⟩:=lP r0;have HB:=kq2 r0 B1;clear r0 B1 ad hb;go_wp2_with fail;have q6:=xj HB.a (Xu k0) (Xu k1) (Xu k2) (Xu k3) (Xu k4) (Xu k5);have B6:=KJ HB.b (Nat.le_refl w.heap.size) (Xu k0) (Xu k1) (Xu k2) (Xu k3) (Xu k4) (Xu k5);generalize (((((((w1.alloc (Xb k0 k1 k2 k3 k4 k5)).setCell ⟨w.heap.size,0,none⟩ (Xu k0)).setCell ⟨w.heap.size,1,none⟩ (Xu k1)).setCell ⟨w.heap.size,2,none⟩ (Xu k2)).setCell ⟨w.heap.size,3,none⟩ (Xu k3)).setCell ⟨w.heap.size,4,none⟩ (Xu k4)).setCell ⟨w.heap.size,5,none⟩ (Xu k5))=W6 at q6 B6⊢;obtain⟨g0,g1,g2,g3,g4,g5⟩:=ia q6;exact bodyPost_ret (v:=.agg #[Xu k0,Xu k1,Xu k2,Xu k3,Xu k4,Xu k5]) (by simp[results,f220,go_sem,g0,g1,g2,g3,g4,g5]) rfl ⟨rfl,B6⟩
theorem gy(h:Ig w ps S Y)(hi:Fv S)(hh:Nat)(hl:hh<2^64):
 Cb 188 #[PV ps,Xu hh] w (Xu (blackT S hh:Nat)):=by
 have hg:=oQ h hi hh hl;unfold blackT;obtain⟨⟨⟨k0,k1,k2,k3,k4,k5⟩,er⟩,hE⟩:∃r,getNode S hh=r:=⟨_,rfl⟩;rw[hE] at hg⊢;unfold eS at hg;simp only at hg⊢;have ad:=uy;have HG:=If hg;clear hg h hi hE;go_enter func188,ntmps188;go_wp2_with fail;refine b8 HG.out fun w1 hb=>?_;have HB:=If hb;clear hb;go_wp2_with fail;go_ret;exact⟨by simp,HB.out⟩
theorem gq(h:Ig w ps S Y)(hi:Fv S)(hh:Nat)(hl:hh<2^64):
 Cb 191 #[PV ps,Xu hh] w (.bool (redT S hh)):=by
 have hg:=oQ h hi hh hl;have hlt:=(fs h hh).mark;unfold redT;obtain⟨⟨⟨k0,k1,k2,k3,k4,k5⟩,er⟩,hE⟩:∃r,getNode S hh=r:=⟨_,rfl⟩;rw[hE] at hg hlt⊢;unfold eS at hg;simp only at hg hlt⊢;have ad:bits BinOp.and IntKind.u64 (k4:Int) 1=((k4 % 2:Nat):Int):=by
  have h1:=bits_and_u64_nat k4 1 hlt (by decide);rw[show ((1:Nat):Int)=1 from rfl] at h1;rw[h1,Nat.and_one_is_mod]
 have HA:=If ad;clear ad;have ai:=uy;have HG:=If hg;clear hg h hi hE;go_enter func191,ntmps191;go_wp2_with fail;refine b8 HG.out fun w1 hb=>?_;have HB:=If hb;clear hb;go_wp2_with fail;go_ret;refine⟨?_,HB.out⟩;rw[HA.out]
 rcases Nat.mod_two_eq_zero_or_one k4 with e | e<;>simp[e]
theorem io(h:Ig w ps S Y)(hi:Fv S)(hh:Nat)(hl:hh<2^64):
 Cb 187 #[PV ps,Xu hh] w (.bool (isT S hh)):=by
 have hg:=iO h hi hh hl;obtain⟨R,hR⟩:=Ii (isT S hh);rw[hR];unfold isT at hR;obtain⟨⟨⟨k0,k1,k2,k3,k4,k5⟩,er⟩,hE⟩:∃r,getNode S hh=r:=⟨_,rfl⟩;rw[hE] at hg hR;unfold eS at hg;simp only at hg hR;have ad:R=(((hh:Int)==0) || ((er:Int)==0)):=by
  rw[<-hR]
  by_cases a:hh=0<;>by_cases b:er=0<;>simp[a,b]<;>omega
 have HG:=kq2 hg ad;clear hg h hi hE hR ad
 by_cases h0:hh=0
 ·subst h0;go_enter func187,ntmps187;go_wp2_with fail;refine b8 HG.a fun w1 hb=>?_;have HB:=If (hb.alloc hb.size (Xb k0 k1 k2 k3 k4 k5));clear hb;go_wp2_with fail;go_ret;obtain rfl:=HG.b;exact⟨by simp,HB.out⟩
 ·have hq:((hh:Int)==0)=false:=by simp;omega
  go_enter func187,ntmps187;go_wp2_with fail;refine b8 HG.a fun w1 hb=>?_;have HB:=If (hb.alloc hb.size (Xb k0 k1 k2 k3 k4 k5));clear hb;go_wp2_with fail;go_ret;obtain rfl:=HG.b;exact⟨by simp[hq],HB.out⟩
theorem qBhad{P:Prop}(h:P:=by
 have B6:=H5.a.setCell (p:=⟨b,5,none⟩) H2.c (Xu ((x:Int)+y+1));refine(HG.e _ _ (HG.f.wide B6)).mono ?_;rintro e w7 ⟨rfl,h7,k7⟩;have H7:=kq2 (h7.mono (Z:=Y) fun k hk=>ab hk) ((Fo.of_below B6 HG.f.yl).trans (k7.mono fun k hk=>ab hk));clear h7 k7 r6 B6 c0 c1 c2 c3 c4 c5 f0 f1 f2 f3 f4 f5;go_wp2_with fail;go_ret;exact⟨rfl,H7.out⟩):P:=h
theorem nh{S S':St}(h:Ig w ps S Y)(hi:Fv S)(hh l r:Nat)(c:Bool)(hl:hh<2^64)(hll:l<2^64)(hrl:r<2^64)(hp:putRM S hh l r c=some S'):
 Ct 190 #[PV ps,Xu hh,Xu l,Xu r,.bool c] w fun e w'=>e=.returned (Xu hh)/\Ig w' ps S' Y/\Fo Y w w':=by
 obtain⟨x,y,h1,h2,au,rfl⟩:=wA hp;have hx:x<2^62:=by have:=num_some h1;omega
 have hy:y<2^62:=by have:=num_some h2;omega
 have ad:=fs h hh;have hg:=oQ h hi hh hl;have hb:=fun W (hW:Below w.heap.size w W)=>gy (h.below hW) hi l hll;have an:=fun W (hW:Below w.heap.size w W)=>kP (h.below hW) hi l hll h1;have ap:=fun W (hW:Below w.heap.size w W)=>kP (h.below hW) hi r hrl h2;generalize blackT S l=bk at*;obtain⟨⟨⟨k0,k1,k2,k3,k4,k5⟩,er⟩,hE⟩:∃q,getNode S hh=q:=⟨_,rfl⟩;rw[hE] at hg ad⊢;simp only at ad⊢;have ai:=fun W Z (hW:Ig W ps S Z)=>rM hW hi hh hl ⟨k0,k1,l,r,bk*2+(if c then 1 else 2),x+y+1⟩ ⟨ad.key,ad.val,hll,hrl,by simp only;split<;>omega,by simp only;omega⟩;have ar:eS ⟨k0,k1,l,r,bk*2+(if c then 1 else 2),x+y+1⟩=.agg #[Xu k0,Xu k1,Xu l,Xu r,Xu ((bk*2+(if c then 1 else 2):Nat):Int),Xu ((x:Int)+y+1)]:=by simp[eS]
 rw[ar] at ai;unfold eS at hg;simp only at hg;have HG:=kq6 hg hb an ap ai h;have a1:IntKind.u64.wrap ((bk:Int)*2)=(bk:Int)*2:=by rw[IntKind.wrap_u64];omega
 have a2:IntKind.u64.wrap ((bk:Int)*2+2)=(bk:Int)*2+2:=by rw[IntKind.wrap_u64];omega
 have a0:bits BinOp.or IntKind.u64 ((bk:Int)*2) 1=(bk:Int)*2+1:=by
  rw[show ((bk:Int)*2)=((bk*2:Nat):Int) by simp,show (1:Int)=((1:Nat):Int) from rfl,bits_or_u64_nat _ _ (by omega) (by decide)];have:bk*2 ||| 1=bk*2+1:=by
   rw[show bk*2=bk<<<1 by simp[Nat.shiftLeft_eq]];exact(cM (by decide) bk).symm
  omega
 clear hg hb an ap ai ar h hi hE hp h1 h2 ad
 cases c with
 | true=>
  simp only[if_true] at HG⊢;go_enter func190,ntmps190;go_wp2_with fail;refine b8 HG.a fun w1 hb1=>?_;have q1:=heap_alloc_new w1 (Xb k0 k1 l r k4 k5);have B1:=hb1.alloc hb1.size (Xb k0 k1 l r k4 k5);have z1:=hb1.size;clear hb1;go_wp2_with fail;generalize w1.alloc (Xb k0 k1 l r k4 k5)=W at*;generalize w1.heap.size=b at*;refine b8 (HG.b _ B1) fun w2 hb2=>?_;have r2:=(hb2.block b (gl q1)).trans q1;obtain⟨c0,c1,c2,c3,c4,c5⟩:=ia r2;obtain⟨f0,f1,f2,f3,f4,f5⟩:=lP r2;have H2:=kq3 (B1.trans (hb2.mono B1.size)) r2 z1;clear hb2 r2 B1 q1 z1;go_wp2_with fail;have r3:((w2.setCell ⟨b,4,none⟩ (Xu ((bk:Int)*2))).setCell ⟨b,4,none⟩ (Xu ((bk:Int)*2+1))).heap[b]?=some (Xb k0 k1 l r ((bk:Int)*2+1) k5):=by rw[heap_setCell (heap_setCell H2.b)];rfl
  have B3:=(H2.a.setCell (p:=⟨b,4,none⟩) H2.c (Xu ((bk:Int)*2))).setCell (p:=⟨b,4,none⟩) H2.c (Xu ((bk:Int)*2+1));generalize ((w2.setCell ⟨b,4,none⟩ (Xu ((bk:Int)*2))).setCell ⟨b,4,none⟩ (Xu ((bk:Int)*2+1)))=w3 at*;clear c0 c1 c2 c3 c4 c5 f0 f1 f2 f3 f4 f5;refine b8 (HG.c _ B3) fun w4 hb4=>?_;have H4:=kq2 (B3.trans (hb4.mono B3.size)) ((hb4.block b (gl r3)).trans r3);clear hb4 r3 B3;go_wp2_with fail;refine b8 (HG.d _ H4.a) fun w5 hb5=>?_;have r5:=(hb5.block b (gl H4.b)).trans H4.b;obtain⟨c0,c1,c2,c3,c4,c5⟩:=ia r5;obtain⟨f0,f1,f2,f3,f4,f5⟩:=lP r5;have H5:=kq2 (H4.a.trans (hb5.mono H4.a.size)) r5;clear hb5 r5;go_wp2_with fail;have r6:(w5.setCell ⟨b,5,none⟩ (Xu ((x:Int)+y+1))).heap[b]?=some (Xb k0 k1 l r ((bk:Int)*2+1) ((x:Int)+y+1)):=heap_setCell H5.b;exact qBhad
 | false=>
  simp only[dF,if_false] at HG⊢;go_enter func190,ntmps190;go_wp2_with fail;refine b8 HG.a fun w1 hb1=>?_;have q1:=heap_alloc_new w1 (Xb k0 k1 l r k4 k5);have B1:=hb1.alloc hb1.size (Xb k0 k1 l r k4 k5);have z1:=hb1.size;clear hb1;go_wp2_with fail;generalize w1.alloc (Xb k0 k1 l r k4 k5)=W at*;generalize w1.heap.size=b at*;refine b8 (HG.b _ B1) fun w2 hb2=>?_;have r2:=(hb2.block b (gl q1)).trans q1;obtain⟨c0,c1,c2,c3,c4,c5⟩:=ia r2;obtain⟨f0,f1,f2,f3,f4,f5⟩:=lP r2;have H2:=kq3 (B1.trans (hb2.mono B1.size)) r2 z1;clear hb2 r2 B1 q1 z1;go_wp2_with fail;have r3:((w2.setCell ⟨b,4,none⟩ (Xu ((bk:Int)*2))).setCell ⟨b,4,none⟩ (Xu ((bk:Int)*2+2))).heap[b]?=some (Xb k0 k1 l r ((bk:Int)*2+2) k5):=by rw[heap_setCell (heap_setCell H2.b)];rfl
  have B3:=(H2.a.setCell (p:=⟨b,4,none⟩) H2.c (Xu ((bk:Int)*2))).setCell (p:=⟨b,4,none⟩) H2.c (Xu ((bk:Int)*2+2));generalize ((w2.setCell ⟨b,4,none⟩ (Xu ((bk:Int)*2))).setCell ⟨b,4,none⟩ (Xu ((bk:Int)*2+2)))=w3 at*;clear c0 c1 c2 c3 c4 c5 f0 f1 f2 f3 f4 f5;refine b8 (HG.c _ B3) fun w4 hb4=>?_;have H4:=kq2 (B3.trans (hb4.mono B3.size)) ((hb4.block b (gl r3)).trans r3);clear hb4 r3 B3;go_wp2_with fail;refine b8 (HG.d _ H4.a) fun w5 hb5=>?_;have r5:=(hb5.block b (gl H4.b)).trans H4.b;obtain⟨c0,c1,c2,c3,c4,c5⟩:=ia r5;obtain⟨f0,f1,f2,f3,f4,f5⟩:=lP r5;have H5:=kq2 (H4.a.trans (hb5.mono H4.a.size)) r5;clear hb5 r5;go_wp2_with fail;have r6:(w5.setCell ⟨b,5,none⟩ (Xu ((x:Int)+y+1))).heap[b]?=some (Xb k0 k1 l r ((bk:Int)*2+2) ((x:Int)+y+1)):=heap_setCell H5.b;exact qBhad
end
section
open Lf
def Lf.sidesT(S:St)(tu:Bool)(h:Nat):Nat×Nat:=if tu=true then((getNode S h).1.right,(getNode S h).1.left) else((getNode S h).1.left,(getNode S h).1.right)
def Lf.putJ(S:St)(tu:Bool)(h other own:Nat)(c:Bool):Option St:=if tu=true then putRM S h own other c else putRM S h other own c
def Lf.fixR(tu:Bool)(S:St)(t other x:Nat)(is:Bool):Option (Nat×St):=
 if is=true\/redT S x=false then some (t,S)
 else if redT S (sidesT S tu x).2=false then some (t,S)
 else match putJ S tu (sidesT S tu x).2 (sidesT S tu (sidesT S tu x).2).1 (sidesT S tu (sidesT S tu x).2).2 false with
  | none=>none
  | some S1=>match putJ S1 tu t other (sidesT S tu x).1 false with
   | none=>none
   | some S2=>(putJ S2 tu x t (sidesT S tu x).2 true).map fun S3=>(x,S3)
def Lf.joinR(tu:Bool)(m:Nat):Nat->St->Nat->Nat->Option (Nat×St)
 | 0,S,t,low=>(putJ S tu m t low true).map fun S'=>(m,S')
 | f+1,S,t,low=>
  if redT S t=false/\blackT S t=blackT S low then(putJ S tu m t low true).map fun S'=>(m,S')
  else match joinR tu m f S (sidesT S tu t).2 low with
   | none=>none
   | some (x,S1)=>
    match putJ S1 tu t (sidesT S tu t).1 x (redT S t) with
    | none=>none
    | some S2=>chk (fixR tu S2 t (sidesT S tu t).1 x (redT S t))
theorem rf(tu:Bool)(m:Nat)(S:St)(t low:Nat):joinR tu m 0 S t low=(putJ S tu m t low true).map fun S'=>(m,S'):=rfl
theorem re(tu:Bool)(m f:Nat)(S:St)(t low:Nat):joinR tu m (f+1) S t low=
 if redT S t=false/\blackT S t=blackT S low then(putJ S tu m t low true).map fun S'=>(m,S')
 else match joinR tu m f S (sidesT S tu t).2 low with
  | none=>none
  | some (x,S1)=>
   match putJ S1 tu t (sidesT S tu t).1 x (redT S t) with
   | none=>none
   | some S2=>chk (fixR tu S2 t (sidesT S tu t).1 x (redT S t)):=rfl
def Lf.topR(tu:Bool)(S:St)(t m low:Nat):Option (Nat×St):=
 match joinR tu m 200 S t low with
 | none=>none
 | some (h,S1)=>
  if redT S1 h=true/\redT S1 (sidesT S1 tu h).2=true then(putJ S1 tu h (sidesT S1 tu h).1 (sidesT S1 tu h).2 false).map fun S2=>(h,S2)
  else some (h,S1)
def Lf.redJ(S:St)(l m r:Nat):Option ((Nat×Nat)×St):=
 if m=0\/isT S l=false\/isT S m=false\/isT S r=false then none
 else if blackT S r<blackT S l then(topR false S l m r).map fun x=>((x.1,0),x.2)
 else if blackT S l<blackT S r then(topR true S r m l).map fun x=>((x.1,0),x.2)
 else(putRM S m l r (!redT S l && !redT S r)).map fun S'=>((m,0),S')
theorem Jo {S S':St}{h l r:Nat}{c:Bool}(hi:Fv S)(hp:putRM S h l r c=some S'):Fv S':=by
 grind [wA,rT]
theorem jV {S S':St}{tu:Bool}{h a b:Nat}{c:Bool}(hi:Fv S)(hp:putJ S tu h a b c=some S'):Fv S':=by
 unfold putJ at hp;split at hp<;>exact Jo hi hp
theorem AX {tu:Bool}{S S':St}{t other x y:Nat}{is:Bool}(hi:Fv S)(h:fixR tu S t other x is=some (y,S')):Fv S':=by
 unfold fixR at h
 split at h
 ·grind
 ·split at h
  ·grind
  ·split at h
   ·cases h
   ·rename_i S1 h1
    split at h
    ·cases h
    ·rename_i S2 h2;obtain⟨S3,h3,h4⟩:=aD.1 h
     injection h4 with _ e
     rw[<-e];exact jV (jV (jV hi h1) h2) h3
theorem lU(tu:Bool){m:Nat}:∀(f:Nat) {S S':St} {t low x:Nat},Fv S->joinR tu m f S t low=some (x,S')->Fv S'/\(m<2^64->x<2^64)
 | 0,S,S',t,low,x,hi,hj=>by
  rw[rf] at hj;obtain⟨S1,h1,h2⟩:=aD.1 hj;injection h2 with e1 e2
  subst e1 e2;exact⟨jV hi h1,id⟩
 | f+1,S,S',t,low,x,hi,hj=>by
  rw[re] at hj;split at hj
  ·obtain⟨S1,h1,h2⟩:=aD.1 hj;injection h2 with e1 e2
   subst e1 e2;exact⟨jV hi h1,id⟩
  ·split at hj
   ·cases hj
   ·rename_i x1 S1 h1;split at hj
    ·cases hj
    ·rename_i S2 h2;obtain⟨h3,h4⟩:=lM hj;exact⟨AX (jV (lU tu f hi h1).1 h2) h3,fun _=>h4⟩
theorem LP {tu:Bool}{S S':St}{t m low x:Nat}(hi:Fv S)(h:topR tu S t m low=some (x,S')):Fv S'/\(m<2^64->x<2^64):=by
 unfold topR at h
 split at h
 ·cases h
 ·rename_i y S1 h1;obtain⟨i1,l1⟩:=lU tu 200 hi h1
  grind [Option.map_eq_some_iff,jV]
theorem wG {S S':St}{l m r:Nat}{R:Nat×Nat}(hi:Fv S)(h:redJ S l m r=some (R,S')):Fv S'/\(m<2^64->R.1<2^64)/\R.2=0:=by
 grind [redJ,Option.map_eq_some_iff,LP,Jo,id]
end
section
open Go.RowKit Tryz Go.BigFrame Go.Maps Go.WideMaps Lf
variable{S:St}{Y:Nat->Prop}{ps:Nat}{w:World}{z:Nat}
def dP(ps:Nat)(tu:Bool):Value:=.agg #[PV ps,.bool tu]
theorem DX{bj ps:Nat}{tu:Bool}(hb:w.heap[bj]?=some (.cells #[PV ps,.bool tu] 284 (0,0)))(a b:Nat):
 Ct 242 #[Xu a,Xu b,PV bj] w fun e w'=>e=.returned (.tuple #[Xu (if tu=true then b else a:Nat),Xu (if tu=true then a else b:Nat)])/\w=w':=by
 obtain⟨c0,c1⟩:=Fp hb;clear hb
 cases tu
 all_goals
  go_enter func242,ntmps242;go_wp2_with fail;go_ret2;exact⟨rfl,rfl⟩
theorem jX(h:Ig w ps S Y)(hi:Fv S)(tu:Bool)(hh:Nat)(hl:hh<2^64):
 Cb 222 #[dP ps tu,Xu hh] w (.tuple #[Xu (sidesT S tu hh).1,Xu (sidesT S tu hh).2]):=by
 have q0:=heap_alloc_new w (Xc ps tu);have B0:=(aa w.heap.size w).alloc Ih (Xc ps tu);have hg:=oQ (h.below B0) hi hh hl;unfold sidesT;obtain⟨⟨⟨k0,k1,k2,k3,k4,k5⟩,er⟩,hE⟩:∃r,getNode S hh=r:=⟨_,rfl⟩;rw[hE] at hg⊢;unfold eS at hg;simp only at hg⊢;unfold dP;have ad:=fun(W:World) (hW:W.heap[w.heap.size]?=some (.cells #[PV ps,.bool tu] 284 (0,0)))=>DX hW k2 k3;have ai:∀(args:Array Value) (w:World),(callFunc 242 args).run prog w=.ok (.enter 242 args) w:=fun args w=>by go_simp
 have HG:=kq4 hg ad q0 B0;clear hg ad h hi hE q0 B0;go_enter func222,ntmps222;go_wp2_with fail;refine b8 HG.a fun w1 hb1=>?_;have q1:=(hb1.block w.heap.size (by simp)).trans HG.c;have B1:=HG.d.trans (hb1.mono (by simp));have r2:=(((aa w1.heap.size w1).alloc Ih (Xb k0 k1 k2 k3 k4 k5)).block w.heap.size (gl q1)).trans q1;have B2:=B1.alloc B1.size (Xb k0 k1 k2 k3 k4 k5);have H2:=kq2 r2 B2;clear hb1 q1 B1 r2 B2;go_wp2_with fail;refine Jc (HG.b _ H2.a) ?_
 cases tu
 all_goals
  simp only[if_true,if_false,dF];go_wp2_with fail;go_ret2;exact⟨rfl,H2.b⟩
theorem qBhae{P:Prop}(h:P:=by
 have HG:=kq2 hq (Fo.of_below B0 h.yl);clear hq B0 h hi hp;go_enter func223,ntmps223;go_wp2_with fail;refine HG.a.mono ?_;rintro e w1 ⟨rfl,h1,k1⟩;have H1:=kq2 h1 (HG.b.trans k1);clear h1 k1;go_wp2_with fail;go_ret;exact⟨rfl,H1.out⟩):P:=h
theorem jW{S S':St}(h:Ig w ps S Y)(hi:Fv S)(tu:Bool)(hh a b:Nat)(c:Bool)(hl:hh<2^64)(hal:a<2^64)(hbl:b<2^64)(hp:putJ S tu hh a b c=some S'):
 Ct 223 #[dP ps tu,Xu hh,Xu a,Xu b,.bool c] w fun e w'=>e=.returned (Xu hh)/\Ig w' ps S' Y/\Fo Y w w':=by
 have B0:=(aa w.heap.size w).alloc Ih (Xc ps tu);unfold putJ at hp;unfold dP
 cases tu with
 | false=>
  have hq:=nh (h.below B0) hi hh a b c hl hal hbl (by simpa using hp);exact qBhae
 | true=>
  have hq:=nh (h.below B0) hi hh b a c hl hbl hal (by simpa using hp);exact qBhae
theorem DQ(h:Ig w ps S Y)(hi:Fv S):
 Cb 235 #[PV ps,Xu 0] w (Xi 0):=by
 have hc:=xS h hi;have hl:=fun W (hW:Below w.heap.size w W)=>sY (h.below hW);have HG:=kq2 hc hl;clear hc hl h hi;go_enter func235,ntmps235;go_wp2_with fail;refine b8 HG.a fun w1 hb1=>?_;have H1:=If hb1;clear hb1;go_wp2_with fail;refine b8 (HG.b _ H1.out) fun w2 hb2=>?_;have H2:=If (H1.out.trans (hb2.mono H1.out.size));clear hb2;go_wp2_with fail
 go_loopw [7,8,9,10,21] (fun _ _ _ _ k wr=>k=Xi 0/\wr=w2) (fun _ _ _ _ _ _=>0)
 case atStart=>exact⟨rfl,rfl⟩
 case round=>
  obtain⟨rfl,rfl⟩:=hrel;go_wp2_with fail;go_ret;exact⟨rfl,H2.out⟩
theorem Aj:nI 235 where
 enter args w:=by go_simp
 call h hi:=DQ h hi
theorem E3:j6 2 142 235:=by
 intro W;simp only[eL];go_enter func208,ntmps208;go_wp2_with fail;exact bodyPost_ret (v:=.tuple #[.agg #[.func (.func 142) #[] #[],.func (.func 235) #[] #[]],.bool true]) (by simp[results,f208,go_sem]) rfl ⟨rfl,(aa _ _).alloc Ih _⟩
theorem IQ{pm px ps limit:Nat}(hM:Ic w pm px ps limit):
 Ct 70 #[PV pm] w fun e w'=>e=.returned (PV ps)/\w=w':=by
 have HG:=If (ki hM);unfold Ic at hM;obtain⟨c0,c1,c2⟩:=fq hM;clear hM;go_enter func70,ntmps70;go_wp2_with fail;refine Jc HG.out ?_;go_wp2_with fail;go_ret;exact⟨rfl,rfl⟩
theorem CQ{pm px ps limit:Nat}(hM:Ic w pm px ps limit)(ht:Cb 19 #[PV px] w (Xi z)):
 Cb 39 #[PV pm] w (Xi z):=by
 have HG:=kq2 (ki hM) ht;unfold Ic at hM;obtain⟨c0,c1,c2⟩:=fq hM;clear hM ht;go_enter func39,ntmps39;go_wp2_with fail;refine Jc HG.a ?_;go_wp2_with fail;refine b8 HG.b fun w2 hb=>?_;have HB:=If hb;clear hb;go_wp2_with fail;go_ret;exact⟨rfl,HB.out⟩
theorem CU{pm px ps limit:Nat}(hM:Ic w pm px ps limit)(k:List UInt8)(ht:Cb 16 #[PV px,SV k] w (Xi z)):
 Cb 99 #[PV pm,SV k] w (Xi z):=by
 have HG:=kq2 (ki hM) ht;unfold Ic at hM;obtain⟨c0,c1,c2⟩:=fq hM;clear hM ht;go_enter func99,ntmps99;go_wp2_with fail;refine Jc HG.a ?_;go_wp2_with fail;refine b8 HG.b fun w2 hb=>?_;have HB:=If hb;clear hb;go_wp2_with fail;go_ret;exact⟨rfl,HB.out⟩
theorem CL{pm px ps limit:Nat}(hM:Ic w pm px ps limit)(a:List UInt8){n:Nat}(hn:n<2^62)(is:Bool)(v:List UInt8)(h1:Cb 16 #[PV px,SV a] w (Xi n))(h2:∀W,Below w.heap.size w W->Cb 17 #[PV px,SV a] W (.tuple #[SV v,.bool is])):
 Cb 98 #[PV pm,SV a] w (Xi (if is=true then(n:Int) else(n:Int)-1)):=by
 have hw:IntKind.i64.wrap ((n:Int)-1)=(n:Int)-1:=az _ (by omega);have HG:=kq3 h1 h2 hM;unfold Ic at hM;obtain⟨c0,c1,c2⟩:=fq hM;clear h1 h2 hM
 cases is
 all_goals
  go_enter func98,ntmps98;go_wp2_with fail;refine b8 HG.a fun w1 hb1=>?_;have ad:=HG.c.below hb1;unfold Ic at ad;obtain⟨d0,d1,d2⟩:=fq ad;have H1:=If hb1;clear hb1 ad;go_wp2_with fail;refine b8 (HG.b _ H1.out) fun w2 hb2=>?_;have H2:=If (H1.out.trans (hb2.mono H1.out.size));clear hb2;go_wp2_with fail;go_ret;exact⟨rfl,H2.out⟩
theorem CS{pm px ps limit:Nat}(hM:Ic w pm px ps limit)(a b t:List UInt8)(was:Bool)(ha:a.length<=limit)(hb:b.length<=limit){Q:World->Prop}(ht:Ct 43 #[PV px,.agg #[SV a,SV b]] w fun e w'=>e=.returned (.tuple #[SV t,.bool was,Xi 0])/\Q w'):
 Ct 24 #[PV pm,SV a,SV b] w fun e w'=>e=.returned (.tuple #[SV t,.bool was,Xi 0])/\Q w':=by
 have HG:=kq2 (vH hM a b ha hb) ht;unfold Ic at hM;obtain⟨c0,c1,c2⟩:=fq hM;clear hM ha hb ht;go_enter func24,ntmps24;go_wp2_with fail;refine Jc HG.a ?_;go_wp2_with fail;refine b8 HG.b fun w2 hr=>?_;have HR:=If hr;clear hr;go_wp2_with fail;go_ret3;exact⟨rfl,HR.out⟩
end
section
open Go.RowKit Tryz Go.BigFrame Go.Maps Go.WideMaps Lf Tr
def Tr.nodes:Tr->List (It×Nd)
 | .nil=>[]
 | .node l d m r=>nodes l++(d,nd l d m r)::nodes r
def Tr.late:Tr->List (It×Nd)
 | .nil=>[]
 | .node l d m r=>(d,nd l d m r)::nodes r
def Tr.restN(r:Tr)(st:List Tr):List (It×Nd):=r.nodes++st.flatMap late
def Tr.topH:Tr->Nat
 | .nil=>0
 | .node _ d _ _=>d.h
theorem Tr.restN_push(l:Tr)(d:It)(m:Nat)(r:Tr)(st:List Tr):restN l (.node l d m r::st)=restN (.node l d m r) st:=by
 unfold restN;simp[nodes,late]
theorem Tr.restN_pop(l:Tr)(d:It)(m:Nat)(r:Tr)(st:List Tr):restN .nil (.node l d m r::st)=(d,nd l d m r)::restN r st:=by
 unfold restN;simp[nodes,late]
theorem Tr.restN_nil:restN .nil []=[]:=rfl
theorem Tr.nodes_its:∀t:Tr,t.nodes.map (·.1)=t.its
 | .nil=>rfl
 | .node l d m r=>by
  show (nodes l++(d,nd l d m r)::nodes r).map (·.1)=l.its++d::r.its
  rw[<-nodes_its l,<-nodes_its r];simp
theorem Tr.nodes_len(t:Tr):t.nodes.length=t.its.length:=by rw[<-nodes_its,ao]
theorem Tr.nodes_h(t:Tr):t.nodes.map (·.1.h)=t.hs:=by
 unfold Tr.hs;rw[<-nodes_its,cD];rfl
theorem Tr.nodes_at {S:St}:∀{t:Tr},At S t->∀x∈t.nodes,∃l m r,x.2=nd l x.1 m r/\At S (.node l x.1 m r)/\l.its.length+r.its.length<t.its.length/\(∀y∈l.its,y∈t.its)/\∀y∈r.its,y∈t.its
 | .nil,_,x,hx=>by cases hx
 | .node l d m r,⟨h1,h2,h3⟩,x,hx=>by
  have hs:∀y,y∈(Tr.node l d m r).its↔y∈l.its\/y=d\/y∈r.its:=fun y=>by
   show y∈l.its++d::r.its↔_
   rw[ax,aj]
  have hl:(Tr.node l d m r).its.length=l.its.length+(r.its.length+1):=by
   show (l.its++d::r.its).length=_
   rw[ah,ag]
  rcases ax.1 (show x∈nodes l++(d,nd l d m r)::nodes r from hx) with hx | hx
  ·obtain⟨l',m',r',e1,e2,e3,e4,e5⟩:=nodes_at h2 x hx;exact⟨l',m',r',e1,e2,by omega,fun y hy=>(hs y).2 (.inl (e4 y hy)),fun y hy=>(hs y).2 (.inl (e5 y hy))⟩
  ·rcases aj.1 hx with rfl | hx
   ·exact⟨l,m,r,rfl,⟨h1,h2,h3⟩,by omega,fun y hy=>(hs y).2 (.inl hy),fun y hy=>(hs y).2 (.inr (.inr hy))⟩
   ·obtain⟨l',m',r',e1,e2,e3,e4,e5⟩:=nodes_at h3 x hx;exact⟨l',m',r',e1,e2,by omega,fun y hy=>(hs y).2 (.inr (.inr (e4 y hy))),fun y hy=>(hs y).2 (.inr (.inr (e5 y hy)))⟩
end
section
open Lf
variable{S:St}{a:Nat}{o:Nat->Nat}{s:Slab}
theorem JQ(a:Nat):∀L:List (Nat×Hr),a∈GB L↔∃y∈L,(y.2.kind=2/\a=y.1*64+2)\/(y.2.kind≠2/\∃k,k<eJ y.2.n/\jI y.2.w k=true/\a=fF y.1 y.2.n k)
 | []=>by simp[GB]
 | (p,x)::r=>by
  rw[GB,ax,JQ a r];have e:a∈(if x.kind=2 then[p*64+2] else((List.range (eJ x.n)).filter fun k=>jI x.w k).map (fF p x.n))↔(x.kind=2/\a=p*64+2)\/(x.kind≠2/\∃k,k<eJ x.n/\jI x.w k=true/\a=fF p x.n k):=by
   by_cases h:x.kind=2
   ·rw[if_pos h];simp[h]
   ·rw[if_neg h];simp only[h,ay,cZ,aZ,false_and,false_or,not_false_eq_true,true_and,ne_eq];constructor
    ·rintro⟨k,⟨h1,h2⟩,h3⟩;exact⟨k,h1,h2,h3.symm⟩
    ·rintro⟨k,h1,h2,h3⟩;exact⟨k,⟨h1,h2⟩,h3.symm⟩
  rw[e];simp only[aj,exists_eq_or_imp]
theorem Kh{n w k:Nat}(hk:k<eJ n):jI w k=w.testBit k:=by
 have:=(jA hk).2;unfold jI;rw[decide_eq_true (by omega),Bool.true_and]
theorem J2(h:Own s o)(a:Nat):a∈G6 s↔∃r,eO s o a r:=by
 unfold G6;rw[JQ]
 constructor
 ·rintro⟨⟨p,x⟩,hy,hc⟩;obtain⟨h1,h2,h3⟩:=(h.mem_heads _).1 hy;simp only at h1 h2 h3 hc;subst h3;have hd:=(h.down p h1 h2).1
  rcases hc with⟨c1,c2⟩ | ⟨c1,k,c2,c3,c4⟩
  ·refine⟨(FA s p).n*64-2,p,h1,h2,.inr ⟨c1,c2,?_⟩⟩
   rcases hd with hd | hd<;>omega
  ·refine⟨_,p,h1,h2,.inl ⟨?_,k,c2,by rw[<-Kh c2];exact c3,c4,rfl⟩⟩
   rcases hd with hd | hd
   ·exact hd.1
   ·exact absurd hd.1 c1
 ·rintro⟨r,p,h1,h2,hb⟩;refine⟨(p,FA s p),(h.mem_heads _).2 ⟨h1,h2,rfl⟩,?_⟩
  rcases hb with⟨b1,k,b2,b3,b4,_⟩ | ⟨b1,b2,_⟩
  ·exact .inr ⟨by simp only;omega,k,b2,by rw[Kh b2];exact b3,b4⟩
  ·exact .inl ⟨b1,b2⟩
theorem JW(s:Slab):∀(ks:List Nat) (nx:Nat),List.Sublist ((gC s nx ks).map (·.1)) ks
 | [],_=>by simp[gC]
 | p::r,nx=>by
  unfold gC;split
  ·exact(JW s r nx).cons _
  ·simp only[bg];exact(JW s r _).cons_cons _
theorem J3{α β:Type}{f:α->β}{l:List α}(hd:l.Nodup)(hi:∀a∈l,∀b∈l,f a=f b->a=b):(l.map f).Nodup:=by
 unfold List.Nodup;rw[dK];refine List.Pairwise.imp_of_mem ?_ hd;intro a b ha hb hne e;exact hne (hi a ha b hb e)
theorem Kz:∀L:List (Nat×Hr),(L.map (·.1)).Pairwise (·<·)->(∀y∈L,kT y.2)->(GB L).Nodup
 | [],_,_=>by simp[GB]
 | (p,x)::r,hp,hk=>by
  rw[bg,bp] at hp;have ad:∀(q:Nat) (y:Hr) (a:Nat),kT y->((y.kind=2/\a=q*64+2)\/(y.kind≠2/\∃k,k<eJ y.n/\jI y.w k=true/\a=fF q y.n k))->a / 64=q:=by
   rintro q y a hy (⟨_,e⟩ | ⟨_,k,h1,_,e⟩)
   ·omega
   ·obtain⟨e1,e2,e3⟩:=qd (jA h1).1 h1 q;omega
  rw[GB,aC];refine⟨?_,Kz r hp.2 fun y hy=>hk y (ak _ hy),?_⟩
  ·split
   ·simp
   ·refine J3 ((List.nodup_range).filter _) fun a ha b hb e=>?_;have ha:=aZ.1 (cZ.1 ha).1;have hb:=aZ.1 (cZ.1 hb).1;exact Ip ha hb e
  ·intro a ha b hb e;subst e;obtain⟨y,hy,hc⟩:=(JQ a r).1 hb;have h1:=ad y.1 y.2 a (hk y (ak _ hy)) hc;have h2:a∈GB [(p,x)]:=by simp only[GB,bD];exact ha
   obtain⟨z,hz,ai⟩:=(JQ a _).1 h2;rw[aA] at hz;subst hz;have h3:=ad p x a (hk _ (am ..)) ai;have:=hp.1 y.1 (List.mem_map_of_mem hy);omega
theorem Ky(h:Own s o):(G6 s).Nodup:=by
 refine Kz _ ((h.wf.sorted).sublist (JW s s.keys 0)) fun y hy=>?_;obtain⟨h1,h2,h3⟩:=(h.mem_heads _).1 hy;rw[h3];exact(h.down _ h1 h2).1
theorem Fw.name_of(hf:Fw S o)(ha:a∈G6 S.a):∃(i:Nat) (x:dR),S.t.slots[i]?=some x/\x.is=1/\x.addr=a/\S.a.rd a=gj x.gen i:=by
 obtain⟨r,hr⟩:=(J2 hf.own a).1 ha;exact hf.full a r hr
theorem Fw.addr_le(hf:Fw S o)(ha:a∈G6 S.a):a<=2^62:=by
 obtain⟨r,hr⟩:=(J2 hf.own a).1 ha;obtain⟨h,hp⟩:=hr;have:=(hp.pos hf.own).1;have:=(eO.ok hf.own ⟨h,hp⟩ (b:=0) (by omega)).2.1;unfold gK at this;omega
theorem LB(hf:Fw S o){i j:Nat}{x y:dR}(hx:S.t.slots[i]?=some x)(hy:S.t.slots[j]?=some y)(e:gj x.gen i % 4294967296=gj y.gen j % 4294967296):i=j:=by
 have h1:=(aq.1 hx).1;have h2:=(aq.1 hy).1;have:=hf.tab.len;have:=hf.tab.most.2;unfold gj at e;omega
theorem Fw.rd_inj(hf:Fw S o){a b:Nat}(ha:a∈G6 S.a)(hb:b∈G6 S.a)(e:S.a.rd a % 4294967296=S.a.rd b % 4294967296):a=b:=by
 obtain⟨i,x,f1,f2,f3,f4⟩:=hf.name_of ha;obtain⟨j,y,g1,g2,g3,g4⟩:=hf.name_of hb;rw[f4,g4] at e;have:=LB hf f1 g1 e;subst this;rw[f1] at g1
 injection g1 with g1
 rw[<-f3,<-g3,g1]
theorem Fw.mem_all(hf:Fw S o)(h:Nat):h∈S.all↔reco S h≠none:=by
 unfold St.all;rw[ay]
 constructor
 ·rintro⟨a,ha,rfl⟩;obtain⟨i,x,f1,f2,f3,f4⟩:=hf.name_of ha;rw[(gT hf.tab).2 ⟨i,x,f1,f2,f4,rfl⟩]
  simp
 ·intro hr;obtain⟨ws,hw⟩:=dA.1 hr;obtain⟨k,x,f1,f2,f3,f4⟩:=(gT hf.tab).1 hw;obtain⟨r,g1,_⟩:=hf.live k x f1 f2;obtain⟨j,y,e1,e2,e3,e4⟩:=hf.full _ _ g1;have:=hf.inj j k y x e1 f1 e2 f2 e3;subst this;rw[f1] at e1
  injection e1 with e1
  exact⟨x.addr,(J2 hf.own _).2 ⟨r,g1⟩,by rw[e4,f3,e1]⟩
theorem Fw.all_nodup(hf:Fw S o):S.all.Nodup:=J3 (Ky hf.own) fun a ha b hb e=>hf.rd_inj ha hb (by rw[e])
theorem Fw.live_le(hf:Fw S o):(G6 S.a).length<=S.t.slots.length:=by
 have h1:((G6 S.a).map fun a=>S.a.rd a % 4294967296-1).Nodup:=by
  refine J3 (Ky hf.own) fun a ha b hb e=>hf.rd_inj ha hb ?_;obtain⟨i,x,f1,f2,f3,f4⟩:=hf.name_of ha;obtain⟨j,y,g1,g2,g3,g4⟩:=hf.name_of hb;have q1:=(aq.1 f1).1;have q2:=(aq.1 g1).1;have:=hf.tab.len;have:=hf.tab.most.2;rw[f4,g4] at e⊢;unfold gj at e⊢;omega
 have h2:=h1.length_le_of_subset (l₂:=List.range S.t.slots.length) (by
  intro z hz;obtain⟨a,ha,rfl⟩:=ay.1 hz;obtain⟨i,x,f1,f2,f3,f4⟩:=hf.name_of ha;have q1:=(aq.1 f1).1;have:=hf.tab.len;have:=hf.tab.most.2;rw[aZ,f4];unfold gj;omega)
 rwa[ao,de] at h2
theorem zq(S:St):S.all.length=(G6 S.a).length:=by unfold St.all;rw[ao]
