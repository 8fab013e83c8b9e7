/- Nodes of B-trees: is, Words, fits: the walks. -/
import Derived.Test.YtpljannolpapgaaGreatDoorVFb
import Derived.Test.YtpljannolpapgaaGreatDoorVCl
import Derived.BigRegion
import Derived.RegionTactic
import Derived.ChangeAlike
import Derived.Test.YtpljannolpapgaaGreatDoorVLh
import Derived.Laws.EntriesVeiled
import Derived.Sort.CutIn
import Derived.Shelf.Spec.SlicesInsertGrow
set_option maxRecDepth 100000
set_option maxHeartbeats 6400000
namespace Go.Proofs.YtpljannolpapgaaGreatDoor
section
open Go.RowKit Tryz Go.BigFrame Go.Maps Go.WideMaps Lf
variable{l:List Nat}{t:Nat}{v:Value}{w:World}
structure Lf.BN where
 keys:List Nat
 vals:List Nat
 kids:List Nat
 size:Nat
def Lf.isDeg(t:Int):Bool:=decide (2<=t) && decide (t<=16)
def FD(w:World)(v:Value)(l:List Nat):Prop:=∃A c,v=.slice A l.length c/\∀(i:Nat) (h:i<l.length),∃g o,A=some ⟨g,o,none⟩/\w.cell? ⟨g,o+i,none⟩=some (Xu (l[i]:Nat))
theorem fK{g o:Nat}(h:w.cell? ⟨g,o,none⟩=some v):g<w.heap.size:=by
 unfold World.cell? at h
 split at h
 ·rename_i heq;exact(gl heq)
 ·cases h
theorem FD.below{w w':World}(h:FD w v l)(hb:Below w.heap.size w w'):FD w' v l:=by
 obtain⟨A,c,rfl,hc⟩:=h;refine⟨A,c,rfl,fun i hi=>?_⟩;obtain⟨g,o,rfl,h1⟩:=hc i hi;exact⟨g,o,rfl,(hb.cell (p:=⟨g,_,none⟩) (fK h1)).trans h1⟩
theorem FD.nil(w:World):FD w (.slice none 0 0) []:=⟨none,0,rfl,fun i hi=>absurd hi (by simp)⟩
theorem qUbab{P:Prop}(h:P:=by
 go_enter func165,ntmps165;go_wp2_with fail;go_ret;exact⟨by rw[HQ.out];rfl,rfl⟩):P:=h
theorem nP(t:Int)(w:World):
 Ct 165 #[Xi t] w fun e w'=>e=.returned (.bool (isDeg t))/\w=w':=by
 by_cases h1:2<=t
 ·by_cases h2:t<=16
  ·have HQ:=If (show isDeg t=true by unfold isDeg;rw[decide_eq_true h1,decide_eq_true h2];rfl);exact qUbab
  ·have HQ:=If (show isDeg t=false by unfold isDeg;rw[decide_eq_false h2];simp);exact qUbab
 ·have HQ:=If (show isDeg t=false by unfold isDeg;rw[decide_eq_false h1];rfl);exact qUbab
theorem Bi(h:FD w v l)(hl:l.length<=100000):
 Ct 243 #[v,Xu 0] w fun e w'=>∃k:Int,e=.returned (Xi k)/\(decide (0<=k)=l.contains 0)/\w=w':=by
 obtain⟨A,c,rfl,hc⟩:=h;obtain⟨n,hn⟩:=Ii l.length;rw[hn] at hl;have H:=kq2 hc hn;rw[hn];clear hc hn;go_enter func243,ntmps243;go_wp2_with fail
 go_loopw [5,8] (fun _ i wr=>∃k:Nat,k<=n/\i=Xi k/\wr=w/\∀(j:Nat) (hj:j<l.length),j<k->l[j]≠0) (fun _ i _=>n-(intOf i).toNat)
 case atStart=>exact⟨0,by omega,rfl,rfl,fun j _ hj=>absurd hj (by omega)⟩
 case round=>
  obtain⟨k,hk,rfl,rfl,ai⟩:=hrel
  by_cases hlt:k<n
  ·have au:(k:Int)<n:=by omega
   have al:k<l.length:=by rw[H.b];exact hlt
   obtain⟨g,o,rfl,c1⟩:=H.a k al
   by_cases h0:l[k]=0
   ·have ad:l.contains 0=true:=by rw[cW,<-h0];exact aF al
    rw[h0] at c1;have HK:=If ad;clear ai ad h0;go_wp2_with fail;go_ret;exact⟨k,rfl,by rw[HK.out];simp,rfl⟩
   ·have ar:((l[k]:Nat):Int)≠0:=by omega
    have an:∀(j:Nat) (hj:j<l.length),j<k+1->l[j]≠0:=fun j hj h1=>by
     rcases bW j k with h2 | h2
     ·exact ai j hj h2
     ·obtain rfl:j=k:=by omega
      exact h0
    have HK:=If an;clear ai an h0;generalize l[k]=x at*;have a0:¬x=0:=by omega
    have a1:¬0=x:=by omega
    have a2:((0:Int)==(x:Int))=false:=by simp;omega
    clear ar;go_wp2_with fail;exact⟨⟨k+1,by omega,by simp,trivial,HK.out⟩,by simp[intOf];omega⟩
  ·obtain rfl:k=n:=by omega
   have ad:l.contains 0=false:=by
    rw[dL];intro h;rw[cW] at h;obtain⟨j,hj,e⟩:=bT.1 h;exact ai j hj (by rw[<-H.b];exact hj) e
   have HK:=If ad;clear ai ad;go_wp2_with fail;go_ret;exact⟨-1,rfl,by rw[HK.out];simp,rfl⟩
theorem Bg(h:FD w v l)(hl:l.length<=100000):
 Ct 226 #[v,Xu 0] w fun e w'=>e=.returned (.bool (l.contains 0))/\w=w':=by
 have HG:=If (Bi h hl);clear h hl;go_enter func226,ntmps226;go_wp2_with fail;refine HG.out.mono ?_;rintro e w1 ⟨k,rfl,hk,rfl⟩;have HK:=If hk;clear hk;go_wp2_with fail;go_ret;exact⟨by rw[<-HK.out];rfl,rfl⟩
def eC(vk vv vc:Value)(s:Nat):Value:=.agg #[vk,vv,vc,Xu s]
structure iU (t:Nat) (n:BN):Prop where
 lo:2<=t
 hi:t<=16
 many:n.keys.length<=2*t-1
 vals:n.vals.length=n.keys.length
 kids:n.kids.length=0\/(n.kids.length=n.keys.length+1/\n.kids.contains 0=false)
theorem om(h1:2<=t)(h2:t<=16):isDeg (t:Int)=true:=by unfold isDeg;rw[decide_eq_true (by omega),decide_eq_true (by omega)];rfl
theorem pW(t:Nat)(h1:2<=t)(h2:t<=16)(w:World):
 Ct 125 #[Xi t] w fun e w'=>e=.returned (Xi (6*(t:Int)))/\w=w':=by
 have HG:=If (om h1 h2▸nP (t:Int) w);go_enter func125,ntmps125;go_wp2_with fail;refine Jc HG.out ?_;go_wp2_with fail;go_ret;exact⟨rfl,rfl⟩
theorem qUbad{P:Prop}(h:P:=by
 go_wp2_with fail;refine Jc (HG.a _) ?_;go_wp2_with fail;go_ret;exact⟨rfl,HG.b⟩):P:=h
theorem pV{n:BN}{vk vv vc:Value}(hn:iU t n)(hk:FD w vk n.keys)(hv:FD w vv n.vals)(hc:FD w vc n.kids):
 Cb 199 #[Xi t,eC vk vv vc n.size] w (.bool true):=by
 obtain⟨h1,h2,h3,h4,h5⟩:=hn;unfold eC;have ad:=fun W (hW:Below w.heap.size w W)=>Bg (hc.below hW) (by omega);have ai:=fun W=>om h1 h2▸nP (t:Int) W;obtain⟨Ak,ck,rfl,-⟩:=hk;obtain⟨Av,cv,rfl,-⟩:=hv;obtain⟨Ac,cc,rfl,-⟩:=hc;rw[h4];obtain⟨k,al⟩:=Ii n.keys.length;rw[al] at h3 h5⊢;generalize n.size=sz at*;have an:(k:Int)<=2*(t:Int)-1:=by omega
 have ar:decide ((k:Int)<=2*(t:Int)-1)=true:=decide_eq_true an
 rcases h5 with h5 | ⟨h5,h6⟩
 ·rw[h5] at ad⊢;have B0:=(ab w.heap.size w).alloc Ih (.cells #[.slice Ak k ck,.slice Av k cv,.slice Ac 0 cc,Xu sz] 215);have q0:=heap_alloc_new w (.cells #[.slice Ak k ck,.slice Av k cv,.slice Ac 0 cc,Xu sz] 215);obtain⟨c0,c1,c2,c3⟩:=Fy q0;have HG:=kq2 ai B0;clear ai B0 ad q0 al h4 h5;go_enter func199,ntmps199;exact qUbad
 ·rw[h6] at ad;rw[h5] at ad⊢;have hq:(((k+1:Nat):Int)==0)=false:=by simp;omega
  have au:((k+1:Nat):Int)=(k:Int)+1:=by omega
  have a0:¬((k:Int)+1=0):=by omega
  have B0:=(ab w.heap.size w).alloc Ih (.cells #[.slice Ak k ck,.slice Av k cv,.slice Ac (k+1) cc,Xu sz] 215);have q0:=heap_alloc_new w (.cells #[.slice Ak k ck,.slice Av k cv,.slice Ac (k+1) cc,Xu sz] 215);obtain⟨c0,c1,c2,c3⟩:=Fy q0;have HG:=kq3 ai B0 ad;clear ai B0 ad q0 al h4 h5 h6;go_enter func199,ntmps199;go_wp2_with fail;refine Jc (HG.c _ HG.b) ?_;exact qUbad
def Lf.wAt(t:Nat)(n:BN)(a b j:Nat):Nat:=
 if j=0 then n.keys.length else if j=1 then n.size
 else if j<2+2*a then(if j % 2=0 then n.keys.getD ((j-2) / 2) 0 else n.vals.getD ((j-2) / 2) 0)
 else if 4*t<=j/\j<4*t+b then n.kids.getD (j-4*t) 0 else 0
def Lf.bnWords(t:Nat)(n:BN):List Nat:=(List.range (6*t)).map (wAt t n n.keys.length n.kids.length)
theorem jJ(t:Nat)(n:BN):(bnWords t n).length=6*t:=by simp[bnWords]
def gO(N:Nat)(f:Nat->Nat):Array Value:=((List.range N).map fun j=>Value.int .u64 (f j)).toArray
theorem mh{N j:Nat}(f:Nat->Nat)(h:j<N):(gO N f)[j]?=some (Xu (f j)):=by
 unfold gO;rw[cg,bi,bH h];rfl
theorem ni{N i:Nat}(f:Nat->Nat)(v:Nat):(gO N f).setIfInBounds i (Xu v)=gO N (fun j=>if j=i then v else f j):=by
 unfold gO;refine Array.ext_getElem? fun j=>?_;rw[List.setIfInBounds_toArray,cg,cg]
 by_cases hj:j<N
 ·by_cases e:i=j
  ·subst e;rw[cf (by simpa using hj),bi,bH hj]
   simp
  ·rw[ct e,bi,bi,bH hj]
   simp[show ¬j=i from fun q=>e q.symm]
 ·rw[aH (by simp;omega),aH (by simp;omega)]
theorem sh{N:Nat}{f g:Nat->Nat}(h:∀j,j<N->f j=g j):gO N f=gO N g:=by
 unfold gO
 congr 1
 refine aP fun j hj=>?_;rw[h j (bw.1 hj)]
theorem Ec(N:Nat):((List.replicate N 0).map fun x:Nat=>Value.int .u64 x).toArray=gO N fun _=>0:=by
 unfold gO
 congr 1
 refine du fun j=>?_
 by_cases hj:j<N
 ·rw[bi,bi,bH hj,List.getElem?_replicate,if_pos hj]
  rfl
 ·rw[aH (by simp;omega),aH (by simp;omega)]
theorem yC(A:Option Addr)(n c:Nat)(w:World):
 Ct 227 #[.slice A n c] w fun e w'=>e=.returned (.func (.func 244) #[] #[PV w.heap.size])/\w'=w.alloc (.cells #[.slice A n c] 177):=by
 go_enter func227,ntmps227
 go_wp2
 go_ret;exact⟨rfl,rfl⟩
structure j7 (t:Nat) (n:BN) (a b:Nat) (w W:World) (vk vv vc:Value):Prop where
 row:W.heap[w.heap.size+1]?=some (.cells (gO (6*t) (wAt t n a b)) 60 (0,0))
 box:W.heap[w.heap.size]?=some (.cells #[vk,vv,vc,Xu n.size] 215 (0,0))
 below:Below w.heap.size w W
theorem j7.two{n:BN}{a b i j x y:Nat}{w W W':World}{vk vv vc:Value}(h:j7 t n a b w W vk vv vc)(a' b':Nat)(hW:W'.heap=((W.setCell ⟨w.heap.size+1,i,none⟩ (Xu x)).setCell ⟨w.heap.size+1,j,none⟩ (Xu y)).heap)(ho:W'.os=W.os)(ht:W'.tape=W.tape)(hu:W'.output=W.output)
 (hr:∀q,q<6*t->wAt t n a' b' q=if q=j then y else if q=i then x else wAt t n a b q):j7 t n a' b' w W' vk vv vc:=by
 have hB:=(h.below.setCell (p:=⟨w.heap.size+1,i,none⟩) (bG _) (Xu x)).setCell (p:=⟨w.heap.size+1,j,none⟩) (bG _) (Xu y);refine⟨?_,?_,⟨ho.trans h.below.os,ht.trans h.below.tape,hu.trans h.below.output,by rw[hW];exact hB.size,fun k hk=>by rw[hW];exact hB.block k hk⟩⟩
 ·rw[hW,heap_setCell (heap_setCell h.row),ni,ni,sh hr]
 ·rw[hW,FB (by omega),FB (by omega)];exact h.box
theorem j7.one{n:BN}{a b i x:Nat}{w W W':World}{vk vv vc:Value}(h:j7 t n a b w W vk vv vc)(a' b':Nat)(hW:W'.heap=(W.setCell ⟨w.heap.size+1,i,none⟩ (Xu x)).heap)(ho:W'.os=W.os)(ht:W'.tape=W.tape)(hu:W'.output=W.output)
 (hr:∀q,q<6*t->wAt t n a' b' q=if q=i then x else wAt t n a b q):j7 t n a' b' w W' vk vv vc:=by
 have hB:=h.below.setCell (p:=⟨w.heap.size+1,i,none⟩) (bG _) (Xu x);refine⟨?_,?_,⟨ho.trans h.below.os,ht.trans h.below.tape,hu.trans h.below.output,by rw[hW];exact hB.size,fun k hk=>by rw[hW];exact hB.block k hk⟩⟩
 ·rw[hW,heap_setCell h.row,ni,sh hr]
 ·rw[hW,FB (by omega)];exact h.box
theorem tS{n:BN}{vk vv vc:Value}(hn:iU t n)(hk:FD w vk n.keys)(hv:FD w vv n.vals)(hc:FD w vc n.kids):
 Ct 200 #[Xi t,eC vk vv vc n.size] w fun e w'=>∃B,e=.returned (.func (.func 244) #[] #[PV B])/\w.heap.size<=B/\w'.heap[B]?=some (.cells #[.slice (some ⟨w.heap.size+1,0,none⟩) (6*t) (6*t)] 177 (0,0))/\
  w'.heap[w.heap.size+1]?=some (.cells (gO (6*t) (wAt t n n.keys.length n.kids.length)) 60 (0,0))/\Below w.heap.size w w':=by
 obtain⟨h1,h2,h3,h4,h5⟩:=hn;unfold eC;have a3:=vB (6*t) (by omega);rw[Ec] at a3;obtain⟨Ak,ck,rfl,hk⟩:=hk;obtain⟨Av,cv,rfl,hv⟩:=hv;obtain⟨Ac,cc,rfl,hc⟩:=hc;obtain⟨k,a0⟩:=Ii n.keys.length;obtain⟨c,au⟩:=Ii n.kids.length;rw[a0] at h3 h4 h5;rw[au] at h5;have bf:c<=2*t:=by rcases h5 with g | ⟨g,_⟩<;>omega
 have HB:=kq6 a0 h4 au hk hv hc;rw[h4,a0,au];clear hk hv hc a0 h4 au h5;generalize a8:n.size=sz;have HS:=If a8;clear a8;have q0:=heap_alloc_new w (.cells #[.slice Ak k ck,.slice Av k cv,.slice Ac c cc,Xu sz] 215);have B0:=(ab w.heap.size w).alloc Ih (.cells #[.slice Ak k ck,.slice Av k cv,.slice Ac c cc,Xu sz] 215);have z0:(w.alloc (.cells #[.slice Ak k ck,.slice Av k cv,.slice Ac c cc,Xu sz] 215)).heap.size=w.heap.size+1:=by simp
 have q1:=heap_alloc_new (w.alloc (.cells #[.slice Ak k ck,.slice Av k cv,.slice Ac c cc,Xu sz] 215)) (.cells (gO (6*t) fun _=>0) 60);have B1:=B0.alloc B0.size (.cells (gO (6*t) fun _=>0) 60);have a6:=(((ab (w.alloc (.cells #[.slice Ak k ck,.slice Av k cv,.slice Ac c cc,Xu sz] 215)).heap.size (w.alloc (.cells #[.slice Ak k ck,.slice Av k cv,.slice Ac c cc,Xu sz] 215))).alloc Ih (.cells (gO (6*t) fun _=>0) 60)).block w.heap.size (by omega)).trans q0;rw[z0] at q1;have a4:=a3 (w.alloc (.cells #[.slice Ak k ck,.slice Av k cv,.slice Ac c cc,Xu sz] 215));rw[z0] at a4;have bj:IntKind.i64.wrap (6*(t:Int))=6*(t:Int):=aB _ (by omega);have ba:((6*t:Nat):Int)=6*(t:Int):=by omega
 rw[ba] at a4;have bk:(0:Int)<6*(t:Int):=by omega
 have bm:(1:Int)<6*(t:Int):=by omega
 clear a3 q0 B0;go_enter func200,ntmps200;go_wp2_with fail;clear a4;generalize a9:(w.alloc (.cells #[.slice Ak k ck,.slice Av k cv,.slice Ac c cc,Xu sz] 215)).alloc (.cells (gO (6*t) fun _=>0) 60)=W1 at*;obtain⟨c0,c1,c2,c3⟩:=Fy a6;have r0:W1.cell? ⟨w.heap.size+1,0,none⟩=some (Xu 0):=by rw[cell_of_block q1,mh _ (by omega)];rfl
 have r1:W1.cell? ⟨w.heap.size+1,1,none⟩=some (Xu 0):=by rw[cell_of_block q1,mh _ (by omega)];rfl
 have f0:W1.frozen? ⟨w.heap.size+1,0,none⟩=false:=AT q1;have f1:W1.frozen? ⟨w.heap.size+1,1,none⟩=false:=AT q1;have bc:¬(w.heap.size=w.heap.size+1):=by omega
 go_region
 go_wp2_with fail;go_name_world W HW
 have hW:j7 t n 0 0 w W (.slice Ak k ck) (.slice Av k cv) (.slice Ac c cc):=by
  refine⟨?_,?_,?_⟩
  ·rw[<-HW];show ((W1.setCell ⟨w.heap.size+1,0,none⟩ (Xu k)).setCell ⟨w.heap.size+1,1,none⟩ (Xu sz)).heap[w.heap.size+1]?=_
   rw[heap_setCell (heap_setCell q1),ni,ni];congr 2
   refine sh fun q hq=>?_;unfold wAt;rw[HB.a,HS.out];by_cases e1:q=1
   ·rw[if_pos e1,if_neg (by omega),if_pos e1]
   ·rw[if_neg e1];by_cases e0:q=0
    ·rw[if_pos e0,if_pos e0]
    ·rw[if_neg e0,if_neg e0,if_neg e1,if_neg (by omega),if_neg (by omega)]
  ·rw[<-HW];show ((W1.setCell ⟨w.heap.size+1,0,none⟩ (Xu k)).setCell ⟨w.heap.size+1,1,none⟩ (Xu sz)).heap[w.heap.size]?=_
   rw[FB (by omega),FB (by omega),HS.out];exact a6
  ·rw[<-HW];have h:=(B1.setCell (p:=⟨w.heap.size+1,0,none⟩) (bG _) (Xu k)).setCell (p:=⟨w.heap.size+1,1,none⟩) (bG _) (Xu sz);exact⟨h.os,h.tape,h.output,h.size,h.block⟩
 clear HW;have HA:=If hW;clear hW r0 r1 f0 f1 bc c0 c1 c2 c3 a6 q1 a9 B1;go_loopw [6,25] (fun _ i wr=>∃j:Nat,j<=k/\i=Xi j/\j7 t n j 0 w wr (.slice Ak k ck) (.slice Av k cv) (.slice Ac c cc)) (fun _ i _=>k-(intOf i).toNat)
 case atStart=>exact⟨0,by omega,rfl,HA.out⟩
 case round=>
  obtain⟨j,hj,rfl,hA⟩:=hrel;by_cases hlt:j<k
  ·have bb:(j:Int)<k:=by omega
   have ad:=hA.box;rw[HS.out] at ad;obtain⟨c0,c1,c2,c3⟩:=Fy ad;have ik:j<n.keys.length:=by rw[HB.a];exact hlt
   have iv:j<n.vals.length:=by rw[HB.b];exact hlt
   obtain⟨gk,ok,rfl,ai⟩:=HB.d j ik;obtain⟨gv,ov,rfl,a2⟩:=HB.e j iv;have lk:=fK ai;have lv:=fK a2;have dk:=(hA.below.cell (p:=⟨gk,ok+j,none⟩) lk).trans ai;have dv:=(hA.below.cell (p:=⟨gv,ov+j,none⟩) lv).trans a2;obtain⟨xk,al⟩:∃x,n.keys[j]=x:=⟨_,rfl⟩;obtain⟨xv,a5⟩:∃x,n.vals[j]=x:=⟨_,rfl⟩;rw[al] at dk;rw[a5] at dv;have ar:n.keys.getD j 0=xk:=by rw[am,af ik,<-al];rfl
   have a7:n.vals.getD j 0=xv:=by rw[am,af iv,<-a5];rfl
   have z2:∀q,2+2*j<=q->q<4*t->wAt t n j 0 q=0:=fun q h1 h2=>by
    unfold wAt;rw[if_neg (by omega),if_neg (by omega),if_neg (by omega),if_neg (by omega)]
   have r0:wr.cell? ⟨w.heap.size+1,2+2*j,none⟩=some (Xu 0):=by
    rw[cell_of_block hA.row,mh _ (by omega),z2 _ (by omega) (by omega)];rfl
   have r1:wr.cell? ⟨w.heap.size+1,2+2*j+1,none⟩=some (Xu 0):=by
    rw[cell_of_block hA.row,mh _ (by omega),z2 _ (by omega) (by omega)];rfl
   have f0:wr.frozen? ⟨w.heap.size+1,2+2*j,none⟩=false:=AT hA.row;have f1:wr.frozen? ⟨w.heap.size+1,2+2*j+1,none⟩=false:=AT hA.row;have n1:¬(w.heap.size=w.heap.size+1):=by omega
   have n2:¬(gk=w.heap.size+1):=by omega
   have n3:¬(gv=w.heap.size+1):=by omega
   have a':2+2*(j:Int)<6*(t:Int):=by omega
   have bd:2+2*(j:Int)+1<6*(t:Int):=by omega
   have HK:=kq4 hA ar a7 hlt;clear hA ad ai a2 z2 al a5 ar a7 lk lv;go_wp2_with fail;go_region
   have HN:=fun W' h1 h2 h3 h4=>HK.a.two (i:=2+2*j) (j:=2+2*j+1) (x:=xk) (y:=xv) (W':=W') (j+1) 0 h1 h2 h3 h4 (fun q hq=>by
    unfold wAt;by_cases e1:q=2+2*j+1
    ·rw[if_pos e1,if_neg (by omega),if_neg (by omega),if_pos (by omega),if_neg (by omega),show (q-2) / 2=j by omega];exact HK.c
    ·rw[if_neg e1];by_cases e0:q=2+2*j
     ·rw[if_pos e0,if_neg (by omega),if_neg (by omega),if_pos (by omega),if_pos (by omega),show (q-2) / 2=j by omega];exact HK.b
     ·rw[if_neg e0];by_cases g0:q=0
      ·rw[if_pos g0,if_pos g0]
      ·rw[if_neg g0,if_neg g0];by_cases g1:q=1
       ·rw[if_pos g1,if_pos g1]
       ·rw[if_neg g1,if_neg g1];by_cases g2:q<2+2*j
        ·rw[if_pos (by omega),if_pos g2]
        ·rw[if_neg (by omega),if_neg g2])
   have a1:=If HN;clear HN r0 r1 f0 f1 n1 n2 n3 c0 c1 c2 c3 dk dv;go_wp2_with fail;go_roundw
   case rel=>exact⟨j+1,HK.d,by simp,a1.out _ rfl rfl rfl rfl⟩
   case measure=>have:=HK.d;simp[intOf];omega
  ·obtain rfl:j=k:=by omega
   have ad:=hA.box;rw[HS.out] at ad;obtain⟨c0,c1,c2,c3⟩:=Fy ad;have HK:=If hA;clear hA ad;go_wp2_with fail;clear c0 c1 c2 c3;go_loopw [7,8,53] (fun _ _ i wr=>∃q:Nat,q<=c/\i=Xi q/\j7 t n j q w wr (.slice Ak j ck) (.slice Av j cv) (.slice Ac c cc)) (fun _ _ i _=>c-(intOf i).toNat)
   case atStart=>exact⟨0,by omega,rfl,HK.out⟩
   case round=>
    obtain⟨q,hq,rfl,hA⟩:=hrel;by_cases hlt:q<c
    ·have bb:(q:Int)<c:=by omega
     have ik:q<n.kids.length:=by rw[HB.c];exact hlt
     obtain⟨gk,ok,rfl,ai⟩:=HB.f q ik;have lk:=fK ai;have dk:=(hA.below.cell (p:=⟨gk,ok+q,none⟩) lk).trans ai;obtain⟨xk,al⟩:∃x,n.kids[q]=x:=⟨_,rfl⟩;rw[al] at dk;have ar:n.kids.getD q 0=xk:=by rw[am,af ik,<-al];rfl
     have r0:wr.cell? ⟨w.heap.size+1,4*t+q,none⟩=some (Xu 0):=by
      rw[cell_of_block hA.row,mh _ (by omega)];unfold wAt;rw[if_neg (by omega),if_neg (by omega),if_neg (by omega),if_neg (by omega)];rfl
     have f0:wr.frozen? ⟨w.heap.size+1,4*t+q,none⟩=false:=AT hA.row;have a':4*(t:Int)+q<6*(t:Int):=by omega
     have an:=kq3 hA ar hlt;clear hA ai al ar lk;go_wp2_with fail;have HN:=fun W' h1 h2 h3 h4=>an.a.one (i:=4*t+q) (x:=xk) (W':=W') j (q+1) h1 h2 h3 h4 (fun p hp=>by
      unfold wAt;by_cases e1:p=4*t+q
      ·rw[if_pos e1,if_neg (by omega),if_neg (by omega),if_neg (by omega),if_pos (by omega),show p-4*t=q by omega];exact an.b
      ·rw[if_neg e1];by_cases g0:p=0
       ·rw[if_pos g0,if_pos g0]
       ·rw[if_neg g0,if_neg g0];by_cases g1:p=1
        ·rw[if_pos g1,if_pos g1]
        ·rw[if_neg g1,if_neg g1];by_cases g2:p<2+2*j
         ·rw[if_pos g2,if_pos g2]
         ·rw[if_neg g2,if_neg g2];by_cases g3:4*t<=p/\p<4*t+q
          ·rw[if_pos (by omega),if_pos g3]
          ·rw[if_neg (by omega),if_neg g3])
     have a1:=If HN;clear HN r0 f0 dk;go_roundw
     case rel=>exact⟨q+1,an.c,by simp,a1.out _ rfl rfl rfl rfl⟩
     case measure=>have:=an.c;simp[intOf];omega
    ·obtain rfl:q=c:=by omega
     have an:=If hA;clear hA;go_wp2_with fail;refine Jc (yC _ _ _ wr) ?_;go_wp2_with fail;go_ret;have hA:=an.out;have hB:=(ab wr.heap.size wr).alloc Ih (.cells #[.slice (some ⟨w.heap.size+1,0,none⟩) (6*t) (6*t)] 177);refine⟨_,rfl,hA.below.size,heap_alloc_new _ _,?_,hA.below.trans (hB.mono hA.below.size)⟩;exact(hB.block _ (gl hA.row)).trans hA.row
end
section
open Go.RowKit Tryz Go.BigFrame Go.Maps Go.WideMaps Lf
open Go.Shelf
variable{S:St}{Y:Nat->Prop}{v:Value}{w:World}
attribute [local go_sem] Oper.semAt_some
structure ir (R:Nat->Prop) (W W':World):Prop where
 size:W.heap.size<=W'.heap.size
 block:∀k,R k->W'.heap[k]?=W.heap[k]?
theorem ir.refl(R:Nat->Prop)(W:World):ir R W W:=⟨Nat.le_refl _,fun _ _=>rfl⟩
theorem ir.trans{R:Nat->Prop}{A B C:World}(h:ir R A B)(k:ir R B C):ir R A C:=⟨aK h.size k.size,fun i hi=>(k.block i hi).trans (h.block i hi)⟩
abbrev lH:= { x:Nat×Nat // x.1<=1000/\x.2<2^64 }
abbrev n9(x:lH):Array Value:=#[Xi x.1.1,Xu x.1.2]
abbrev kO(l:List lH):List (Nat×Nat):=l.map (·.1)
def gN(f:Nat->Nat)(n:Nat):List (Nat×Nat):=(List.range n).map fun j=>(j,f j)
theorem sg(f:Nat->Nat)(n:Nat):gN f (n+1)=gN f n++[(n,f n)]:=by unfold gN;rw[dE,aJ];rfl
theorem Ea(f:Nat->Nat)(n:Nat):(gN f n).length=n:=by simp[gN]
theorem wK(f:Nat->Nat)(k:Nat):∀d,gN f k<+:gN f (k+d)
 | 0=>List.prefix_refl _
 | d+1=>by
  refine(wK f k d).trans ?_;show gN f (k+d)<+:gN f (k+d+1)
  rw[sg];exact List.prefix_append _ _
theorem tC{B G c N:Nat}{f:Nat->Nat}{fr fr':Nat×Nat}(hN:N<=1000)(hf:∀j,j<N->f j<2^64)(hB:w.heap[B]?=some (.cells #[.slice (some ⟨G,0,none⟩) N c] 177 fr))(hG:w.heap[G]?=some (.cells (gO N f) 60 fr'))(R:Nat->Prop)(hRG:R G):
 SeqStopsK Fence.wide 6 prog 244 #[PV B] n9 (ir R) (fun xs=>kO xs=gN f N) (fun pre=>kO pre<+:gN f N) N w:=fun l J Jx W hW hJ hJx hY h0=>by
 have a0:=(gl hB);have a2:=(gl hG);have bb:W.cell? ⟨B,0,none⟩=some (.slice (some ⟨G,0,none⟩) N c):=by rw[cell_of_block ((hW.block B a0).trans hB)];rfl
 have a1:=(hW.block G a2).trans hG;have HY:=If hY;have HJ:=kq2 hJ hJx;have H0:=kq4 h0 a1 hf hRG;clear hY hJ hJx h0 hB hG a1 hW hf hRG a0 a2;refine callsIn_of_wp func244 rfl trivial ?_ rfl;simp only[ntmps244,bp,ak,aM,Nat.reduceAdd,Nat.reduceSub,aV,aW,bx,bg,aY,aR];gi_wp2_with fail;gi_loopw [3,4,7] (fun _ _ i wr=>∃k:Nat,k<=N/\i=Xi k/\Hid (ir R W wr/\∃pX,kO pX=gN f k/\J pX wr)) (fun _ _ i _=>N-(intOf i).toNat)
 case atStart=>exact⟨0,by omega,rfl,ir.refl _ _,[],rfl,H0.a⟩
 case round=>
  obtain⟨k,hk,rfl,an⟩:=hrel;by_cases hlt:k<N
  ·have bc:(k:Int)<N:=by omega
   have hrow:=(an.out.1.block G H0.d).trans H0.b;have hc:wr.cell? ⟨G,k,none⟩=some (Xu (f k)):=by rw[cell_of_block hrow,mh f hlt]
   have a5:=H0.c k hlt;obtain⟨pX,ai,al⟩:=an.out.2;obtain⟨xX,au⟩:∃xX:lH,xX.1=(k,f k):=⟨⟨(k,f k),by omega,a5⟩,rfl⟩;have a8:pX.length=k:=by
    have:=congrArg List.length ai;rw[Ea] at this;simpa using this
   obtain⟨fn,bd,a',ba,hy,ar⟩:=HY.out pX xX wr al (by omega);have a7:kO (pX++[xX])=gN f (k+1):=by rw[sg,<-ai];show (pX++[xX]).map (·.1)=_;rw[aJ];simp[au]
   have ad:=kq2 a7 hlt;dsimp only[n9] at hy
   rw[au] at hy;clear a7 ai a8 al au hrow a5;generalize f k=x at*;gi_wp2_with fail;refine ar.mono ?_;rintro e w4 (⟨rfl,a3,a6⟩ | ⟨rfl,a4⟩)
   ·have H4:=kq2 (an.out.1.trans a6) a3;clear a3 a6 hy ar hc;gi_wp2_with fail;go_roundw
    case rel=>exact⟨k+1,ad.b,by go_num,H4.a,_,ad.a,H4.b⟩
    case measure=>have:=ad.b;simp[intOf];omega
   ·have H4:=If a4;have a9:gN f (k+1)<+:gN f N:=by
     obtain⟨d,hd⟩:∃d,N=k+1+d:=⟨N-(k+1),by have:=ad.b;omega⟩;rw[hd];exact wK f (k+1) d
    clear a4 hy ar hc;gi_wp2_with fail;refine bodyPost_ret (results_none rfl _ _ _) rfl ?_;exact⟨⟨_,rfl⟩,.inr ⟨_,by rw[ad.a];exact a9,H4.out⟩⟩
  ·obtain rfl:k=N:=by omega
   gi_wp2
   go_end0
   obtain⟨pX,ai,al⟩:=an.out.2;exact⟨⟨_,rfl⟩,.inl ⟨_,ai,al⟩⟩
attribute [local go_sem] Oper.semAt_some
theorem eR.own{w w':World}{ps pa pm ph pt:Nat}(h:eR w ps pa pm ph pt v S Y)(hs:w.heap.size<=w'.heap.size)(hc:∀(k:Nat) (o:Obj),w.heap[k]?=some o->(o.isCells=true\/k=pm)->w'.heap[k]?=some o):eR w' ps pa pm ph pt v S Y:=by
 obtain⟨ad,hb⟩:=h.heap.slab;have c1:∀{k:Nat} {cs:Array Value} {t:TypeId} {fr:Nat×Nat},w.heap[k]?=some (.cells cs t fr)->w'.heap[k]?=w.heap[k]?:=fun e=>(hc _ _ e (aa rfl)).trans e.symm;have ht:gA w':=fun j hj=>by
  have:=h.heap.tab j hj;have hx:∃cs t fr,w.heap[fy]?=some (.cells cs t fr):=by
   unfold World.cell? at this
   split at this
   ·rename_i heq;exact⟨_,_,_,heq⟩
   ·cases this
  obtain⟨cs,t,fr,hx⟩:=hx;rw[<-this];exact World.cell?_of_block (c1 hx)
 refine⟨(c1 h.hd).trans h.hd,⟨⟨ad,hb.of_keep hs fun k hk hkk=>?_⟩,(c1 h.heap.hp).trans h.heap.hp,h.heap.yh,ht,h.heap.yt⟩,h.tab.of_keep (c1 h.tab.hd) fun b e=>?_,h.off⟩
 ·rcases hkk with rfl | rfl | ⟨p,hp,rfl⟩
  ·exact c1 hb.hd
  ·obtain⟨es,ck,hm⟩:=hb.map_block;exact(hc _ _ hm (ae rfl)).trans hm.symm
  ·obtain⟨l,hl⟩:=jP.1 hp;exact c1 (hb.pg _ hl)
 ·rcases h.tab.row.2 with⟨e0,_⟩ | ⟨g,ai,al,e0,_,hg,_⟩
  ·rw[e0] at e
   cases e
  ·rw[e0] at e
   injection e with e
   have e:g=b:=e;subst e;exact c1 hg
theorem eR.full{ps pa pm ph pt:Nat}(h:eR w ps pa pm ph pt v S Y):eR w ps pa pm ph pt v S (fun k=>Y k\/(k≠pm/\∃o,w.heap[k]?=some o/\o.isCells=false)):=by
 obtain⟨ai,hb⟩:=h.heap.slab;have hn:∀{k:Nat} {cs:Array Value} {t:TypeId} {fr:Nat×Nat},w.heap[k]?=some (.cells cs t fr)->¬∃o,w.heap[k]?=some o/\o.isCells=false:=fun e ⟨o,h1,h2⟩=>by
  rw[e] at h1
  injection h1 with h1
  rw[<-h1] at h2
  cases h2
 have al:∀{k:Nat},(∃o,w.heap[k]?=some o/\o.isCells=false)->k<w.heap.size:=fun⟨o,h1,_⟩=>(gl h1);have ad:∀k,YS (fun k=>Y k\/(k≠pm/\∃o,w.heap[k]?=some o/\o.isCells=false)) ps ph pt v k->YS Y ps ph pt v k\/(k≠pm/\∃o,w.heap[k]?=some o/\o.isCells=false):=fun k hk=>by
  rcases hk with (hk | hk) | hk
  ·exact aa (aa hk)
  ·exact ae hk
  ·exact aa (ae hk)
 refine⟨h.hd,⟨⟨ai,hb.wf,hb.hd,hb.map,hb.pg,hb.inj,fun hk=>?_,fun hk=>?_,fun p hp hk=>?_,fun k hk=>?_⟩,h.heap.hp,ae (ae (aa rfl)),h.heap.tab,ae (ae (ae (aa rfl)))⟩,h.tab,fun k hk=>?_⟩
 ·rcases ad _ hk with hk | ⟨_,hk⟩
  ·exact hb.ya hk
  ·exact hn hb.hd hk
 ·rcases ad _ hk with hk | ⟨hk,_⟩
  ·exact hb.ym hk
  ·exact hk rfl
 ·rcases ad _ hk with hk | ⟨_,hk⟩
  ·exact hb.yp p hp hk
  ·obtain⟨l,hl⟩:=jP.1 hp;exact hn (hb.pg _ hl) hk
 ·rcases ad _ hk with hk | ⟨_,hk⟩
  ·exact hb.yl k hk
  ·exact al hk
 ·rcases hk with (hk | ⟨_,hk⟩) | hk
  ·exact h.off k (aa hk)
  ·refine⟨?_,fun e=>?_⟩
   ·rintro rfl;exact hn h.tab.hd hk
   ·rcases h.tab.row.2 with⟨e0,_⟩ | ⟨g,an,ar,e0,_,hg,_⟩
    ·rw[e0] at e
     cases e
    ·rw[e0] at e
     injection e with e
     have e:g=k:=e;subst e;exact hn hg hk
  ·exact h.off k (ae hk)
theorem eR.pm_lt{ps pa pm ph pt:Nat}(h:eR w ps pa pm ph pt v S Y):pm<w.heap.size:=by
 obtain⟨ad,hb⟩:=h.heap.slab;exact hb.map.lt
theorem Ex{ps pa pm ph pt:Nat}(h:eR w ps pa pm ph pt v S Y)(hi:Fv S)(hh k x:Nat)(hl:hh<2^64)(hk:k<=2^62)(hx:x<2^64):
 Ct 167 #[PV ps,Xu hh,Xi k,Xu x] w fun e w'=>e=.returned (Xi ((S.put hh k x).1:Nat))/\eR w' ps pa pm ph pt v (S.put hh k x).2 Y/\Fo Y w w':=by
 have ad:=sJ ⟨_,_,_,_,_,h⟩ hi hh k hl hk;have h3:=hi.place_le hh k;obtain⟨R,hR⟩:=Ii (S.put hh k x);rw[hR];rw[St.put_place] at hR
 rcases S.place_cases hh k with⟨p,h1⟩ | ⟨er,h1⟩
 ·rw[h1] at ad h3 hR;simp only at ad h3 hR;obtain⟨_,_,c2,_,_⟩:=h.cells;have an:=h.heap.write p x (by omega) hx;have HG:=kq4 ad hR an h;clear ad hR h hi h1 an;go_enter func167,ntmps167;go_wp2_with fail;refine Jc HG.a ?_;go_wp2_with fail;refine HG.c.mono ?_;rintro e w1 ⟨rfl,ha,ai⟩;have HA:=kq2 (HG.d.arena ha ai) (ai.mono fun _=>YS.self);clear ha ai;go_wp2_with fail;go_ret;obtain rfl:=HG.b;exact⟨rfl,HA.a,HA.b⟩
 ·rw[h1] at ad hR;simp only at ad hR;have ar:(((er+1:Nat):Int) !=0)=true:=by simp;omega
  obtain⟨g1,al⟩:=Ii (er+1);rw[al] at ad hR ar;have HG:=kq3 ad hR h;clear ad hR h hi h1 al;go_enter func167,ntmps167;go_wp2_with fail;refine Jc HG.a ?_;go_wp2_with fail;go_ret;obtain rfl:=HG.b;exact⟨rfl,HG.c,Fo.refl _ _⟩
theorem wC(h:Nat)(x:Nat):∀(l:List Nat) (S:St) (k:Nat),FC S h k (l++[x])=((FC S h k l).put h (k+l.length) x).2
 | [],S,k=>rfl
 | y::l,S,k=>by
  show FC (S.put h k y).2 h (k+1) (l++[x])=_
  rw[wC h x l];show ((FC (S.put h k y).2 h (k+1) l).put h (k+1+l.length) x).2=((FC (S.put h k y).2 h (k+1) l).put h (k+(l.length+1)) x).2
  rw[show k+1+l.length=k+(l.length+1) by omega]
def mf(S:St)(h:Nat)(l:List (Nat×Nat)):St:=l.foldl (fun S x=>(S.put h x.1 x.2).2) S
theorem rU(S:St)(h:Nat)(l:List (Nat×Nat))(x:Nat×Nat):mf S h (l++[x])=((mf S h l).put h x.1 x.2).2:=by unfold mf;rw[List.foldl_append];rfl
theorem wy(S:St)(h:Nat)(f:Nat->Nat):∀N,mf S h (gN f N)=FC S h 0 ((List.range N).map f)
 | 0=>rfl
 | N+1=>by
  rw[sg,rU,wy S h f N,dE,aJ];show _=FC S h 0 ((List.range N).map f++[f N])
  rw[wC];simp
structure yy (w1 W:World) (ps pa pm ph pt:Nat) (v:Value) (S:St) (Y:Nat->Prop) (hh:Nat) (pre:List lH):Prop where
 st:eR W ps pa pm ph pt v (mf S hh (kO pre)) Y
 inv:Fv (mf S hh (kO pre))
 keep:Fo Y w1 W
theorem qUbac{P:Prop}(h:P:=by
 have HK:=If hK;clear hK;simp only[n9]
 gi_wp2
 exact HK.out _ _ (KeepsFrom.refl _ _) (ir.refl _ _) hI rfl):P:=h
theorem Jg{ps:Nat}(h:Ig w ps S Y)(hi:Fv S){t:Nat}{n:BN}{vk vv vc:Value}(hn:iU t n)(hk:FD w vk n.keys)(hv:FD w vv n.vals)(hc:FD w vc n.kids)(hh:Nat)(hl:hh<2^64)(hlen:S.len hh=(6*t,0))(hlt:∀x∈bnWords t n,x<2^64):
 Ct 212 #[PV ps,Xi t,Xu hh,eC vk vv vc n.size] w fun e w'=>e=.returned (Xi 0)/\Ig w' ps (FC S hh 0 (bnWords t n)) Y/\Fo Y w w':=by
 refine(callsIn_wide (n:=7)).1 ?_;have h1:1<=7:=by omega
 have bo:Fence.wide.fn 42:=trivial;have bm:Fence.wide.fn 199:=trivial;have bt:Fence.wide.fn 200:=trivial;have bs:Fence.wide.fn 167:=trivial;have a1:∀W,Below w.heap.size w W->CallsIn Fence.wide 6 prog 42 #[PV ps,Xu 0] W _:=fun W hW=>callsIn_wide.2 (fB (h.below hW) hi 0 (by omega));have an:∀W,Below w.heap.size w W->CallsIn Fence.wide 6 prog 42 #[PV ps,Xu hh] W _:=fun W hW=>callsIn_wide.2 (fB (h.below hW) hi hh hl);rw[fU] at a1;rw[hlen] at an;have a5:∀W,Below w.heap.size w W->CallsIn Fence.wide 6 prog 199 #[Xi t,eC vk vv vc n.size] W _:=fun W hW=>callsIn_wide.2 (pV hn (hk.below hW) (hv.below hW) (hc.below hW));have a6:∀W,Below w.heap.size w W->CallsIn Fence.wide 6 prog 200 #[Xi t,eC vk vv vc n.size] W _:=fun W hW=>callsIn_wide.2 (tS hn (hk.below hW) (hv.below hW) (hc.below hW));unfold eC at a5 a6⊢;have ht:=And.intro hn.lo hn.hi;have bv:IntKind.i64.wrap (6*(t:Int))=6*(t:Int):=aB _ (by omega);have bd:((6*t:Nat):Int)=6*(t:Int):=by omega
 simp only at a1 an;rw[bd] at an;have a7:bnWords t n=(List.range (6*t)).map (wAt t n n.keys.length n.kids.length):=rfl;have HG:=kq8 a1 an a5 a6 h hi hlt a7;obtain⟨Ak,ck,rfl,-⟩:=hk;obtain⟨Av,cv,rfl,-⟩:=hv;obtain⟨Ac,cc,rfl,-⟩:=hc;generalize n.keys.length=lk at*;generalize n.vals.length=lv at*;generalize n.kids.length=lc at*;generalize n.size=sz at*;clear a1 an a5 a6 h hi hlt hn hlen a7;have B0:=(((ab w.heap.size w).alloc Ih (Xh ps)).alloc (by simp) (Xf hh)).alloc (by simp;omega) (.cells #[.slice Ak lk ck,.slice Av lv cv,.slice Ac lc cc,Xu sz] 215);have q7:=heap_alloc_new ((w.alloc (Xh ps)).alloc (Xf hh)) (.cells #[.slice Ak lk ck,.slice Av lv cv,.slice Ac lc cc,Xu sz] 215);have q6:=(((ab ((w.alloc (Xh ps)).alloc (Xf hh)).heap.size ((w.alloc (Xh ps)).alloc (Xf hh))).alloc Ih (.cells #[.slice Ak lk ck,.slice Av lv cv,.slice Ac lc cc,Xu sz] 215)).block (w.alloc (Xh ps)).heap.size (by simp)).trans (heap_alloc_new (w.alloc (Xh ps)) (Xf hh));have q4:=(((ab ((w.alloc (Xh ps)).alloc (Xf hh)).heap.size ((w.alloc (Xh ps)).alloc (Xf hh))).alloc Ih (.cells #[.slice Ak lk ck,.slice Av lv cv,.slice Ac lc cc,Xu sz] 215)).block w.heap.size (by simp;omega)).trans ((((ab (w.alloc (Xh ps)).heap.size (w.alloc (Xh ps))).alloc Ih (Xf hh)).block w.heap.size (by simp)).trans (heap_alloc_new w (Xh ps)));have z1:(w.alloc (Xh ps)).heap.size=w.heap.size+1:=by simp
 have z2:((w.alloc (Xh ps)).alloc (Xf hh)).heap.size=w.heap.size+1+1:=by simp
 have z3:(((w.alloc (Xh ps)).alloc (Xf hh)).alloc (.cells #[.slice Ak lk ck,.slice Av lv cv,.slice Ac lc cc,Xu sz] 215)).heap.size=w.heap.size+1+1+1:=by simp
 rw[z1] at q6;rw[z2] at q7;refine callsIn_of_wp_marks func212 rfl trivial ?_ rfl;simp only[ntmps212,bp,ak,aM,Nat.reduceAdd,Nat.reduceSub,aV,aW,bx,bg,aY,aR];gi_wp2_with fail;generalize (((w.alloc (Xh ps)).alloc (Xf hh)).alloc (.cells #[.slice Ak lk ck,.slice Av lv cv,.slice Ac lc cc,Xu sz] 215))=w0 at*;clear z1 z2;refine(HG.a _ B0).mono ?_;rintro e w1 ⟨rfl,rfl⟩;have x0:(w0).cell? ⟨w.heap.size,0,none⟩=some (PV ps):=by rw[cell_of_block q4];rfl
 have y0:(w0).cell? ⟨w.heap.size+1,0,none⟩=some (Xu hh):=by rw[cell_of_block q6];rfl
 obtain⟨c0,c1,c2,c3⟩:=Fy q7;have H0:=kq4 B0 q4 q6 q7;clear B0 q4 q6 q7;gi_wp2_with fail;clear x0 y0 c0 c1 c2 c3;refine(HG.c _ H0.a).mono ?_;rintro e w1 ⟨rfl,ai⟩;have r4:=(ai.block w.heap.size (by omega)).trans H0.b;have r6:=(ai.block (w.heap.size+1) (by omega)).trans H0.c;have r7:=(ai.block (w.heap.size+1+1) (by omega)).trans H0.d;have s1:=ai.size;have x0:(w1).cell? ⟨w.heap.size,0,none⟩=some (PV ps):=by rw[cell_of_block r4];rfl
 have y0:(w1).cell? ⟨w.heap.size+1,0,none⟩=some (Xu hh):=by rw[cell_of_block r6];rfl
 obtain⟨c0,c1,c2,c3⟩:=Fy r7;have H1:=kq4 (H0.a.trans (ai.mono (by omega))) r4 r6 r7;clear ai r4 r6 r7;gi_wp2_with fail;refine(HG.b _ H1.a).mono ?_;rintro e w2 ⟨rfl,rfl⟩;gi_wp2_with fail;clear x0 y0 c0 c1 c2 c3;refine(HG.d _ H1.a).mono ?_;rintro e w3 ⟨Bx,rfl,bb,rB,rG,al⟩;have t4:=(al.block w.heap.size (by omega)).trans H1.b;have t6:=(al.block (w.heap.size+1) (by omega)).trans H1.c;have B3:=H1.a.trans (al.mono (by omega));have s3:=al.size;have bc:=(gl rG);obtain⟨f,hf⟩:=Ii (wAt t n lk lc);rw[hf] at rG HG;obtain⟨pa,pm,ph,pt,v,a3⟩:=HG.e;have au:=a3.wide B3;have bf:∀j,j<6*t->f j<2^64:=fun j hj=>HG.g _ (by rw[HG.h];exact aA.2 ⟨j,bw.2 hj,rfl⟩);have a2:=au.yl;have b0:pm<w3.heap.size:=au.pm_lt;have H3:=kq5 au t4 t6 B3 a3;have a4:=tC (by omega) bf rB rG (fun k=>Y k\/(w.heap.size<=k/\k<w3.heap.size)) (ae ⟨by omega,bc⟩);clear au t4 t6 B3 rB rG al a3 hf bb;gi_wp2_with fail;refine wpIn_rangeFunc_ownH rfl h1 (gf:=244) (lb:=#[PV Bx]) rfl trivial (enters_of func244 (by kernel_rfl) rfl)
  a4 ir.trans (fun W l o o' h1 h2 h3 h4=>⟨by simp,fun k hk=>World.putObj_heap_other (by have:=a2 k hk;omega)⟩) (ab _ _) (fun _=>rfl)
  (fun ad W=>yy w3 W ps pa pm ph pt v S (fun k=>Y k\/(w.heap.size<=k/\k<w3.heap.size)) hh ad)
  (fun _ _ _=>False)
  (fun ad W W' row hs hg hr=>⟨hs.st.own hg.size (fun k o hk hc=>(hg.block k (gl hk) (fun e=>by
   obtain⟨r1,o',r2,r3⟩:=hr k e.symm
   rcases hc with hc | hc
   ·rw[hk] at r2
    injection r2 with r2;rw[r2,r3] at hc;cases hc
   ·omega)).trans hk),hs.inv,⟨hg.os.trans hs.keep.os,hg.tape.trans hs.keep.tape,hg.output.trans hs.keep.output,aK hs.keep.size hg.size,fun k hk=>(hg.block k (aX (a2 k hk) hs.keep.size) (fun e=>by
   have:=(hr k e.symm).1;have:=a2 k hk;omega)).trans (hs.keep.block k hk)⟩⟩)
  (fun _ _ _ _ _ hs _ _=>hs.elim)
  ⟨H3.a,HG.f,Fo.refl _ _⟩
  (fun x a' _=>a'= { tmps:=#[PV ps,Xi t,Xu hh,.agg #[.slice Ak lk ck,.slice Av lv cv,.slice Ac lc cc,Xu sz],PV w.heap.size,undef,PV (w.heap.size+1),PV (w.heap.size+1+1),Xi 0,Xi 0,Xi 7,Xi (6*(t:Int)),Xi 0,Xi x.1.1,Xu x.1.2,.tuple #[Xi 0,Xi 7],PV ps,.tuple #[Xi 0,Xi 7],Xi 0,Xi 7,Xi 7,.bool false,undef,Xi t,.agg #[.slice Ak lk ck,.slice Av lv cv,.slice Ac lc cc,Xu sz],.bool true,.bool false,.tuple #[Xi (6*(t:Int)),Xi 0],PV ps,Xu hh,.tuple #[Xi (6*(t:Int)),Xi 0],Xi (6*(t:Int)),Xi 0,.bool false,Xi 0,.bool false,undef,.bool false,Xi (6*(t:Int)),Xi t,Xi (6*(t:Int)),.bool false,Xi t,.agg #[.slice Ak lk ck,.slice Av lv cv,.slice Ac lc cc,Xu sz],.func (.func 244) #[] #[PV Bx],Xi x.1.1,Xu x.1.2,undef,undef,undef,undef,undef],defers:=[] })
  (fun x a' _ X W' row hs hg hr=>hs)
  ?assign ?body ?done ?stop
 case assign=>
  rintro l ad ⟨⟨i,x⟩,hx⟩ W K hI hK;exact qUbac
 case body=>
  rintro l ad ⟨⟨i,x⟩,hx⟩ a' W bu _ hI rfl hlt;simp only at hx⊢;have c4:=cell_of_block (o:=0) ((hI.keep.block w.heap.size (ae ⟨Nat.le_refl _,by omega⟩)).trans H3.b);have c6:=cell_of_block (o:=0) ((hI.keep.block (w.heap.size+1) (ae ⟨by omega,by omega⟩)).trans H3.c);have c4:W.cell? ⟨w.heap.size,0,none⟩=some (PV ps):=c4;have c6:W.cell? ⟨w.heap.size+1,0,none⟩=some (Xu hh):=c6;have ba:CallsIn Fence.wide 4 prog 167 #[PV ps,Xu hh,Xi i,Xu x] W _:=callsIn_wide.2 (Ex hI.st.full hI.inv hh i x hl (by omega) hx.2);have hv:∀(hx:_),kO (ad++[(⟨(i,x),hx⟩:lH)])=kO ad++[(i,x)]:=fun hx=>by
   show (ad++[(⟨(i,x),hx⟩:lH)]).map (·.1)=_
   rw[aJ]
   rfl
  have a8:=hI.inv.put hh i x;have HH:=kq4 hI @hv a8 ba;clear hI hv a8 ba a4;gi_wp2_with fail;refine(CallsIn.inRound l HH.d).mono ?_;rintro e w5 ⟨rfl,h5,k5⟩;have H5:=kq2 h5 k5;clear h5 k5 c4 c6;gi_wp2_with fail;have hk:=H5.b;have hI:=HH.a;refine⟨⟨hk.size,fun k o hk1 hk2 hk3=>(hk.block k (ae ⟨by omega,o,hk2,hk3⟩)).trans hk2⟩,⟨hk.size,fun k hk1=>hk.block k (aa hk1)⟩,?_,?_,hI.keep.trans (hk.mono fun k hk=>aa hk)⟩
  ·rw[HH.b,rU];exact H5.a.mono fun k hk=>aa hk
  ·rw[HH.b,rU];exact HH.c
 case done=>
  rintro D ys W hD hS hI hK;have ar:=hI.st;have a0:=hI.keep;rw[hS,wy,<-HG.h] at ar;have HH:=kq3 ar a0 hK;clear hI ar a0 hK hS a4;gi_wp2_with fail;refine⟨by simp,.inl ⟨_,_,rfl,run_takeDeferred HH.c,?_⟩⟩;obtain⟨ar,a0,hK⟩:=HH.out;have a9:∀(k:Nat),k≠D->(W.putObj D (.deferred none)).heap[k]?=W.heap[k]?:=fun k hk=>World.putObj_heap_other hk;have bk:eR (W.putObj D (.deferred none)) ps pa pm ph pt v (FC S hh 0 (bnWords t n)) _:=ar.own (by simp) fun k o hk hc=>(a9 k (by
   rintro rfl
   rcases hc with hc | hc
   ·rw[hK] at hk
    injection hk with hk;rw[<-hk] at hc;cases hc
   ·omega)).trans hk
  have bj:Fo Y W (W.putObj D (.deferred none)):=⟨rfl,rfl,rfl,by simp,fun k hk=>a9 k (by have:=a2 k (aa hk);omega)⟩;refine⟨Xi 0,?_,rfl,⟨pa,pm,ph,pt,v,bk.mono fun k hk=>aa hk⟩,(Fo.of_below H3.d (Ig.yl ⟨_,_,_,_,_,H3.e⟩)).trans ((a0.mono fun k hk=>aa hk).trans bj)⟩
  simp[results,f212,go_sem]
 case stop=>
  intro D c ad W _ _ hI;exact hI.elim
end
section
open Go.RowKit Tryz Go.BigFrame Go.Maps Go.WideMaps Lf
def Lf.bn0:BN:=⟨[],[],[],0⟩
theorem tR {t:Nat}(h1:2<=t)(h2:t<=16):iU t bn0:=⟨h1,h2,cz _,rfl,aa rfl⟩
theorem tQ(t:Nat):∀x∈bnWords t bn0,x<2^64:=by
 intro x hx;unfold bnWords at hx;obtain⟨j,_,rfl⟩:=aA.1 hx;unfold wAt bn0;simp only[aM,List.getD_nil];repeat (first | split | omega)
theorem zG {w:World}{ps:Nat}{S S1:St}{Y:Nat->Prop}(h:Ig w ps S Y)(hi:Fv S){t:Nat}(t1:2<=t)(t2:t<=16)(hm:iw S (6*t)){hh:Nat}(he:S.make (6*t)=((hh,0),S1))(hl:hh<2^64)(hlen:S1.len hh=(6*t,0)):
 Ct 213 #[PV ps,Xi t,eC (.slice none 0 0) (.slice none 0 0) (.slice none 0 0) 0] w fun e w'=>e=.returned (.tuple #[Xu hh,Xi 0])/\Ig w' ps (FC S1 hh 0 (bnWords t bn0)) Y/\Fo Y w w':=by
 have B0:=(ab w.heap.size w).alloc Ih (.cells #[.slice none 0 0,.slice none 0 0,.slice none 0 0,Xu 0] 215);have q0:=heap_alloc_new w (.cells #[.slice none 0 0,.slice none 0 0,.slice none 0 0,Xu 0] 215);have ar:Fv S1:=by have:=hm.2;rw[he] at this;exact this
 have an:=fB (h.below B0) hi 0 (by omega);rw[fU] at an;have ad:=fun W=>pV (w:=W) (tR t1 t2) (FD.nil W) (FD.nil W) (FD.nil W);have ai:=fun W Z (hW:Ig W ps S Z)=>sH hW (6*t) (by omega) hm.1;rw[he] at ai;have al:=fun W Z (hW:Ig W ps S1 Z)=>Jg hW ar (tR t1 t2) (FD.nil W) (FD.nil W) (FD.nil W) hh hl hlen (tQ t);unfold eC at ad al⊢;simp only[bn0] at ad al;have hz:=h.wide B0;have a0:IntKind.i64.wrap (6*(t:Int))=6*(t:Int):=aB _ (by omega);have au:((6*t:Nat):Int)=6*(t:Int):=by omega
 simp only[au] at ai;have HG:=kq7 an ad ai al h B0 hz;obtain⟨c0,c1,c2,c3⟩:=Fy q0;clear an ad ai al h hi ar B0 hz hm he hlen;go_enter func213,ntmps213;go_wp2_with fail;refine Jc HG.a ?_;go_wp2_with fail;refine wx (HG.b _) fun w1 hb1=>?_;have r1:=(hb1.block w.heap.size (by simp)).trans q0;have H1:=kq3 (HG.g.below hb1) r1 (HG.f.trans (hb1.mono (by simp)));clear hb1 r1 c0 c1 c2 c3;go_wp2_with fail;refine(HG.c _ _ H1.a).mono ?_;rintro e w2 ⟨rfl,h2,k2⟩;have r2:=(k2.block w.heap.size (ae ⟨Nat.le_refl _,by simp⟩)).trans H1.b;obtain⟨c0,c1,c2,c3⟩:=Fy r2;have H2:=kq2 h2 k2;clear h2 k2 r2;go_wp2_with fail;refine(HG.d _ _ H2.a).mono ?_;rintro e w3 ⟨rfl,h3,k3⟩;have H3:=kq2 (h3.mono (Z:=Y) fun k hk=>aa hk) ((Fo.of_below H1.c HG.e.yl).trans ((H2.b.trans k3).mono fun k hk=>aa hk));clear h3 k3;go_wp2_with fail;go_ret2;exact⟨rfl,H3.out⟩
end
section
open Go.RowKit Tryz Go.BigFrame Go.Maps Go.WideMaps Lf
open Go.Shelf
variable{D:Nat}{S:St}{W2:World}{Y:Nat->Prop}{l:List Nat}{ps:Nat}{v:Value}{w:World}{x:Nat}
attribute [local go_sem] Oper.semAt_some
theorem zD(h:Ig w ps S Y)(hi:Fv S)(hh:Nat)(hl:hh<2^64){b3 b5:Nat}(c3:w.cell? ⟨b3,0,none⟩=some (PV ps))(c5:w.cell? ⟨b5,0,none⟩=some (Xu hh))(k:Nat)(hk:k<=2^62)(hx:(S.get hh k).1=x):
 Ct 198 #[Xi k,PV b3,PV b5] w fun e w'=>e=.returned (Xu x)/\w=w':=by
 have hg:=sG h hi hh k hl hk;rw[hx] at hg;generalize (S.get hh k).2=er at hg;have HG:=If hg;clear hg h hi hx;go_enter func198,ntmps198;go_wp2_with fail;refine Jc HG.out ?_;go_wp2_with fail;go_ret;exact⟨rfl,rfl⟩
def hV(l:List Nat):List Value:=l.map fun x:Nat=>Value.int .u64 x
theorem uP:(prog.info? 61).map (fun i=>(i.zero,i.size,i.bytes))=some (some (Xu 0),1,8):=by kernel_rfl
abbrev FE(w:World)(B:Nat)(v:Value)(l:List Nat):Prop:=w.ownsRow B 61 1 v l.length (hV l)
theorem jF{B:Nat}(h:FE w B v l)(hl:l.length<=100000)(x:Nat)(hB:B<=w.heap.size)(ty:TypeId):
 ∃v' w',(Builtin.append_ #[59,59] ty #[v,.slice (some ⟨w.heap.size,0,none⟩) 1 1]).run prog (w.alloc (Xf x))=.ok v' w'/\FE w' B v' (l++[x])/\w.grownBy w' v.ownBlock/\(v'.ownBlock=v.ownBlock\/∃g,v'.ownBlock=some g/\w.heap.size<=g):=by
 obtain⟨i,hi,ad,ai,al⟩:=info_parts uP;obtain⟨v',w',h1,h2,h3,_,h4⟩:=run_append_own_at (P:=prog) (w:=w.alloc (Xf x)) B 59 ty 61 i (Xu 0) 1 8 underlying59 hi ad ai al rfl (by decide) v l.length (hV l) (h.alloc _) ⟨w.heap.size,0,none⟩ 1 1 [Xu x] rfl (cell_one_new _ _ _) (by simp[Value.oneCell']) (by unfold maxLen;omega) (by omega) (by simp;omega);refine⟨v',w',h1,?_,(World.grownBy_alloc w _ _).trans h3,?_⟩
 ·have e:hV (l++[x])=hV l++[Xu x]:=by simp[hV]
  unfold FE;rw[e,aD];exact h2
 ·rcases h4 with h4 | h4
  ·exact aa h4
  ·exact ae ⟨_,h4,by simp⟩
attribute [local go_sem] Oper.semAt_some
structure eX (w W:World) (ps hh b12:Nat) (vk vv vc:Value) (sz:Nat):Prop where
 b3:W.heap[w.heap.size]?=some (.cells #[PV ps] 26 (0,0))
 b5:W.heap[w.heap.size+1]?=some (.cells #[Xu hh] 61 (0,0))
 b6:W.heap[w.heap.size+1+1]?=some (.cells #[.slice none 0 0,.slice none 0 0,.slice none 0 0,Xu 0] 215 (0,0))
 b7:W.heap[w.heap.size+1+1+1]?=some (.cells #[Xi 0] 27 (0,0))
 k12:W.heap[b12]?=some (.cells #[.func (.func 198) #[] #[PV w.heap.size,PV (w.heap.size+1)]] 219 (0,0))
 k13:W.heap[b12+1]?=some (.cells #[vk,vv,vc,Xu sz] 215 (0,0))
 below:Below w.heap.size w W
 size:b12+2<=W.heap.size
 at12:b12=w.heap.size+4
structure fN (W:World) (D:Nat) (vk vv vc:Value) (ks vs cs:List Nat):Prop where
 k:FE W D vk ks
 v:FE W D vv vs
 c:FE W D vc cs
 kv:∀g,vk.ownBlock=some g->vv.ownBlock≠some g
 kc:∀g,vk.ownBlock=some g->vc.ownBlock≠some g
 vc:∀g,vv.ownBlock=some g->vc.ownBlock≠some g
theorem kE{P:Program}{o:Oper}{a:Act}{w w':World}{K:Act->World->Prop}{Q:Exit->Act->World->Prop}{v xv v':Value}(s x:Operand)(t:TypeId)
 (ho:o.op=.call { callee:=.builtin .append,args:=#[s,x],argTypes:=#[t,t] }) (hs:a.eval s=v) (hx:a.eval x=xv)
 (hr:(Builtin.append_ #[t,t] o.type #[v,xv]).run P w=.ok v' w') (h:K (a.put o.dst v') w'):Oper.wp P o a w K Q:=by
 unfold Oper.wp execOp;simp only[ho,resolve,invoke,builtin,Sem.run_bind,Sem.run_pure,Result.andThen_ok,List.map_toArray,aL,List.map_nil,hs,hx,hr];exact h
theorem FE.at{w w':World}(h:FE w D v l)(e:∀g,v.ownBlock=some g->w'.heap[g]?=w.heap[g]?):FE w' D v l:=by
 refine⟨h.1,?_⟩
 rcases h.2 with hn | ⟨g,ad,ai,rfl,hb,al,rest⟩
 ·exact .inl hn
 ·exact .inr ⟨g,ad,ai,rfl,hb,(e g rfl).trans al,rest⟩
theorem FE.slice(h:FE w D v l):∃A m c,v=.slice A m c:=by
 rcases h.2 with⟨rfl,_⟩ | ⟨g,ad,ai,rfl,_⟩
 ·exact⟨_,_,_,rfl⟩
 ·exact⟨_,_,_,rfl⟩
theorem FE.ge(h:FE w D v l):∀g,v.ownBlock=some g->D<=g/\g<w.heap.size:=World.ownsRow.lt h
theorem FE.slice2(h:FE w D v l):∃A c,v=.slice A l.length c:=by
 rcases h.2 with⟨rfl,e⟩ | ⟨g,ad,ai,rfl,_⟩
 ·exact⟨none,0,by rw[e]⟩
 ·exact⟨_,_,rfl⟩
theorem FE.hrow(h:FE w D v l):FD w v l:=by
 rcases h.2 with⟨rfl,e⟩ | ⟨g,ad,ai,e,_⟩
 ·exact⟨none,0,by rw[e],fun i hi=>absurd hi (by omega)⟩
 ·refine⟨_,_,e,fun i hi=>⟨g,0,rfl,?_⟩⟩;have:=World.ownsRow.cells h (g:=g) (by rw[e];rfl) i (Xu (l[i]:Nat)) (by simp[hV,hi]);rw[Addr.add_lit] at this
  simpa using this
theorem Below.grownBy{w w':World}(h:Below w.heap.size w w')(row:Option Nat):w.grownBy w' row:=⟨h.os,h.tape,h.output,h.size,fun k hk _=>h.block k hk⟩
theorem fN.below{W W':World}{vk vv vc:Value}{ks vs cs:List Nat}(h:fN W D vk vv vc ks vs cs)(hb:Below W.heap.size W W'):fN W' D vk vv vc ks vs cs:=
 ⟨h.k.at fun g e=>hb.block g (h.k.ge g e).2,h.v.at fun g e=>hb.block g (h.v.ge g e).2,h.c.at fun g e=>hb.block g (h.c.ge g e).2,h.kv,h.kc,h.vc⟩
theorem Be{t hh:Nat}{n:BN}(hn:iU t n)(hlen:S.len hh=(6*t,0))(hg:∀k,k<6*t->S.get hh k=(wAt t n n.keys.length n.kids.length k,0))(k:Nat):(S.get hh k).1=wAt t n n.keys.length n.kids.length k:=by
 by_cases hk:k<6*t
 ·rw[hg k hk]
 ·have h1:=hn.many;have h2:n.kids.length<=n.keys.length+1:=by rcases hn.kids with h | h<;>omega
  have h3:=hn.lo;unfold wAt;rw[if_neg (by omega),if_neg (by omega),if_neg (by omega),if_neg (by omega)];unfold St.len at hlen;unfold St.get
  rcases S.at_cases hh with⟨a,m,e,_⟩ | ⟨e,_⟩
  ·rw[e] at hlen⊢;have:m=6*t:=(Prod.mk.inj hlen).1;simp only;rw[if_neg (by omega)]
  ·rw[e]
   rfl
theorem oZ{b:Nat}{v0 v1 v2 v3 u0 u1 u2 u3:Value}{ty:TypeId}{fr:Nat×Nat}(h:w.heap[b]?=some (.cells #[v0,v1,v2,v3] ty fr)):((((w.setCell ⟨b,0,none⟩ (u0)).setCell ⟨b,1,none⟩ (u1)).setCell ⟨b,2,none⟩ (u2)).setCell ⟨b,3,none⟩ (u3)).heap[b]?=some (.cells #[u0,u1,u2,u3] ty fr):=by
 have h1:=heap_setCell (i:=0) (v:=u0) h;have h2:=heap_setCell (i:=1) (v:=u1) h1;have h3:=heap_setCell (i:=2) (v:=u2) h2;exact heap_setCell (i:=3) (v:=u3) h3
theorem sy{b k:Nat}{u0 u1 u2 u3:Value}(hk:k≠b):((((w.setCell ⟨b,0,none⟩ (u0)).setCell ⟨b,1,none⟩ (u1)).setCell ⟨b,2,none⟩ (u2)).setCell ⟨b,3,none⟩ (u3)).heap[k]?=w.heap[k]?:=by
 rw[FB hk,FB hk,FB hk,FB hk]
theorem oY{w w0:World}{n b:Nat}{u0 u1 u2 u3:Value}(h:Below n w0 w)(hb:n<=b):Below n w0 ((((w.setCell ⟨b,0,none⟩ (u0)).setCell ⟨b,1,none⟩ (u1)).setCell ⟨b,2,none⟩ (u2)).setCell ⟨b,3,none⟩ (u3)):=
 (((h.setCell (p:=⟨b,0,none⟩) hb u0).setCell (p:=⟨b,1,none⟩) hb u1).setCell (p:=⟨b,2,none⟩) hb u2).setCell (p:=⟨b,3,none⟩) hb u3
theorem fN.lift{W W':World}{D D':Nat}{vk vv vc:Value}{ks vs cs:List Nat}(h:fN W D vk vv vc ks vs cs)(hD:D'<=D)(e:∀g,D<=g->g<W.heap.size->W'.heap[g]?=W.heap[g]?):fN W' D' vk vv vc ks vs cs:=by
 have low:∀{v:Value} {l:List Nat},FE W D v l->FE W' D' v l:=fun hh=>by
  have:=hh.at (w':=W') fun g q=>e g (hh.ge g q).1 (hh.ge g q).2;refine⟨this.1,?_⟩
  rcases this.2 with hn | ⟨g,ad,ai,rfl,hb,rest⟩
  ·exact .inl hn
  ·exact .inr ⟨g,ad,ai,rfl,aK hD hb,rest⟩
 exact⟨low h.k,low h.v,low h.c,h.kv,h.kc,h.vc⟩
theorem dY{p:Addr}{x:Value}{k:Nat}(hk:k≠p.block):(w.setCell p x).heap[k]?=w.heap[k]?:=di w p x k hk
theorem eX.drew{w W:World}{ps hh b12 sz:Nat}{vk vv vc:Value}(h:eX w W ps hh b12 vk vv vc sz):eX w W.drew ps hh b12 vk vv vc sz:=⟨h.b3,h.b5,h.b6,h.b7,h.k12,h.k13,h.below.drew,h.size,h.at12⟩
theorem fN.drew{W:World}{vk vv vc:Value}{ks vs cs:List Nat}(h:fN W D vk vv vc ks vs cs):fN W.drew D vk vv vc ks vs cs:=⟨h.k,h.v,h.c,h.kv,h.kc,h.vc⟩
theorem eX.grown{w W W2:World}{ps hh b12 sz:Nat}{vk vv vc:Value}{row:Option Nat}(h:eX w W ps hh b12 vk vv vc sz)(hg:W.grownBy W2 row)(hr:∀g,row=some g->b12+2<=g):eX w W2 ps hh b12 vk vv vc sz:=by
 have e:∀k,k<b12+2->W2.heap[k]?=W.heap[k]?:=fun k hk=>hg.block k (by have:=h.size;omega) (fun e=>by have:=hr k e.symm;omega);have ha:=h.at12;exact⟨(e _ (by omega)).trans h.b3,(e _ (by omega)).trans h.b5,(e _ (by omega)).trans h.b6,(e _ (by omega)).trans h.b7,(e _ (by omega)).trans h.k12,(e _ (by omega)).trans h.k13,
  h.below.trans ⟨hg.os,hg.tape,hg.output,hg.size,fun k hk=>e k (by omega)⟩,aK h.size hg.size,ha⟩
theorem eX.up{w W W2:World}{ps hh b12 sz:Nat}{vk vv vc:Value}(h:eX w W ps hh b12 vk vv vc sz)(hb:Below W.heap.size W W2):eX w W2 ps hh b12 vk vv vc sz:=h.grown (row:=none) (Below.grownBy hb none) fun _ e=>nomatch e
theorem eX.set0{w W:World}{ps hh b12 sz:Nat}{vk vv vc:Value}(h:eX w W ps hh b12 vk vv vc sz)(v':Value):eX w (W.setCell ⟨b12+1,0,none⟩ v') ps hh b12 v' vv vc sz:=by
 have e:∀k,k≠b12+1->(W.setCell ⟨b12+1,0,none⟩ v').heap[k]?=W.heap[k]?:=fun k hk=>dY hk;have ha:=h.at12;have hz:(W.setCell ⟨b12+1,0,none⟩ v').heap.size=W.heap.size:=World.size_setCell _ _ _;have q:=heap_setCell (i:=0) (v:=v') h.k13;refine⟨(e _ (by omega)).trans h.b3,(e _ (by omega)).trans h.b5,(e _ (by omega)).trans h.b6,(e _ (by omega)).trans h.b7,(e _ (by omega)).trans h.k12,by simpa using q,?_,by rw[hz];exact h.size,ha⟩;exact h.below.setCell (p:=⟨b12+1,0,none⟩) (by show w.heap.size<=b12+1;omega) v'
theorem qUbaa{P:Prop}(h:P:=by
 rcases hv with hv | ⟨g',e',hl⟩
 ·exact hn g (hv▸e) e2
 ·have:=(hh.ge g e2).2;rw[e] at e'
  cases e'
  omega):P:=h
theorem sK{w W:World}{ps hh b12 sz:Nat}{vk vv vc v':Value}{ks vs cs:List Nat}(gb:eX w W ps hh b12 vk vv vc sz)(rows:fN W (b12+2) vk vv vc ks vs cs)(h:FE W2 (b12+2) v' (ks++[x]))(hg:W.grownBy W2 vk.ownBlock)(hv:v'.ownBlock=vk.ownBlock\/∃g,v'.ownBlock=some g/\W.heap.size<=g):
 eX w (W2.setCell ⟨b12+1,0,none⟩ v') ps hh b12 v' vv vc sz/\fN (W2.setCell ⟨b12+1,0,none⟩ v') (b12+2) v' vv vc (ks++[x]) vs cs:=by
 refine⟨(gb.grown hg fun g e=>(rows.k.ge g e).1).set0 v',?_⟩;have st:∀{v:Value} {l:List Nat},FE W2 (b12+2) v l->FE (W2.setCell ⟨b12+1,0,none⟩ v') (b12+2) v l:=fun hh=>hh.at fun g e=>dY (by have:=(hh.ge g e).1;show g≠b12+1;omega);have k1:∀{v:Value} {l:List Nat},FE W (b12+2) v l->(∀g,vk.ownBlock=some g->v.ownBlock≠some g)->FE W2 (b12+2) v l:=fun hh hn=>hh.at fun g e=>hg.block g (hh.ge g e).2 (fun e2=>hn g e2.symm e);have nw:∀{v:Value} {l:List Nat},FE W (b12+2) v l->(∀g,vk.ownBlock=some g->v.ownBlock≠some g)->∀g,v'.ownBlock=some g->v.ownBlock≠some g:=fun hh hn g e e2=>by
  exact qUbaa
 exact { k:=st h,v:=st (k1 rows.v (rows.kv)),c:=st (k1 rows.c (rows.kc)),kv:=nw rows.v (rows.kv),kc:=nw rows.c (rows.kc),vc:=rows.vc }
theorem eX.set1{w W:World}{ps hh b12 sz:Nat}{vk vv vc:Value}(h:eX w W ps hh b12 vk vv vc sz)(v':Value):eX w (W.setCell ⟨b12+1,1,none⟩ v') ps hh b12 vk v' vc sz:=by
 have e:∀k,k≠b12+1->(W.setCell ⟨b12+1,1,none⟩ v').heap[k]?=W.heap[k]?:=fun k hk=>dY hk;have ha:=h.at12;have hz:(W.setCell ⟨b12+1,1,none⟩ v').heap.size=W.heap.size:=World.size_setCell _ _ _;have q:=heap_setCell (i:=1) (v:=v') h.k13;refine⟨(e _ (by omega)).trans h.b3,(e _ (by omega)).trans h.b5,(e _ (by omega)).trans h.b6,(e _ (by omega)).trans h.b7,(e _ (by omega)).trans h.k12,by simpa using q,?_,by rw[hz];exact h.size,ha⟩;exact h.below.setCell (p:=⟨b12+1,1,none⟩) (by show w.heap.size<=b12+1;omega) v'
theorem sL{w W:World}{ps hh b12 sz:Nat}{vk vv vc v':Value}{ks vs cs:List Nat}(gb:eX w W ps hh b12 vk vv vc sz)(rows:fN W (b12+2) vk vv vc ks vs cs)(h:FE W2 (b12+2) v' (vs++[x]))(hg:W.grownBy W2 vv.ownBlock)(hv:v'.ownBlock=vv.ownBlock\/∃g,v'.ownBlock=some g/\W.heap.size<=g):
 eX w (W2.setCell ⟨b12+1,1,none⟩ v') ps hh b12 vk v' vc sz/\fN (W2.setCell ⟨b12+1,1,none⟩ v') (b12+2) vk v' vc ks (vs++[x]) cs:=by
 refine⟨(gb.grown hg fun g e=>(rows.v.ge g e).1).set1 v',?_⟩;have st:∀{v:Value} {l:List Nat},FE W2 (b12+2) v l->FE (W2.setCell ⟨b12+1,1,none⟩ v') (b12+2) v l:=fun hh=>hh.at fun g e=>dY (by have:=(hh.ge g e).1;show g≠b12+1;omega);have k1:∀{v:Value} {l:List Nat},FE W (b12+2) v l->(∀g,vv.ownBlock=some g->v.ownBlock≠some g)->FE W2 (b12+2) v l:=fun hh hn=>hh.at fun g e=>hg.block g (hh.ge g e).2 (fun e2=>hn g e2.symm e);have nw:∀{v:Value} {l:List Nat},FE W (b12+2) v l->(∀g,vv.ownBlock=some g->v.ownBlock≠some g)->∀g,v'.ownBlock=some g->v.ownBlock≠some g:=fun hh hn g e e2=>by
  exact qUbaa
 exact { k:=st (k1 rows.k (fun g e e2=>rows.kv g e2 e)),v:=st h,c:=st (k1 rows.c (rows.vc)),kv:=fun g e e2=>nw rows.k (fun g e e2=>rows.kv g e2 e) g e2 e,kc:=rows.kc,vc:=nw rows.c (rows.vc) }
theorem eX.set2{w W:World}{ps hh b12 sz:Nat}{vk vv vc:Value}(h:eX w W ps hh b12 vk vv vc sz)(v':Value):eX w (W.setCell ⟨b12+1,2,none⟩ v') ps hh b12 vk vv v' sz:=by
 have e:∀k,k≠b12+1->(W.setCell ⟨b12+1,2,none⟩ v').heap[k]?=W.heap[k]?:=fun k hk=>dY hk;have ha:=h.at12;have hz:(W.setCell ⟨b12+1,2,none⟩ v').heap.size=W.heap.size:=World.size_setCell _ _ _;have q:=heap_setCell (i:=2) (v:=v') h.k13;refine⟨(e _ (by omega)).trans h.b3,(e _ (by omega)).trans h.b5,(e _ (by omega)).trans h.b6,(e _ (by omega)).trans h.b7,(e _ (by omega)).trans h.k12,by simpa using q,?_,by rw[hz];exact h.size,ha⟩;exact h.below.setCell (p:=⟨b12+1,2,none⟩) (by show w.heap.size<=b12+1;omega) v'
theorem sN{w W:World}{ps hh b12 sz:Nat}{vk vv vc v':Value}{ks vs cs:List Nat}(gb:eX w W ps hh b12 vk vv vc sz)(rows:fN W (b12+2) vk vv vc ks vs cs)(h:FE W2 (b12+2) v' (cs++[x]))(hg:W.grownBy W2 vc.ownBlock)(hv:v'.ownBlock=vc.ownBlock\/∃g,v'.ownBlock=some g/\W.heap.size<=g):
 eX w (W2.setCell ⟨b12+1,2,none⟩ v') ps hh b12 vk vv v' sz/\fN (W2.setCell ⟨b12+1,2,none⟩ v') (b12+2) vk vv v' ks vs (cs++[x]):=by
 refine⟨(gb.grown hg fun g e=>(rows.c.ge g e).1).set2 v',?_⟩;have st:∀{v:Value} {l:List Nat},FE W2 (b12+2) v l->FE (W2.setCell ⟨b12+1,2,none⟩ v') (b12+2) v l:=fun hh=>hh.at fun g e=>dY (by have:=(hh.ge g e).1;show g≠b12+1;omega);have k1:∀{v:Value} {l:List Nat},FE W (b12+2) v l->(∀g,vc.ownBlock=some g->v.ownBlock≠some g)->FE W2 (b12+2) v l:=fun hh hn=>hh.at fun g e=>hg.block g (hh.ge g e).2 (fun e2=>hn g e2.symm e);have nw:∀{v:Value} {l:List Nat},FE W (b12+2) v l->(∀g,vc.ownBlock=some g->v.ownBlock≠some g)->∀g,v'.ownBlock=some g->v.ownBlock≠some g:=fun hh hn g e e2=>by
  exact qUbaa
 exact { k:=st (k1 rows.k (fun g e e2=>rows.kc g e2 e)),v:=st (k1 rows.v (fun g e e2=>rows.vc g e2 e)),c:=st h,kv:=rows.kv,kc:=fun g e e2=>nw rows.k (fun g e e2=>rows.kc g e2 e) g e2 e,vc:=fun g e e2=>nw rows.v (fun g e e2=>rows.vc g e2 e) g e2 e }
structure pr (w W:World) (ps hh:Nat):Prop where
 b3:W.heap[w.heap.size]?=some (.cells #[PV ps] 26 (0,0))
 b5:W.heap[w.heap.size+1]?=some (.cells #[Xu hh] 61 (0,0))
 b6:W.heap[w.heap.size+1+1]?=some (.cells #[.slice none 0 0,.slice none 0 0,.slice none 0 0,Xu 0] 215 (0,0))
 b7:W.heap[w.heap.size+1+1+1]?=some (.cells #[Xi 0] 27 (0,0))
 below:Below w.heap.size w W
 size:W.heap.size=w.heap.size+4
theorem uz(w:World)(ps hh:Nat):pr w ((((w.alloc (Xh ps)).alloc (Xf hh)).alloc (.cells #[.slice none 0 0,.slice none 0 0,.slice none 0 0,Xu 0] 215)).alloc (.cells #[Xi 0] 27)) ps hh:=by
 have z1:(w.alloc (Xh ps)).heap.size=w.heap.size+1:=by simp
 have z2:((w.alloc (Xh ps)).alloc (Xf hh)).heap.size=w.heap.size+2:=by simp
 have z3:(((w.alloc (Xh ps)).alloc (Xf hh)).alloc (.cells #[.slice none 0 0,.slice none 0 0,.slice none 0 0,Xu 0] 215)).heap.size=w.heap.size+3:=by simp
 have z4:((((w.alloc (Xh ps)).alloc (Xf hh)).alloc (.cells #[.slice none 0 0,.slice none 0 0,.slice none 0 0,Xu 0] 215)).alloc (.cells #[Xi 0] 27)).heap.size=w.heap.size+4:=by simp
 have B1:=(ab w.heap.size w).alloc Ih (Xh ps);have q1:=heap_alloc_new w (Xh ps);have q2:=heap_alloc_new (w.alloc (Xh ps)) (Xf hh);have q3:=heap_alloc_new ((w.alloc (Xh ps)).alloc (Xf hh)) (.cells #[.slice none 0 0,.slice none 0 0,.slice none 0 0,Xu 0] 215);have q4:=heap_alloc_new (((w.alloc (Xh ps)).alloc (Xf hh)).alloc (.cells #[.slice none 0 0,.slice none 0 0,.slice none 0 0,Xu 0] 215)) (.cells #[Xi 0] 27);rw[z1] at q2;rw[z2] at q3;rw[z3] at q4;generalize (w.alloc (Xh ps))=w1 at*;have e2:=(ab w1.heap.size w1).alloc Ih (Xf hh);generalize w1.alloc (Xf hh)=w2 at*;have e3:=(ab w2.heap.size w2).alloc Ih (.cells #[.slice none 0 0,.slice none 0 0,.slice none 0 0,Xu 0] 215);generalize w2.alloc (.cells #[.slice none 0 0,.slice none 0 0,.slice none 0 0,Xu 0] 215)=w3 at*;have e4:=(ab w3.heap.size w3).alloc Ih (.cells #[Xi 0] 27);generalize w3.alloc (.cells #[Xi 0] 27)=w4 at*;have up:∀{a b:World} {k:Nat} {o:Obj},Below a.heap.size a b->a.heap[k]?=some o->b.heap[k]?=some o:=fun h e=>(h.block _ (gl e)).trans e;refine⟨up e4 (up e3 (up e2 q1)),up e4 (up e3 q2),up e4 q3,q4,?_,z4⟩;exact B1.trans ((e2.trans ((e3.trans (e4.mono (by omega))).mono (by omega))).mono (by omega))
theorem pr.six{w W:World}{ps hh:Nat}(h:pr w W ps hh)(sz:Nat):eX w ((W.alloc (.cells #[.func (.func 198) #[] #[PV w.heap.size,PV (w.heap.size+1)]] 219)).alloc (Xl sz)) ps hh W.heap.size (.slice none 0 0) (.slice none 0 0) (.slice none 0 0) sz:=by
 have q5:=heap_alloc_new W (.cells #[.func (.func 198) #[] #[PV w.heap.size,PV (w.heap.size+1)]] 219);have q6:=heap_alloc_new (W.alloc (.cells #[.func (.func 198) #[] #[PV w.heap.size,PV (w.heap.size+1)]] 219)) (Xl sz);have z5:(W.alloc (.cells #[.func (.func 198) #[] #[PV w.heap.size,PV (w.heap.size+1)]] 219)).heap.size=W.heap.size+1:=by simp
 have z6:((W.alloc (.cells #[.func (.func 198) #[] #[PV w.heap.size,PV (w.heap.size+1)]] 219)).alloc (Xl sz)).heap.size=W.heap.size+2:=by simp
 rw[z5] at q6;have e5:=(ab W.heap.size W).alloc Ih (.cells #[.func (.func 198) #[] #[PV w.heap.size,PV (w.heap.size+1)]] 219);generalize W.alloc (.cells #[.func (.func 198) #[] #[PV w.heap.size,PV (w.heap.size+1)]] 219)=w5 at*;have e6:=(ab w5.heap.size w5).alloc Ih (Xl sz);generalize w5.alloc (Xl sz)=w6 at*;have hz:=h.size;have up:∀{a b:World} {k:Nat} {o:Obj},Below a.heap.size a b->a.heap[k]?=some o->b.heap[k]?=some o:=fun h e=>(h.block _ (gl e)).trans e;exact⟨up e6 (up e5 h.b3),up e6 (up e5 h.b5),up e6 (up e5 h.b6),up e6 (up e5 h.b7),up e6 q5,q6,h.below.trans ((e5.trans (e6.mono (by omega))).mono (by omega)),by omega,hz⟩
attribute [local go_sem] Oper.semAt_some
theorem zE(h:Ig w ps S Y)(hi:Fv S){t:Nat}{n:BN}(hn:iU t n)(hh:Nat)(hl:hh<2^64)(hlen:S.len hh=(6*t,0))(hg:∀k,k<6*t->S.get hh k=(wAt t n n.keys.length n.kids.length k,0))(hlt:∀x∈bnWords t n,x<2^64):
 Ct 166 #[PV ps,Xi t,Xu hh] w fun e w'=>∃vk vv vc,e=.returned (.tuple #[eC vk vv vc n.size,Xi 0])/\fN w' w.heap.size vk vv vc n.keys n.vals n.kids/\Below w.heap.size w w':=by
 refine(callsIn_wide (n:=7)).1 ?_;have h1:1<=7:=by omega
 have d9:Fence.wide.fn 42:=trivial;have d8:Fence.wide.fn 165:=trivial;have d6:Fence.wide.fn 199:=trivial;have d':Fence.wide.fn 200:=trivial;have d7:Fence.wide.fn 198:=trivial;have d5:∀(args:Array Value) (w:World),(callFunc 198 args).run prog w=.ok (.enter 198 args) w:=fun args w=>by go_simp
 have bk:∀W,Below w.heap.size w W->CallsIn Fence.wide 6 prog 42 #[PV ps,Xu 0] W _:=fun W hW=>callsIn_wide.2 (fB (h.below hW) hi 0 (by omega));have a3:∀W,Below w.heap.size w W->CallsIn Fence.wide 6 prog 42 #[PV ps,Xu hh] W _:=fun W hW=>callsIn_wide.2 (fB (h.below hW) hi hh hl);rw[fU] at bk;rw[hlen] at a3;have ca:∀W,CallsIn Fence.wide 6 prog 165 #[Xi t] W _:=fun W=>callsIn_wide.2 (om hn.lo hn.hi▸nP (t:Int) W);have a2:∀W,Below w.heap.size w W->W.heap[w.heap.size]?=some (.cells #[PV ps] 26 (0,0))->W.heap[w.heap.size+1]?=some (.cells #[Xu hh] 61 (0,0))->∀(k:Nat) (_:k<=1000),Ct 198 #[Xi k,PV w.heap.size,PV (w.heap.size+1)] W fun e w'=>e=.returned (Xu (wAt t n n.keys.length n.kids.length k:Nat))/\W=w':=fun W hW e3 e5 k hk=>
  zD (h.below hW) hi hh hl (by rw[cell_of_block e3];rfl) (by rw[cell_of_block e5];rfl) k (by omega) (Be hn hlen hg k)
 have ht:=And.intro hn.lo hn.hi;have eg:IntKind.i64.wrap (6*(t:Int))=6*(t:Int):=aB _ (by omega);have cs:((6*t:Nat):Int)=6*(t:Int):=by omega
 simp only at bk a3;rw[cs] at a3;obtain⟨kn,a1⟩:=Ii n.keys.length;obtain⟨cn,ba⟩:=Ii n.kids.length;obtain⟨sz,au⟩:=Ii n.size;have cb:kn<=2*t-1:=by rw[<-a1];exact hn.many
 have d3:cn=0\/cn=kn+1:=by rw[<-a1,<-ba];exact hn.kids.imp id And.left
 have ec:kn<2^64:=by omega
 rw[a1,ba] at a2;have g0:wAt t n kn cn 0=kn:=by unfold wAt;rw[if_pos rfl,a1]
 have g1:wAt t n kn cn 1=sz:=by unfold wAt;rw[if_neg (by omega),if_pos rfl,au]
 have six:=uz w ps hh;have bv:=fun W (hW:Below w.heap.size w W) e3 e5=>callsIn_wide (n:=6) |>.2 (a2 W hW e3 e5 0 (by omega))
 have b0:=fun W (hW:Below w.heap.size w W) e3 e5=>callsIn_wide (n:=6) |>.2 (a2 W hW e3 e5 1 (by omega))
 rw[g0] at bv;rw[g1] at b0;have HG:=kq13 bk a3 ca bv b0 a2 h hi hn a1 ba au hlt;clear bk a3 ca bv b0 a2 h hi hn a1 ba au hlt hg hlen g0 g1;refine callsIn_of_wp_marks func166 rfl trivial ?_ rfl;simp only[ntmps166,bp,ak,aM,Nat.reduceAdd,Nat.reduceSub,aV,aW,bx,bg,aY,aR];gi_wp2_with fail;generalize ((((w.alloc (Xh ps)).alloc (Xf hh)).alloc (.cells #[.slice none 0 0,.slice none 0 0,.slice none 0 0,Xu 0] 215)).alloc (.cells #[Xi 0] 27))=w4 at*;have e3:=six.b3;have e5:=six.b5;have x0:(w4).cell? ⟨w.heap.size,0,none⟩=some (PV ps):=by rw[cell_of_block e3];rfl
 have y0:(w4).cell? ⟨w.heap.size+1,0,none⟩=some (Xu hh):=by rw[cell_of_block e5];rfl
 have S4:=If six;clear e3 e5 six;refine(HG.a _ S4.out.below).mono ?_;rintro e w5 ⟨rfl,rfl⟩;gi_wp2_with fail;refine(HG.c _).mono ?_;rintro e w5 ⟨rfl,rfl⟩;gi_wp2_with fail;refine(HG.b _ S4.out.below).mono ?_;rintro e w5 ⟨rfl,rfl⟩;gi_wp2_with fail;have a5:=(ab w4.heap.size w4).alloc Ih (.cells #[.func (.func 198) #[] #[PV w.heap.size,PV (w.heap.size+1)]] 219);have z4:=S4.out.size;have f3:=(a5.block w.heap.size (by omega)).trans S4.out.b3;have f5:=(a5.block (w.heap.size+1) (by omega)).trans S4.out.b5;have S5:=kq3 (S4.out.below.trans (a5.mono (by omega))) f3 f5;have b2:=heap_alloc_new w4 (.cells #[.func (.func 198) #[] #[PV w.heap.size,PV (w.heap.size+1)]] 219);have k12:(w4.alloc (.cells #[.func (.func 198) #[] #[PV w.heap.size,PV (w.heap.size+1)]] 219)).cell? ⟨w4.heap.size,0,none⟩=some (.func (.func 198) #[] #[PV w.heap.size,PV (w.heap.size+1)]):=by rw[cell_of_block b2];rfl
 clear a5 f3 f5 b2 x0 y0 z4;refine(HG.d _ S5.a S5.b S5.c).mono ?_;rintro e w5 ⟨rfl,rfl⟩;have q1:((2*(t:Int)-1)<(kn:Int))=False:=eq_false (by omega);have q2:IntKind.u64.wrap (2*(t:Int)-1)=2*(t:Int)-1:=by show (2*(t:Int)-1) % 18446744073709551616=_;omega
 gi_wp2_with fail;refine(HG.e _ S5.a S5.b S5.c).mono ?_;rintro e w5 ⟨rfl,rfl⟩;gi_wp2_with fail;clear k12 q1 q2;have six:=S4.out.six sz;generalize (w4.alloc (.cells #[.func (.func 198) #[] #[PV w.heap.size,PV (w.heap.size+1)]] 219)).alloc (Xl sz)=w6 at*;generalize w4.heap.size=b12 at*;have S6:=If six;have k12:=cell_of_block (o:=0) six.k12;have k12:w6.cell? ⟨b12,0,none⟩=some (.func (.func 198) #[] #[PV w.heap.size,PV (w.heap.size+1)]):=k12;clear six;refine(HG.d _ S6.out.below S6.out.b3 S6.out.b5).mono ?_;rintro e w5 ⟨rfl,rfl⟩;have q3:IntKind.i64.wrap (kn:Int)=(kn:Int):=aB _ (by omega);gi_wp2_with fail;clear k12 q3
 gi_loopw [14,63] (fun _ i wr=>∃j:Nat,j<=kn/\i=Xi j/\∃vk vv,eX w wr ps hh b12 vk vv (.slice none 0 0) sz/\fN wr (b12+2) vk vv (.slice none 0 0) (n.keys.take j) (n.vals.take j) []) (fun _ i _=>kn-(intOf i).toNat)
 case atStart=>
  refine⟨0,by omega,rfl,.slice none 0 0,.slice none 0 0,S6.out,?_⟩;exact { k:=World.ownsRow_nil _ _ _ _,v:=World.ownsRow_nil _ _ _ _,c:=World.ownsRow_nil _ _ _ _,kv:=fun g e=>(nomatch e),kc:=fun g e=>(nomatch e),vc:=fun g e=>(nomatch e) }
 case round=>
  obtain⟨j,hj,rfl,vk,vv,gb,rows⟩:=hrel
  by_cases hlt:j<kn
  ·have ee:(j:Int)<kn:=by omega
   have jk:j<n.keys.length:=by rw[HG.j];exact hlt
   have jv:j<n.vals.length:=by rw[HG.i.vals];exact jk
   have gk:wAt t n kn cn (2+2*j)=n.keys[j]:=by
    unfold wAt;rw[if_neg (by omega),if_neg (by omega),if_pos (by omega),if_pos (by omega),show (2+2*j-2) / 2=j by omega,am,af jk]
    rfl
   have gv:wAt t n kn cn (2+2*j+1)=n.vals[j]:=by
    unfold wAt;rw[if_neg (by omega),if_neg (by omega),if_pos (by omega),if_neg (by omega),show (2+2*j+1-2) / 2=j by omega,am,af jv]
    rfl
   have tk:n.keys.take (j+1)=n.keys.take j++[n.keys[j]]:=by rw[aO jk]
   have tv:n.vals.take (j+1)=n.vals.take j++[n.vals[j]]:=by rw[aO jv]
   have cp:(n.keys.take j).length=j:=by rw[ay];omega
   have cr:(n.vals.take j).length=j:=by rw[ay];omega
   have bd:=fun W (hW:Below w.heap.size w W) e3 e5=>HG.f W hW e3 e5 (2+2*j) (by omega);have bf:=fun W (hW:Below w.heap.size w W) e3 e5=>HG.f W hW e3 e5 (2+2*j+1) (by omega);rw[gk] at bd;rw[gv] at bf;have b4:((2+2*j:Nat):Int)=2+2*(j:Int):=by omega
   have b9:((2+2*j+1:Nat):Int)=2+2*(j:Int)+1:=by omega
   rw[b4] at bd;rw[b9] at bf;generalize n.keys[j]=xk at*;generalize n.vals[j]=xv at*;have HC:=kq9 bd bf tk tv cp cr gb rows hlt;clear bd bf tk tv cp cr gk gv gb rows jk jv b4 b9 hlt;have m1:IntKind.i64.wrap (2*(j:Int))=2*(j:Int):=aB _ (by omega);have m2:IntKind.i64.wrap (2+2*(j:Int))=2+2*(j:Int):=aB _ (by omega);have m3:IntKind.i64.wrap (2+2*(j:Int)+1)=2+2*(j:Int)+1:=aB _ (by omega);gi_wp2_with fail;have HD:=kq2 (HC.g).drew (HC.h).drew;obtain⟨I,ad,ai⟩:=I9 (fun w'=>w'.heap[b12]?=some (.cells #[.func (.func 198) #[] #[PV w.heap.size,PV (w.heap.size+1)]] 219 (0,0))) (fun w'=>w'.heap[b12+1]?=some (.cells #[vk,vv,.slice none 0 0,Xu sz] 215 (0,0)));have an:=fun x:Fq I=>(ad _ x.ok).1;have ar:=fun x:Fq I=>(ad _ x.ok).2;have o0:∀x:Fq I,x.to.cell? ⟨b12,0,none⟩=some (.func (.func 198) #[] #[PV w.heap.size,PV (w.heap.size+1)]):=fun x=>by rw[cell_of_block (an x)];rfl
   obtain⟨y0,y1,y2,y3⟩:=iB ar;have al:I wr.drew:=ai _ HD.a.k12 HD.a.k13;have HI:=If ai;clear ad ai an ar;refine Jb I (fun i=>[10].contains i) (.take 0 (.take 1 (.take 2 (.take 3 (.take 4 (.take 5 (.go 6 (.go 7 (.go 8 (.take 9 (.go 10 .nil))))))))))) (by kernel_rfl) (by kernel_rfl) (by kernel_rfl) al ?_;clear al;generalize wr.drew=W at*
   iterate 6
    refine' qT ?_ ?_;rotate_left
    ·intro x;go_simp
     try rfl
    try simp only[pu]
   refine qD fun K hK=>?_;go_simp;refine(HC.a _ HD.a.below HD.a.b3 HD.a.b5).mono ?_;rintro e w3 ⟨rfl,rfl⟩
   try go_simp
   refine hK.out _ _ (HI.out _ HD.a.k12 HD.a.k13) ?_;clear hK K
   try simp only[pu]
   refine qD fun K hK=>?_;go_simp;have g2:eX w (W.alloc (Xf xk)) ps hh b12 (vk) (vv) (.slice none 0 0) sz:=HD.a.grown (row:=none) (World.grownBy_alloc _ _ _) (fun g e=>nomatch e)
   try go_simp
   refine hK.out _ _ (HI.out _ g2.k12 g2.k13) ?_;clear hK K
   try simp only[pu]
   obtain⟨v',W2,hr,ho,hg,hv⟩:=jF HD.b.k (by rw[HC.e];omega) xk HD.a.size 59;have g3:=HD.a.grown hg fun g e=>(HD.b.k.ge g e).1;have gs:=sK HD.a HD.b ho hg hv;obtain⟨sA,sM,sC,rfl⟩:=ho.slice;clear ho hg hv;have HS:=If gs;clear gs;refine qD (fun K hK=>kE _ _ _ rfl rfl rfl hr ?_);clear hr
   try go_simp
   refine hK.out _ _ (HI.out _ g3.k12 g3.k13) ?_;clear hK K
   try simp only[pu]
   refine' qT ?_ ?_;rotate_left
   ·intro x;go_simp
    try rfl
   try simp only[pu]
   clear y0 y1 y2 y3;have k13:=g3.k13;obtain⟨y0,y1,y2,y3⟩:=Fy k13;obtain⟨f0,f1,f2,f3⟩:=fO k13;clear k13 g3;refine qL fun K hK=>?_;go_simp;clear y0 f0 y1 f1 y2 f2 y3 f3;generalize hW:W2.setCell ⟨b12+1,0,none⟩ (.slice sA sM sC)=wr2 at*
   try go_simp
   refine hK.out _ _ trivial ?_;clear hK K
   try simp only[pu]
   refine Ja ?_;have HJ:=HS;generalize Value.slice sA sM sC=vk2 at*;clear hW HS g2 HD HI o0 I W2;generalize W.heap.size=wr2q;clear W;gi_wp2_with fail;have HD:=kq2 (HJ.out.1).drew (HJ.out.2).drew;obtain⟨I,ad,ai⟩:=I9 (fun w'=>w'.heap[b12]?=some (.cells #[.func (.func 198) #[] #[PV w.heap.size,PV (w.heap.size+1)]] 219 (0,0))) (fun w'=>w'.heap[b12+1]?=some (.cells #[vk2,vv,.slice none 0 0,Xu sz] 215 (0,0)));have an:=fun x:Fq I=>(ad _ x.ok).1;have ar:=fun x:Fq I=>(ad _ x.ok).2;have o0:∀x:Fq I,x.to.cell? ⟨b12,0,none⟩=some (.func (.func 198) #[] #[PV w.heap.size,PV (w.heap.size+1)]):=fun x=>by rw[cell_of_block (an x)];rfl
   obtain⟨y0,y1,y2,y3⟩:=iB ar;have al:I wr2.drew:=ai _ HD.a.k12 HD.a.k13;have HI:=If ai;clear ad ai an ar;refine Jb I (fun i=>[11].contains i) (.take 0 (.take 1 (.take 2 (.take 3 (.take 4 (.take 5 (.take 6 (.go 7 (.go 8 (.go 9 (.take 10 (.go 11 .nil)))))))))))) (by kernel_rfl) (by kernel_rfl) (by kernel_rfl) al ?_;clear al;generalize wr2.drew=W at*
   iterate 7
    refine' qT ?_ ?_;rotate_left
    ·intro x;go_simp
     try rfl
    try simp only[pu]
   refine qD fun K hK=>?_;go_simp;refine(HC.b _ HD.a.below HD.a.b3 HD.a.b5).mono ?_;rintro e w3 ⟨rfl,rfl⟩
   try go_simp
   refine hK.out _ _ (HI.out _ HD.a.k12 HD.a.k13) ?_;clear hK K
   try simp only[pu]
   refine qD fun K hK=>?_;go_simp;have g2:eX w (W.alloc (Xf xv)) ps hh b12 (vk2) (vv) (.slice none 0 0) sz:=HD.a.grown (row:=none) (World.grownBy_alloc _ _ _) (fun g e=>nomatch e)
   try go_simp
   refine hK.out _ _ (HI.out _ g2.k12 g2.k13) ?_;clear hK K
   try simp only[pu]
   obtain⟨v',W2,hr,ho,hg,hv⟩:=jF HD.b.v (by rw[HC.f];omega) xv HD.a.size 59;have g3:=HD.a.grown hg fun g e=>(HD.b.v.ge g e).1;have gs:=sL HD.a HD.b ho hg hv;obtain⟨sA,sM,sC,rfl⟩:=ho.slice;clear ho hg hv;have HS:=If gs;clear gs;refine qD (fun K hK=>kE _ _ _ rfl rfl rfl hr ?_);clear hr
   try go_simp
   refine hK.out _ _ (HI.out _ g3.k12 g3.k13) ?_;clear hK K
   try simp only[pu]
   refine' qT ?_ ?_;rotate_left
   ·intro x;go_simp
    try rfl
   try simp only[pu]
   clear y0 y1 y2 y3;have k13:=g3.k13;obtain⟨y0,y1,y2,y3⟩:=Fy k13;obtain⟨f0,f1,f2,f3⟩:=fO k13;clear k13 g3;refine qL fun K hK=>?_;go_simp;clear y0 f0 y1 f1 y2 f2 y3 f3;generalize hW:W2.setCell ⟨b12+1,1,none⟩ (.slice sA sM sC)=wr3 at*
   try go_simp
   refine hK.out _ _ trivial ?_;clear hK K
   try simp only[pu]
   refine Ja ?_;have HJ:=HS;generalize Value.slice sA sM sC=vv2 at*;clear hW HS g2 HD HI o0 I W2;generalize W.heap.size=wr3q;clear W;gi_wp2_with fail;refine⟨⟨j+1,by omega,by simp,vk2,vv2,HJ.out.1,by rw[HC.c,HC.d];exact HJ.out.2⟩,?_⟩
   show kn-((j:Int)+1).toNat<kn-(j:Int).toNat
   omega
  ·have c5:kn=j:=by omega
   subst c5;have c6:¬((kn:Int)<kn):=by omega
   have tk:n.keys.take kn=n.keys:=aZ (by rw[HG.j];exact Nat.le_refl _);have tv:n.vals.take kn=n.vals:=aZ (by rw[HG.i.vals,HG.j];exact Nat.le_refl _);rw[tk,tv] at rows;obtain⟨Ak,ck,c'⟩:∃A c,vk=.slice A kn c:=by have:=rows.k.slice2;rw[HG.j] at this;exact this
   subst c';have R1:=kq2 gb rows;clear gb rows tk tv
   gi_upto_region 21 with fail
   clear c6;have m4:IntKind.i64.wrap (4*(t:Int))=4*(t:Int):=aB _ (by omega)
   iterate 6 gi_step
   rename_i hKs;refine hKs _ _ ?_;clear hKs
   gi_cut [15] from 88 (fun _ wc=>∃vc,eX w wc ps hh b12 (.slice Ak kn ck) vv vc sz/\fN wc (b12+2) (.slice Ak kn ck) vv vc n.keys n.vals n.kids)
   case first=>
    gi_wp2_with fail
    gi_loopw [15] (fun i wr=>∃j:Nat,j<=cn/\i=Xi j/\∃vc,eX w wr ps hh b12 (.slice Ak kn ck) vv vc sz/\fN wr (b12+2) (.slice Ak kn ck) vv vc n.keys n.vals (n.kids.take j)) (fun i _=>kn+1-(intOf i).toNat)
    case atStart=>exact⟨0,by omega,rfl,.slice none 0 0,R1.a,by simpa using R1.b⟩
    case round=>
     clear R1;obtain⟨j,hj,rfl,vc,gb,rows⟩:=hrel;have a0:=callsIn_wide (n:=6) |>.2 (HG.f _ gb.below gb.b3 gb.b5 (4*t) (by omega))
     have a9:((4*t:Nat):Int)=4*(t:Int):=by omega
     rw[a9] at a0;have k13:=gb.k13;obtain⟨y0,y1,y2,y3⟩:=Fy k13;have k12:=cell_of_block (o:=0) gb.k12;have k12:wr.cell? ⟨b12,0,none⟩=some (.func (.func 198) #[] #[PV w.heap.size,PV (w.heap.size+1)]):=k12;have bj:=HG.k;have q4:wAt t n kn cn (4*t)=n.kids.getD 0 0:=by
      unfold wAt;rw[if_neg (by omega),if_neg (by omega),if_neg (by omega)]
      by_cases h0:0<cn
      ·rw[if_pos (by omega),dA]
      ·rw[if_neg (by omega),am,aH (by omega)]
       rfl
     rw[q4] at a0
     by_cases hlt2:j<cn
     ·have d4:cn=kn+1:=by omega
      have jc:j<n.kids.length:=by rw[bj];exact hlt2
      have ch:((j:Int)<=kn):=by omega
      have h0:n.kids.getD 0 0≠0:=fun e=>by
       rcases HG.i.kids with h | ⟨-,h⟩
       ·omega
       ·rw[am,af (by omega)] at e;have:n.kids.contains 0=true:=cW.2 (e▸aF _);rw[h] at this
        cases this
      generalize n.kids.getD 0 0=g0 at*;have c8:(((g0:Nat):Int) !=0)=true:=by simp;omega
      have gc:wAt t n kn cn (4*t+j)=n.kids[j]:=by
       unfold wAt;rw[if_neg (by omega),if_neg (by omega),if_neg (by omega),if_pos (by omega),cu,am,af jc]
       rfl
      have tc:n.kids.take (j+1)=n.kids.take j++[n.kids[j]]:=by rw[aO jc]
      have cm:(n.kids.take j).length=j:=by rw[ay];omega
      have bc:=fun W (hW:Below w.heap.size w W) e3 e5=>HG.f W hW e3 e5 (4*t+j) (by omega);rw[gc] at bc;have b':((4*t+j:Nat):Int)=4*(t:Int)+(j:Int):=by omega
      rw[b'] at bc;generalize n.kids[j]=xc at*;have HC:=kq6 bc tc cm gb rows a0;have m5:IntKind.i64.wrap (4*(t:Int)+(j:Int))=4*(t:Int)+(j:Int):=aB _ (by omega);clear bc tc cm gc gb rows jc b' a0 q4 k13 a9 bj h0 hlt2;gi_wp2_with fail;refine HC.f.mono ?_;rintro e w8 ⟨rfl,rfl⟩;gi_wp2_with fail;clear y0 y1 y2 y3 k12 c8;have HD:=kq2 (HC.d).drew (HC.e).drew;obtain⟨I,ad,ai⟩:=I9 (fun w'=>w'.heap[b12]?=some (.cells #[.func (.func 198) #[] #[PV w.heap.size,PV (w.heap.size+1)]] 219 (0,0))) (fun w'=>w'.heap[b12+1]?=some (.cells #[.slice Ak kn ck,vv,vc,Xu sz] 215 (0,0)));have an:=fun x:Fq I=>(ad _ x.ok).1;have ar:=fun x:Fq I=>(ad _ x.ok).2;have o0:∀x:Fq I,x.to.cell? ⟨b12,0,none⟩=some (.func (.func 198) #[] #[PV w.heap.size,PV (w.heap.size+1)]):=fun x=>by rw[cell_of_block (an x)];rfl
      obtain⟨y0,y1,y2,y3⟩:=iB ar;have al:I wr.drew:=ai _ HD.a.k12 HD.a.k13;have HI:=If ai;clear ad ai an ar;refine Jb I (fun i=>[11].contains i) (.take 0 (.take 1 (.take 2 (.take 3 (.take 4 (.take 5 (.take 6 (.go 7 (.go 8 (.go 9 (.take 10 (.go 11 .nil)))))))))))) (by kernel_rfl) (by kernel_rfl) (by kernel_rfl) al ?_;clear al;generalize wr.drew=W at*
      iterate 7
       refine' qT ?_ ?_;rotate_left
       ·intro x;go_simp
        try rfl
       try simp only[pu]
      refine qD fun K hK=>?_;go_simp;refine(HC.a _ HD.a.below HD.a.b3 HD.a.b5).mono ?_;rintro e w3 ⟨rfl,rfl⟩
      try go_simp
      refine hK.out _ _ (HI.out _ HD.a.k12 HD.a.k13) ?_;clear hK K
      try simp only[pu]
      refine qD fun K hK=>?_;go_simp;have g2:eX w (W.alloc (Xf xc)) ps hh b12 (.slice Ak kn ck) (vv) (vc) sz:=HD.a.grown (row:=none) (World.grownBy_alloc _ _ _) (fun g e=>nomatch e)
      try go_simp
      refine hK.out _ _ (HI.out _ g2.k12 g2.k13) ?_;clear hK K
      try simp only[pu]
      obtain⟨v',W2,hr,ho,hg,hv⟩:=jF HD.b.c (by rw[HC.c];omega) xc HD.a.size 59;have g3:=HD.a.grown hg fun g e=>(HD.b.c.ge g e).1;have gs:=sN HD.a HD.b ho hg hv;obtain⟨sA,sM,sC,rfl⟩:=ho.slice;clear ho hg hv;have HS:=If gs;clear gs;refine qD (fun K hK=>kE _ _ _ rfl rfl rfl hr ?_);clear hr
      try go_simp
      refine hK.out _ _ (HI.out _ g3.k12 g3.k13) ?_;clear hK K
      try simp only[pu]
      refine' qT ?_ ?_;rotate_left
      ·intro x;go_simp
       try rfl
      try simp only[pu]
      clear y0 y1 y2 y3;have k13:=g3.k13;obtain⟨y0,y1,y2,y3⟩:=Fy k13;obtain⟨f0,f1,f2,f3⟩:=fO k13;clear k13 g3;refine qL fun K hK=>?_;go_simp;clear y0 f0 y1 f1 y2 f2 y3 f3;generalize hW:W2.setCell ⟨b12+1,2,none⟩ (.slice sA sM sC)=wr2 at*
      try go_simp
      refine hK.out _ _ trivial ?_;clear hK K
      try simp only[pu]
      refine Ja ?_;have HJ:=HS;generalize Value.slice sA sM sC=vc2 at*;clear hW HS g2 HD HI o0 I W2;generalize W.heap.size=wr2q;clear W;gi_wp2_with fail;refine⟨⟨j+1,by omega,by simp,vc2,HJ.out.1,by rw[HC.b];exact HJ.out.2⟩,?_⟩
      show kn+1-((j:Int)+1).toNat<kn+1-(j:Int).toNat
      omega
     ·have tc:n.kids.take j=n.kids:=aZ (by omega);rw[tc] at rows;have HC:=kq3 gb rows a0;clear gb rows a0 k13 tc
      by_cases hc0:cn=0
      ·have cx:j=0:=by omega
       subst cx;have q0:n.kids.getD 0 0=0:=by rw[am,aH (by omega)];rfl
       rw[q0] at HC;have ch:((0:Nat):Int)<=kn:=by omega
       clear q0 q4 a9 bj hlt2;gi_wp2_with fail;refine HC.c.mono ?_;rintro e w8 ⟨rfl,rfl⟩;gi_wp2_with fail
       gi_meet
       case rel=>exact⟨vc,HC.a,HC.b⟩
      ·have c4:j=kn+1:=by omega
       subst c4;have ch:¬(((kn+1:Nat):Int)<=kn):=by omega
       have ea:¬((kn:Int)+1<=kn):=by omega
       have eb:¬(kn+1<=kn):=by omega
       clear q4 a9 bj hlt2;gi_wp2_with fail;refine⟨fun _ _=>trivial,?_⟩;gi_wp2_with fail
       gi_meet
       case rel=>exact⟨vc,HC.a,HC.b⟩
   case rest=>
    clear R1;obtain⟨vc,gb,rows⟩:=hcut;have au:=HG.l;have bm:=HG.i;obtain⟨Av,cv,rfl⟩:∃A c,vv=.slice A kn c:=by have:=rows.v.slice2;rw[bm.vals,HG.j] at this;exact this
    obtain⟨Ac,cc,rfl⟩:∃A c,vc=.slice A cn c:=by have:=rows.c.slice2;rw[HG.k] at this;exact this
    have bb:CallsIn Fence.wide 6 prog 199 #[Xi t,eC (.slice Ak kn ck) (.slice Av kn cv) (.slice Ac cn cc) n.size] wc _:=callsIn_wide.2 (pV bm rows.k.hrow rows.v.hrow rows.c.hrow);have bo:=fun W (hW:Below wc.heap.size wc W)=>(callsIn_wide (n:=6)).2 (tS (w:=W) bm (rows.k.hrow.below hW) (rows.v.hrow.below hW) (rows.c.hrow.below hW));unfold eC at bb bo;rw[au] at bb;simp only[au,HG.j,HG.k] at bo;have k13:=gb.k13;obtain⟨y0,y1,y2,y3⟩:=Fy k13;have HC:=kq3 bo gb rows;have HF:=If bb;clear bo gb rows k13 bb bm au;gi_wp2_with fail;refine HF.out.mono ?_;rintro e w8 ⟨rfl,a8⟩;clear y0 y1 y2 y3 HF;have g8:=HC.b.up a8;have k13:=g8.k13;obtain⟨y0,y1,y2,y3⟩:=Fy k13;have H8:=kq3 a8 g8 (HC.c.below a8);clear a8 g8 k13;gi_wp2_with fail;refine(HC.a _ H8.a).mono ?_;rintro e w9 ⟨Bx,rfl,dn,rB,rG,bt⟩;have g9:=H8.b.up bt;have r9:=H8.c.below bt;obtain⟨f,hf⟩:=Ii (wAt t n kn cn);rw[hf] at rG;have cw:∀j,j<6*t->f j<2^64:=fun j hj=>HG.m _ (by
     unfold bnWords;rw[HG.j,HG.k,hf];exact aA.2 ⟨j,bw.2 hj,rfl⟩)
    have ds:=(gl rG);have bs:=tC (by omega) cw rB rG (fun k=>k=w8.heap.size+1) rfl;have k13:=g9.k13;have H9:=kq3 g9 r9 hf;clear g9 r9 hf y0 y1 y2 y3 bt rB rG;gi_wp2_with fail;refine wpIn_rangeFunc_ownH rfl h1 (gf:=244) (lb:=#[PV Bx]) rfl trivial (enters_of func244 (by kernel_rfl) rfl)
     bs ir.trans (fun W l o o' q1 q2 q3 q4=>⟨by simp,fun k hk=>World.putObj_heap_other (by omega)⟩) (ab _ _) (fun _=>rfl)
     (fun _ W=>Below w9.heap.size w9 W)
     (fun cd a4 _=>cd=.ret/\∃x∈a4,x.1.2≠f x.1.1)
     (fun a4 W W' row hs hg hr=>⟨hg.os.trans hs.os,hg.tape.trans hs.tape,hg.output.trans hs.output,aK hs.size hg.size,fun k hk=>(hg.block k (aX hk hs.size) (fun e=>by have:=(hr k e.symm).1;omega)).trans (hs.block k hk)⟩)
     (fun _ _ _ _ _ hs _ _=>hs)
     (ab _ _)
     (fun x a' _=>a'= { tmps:=#[PV ps,Xi t,Xu hh,PV w.heap.size,undef,PV (w.heap.size+1),PV (w.heap.size+1+1),PV (w.heap.size+1+1+1),Xi 0,Xi 7,Xi (6*(t:Int)),Xi 0,PV b12,PV (b12+1),u14,u15,Xi x.1.1,Xu x.1.2,.tuple #[Xi 0,Xi 7],PV ps,.tuple #[Xi 0,Xi 7],Xi 0,Xi 7,Xi 7,.bool false,undef,undef,Xi t,.bool true,.bool false,undef,.tuple #[Xi (6*(t:Int)),Xi 0],PV ps,Xu hh,.tuple #[Xi (6*(t:Int)),Xi 0],Xi (6*(t:Int)),Xi 0,.bool false,Xi 0,.bool false,undef,undef,.bool false,Xi (6*(t:Int)),Xi t,Xi (6*(t:Int)),.bool false,undef,.func (.func 198) #[] #[PV w.heap.size,PV (w.heap.size+1)],.func (.func 198) #[] #[PV w.heap.size,PV (w.heap.size+1)],Xu kn,Xi t,Xi (2*(t:Int)),Xi (2*(t:Int)-1),Xu (2*(t:Int)-1),.bool false,undef,.func (.func 198) #[] #[PV w.heap.size,PV (w.heap.size+1)],Xu sz,.agg #[.slice none 0 0,.slice none 0 0,.slice none 0 0,Xu sz],.func (.func 198) #[] #[PV w.heap.size,PV (w.heap.size+1)],Xu kn,Xi kn,Xi kn,.bool false,u65,u66,u67,u68,u69,u70,u71,u72,u73,u74,u75,u76,u77,u78,u79,u80,u81,u82,u83,u84,u85,u86,u87,u88,u89,u90,u91,u92,u93,u94,u95,u96,u97,u98,u99,u100,u101,u102,u103,u104,u105,u106,u107,u108,u109,u110,u111,u112,Xi t,.agg #[.slice Ak kn ck,(.slice Av kn cv),(.slice Ac cn cc),Xu sz],.bool true,.bool false,u117,Xi t,.agg #[.slice Ak kn ck,(.slice Av kn cv),(.slice Ac cn cc),Xu sz],.func (.func 244) #[] #[PV Bx],Xi x.1.1,Xu x.1.2,u123,u124,u125,u126,u127,u128,u129],defers:=[] })
     (fun x a' _ X W' row hs hg hr=>hs)
     ?assign ?body ?done ?stop
    case assign=>
     rintro l a4 ⟨⟨i,x⟩,hx⟩ W K hI hK;exact qUbac
    case body=>
     rintro l a4 ⟨⟨i,x⟩,hx⟩ a' W ed _ hI rfl hlt;simp only at hx⊢;have g:=H9.a.up hI;have k12:W.cell? ⟨b12,0,none⟩=some (.func (.func 198) #[] #[PV w.heap.size,PV (w.heap.size+1)]):=by rw[cell_of_block g.k12];rfl
     have bu:CallsIn Fence.wide 4 prog 198 #[Xi i,PV w.heap.size,PV (w.heap.size+1)] W _:=callsIn_wide.2 (HG.f W g.below g.b3 g.b5 i hx.1);rw[H9.c] at bu;have e6:=g.b6;have e7:=g.b7;obtain⟨c0,c1,c2,c3⟩:=Fy e6;obtain⟨p0,p1,p2,p3⟩:=fO e6;have d0:(W).cell? ⟨w.heap.size+1+1+1,0,none⟩=some (Xi 0):=by rw[cell_of_block e7];rfl
     have q0:(W).frozen? ⟨w.heap.size+1+1+1,0,none⟩=false:=AT e7;have HH:=kq2 hI bu;have HX:=If hx;clear hI bu bs g e6 e7
     by_cases hfx:x=f i
     ·have hq:(((f i:Nat):Int) !=x)=false:=by simp;omega
      gi_wp2_with fail;refine(CallsIn.inRound l HH.b).mono ?_;rintro e dk ⟨rfl,rfl⟩;gi_wp2_with fail;exact⟨KeepsFrom.refl _ _,ir.refl _ _,HH.a⟩
     ·have hq:(((f i:Nat):Int) !=x)=true:=by simp;omega
      have eh:¬((f i:Nat):Int)=x:=by omega
      gi_wp2_with fail;refine(CallsIn.inRound l HH.b).mono ?_;rintro e dk ⟨rfl,rfl⟩;gi_wp2_with fail;exact⟨((((((KeepsOthers.setCell _ _ _).trans (KeepsOthers.setCell _ _ _)).trans (KeepsOthers.setCell _ _ _)).trans (KeepsOthers.setCell _ _ _)).trans (KeepsOthers.setCell _ _ _)).from _),rfl,⟨⟨(i,x),HX.out⟩,by simp,hfx⟩⟩
    case done=>
     rintro D ys W hD hS hI hK;have g:=H9.a.up hI;have e6:=g.b6;have e7:=g.b7;have k13:=g.k13;have ek:=H9.a.size;have d2:w.heap.size+4<=b12:=dS g.at12.symm;have dp:b12+2<=D:=by omega
     obtain⟨y0,y1,y2,y3⟩:=Fy k13;obtain⟨c0,c1,c2,c3⟩:=Fy e6;obtain⟨p0,p1,p2,p3⟩:=fO e6;have d0:(W).cell? ⟨w.heap.size+1+1+1,0,none⟩=some (Xi 0):=by rw[cell_of_block e7];rfl
     have q0:(W).frozen? ⟨w.heap.size+1+1+1,0,none⟩=false:=AT e7;have a6:=oZ (u0:=.slice Ak kn ck) (u1:=(.slice Av kn cv)) (u2:=(.slice Ac cn cc)) (u3:=Xu sz) e6;have B6:=oY (u0:=.slice Ak kn ck) (u1:=(.slice Av kn cv)) (u2:=(.slice Ac cn cc)) (u3:=Xu sz) (b:=w.heap.size+1+1) g.below (by omega);have o6:∀k,k≠w.heap.size+1+1->_:=fun k hk=>sy (w:=W) (b:=w.heap.size+1+1) (k:=k) (u0:=.slice Ak kn ck) (u1:=(.slice Av kn cv)) (u2:=(.slice Ac cn cc)) (u3:=Xu sz) hk;have a7:=heap_setCell (i:=0) (v:=Xi 0) ((o6 (w.heap.size+1+1+1) (by omega)).trans e7);have HK:=kq6 hI hK a6 B6 o6 a7;clear hI hK hS bs g e6 e7 k13 a6 B6 o6 a7;gi_wp2_with fail;obtain⟨hI,hK,a6,B6,o6,a7⟩:=HK.out;clear HK;generalize dv:((((W.setCell ⟨w.heap.size+1+1,0,none⟩ (.slice Ak kn ck)).setCell ⟨w.heap.size+1+1,1,none⟩ ((.slice Av kn cv))).setCell ⟨w.heap.size+1+1,2,none⟩ ((.slice Ac cn cc))).setCell ⟨w.heap.size+1+1,3,none⟩ (Xu sz))=W5 at*;have dc:W5.heap[D]?=some (.deferred (some [])):=(o6 D (by omega)).trans hK;have n7:∀k,k≠w.heap.size+1+1+1->(W5.setCell ⟨w.heap.size+1+1+1,0,none⟩ (Xi 0)).heap[k]?=W5.heap[k]?:=fun k hk=>FB hk;have cl:=(n7 D (by omega)).trans dc;have b6:=(n7 (w.heap.size+1+1) (by omega)).trans a6;have B7:=B6.setCell (p:=⟨w.heap.size+1+1+1,0,none⟩) (by show w.heap.size<=w.heap.size+1+1+1;omega) (Xi 0);generalize d1:W5.setCell ⟨w.heap.size+1+1+1,0,none⟩ (Xi 0)=W6 at*;refine⟨by simp,.inl ⟨_,_,rfl,run_takeDeferred cl,?_⟩⟩;have b1:∀k,k≠D->(W6.putObj D (.deferred none)).heap[k]?=W6.heap[k]?:=fun k hk=>World.putObj_heap_other hk;have z6:=(b1 (w.heap.size+1+1) (by omega)).trans b6;have z7:=(b1 (w.heap.size+1+1+1) (by omega)).trans a7;have BF:Below w.heap.size w (W6.putObj D (.deferred none)):=B7.trans (belowK_b (w:=w) Ih W6 D _ _ (by omega) cl rfl rfl);have RF:=H9.b.lift (W':=W6.putObj D (.deferred none)) (D':=w.heap.size) (by omega) fun k hk1 cb=>((b1 k (by omega)).trans ((n7 k (by omega)).trans (o6 k (by omega)))).trans (hI.block k cb);obtain⟨e0,e1,e2,e3⟩:=Fy z6;have d0:(W6.putObj D (.deferred none)).cell? ⟨w.heap.size+1+1+1,0,none⟩=some (Xi 0):=by rw[cell_of_block z7];rfl
     refine⟨.tuple #[.agg #[.slice Ak kn ck,(.slice Av kn cv),(.slice Ac cn cc),Xu sz],Xi 0],?_,.slice Ak kn ck,(.slice Av kn cv),(.slice Ac cn cc),by rw[HG.l];rfl,RF,BF⟩
     simp[results,f166,go_sem,e0,e1,e2,e3,d0]
    case stop=>
     rintro D cd a4 W _ ⟨tl,c7⟩ ⟨rfl,x,hx,cj⟩
     exfalso
     have hm:x.1∈gN f (6*t):=by rw[<-c7];exact ax _ (aA.2 ⟨x,hx,rfl⟩)
     obtain⟨j,_,e⟩:=aA.1 hm;rw[<-e] at cj;exact cj rfl
end
section
open Go.RowKit Tryz Go.BigFrame Go.Maps Go.WideMaps Lf
open Go.Shelf Go.Lib
variable{cur:Array Value}{l:List Nat}{x:Value}
def setL:Array Value->Nat->List Value->Array Value
 | a,_,[]=>a
 | a,o,v::r=>setL (a.setIfInBounds o v) (o+1) r
theorem lw:∀(vs:List Value) (a:Array Value) (o:Nat),(setL a o vs).size=a.size
 | [],_,_=>rfl
 | v::r,a,o=>by rw[setL,lw r];simp
theorem F2:∀(vs:List Value) (a:Array Value) (o j:Nat),(setL a o vs)[j]?=if o<=j/\j<o+vs.length/\j<a.size then vs[j-o]? else a[j]?
 | [],a,o,j=>by rw[setL,if_neg (by simp;omega)]
 | v::r,a,o,j=>by
  rw[setL,F2 r,Array.size_setIfInBounds,Array.getElem?_setIfInBounds];simp only[ak];by_cases h1:o+1<=j/\j<o+1+r.length/\j<a.size
  ·rw[if_pos h1,if_pos (by omega),show j-o=(j-(o+1))+1 by omega,bD]
  ·rw[if_neg h1];by_cases h2:o=j
   ·subst h2;rw[if_pos rfl];by_cases h3:o<a.size
    ·rw[if_pos h3,if_pos (by omega),dA];rfl
    ·rw[if_neg h3,if_neg (by omega),cQ (by omega)]
   ·rw[if_neg h2,if_neg (by omega)]
theorem mM {ty:TypeId}{fr:Nat×Nat}{b:Nat}:∀(vs:List Value) {w:World} {cur:Array Value} (o:Nat),w.heap[b]?=some (.cells cur ty fr)->(w.setCells b o vs).heap[b]?=some (.cells (setL cur o vs) ty fr)
 | [],_,_,_,h=>h
 | v::r,w,cur,o,h=>by
  rw[World.setCells,setL];exact mM r (o+1) (heap_setCell h)
theorem ol {b k:Nat}(hk:k≠b):∀(vs:List Value) (w:World) (o:Nat),(w.setCells b o vs).heap[k]?=w.heap[k]?
 | [],_,_=>rfl
 | v::r,w,o=>by rw[World.setCells,ol hk r,FB hk]
theorem mK {b:Nat}:∀(vs:List Value) (w:World) (o:Nat),w.grownBy (w.setCells b o vs) (some b)
 | [],w,_=>⟨rfl,rfl,rfl,Nat.le_refl _,fun _ _ _=>rfl⟩
 | v::r,w,o=>by
  have h:=mK (b:=b) r (w.setCell ⟨b,o,none⟩ v) (o+1);rw[World.setCells];refine⟨h.os,h.tape,h.output,by have:=h.size;simpa using this,fun k h1 h2=>?_⟩;rw[ol (fun e=>h2 (by rw[e])) r,FB (fun e=>h2 (by rw[e]))]
theorem Bf(w:World)(row:Option Nat):w.grownBy w.drew row:=⟨rfl,rfl,rfl,Nat.le_refl _,fun _ _ _=>rfl⟩
theorem Ed{cs:List Value}{n i:Nat}(h:cur.toList.take n=cs)(hn:cs.length=n)(hi:i<=n)(hc:n+1<=cur.size):(setL (setL cur (i+1) (cs.drop i)) i [x]).toList.take (n+1)=cs.take i++x::cs.drop i:=by
 have ad:∀j,j<n->cs[j]?=cur[j]?:=fun j hj=>by rw[<-h,cq,if_pos hj,bF]
 refine du fun j=>?_;rw[cq,bF,F2,F2,lw,aN,hn];simp only[ak,aM];have ht:(cs.take i).length=i:=by rw[ay];omega
 by_cases h1:j<i
 ·rw[cF (by omega),cq,if_pos h1,if_pos (by omega),if_neg (by omega),if_neg (by omega),ad j (by omega)]
 ·rw[bQ (by omega),ht]
  by_cases h2:j=i
  ·subst h2;rw[if_pos (by omega),if_pos (by omega),dA]
   rfl
  ·obtain⟨r,rfl⟩:∃r,j=i+1+r:=⟨j-i-1,by omega⟩;rw[show i+1+r-i=r+1 by omega,bD (l:=cs.drop i)]
   by_cases h3:i+1+r<n+1
   ·rw[if_pos h3,if_neg (by omega),if_pos (by omega),cu]
   ·rw[if_neg h3,aH (by rw[aN];omega)]
theorem Ee{cs:List Value}{n i:Nat}(h:∀j,j<i->cur[j]?=cs[j]?)(hn:cs.length=n)(hi:i<=n)(hc:n+1<=cur.size):(setL (setL cur i [x]) (i+1) (cs.drop i)).toList.take (n+1)=cs.take i++x::cs.drop i:=by
 refine du fun j=>?_;rw[cq,bF,F2,F2,lw,aN,hn];simp only[ak,aM];have ht:(cs.take i).length=i:=by rw[ay];omega
 by_cases h1:j<i
 ·rw[cF (by omega),cq,if_pos h1,if_pos (by omega),if_neg (by omega),if_neg (by omega),h j h1]
 ·rw[bQ (by omega),ht]
  by_cases h2:j=i
  ·subst h2;rw[if_pos (by omega),if_neg (by omega),if_pos (by omega),dA]
   rfl
  ·obtain⟨r,rfl⟩:∃r,j=i+1+r:=⟨j-i-1,by omega⟩;rw[show i+1+r-i=r+1 by omega,bD (l:=cs.drop i)]
   by_cases h3:i+1+r<n+1
   ·rw[if_pos h3,if_pos (by omega),cu]
   ·rw[if_neg h3,aH (by rw[aN];omega)]
theorem uH(l:List Nat)(i x:Nat):hV (l.take i++x::l.drop i)=(hV l).take i++Xu x::(hV l).drop i:=by
 unfold hV;rw[aJ,aL,bS,co]
theorem uI:∀v∈hV l,v.oneCell'=true:=fun v hv=>by
 obtain⟨x,_,rfl⟩:=aA.1 hv;rfl
theorem lR{i x:Nat}(h:i<=l.length):(l.take i++x::l.drop i).length=l.length+1:=by
 rw[aD,ak,ay,aN];omega
theorem Bj{w:World}{B:Nat}{v:Value}(h:FE w B v l)(hl:l.length<=1000){i:Nat}(hi:i<=l.length){x vb:Nat}(hx:w.heap[vb]?=some (.cells #[Xu x] 61 (0,0)))(hne:v.ownBlock≠some vb)(hB:B<=w.heap.size):
 Ct 215 #[v,Xi i,.slice (some ⟨vb,0,none⟩) 1 1] w fun e w'=>∃v',e=.returned v'/\FE w' B v' (l.take i++x::l.drop i)/\w.grownBy w' v.ownBlock/\(v'.ownBlock=v.ownBlock\/∃g,v'.ownBlock=some g/\w.heap.size<=g):=by
 obtain⟨n,hn⟩:=Ii l.length;have ar:w.cell? ⟨vb,0,none⟩=some (Xu x):=by rw[cell_of_block hx];rfl
 obtain⟨ti,a2,bc,a3,a4⟩:=info_parts uP
 by_cases b9:i=n
 ·subst b9;have hd:l.drop i=[]:=bU (by omega);have ht:l.take i=l:=aZ (by omega);have bo:∀ty,∃v' w',(Builtin.append_ #[59,59] ty #[v,.slice (some ⟨vb,0,none⟩) 1 1]).run prog w=.ok v' w'/\FE w' B v' (l++[x])/\w.grownBy w' v.ownBlock/\(v'.ownBlock=v.ownBlock\/∃g,v'.ownBlock=some g/\w.heap.size<=g):=fun ty=>by
   obtain⟨v',w',h1,h2,h3,_,h4⟩:=run_append_own_at (P:=prog) (w:=w) B 59 ty 61 ti (Xu 0) 1 8 underlying59 a2 bc a3 a4 rfl (by decide) v l.length (hV l) h ⟨vb,0,none⟩ 1 1 [Xu x] rfl (fun j u hj=>by
    cases j with
    | zero=>simp only[dJ,Option.some.injEq] at hj;subst hj;rw[Addr.add_lit];exact ar
    | succ j=>simp at hj) (by simp[Value.oneCell']) (by unfold maxLen;omega) (by omega) hB
   refine⟨v',w',h1,?_,h3,?_⟩
   ·have e:hV (l++[x])=hV l++[Xu x]:=by simp[hV]
    unfold FE;rw[e,aD];exact h2
   ·rcases h4 with h4 | h4
    ·exact aa h4
    ·exact ae ⟨_,h4,Nat.le_refl _⟩
  obtain⟨v',w',hr,ho,hg,hv⟩:=bo 59;rw[hd,ht];generalize ca:v.ownBlock=ob at hg hv⊢;have HF:=kq3 ho hg hv
  rcases h.2 with⟨rfl,e0⟩ | ⟨b,c,ch,rfl,-⟩
  ·obtain rfl:i=0:=by omega
   clear bo ho hg hv h hx ar hd ht a2 bc a3 a4 ca hne e0;go_enter func215,ntmps215
   go_wp2_with (at_builtin;refine Lib.wpList_append_run _ rfl _ _ _ _ rfl _ _ rfl rfl _ _ hr ?_)
   all_goals
    go_ret;exact⟨v',rfl,HF.out⟩
  ·rw[hn] at hr⊢;clear bo ho hg hv h hx ar hd ht a2 bc a3 a4 ca hne;go_enter func215,ntmps215
   go_wp2_with (at_builtin;refine Lib.wpList_append_run _ rfl _ _ _ _ rfl _ _ rfl rfl _ _ hr ?_)
   all_goals
    go_ret;exact⟨v',rfl,HF.out⟩
 ·have b9:i<n:=by omega
  rcases h.2 with⟨rfl,e0⟩ | ⟨b,c,ch,rfl,hb,al,c5,b1,bf,an⟩
  ·omega
  rw[hn] at c5 an⊢;rw[Nat.mul_one] at bf an;have a8:(hV l).length=n:=by simp[hV,hn]
  have cd:vb≠b:=fun e=>hne (by rw[e];rfl);have au:∀j v,(hV l)[j]?=some v->w.cell? ⟨b,0+j,none⟩=some v:=fun j v hj=>by
   rw[bO,cell_of_block al,<-bF];have c4:j<n:=by have:=(az.1 hj).1;omega
   rw[<-an,cq,if_pos c4] at hj;exact hj
  have bb:∀j v,[Value.int .u64 x][j]?=some v->w.cell? ⟨vb,0+j,none⟩=some v:=fun j v hj=>by
   cases j with
   | zero=>simp only[dJ,Option.some.injEq] at hj;subst hj;exact ar
   | succ j=>simp at hj
  have a5:∀v∈ [Value.int .u64 x],v.oneCell'=true:=fun v hv=>by rw[aS.1 hv];rfl
  have ba:(prog.info? 61).map (·.size)=some 1:=by rw[a2];simp[a3]
  have d2:IntKind.i64.wrap ((i:Int)+1)=(i:Int)+1:=aB _ (by omega);have dn:(0:Int)<=(i:Int)+1:=by omega
  have d1:((i:Int)+1).toNat=i+1:=by omega
  have bj:((hV l).drop i).length=n-i:=by rw[aN,a8]
  have d3:¬((i:Int)=(n:Int)):=by omega
  have ds:c<=9223372036854775807:=by unfold maxLen at b1;omega
  have d4:prog.follows .mixedOrders=true:=by kernel_rfl
  by_cases hroom:n+1<=c
  ·have bk:∀j,w.frozen? ⟨b,j,none⟩=false:=fun j=>AT al;have a':∀j,j<n+1->(w.cell? ⟨b,j,none⟩).isSome=true:=fun j hj=>by rw[cell_of_block al,Array.getElem?_eq_getElem (by omega)];rfl
   have c6:∀lb cb,(callFunc 238 #[.slice (some ⟨vb,0,none⟩) 1 1,.slice (some ⟨b,i+1,none⟩) lb cb]).run prog w=.ok (.value (.bool false)) w:=fun lb cb=>by
    rw[run_callFunc_extern (fn:=f238) (by kernel_rfl) (by kernel_rfl) (by kernel_rfl) (by kernel_rfl) (e:=Extern.SlicesOverlaps.overlaps #[59,59] #[4]) (by kernel_rfl),
     Lib.run_overlaps_apart w 59 4 61 underlying59 1 (fun _=>by kernel_rfl) ⟨vb,0,none⟩ ⟨b,i+1,none⟩ 1 1 lb cb cd 61 61 1 c (by simp[World.shape?,hx]) (by simp[World.shape?,al,bf]) (by omega) (AT hx) (AT hx)]
    rfl
   have a7:¬(c=i+1):=by omega
   have cp:(i:Int)<=(n:Int)+1:=by omega
   have dp:¬(c=i):=by omega
   have c3:i<=n:=by omega
   have b2:∀ty dc sc,(Builtin.copy_ #[59,59] ty #[.slice (some ⟨b,i+1,none⟩) (n-i) dc,.slice (some ⟨b,i,none⟩) (n+1-i) sc]).run prog w.drew=.ok (goInt ((hV l).drop i).length) (w.drew.setCells b (i+1) ((hV l).drop i)):=fun ty dc sc=>
    run_copy_cells w.drew _ _ ty 61 b (i+1) (n-i) dc ⟨b,i,none⟩ (n+1-i) sc ((hV l).drop i) underlying59 ba (by rw[bj];simp only[Nat.min_def];split<;>omega)
     (fun j v hj=>by rw[Addr.add_lit];have:=au (i+j) v (by rwa[dH] at hj);rwa[bO] at this)
     (fun j hj=>a' _ (by omega)) (fun j hj=>bk _) (fun v hv=>uI v (bq hv))
   obtain⟨W1,ai⟩:∃W1,W1=w.drew.setCells b (i+1) ((hV l).drop i):=⟨_,rfl⟩;have cc:∀k,k<n+1->(W1.cell? ⟨b,k,none⟩).isSome=true:=fun k hk=>by
    rw[ai];exact isSome_setCells b _ _ _ (fun j hj=>by rw[bj] at hj;exact a' (i+1+j) (by omega)) _ (a' k hk)
   have cw:∀(W:World),(∀x,W.cell? x=W1.cell? x)->(∀x,W.frozen? x=W1.frozen? x)->∀ty dc,(Builtin.copy_ #[59,59] ty #[.slice (some ⟨b,i,none⟩) (n+1-i) dc,.slice (some ⟨vb,0,none⟩) 1 1]).run prog W=.ok (goInt [Value.int .u64 x].length) (W.setCells b i [Xu x]):=fun W hWc hWf ty dc=>
    run_copy_cells W _ _ ty 61 b i (n+1-i) dc ⟨vb,0,none⟩ 1 1 [Xu x] underlying59 ba (by simp only[Nat.min_def,ak,aM];split<;>omega)
     (fun j v hj=>by
      rw[Addr.add_lit,hWc,ai,World.cell?_setCells_out b _ _ _ _ (fun h _=>absurd h cd)];exact bb j v hj)
     (fun j hj=>by rw[hWc];exact cc _ (by simp at hj;omega)) (fun j hj=>by rw[hWf,ai,World.frozen?_setCells];exact bk _) a5
   have a0:FE ((w.drew.setCells b (i+1) ((hV l).drop i)).setCells b i [Xu x]) B (.slice (some ⟨b,0,none⟩) (n+1) c) (l.take i++x::l.drop i):=by
    have a7:=mM [Xu x] i (mM ((hV l).drop i) (i+1) (w:=w.drew) al);refine⟨by simp[hV],.inr ⟨b,c,_,by rw[lR (by omega),hn],hb,a7,by rw[lR (by omega),hn];exact hroom,b1,by rw[lw,lw,bf,Nat.mul_one],?_⟩⟩;rw[lR (by omega),hn,Nat.mul_one,uH];exact Ed an a8 (by omega) (by omega)
   have a1:w.grownBy ((w.drew.setCells b (i+1) ((hV l).drop i)).setCells b i [Xu x]) (some b):=(Bf w _).trans ((mK _ _ _).trans (mK _ _ _));have HF:=kq2 a0 a1;rw[<-ai] at b2 HF;clear a0 a1 au a' bk cc an al hx ar bb a5 hne h;go_enter func215,ntmps215
   go_wp2_with (simp only[c6])
   go_region_law_o (refine step_copy_runI rfl _ _ 59 59 rfl _ _ (by simp[Act.eval,Act.put]) (by simp[Act.eval,Act.put]) (b2 _ _ _) ?_)
   go_wp2_with (at_builtin;refine wpList_copy_runI _ rfl _ _ 59 59 rfl _ _ rfl rfl (cw _ (fun _=>rfl) (fun _=>rfl) _ _) ?_)
   go_ret;rw[<-ai];exact⟨_,rfl,HF.a,HF.b,aa rfl⟩
  ·have cv:c=n:=by omega
   subst cv;have cs:b<w.heap.size:=(gl al);have c7:vb<w.heap.size:=(gl hx);have b':(c:Int)+1-(i:Int)=((c+1-i:Nat):Int):=by omega
   have bm:i+(c+1-i)=c+1:=by omega
   have hold:(Builtin.firstCells ti.size i (.slice (some ⟨b,0,none⟩) i c)).run prog w.drew=.ok ((hV l).take i).toArray w.drew:=by
    rw[a3];exact run_firstCells_some w.drew 1 i ⟨b,0,none⟩ i c ((hV l).take i) (by rw[ay];omega) (fun j v hj=>by
     rw[Addr.add_lit];rw[cq] at hj
     split at hj
     ·exact au j v hj
     ·cases hj)
   have a9:∀ty,(Builtin.append_ #[59,3] ty #[.slice (some ⟨b,0,none⟩) i c,Xi ((c:Int)+1-(i:Int))]).run prog w=
    .ok (.slice (some ⟨w.heap.size,0,none⟩) (c+1) (grownCap w (c+1) c 61)) (w.drew.alloc (.cells (((hV l).take i).toArray++Builtin.zeroCells (Value.int .u64 0).cells (c+1-i)++Builtin.zeroCells (Value.int .u64 0).cells (grownCap w (c+1) c 61-(c+1))) 61)):=fun ty=>by
    have h:=Lib.run_append_grow_zeros w 59 3 ty 61 ti _ .i64 .i64 underlying59 underlying3 a2 bc (some ⟨b,0,none⟩) i c ((hV l).take i) hold (c+1-i) (by omega) (by omega) (by omega) (by omega) (by rw[a4];omega) (by rw[a4,bm];exact growslice_fits (by omega) (by omega));rw[bm] at h;rw[b'];exact h
   obtain⟨G,hG⟩:∃G,G=grownCap w (c+1) c 61:=⟨_,rfl⟩;obtain⟨ad,a6⟩:∃ad:Array Value,ad=((hV l).take i).toArray++Builtin.zeroCells (Value.int .u64 0).cells (c+1-i)++Builtin.zeroCells (Value.int .u64 0).cells (G-(c+1)):=⟨_,rfl⟩;rw[<-hG] at a9;rw[<-a6] at a9;have cn:c+1<=G:=by rw[hG];exact grownCap_ge w _ _ _
   have bs:G<=maxLen:=by rw[hG];exact grownCap_le_maxLen w (c+1) c 61 (by unfold maxLen;omega)
   have bv:ad.size=G:=by
    rw[a6];simp only[Array.size_append,bp,size_zeroCells,ay,a8]
    simp[Value.cells]
    omega
   have b0:∀j,j<i->ad[j]?=(hV l)[j]?:=fun j hj=>by
    rw[a6,Array.append_assoc,Array.getElem?_append_left (by simp;omega),cg,cq,if_pos hj]
   obtain⟨W1,ai⟩:∃W1,W1=w.drew.alloc (.cells ad 61):=⟨_,rfl⟩;rw[<-ai] at a9;have hN:∀j,j<c+1->(W1.cell? ⟨w.heap.size,j,none⟩).isSome=true:=fun j hj=>by
    rw[ai,World.cell?_alloc_at (w:=w.drew) ad _ w.heap.size j rfl,Array.getElem?_eq_getElem (by omega)]
    rfl
   have bd:∀j,W1.frozen? ⟨w.heap.size,j,none⟩=false:=fun j=>by rw[ai];exact World.frozen?_alloc_at (w:=w.drew) ad _ w.heap.size j rfl
   have bt:∀j v,w.cell? ⟨b,j,none⟩=some v->W1.cell? ⟨b,j,none⟩=some v:=fun j v h=>by rw[ai,World.cell?_alloc_past (w:=w.drew) _ b j cs];exact h
   have bu:∀j v,w.cell? ⟨vb,j,none⟩=some v->W1.cell? ⟨vb,j,none⟩=some v:=fun j v h=>by rw[ai,World.cell?_alloc_past (w:=w.drew) _ vb j c7];exact h
   have cx:∀(W:World),(∀x,W.cell? x=W1.cell? x)->(∀x,W.frozen? x=W1.frozen? x)->∀ty dc,(Builtin.copy_ #[59,59] ty #[.slice (some ⟨w.heap.size,i,none⟩) (c+1-i) dc,.slice (some ⟨vb,0,none⟩) 1 1]).run prog W=.ok (goInt [Value.int .u64 x].length) (W.setCells w.heap.size i [Xu x]):=fun W hWc hWf ty dc=>
    run_copy_cells W _ _ ty 61 w.heap.size i (c+1-i) dc ⟨vb,0,none⟩ 1 1 [Xu x] underlying59 ba (by simp only[Nat.min_def,ak,aM];split<;>omega)
     (fun j v hj=>by rw[Addr.add_lit,hWc];exact bu _ v (bb j v hj))
     (fun j hj=>by rw[hWc];exact hN _ (by simp at hj;omega)) (fun j hj=>by rw[hWf];exact bd _) a5
   have cr:b≠w.heap.size:=by omega
   have b4:∀(W:World),(∀y,W.cell? y=(W1.setCells w.heap.size i [Xu x]).cell? y)->(∀y,W.frozen? y=(W1.setCells w.heap.size i [Xu x]).frozen? y)->∀ty dc sc,(Builtin.copy_ #[59,59] ty #[.slice (some ⟨w.heap.size,i+1,none⟩) (c-i) dc,.slice (some ⟨b,i,none⟩) (c-i) sc]).run prog W=.ok (goInt ((hV l).drop i).length) (W.setCells w.heap.size (i+1) ((hV l).drop i)):=fun W hWc hWf ty dc sc=>
    run_copy_cells W _ _ ty 61 w.heap.size (i+1) (c-i) dc ⟨b,i,none⟩ (c-i) sc ((hV l).drop i) underlying59 ba (by rw[bj];simp only[Nat.min_def];split<;>omega)
     (fun j v hj=>by
      rw[Addr.add_lit,hWc,World.cell?_setCells_out _ _ _ _ _ (fun h _=>absurd h cr)];have:=au (i+j) v (by rwa[dH] at hj);rw[bO] at this;exact bt _ v this)
     (fun j hj=>by rw[hWc];exact isSome_setCells _ _ _ _ (fun t ht=>hN _ (by simp at ht;omega)) _ (hN _ (by omega)))
     (fun j hj=>by rw[hWf,World.frozen?_setCells];exact bd _) (fun v hv=>uI v (bq hv))
   have a0:FE (((w.alloc (.cells ad 61)).drew.setCells w.heap.size i [Xu x]).drew.setCells w.heap.size (i+1) ((hV l).drop i)) B (.slice (some ⟨w.heap.size,0,none⟩) (c+1) G) (l.take i++x::l.drop i):=by
    have a7:=mM ((hV l).drop i) (i+1) (w:=((w.alloc (.cells ad 61)).drew.setCells w.heap.size i [Xu x]).drew) (mM [Xu x] i (w:=(w.alloc (.cells ad 61)).drew) (heap_alloc_new w (.cells ad 61)));refine⟨by simp[hV],.inr ⟨w.heap.size,G,_,by rw[lR (by omega),hn],hB,a7,by rw[lR (by omega),hn];exact cn,bs,by rw[lw,lw,bv,Nat.mul_one],?_⟩⟩;rw[lR (by omega),hn,Nat.mul_one,uH];exact Ee b0 a8 (by omega) (by omega)
   have a1:w.grownBy (((w.alloc (.cells ad 61)).drew.setCells w.heap.size i [Xu x]).drew.setCells w.heap.size (i+1) ((hV l).drop i)) (some b):=by
    have g1:=mK (b:=w.heap.size) [Xu x] (w.alloc (.cells ad 61)).drew i;have g2:=mK (b:=w.heap.size) ((hV l).drop i) ((w.alloc (.cells ad 61)).drew.setCells w.heap.size i [Xu x]).drew (i+1);refine⟨g2.os.trans g1.os,g2.tape.trans g1.tape,g2.output.trans g1.output,aK (by show w.heap.size<=(w.alloc _).heap.size;simp) (aK g1.size g2.size),fun k hk _=>?_⟩;have e1:=ol (b:=w.heap.size) (k:=k) (by omega) ((hV l).drop i) ((w.alloc (.cells ad 61)).drew.setCells w.heap.size i [Xu x]).drew (i+1);have e2:=ol (b:=w.heap.size) (k:=k) (by omega) [Xu x] (w.alloc (.cells ad 61)).drew i;exact e1.trans (e2.trans (heap_alloc_old _ _ hk))
   have HF:=kq2 a0 a1;subst ai;have cj:∀x,((w.alloc (.cells ad 61)).drew).cell? x=(w.drew.alloc (.cells ad 61)).cell? x:=fun x=>rfl;have ck:∀x,((w.alloc (.cells ad 61)).drew).frozen? x=(w.drew.alloc (.cells ad 61)).frozen? x:=fun x=>rfl;have cl:∀y,(((w.alloc (.cells ad 61)).drew.setCells w.heap.size i [Xu x]).drew).cell? y=((w.drew.alloc (.cells ad 61)).setCells w.heap.size i [Xu x]).cell? y:=fun x=>rfl;have cm:∀y,(((w.alloc (.cells ad 61)).drew.setCells w.heap.size i [Xu x]).drew).frozen? y=((w.drew.alloc (.cells ad 61)).setCells w.heap.size i [Xu x]).frozen? y:=fun x=>rfl;have c':¬(G=i):=by omega
   have dk:¬(G=i+1):=by omega
   have dv:¬(c=i):=by omega
   have c3:i<=c:=by omega
   have cp:(i:Int)<=(c:Int):=by omega
   have c8:G<=9223372036854775807:=by unfold maxLen at bs;omega
   have d0:(c:Int)<(c:Int)+1:=by omega
   clear b' bm hold a6 hG bv b0 hN bd bt bu a0 a1 au hx ar bb a5 hne h al an hroom;go_enter func215,ntmps215
   go_wp2_with (first
    | (at_builtin;refine Lib.wpList_append_run _ rfl _ _ _ _ rfl _ _ rfl rfl _ _ (a9 _) ?_)
    | (at_builtin;refine wpList_copy_runI _ rfl _ _ 59 59 rfl _ _ rfl rfl (cx _ cj ck _ _) ?_)
    | (at_builtin;refine wpList_copy_runI _ rfl _ _ 59 59 rfl _ _ rfl rfl (b4 _ (fun _=>rfl) (fun _=>rfl) _ _ _) ?_))
   go_region_law_o (refine step_copy_runI rfl _ _ 59 59 rfl (.slice (some ⟨w.heap.size,i+1,none⟩) (c-i) (G-(i+1))) (.slice (some ⟨b,i,none⟩) (c-i) (c-i)) (by simp[Act.eval,Act.put]) (by simp[Act.eval,Act.put]) (b4 _ cl cm 3 (G-(i+1)) (c-i)) ?_)
   go_wp2
   go_ret;exact⟨_,rfl,HF.a,HF.b,ae ⟨_,rfl,Nat.le_refl _⟩⟩