/- The handles' table in memory; none, of, At: the walks. -/
import Derived.Test.YtcibkdbpicledaaGreatDoorZSn
import Derived.Laws.AppendOwn
import Derived.OwnWalk
import Derived.Maps.AppendAt
import Derived.Lib.ItoaWalk
set_option maxRecDepth 100000
set_option maxHeartbeats 1600000
namespace Go.Proofs.YtcibkdbpicledaaGreatDoor
section
open Go.RowKit Tryz Go.BigFrame Go.Maps Go.WideMaps Lf
variable{pt:Nat}{v:Value}{w:World}
structure iW (t:Hs):Prop where
 most:1<=t.most/\t.most<=65536
 last:1<=t.last/\t.last<4294967296
 len:t.slots.length<=t.most
 slot:∀x∈t.slots,x.is<=2/\x.gen<4294967296/\x.addr<=4611686018427387903
def ko(x:e9):List Value:=[.int .i64 x.is,.int .u32 x.gen,.int .i64 x.addr]
def fp(l:List e9):List Value:=l.flatMap ko
structure eI (w:World) (pt:Nat) (t:Hs) (v:Value):Prop where
 wf:iW t
 hd:w.heap[pt]?=some (.cells #[.int .i64 t.most,.int .u32 t.last,v] 174 (0,0))
 row:w.ownsRow 0 205 3 v t.slots.length (fp t.slots)
theorem oV(l:List e9):(fp l).length=l.length*3:=by
 induction l with
 | nil=>rfl
 | cons x r ih=>simp only[fp,dQ,aE,ko,ak,aK] at ih⊢;omega
theorem wS(l:List e9):∀(k j:Nat) (h:k<l.length),j<3->(fp l)[k*3+j]?=(ko l[k])[j]?:=by
 induction l with
 | nil=>intro k j h;simp at h
 | cons x r ih=>
  intro k j h hj
  cases k with
  | zero=>
   simp only[fp,dQ,Nat.zero_mul,bT,List.getElem_cons_zero];rw[cI (by simp[ko];omega)]
  | succ k=>
   simp only[fp,dQ,List.getElem_cons_succ];rw[bU (by simp[ko];omega),show (k+1)*3+j-(ko x).length=k*3+j by simp[ko];omega];exact ih k j (by simpa using h) hj
theorem eI.cells{t:Hs}(h:eI w pt t v):
 (t.slots=[]/\v=.slice none 0 0)\/∃g ad,v=.slice (some ⟨g,0,none⟩) t.slots.length ad/\∀(k:Nat) (hk:k<t.slots.length),
  w.cell? ⟨g,k*3,none⟩=some (.int .i64 t.slots[k].is)/\w.cell? ⟨g,k*3+1,none⟩=some (.int .u32 t.slots[k].gen)/\w.cell? ⟨g,k*3+2,none⟩=some (.int .i64 t.slots[k].addr):=by
 rcases h.row.2 with⟨h0,hx⟩ | ⟨g,ad,ai,hv,_,hb,h1,_,h3,h4⟩
 ·exact ab ⟨ci.1 hx,h0⟩
 ·refine ae ⟨g,ad,hv,fun k hk=>?_⟩;have key:∀j,j<3->w.cell? ⟨g,k*3+j,none⟩=(ko t.slots[k])[j]?:=fun j hj=>by
   rw[Fs hb,<-wS t.slots k j hk hj,<-h4,cA (by omega),bK]
  exact⟨key 0 (by decide),key 1 (by decide),key 2 (by decide)⟩
theorem xz{t:Hs}(h:eI w pt t v):
 Ct 120 #[PV pt] w fun e w'=>e=.returned (.bool false)/\w=w':=by
 have c0:w.cell? ⟨pt,0,none⟩=some (.int .i64 t.most):=by rw[Fs h.hd];rfl
 have hm:=h.wf.most;have hb:((t.most:Int)==0)=false:=by simp;omega
 clear h;go_enter func120,ntmps120
 go_wp2
 go_ret;exact⟨rfl,rfl⟩
def oU(v:Value)(k:Nat):Value:=match v with | .slice (some ⟨g,0,none⟩) _ _=> .pointer (some ⟨g,k*3,none⟩) | _=> .pointer none
theorem qTaaa{P:Prop}(h:P:=by
 go_enter func127,ntmps127;go_wp2_with fail;refine HG.a.mono ?_;rintro e w1 ⟨rfl,rfl⟩;go_wp2_with fail;go_ret2;obtain rfl:=HG.b;exact⟨rfl,rfl⟩):P:=h
theorem xA{t:Hs}(h:eI w pt t v)(hh:Nat)(hl:hh<2^64):
 Ct 127 #[PV pt,.int .u64 hh] w fun e w'=>e=.returned (match t.of hh with | some k=> .tuple #[oU v k,.int .i64 0] | none=> .tuple #[.pointer none,.int .i64 7])/\w=w':=by
 have al:=xz h;have c2:w.cell? ⟨pt,2,none⟩=some v:=by rw[Fs h.hd];rfl
 have ar:bits BinOp.and IntKind.u64 (hh:Int) 4294967295=((hh % 4294967296:Nat):Int):=by
  rw[show (4294967295:Int)=((4294967295:Nat):Int) from rfl,bits_and_u64_nat _ _ hl (by decide)]
  congr 1
  exact Nat.and_two_pow_sub_one_eq_mod hh 32
 obtain⟨q,hq⟩:=Ii (hh % 4294967296);obtain⟨g,hg⟩:=Ii (hh / 4294967296);have ap:(hh:Int) / 4294967296=(g:Int):=by omega
 have ao:q<4294967296:=by omega
 have a2:g<4294967296:=by omega
 rw[hq] at ar;obtain⟨R,hR⟩:=Ii (match t.of hh with | some k=>Value.tuple #[oU v k,.int .i64 0] | none=> .tuple #[.pointer none,.int .i64 7]);rw[hR];have ad:t.of hh=if q=0 then none else match t.slots[q-1]? with | none=>none | some x=>if x.is=1/\x.gen=g then some (q-1) else none:=by
  unfold Hs.of;simp only[hq,hg]
  rfl
 by_cases h0:q=0
 ·rw[h0,if_pos rfl] at ad;have ai:R=.tuple #[.pointer none,.int .i64 7]:=by rw[<-hR,ad]
  subst h0;have HG:=kq2 al ai;clear al ai hR ad h hq hg ap;exact qTaaa
 ·rw[if_neg h0] at ad
  rcases h.cells with⟨he,hv⟩ | ⟨b,a1,hv,an⟩
  ·rw[he] at ad;have ai:R=.tuple #[.pointer none,.int .i64 7]:=by rw[<-hR,ad];rfl
   subst hv;have h1:¬((q:Int)-1<0):=by omega
   have HG:=kq2 al ai;clear al ai hR ad h hq hg he ap;exact qTaaa
  ·obtain⟨k,rfl⟩:∃k,q=k+1:=⟨q-1,by omega⟩;rw[Nat.add_sub_cancel] at ad;have a3:=h.wf.len;have a4:=h.wf.most
   by_cases hk:k<t.slots.length
   ·obtain⟨k0,k1,_⟩:=an k hk;rw[af hk] at ad;simp only at ad;have au:=(h.wf.slot _ (aG hk)).2.1;clear an;generalize t.slots[k]=x at*;clear h;generalize hL:t.slots.length=L at*;obtain⟨xi,xg,xa⟩:=x;simp only at ad k0 k1 au;subst hv;have a0:(k:Int)<L:=by omega
    by_cases h1:xi=1
    ·by_cases h2:xg=g
     ·have ai:R=.tuple #[.pointer (some ⟨b,k*3,none⟩),.int .i64 0]:=by rw[<-hR,ad,if_pos ⟨h1,h2⟩];rfl
      subst h1 h2;have HG:=kq2 al ai;clear al ai hR ad hq hg hL h0;exact qTaaa
     ·have ai:R=.tuple #[.pointer none,.int .i64 7]:=by rw[<-hR,ad,if_neg (fun hh=>h2 hh.2)]
      have ao:((xg:Int) !=g)=true:=by simp;omega
      subst h1;have HG:=kq2 al ai;clear al ai hR ad hq hg hL h0 h2;exact qTaaa
    ·have ai:R=.tuple #[.pointer none,.int .i64 7]:=by rw[<-hR,ad,if_neg (fun hh=>h1 hh.1)]
     have ao:((xi:Int) !=1)=true:=by simp;omega
     have HG:=kq2 al ai;clear al ai hR ad hq hg hL h0 h1;exact qTaaa
   ·rw[aH (by omega)] at ad;have ai:R=.tuple #[.pointer none,.int .i64 7]:=by rw[<-hR,ad]
    clear an h;generalize hL:t.slots.length=L at*;subst hv;have a0:(L:Int)<=k:=by omega
    have HG:=kq2 al ai;clear al ai hR ad hq hg hL h0;exact qTaaa
theorem Hs.of_lt{t:Hs}{h k:Nat}(hk:t.of h=some k):∃hlt:k<t.slots.length,t.slots[k].is=1/\t.slots[k].gen=h / 4294967296/\k+1=h % 4294967296:=by
 unfold Hs.of at hk;simp only at hk
 split at hk
 ·cases hk
 ·rename_i h0
  split at hk
  ·cases hk
  ·rename_i x hx
   split at hk
   ·rename_i hc
    injection hk with hk
    obtain⟨hlt,ad⟩:=aA.1 hx;subst hk;refine⟨hlt,?_,?_,by omega⟩
    ·rw[ad];exact hc.1
    ·rw[ad];exact hc.2
   ·cases hk
theorem sQ{t:Hs}{h k:Nat}(hk:t.of h=some k)(hlt:k<t.slots.length):t.at h=(t.slots[k].addr,0):=by
 unfold Hs.at;rw[hk];simp only;rw[aj,af hlt];rfl
theorem qTaab{P:Prop}(h:P:=by
 go_enter func126,ntmps126;go_wp2_with fail;refine HO.out.mono ?_;rintro e w1 ⟨rfl,rfl⟩;go_wp2_with fail;go_ret2;exact⟨rfl,rfl⟩):P:=h
theorem EH{t:Hs}(h:eI w pt t v)(hh:Nat)(hl:hh<2^64):
 Ct 126 #[PV pt,.int .u64 hh] w fun e w'=>e=.returned (.tuple #[.int .i64 ((t.at hh).1:Nat),.int .i64 ((t.at hh).2:Nat)])/\w=w':=by
 have ho:=xA h hh hl
 cases hk:t.of hh with
 | none=>
  have he:t.at hh=(0,7):=by unfold Hs.at;rw[hk]
  rw[hk] at ho;rw[he];have HO:=If ho;clear ho he hk h;exact qTaab
 | some k=>
  obtain⟨ad,_⟩:=Hs.of_lt hk;have he:=sQ hk ad;rw[hk] at ho;rw[he]
  rcases h.cells with⟨h0,_⟩ | ⟨b,al,hv,ai⟩
  ·rw[h0] at ad
   simp at ad
  ·have k2:=(ai k ad).2.2;generalize t.slots[k]=x at*;rw[hv] at ho;simp only[oU] at ho;have HO:=If ho;clear ho he hk ai h hv;exact qTaab
theorem EK(n l:Nat)(w:World)(hn:1<=n/\n<=65536)(hl:1<=l/\l<4294967296):
 Ct 77 #[.int .i64 n,.int .u32 l] w fun e w'=>e=.returned (.tuple #[PV w.heap.size,.int .i64 0])/\eI w' w.heap.size ⟨n,l,[]⟩ (.slice none 0 0)/\Below w.heap.size w w':=by
 obtain⟨h1,h2⟩:=hn;obtain⟨h3,h4⟩:=hl;have ht:eI (w.alloc (.cells #[.int .i64 n,.int .u32 l,.slice none 0 0] 174)) w.heap.size ⟨n,l,[]⟩ (.slice none 0 0):=by
  refine⟨⟨⟨h1,h2⟩,⟨h3,h4⟩,cH _,fun x hx=>absurd hx (by simp)⟩,?_,World.ownsRow_nil _ _ _ _⟩
  show (w.heap.push _)[w.heap.size]?=_
  simp
 have HT:=If ht;clear ht;go_enter func77,ntmps77
 go_wp2
 go_ret2;exact⟨rfl,HT.out,(aa _ _).alloc Ih _⟩
theorem EJ{t:Hs}(h:eI w pt t v)(k:Nat)(hk:k<t.slots.length):
 Ct 121 #[PV pt,.int .i64 k] w fun e w'=>e=.returned (.int .u64 (gj t.slots[k].gen k:Nat))/\w=w':=by
 have c2:w.cell? ⟨pt,2,none⟩=some v:=by rw[Fs h.hd];rfl
 have ap:=h.wf.len;have ar:=h.wf.most
 rcases h.cells with⟨h0,_⟩ | ⟨b,an,hv,ad⟩
 ·rw[h0] at hk
  simp at hk
 ·have k1:=(ad k hk).2.1;have hg:=(h.wf.slot _ (aG hk)).2.1;clear ad;generalize t.slots[k].gen=g at*;clear h;generalize hL:t.slots.length=L at*;subst hv;have ao:(k:Int)<L:=by omega
  have ai:bits BinOp.or IntKind.u64 ((g:Int)*4294967296) ((k:Int)+1)=((gj g k:Nat):Int):=by
   rw[show ((g:Int)*4294967296)=((g*4294967296:Nat):Int) by simp,show ((k:Int)+1)=((k+1:Nat):Int) by simp,bits_or_u64_nat _ _ (by omega) (by omega)]
   congr 1
   have h8:=cU (i:=32) (b:=k+1) (by omega) g;rw[Nat.shiftLeft_eq] at h8;exact h8.symm
  have al:=If ai;clear ai hL;go_enter func121,ntmps121
  go_wp2
  go_ret;rw[<-al.out];exact⟨rfl,rfl⟩
theorem qC:∀(l:List e9) (k0 k:Nat),k<=l.length->(∀j (h:j<l.length),j<k->l[j].is≠0)->(k=l.length\/∃h:k<l.length,l[k].is=0)->gH l k0=k0+k
 | [],k0,k,hk,_,_=>by
  have:k=0:=by simpa using hk
  subst this;rfl
 | x::r,k0,k,hk,h1,h2=>by
  unfold gH;cases k with
  | zero=>
   rcases h2 with h2 | ⟨h,h2⟩
   ·simp at h2
   ·rw[if_pos (by simpa using h2)];rfl
  | succ k=>
   have hx:=h1 0 (by simp) (by omega);rw[if_neg (by simpa using hx),qC r (k0+1) k (by simpa using hk) (fun j h hj=>by have:=h1 (j+1) (by simpa using h) (by omega);simpa using this) (by
    rcases h2 with h2 | ⟨h,h2⟩
    ·exact ab (by simpa using h2)
    ·exact ae ⟨by simpa using h,by simpa using h2⟩)]
   omega
theorem wT:∀(l:List e9) (k:Nat) (x:e9),k<l.length->(((fp l).set (k*3) (.int .i64 x.is)).set (k*3+1) (.int .u32 x.gen)).set (k*3+2) (.int .i64 x.addr)=fp (l.set k x)
 | [],k,_,h=>by simp at h
 | y::r,0,x,_=>rfl
 | y::r,k+1,x,h=>by
  have ih:=wT r k x (by simpa using h);have e:fp (y::r)=(.int .i64 y.is)::(.int .u32 y.gen)::(.int .i64 y.addr)::fp r:=rfl;have e2:fp ((y::r).set (k+1) x)=(.int .i64 y.is)::(.int .u32 y.gen)::(.int .i64 y.addr)::fp (r.set k x):=rfl;rw[e,e2,<-ih,show (k+1)*3=k*3+1+1+1 by omega,show k*3+1+1+1+1=k*3+1+1+1+1 from rfl,show k*3+1+1+1+2=k*3+2+1+1+1 by omega];simp only[List.set_cons_succ]
theorem Er(l m:List e9):fp (l++m)=fp l++fp m:=by unfold fp;exact dG
def jz(w:World)(g k:Nat)(x:e9):World:=((w.setCell ⟨g,k*3,none⟩ (.int .i64 x.is)).setCell ⟨g,k*3+1,none⟩ (.int .u32 x.gen)).setCell ⟨g,k*3+2,none⟩ (.int .i64 x.addr)
theorem wB{g k b:Nat}{x:e9}(h:b≠g):(jz w g k x).heap[b]?=w.heap[b]?:=by
 unfold jz;rw[FB h,FB h,FB h]
theorem DH(w:World)(g k:Nat)(x:e9):(jz w g k x).heap.size=w.heap.size:=by unfold jz;rw[size_setCell,size_setCell,size_setCell]
theorem Do{g cap k:Nat}{l:List e9}(h:w.ownsRow 0 205 3 (.slice (some ⟨g,0,none⟩) l.length cap) l.length (fp l))(x:e9)(hk:k<l.length):
 (jz w g k x).ownsRow 0 205 3 (.slice (some ⟨g,0,none⟩) l.length cap) l.length (fp (l.set k x)):=by
 rcases h.2 with⟨h0,_⟩ | ⟨g',al,ad,hv,hg,hb,h1,h2,h3,h4⟩
 ·cases h0
 ·injection hv with hv1 hv2 hv3
  injection hv1 with hv1
  injection hv1 with hv1
  subst hv1 hv3;refine⟨by rw[oV,bG],ae ⟨g,cap,((ad.setIfInBounds (k*3) (.int .i64 x.is)).setIfInBounds (k*3+1) (.int .u32 x.gen)).setIfInBounds (k*3+2) (.int .i64 x.addr),rfl,hg,?_,h1,h2,by simpa using h3,?_⟩⟩
  ·unfold jz;exact heap_setCell (heap_setCell (heap_setCell hb))
  ·have ai:ad.toList=fp l++ad.toList.drop (l.length*3):=by rw[<-h4,aX]
   have hl:=oV l;simp only[c8];rw[ai,dg _ _ (by omega),dg _ _ (by simp;omega),dg _ _ (by simp;omega),List.take_left' (by simp;omega),wT l k x hk]
theorem Eq:(prog.info? 205).map (fun i=>(i.zero,i.size,i.bytes))=some (some (.agg #[.int .i64 0,.int .u32 0,.int .i64 0]),3,24):=by kernel_rfl
theorem eI.form{t:Hs}(h:eI w pt t v):
 ∃A ad,v=.slice A t.slots.length ad/\∀(k:Nat) (hk:k<t.slots.length),∃g,A=some ⟨g,0,none⟩/\
  (w.cell? ⟨g,k*3,none⟩=some (.int .i64 t.slots[k].is)/\w.cell? ⟨g,k*3+1,none⟩=some (.int .u32 t.slots[k].gen)/\w.cell? ⟨g,k*3+2,none⟩=some (.int .i64 t.slots[k].addr))/\
  (w.frozen? ⟨g,k*3,none⟩=false/\w.frozen? ⟨g,k*3+1,none⟩=false/\w.frozen? ⟨g,k*3+2,none⟩=false)/\g≠pt:=by
 rcases h.row.2 with⟨h0,hx⟩ | ⟨g,ad,ai,hv,_,hb,h1,_,h3,h4⟩
 ·exact⟨none,0,by rw[h0,hx],fun k hk=>by omega⟩
 ·refine⟨_,ad,hv,fun k hk=>⟨g,rfl,?_,⟨AT hb,AT hb,AT hb⟩,fun e=>?_⟩⟩
  ·have key:∀j,j<3->w.cell? ⟨g,k*3+j,none⟩=(ko t.slots[k])[j]?:=fun j hj=>by
    rw[Fs hb,<-wS t.slots k j hk hj,<-h4,cA (by omega),bK]
   exact⟨key 0 (by decide),key 1 (by decide),key 2 (by decide)⟩
  ·have:=h.hd;rw[<-e,hb] at this;injection this with this
   injection this with _ this
   exact absurd this (by decide)
theorem eI.set{t:Hs}{g cap k:Nat}(h:eI w pt t (.slice (some ⟨g,0,none⟩) t.slots.length cap))(x:e9)(hk:k<t.slots.length)(hx:x.is<=2/\x.gen<4294967296/\x.addr<=4611686018427387903)(hg:g≠pt):
 eI (jz w g k x) pt { t with slots:=t.slots.set k x } (.slice (some ⟨g,0,none⟩) t.slots.length cap) where
 wf:=⟨h.wf.most,h.wf.last,by simpa using h.wf.len,fun y hy=>by
  rcases cJ hy with hy | rfl
  ·exact h.wf.slot y hy
  ·exact hx⟩
 hd:=by rw[wB (Ne.symm hg)];exact h.hd
 row:=by
  have:=Do h.row x hk;simpa using this
theorem eI.opened{t:Hs}{g cap k:Nat}(h:eI w pt t (.slice (some ⟨g,0,none⟩) t.slots.length cap))(q is gen a:Nat)(hk:k<t.slots.length)(hx:is<=2/\gen<4294967296/\a<=4611686018427387903)(hg:g≠pt)(Y:Nat->Prop)(hy:∀b,Y b->b≠g):
 eI (jz (w.drewN q) g k ⟨is,gen,a⟩) pt { t with slots:=t.slots.set k ⟨is,gen,a⟩ } (.slice (some ⟨g,0,none⟩) t.slots.length cap)/\Fo Y w (jz (w.drewN q) g k ⟨is,gen,a⟩):=
 have hd:eI (w.drewN q) pt t (.slice (some ⟨g,0,none⟩) t.slots.length cap):=⟨h.wf,h.hd,h.row⟩
 ⟨hd.set ⟨is,gen,a⟩ hk hx hg,rfl,rfl,rfl,Nat.le_of_eq (DH (w.drewN q) g k ⟨is,gen,a⟩).symm,fun b hb=>wB (w:=w.drewN q) (hy b hb)⟩
theorem eI.named{t:Hs}{k is gen a:Nat}(h:eI w pt { t with slots:=t.slots.set k ⟨is,gen,a⟩ } v)(hk:k<t.slots.length):
 Ct 121 #[PV pt,.int .i64 k] w fun e w'=>e=.returned (.int .u64 (gj gen k:Nat))/\w=w':=by
 have:=EJ h k (by simpa using hk);simpa using this
theorem Es(l:List e9):fp l++[.int .i64 0,.int .u32 0,.int .i64 0]=fp (l++[⟨0,0,0⟩]):=by rw[Er];rfl
theorem eI.head_ne{t:Hs}(h:eI w pt t v):v.ownBlock≠some pt:=by
 rcases h.row.2 with⟨rfl,_⟩ | ⟨g,ad,ai,rfl,_,hb,_⟩
 ·simp[Value.ownBlock]
 ·simp only[Value.ownBlock,ne_eq,Option.some.injEq];intro e;have:=h.hd;rw[<-e,hb] at this
  injection this with this
  injection this with _ this
  exact absurd this (by decide)
theorem eI.pt_lt{t:Hs}(h:eI w pt t v):pt<w.heap.size:=(gl h.hd)
theorem eI.grew{w w1:World}{t:Hs}{v v':Value}(h:eI w pt t v)(o:Obj)(hm:t.slots.length<t.most)(hown:w1.ownsRow 0 205 3 v' (t.slots.length+1) (fp t.slots++[.int .i64 0,.int .u32 0,.int .i64 0]))
 (hgrow:(w.alloc o).grownBy w1 v.ownBlock) (hat:v'.ownBlock=v.ownBlock\/v'.ownBlock=some (w.heap.size+1)) (Y:Nat->Prop) (hy:∀b,Y b->b<w.heap.size/\b≠pt/\some b≠v.ownBlock):
 w1.heap[pt]?=w.heap[pt]?/\eI (w1.setCell ⟨pt,2,none⟩ v') pt { t with slots:=t.slots++[⟨0,0,0⟩] } v'/\Fo Y w (w1.setCell ⟨pt,2,none⟩ v')/\(∀b,Y b->some b≠v'.ownBlock):=by
 have an:=h.pt_lt;have ad:w1.heap[pt]?=w.heap[pt]?:=by
  rw[hgrow.block pt (by simp;omega) (fun e=>h.head_ne e.symm),heap_alloc_old w o an]
 have ao:v'.ownBlock≠some pt:=by
  rcases hat with e | e
  ·rw[e];exact h.head_ne
  ·rw[e];simp;omega
 refine⟨ad,⟨⟨h.wf.most,h.wf.last,by simp;omega,fun x hx=>?_⟩,?_,?_⟩,⟨hgrow.os,hgrow.tape,hgrow.output,?_,fun b hb=>?_⟩,fun b hb e=>?_⟩
 ·rcases am.1 hx with hx | hx
  ·exact h.wf.slot x hx
  ·obtain rfl:=aT.1 hx;simp
 ·exact heap_setCell (ad.trans h.hd)
 ·rw[Es] at hown;simp only[aE,ak,aK,bT];refine⟨hown.1,?_⟩;rcases hown.2 with hn | ⟨g,ai,al,rfl,hb,hg,rest⟩
  ·exact ab hn
  ·refine ae ⟨g,ai,al,rfl,hb,?_,rest⟩;rw[FB (fun e=>ao (by rw[<-show g=pt from e];rfl))];exact hg
 ·have:=hgrow.size;rw[size_setCell];simp at this
  omega
 ·obtain⟨h1,h2,h3⟩:=hy b hb;rw[FB h2,hgrow.block b (by simp;omega) h3,heap_alloc_old w o h1]
 ·obtain⟨h1,h2,h3⟩:=hy b hb;rcases hat with e' | e'
  ·exact h3 (e.trans e')
  ·rw[e'] at e;injection e with e;omega
theorem EL{t:Hs}(h:eI w pt t v)(a:Nat)(ha:a<=4611686018427387903)(Y:Nat->Prop)(hy:∀b,Y b->b<w.heap.size/\b≠pt/\some b≠v.ownBlock):
 Ct 94 #[PV pt,.int .i64 a] w fun e w'=>e=.returned (.tuple #[.int .u64 ((t.open a).1.1:Nat),.int .i64 ((t.open a).1.2:Nat)])/\(∃v',eI w' pt (t.open a).2 v'/\∀b,Y b->some b≠v'.ownBlock)/\Fo Y w w':=by
 have a6:=xz h;have c0:w.cell? ⟨pt,0,none⟩=some (.int .i64 t.most):=by rw[Fs h.hd];rfl
 have c2:w.cell? ⟨pt,2,none⟩=some v:=by rw[Fs h.hd];rfl
 have f2:w.frozen? ⟨pt,2,none⟩=false:=AT h.hd;obtain⟨A,a9,hv,a2⟩:=h.form;have a5:=h.wf.len;have ba:=h.wf.most;obtain⟨R,hR⟩:=Ii (t.open a);rw[hR];have a1:R=if gH t.slots 0=t.most then((0,10),t) else((gj ((t.genAt (gH t.slots 0)+1) % 4294967296) (gH t.slots 0),0),{ t with slots:=(if gH t.slots 0=t.slots.length then t.slots++[⟨0,0,0⟩] else t.slots).set (gH t.slots 0) ⟨1,(t.genAt (gH t.slots 0)+1) % 4294967296,a⟩ }):=by rw[<-hR];rfl
 subst hv;obtain⟨L,hL⟩:=Ii t.slots.length;obtain⟨M,hM⟩:=Ii t.most;rw[hL] at c2 a5;rw[hM] at c0 a5 ba;have HG:=kq7 a6 a1 h a2 hL hM hy;clear a6 a1 hR h a2 hL hM hy;go_enter func94,ntmps94;go_wp2_with fail;refine HG.a.mono ?_;rintro e w1 ⟨rfl,rfl⟩;go_wp2_with fail
 go_loop [6] (fun i=>∃k:Nat,k<=L/\i=.int .i64 k/\Hid (∀j (h:j<t.slots.length),j<k->t.slots[j].is≠0)) (fun i=>L-(intOf i).toNat)
 case atStart=>exact⟨0,by omega,rfl,fun j _ hj=>absurd hj (by omega)⟩
 case round=>
  obtain⟨k,hk,rfl,ap⟩:=hrel
  by_cases hlt:k<L
  ·obtain⟨g,hA,⟨k0,k1,k2⟩,⟨f0,f1,f3⟩,ao⟩:=HG.d k (by rw[HG.e];exact hlt);subst hA;have bk:(k:Int)<L:=by omega
   by_cases hz:(t.slots[k]'(by rw[HG.e];exact hlt)).is=0
   ·rw[hz] at k0;have ad:gH t.slots 0=0+k:=qC t.slots 0 k (by rw[HG.e];exact hk) ap.out (ae ⟨by rw[HG.e];exact hlt,hz⟩);rw[bT] at ad;have a':((k:Int)==M)=false:=by simp;omega
    have bj:((k:Int)==L)=false:=by simp;omega
    have au:=HG.c.wf.slot _ (aG (show k<t.slots.length by rw[HG.e];exact hlt));have an:t.genAt k=(t.slots[k]'(by rw[HG.e];exact hlt)).gen:=by
     unfold Hs.genAt;rw[aj,af (by rw[HG.e];exact hlt)]
     rfl
    obtain⟨gn,a4⟩:∃gn,(t.slots[k]'(by rw[HG.e];exact hlt)).gen=gn:=⟨_,rfl⟩;rw[a4] at k1 an au;have HF:=kq3 ad an au;clear ad an au a4 hz;go_wp2_with fail;refine lD (C:=fun w'=>∃q:Nat,w'=(w).drewN q) 17 (by kernel_rfl) (by kernel_rfl) ⟨1,rfl⟩ ?_;simp only[bS,cF,ce,cR]
    repeat (first | go_big_quiet_skip | (go_big_quiet_want;go_big_quiet_op;first | go_big_quiet_on))
    refine wpQuiet_nil ?_;rintro _ ⟨q,rfl⟩;go_wp2_with fail;have HP:=If (HG.c.opened q 1 ((gn+1) % 4294967296) a (by rw[HG.e];exact hlt) ⟨by omega,Nat.mod_lt _ (by decide),ha⟩ ao Y (fun b hb e=>(HG.g b hb).2.2 (by rw[e];rfl)));have HN:=HP.out.1.named (by rw[HG.e];exact hlt);rw[show jz (w.drewN q) g k ⟨1,(gn+1) % 4294967296,a⟩=(((w.drewN q).setCell ⟨g,k*3,none⟩ (.int .i64 1)).setCell ⟨g,k*3+1,none⟩ (.int .u32 (((gn:Int)+1) % 4294967296))).setCell ⟨g,k*3+2,none⟩ (.int .i64 a) from rfl] at HN;refine HN.mono ?_;rintro e w1 ⟨rfl,rfl⟩;go_wp2_with fail;go_ret2;obtain rfl:R=((gj ((gn+1) % 4294967296) k,0),{ t with slots:=t.slots.set k ⟨1,(gn+1) % 4294967296,a⟩ }):=by
     rw[HG.b,HF.a,if_neg (by rw[HG.f];omega),HF.b,if_neg (by rw[HG.e];omega)]
    exact⟨rfl,⟨_,HP.out.1,fun b hb=>(HG.g b hb).2.2⟩,HP.out.2⟩
   ·obtain⟨z,a8⟩:∃z,(t.slots[k]'(by rw[HG.e];exact hlt)).is=z:=⟨_,rfl⟩;have hj:∀j (h:j<t.slots.length),j<k+1->t.slots[j].is≠0:=fun j hjl ar=>by
     rcases Nat.lt_succ_iff_lt_or_eq.1 ar with ar | rfl
     ·exact ap.out j hjl ar
     ·exact hz
    have hj:=If hj;rw[a8] at k0 hz;have bm:((z:Int)==0)=false:=by simp;omega
    clear a8;go_wp2_with fail;go_round
    case rel=>exact⟨k+1,by omega,by simp,hj⟩
    case measure=>simp[intOf];omega
  ·obtain rfl:k=L:=by omega
   have ad:gH t.slots 0=0+k:=qC t.slots 0 k (by rw[HG.e];exact Nat.le_refl _) ap.out (ab HG.e.symm);rw[bT] at ad;have HF:=If ad;clear ad
   by_cases hM:k=M
   ·subst hM;go_wp2_with fail;go_ret2;obtain rfl:R=((0,10),t):=by rw[HG.b,HF.out,if_pos HG.f.symm]
    exact⟨rfl,⟨_,HG.c,fun b hb=>(HG.g b hb).2.2⟩,Fo.refl _ _⟩
   ·have a':((k:Int)==M)=false:=by simp;omega
    have HR:=If HG.c.row;rw[HG.e] at HR;obtain⟨i0,hi,bc,bd,bf⟩:=info_parts Eq
    go_wp2_with (at_builtin;refine wpList_append_own_at _ rfl _ _ 172 rfl 0 205 i0 (.agg #[.int .i64 0,.int .u32 0,.int .i64 0]) 3 24 underlying172 hi bc bd bf rfl (by decide) _ _ _ rfl (HR.out.alloc _) ⟨w.heap.size,0,none⟩ 1 1 [.int .i64 0,.int .u32 0,.int .i64 0] rfl rfl ?c1 ?c2 ?c3 ?c4 ?c5 ?_)
    case c2=>simp[Value.oneCell']
    case c3=>unfold maxLen;omega
    case c4=>omega
    intro v' w1 hown1 hgrow1 _ hat;have HQ:=If (HG.c.grew _ (by rw[HG.e,HG.f];omega) (by rw[HG.e];exact hown1) (by rw[HG.e];exact hgrow1) (by rw[HG.e];exact hat) Y HG.g);clear hown1 hgrow1 hat HR;have d2:w1.cell? ⟨pt,2,none⟩=some (.slice A k a9):=(World.cell?_of_block HQ.out.1).trans c2;have g2:w1.frozen? ⟨pt,2,none⟩=false:=(World.frozen?_of_block HQ.out.1).trans f2;obtain⟨l2,al⟩:=Ii (t.slots++[(⟨0,0,0⟩:e9)]);have ai:l2.length=k+1:=by rw[<-al];simp[HG.e]
    have a7:l2[k]'(by omega)=⟨0,0,0⟩:=by
     subst al;rw[List.getElem_append_right (by rw[HG.e];exact Nat.le_refl _)]
     simp[HG.e]
    rw[al] at HQ;obtain⟨A',a0,bb,a3⟩:=HQ.out.2.1.form;obtain⟨g,hA,⟨k0,k1,k2⟩,⟨f0,f1,f3⟩,ao⟩:=a3 k (by show k<l2.length;omega);subst bb hA;clear a3;simp only[a7] at k0 k1 k2;simp only[ai] at k0 k1 k2 f0 f1 f3;have c3:(w1.setCell ⟨pt,2,none⟩ (.slice (some ⟨g,0,none⟩) l2.length a0)).cell? ⟨pt,2,none⟩=some (.slice (some ⟨g,0,none⟩) (k+1) a0):=by
     rw[Fs HQ.out.2.1.hd,<-ai]
     rfl
    rw[ai] at c3;have HL:=kq2 ai al;clear al a7;simp only[ai];clear ai;go_wp2_with fail
    go_name_world W HW
    rw[HL.a] at HQ;rw[HW] at c3 k0 k1 k2 f0 f1 f3 HQ;clear HW;refine lD (C:=fun w'=>∃q:Nat,w'=(W).drewN q) 17 (by kernel_rfl) (by kernel_rfl) ⟨1,rfl⟩ ?_;simp only[bS,cF,ce,cR]
    repeat (first | go_big_quiet_skip | (go_big_quiet_want;go_big_quiet_op;first | go_big_quiet_on))
    refine wpQuiet_nil ?_;rintro _ ⟨q,rfl⟩;go_wp2_with fail;have h2:=HQ.out.2.1;rw[<-HL.a] at h2;have HP:=If (h2.opened q 1 1 a (by show k<l2.length;rw[HL.a];omega) ⟨by omega,by omega,ha⟩ ao Y (fun b hb e=>HQ.out.2.2.2 b hb (by rw[e];rfl)));have HN:=HP.out.1.named (t:=⟨t.most,t.last,l2⟩) (by show k<l2.length;rw[HL.a];omega);clear h2;rw[show jz (W.drewN q) g k ⟨1,1,a⟩=(((W.drewN q).setCell ⟨g,k*3,none⟩ (.int .i64 1)).setCell ⟨g,k*3+1,none⟩ (.int .u32 1)).setCell ⟨g,k*3+2,none⟩ (.int .i64 a) from rfl] at HN;refine HN.mono ?_;rintro e w1 ⟨rfl,rfl⟩;go_wp2_with fail;go_ret2;obtain rfl:R=((gj 1 k,0),{ t with slots:=l2.set k ⟨1,1,a⟩ }):=by
     rw[HG.b,HF.out,if_neg (by rw[HG.f];omega),if_pos HG.e.symm,HL.b];have:t.genAt k=0:=by
      unfold Hs.genAt;rw[aj,aH (by rw[HG.e];exact Nat.le_refl _)]
      rfl
     rw[this]
    exact⟨rfl,⟨_,HP.out.1,fun b hb=>by have:=HQ.out.2.2.2 b hb;rwa[<-HL.a] at this⟩,HQ.out.2.2.1.trans HP.out.2⟩
theorem wU:∀(l:List e9) (k i:Nat) (h:k<l.length),(fp l).set (k*3) (.int .i64 i)=fp (l.set k { l[k] with is:=i })
 | [],k,_,h=>by simp at h
 | y::r,0,i,_=>rfl
 | y::r,k+1,i,h=>by
  have ih:=wU r k i (by simpa using h);have e:fp (y::r)=(.int .i64 y.is)::(.int .u32 y.gen)::(.int .i64 y.addr)::fp r:=rfl;have e2:fp ((y::r).set (k+1) { (y::r)[k+1] with is:=i })=(.int .i64 y.is)::(.int .u32 y.gen)::(.int .i64 y.addr)::fp (r.set k { (y::r)[k+1] with is:=i }):=rfl;rw[e,e2,show (k+1)*3=k*3+1+1+1 by omega];simp only[List.set_cons_succ,List.getElem_cons_succ] at ih⊢;rw[ih]
theorem eI.mark{t:Hs}{g cap k:Nat}(h:eI w pt t (.slice (some ⟨g,0,none⟩) t.slots.length cap))(i:Nat)(hk:k<t.slots.length)(hi:i<=2)(hg:g≠pt):
 eI (w.setCell ⟨g,k*3,none⟩ (.int .i64 i)) pt { t with slots:=t.slots.set k { t.slots[k] with is:=i } } (.slice (some ⟨g,0,none⟩) t.slots.length cap) where
 wf:=⟨h.wf.most,h.wf.last,by simpa using h.wf.len,fun y hy=>by
  rcases cJ hy with hy | rfl
  ·exact h.wf.slot y hy
  ·have:=h.wf.slot _ (aG hk);exact⟨hi,this.2⟩⟩
 hd:=by rw[FB (Ne.symm hg)];exact h.hd
 row:=by
  refine⟨by rw[oV],?_⟩;rcases h.row.2 with⟨h0,_⟩ | ⟨g',al,ad,hv,ai,hb,h1,h2,h3,h4⟩
  ·cases h0
  ·injection hv with hv1 hv2 hv3
   injection hv1 with hv1
   injection hv1 with hv1
   subst hv1 hv3;refine ae ⟨g,cap,ad.setIfInBounds (k*3) (.int .i64 i),?_,ai,heap_setCell hb,by simpa using h1,h2,by simpa using h3,?_⟩
   ·simp
   ·have hl:=oV t.slots;simp only[c8,bG];rw[show ad.toList=fp t.slots++ad.toList.drop (t.slots.length*3) by rw[<-h4,aX],dg _ _ (by omega),List.take_left' (by simp;omega),wU t.slots k i hk]
theorem Fo.mark{Y:Nat->Prop}{g k:Nat}(hy:∀b,Y b->b≠g):Fo Y w (w.setCell ⟨g,k,none⟩ v):=
 ⟨rfl,rfl,rfl,Nat.le_of_eq (size_setCell w _ _).symm,fun b hb=>FB (hy b hb)⟩
theorem Hs.close_some{t:Hs}{h k:Nat}(hk:t.of h=some k)(hlt:k<t.slots.length):t.close h=(0,{ t with slots:=t.slots.set k { t.slots[k] with is:=if t.slots[k].gen=t.last then 2 else 0 } }):=by
 unfold Hs.close;rw[hk];simp only[aj,af hlt,bA]
theorem EI{t:Hs}(h:eI w pt t v)(hh:Nat)(hl:hh<2^64)(Y:Nat->Prop)(hy:∀b,Y b->some b≠v.ownBlock):
 Ct 101 #[PV pt,.int .u64 hh] w fun e w'=>e=.returned (.int .i64 ((t.close hh).1:Nat))/\eI w' pt (t.close hh).2 v/\Fo Y w w':=by
 have ho:=xA h hh hl
 cases hk:t.of hh with
 | none=>
  have he:t.close hh=(7,t):=by unfold Hs.close;rw[hk]
  rw[hk] at ho;rw[he];have HO:=kq2 ho h;clear ho he hk h hy;go_enter func101,ntmps101;go_wp2_with fail;refine HO.a.mono ?_;rintro e w1 ⟨rfl,rfl⟩;go_wp2_with fail;go_ret;exact⟨rfl,HO.b,Fo.refl _ _⟩
 | some k=>
  obtain⟨ad,_⟩:=Hs.of_lt hk;have he:=Hs.close_some hk ad;rw[hk] at ho;rw[he];obtain⟨A,cap,hv,an⟩:=h.form;obtain⟨g,hA,⟨k0,k1,k2⟩,⟨f0,f1,f3⟩,ap⟩:=an k ad;subst hv hA;simp only[oU] at ho;have c1:w.cell? ⟨pt,1,none⟩=some (.int .u32 t.last):=by rw[Fs h.hd];rfl
  have hm:=fun i hi=>h.mark (k:=k) i ad hi ap;have ao:=(h.wf.slot _ (aG ad)).2.1;have au:=h.wf.last;obtain⟨x,hx⟩:=Ii t.slots[k];rw[hx] at k0 k1 k2 ao hm⊢;obtain⟨xi,xg,xa⟩:=x;simp only at k0 k1 k2 ao hm⊢;obtain⟨la,al⟩:=Ii t.last;rw[al] at c1 au⊢;have a1:∀b,Y b->b≠g:=fun b hb e=>hy b hb (by rw[e];rfl);have HO:=kq5 ho hm ad al a1;clear ho he hk an h hy hm hx al
  by_cases hgl2:xg=la
  ·rw[if_pos hgl2];have ar:((xg:Int)==la)=true:=by simp;omega
   go_enter func101,ntmps101;go_wp2_with fail;refine HO.a.mono ?_;rintro e w1 ⟨rfl,rfl⟩;go_wp2_with fail
   go_quiet (fail)
   go_wp2_with fail;go_ret;have ai:eI ((w.setCell ⟨g,k*3,none⟩ (.int .i64 0)).drewN nq) pt { t with slots:=t.slots.set k ⟨0,xg,xa⟩ } (.slice (some ⟨g,0,none⟩) t.slots.length cap):=by
    have:=HO.b 0 (by omega);exact⟨this.wf,this.hd,this.row⟩
   have a0:=eI.mark (t:= { t with slots:=t.slots.set k ⟨0,xg,xa⟩ }) (g:=g) (cap:=cap) (k:=k) (by simpa using ai) 2 (by simpa using HO.c) (by omega) ap;refine⟨rfl,?_,((Fo.mark HO.e).trans (Fo.drewN _ _ nq)).trans (Fo.mark HO.e)⟩;rw[<-HO.d]
   simpa using a0
  ·rw[if_neg hgl2];have ar:((xg:Int)==la)=false:=by simp;omega
   go_enter func101,ntmps101;go_wp2_with fail;refine HO.a.mono ?_;rintro e w1 ⟨rfl,rfl⟩;go_wp2_with fail
   go_quiet (fail)
   go_wp2_with fail;go_ret;have ai:eI ((w.setCell ⟨g,k*3,none⟩ (.int .i64 0)).drewN nq) pt { t with slots:=t.slots.set k ⟨0,xg,xa⟩ } (.slice (some ⟨g,0,none⟩) t.slots.length cap):=by
    have:=HO.b 0 (by omega);exact⟨this.wf,this.hd,this.row⟩
   rw[HO.d] at ai;exact⟨rfl,ai,(Fo.mark HO.e).trans (Fo.drewN _ _ nq)⟩
end
section
open Go.RowKit Tryz Go.BigFrame Go.Maps Go.WideMaps Lf
open Go.Shelf
variable{Y:Nat->Prop}{Z:Nat->Prop}{n:Nat}{s:Slab}{w:World}
attribute [local go_sem] Oper.semAt_some
structure fe (n:Nat) (Z:Nat->Prop) (W W':World):Prop where
 size:W.heap.size<=W'.heap.size
 block:∀(k:Nat) (o:Obj),¬Z k->W.heap[k]?=some o->(k<n\/o.isCells=true)->W'.heap[k]?=some o
theorem lf{A B:World}(h:Below A.heap.size A B):A.grownBy B none:=⟨h.os,h.tape,h.output,h.size,fun k hk _=>h.block k hk⟩
theorem fe.refl(n:Nat)(Z:Nat->Prop)(W:World):fe n Z W W:=⟨Nat.le_refl _,fun _ _ _ h _=>h⟩
theorem fe.trans{A B C:World}(h:fe n Z A B)(k:fe n Z B C):fe n Z A C:=
 ⟨aO h.size k.size,fun i o hz ho hc=>k.block i o hz (h.block i o hz ho hc) hc⟩
theorem fe.of_below{A B:World}(h:Below A.heap.size A B):fe n Z A B:=
 ⟨h.size,fun i _ _ ho _=>(h.block i (gl ho)).trans ho⟩
theorem fe.put(W:World)(l:Nat)(o o':Obj)(hl:n<=l)(ho:W.heap[l]?=some o)(hc:o.isCells=false)(_:o.isWalk=false):fe n Z W (W.putObj l o'):=
 ⟨by simp,fun k o1 _ h1 h2=>by
  by_cases e:k=l
  ·subst e;rw[ho] at h1;injection h1 with h1
   subst h1;rcases h2 with h2 | h2
   ·omega
   ·rw[hc] at h2;cases h2
  ·exact(World.putObj_heap_other e).trans h1⟩
theorem fe.cell{W W':World}(h:fe n Z W W'){a:Addr}{v:Value}(hz:¬Z a.block)(hc:W.cell? a=some v):W'.cell? a=some v:=by
 have:∃cs t fr,W.heap[a.block]?=some (.cells cs t fr):=by
  unfold World.cell? at hc
  split at hc
  ·rename_i c t fr heq;exact⟨_,_,_,heq⟩
  ·cases hc
 obtain⟨cs,t,fr,hb⟩:=this;have ad:=h.block a.block _ hz hb (ae rfl);rw[<-hc];exact World.cell?_of_block (ad.trans hb.symm)
theorem Fz.kp{w w':World}{ph pa pm n:Nat}{Y Z:Nat->Prop}(h:Fz w ph pa pm s Y)(hk:fe n Z w w')(hn:pm<n)(hz:∀k,Z k->Y k/\k≠ph/\k≠fy):Fz w' ph pa pm s Y:=by
 obtain⟨ad,hs⟩:=h.slab;have c1:∀{k:Nat} {cs:Array Value} {t:TypeId} {fr:Nat×Nat},¬Z k->w.heap[k]?=some (.cells cs t fr)->w'.heap[k]?=some (.cells cs t fr):=fun hz hb=>hk.block _ _ hz hb (ae rfl);refine⟨⟨ad,hs.wf,c1 (fun hh=>hs.ya (hz _ hh).1) hs.hd,?_,fun x hx=>c1 (fun hh=>hs.yp _ (jP.2 ⟨_,hx⟩) (hz _ hh).1) (hs.pg x hx),hs.inj,hs.ya,hs.ym,hs.yp,fun k hkk=>bD (hs.yl k hkk) hk.size⟩,c1 (fun hh=>(hz _ hh).2.1 rfl) h.hp,h.yh,?_,h.yt⟩
 ·obtain⟨es,ck,hm⟩:=hs.map_block;exact rN hs.map ((hk.block pm _ (fun hh=>hs.ym (hz _ hh).1) hm (ab hn)).trans hm.symm)
 ·intro j hj;exact hk.cell (a:=⟨fy,j,none⟩) (fun hh=>(hz _ hh).2.2 rfl) (h.tab j hj)
theorem Fz.pm_lt{ph pa pm:Nat}(h:Fz w ph pa pm s Y):pm<w.heap.size:=by
 obtain⟨ad,hs⟩:=h.slab;exact hs.map.lt
def fl(s:Slab):Nat->List (Nat×Hr)×Nat
 | 0=>([],0)
 | k+1=>
  if s.keys.getD k 0<(fl s k).2 then fl s k
  else((fl s k).1++[(s.keys.getD k 0,FA s (s.keys.getD k 0))],if(FA s (s.keys.getD k 0)).kind=2 then s.keys.getD k 0+(FA s (s.keys.getD k 0)).n else(fl s k).2)
theorem qP(s:Slab)(p:Nat):∀(l:List Nat) (nx:Nat),gC s nx (l++[p])=gC s nx l++gC s (l.foldl (fun nx q=>if q<nx then nx else if(FA s q).kind=2 then q+(FA s q).n else nx) nx) [p]
 | [],nx=>by show gC s nx [p]=[]++gC s nx [p];rw[aU]
 | q::l,nx=>by
  simp only[aP,gC,List.foldl_cons];by_cases h:q<nx
  ·simp only[h,if_true];exact qP s p l nx
  ·simp only[h,if_false,aP];rw[qP s p l];rfl
theorem uE(s:Slab):∀k,k<=s.keys.length->fl s k=(gC s 0 (s.keys.take k),(s.keys.take k).foldl (fun nx q=>if q<nx then nx else if(FA s q).kind=2 then q+(FA s q).n else nx) 0)
 | 0,_=>by simp[fl,gC]
 | k+1,h=>by
  have ih:=uE s k (by omega);have hk:s.keys.getD k 0=s.keys[k]:=by rw[aj,af (by omega)];rfl
  rw[bx (by omega),qP,List.foldl_append];unfold fl;rw[ih,hk];simp only[List.foldl_cons,List.foldl_nil,gC];split
  ·simp
  ·rfl
theorem qN(s:Slab):(fl s s.keys.length).1=kf s:=by
 rw[uE s _ Ih,List.take_length];rfl
theorem uF(s:Slab):∀k,(fl s k).1.length<=k
 | 0=>Nat.le_refl _
 | k+1=>by
  have:=uF s k;unfold fl;split
  ·omega
  ·simp;omega
theorem qO(s:Slab)(k:Nat):∀d,(fl s k).1<+:(fl s (k+d)).1
 | 0=>List.prefix_refl _
 | d+1=>by
  refine(qO s k d).trans ?_;show (fl s (k+d)).1<+:(fl s (k+d+1)).1
  conv=>rhs;unfold fl
  split
  ·exact List.prefix_refl _
  ·exact List.prefix_append _ _
theorem getH_lt{ph pa pm:Nat}(h:Fz w ph pa pm s Y)(p:Nat):(FA s p).kind<256/\(FA s p).n<2^56/\(FA s p).w<2^64:=by
 have h1:=h.rd_lt (p*64);have h2:=h.rd_lt (p*64+1);exact⟨Nat.mod_lt _ (by decide),by show s.rd (p*64) / 256<_;omega,h2⟩
theorem uG {w:World}{ph pa pm:Nat}{s:Slab}{Y:Nat->Prop}(h:Fz w ph pa pm s Y):∀k,k<=s.keys.length->(fl s k).2<=72057594039000000
 | 0,_=>cH _
 | k+1,hk=>by
  have ih:=uG h k (by omega);have h1:=getH_lt h (s.keys.getD k 0);have h2:s.keys.getD k 0<=1048575:=by
   rw[aj,af (by omega)];exact h.wf.top _ (aG _)
  unfold fl;split
  ·exact ih
  ·simp only;split
   ·omega
   ·exact ih
abbrev iH:= { x:Nat×Hr // x.1<=1048575/\x.2.kind<256/\x.2.n<2^56/\x.2.w<2^64 }
abbrev mF(x:iH):Array Value:=#[.int .i64 x.1.1,fT x.1.2]
abbrev gt(l:List iH):List (Nat×Hr):=l.map (·.1)
theorem Fz.pages{ph pa pm:Nat}(h:Fz w ph pa pm s Y):
 Ct 132 #[PV pa] w fun e w'=>∃v,e=.returned v/\kU w' w.heap.size v s.keys/\Below w.heap.size w w':=by
 obtain⟨ad,hs⟩:=h.slab;exact wQ hs
theorem qR{ph pa pm:Nat}{Y Z:Nat->Prop}(h:Fz w ph pa pm s Y)(hz:∀k,Z k->Y k/\k≠ph/\k≠fy)(B:Nat)(hB:w.cell? ⟨B,0,none⟩=some (PV ph))(hzB:¬Z B):
 SeqStopsK Fence.wide 6 prog 151 #[PV B] mF (fe w.heap.size Z) (fun xs=>gt xs=kf s) (fun ad=>gt ad<+:kf s) s.keys.length w:=fun l J Jx W hW hJ hJx hY h0=>by
 have hH:=h.below hW;have bc:B<w.heap.size:=by
  unfold World.cell? at hB;split at hB
  ·rename_i heq;exact(gl heq)
  ·cases hB
 have bs:W.cell? ⟨B,0,none⟩=some (PV ph):=(hW.cell (p:=⟨B,0,none⟩) bc).trans hB;have bv:CallsIn Fence.wide 5 prog 132 #[PV pa] W _:=callsIn_wide.2 hH.pages;have c1:=hH.cell;have b0:=h.pm_lt;have HY:=If hY;have cd:Fence.wide.fn 132:=trivial;have cc:Fence.wide.fn 144:=trivial;have HJ:=kq2 hJ hJx;have H0:=kq5 hH h0 hz hzB bs;clear hY hJ hJx hH h0 hz hzB h hB hW bc;refine callsIn_of_wp func151 rfl trivial ?_ rfl;simp only[ntmps151,bp,ak,aK,Nat.reduceAdd,Nat.reduceSub,aV,aW,bw,aZ,aU,aP];gi_wp2_with (gi_at_call 132;refine bv.mono ?_;rintro e w1 ⟨v,rfl,⟨A,c,rfl,hrow⟩,a'⟩)
 have HR:=kq3 hrow a' (H0.a.below a');clear hrow a' c1;gi_loopw [3,5,13] (fun nx _ i wr=>∃k:Nat,k<=s.keys.length/\i=.int .i64 k/\nx=.int .i64 (fl s k).2/\Hid (fe w.heap.size Z w1 wr/\∃pX,gt pX=(fl s k).1/\J pX wr)) (fun _ _ i _=>s.keys.length-(intOf i).toNat)
 case atStart=>exact⟨0,by omega,rfl,rfl,fe.refl _ _ _,[],rfl,HJ.a _ _ _ none H0.b (lf HR.b) (fun r e=>by cases e)⟩
 case round=>
  obtain⟨k,hk,rfl,rfl,al⟩:=hrel;have ap:=HR.c.kp al.out.1 b0 H0.c;have ch:k<=4096:=by
   have h1:=ap.wf.room;have h2:=ap.wf.quota;rw[i8] at hk;omega
  by_cases hlt:k<s.keys.length
  ·obtain⟨b,o,rfl,b',ca,bd⟩:=HR.a k hlt;have b2:¬Z b:=fun hh=>by
    have h1:=H0.a.yl _ (H0.c _ hh).1;omega
   have bd:=al.out.1.cell (a:=⟨b,o+k,none⟩) b2 bd;have cb:=al.out.1.cell (a:=⟨B,0,none⟩) H0.d ((HR.b.cell (p:=⟨B,0,none⟩) (by
    have:=H0.e;unfold World.cell? at this;split at this
    ·rename_i heq;exact(gl heq)
    ·cases this)).trans H0.e)
   have bj:s.keys.getD k 0=s.keys[k]:=by rw[aj,af hlt];rfl
   have b1:s.keys[k]<=1048575:=ap.wf.top _ (aG _);have bm:=uG ap k (by omega);have a4:fl s (k+1)=if s.keys[k]<(fl s k).2 then fl s k
    else((fl s k).1++[(s.keys[k],FA s s.keys[k])],if(FA s s.keys[k]).kind=2 then s.keys[k]+(FA s s.keys[k]).n else(fl s k).2):=by
    conv=>lhs;unfold fl
    rw[bj]
   have bk:=uF s k;have ck:(k:Int)<s.keys.length:=by omega
   have an:Hid (k+1<=s.keys.length):=If hlt;obtain⟨T,hT⟩:=Ii (fl s k);obtain⟨T',a9⟩:=Ii (fl s (k+1));rw[hT] at al bm a4 bk⊢;rw[a9] at a4;have bf:=getH_lt ap s.keys[k];have bt:CallsIn Fence.wide 5 prog 144 #[PV ph,.int .i64 (s.keys[k]:Nat)] wr _:=callsIn_wide.2 (qU ap s.keys[k] (by omega));generalize FA s s.keys[k]=x at*;generalize s.keys[k]=p at*;obtain⟨ad,nx⟩:=T;simp only at al bm a4 bk⊢;have HS:=kq3 a9 a4 ap;clear hT a9 a4 ap bj;by_cases hsk:p<nx
   ·have ai:T'=(ad,nx):=by rw[HS.b,if_pos hsk]
    gi_wp2_with fail;go_roundw
    case rel=>exact⟨k+1,an.out,by go_num,by rw[HS.a,ai],by rw[HS.a,ai];exact al⟩
    case measure=>have:=an.out;simp[intOf];omega
   ·gi_wp2_with fail;refine bt.mono ?_;rintro e w2 ⟨rfl,a7⟩;obtain⟨w3,ao⟩:=Ii (w2.alloc (.cells #[.int .i64 x.kind,.int .i64 x.n,.int .u64 x.w] 196));have a2:Below wr.heap.size wr w3:=by rw[<-ao];exact a7.alloc a7.size _
    obtain⟨pX,au,a6⟩:=al.out.2;have a8:=HJ.a _ _ _ none a6 (lf a2) (fun r e=>by cases e);have bu:pX.length=ad.length:=by rw[<-au];exact(aq _).symm
    obtain⟨xX,bb⟩:∃xX:iH,xX.1=(p,x):=⟨⟨(p,x),b1,bf⟩,rfl⟩;obtain⟨fn,cl,b8,b9,hy,ar⟩:=HY.out pX xX w3 a8 (by have:=an.out;omega);have bo:gt (pX++[xX])=ad++[(p,x)]:=by show (pX++[xX]).map (·.1)=_;rw[aL,show pX.map (·.1)=ad from au];simp[bb]
    have a5:=If bo;clear bo au bu a6;dsimp only[mF] at hy
    rw[bb] at hy;obtain⟨kd,xn,xw⟩:=x;dsimp only[fT] at hy
    simp only at bf ao;clear bb;by_cases hk2:kd=2
    ·subst hk2;have ai:T'=(ad++[(p,⟨2,xn,xw⟩)],p+xn):=by rw[HS.b,if_neg hsk,if_pos rfl]
     rw[show ((2:Nat):Int)=2 from rfl] at ao hy;rw[<-ao] at hy ar;have H3:=If a2;rw[<-ao] at H3;clear a2 a7 a8 ao;simp only[fT];gi_wp2_with fail;refine ar.mono ?_;rintro e w4 (⟨rfl,a0,a3⟩ | ⟨rfl,a1⟩)
     ·have H4:=kq2 (al.out.1.trans ((fe.of_below H3.out).trans a3)) a0;clear a0 a3 hy ar;gi_wp2_with fail;go_roundw
      case rel=>exact⟨k+1,an.out,by go_num,by rw[HS.a,ai];go_num,by rw[HS.a,ai];exact⟨H4.a,_,a5.out,H4.b⟩⟩
      case measure=>have:=an.out;simp[intOf];omega
     ·have H4:=If a1;have ba:ad++[(p,⟨2,xn,xw⟩)]<+:kf s:=by
       rw[<-qN,show ad++[(p,⟨2,xn,xw⟩)]=(fl s (k+1)).1 by rw[HS.a,ai]];obtain⟨d,hd⟩:∃d,s.keys.length=k+1+d:=⟨s.keys.length-(k+1),by have:=an.out;omega⟩;rw[hd];exact qO s (k+1) d
      clear a1 hy ar;gi_wp2_with fail;refine bodyPost_ret (results_none rfl _ _ _) rfl ?_;exact⟨⟨_,rfl⟩,.inr ⟨_,by rw[a5.out];exact ba,H4.out⟩⟩
    ·have cj:((kd:Int)==2)=false:=by simp;omega
     have ai:T'=(ad++[(p,⟨kd,xn,xw⟩)],nx):=by rw[HS.b,if_neg hsk,if_neg hk2]
     have b4:=If hk2;clear hk2;rw[<-ao] at hy ar;have H3:=If a2;rw[<-ao] at H3;clear a2 a7 a8 ao;simp only[fT];gi_wp2_with fail;refine ar.mono ?_;rintro e w4 (⟨rfl,a0,a3⟩ | ⟨rfl,a1⟩)
     ·have H4:=kq2 (al.out.1.trans ((fe.of_below H3.out).trans a3)) a0;clear a0 a3 hy ar;gi_wp2_with fail;go_roundw
      case rel=>exact⟨k+1,an.out,by go_num,by rw[HS.a,ai],by rw[HS.a,ai];exact⟨H4.a,_,a5.out,H4.b⟩⟩
      case measure=>have:=an.out;simp[intOf];omega
     ·have H4:=If a1;have ba:ad++[(p,⟨kd,xn,xw⟩)]<+:kf s:=by
       rw[<-qN,show ad++[(p,⟨kd,xn,xw⟩)]=(fl s (k+1)).1 by rw[HS.a,ai]];obtain⟨d,hd⟩:∃d,s.keys.length=k+1+d:=⟨s.keys.length-(k+1),by have:=an.out;omega⟩;rw[hd];exact qO s (k+1) d
      clear a1 hy ar;gi_wp2_with fail;refine bodyPost_ret (results_none rfl _ _ _) rfl ?_;exact⟨⟨_,rfl⟩,.inr ⟨_,by rw[a5.out];exact ba,H4.out⟩⟩
  ·obtain rfl:k=s.keys.length:=by omega
   gi_wp2
   go_end0
   obtain⟨pX,au,a6⟩:=al.out.2;rw[qN] at au;exact⟨⟨_,rfl⟩,.inl ⟨_,au,a6⟩⟩
attribute [local go_sem] Oper.semAt_some
theorem Fz.wide{w w':World}{ph pa pm:Nat}(h:Fz w ph pa pm s Y)(hb:Below w.heap.size w w'):Fz w' ph pa pm s (fun k=>Y k\/(w.heap.size<=k/\k<w'.heap.size)):=by
 have h':=h.below hb;obtain⟨ai,hs⟩:=h.slab;obtain⟨al,ao⟩:=h'.slab;have an:=(gl hs.hd);have ad:=hs.below hb;refine⟨⟨ai,ad.wf,ad.hd,ad.map,ad.pg,ad.inj,?_,?_,?_,?_⟩,h'.hp,ab h.yh,h'.tab,ab h.yt⟩
 ·rintro(k | k)
  ·exact hs.ya k
  ·omega
 ·rintro(k | k)
  ·exact hs.ym k
  ·have:=hs.map.lt;omega
 ·rintro p hp (k | k)
  ·exact hs.yp p hp k
  ·obtain⟨l,hl⟩:=jP.1 hp;have:=(gl (hs.pg _ hl));simp only at this;omega
 ·rintro k (hk | hk)
  ·have:=hs.yl k hk;have:=hb.size;omega
  ·exact hk.2
theorem qQ(ph:Nat)(w:World):
 Ct 128 #[PV ph] w fun e w'=>e=.returned (.func (.func 151) #[] #[PV w.heap.size])/\w'=w.alloc (.cells #[PV ph] 126):=by
 go_enter func128,ntmps128
 go_wp2
 go_ret;exact⟨rfl,rfl⟩
theorem sq(c:Nat)(x:Nat×Hr):∀q:List (Nat×Hr),fd c q=none->fd c (q++[x])=fd c [x]
 | [],_=>rfl
 | (p,y)::q,h=>by
  have h0:fd c ((p,y)::q++[x])=if y.kind≠1\/y.n≠c then fd c (q++[x]) else match fW y.w (eJ c) with | some k=>some (p,k) | none=>fd c (q++[x]):=rfl
  have h1:fd c ((p,y)::q)=if y.kind≠1\/y.n≠c then fd c q else match fW y.w (eJ c) with | some k=>some (p,k) | none=>fd c q:=rfl
  rw[h1] at h;rw[h0];by_cases hc:y.kind≠1\/y.n≠c
  ·rw[if_pos hc] at h⊢;exact sq c x q h
  ·rw[if_neg hc] at h⊢;cases hb:fW y.w (eJ c) with
   | some k=>rw[hb] at h;cases h
   | none=>rw[hb] at h;exact sq c x q h
theorem sv(c:Nat)(r:Nat×Nat):∀q t:List (Nat×Hr),fd c q=some r->fd c (q++t)=some r
 | (p,y)::q,t,h=>by
  have h0:fd c ((p,y)::q++t)=if y.kind≠1\/y.n≠c then fd c (q++t) else match fW y.w (eJ c) with | some k=>some (p,k) | none=>fd c (q++t):=rfl
  have h1:fd c ((p,y)::q)=if y.kind≠1\/y.n≠c then fd c q else match fW y.w (eJ c) with | some k=>some (p,k) | none=>fd c q:=rfl
  rw[h1] at h;rw[h0];by_cases hc:y.kind≠1\/y.n≠c
  ·rw[if_pos hc] at h⊢;exact sv c r q t h
  ·rw[if_neg hc] at h⊢;cases hb:fW y.w (eJ c) with
   | some k=>rw[hb] at h;exact h
   | none=>rw[hb] at h;exact sv c r q t h
def nn(r:Option (Nat×Nat)):Value:=match r with | some (p,k)=> .tuple #[.int .i64 p,.int .i64 k,.bool true] | none=> .tuple #[.int .i64 0,.int .i64 0,.bool false]
theorem nX(c:Nat):eJ c<=31:=by
 unfold eJ
 split
 ·rename_i h;have:∀c,c<8->62 / iP.getD c 1<=31:=by decide
  exact this c h
 ·omega
theorem wW(c:Nat):∃er:Nat,je c=(eJ c,er):=by
 unfold je
 by_cases h:c<8
 ·rw[if_pos (by omega),df];exact⟨_,rfl⟩
 ·rw[if_neg (by omega)];refine⟨2,?_⟩;unfold eJ;rw[if_neg h]
theorem qTaac{P:Prop}(h:P:=by
 gi_wp2_with fail;exact⟨KeepsFrom.refl _ _,fe.refl _ _ _,⟨an.out,HH.b,HH.c,HH.d,HH.e,HH.f⟩,HH.g⟩):P:=h
theorem By{ph pa pm:Nat}(h:Fz w ph pa pm s Y)(c:Nat)(hc:c<=2^56):
 Cb 115 #[PV ph,.int .i64 c] w (nn (kt s c)):=by
 refine(callsIn_wide (n:=7)).1 ?_;have h1:1<=7:=by omega
 have ca:Fence.wide.fn 129:=trivial;have b':Fence.wide.fn 128:=trivial;have b9:Fence.wide.fn 143:=trivial;obtain⟨er,bs⟩:=wW c;have a2:∀W,CallsIn Fence.wide 6 prog 129 #[.int .i64 c] W _:=fun W=>callsIn_wide.2 (qk c W);rw[bs] at a2;have bu:∀W,CallsIn Fence.wide 6 prog 128 #[PV ph] W _:=fun W=>callsIn_wide.2 (qQ ph W);obtain⟨R,hR⟩:=Ii (nn (kt s c));rw[hR];have bt:=nX c;obtain⟨m,hm⟩:=Ii (eJ c);rw[hm] at a2 bt;have HR:=kq3 hR hm h;clear hR bs hm h;refine callsIn_of_wp_marks func115 rfl trivial ?_ rfl;simp only[ntmps115,bp,ak,aK,Nat.reduceAdd,Nat.reduceSub,aV,aW,bw,aZ,aU,aP];have a9:=nM w (.cells #[.int .i64 c] 3) (.cells #[.int .i64 0] 3) (.cells #[.int .i64 0] 3) (.cells #[.bool false] 4);have c0:=(((Bx.new w (.int .i64 c) 3).alloc (.cells #[.int .i64 0] 3)).alloc (.cells #[.int .i64 0] 3)).alloc (.cells #[.bool false] 4);have c1:=((Bx.new (w.alloc (.cells #[.int .i64 c] 3)) (.int .i64 0) 3).alloc (.cells #[.int .i64 0] 3)).alloc (.cells #[.bool false] 4);have c2:=(Bx.new ((w.alloc (.cells #[.int .i64 c] 3)).alloc (.cells #[.int .i64 0] 3)) (.int .i64 0) 3).alloc (.cells #[.bool false] 4);have c3:=Bx.new (((w.alloc (.cells #[.int .i64 c] 3)).alloc (.cells #[.int .i64 0] 3)).alloc (.cells #[.int .i64 0] 3)) (.bool false) 4;simp only[World.size_alloc] at c1 c2 c3;have ch:((((w.alloc (.cells #[.int .i64 c] 3)).alloc (.cells #[.int .i64 0] 3)).alloc (.cells #[.int .i64 0] 3)).alloc (.cells #[.bool false] 4)).heap.size=w.heap.size+1+1+1+1:=by simp
 gi_wp2_with fail;generalize ((((w.alloc (.cells #[.int .i64 c] 3)).alloc (.cells #[.int .i64 0] 3)).alloc (.cells #[.int .i64 0] 3)).alloc (.cells #[.bool false] 4))=w4 at*;refine(a2 w4).mono ?_;rintro e w5 ⟨rfl,ba⟩;have H5:=kq6 ba c0 c1 c2 c3 a9;clear ba c0 c1 c2 c3 a9;gi_wp2_with fail;refine(bu _).mono ?_;rintro e w7 ⟨rfl,rfl⟩;gi_wp2_with fail;have cb:=H5.a.size;have b5:∀{b:Nat} {v:Value},Bx w4 b v->Bx ((w5.alloc (.cells #[.int .i64 m] 3)).alloc (.cells #[PV ph] 126)) b v:=fun {b v} hb=>by
  have bj:b<w4.heap.size:=by
   have:=hb.1;unfold World.cell? at this
   split at this
   ·rename_i heq;exact(gl heq)
   ·cases this
  exact((hb.below H5.a bj).alloc _).alloc _
 have c4:=(Bx.new w5 (.int .i64 m) 3).alloc (.cells #[PV ph] 126);have c5:=Bx.new (w5.alloc (.cells #[.int .i64 m] 3)) (PV ph) 126;have bb:Below w.heap.size w ((w5.alloc (.cells #[.int .i64 m] 3)).alloc (.cells #[PV ph] 126)):=
  ((H5.f.trans (H5.a.mono (by omega))).alloc (by omega) _).alloc (by simp;omega) _
 have cc:((w5.alloc (.cells #[.int .i64 m] 3)).alloc (.cells #[PV ph] 126)).heap.size=w5.heap.size+1+1:=by simp
 have C0:=b5 H5.b;have C1:=b5 H5.c;have C2:=b5 H5.d;have C3:=b5 H5.e;simp only[World.size_alloc] at c5;clear b5;generalize ((w5.alloc (.cells #[.int .i64 m] 3)).alloc (.cells #[PV ph] 126))=W0 at*;have hW:=HR.c.wide bb;have b4:=hW.tab;refine wpIn_rangeFunc_ownH rfl h1 (gf:=151) (lb:=#[PV (w5.heap.size+1)]) rfl trivial (enters_of func151 (by kernel_rfl) rfl)
  (qR hW (Z:=fun k=>k=w.heap.size+1\/k=w.heap.size+1+1\/k=w.heap.size+1+1+1) (fun k hk=>by
   have h1:=hW.yl _ hW.yh;have h2:=HR.c.lt;have h3:=HR.c.tab.lt;refine⟨ae (by omega),by omega,?_⟩
   show k≠0
   omega) (w5.heap.size+1) c5.1 (by omega)) fe.trans (fun W l o o' h1 h2 h3 h4=>fe.put W l o o' h1 h2 h3 h4) (aa _ _) (fun _=>rfl)
  (fun ad W=>(fd c (gt ad)=none/\Bx W w.heap.size (.int .i64 c)/\Bx W (w.heap.size+1) (.int .i64 0)/\Bx W (w.heap.size+1+1) (.int .i64 0)/\Bx W (w.heap.size+1+1+1) (.bool false)/\Bx W w5.heap.size (.int .i64 m))/\Below w.heap.size w W)
  (fun cd ad W=>(cd=.ret/\(∃p k:Nat,fd c (gt ad)=some (p,k)/\Bx W (w.heap.size+1) (.int .i64 p)/\Bx W (w.heap.size+1+1) (.int .i64 k))/\Bx W (w.heap.size+1+1+1) (.bool true))/\Below w.heap.size w W)
  (OwnFrom.and (Own.from (fun s A B row hs hg hr=>⟨hs.1,hs.2.1.kept hg hr,hs.2.2.1.kept hg hr,hs.2.2.2.1.kept hg hr,hs.2.2.2.2.1.kept hg hr,hs.2.2.2.2.2.kept hg hr⟩) _) (ownFrom_below Ih (by omega)))
  (fun cd=>OwnFrom.and (Own.from (fun s A B row hs hg hr=>⟨hs.1,(let ⟨p,k,k1,k2,k3⟩:=hs.2.1;⟨p,k,k1,k2.kept hg hr,k3.kept hg hr⟩),hs.2.2.kept hg hr⟩) _) (ownFrom_below Ih (by omega)))
  ⟨⟨rfl,C0,C1,C2,C3,c4⟩,bb⟩
  (fun x a' W=>∃B,w5.heap.size<B/\W.heap[B]?=some (.cells #[.int .i64 x.1.2.kind,.int .i64 x.1.2.n,.int .u64 x.1.2.w] 196 (0,0))/\a'= { tmps:=#[PV ph,.int .i64 c,undef,PV w.heap.size,PV (w.heap.size+1),PV (w.heap.size+1+1),PV (w.heap.size+1+1+1),PV w5.heap.size,.int .i64 er,.int .i64 x.1.1,PV B,undef,.tuple #[.int .i64 m,.int .i64 er],.int .i64 c,.tuple #[.int .i64 m,.int .i64 er],.int .i64 m,.int .i64 er,PV ph,.func (.func 151) #[] #[PV (w5.heap.size+1)],.int .i64 x.1.1,fT x.1.2,undef,undef,undef,undef,undef,undef,undef,undef,undef,undef,undef,undef,undef,undef,undef,undef,undef],defers:=[] })
  (fun x a' _ X W' row hs hg hr=>by
   obtain⟨B,k1,k2,k3⟩:=hs;refine⟨B,k1,(hg.block B (gl k2) (fun e=>?_)).trans k2,k3⟩;obtain⟨_,o,ho,bc⟩:=hr B e.symm;rw[k2] at ho
   injection ho with ho
   rw[<-ho] at bc
   cases bc)
  ?assign ?body ?done ?stop
 case assign=>
  rintro l ad ⟨⟨p,kd,xn,xw⟩,hx⟩ W K ⟨⟨i0,i1,i2,i3,i4,i5⟩,hB⟩ hK;have HH:=kq7 i0 i1 i2 i3 i4 i5 hB;have HK:=If hK;clear i0 i1 i2 i3 i4 i5 hB hK;simp only[mF,fT]
  gi_wp2
  have a0:=HH.g;refine HK.out _ _ ((KeepsOthers.alloc _ _).from _) (fe.of_below ((aa _ W).alloc Ih _)) ⟨⟨HH.a,HH.b.alloc _,HH.c.alloc _,HH.d.alloc _,HH.e.alloc _,HH.f.alloc _⟩,a0.alloc a0.size _⟩ ⟨W.heap.size,?_,?_,rfl⟩
  ·have:=HH.f.1;unfold World.cell? at this
   split at this
   ·rename_i heq;exact(gl heq)
   ·cases this
  ·show (W.heap.push _)[W.heap.size]?=_
   simp
 case body=>
  rintro l ad ⟨⟨p,kd,xn,xw⟩,hx⟩ a' W hl _ ⟨⟨i0,i1,i2,i3,i4,i5⟩,hB⟩ ⟨B,a0,ap,rfl⟩ bj;simp only at hx ap;obtain⟨a3,a4,a5,au⟩:=hx;have b0:W.cell? ⟨B,0,none⟩=some (.int .i64 kd):=by rw[Fs ap];rfl
  have b1:W.cell? ⟨B,1,none⟩=some (.int .i64 xn):=by rw[Fs ap];rfl
  have b2:W.cell? ⟨B,2,none⟩=some (.int .u64 xw):=by rw[Fs ap];rfl
  have k0:=i1.1;have k5:=i5.1;obtain⟨k1,f1⟩:=id i2;obtain⟨k2,f2⟩:=id i3;obtain⟨k3,f3⟩:=id i4;have a6:gA W:=HR.c.tab.below hB Ih;have bf:CallsIn Fence.wide 4 prog 143 #[.int .u64 xw,.int .i64 m] W _:=callsIn_wide.2 (zr xw m W au (by omega) a6);have HF:=If bf;have HH:=kq7 i0 i1 i2 i3 i4 i5 hB;have bo:=sq c (p,⟨kd,xn,xw⟩) (gt ad) i0;have hv:∀(hx:_),gt (ad++[(⟨(p,⟨kd,xn,xw⟩),hx⟩:iH)])=gt ad++[(p,⟨kd,xn,xw⟩)]:=fun hx=>by
   show (ad++[(⟨(p,⟨kd,xn,xw⟩),hx⟩:iH)]).map (·.1)=_
   rw[aL]
   rfl
  have bk:fd c [(p,⟨kd,xn,xw⟩)]=if kd≠1\/xn≠c then none else match fW xw (eJ c) with | some k=>some (p,k) | none=>none:=rfl
  have HV:=kq3 bo @hv bk;clear i0 i1 i2 i3 i4 i5 hB bf bo hv bk a6 ap
  by_cases h1:kd=1/\xn=c
  ·obtain⟨rfl,rfl⟩:=h1;have hq:((xn:Int) !=xn)=false:=by simp
   have hi:∀{b:Nat} {v:Value},Bx W b v->b<W.heap.size:=fun {b v} hb=>by
    have:=hb.1;unfold World.cell? at this
    split at this
    ·rename_i heq;exact(gl heq)
    ·cases this
   have HI:=kq5 (hi HH.b) (hi HH.c) (hi HH.d) (hi HH.e) (hi HH.f);clear hi k0 k5 k1 k2 k3 f1 f2 f3;have k5:=HH.f.1;have k0:=HH.b.1
   cases hbf:fW xw m with
   | none=>
    have ar:jM xw m= -1:=by unfold jM;rw[hbf]
    have al:fd xn [(p,⟨1,xn,xw⟩)]=none:=by rw[HV.c,if_neg (by omega),HR.b,hbf]
    rw[ar] at HF;have an:Hid (fd xn (gt (ad++[(⟨(p,⟨1,xn,xw⟩),⟨a3,a4,a5,au⟩⟩:iH)]))=none):=If (by rw[HV.b,HV.a,al]);clear al hbf ar;gi_wp2_with fail;refine(CallsIn.inRound l HF.out).mono ?_;rintro e w2 ⟨rfl,ai⟩;have H2:=If ai;clear ai;gi_wp2_with fail;exact⟨KeepsFrom.of_grownBy (lf H2.out) (fun j e=>by cases e),fe.of_below H2.out,⟨an.out,HH.b.below H2.out HI.a,HH.c.below H2.out HI.b,HH.d.below H2.out HI.c,HH.e.below H2.out HI.d,HH.f.below H2.out HI.e⟩,HH.g.trans (H2.out.mono HH.g.size)⟩
   | some k=>
    have ar:jM xw m=k:=by unfold jM;rw[hbf]
    have al:fd xn [(p,⟨1,xn,xw⟩)]=some (p,k):=by rw[HV.c,if_neg (by omega),HR.b,hbf]
    rw[ar] at HF;have an:Hid (fd xn (gt (ad++[(⟨(p,⟨1,xn,xw⟩),⟨a3,a4,a5,au⟩⟩:iH)]))=some (p,k)):=If (by rw[HV.b,HV.a,al]);clear al hbf ar;gi_wp2_with fail;refine(CallsIn.inRound l HF.out).mono ?_;rintro e w2 ⟨rfl,ai⟩;have j1:=HH.c.below ai HI.b;have j2:=HH.d.below ai HI.c;have j3:=HH.e.below ai HI.d;have H2:=kq4 ai j1 j2 j3;obtain⟨k1,f1⟩:=j1;obtain⟨k2,f2⟩:=j2;obtain⟨k3,f3⟩:=j3;clear ai;gi_wp2_with fail;exact⟨(KeepsFrom.of_grownBy (lf H2.a) (fun j e=>by cases e)).trans ((((KeepsOthers.setCell _ _ _).trans (KeepsOthers.setCell _ _ _)).trans (KeepsOthers.setCell _ _ _)).from _),
     ⟨rfl,⟨p,k,an.out,((H2.b.set _).other _ (by omega)).other _ (by omega),((H2.c.other _ (by omega)).set _).other _ (by omega)⟩,((H2.d.other _ (by omega)).other _ (by omega)).set _⟩,
     (((HH.g.trans (H2.a.mono HH.g.size)).setCell (p:=⟨w.heap.size+1,0,none⟩) (by simp) _).setCell (p:=⟨w.heap.size+1+1,0,none⟩) (by simp;omega) _).setCell (p:=⟨w.heap.size+1+1+1,0,none⟩) (by simp;omega) _⟩
  ·have al:fd c [(p,⟨kd,xn,xw⟩)]=none:=by rw[HV.c,if_pos (by omega)]
   have HN:=If al;have hd:((kd:Int) !=1)=true\/(((kd:Int) !=1)=false/\((xn:Int) !=c)=true):=by
    by_cases e:kd=1
    ·refine ae ⟨by rw[e];rfl,?_⟩;have:¬xn=c:=fun e2=>h1 ⟨e,e2⟩
     simp
     omega
    ·exact ab (by simp;omega)
   clear h1 al;have bd:fd c (gt (ad++[(⟨(p,⟨kd,xn,xw⟩),⟨a3,a4,a5,au⟩⟩:iH)]))=none:=by rw[HV.b,HV.a,HN.out]
   have an:=If bd;clear bd
   rcases hd with hd | ⟨hd,b8⟩
   ·exact qTaac
   ·exact qTaac
 case done=>
  rintro D ys W hD hS ⟨⟨i0,i1,i2,i3,i4,i5⟩,hB⟩ hK;obtain⟨k1,f1⟩:=id i2;obtain⟨k2,f2⟩:=id i3;obtain⟨k3,f3⟩:=id i4;have HH:=kq4 i2 i3 i4 hB;rw[hS] at i0;have a1:R=.tuple #[.int .i64 0,.int .i64 0,.bool false]:=by
   rw[<-HR.a];unfold kt;rw[i0]
   rfl
  clear i0 i1 i2 i3 i4 i5 hB hS
  gi_wp2
  have ao:=(((KeepsOthers.setCell W ⟨w.heap.size+1,0,none⟩ (.int .i64 0)).trans (KeepsOthers.setCell _ ⟨w.heap.size+1+1,0,none⟩ (.int .i64 0))).trans (KeepsOthers.setCell _ ⟨w.heap.size+1+1+1,0,none⟩ (.bool false))).same D _ hK rfl;refine⟨by simp,.inl ⟨_,_,rfl,run_takeDeferred ao,?_⟩⟩;have r1:=((((HH.a.set (.int .i64 0)).other (.int .i64 0) (show w.heap.size+1≠w.heap.size+1+1 by omega)).other (.bool false) (show w.heap.size+1≠w.heap.size+1+1+1 by omega)).put (o':=.deferred none) ao rfl).1;have r2:=((((HH.b.other (.int .i64 0) (show w.heap.size+1+1≠w.heap.size+1 by omega)).set (.int .i64 0)).other (.bool false) (show w.heap.size+1+1≠w.heap.size+1+1+1 by omega)).put (o':=.deferred none) ao rfl).1;have r3:=((((HH.c.other (.int .i64 0) (show w.heap.size+1+1+1≠w.heap.size+1 by omega)).other (.int .i64 0) (show w.heap.size+1+1+1≠w.heap.size+1+1 by omega)).set (.bool false)).put (o':=.deferred none) ao rfl).1;subst a1;refine⟨.tuple #[.int .i64 0,.int .i64 0,.bool false],?_,rfl,(((HH.d.setCell (p:=⟨w.heap.size+1,0,none⟩) (by simp) _).setCell (p:=⟨w.heap.size+1+1,0,none⟩) (by simp;omega) _).setCell (p:=⟨w.heap.size+1+1+1,0,none⟩) (by simp;omega) _).trans (belowK_b (w:=w) Ih _ D _ _ (by omega) ao rfl rfl)⟩
  simp[results,f115,go_sem,r1,r2,r3]
 case stop=>
  rintro D cd ad W hD bv ⟨⟨rfl,⟨p,k,bm,a7,ai⟩,a8⟩,hB⟩ hK;obtain⟨t,ht⟩:=bv;have a1:R=.tuple #[.int .i64 p,.int .i64 k,.bool true]:=by
   rw[<-HR.a];unfold kt;rw[<-ht,sv c (p,k) _ t bm]
   rfl
  have HH:=If hB;have r1:=(a7.put (o':=.deferred none) hK rfl).1;have r2:=(ai.put (o':=.deferred none) hK rfl).1;have r3:=(a8.put (o':=.deferred none) hK rfl).1;clear bm ht a7 ai a8 hB;subst a1
  gi_wp2
  refine⟨by simp,.inl ⟨_,_,rfl,run_takeDeferred hK,?_⟩⟩;refine⟨.tuple #[.int .i64 p,.int .i64 k,.bool true],?_,rfl,HH.out.trans (belowK_b (w:=w) Ih W D _ _ (by omega) hK rfl rfl)⟩
  simp[results,f115,go_sem,r1,r2,r3]