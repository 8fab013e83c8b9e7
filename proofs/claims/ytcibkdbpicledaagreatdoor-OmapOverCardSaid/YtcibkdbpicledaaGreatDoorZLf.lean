/- What the arena, the heap, the handles and the store compute: plain Lean, no program in sight. -/
import Derived.Test.YtcibkdbpicledaaGreatDoorZCg
import Derived.WalkKit
import Derived.BigFrame
import Derived.Maps.Own
import Derived.Maps.OwnOps
import Derived.Maps.Views
import Derived.Deep.QuietTactic
import Derived.BigQuiet
import Derived.Outline
import Derived.Deep.DeepFit
import Derived.WalkSpells
import Derived.Below
import Derived.RangeFuncNested
import Derived.RangeFuncBound
import Derived.RangeFuncCalls
import Derived.RangeFuncLeaves
import Derived.RangeFuncMany
import Derived.RangeFuncFrom
import Derived.Shelf.Abstract
import Derived.Shelf.RegionOpen
import Derived.OwnWalkIn
import Derived.TacticsInMore
import Derived.LoopNIn
import Derived.LoopIn
import Derived.Shelf.Small.Bits
import Derived.Shelf.Small.Strs
import Derived.Shelf.Strconv.Itoa0
import Derived.Ground.Names2Prog
import Derived.Shelf.Spec.TrailingZeros
import Derived.Ground.Names7Prog
import Derived.Shelf.SlIterI.Nil
import Derived.Shelf.SortM.Plain
import Derived.Shelf.SortM.SortNone
import Derived.Ground.GgzProg
import Derived.Ground.SlgmProg
import Derived.Laws.Bits64
import Derived.Laws.Bits64b
import Derived.Laws.BitsAllLaws
set_option maxRecDepth 100000
set_option maxHeartbeats 1000000
namespace Go.Proofs.YtcibkdbpicledaaGreatDoor.Lf
abbrev fQ:=List Nat
structure Slab where
 quota:Nat
 pages:List (Nat×fQ)
def Slab.page?(s:Slab)(p:Nat):Option fQ:=s.pages.lookup p
def Slab.keys(s:Slab):List Nat:=s.pages.map (·.1)
def gK:Nat:=67108863
def Slab.rd(s:Slab)(a:Nat):Nat:=match s.page? (a / 64) with | some l=>l.getD (a % 64) 0 | none=>0
def Slab.err(s:Slab)(a:Nat):Nat:=if gK<a then 2 else match s.page? (a / 64) with | some _=>0 | none=>5
def Slab.wr(s:Slab)(a w:Nat):Slab:= { s with pages:=s.pages.map fun x=>if x.1=a / 64 then(x.1,x.2.set (a % 64) w) else x }
def ins(p:Nat)(l:fQ):List (Nat×fQ)->List (Nat×fQ)
 | []=>[(p,l)]
 | x::r=>if x.1<p then x::ins p l r else(p,l)::x::r
def jB:fQ:=List.replicate 64 0
def Slab.add(s:Slab)(p:Nat):Slab:= { s with pages:=ins p jB s.pages }
def Slab.addRun(s:Slab)(p:Nat):Nat->Slab
 | 0=>s
 | n+1=>(s.addRun p n).add (p+n)
def Slab.del(s:Slab)(p:Nat):Slab:= { s with pages:=s.pages.filter fun x=>x.1≠p }
def Slab.delRun(s:Slab)(p:Nat):Nat->Slab
 | 0=>s
 | n+1=>(s.delRun p n).del (p+n)
def Slab.run(s:Slab)(n p:Nat):Bool:=(List.range n).all fun k=>(s.page? (p+k)).isNone
def Slab.runIs(s:Slab)(n p:Nat):Bool:=(List.range n).all fun k=>(s.page? (p+k)).isSome
def Slab.firstRun(s:Slab)(n:Nat):Nat->Nat->Nat
 | 0,p=>p
 | f+1,p=>if s.run n p then p else s.firstRun n f (p+1)
def Slab.grant(s:Slab)(n:Nat):(Nat×Nat)×Slab:=
 if n<1\/4096<n then((0,2),s)
 else if s.quota<(s.pages.length+n)*64 then((0,3),s)
 else
  let p:=s.firstRun n (s.pages.length*n+1) 0
  ((p,0),s.addRun p n)
def Slab.release(s:Slab)(p n:Nat):Nat×Slab:=
 if n<1\/4096<n\/1048575+1<p+n then(2,s)
 else if s.runIs n p then(0,s.delRun p n) else(5,s)
def Slab.zero(s:Slab)(a:Nat):Nat->Slab
 | 0=>s
 | n+1=>(s.zero a n).wr (a+n) 0
def jI(w k:Nat):Bool:=decide (k<64) && w.testBit k
def iY(w k:Nat):Nat:=w ||| 2^k
def iy(w k:Nat):Nat:=w &&& (18446744073709551615-2^k)
def fW(w n:Nat):Option Nat:=(List.range n).find? fun k=> !w.testBit k
def iP:List Nat:=[2,3,4,6,9,13,19,28]
def et(c:Nat):Nat:=iP.getD c 0
def eJ(c:Nat):Nat:=if c<8 then 62 / iP.getD c 1 else 0
def gd(words:Nat):Option Nat:=(List.range 8).find? fun c=>words<=iP.getD c 0
def iL(c k:Nat):Nat:=if c<8/\k<eJ c then 2+k*et c else 0
def fa(words:Nat):Nat:=if words<1\/4000<words then 0 else match gd words with | some _=>1 | none=>(words+65) / 64
structure Hr where
 kind:Nat
 n:Nat
 w:Nat
deriving DecidableEq
def FA(s:Slab)(p:Nat):Hr:=⟨s.rd (p*64) % 256,s.rd (p*64) / 256,s.rd (p*64+1)⟩
def Ie(s:Slab)(p:Nat)(x:Hr):Slab:=(s.wr (p*64) (x.kind+x.n*256)).wr (p*64+1) x.w
def gC(s:Slab):Nat->List Nat->List (Nat×Hr)
 | _,[]=>[]
 | next,p::r=>
  if p<next then gC s next r
  else(p,FA s p)::gC s (if(FA s p).kind=2 then p+(FA s p).n else next) r
def kf(s:Slab):List (Nat×Hr):=gC s 0 s.keys
def fF(p c k:Nat):Nat:=p*64+iL c k
def km(addr p:Nat)(x:Hr):Option Nat:=(List.range (eJ x.n)).find? fun k=>decide (fF p x.n k=addr) && jI x.w k
def fS(addr:Nat):List (Nat×Hr)->Option (Nat×Nat×Hr)
 | []=>none
 | (p,x)::r=>
  if x.kind=2/\addr=p*64+2 then some (p,0,x)
  else if x.kind≠1\/addr / 64≠p then fS addr r
  else match km addr p x with
   | some k=>some (p,k,x)
   | none=>fS addr r
def kb(s:Slab)(addr:Nat):Option (Nat×Nat×Hr):=fS addr (kf s)
def fd(c:Nat):List (Nat×Hr)->Option (Nat×Nat)
 | []=>none
 | (p,x)::r=>
  if x.kind≠1\/x.n≠c then fd c r
  else match fW x.w (eJ c) with
   | some k=>some (p,k)
   | none=>fd c r
def kt(s:Slab)(c:Nat):Option (Nat×Nat):=fd c (kf s)
def nY(s:Slab)(a n:Nat):Slab:=s.zero a n
def fP(s:Slab)(p k:Nat):Nat×Slab:=
 let x:=FA s p
 let s1:=Ie s p { x with w:=iY x.w k }
 (fF p x.n k,nY s1 (fF p x.n k) (et x.n))
def fR(s:Slab)(words:Nat):(Nat×Nat)×Slab:=
 if words<1\/4000<words then((0,2),s)
 else match gd words with
  | none=>
   match s.grant (fa words) with
   | ((p,0),s1)=>((p*64+2,0),Ie s1 p ⟨2,fa words,words⟩)
   | ((_,e),s1)=>((0,e),s1)
  | some c=>
   match kt s c with
   | some (p,k)=>(((fP s p k).1,0),(fP s p k).2)
   | none=>
    match s.grant 1 with
    | ((p,0),s1)=>(((fP (Ie s1 p ⟨1,c,0⟩) p 0).1,0),(fP (Ie s1 p ⟨1,c,0⟩) p 0).2)
    | ((_,e),s1)=>((0,e),s1)
def li(s:Slab)(p k:Nat):Slab:=
 let x:=FA s p
 let y:Hr:= { x with w:=iy x.w k }
 let s1:=Ie s p y
 if y=⟨1,x.n,0⟩ then(s1.release p 1).2 else s1
def iM(s:Slab)(addr:Nat):Nat×Slab:=
 match kb s addr with
 | none=>(5,s)
 | some (p,k,x)=>if x.kind=2 then s.release p x.n else(0,li s p k)
structure e9 where
 is:Nat
 gen:Nat
 addr:Nat
structure Hs where
 most:Nat
 last:Nat
 slots:List e9
def gj(gen k:Nat):Nat:=gen*4294967296+(k+1)
def gH:List e9->Nat->Nat
 | [],k=>k
 | x::r,k=>if x.is=0 then k else gH r (k+1)
def Hs.genAt(t:Hs)(k:Nat):Nat:=(t.slots.getD k ⟨0,0,0⟩).gen
def Hs.open(t:Hs)(addr:Nat):(Nat×Nat)×Hs:=
 let k:=gH t.slots 0
 if k=t.most then((0,10),t)
 else
  let l:=if k=t.slots.length then t.slots++[⟨0,0,0⟩] else t.slots
  let g:=(t.genAt k+1) % 4294967296
  ((gj g k,0),{ t with slots:=l.set k ⟨1,g,addr⟩ })
def Hs.of(t:Hs)(h:Nat):Option Nat:=
 let k:=h % 4294967296
 if k=0 then none
 else match t.slots[k-1]? with
  | none=>none
  | some x=>if x.is=1/\x.gen=h / 4294967296 then some (k-1) else none
def Hs.at(t:Hs)(h:Nat):Nat×Nat:=
 match t.of h with
 | none=>(0,7)
 | some k=>((t.slots.getD k ⟨0,0,0⟩).addr,0)
def Hs.close(t:Hs)(h:Nat):Nat×Hs:=
 match t.of h with
 | none=>(7,t)
 | some k=>
  let x:=t.slots.getD k ⟨0,0,0⟩
  (0,{ t with slots:=t.slots.set k { x with is:=if x.gen=t.last then 2 else 0 } })
structure St where
 a:Slab
 t:Hs
def St.make(s:St)(n:Nat):(Nat×Nat)×St:=
 if 3998<n then((0,2),s)
 else match fR s.a (n+2) with
  | ((addr,0),a1)=>
   match s.t.open addr with
   | ((h,0),t1)=>((h,0),⟨(a1.wr addr h).wr (addr+1) n,t1⟩)
   | ((_,e),t1)=>((0,e),⟨(iM a1 addr).2,t1⟩)
  | ((_,e),a1)=>((0,e),{ s with a:=a1 })
def St.at(s:St)(h:Nat):Nat×Nat×Nat:=
 match s.t.at h with
 | (addr,0)=>(addr,s.a.rd (addr+1),0)
 | (_,e)=>(0,0,e)
def St.len(s:St)(h:Nat):Nat×Nat:=((s.at h).2.1,(s.at h).2.2)
def St.drop(s:St)(h:Nat):Nat×St:=
 match s.at h with
 | (addr,_,0)=>((s.t.close h).1,⟨(iM s.a addr).2,(s.t.close h).2⟩)
 | (_,_,e)=>(e,s)
def St.get(s:St)(h k:Nat):Nat×Nat:=
 match s.at h with
 | (addr,n,0)=>if k<n then(s.a.rd (addr+2+k),s.a.err (addr+2+k)) else(0,2)
 | (_,_,e)=>(0,e)
def St.put(s:St)(h k w:Nat):Nat×St:=
 match s.at h with
 | (addr,n,0)=>if k<n then(s.a.err (addr+2+k),{ s with a:=s.a.wr (addr+2+k) w }) else(2,s)
 | (_,_,e)=>(e,s)
def St.words(s:St):Nat:=s.a.pages.length*64
end Go.Proofs.YtcibkdbpicledaaGreatDoor.Lf
namespace Go.Proofs.YtcibkdbpicledaaGreatDoor
open Go.RowKit Tryz Go.BigFrame Go.Maps Go.WideMaps Lf
variable{Y:Nat->Prop}{blk:Nat->Nat}{cs:Array Value}{t:TypeId}{w:World}
abbrev PV(b:Nat):Value:=.pointer (some ⟨b,0,none⟩)
structure Fo (Y:Nat->Prop) (w w':World):Prop where
 os:w'.os=w.os
 tape:w'.tape=w.tape
 output:w'.output=w.output
 size:w.heap.size<=w'.heap.size
 block:∀k,Y k->w'.heap[k]?=w.heap[k]?
theorem Fo.refl(Y:Nat->Prop)(w:World):Fo Y w w:=⟨rfl,rfl,rfl,Nat.le_refl _,fun _ _=>rfl⟩
theorem Fo.trans{a b c:World}(h:Fo Y a b)(k:Fo Y b c):Fo Y a c:=
 ⟨k.os.trans h.os,k.tape.trans h.tape,k.output.trans h.output,aO h.size k.size,fun i hi=>(k.block i hi).trans (h.block i hi)⟩
theorem Fo.mono{Y Z:Nat->Prop}{a b:World}(h:Fo Y a b)(hz:∀k,Z k->Y k):Fo Z a b:=⟨h.os,h.tape,h.output,h.size,fun k hk=>h.block k (hz k hk)⟩
theorem Fo.below{B:Nat}{a b:World}(h:Fo (·<B) a b):Below B a b:=⟨h.os,h.tape,h.output,h.size,h.block⟩
theorem Fo.of_below{a b:World}(h:Below a.heap.size a b)(hy:∀k,Y k->k<a.heap.size):Fo Y a b:=⟨h.os,h.tape,h.output,h.size,fun k hk=>h.block k (hy k hk)⟩
theorem Fo.cell{a b:World}(h:Fo Y a b){p:Addr}(hp:Y p.block):b.cell? p=a.cell? p:=World.cell?_of_block (w:=a) (h.block p.block hp)
theorem Fo.drewN(Y:Nat->Prop)(w:World)(n:Nat):Fo Y w (w.drewN n):=⟨rfl,rfl,rfl,Nat.le_refl _,fun _ _=>rfl⟩
def l9(v:Value):Option (DataW Unit×List MemPlace):=
 match v with
 | .pointer none=>some (.lit (.bool false),[])
 | .pointer (some ⟨b,0,none⟩)=>some (.lit (.int .i64 b),[])
 | _=>none
def fM(ks:List Nat)(blk:Nat->Nat):DataW Unit:=.map (ks.map fun p:Nat=>(Lit.int .i64 (p:Int),.lit (.int .i64 (blk p))))
def iE(ks:List Nat)(blk:Nat->Nat)(p:Nat):Value:=if p∈ks then PV (blk p) else .pointer none
theorem wl{v:Value}{d:DataW Unit}{ps:List MemPlace}(h:l9 v=some (d,ps)):(v=.pointer none/\d=.lit (.bool false))\/∃b:Nat,v=PV b/\d=.lit (.int .i64 b):=by
 unfold l9 at h
 split at h
 ·cases h;exact ab ⟨rfl,rfl⟩
 ·cases h;exact ae ⟨_,rfl,rfl⟩
 ·cases h
theorem Du(b:Nat):l9 (PV b)=some (.lit (.int .i64 b),[]):=rfl
theorem yI(ks:List Nat)(blk:Nat->Nat)(p:Nat)(z:DataW Unit):(fM ks blk).atKey (.int .i64 p) z=if p∈ks then .lit (.int .i64 (blk p)) else z:=by
 induction ks with
 | nil=>simp[fM,DataW.atKey]
 | cons q r ih=>
  unfold fM DataW.atKey at ih⊢;simp only[aM,List.find?_cons,Lit.sameKey,true_and]
  by_cases e:q=p
  ·subst e
   simp
  ·have e':¬((q:Int)=(p:Int)):=by omega
   simp only[e',decide_false,ag];have e2:¬p=q:=fun h=>e h.symm;simp only[e2,false_or];exact ih
structure eQ (s:Slab):Prop where
 sorted:s.keys.Pairwise (·<·)
 len:∀x∈s.pages,x.2.length=64
 word:∀x∈s.pages,∀v∈x.2,v<2^64
 top:∀p∈s.keys,p<=1048575
 room:s.pages.length*64<=s.quota
 quota:s.quota<=262144
structure eh (w:World) (pa pm:Nat) (s:Slab) (Y:Nat->Prop) (blk:Nat->Nat):Prop where
 wf:eQ s
 hd:w.heap[pa]?=some (.cells #[.int .i64 s.quota,.map (some pm)] 171 (0,0))
 map:w.ownsMap prog 3 l9 pm s.pages.length (fM s.keys blk)
 pg:∀x∈s.pages,w.heap[blk x.1]?=some (.cells (x.2.map fun v:Nat=>Value.int .u64 v).toArray 240 (0,0))
 inj:∀p∈s.keys,∀q∈s.keys,blk p=blk q->p=q
 ya:¬Y pa
 ym:¬Y pm
 yp:∀p∈s.keys,¬Y (blk p)
 yl:∀k,Y k->k<w.heap.size
theorem Fs{b o:Nat}{fr:Nat×Nat}(h:w.heap[b]?=some (.cells cs t fr)):w.cell? ⟨b,o,none⟩=cs[o]?:=by
 simp[World.cell?,h]
theorem AT{b o:Nat}(h:w.heap[b]?=some (.cells cs t (0,0))):w.frozen? ⟨b,o,none⟩=false:=by
 simp[World.frozen?,h]
theorem AG(w:World)(n:Nat):(w.drewN n).heap=w.heap:=rfl
theorem eh.cells{pa pm:Nat}{s:Slab}(h:eh w pa pm s Y blk):
 w.cell? ⟨pa,0,none⟩=some (.int .i64 s.quota)/\w.cell? ⟨pa,1,none⟩=some (.map (some pm)):=by
 rw[Fs h.hd,Fs h.hd];exact⟨rfl,rfl⟩
theorem rn:Keyed prog 3:=int_keyed underlying3
theorem Fk(w:World):(zeroValue 238).run prog w=.ok (.pointer none) w:=by kernel_rfl
theorem eh.look{pa pm:Nat}{s:Slab}(h:eh w pa pm s Y blk)(p:Nat)(hp:p<=9223372036854775807):
 (Instr.lookup 169 (.map (some pm)) (.int .i64 p) false).run prog w=.ok (iE s.keys blk p) w:=by
 have hw:(Lit.int .i64 (p:Int)).wf=true:=by
  have h1:IntKind.min .i64<=(p:Int):=by show (-9223372036854775808:Int)<=p;omega
  have h2:(p:Int)<=IntKind.max .i64:=by show (p:Int)<=9223372036854775807;omega
  simp only[Lit.wf,h1,h2,decide_true,Bool.and_self]
 obtain⟨v,ps,ad,hv⟩:=h.map.lookup rn underlying169 (Fk w) (show l9 (.pointer none)=some (.lit (.bool false),[]) from rfl) (keyOf_int_mk underlying3 hw);rw[yI] at hv;rw[ad];unfold iE
 by_cases e:p∈s.keys
 ·rw[if_pos e] at hv⊢
  rcases wl hv with⟨_,h2⟩ | ⟨b,h1,h2⟩
  ·cases h2
  ·simp only[DataW.lit.injEq,Lit.int.injEq,true_and] at h2;rw[h1,show b=blk p by omega]
 ·rw[if_neg e] at hv⊢
  rcases wl hv with⟨h1,_⟩ | ⟨b,_,h2⟩
  ·rw[h1]
  ·cases h2
end Go.Proofs.YtcibkdbpicledaaGreatDoor
namespace Go.Proofs.YtcibkdbpicledaaGreatDoor
open Go.RowKit Tryz
variable{P:Program}{w:World}
structure Fq (I:World->Prop) where
 to:World
 ok:I to
theorem iq{id:Nat}{Q:Exit->Act->World->Prop}{a:Act}{l:List Oper}(I:World->Prop)(hm:P.follows .mixedOrders=true)(hB:Region.lexB .any l.toArray=true)
 (hI:I w.drew)
 (h:Nonempty (Fq I)->wpQuiet P l.toArray (fun w'=>∃x:Fq I,w'=x.to) (fun a'=>∀w',(∃x:Fq I,w'=x.to)->Q .normal a' w') l a):(Code.region id l.toArray true).wp P Q a w:=
 wp_region_quiet (C:=fun w'=>∃x:Fq I,w'=x.to) hm hB ⟨⟨_,hI⟩,rfl⟩ (by simpa using h ⟨⟨_,hI⟩⟩)
theorem Calls.keeps_below{f:FuncId}{args:Array Value}{v:Value}{x:Fq (Below w.heap.size w)}
 (h:Calls P f args x.to fun e w'=>e=.returned v/\Below x.to.heap.size x.to w'):Calls P f args x.to fun e w''=>e=.returned v/\∃y:Fq (Below w.heap.size w),w''=y.to:=
 h.mono fun _ _ ⟨he,hb⟩=>⟨he,⟨_,x.ok.trans (hb.mono x.ok.size)⟩,rfl⟩
end Go.Proofs.YtcibkdbpicledaaGreatDoor
namespace Go.Proofs.YtcibkdbpicledaaGreatDoor
open Go.RowKit Tryz Go.BigFrame Lf
open Go.Shelf
variable{B:Nat}{W:World}{k:Nat}{v:Value}
attribute [local go_sem] Oper.semAt_some
def Bx(W:World)(B:Nat)(v:Value):Prop:=W.cell? ⟨B,0,none⟩=some v/\W.frozen? ⟨B,0,none⟩=false
theorem Bx.new(W:World)(v:Value)(t:TypeId):Bx (W.alloc (.cells #[v] t)) W.heap.size v:=by
 have h:(W.alloc (.cells #[v] t)).heap[W.heap.size]?=some (.cells #[v] t (0,0)):=by show (W.heap.push _)[W.heap.size]?=_;simp
 exact⟨by rw[Fs h];rfl,AT h⟩
theorem Bx.kept{W W':World}{row:Option Nat}(h:Bx W B v)(hg:W.grownBy W' row)(hr:∀r,row=some r->∃o:Obj,W.heap[r]?=some o/\o.isCells=false):Bx W' B v:=
 ⟨cell_kept h.1 hg hr,(frozen_kept h.1 hg hr).trans h.2⟩
theorem Bx.alloc(h:Bx W B v)(o:Obj):Bx (W.alloc o) B v:=h.kept (World.grownBy_alloc W o none) (fun r e=>by cases e)
theorem Bx.set(h:Bx W B v)(u:Value):Bx (W.setCell ⟨B,0,none⟩ u) B u:=
 ⟨World.cell?_setCell_same' _ _ _ (by rw[h.1];rfl),by rw[World.frozen?_setCell];exact h.2⟩
theorem Bx.other{B C:Nat}(h:Bx W B v)(u:Value)(hne:B≠C):Bx (W.setCell ⟨C,0,none⟩ u) B v:=by
 refine⟨?_,by rw[World.frozen?_setCell];exact h.2⟩;have e:(W.setCell ⟨C,0,none⟩ u).cell? ⟨B,0,none⟩=W.cell? ⟨B,0,none⟩:=World.cell?_of_block (dq W ⟨C,0,none⟩ u B hne);rw[e];exact h.1
theorem Bx.put{B D:Nat}{o o':Obj}(h:Bx W B v)(hD:W.heap[D]?=some o)(ho:o.isCells=false):Bx (W.putObj D o') B v:=
 h.kept (grownBy_putObj' W D o') (fun r e=>by cases e;exact⟨o,hD,ho⟩)
theorem Bx.below{W W':World}{B n:Nat}(h:Bx W B v)(hb:Below n W W')(hB:B<n):Bx W' B v:=
 ⟨(hb.cell (p:=⟨B,0,none⟩) hB).trans h.1,(hb.frozen (p:=⟨B,0,none⟩) hB).trans h.2⟩
def fH(k:Nat):Nat:=[2,3,4,6,9,13,19,28,42].getD k 0
abbrev uh(p:Nat×Nat):Array Value:=#[.int .i64 p.1,.int .i64 p.2]
def iF(k:Nat):List (Nat×Nat):=(List.range k).map fun i=>(i,fH i)
theorem xy(k:Nat):iF (k+1)=iF k++[(k,fH k)]:=by simp[iF,List.range_succ]
theorem EE(k:Nat):(iF k).length=k:=by simp[iF]
theorem EG:∀k,k<8->2<=fH k/\fH k<=28/\fH (k+1)=fH k+max (fH k / 2) 1:=by decide
theorem wO(F:Fence)(n:Nat)(hg:F.fn 169)(hro:F.round=none)(hn:1<=n)(w:World):
 SeqStopsA F n prog 169 #[] uh (fun xs=>xs=iF 8) (fun pre=>∃k,k<8/\pre=iF (k+1)) 8 w:=fun l J Jx W _ _ _ hY h0=>by
 refine callsIn_of_wp func169 rfl hg ?_ hro;simp only[ntmps169,bp,ak,aK,Nat.reduceAdd,Nat.reduceSub,aV,aW,bw,aZ,aU,aP];gi_wp2
 gi_loopw [2,3] (fun c x wr=>∃k:Nat,k<=8/\c=.int .i64 k/\x=.int .i64 (fH k)/\J (iF k) wr) (fun c _ _=>8-(intOf c).toNat)
 case atStart=>exact⟨0,by omega,rfl,rfl,h0⟩
 case round=>
  obtain⟨k,hk,rfl,rfl,hJ⟩:=hrel;by_cases hlt:k<8
  ·obtain⟨fn,ar,an,ao,hy,hR⟩:=hY (iF k) (k,fH k) wr hJ (by rw[EE];exact hlt);rw[<-xy] at hR;obtain⟨h1,h2,h3⟩:=EG k hlt;have h4:((fH (k+1):Nat):Int)=(fH k:Int)+max ((fH k:Int) / 2) 1:=by rw[h3];omega
   generalize fH k=z at*;generalize ad:fH (k+1)=z1 at*;have HZ:=kq2 ad h4;clear ad h4 h3;dsimp only[uh] at hy
   gi_wp2
   refine hR.mono ?_;rintro e W3 (⟨rfl,ai,ap⟩ | ⟨rfl,al⟩)
   ·gi_wp2
    go_roundw
    case rel=>exact⟨k+1,by omega,by go_num,by rw[HZ.a];exact congrArg (Value.int .i64) (by have:=HZ.b;omega),ai⟩
    case measure=>simp[intOf];omega
   ·gi_wp2
    refine bodyPost_ret (results_none rfl _ _ _) rfl ?_;exact⟨⟨_,rfl⟩,.inr ⟨_,⟨k,hlt,rfl⟩,al⟩⟩
  ·obtain rfl:k=8:=by omega
   gi_wp2
   go_end0
   exact⟨⟨_,rfl⟩,.inl ⟨_,rfl,hJ⟩⟩
def ip(c:Int):Nat×Nat:=if 0<=c/\c<8 then(et c.toNat,0) else(0,2)
theorem Eg{c:Int}(h:∀x∈iF 8,(x.1:Int)≠c):ip c=(0,2):=by
 unfold ip;rw[if_neg];rintro⟨h1,h2⟩;exact h (c.toNat,fH c.toNat) (aC.2 ⟨c.toNat,by rw[bJ];omega,rfl⟩) (by simp;omega)
theorem EF:∀k,k<8->fH k=et k:=by decide
theorem xx{p:List (Nat×Nat)}{x:Nat×Nat}(h:p++[x]=iF (k+1)):p=iF k/\x=(k,fH k):=by
 rw[xy] at h;have:=List.append_inj' h rfl;exact⟨this.1,by simpa using this.2⟩
theorem Eh(h:k<8):ip k=(fH k,0):=by
 unfold ip;rw[if_pos (by omega),EF k h];simp
theorem wN(w:World):Ct 141 #[] w fun e w'=>e=.returned (.func (.func 169) #[] #[])/\w=w':=by
 go_enter func141,ntmps141
 go_wp2
 go_ret;exact⟨rfl,rfl⟩
theorem qj(c:Int)(w:World):
 Cb 146 #[.int .i64 c] w (.tuple #[.int .i64 (ip c).1,.int .i64 (ip c).2]):=by
 refine(callsIn_wide (n:=4)).1 ?_;have h1:1<=4:=by omega
 have hS:Fence.wide.fn 141:=trivial;have a1:∀W,CallsIn Fence.wide 3 prog 141 #[] W _:=fun W=>callsIn_wide.2 (wN W);obtain⟨R,hR⟩:=Ii (ip c);rw[hR];have HR:=If hR;clear hR;refine callsIn_of_wp_marks func146 rfl trivial ?_ rfl;simp only[ntmps146,bp,ak,aK,Nat.reduceAdd,Nat.reduceSub,aV,aW,bw,aZ,aU,aP]
 gi_wp2_with (gi_at_call 141;refine(a1 _).mono ?_;rintro e w' ⟨rfl,rfl⟩)
 have c0:=Bx.new w (.int .i64 c) 3;have c1:=Bx.new (w.alloc (.cells #[.int .i64 c] 3)) (.int .i64 0) 3;have c2:=Bx.new ((w.alloc (.cells #[.int .i64 c] 3)).alloc (.cells #[.int .i64 0] 3)) (.int .i64 0) 30;simp only[World.size_alloc] at c1 c2;have a0:Below w.heap.size w (((w.alloc (.cells #[.int .i64 c] 3)).alloc (.cells #[.int .i64 0] 3)).alloc (.cells #[.int .i64 0] 30)):=(((aa _ w).alloc Ih _).alloc (by simp) _).alloc (by simp;omega) _;refine wpIn_rangeFunc_ownF rfl h1 (gf:=169) (lb:=#[]) rfl trivial (enters_of func169 (by kernel_rfl) rfl)
  (wO Fence.wide (4-1) trivial rfl (by omega) _) walksK_t walksK_b (aa _ _) (fun _=>rfl)
  (fun al W=>((∀y∈al,(y.1:Int)≠c)/\Bx W w.heap.size (.int .i64 c)/\Bx W (w.heap.size+1) (.int .i64 0)/\Bx W (w.heap.size+1+1) (.int .i64 0))/\Below w.heap.size w W)
  (fun cd al W=>(cd=.ret/\(∃p x,al=p++[x]/\(x.1:Int)=c/\Bx W (w.heap.size+1) (.int .i64 x.2))/\Bx W (w.heap.size+1+1) (.int .i64 0))/\Below w.heap.size w W)
  (OwnFrom.and (Own.from (fun s A B row hs hg hr=>⟨hs.1,hs.2.1.kept hg hr,hs.2.2.1.kept hg hr,hs.2.2.2.kept hg hr⟩) _) (ownFrom_below Ih (by simp;omega)))
  (fun cd=>OwnFrom.and (Own.from (fun s A B row hs hg hr=>⟨hs.1,(let ⟨p,x,h1,h2,h3⟩:=hs.2.1;⟨p,x,h1,h2,h3.kept hg hr⟩),hs.2.2.kept hg hr⟩) _) (ownFrom_below Ih (by simp;omega)))
  ⟨⟨by simp,(c0.alloc _).alloc _,c1.alloc _,c2⟩,a0⟩
  (fun x=> { tmps:=#[.int .i64 c,.pointer (some ⟨w.heap.size,0,none⟩),.pointer (some ⟨w.heap.size+1,0,none⟩),.pointer (some ⟨w.heap.size+1+1,0,none⟩),.int .i64 x.1,.int .i64 x.2,.func (.func 169) #[] #[],.int .i64 x.1,.int .i64 x.2,undef,undef,undef,undef],defers:=[] }) ?assign ?body ?done ?stop
 case assign=>
  intro l x W K hK
  gi_wp2
  exact hK
 case body=>
  rintro l al x W ⟨⟨hp,ao,ad,ai⟩,hB⟩ _;have k0:=ao.1;obtain⟨k1,f1⟩:=id ad;obtain⟨k2,f2⟩:=id ai;have H0:=If ao;have HH:=kq4 hp ad ai hB;clear hp ao ad ai hB
  by_cases hx:(x.1:Int)=c
  ·have a2:((x.1:Int)==c)=true:=by simpa using hx
   have HX:=If hx;clear hx
   gi_wp2
   exact⟨(KeepsOthers.setCell _ _ _).trans (KeepsOthers.setCell _ _ _),⟨rfl,⟨al,x,rfl,HX.out,(HH.b.set _).other _ (by omega)⟩,(HH.c.other _ (by omega)).set _⟩,(HH.d.setCell (p:=⟨w.heap.size+1,0,none⟩) (by simp) _).setCell (p:=⟨w.heap.size+1+1,0,none⟩) (by simp;omega) _⟩
  ·have a2:((x.1:Int)==c)=false:=by simpa using hx
   have HX:=If hx;clear hx
   gi_wp2
   exact⟨KeepsOthers.refl _,KeepsWalks.refl _,⟨fun y hy=>(am.1 hy).elim (HH.a y) (fun e=>by rw[aT.1 e];exact HX.out),H0.out,HH.b,HH.c⟩,HH.d⟩
 case done=>
  rintro D ys W hD rfl ⟨⟨hp,ao,ad,ai⟩,hB⟩ hK;obtain⟨k1,f1⟩:=id ad;obtain⟨k2,f2⟩:=id ai;have HH:=kq4 hp ad ai hB;clear hp ad ai hB
  gi_wp2
  have an:=((KeepsOthers.setCell W ⟨w.heap.size+1,0,none⟩ (.int .i64 0)).trans (KeepsOthers.setCell _ ⟨w.heap.size+1+1,0,none⟩ (.int .i64 2))).same D _ hK rfl;refine⟨by simp,.inl ⟨_,_,rfl,run_takeDeferred an,?_⟩⟩;have r1:=(((HH.b.set (.int .i64 0)).other (.int .i64 2) (show w.heap.size+1≠w.heap.size+1+1 by omega)).put (o':=.deferred none) an rfl).1;have r2:=(((HH.c.other (.int .i64 0) (show w.heap.size+1+1≠w.heap.size+1 by omega)).set (.int .i64 2)).put (o':=.deferred none) an rfl).1;have ap:R=(0,2):=by rw[<-HR.out];exact Eg HH.a
  subst ap;refine⟨.tuple #[.int .i64 0,.int .i64 2],?_,rfl,((HH.d.setCell (p:=⟨w.heap.size+1,0,none⟩) (by simp) _).setCell (p:=⟨w.heap.size+1+1,0,none⟩) (by simp;omega) _).trans (belowK_b (w:=w) Ih _ D _ _ (by simp at hD;omega) an rfl rfl)⟩
  simp[results,f146,go_sem,r1,r2]
 case stop=>
  rintro D cd al W hD ⟨k,hk,rfl⟩ ⟨⟨rfl,⟨p,x,ar,hx,ad⟩,ai⟩,hB⟩ hK;obtain⟨_,au⟩:=xx ar.symm;have HH:=If hB;have ap:R=(x.2,0):=by rw[<-HR.out,<-hx,au];exact Eh hk
  have r1:=(ad.put (o':=.deferred none) hK rfl).1;have r2:=(ai.put (o':=.deferred none) hK rfl).1;clear ar hx au ad ai hB;subst ap
  gi_wp2
  refine⟨by simp,.inl ⟨_,_,rfl,run_takeDeferred hK,?_⟩⟩;refine⟨.tuple #[.int .i64 x.2,.int .i64 0],?_,rfl,HH.out.trans (belowK_b (w:=w) Ih W D _ _ (by simp at hD;omega) hK rfl rfl)⟩
  simp[results,f146,go_sem,r1,r2]
def je(c:Int):Nat×Nat:=if 0<=c/\c<8 then(eJ c.toNat,0) else(0,2)
theorem qLfad{P:Prop}(h:P:=by
 go_enter func129,ntmps129;go_wp2_with fail;refine HS.out.mono ?_;rintro e w1 ⟨rfl,hb⟩;go_wp2_with fail;go_ret2;exact⟨rfl,hb⟩):P:=h
theorem qk(c:Int)(w:World):
 Cb 129 #[.int .i64 c] w (.tuple #[.int .i64 (je c).1,.int .i64 (je c).2]):=by
 have hs:=qj c w
 by_cases h:0<=c/\c<8
 ·obtain⟨k,rfl⟩:=Int.eq_ofNat_of_zero_le h.1;have hk:k<8:=by omega
  have h1:ip k=(et k,0):=by unfold ip;rw[if_pos h];simp
  have h2:je k=(62 / et k,0):=by
   unfold je eJ;rw[if_pos h,df,if_pos hk];have:∀k,k<8->iP.getD k 1=et k:=by decide
   rw[this k hk]
  have h3:2<=et k/\et k<=28:=by
   have:∀k,k<8->2<=et k/\et k<=28:=by decide
   exact this k hk
  rw[h1] at hs;rw[h2];have HS:=If hs;clear hs h1 h2 h;generalize et k=z at*;obtain⟨h4,h5⟩:=h3;exact qLfad
 ·have h1:ip c=(0,2):=by unfold ip;rw[if_neg h]
  have h2:je c=(0,2):=by unfold je;rw[if_neg h]
  rw[h1] at hs;rw[h2];have HS:=If hs;clear hs h1 h2 h;exact qLfad
attribute [local go_sem] Oper.semAt_some
def gm(x:Int):Nat×Bool×Nat:=
 if x<1\/4000<x then(0,false,2) else match gd x.toNat with | some c=>(c,true,0) | none=>(0,false,0)
theorem vY{x:Int}(h:x<1\/4000<x):gm x=(0,false,2):=by unfold gm;rw[if_pos h]
theorem sP:∀k,k<8->fH k=iP.getD k 0:=by decide
theorem Ap{n k:Nat}(hk:k<8)(h1:n<=fH k)(h2:∀i,i<k->fH i<n):gd n=some k:=by
 unfold gd;rw[di];refine⟨by rw[<-sP k hk];simpa using h1,by simpa using hk,fun j hj=>?_⟩;have:=h2 j hj;rw[<-sP j (by omega)]
 simp
 omega
theorem Ao{n:Nat}(h:∀i,i<8->fH i<n):gd n=none:=by
 unfold gd;rw[bF];intro j hj;have ad:j<8:=by simpa using hj
 have:=h j ad;rw[<-sP j ad]
 simp
 omega
theorem Dl{x:Int}(h1:1<=x)(h2:x<=4000)(h:∀y∈iF 8,(y.2:Int)<x):gm x=(0,false,0):=by
 have:gd x.toNat=none:=Ao fun i hi=>by
  have:=h (i,fH i) (aC.2 ⟨i,by simpa using hi,rfl⟩);simp only at this;omega
 unfold gm;rw[if_neg (by omega),this]
theorem Dm{x:Int}(h1:1<=x)(h2:x<=4000)(hk:k<8)(h:∀y∈iF k,(y.2:Int)<x)(h3:x<=fH k):gm x=(k,true,0):=by
 have:gd x.toNat=some k:=Ap hk (by omega) fun i hi=>by
  have:=h (i,fH i) (aC.2 ⟨i,by simpa using hi,rfl⟩);simp only at this;omega
 unfold gm;rw[if_neg (by omega),this]
def tq(x:Int)(pre:List (Nat×Nat)):Prop:=∀y∈pre,(y.2:Int)<x
theorem Ar(x:Int)(w:World)(hx1:1<=x)(hx2:x<=4000):
 Cb 111 #[.int .i64 x] w (.tuple #[.int .i64 (gm x).1,.bool (gm x).2.1,.int .i64 (gm x).2.2]):=by
 refine(callsIn_wide (n:=4)).1 ?_;have h1:1<=4:=by omega
 have hS:Fence.wide.fn 141:=trivial;have a3:∀W,CallsIn Fence.wide 3 prog 141 #[] W _:=fun W=>callsIn_wide.2 (wN W);obtain⟨R,hR⟩:=Ii (gm x);rw[hR];have HR:=If hR;clear hR;have a4:decide (x<1)=false:=by simp;omega
 have a5:decide (4000<x)=false:=by simp;omega
 refine callsIn_of_wp_marks func111 rfl trivial ?_ rfl;simp only[ntmps111,bp,ak,aK,Nat.reduceAdd,Nat.reduceSub,aV,aW,bw,aZ,aU,aP]
 gi_wp2_with (gi_at_call 141;refine(a3 _).mono ?_;rintro e w' ⟨rfl,rfl⟩)
 have c0:=Bx.new w (.int .i64 x) 3;have c1:=Bx.new (w.alloc (.cells #[.int .i64 x] 3)) (.int .i64 0) 3;have c2:=Bx.new ((w.alloc (.cells #[.int .i64 x] 3)).alloc (.cells #[.int .i64 0] 3)) (.bool false) 4;have c3:=Bx.new (((w.alloc (.cells #[.int .i64 x] 3)).alloc (.cells #[.int .i64 0] 3)).alloc (.cells #[.bool false] 4)) (.int .i64 0) 30;simp only[World.size_alloc] at c1 c2 c3;have a2:Below w.heap.size w ((((w.alloc (.cells #[.int .i64 x] 3)).alloc (.cells #[.int .i64 0] 3)).alloc (.cells #[.bool false] 4)).alloc (.cells #[.int .i64 0] 30)):=((((aa _ w).alloc Ih _).alloc (by simp) _).alloc (by simp;omega) _).alloc (by simp;omega) _;refine wpIn_rangeFunc_ownF rfl h1 (gf:=169) (lb:=#[]) rfl trivial (enters_of func169 (by kernel_rfl) rfl)
  (wO Fence.wide (4-1) trivial rfl (by omega) _) walksK_t walksK_b (aa _ _) (fun _=>rfl)
  (fun an W=>(tq x an/\Bx W w.heap.size (.int .i64 x)/\Bx W (w.heap.size+1) (.int .i64 0)/\Bx W (w.heap.size+1+1) (.bool false)/\Bx W (w.heap.size+1+1+1) (.int .i64 0))/\Below w.heap.size w W)
  (fun cd an W=>(cd=.ret/\(∃p y,an=p++[y]/\tq x p/\x<=(y.2:Int)/\Bx W (w.heap.size+1) (.int .i64 y.1))/\Bx W (w.heap.size+1+1) (.bool true)/\Bx W (w.heap.size+1+1+1) (.int .i64 0))/\Below w.heap.size w W)
  (OwnFrom.and (Own.from (fun s A B row hs hg hr=>⟨hs.1,hs.2.1.kept hg hr,hs.2.2.1.kept hg hr,hs.2.2.2.1.kept hg hr,hs.2.2.2.2.kept hg hr⟩) _) (ownFrom_below Ih (by simp;omega)))
  (fun cd=>OwnFrom.and (Own.from (fun s A B row hs hg hr=>⟨hs.1,(let ⟨p,y,k1,k2,k3,k4⟩:=hs.2.1;⟨p,y,k1,k2,k3,k4.kept hg hr⟩),hs.2.2.1.kept hg hr,hs.2.2.2.kept hg hr⟩) _) (ownFrom_below Ih (by simp;omega)))
  ⟨⟨fun y hy=>absurd hy (by simp),((c0.alloc _).alloc _).alloc _,(c1.alloc _).alloc _,c2.alloc _,c3⟩,a2⟩
  (fun y=> { tmps:=#[.int .i64 x,.pointer (some ⟨w.heap.size,0,none⟩),.pointer (some ⟨w.heap.size+1,0,none⟩),.pointer (some ⟨w.heap.size+1+1,0,none⟩),.pointer (some ⟨w.heap.size+1+1+1,0,none⟩),.int .i64 y.1,.int .i64 y.2,.int .i64 x,.bool false,.bool false,.int .i64 x,.bool false,.bool false,.func (.func 169) #[] #[],.int .i64 y.1,.int .i64 y.2,undef,undef,undef,undef],defers:=[] }) ?assign ?body ?done ?stop
 case assign=>
  intro l y W K hK
  gi_wp2
  exact hK
 case body=>
  rintro l an y W ⟨⟨hp,ap,ad,ai,al⟩,hB⟩ _;have k0:=ap.1;obtain⟨k1,f1⟩:=id ad;obtain⟨k2,f2⟩:=id ai;obtain⟨k3,f3⟩:=id al;have H0:=If ap;have HH:=kq5 hp ad ai al hB;clear hp ap ad ai al hB
  by_cases hx:x<=(y.2:Int)
  ·gi_wp2
   exact⟨((KeepsOthers.setCell _ _ _).trans (KeepsOthers.setCell _ _ _)).trans (KeepsOthers.setCell _ _ _),⟨rfl,⟨an,y,rfl,HH.a,hx,((HH.b.set _).other _ (by omega)).other _ (by omega)⟩,((HH.c.other _ (by omega)).set _).other _ (by omega),((HH.d.other _ (by omega)).other _ (by omega)).set _⟩,((HH.e.setCell (p:=⟨w.heap.size+1,0,none⟩) (by simp) _).setCell (p:=⟨w.heap.size+1+1,0,none⟩) (by simp;omega) _).setCell (p:=⟨w.heap.size+1+1+1,0,none⟩) (by simp;omega) _⟩
  ·have HX:=If hx
   gi_wp2
   exact⟨KeepsOthers.refl _,KeepsWalks.refl _,⟨fun z hz=>(am.1 hz).elim (HH.a z) (fun e=>by rw[aT.1 e];have:=HX.out;omega),H0.out,HH.b,HH.c,HH.d⟩,HH.e⟩
 case done=>
  rintro D ys W hD rfl ⟨⟨hp,ap,ad,ai,al⟩,hB⟩ hK;obtain⟨k1,f1⟩:=id ad;obtain⟨k2,f2⟩:=id ai;obtain⟨k3,f3⟩:=id al;have HH:=kq5 hp ad ai al hB;clear hp ad ai al hB
  gi_wp2
  have ao:=(((KeepsOthers.setCell W ⟨w.heap.size+1,0,none⟩ (.int .i64 0)).trans (KeepsOthers.setCell _ ⟨w.heap.size+1+1,0,none⟩ (.bool false))).trans (KeepsOthers.setCell _ ⟨w.heap.size+1+1+1,0,none⟩ (.int .i64 0))).same D _ hK rfl;refine⟨by simp,.inl ⟨_,_,rfl,run_takeDeferred ao,?_⟩⟩;have r1:=((((HH.b.set (.int .i64 0)).other (.bool false) (show w.heap.size+1≠w.heap.size+1+1 by omega)).other (.int .i64 0) (show w.heap.size+1≠w.heap.size+1+1+1 by omega)).put (o':=.deferred none) ao rfl).1;have r2:=((((HH.c.other (.int .i64 0) (show w.heap.size+1+1≠w.heap.size+1 by omega)).set (.bool false)).other (.int .i64 0) (show w.heap.size+1+1≠w.heap.size+1+1+1 by omega)).put (o':=.deferred none) ao rfl).1;have r3:=((((HH.d.other (.int .i64 0) (show w.heap.size+1+1+1≠w.heap.size+1 by omega)).other (.bool false) (show w.heap.size+1+1+1≠w.heap.size+1+1 by omega)).set (.int .i64 0)).put (o':=.deferred none) ao rfl).1;have ar:R=(0,false,0):=by rw[<-HR.out];exact Dl hx1 hx2 HH.a
  subst ar;refine⟨.tuple #[.int .i64 0,.bool false,.int .i64 0],?_,rfl,(((HH.e.setCell (p:=⟨w.heap.size+1,0,none⟩) (by simp) _).setCell (p:=⟨w.heap.size+1+1,0,none⟩) (by simp;omega) _).setCell (p:=⟨w.heap.size+1+1+1,0,none⟩) (by simp;omega) _).trans (belowK_b (w:=w) Ih _ D _ _ (by simp at hD;omega) ao rfl rfl)⟩
  simp[results,f111,go_sem,r1,r2,r3]
 case stop=>
  rintro D cd an W hD ⟨k,hk,rfl⟩ ⟨⟨rfl,⟨p,y,a0,hp,hx,ad⟩,ai,al⟩,hB⟩ hK;obtain⟨au,a1⟩:=xx a0.symm;have HH:=If hB;have ar:R=(y.1,true,0):=by rw[<-HR.out];rw[au] at hp;rw[a1] at hx⊢;exact Dm hx1 hx2 hk hp hx
  have r1:=(ad.put (o':=.deferred none) hK rfl).1;have r2:=(ai.put (o':=.deferred none) hK rfl).1;have r3:=(al.put (o':=.deferred none) hK rfl).1;clear a0 hx a1 au hp ad ai al hB;subst ar
  gi_wp2
  refine⟨by simp,.inl ⟨_,_,rfl,run_takeDeferred hK,?_⟩⟩;refine⟨.tuple #[.int .i64 y.1,.bool true,.int .i64 0],?_,rfl,HH.out.trans (belowK_b (w:=w) Ih W D _ _ (by simp at hD;omega) hK rfl rfl)⟩
  simp[results,f111,go_sem,r1,r2,r3]
theorem nM(w:World)(a b c d:Obj):Below w.heap.size w ((((w.alloc a).alloc b).alloc c).alloc d):=
 ((((aa _ w).alloc Ih _).alloc (by simp) _).alloc (by simp;omega) _).alloc (by simp;omega) _
theorem qLfac{P:Prop}(h:P:=by
 go_enter func111,ntmps111;go_wp2_with fail;exact bodyPost_ret (v:=.tuple #[.int .i64 0,.bool false,.int .i64 2]) (by simp[results,f111,go_sem]) rfl ⟨rfl,nM w _ _ _ _⟩):P:=h
theorem As(x:Int)(w:World)(hx:x<1\/4000<x):
 Cb 111 #[.int .i64 x] w (.tuple #[.int .i64 (gm x).1,.bool (gm x).2.1,.int .i64 (gm x).2.2]):=by
 rw[vY hx]
 rcases hx with hx | hx
 ·exact qLfac
 ·have h1:1<=x:=by omega
  exact qLfac
theorem Gn(x:Int)(w:World):
 Cb 111 #[.int .i64 x] w (.tuple #[.int .i64 (gm x).1,.bool (gm x).2.1,.int .i64 (gm x).2.2]):=by
 by_cases h:x<1\/4000<x
 ·exact As x w h
 ·exact Ar x w (by omega) (by omega)
theorem vX(n:Nat):(n<1\/4000<n)/\gm n=(0,false,2)/\fa n=0\/(1<=n/\n<=4000)/\((∃c,gd n=some c/\gm n=(c,true,0)/\fa n=1)\/(gd n=none/\gm n=(0,false,0)/\fa n=(n+65) / 64)):=by
 by_cases h:n<1\/4000<n
 ·exact ab ⟨h,vY (by omega),by unfold fa;rw[if_pos h]⟩
 ·refine ae ⟨by omega,?_⟩;have h1:¬((n:Int)<1\/4000<(n:Int)):=by omega
  unfold gm fa;rw[if_neg h1,if_neg h,df]
  cases gd n with
  | none=>exact ae ⟨rfl,rfl,rfl⟩
  | some c=>exact ab ⟨c,rfl,rfl,rfl⟩
theorem GT(n:Nat)(w:World)(hn:n<=4000)(h1:1<=n):
 Cb 112 #[.int .i64 n] w (.tuple #[.int .i64 (fa n:Nat),.int .i64 0]):=by
 have ho:=Gn n w
 rcases vX n with⟨h,_⟩ | ⟨_,⟨c,_,h2,h3⟩ | ⟨_,h2,h3⟩⟩
 ·omega
 ·rw[h2] at ho;rw[h3];have HO:=If ho;clear ho h2 h3;go_enter func112,ntmps112;go_wp2_with fail;refine HO.out.mono ?_;rintro e w1 ⟨rfl,hb⟩;go_wp2_with fail;go_ret2;exact⟨rfl,hb⟩
 ·rw[h2] at ho;rw[h3];have HO:=If ho;have hq:((n+65) / 64:Nat)=(((n:Int)+2+64-1) / 64).toNat:=by omega
  obtain⟨R,hR⟩:=Ii ((n+65) / 64);rw[hR] at hq⊢;have HQ:=If hq;clear ho h2 h3 hq hR;go_enter func112,ntmps112;go_wp2_with fail;refine HO.out.mono ?_;rintro e w1 ⟨rfl,hb⟩;go_wp2_with fail;go_ret2;refine⟨?_,hb⟩;have:=HQ.out;have e:(((n:Int)+2+64-1) / 64)=(R:Int):=by omega
  rw[<-e]
  rfl
theorem qi(c k:Nat):iL c k<=62:=by
 unfold iL
 split
 ·rename_i h;have h2:∀c,c<8->eJ c*et c<=62/\2<=et c:=by decide
  obtain⟨h3,h4⟩:=h2 c h.1;have:(k+1)*et c<=eJ c*et c:=dh _ h.2;rw[Nat.add_mul] at this;omega
 ·omega
theorem qLfab{P:Prop}(h:P:=by
 go_enter func172,ntmps172;go_wp2_with fail;refine HS.out.mono ?_;rintro e w1 ⟨rfl,hb⟩;have HB:=If hb;clear hb;go_wp2_with fail;go_ret2;exact⟨⟨2,rfl⟩,HB.out⟩):P:=h
theorem Aw(c k:Nat)(w:World)(hc:c<=2^56)(hk:k<=1000):
 Ct 172 #[.int .i64 c,.int .i64 k] w fun e w'=>(∃er:Nat,e=.returned (.tuple #[.int .i64 (iL c k:Nat),.int .i64 er]))/\Below w.heap.size w w':=by
 have hs:=qk c w;have hz:=fun W=>qj c W
 by_cases h:c<8
 ·have h1:je c=(eJ c,0):=by unfold je;rw[if_pos (by omega),df]
  have h2:ip c=(et c,0):=by unfold ip;rw[if_pos (by omega),df]
  have h3:eJ c<=31/\et c<=28:=by
   have:∀c,c<8->eJ c<=31/\et c<=28:=by decide
   exact this c h
  rw[h1] at hs;rw[h2] at hz
  by_cases hlt:k<eJ c
  ·have h4:iL c k=2+k*et c:=by unfold iL;rw[if_pos ⟨h,hlt⟩]
   rw[h4];have HS:=kq2 hs hz;clear hs hz h1 h2 h4;generalize eJ c=m at*;generalize et c=z at*;obtain⟨h5,h6⟩:=h3;have h7:(k:Int)*z<=1000*28:=by
    have:k*z<=1000*28:=Nat.mul_le_mul hk h6;omega
   have h8:0<=(k:Int)*z:=by
    have:((k*z:Nat):Int)=(k:Int)*z:=by simp
    omega
   have al:¬(m:Int)<=k:=by omega
   go_enter func172,ntmps172;go_wp2_with fail;refine HS.a.mono ?_;rintro e w1 ⟨rfl,hb⟩;have HB:=If hb;clear hb;go_wp2_with fail;refine(HS.b _).mono ?_;rintro e w2 ⟨rfl,ad⟩;have ai:=If ad;clear ad;go_wp2_with fail;go_ret2;exact⟨⟨0,by simp⟩,HB.out.trans (ai.out.mono HB.out.size)⟩
  ·have h4:iL c k=0:=by unfold iL;rw[if_neg (fun hh=>hlt hh.2)]
   rw[h4];have HS:=If hs;clear hs hz h1 h2 h4;generalize eJ c=m at*;generalize et c=z at*;have al:(m:Int)<=k:=by omega
   exact qLfab
 ·have h1:je c=(0,2):=by unfold je;rw[if_neg (by omega)]
  have h4:iL c k=0:=by unfold iL;rw[if_neg (fun hh=>h hh.1)]
  rw[h1] at hs;rw[h4];have HS:=If hs;clear hs hz h1 h4;exact qLfab
theorem uJ(p c k:Nat)(w:World)(hp:p<=1048576)(hc:c<=2^56)(hk:k<=1000):
 Cb 147 #[.int .i64 p,.int .i64 c,.int .i64 k] w (.int .i64 (fF p c k:Nat)):=by
 have hs:=Aw c k w hc hk;have h1:=qi c k;have h2:fF p c k=p*64+iL c k:=rfl;rw[h2];clear h2;generalize iL c k=z at*;have HS:=If hs;clear hs;go_enter func147,ntmps147;go_wp2_with fail;refine HS.out.mono ?_;rintro e w1 ⟨⟨er,rfl⟩,hb⟩;have HB:=If hb;clear hb;go_wp2_with fail;go_ret;exact⟨by simp,HB.out⟩
end Go.Proofs.YtcibkdbpicledaaGreatDoor
namespace Go.Proofs
open Go.Shelf
def Tryz.lays213_ren:Go.Shelf.Ren:=⟨fun | 213=>196 | 265=>217 | n=>n,fun | 9=>9 | 3=>3 | n=>n,fun | n=>n⟩
theorem Tryz.lays213:Go.Proofs.Lays.n213 Tryz.prog Tryz.lays213_ren:= {
  mixed:=by kernel_rfl
  f213:=Tryz.func196.trans (congrArg some (by kernel_rfl))
  f265:=Tryz.func217.trans (congrArg some (by kernel_rfl))
  t3:=Tryz.underlying3
  a3:=Tryz.isAgg3
  z3:=Tryz.sizeOf3
  v3:=Tryz.zeroValue3
  t9:=Tryz.underlying9
  a9:=Tryz.isAgg9
  z9:=Tryz.sizeOf9
  v9:=Tryz.zeroValue9 }
open Go.RowKit in
theorem Tryz.bytealg_CompareString(a b:ByteArray)(w:World):
    Calls Tryz.prog 196 #[.string a,.string b] w fun e w'=>e=.returned (.int .i64 (Lib.compareBytes a.data.toList b.data.toList))/\w'=w:=Any.bytealg_CompareString Tryz.lays213 a b w
def Tryz.laysNm729_ren:Go.Shelf.Ren:=⟨fun | 29=>171 | n=>n,fun | 22=>82 | 3=>3 | 4=>4 | 25=>241 | 54=>293 | 0=>0 | 5=>5 | n=>n,fun | 1=>0 | n=>n⟩
theorem Tryz.laysNm729:Go.Proofs.Lays7.n29 Tryz.prog Tryz.laysNm729_ren:= {
  mixed:=by kernel_rfl
  f29:=Tryz.func171.trans (congrArg some (by kernel_rfl))
  t0:=Tryz.underlying0
  a0:=Tryz.isAgg0
  z0:=Tryz.sizeOf0
  v0:=Tryz.zeroValue0
  i0:=by kernel_rfl
  t3:=Tryz.underlying3
  a3:=Tryz.isAgg3
  z3:=Tryz.sizeOf3
  v3:=Tryz.zeroValue3
  i3:=by kernel_rfl
  t4:=Tryz.underlying4
  a4:=Tryz.isAgg4
  z4:=Tryz.sizeOf4
  v4:=Tryz.zeroValue4
  i4:=by kernel_rfl
  t5:=Tryz.underlying5
  a5:=Tryz.isAgg5
  z5:=Tryz.sizeOf5
  v5:=Tryz.zeroValue5
  i5:=by kernel_rfl
  t22:=Tryz.underlying82
  a22:=Tryz.isAgg82
  z22:=Tryz.sizeOf82
  v22:=Tryz.zeroValue82
  i22:=by kernel_rfl
  t25:=Tryz.underlying241
  a25:=Tryz.isAgg241
  z25:=Tryz.sizeOf241
  v25:=Tryz.zeroValue241
  i25:=by kernel_rfl
  t54:=Tryz.underlying293
  a54:=Tryz.isAgg293
  z54:=Tryz.sizeOf293
  g1:=by kernel_rfl }
def Tryz.keysA_ren:Go.Shelf.Ren:=⟨fun | 7=>154 | 10=>175 | n=>n,fun | 23=>169 | 26=>3 | 3=>238 | 28=>250 | 0=>0 | 27=>249 | 33=>247 | 4=>4 | n=>n,fun | n=>n⟩
theorem Tryz.keysA:Go.Proofs.SlLaysZI.n7 Tryz.prog Tryz.keysA_ren:= {
  mixed:=by kernel_rfl
  f7:=⟨Tryz.f154.name,by decide,Tryz.func154.trans (congrArg some (by kernel_rfl))⟩
  f10:=⟨Tryz.f175.name,by decide,Tryz.func175.trans (congrArg some (by kernel_rfl))⟩
  t0:=Tryz.underlying0
  a0:=Tryz.isAgg0
  z0:=Tryz.sizeOf0
  v0:=Tryz.zeroValue0
  t4:=Tryz.underlying4
  a4:=Tryz.isAgg4
  z4:=Tryz.sizeOf4
  v4:=Tryz.zeroValue4
  t23:=Tryz.underlying169
  a23:=Tryz.isAgg169
  z23:=Tryz.sizeOf169
  v23:=Tryz.zeroValue169
  t26:=Tryz.underlying3
  a26:=Tryz.isAgg3
  z26:=Tryz.sizeOf3
  v26:=Tryz.zeroValue3
  t27:=Tryz.underlying249
  a27:=Tryz.isAgg249
  z27:=Tryz.sizeOf249
  v27:=Tryz.zeroValue249
  t28:=Tryz.underlying250
  a28:=Tryz.isAgg250
  z28:=Tryz.sizeOf250
  v28:=Tryz.zeroValue250
  t33:=Tryz.underlying247
  a33:=Tryz.isAgg247
  z33:=Tryz.sizeOf247
  v33:=Tryz.zeroValue247 }
def Tryz.sortedA_ren:Go.Shelf.Ren:=⟨fun | 6=>153 | 8=>173 | 9=>174 | 11=>189 | 13=>191 | 12=>190 | 23=>210 | 24=>211 | 14=>201 | 15=>202 | 16=>203 | 17=>204 | 18=>205 | 19=>206 | 20=>207 | 21=>208 | 22=>209 | 25=>229 | 26=>230 | 27=>231 | 28=>232 | 29=>233 | 30=>234 | 31=>255 | n=>n,fun | 26=>3 | 28=>250 | 24=>221 | 0=>0 | 3=>3 | 37=>241 | 48=>89 | 50=>82 | 4=>4 | 40=>303 | 39=>302 | 45=>307 | 5=>5 | 9=>9 | 51=>328 | 55=>269 | 57=>352 | 58=>104 | 33=>247 | n=>n,fun | n=>n⟩
theorem Tryz.sortedA:Go.Proofs.SlLaysZI.n6 Tryz.prog Tryz.sortedA_ren:= {
  mixed:=by kernel_rfl
  f6:=⟨Tryz.f153.name,by decide,Tryz.func153.trans (congrArg some (by kernel_rfl))⟩
  f8:=⟨Tryz.f173.name,by decide,Tryz.func173.trans (congrArg some (by kernel_rfl))⟩
  f11:=⟨Tryz.f189.name,by decide,Tryz.func189.trans (congrArg some (by kernel_rfl))⟩
  t0:=Tryz.underlying0
  a0:=Tryz.isAgg0
  z0:=Tryz.sizeOf0
  v0:=Tryz.zeroValue0
  t24:=Tryz.underlying221
  a24:=Tryz.isAgg221
  z24:=Tryz.sizeOf221
  v24:=Tryz.zeroValue221
  t26:=Tryz.underlying3
  a26:=Tryz.isAgg3
  z26:=Tryz.sizeOf3
  v26:=Tryz.zeroValue3
  t28:=Tryz.underlying250
  a28:=Tryz.isAgg250
  z28:=Tryz.sizeOf250
  v28:=Tryz.zeroValue250
  i26:=by kernel_rfl }
def Tryz.sortA_ren:Go.Shelf.Ren:=⟨fun | 5=>174 | 8=>191 | 7=>190 | 19=>210 | 20=>211 | 10=>201 | 11=>202 | 12=>203 | 13=>204 | 14=>205 | 15=>206 | 16=>207 | 17=>208 | 18=>209 | 30=>229 | 31=>230 | 32=>231 | 33=>232 | 34=>233 | 35=>234 | 40=>255 | n=>n,fun | 23=>221 | 25=>3 | 3=>3 | 32=>241 | 22=>221 | 0=>0 | 44=>89 | 46=>82 | 4=>4 | 36=>303 | 35=>302 | 41=>307 | 5=>5 | 9=>9 | 53=>328 | 57=>269 | 63=>352 | 64=>104 | n=>n,fun | n=>n⟩
theorem Tryz.sortA:Go.Proofs.SlLaysM.n5 Tryz.prog Tryz.sortA_ren:= {
  mixed:=by kernel_rfl
  f5:=⟨Tryz.f174.name,by decide,Tryz.func174.trans (congrArg some (by kernel_rfl))⟩
  f7:=⟨Tryz.f190.name,by decide,Tryz.func190.trans (congrArg some (by kernel_rfl))⟩
  f8:=Tryz.func191.trans (congrArg some (by kernel_rfl))
  f10:=⟨Tryz.f201.name,by decide,Tryz.func201.trans (congrArg some (by kernel_rfl))⟩
  f11:=⟨Tryz.f202.name,by decide,Tryz.func202.trans (congrArg some (by kernel_rfl))⟩
  f12:=⟨Tryz.f203.name,by decide,Tryz.func203.trans (congrArg some (by kernel_rfl))⟩
  f13:=⟨Tryz.f204.name,by decide,Tryz.func204.trans (congrArg some (by kernel_rfl))⟩
  f14:=⟨Tryz.f205.name,by decide,Tryz.func205.trans (congrArg some (by kernel_rfl))⟩
  f15:=⟨Tryz.f206.name,by decide,Tryz.func206.trans (congrArg some (by kernel_rfl))⟩
  f16:=⟨Tryz.f207.name,by decide,Tryz.func207.trans (congrArg some (by kernel_rfl))⟩
  f17:=⟨Tryz.f208.name,by decide,Tryz.func208.trans (congrArg some (by kernel_rfl))⟩
  f18:=⟨Tryz.f209.name,by decide,Tryz.func209.trans (congrArg some (by kernel_rfl))⟩
  f19:=Tryz.func210.trans (congrArg some (by kernel_rfl))
  f20:=Tryz.func211.trans (congrArg some (by kernel_rfl))
  f30:=⟨Tryz.f229.name,by decide,Tryz.func229.trans (congrArg some (by kernel_rfl))⟩
  f31:=Tryz.func230.trans (congrArg some (by kernel_rfl))
  f32:=Tryz.func231.trans (congrArg some (by kernel_rfl))
  f33:=⟨Tryz.f232.name,by decide,Tryz.func232.trans (congrArg some (by kernel_rfl))⟩
  f34:=⟨Tryz.f233.name,by decide,Tryz.func233.trans (congrArg some (by kernel_rfl))⟩
  f35:=⟨Tryz.f234.name,by decide,Tryz.func234.trans (congrArg some (by kernel_rfl))⟩
  f40:=⟨Tryz.f255.name,by decide,Tryz.func255.trans (congrArg some (by kernel_rfl))⟩
  t0:=Tryz.underlying0
  a0:=Tryz.isAgg0
  z0:=Tryz.sizeOf0
  v0:=Tryz.zeroValue0
  t3:=Tryz.underlying3
  a3:=Tryz.isAgg3
  z3:=Tryz.sizeOf3
  v3:=Tryz.zeroValue3
  t4:=Tryz.underlying4
  a4:=Tryz.isAgg4
  z4:=Tryz.sizeOf4
  v4:=Tryz.zeroValue4
  t5:=Tryz.underlying5
  a5:=Tryz.isAgg5
  z5:=Tryz.sizeOf5
  v5:=Tryz.zeroValue5
  t9:=Tryz.underlying9
  a9:=Tryz.isAgg9
  z9:=Tryz.sizeOf9
  v9:=Tryz.zeroValue9
  t22:=Tryz.underlying221
  a22:=Tryz.isAgg221
  z22:=Tryz.sizeOf221
  v22:=Tryz.zeroValue221
  t23:=Tryz.underlying221
  a23:=Tryz.isAgg221
  z23:=Tryz.sizeOf221
  v23:=Tryz.zeroValue221
  t25:=Tryz.underlying3
  a25:=Tryz.isAgg3
  z25:=Tryz.sizeOf3
  v25:=Tryz.zeroValue3
  t32:=Tryz.underlying241
  a32:=Tryz.isAgg241
  z32:=Tryz.sizeOf241
  v32:=Tryz.zeroValue241
  t35:=Tryz.underlying302
  a35:=Tryz.isAgg302
  z35:=Tryz.sizeOf302
  v35:=Tryz.zeroValue302
  t36:=Tryz.underlying303
  a36:=Tryz.isAgg303
  z36:=Tryz.sizeOf303
  v36:=Tryz.zeroValue303
  t41:=Tryz.underlying307
  a41:=Tryz.isAgg307
  z41:=Tryz.sizeOf307
  v41:=Tryz.zeroValue307
  t44:=Tryz.underlying89
  a44:=Tryz.isAgg89
  z44:=Tryz.sizeOf89
  v44:=Tryz.zeroValue89
  t46:=Tryz.underlying82
  a46:=Tryz.isAgg82
  z46:=Tryz.sizeOf82
  v46:=Tryz.zeroValue82
  t53:=Tryz.underlying328
  a53:=Tryz.isAgg328
  z53:=Tryz.sizeOf328
  v53:=Tryz.zeroValue328
  t57:=Tryz.underlying269
  a57:=Tryz.isAgg269
  z57:=Tryz.sizeOf269
  v57:=Tryz.zeroValue269
  t63:=Tryz.underlying352
  a63:=Tryz.isAgg352
  z63:=Tryz.sizeOf352
  v63:=Tryz.zeroValue352
  t64:=Tryz.underlying104
  a64:=Tryz.isAgg104
  z64:=Tryz.sizeOf104
  v64:=Tryz.zeroValue104 }
end Go.Proofs
namespace Go.Proofs.YtcibkdbpicledaaGreatDoor
open Go.RowKit Tryz Go.BigFrame Lf
theorem me {k:Nat}(h:k<64):2^k<2^64:=Nat.pow_lt_pow_right (n:=64) (by decide) h
theorem th {k:Nat}(h:k<64):IntKind.u64.wrap ((2:Int)^k)=((2^k:Nat):Int):=by
 have h1:=me h;rw[show ((2:Int)^k)=((2^k:Nat):Int) by simp,IntKind.wrap_u64];generalize 2^k=m at*;omega
theorem Bl(w k:Nat)(hw:w<2^64)(hk:k<64):(bits BinOp.and IntKind.u64 ((w:Int) / 2^k) 1==1)=jI w k:=by
 have h1:(w:Int) / 2^k=((w / 2^k:Nat):Int):=by simp
 have h2:w / 2^k<2^64:=da (Nat.div_le_self _ _) hw;rw[h1,show (1:Int)=((1:Nat):Int) from rfl,bits_and_u64_nat _ _ h2 (by decide)];unfold jI;rw[decide_eq_true hk,Bool.true_and,Nat.testBit,Nat.shiftRight_eq_div_pow,Nat.and_one_is_mod,Nat.one_and_eq_mod_two];have:=dB (w / 2^k);generalize w / 2^k % 2=q at*
 rcases this with rfl | rfl<;>rfl
theorem zx(w k:Nat)(W:World)(hw:w<2^64)(hk:k<=1000):
 Ct 149 #[.int .u64 w,.int .i64 k] W fun e w'=>e=.returned (.bool (jI w k))/\W=w':=by
 by_cases h:k<64
 ·have hb:=If (Bl w k hw h);go_enter func149,ntmps149
  go_wp2
  go_ret;rw[<-hb.out];exact⟨rfl,rfl⟩
 ·have hb:jI w k=false:=by unfold jI;rw[decide_eq_false h];rfl
  have hd:¬(k:Int)<64:=by omega
  rw[hb];go_enter func149,ntmps149
  go_wp2
  go_ret;exact⟨rfl,rfl⟩
theorem zz(w k:Nat)(W:World)(hw:w<2^64)(hk:k<64):
 Ct 145 #[.int .u64 w,.int .i64 k] W fun e w'=>e=.returned (.tuple #[.int .u64 (iY w k:Nat),.int .i64 0])/\W=w':=by
 have hb:bits BinOp.or IntKind.u64 (w:Int) (IntKind.u64.wrap (2^k))=((iY w k:Nat):Int):=by
  rw[th hk,bits_or_u64_nat _ _ hw (me hk)]
  rfl
 have HB:=If hb;clear hb;go_enter func145,ntmps145
 go_wp2
 go_ret2;rw[<-HB.out];exact⟨rfl,rfl⟩
theorem zo(w k:Nat)(W:World)(hw:w<2^64)(hk:k<64):
 Ct 150 #[.int .u64 w,.int .i64 k] W fun e w'=>e=.returned (.tuple #[.int .u64 (iy w k:Nat),.int .i64 0])/\W=w':=by
 have hb:bits BinOp.andNot IntKind.u64 (w:Int) (IntKind.u64.wrap (2^k))=((iy w k:Nat):Int):=by
  rw[th hk,u64_andNot_nat _ _ hw (me hk)]
  rfl
 have HB:=If hb;clear hb;go_enter func150,ntmps150
 go_wp2
 go_ret2;rw[<-HB.out];exact⟨rfl,rfl⟩
theorem zu(n:Nat)(W:World)(hk:n<64):
 Ct 130 #[.int .i64 n] W fun e w'=>e=.returned (.int .u64 (2^n-1:Nat))/\W=w':=by
 have hb:IntKind.u64.wrap (IntKind.u64.wrap (2^n)-1)=((2^n-1:Nat):Int):=by
  have h1:=me hk;have h2:0<2^n:=Nat.two_pow_pos n;rw[th hk,IntKind.wrap_u64];generalize 2^n=m at*;omega
 have HB:=If hb;clear hb;go_enter func130,ntmps130
 go_wp2
 go_ret;rw[<-HB.out];exact⟨rfl,rfl⟩
theorem zp(n:Nat)(W:World)(hk:n<64):
 Ct 170 #[.int .i64 n] W fun e w'=>e=.returned (.func (.func 188) #[] #[PV W.heap.size])/\w'=W.alloc (.cells #[.int .u64 (2^n-1:Nat)] 82):=by
 have hf:=zu n W hk;generalize 2^n-1=m at*;have HF:=If hf;clear hf;go_enter func170,ntmps170;go_wp2_with fail;refine HF.out.mono ?_;rintro e w1 ⟨rfl,rfl⟩;go_wp2_with fail;go_ret;exact⟨rfl,rfl⟩
theorem zq(w m B:Nat)(W:World)(hw:w<2^64)(hm:m<2^64)(hB:W.cell? ⟨B,0,none⟩=some (.int .u64 m)):
 Ct 188 #[.int .u64 w,PV B] W fun e w'=>e=.returned (.int .u64 (w &&& m:Nat))/\W=w':=by
 have hb:=bits_and_u64_nat w m hw hm;have HB:=If hb;clear hb;go_enter func188,ntmps188;go_wp2_with fail;go_ret;rw[<-HB.out];exact⟨rfl,rfl⟩
def gA(w:World):Prop:=TabAt 0 Go.Lib.deBruijn64tab w
theorem gA.lt {w:World}(h:gA w):0<w.heap.size:=by
 have:=h 0 (by decide);unfold World.cell? at this;simp only at this
 by_cases hl:0<w.heap.size
 ·exact hl
 ·rw[cY (by omega)] at this
  cases this
theorem gA.of_block {w w':World}(h:gA w)(hb:w'.heap[(0:Nat)]?=w.heap[(0:Nat)]?):gA w':=fun j hj=>by
 rw[<-h j hj];exact World.cell?_of_block hb
theorem gA.below {w w':World}(h:gA w){n:Nat}(hb:Below n w w')(hn:w.heap.size<=n):gA w':=h.of_block (hb.block _ (bD h.lt hn))
def jM(w n:Nat):Int:=match fW w n with | some k=>k | none=> -1
theorem vo {w n j:Nat}(hw:w<2^64)(hn:n<64):((18446744073709551615-w) &&& (2^n-1)).testBit j=(decide (j<n) && !w.testBit j):=by
 rw[Nat.testBit_and,Nat.testBit_two_pow_sub_one,show 18446744073709551615-w=2^64-(w+1) by omega,du (by omega)]
 by_cases h:j<n
 ·simp[h,show j<64 by omega]
 ·simp[h]
theorem A0 {w n:Nat}(hw:w<2^64)(hn:n<64)(h:(18446744073709551615-w) &&& (2^n-1)=0):jM w n= -1:=by
 have:fW w n=none:=by
  unfold fW;rw[bF];intro j hj;have hb:=vo (w:=w) (n:=n) (j:=j) hw hn;rw[h,Nat.zero_testBit] at hb;have ad:j<n:=by simpa using hj
  simpa[ad] using hb
 unfold jM;rw[this]
theorem G1 {w n:Nat}(hw:w<2^64)(hn:n<64)(h:(18446744073709551615-w) &&& (2^n-1)≠0):jM w n=(Go.Lib.ctz 64 ((18446744073709551615-w) &&& (2^n-1)):Nat):=by
 obtain⟨x,hx⟩:=Ii ((18446744073709551615-w) &&& (2^n-1));have hb:=fun j=>vo (w:=w) (n:=n) (j:=j) hw hn;rw[hx] at h hb⊢;have al:x<2^64:=by rw[<-hx];exact Nat.and_lt_two_pow _ (da (Nat.sub_le _ _) (Nat.pow_lt_pow_right (by decide) hn))
 obtain⟨m,hm,hc⟩:=Go.Lib.ctzFrom_spec 64 x (Nat.pos_of_ne_zero h) al;have ad:Go.Lib.ctz 64 x=Go.Lib.ctzFrom 64 x:=by unfold Go.Lib.ctz;rw[if_neg h]
 rw[ad];generalize Go.Lib.ctzFrom 64 x=c at*;have b1:x.testBit c=true:=by
  rw[hm,Nat.testBit_two_pow_mul]
  simp
 have b2:∀j,j<c->x.testBit j=false:=fun j hj=>by
  rw[hm,Nat.testBit_two_pow_mul];have:¬c<=j:=by omega
  simp[this]
 rw[hb c] at b1
 simp at b1
 have:fW w n=some c:=by
  unfold fW;rw[di];refine⟨by simp[b1.2],by simpa using b1.1,fun j hj=>?_⟩;have:=b2 j hj;rw[hb j] at this;have ai:j<n:=by omega
  simpa[ai] using this
 unfold jM;rw[this]
theorem zr(w n:Nat)(W:World)(hw:w<2^64)(hk:n<64)(hT:gA W):
 Cb 143 #[.int .u64 w,.int .i64 n] W (.int .i64 (jM w n)):=by
 have hf:=zp n W hk;have hm:2^n-1<2^64:=by have:=me hk;omega
 have h0:=fun h=>A0 (w:=w) (n:=n) hw hk h;have h1:=fun h=>G1 (w:=w) (n:=n) hw hk h;have ad:Below W.heap.size W (W.alloc (.cells #[.int .u64 (2^n-1:Nat)] 82)):=(aa _ W).alloc Ih _;have hc:=zq (18446744073709551615-w) (2^n-1) W.heap.size (W.alloc (.cells #[.int .u64 (2^n-1:Nat)] 82)) (by omega) hm (by simp);have ai:(18446744073709551615-w) &&& (2^n-1)<2^64:=da Nat.and_le_left (by omega);have hz:=Any7.bits_TrailingZeros64 laysNm729 ((18446744073709551615-w) &&& (2^n-1)) ai (W.alloc (.cells #[.int .u64 (2^n-1:Nat)] 82)) (fun _=>hT.below ad Ih);change Calls _ 171 _ _ _ at hz;have hx:bits BinOp.xor IntKind.u64 IntKind.u64.max (w:Int)=((18446744073709551615-w:Nat):Int):=by
  rw[show IntKind.u64.max=((18446744073709551615:Nat):Int) from rfl,bits_xor_u64_nat _ _ (by decide) hw]
  congr 1
  refine Nat.eq_of_testBit_eq fun i=>?_;rw[Nat.testBit_xor,show 18446744073709551615-w=2^64-(w+1) by omega,du (by omega),show 18446744073709551615=2^64-1 from rfl,Nat.testBit_two_pow_sub_one]
  by_cases hi:i<64
  ·simp[hi]
  ·have:w.testBit i=false:=Nat.testBit_lt_two_pow (bD hw (cT (n:=2) (by decide) (show 64<=i by omega)))
   simp[hi,this]
 generalize (18446744073709551615-w) &&& (2^n-1)=x at*;generalize jM w n=fr at*;generalize hv:18446744073709551615-w=v at*;generalize 2^n-1=m at*;have HF:=kq4 hf hc hz ad;clear hf hc hz ad hv
 by_cases hx0:x=0
 ·subst hx0;obtain rfl:=h0 rfl;clear h0 h1;go_enter func143,ntmps143;go_wp2_with fail;refine HF.a.mono ?_;rintro e w1 ⟨rfl,rfl⟩;go_wp2_with fail;refine HF.b.mono ?_;rintro e w1 ⟨rfl,rfl⟩;go_wp2_with fail;go_ret;exact⟨rfl,HF.d⟩
 ·obtain rfl:=h1 hx0;have al:((x:Int)==0)=false:=by simp;omega
  have an:¬(x:Int)=0:=by omega
  clear h0 h1 hx0;go_enter func143,ntmps143;go_wp2_with fail;refine HF.a.mono ?_;rintro e w1 ⟨rfl,rfl⟩;go_wp2_with fail;refine HF.b.mono ?_;rintro e w1 ⟨rfl,rfl⟩;go_wp2_with fail;refine HF.c.mono ?_;rintro e w1 ⟨rfl,rfl⟩;go_wp2_with fail;go_ret;exact⟨rfl,HF.d⟩
end Go.Proofs.YtcibkdbpicledaaGreatDoor
namespace Go.Proofs.YtcibkdbpicledaaGreatDoor
open Go.RowKit Tryz Go.BigFrame Go.Maps Go.WideMaps Lf
variable{Y:Nat->Prop}{a:Nat}{blk:Nat->Nat}{p:Nat}{w:World}
theorem jP{s:Slab}:p∈s.keys↔∃l,(p,l)∈s.pages:=by
 unfold Slab.keys;simp
theorem oK{s:Slab}(h:p∉s.keys):s.page? p=none:=by
 unfold Slab.page?;rw[List.lookup_eq_none_iff];intro x hx;have:x.1≠p:=fun e=>h (by unfold Slab.keys;exact aC.2 ⟨x,hx,e⟩);simpa using fun e=>this e.symm
theorem kK{s:Slab}(h:p∈s.keys):∃l,s.page? p=some l/\(p,l)∈s.pages:=by
 unfold Slab.keys at h;unfold Slab.page?;generalize s.pages=l at*
 induction l with
 | nil=>simp at h
 | cons x r ih=>
  by_cases e:p=x.1
  ·subst e;exact⟨x.2,by simp[List.lookup],by simp⟩
  ·have h':p∈r.map (·.1):=by
    simp only[aM,ag] at h;exact h.resolve_left e
   obtain⟨l,h1,h2⟩:=ih h';exact⟨l,by rw[dp,show (p==x.1)=false by simpa using e];exact h1,ah _ h2⟩
theorem uq{s:Slab}(h:gK<a):s.err a=2:=by unfold Slab.err;rw[if_pos h]
theorem un{s:Slab}(h:a<=gK)(hp:a / 64∉s.keys):s.err a=5:=by unfold Slab.err;rw[if_neg (by omega),oK hp]
theorem Gt{s:Slab}(h:a<=gK)(hp:a / 64∈s.keys):s.err a=0:=by
 obtain⟨l,h1,_⟩:=kK hp;unfold Slab.err;rw[if_neg (by omega),h1]
theorem oR{s:Slab}(hp:a / 64∉s.keys):s.rd a=0:=by unfold Slab.rd;rw[oK hp]
theorem rY{s:Slab}{l:fQ}(h:s.page? (a / 64)=some l):s.rd a=l.getD (a % 64) 0:=by unfold Slab.rd;rw[h]
theorem eh.word{pa pm:Nat}{s:Slab}(h:eh w pa pm s Y blk)(hp:a / 64∈s.keys):
 w.cell? ⟨blk (a / 64),a % 64,none⟩=some (.int .u64 (s.rd a:Nat))/\w.frozen? ⟨blk (a / 64),a % 64,none⟩=false:=by
 obtain⟨l,h1,h2⟩:=kK hp;have hb:=h.pg _ h2;have hl:=h.wf.len _ h2;refine⟨?_,AT hb⟩;rw[Fs hb,rY h1];simp only at hl;have ad:a % 64<l.length:=by omega
 simp[List.getElem?_eq_getElem ad]
theorem eh.rd_lt{pa pm:Nat}{s:Slab}(h:eh w pa pm s Y blk)(a:Nat):s.rd a<2^64:=by
 by_cases hp:a / 64∈s.keys
 ·obtain⟨l,h1,h2⟩:=kK hp;rw[rY h1];have hl:=h.wf.len _ h2;simp only at hl;have ad:a % 64<l.length:=by omega
  rw[aj,af ad];exact h.wf.word _ h2 _ (aG ad)
 ·rw[oR hp];decide
theorem ly{pa pm:Nat}{s:Slab}(h:eh w pa pm s Y blk):
 Ct 142 #[PV pa] w fun e w'=>e=.returned (.bool false)/\w=w':=by
 have c1:=h.cells.2;have hm:=run_eql_map_nil (P:=prog) w 169 3 238 (some pm) underlying169;clear h;go_enter func142,ntmps142
 go_wp2
 go_ret;exact⟨rfl,rfl⟩
theorem qLfaa{P:Prop}(h:P:=by
 go_enter func122,ntmps122;go_wp2_with fail;refine hn.out.mono ?_;rintro e w' ⟨rfl,rfl⟩;go_wp2_with fail;go_ret2;exact⟨rfl,rfl⟩):P:=h
theorem wP{pa pm:Nat}{s:Slab}(h:eh w pa pm s Y blk)(a:Nat)(ha:a<=2^62)(hp:a / 64∉s.keys\/gK<a):
 Ct 122 #[PV pa,.int .i64 a] w fun e w'=>e=.returned (.tuple #[.pointer none,.int .i64 (s.err a:Nat)])/\w=w':=by
 have c1:=h.cells.2;have hn:=If (ly h);have hl:=h.look (a / 64) (by omega);rw[show ((a / 64:Nat):Int)=(a:Int) / 64 from by simp] at hl
 by_cases ht:gK<a
 ·have he:=uq (s:=s) ht;generalize s.err a=er at*;subst he;unfold gK at ht;clear hl hp h;exact qLfaa
 ·have ad:a / 64∉s.keys:=hp.resolve_right ht;have he:=un (s:=s) (by omega) ad;generalize s.err a=er at*;subst he;unfold gK at ht;have hv:iE s.keys blk (a / 64)=.pointer none:=by unfold iE;rw[if_neg ad]
  rw[hv] at hl;clear hv hp ad h;exact qLfaa
theorem Ei{pa pm:Nat}{s:Slab}(h:eh w pa pm s Y blk)(a:Nat)(ha:a<=gK)(hp:a / 64∈s.keys):
 Ct 122 #[PV pa,.int .i64 a] w fun e w'=>e=.returned (.tuple #[.pointer (some ⟨blk (a / 64),a % 64,none⟩),.int .i64 0])/\w=w':=by
 unfold gK at ha;have c1:=h.cells.2;have hn:=If (ly h);have hl:=h.look (a / 64) (by omega);rw[show ((a / 64:Nat):Int)=(a:Int) / 64 from by simp] at hl;have hv:iE s.keys blk (a / 64)=PV (blk (a / 64)):=by unfold iE;rw[if_pos hp]
 rw[hv] at hl;have ad:((a:Int) % 64).toNat=a % 64:=by omega
 have ai:(a:Int) % 64<64:=by omega
 have al:0<=(a:Int) % 64:=by omega
 clear hv hp h;generalize blk (a / 64)=b at*;exact qLfaa
end Go.Proofs.YtcibkdbpicledaaGreatDoor
namespace Go.Proofs.YtcibkdbpicledaaGreatDoor.Lf
def many(n:Nat):Nat:=if 1000<n then 0 else 1+(n+7) / 8
def nV(l:List UInt8):Nat:=(List.range 8).foldl (fun n j=>n*256+(l.getD j 0).toNat) 0
def qg(l:List UInt8)(m:Nat):List Nat:=(List.range m).map fun i=>nV (l.drop (8*i))
def FK(l:List UInt8):List Nat:=l.length::qg l ((l.length+7) / 8)
def mE(ws:List Nat)(n:Nat):List UInt8:=(List.range n).map fun i=>UInt8.ofNat (ws.getD (1+i / 8) 0 / 256^(7-i % 8))
def mm(ws:List Nat):Option (List UInt8):=
 match ws with
 | []=>none
 | n::_=>if 1000<n\/many n≠ws.length then none else if FK (mE ws n)=ws then some (mE ws n) else none
def Fu:List UInt8->List UInt8->Int
 | [],[]=>0
 | [],_::_=> -1
 | _::_,[]=>1
 | a::l,b::m=>if a<b then-1 else if b<a then 1 else Fu l m
def FC(s:St)(h:Nat):Nat->List Nat->St
 | _,[]=>s
 | k,w::r=>FC (s.put h k w).2 h (k+1) r
def fx(s:St)(t:List UInt8):(Nat×Nat)×St:=
 if 1000<t.length then((0,4),s)
 else match s.make (many t.length) with
  | ((h,0),s1)=>((h,0),FC s1 h 0 (FK t))
  | ((_,e),s1)=>((0,e),s1)
def kM(s:St)(h:Nat):List Nat:=(List.range (s.len h).1).map fun k=>(s.get h k).1
def fz(s:St)(h:Nat):List UInt8×Nat:=
 match s.len h with
 | (_,0)=>match mm (kM s h) with
  | some t=>(t,0)
  | none=>([],8)
 | (_,e)=>([],e)
structure Nd where
 key:Nat
 val:Nat
 left:Nat
 right:Nat
 mark:Nat
 size:Nat
deriving DecidableEq
def Nd.zero:Nd:=⟨0,0,0,0,0,0⟩
def fZ(s:St)(h:Nat):Nat:=
 match s.len h with
 | (n,0)=>if n≠6 then 8 else 0
 | (_,e)=>e
def getNode(s:St)(h:Nat):Nd×Nat:=
 match fZ s h with
 | 0=>(⟨(s.get h 0).1,(s.get h 1).1,(s.get h 2).1,(s.get h 3).1,(s.get h 4).1,(s.get h 5).1⟩,0)
 | e=>(Nd.zero,e)
def gM(s:St)(h:Nat)(n:Nd):Nat×St:=
 match fZ s h with
 | 0=>(0,FC s h 0 [n.key,n.val,n.left,n.right,n.mark,n.size])
 | e=>(e,s)
def ft(s:St)(n:Nd):(Nat×Nat)×St:=
 match s.make 6 with
 | ((h,0),s1)=>((h,(gM s1 h n).1),(gM s1 h n).2)
 | ((_,e),s1)=>((0,e),s1)
def jr(s:St)(h:Nat):Nat×St:=
 match fZ s h with
 | 0=>s.drop h
 | e=>(e,s)
def limit(s:St):Nat:=s.words / 8+1
def sj(s:St)(h:Nat):Nat:=(getNode s h).1.size
def mU(s:St)(h:Nat):Nat:=(getNode s h).1.mark
end Go.Proofs.YtcibkdbpicledaaGreatDoor.Lf
