/- What the arena, the heap, the handles and the store compute: plain Lean, no program in sight. -/
import Derived.Test.YtpljannolpapgaaGreatDoorRCg
import Derived.WalkKit
import Derived.BigFrame
import Derived.Maps.Own
import Derived.Maps.OwnOps
import Derived.Maps.Views
import Derived.Deep.QuietTactic
import Derived.BigQuiet
import Derived.Outline
import Derived.Deep.DeepFit
import Derived.WalkSpells
import Derived.Below
import Derived.RangeFuncNested
import Derived.RangeFuncBound
import Derived.RangeFuncCalls
import Derived.RangeFuncLeaves
import Derived.RangeFuncMany
import Derived.RangeFuncFrom
import Derived.Shelf.Abstract
import Derived.Shelf.RegionOpen
import Derived.OwnWalkIn
import Derived.TacticsInMore
import Derived.LoopNIn
import Derived.LoopIn
import Derived.Shelf.Small.Bits
import Derived.Shelf.Small.Strs
import Derived.Shelf.Strconv.Itoa0
import Derived.Ground.Names2Prog
import Derived.Shelf.Spec.TrailingZeros
import Derived.Ground.Names7Prog
import Derived.Shelf.SlIterI.Nil
import Derived.Shelf.SortM.Plain
import Derived.Shelf.SortM.SortNone
import Derived.Ground.GgzProg
import Derived.Ground.SlgmProg
import Derived.Laws.Bits64
import Derived.Laws.Bits64b
import Derived.Laws.BitsAllLaws
import Derived.Maps.OwnSet
import Derived.Deep.LoopGhost
import Derived.StillTail
set_option maxRecDepth 100000
set_option maxHeartbeats 1600000
namespace Go.Proofs.YtpljannolpapgaaGreatDoor.Lf
abbrev fQ:=List Nat
structure r_ where
 E1:Nat
 B_:List (Nat×fQ)
def r_.page?(s:r_)(p:Nat):Option fQ:=s.B_.lookup p
def r_.j_(s:r_):List Nat:=s.B_.map (·.1)
def gK:Nat:=67108863
def r_.rd(s:r_)(a:Nat):Nat:=match s.page? (a / 64) with | some l=>l.getD (a % 64) 0 | none=>0
def r_.err(s:r_)(a:Nat):Nat:=if gK<a then 2 else match s.page? (a / 64) with | some _=>0 | none=>5
def r_.wr(s:r_)(a w:Nat):r_:= { s with B_:=s.B_.map fun x=>if x.1=a / 64 then(x.1,x.2.set (a % 64) w) else x }
def ins(p:Nat)(l:fQ):List (Nat×fQ)->List (Nat×fQ)
 | []=>[(p,l)]
 | x::r=>if x.1<p then x::ins p l r else(p,l)::x::r
def jB:fQ:=List.replicate 64 0
def r_.add(s:r_)(p:Nat):r_:= { s with B_:=ins p jB s.B_ }
def r_.G0(s:r_)(p:Nat):Nat->r_
 | 0=>s
 | n+1=>(s.G0 p n).add (p+n)
def r_.del(s:r_)(p:Nat):r_:= { s with B_:=s.B_.filter fun x=>x.1≠p }
def r_.delRun(s:r_)(p:Nat):Nat->r_
 | 0=>s
 | n+1=>(s.delRun p n).del (p+n)
def r_.run(s:r_)(n p:Nat):Bool:=(List.range n).all fun k=>(s.page? (p+k)).isNone
def r_.runIs(s:r_)(n p:Nat):Bool:=(List.range n).all fun k=>(s.page? (p+k)).isSome
def r_.firstRun(s:r_)(n:Nat):Nat->Nat->Nat
 | 0,p=>p
 | f+1,p=>if s.run n p then p else s.firstRun n f (p+1)
def r_.grant(s:r_)(n:Nat):(Nat×Nat)×r_:=
 if n<1\/4096<n then((0,2),s)
 else if s.E1<(s.B_.length+n)*64 then((0,3),s)
 else
  let p:=s.firstRun n (s.B_.length*n+1) 0
  ((p,0),s.G0 p n)
def r_.release(s:r_)(p n:Nat):Nat×r_:=
 if n<1\/4096<n\/1048575+1<p+n then(2,s)
 else if s.runIs n p then(0,s.delRun p n) else(5,s)
def r_.zero(s:r_)(a:Nat):Nat->r_
 | 0=>s
 | n+1=>(s.zero a n).wr (a+n) 0
def jI(w k:Nat):Bool:=decide (k<64) && w.testBit k
def iY(w k:Nat):Nat:=w ||| 2^k
def iy(w k:Nat):Nat:=w &&& (18446744073709551615-2^k)
def fW(w n:Nat):Option Nat:=(List.range n).find? fun k=> !w.testBit k
def iP:List Nat:=[2,3,4,6,9,13,19,28]
def et(c:Nat):Nat:=iP.getD c 0
def eJ(c:Nat):Nat:=if c<8 then 62 / iP.getD c 1 else 0
def gd(words:Nat):Option Nat:=(List.range 8).find? fun c=>words<=iP.getD c 0
def iL(c k:Nat):Nat:=if c<8/\k<eJ c then 2+k*et c else 0
def fa(words:Nat):Nat:=if words<1\/4000<words then 0 else match gd words with | some _=>1 | none=>(words+65) / 64
structure Hr where
 l_:Nat
 n:Nat
 w:Nat
deriving DecidableEq
def FA(s:r_)(p:Nat):Hr:=⟨s.rd (p*64) % 256,s.rd (p*64) / 256,s.rd (p*64+1)⟩
def Ie(s:r_)(p:Nat)(x:Hr):r_:=(s.wr (p*64) (x.l_+x.n*256)).wr (p*64+1) x.w
def gC(s:r_):Nat->List Nat->List (Nat×Hr)
 | _,[]=>[]
 | next,p::r=>
  if p<next then gC s next r
  else(p,FA s p)::gC s (if(FA s p).l_=2 then p+(FA s p).n else next) r
def heads(s:r_):List (Nat×Hr):=gC s 0 s.j_
def fF(p c k:Nat):Nat:=p*64+iL c k
def JL(t_ p:Nat)(x:Hr):Option Nat:=(List.range (eJ x.n)).find? fun k=>decide (fF p x.n k=t_) && jI x.w k
def fS(t_:Nat):List (Nat×Hr)->Option (Nat×Nat×Hr)
 | []=>none
 | (p,x)::r=>
  if x.l_=2/\t_=p*64+2 then some (p,0,x)
  else if x.l_≠1\/t_ / 64≠p then fS t_ r
  else match JL t_ p x with
   | some k=>some (p,k,x)
   | none=>fS t_ r
def kb(s:r_)(t_:Nat):Option (Nat×Nat×Hr):=fS t_ (heads s)
def fd(c:Nat):List (Nat×Hr)->Option (Nat×Nat)
 | []=>none
 | (p,x)::r=>
  if x.l_≠1\/x.n≠c then fd c r
  else match fW x.w (eJ c) with
   | some k=>some (p,k)
   | none=>fd c r
def kt(s:r_)(c:Nat):Option (Nat×Nat):=fd c (heads s)
def nY(s:r_)(a n:Nat):r_:=s.zero a n
def fP(s:r_)(p k:Nat):Nat×r_:=
 let x:=FA s p
 let s1:=Ie s p { x with w:=iY x.w k }
 (fF p x.n k,nY s1 (fF p x.n k) (et x.n))
def fR(s:r_)(words:Nat):(Nat×Nat)×r_:=
 if words<1\/4000<words then((0,2),s)
 else match gd words with
  | none=>
   match s.grant (fa words) with
   | ((p,0),s1)=>((p*64+2,0),Ie s1 p ⟨2,fa words,words⟩)
   | ((_,e),s1)=>((0,e),s1)
  | some c=>
   match kt s c with
   | some (p,k)=>(((fP s p k).1,0),(fP s p k).2)
   | none=>
    match s.grant 1 with
    | ((p,0),s1)=>(((fP (Ie s1 p ⟨1,c,0⟩) p 0).1,0),(fP (Ie s1 p ⟨1,c,0⟩) p 0).2)
    | ((_,e),s1)=>((0,e),s1)
def li(s:r_)(p k:Nat):r_:=
 let x:=FA s p
 let y:Hr:= { x with w:=iy x.w k }
 let s1:=Ie s p y
 if y=⟨1,x.n,0⟩ then(s1.release p 1).2 else s1
def iM(s:r_)(t_:Nat):Nat×r_:=
 match kb s t_ with
 | none=>(5,s)
 | some (p,k,x)=>if x.l_=2 then s.release p x.n else(0,li s p k)
def GB:List (Nat×Hr)->List Nat
 | []=>[]
 | (p,x)::r=>(if x.l_=2 then[p*64+2] else((List.range (eJ x.n)).filter fun k=>jI x.w k).map (fF p x.n))++GB r
def G6(s:r_):List Nat:=GB (heads s)
structure mj where
 is:Nat
 gen:Nat
 t_:Nat
structure Hs where
 most:Nat
 last:Nat
 p_:List mj
def gj(gen k:Nat):Nat:=gen*4294967296+(k+1)
def gH:List mj->Nat->Nat
 | [],k=>k
 | x::r,k=>if x.is=0 then k else gH r (k+1)
def Hs.genAt(t:Hs)(k:Nat):Nat:=(t.p_.getD k ⟨0,0,0⟩).gen
def Hs.open(t:Hs)(t_:Nat):(Nat×Nat)×Hs:=
 let k:=gH t.p_ 0
 if k=t.most then((0,10),t)
 else
  let l:=if k=t.p_.length then t.p_++[⟨0,0,0⟩] else t.p_
  let g:=(t.genAt k+1) % 4294967296
  ((gj g k,0),{ t with p_:=l.set k ⟨1,g,t_⟩ })
def Hs.of(t:Hs)(h:Nat):Option Nat:=
 let k:=h % 4294967296
 if k=0 then none
 else match t.p_[k-1]? with
  | none=>none
  | some x=>if x.is=1/\x.gen=h / 4294967296 then some (k-1) else none
def Hs.at(t:Hs)(h:Nat):Nat×Nat:=
 match t.of h with
 | none=>(0,7)
 | some k=>((t.p_.getD k ⟨0,0,0⟩).t_,0)
def Hs.close(t:Hs)(h:Nat):Nat×Hs:=
 match t.of h with
 | none=>(7,t)
 | some k=>
  let x:=t.p_.getD k ⟨0,0,0⟩
  (0,{ t with p_:=t.p_.set k { x with is:=if x.gen=t.last then 2 else 0 } })
structure St where
 a:r_
 t:Hs
def St.make(s:St)(n:Nat):(Nat×Nat)×St:=
 if 3998<n then((0,2),s)
 else match fR s.a (n+2) with
  | ((t_,0),a1)=>
   match s.t.open t_ with
   | ((h,0),t1)=>((h,0),⟨(a1.wr t_ h).wr (t_+1) n,t1⟩)
   | ((_,e),t1)=>((0,e),⟨(iM a1 t_).2,t1⟩)
  | ((_,e),a1)=>((0,e),{ s with a:=a1 })
def St.at(s:St)(h:Nat):Nat×Nat×Nat:=
 match s.t.at h with
 | (t_,0)=>(t_,s.a.rd (t_+1),0)
 | (_,e)=>(0,0,e)
def St.len(s:St)(h:Nat):Nat×Nat:=((s.at h).2.1,(s.at h).2.2)
def St.drop(s:St)(h:Nat):Nat×St:=
 match s.at h with
 | (t_,_,0)=>((s.t.close h).1,⟨(iM s.a t_).2,(s.t.close h).2⟩)
 | (_,_,e)=>(e,s)
def St.get(s:St)(h k:Nat):Nat×Nat:=
 match s.at h with
 | (t_,n,0)=>if k<n then(s.a.rd (t_+2+k),s.a.err (t_+2+k)) else(0,2)
 | (_,_,e)=>(0,e)
def St.put(s:St)(h k w:Nat):Nat×St:=
 match s.at h with
 | (t_,n,0)=>if k<n then(s.a.err (t_+2+k),{ s with a:=s.a.wr (t_+2+k) w }) else(2,s)
 | (_,_,e)=>(e,s)
def St.all(s:St):List Nat:=(G6 s.a).map fun a=>s.a.rd a
def St.words(s:St):Nat:=s.a.B_.length*64
end Go.Proofs.YtpljannolpapgaaGreatDoor.Lf
namespace Go.Proofs.YtpljannolpapgaaGreatDoor
open Go.RowKit Tryz Go.BigFrame Go.Maps Go.WideMaps Lf
variable{Y:Nat->Prop}{blk:Nat->Nat}{cs:Array Value}{t:TypeId}{w:World}
abbrev PV(b:Nat):Value:=.pointer (some (y_ b))
structure Fo (Y:Nat->Prop) (w w':World):Prop where
 os:w'.os=w.os
 tape:w'.tape=w.tape
 output:w'.output=w.output
 size:w.1.size<=w'.1.size
 block:∀k,Y k->w'.1[k]?=w.1[k]?
theorem Fo.refl(Y:Nat->Prop)(w:World):Fo Y w w:=⟨rfl,rfl,rfl,Nat.le_refl _,fun _ _=>rfl⟩
theorem Fo.T{a b c:World}(h:Fo Y a b)(k:Fo Y b c):Fo Y a c:=
 ⟨k.os.T h.os,k.tape.T h.tape,k.output.T h.output,aH h.size k.size,fun i hi=>(k.block i hi).T (h.block i hi)⟩
theorem Fo.M{Y Z:Nat->Prop}{a b:World}(h:Fo Y a b)(hz:∀k,Z k->Y k):Fo Z a b:=⟨h.os,h.tape,h.output,h.size,fun k hk=>h.block k (hz k hk)⟩
theorem Fo.a_{B:Nat}{a b:World}(h:Fo (·<B) a b):Below B a b:=⟨h.os,h.tape,h.output,h.size,h.block⟩
theorem Fo.v_{a b:World}(h:D_ a b)(hy:∀k,Y k->k<a.1.size):Fo Y a b:=⟨h.os,h.tape,h.output,h.size,fun k hk=>h.block k (hy k hk)⟩
theorem Fo.cell{a b:World}(h:Fo Y a b){p:Addr}(hp:Y p.block):b.cell? p=a.cell? p:=World.cell?_of_block (w:=a) (h.block p.block hp)
theorem Fo.drewN(Y:Nat->Prop)(w:World)(n:Nat):Fo Y w (w.drewN n):=⟨rfl,rfl,rfl,Nat.le_refl _,fun _ _=>rfl⟩
def l9(v:Value):Option (DataW Unit×List MemPlace):=
 match v with
 | .pointer none=>some (.lit (.bool false),[])
 | .pointer (some ⟨b,0,none⟩)=>some (.lit (.int .i64 b),[])
 | _=>none
def fM(ks:List Nat)(blk:Nat->Nat):DataW Unit:=.map (ks.map fun p:Nat=>(Lit.int .i64 (p:Int),.lit (.int .i64 (blk p))))
def iE(ks:List Nat)(blk:Nat->Nat)(p:Nat):Value:=if p∈ks then PV (blk p) else .pointer none
theorem Io{v:Value}{d:DataW Unit}{ps:List MemPlace}(h:l9 v=some (d,ps)):(v=.pointer none/\d=.lit (.bool false))\/∃b:Nat,v=PV b/\d=.lit (.int .i64 b):=by
 unfold l9 at h;grind
theorem Du(b:Nat):l9 (PV b)=some (.lit (.int .i64 b),[]):=rfl
theorem yI(ks:List Nat)(blk:Nat->Nat)(p:Nat)(z:DataW Unit):(fM ks blk).atKey (.int .i64 p) z=if p∈ks then .lit (.int .i64 (blk p)) else z:=by
 induction ks with
 | nil=>simp[fM,DataW.atKey]
 | cons q r ih=>
  unfold fM DataW.atKey at ih⊢;simp only[bi,List.find?_cons,Lit.sameKey,true_and]
  by_cases e:q=p
  ·grind
  ·have e':¬((q:Int)=(p:Int)):=o_
   simp only[e',decide_false,ah];have e2:¬p=q:=fun h=>e h.S;simp only[e2,false_or];exact ih
structure eQ (s:r_):Prop where
 F1:s.j_.Pairwise (·<·)
 len:∀x∈s.B_,x.2.length=64
 word:∀x∈s.B_,∀v∈x.2,v<2^64
 top:∀p∈s.j_,p<=1048575
 room:s.B_.length*64<=s.E1
 E1:s.E1<=262144
structure eh (w:World) (pa pm:Nat) (s:r_) (Y:Nat->Prop) (blk:Nat->Nat):Prop where
 wf:eQ s
 hd:w.1[pa]?=some (.cells #[Xi s.E1,.map (some pm)] 155 (0,0))
 map:w.ownsMap prog 3 l9 pm s.B_.length (fM s.j_ blk)
 pg:∀x∈s.B_,w.1[blk x.1]?=some (.cells (x.2.map fun v:Nat=>Value.int .u64 v).toArray 237 (0,0))
 inj:∀p∈s.j_,∀q∈s.j_,blk p=blk q->p=q
 ya:¬Y pa
 ym:¬Y pm
 yp:∀p∈s.j_,¬Y (blk p)
 yl:∀k,Y k->k<w.1.size
theorem q_{b o:Nat}{fr:Nat×Nat}(h:w.1[b]?=some (.cells cs t fr)):w.cell? (x_ b o)=cs[o]?:=by
 simp[World.cell?,h]
theorem e_{w:World}{b o:Nat}{cs:Array Value}{t:TypeId}{fr:Nat×Nat}{v:Value}(h:w.1[b]?=some (.cells cs t fr))(q:cs[o]?=some v:=by rfl):w.cell? (x_ b o)=some v:=by rw[q_ h];exact q
theorem AT{b o:Nat}(h:w.1[b]?=some (.cells cs t (0,0))):w.frozen? (x_ b o)=false:=by
 simp[World.frozen?,h]
theorem AG(w:World)(n:Nat):(w.drewN n).heap=w.heap:=rfl
theorem eh.cells{pa pm:Nat}{s:r_}(h:eh w pa pm s Y blk):
 w.cell? (y_ pa)=some (Xi s.E1)/\w.cell? (x_ pa 1)=some (.map (some pm)):=by
 rw[q_ h.hd,q_ h.hd];grind
theorem rn:Keyed prog 3:=int_keyed underlying3
theorem Fk(w:World):(zeroValue 235).run prog w=.ok (.pointer none) w:=by simp_all
theorem eh.look{pa pm:Nat}{s:r_}(h:eh w pa pm s Y blk)(p:Nat)(hp:p<=9223372036854775807):
 (Instr.lookup 153 (.map (some pm)) (.int .i64 p) false).run prog w=.ok (iE s.j_ blk p) w:=by
 have hw:(Lit.int .i64 (p:Int)).wf=true:=by
  have h1:IntKind.min .i64<=(p:Int):=by show (-9223372036854775808:Int)<=p;omega
  have h2:(p:Int)<=IntKind.max .i64:=by show (p:Int)<=9223372036854775807;omega
  simp only[Lit.wf,h1,h2,decide_true,Bool.and_self]
 obtain⟨v,ps,ad,hv⟩:=h.map.lookup rn underlying153 (Fk w) (show l9 (.pointer none)=some (.lit (.bool false),[]) from rfl) (keyOf_int_mk underlying3 hw);rw[yI] at hv;unfold iE
 by_cases e:p∈s.j_
 ·rw[if_pos e] at hv⊢
  rcases Io hv with⟨_,h2⟩ | ⟨b,h1,h2⟩
  ·cases h2
  grind
 ·rw[if_neg e] at hv⊢
  grind [Io]
end Go.Proofs.YtpljannolpapgaaGreatDoor
namespace Go.Proofs.YtpljannolpapgaaGreatDoor
open Go.RowKit Tryz
variable{P:Program}{w:World}
structure Fq (I:World->Prop) where
 to:World
 ok:I to
theorem iq{id:Nat}{Q:Exit->Act->World->Prop}{a:Act}{l:List Oper}(I:World->Prop)(hm:P.follows .mixedOrders=true)(hB:Region.lexB .any l.toArray=true)
 (hI:I w.drew)
 (h:Nonempty (Fq I)->wpQuiet P l.toArray (fun w'=>∃x:Fq I,w'=x.to) (fun a'=>∀w',(∃x:Fq I,w'=x.to)->Q .normal a' w') l a):(Code.region id l.toArray true).wp P Q a w:=
 wp_region_quiet (C:=fun w'=>∃x:Fq I,w'=x.to) hm hB ⟨⟨_,hI⟩,rfl⟩ (by simpa using h ⟨⟨_,hI⟩⟩)
theorem Calls.C6{f:FuncId}{args:Array Value}{v:Value}{x:Fq (D_ w)}
 (h:Calls P f args x.to fun e w'=>e=.returned v/\Below x.to.1.size x.to w'):Calls P f args x.to fun e w''=>e=.returned v/\∃y:Fq (D_ w),w''=y.to:=
 h.M fun _ _ ⟨he,hb⟩=>⟨he,⟨_,b_ x.ok hb⟩,rfl⟩
end Go.Proofs.YtpljannolpapgaaGreatDoor
namespace Go.Proofs.YtpljannolpapgaaGreatDoor
open Go.RowKit Tryz Go.BigFrame Lf
open Go.Shelf
variable{B:Nat}{W:World}{k:Nat}{v:Value}
attribute [local go_sem] Oper.semAt_some
def Bx(W:World)(B:Nat)(v:Value):Prop:=W.cell? (y_ B)=some v/\W.frozen? (y_ B)=false
theorem Bx.new(W:World)(v:Value)(t:TypeId):Bx (W.alloc (.cells #[v] t)) W.1.size v:=by
 have h:(W.alloc (.cells #[v] t)).1[W.1.size]?=some (.cells #[v] t (0,0)):=by show (W.1.push _)[W.1.size]?=_;simp
 exact⟨e_ h,AT h⟩
theorem Bx.kept{W W':World}{row:Option Nat}(h:Bx W B v)(hg:W.grownBy W' row)(hr:∀r,row=some r->∃o:Obj,W.1[r]?=some o/\o.isCells=false):Bx W' B v:=
 ⟨cell_kept h.1 hg hr,(frozen_kept h.1 hg hr).T h.2⟩
theorem Bx.alloc(h:Bx W B v)(o:Obj):Bx (W.alloc o) B v:=h.kept (World.grownBy_alloc W o none) (fun r e=>by cases e)
theorem Bx.set(h:Bx W B v)(u:Value):Bx (W.setCell (y_ B) u) B u:=
 ⟨World.cell?_setCell_same' _ _ _ (by rw[h.1];rfl),by rw[World.frozen?_setCell];exact h.2⟩
theorem Bx.u_{B C:Nat}(h:Bx W B v)(u:Value)(hne:B≠C):Bx (W.setCell (y_ C) u) B v:=by
 refine⟨?_,by rw[World.frozen?_setCell];exact h.2⟩;have e:(W.setCell (y_ C) u).cell? (y_ B)=W.cell? (y_ B):=World.cell?_of_block (cy W (y_ C) u B hne);rw[e];exact h.1
theorem Bx.put{B D:Nat}{o o':Obj}(h:Bx W B v)(hD:W.1[D]?=some o)(ho:o.isCells=false):Bx (W.putObj D o') B v:=
 h.kept (grownBy_putObj' W D o') (fun r e=>by cases e;exact⟨o,hD,ho⟩)
theorem Bx.a_{W W':World}{B n:Nat}(h:Bx W B v)(hb:Below n W W')(hB:B<n):Bx W' B v:=
 ⟨(hb.cell (p:=y_ B) hB).T h.1,(hb.frozen (p:=y_ B) hB).T h.2⟩
def fH(k:Nat):Nat:=[2,3,4,6,9,13,19,28,42].getD k 0
abbrev uh(p:Nat×Nat):Array Value:=#[Xi p.1,Xi p.2]
def iF(k:Nat):List (Nat×Nat):=(List.range k).map fun i=>(i,fH i)
theorem xy(k:Nat):iF (k+1)=iF k++[(k,fH k)]:=by simp[iF,List.range_succ]
theorem EE(k:Nat):(iF k).length=k:=by simp[iF]
theorem EG:∀k,k<8->2<=fH k/\fH k<=28/\fH (k+1)=fH k+max (fH k / 2) 1:=d_
theorem wO(F:Fence)(n:Nat)(hg:F.fn 195)(hro:F.round=none)(hn:1<=n)(w:World):
 SeqStopsA F n prog 195 #[] uh (fun xs=>xs=iF 8) (fun pre=>∃k,k<8/\pre=iF (k+1)) 8 w:=fun l J Jx W _ _ _ hY h0=>by
 refine callsIn_of_wp func195 rfl hg ?_ hro;simp only[ntmps195,aS,aj,aL,Nat.reduceAdd,Nat.reduceSub,aO,aP,aT,aR,aX,aJ];gi_wp2
 gi_loopw [2,3] (fun c x wr=>∃k:Nat,k<=8/\c=Xi k/\x=Xi (fH k)/\J (iF k) wr) (fun c _ _=>8-(intOf c).toNat)
 case atStart=>exact⟨0,o_,rfl,rfl,h0⟩
 case round=>
  obtain⟨k,hk,rfl,rfl,hJ⟩:=hrel;by_cases hlt:k<8
  ·obtain⟨fn,a0,ap,ar,hy,hR⟩:=hY (iF k) (k,fH k) wr hJ (by rw[EE];exact hlt);rw[<-xy] at hR;obtain⟨h1,h2,h3⟩:=EG k hlt;have h4:((fH (k+1):Nat):Int)=(fH k:Int)+max ((fH k:Int) / 2) 1:=by rw[h3];omega
   generalize fH k=z at*;generalize ad:fH (k+1)=z1 at*;have HZ:=kq2 ad h4;clear ad h4 h3;dsimp only[uh] at hy
   gi_wp2
   refine hR.M ?_;rintro e W3 (⟨rfl,ai,au⟩ | ⟨rfl,an⟩)
   ·gi_wp2
    go_roundw
    case rel=>exact⟨k+1,o_,by go_num,by rw[HZ.a];exact congrArg (Value.int .i64) (by have:=HZ.b;omega),ai⟩
    case measure=>simp[intOf];omega
   ·gi_wp2
    refine bodyPost_ret (results_none rfl _ _ _) rfl ?_;exact⟨⟨_,rfl⟩,.inr ⟨_,⟨k,hlt,rfl⟩,an⟩⟩
  ·obtain rfl:k=8:=o_
   gi_wp2
   go_end0
   exact⟨⟨_,rfl⟩,.inl ⟨_,rfl,hJ⟩⟩
def ip(c:Int):Nat×Nat:=if 0<=c/\c<8 then(et c.toNat,0) else(0,2)
theorem Eg{c:Int}(h:∀x∈iF 8,(x.1:Int)≠c):ip c=(0,2):=by
 unfold ip;rw[if_neg];rintro⟨h1,h2⟩;exact h (c.toNat,fH c.toNat) (az.2 ⟨c.toNat,by rw[bw];omega,rfl⟩) m_
theorem EF:∀k,k<8->fH k=et k:=d_
theorem xx{p:List (Nat×Nat)}{x:Nat×Nat}(h:p++[x]=iF (k+1)):p=iF k/\x=(k,fH k):=by
 rw[xy] at h;have:=List.append_inj' h rfl;exact⟨this.1,by simpa using this.2⟩
theorem Eh(h:k<8):ip k=(fH k,0):=by
 unfold ip;rw[if_pos o_,EF k h];simp
theorem wN(w:World):Ct 150 #[] w fun e w'=>e=.returned (.func (.func 195) #[] #[])/\w=w':=by
 go_enter func150,ntmps150
 go_wp2
 go_ret;exact⟨rfl,rfl⟩
theorem KG(c:Int)(w:World):
 Cb 155 #[Xi c] w (.tuple #[Xi (ip c).1,Xi (ip c).2]):=by
 refine(callsIn_wide (n:=4)).1 ?_;have h1:1<=4:=o_
 have hS:Fence.wide.fn 150:=trivial;have a3:∀W,CallsIn Fence.wide 3 prog 150 #[] W _:=fun W=>callsIn_wide.2 (wN W);obtain⟨R,hR⟩:=Ii (ip c);rw[hR];have HR:=If hR;clear hR;refine callsIn_of_wp_marks func155 rfl trivial ?_ rfl;simp only[ntmps155,aS,aj,aL,Nat.reduceAdd,Nat.reduceSub,aO,aP,aT,aR,aX,aJ]
 gi_wp2_with (gi_at_call 150;refine(a3 _).M ?_;rintro e w' ⟨rfl,rfl⟩)
 have c0:=Bx.new w (Xi c) 3;have c1:=Bx.new (w.alloc (Xh c)) (Xi 0) 3;have c2:=Bx.new ((w.alloc (Xh c)).alloc (.cells #[Xi 0] 3)) (Xi 0) 27;simp only[World.size_alloc] at c1 c2;have a2:D_ w (((w.alloc (Xh c)).alloc (.cells #[Xi 0] 3)).alloc (.cells #[Xi 0] 27)):=(((aa _ w).alloc Ih _).alloc s_ _).alloc m_ _;refine wpIn_rangeFunc_ownF rfl h1 (gf:=195) (lb:=#[]) rfl trivial (enters_of func195 k_ rfl)
  (wO Fence.wide (4-1) trivial rfl o_ _) walksK_t walksK_b (aa _ _) (fun _=>rfl)
  (fun an W=>((∀y∈an,(y.1:Int)≠c)/\Bx W w.1.size (Xi c)/\Bx W (w.1.size+1) (Xi 0)/\Bx W (w.1.size+1+1) (Xi 0))/\D_ w W)
  (fun cd an W=>(cd=.ret/\(∃p x,an=p++[x]/\(x.1:Int)=c/\Bx W (w.1.size+1) (Xi x.2))/\Bx W (w.1.size+1+1) (Xi 0))/\D_ w W)
  (OwnFrom.and (Own.from (fun s A B row hs hg hr=>⟨hs.1,hs.2.1.kept hg hr,hs.2.2.1.kept hg hr,hs.2.2.2.kept hg hr⟩) _) (ownFrom_below Ih m_))
  (fun cd=>OwnFrom.and (Own.from (fun s A B row hs hg hr=>⟨hs.1,(let ⟨p,x,h1,h2,h3⟩:=hs.2.1;⟨p,x,h1,h2,h3.kept hg hr⟩),hs.2.2.kept hg hr⟩) _) (ownFrom_below Ih m_))
  ⟨⟨s_,(c0.alloc _).alloc _,c1.alloc _,c2⟩,a2⟩
  (fun x=> { tmps:=#[Xi c,.pointer (some (y_ w.1.size)),.pointer (some (y_ (w.1.size+1))),.pointer (some (y_ (w.1.size+1+1))),Xi x.1,Xi x.2,.func (.func 195) #[] #[],Xi x.1,Xi x.2,undef,undef,undef,undef],defers:=[] }) ?assign ?body ?done ?stop
 case assign=>
  intro l x W K hK
  gi_wp2
  exact hK
 case body=>
  rintro l an x W ⟨⟨hp,ar,ad,ai⟩,hB⟩ _;have k0:=ar.1;obtain⟨k1,f1⟩:=id ad;obtain⟨k2,f2⟩:=id ai;have H0:=If ar;have HH:=kq4 hp ad ai hB;clear hp ar ad ai hB
  by_cases hx:(x.1:Int)=c
  ·have a4:((x.1:Int)==c)=true:=by simpa using hx
   have HX:=If hx;clear hx
   gi_wp2
   exact⟨(KeepsOthers.setCell _ _ _).T (KeepsOthers.setCell _ _ _),⟨rfl,⟨an,x,rfl,HX.O,(HH.b.set _).u_ _ o_⟩,(HH.c.u_ _ o_).set _⟩,(HH.d.setCell (p:=y_ (w.1.size+1)) s_ _).setCell (p:=y_ (w.1.size+1+1)) m_ _⟩
  ·have a4:((x.1:Int)==c)=false:=by simpa using hx
   have HX:=If hx;clear hx
   gi_wp2
   exact⟨KeepsOthers.refl _,KeepsWalks.refl _,⟨fun y hy=>(aq.1 hy).elim (HH.a y) (fun e=>by rw[aE.1 e];exact HX.O),H0.O,HH.b,HH.c⟩,HH.d⟩
 case done=>
  rintro D ys W hD rfl ⟨⟨hp,ar,ad,ai⟩,hB⟩ hK;obtain⟨k1,f1⟩:=id ad;obtain⟨k2,f2⟩:=id ai;have HH:=kq4 hp ad ai hB;clear hp ad ai hB
  gi_wp2
  have ap:=((KeepsOthers.setCell W (y_ (w.1.size+1)) (Xi 0)).T (KeepsOthers.setCell _ (y_ (w.1.size+1+1)) (Xi 2))).same D _ hK rfl;refine⟨s_,.inl ⟨_,_,rfl,run_takeDeferred ap,?_⟩⟩;have r1:=(((HH.b.set (Xi 0)).u_ (Xi 2) (show w.1.size+1≠w.1.size+1+1 by omega)).put (o':=.deferred none) ap rfl).1;have r2:=(((HH.c.u_ (Xi 0) (show w.1.size+1+1≠w.1.size+1 by omega)).set (Xi 2)).put (o':=.deferred none) ap rfl).1;have au:R=(0,2):=by rw[<-HR.O];exact Eg HH.a
  subst au;refine⟨.tuple #[Xi 0,Xi 2],?_,rfl,((HH.d.setCell (p:=y_ (w.1.size+1)) s_ _).setCell (p:=y_ (w.1.size+1+1)) m_ _).T (belowK_b (w:=w) Ih _ D _ _ (by simp at hD;omega) ap rfl rfl)⟩
  simp[results,f155,go_sem,r1,r2]
 case stop=>
  rintro D cd an W hD ⟨k,hk,rfl⟩ ⟨⟨rfl,⟨p,x,a0,hx,ad⟩,ai⟩,hB⟩ hK;obtain⟨_,a1⟩:=xx a0.S;have HH:=If hB;have au:R=(x.2,0):=by rw[<-HR.O,<-hx,a1];exact Eh hk
  have r1:=(ad.put (o':=.deferred none) hK rfl).1;have r2:=(ai.put (o':=.deferred none) hK rfl).1;clear a0 hx a1 ad ai hB;subst au
  gi_wp2
  refine⟨s_,.inl ⟨_,_,rfl,run_takeDeferred hK,?_⟩⟩;refine⟨.tuple #[Xi x.2,Xi 0],?_,rfl,HH.O.T (belowK_b (w:=w) Ih W D _ _ (by simp at hD;omega) hK rfl rfl)⟩
  simp[results,f155,go_sem,r1,r2]
def je(c:Int):Nat×Nat:=if 0<=c/\c<8 then(eJ c.toNat,0) else(0,2)
theorem qLfad{P:Prop}(h:P:=by
 go_enter func117,ntmps117;go_wp2_with fail;refine dR HS.O fun w1 hb=>?_;go_wp2_with fail;go_ret2;exact⟨rfl,hb⟩):P:=h
theorem qk(c:Int)(w:World):
 Cb 117 #[Xi c] w (.tuple #[Xi (je c).1,Xi (je c).2]):=by
 have hs:=KG c w
 by_cases h:0<=c/\c<8
 ·obtain⟨k,rfl⟩:=Int.eq_ofNat_of_zero_le h.1;have hk:k<8:=o_
  have h1:ip k=(et k,0):=by unfold ip;rw[if_pos h];simp
  have h2:je k=(62 / et k,0):=by
   unfold je eJ;rw[if_pos h,cW,if_pos hk];have:∀k,k<8->iP.getD k 1=et k:=d_
   rw[this k hk]
  have h3:2<=et k/\et k<=28:=by
   have:∀k,k<8->2<=et k/\et k<=28:=d_
   exact this k hk
  rw[h1] at hs;rw[h2];have HS:=If hs;clear hs h1 h2 h;generalize et k=z at*;obtain⟨h4,h5⟩:=h3;exact qLfad
 ·have h1:ip c=(0,2):=by unfold ip;rw[if_neg h]
  have h2:je c=(0,2):=by unfold je;rw[if_neg h]
  rw[h1] at hs;rw[h2];have HS:=If hs;clear hs h1 h2 h;exact qLfad
attribute [local go_sem] Oper.semAt_some
def gm(x:Int):Nat×Bool×Nat:=
 if x<1\/4000<x then(0,false,2) else match gd x.toNat with | some c=>(c,true,0) | none=>(0,false,0)
theorem vY{x:Int}(h:x<1\/4000<x):gm x=(0,false,2):=by unfold gm;rw[if_pos h]
theorem sP:∀k,k<8->fH k=iP.getD k 0:=d_
theorem Ap{n k:Nat}(hk:k<8)(h1:n<=fH k)(h2:∀i,i<k->fH i<n):gd n=some k:=by
 unfold gd;rw[dh];refine⟨by rw[<-sP k hk];simpa using h1,by simpa using hk,fun j hj=>?_⟩;have:=h2 j hj;rw[<-sP j o_]
 simp
 omega
theorem Mq{n:Nat}(h:∀i,i<8->fH i<n):gd n=none:=by
 unfold gd;rw[bS];intro j hj;have ad:j<8:=by simpa using hj
 have:=h j ad;rw[<-sP j ad]
 simp
 omega
theorem Dl{x:Int}(h1:1<=x)(h2:x<=4000)(h:∀y∈iF 8,(y.2:Int)<x):gm x=(0,false,0):=by
 have:gd x.toNat=none:=Mq fun i hi=>by
  have:=h (i,fH i) (az.2 ⟨i,by simpa using hi,rfl⟩);simp only at this;omega
 unfold gm;rw[if_neg o_,this]
theorem Dm{x:Int}(h1:1<=x)(h2:x<=4000)(hk:k<8)(h:∀y∈iF k,(y.2:Int)<x)(h3:x<=fH k):gm x=(k,true,0):=by
 have:gd x.toNat=some k:=Ap hk o_ fun i hi=>by
  have:=h (i,fH i) (az.2 ⟨i,by simpa using hi,rfl⟩);simp only at this;omega
 unfold gm;rw[if_neg o_,this]
def KZ(x:Int)(pre:List (Nat×Nat)):Prop:=∀y∈pre,(y.2:Int)<x
theorem Ar(x:Int)(w:World)(hx1:1<=x)(hx2:x<=4000):
 Cb 102 #[Xi x] w (.tuple #[Xi (gm x).1,.bool (gm x).2.1,Xi (gm x).2.2]):=by
 refine(callsIn_wide (n:=4)).1 ?_;have h1:1<=4:=o_
 have hS:Fence.wide.fn 150:=trivial;have a5:∀W,CallsIn Fence.wide 3 prog 150 #[] W _:=fun W=>callsIn_wide.2 (wN W);obtain⟨R,hR⟩:=Ii (gm x);rw[hR];have HR:=If hR;clear hR;have a6:decide (x<1)=false:=m_
 have a7:decide (4000<x)=false:=m_
 refine callsIn_of_wp_marks func102 rfl trivial ?_ rfl;simp only[ntmps102,aS,aj,aL,Nat.reduceAdd,Nat.reduceSub,aO,aP,aT,aR,aX,aJ]
 gi_wp2_with (gi_at_call 150;refine(a5 _).M ?_;rintro e w' ⟨rfl,rfl⟩)
 have c0:=Bx.new w (Xi x) 3;have c1:=Bx.new (w.alloc (Xh x)) (Xi 0) 3;have c2:=Bx.new ((w.alloc (Xh x)).alloc (.cells #[Xi 0] 3)) (.bool false) 4;have c3:=Bx.new (((w.alloc (Xh x)).alloc (.cells #[Xi 0] 3)).alloc (.cells #[.bool false] 4)) (Xi 0) 27;simp only[World.size_alloc] at c1 c2 c3;have a4:D_ w ((((w.alloc (Xh x)).alloc (.cells #[Xi 0] 3)).alloc (.cells #[.bool false] 4)).alloc (.cells #[Xi 0] 27)):=((((aa _ w).alloc Ih _).alloc s_ _).alloc m_ _).alloc m_ _;refine wpIn_rangeFunc_ownF rfl h1 (gf:=195) (lb:=#[]) rfl trivial (enters_of func195 k_ rfl)
  (wO Fence.wide (4-1) trivial rfl o_ _) walksK_t walksK_b (aa _ _) (fun _=>rfl)
  (fun ap W=>(KZ x ap/\Bx W w.1.size (Xi x)/\Bx W (w.1.size+1) (Xi 0)/\Bx W (w.1.size+1+1) (.bool false)/\Bx W (w.1.size+1+1+1) (Xi 0))/\D_ w W)
  (fun cd ap W=>(cd=.ret/\(∃p y,ap=p++[y]/\KZ x p/\x<=(y.2:Int)/\Bx W (w.1.size+1) (Xi y.1))/\Bx W (w.1.size+1+1) (.bool true)/\Bx W (w.1.size+1+1+1) (Xi 0))/\D_ w W)
  (OwnFrom.and (Own.from (fun s A B row hs hg hr=>⟨hs.1,hs.2.1.kept hg hr,hs.2.2.1.kept hg hr,hs.2.2.2.1.kept hg hr,hs.2.2.2.2.kept hg hr⟩) _) (ownFrom_below Ih m_))
  (fun cd=>OwnFrom.and (Own.from (fun s A B row hs hg hr=>⟨hs.1,(let ⟨p,y,k1,k2,k3,k4⟩:=hs.2.1;⟨p,y,k1,k2,k3,k4.kept hg hr⟩),hs.2.2.1.kept hg hr,hs.2.2.2.kept hg hr⟩) _) (ownFrom_below Ih m_))
  ⟨⟨fun y hy=>absurd hy s_,((c0.alloc _).alloc _).alloc _,(c1.alloc _).alloc _,c2.alloc _,c3⟩,a4⟩
  (fun y=> { tmps:=#[Xi x,.pointer (some (y_ w.1.size)),.pointer (some (y_ (w.1.size+1))),.pointer (some (y_ (w.1.size+1+1))),.pointer (some (y_ (w.1.size+1+1+1))),Xi y.1,Xi y.2,Xi x,.bool false,.bool false,Xi x,.bool false,.bool false,.func (.func 195) #[] #[],Xi y.1,Xi y.2,undef,undef,undef,undef],defers:=[] }) ?assign ?body ?done ?stop
 case assign=>
  intro l y W K hK
  gi_wp2
  exact hK
 case body=>
  rintro l ap y W ⟨⟨hp,au,ad,ai,an⟩,hB⟩ _;have k0:=au.1;obtain⟨k1,f1⟩:=id ad;obtain⟨k2,f2⟩:=id ai;obtain⟨k3,f3⟩:=id an;have H0:=If au;have HH:=kq5 hp ad ai an hB;clear hp au ad ai an hB
  by_cases hx:x<=(y.2:Int)
  ·gi_wp2
   exact⟨((KeepsOthers.setCell _ _ _).T (KeepsOthers.setCell _ _ _)).T (KeepsOthers.setCell _ _ _),⟨rfl,⟨ap,y,rfl,HH.a,hx,((HH.b.set _).u_ _ o_).u_ _ o_⟩,((HH.c.u_ _ o_).set _).u_ _ o_,((HH.d.u_ _ o_).u_ _ o_).set _⟩,((HH.e.setCell (p:=y_ (w.1.size+1)) s_ _).setCell (p:=y_ (w.1.size+1+1)) m_ _).setCell (p:=y_ (w.1.size+1+1+1)) m_ _⟩
  ·have HX:=If hx
   gi_wp2
   exact⟨KeepsOthers.refl _,KeepsWalks.refl _,⟨fun z hz=>(aq.1 hz).elim (HH.a z) (fun e=>by rw[aE.1 e];have:=HX.O;omega),H0.O,HH.b,HH.c,HH.d⟩,HH.e⟩
 case done=>
  rintro D ys W hD rfl ⟨⟨hp,au,ad,ai,an⟩,hB⟩ hK;obtain⟨k1,f1⟩:=id ad;obtain⟨k2,f2⟩:=id ai;obtain⟨k3,f3⟩:=id an;have HH:=kq5 hp ad ai an hB;clear hp ad ai an hB
  gi_wp2
  have ar:=(((KeepsOthers.setCell W (y_ (w.1.size+1)) (Xi 0)).T (KeepsOthers.setCell _ (y_ (w.1.size+1+1)) (.bool false))).T (KeepsOthers.setCell _ (y_ (w.1.size+1+1+1)) (Xi 0))).same D _ hK rfl;refine⟨s_,.inl ⟨_,_,rfl,run_takeDeferred ar,?_⟩⟩;have r1:=((((HH.b.set (Xi 0)).u_ (.bool false) (show w.1.size+1≠w.1.size+1+1 by omega)).u_ (Xi 0) (show w.1.size+1≠w.1.size+1+1+1 by omega)).put (o':=.deferred none) ar rfl).1;have r2:=((((HH.c.u_ (Xi 0) (show w.1.size+1+1≠w.1.size+1 by omega)).set (.bool false)).u_ (Xi 0) (show w.1.size+1+1≠w.1.size+1+1+1 by omega)).put (o':=.deferred none) ar rfl).1;have r3:=((((HH.d.u_ (Xi 0) (show w.1.size+1+1+1≠w.1.size+1 by omega)).u_ (.bool false) (show w.1.size+1+1+1≠w.1.size+1+1 by omega)).set (Xi 0)).put (o':=.deferred none) ar rfl).1;have a0:R=(0,false,0):=by rw[<-HR.O];exact Dl hx1 hx2 HH.a
  subst a0;refine⟨.tuple #[Xi 0,.bool false,Xi 0],?_,rfl,(((HH.e.setCell (p:=y_ (w.1.size+1)) s_ _).setCell (p:=y_ (w.1.size+1+1)) m_ _).setCell (p:=y_ (w.1.size+1+1+1)) m_ _).T (belowK_b (w:=w) Ih _ D _ _ (by simp at hD;omega) ar rfl rfl)⟩
  simp[results,f102,go_sem,r1,r2,r3]
 case stop=>
  rintro D cd ap W hD ⟨k,hk,rfl⟩ ⟨⟨rfl,⟨p,y,a2,hp,hx,ad⟩,ai,an⟩,hB⟩ hK;obtain⟨a1,a3⟩:=xx a2.S;have HH:=If hB;have a0:R=(y.1,true,0):=by rw[<-HR.O];rw[a1] at hp;rw[a3] at hx⊢;exact Dm hx1 hx2 hk hp hx
  have r1:=(ad.put (o':=.deferred none) hK rfl).1;have r2:=(ai.put (o':=.deferred none) hK rfl).1;have r3:=(an.put (o':=.deferred none) hK rfl).1;clear a2 hx a3 a1 hp ad ai an hB;subst a0
  gi_wp2
  refine⟨s_,.inl ⟨_,_,rfl,run_takeDeferred hK,?_⟩⟩;refine⟨.tuple #[Xi y.1,.bool true,Xi 0],?_,rfl,HH.O.T (belowK_b (w:=w) Ih W D _ _ (by simp at hD;omega) hK rfl rfl)⟩
  simp[results,f102,go_sem,r1,r2,r3]
theorem nM(w:World)(a b c d:Obj):D_ w ((((w.alloc a).alloc b).alloc c).alloc d):=
 ((((aa _ w).alloc Ih _).alloc s_ _).alloc m_ _).alloc m_ _
theorem qLfac{P:Prop}(h:P:=by
 go_enter func102,ntmps102;go_wp2_with fail;exact bodyPost_ret (v:=.tuple #[Xi 0,.bool false,Xi 2]) (by simp[results,f102,go_sem]) rfl ⟨rfl,nM w _ _ _ _⟩):P:=h
theorem As(x:Int)(w:World)(hx:x<1\/4000<x):
 Cb 102 #[Xi x] w (.tuple #[Xi (gm x).1,.bool (gm x).2.1,Xi (gm x).2.2]):=by
 rw[vY hx]
 rcases hx with hx | hx
 ·exact qLfac
 ·have h1:1<=x:=o_
  exact qLfac
theorem Gn(x:Int)(w:World):
 Cb 102 #[Xi x] w (.tuple #[Xi (gm x).1,.bool (gm x).2.1,Xi (gm x).2.2]):=by
 by_cases h:x<1\/4000<x
 ·exact As x w h
 ·exact Ar x w o_ o_
theorem vX(n:Nat):(n<1\/4000<n)/\gm n=(0,false,2)/\fa n=0\/(1<=n/\n<=4000)/\((∃c,gd n=some c/\gm n=(c,true,0)/\fa n=1)\/(gd n=none/\gm n=(0,false,0)/\fa n=(n+65) / 64)):=by
 by_cases h:n<1\/4000<n
 ·exact ab ⟨h,vY o_,by unfold fa;rw[if_pos h]⟩
 ·refine ae ⟨o_,?_⟩;have h1:¬((n:Int)<1\/4000<(n:Int)):=o_
  unfold gm fa;rw[if_neg h1,if_neg h,cW]
  cases gd n with
  | none=>exact ae ⟨rfl,rfl,rfl⟩
  | some c=>exact ab ⟨c,rfl,rfl,rfl⟩
theorem GT(n:Nat)(w:World)(hn:n<=4000)(h1:1<=n):
 Cb 103 #[Xi n] w (.tuple #[Xi (fa n:Nat),Xi 0]):=by
 have ho:=Gn n w
 rcases vX n with⟨h,_⟩ | ⟨_,⟨c,_,h2,h3⟩ | ⟨_,h2,h3⟩⟩
 ·omega
 ·rw[h2] at ho;rw[h3];have HO:=If ho;clear ho h2 h3;go_enter func103,ntmps103;go_wp2_with fail;refine dR HO.O fun w1 hb=>?_;go_wp2_with fail;go_ret2;exact⟨rfl,hb⟩
 ·rw[h2] at ho;rw[h3];have HO:=If ho;have hq:((n+65) / 64:Nat)=(((n:Int)+2+64-1) / 64).toNat:=o_
  obtain⟨R,hR⟩:=Ii ((n+65) / 64);rw[hR] at hq⊢;have HQ:=If hq;clear ho h2 h3 hq hR;go_enter func103,ntmps103;go_wp2_with fail;refine dR HO.O fun w1 hb=>?_;go_wp2_with fail;go_ret2;refine⟨?_,hb⟩;have:=HQ.O;have e:(((n:Int)+2+64-1) / 64)=(R:Int):=o_
  rw[<-e]
  rfl
theorem KF(c k:Nat):iL c k<=62:=by
 unfold iL
 split
 ·rename_i h;have h2:∀c,c<8->eJ c*et c<=62/\2<=et c:=d_
  obtain⟨h3,h4⟩:=h2 c h.1;have:(k+1)*et c<=eJ c*et c:=dB _ h.2;rw[Nat.add_mul] at this;omega
 ·omega
theorem qLfab{P:Prop}(h:P:=by
 go_enter func160,ntmps160;go_wp2_with fail;refine dR HS.O fun w1 hb=>?_;have HB:=If hb;clear hb;go_wp2_with fail;go_ret2;exact⟨⟨2,rfl⟩,HB.O⟩):P:=h
theorem Aw(c k:Nat)(w:World)(hc:c<=2^56)(hk:k<=1000):
 Ct 160 #[Xi c,Xi k] w fun e w'=>(∃er:Nat,e=.returned (.tuple #[Xi (iL c k:Nat),Xi er]))/\D_ w w':=by
 have hs:=qk c w;have hz:=fun W=>KG c W
 by_cases h:c<8
 ·have h1:je c=(eJ c,0):=by unfold je;rw[if_pos o_,cW]
  have h2:ip c=(et c,0):=by unfold ip;rw[if_pos o_,cW]
  have h3:eJ c<=31/\et c<=28:=by
   have:∀c,c<8->eJ c<=31/\et c<=28:=d_
   exact this c h
  rw[h1] at hs;rw[h2] at hz
  by_cases hlt:k<eJ c
  ·have h4:iL c k=2+k*et c:=by unfold iL;rw[if_pos ⟨h,hlt⟩]
   rw[h4];have HS:=kq2 hs hz;clear hs hz h1 h2 h4;generalize eJ c=m at*;generalize et c=z at*;obtain⟨h5,h6⟩:=h3;have h7:(k:Int)*z<=1000*28:=by
    have:k*z<=1000*28:=Nat.mul_le_mul hk h6;omega
   have h8:0<=(k:Int)*z:=by
    have:((k*z:Nat):Int)=(k:Int)*z:=s_
    omega
   have ai:¬(m:Int)<=k:=o_
   go_enter func160,ntmps160;go_wp2_with fail;refine dR HS.a fun w1 hb=>?_;have HB:=If hb;clear hb;go_wp2_with fail;refine dR (HS.b _) fun w2 hb2=>?_;have ad:=If hb2;clear hb2;go_wp2_with fail;go_ret2;exact⟨⟨0,s_⟩,b_ HB.O ad.O⟩
  ·have h4:iL c k=0:=by unfold iL;rw[if_neg (fun hh=>hlt hh.2)]
   rw[h4];have HS:=If hs;clear hs hz h1 h2 h4;generalize eJ c=m at*;generalize et c=z at*;have ai:(m:Int)<=k:=o_
   exact qLfab
 ·have h1:je c=(0,2):=by unfold je;rw[if_neg o_]
  have h4:iL c k=0:=by unfold iL;rw[if_neg (fun hh=>h hh.1)]
  rw[h1] at hs;rw[h4];have HS:=If hs;clear hs hz h1 h4;exact qLfab
theorem uJ(p c k:Nat)(w:World)(hp:p<=1048576)(hc:c<=2^56)(hk:k<=1000):
 Cb 119 #[Xi p,Xi c,Xi k] w (Xi (fF p c k:Nat)):=by
 have hs:=Aw c k w hc hk;have h1:=KF c k;have h2:fF p c k=p*64+iL c k:=rfl;rw[h2];clear h2;generalize iL c k=z at*;have HS:=If hs;clear hs;go_enter func119,ntmps119;go_wp2_with fail;refine HS.O.M ?_;rintro e w1 ⟨⟨er,rfl⟩,hb⟩;have HB:=If hb;clear hb;go_wp2_with fail;go_ret;exact⟨s_,HB.O⟩
end Go.Proofs.YtpljannolpapgaaGreatDoor
namespace Go.Proofs
open Go.Shelf
def Tryz.lays213_ren:Go.Shelf.Ren:=⟨fun | 213=>177 | 265=>209 | n=>n,fun | 9=>9 | 3=>3 | n=>n,fun | n=>n⟩
theorem Tryz.lays213:Go.Proofs.Lays.n213 Tryz.prog Tryz.lays213_ren:= {
  mixed:=k_
  f213:=Tryz.func177.T (congrArg some k_)
  f265:=Tryz.func209.T (congrArg some k_)
  t3:=Tryz.underlying3
  a3:=Tryz.isAgg3
  z3:=Tryz.sizeOf3
  v3:=Tryz.zeroValue3
  t9:=Tryz.underlying9
  a9:=Tryz.isAgg9
  z9:=Tryz.sizeOf9
  v9:=Tryz.zeroValue9 }
open Go.RowKit in
theorem Tryz.bytealg_CompareString(a b:ByteArray)(w:World):
    Calls Tryz.prog 177 #[.string a,.string b] w fun e w'=>e=.returned (.int .i64 (Lib.compareBytes a.data.toList b.data.toList))/\w'=w:=Any.bytealg_CompareString Tryz.lays213 a b w
def Tryz.laysNm729_ren:Go.Shelf.Ren:=⟨fun | 29=>197 | n=>n,fun | 22=>60 | 3=>3 | 4=>4 | 25=>238 | 54=>323 | 0=>0 | 5=>5 | n=>n,fun | 1=>1 | n=>n⟩
theorem Tryz.laysNm729:Go.Proofs.Lays7.n29 Tryz.prog Tryz.laysNm729_ren:= {
  mixed:=k_
  f29:=Tryz.func197.T (congrArg some k_)
  t0:=Tryz.underlying0
  a0:=Tryz.isAgg0
  z0:=Tryz.sizeOf0
  v0:=Tryz.zeroValue0
  i0:=k_
  t3:=Tryz.underlying3
  a3:=Tryz.isAgg3
  z3:=Tryz.sizeOf3
  v3:=Tryz.zeroValue3
  i3:=k_
  t4:=Tryz.underlying4
  a4:=Tryz.isAgg4
  z4:=Tryz.sizeOf4
  v4:=Tryz.zeroValue4
  i4:=k_
  t5:=Tryz.underlying5
  a5:=Tryz.isAgg5
  z5:=Tryz.sizeOf5
  v5:=Tryz.zeroValue5
  i5:=k_
  t22:=Tryz.underlying60
  a22:=Tryz.isAgg60
  z22:=Tryz.sizeOf60
  v22:=Tryz.zeroValue60
  i22:=k_
  t25:=Tryz.underlying238
  a25:=Tryz.isAgg238
  z25:=Tryz.sizeOf238
  v25:=Tryz.zeroValue238
  i25:=k_
  t54:=Tryz.underlying323
  a54:=Tryz.isAgg323
  z54:=Tryz.sizeOf323
  g1:=by kernel_rfl }
def Tryz.keysA_ren:Go.Shelf.Ren:=⟨fun | 7=>170 | 10=>203 | n=>n,fun | 23=>153 | 26=>3 | 3=>235 | 28=>256 | 0=>0 | 27=>255 | 33=>250 | 4=>4 | n=>n,fun | n=>n⟩
theorem Tryz.keysA:Go.Proofs.SlLaysZI.n7 Tryz.prog Tryz.keysA_ren:= {
  mixed:=k_
  f7:=⟨Tryz.f170.name,d_,Tryz.func170.T (congrArg some k_)⟩
  f10:=⟨Tryz.f203.name,d_,Tryz.func203.T (congrArg some k_)⟩
  t0:=Tryz.underlying0
  a0:=Tryz.isAgg0
  z0:=Tryz.sizeOf0
  v0:=Tryz.zeroValue0
  t4:=Tryz.underlying4
  a4:=Tryz.isAgg4
  z4:=Tryz.sizeOf4
  v4:=Tryz.zeroValue4
  t23:=Tryz.underlying153
  a23:=Tryz.isAgg153
  z23:=Tryz.sizeOf153
  v23:=Tryz.zeroValue153
  t26:=Tryz.underlying3
  a26:=Tryz.isAgg3
  z26:=Tryz.sizeOf3
  v26:=Tryz.zeroValue3
  t27:=Tryz.underlying255
  a27:=Tryz.isAgg255
  z27:=Tryz.sizeOf255
  v27:=Tryz.zeroValue255
  t28:=Tryz.underlying256
  a28:=Tryz.isAgg256
  z28:=Tryz.sizeOf256
  v28:=Tryz.zeroValue256
  t33:=Tryz.underlying250
  a33:=Tryz.isAgg250
  z33:=Tryz.sizeOf250
  v33:=Tryz.zeroValue250 }
def Tryz.sortedA_ren:Go.Shelf.Ren:=⟨fun | 6=>169 | 8=>201 | 9=>202 | 11=>228 | 13=>230 | 12=>229 | 23=>254 | 24=>255 | 14=>245 | 15=>246 | 16=>247 | 17=>248 | 18=>249 | 19=>250 | 20=>251 | 21=>252 | 22=>253 | 25=>259 | 26=>260 | 27=>261 | 28=>262 | 29=>263 | 30=>264 | 31=>275 | n=>n,fun | 26=>3 | 28=>256 | 24=>57 | 0=>0 | 3=>3 | 37=>238 | 48=>30 | 50=>60 | 4=>4 | 40=>339 | 39=>338 | 45=>308 | 5=>5 | 9=>9 | 51=>347 | 55=>208 | 57=>358 | 58=>133 | 33=>250 | n=>n,fun | n=>n⟩
theorem Tryz.sortedA:Go.Proofs.SlLaysZI.n6 Tryz.prog Tryz.sortedA_ren:= {
  mixed:=k_
  f6:=⟨Tryz.f169.name,d_,Tryz.func169.T (congrArg some k_)⟩
  f8:=⟨Tryz.f201.name,d_,Tryz.func201.T (congrArg some k_)⟩
  f11:=⟨Tryz.f228.name,d_,Tryz.func228.T (congrArg some k_)⟩
  t0:=Tryz.underlying0
  a0:=Tryz.isAgg0
  z0:=Tryz.sizeOf0
  v0:=Tryz.zeroValue0
  t24:=Tryz.underlying57
  a24:=Tryz.isAgg57
  z24:=Tryz.sizeOf57
  v24:=Tryz.zeroValue57
  t26:=Tryz.underlying3
  a26:=Tryz.isAgg3
  z26:=Tryz.sizeOf3
  v26:=Tryz.zeroValue3
  t28:=Tryz.underlying256
  a28:=Tryz.isAgg256
  z28:=Tryz.sizeOf256
  v28:=Tryz.zeroValue256
  i26:=by kernel_rfl }
def Tryz.sortA_ren:Go.Shelf.Ren:=⟨fun | 5=>202 | 8=>230 | 7=>229 | 19=>254 | 20=>255 | 10=>245 | 11=>246 | 12=>247 | 13=>248 | 14=>249 | 15=>250 | 16=>251 | 17=>252 | 18=>253 | 30=>259 | 31=>260 | 32=>261 | 33=>262 | 34=>263 | 35=>264 | 40=>275 | n=>n,fun | 23=>57 | 25=>3 | 3=>3 | 32=>238 | 22=>57 | 0=>0 | 44=>30 | 46=>60 | 4=>4 | 36=>339 | 35=>338 | 41=>308 | 5=>5 | 9=>9 | 53=>347 | 57=>208 | 63=>358 | 64=>133 | n=>n,fun | n=>n⟩
theorem Tryz.sortA:Go.Proofs.SlLaysM.n5 Tryz.prog Tryz.sortA_ren:= {
  mixed:=k_
  f5:=⟨Tryz.f202.name,d_,Tryz.func202.T (congrArg some k_)⟩
  f7:=⟨Tryz.f229.name,d_,Tryz.func229.T (congrArg some k_)⟩
  f8:=Tryz.func230.T (congrArg some k_)
  f10:=⟨Tryz.f245.name,d_,Tryz.func245.T (congrArg some k_)⟩
  f11:=⟨Tryz.f246.name,d_,Tryz.func246.T (congrArg some k_)⟩
  f12:=⟨Tryz.f247.name,d_,Tryz.func247.T (congrArg some k_)⟩
  f13:=⟨Tryz.f248.name,d_,Tryz.func248.T (congrArg some k_)⟩
  f14:=⟨Tryz.f249.name,d_,Tryz.func249.T (congrArg some k_)⟩
  f15:=⟨Tryz.f250.name,d_,Tryz.func250.T (congrArg some k_)⟩
  f16:=⟨Tryz.f251.name,d_,Tryz.func251.T (congrArg some k_)⟩
  f17:=⟨Tryz.f252.name,d_,Tryz.func252.T (congrArg some k_)⟩
  f18:=⟨Tryz.f253.name,d_,Tryz.func253.T (congrArg some k_)⟩
  f19:=Tryz.func254.T (congrArg some k_)
  f20:=Tryz.func255.T (congrArg some k_)
  f30:=⟨Tryz.f259.name,d_,Tryz.func259.T (congrArg some k_)⟩
  f31:=Tryz.func260.T (congrArg some k_)
  f32:=Tryz.func261.T (congrArg some k_)
  f33:=⟨Tryz.f262.name,d_,Tryz.func262.T (congrArg some k_)⟩
  f34:=⟨Tryz.f263.name,d_,Tryz.func263.T (congrArg some k_)⟩
  f35:=⟨Tryz.f264.name,d_,Tryz.func264.T (congrArg some k_)⟩
  f40:=⟨Tryz.f275.name,d_,Tryz.func275.T (congrArg some k_)⟩
  t0:=Tryz.underlying0
  a0:=Tryz.isAgg0
  z0:=Tryz.sizeOf0
  v0:=Tryz.zeroValue0
  t3:=Tryz.underlying3
  a3:=Tryz.isAgg3
  z3:=Tryz.sizeOf3
  v3:=Tryz.zeroValue3
  t4:=Tryz.underlying4
  a4:=Tryz.isAgg4
  z4:=Tryz.sizeOf4
  v4:=Tryz.zeroValue4
  t5:=Tryz.underlying5
  a5:=Tryz.isAgg5
  z5:=Tryz.sizeOf5
  v5:=Tryz.zeroValue5
  t9:=Tryz.underlying9
  a9:=Tryz.isAgg9
  z9:=Tryz.sizeOf9
  v9:=Tryz.zeroValue9
  t22:=Tryz.underlying57
  a22:=Tryz.isAgg57
  z22:=Tryz.sizeOf57
  v22:=Tryz.zeroValue57
  t23:=Tryz.underlying57
  a23:=Tryz.isAgg57
  z23:=Tryz.sizeOf57
  v23:=Tryz.zeroValue57
  t25:=Tryz.underlying3
  a25:=Tryz.isAgg3
  z25:=Tryz.sizeOf3
  v25:=Tryz.zeroValue3
  t32:=Tryz.underlying238
  a32:=Tryz.isAgg238
  z32:=Tryz.sizeOf238
  v32:=Tryz.zeroValue238
  t35:=Tryz.underlying338
  a35:=Tryz.isAgg338
  z35:=Tryz.sizeOf338
  v35:=Tryz.zeroValue338
  t36:=Tryz.underlying339
  a36:=Tryz.isAgg339
  z36:=Tryz.sizeOf339
  v36:=Tryz.zeroValue339
  t41:=Tryz.underlying308
  a41:=Tryz.isAgg308
  z41:=Tryz.sizeOf308
  v41:=Tryz.zeroValue308
  t44:=Tryz.underlying30
  a44:=Tryz.isAgg30
  z44:=Tryz.sizeOf30
  v44:=Tryz.zeroValue30
  t46:=Tryz.underlying60
  a46:=Tryz.isAgg60
  z46:=Tryz.sizeOf60
  v46:=Tryz.zeroValue60
  t53:=Tryz.underlying347
  a53:=Tryz.isAgg347
  z53:=Tryz.sizeOf347
  v53:=Tryz.zeroValue347
  t57:=Tryz.underlying208
  a57:=Tryz.isAgg208
  z57:=Tryz.sizeOf208
  v57:=Tryz.zeroValue208
  t63:=Tryz.underlying358
  a63:=Tryz.isAgg358
  z63:=Tryz.sizeOf358
  v63:=Tryz.zeroValue358
  t64:=Tryz.underlying133
  a64:=Tryz.isAgg133
  z64:=Tryz.sizeOf133
  v64:=Tryz.zeroValue133 }
end Go.Proofs
namespace Go.Proofs.YtpljannolpapgaaGreatDoor
open Go.RowKit Tryz Go.BigFrame Lf
theorem me {k:Nat}(h:k<64):2^k<2^64:=Nat.pow_lt_pow_right (n:=64) d_ h
theorem th {k:Nat}(h:k<64):IntKind.u64.wrap ((2:Int)^k)=((2^k:Nat):Int):=by
 have h1:=me h;rw[show ((2:Int)^k)=((2^k:Nat):Int) by simp,IntKind.wrap_u64];generalize 2^k=m at*;omega
theorem MR(w k:Nat)(hw:w<2^64)(hk:k<64):(bits BinOp.and IntKind.u64 ((w:Int) / 2^k) 1==1)=jI w k:=by
 have h1:(w:Int) / 2^k=((w / 2^k:Nat):Int):=s_
 have h2:w / 2^k<2^64:=cO (Nat.div_le_self _ _) hw;rw[h1,show (1:Int)=((1:Nat):Int) from rfl,bits_and_u64_nat _ _ h2 d_];unfold jI;rw[decide_eq_true hk,Bool.true_and,Nat.testBit,Nat.shiftRight_eq_div_pow,Nat.and_one_is_mod,Nat.one_and_eq_mod_two];have:=dA (w / 2^k);generalize w / 2^k % 2=q at*
 rcases this with rfl | rfl<;>rfl
theorem zx(w k:Nat)(W:World)(hw:w<2^64)(hk:k<=1000):
 Ct 118 #[Xu w,Xi k] W fun e w'=>e=.returned (.bool (jI w k))/\W=w':=by
 by_cases h:k<64
 ·have hb:=If (MR w k hw h);go_enter func118,ntmps118
  go_wp2
  go_ret;rw[<-hb.O];exact⟨rfl,rfl⟩
 ·have hb:jI w k=false:=by unfold jI;rw[decide_eq_false h];rfl
  have hd:¬(k:Int)<64:=o_
  rw[hb];go_enter func118,ntmps118
  go_wp2
  go_ret;exact⟨rfl,rfl⟩
theorem zz(w k:Nat)(W:World)(hw:w<2^64)(hk:k<64):
 Ct 154 #[Xu w,Xi k] W fun e w'=>e=.returned (.tuple #[Xu (iY w k:Nat),Xi 0])/\W=w':=by
 have hb:bits BinOp.or IntKind.u64 (w:Int) (IntKind.u64.wrap (2^k))=((iY w k:Nat):Int):=by
  rw[th hk,bits_or_u64_nat _ _ hw (me hk)]
  rfl
 have HB:=If hb;clear hb;go_enter func154,ntmps154
 go_wp2
 go_ret2;rw[<-HB.O];exact⟨rfl,rfl⟩
theorem zo(w k:Nat)(W:World)(hw:w<2^64)(hk:k<64):
 Ct 157 #[Xu w,Xi k] W fun e w'=>e=.returned (.tuple #[Xu (iy w k:Nat),Xi 0])/\W=w':=by
 have hb:bits BinOp.andNot IntKind.u64 (w:Int) (IntKind.u64.wrap (2^k))=((iy w k:Nat):Int):=by
  rw[th hk,u64_andNot_nat _ _ hw (me hk)]
  rfl
 have HB:=If hb;clear hb;go_enter func157,ntmps157
 go_wp2
 go_ret2;rw[<-HB.O];exact⟨rfl,rfl⟩
theorem zu(n:Nat)(W:World)(hk:n<64):
 Ct 130 #[Xi n] W fun e w'=>e=.returned (Xu (2^n-1:Nat))/\W=w':=by
 have hb:IntKind.u64.wrap (IntKind.u64.wrap (2^n)-1)=((2^n-1:Nat):Int):=by
  have h1:=me hk;have h2:0<2^n:=Nat.two_pow_pos n;rw[th hk,IntKind.wrap_u64];generalize 2^n=m at*;omega
 have HB:=If hb;clear hb;go_enter func130,ntmps130
 go_wp2
 go_ret;rw[<-HB.O];exact⟨rfl,rfl⟩
theorem zp(n:Nat)(W:World)(hk:n<64):
 Ct 196 #[Xi n] W fun e w'=>e=.returned (.func (.func 225) #[] #[PV W.1.size])/\w'=W.alloc (.cells #[Xu (2^n-1:Nat)] 60):=by
 have hf:=zu n W hk;generalize 2^n-1=m at*;have HF:=If hf;clear hf;go_enter func196,ntmps196;go_wp2_with fail;refine Jc HF.O ?_;go_wp2_with fail;go_ret;exact⟨rfl,rfl⟩
theorem IA(w m B:Nat)(W:World)(hw:w<2^64)(hm:m<2^64)(hB:W.cell? (y_ B)=some (Xu m)):
 Ct 225 #[Xu w,PV B] W fun e w'=>e=.returned (Xu (w &&& m:Nat))/\W=w':=by
 have hb:=bits_and_u64_nat w m hw hm;have HB:=If hb;clear hb;go_enter func225,ntmps225;go_wp2_with fail;go_ret;rw[<-HB.O];exact⟨rfl,rfl⟩
def gA(w:World):Prop:=TabAt 1 Go.Lib.deBruijn64tab w
theorem gA.lt {w:World}(h:gA w):1<w.1.size:=by
 have:=h 0 d_;unfold World.cell? at this;simp only at this
 by_cases hl:1<w.1.size
 ·exact hl
 ·rw[cX o_] at this
  cases this
theorem gA.of_block {w w':World}(h:gA w)(hb:w'.1[(1:Nat)]?=w.1[(1:Nat)]?):gA w':=fun j hj=>by
 rw[<-h j hj];exact World.cell?_of_block hb
theorem gA.a_ {w w':World}(h:gA w){n:Nat}(hb:Below n w w')(hn:w.1.size<=n):gA w':=h.of_block (hb.block _ (aB h.lt hn))
def jM(w n:Nat):Int:=match fW w n with | some k=>k | none=> -1
theorem vo {w n j:Nat}(hw:w<2^64)(hn:n<64):((18446744073709551615-w) &&& (2^n-1)).testBit j=(decide (j<n) && !w.testBit j):=by
 rw[Nat.testBit_and,Nat.testBit_two_pow_sub_one,show 18446744073709551615-w=2^64-(w+1) by omega,dt o_]
 by_cases h:j<n
 ·simp[h,show j<64 by omega]
 ·simp[h]
theorem IL {w n:Nat}(hw:w<2^64)(hn:n<64)(h:(18446744073709551615-w) &&& (2^n-1)=0):jM w n= -1:=by
 have:fW w n=none:=by
  unfold fW;rw[bS];intro j hj;have hb:=vo (w:=w) (n:=n) (j:=j) hw hn;rw[h,Nat.zero_testBit] at hb;have ad:j<n:=by simpa using hj
  simpa[ad] using hb
 unfold jM;rw[this]
theorem G1 {w n:Nat}(hw:w<2^64)(hn:n<64)(h:(18446744073709551615-w) &&& (2^n-1)≠0):jM w n=(Go.Lib.ctz 64 ((18446744073709551615-w) &&& (2^n-1)):Nat):=by
 obtain⟨x,hx⟩:=Ii ((18446744073709551615-w) &&& (2^n-1));have hb:=fun j=>vo (w:=w) (n:=n) (j:=j) hw hn;rw[hx] at h hb⊢;have hlt:x<2^64:=by rw[<-hx];exact Nat.and_lt_two_pow _ (cO (Nat.sub_le _ _) (Nat.pow_lt_pow_right d_ hn))
 obtain⟨m,hm,hc⟩:=Go.Lib.ctzFrom_spec 64 x (Nat.pos_of_ne_zero h) hlt;have ad:Go.Lib.ctz 64 x=Go.Lib.ctzFrom 64 x:=by unfold Go.Lib.ctz;rw[if_neg h]
 rw[ad];generalize Go.Lib.ctzFrom 64 x=c at*;have b1:x.testBit c=true:=by
  rw[hm,Nat.testBit_two_pow_mul]
  simp
 have b2:∀j,j<c->x.testBit j=false:=fun j hj=>by
  rw[hm,Nat.testBit_two_pow_mul];have:¬c<=j:=o_
  simp[this]
 rw[hb c] at b1
 simp at b1
 have:fW w n=some c:=by
  unfold fW;rw[dh];refine⟨by simp[b1.2],by simpa using b1.1,fun j hj=>?_⟩;have:=b2 j hj;rw[hb j] at this;have ai:j<n:=o_
  simpa[ai] using this
 unfold jM;rw[this]
theorem zr(w n:Nat)(W:World)(hw:w<2^64)(hk:n<64)(hT:gA W):
 Cb 152 #[Xu w,Xi n] W (Xi (jM w n)):=by
 have hf:=zp n W hk;have hm:2^n-1<2^64:=by have:=me hk;omega
 have h0:=fun h=>IL (w:=w) (n:=n) hw hk h;have h1:=fun h=>G1 (w:=w) (n:=n) hw hk h;have ad:D_ W (W.alloc (.cells #[Xu (2^n-1:Nat)] 60)):=(aa _ W).alloc Ih _;have hc:=IA (18446744073709551615-w) (2^n-1) W.1.size (W.alloc (.cells #[Xu (2^n-1:Nat)] 60)) o_ hm s_;have hlt:(18446744073709551615-w) &&& (2^n-1)<2^64:=cO Nat.and_le_left o_;have hz:=Any7.bits_TrailingZeros64 laysNm729 ((18446744073709551615-w) &&& (2^n-1)) hlt (W.alloc (.cells #[Xu (2^n-1:Nat)] 60)) (fun _=>hT.a_ ad Ih);change Calls _ 197 _ _ _ at hz;have hx:bits BinOp.xor IntKind.u64 IntKind.u64.max (w:Int)=((18446744073709551615-w:Nat):Int):=by
  rw[show IntKind.u64.max=((18446744073709551615:Nat):Int) from rfl,bits_xor_u64_nat _ _ d_ hw]
  congr 1
  refine Nat.eq_of_testBit_eq fun i=>?_;rw[Nat.testBit_xor,show 18446744073709551615-w=2^64-(w+1) by omega,dt o_,show 18446744073709551615=2^64-1 from rfl,Nat.testBit_two_pow_sub_one]
  by_cases hi:i<64
  ·simp[hi]
  ·have:w.testBit i=false:=Nat.testBit_lt_two_pow (aB hw (cU (n:=2) d_ (show 64<=i by omega)))
   simp[hi,this]
 generalize (18446744073709551615-w) &&& (2^n-1)=x at*;generalize jM w n=fr at*;generalize hv:18446744073709551615-w=v at*;generalize 2^n-1=m at*;have HF:=kq4 hf hc hz ad;clear hf hc hz ad hv
 by_cases hx0:x=0
 ·subst hx0;obtain rfl:=h0 rfl;clear h0 h1;go_enter func152,ntmps152;go_wp2_with fail;refine Jc HF.a ?_;go_wp2_with fail;refine Jc HF.b ?_;go_wp2_with fail;go_ret;exact⟨rfl,HF.d⟩
 ·obtain rfl:=h1 hx0;have ai:((x:Int)==0)=false:=m_
  have an:¬(x:Int)=0:=o_
  clear h0 h1 hx0;go_enter func152,ntmps152;go_wp2_with fail;refine Jc HF.a ?_;go_wp2_with fail;refine Jc HF.b ?_;go_wp2_with fail;refine Jc HF.c ?_;go_wp2_with fail;go_ret;exact⟨rfl,HF.d⟩
end Go.Proofs.YtpljannolpapgaaGreatDoor
namespace Go.Proofs.YtpljannolpapgaaGreatDoor
open Go.RowKit Tryz Go.BigFrame Go.Maps Go.WideMaps Lf
variable{Y:Nat->Prop}{a:Nat}{blk:Nat->Nat}{p:Nat}{v:Value}{w:World}
theorem jP{s:r_}:p∈s.j_↔∃l,(p,l)∈s.B_:=by
 unfold r_.j_;simp
theorem oK{s:r_}(h:p∉s.j_):s.page? p=none:=by
 unfold r_.page?;rw[List.lookup_eq_none_iff];intro x hx;have:x.1≠p:=fun e=>h (by unfold r_.j_;exact az.2 ⟨x,hx,e⟩);simpa using fun e=>this e.S
theorem kK{s:r_}(h:p∈s.j_):∃l,s.page? p=some l/\(p,l)∈s.B_:=by
 unfold r_.j_ at h;unfold r_.page?;generalize s.B_=l at*
 induction l with
 | nil=>simp at h
 | cons x r ih=>
  by_cases e:p=x.1
  ·subst e;exact⟨x.2,by simp[List.lookup],s_⟩
  ·have h':p∈r.map (·.1):=by
    simp only[bi,ah] at h;exact h.resolve_left e
   obtain⟨l,h1,h2⟩:=ih h';exact⟨l,by rw[List.lookup_cons,show (p==x.1)=false by simpa using e];exact h1,ak _ h2⟩
theorem uq{s:r_}(h:gK<a):s.err a=2:=by unfold r_.err;rw[if_pos h]
theorem un{s:r_}(h:a<=gK)(hp:a / 64∉s.j_):s.err a=5:=by unfold r_.err;rw[if_neg o_,oK hp]
theorem Gt{s:r_}(h:a<=gK)(hp:a / 64∈s.j_):s.err a=0:=by
 obtain⟨l,h1,_⟩:=kK hp;unfold r_.err;rw[if_neg o_,h1]
theorem oR{s:r_}(hp:a / 64∉s.j_):s.rd a=0:=by unfold r_.rd;rw[oK hp]
theorem rY{s:r_}{l:fQ}(h:s.page? (a / 64)=some l):s.rd a=l.getD (a % 64) 0:=by unfold r_.rd;rw[h]
theorem eh.word{pa pm:Nat}{s:r_}(h:eh w pa pm s Y blk)(hp:a / 64∈s.j_):
 w.cell? ⟨blk (a / 64),a % 64,none⟩=some (Xu (s.rd a:Nat))/\w.frozen? ⟨blk (a / 64),a % 64,none⟩=false:=by
 obtain⟨l,h1,h2⟩:=kK hp;have hb:=h.pg _ h2;have hl:=h.wf.len _ h2;refine⟨?_,AT hb⟩;rw[q_ hb,rY h1];simp only at hl;have hlt:a % 64<l.length:=o_
 simp[List.getElem?_eq_getElem hlt]
theorem eh.rd_lt{pa pm:Nat}{s:r_}(h:eh w pa pm s Y blk)(a:Nat):s.rd a<2^64:=by
 by_cases hp:a / 64∈s.j_
 ·obtain⟨l,h1,h2⟩:=kK hp;rw[rY h1];have hl:=h.wf.len _ h2;simp only at hl;have hlt:a % 64<l.length:=o_
  rw[ay,af hlt];exact h.wf.word _ h2 _ (ao hlt)
 ·rw[oR hp];decide
theorem ly{pa pm:Nat}{s:r_}(h:eh w pa pm s Y blk):
 Ct 151 #[PV pa] w fun e w'=>e=.returned (.bool false)/\w=w':=by
 have c1:=h.cells.2;have hm:=run_eql_map_nil (P:=prog) w 153 3 235 (some pm) underlying153;clear h;go_enter func151,ntmps151
 go_wp2
 go_ret;exact⟨rfl,rfl⟩
theorem qLfaa{P:Prop}(h:P:=by
 go_enter func113,ntmps113;go_wp2_with fail;refine Jc hn.O ?_;go_wp2_with fail;go_ret2;exact⟨rfl,rfl⟩):P:=h
theorem wP{pa pm:Nat}{s:r_}(h:eh w pa pm s Y blk)(a:Nat)(ha:a<=2^62)(hp:a / 64∉s.j_\/gK<a):
 Ct 113 #[PV pa,Xi a] w fun e w'=>e=.returned (.tuple #[.pointer none,Xi (s.err a:Nat)])/\w=w':=by
 have c1:=h.cells.2;have hn:=If (ly h);have hl:=h.look (a / 64) o_;rw[show ((a / 64:Nat):Int)=(a:Int) / 64 from by simp] at hl
 by_cases ht:gK<a
 ·have he:=uq (s:=s) ht;generalize s.err a=er at*;subst he;unfold gK at ht;clear hl hp h;exact qLfaa
 ·have ad:a / 64∉s.j_:=hp.resolve_right ht;have he:=un (s:=s) o_ ad;generalize s.err a=er at*;subst he;unfold gK at ht;have hv:iE s.j_ blk (a / 64)=.pointer none:=by unfold iE;rw[if_neg ad]
  rw[hv] at hl;clear hv hp ad h;exact qLfaa
theorem Ei{pa pm:Nat}{s:r_}(h:eh w pa pm s Y blk)(a:Nat)(ha:a<=gK)(hp:a / 64∈s.j_):
 Ct 113 #[PV pa,Xi a] w fun e w'=>e=.returned (.tuple #[.pointer (some ⟨blk (a / 64),a % 64,none⟩),Xi 0])/\w=w':=by
 unfold gK at ha;have c1:=h.cells.2;have hn:=If (ly h);have hl:=h.look (a / 64) o_;rw[show ((a / 64:Nat):Int)=(a:Int) / 64 from by simp] at hl;have hv:iE s.j_ blk (a / 64)=PV (blk (a / 64)):=by unfold iE;rw[if_pos hp]
 rw[hv] at hl;have ad:((a:Int) % 64).toNat=a % 64:=o_
 have ai:(a:Int) % 64<64:=o_
 have an:0<=(a:Int) % 64:=o_
 clear hv hp h;generalize blk (a / 64)=b at*;exact qLfaa
theorem eh.atCases{pa pm:Nat}{s:r_}(h:eh w pa pm s Y blk)(a:Nat)(ha:a<=2^62):
 ((s.err a=0/\a / 64∈s.j_)/\Ct 113 #[PV pa,Xi a] w fun e w'=>e=.returned (.tuple #[.pointer (some ⟨blk (a / 64),a % 64,none⟩),Xi 0])/\w=w')\/
 ((0<s.err a/\s.rd a=0/\a / 64∉s.j_)/\Ct 113 #[PV pa,Xi a] w fun e w'=>e=.returned (.tuple #[.pointer none,Xi (s.err a:Nat)])/\w=w'):=by
 by_cases ht:gK<a
 ·have hk:a / 64∉s.j_:=fun hk=>by
   have:=h.wf.top _ hk;unfold gK at ht;omega
  exact ae ⟨⟨by rw[uq ht];decide,oR hk,hk⟩,wP h a ha (ae ht)⟩
 grind [Gt,Ei,un,oR,wP]
theorem wR{pa pm:Nat}{s:r_}(h:eh w pa pm s Y blk)(a:Nat)(ha:a<=2^62):
 Ct 69 #[PV pa,Xi a] w fun e w'=>e=.returned (.tuple #[Xu (s.rd a:Nat),Xi (s.err a:Nat)])/\w=w':=by
 rcases h.atCases a ha with⟨⟨he,hp⟩,hc⟩ | ⟨⟨he,hr,hp⟩,hc⟩
 ·obtain⟨c,_⟩:=h.word hp;generalize s.rd a=x at*;generalize blk (a / 64)=b at*;generalize a % 64=o at*;have HC:=If hc;go_enter func69,ntmps69;go_wp2_with fail;refine Jc HC.O ?_;go_wp2_with fail;go_ret2
  simp_all
 ·rw[hr];generalize s.err a=er at*;have hb:((er:Int) !=0)=true:=m_
  have ad:¬(er:Int)=0:=o_
  have HC:=If hc;go_enter func69,ntmps69;go_wp2_with fail;refine Jc HC.O ?_;go_wp2_with fail;go_ret2
  simp_all
theorem Fj{s:r_}{a x:Nat}(hp:a / 64∉s.j_):s.wr a x=s:=by
 unfold r_.wr;have:(s.B_.map fun y=>if y.1=a / 64 then(y.1,y.2.set (a % 64) x) else y)=s.B_:=by
  conv=>rhs;rw[<-dJ s.B_]
  refine bg fun y hy=>?_;have:y.1≠a / 64:=fun e=>hp (by unfold r_.j_;exact az.2 ⟨y,hy,e⟩)
  simp[this]
 rw[this]
theorem i9(s:r_)(a x:Nat):(s.wr a x).j_=s.j_:=by
 unfold r_.wr r_.j_;simp only[cQ];refine bg fun y _=>?_;grind
theorem kL(s:r_)(a x:Nat):(s.wr a x).B_.length=s.B_.length:=by
 unfold r_.wr;simp
theorem rF{s:r_}{a x:Nat}{y:Nat×fQ}(h:y∈(s.wr a x).B_):∃l,(y.1,l)∈s.B_/\y.2=if y.1=a / 64 then l.set (a % 64) x else l:=by
 grind [r_.wr]
theorem eQ.wr{s:r_}(h:eQ s)(a x:Nat)(hx:x<2^64):eQ (s.wr a x) where
 F1:=by rw[i9];exact h.F1
 len:=fun y hy=>by
  obtain⟨l,h1,h2⟩:=rF hy;have:=h.len _ h1;grind
 word:=fun y hy v hv=>by
  obtain⟨l,h1,h2⟩:=rF hy;have:=h.word _ h1;grind
 top:=by rw[i9];exact h.top
 room:=by rw[kL];exact h.room
 E1:=h.E1
theorem heap_setCell{b i:Nat}{cs:Array Value}{t:TypeId}{fr:Nat×Nat}(h:w.1[b]?=some (.cells cs t fr)):(w.setCell (x_ b i) v).1[b]?=some (.cells (cs.setIfInBounds i v) t fr):=by
 simp[World.setCell,Array.getElem?_modify,h]
theorem FB{b k i:Nat}(h:k≠b):(w.setCell (x_ b i) v).1[k]?=w.1[k]?:=cy w (x_ b i) v k h
theorem size_setCell(w:World)(a:Addr)(v:Value):(w.setCell a v).1.size=w.1.size:=by simp_all
theorem rN{w w':World}{P:Program}{k:TypeId}{R:Value->Option (DataW Unit×List MemPlace)}{b n:Nat}{D:DataW Unit}(h:w.ownsMap P k R b n D)(hb:w'.1[b]?=w.1[b]?):w'.ownsMap P k R b n D:=by
 obtain⟨es,ad,h1,F,hs,hD⟩:=h;exact⟨es,ad,hb.T h1,F,hs,hD⟩
theorem eh.map_block{pa pm:Nat}{s:r_}(h:eh w pa pm s Y blk):∃es clock,w.1[pm]?=some (.map es clock):=by
 obtain⟨es,clock,h1,_⟩:=h.map;grind
theorem eh.store{pa pm:Nat}{s:r_}(h:eh w pa pm s Y blk)(a x:Nat)(hx:x<2^64)(hp:a / 64∈s.j_):
 eh (w.setCell ⟨blk (a / 64),a % 64,none⟩ (Xu x)) pa pm (s.wr a x) Y blk/\Fo Y w (w.setCell ⟨blk (a / 64),a % 64,none⟩ (Xu x)):=by
 obtain⟨l,h1,h2⟩:=kK hp;have hb:=h.pg _ h2;have n1:pa≠blk (a / 64):=fun e=>by
  rw[<-e,h.hd] at hb
  grind
 have n2:pm≠blk (a / 64):=fun e=>by
  obtain⟨es,ai,hm⟩:=h.map_block
  grind
 have hY:∀k,Y k->k≠blk (a / 64):=fun k hk e=>h.yp _ hp (by grind);refine⟨⟨h.wf.wr a x hx,?_,?_,?_,?_,h.ya,h.ym,?_,?_⟩,⟨rfl,rfl,rfl,by simp_all,fun k hk=>FB (hY k hk)⟩⟩
 ·rw[FB n1];exact h.hd
 ·rw[kL,i9];exact rN h.map (FB n2)
 ·intro y hy;obtain⟨m,k1,k2⟩:=rF hy;have hm:=h.pg _ k1;have ad:y.1∈s.j_:=jP.2 ⟨_,k1⟩
  by_cases e:y.1=a / 64
  ·rw[k2,if_pos e];rw[e] at hm⊢;rw[heap_setCell hm]
   simp_all
  ·rw[k2,if_neg e,FB (fun e2=>e (h.inj _ ad _ hp e2))];omega
 ·rw[i9];exact h.inj
 ·rw[i9];exact h.yp
 ·intro k hk;rw[size_setCell];exact h.yl k hk
theorem Ep{pa pm:Nat}{s:r_}(h:eh w pa pm s Y blk)(a x:Nat)(ha:a<=2^62)(hx:x<2^64):
 Ct 66 #[PV pa,Xi a,Xu x] w fun e w'=>e=.returned (Xi (s.err a:Nat))/\eh w' pa pm (s.wr a x) Y blk/\Fo Y w w':=by
 rcases h.atCases a ha with⟨⟨he,hp⟩,hc⟩ | ⟨⟨he,hr,hp⟩,hc⟩
 ·obtain⟨c,f⟩:=h.word hp;have HS:=If (h.store a x hx hp);rw[he];generalize s.rd a=x0 at*;generalize s.wr a x=s1 at*;generalize blk (a / 64)=b at*;generalize a % 64=o at*;have HC:=If hc;go_enter func66,ntmps66;go_wp2_with fail;refine Jc HC.O ?_;go_wp2_with fail;go_ret;exact⟨rfl,HS.O⟩
 ·rw[Fj hp];generalize s.err a=er at*;have hb:((er:Int)==0)=false:=by grind
  have ad:¬(er:Int)=0:=o_
  have HC:=kq2 hc h;go_enter func66,ntmps66;go_wp2_with fail;refine Jc HC.a ?_;go_wp2_with fail;go_ret;exact⟨rfl,HC.b,Fo.refl _ _⟩
end Go.Proofs.YtpljannolpapgaaGreatDoor
namespace Go.Proofs.YtpljannolpapgaaGreatDoor
open Go.RowKit Tryz Go.BigFrame Go.Maps Go.WideMaps Lf
open Go.ChangeMaps (setBlock)
variable{Y:Nat->Prop}{blk:Nat->Nat}{ks:List Nat}{p:Nat}{w:World}
def iN(p:Nat):List Nat->List Nat
 | []=>[p]
 | x::r=>if x<p then x::iN p r else p::x::r
theorem BM(p:Nat)(l:fQ)(r:List (Nat×fQ)):(ins p l r).map (·.1)=iN p (r.map (·.1)):=by
 induction r with
 | nil=>rfl
 | cons x r ih=>
  simp only[ins,bi,iN]
  split
  ·grind
  ·rfl
theorem lV(s:r_)(p:Nat):(s.add p).j_=iN p s.j_:=BM p jB s.B_
theorem lX{p q:Nat}:q∈iN p ks↔q=p\/q∈ks:=by
 induction ks with
 | nil=>simp[iN]
 | cons x r ih=>
  unfold iN
  split
  ·grind
  ·simp
theorem Et(h:ks.Pairwise (·<·))(hp:p∉ks):(iN p ks).Pairwise (·<·):=by
 induction ks with
 | nil=>simp[iN]
 | cons x r ih=>
  unfold iN;simp only[ah,not_or] at hp
  split
  ·grind [List.pairwise_cons,lX]
  ·grind [List.pairwise_cons]
theorem rE{l:fQ}{r:List (Nat×fQ)}{y:Nat×fQ}:y∈ins p l r↔y=(p,l)\/y∈r:=by
 induction r with
 | nil=>simp[ins]
 | cons x r ih=>
  unfold ins
  split
  ·grind
  ·simp
theorem vp(p:Nat)(l:fQ)(r:List (Nat×fQ)):(ins p l r).length=r.length+1:=by
 induction r with
 | nil=>rfl
 | cons x r ih=>
  unfold ins
  split
  ·grind
  ·simp
theorem eQ.add{s:r_}(h:eQ s)(hp:p∉s.j_)(ht:p<=1048575)(hr:(s.B_.length+1)*64<=s.E1):eQ (s.add p) where
 F1:=by rw[lV];exact Et h.F1 hp
 len:=fun y hy=>by
  rcases rE.1 hy with rfl | hy
  ·simp[jB]
  ·exact h.len y hy
 word:=fun y hy v hv=>by
  rcases rE.1 hy with rfl | hy
  ·have:v=0:=by simpa[jB] using hv
   omega
  ·exact h.word y hy v hv
 top:=fun q hq=>by
  rw[lV] at hq;rcases lX.1 hq with rfl | hq
  ·omega
  ·exact h.top q hq
 room:=by
  show (ins p jB s.B_).length*64<=s.E1
  rw[vp];omega
 E1:=h.E1
theorem Dt(ks:List Nat)(blk:Nat->Nat)(p b:Nat)(hp:p∉ks):(fM ks blk).put (.int .i64 p) (.lit (.int .i64 b))=fM (iN p ks) fun q=>if q=p then b else blk q:=by
 unfold fM DataW.put;simp only
 congr 1
 have hf:((ks.map fun q:Nat=>(Lit.int .i64 (q:Int),DataW.lit (H:=Unit) (.int .i64 (blk q)))).filter fun x=> !x.1.sameKey (.int .i64 p))=ks.map fun q:Nat=>(Lit.int .i64 (q:Int),DataW.lit (H:=Unit) (.int .i64 (blk q))):=by
  grind [List.filter_eq_self,Int.ofNat.inj,Lit.sameKey]
 rw[hf];clear hf
 induction ks with
 | nil=>simp[iN,DataW.insert]
 | cons x r ih=>
  simp only[ah,not_or] at hp;simp only[bi,iN,DataW.insert,Lit.before]
  by_cases h:x<p
  ·grind
  ·have h2:(p:Int)<x:=o_
   have h3:¬x=p:=o_
   grind [List.map_congr_left]
theorem ls(ks:List Nat)(blk:Nat->Nat):Maps.size (fM ks blk)=ks.length:=by simp[fM,Maps.size]
theorem Ds(ks:List Nat)(blk:Nat->Nat)(p:Nat):(fM ks blk).del (.int .i64 p)=fM (ks.filter fun q=>q≠p) blk:=by
 unfold fM DataW.del;simp only
 congr 1
 rw[List.filter_map]
 congr 1
 refine List.filter_congr fun q _=>?_;simp only[Function.comp_apply,Lit.sameKey,true_and]
 grind
theorem wh{P:Program}{k:TypeId}{R:Value->Option (DataW Unit×List MemPlace)}{b n:Nat}{D:DataW Unit}(h:w.ownsMap P k R b n D):w.ownsMap P k R b (Maps.size D) D:=by
 obtain⟨es,ad,h1,F,hs,hD⟩:=h;refine⟨es,ad,h1,F,?_,hD⟩;rw[hD];simp[Maps.size,length_sorted]
theorem uX(hp:p<=9223372036854775807):(Lit.int .i64 (p:Int)).wf=true:=by
 have h1:IntKind.min .i64<=(p:Int):=by show (-9223372036854775808:Int)<=p;omega
 have h2:(p:Int)<=IntKind.max .i64:=by show (p:Int)<=9223372036854775807;omega
 simp only[Lit.wf,h1,h2,decide_true,Bool.and_self]
theorem i8(s:r_):s.j_.length=s.B_.length:=by simp[r_.j_]
theorem eh.more{pa pm:Nat}{s:r_}(h:eh w pa pm s Y blk)(hp:p∉s.j_)(ht:p<=1048575)(hr:(s.B_.length+1)*64<=s.E1):
 ∃w',(Instr.mapUpdate 153 (.map (some pm)) (Xi p) (PV w.1.size)).run prog (w.alloc (.cells (jB.map fun v:Nat=>Value.int .u64 v).toArray 237 (0,0)))=.ok () w'/\
  eh w' pa pm (s.add p) Y (fun q=>if q=p then w.1.size else blk q)/\Fo Y w w':=by
 obtain⟨a5,a4,a1⟩:=h.map_block;have a6:pm<w.1.size:=(gl a1);have hn:s.B_.length<maxLen:=by have:=h.wf.room;have:=h.wf.E1;unfold maxLen;omega
 obtain⟨w',a3,a2,es,ck,ar,ap,hm,rfl⟩:=(h.map.alloc (.cells (jB.map fun v:Nat=>Value.int .u64 v).toArray 237 (0,0))).store rn underlying153 hn (keyOf_int_mk underlying3 (uX (p:=p) o_)) (Du w.1.size);rw[Dt _ _ _ _ hp] at a2;have hold:∀k,k<w.1.size->k≠pm->(setBlock (w.alloc (.cells (jB.map fun v:Nat=>Value.int .u64 v).toArray 237 (0,0))) pm (.map ar ap)).1[k]?=w.1[k]?:=fun k hk ad=>by
  grind [ChangeMaps.heap_setBlock_other,Below.heap_alloc]
 have hlt:∀k,Y k->k<w.1.size/\k≠pm:=fun k hk=>⟨h.yl k hk,fun e=>h.ym (by grind)⟩;have ai:∀q∈s.j_,blk q<w.1.size/\blk q≠pm:=fun q hq=>by
  obtain⟨l,hl⟩:=jP.1 hq;have hb:=h.pg _ hl;grind
 have an:pa<w.1.size/\pa≠pm:=by
  refine⟨(gl h.hd),fun e=>?_⟩;have:=h.hd;grind
 refine⟨_,a3,⟨h.wf.add hp ht hr,?_,?_,?_,?_,h.ya,h.ym,?_,?_⟩,⟨rfl,rfl,rfl,?_,fun k hk=>hold k (hlt k hk).1 (hlt k hk).2⟩⟩
 ·rw[hold pa an.1 an.2];exact h.hd
 ·grind [wh,ls,lV,i8]
 ·intro x hx;rcases rE.1 hx with rfl | hx
  ·simp only[if_true];rw[ChangeMaps.heap_setBlock_other hm _ o_];show (w.1.push _)[w.1.size]?=_
   simp
  ·have hk:x.1∈s.j_:=jP.2 ⟨_,hx⟩;have ad:x.1≠p:=fun e=>hp (by grind);simp only[ad,if_false];rw[hold _ (ai _ hk).1 (ai _ hk).2];exact h.pg x hx
 ·intro a ha b hb;rw[lV] at ha hb;rcases lX.1 ha with ea | au<;>rcases lX.1 hb with eb | a0
  ·omega
  ·grind
  ·grind
  ·have h1:a≠p:=fun e=>hp (by grind);have h2:b≠p:=fun e=>hp (by grind);simp only[h1,h2,if_false];exact h.inj a au b a0
 ·intro q hq;rw[lV] at hq;rcases lX.1 hq with rfl | hq
  ·grind
  ·have ad:q≠p:=fun e=>hp (by grind);simp only[ad,if_false];exact h.yp q hq
 ·grind
 ·simp[setBlock]
theorem rh(s:r_)(p:Nat):(s.del p).j_=s.j_.filter fun q=>q≠p:=by
 unfold r_.del r_.j_;simp only;rw[List.filter_map];rfl
theorem mV{s:r_}{p q:Nat}:q∈(s.del p).j_↔q∈s.j_/\q≠p:=by
 rw[rh,dF];simp
theorem oC{s:r_}{x:Nat×fQ}:x∈(s.del p).B_↔x∈s.B_/\x.1≠p:=by
 unfold r_.del;simp
theorem eQ.del{s:r_}(h:eQ s)(p:Nat):eQ (s.del p) where
 F1:=by rw[rh];exact h.F1.filter _
 len:=fun y hy=>h.len y (oC.1 hy).1
 word:=fun y hy=>h.word y (oC.1 hy).1
 top:=fun q hq=>h.top q (mV.1 hq).1
 room:=by
  have h1:(s.del p).B_.length<=s.B_.length:=List.length_filter_le _ _;have:=h.room;show _<=s.E1
  omega
 E1:=h.E1
theorem eh.less{pa pm:Nat}{s:r_}(h:eh w pa pm s Y blk)(p:Nat)(hp:p<=9223372036854775807)(ty:TypeId):
 ∃w',(Builtin.delete_ #[153,3] ty #[.map (some pm),Xi p]).run prog w=.ok (.tuple #[]) w'/\eh w' pa pm (s.del p) Y blk/\Fo Y w w':=by
 obtain⟨w',au,ad,es,ck,an,ai,hm,rfl⟩:=h.map.drop rn underlying153 (keyOf_int_mk underlying3 (uX hp)) ty;rw[Ds,<-rh] at ad;have hold:∀k,k≠pm->(setBlock w pm (.map an ai)).1[k]?=w.1[k]?:=fun k hne=>ChangeMaps.heap_setBlock_other hm _ hne;have ar:pa≠pm:=fun e=>by
  have:=h.hd;rw[e,hm] at this
  cases this
 have ap:∀x∈s.B_,blk x.1≠pm:=fun x hx e=>by
  have hb:=h.pg x hx;rw[e,hm] at hb
  cases hb
 refine⟨_,au,⟨h.wf.del p,?_,?_,?_,?_,h.ya,h.ym,?_,?_⟩,⟨rfl,rfl,rfl,?_,fun k hk=>hold k fun e=>h.ym (by rw[<-e];exact hk)⟩⟩
 ·rw[hold pa ar];exact h.hd
 ·have:=wh ad;rw[ls,i8] at this;exact this
 ·intro x hx;rw[hold _ (ap x (oC.1 hx).1)];exact h.pg x (oC.1 hx).1
 ·intro a ha b hb;exact h.inj a (mV.1 ha).1 b (mV.1 hb).1
 ·intro q hq;exact h.yp q (mV.1 hq).1
 ·intro k hk;have:=h.yl k hk
  simp[setBlock]
  exact this
 ·simp[setBlock]
theorem Ej(w:World)(q:Nat)(hq:q<=262144)(Y:Nat->Prop)(hy:∀k,Y k->k<w.1.size):
 eh ((w.alloc (.map #[] 0)).alloc (.cells #[Xi q,.map (some w.1.size)] 155 (0,0))) (w.1.size+1) w.1.size ⟨q,[]⟩ Y (fun _=>0):=by
 refine⟨⟨by simp[r_.j_],s_,s_,by simp[r_.j_],s_,hq⟩,?_,?_,s_,by simp[r_.j_],?_,?_,by simp[r_.j_],?_⟩
 ·show (((w.1.push _).push _))[w.1.size+1]?=_
  rw[Array.getElem?_push,if_pos s_]
 ·have:=World.ownsMap_made w prog 3 l9;exact this.alloc _
 ·exact fun h=>absurd (hy _ h) o_
 ·exact fun h=>absurd (hy _ h) o_
 ·intro k hk;have:=hy k hk
  simp
  omega
theorem El(n:Nat)(w:World)(Y:Nat->Prop)(hy:∀k,Y k->k<w.1.size)(hn:n<=262144):
 Ct 44 #[Xi n] w fun e w'=>
  e=.returned (.tuple #[PV (w.1.size+1),Xi 0])/\eh w' (w.1.size+1) w.1.size ⟨n,[]⟩ Y (fun _=>0)/\Fo Y w w':=by
 have HS:=If (Ej w n hn Y hy);have ai:¬(262144:Int)<n:=o_
 have ad:= @run_makeMap prog;go_enter func44,ntmps44;go_wp2
 go_ret2;exact⟨rfl,HS.O,Fo.v_ (((aa _ w).alloc Ih _).alloc s_ _) hy⟩
end Go.Proofs.YtpljannolpapgaaGreatDoor
namespace Go.Proofs.YtpljannolpapgaaGreatDoor
open Go.RowKit Tryz Go.BigFrame Go.Maps Go.WideMaps Lf
variable{Y:Nat->Prop}{blk:Nat->Nat}{w:World}
theorem Dp{s:r_}{p:Nat}:(s.page? p).isSome=true↔p∈s.j_:=by
 constructor
 ·intro h;refine Classical.byContradiction fun hn=>?_;rw[oK hn] at h
  cases h
 ·intro h;obtain⟨l,h1,_⟩:=kK h;rw[h1]
  rfl
theorem si{s:r_}{n p:Nat}:s.runIs n p=true↔∀k,k<n->p+k∈s.j_:=by
 unfold r_.runIs;rw[List.all_eq_true];simp only[bw,Dp]
theorem J7{s:r_}{n p:Nat}:s.run n p=true↔∀k,k<n->p+k∉s.j_:=by
 unfold r_.run;rw[List.all_eq_true];simp only[bw];refine forall_congr' fun k=>imp_congr_right fun _=>?_;rw[Option.isNone_iff_eq_none]
 constructor
 ·intro h hk;obtain⟨l,h1,_⟩:=kK hk;rw[h1] at h
  cases h
 ·exact oK
theorem vL {s:r_}{p q:Nat}:∀{n:Nat},q∈(s.delRun p n).j_↔q∈s.j_/\¬(p<=q/\q<p+n)
 | 0=>by
  show q∈s.j_↔_
  constructor
  ·exact fun h=>⟨h,o_⟩
  ·exact fun h=>h.1
 | n+1=>by
  show q∈((s.delRun p n).del (p+n)).j_↔_
  rw[mV,vL];constructor
  ·rintro⟨⟨h1,h2⟩,h3⟩;exact⟨h1,o_⟩
  ·rintro⟨h1,h2⟩;exact⟨⟨h1,o_⟩,o_⟩
theorem En{pa pm:Nat}{s:r_}(h:eh w pa pm s Y blk)(p n:Nat)(hp:p<=1048575)(hn:n<=100000000):
 Ct 109 #[PV pa,Xi p,Xi n] w fun e w'=>e=.returned (Xi ((s.release p n).1:Nat))/\eh w' pa pm (s.release p n).2 Y blk/\Fo Y w w':=by
 have c1:=h.cells.2;have a0:=If (ly h)
 by_cases hg:n<1\/4096<n\/1048575+1<p+n
 ·have he:s.release p n=(2,s):=by unfold r_.release;rw[if_pos hg]
  rw[he];have H:=If h;have a1:n<1\/(1<=n/\4096<n)\/(1<=n/\n<=4096/\1048575+1<p+n):=o_
  clear h he hg
  rcases a1 with hg | ⟨au,hg⟩ | ⟨au,a2,hg⟩
  all_goals
   go_enter func109,ntmps109;go_wp2_with fail;refine Jc a0.O ?_;go_wp2_with fail;go_ret;exact⟨rfl,H.O,Fo.refl _ _⟩
 ·have au:1<=n:=o_
  have a2:n<=4096:=o_
  have a4:p+n<=1048576:=o_
  have a5:¬((1048575:Int)-n+1<p):=o_
  have he:s.release p n=if s.runIs n p then(0,s.delRun p n) else(5,s):=by unfold r_.release;rw[if_neg hg]
  obtain⟨R,hR⟩:=Ii (s.release p n);rw[hR] at he⊢;have HR:=If he;have HL:=If (fun k (hk:k<n)=>h.look (p+k) o_);have HS:=If h;clear he hg h hR;go_enter func109,ntmps109;go_wp2_with fail;refine Jc a0.O ?_;go_wp2_with fail
  go_loop [7,31] (fun _ i=>∃k:Nat,k<=n/\i=Xi k/\Hid (∀j,j<k->p+j∈s.j_)) (fun _ i=>n-(intOf i).toNat)
  case atStart=>exact⟨0,o_,rfl,fun j hj=>absurd hj o_⟩
  case round=>
   obtain⟨k,hk,rfl,ad⟩:=hrel
   by_cases hlt:k<n
   ·have hl:=HL.O k hlt;rw[show ((p+k:Nat):Int)=(p:Int)+k from by simp] at hl
    by_cases hm:p+k∈s.j_
    ·have hv:iE s.j_ blk (p+k)=PV (blk (p+k)):=by unfold iE;rw[if_pos hm]
     rw[hv] at hl;generalize blk (p+k)=b at*;have HM:=If hm;clear hv hm;go_wp2_with fail;go_round
     case rel=>exact⟨k+1,o_,by go_num,fun j hj=>by
      by_cases e:j=k
      ·rw[e];exact HM.O
      ·exact ad.O j o_⟩
     case measure=>simp[intOf];omega
    ·have hv:iE s.j_ blk (p+k)=.pointer none:=by unfold iE;rw[if_neg hm]
     rw[hv] at hl;have ai:s.runIs n p=false:=by
      refine Bool.eq_false_iff.2 fun hr=>hm (si.1 hr k hlt)
     have an:=If ai;clear hv hm ai;go_wp2_with fail;go_ret;obtain rfl:R=(5,s):=by rw[HR.O,an.O];rfl
     exact⟨rfl,HS.O,Fo.refl _ _⟩
   ·obtain rfl:k=n:=o_
    have ai:s.runIs k p=true:=si.2 ad.O;have an:=If ai;clear ad ai HL hlt c1 hk;go_wp2_with fail
    go_loopw [8,45] (fun _ i wr=>∃j:Nat,j<=k/\i=Xi j/\Hid (eh wr pa pm (s.delRun p j) Y blk/\Fo Y w wr)) (fun _ i _=>k-(intOf i).toNat)
    case atStart=>exact⟨0,o_,rfl,HS.O,Fo.refl _ _⟩
    case round=>
     obtain⟨j,hj,rfl,ad⟩:=hrel;have c1:=ad.O.1.cells.2
     by_cases hlt:j<k
     ·obtain⟨w1,a3,ar,ap⟩:=ad.O.1.less (p+j) o_ 0;rw[show ((p+j:Nat):Int)=(p:Int)+j from by simp] at a3;have HN:=kq2 ar ap;clear ar ap;go_wp2_with fail;go_roundw
      case rel=>exact⟨j+1,o_,by go_num,HN.a,ad.O.2.T HN.b⟩
      case measure=>simp[intOf];omega
     ·obtain rfl:j=k:=o_
      go_wp2_with fail;go_ret;obtain rfl:R=(0,s.delRun p j):=by rw[HR.O,an.O];rfl
      exact⟨rfl,ad.O⟩
theorem qH(n:Nat):∀(L:Nat) (ks:List Nat),ks.length<=L->∀a,∃t,a<=t/\t<=a+L*n/\∀k,k<n->t+k∉ks
 | 0,ks,hl,a=>⟨a,Nat.le_refl _,o_,fun k _=>by
  have:ks=[]:=bI.1 o_;rw[this];simp⟩
 | L+1,ks,hl,a=>by
  by_cases h:∀k,k<n->a+k∉ks
  ·exact⟨a,Nat.le_refl _,o_,h⟩
  ·have h2:∃k,k<n/\a+k∈ks:=by
    refine Classical.byContradiction fun hn=>h fun k hk hm=>hn ⟨k,hk,hm⟩
   obtain⟨k,hk,hm⟩:=h2;obtain⟨t,h1,h3,h4⟩:=qH n L (ks.filter fun q=>q≠a+k) (by
    have:(ks.filter fun q=>decide (q≠a+k)).length<ks.length:=by
     refine List.length_filter_lt_length_iff_exists.2 ⟨a+k,hm,s_⟩
    omega) (a+k+1)
   refine⟨t,o_,by rw[Nat.add_mul];omega,fun j hj hin=>?_⟩;exact h4 j hj (dF.2 ⟨hin,m_⟩)
theorem qE {s:r_}{n t:Nat}(ht:s.run n t=true):∀(f p:Nat),p<=t->t<p+f->(∀g,p<=g->g<t->s.run n g=false)->s.firstRun n f p=t
 | 0,p,h1,h2,_=>by omega
 | f+1,p,h1,h2,h3=>by
  unfold r_.firstRun;by_cases e:p=t
  ·rw[e,ht,if_pos rfl]
  ·rw[h3 p Ih o_];exact qE ht f (p+1) o_ o_ fun g hg hg2=>h3 g o_ hg2
theorem nK {s:r_}{p q:Nat}:∀{n:Nat},q∈(s.G0 p n).j_↔q∈s.j_\/(p<=q/\q<p+n)
 | 0=>by
  show q∈s.j_↔_
  constructor
  ·exact fun h=>ab h
  ·rintro(h | h)
   ·exact h
   ·omega
 | n+1=>by
  show q∈((s.G0 p n).add (p+n)).j_↔_
  rw[lV,lX,nK];constructor
  ·rintro(h | h | h)
   ·exact ae o_
   ·exact ab h
   ·exact ae o_
  ·rintro(h | h)
   ·exact ae (ab h)
   ·by_cases e:q=p+n
    ·exact ab e
    ·exact ae (ae o_)
theorem mu(s:r_)(p:Nat):∀n,(s.G0 p n).B_.length=s.B_.length+n
 | 0=>rfl
 | n+1=>by
  show (ins _ _ _).length=_
  rw[vp,mu s p n];omega
theorem mw(s:r_)(p:Nat):∀n,(s.G0 p n).E1=s.E1
 | 0=>rfl
 | n+1=>mw s p n
theorem Fl:(jB.map fun v:Nat=>Value.int .u64 v).toArray=#[Xu 0,Xu 0,Xu 0,Xu 0,Xu 0,Xu 0,Xu 0,Xu 0,Xu 0,Xu 0,Xu 0,Xu 0,Xu 0,Xu 0,Xu 0,Xu 0,Xu 0,Xu 0,Xu 0,Xu 0,Xu 0,Xu 0,Xu 0,Xu 0,Xu 0,Xu 0,Xu 0,Xu 0,Xu 0,Xu 0,Xu 0,Xu 0,Xu 0,Xu 0,Xu 0,Xu 0,Xu 0,Xu 0,Xu 0,Xu 0,Xu 0,Xu 0,Xu 0,Xu 0,Xu 0,Xu 0,Xu 0,Xu 0,Xu 0,Xu 0,Xu 0,Xu 0,Xu 0,Xu 0,Xu 0,Xu 0,Xu 0,Xu 0,Xu 0,Xu 0,Xu 0,Xu 0,Xu 0,Xu 0]:=k_
theorem eh.drewN{pa pm:Nat}{s:r_}(h:eh w pa pm s Y blk)(n:Nat):eh (w.drewN n) pa pm s Y blk:=
 ⟨h.wf,h.hd,h.map,h.pg,h.inj,h.ya,h.ym,h.yp,h.yl⟩
theorem Oc{s:r_}{n:Nat}:∀t,s.run n t=true->∃t',t'<=t/\s.run n t'=true/\∀g,g<t'->s.run n g=false:=by
 intro t
 induction t using Nat.strongRecOn with
 | _ t ih=>
  intro h
  by_cases hg:∀g,g<t->s.run n g=false
  ·exact⟨t,Nat.le_refl _,h,hg⟩
  ·have:∃g,g<t/\s.run n g=true:=by
    refine Classical.byContradiction fun hn=>hg fun g hlt=>?_
    cases hr:s.run n g with
    | false=>rfl
    | true=>exact absurd ⟨g,hlt,hr⟩ hn
   obtain⟨g,hlt,hr⟩:=this;obtain⟨t',h1,h2,h3⟩:=ih g hlt hr;exact⟨t',o_,h2,h3⟩
theorem Ek{pa pm:Nat}{s:r_}(h:eh w pa pm s Y blk)(n:Nat)(hn:n<=100):
 Ct 104 #[PV pa,Xi n] w fun e w'=>e=.returned (.tuple #[Xi ((s.grant n).1.1:Nat),Xi ((s.grant n).1.2:Nat)])/\(∃ad,eh w' pa pm (s.grant n).2 Y ad)/\Fo Y w w':=by
 have c0:=h.cells.1;have c1:=h.cells.2;have ap:=If (ly h);obtain⟨R,hR⟩:=Ii (s.grant n)
 by_cases hg:n<1
 ·have he:s.grant n=((0,2),s):=by unfold r_.grant;rw[if_pos (ab hg)]
  rw[hR] at he⊢;have HR:=If he;have H:=If h;clear h he hR;go_enter func104,ntmps104;go_wp2_with fail
  go_step3
  go_wp2_with fail;refine Jc ap.O ?_;go_wp2_with fail;go_ret2;obtain rfl:R=((0,2),s):=HR.O;exact⟨rfl,⟨_,H.O⟩,Fo.refl _ _⟩
 ·have bs:=h.wf.room;have bq:=h.wf.E1;have hL:s.B_.length<=4096:=o_
  have bm:∀(q:Nat) (ty:TypeId),(Builtin.len_ #[153] ty #[.map (some pm)]).run prog (w.drewN q)=.ok (Xi (s.B_.length:Nat)) (w.drewN q):=fun q ty=>by
   have:=World.ownsMap.len (w:=w.drewN q) h.map underlying153 ty;rw[ls,i8] at this;exact this
  have an:¬(n<1\/4096<n):=o_
  by_cases hq:s.E1<(s.B_.length+n)*64
  ·have he:s.grant n=((0,3),s):=by unfold r_.grant;rw[if_neg an,if_pos hq]
   rw[hR] at he⊢;have HR:=If he;have H:=If h;have bf:(s.E1:Int)<((s.B_.length:Int)+n)*64:=o_
   generalize s.B_.length=L at*;generalize s.E1=Q at*;have ar:IntKind.i64.wrap ((L:Int)+n)=(L:Int)+n:=ax _ o_;have au:IntKind.i64.wrap (((L:Int)+n)*64)=((L:Int)+n)*64:=ax _ o_;have bc:1<=n:=o_
   clear h he hR hq an hg;go_enter func104,ntmps104;go_wp2_with fail
   go_step3
   go_wp2_with fail;refine Jc ap.O ?_;go_wp2_with fail
   go_quiet (fail)
   clear ar au;go_wp2_with fail
   try rw[Exit.noGoto_ret]
   go_ret2;obtain rfl:R=((0,3),s):=HR.O;exact⟨rfl,⟨_,H.O.drewN _⟩,Fo.drewN _ _ _⟩
  ·have a9:(s.B_.length+n)*64<=s.E1:=o_
   obtain⟨t,_,bk,a'⟩:=qH n s.B_.length s.j_ (by rw[i8];exact Nat.le_refl _) 0;have ba:s.B_.length*n<=4096*100:=Nat.mul_le_mul hL hn;have ht:t<=409600:=o_
   have bb:∃t',t'<=t/\s.run n t'=true/\∀g,g<t'->s.run n g=false:=by
    exact Oc t (J7.2 a')
   obtain⟨t',bu,a0,a1⟩:=bb;have a7:s.firstRun n (s.B_.length*n+1) 0=t':=qE a0 _ 0 (cC _) o_ fun g _ hg=>a1 g hg;have he:s.grant n=((t',0),s.G0 t' n):=by unfold r_.grant;rw[if_neg an,if_neg hq,a7]
   rw[hR] at he⊢;have HR:=If he;have H:=If h;have HT:=kq2 a0 a1;have bf:¬(s.E1:Int)<((s.B_.length:Int)+n)*64:=o_
   have HQ:=If a9;have bo:=If (fun k (hk:k<=1000000)=>h.look k o_);generalize a4:s.B_.length=L at*;generalize a5:s.E1=Q at*;have ar:IntKind.i64.wrap ((L:Int)+n)=(L:Int)+n:=ax _ o_;have au:IntKind.i64.wrap (((L:Int)+n)*64)=((L:Int)+n)*64:=ax _ o_;have bc:1<=n:=o_
   have a2:=kq2 a4 a5;clear h he hR hq an hg a0 a1 a9 a7 ba a' bk a4 a5;go_enter func104,ntmps104;go_wp2_with fail
   go_step3
   go_wp2_with fail;refine Jc ap.O ?_;go_wp2_with fail
   go_quiet (fail)
   clear ar au;go_wp2_with fail
   go_step3
   go_wp2_with fail
   go_loopg [6,7] t' (fun g i _ wr=>∃f:Nat,f+g=t'/\i=Xi f/\wr=w.drewN nq)
   case atStart=>exact⟨0,o_,rfl,rfl⟩
   case round=>
    obtain⟨f,hf,rfl,rfl⟩:=hrel;go_wp2_with fail
    go_loopg [6,7,34] n (fun g x _ i wr=>x=Xi f/\∃k:Nat,k+g=n/\i=Xi k/\wr=w.drewN nq/\Hid (∀j,j<k->f+j∉s.j_))
    case atStart=>exact⟨rfl,0,o_,rfl,rfl,fun j hj=>absurd hj o_⟩
    case round=>
     obtain⟨rfl,k,hk,rfl,rfl,ai⟩:=hrel
     by_cases hlt:k<n
     ·have hl:=(H.O.drewN nq).look (f+k) o_;rw[show ((f+k:Nat):Int)=(f:Int)+k from by simp] at hl
      by_cases hm:f+k∈s.j_
      ·have hv:iE s.j_ blk (f+k)=PV (blk (f+k)):=by unfold iE;rw[if_pos hm]
       rw[hv] at hl;have a8:f+k+1<=t':=by
        refine Classical.byContradiction fun hc=>?_;have:=J7.1 HT.a (f+k-t') o_;rw[show t'+(f+k-t')=f+k by omega] at this;exact this hm
       generalize blk (f+k)=b at*;clear hv hm;go_wp2_with fail
       go_roundg (t'-(f+(k+1)))
       case rel=>exact⟨f+(k+1),o_,by go_num,rfl⟩
       case measure=>omega
      ·have hv:iE s.j_ blk (f+k)=.pointer none:=by unfold iE;rw[if_neg hm]
       rw[hv] at hl;have HM:=If hm;clear hv hm;go_wp2_with fail
       go_roundg (n-(k+1))
       case rel=>exact⟨rfl,k+1,o_,by go_num,rfl,fun j hj=>by
        by_cases e:j=k
        ·rw[e];exact HM.O
        ·exact ai.O j o_⟩
       case measure=>omega
     ·obtain rfl:k=n:=o_
      have a8:f=t':=by
       by_cases e:f=t'
       ·exact e
       ·have h1:=HT.b f o_;rw[J7.2 ai.O] at h1
        cases h1
      subst a8;clear hlt ai;go_wp2_with fail;have bt:f+k<=1048576:=o_
      go_loopw [8,52] (fun _ i wr=>∃j:Nat,j<=k/\i=Xi j/\Hid ((∃ad,eh wr pa pm (s.G0 f j) Y ad)/\Fo Y w wr)) (fun _ i _=>k-(intOf i).toNat)
      case atStart=>exact⟨0,o_,rfl,⟨_,H.O.drewN nq⟩,Fo.drewN _ _ _⟩
      case round=>
       obtain⟨j,hj,rfl,ai⟩:=hrel;obtain⟨⟨ad,hS⟩,hK⟩:=ai;have c1:=hS.cells.2
       by_cases hlt:j<k
       ·have bd:f+j∉(s.G0 f j).j_:=fun hc=>by
         rcases nK.1 hc with hc | hc
         ·exact J7.1 HT.a j hlt hc
         ·omega
        obtain⟨w1,bj,a6,a3⟩:=hS.more bd o_ (by
         rw[mu,mw];have h1:=HQ.O;have h2:=a2.a;have h3:=a2.b;omega)
        rw[show ((f+j:Nat):Int)=(f:Int)+j from by simp,Fl] at bj;have HN:=kq2 a6 (hK.T a3);clear a6 a3 hK hS;go_wp2_with fail;go_roundw
        case rel=>exact⟨j+1,o_,by go_num,⟨_,HN.a⟩,HN.b⟩
        case measure=>simp[intOf];omega
       ·obtain rfl:j=k:=o_
        have HE:=kq2 (Exists.intro ad hS) hK;clear hS hK;go_wp2_with fail
        try rw[Exit.noGoto_ret]
        go_ret2;obtain rfl:R=((f,0),s.G0 f j):=HR.O;exact⟨rfl,HE.O⟩
end Go.Proofs.YtpljannolpapgaaGreatDoor
namespace Go.Proofs.YtpljannolpapgaaGreatDoor
open Go.RowKit Tryz Go.BigFrame Go.Maps Go.WideMaps Lf
open Go.Sort Go.Shelf
variable{blk:Nat->Nat}{ks:List Nat}{v:Value}{w:World}
theorem wY(m:Nat):AnyZI.SortsIn prog sortedA_ren Fence.wide m:=
 ⟨fun blk off cap ss W hH hblk hsz=>callsIn_wide.2 (AnyM.slices_Sort_int sortA blk off cap ss W hH hblk hsz),
  fun p cap W=>callsIn_wide.2 (AnyM.slices_Sort_int_none sortA p cap W)⟩
def kU(w:World)(B:Nat)(v:Value)(ks:List Nat):Prop:=
 ∃A c,v=.slice A ks.length c/\∀(i:Nat) (h:i<ks.length),∃b o:Nat,A=some (x_ b o)/\B<=b/\b<w.1.size/\w.cell? ⟨b,o+i,none⟩=some (Xi ks[i])
theorem BH{B:Nat}(h:w.ownsRow B 3 1 v ks.length (ks.map fun k:Nat=>Value.int .i64 k)):kU w B v ks:=by
 rcases h.2 with⟨h0,hx⟩ | ⟨g,ai,ad,hv,hg,hb,h1,h2,h3,h4⟩
 ·have:ks=[]:=by grind
  subst this;exact⟨none,0,by grind,fun i hi=>absurd hi s_⟩
 ·refine⟨_,_,hv,fun i hi=>⟨g,0,rfl,hg,(gl hb),?_⟩⟩;have hlt:i<ad.size:=o_
  rw[q_ hb];have e:(ad.toList.take (ks.length*1))[i]?=(ks.map fun k:Nat=>Value.int .i64 k)[i]?:=by rw[h4]
  grind
theorem kU.M{B B':Nat}(h:kU w B v ks)(hB:B'<=B):kU w B' v ks:=by
 obtain⟨A,c,h1,h2⟩:=h;refine⟨A,c,h1,fun i hi=>?_⟩;grind
theorem wX{s:r_}(h:eQ s){ss:List Int}(hp:ss.Perm (intKeys (fM s.j_ blk))):ss.length=s.j_.length/\(ss.mergeSort fun x y=>decide (x<=y)).map encZ=s.j_.map fun k:Nat=>Value.int .i64 k:=by
 have hk:intKeys (fM s.j_ blk)=s.j_.map fun k:Nat=>(k:Int):=by
  show ((s.j_.map fun p:Nat=>(Lit.int .i64 (p:Int),DataW.lit (H:=Unit) (.int .i64 (blk p)))).map fun p=>Go.intOf p.1)=_
  rw[cQ]
  rfl
 rw[hk] at hp;refine⟨by rw[hp.length_eq,am],?_⟩;have e1:(ss.mergeSort fun x y=>decide (x<=y))=(s.j_.map fun k:Nat=>(k:Int)).mergeSort fun x y=>decide (x<=y):=mergeSort_of_perm_i hp;have e2:((s.j_.map fun k:Nat=>(k:Int)).mergeSort fun x y=>decide (x<=y))=s.j_.map fun k:Nat=>(k:Int):=by
  refine List.mergeSort_of_pairwise ?_;rw[dM];refine h.F1.imp fun {a b} hab=>?_;simp only[decide_eq_true_eq];omega
 simp_all
theorem wQ{pa pm:Nat}{s:r_}{Y:Nat->Prop}(h:eh w pa pm s Y blk):
 Ct 132 #[PV pa] w fun e w'=>∃v,e=.returned v/\kU w' w.1.size v s.j_/\D_ w w':=by
 refine(callsIn_wide (n:=6)).1 ?_;have c1:=h.cells.2;have ap:CallsIn Fence.wide 5 prog 151 #[PV pa] w _:=callsIn_wide.2 (ly h);have an:Maps.size (fM s.j_ blk)<=maxLen:=by
  rw[ls,i8];have:=h.wf.room;have:=h.wf.E1;unfold maxLen;omega
 have ai:Maps.size (fM s.j_ blk)*8<=140737488355328:=by
  rw[ls,i8];have:=h.wf.room;have:=h.wf.E1;omega
 have ar:SeqGives Fence.wide 2 prog 203 #[.pointer (some (y_ w.1.size))] encZ (fun ss=>ss.Perm (intKeys (fM s.j_ blk))) (Maps.size (fM s.j_ blk)) (w.alloc (.cells #[.map (some pm)] 153)):=
  AnyZI.keys_gives (ρ:=keysA_ren) { keysA with } Fence.wide _ trivial rfl o_ w.1.size pm s.B_.length (fM s.j_ blk) _ s_ s_ (by
   obtain⟨es,ad,hb,Ft,hs,hD⟩:=h.map;exact⟨es,ad,(cL _ _ pm h.map.lt).T hb,Ft,hs,hD⟩)
 have cK:∀mb W,CallsIn Fence.wide 5 prog 170 #[.map mb] W fun e w'=>e=.returned (.func (.func 203) #[] #[.pointer (some (y_ W.1.size))])/\w'=W.alloc (.cells #[.map mb] 153):=fun mb W=>AnyZI.keys_in keysA Fence.wide 5 trivial rfl mb W;have cS:=AnyZI.sorted_in sortedA Fence.wide 5 trivial trivial trivial trivial rfl o_ (wY _) (enters_of func202 k_ rfl) 203 #[.pointer (some (y_ w.1.size))] trivial (enters_of func203 k_ rfl) _ _ an ai _ ar;change CallsIn _ _ prog 169 _ _ _ at cS;have au:Fence.wide.fn 170:=trivial;have a1:Fence.wide.fn 169:=trivial;have a0:Fence.wide.fn 151:=trivial;have HS:=If h;refine callsIn_of_wp func132 rfl trivial ?_ rfl;simp only[ntmps132,aS,aj,aL,Nat.reduceAdd,Nat.reduceSub,aO,aP,aT,aR,aX,aJ]
 gi_wp2_with (first
  | (gi_at_call 151;refine ap.M ?_;rintro e w' ⟨rfl,rfl⟩)
  | (gi_at_call 170;refine(cK _ _).M ?_;rintro e w' ⟨rfl,rfl⟩)
  | (gi_at_call 169;refine cS.M ?_;rintro e w' ⟨v,ss,rfl,hS,C_,a2,hb⟩))
 go_ret;obtain⟨hl,hm⟩:=wX HS.O.wf hS;rw[hm,hl] at C_;exact⟨v,rfl,(BH C_).M s_,((aa _ w).alloc Ih _).T (hb.M s_)⟩
end Go.Proofs.YtpljannolpapgaaGreatDoor
namespace Go.Proofs.YtpljannolpapgaaGreatDoor.Qt
open Go Go.RowKit
section
variable {P:Program}{ops:Array Oper}{md:Region.Mode}{C:World->Prop}
def nE(P:Program)(md:Region.Mode)(ops:Array Oper)(C:World->Prop)(n:Nat)(L:Array Bool->Act->Prop):Nat->Array Bool->Act->Prop
 | 0,listed,a=>L listed a
 | f+1,listed,a=>
  Region.ready md ops listed≠[]/\∀i∈Region.ready md ops listed,i<n/\qOp P ops C i (nE P md ops C n L f (listed.setIfInBounds i true)) a
theorem wpAny_of_head {n g:Nat}{L:Array Bool->Act->Prop}{Q':Exit->Act->World->Prop}(hL:∀listed a w,C w->L listed a->wpAny P md ops Q' g listed a w):
 ∀(f:Nat) (listed:Array Bool) (a:Act) (w:World),C w->nE P md ops C n L f listed a->wpAny P md ops Q' (f+g) listed a w
 | 0,listed,a,w,hC,h=>by rw[bz];exact hL _ _ _ hC h
 | f+1,listed,a,w,hC,h=>by
  rw[show f+1+g=(f+g)+1 by omega];exact⟨fun h0=>absurd h0 h.1,fun i hi=>wpOp_of_qOp hC (fun a' w' hC' h'=>wpAny_of_head hL f _ a' w' hC' h') (h.2 i hi).2⟩
theorem Fb {n i:Nat}{oi:Oper}{v:Value}{L:Array Bool->Act->Prop}(hi:ops[i]?=some oi)(hsel:∀(j:Nat) (o:Oper) cs b,ops[j]?=some o->o.op≠ .select cs b)
 (hs:Region.sinkB md ops n=true) (hc:Region.chainB md ops n=true) (hn:n<ops.size) (hin:i<n)
 (hdone:∀ad a,L ad a->∀j∈Region.ready md ops ad,n<=j):
 ∀(f:Nat) (ad:Array Bool) (a:Act),HeadInv md ops n ad->
  (∀j oj,ops[j]?=some oj->j≠i->ad.getD j true=false->(∀e∈oj.after,Region.binds md e=true->e.on≠i)->oi.apart ops oj=true)->
  i∈Region.ready md ops ad->YieldsIn P ops C oi v a->
  nE P md ops C n L f (ad.setIfInBounds i true) (a.put oi.dst v)->nE P md ops C n L (f+1) ad a:=by
 intro f;induction f with
 | zero=>
  intro ad a inv _ hr hy H;refine⟨fun h=>(by grind),fun j hj=>?_⟩;have an:j<n:=by
   rcases cE j n with h | h
   ·exact h
   ·exact absurd hj (tail_waits hs hc hn inv _ i rfl hin ((mem_ready.1 hr).1) j h)
  refine⟨an,?_⟩;by_cases hji:j=i
  ·subst hji;exact hy.qOp hi H
  ·have:=hdone _ _ H j (ready_mono hj hji);omega
 | succ f ih=>
  intro ad a inv hfree hr hy H;have ai:=(mem_ready.1 hr).1;refine⟨fun h=>(by grind),fun j hj=>?_⟩;have an:j<n:=by
   rcases cE j n with h | h
   ·exact h
   ·exact absurd hj (tail_waits hs hc hn inv _ i rfl hin ai j h)
  refine⟨an,?_⟩;by_cases hji:j=i
  ·subst hji;exact hy.qOp hi H
  ·have h1:=(H.2 j (ready_mono hj hji)).2;obtain⟨ar,oj,ap,au⟩:=mem_ready.1 hj;have a1:∀e∈oj.after,Region.binds md e=true->e.on≠i:=fun e he hb heq=>by
    have h1:=au e he hb;rw[heq,getD_both ai] at h1;cases h1
   have a0:∀k ok,ops[k]?=some ok->k≠i->(ad.setIfInBounds j true).getD k true=false->
    (∀e∈ok.after,Region.binds md e=true->e.on≠i)->oi.apart ops ok=true:=fun k ok hk hki ai hno=>by
    refine hfree k ok hk hki ?_ hno;by_cases hjk:j=k
    ·subst hjk;exact ar
    ·rw[getD_set_ne true hjk] at ai;exact ai
   refine qOp_mono (fun a' h3=>ih (ad.setIfInBounds j true) a' (inv.set hj an) a0 (ready_mono hr (Ne.S hji)) h3.1 ?_) (qOp_put ap (hfree j oj ap hji ar a1) (fun cs b=>hsel i oi cs b hi) (fun cs b=>hsel j oj cs b ap) hy h1);rw[Array.setIfInBounds_comm _ _ hji];grind
theorem wpAnyQL_lex {n g:Nat}{Lq:Act->Prop}(hsel:Region.noSelect ops=true)(hs:Region.sinkB md ops n=true)(hc:Region.chainB md ops n=true)(hn:n<ops.size):
 ∀(l:List Oper) (k:Nat) (listed:Array Bool) (a:Act),(∀j,j<l.length->l[j]?=ops[k+j]?)->k+l.length=n->HeadInv md ops n listed->
 Region.lexHead md ops g l.length k listed=true->wpQuiet P ops C Lq l a->
 nE P md ops C n (fun listed' a'=>Region.seqB md ops g n listed'=true/\Lq a') l.length listed a
 | [],k,listed,a,_,hk,_,hB,h=>by
  have:k=n:=o_
  subst this;exact⟨by simpa[Region.lexHead] using hB,h⟩
 | o::l,k,listed,a,hl,hk,inv,hB,h=>by
  have h0:ops[k]?=some o:=by simpa using(hl 0 s_).S
  simp only[aj,Region.lexHead,aM] at hB;obtain⟨⟨hr,hf⟩,an⟩:=hB;have ad:k<n:=by grind
  have ai:k∈Region.ready md ops listed:=by grind
  have ap:qOp P ops C k (wpQuiet P ops C Lq l) a:=by unfold qOp;simp only[h0];exact h
  obtain⟨v,hy,hK⟩:=yieldsIn_of_qOp h0 ap;exact Fb h0 (Region.noSelect_spec hsel) hs hc hn ad (fun listed' a' hL=>seqB_ready hL.1) l.length listed a inv (Region.free_spec h0 hf) ai hy
   (wpAnyQL_lex hsel hs hc hn l (k+1) _ _ (fun j hj=>by have:=hl (j+1) m_;grind) (by grind) (inv.set ai ad) an hK)
end
end Qt
theorem lD {P:Program}{C:World->Prop}{id:Nat}{Q:Exit->Act->World->Prop}{a:Act}{w:World}{l:List Oper}(n:Nat)(hm:P.follows .mixedOrders=true)(hB:Region.lexTailB .any l.toArray n=true)(hC:C w.drew)
 (h:wpQuiet P l.toArray C (fun a'=>∀w',C w'->wpList P l.toArray Q (l.drop n) a' w') (l.take n) a):(Code.region id l.toArray true).wp P Q a w:=by
 simp only[Region.lexTailB,aM,decide_eq_true_eq] at hB;obtain⟨⟨⟨⟨ar,hn⟩,hs⟩,hc⟩,ap⟩:=hB;have a0:n<l.length:=by simpa using hn
 have ad:(l.take n).length=n:=m_
 have ai:(l.drop n).length=l.toArray.size-n:=s_
 have au:HeadInv .any l.toArray n (Array.replicate l.toArray.size false):=
  ⟨s_,fun j oj _ hl=>(by rw[getD_replicate_false] at hl;cases hl),fun t _ ht=>getD_in (by simpa using ht) (getD_replicate_false _ _)⟩
 have H:=Qt.wpAnyQL_lex (md:=.any) (g:=l.toArray.size-n) ar hs hc hn (l.take n) 0 _ a (fun j hj=>by
  have an:j<n:=by rw[ad] at hj;exact hj
  simp[an]) (by simpa using ad) au (by rw[ad];exact ap) h
 refine wp_region_any hm ?_;have:=Qt.wpAny_of_head (Q':=Q) (g:=l.toArray.size-n) (fun listed a' w' hC' hL=>by
  have:=wpAny_of_seq (md:=.any) (Q':=Q) (l.drop n) n listed a' w' (fun j=>by simp[List.getElem?_drop]) (by rw[ai];exact hL.1) (hL.2 w' hC');rwa[ai] at this) _ _ _ _ (show C { w with drawn:=w.drawn+1 } from hC) H
 grind
end Go.Proofs.YtpljannolpapgaaGreatDoor
namespace Go.Proofs.YtpljannolpapgaaGreatDoor
open Go.RowKit Tryz Go.BigFrame Go.Maps Go.WideMaps Lf
variable{Y:Nat->Prop}{blk:Nat->Nat}{w:World}
abbrev fy:Nat:=1
theorem eh.of_keep{w w':World}{pa pm:Nat}{s:r_}(h:eh w pa pm s Y blk)(hs:w.1.size<=w'.1.size)(hb:∀k,k<w.1.size->(k=pa\/k=pm\/∃p∈s.j_,k=blk p)->w'.1[k]?=w.1[k]?):eh w' pa pm s Y blk where
 wf:=h.wf
 hd:=by rw[hb pa (gl h.hd) (ab rfl)];exact h.hd
 map:=rN h.map (hb pm h.map.lt (ae (ab rfl)))
 pg:=fun x hx=>by
  have h1:=h.pg x hx;grind [Array.getElem?_eq_some_iff,jP]
 inj:=h.inj
 ya:=h.ya
 ym:=h.ym
 yp:=h.yp
 yl:=fun k hk=>aB (h.yl k hk) hs
theorem eh.a_{w w':World}{pa pm:Nat}{s:r_}(h:eh w pa pm s Y blk)(hb:D_ w w'):eh w' pa pm s Y blk:=
 h.of_keep hb.size fun k hk _=>hb.block k hk
structure Fz (w:World) (ph pa pm:Nat) (s:r_) (Y:Nat->Prop):Prop where
 slab:∃blk,eh w pa pm s Y blk
 hp:w.1[ph]?=some (.cells #[PV pa] 160 (0,0))
 yh:Y ph
 tab:gA w
 yt:Y fy
theorem Fz.yl{ph pa pm:Nat}{s:r_}(h:Fz w ph pa pm s Y):∀k,Y k->k<w.1.size:=by
 obtain⟨ad,hs⟩:=h.slab;exact hs.yl
theorem Fz.wf{ph pa pm:Nat}{s:r_}(h:Fz w ph pa pm s Y):eQ s:=by
 obtain⟨ad,hs⟩:=h.slab;exact hs.wf
theorem Fz.step{w w':World}{ph pa pm:Nat}{s s':r_}(h:Fz w ph pa pm s Y)(hs:∃blk,eh w' pa pm s' Y blk)(hk:Fo Y w w'):Fz w' ph pa pm s' Y where
 slab:=hs
 hp:=by rw[hk.block ph h.yh];exact h.hp
 yh:=h.yh
 tab:=h.tab.of_block (hk.block _ h.yt)
 yt:=h.yt
theorem Fz.a_{w w':World}{ph pa pm:Nat}{s:r_}(h:Fz w ph pa pm s Y)(hb:D_ w w'):Fz w' ph pa pm s Y:=by
 obtain⟨ad,hs⟩:=h.slab;exact h.step ⟨ad,hs.a_ hb⟩ (Fo.v_ hb hs.yl)
theorem Fz.w_{w w':World}{ph pa pm:Nat}{s:r_}(h:Fz w ph pa pm s Y)(hb:D_ w w'):Fo Y w w':=Fo.v_ hb h.yl
theorem Fz.cell{ph pa pm:Nat}{s:r_}(h:Fz w ph pa pm s Y):w.cell? (y_ ph)=some (PV pa):=e_ h.hp
theorem Fz.lt{ph pa pm:Nat}{s:r_}(h:Fz w ph pa pm s Y):ph<w.1.size:=h.yl _ h.yh
theorem eh.M{pa pm:Nat}{s:r_}{Y Z:Nat->Prop}(h:eh w pa pm s Y blk)(hz:∀k,Z k->Y k):eh w pa pm s Z blk:=
 ⟨h.wf,h.hd,h.map,h.pg,h.inj,fun k=>h.ya (hz _ k),fun k=>h.ym (hz _ k),fun p hp k=>h.yp p hp (hz _ k),fun k hk=>h.yl k (hz k hk)⟩
abbrev lE(Y:Nat->Prop)(b:Nat):Nat->Prop:=fun k=>Y k\/k=b
theorem eh.own{pa pm:Nat}{s:r_}(h:eh w pa pm s Y blk)(o:Obj):eh (w.alloc o) pa pm s (lE Y w.1.size) blk:=by
 have h':=h.a_ ((aa _ w).alloc Ih o);have ad:=(gl h.hd);refine⟨h'.wf,h'.hd,h'.map,h'.pg,h'.inj,?_,?_,?_,?_⟩
 ·rintro(k | k)
  ·exact h.ya k
  omega
 ·rintro(k | k)
  ·exact h.ym k
  ·have:=h.map.lt;omega
 ·rintro p hp (k | k)
  ·exact h.yp p hp k
  ·obtain⟨l,hl⟩:=jP.1 hp;have:=(gl (h.pg _ hl))
   grind
 ·rintro k (hk | hk)
  ·have:=h.yl k hk
   simp;omega
  simp_all
theorem Fz.own{ph pa pm:Nat}{s:r_}(h:Fz w ph pa pm s Y)(o:Obj):Fz (w.alloc o) ph pa pm s (lE Y w.1.size):=by
 have h':=h.a_ ((aa _ w).alloc Ih o);obtain⟨ad,hs⟩:=h.slab;exact⟨⟨ad,hs.own o⟩,h'.hp,ab h.yh,h'.tab,ab h.yt⟩
theorem Fz.M{ph pa pm:Nat}{s:r_}{Y Z:Nat->Prop}(h:Fz w ph pa pm s Y)(hz:∀k,Z k->Y k)(h1:Z ph)(h2:Z fy):Fz w ph pa pm s Z:=by
 obtain⟨ad,hs⟩:=h.slab;exact⟨⟨ad,hs.M hz⟩,h.hp,h1,h.tab,h2⟩
theorem Fz.drewN{ph pa pm:Nat}{s:r_}(h:Fz w ph pa pm s Y)(n:Nat):Fz (w.drewN n) ph pa pm s Y:=h.a_ ⟨rfl,rfl,rfl,Nat.le_refl _,fun _ _=>rfl⟩
theorem Fz.read{ph pa pm:Nat}{s:r_}(h:Fz w ph pa pm s Y)(a:Nat)(ha:a<=2^62):
 Ct 69 #[PV pa,Xi a] w fun e w'=>e=.returned (.tuple #[Xu (s.rd a:Nat),Xi (s.err a:Nat)])/\w=w':=by
 obtain⟨ad,hs⟩:=h.slab;exact wR hs a ha
theorem Fz.write{ph pa pm:Nat}{s:r_}(h:Fz w ph pa pm s Y)(a x:Nat)(ha:a<=2^62)(hx:x<2^64):
 Ct 66 #[PV pa,Xi a,Xu x] w fun e w'=>e=.returned (Xi (s.err a:Nat))/\Fz w' ph pa pm (s.wr a x) Y/\Fo Y w w':=by
 obtain⟨ad,hs⟩:=h.slab;refine(Ep hs a x ha hx).M ?_;rintro e w' ⟨h1,h2,h3⟩;exact⟨h1,h.step ⟨_,h2⟩ h3,h3⟩
theorem Fz.write'{ph pa pm:Nat}{s:r_}(h:Fz w ph pa pm s Y)(a x:Nat){ai xi:Int}(ha:a<=2^62)(hx:x<2^64)(hai:ai=(a:Int))(hxi:xi=(x:Int)):
 Ct 66 #[PV pa,Xi ai,Xu xi] w fun e w'=>e=.returned (Xi (s.err a:Nat))/\Fz w' ph pa pm (s.wr a x) Y/\Fo Y w w':=by
 subst hai hxi;exact h.write a x ha hx
theorem Fz.rd_lt{ph pa pm:Nat}{s:r_}(h:Fz w ph pa pm s Y)(a:Nat):s.rd a<2^64:=by
 obtain⟨ad,hs⟩:=h.slab;exact hs.rd_lt a
theorem dQ{ph pa pm:Nat}{s:r_}(h:Fz w ph pa pm s Y):
 Ct 101 #[PV ph] w fun e w'=>e=.returned (.bool false)/\w=w':=by
 have c1:=h.cell;go_enter func101,ntmps101
 go_wp2
 go_ret
 simp_all
def fT(x:Hr):Value:=.agg #[Xi x.l_,Xi x.n,Xu x.w]
theorem qU{ph pa pm:Nat}{s:r_}(h:Fz w ph pa pm s Y)(p:Nat)(hp:p<=1048576):
 Cb 153 #[PV ph,Xi p] w (fT (FA s p)):=by
 have c1:=h.cell;have hlt:=h.lt;have r1:=fun W (hb:D_ w W)=>(h.a_ hb).read (p*64) o_;have r2:=fun W (hb:D_ w W)=>(h.a_ hb).read (p*64+1) o_;have l1:=h.rd_lt (p*64);have he:FA s p=⟨s.rd (p*64) % 256,s.rd (p*64) / 256,s.rd (p*64+1)⟩:=rfl;rw[he];generalize s.rd (p*64)=a at*;generalize s.rd (p*64+1)=b at*;generalize s.err (p*64)=e1 at*;generalize s.err (p*64+1)=e2 at*;have HR:=kq2 r1 r2;have ai:=bits_and_u64_nat a 255 l1 d_;rw[show a &&& 255=a % 256 from Nat.and_two_pow_sub_one_eq_mod a 8] at ai;have ad:D_ w (w.alloc (.cells #[Xi 0,Xi 0,Xu 0] 188)):=(aa _ w).alloc Ih _;go_enter func153,ntmps153;go_wp2_with fail;refine Jc (HR.a _ ad) ?_;go_wp2_with fail;refine Jc (HR.b _ ad) ?_;go_wp2_with fail;have hw:wrap64 (bits BinOp.and IntKind.u64 (a:Int) 255)=((a % 256:Nat):Int):=by
  grind [wrap64]
 simp only[hw];exact bodyPost_ret (v:=fT ⟨a % 256,a / 256,b⟩) (by simp[results,f153,go_sem,fT]) rfl ⟨rfl,(aa _ w).alloc Ih _⟩
theorem oh{ph pa pm:Nat}{s:r_}(h:Fz w ph pa pm s Y)(p:Nat)(x:Hr)(hp:p<=1048576)(hk:x.l_<256)(hn:x.n<2^56)(hxw:x.w<2^64):
 Ct 105 #[PV ph,Xi p,fT x] w fun e w'=>e=.returned (.tuple #[])/\Fz w' ph pa pm (Ie s p x) Y/\Fo Y w w':=by
 obtain⟨kd,xn,xw⟩:=x;simp only at hk hn hxw;simp only[fT];have ho:=h.own (Xj kd xn xw);have a4:kd+xn*256<2^64:=o_
 have au:bits BinOp.or IntKind.u64 (kd:Int) ((xn:Int)*256)=((kd+xn*256:Nat):Int):=by
  rw[show ((xn:Int)*256)=((xn*256:Nat):Int) by simp,bits_or_u64_nat _ _ o_ o_]
  congr 1
  have h8:=cV (i:=8) (b:=kd) o_ xn
  grind [Nat.shiftLeft_eq,Nat.add_comm]
 have a0:=If au;clear au;have a5:IntKind.u64.wrap ((xn:Int)*256)=((xn*256:Nat):Int):=by rw[IntKind.wrap_u64];omega
 have a3:Ie s p ⟨kd,xn,xw⟩=(s.wr (p*64) (kd+xn*256)).wr (p*64+1) xw:=rfl;obtain⟨W0,ad⟩:=Ii (w.alloc (Xj kd xn xw));have ai:W0.1[w.1.size]?=some (.cells #[Xi kd,Xi xn,Xu xw] 188 (0,0)):=by
  rw[<-ad]
  show (w.1.push _)[w.1.size]?=_;simp
 have an:D_ w W0:=by rw[<-ad];exact(aa _ w).alloc Ih _
 have b0:W0.cell? (y_ w.1.size)=some (Xi kd):=e_ ai
 have b1:W0.cell? (x_ w.1.size 1)=some (Xi xn):=e_ ai
 have b2:W0.cell? (x_ w.1.size 2)=some (Xu xw):=e_ ai
 rw[ad] at ho;have c1:=ho.cell;have HO:=kq5 ho (h.w_ an) (kq2 h.yh h.yt) ad ai;clear ho h ad ai an a3;go_enter func105,ntmps105;go_wp2_with fail;rw[HO.d];refine lD (C:=fun w'=>∃q:Nat,w'=(W0).drewN q) 14 k_ k_ ⟨1,rfl⟩ ?_;simp only[ci,bW,bZ,c8]
 repeat (first | go_big_quiet_skip | (go_big_quiet_want;go_big_quiet_op;first | go_big_quiet_on))
 refine wpQuiet_nil ?_;rintro _ ⟨q,rfl⟩;go_wp2_with fail;refine((HO.a.drewN q).write' (p*64) (kd+xn*256) o_ a4 s_ a0.O).M ?_;rintro e w1 ⟨rfl,ar,ap⟩;have c1:=ar.cell;have b2:w1.cell? (x_ w.1.size 2)=some (Xu xw):=by rw[ap.cell (p:=x_ w.1.size 2) (ae rfl)];exact b2
 have H1:=kq2 ar (ap.M (Z:=Y) fun k hk=>ab hk);go_wp2_with fail;refine lD (C:=fun w'=>∃q:Nat,w'=(w1).drewN q) 9 k_ k_ ⟨1,rfl⟩ ?_;simp only[ci,bW,bZ,c8]
 repeat (first | go_big_quiet_skip | (go_big_quiet_want;go_big_quiet_op;first | go_big_quiet_on))
 refine wpQuiet_nil ?_;rintro _ ⟨q,rfl⟩;go_wp2_with fail;refine((H1.a.drewN q).write' (p*64+1) xw o_ hxw s_ rfl).M ?_;rintro e w2 ⟨rfl,a2,a1⟩;have H2:=kq2 (a2.M (fun k hk=>ab hk) HO.c.a HO.c.b) (a1.M (Z:=Y) fun k hk=>ab hk);go_wp2_with fail
 go_end0
 exact⟨rfl,H2.a,HO.b.T ((Fo.drewN _ _ _).T (H1.b.T ((Fo.drewN _ _ _).T H2.b)))⟩
theorem Bp{ph pa pm:Nat}{s:r_}(h:Fz w ph pa pm s Y)(a n:Nat)(ha:a<=2305843009213693952)(hn:n<=100000):
 Ct 156 #[PV ph,Xi a,Xi n] w fun e w'=>e=.returned (.tuple #[])/\Fz w' ph pa pm (nY s a n) Y/\Fo Y w w':=by
 have H:=If h;go_enter func156,ntmps156;go_wp2_with fail
 go_loopw [6,8] (fun _ i wr=>∃k:Nat,k<=n/\i=Xi k/\Hid (Fz wr ph pa pm (s.zero a k) Y/\Fo Y w wr)) (fun _ i _=>n-(intOf i).toNat)
 case atStart=>exact⟨0,o_,rfl,H.O,Fo.refl _ _⟩
 case round=>
  obtain⟨k,hk,rfl,ad⟩:=hrel;have c1:=ad.O.1.cell
  by_cases hlt:k<n
  ·go_wp2_with fail;refine(ad.O.1.write' (a+k) 0 o_ d_ s_ rfl).M ?_;rintro e w1 ⟨rfl,h1,k1⟩;have H1:=kq2 h1 (ad.O.2.T k1);go_wp2_with fail;go_roundw
   case rel=>exact⟨k+1,o_,by go_num,H1.O⟩
   case measure=>simp[intOf];omega
  ·obtain rfl:k=n:=o_
   go_wp2_with fail
   go_end0
   exact⟨rfl,ad.O⟩
end Go.Proofs.YtpljannolpapgaaGreatDoor
namespace Go.Proofs.YtpljannolpapgaaGreatDoor.Lf
def many(n:Nat):Nat:=if 1000<n then 0 else 1+(n+7) / 8
def Kk(l:List UInt8):Nat:=(List.range 8).foldl (fun n j=>n*256+(l.getD j 0).toNat) 0
def qg(l:List UInt8)(m:Nat):List Nat:=(List.range m).map fun i=>Kk (l.drop (8*i))
def FK(l:List UInt8):List Nat:=l.length::qg l ((l.length+7) / 8)
def mE(ws:List Nat)(n:Nat):List UInt8:=(List.range n).map fun i=>UInt8.ofNat (ws.getD (1+i / 8) 0 / 256^(7-i % 8))
def dZ(ws:List Nat):Option (List UInt8):=
 match ws with
 | []=>none
 | n::_=>if 1000<n\/many n≠ws.length then none else if FK (mE ws n)=ws then some (mE ws n) else none
def Fu:List UInt8->List UInt8->Int
 | [],[]=>0
 | [],_::_=> -1
 | _::_,[]=>1
 | a::l,b::m=>if a<b then-1 else if b<a then 1 else Fu l m
def FC(s:St)(h:Nat):Nat->List Nat->St
 | _,[]=>s
 | k,w::r=>FC (s.put h k w).2 h (k+1) r
def fx(s:St)(t:List UInt8):(Nat×Nat)×St:=
 if 1000<t.length then((0,4),s)
 else match s.make (many t.length) with
  | ((h,0),s1)=>((h,0),FC s1 h 0 (FK t))
  | ((_,e),s1)=>((0,e),s1)
def kM(s:St)(h:Nat):List Nat:=(List.range (s.len h).1).map fun k=>(s.get h k).1
def fz(s:St)(h:Nat):List UInt8×Nat:=
 match s.len h with
 | (_,0)=>match dZ (kM s h) with
  | some t=>(t,0)
  | none=>([],8)
 | (_,e)=>([],e)
structure Nd where
 key:Nat
 val:Nat
 left:Nat
 right:Nat
 mark:Nat
 size:Nat
deriving DecidableEq
def Nd.zero:Nd:=⟨0,0,0,0,0,0⟩
def fZ(s:St)(h:Nat):Nat:=
 match s.len h with
 | (n,0)=>if n≠6 then 8 else 0
 | (_,e)=>e
def f_(s:St)(h:Nat):Nd×Nat:=
 match fZ s h with
 | 0=>(⟨(s.get h 0).1,(s.get h 1).1,(s.get h 2).1,(s.get h 3).1,(s.get h 4).1,(s.get h 5).1⟩,0)
 | e=>(Nd.zero,e)
def gM(s:St)(h:Nat)(n:Nd):Nat×St:=
 match fZ s h with
 | 0=>(0,FC s h 0 [n.key,n.val,n.left,n.right,n.mark,n.size])
 | e=>(e,s)
def ft(s:St)(n:Nd):(Nat×Nat)×St:=
 match s.make 6 with
 | ((h,0),s1)=>((h,(gM s1 h n).1),(gM s1 h n).2)
 | ((_,e),s1)=>((0,e),s1)
def jr(s:St)(h:Nat):Nat×St:=
 match fZ s h with
 | 0=>s.drop h
 | e=>(e,s)
def A_(s:St):Nat:=s.words / 8+1
def sj(s:St)(h:Nat):Nat:=(f_ s h).1.size
def mU(s:St)(h:Nat):Nat:=(f_ s h).1.mark
end Go.Proofs.YtpljannolpapgaaGreatDoor.Lf
