/- A range over a function whose iterator writes blocks of its own (its ghost set X): all its rounds go on. -/
import Derived.Test.YtpljannolpapgaaGreatDoorVCg
import Derived.RangeFuncNested
set_option maxRecDepth 100000
namespace Go.Proofs.YtpljannolpapgaaGreatDoor
open Go Go.RowKit
variable {F:Fence}{n:Nat}{P:Program}
def yZ {β:Type}(B:Nat)(J:(Nat->Prop)->β->World->Prop):Prop:=
 ∀X X' s W W' row,J X s W->W.grownBy W' row->(∀r,row=some r->X r\/B<=r/\∃o:Obj,W.heap[r]?=some o/\o.isWalk=true)->(∀k,X' k->X k\/W.heap.size<=k/\k<W'.heap.size)->J X' s W'
def rs {β:Type}(B:Nat)(J:(Nat->Prop)->β->World->Prop):Prop:=
 ∀X X' s W W' row,J X s W->W.grownBy W' row->(∀r,row=some r->X r\/B<=r/\∃o:Obj,W.heap[r]?=some o/\o.isCells=false)->(∀k,X' k->X k\/W.heap.size<=k/\k<W'.heap.size)->J X' s W'
def JT {α:Type}(F:Fence)(n:Nat)(P:Program)(g:Nat)(lb:Array Value)(encs:α->Array Value)(Kp:(Nat->Prop)->World->World->Prop)(X0:Nat->Prop)(S:List α->Prop)(w:World):Prop:=
 ∀(l:Nat) (J:(Nat->Prop)->List α->World->Prop) (W:World),Below w.heap.size w W->yZ W.heap.size J->
  (∀X pre x W1,J X pre W1->(∃r,S (pre++x::r))->YieldAt F (n-1) P l (encs x) W1 fun e W'=>e=.returned (.bool true)/\J X (pre++[x]) W'/\Kp X W1 W')->
  J X0 [] W->
  CallsIn F n P g (#[.func (.yield l) #[] #[]]++lb) W fun e W'=>(∃v,e=.returned v)/\∃X xs,S xs/\J X xs W'
def LH {α:Type}(B:Nat)(Kp:(Nat->Prop)->World->World->Prop)(I:(Nat->Prop)->List α->World->Prop)(X:Nat->Prop)(xs:List α)(W:World):Exit->Act->World->Prop
 | .normal,_,W'=>KeepsFrom B W W'/\Kp X W W'/\I X xs W'
 | _,_,_=>False
theorem rs.putObj {β:Type}{B:Nat}{I:(Nat->Prop)->β->World->Prop}(h:rs B I){X:Nat->Prop}{s:β}{W:World}{l:Nat}{o:Obj}(o':Obj)(hs:I X s W)(hB:B<=l)(hl:W.heap[l]?=some o)(ho:o.isCells=false):I X s (W.putObj l o'):=
 h X X s W _ (some l) hs (grownBy_putObj' W l o') (fun r e=>by cases e;exact .inr ⟨hB,o,hl,ho⟩) (fun _ hk=> .inl hk)
theorem rs.alloc {β:Type}{B:Nat}{I:(Nat->Prop)->β->World->Prop}(h:rs B I){X:Nat->Prop}{s:β}{W:World}(o:Obj)(hs:I X s W):I X s (W.alloc o):=
 h X X s W _ none hs (World.grownBy_alloc W o none) (fun r e=>by cases e) (fun _ hk=> .inl hk)
theorem Kb {α:Type}{g:Operand}{ps:Array Tmp}{assign body:Code}{Q:Exit->Act->World->Prop}{a:Act}{w:World}
 (hro:F.round=none) (h1:1<=n) {gf:Nat} {lb:Array Value} (hg:a.eval g=.func (.func gf) #[] lb) (hFg:F.fn gf) (eg:∀args w,(callFunc gf args).run P w=.ok (.enter gf args) w)
 {encs:α->Array Value} {Kp:(Nat->Prop)->World->World->Prop} {X0:Nat->Prop} {S:List α->Prop} {w0:World} (hseq:JT F (n-1) P gf lb encs Kp X0 S w0) (hX0:∀k,X0 k->k<w.heap.size)
 (hKt:∀{X:Nat->Prop} {A B C:World},Kp X A B->Kp X B C->Kp X A C) (hKb:∀(X:Nat->Prop) (W:World) (l:Nat) (o o':Obj),w.heap.size<=l->¬X l->W.heap[l]?=some o->o.isCells=false->o.isWalk=false->Kp X W (W.putObj l o')) (hb0:Below w0.heap.size w0 w) (hps:∀x,(encs x).size=ps.size)
 (I:(Nat->Prop)->List α->World->Prop) (hI:rs w.heap.size I) (h0:I X0 [] w) (Ax:α->Act->World->Prop) (hAx:∀x a',OwnFrom w.heap.size (fun(_:Unit) W=>Ax x a' W))
 (hassign:∀(l:Nat) (X:Nat->Prop) (ad:List α) (x:α) (W:World) (K:Act->World->Prop),I X ad W->(∀a' W',KeepsFrom w.heap.size W W'->Kp X W W'->I X ad W'->Ax x a' W'->K a' W')->
  assign.wpIn (F.inRound l) (n-1-1) P (Exit.then K (fun _ _ _=>False)) { tmps:=(ps.zip (encs x)).foldl (fun t (p,v)=>t.setIfInBounds p v) a.tmps,defers:=[] } W)
 (hbody:∀(l:Nat) (X:Nat->Prop) (ad:List α) (x:α) (a':Act) (W:World),w.heap.size<=l->¬X l->I X ad W->Ax x a' W->(∃r,S (ad++x::r))->body.wpIn (F.inRound l) (n-1-1) P (LH w.heap.size Kp I X (ad++[x]) W) a' W)
 (hdone:∀(D:Nat) (X:Nat->Prop) (xs:List α) (W:World),w.heap.size<=D->S xs->I X xs W->W.heap[D]?=some (.deferred (some []))->Q .normal { a with defers:= { target:=.collected D,args:=#[] }::a.defers } W):
 (Code.rangeFunc g ps assign body).wpIn F n P Q a w:=by
 refine wpIn_rangeFunc fun fn hfn=>?_;rw[hro];obtain⟨b,hb⟩:=Ii w.heap.size;obtain⟨rec,ai⟩:∃rec:LoopState->Loop,rec=fun st=> { state:=st,pending:=none,fn,tmps:=a.tmps,params:=ps,assign,body,defers:=b }:=⟨_,rfl⟩;obtain⟨W1,an⟩:=Ii ((w.alloc (.deferred (some []))).alloc (.loop (rec .ready)));have z1:(w.alloc (.deferred (some []))).heap.size=b+1:=by simp[hb]
 have zW:W1.heap.size=b+2:=by rw[<-an];simp[hb]
 have a6:W1.heap[b+1]?=some (.loop (rec .ready)):=by
  rw[<-an,<-z1];exact World.alloc_heap_new _ _
 have a5:W1.heap[b]?=some (.deferred (some [])):=by
  rw[<-an,<-hb];exact(bX _ _ _ (by simp)).trans (World.alloc_heap_new w _)
 have a4:I X0 [] W1:=by rw[<-an];exact hI.alloc _ (hI.alloc _ h0)
 have a7:Below w0.heap.size w0 W1:=by
  rw[<-an];exact hb0.trans ((((aa _ w).alloc Ih _).alloc (by simp) _).mono hb0.size)
 have a0:=run_enterLoop_outer (P:=P) (w:=w) fn a.tmps ps assign body;rw[hb,show ({ state:=LoopState.ready,pending:=none,fn:=fn,tmps:=a.tmps,params:=ps,assign:=assign,body:=body,defers:=b }:Loop)=rec .ready by rw[ai],an] at a0;refine⟨b+1,[{ target:=.collected b,args:=#[] }],W1,{ target:=.fn (.func gf) lb,args:=#[.func (.yield (b+1)) #[] #[]] },W1,gf,
  #[.func (.yield (b+1)) #[] #[]]++lb,W1,a0,?_,?_,?_,fun _=>h1,?_⟩
 ·simp only[resolve,hg];simp[go_sem]
 ·intro f' hf';simp[Target.leads] at hf'
  subst hf';exact hFg
 ·simp[invoke,go_sem,eg]
 rw[hb] at hI hAx hKb hassign hbody hdone hX0;refine(hseq (b+1) (fun X ad W=>I X ad W/\(∀k,X k->k≠b/\k≠b+1)/\W.heap[b+1]?=some (.loop (rec .ready))/\W.heap[b]?=some (.deferred (some []))) W1 a7 ?_ ?_ ⟨a4,fun k hk=>by have:=hX0 k hk;omega,a6,a5⟩).mono ?_
 ·rintro X X' s A B row ⟨q1,q2,q3,q4⟩ au hr hx;have hlt:=(gl q3);have a2:∀k,k=b\/k=b+1->row≠some k:=fun k hk e=>by
   rcases hr k e with hX | ⟨hB,_⟩
   ·have:=q2 k hX;omega
   ·omega
  refine⟨hI X X' s A B row q1 au (fun r e=>(hr r e).imp id fun⟨hB,o,ho,hw⟩=>⟨by omega,o,ho,Obj.not_cells_of_walk hw⟩) hx,fun k hk=>?_,(au.block (b+1) hlt fun e=>a2 _ (.inr rfl) e.symm).trans q3,(au.block b (by omega) fun e=>a2 _ (.inl rfl) e.symm).trans q4⟩;rcases hx k hk with h | h
  ·exact q2 k h
  ·omega
 ·rintro X ad x W ⟨hi,hx,hl,hk⟩ bc;have hy:=run_yield (P:=P) (args:=encs x) hl (by rw[ai];exact hps x);have bk:(Instr.yield (b+1) (encs x)).run P W=.ok (.round (b+1) fn ((ps.zip (encs x)).foldl (fun t (p,v)=>t.setIfInBounds p v) a.tmps) assign body) W:=by rw[ai] at hy;exact hy
  refine⟨fn,_,assign,body,bk,roundIn_of_wpIn hfn ?_⟩;refine hassign _ X ad x W _ hi fun a' Wa hkfa hkpa hia hax=>?_;have hl:=hkfa.same _ _ (by omega) hl rfl;have hk:=hkfa.same _ _ Ih hk rfl;have hlt:b+1<Wa.heap.size:=(gl hl);have ar:¬X (b+1):=fun h=>(hx _ h).2 rfl;refine⟨_,run_beginRound hl (by rw[ai]),?_⟩;have bb:(Wa.putObj (b+1) (.loop { rec .ready with state:=.busy })).heap[b+1]?=some (.loop { rec .ready with state:=.busy }):=World.putObj_heap_same hlt;have a9:(Wa.putObj (b+1) (.loop { rec .ready with state:=.busy })).heap[b]?=some (.deferred (some [])):=(World.putObj_heap_other (by omega)).trans hk;have bj:=hKb X Wa (b+1) _ (.loop { rec .ready with state:=.busy }) (by omega) ar hl rfl rfl;refine wpIn_mono (hbody _ X ad x a' _ (by omega) ar (hI.putObj _ hia (by omega) hl rfl) ((hAx x a').putObj (s:=()) _ hax (by omega) hl rfl) bc) ?_;rintro e a3 W3 hp;cases e with
  | normal=>
   obtain⟨a1,ba,a8⟩:=hp;have ap:=a1.same _ _ (by omega) bb rfl;have bd:=(gl ap);have hr:=run_endRound (P:=P) none ap;have bf:({ rec .ready with state:=if(none:Option Code).isNone then LoopState.ready else .done,pending:=none }:Loop)=rec .ready:=by rw[ai];rfl
   refine⟨_,_,hr,rfl,⟨hI.putObj _ a8 (by omega) ap rfl,hx,?_,(World.putObj_heap_other (by omega)).trans (a1.same _ _ Ih a9 rfl)⟩,hKt hkpa (hKt (hKt bj ba) (hKb X _ _ _ _ (by omega) ar ap rfl rfl))⟩;rw[World.putObj_heap_same bd];exact congrArg (fun r=>some (Obj.loop r)) bf
  | ret=>exact hp.elim
  | exit id=>exact hp.elim
  | goto t=>exact hp.elim
  | panic ch=>exact hp.elim
  | outgrown=>exact hp.elim
 ·rintro e W2 ⟨⟨v,rfl⟩,X,xs,hS,hi,hx,hl,hk⟩;have he:=run_endLoop (P:=P) hl (by rw[ai];simp);have hp:(rec .ready).pending=none:=by rw[ai]
  rw[hp] at he;exact⟨none,_,he,hdone _ X xs _ Ih hS (hI.putObj _ hi (by omega) hl rfl) ((World.putObj_heap_other (by omega)).trans hk)⟩
