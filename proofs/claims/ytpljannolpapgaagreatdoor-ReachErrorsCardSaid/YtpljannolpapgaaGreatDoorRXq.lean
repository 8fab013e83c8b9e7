/- A range over a function whose iterator writes blocks of its own (its ghost set X): all its rounds go on. -/
import Derived.Test.YtpljannolpapgaaGreatDoorRCg
import Derived.RangeFuncNested
set_option maxRecDepth 100000
namespace Go.Proofs.YtpljannolpapgaaGreatDoor
open Go Go.RowKit
variable {F:Fence}{n:Nat}{P:Program}
def Ka {β:Type}(B:Nat)(J:(Nat->Prop)->β->World->Prop):Prop:=
 ∀X X' s W W' row,J X s W->W.grownBy W' row->(∀r,row=some r->X r\/B<=r/\∃o:Obj,W.1[r]?=some o/\o.isWalk=true)->(∀k,X' k->X k\/W.1.size<=k/\k<W'.1.size)->J X' s W'
def JT {β:Type}(B:Nat)(J:(Nat->Prop)->β->World->Prop):Prop:=
 ∀X X' s W W' row,J X s W->W.grownBy W' row->(∀r,row=some r->X r\/B<=r/\∃o:Obj,W.1[r]?=some o/\o.isCells=false)->(∀k,X' k->X k\/W.1.size<=k/\k<W'.1.size)->J X' s W'
def Kv {α:Type}(F:Fence)(n:Nat)(P:Program)(g:Nat)(lb:Array Value)(encs:α->Array Value)(Kp:(Nat->Prop)->World->World->Prop)(X0:Nat->Prop)(S:List α->Prop)(w:World):Prop:=
 ∀(l:Nat) (J:(Nat->Prop)->List α->World->Prop) (W:World),D_ w W->Ka W.1.size J->
  (∀X pre x W1,J X pre W1->(∃r,S (pre++x::r))->YieldAt F (n-1) P l (encs x) W1 fun e W'=>e=.returned (.bool true)/\J X (pre++[x]) W'/\Kp X W1 W')->
  J X0 [] W->
  CallsIn F n P g (#[.func (.yield l) #[] #[]]++lb) W fun e W'=>(∃v,e=.returned v)/\∃X xs,S xs/\J X xs W'
def Ns {α:Type}(B:Nat)(Kp:(Nat->Prop)->World->World->Prop)(I:(Nat->Prop)->List α->World->Prop)(X:Nat->Prop)(xs:List α)(W:World):Exit->Act->World->Prop
 | .normal,_,W'=>KeepsFrom B W W'/\Kp X W W'/\I X xs W'
 | _,_,_=>False
theorem JT.putObj {β:Type}{B:Nat}{I:(Nat->Prop)->β->World->Prop}(h:JT B I){X:Nat->Prop}{s:β}{W:World}{l:Nat}{o:Obj}(o':Obj)(hs:I X s W)(hB:B<=l)(hl:W.1[l]?=some o)(ho:o.isCells=false):I X s (W.putObj l o'):=
 h X X s W _ (some l) hs (grownBy_putObj' W l o') (fun r e=>by cases e;exact .inr ⟨hB,o,hl,ho⟩) (fun _ hk=> .inl hk)
theorem JT.alloc {β:Type}{B:Nat}{I:(Nat->Prop)->β->World->Prop}(h:JT B I){X:Nat->Prop}{s:β}{W:World}(o:Obj)(hs:I X s W):I X s (W.alloc o):=
 h X X s W _ none hs (World.grownBy_alloc W o none) (fun r e=>by cases e) (fun _ hk=> .inl hk)
theorem KW {α:Type}{g:Operand}{ps:Array Tmp}{assign body:Code}{Q:Exit->Act->World->Prop}{a:Act}{w:World}
 (hro:F.round=none) (h1:1<=n) {gf:Nat} {lb:Array Value} (hg:a.eval g=.func (.func gf) #[] lb) (hFg:F.fn gf) (eg:∀args w,(callFunc gf args).run P w=.ok (.enter gf args) w)
 {encs:α->Array Value} {Kp:(Nat->Prop)->World->World->Prop} {X0:Nat->Prop} {S:List α->Prop} {w0:World} (hseq:Kv F (n-1) P gf lb encs Kp X0 S w0) (hX0:∀k,X0 k->k<w.1.size)
 (hKt:∀{X:Nat->Prop} {A B C:World},Kp X A B->Kp X B C->Kp X A C) (hKb:∀(X:Nat->Prop) (W:World) (l:Nat) (o o':Obj),w.1.size<=l->¬X l->W.1[l]?=some o->o.isCells=false->o.isWalk=false->Kp X W (W.putObj l o')) (hb0:D_ w0 w) (hps:∀x,(encs x).size=ps.size)
 (I:(Nat->Prop)->List α->World->Prop) (hI:JT w.1.size I) (h0:I X0 [] w) (Ax:α->Act->World->Prop) (hAx:∀x a',OwnFrom w.1.size (fun(_:Unit) W=>Ax x a' W))
 (hassign:∀(l:Nat) (X:Nat->Prop) (ad:List α) (x:α) (W:World) (K:Act->World->Prop),I X ad W->(∀a' W',KeepsFrom w.1.size W W'->Kp X W W'->I X ad W'->Ax x a' W'->K a' W')->
  assign.wpIn (F.inRound l) (n-1-1) P (Exit.then K (fun _ _ _=>False)) { tmps:=(ps.zip (encs x)).foldl (fun t (p,v)=>t.setIfInBounds p v) a.tmps,defers:=[] } W)
 (hbody:∀(l:Nat) (X:Nat->Prop) (ad:List α) (x:α) (a':Act) (W:World),w.1.size<=l->¬X l->I X ad W->Ax x a' W->(∃r,S (ad++x::r))->body.wpIn (F.inRound l) (n-1-1) P (Ns w.1.size Kp I X (ad++[x]) W) a' W)
 (hdone:∀(D:Nat) (X:Nat->Prop) (xs:List α) (W:World),w.1.size<=D->S xs->I X xs W->W.1[D]?=some (.deferred (some []))->Q .normal { a with defers:= { target:=.collected D,args:=#[] }::a.defers } W):
 (Code.rangeFunc g ps assign body).wpIn F n P Q a w:=by
 refine wpIn_rangeFunc fun fn hfn=>?_;rw[hro];obtain⟨b,hb⟩:=Ii w.1.size;obtain⟨rec,bc⟩:∃rec:LoopState->Loop,rec=fun st=> { state:=st,pending:=none,fn,tmps:=a.tmps,params:=ps,assign,body,defers:=b }:=⟨_,rfl⟩;obtain⟨W1,ai⟩:=Ii ((w.alloc (.deferred (some []))).alloc (.loop (rec .ready)));have z1:(w.alloc (.deferred (some []))).1.size=b+1:=by simp[hb]
 have zW:W1.1.size=b+2:=by rw[<-ai];simp[hb]
 have a5:W1.1[b+1]?=some (.loop (rec .ready)):=by
  rw[<-ai,<-z1];exact World.alloc_heap_new _ _
 have a4:W1.1[b]?=some (.deferred (some [])):=by
  grind [Below.heap_alloc,trans,World.alloc_heap_new]
 have a2:I X0 [] W1:=by rw[<-ai];exact hI.alloc _ (hI.alloc _ h0)
 have a6:D_ w0 W1:=by
  rw[<-ai];exact hb0.T ((((aa _ w).alloc Ih _).alloc s_ _).M hb0.size)
 have au:=run_enterLoop_outer (P:=P) (w:=w) fn a.tmps ps assign body;rw[hb,show ({ state:=LoopState.ready,pending:=none,fn:=fn,tmps:=a.tmps,params:=ps,assign:=assign,body:=body,defers:=b }:Loop)=rec .ready by rw[bc],ai] at au;refine⟨b+1,[{ target:=.collected b,args:=#[] }],W1,{ target:=.fn (.func gf) lb,args:=#[.func (.yield (b+1)) #[] #[]] },W1,gf,
  #[.func (.yield (b+1)) #[] #[]]++lb,W1,au,?_,?_,?_,fun _=>h1,?_⟩
 ·simp only[resolve,hg];simp[go_sem]
 ·grind [Target.leads]
 ·simp[invoke,go_sem,eg]
 rw[hb] at hI hAx hKb hassign hbody hdone hX0;refine(hseq (b+1) (fun X ad W=>I X ad W/\(∀k,X k->k≠b/\k≠b+1)/\W.1[b+1]?=some (.loop (rec .ready))/\W.1[b]?=some (.deferred (some []))) W1 a6 ?_ ?_ ⟨a2,fun k hk=>by grind,a5,a4⟩).M ?_
 ·rintro X X' s A B row ⟨q1,q2,q3,q4⟩ ar hr hx;have hlt:=(gl q3);have a1:∀k,k=b\/k=b+1->row≠some k:=fun k hk e=>by
   rcases hr k e with hX | ⟨hB,_⟩
   ·have:=q2 k hX;omega
   ·omega
  refine⟨hI X X' s A B row q1 ar (fun r e=>(hr r e).imp id fun⟨hB,o,ho,hw⟩=>⟨o_,o,ho,Obj.not_cells_of_walk hw⟩) hx,fun k hk=>?_,(ar.block (b+1) hlt fun e=>a1 _ (.inr rfl) e.S).T q3,(ar.block b o_ fun e=>a1 _ (.inl rfl) e.S).T q4⟩;grind
 ·rintro X ad x W ⟨hi,hx,hl,hk⟩ bb;have hy:=run_yield (P:=P) (args:=encs x) hl (by grind);have bj:(Instr.yield (b+1) (encs x)).run P W=.ok (.round (b+1) fn ((ps.zip (encs x)).foldl (fun t (p,v)=>t.setIfInBounds p v) a.tmps) assign body) W:=by grind
  refine⟨fn,_,assign,body,bj,roundIn_of_wpIn hfn ?_⟩;refine hassign _ X ad x W _ hi fun a' Wa hkfa hkpa hia hax=>?_;have hl:=hkfa.same _ _ o_ hl rfl;have hlt:b+1<Wa.1.size:=(gl hl);have ap:¬X (b+1):=fun h=>(hx _ h).2 rfl;refine⟨_,run_beginRound hl (by grind),?_⟩;have ba:(Wa.putObj (b+1) (.loop { rec .ready with state:=.busy })).1[b+1]?=some (.loop { rec .ready with state:=.busy }):=World.putObj_heap_same hlt;have a8:(Wa.putObj (b+1) (.loop { rec .ready with state:=.busy })).1[b]?=some (.deferred (some [])):=(World.putObj_heap_other o_).T (hkfa.same _ _ Ih hk rfl);have bf:=hKb X Wa (b+1) _ (.loop { rec .ready with state:=.busy }) o_ ap hl rfl rfl;refine wpIn_mono (hbody _ X ad x a' _ o_ ap (hI.putObj _ hia o_ hl rfl) ((hAx x a').putObj (s:=()) _ hax o_ hl rfl) bb) ?_;rintro e a3 W3 hp;cases e with
  | normal=>
   obtain⟨a0,a9,a7⟩:=hp;have an:=a0.same _ _ o_ ba rfl;have bd:({ rec .ready with state:=if(none:Option Code).isNone then LoopState.ready else .done,pending:=none }:Loop)=rec .ready:=by grind
   refine⟨_,_,run_endRound (P:=P) none an,rfl,⟨hI.putObj _ a7 o_ an rfl,hx,?_,(World.putObj_heap_other o_).T (a0.same _ _ Ih a8 rfl)⟩,hKt hkpa (hKt (hKt bf a9) (hKb X _ _ _ _ o_ ap an rfl rfl))⟩;rw[World.putObj_heap_same ((gl an))];exact congrArg (fun r=>some (Obj.loop r)) bd
  | ret=>exact hp.elim
  | exit id=>exact hp.elim
  | goto t=>exact hp.elim
  | panic ch=>exact hp.elim
  | outgrown=>exact hp.elim
 ·rintro e W2 ⟨⟨v,rfl⟩,X,xs,hS,hi,hx,hl,hk⟩;have he:=run_endLoop (P:=P) hl (by grind);have hp:(rec .ready).pending=none:=by grind
  rw[hp] at he;exact⟨none,_,he,hdone _ X xs _ Ih hS (hI.putObj _ hi o_ hl rfl) ((World.putObj_heap_other o_).T hk)⟩
