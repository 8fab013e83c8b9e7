/- From a walk that ends in 'true' and 'Below' to a law's row: of whatever program; this program's own closed facts; the table that a row lists, in memory. -/
import Derived.Test.YtpljannolpapgaaGreatDoorRows
import Derived.ProofKit
import Derived.ChangeSame
import Derived.Lib.LaidTab
import Derived.Lib.SmallJoins
import Derived.Lay
import Derived.MakeChecks
import Derived.Test.YtpljannolpapgaaGreatDoorRLf
set_option maxRecDepth 100000
namespace Go.Proofs.YtpljannolpapgaaGreatDoor
open Go.ChangeShapes Go.WideShapes Go.ChangeAt Go.RowKit
section
variable {H:Type}{enc:TypeId×Value->H}{P:Program}
theorem Hw(hl:laidOutB P=true){W W':World}(hb:D_ W W'){sp':Nat->Bool}:∀(ts:List TypeId) {vs:List Value} {ds:List (DataW H)} {ps:List MemPlace},
 (∀t∈ts,P.readableRec t=true/\t<P.types.size)->DataW.TrodAll enc P W 0 (fun _=>true) true ts vs ds ps->(∀x∈ps,x.block<W.1.size)->(∀x∈ps,sp' x.block=true)->
 DataW.TrodAll enc P W' 0 sp' true ts vs ds ps
 | [],_,_,_,_,h,_,_=>by
  obtain⟨rfl,rfl,rfl⟩:=trodAll_nil h;exact trodAll_mk0
 | t::ts,_,_,_,hr,h,hlt,hs=>by
  obtain⟨v,vs,d,ds,p,q,rfl,rfl,rfl,h1,h2⟩:=trodAll_cons h;have ht:=hr t s_;refine⟨p,q,?_,Hw hl hb ts (fun x hx=>hr x (by simp[hx])) h2 (fun x hx=>hlt x (by simp[hx])) (fun x hx=>hs x (by simp[hx])),rfl⟩;exact WideElems.Trod_stays hl ht.1 ht.2 h1 (fun x hx=>hb.same (hlt x (by simp[hx]))) (fun x hx=>hs x (by simp[hx]))
theorem law_post {f:Func}{s:ChangeSpec}{apart fresh handsOn again:Bool}{W W':World}{args:Array Value}{ds gs:List (DataW H)}{before:List MemPlace}{tb:TypeId}
 (hl:laidOutB P=true) (hvars:s.vars=[]) (hts:∀t∈f.params.toList,P.readableRec t=true/\t<P.types.size) (hres:f.resultTypes=#[tb]) (htb:P.underlying tb=some .bool)
 (hW:DataW.Whole enc P f.params.toList s.vars apart W args.toList ds gs before)
 (hfn:s.fn H (ds++gs)= { results:=[.lit (.bool true)],args:=ds })
 (hb:D_ W W'):s.post enc P f apart fresh handsOn again W args (.bool true) W':=by
 have hlt:∀p∈before,p.block<W.1.size:=fun p hp=>hW.lt p hp;have ap:=hW;obtain⟨p,q,hA,hV,rfl,hz,hn⟩:=hW;rw[hvars] at hV;obtain⟨rfl,rfl⟩:=trodVars_none hV;rw[aW] at*;have ad:∀sp':Nat->Bool,(∀x∈p,sp' x.block=true)->DataW.TrodAll enc P W' 0 sp' true f.params.toList args.toList ds p:=fun sp' hs=>Hw hl hb _ hts hA hlt hs;have hold:∀x∈p,(fun b=>decide (b<W.1.size)) x.block=true:=fun x hx=>by simpa using hlt x hx
 have ai:∀(b:Nat) (sp:Nat->Bool) (hd:Bool),DataW.TrodAll enc P W' b sp hd f.resultTypes.toList ((Value.bool true).resultList f.resultTypes.size) [.lit (.bool true)] []:=fun b sp hd=>by
  rw[hres];exact trodAll_mk1 (shut_bool htb true)
 refine⟨ds,[],p,[],p,[],ap,?_,?_,?_,World.keptBut_mono (fun x hx=>⟨hx,.inr (.inl hx)⟩) (hb.frame (·∈p)),fun _=>?_⟩
 ·rw[aW,hfn];exact ai _ _ _
 ·rw[aW,hfn];exact ad _ hold
 ·rw[aW,hfn,hvars];rfl
 ·refine⟨?_,[.lit (.bool true)]++ds,[],([]++p)++[],⟨[]++p,[],?_,by rw[hvars];rfl,rfl,?_,?_⟩,?_⟩
  ·intro j t r hj hr;rw[hres] at hj hr;match j,hj,hr with
   | 0,hj,hr=>
    simp[Value.resultList] at hj hr
    subst hj;subst hr;exact okWide_bool_mk htb true
  ·exact trodAll_append (ad (fun _=>true) (fun _ _=>rfl)) (ai _ _ _)
  ·intro b off hp;have an:MemPlace.cell b off∈p:=by simpa using hp
   rw[hb.frozen (hlt _ an)];exact hz b off an
  ·intro ha;have:=hn ha;simpa using this
  ·intro x hx _;simpa using hx
end
theorem Tryz.own:ownKnob Tryz.prog.godebug=none:=k_
theorem Tryz.laidOut:laidOutB Tryz.prog=true:=k_
def laidTab:List (String×DataW Unit):=[("math/bits.deBruijn64tab",Rows.laid_math_bits_deBruijn64tab)]
theorem Hz:laidTab=[("math/bits.deBruijn64tab",Lib.tabData .u8 (Go.Lib.deBruijn64tab.map Int.ofNat))]:=k_
theorem tab_of_laid {W:World}(h:laidMetH Tryz.prog laidTab W):gA W:=by
 rw[MakeChecks.laidMetH_plain _ _ _ k_,Hz] at h;have hT:=Lib.tabIs_of_head (g:=1) (t:=323) (e:=5) (n:=64) k_ k_ Tryz.underlying323 Tryz.underlying5 k_ k_ h;intro j hj;have:=hT.cell (g:=1) k_ j (by simpa using hj);rw[this]
 simp[List.getD_eq_getElem?_getD,hj]