/- Nodes of B-trees: Get of a node that is right: the walk. -/
import Derived.Test.YtcibkdbpicledaaGreatDoorZFd
import Derived.Sort.CutIn
import Derived.Shelf.Spec.SlicesInsertGrow
set_option maxRecDepth 100000
set_option maxHeartbeats 6400000
namespace Go.Proofs.YtcibkdbpicledaaGreatDoor
section
open Go.RowKit Tryz Go.BigFrame Go.Maps Go.WideMaps Lf
open Go.Shelf
attribute [local go_sem] Oper.semAt_some
theorem zE {w:World}{ps:Nat}{S:St}{Y:Nat->Prop}(h:Ig w ps S Y)(hi:Fv S){t:Nat}{n:BN}(hn:iU t n)(hh:Nat)(hl:hh<2^64)(hlen:S.len hh=(6*t,0))(hg:∀k,k<6*t->S.get hh k=(wAt t n n.keys.length n.kids.length k,0))(hlt:∀x∈bnWords t n,x<2^64):
 Ct 195 #[PV ps,.int .i64 t,.int .u64 hh] w fun e w'=>∃vk vv vc,e=.returned (.tuple #[eC vk vv vc n.size,.int .i64 0])/\fN w' w.heap.size vk vv vc n.keys n.vals n.kids/\Below w.heap.size w w':=by
 refine(callsIn_wide (n:=7)).1 ?_;have h1:1<=7:=by omega
 have d6:Fence.wide.fn 85:=trivial;have d5:Fence.wide.fn 176:=trivial;have d3:Fence.wide.fn 215:=trivial;have d7:Fence.wide.fn 216:=trivial;have d4:Fence.wide.fn 214:=trivial;have d2:∀(args:Array Value) (w:World),(callFunc 214 args).run prog w=.ok (.enter 214 args) w:=fun args w=>by go_simp
 have bd:∀W,Below w.heap.size w W->CallsIn Fence.wide 6 prog 85 #[PV ps,.int .u64 0] W _:=fun W hW=>callsIn_wide.2 (fB (h.below hW) hi 0 (by omega));have a0:∀W,Below w.heap.size w W->CallsIn Fence.wide 6 prog 85 #[PV ps,.int .u64 hh] W _:=fun W hW=>callsIn_wide.2 (fB (h.below hW) hi hh hl);rw[fU] at bd;rw[hlen] at a0;have b4:∀W,CallsIn Fence.wide 6 prog 176 #[.int .i64 t] W _:=fun W=>callsIn_wide.2 (om hn.lo hn.hi▸nP (t:Int) W);have au:∀W,Below w.heap.size w W->W.heap[w.heap.size]?=some (.cells #[PV ps] 25 (0,0))->W.heap[w.heap.size+1]?=some (.cells #[.int .u64 hh] 83 (0,0))->∀(k:Nat) (_:k<=1000),Ct 214 #[.int .i64 k,PV w.heap.size,PV (w.heap.size+1)] W fun e w'=>e=.returned (.int .u64 (wAt t n n.keys.length n.kids.length k:Nat))/\W=w':=fun W hW e3 e5 k hk=>
  zD (h.below hW) hi hh hl (by rw[Fs e3];rfl) (by rw[Fs e5];rfl) k (by omega) (Be hn hlen hg k)
 have ht:=And.intro hn.lo hn.hi;have ec:IntKind.i64.wrap (6*(t:Int))=6*(t:Int):=aD _ (by omega);have cl:((6*t:Nat):Int)=6*(t:Int):=by omega
 simp only at bd a0;rw[cl] at a0;obtain⟨kn,ar⟩:=Ii n.keys.length;obtain⟨cn,a5⟩:=Ii n.kids.length;obtain⟨sz,ao⟩:=Ii n.size;have b8:kn<=2*t-1:=by rw[<-ar];exact hn.many
 have dv:cn=0\/cn=kn+1:=by rw[<-ar,<-a5];exact hn.kids.imp id And.left
 have d':kn<2^64:=by omega
 rw[ar,a5] at au;have g0:wAt t n kn cn 0=kn:=by unfold wAt;rw[if_pos rfl,ar]
 have g1:wAt t n kn cn 1=sz:=by unfold wAt;rw[if_neg (by omega),if_pos rfl,ao]
 have six:=uz w ps hh;have bs:=fun W (hW:Below w.heap.size w W) e3 e5=>callsIn_wide (n:=6) |>.2 (au W hW e3 e5 0 (by omega))
 have bt:=fun W (hW:Below w.heap.size w W) e3 e5=>callsIn_wide (n:=6) |>.2 (au W hW e3 e5 1 (by omega))
 rw[g0] at bs;rw[g1] at bt;have HG:=If (And.intro bd (And.intro a0 (And.intro b4 (And.intro bs (And.intro bt (And.intro au (And.intro h (And.intro hi (And.intro hn (And.intro ar (And.intro a5 (And.intro ao hlt))))))))))));clear bd a0 b4 bs bt au h hi hn ar a5 ao hlt hg hlen g0 g1;refine callsIn_of_wp_marks func195 rfl trivial ?_ rfl;simp only[ntmps195,bp,ak,aK,Nat.reduceAdd,Nat.reduceSub,aV,aW,bw,aZ,aU,aP];gi_wp2_with fail;generalize ((((w.alloc (.cells #[PV ps] 25)).alloc (.cells #[.int .u64 hh] 83)).alloc (.cells #[.slice none 0 0,.slice none 0 0,.slice none 0 0,.int .u64 0] 286)).alloc (.cells #[.int .i64 0] 30))=w4 at*;have e3:=six.b3;have e5:=six.b5;have x0:(w4).cell? ⟨w.heap.size,0,none⟩=some (PV ps):=by rw[Fs e3];rfl
 have y0:(w4).cell? ⟨w.heap.size+1,0,none⟩=some (.int .u64 hh):=by rw[Fs e5];rfl
 have S4:=If six;clear e3 e5 six;refine(HG.out.1 _ S4.out.below).mono ?_;rintro e w5 ⟨rfl,rfl⟩;gi_wp2_with fail;refine(HG.out.2.2.1 _).mono ?_;rintro e w5 ⟨rfl,rfl⟩;gi_wp2_with fail;refine(HG.out.2.1 _ S4.out.below).mono ?_;rintro e w5 ⟨rfl,rfl⟩;gi_wp2_with fail;have a2:=(aa w4.heap.size w4).alloc Ih (.cells #[.func (.func 214) #[] #[PV w.heap.size,PV (w.heap.size+1)]] 219);have z4:=S4.out.size;have f3:=(a2.block w.heap.size (by omega)).trans S4.out.b3;have f5:=(a2.block (w.heap.size+1) (by omega)).trans S4.out.b5;have S5:=kq3 (S4.out.below.trans (a2.mono (by omega))) f3 f5;have bv:=heap_alloc_new w4 (.cells #[.func (.func 214) #[] #[PV w.heap.size,PV (w.heap.size+1)]] 219);have k12:(w4.alloc (.cells #[.func (.func 214) #[] #[PV w.heap.size,PV (w.heap.size+1)]] 219)).cell? ⟨w4.heap.size,0,none⟩=some (.func (.func 214) #[] #[PV w.heap.size,PV (w.heap.size+1)]):=by rw[Fs bv];rfl
 clear a2 f3 f5 bv x0 y0 z4;refine(HG.out.2.2.2.1 _ S5.a S5.b S5.c).mono ?_;rintro e w5 ⟨rfl,rfl⟩;have q1:((2*(t:Int)-1)<(kn:Int))=False:=eq_false (by omega);have q2:IntKind.u64.wrap (2*(t:Int)-1)=2*(t:Int)-1:=by show (2*(t:Int)-1) % 18446744073709551616=_;omega
 gi_wp2_with fail;refine(HG.out.2.2.2.2.1 _ S5.a S5.b S5.c).mono ?_;rintro e w5 ⟨rfl,rfl⟩;gi_wp2_with fail;clear k12 q1 q2;have six:=S4.out.six sz;generalize (w4.alloc (.cells #[.func (.func 214) #[] #[PV w.heap.size,PV (w.heap.size+1)]] 219)).alloc (.cells #[.slice none 0 0,.slice none 0 0,.slice none 0 0,.int .u64 sz] 286)=w6 at*;generalize w4.heap.size=b12 at*;have S6:=If six;have k12:=Fs (o:=0) six.k12;have k12:w6.cell? ⟨b12,0,none⟩=some (.func (.func 214) #[] #[PV w.heap.size,PV (w.heap.size+1)]):=k12;clear six;refine(HG.out.2.2.2.1 _ S6.out.below S6.out.b3 S6.out.b5).mono ?_;rintro e w5 ⟨rfl,rfl⟩;have q3:IntKind.i64.wrap (kn:Int)=(kn:Int):=aD _ (by omega);gi_wp2_with fail;clear k12 q3
 gi_loopw [14,63] (fun _ i wr=>∃j:Nat,j<=kn/\i=.int .i64 j/\∃vk vv,eX w wr ps hh b12 vk vv (.slice none 0 0) sz/\fN wr (b12+2) vk vv (.slice none 0 0) (n.keys.take j) (n.vals.take j) []) (fun _ i _=>kn-(intOf i).toNat)
 case atStart=>
  refine⟨0,by omega,rfl,.slice none 0 0,.slice none 0 0,S6.out,?_⟩;exact { k:=World.ownsRow_nil _ _ _ _,v:=World.ownsRow_nil _ _ _ _,c:=World.ownsRow_nil _ _ _ _,kv:=fun g e=>(nomatch e),kc:=fun g e=>(nomatch e),vc:=fun g e=>(nomatch e) }
 case round=>
  obtain⟨j,hj,rfl,vk,vv,gb,rows⟩:=hrel
  by_cases hlt:j<kn
  ·have eb:(j:Int)<kn:=by omega
   have jk:j<n.keys.length:=by rw[HG.out.2.2.2.2.2.2.2.2.2.1];exact hlt
   have jv:j<n.vals.length:=by rw[HG.out.2.2.2.2.2.2.2.2.1.vals];exact jk
   have gk:wAt t n kn cn (2+2*j)=n.keys[j]:=by
    unfold wAt;rw[if_neg (by omega),if_neg (by omega),if_pos (by omega),if_pos (by omega),show (2+2*j-2) / 2=j by omega,aj,af jk]
    rfl
   have gv:wAt t n kn cn (2+2*j+1)=n.vals[j]:=by
    unfold wAt;rw[if_neg (by omega),if_neg (by omega),if_pos (by omega),if_neg (by omega),show (2+2*j+1-2) / 2=j by omega,aj,af jv]
    rfl
   have tk:n.keys.take (j+1)=n.keys.take j++[n.keys[j]]:=by rw[bx jk]
   have tv:n.vals.take (j+1)=n.vals.take j++[n.vals[j]]:=by rw[bx jv]
   have ch:(n.keys.take j).length=j:=by rw[ay];omega
   have cj:(n.vals.take j).length=j:=by rw[ay];omega
   have ba:=fun W (hW:Below w.heap.size w W) e3 e5=>HG.out.2.2.2.2.2.1 W hW e3 e5 (2+2*j) (by omega);have bb:=fun W (hW:Below w.heap.size w W) e3 e5=>HG.out.2.2.2.2.2.1 W hW e3 e5 (2+2*j+1) (by omega);rw[gk] at ba;rw[gv] at bb;have b0:((2+2*j:Nat):Int)=2+2*(j:Int):=by omega
   have b1:((2+2*j+1:Nat):Int)=2+2*(j:Int)+1:=by omega
   rw[b0] at ba;rw[b1] at bb;generalize n.keys[j]=xk at*;generalize n.vals[j]=xv at*;have HC:=kq9 ba bb tk tv ch cj gb rows hlt;clear ba bb tk tv ch cj gk gv gb rows jk jv b0 b1 hlt;have m1:IntKind.i64.wrap (2*(j:Int))=2*(j:Int):=aD _ (by omega);have m2:IntKind.i64.wrap (2+2*(j:Int))=2+2*(j:Int):=aD _ (by omega);have m3:IntKind.i64.wrap (2+2*(j:Int)+1)=2+2*(j:Int)+1:=aD _ (by omega);gi_wp2_with fail;have HD:=kq2 (HC.g).drew (HC.h).drew;obtain⟨I,al,ad⟩:=ic fun w'=>w'.heap[b12]?=some (.cells #[.func (.func 214) #[] #[PV w.heap.size,PV (w.heap.size+1)]] 219 (0,0));have an:=fun x:Fq I=>al _ x.ok;have o0:∀x:Fq I,x.to.cell? ⟨b12,0,none⟩=some (.func (.func 214) #[] #[PV w.heap.size,PV (w.heap.size+1)]):=fun x=>by rw[Fs (an x)];rfl
   have ai:I wr.drew:=ad _ HD.a.k12;have HI:=If ad;clear al ad an;refine tg I (.take 0 (.take 2 (.take 3 (.take 4 (.take 5 (.two 1 6 (.go 6 (.go 7 (.go 8 (.take 9 (.go 10 .nil))))) (.two 1 7 (.go 7 (.go 8 (.take 9 (.go 10 .nil)))) (.go 1 (.go 8 (.take 9 (.go 10 .nil))))))))))) (by kernel_rfl) (by kernel_rfl) (by kernel_rfl) ai ?_;clear ai;generalize wr.drew=W at*
   iterate 5
    refine' pT ?_ ?_;rotate_left
    ·intro x;go_simp
     try rfl
    try simp only[pu]
   refine gL ?_ ?_
   focus
    have k13:=HD.a.k13;obtain⟨y0,y1,y2,y3⟩:=Fy k13;refine pD fun K hK=>?_;go_simp
    try go_simp
    refine hK.out _ _ (HI.out _ (HD.a.k12)) ?_;clear hK K
    try simp only[pu]
    clear y0 y1 y2 y3 k13;refine pD fun K hK=>?_;go_simp;refine(HC.a _ HD.a.below HD.a.b3 HD.a.b5).mono ?_;rintro e w3 ⟨rfl,rfl⟩
    try go_simp
    refine hK.out _ _ (HI.out _ (HD.a.k12)) ?_;clear hK K
    try simp only[pu]
    refine pD fun K hK=>?_;go_simp;have g2:eX w (W.alloc (.cells #[.int .u64 xk] 83)) ps hh b12 (vk) (vv) (.slice none 0 0) sz:=HD.a.grown (row:=none) (World.grownBy_alloc _ _ _) (fun g e=>nomatch e)
    try go_simp
    refine hK.out _ _ (HI.out _ (g2.k12)) ?_;clear hK K
    try simp only[pu]
    obtain⟨v',W2,hr,ho,hg,hv⟩:=jF HD.b.k (by rw[HC.e];omega) xk HD.a.size 229;have g3:=HD.a.grown hg fun g e=>(HD.b.k.ge g e).1;have gs:=sK HD.a HD.b ho hg hv;obtain⟨sA,sM,sC,rfl⟩:=ho.slice;clear ho hg hv;have HS:=If gs;clear gs;refine pD (fun K hK=>kE _ _ _ rfl rfl rfl hr ?_);clear hr
    try go_simp
    refine hK.out _ _ (HI.out _ (g3.k12)) ?_;clear hK K
    try simp only[pu]
    refine' pT ?_ ?_;rotate_left
    ·intro x;go_simp
     try rfl
    try simp only[pu]
    have k13:=g3.k13;obtain⟨y0,y1,y2,y3⟩:=Fy k13;obtain⟨f0,f1,f2,f3⟩:=fO k13;clear k13 g3;refine pD fun K hK=>?_;go_simp;clear y0 f0 y1 f1 y2 f2 y3 f3;generalize hW:W2.setCell ⟨b12+1,0,none⟩ (.slice sA sM sC)=wr2 at*
    try go_simp
    refine hK.out _ _ (HI.out _ (HS.out.1.k12)) ?_;clear hK K
    try simp only[pu]
    refine jy ?_;have HJ:=HS;generalize Value.slice sA sM sC=vk2 at*;clear hW HS g2 HD HI o0 I W2;generalize W.heap.size=wr2q;clear W
   rotate_left
   focus
    refine pD fun K hK=>?_;go_simp;refine(HC.a _ HD.a.below HD.a.b3 HD.a.b5).mono ?_;rintro e w3 ⟨rfl,rfl⟩
    try go_simp
    refine hK.out _ _ (HI.out _ (HD.a.k12)) ?_;clear hK K
    try simp only[pu]
    refine gL ?_ ?_
    focus
     have k13:=HD.a.k13;obtain⟨y0,y1,y2,y3⟩:=Fy k13;refine pD fun K hK=>?_;go_simp
     try go_simp
     refine hK.out _ _ (HI.out _ (HD.a.k12)) ?_;clear hK K
     try simp only[pu]
     clear y0 y1 y2 y3 k13;refine pD fun K hK=>?_;go_simp;have g2:eX w (W.alloc (.cells #[.int .u64 xk] 83)) ps hh b12 (vk) (vv) (.slice none 0 0) sz:=HD.a.grown (row:=none) (World.grownBy_alloc _ _ _) (fun g e=>nomatch e)
     try go_simp
     refine hK.out _ _ (HI.out _ (g2.k12)) ?_;clear hK K
     try simp only[pu]
     obtain⟨v',W2,hr,ho,hg,hv⟩:=jF HD.b.k (by rw[HC.e];omega) xk HD.a.size 229;have g3:=HD.a.grown hg fun g e=>(HD.b.k.ge g e).1;have gs:=sK HD.a HD.b ho hg hv;obtain⟨sA,sM,sC,rfl⟩:=ho.slice;clear ho hg hv;have HS:=If gs;clear gs;refine pD (fun K hK=>kE _ _ _ rfl rfl rfl hr ?_);clear hr
     try go_simp
     refine hK.out _ _ (HI.out _ (g3.k12)) ?_;clear hK K
     try simp only[pu]
     refine' pT ?_ ?_;rotate_left
     ·intro x;go_simp
      try rfl
     try simp only[pu]
     have k13:=g3.k13;obtain⟨y0,y1,y2,y3⟩:=Fy k13;obtain⟨f0,f1,f2,f3⟩:=fO k13;clear k13 g3;refine pD fun K hK=>?_;go_simp;clear y0 f0 y1 f1 y2 f2 y3 f3;generalize hW:W2.setCell ⟨b12+1,0,none⟩ (.slice sA sM sC)=wr2 at*
     try go_simp
     refine hK.out _ _ (HI.out _ (HS.out.1.k12)) ?_;clear hK K
     try simp only[pu]
     refine jy ?_;have HJ:=HS;generalize Value.slice sA sM sC=vk2 at*;clear hW HS g2 HD HI o0 I W2;generalize W.heap.size=wr2q;clear W
    rotate_left
    focus
     refine pD fun K hK=>?_;go_simp;have g2:eX w (W.alloc (.cells #[.int .u64 xk] 83)) ps hh b12 (vk) (vv) (.slice none 0 0) sz:=HD.a.grown (row:=none) (World.grownBy_alloc _ _ _) (fun g e=>nomatch e)
     try go_simp
     refine hK.out _ _ (HI.out _ (g2.k12)) ?_;clear hK K
     try simp only[pu]
     have k13:=g2.k13;obtain⟨y0,y1,y2,y3⟩:=Fy k13;refine pD fun K hK=>?_;go_simp
     try go_simp
     refine hK.out _ _ (HI.out _ (g2.k12)) ?_;clear hK K
     try simp only[pu]
     clear y0 y1 y2 y3 k13;obtain⟨v',W2,hr,ho,hg,hv⟩:=jF HD.b.k (by rw[HC.e];omega) xk HD.a.size 229;have g3:=HD.a.grown hg fun g e=>(HD.b.k.ge g e).1;have gs:=sK HD.a HD.b ho hg hv;obtain⟨sA,sM,sC,rfl⟩:=ho.slice;clear ho hg hv;have HS:=If gs;clear gs;refine pD (fun K hK=>kE _ _ _ rfl rfl rfl hr ?_);clear hr
     try go_simp
     refine hK.out _ _ (HI.out _ (g3.k12)) ?_;clear hK K
     try simp only[pu]
     refine' pT ?_ ?_;rotate_left
     ·intro x;go_simp
      try rfl
     try simp only[pu]
     have k13:=g3.k13;obtain⟨y0,y1,y2,y3⟩:=Fy k13;obtain⟨f0,f1,f2,f3⟩:=fO k13;clear k13 g3;refine pD fun K hK=>?_;go_simp;clear y0 f0 y1 f1 y2 f2 y3 f3;generalize hW:W2.setCell ⟨b12+1,0,none⟩ (.slice sA sM sC)=wr2 at*
     try go_simp
     refine hK.out _ _ (HI.out _ (HS.out.1.k12)) ?_;clear hK K
     try simp only[pu]
     refine jy ?_;have HJ:=HS;generalize Value.slice sA sM sC=vk2 at*;clear hW HS g2 HD HI o0 I W2;generalize W.heap.size=wr2q;clear W
   all_goals
    gi_wp2_with fail;have HD:=kq2 (HJ.out.1).drew (HJ.out.2).drew;obtain⟨I,al,ad⟩:=ic fun w'=>w'.heap[b12]?=some (.cells #[.func (.func 214) #[] #[PV w.heap.size,PV (w.heap.size+1)]] 219 (0,0));have an:=fun x:Fq I=>al _ x.ok;have o0:∀x:Fq I,x.to.cell? ⟨b12,0,none⟩=some (.func (.func 214) #[] #[PV w.heap.size,PV (w.heap.size+1)]):=fun x=>by rw[Fs (an x)];rfl
    have ai:I wr2.drew:=ad _ HD.a.k12;have HI:=If ad;clear al ad an;refine tg I (.take 0 (.take 2 (.take 3 (.take 4 (.take 5 (.take 6 (.two 1 7 (.go 7 (.go 8 (.go 9 (.take 10 (.go 11 .nil))))) (.two 1 8 (.go 8 (.go 9 (.take 10 (.go 11 .nil)))) (.go 1 (.go 9 (.take 10 (.go 11 .nil)))))))))))) (by kernel_rfl) (by kernel_rfl) (by kernel_rfl) ai ?_;clear ai;generalize wr2.drew=W at*
    iterate 6
     refine' pT ?_ ?_;rotate_left
     ·intro x;go_simp
      try rfl
     try simp only[pu]
    refine gL ?_ ?_
    focus
     have k13:=HD.a.k13;obtain⟨y0,y1,y2,y3⟩:=Fy k13;refine pD fun K hK=>?_;go_simp
     try go_simp
     refine hK.out _ _ (HI.out _ (HD.a.k12)) ?_;clear hK K
     try simp only[pu]
     clear y0 y1 y2 y3 k13;refine pD fun K hK=>?_;go_simp;refine(HC.b _ HD.a.below HD.a.b3 HD.a.b5).mono ?_;rintro e w3 ⟨rfl,rfl⟩
     try go_simp
     refine hK.out _ _ (HI.out _ (HD.a.k12)) ?_;clear hK K
     try simp only[pu]
     refine pD fun K hK=>?_;go_simp;have g2:eX w (W.alloc (.cells #[.int .u64 xv] 83)) ps hh b12 (vk2) (vv) (.slice none 0 0) sz:=HD.a.grown (row:=none) (World.grownBy_alloc _ _ _) (fun g e=>nomatch e)
     try go_simp
     refine hK.out _ _ (HI.out _ (g2.k12)) ?_;clear hK K
     try simp only[pu]
     obtain⟨v',W2,hr,ho,hg,hv⟩:=jF HD.b.v (by rw[HC.f];omega) xv HD.a.size 229;have g3:=HD.a.grown hg fun g e=>(HD.b.v.ge g e).1;have gs:=sL HD.a HD.b ho hg hv;obtain⟨sA,sM,sC,rfl⟩:=ho.slice;clear ho hg hv;have HS:=If gs;clear gs;refine pD (fun K hK=>kE _ _ _ rfl rfl rfl hr ?_);clear hr
     try go_simp
     refine hK.out _ _ (HI.out _ (g3.k12)) ?_;clear hK K
     try simp only[pu]
     refine' pT ?_ ?_;rotate_left
     ·intro x;go_simp
      try rfl
     try simp only[pu]
     have k13:=g3.k13;obtain⟨y0,y1,y2,y3⟩:=Fy k13;obtain⟨f0,f1,f2,f3⟩:=fO k13;clear k13 g3;refine pD fun K hK=>?_;go_simp;clear y0 f0 y1 f1 y2 f2 y3 f3;generalize hW:W2.setCell ⟨b12+1,1,none⟩ (.slice sA sM sC)=wr3 at*
     try go_simp
     refine hK.out _ _ (HI.out _ (HS.out.1.k12)) ?_;clear hK K
     try simp only[pu]
     refine jy ?_;have HJ:=HS;generalize Value.slice sA sM sC=vv2 at*;clear hW HS g2 HD HI o0 I W2;generalize W.heap.size=wr3q;clear W
    rotate_left
    focus
     refine pD fun K hK=>?_;go_simp;refine(HC.b _ HD.a.below HD.a.b3 HD.a.b5).mono ?_;rintro e w3 ⟨rfl,rfl⟩
     try go_simp
     refine hK.out _ _ (HI.out _ (HD.a.k12)) ?_;clear hK K
     try simp only[pu]
     refine gL ?_ ?_
     focus
      have k13:=HD.a.k13;obtain⟨y0,y1,y2,y3⟩:=Fy k13;refine pD fun K hK=>?_;go_simp
      try go_simp
      refine hK.out _ _ (HI.out _ (HD.a.k12)) ?_;clear hK K
      try simp only[pu]
      clear y0 y1 y2 y3 k13;refine pD fun K hK=>?_;go_simp;have g2:eX w (W.alloc (.cells #[.int .u64 xv] 83)) ps hh b12 (vk2) (vv) (.slice none 0 0) sz:=HD.a.grown (row:=none) (World.grownBy_alloc _ _ _) (fun g e=>nomatch e)
      try go_simp
      refine hK.out _ _ (HI.out _ (g2.k12)) ?_;clear hK K
      try simp only[pu]
      obtain⟨v',W2,hr,ho,hg,hv⟩:=jF HD.b.v (by rw[HC.f];omega) xv HD.a.size 229;have g3:=HD.a.grown hg fun g e=>(HD.b.v.ge g e).1;have gs:=sL HD.a HD.b ho hg hv;obtain⟨sA,sM,sC,rfl⟩:=ho.slice;clear ho hg hv;have HS:=If gs;clear gs;refine pD (fun K hK=>kE _ _ _ rfl rfl rfl hr ?_);clear hr
      try go_simp
      refine hK.out _ _ (HI.out _ (g3.k12)) ?_;clear hK K
      try simp only[pu]
      refine' pT ?_ ?_;rotate_left
      ·intro x;go_simp
       try rfl
      try simp only[pu]
      have k13:=g3.k13;obtain⟨y0,y1,y2,y3⟩:=Fy k13;obtain⟨f0,f1,f2,f3⟩:=fO k13;clear k13 g3;refine pD fun K hK=>?_;go_simp;clear y0 f0 y1 f1 y2 f2 y3 f3;generalize hW:W2.setCell ⟨b12+1,1,none⟩ (.slice sA sM sC)=wr3 at*
      try go_simp
      refine hK.out _ _ (HI.out _ (HS.out.1.k12)) ?_;clear hK K
      try simp only[pu]
      refine jy ?_;have HJ:=HS;generalize Value.slice sA sM sC=vv2 at*;clear hW HS g2 HD HI o0 I W2;generalize W.heap.size=wr3q;clear W
     rotate_left
     focus
      refine pD fun K hK=>?_;go_simp;have g2:eX w (W.alloc (.cells #[.int .u64 xv] 83)) ps hh b12 (vk2) (vv) (.slice none 0 0) sz:=HD.a.grown (row:=none) (World.grownBy_alloc _ _ _) (fun g e=>nomatch e)
      try go_simp
      refine hK.out _ _ (HI.out _ (g2.k12)) ?_;clear hK K
      try simp only[pu]
      have k13:=g2.k13;obtain⟨y0,y1,y2,y3⟩:=Fy k13;refine pD fun K hK=>?_;go_simp
      try go_simp
      refine hK.out _ _ (HI.out _ (g2.k12)) ?_;clear hK K
      try simp only[pu]
      clear y0 y1 y2 y3 k13;obtain⟨v',W2,hr,ho,hg,hv⟩:=jF HD.b.v (by rw[HC.f];omega) xv HD.a.size 229;have g3:=HD.a.grown hg fun g e=>(HD.b.v.ge g e).1;have gs:=sL HD.a HD.b ho hg hv;obtain⟨sA,sM,sC,rfl⟩:=ho.slice;clear ho hg hv;have HS:=If gs;clear gs;refine pD (fun K hK=>kE _ _ _ rfl rfl rfl hr ?_);clear hr
      try go_simp
      refine hK.out _ _ (HI.out _ (g3.k12)) ?_;clear hK K
      try simp only[pu]
      refine' pT ?_ ?_;rotate_left
      ·intro x;go_simp
       try rfl
      try simp only[pu]
      have k13:=g3.k13;obtain⟨y0,y1,y2,y3⟩:=Fy k13;obtain⟨f0,f1,f2,f3⟩:=fO k13;clear k13 g3;refine pD fun K hK=>?_;go_simp;clear y0 f0 y1 f1 y2 f2 y3 f3;generalize hW:W2.setCell ⟨b12+1,1,none⟩ (.slice sA sM sC)=wr3 at*
      try go_simp
      refine hK.out _ _ (HI.out _ (HS.out.1.k12)) ?_;clear hK K
      try simp only[pu]
      refine jy ?_;have HJ:=HS;generalize Value.slice sA sM sC=vv2 at*;clear hW HS g2 HD HI o0 I W2;generalize W.heap.size=wr3q;clear W
    all_goals
     gi_wp2_with fail;refine⟨⟨j+1,by omega,by simp,vk2,vv2,HJ.out.1,by rw[HC.c,HC.d];exact HJ.out.2⟩,?_⟩
     show kn-((j:Int)+1).toNat<kn-(j:Int).toNat
     omega
  ·have cs:kn=j:=by omega
   subst cs;have cu:¬((kn:Int)<kn):=by omega
   have tk:n.keys.take kn=n.keys:=bi (by rw[HG.out.2.2.2.2.2.2.2.2.2.1];exact Nat.le_refl _);have tv:n.vals.take kn=n.vals:=bi (by rw[HG.out.2.2.2.2.2.2.2.2.1.vals,HG.out.2.2.2.2.2.2.2.2.2.1];exact Nat.le_refl _);rw[tk,tv] at rows;obtain⟨Ak,ck,c4⟩:∃A c,vk=.slice A kn c:=by have:=rows.k.slice2;rw[HG.out.2.2.2.2.2.2.2.2.2.1] at this;exact this
   subst c4;have R1:=kq2 gb rows;clear gb rows tk tv
   gi_upto_region 21 with fail
   clear cu;have m4:IntKind.i64.wrap (4*(t:Int))=4*(t:Int):=aD _ (by omega)
   iterate 6 gi_step
   rename_i hKs;refine hKs _ _ ?_;clear hKs
   gi_cut [15] from 88 (fun _ wc=>∃vc,eX w wc ps hh b12 (.slice Ak kn ck) vv vc sz/\fN wc (b12+2) (.slice Ak kn ck) vv vc n.keys n.vals n.kids)
   case first=>
    gi_wp2_with fail
    gi_loopw [15] (fun i wr=>∃j:Nat,j<=cn/\i=.int .i64 j/\∃vc,eX w wr ps hh b12 (.slice Ak kn ck) vv vc sz/\fN wr (b12+2) (.slice Ak kn ck) vv vc n.keys n.vals (n.kids.take j)) (fun i _=>kn+1-(intOf i).toNat)
    case atStart=>exact⟨0,by omega,rfl,.slice none 0 0,R1.a,by simpa using R1.b⟩
    case round=>
     clear R1;obtain⟨j,hj,rfl,vc,gb,rows⟩:=hrel;have ap:=callsIn_wide (n:=6) |>.2 (HG.out.2.2.2.2.2.1 _ gb.below gb.b3 gb.b5 (4*t) (by omega))
     have a4:((4*t:Nat):Int)=4*(t:Int):=by omega
     rw[a4] at ap;have k13:=gb.k13;obtain⟨y0,y1,y2,y3⟩:=Fy k13;have k12:=Fs (o:=0) gb.k12;have k12:wr.cell? ⟨b12,0,none⟩=some (.func (.func 214) #[] #[PV w.heap.size,PV (w.heap.size+1)]):=k12;have bc:=HG.out.2.2.2.2.2.2.2.2.2.2.1;have q4:wAt t n kn cn (4*t)=n.kids.getD 0 0:=by
      unfold wAt;rw[if_neg (by omega),if_neg (by omega),if_neg (by omega)]
      by_cases h0:0<cn
      ·rw[if_pos (by omega),dT]
      ·rw[if_neg (by omega),aj,aH (by omega)]
       rfl
     rw[q4] at ap
     by_cases hlt2:j<cn
     ·have d1:cn=kn+1:=by omega
      have jc:j<n.kids.length:=by rw[bc];exact hlt2
      have b9:((j:Int)<=kn):=by omega
      have h0:n.kids.getD 0 0≠0:=fun e=>by
       rcases HG.out.2.2.2.2.2.2.2.2.1.kids with h | ⟨-,h⟩
       ·omega
       ·rw[aj,af (by omega)] at e;have:n.kids.contains 0=true:=db.2 (e▸aG _);rw[h] at this
        cases this
      generalize n.kids.getD 0 0=g0 at*;have cx:(((g0:Nat):Int) !=0)=true:=by simp;omega
      have gc:wAt t n kn cn (4*t+j)=n.kids[j]:=by
       unfold wAt;rw[if_neg (by omega),if_neg (by omega),if_neg (by omega),if_pos (by omega),cE,aj,af jc]
       rfl
      have tc:n.kids.take (j+1)=n.kids.take j++[n.kids[j]]:=by rw[bx jc]
      have cb:(n.kids.take j).length=j:=by rw[ay];omega
      have a9:=fun W (hW:Below w.heap.size w W) e3 e5=>HG.out.2.2.2.2.2.1 W hW e3 e5 (4*t+j) (by omega);rw[gc] at a9;have b2:((4*t+j:Nat):Int)=4*(t:Int)+(j:Int):=by omega
      rw[b2] at a9;generalize n.kids[j]=xc at*;have HC:=kq6 a9 tc cb gb rows ap;have m5:IntKind.i64.wrap (4*(t:Int)+(j:Int))=4*(t:Int)+(j:Int):=aD _ (by omega);clear a9 tc cb gc gb rows jc b2 ap q4 k13 a4 bc h0 hlt2;gi_wp2_with fail;refine HC.f.mono ?_;rintro e w8 ⟨rfl,rfl⟩;gi_wp2_with fail;clear y0 y1 y2 y3 k12 cx;have HD:=kq2 (HC.d).drew (HC.e).drew;obtain⟨I,al,ad⟩:=ic fun w'=>w'.heap[b12]?=some (.cells #[.func (.func 214) #[] #[PV w.heap.size,PV (w.heap.size+1)]] 219 (0,0));have an:=fun x:Fq I=>al _ x.ok;have o0:∀x:Fq I,x.to.cell? ⟨b12,0,none⟩=some (.func (.func 214) #[] #[PV w.heap.size,PV (w.heap.size+1)]):=fun x=>by rw[Fs (an x)];rfl
      have ai:I wr.drew:=ad _ HD.a.k12;have HI:=If ad;clear al ad an;refine tg I (.take 0 (.take 2 (.take 3 (.take 4 (.take 5 (.take 6 (.two 1 7 (.go 7 (.go 8 (.go 9 (.take 10 (.go 11 .nil))))) (.two 1 8 (.go 8 (.go 9 (.take 10 (.go 11 .nil)))) (.go 1 (.go 9 (.take 10 (.go 11 .nil)))))))))))) (by kernel_rfl) (by kernel_rfl) (by kernel_rfl) ai ?_;clear ai;generalize wr.drew=W at*
      iterate 6
       refine' pT ?_ ?_;rotate_left
       ·intro x;go_simp
        try rfl
       try simp only[pu]
      refine gL ?_ ?_
      focus
       have k13:=HD.a.k13;obtain⟨y0,y1,y2,y3⟩:=Fy k13;refine pD fun K hK=>?_;go_simp
       try go_simp
       refine hK.out _ _ (HI.out _ (HD.a.k12)) ?_;clear hK K
       try simp only[pu]
       clear y0 y1 y2 y3 k13;refine pD fun K hK=>?_;go_simp;refine(HC.a _ HD.a.below HD.a.b3 HD.a.b5).mono ?_;rintro e w3 ⟨rfl,rfl⟩
       try go_simp
       refine hK.out _ _ (HI.out _ (HD.a.k12)) ?_;clear hK K
       try simp only[pu]
       refine pD fun K hK=>?_;go_simp;have g2:eX w (W.alloc (.cells #[.int .u64 xc] 83)) ps hh b12 (.slice Ak kn ck) (vv) (vc) sz:=HD.a.grown (row:=none) (World.grownBy_alloc _ _ _) (fun g e=>nomatch e)
       try go_simp
       refine hK.out _ _ (HI.out _ (g2.k12)) ?_;clear hK K
       try simp only[pu]
       obtain⟨v',W2,hr,ho,hg,hv⟩:=jF HD.b.c (by rw[HC.c];omega) xc HD.a.size 229;have g3:=HD.a.grown hg fun g e=>(HD.b.c.ge g e).1;have gs:=sN HD.a HD.b ho hg hv;obtain⟨sA,sM,sC,rfl⟩:=ho.slice;clear ho hg hv;have HS:=If gs;clear gs;refine pD (fun K hK=>kE _ _ _ rfl rfl rfl hr ?_);clear hr
       try go_simp
       refine hK.out _ _ (HI.out _ (g3.k12)) ?_;clear hK K
       try simp only[pu]
       refine' pT ?_ ?_;rotate_left
       ·intro x;go_simp
        try rfl
       try simp only[pu]
       have k13:=g3.k13;obtain⟨y0,y1,y2,y3⟩:=Fy k13;obtain⟨f0,f1,f2,f3⟩:=fO k13;clear k13 g3;refine pD fun K hK=>?_;go_simp;clear y0 f0 y1 f1 y2 f2 y3 f3;generalize hW:W2.setCell ⟨b12+1,2,none⟩ (.slice sA sM sC)=wr2 at*
       try go_simp
       refine hK.out _ _ (HI.out _ (HS.out.1.k12)) ?_;clear hK K
       try simp only[pu]
       refine jy ?_;have HJ:=HS;generalize Value.slice sA sM sC=vc2 at*;clear hW HS g2 HD HI o0 I W2;generalize W.heap.size=wr2q;clear W
      rotate_left
      focus
       refine pD fun K hK=>?_;go_simp;refine(HC.a _ HD.a.below HD.a.b3 HD.a.b5).mono ?_;rintro e w3 ⟨rfl,rfl⟩
       try go_simp
       refine hK.out _ _ (HI.out _ (HD.a.k12)) ?_;clear hK K
       try simp only[pu]
       refine gL ?_ ?_
       focus
        have k13:=HD.a.k13;obtain⟨y0,y1,y2,y3⟩:=Fy k13;refine pD fun K hK=>?_;go_simp
        try go_simp
        refine hK.out _ _ (HI.out _ (HD.a.k12)) ?_;clear hK K
        try simp only[pu]
        clear y0 y1 y2 y3 k13;refine pD fun K hK=>?_;go_simp;have g2:eX w (W.alloc (.cells #[.int .u64 xc] 83)) ps hh b12 (.slice Ak kn ck) (vv) (vc) sz:=HD.a.grown (row:=none) (World.grownBy_alloc _ _ _) (fun g e=>nomatch e)
        try go_simp
        refine hK.out _ _ (HI.out _ (g2.k12)) ?_;clear hK K
        try simp only[pu]
        obtain⟨v',W2,hr,ho,hg,hv⟩:=jF HD.b.c (by rw[HC.c];omega) xc HD.a.size 229;have g3:=HD.a.grown hg fun g e=>(HD.b.c.ge g e).1;have gs:=sN HD.a HD.b ho hg hv;obtain⟨sA,sM,sC,rfl⟩:=ho.slice;clear ho hg hv;have HS:=If gs;clear gs;refine pD (fun K hK=>kE _ _ _ rfl rfl rfl hr ?_);clear hr
        try go_simp
        refine hK.out _ _ (HI.out _ (g3.k12)) ?_;clear hK K
        try simp only[pu]
        refine' pT ?_ ?_;rotate_left
        ·intro x;go_simp
         try rfl
        try simp only[pu]
        have k13:=g3.k13;obtain⟨y0,y1,y2,y3⟩:=Fy k13;obtain⟨f0,f1,f2,f3⟩:=fO k13;clear k13 g3;refine pD fun K hK=>?_;go_simp;clear y0 f0 y1 f1 y2 f2 y3 f3;generalize hW:W2.setCell ⟨b12+1,2,none⟩ (.slice sA sM sC)=wr2 at*
        try go_simp
        refine hK.out _ _ (HI.out _ (HS.out.1.k12)) ?_;clear hK K
        try simp only[pu]
        refine jy ?_;have HJ:=HS;generalize Value.slice sA sM sC=vc2 at*;clear hW HS g2 HD HI o0 I W2;generalize W.heap.size=wr2q;clear W
       rotate_left
       focus
        refine pD fun K hK=>?_;go_simp;have g2:eX w (W.alloc (.cells #[.int .u64 xc] 83)) ps hh b12 (.slice Ak kn ck) (vv) (vc) sz:=HD.a.grown (row:=none) (World.grownBy_alloc _ _ _) (fun g e=>nomatch e)
        try go_simp
        refine hK.out _ _ (HI.out _ (g2.k12)) ?_;clear hK K
        try simp only[pu]
        have k13:=g2.k13;obtain⟨y0,y1,y2,y3⟩:=Fy k13;refine pD fun K hK=>?_;go_simp
        try go_simp
        refine hK.out _ _ (HI.out _ (g2.k12)) ?_;clear hK K
        try simp only[pu]
        clear y0 y1 y2 y3 k13;obtain⟨v',W2,hr,ho,hg,hv⟩:=jF HD.b.c (by rw[HC.c];omega) xc HD.a.size 229;have g3:=HD.a.grown hg fun g e=>(HD.b.c.ge g e).1;have gs:=sN HD.a HD.b ho hg hv;obtain⟨sA,sM,sC,rfl⟩:=ho.slice;clear ho hg hv;have HS:=If gs;clear gs;refine pD (fun K hK=>kE _ _ _ rfl rfl rfl hr ?_);clear hr
        try go_simp
        refine hK.out _ _ (HI.out _ (g3.k12)) ?_;clear hK K
        try simp only[pu]
        refine' pT ?_ ?_;rotate_left
        ·intro x;go_simp
         try rfl
        try simp only[pu]
        have k13:=g3.k13;obtain⟨y0,y1,y2,y3⟩:=Fy k13;obtain⟨f0,f1,f2,f3⟩:=fO k13;clear k13 g3;refine pD fun K hK=>?_;go_simp;clear y0 f0 y1 f1 y2 f2 y3 f3;generalize hW:W2.setCell ⟨b12+1,2,none⟩ (.slice sA sM sC)=wr2 at*
        try go_simp
        refine hK.out _ _ (HI.out _ (HS.out.1.k12)) ?_;clear hK K
        try simp only[pu]
        refine jy ?_;have HJ:=HS;generalize Value.slice sA sM sC=vc2 at*;clear hW HS g2 HD HI o0 I W2;generalize W.heap.size=wr2q;clear W
      all_goals
       gi_wp2_with fail;refine⟨⟨j+1,by omega,by simp,vc2,HJ.out.1,by rw[HC.b];exact HJ.out.2⟩,?_⟩
       show kn+1-((j:Int)+1).toNat<kn+1-(j:Int).toNat
       omega
     ·have tc:n.kids.take j=n.kids:=bi (by omega);rw[tc] at rows;have HC:=kq3 gb rows ap;clear gb rows ap k13 tc
      by_cases hc0:cn=0
      ·have cp:j=0:=by omega
       subst cp;have q0:n.kids.getD 0 0=0:=by rw[aj,aH (by omega)];rfl
       rw[q0] at HC;have b9:((0:Nat):Int)<=kn:=by omega
       clear q0 q4 a4 bc hlt2;gi_wp2_with fail;refine HC.c.mono ?_;rintro e w8 ⟨rfl,rfl⟩;gi_wp2_with fail
       gi_meet
       case rel=>exact⟨vc,HC.a,HC.b⟩
      ·have cr:j=kn+1:=by omega
       subst cr;have b9:¬(((kn+1:Nat):Int)<=kn):=by omega
       have d8:¬((kn:Int)+1<=kn):=by omega
       have d9:¬(kn+1<=kn):=by omega
       clear q4 a4 bc hlt2;gi_wp2_with fail;refine⟨fun _ _=>trivial,?_⟩;gi_wp2_with fail
       gi_meet
       case rel=>exact⟨vc,HC.a,HC.b⟩
   case rest=>
    clear R1;obtain⟨vc,gb,rows⟩:=hcut;have ao:=HG.out.2.2.2.2.2.2.2.2.2.2.2.1;have bf:=HG.out.2.2.2.2.2.2.2.2.1;obtain⟨Av,cv,rfl⟩:∃A c,vv=.slice A kn c:=by have:=rows.v.slice2;rw[bf.vals,HG.out.2.2.2.2.2.2.2.2.2.1] at this;exact this
    obtain⟨Ac,cc,rfl⟩:∃A c,vc=.slice A cn c:=by have:=rows.c.slice2;rw[HG.out.2.2.2.2.2.2.2.2.2.2.1] at this;exact this
    have a8:CallsIn Fence.wide 6 prog 215 #[.int .i64 t,eC (.slice Ak kn ck) (.slice Av kn cv) (.slice Ac cn cc) n.size] wc _:=callsIn_wide.2 (pV bf rows.k.hrow rows.v.hrow rows.c.hrow);have bj:=fun W (hW:Below wc.heap.size wc W)=>(callsIn_wide (n:=6)).2 (tS (w:=W) bf (rows.k.hrow.below hW) (rows.v.hrow.below hW) (rows.c.hrow.below hW));unfold eC at a8 bj;rw[ao] at a8;simp only[ao,HG.out.2.2.2.2.2.2.2.2.2.1,HG.out.2.2.2.2.2.2.2.2.2.2.1] at bj;have k13:=gb.k13;obtain⟨y0,y1,y2,y3⟩:=Fy k13;have HC:=kq3 bj gb rows;have HF:=If a8;clear bj gb rows k13 a8 bf ao;gi_wp2_with fail;refine HF.out.mono ?_;rintro e w8 ⟨rfl,a3⟩;clear y0 y1 y2 y3 HF;have g8:=HC.b.up a3;have k13:=g8.k13;obtain⟨y0,y1,y2,y3⟩:=Fy k13;have H8:=kq3 a3 g8 (HC.c.below a3);clear a3 g8 k13;gi_wp2_with fail;refine(HC.a _ H8.a).mono ?_;rintro e w9 ⟨Bx,rfl,c7,rB,rG,bm⟩;have g9:=H8.b.up bm;have r9:=H8.c.below bm;obtain⟨f,hf⟩:=Ii (wAt t n kn cn);rw[hf] at rG;have cm:∀j,j<6*t->f j<2^64:=fun j hj=>HG.out.2.2.2.2.2.2.2.2.2.2.2.2 _ (by
     unfold bnWords;rw[HG.out.2.2.2.2.2.2.2.2.2.1,HG.out.2.2.2.2.2.2.2.2.2.2.1,hf];exact aC.2 ⟨j,bJ.2 hj,rfl⟩)
    have dc:=(gl rG);have bk:=tC (by omega) cm rB rG (fun k=>k=w8.heap.size+1) rfl;have k13:=g9.k13;have H9:=kq3 g9 r9 hf;clear g9 r9 hf y0 y1 y2 y3 bm rB rG;gi_wp2_with fail;refine wpIn_rangeFunc_ownH rfl h1 (gf:=261) (lb:=#[PV Bx]) rfl trivial (enters_of func261 (by kernel_rfl) rfl)
     bk ir.trans (fun W l o o' q1 q2 q3 q4=>⟨by simp,fun k hk=>World.putObj_heap_other (by omega)⟩) (aa _ _) (fun _=>rfl)
     (fun _ W=>Below w9.heap.size w9 W)
     (fun cd a1 _=>cd=.ret/\∃x∈a1,x.1.2≠f x.1.1)
     (fun a1 W W' row hs hg hr=>⟨hg.os.trans hs.os,hg.tape.trans hs.tape,hg.output.trans hs.output,aO hs.size hg.size,fun k hk=>(hg.block k (bD hk hs.size) (fun e=>by have:=(hr k e.symm).1;omega)).trans (hs.block k hk)⟩)
     (fun _ _ _ _ _ hs _ _=>hs)
     (aa _ _)
     (fun x a' _=>a'= { tmps:=#[PV ps,.int .i64 t,.int .u64 hh,PV w.heap.size,undef,PV (w.heap.size+1),PV (w.heap.size+1+1),PV (w.heap.size+1+1+1),.int .i64 0,.int .i64 7,.int .i64 (6*(t:Int)),.int .i64 0,PV b12,PV (b12+1),u14,u15,.int .i64 x.1.1,.int .u64 x.1.2,.tuple #[.int .i64 0,.int .i64 7],PV ps,.tuple #[.int .i64 0,.int .i64 7],.int .i64 0,.int .i64 7,.int .i64 7,.bool false,undef,undef,.int .i64 t,.bool true,.bool false,undef,.tuple #[.int .i64 (6*(t:Int)),.int .i64 0],PV ps,.int .u64 hh,.tuple #[.int .i64 (6*(t:Int)),.int .i64 0],.int .i64 (6*(t:Int)),.int .i64 0,.bool false,.int .i64 0,.bool false,undef,undef,.bool false,.int .i64 (6*(t:Int)),.int .i64 t,.int .i64 (6*(t:Int)),.bool false,undef,.func (.func 214) #[] #[PV w.heap.size,PV (w.heap.size+1)],.func (.func 214) #[] #[PV w.heap.size,PV (w.heap.size+1)],.int .u64 kn,.int .i64 t,.int .i64 (2*(t:Int)),.int .i64 (2*(t:Int)-1),.int .u64 (2*(t:Int)-1),.bool false,undef,.func (.func 214) #[] #[PV w.heap.size,PV (w.heap.size+1)],.int .u64 sz,.agg #[.slice none 0 0,.slice none 0 0,.slice none 0 0,.int .u64 sz],.func (.func 214) #[] #[PV w.heap.size,PV (w.heap.size+1)],.int .u64 kn,.int .i64 kn,.int .i64 kn,.bool false,u65,u66,u67,u68,u69,u70,u71,u72,u73,u74,u75,u76,u77,u78,u79,u80,u81,u82,u83,u84,u85,u86,u87,u88,u89,u90,u91,u92,u93,u94,u95,u96,u97,u98,u99,u100,u101,u102,u103,u104,u105,u106,u107,u108,u109,u110,u111,u112,.int .i64 t,.agg #[.slice Ak kn ck,(.slice Av kn cv),(.slice Ac cn cc),.int .u64 sz],.bool true,.bool false,u117,.int .i64 t,.agg #[.slice Ak kn ck,(.slice Av kn cv),(.slice Ac cn cc),.int .u64 sz],.func (.func 261) #[] #[PV Bx],.int .i64 x.1.1,.int .u64 x.1.2,u123,u124,u125,u126,u127,u128,u129],defers:=[] })
     (fun x a' _ X W' row hs hg hr=>hs)
     ?assign ?body ?done ?stop
    case assign=>
     rintro l a1 ⟨⟨i,x⟩,hx⟩ W K hI hK;have HK:=If hK;clear hK;simp only[n9]
     gi_wp2
     exact HK.out _ _ (KeepsFrom.refl _ _) (ir.refl _ _) hI rfl
    case body=>
     rintro l a1 ⟨⟨i,x⟩,hx⟩ a' W ea _ hI rfl hlt;simp only at hx⊢;have g:=H9.a.up hI;have k12:W.cell? ⟨b12,0,none⟩=some (.func (.func 214) #[] #[PV w.heap.size,PV (w.heap.size+1)]):=by rw[Fs g.k12];rfl
     have bo:CallsIn Fence.wide 4 prog 214 #[.int .i64 i,PV w.heap.size,PV (w.heap.size+1)] W _:=callsIn_wide.2 (HG.out.2.2.2.2.2.1 W g.below g.b3 g.b5 i hx.1);rw[H9.c] at bo;have e6:=g.b6;have e7:=g.b7;obtain⟨c0,c1,c2,c3⟩:=Fy e6;obtain⟨p0,p1,p2,p3⟩:=fO e6;have d0:(W).cell? ⟨w.heap.size+1+1+1,0,none⟩=some (.int .i64 0):=by rw[Fs e7];rfl
     have q0:(W).frozen? ⟨w.heap.size+1+1+1,0,none⟩=false:=AT e7;have HH:=kq2 hI bo;have HX:=If hx;clear hI bo bk g e6 e7
     by_cases hfx:x=f i
     ·have hq:(((f i:Nat):Int) !=x)=false:=by simp;omega
      gi_wp2_with fail;refine(CallsIn.inRound l HH.b).mono ?_;rintro e c6 ⟨rfl,rfl⟩;gi_wp2_with fail;exact⟨KeepsFrom.refl _ _,ir.refl _ _,HH.a⟩
     ·have hq:(((f i:Nat):Int) !=x)=true:=by simp;omega
      have ed:¬((f i:Nat):Int)=x:=by omega
      gi_wp2_with fail;refine(CallsIn.inRound l HH.b).mono ?_;rintro e c6 ⟨rfl,rfl⟩;gi_wp2_with fail;exact⟨((((((KeepsOthers.setCell _ _ _).trans (KeepsOthers.setCell _ _ _)).trans (KeepsOthers.setCell _ _ _)).trans (KeepsOthers.setCell _ _ _)).trans (KeepsOthers.setCell _ _ _)).from _),rfl,⟨⟨(i,x),HX.out⟩,by simp,hfx⟩⟩
    case done=>
     rintro D ys W hD hS hI hK;have g:=H9.a.up hI;have e6:=g.b6;have e7:=g.b7;have k13:=g.k13;have ee:=H9.a.size;have ds:w.heap.size+4<=b12:=Nat.le_of_eq g.at12.symm;have c':b12+2<=D:=by omega
     obtain⟨y0,y1,y2,y3⟩:=Fy k13;obtain⟨c0,c1,c2,c3⟩:=Fy e6;obtain⟨p0,p1,p2,p3⟩:=fO e6;have d0:(W).cell? ⟨w.heap.size+1+1+1,0,none⟩=some (.int .i64 0):=by rw[Fs e7];rfl
     have q0:(W).frozen? ⟨w.heap.size+1+1+1,0,none⟩=false:=AT e7;have a6:=oZ (u0:=.slice Ak kn ck) (u1:=(.slice Av kn cv)) (u2:=(.slice Ac cn cc)) (u3:=.int .u64 sz) e6;have B6:=oY (u0:=.slice Ak kn ck) (u1:=(.slice Av kn cv)) (u2:=(.slice Ac cn cc)) (u3:=.int .u64 sz) (b:=w.heap.size+1+1) g.below (by omega);have o6:∀k,k≠w.heap.size+1+1->_:=fun k hk=>sy (w:=W) (b:=w.heap.size+1+1) (k:=k) (u0:=.slice Ak kn ck) (u1:=(.slice Av kn cv)) (u2:=(.slice Ac cn cc)) (u3:=.int .u64 sz) hk;have a7:=heap_setCell (i:=0) (v:=.int .i64 0) ((o6 (w.heap.size+1+1+1) (by omega)).trans e7);have HK:=kq6 hI hK a6 B6 o6 a7;clear hI hK hS bk g e6 e7 k13 a6 B6 o6 a7;gi_wp2_with fail;obtain⟨hI,hK,a6,B6,o6,a7⟩:=HK.out;clear HK;generalize dk:((((W.setCell ⟨w.heap.size+1+1,0,none⟩ (.slice Ak kn ck)).setCell ⟨w.heap.size+1+1,1,none⟩ ((.slice Av kn cv))).setCell ⟨w.heap.size+1+1,2,none⟩ ((.slice Ac cn cc))).setCell ⟨w.heap.size+1+1,3,none⟩ (.int .u64 sz))=W5 at*;have c5:W5.heap[D]?=some (.deferred (some [])):=(o6 D (by omega)).trans hK;have n7:∀k,k≠w.heap.size+1+1+1->(W5.setCell ⟨w.heap.size+1+1+1,0,none⟩ (.int .i64 0)).heap[k]?=W5.heap[k]?:=fun k hk=>FB hk;have ca:=(n7 D (by omega)).trans c5;have b6:=(n7 (w.heap.size+1+1) (by omega)).trans a6;have B7:=B6.setCell (p:=⟨w.heap.size+1+1+1,0,none⟩) (by show w.heap.size<=w.heap.size+1+1+1;omega) (.int .i64 0);generalize dn:W5.setCell ⟨w.heap.size+1+1+1,0,none⟩ (.int .i64 0)=W6 at*;refine⟨by simp,.inl ⟨_,_,rfl,run_takeDeferred ca,?_⟩⟩;have bu:∀k,k≠D->(W6.putObj D (.deferred none)).heap[k]?=W6.heap[k]?:=fun k hk=>World.putObj_heap_other hk;have z6:=(bu (w.heap.size+1+1) (by omega)).trans b6;have z7:=(bu (w.heap.size+1+1+1) (by omega)).trans a7;have BF:Below w.heap.size w (W6.putObj D (.deferred none)):=B7.trans (belowK_b (w:=w) Ih W6 D _ _ (by omega) ca rfl rfl);have RF:=H9.b.lift (W':=W6.putObj D (.deferred none)) (D':=w.heap.size) (by omega) fun k hk1 b8=>((bu k (by omega)).trans ((n7 k (by omega)).trans (o6 k (by omega)))).trans (hI.block k b8);obtain⟨e0,e1,e2,e3⟩:=Fy z6;have d0:(W6.putObj D (.deferred none)).cell? ⟨w.heap.size+1+1+1,0,none⟩=some (.int .i64 0):=by rw[Fs z7];rfl
     refine⟨.tuple #[.agg #[.slice Ak kn ck,(.slice Av kn cv),(.slice Ac cn cc),.int .u64 sz],.int .i64 0],?_,.slice Ak kn ck,(.slice Av kn cv),(.slice Ac cn cc),by rw[HG.out.2.2.2.2.2.2.2.2.2.2.2.1];rfl,RF,BF⟩
     simp[results,f195,go_sem,e0,e1,e2,e3,d0]
    case stop=>
     rintro D cd a1 W _ ⟨tl,cw⟩ ⟨rfl,x,hx,b'⟩
     exfalso
     have hm:x.1∈gN f (6*t):=by rw[<-cw];exact az _ (aC.2 ⟨x,hx,rfl⟩)
     obtain⟨j,_,e⟩:=aC.1 hm;rw[<-e] at b';exact b' rfl
end
section
open Go.RowKit Tryz Go.BigFrame Go.Maps Go.WideMaps Lf
open Go.Shelf Go.Lib
variable{cur:Array Value}{l:List Nat}{x:Value}
def setL:Array Value->Nat->List Value->Array Value
 | a,_,[]=>a
 | a,o,v::r=>setL (a.setIfInBounds o v) (o+1) r
theorem lw:∀(vs:List Value) (a:Array Value) (o:Nat),(setL a o vs).size=a.size
 | [],_,_=>rfl
 | v::r,a,o=>by rw[setL,lw r];simp
theorem F2:∀(vs:List Value) (a:Array Value) (o j:Nat),(setL a o vs)[j]?=if o<=j/\j<o+vs.length/\j<a.size then vs[j-o]? else a[j]?
 | [],a,o,j=>by rw[setL,if_neg (by simp;omega)]
 | v::r,a,o,j=>by
  rw[setL,F2 r,Array.size_setIfInBounds,Array.getElem?_setIfInBounds];simp only[ak];by_cases h1:o+1<=j/\j<o+1+r.length/\j<a.size
  ·rw[if_pos h1,if_pos (by omega),show j-o=(j-(o+1))+1 by omega,bE]
  ·rw[if_neg h1];by_cases h2:o=j
   ·subst h2;rw[if_pos rfl];by_cases h3:o<a.size
    ·rw[if_pos h3,if_pos (by omega),dT];rfl
    ·rw[if_neg h3,if_neg (by omega),cY (by omega)]
   ·rw[if_neg h2,if_neg (by omega)]
theorem mM {ty:TypeId}{fr:Nat×Nat}{b:Nat}:∀(vs:List Value) {w:World} {cur:Array Value} (o:Nat),w.heap[b]?=some (.cells cur ty fr)->(w.setCells b o vs).heap[b]?=some (.cells (setL cur o vs) ty fr)
 | [],_,_,_,h=>h
 | v::r,w,cur,o,h=>by
  rw[World.setCells,setL];exact mM r (o+1) (heap_setCell h)
theorem ol {b k:Nat}(hk:k≠b):∀(vs:List Value) (w:World) (o:Nat),(w.setCells b o vs).heap[k]?=w.heap[k]?
 | [],_,_=>rfl
 | v::r,w,o=>by rw[World.setCells,ol hk r,FB hk]
theorem mK {b:Nat}:∀(vs:List Value) (w:World) (o:Nat),w.grownBy (w.setCells b o vs) (some b)
 | [],w,_=>⟨rfl,rfl,rfl,Nat.le_refl _,fun _ _ _=>rfl⟩
 | v::r,w,o=>by
  have h:=mK (b:=b) r (w.setCell ⟨b,o,none⟩ v) (o+1);rw[World.setCells];refine⟨h.os,h.tape,h.output,by have:=h.size;simpa using this,fun k h1 h2=>?_⟩;rw[ol (fun e=>h2 (by rw[e])) r,FB (fun e=>h2 (by rw[e]))]
theorem Bf(w:World)(row:Option Nat):w.grownBy w.drew row:=⟨rfl,rfl,rfl,Nat.le_refl _,fun _ _ _=>rfl⟩
theorem Ed{cs:List Value}{n i:Nat}(h:cur.toList.take n=cs)(hn:cs.length=n)(hi:i<=n)(hc:n+1<=cur.size):(setL (setL cur (i+1) (cs.drop i)) i [x]).toList.take (n+1)=cs.take i++x::cs.drop i:=by
 have ad:∀j,j<n->cs[j]?=cur[j]?:=fun j hj=>by rw[<-h,cC,if_pos hj,bK]
 refine dz fun j=>?_;rw[cC,bK,F2,F2,lw,aN,hn];simp only[ak,aK];have ht:(cs.take i).length=i:=by rw[ay];omega
 by_cases h1:j<i
 ·rw[cI (by omega),cC,if_pos h1,if_pos (by omega),if_neg (by omega),if_neg (by omega),ad j (by omega)]
 ·rw[bU (by omega),ht]
  by_cases h2:j=i
  ·subst h2;rw[if_pos (by omega),if_pos (by omega),dT]
   rfl
  ·obtain⟨r,rfl⟩:∃r,j=i+1+r:=⟨j-i-1,by omega⟩;rw[show i+1+r-i=r+1 by omega,bE (l:=cs.drop i)]
   by_cases h3:i+1+r<n+1
   ·rw[if_pos h3,if_neg (by omega),if_pos (by omega),cE]
   ·rw[if_neg h3,aH (by rw[aN];omega)]
theorem Ee{cs:List Value}{n i:Nat}(h:∀j,j<i->cur[j]?=cs[j]?)(hn:cs.length=n)(hi:i<=n)(hc:n+1<=cur.size):(setL (setL cur i [x]) (i+1) (cs.drop i)).toList.take (n+1)=cs.take i++x::cs.drop i:=by
 refine dz fun j=>?_;rw[cC,bK,F2,F2,lw,aN,hn];simp only[ak,aK];have ht:(cs.take i).length=i:=by rw[ay];omega
 by_cases h1:j<i
 ·rw[cI (by omega),cC,if_pos h1,if_pos (by omega),if_neg (by omega),if_neg (by omega),h j h1]
 ·rw[bU (by omega),ht]
  by_cases h2:j=i
  ·subst h2;rw[if_pos (by omega),if_neg (by omega),if_pos (by omega),dT]
   rfl
  ·obtain⟨r,rfl⟩:∃r,j=i+1+r:=⟨j-i-1,by omega⟩;rw[show i+1+r-i=r+1 by omega,bE (l:=cs.drop i)]
   by_cases h3:i+1+r<n+1
   ·rw[if_pos h3,if_pos (by omega),cE]
   ·rw[if_neg h3,aH (by rw[aN];omega)]
theorem uH(l:List Nat)(i x:Nat):hV (l.take i++x::l.drop i)=(hV l).take i++ .int .u64 x::(hV l).drop i:=by
 unfold hV;rw[aL,aM,bX,cB]
theorem uI:∀v∈hV l,v.oneCell'=true:=fun v hv=>by
 obtain⟨x,_,rfl⟩:=aC.1 hv;rfl
theorem lR{i x:Nat}(h:i<=l.length):(l.take i++x::l.drop i).length=l.length+1:=by
 rw[aE,ak,ay,aN];omega
theorem Bj{w:World}{B:Nat}{v:Value}(h:FE w B v l)(hl:l.length<=1000){i:Nat}(hi:i<=l.length){x vb:Nat}(hx:w.heap[vb]?=some (.cells #[.int .u64 x] 83 (0,0)))(hne:v.ownBlock≠some vb)(hB:B<=w.heap.size):
 Ct 332 #[v,.int .i64 i,.slice (some ⟨vb,0,none⟩) 1 1] w fun e w'=>∃v',e=.returned v'/\FE w' B v' (l.take i++x::l.drop i)/\w.grownBy w' v.ownBlock/\(v'.ownBlock=v.ownBlock\/∃g,v'.ownBlock=some g/\w.heap.size<=g):=by
 obtain⟨n,hn⟩:=Ii l.length;have ao:w.cell? ⟨vb,0,none⟩=some (.int .u64 x):=by rw[Fs hx];rfl
 obtain⟨ti,a0,ba,a1,a2⟩:=info_parts uP
 by_cases b2:i=n
 ·subst b2;have hd:l.drop i=[]:=bY (by omega);have ht:l.take i=l:=bi (by omega);have bk:∀ty,∃v' w',(Builtin.append_ #[229,229] ty #[v,.slice (some ⟨vb,0,none⟩) 1 1]).run prog w=.ok v' w'/\FE w' B v' (l++[x])/\w.grownBy w' v.ownBlock/\(v'.ownBlock=v.ownBlock\/∃g,v'.ownBlock=some g/\w.heap.size<=g):=fun ty=>by
   obtain⟨v',w',h1,h2,h3,_,h4⟩:=run_append_own_at (P:=prog) (w:=w) B 229 ty 83 ti (.int .u64 0) 1 8 underlying229 a0 ba a1 a2 rfl (by decide) v l.length (hV l) h ⟨vb,0,none⟩ 1 1 [.int .u64 x] rfl (fun j u hj=>by
    cases j with
    | zero=>simp only[dN,Option.some.injEq] at hj;subst hj;rw[Addr.add_lit];exact ao
    | succ j=>simp at hj) (by simp[Value.oneCell']) (by unfold maxLen;omega) (by omega) hB
   refine⟨v',w',h1,?_,h3,?_⟩
   ·have e:hV (l++[x])=hV l++[.int .u64 x]:=by simp[hV]
    unfold FE;rw[e,aE];exact h2
   ·rcases h4 with h4 | h4
    ·exact ab h4
    ·exact ae ⟨_,h4,Nat.le_refl _⟩
  obtain⟨v',w',hr,ho,hg,hv⟩:=bk 229;rw[hd,ht];generalize b8:v.ownBlock=ob at hg hv⊢;have HF:=kq3 ho hg hv
  rcases h.2 with⟨rfl,e0⟩ | ⟨b,c,ca,rfl,-⟩
  ·obtain rfl:i=0:=by omega
   clear bk ho hg hv h hx ao hd ht a0 ba a1 a2 b8 hne e0;go_enter func332,ntmps332
   go_wp2_with (at_builtin;refine Lib.wpList_append_run _ rfl _ _ _ _ rfl _ _ rfl rfl _ _ hr ?_)
   all_goals
    go_ret;exact⟨v',rfl,HF.out⟩
  ·rw[hn] at hr⊢;clear bk ho hg hv h hx ao hd ht a0 ba a1 a2 b8 hne;go_enter func332,ntmps332
   go_wp2_with (at_builtin;refine Lib.wpList_append_run _ rfl _ _ _ _ rfl _ _ rfl rfl _ _ hr ?_)
   all_goals
    go_ret;exact⟨v',rfl,HF.out⟩
 ·have b2:i<n:=by omega
  rcases h.2 with⟨rfl,e0⟩ | ⟨b,c,ca,rfl,hb,al,cw,bv,bc,an⟩
  ·omega
  rw[hn] at cw an⊢;rw[Nat.mul_one] at bc an;have a6:(hV l).length=n:=by simp[hV,hn]
  have b':vb≠b:=fun e=>hne (by rw[e];rfl);have ap:∀j v,(hV l)[j]?=some v->w.cell? ⟨b,0+j,none⟩=some v:=fun j v hj=>by
   rw[bT,Fs al,<-bK];have cv:j<n:=by have:=(aA.1 hj).1;omega
   rw[<-an,cC,if_pos cv] at hj;exact hj
  have a':∀j v,[Value.int .u64 x][j]?=some v->w.cell? ⟨vb,0+j,none⟩=some v:=fun j v hj=>by
   cases j with
   | zero=>simp only[dN,Option.some.injEq] at hj;subst hj;exact ao
   | succ j=>simp at hj
  have a3:∀v∈ [Value.int .u64 x],v.oneCell'=true:=fun v hv=>by rw[aT.1 hv];rfl
  have a9:(prog.info? 83).map (·.size)=some 1:=by rw[a0];simp[a1]
  have d0:IntKind.i64.wrap ((i:Int)+1)=(i:Int)+1:=aD _ (by omega);have c7:(0:Int)<=(i:Int)+1:=by omega
  have dv:((i:Int)+1).toNat=i+1:=by omega
  have bd:((hV l).drop i).length=n-i:=by rw[aN,a6]
  have d1:¬((i:Int)=(n:Int)):=by omega
  have dk:c<=9223372036854775807:=by unfold maxLen at bv;omega
  have d2:prog.follows .mixedOrders=true:=by kernel_rfl
  by_cases hroom:n+1<=c
  ·have bf:∀j,w.frozen? ⟨b,j,none⟩=false:=fun j=>AT al;have a8:∀j,j<n+1->(w.cell? ⟨b,j,none⟩).isSome=true:=fun j hj=>by rw[Fs al,Array.getElem?_eq_getElem (by omega)];rfl
   have cx:∀lb cb,(callFunc 339 #[.slice (some ⟨vb,0,none⟩) 1 1,.slice (some ⟨b,i+1,none⟩) lb cb]).run prog w=.ok (.value (.bool false)) w:=fun lb cb=>by
    rw[run_callFunc_extern (fn:=f339) (by kernel_rfl) (by kernel_rfl) (by kernel_rfl) (by kernel_rfl) (e:=Extern.SlicesOverlaps.overlaps #[229,229] #[4]) (by kernel_rfl),
     Lib.run_overlaps_apart w 229 4 83 underlying229 1 (fun _=>by kernel_rfl) ⟨vb,0,none⟩ ⟨b,i+1,none⟩ 1 1 lb cb b' 83 83 1 c (by simp[World.shape?,hx]) (by simp[World.shape?,al,bc]) (by omega) (AT hx) (AT hx)]
    rfl
   have a5:¬(c=i+1):=by omega
   have cl:(i:Int)<=(n:Int)+1:=by omega
   have c':¬(c=i):=by omega
   have cu:i<=n:=by omega
   have b0:∀ty dc sc,(Builtin.copy_ #[229,229] ty #[.slice (some ⟨b,i+1,none⟩) (n-i) dc,.slice (some ⟨b,i,none⟩) (n+1-i) sc]).run prog w.drew=.ok (goInt ((hV l).drop i).length) (w.drew.setCells b (i+1) ((hV l).drop i)):=fun ty dc sc=>
    run_copy_cells w.drew _ _ ty 83 b (i+1) (n-i) dc ⟨b,i,none⟩ (n+1-i) sc ((hV l).drop i) underlying229 a9 (by rw[bd];simp only[Nat.min_def];split<;>omega)
     (fun j v hj=>by rw[Addr.add_lit];have:=ap (i+j) v (by rwa[dL] at hj);rwa[bT] at this)
     (fun j hj=>a8 _ (by omega)) (fun j hj=>bf _) (fun v hv=>uI v (bB hv))
   obtain⟨W1,ai⟩:∃W1,W1=w.drew.setCells b (i+1) ((hV l).drop i):=⟨_,rfl⟩;have b9:∀k,k<n+1->(W1.cell? ⟨b,k,none⟩).isSome=true:=fun k hk=>by
    rw[ai];exact isSome_setCells b _ _ _ (fun j hj=>by rw[bd] at hj;exact a8 (i+1+j) (by omega)) _ (a8 k hk)
   have cr:∀(W:World),(∀x,W.cell? x=W1.cell? x)->(∀x,W.frozen? x=W1.frozen? x)->∀ty dc,(Builtin.copy_ #[229,229] ty #[.slice (some ⟨b,i,none⟩) (n+1-i) dc,.slice (some ⟨vb,0,none⟩) 1 1]).run prog W=.ok (goInt [Value.int .u64 x].length) (W.setCells b i [.int .u64 x]):=fun W hWc hWf ty dc=>
    run_copy_cells W _ _ ty 83 b i (n+1-i) dc ⟨vb,0,none⟩ 1 1 [.int .u64 x] underlying229 a9 (by simp only[Nat.min_def,ak,aK];split<;>omega)
     (fun j v hj=>by
      rw[Addr.add_lit,hWc,ai,World.cell?_setCells_out b _ _ _ _ (fun h _=>absurd h b')];exact a' j v hj)
     (fun j hj=>by rw[hWc];exact b9 _ (by simp at hj;omega)) (fun j hj=>by rw[hWf,ai,World.frozen?_setCells];exact bf _) a3
   have ar:FE ((w.drew.setCells b (i+1) ((hV l).drop i)).setCells b i [.int .u64 x]) B (.slice (some ⟨b,0,none⟩) (n+1) c) (l.take i++x::l.drop i):=by
    have a5:=mM [.int .u64 x] i (mM ((hV l).drop i) (i+1) (w:=w.drew) al);refine⟨by simp[hV],.inr ⟨b,c,_,by rw[lR (by omega),hn],hb,a5,by rw[lR (by omega),hn];exact hroom,bv,by rw[lw,lw,bc,Nat.mul_one],?_⟩⟩;rw[lR (by omega),hn,Nat.mul_one,uH];exact Ed an a6 (by omega) (by omega)
   have au:w.grownBy ((w.drew.setCells b (i+1) ((hV l).drop i)).setCells b i [.int .u64 x]) (some b):=(Bf w _).trans ((mK _ _ _).trans (mK _ _ _));have HF:=kq2 ar au;rw[<-ai] at b0 HF;clear ar au ap a8 bf b9 an al hx ao a' a3 hne h;go_enter func332,ntmps332
   go_wp2_with (simp only[cx])
   go_region_law_o (refine step_copy_runI rfl _ _ 229 229 rfl _ _ (by simp[Act.eval,Act.put]) (by simp[Act.eval,Act.put]) (b0 _ _ _) ?_)
   go_wp2_with (at_builtin;refine wpList_copy_runI _ rfl _ _ 229 229 rfl _ _ rfl rfl (cr _ (fun _=>rfl) (fun _=>rfl) _ _) ?_)
   go_ret;rw[<-ai];exact⟨_,rfl,HF.a,HF.b,ab rfl⟩
  ·have cp:c=n:=by omega
   subst cp;have cn:b<w.heap.size:=(gl al);have c3:vb<w.heap.size:=(gl hx);have b4:(c:Int)+1-(i:Int)=((c+1-i:Nat):Int):=by omega
   have bj:i+(c+1-i)=c+1:=by omega
   have hold:(Builtin.firstCells ti.size i (.slice (some ⟨b,0,none⟩) i c)).run prog w.drew=.ok ((hV l).take i).toArray w.drew:=by
    rw[a1];exact run_firstCells_some w.drew 1 i ⟨b,0,none⟩ i c ((hV l).take i) (by rw[ay];omega) (fun j v hj=>by
     rw[Addr.add_lit];rw[cC] at hj
     split at hj
     ·exact ap j v hj
     ·cases hj)
   have a7:∀ty,(Builtin.append_ #[229,3] ty #[.slice (some ⟨b,0,none⟩) i c,.int .i64 ((c:Int)+1-(i:Int))]).run prog w=
    .ok (.slice (some ⟨w.heap.size,0,none⟩) (c+1) (grownCap w (c+1) c 83)) (w.drew.alloc (.cells (((hV l).take i).toArray++Builtin.zeroCells (Value.int .u64 0).cells (c+1-i)++Builtin.zeroCells (Value.int .u64 0).cells (grownCap w (c+1) c 83-(c+1))) 83)):=fun ty=>by
    have h:=Lib.run_append_grow_zeros w 229 3 ty 83 ti _ .i64 .i64 underlying229 underlying3 a0 ba (some ⟨b,0,none⟩) i c ((hV l).take i) hold (c+1-i) (by omega) (by omega) (by omega) (by omega) (by rw[a2];omega) (by rw[a2,bj];exact growslice_fits (by omega) (by omega));rw[bj] at h;rw[b4];exact h
   obtain⟨G,hG⟩:∃G,G=grownCap w (c+1) c 83:=⟨_,rfl⟩;obtain⟨ad,a4⟩:∃ad:Array Value,ad=((hV l).take i).toArray++Builtin.zeroCells (Value.int .u64 0).cells (c+1-i)++Builtin.zeroCells (Value.int .u64 0).cells (G-(c+1)):=⟨_,rfl⟩;rw[<-hG] at a7;rw[<-a4] at a7;have ck:c+1<=G:=by rw[hG];exact grownCap_ge w _ _ _
   have bm:G<=maxLen:=by rw[hG];exact grownCap_le_maxLen w (c+1) c 83 (by unfold maxLen;omega)
   have bt:ad.size=G:=by
    rw[a4];simp only[Array.size_append,bp,size_zeroCells,ay,a6]
    simp[Value.cells]
    omega
   have bu:∀j,j<i->ad[j]?=(hV l)[j]?:=fun j hj=>by
    rw[a4,Array.append_assoc,Array.getElem?_append_left (by simp;omega),cz,cC,if_pos hj]
   obtain⟨W1,ai⟩:∃W1,W1=w.drew.alloc (.cells ad 83):=⟨_,rfl⟩;rw[<-ai] at a7;have hN:∀j,j<c+1->(W1.cell? ⟨w.heap.size,j,none⟩).isSome=true:=fun j hj=>by
    rw[ai,World.cell?_alloc_at (w:=w.drew) ad _ w.heap.size j rfl,Array.getElem?_eq_getElem (by omega)]
    rfl
   have bb:∀j,W1.frozen? ⟨w.heap.size,j,none⟩=false:=fun j=>by rw[ai];exact World.frozen?_alloc_at (w:=w.drew) ad _ w.heap.size j rfl
   have bo:∀j v,w.cell? ⟨b,j,none⟩=some v->W1.cell? ⟨b,j,none⟩=some v:=fun j v h=>by rw[ai,World.cell?_alloc_past (w:=w.drew) _ b j cn];exact h
   have bs:∀j v,w.cell? ⟨vb,j,none⟩=some v->W1.cell? ⟨vb,j,none⟩=some v:=fun j v h=>by rw[ai,World.cell?_alloc_past (w:=w.drew) _ vb j c3];exact h
   have cs:∀(W:World),(∀x,W.cell? x=W1.cell? x)->(∀x,W.frozen? x=W1.frozen? x)->∀ty dc,(Builtin.copy_ #[229,229] ty #[.slice (some ⟨w.heap.size,i,none⟩) (c+1-i) dc,.slice (some ⟨vb,0,none⟩) 1 1]).run prog W=.ok (goInt [Value.int .u64 x].length) (W.setCells w.heap.size i [.int .u64 x]):=fun W hWc hWf ty dc=>
    run_copy_cells W _ _ ty 83 w.heap.size i (c+1-i) dc ⟨vb,0,none⟩ 1 1 [.int .u64 x] underlying229 a9 (by simp only[Nat.min_def,ak,aK];split<;>omega)
     (fun j v hj=>by rw[Addr.add_lit,hWc];exact bs _ v (a' j v hj))
     (fun j hj=>by rw[hWc];exact hN _ (by simp at hj;omega)) (fun j hj=>by rw[hWf];exact bb _) a3
   have cm:b≠w.heap.size:=by omega
   have b1:∀(W:World),(∀y,W.cell? y=(W1.setCells w.heap.size i [.int .u64 x]).cell? y)->(∀y,W.frozen? y=(W1.setCells w.heap.size i [.int .u64 x]).frozen? y)->∀ty dc sc,(Builtin.copy_ #[229,229] ty #[.slice (some ⟨w.heap.size,i+1,none⟩) (c-i) dc,.slice (some ⟨b,i,none⟩) (c-i) sc]).run prog W=.ok (goInt ((hV l).drop i).length) (W.setCells w.heap.size (i+1) ((hV l).drop i)):=fun W hWc hWf ty dc sc=>
    run_copy_cells W _ _ ty 83 w.heap.size (i+1) (c-i) dc ⟨b,i,none⟩ (c-i) sc ((hV l).drop i) underlying229 a9 (by rw[bd];simp only[Nat.min_def];split<;>omega)
     (fun j v hj=>by
      rw[Addr.add_lit,hWc,World.cell?_setCells_out _ _ _ _ _ (fun h _=>absurd h cm)];have:=ap (i+j) v (by rwa[dL] at hj);rw[bT] at this;exact bo _ v this)
     (fun j hj=>by rw[hWc];exact isSome_setCells _ _ _ _ (fun t ht=>hN _ (by simp at ht;omega)) _ (hN _ (by omega)))
     (fun j hj=>by rw[hWf,World.frozen?_setCells];exact bb _) (fun v hv=>uI v (bB hv))
   have ar:FE (((w.alloc (.cells ad 83)).drew.setCells w.heap.size i [.int .u64 x]).drew.setCells w.heap.size (i+1) ((hV l).drop i)) B (.slice (some ⟨w.heap.size,0,none⟩) (c+1) G) (l.take i++x::l.drop i):=by
    have a5:=mM ((hV l).drop i) (i+1) (w:=((w.alloc (.cells ad 83)).drew.setCells w.heap.size i [.int .u64 x]).drew) (mM [.int .u64 x] i (w:=(w.alloc (.cells ad 83)).drew) (heap_alloc_new w (.cells ad 83)));refine⟨by simp[hV],.inr ⟨w.heap.size,G,_,by rw[lR (by omega),hn],hB,a5,by rw[lR (by omega),hn];exact ck,bm,by rw[lw,lw,bt,Nat.mul_one],?_⟩⟩;rw[lR (by omega),hn,Nat.mul_one,uH];exact Ee bu a6 (by omega) (by omega)
   have au:w.grownBy (((w.alloc (.cells ad 83)).drew.setCells w.heap.size i [.int .u64 x]).drew.setCells w.heap.size (i+1) ((hV l).drop i)) (some b):=by
    have g1:=mK (b:=w.heap.size) [.int .u64 x] (w.alloc (.cells ad 83)).drew i;have g2:=mK (b:=w.heap.size) ((hV l).drop i) ((w.alloc (.cells ad 83)).drew.setCells w.heap.size i [.int .u64 x]).drew (i+1);refine⟨g2.os.trans g1.os,g2.tape.trans g1.tape,g2.output.trans g1.output,aO (by show w.heap.size<=(w.alloc _).heap.size;simp) (aO g1.size g2.size),fun k hk _=>?_⟩;have e1:=ol (b:=w.heap.size) (k:=k) (by omega) ((hV l).drop i) ((w.alloc (.cells ad 83)).drew.setCells w.heap.size i [.int .u64 x]).drew (i+1);have e2:=ol (b:=w.heap.size) (k:=k) (by omega) [.int .u64 x] (w.alloc (.cells ad 83)).drew i;exact e1.trans (e2.trans (heap_alloc_old _ _ hk))
   have HF:=kq2 ar au;subst ai;have cc:∀x,((w.alloc (.cells ad 83)).drew).cell? x=(w.drew.alloc (.cells ad 83)).cell? x:=fun x=>rfl;have cd:∀x,((w.alloc (.cells ad 83)).drew).frozen? x=(w.drew.alloc (.cells ad 83)).frozen? x:=fun x=>rfl;have ch:∀y,(((w.alloc (.cells ad 83)).drew.setCells w.heap.size i [.int .u64 x]).drew).cell? y=((w.drew.alloc (.cells ad 83)).setCells w.heap.size i [.int .u64 x]).cell? y:=fun x=>rfl;have cj:∀y,(((w.alloc (.cells ad 83)).drew.setCells w.heap.size i [.int .u64 x]).drew).frozen? y=((w.drew.alloc (.cells ad 83)).setCells w.heap.size i [.int .u64 x]).frozen? y:=fun x=>rfl;have c5:¬(G=i):=by omega
   have c6:¬(G=i+1):=by omega
   have dn:¬(c=i):=by omega
   have cu:i<=c:=by omega
   have cl:(i:Int)<=(c:Int):=by omega
   have c4:G<=9223372036854775807:=by unfold maxLen at bm;omega
   have ds:(c:Int)<(c:Int)+1:=by omega
   clear b4 bj hold a4 hG bt bu hN bb bo bs ar au ap hx ao a' a3 hne h al an hroom;go_enter func332,ntmps332
   go_wp2_with (first
    | (at_builtin;refine Lib.wpList_append_run _ rfl _ _ _ _ rfl _ _ rfl rfl _ _ (a7 _) ?_)
    | (at_builtin;refine wpList_copy_runI _ rfl _ _ 229 229 rfl _ _ rfl rfl (cs _ cc cd _ _) ?_)
    | (at_builtin;refine wpList_copy_runI _ rfl _ _ 229 229 rfl _ _ rfl rfl (b1 _ (fun _=>rfl) (fun _=>rfl) _ _ _) ?_))
   go_region_law_o (refine step_copy_runI rfl _ _ 229 229 rfl (.slice (some ⟨w.heap.size,i+1,none⟩) (c-i) (G-(i+1))) (.slice (some ⟨b,i,none⟩) (c-i) (c-i)) (by simp[Act.eval,Act.put]) (by simp[Act.eval,Act.put]) (b1 _ ch cj 3 (G-(i+1)) (c-i)) ?_)
   go_wp2
   go_ret;exact⟨_,rfl,HF.a,HF.b,ae ⟨_,rfl,Nat.le_refl _⟩⟩