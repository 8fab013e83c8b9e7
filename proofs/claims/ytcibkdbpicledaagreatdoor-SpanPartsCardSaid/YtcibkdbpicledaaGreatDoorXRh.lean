/- The document's answers about ranges of rows: In, All, Some: plain laws and the walks. -/
import Derived.Test.YtcibkdbpicledaaGreatDoorXRg
set_option maxRecDepth 100000
set_option maxHeartbeats 3200000
namespace Go.Proofs.YtcibkdbpicledaaGreatDoor
open Go.RowKit Tryz Go.BigFrame Go.Maps Go.WideMaps Lf Tr
variable{v:Value}{w:World}
theorem Gr {key:List UInt8}:∀{L:List Pr} (i:Nat),ms L->eK (L.take i) key=min i (eK L key)
 | [],i,_=>by simp[eK]
 | q::L,0,_=>by simp[eK]
 | q::L,i+1,hs=>by
  obtain⟨hq,hL⟩:=aR.1 hs;rw[bJ];by_cases h:Fu q.1 key<0
  ·have hc:∀M:List Pr,eK (q::M) key=eK M key+1:=fun M=>by unfold eK;rw[cy (by simpa using h)]
   rw[hc,hc,Gr i hL];omega
  ·have hc:eK (q::L) key=0:=by
    unfold eK;refine cP.2 fun p hp=>?_;rcases ag.1 hp with rfl | hp
    ·simpa using h
    ·simpa using fun hl=>h (ig (hq p hp) hl)
   have ad:eK (q::L.take i) key<=eK (q::L) key:=((List.take_sublist i L).cons_cons q).countP_le;omega
theorem GW(L M:List Pr)(key:List UInt8):eK (L++M) key=eK L key+eK M key:=List.countP_append
theorem GX{key:List UInt8}{L:List Pr}(i:Nat)(hs:ms L):eK (L.drop i) key=eK L key-i:=by
 have h1:=GW (L.take i) (L.drop i) key;rw[aN,Gr i hs] at h1;omega
theorem Gs {key:List UInt8}:∀{L:List Pr},ms L->L.filter (fun p=> !decide (Fu p.1 key<0))=L.drop (eK L key)
 | [],_=>rfl
 | q::L,hs=>by
  obtain⟨hq,hL⟩:=aR.1 hs;by_cases h:Fu q.1 key<0
  ·have hc:eK (q::L) key=eK L key+1:=by unfold eK;rw[cy (by simpa using h)]
   rw[hc,dJ (by simpa using h),bP,Gs hL]
  ·have ad:∀p∈q::L,¬Fu p.1 key<0:=fun p hp=>by
    rcases ag.1 hp with rfl | hp
    ·exact h
    ·exact fun hl=>h (ig (hq p hp) hl)
   have hc:eK (q::L) key=0:=by
    unfold eK;exact cP.2 fun p hp=>by simpa using ad p hp
   rw[hc,ci,cQ];exact fun p hp=>by simpa using ad p hp
def FV(fr to:List UInt8)(op:Bool)(key:List UInt8):Bool:= !decide (Fu key fr<0) && (op || decide (Fu key to<0))
def FP(l:List Pr)(fr to:List UInt8)(op:Bool):List Pr:=l.filter fun p=>FV fr to op p.1
theorem GO{L:List Pr}(hs:ms L)(fr to:List UInt8)(op:Bool):FP L fr to op=FM L (FI L fr to op).1 (FI L fr to op).2 false:=by
 have h1:FP L fr to op=(L.drop (eK L fr)).filter fun p=>op || decide (Fu p.1 to<0):=by
  rw[<-Gs hs,List.filter_filter];unfold FP FV;exact List.filter_congr fun p _=>Bool.and_comm _ _
 rw[h1];unfold FM FI;simp only[bC,if_false]
 cases op with
 | true=>
  simp only[Bool.true_or,if_true];rw[cQ.2 fun _ _=>rfl,Nat.max_eq_right (nZ L fr),dl]
 | false=>
  simp only[Bool.false_or,bC,if_false];have hd:ms (L.drop (eK L fr)):=hs.sublist (List.drop_sublist _ _);rw[Gb hd,GX _ hs,List.drop_take]
  congr 1
  omega
theorem Hk(key fr to:List UInt8)(op:Bool)(hf:fr.length<2^62)(ht:to.length<2^62)(w:World):
 Cb 64 #[SV key,SV fr,SV to,.bool op] w (.bool (FV fr to op key)):=by
 have c1:=Gk key fr hf w;have c2:=fun W=>Gk key to ht W;obtain⟨R,hR⟩:=Ii (FV fr to op key);rw[hR];unfold FV at hR;generalize Fu key fr=C1 at c1 hR;generalize Fu key to=C2 at c2 hR;have HG:=kq2 c1 c2;clear c1 c2
 by_cases h1:C1<0
 ·have e1:(0<=C1)=False:=eq_false (by omega);have hR:R=false:=by rw[<-hR,decide_eq_true h1];rfl
  clear h1;go_enter func64,ntmps64;go_wp2_with fail;refine HG.a.mono ?_;rintro e w1 ⟨rfl,ad⟩;have H1:=If ad;clear ad;go_wp2_with fail;go_ret;exact⟨by rw[hR];rfl,H1.out⟩
 ·have e1:(0<=C1)=True:=eq_true (by omega);rw[decide_eq_false h1,Bool.not_false,Bool.true_and] at hR;clear h1
  cases op with
  | true=>
   obtain rfl:true=R:=hR;go_enter func64,ntmps64;go_wp2_with fail;refine HG.a.mono ?_;rintro e w1 ⟨rfl,ad⟩;have H1:=If ad;clear ad;go_wp2_with fail;go_ret;exact⟨rfl,H1.out⟩
  | false=>
   rw[Bool.false_or] at hR;go_enter func64,ntmps64;go_wp2_with fail;refine HG.a.mono ?_;rintro e w1 ⟨rfl,ad⟩;have H1:=If ad;clear ad;go_wp2_with fail;refine(HG.b w1).mono ?_;rintro e w2 ⟨rfl,ai⟩;have H2:=If (H1.out.trans (ai.mono H1.out.size));clear ai;go_wp2_with fail;go_ret;exact⟨by rw[<-hR];rfl,H2.out⟩
theorem G8{w w':World}{B n:Nat}{xs:List Value}(h:w.ownsRow B 34 2 v n xs)(hb:Below w.heap.size w w'):w'.ownsRow B 34 2 v n xs:=
 ⟨h.1,h.2.imp id fun⟨g,cap,cur,h1,h2,h3,h4⟩=>⟨g,cap,cur,h1,h2,(hb.block g (gl h3)).trans h3,h4⟩⟩
theorem Gm{B:Nat}{l:List Pr}(h:w.ownsRow B 34 2 v l.length (FJ l))(hn:l.length<=10000)(hB:B<=w.heap.size)(a b:List UInt8):
 ∃v' w',(Builtin.append_ #[22,22] 22 #[v,.slice (some ⟨w.heap.size,0,none⟩) 1 1]).run prog (w.alloc (.cells #[SV a,SV b] 34))=.ok v' w'/\w'.ownsRow B 34 2 v' (l++[(a,b)]).length (FJ (l++[(a,b)]))/\Below B w w':=by
 have A1:=(aa w.heap.size w).alloc Ih (.cells #[SV a,SV b] 34);obtain⟨v',w',h1,h2,h3⟩:=F9 (h.alloc (.cells #[SV a,SV b] 34)) (jj.one (heap_alloc_new w _) (c:=1)) (by simp;omega) (by simp;omega) 22;exact⟨v',w',h1,h2,(A1.mono hB).trans h3⟩
theorem qRhab{P:Prop}(h:P:=by
 go_wp2_with fail;go_ret;exact⟨_,rfl,HF.out⟩):P:=h
theorem qRhaa{P:Prop}(h:P:=by
 go_wp2_with (at_builtin;refine Lib.wpList_append_run _ rfl _ _ _ _ rfl _ _ rfl rfl _ _ a2 ?_)
 go_roundw
 case rel=>exact⟨i+1,by simp,by omega,H3.out⟩
 case measure=>simp[intOf];omega):P:=h
theorem GG{l:List Pr}(hv:jj w v l)(hl:l.length<=1000)(fr to:List UInt8)(op:Bool)(hf:fr.length<2^62)(ht:to.length<2^62):
 Ct 33 #[v,SV fr,SV to,.bool op] w fun e w'=>∃v',e=.returned v'/\w'.ownsRow w.heap.size 34 2 v' (FP l fr to op).length (FJ (FP l fr to op))/\Below w.heap.size w w':=by
 obtain⟨A,c,rfl,hc⟩:=hv;obtain⟨n,hn⟩:=Ii l.length;have an:=fun key W=>Hk key fr to op hf ht W;have HG:=kq3 hc hn an;rw[hn] at hl⊢;clear hc hn an hf ht;go_enter func33,ntmps33;go_wp2_with fail
 go_loopw [9,10] (fun s9 s10 wr=>∃i:Nat,s10=.int .i64 i/\i<=n/\Hid (wr.ownsRow w.heap.size 34 2 s9 (FP (l.take i) fr to op).length (FJ (FP (l.take i) fr to op))/\Below w.heap.size w wr)) (fun _ s10 _=>n-(intOf s10).toNat)
 case atStart=>exact⟨0,rfl,by omega,World.ownsRow_nil _ _ _ _,aa _ _⟩
 case round=>
  obtain⟨i,rfl,an,I0⟩:=hrel
  by_cases hi:i<n
  ·have a1:(i:Int)<n:=by omega
   have al:i<l.length:=by rw[HG.b];exact hi
   obtain⟨g,o,rfl,c0,c1⟩:=HG.a i al
   replace c0:=(I0.out.2.cell (p:=⟨g,o+i*2,none⟩) (jK c0)).trans c0
   replace c1:=(I0.out.2.cell (p:=⟨g,o+i*2+1,none⟩) (jK c1)).trans c1
   obtain⟨pk,ap⟩:=Ii l[i];rw[ap] at c0 c1;obtain⟨a,b⟩:=pk;have ar:FP (l.take (i+1)) fr to op=FP (l.take i) fr to op++if FV fr to op a=true then[(a,b)] else[]:=by
    rw[xB al,ap];unfold FP;rw[dp]
    congr 1
    by_cases q:FV fr to op a=true
    ·rw[if_pos q]
     simp[q]
    ·rw[if_neg q]
     simp[q]
   obtain⟨C,hC⟩:=Ii (FV fr to op a);have ai:=HG.c a wr;rw[hC] at ar ai;have a0:(FP (l.take i) fr to op).length<=1000:=aH (dw _ _) (by rw[am];omega);have HP:=kq5 ar ai a0 c0 c1;clear ar ai hC c1 ap al a0;go_wp2_with fail;refine HP.b.mono ?_;rintro e w2 ⟨rfl,ad⟩;have H2:=kq2 (G8 I0.out.1 ad) (I0.out.2.trans (ad.mono I0.out.2.size));clear c0;have c0:=(ad.cell (p:=⟨g,o+i*2,none⟩) (jK HP.d)).trans HP.d;have c1:=(ad.cell (p:=⟨g,o+i*2+1,none⟩) (jK HP.e)).trans HP.e;clear ad
   cases C with
   | true=>
    obtain⟨v3,w3,a2,ao,au⟩:=Gm H2.a (by have:=HP.c;omega) H2.b.size a b;have hs:=HP.a;rw[if_pos rfl] at hs;rw[<-hs] at ao;have H3:=kq2 ao (H2.b.trans au);clear ao au hs;exact qRhaa
   | false=>
    have hs:=HP.a;rw[if_neg (by simp),bZ] at hs;have ho:=H2.a;rw[<-hs] at ho;have H3:=kq2 ho H2.b;clear ho hs;go_wp2_with fail;go_roundw
    case rel=>exact⟨i+1,by simp,by omega,H3.out⟩
    case measure=>simp[intOf];omega
  ·obtain rfl:i=n:=by omega
   have a1:¬(i:Int)<i:=by omega
   have hF:=I0.out;rw[aG (by rw[HG.b];exact Nat.le_refl _)] at hF;have HF:=If hF;clear hF;exact qRhab
theorem Hq{q:List Pr}{back:Bool}{most i:Nat}(hi:i<((if back then q.reverse else q).take most).length):∃(p:Pr) (h:(if back then q.length-1-i else i)<q.length),q[if back then q.length-1-i else i]=p/\((if back then q.reverse else q).take most).take (i+1)=((if back then q.reverse else q).take most).take i++[p]:=by
 have hl:((if back then q.reverse else q).take most).length=min most q.length:=by
  rw[am]
  cases back<;>simp
 rw[hl] at hi
 cases back with
 | true=>
  refine⟨q[q.length-1-i],by simp;omega,rfl,?_⟩;rw[xB (by rw[hl];exact hi)];simp only[if_true,dA,List.getElem_reverse]
 | false=>
  refine⟨q[i],by simp;omega,rfl,?_⟩;rw[xB (by rw[hl];exact hi)];simp only[bC,if_false,dA]
theorem Hm{l:List Pr}(hv:jj w v l)(hl:l.length<=1000)(fr to:List UInt8)(op back:Bool)(most:Nat)(hf:fr.length<2^62)(ht:to.length<2^62){q:List Pr}(hq:FP l fr to op=q):
 Ct 35 #[v,SV fr,SV to,.bool op,.bool back,.int .i64 most] w fun e w'=>∃v',e=.returned v'/\w'.ownsRow w.heap.size 34 2 v' ((if back then q.reverse else q).take most).length (FJ ((if back then q.reverse else q).take most))/\Below w.heap.size w w':=by
 have ai:=GG hv hl fr to op hf ht;rw[hq] at ai;have a4:q.length<=1000:=by rw[<-hq];exact aH (dw _ _) hl
 obtain⟨n,hn⟩:=Ii q.length;obtain⟨M,hM⟩:=Ii ((if back then q.reverse else q).take most);have ad:M.length=min most n:=by
  rw[<-hM,am]
  cases back<;>simp[hn]
 have ao:=fun i (hi:i<M.length)=>Hq (q:=q) (back:=back) (most:=most) (i:=i) (by rw[hM];exact hi);rw[hM] at ao⊢;rw[hn] at a4;have HG:=kq4 ai hn ad ao;clear ai hn ad hM hq hf ht hv hl;go_enter func35,ntmps35;go_wp2_with fail;refine HG.a.mono ?_;rintro e w1 ⟨v1,rfl,a1,ap⟩;obtain⟨A,c,rfl,hr⟩:=jj.of_owns a1;have H1:=kq2 hr ap;rw[HG.b];clear hr ap a1;go_wp2_with fail
 go_loopw [14,15] (fun s14 s15 wr=>∃i:Nat,s15=.int .i64 i/\i<=M.length/\Hid (wr.ownsRow w1.heap.size 34 2 s14 (M.take i).length (FJ (M.take i))/\Below w1.heap.size w1 wr)) (fun _ s15 _=>n-(intOf s15).toNat)
 case atStart=>exact⟨0,rfl,by omega,World.ownsRow_nil _ _ _ _,aa _ _⟩
 case round=>
  obtain⟨i,rfl,a6,I0⟩:=hrel
  by_cases hi:i<M.length
  ·have a5:i<most/\i<n:=by have:=HG.c;omega
   have h1:((i:Int)<n)=True:=eq_true (by omega);have h2:((i:Int)<most)=True:=eq_true (by omega);obtain⟨⟨a,b⟩,hj,hp,a3⟩:=HG.d i hi;have a0:(M.take i).length<=10000:=by rw[am];have:=HG.c;omega
   obtain⟨v3,w3,a2,an,ar⟩:=Gm I0.out.1 a0 I0.out.2.size a b;rw[<-a3] at an;have H3:=kq2 an (I0.out.2.trans ar);obtain⟨g,o,rfl,c0,c1⟩:=H1.a _ hj;rw[hp] at c0 c1
   replace c0:=(I0.out.2.cell (p:=⟨g,_,none⟩) (jK c0)).trans c0
   replace c1:=(I0.out.2.cell (p:=⟨g,_,none⟩) (jK c1)).trans c1
   rw[HG.b] at c0 c1 hj;clear an ar a0 a3 hp
   cases back with
   | true=>
    simp only[if_true] at c0 c1;obtain⟨j,au⟩:=Ii (n-1-i);rw[au] at c0 c1;have hz:(n:Int)-1-i=j:=by omega
    have a8:IntKind.i64.wrap ((n:Int)-1)=(n:Int)-1:=az _ (by omega);have a9:IntKind.i64.wrap (j:Int)=j:=az _ (by omega);have a7:j<n:=by omega
    clear hj au;exact qRhaa
   | false=>
    simp only[bC,if_false] at c0 c1;exact qRhaa
  ·obtain rfl:i=M.length:=by omega
   have hF:=I0.out.1;rw[dl] at hF;have HF:=kq2 (Gj hF H1.b.size) (H1.b.trans (I0.out.2.mono H1.b.size));have ad:=HG.c;obtain⟨m,al⟩:=Ii M.length;rw[al] at ad;rw[al];clear hF al
   by_cases hm:m<n
   ·have h1:((m:Int)<n)=True:=eq_true (by omega);have h2:((m:Int)<most)=False:=eq_false (by omega);exact qRhab
   ·have h1:((m:Int)<n)=False:=eq_false (by omega);exact qRhab