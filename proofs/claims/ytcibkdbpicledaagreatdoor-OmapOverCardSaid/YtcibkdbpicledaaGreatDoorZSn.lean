/- The arena: Read and Write: the walks. -/
import Derived.Test.YtcibkdbpicledaaGreatDoorZLf
import Derived.Maps.OwnSet
import Derived.Deep.LoopGhost
import Derived.StillTail
import Derived.Sort.BigQuietIn
set_option maxRecDepth 100000
set_option maxHeartbeats 1600000
namespace Go.Proofs.YtcibkdbpicledaaGreatDoor
open Go.RowKit Tryz Go.BigFrame Go.Maps Go.WideMaps Lf
variable{Y:Nat->Prop}{blk:Nat->Nat}{s:Slab}{v:Value}{w:World}
theorem eh.atCases{pa pm:Nat}(h:eh w pa pm s Y blk)(a:Nat)(ha:a<=2^62):
 ((s.err a=0/\a / 64∈s.keys)/\Ct 122 #[PV pa,.int .i64 a] w fun e w'=>e=.returned (.tuple #[.pointer (some ⟨blk (a / 64),a % 64,none⟩),.int .i64 0])/\w=w')\/
 ((0<s.err a/\s.rd a=0/\a / 64∉s.keys)/\Ct 122 #[PV pa,.int .i64 a] w fun e w'=>e=.returned (.tuple #[.pointer none,.int .i64 (s.err a:Nat)])/\w=w'):=by
 by_cases ht:gK<a
 ·have hk:a / 64∉s.keys:=fun hk=>by
   have:=h.wf.top _ hk;unfold gK at ht;omega
  exact ae ⟨⟨by rw[uq ht];decide,oR hk,hk⟩,wP h a ha (ae ht)⟩
 ·by_cases hp:a / 64∈s.keys
  ·exact ab ⟨⟨Gt (by omega) hp,hp⟩,Ei h a (by omega) hp⟩
  ·exact ae ⟨⟨by rw[un (by omega) hp];decide,oR hp,hp⟩,wP h a ha (ab hp)⟩
theorem qSnab{P:Prop}(h:P:=by
 go_enter func102,ntmps102;go_wp2_with fail;refine HC.out.mono ?_;rintro e w' ⟨rfl,rfl⟩;go_wp2_with fail;go_ret2;exact⟨rfl,rfl⟩):P:=h
theorem wR{pa pm:Nat}(h:eh w pa pm s Y blk)(a:Nat)(ha:a<=2^62):
 Ct 102 #[PV pa,.int .i64 a] w fun e w'=>e=.returned (.tuple #[.int .u64 (s.rd a:Nat),.int .i64 (s.err a:Nat)])/\w=w':=by
 rcases h.atCases a ha with⟨⟨he,hp⟩,hc⟩ | ⟨⟨he,hr,hp⟩,hc⟩
 ·obtain⟨c,_⟩:=h.word hp;rw[he];generalize s.rd a=x at*;generalize blk (a / 64)=b at*;generalize a % 64=o at*;have HC:=If hc;clear hc h he hp;exact qSnab
 ·rw[hr];generalize s.err a=er at*;have hb:((er:Int) !=0)=true:=by simp;omega
  have ad:¬(er:Int)=0:=by omega
  have HC:=If hc;clear hc h hr hp;exact qSnab
theorem Fj{a x:Nat}(hp:a / 64∉s.keys):s.wr a x=s:=by
 unfold Slab.wr;have:(s.pages.map fun y=>if y.1=a / 64 then(y.1,y.2.set (a % 64) x) else y)=s.pages:=by
  conv=>rhs;rw[<-dO s.pages]
  refine aR fun y hy=>?_;have:y.1≠a / 64:=fun e=>hp (by unfold Slab.keys;exact aC.2 ⟨y,hy,e⟩)
  simp[this]
 rw[this]
theorem i9(s:Slab)(a x:Nat):(s.wr a x).keys=s.keys:=by
 unfold Slab.wr Slab.keys;simp only[cN];refine aR fun y _=>?_;simp only[Function.comp_apply];split<;>rfl
theorem kL(s:Slab)(a x:Nat):(s.wr a x).pages.length=s.pages.length:=by
 unfold Slab.wr;simp
theorem rF{a x:Nat}{y:Nat×fQ}(h:y∈(s.wr a x).pages):∃l,(y.1,l)∈s.pages/\y.2=if y.1=a / 64 then l.set (a % 64) x else l:=by
 unfold Slab.wr at h;simp only[aC] at h;obtain⟨z,hz,rfl⟩:=h
 by_cases e:z.1=a / 64
 ·exact⟨z.2,by simp[e];rw[<-e];exact hz,by simp[e]⟩
 ·exact⟨z.2,by simp[e];exact hz,by simp[e]⟩
theorem C6{l:List Nat}{i x v:Nat}(h:v∈l.set i x):v∈l\/v=x:=by
 exact cJ h
theorem eQ.wr(h:eQ s)(a x:Nat)(hx:x<2^64):eQ (s.wr a x) where
 sorted:=by rw[i9];exact h.sorted
 len:=fun y hy=>by
  obtain⟨l,h1,h2⟩:=rF hy;rw[h2];have:=h.len _ h1;simp only at this;split
  ·rw[bG];exact this
  ·exact this
 word:=fun y hy v hv=>by
  obtain⟨l,h1,h2⟩:=rF hy;rw[h2] at hv;have:=h.word _ h1;simp only at this;split at hv
  ·rcases C6 hv with hv | hv
   ·exact this v hv
   ·rw[hv];exact hx
  ·exact this v hv
 top:=by rw[i9];exact h.top
 room:=by rw[kL];exact h.room
 quota:=h.quota
theorem heap_setCell{b i:Nat}{cs:Array Value}{t:TypeId}{fr:Nat×Nat}(h:w.heap[b]?=some (.cells cs t fr)):(w.setCell ⟨b,i,none⟩ v).heap[b]?=some (.cells (cs.setIfInBounds i v) t fr):=by
 simp[World.setCell,Array.getElem?_modify,h]
theorem FB{b k i:Nat}(h:k≠b):(w.setCell ⟨b,i,none⟩ v).heap[k]?=w.heap[k]?:=dq w ⟨b,i,none⟩ v k h
theorem size_setCell(w:World)(a:Addr)(v:Value):(w.setCell a v).heap.size=w.heap.size:=by simp[World.setCell]
theorem rN{w w':World}{P:Program}{k:TypeId}{R:Value->Option (DataW Unit×List MemPlace)}{b n:Nat}{D:DataW Unit}(h:w.ownsMap P k R b n D)(hb:w'.heap[b]?=w.heap[b]?):w'.ownsMap P k R b n D:=by
 obtain⟨es,ad,h1,F,hs,hD⟩:=h;exact⟨es,ad,hb.trans h1,F,hs,hD⟩
theorem eh.map_block{pa pm:Nat}(h:eh w pa pm s Y blk):∃es clock,w.heap[pm]?=some (.map es clock):=by
 obtain⟨es,clock,h1,_⟩:=h.map;exact⟨es,clock,h1⟩
theorem eh.store{pa pm:Nat}(h:eh w pa pm s Y blk)(a x:Nat)(hx:x<2^64)(hp:a / 64∈s.keys):
 eh (w.setCell ⟨blk (a / 64),a % 64,none⟩ (.int .u64 x)) pa pm (s.wr a x) Y blk/\Fo Y w (w.setCell ⟨blk (a / 64),a % 64,none⟩ (.int .u64 x)):=by
 obtain⟨l,h1,h2⟩:=kK hp;have hb:=h.pg _ h2;simp only at hb;have n1:pa≠blk (a / 64):=fun e=>by
  rw[<-e,h.hd] at hb
  injection hb with hb
  injection hb with _ hb
  exact absurd hb (by decide)
 have n2:pm≠blk (a / 64):=fun e=>by
  obtain⟨es,ai,hm⟩:=h.map_block;rw[<-e,hm] at hb
  cases hb
 have hY:∀k,Y k->k≠blk (a / 64):=fun k hk e=>h.yp _ hp (by rw[<-e];exact hk);refine⟨⟨h.wf.wr a x hx,?_,?_,?_,?_,h.ya,h.ym,?_,?_⟩,⟨rfl,rfl,rfl,by rw[size_setCell];exact Nat.le_refl _,fun k hk=>FB (hY k hk)⟩⟩
 ·rw[FB n1];exact h.hd
 ·rw[kL,i9];exact rN h.map (FB n2)
 ·intro y hy;obtain⟨m,k1,k2⟩:=rF hy;have hm:=h.pg _ k1;simp only at hm;have ad:y.1∈s.keys:=jP.2 ⟨_,k1⟩
  by_cases e:y.1=a / 64
  ·rw[k2,if_pos e];rw[e] at hm⊢;rw[heap_setCell hm]
   congr 2
   simp[List.map_set]
  ·rw[k2,if_neg e,FB (fun e2=>e (h.inj _ ad _ hp e2))];exact hm
 ·rw[i9];exact h.inj
 ·rw[i9];exact h.yp
 ·intro k hk;rw[size_setCell];exact h.yl k hk
theorem Ep{pa pm:Nat}(h:eh w pa pm s Y blk)(a x:Nat)(ha:a<=2^62)(hx:x<2^64):
 Ct 95 #[PV pa,.int .i64 a,.int .u64 x] w fun e w'=>e=.returned (.int .i64 (s.err a:Nat))/\eh w' pa pm (s.wr a x) Y blk/\Fo Y w w':=by
 rcases h.atCases a ha with⟨⟨he,hp⟩,hc⟩ | ⟨⟨he,hr,hp⟩,hc⟩
 ·obtain⟨c,f⟩:=h.word hp;have HS:=If (h.store a x hx hp);rw[he];generalize s.rd a=x0 at*;generalize s.wr a x=s1 at*;generalize blk (a / 64)=b at*;generalize a % 64=o at*;have HC:=If hc;clear hc h he hp;go_enter func95,ntmps95;go_wp2_with fail;refine HC.out.mono ?_;rintro e w' ⟨rfl,rfl⟩;go_wp2_with fail;go_ret;exact⟨rfl,HS.out⟩
 ·rw[Fj hp];generalize s.err a=er at*;have hb:((er:Int)==0)=false:=by simp;omega
  have ad:¬(er:Int)=0:=by omega
  have HC:=kq2 hc h;clear hc h hr hp;go_enter func95,ntmps95;go_wp2_with fail;refine HC.a.mono ?_;rintro e w' ⟨rfl,rfl⟩;go_wp2_with fail;go_ret;exact⟨rfl,HC.b,Fo.refl _ _⟩
end Go.Proofs.YtcibkdbpicledaaGreatDoor
namespace Go.Proofs.YtcibkdbpicledaaGreatDoor
open Go.RowKit Tryz Go.BigFrame Go.Maps Go.WideMaps Lf
open Go.ChangeMaps (setBlock)
variable{Y:Nat->Prop}{blk:Nat->Nat}{ks:List Nat}{p:Nat}{s:Slab}{w:World}
def iN(p:Nat):List Nat->List Nat
 | []=>[p]
 | x::r=>if x<p then x::iN p r else p::x::r
theorem BM(p:Nat)(l:fQ)(r:List (Nat×fQ)):(ins p l r).map (·.1)=iN p (r.map (·.1)):=by
 induction r with
 | nil=>rfl
 | cons x r ih=>
  simp only[ins,aM,iN]
  split
  ·rw[aM,ih]
  ·rfl
theorem lV(s:Slab)(p:Nat):(s.add p).keys=iN p s.keys:=BM p jB s.pages
theorem qSnaa{P:Prop}(h:P:=by
 rintro(h | h | h)
 ·exact ae (ab h)
 ·exact ab h
 ·exact ae (ae h)):P:=h
theorem lX{p q:Nat}:q∈iN p ks↔q=p\/q∈ks:=by
 induction ks with
 | nil=>simp[iN]
 | cons x r ih=>
  unfold iN
  split
  ·simp only[ag,ih]
   constructor
   ·exact qSnaa
   ·exact qSnaa
  ·simp
theorem Et(h:ks.Pairwise (·<·))(hp:p∉ks):(iN p ks).Pairwise (·<·):=by
 induction ks with
 | nil=>simp[iN]
 | cons x r ih=>
  rw[aQ] at h;unfold iN;simp only[ag,not_or] at hp
  split
  ·rename_i hx;rw[aQ];refine⟨fun q hq=>?_,ih h.2 hp.2⟩
   rcases lX.1 hq with e | hq
   ·omega
   ·exact h.1 q hq
  ·rw[aQ];refine⟨fun q hq=>?_,by rw[aQ];exact h⟩
   rcases ag.1 hq with e | hq
   ·omega
   ·have:=h.1 q hq;omega
theorem rE{l:fQ}{r:List (Nat×fQ)}{y:Nat×fQ}:y∈ins p l r↔y=(p,l)\/y∈r:=by
 induction r with
 | nil=>simp[ins]
 | cons x r ih=>
  unfold ins
  split
  ·simp only[ag,ih]
   constructor
   ·exact qSnaa
   ·exact qSnaa
  ·simp
theorem vp(p:Nat)(l:fQ)(r:List (Nat×fQ)):(ins p l r).length=r.length+1:=by
 induction r with
 | nil=>rfl
 | cons x r ih=>
  unfold ins
  split
  ·simp[ih]
  ·simp
theorem eQ.add(h:eQ s)(hp:p∉s.keys)(ht:p<=1048575)(hr:(s.pages.length+1)*64<=s.quota):eQ (s.add p) where
 sorted:=by rw[lV];exact Et h.sorted hp
 len:=fun y hy=>by
  rcases rE.1 hy with rfl | hy
  ·simp[jB]
  ·exact h.len y hy
 word:=fun y hy v hv=>by
  rcases rE.1 hy with rfl | hy
  ·have:v=0:=by simpa[jB] using hv
   rw[this];decide
  ·exact h.word y hy v hv
 top:=fun q hq=>by
  rw[lV] at hq;rcases lX.1 hq with rfl | hq
  ·exact ht
  ·exact h.top q hq
 room:=by
  show (ins p jB s.pages).length*64<=s.quota
  rw[vp];exact hr
 quota:=h.quota
theorem Dt(ks:List Nat)(blk:Nat->Nat)(p b:Nat)(hp:p∉ks):(fM ks blk).put (.int .i64 p) (.lit (.int .i64 b))=fM (iN p ks) fun q=>if q=p then b else blk q:=by
 unfold fM DataW.put;simp only
 congr 1
 have hf:((ks.map fun q:Nat=>(Lit.int .i64 (q:Int),DataW.lit (H:=Unit) (.int .i64 (blk q)))).filter fun x=> !x.1.sameKey (.int .i64 p))=ks.map fun q:Nat=>(Lit.int .i64 (q:Int),DataW.lit (H:=Unit) (.int .i64 (blk q))):=by
  rw[dF];intro x hx;obtain⟨q,hq,rfl⟩:=aC.1 hx;have:¬(q:Int)=p:=fun e=>hp (by rw[<-Int.ofNat.inj e];exact hq)
  simp[Lit.sameKey,this]
 rw[hf];clear hf
 induction ks with
 | nil=>simp[iN,DataW.insert]
 | cons x r ih=>
  simp only[ag,not_or] at hp;simp only[aM,iN,DataW.insert,Lit.before]
  by_cases h:x<p
  ·have h2:¬(p:Int)<x:=by omega
   rw[if_pos h];simp only[h2,decide_false,aS,if_false,aM];rw[ih hp.2];have:¬x=p:=by omega
   simp[this]
  ·have h2:(p:Int)<x:=by omega
   rw[if_neg h];simp only[h2,decide_true,if_true,aM];have h3:¬x=p:=by omega
   simp only[h3,if_false]
   congr 2
   refine aR fun q hq=>?_;have:¬q=p:=fun e=>hp.2 (by rw[<-e];exact hq)
   simp[this]
theorem ls(ks:List Nat)(blk:Nat->Nat):Maps.size (fM ks blk)=ks.length:=by simp[fM,Maps.size]
theorem Ds(ks:List Nat)(blk:Nat->Nat)(p:Nat):(fM ks blk).del (.int .i64 p)=fM (ks.filter fun q=>q≠p) blk:=by
 unfold fM DataW.del;simp only
 congr 1
 rw[List.filter_map]
 congr 1
 refine List.filter_congr fun q _=>?_;simp only[Function.comp_apply,Lit.sameKey,true_and]
 by_cases e:q=p
 ·subst e
  simp
 ·have:¬(q:Int)=p:=by omega
  simp[e,this]
theorem wh{P:Program}{k:TypeId}{R:Value->Option (DataW Unit×List MemPlace)}{b n:Nat}{D:DataW Unit}(h:w.ownsMap P k R b n D):w.ownsMap P k R b (Maps.size D) D:=by
 obtain⟨es,ad,h1,F,hs,hD⟩:=h;refine⟨es,ad,h1,F,?_,hD⟩;rw[hD];simp[Maps.size,length_sorted]
theorem uX(hp:p<=9223372036854775807):(Lit.int .i64 (p:Int)).wf=true:=by
 have h1:IntKind.min .i64<=(p:Int):=by show (-9223372036854775808:Int)<=p;omega
 have h2:(p:Int)<=IntKind.max .i64:=by show (p:Int)<=9223372036854775807;omega
 simp only[Lit.wf,h1,h2,decide_true,Bool.and_self]
theorem i8(s:Slab):s.keys.length=s.pages.length:=by simp[Slab.keys]
theorem eh.more{pa pm:Nat}(h:eh w pa pm s Y blk)(hp:p∉s.keys)(ht:p<=1048575)(hr:(s.pages.length+1)*64<=s.quota):
 ∃w',(Instr.mapUpdate 169 (.map (some pm)) (.int .i64 p) (PV w.heap.size)).run prog (w.alloc (.cells (jB.map fun v:Nat=>Value.int .u64 v).toArray 240 (0,0)))=.ok () w'/\
  eh w' pa pm (s.add p) Y (fun q=>if q=p then w.heap.size else blk q)/\Fo Y w w':=by
 obtain⟨a5,a4,ao⟩:=h.map_block;have a6:pm<w.heap.size:=(gl ao);have a2:=h.map.alloc (.cells (jB.map fun v:Nat=>Value.int .u64 v).toArray 240 (0,0));have hn:s.pages.length<maxLen:=by have:=h.wf.room;have:=h.wf.quota;unfold maxLen;omega
 obtain⟨w',a3,ar,es,ck,a1,a0,hm,rfl⟩:=a2.store rn underlying169 hn (keyOf_int_mk underlying3 (uX (p:=p) (by omega))) (Du w.heap.size);rw[Dt _ _ _ _ hp] at ar;have hold:∀k,k<w.heap.size->k≠pm->(setBlock (w.alloc (.cells (jB.map fun v:Nat=>Value.int .u64 v).toArray 240 (0,0))) pm (.map a1 a0)).heap[k]?=w.heap[k]?:=fun k hk ad=>by
  rw[ChangeMaps.heap_setBlock_other hm _ ad,Below.heap_alloc _ _ _ hk]
 have ap:∀k,Y k->k<w.heap.size/\k≠pm:=fun k hk=>⟨h.yl k hk,fun e=>h.ym (by rw[<-e];exact hk)⟩;have an:∀q∈s.keys,blk q<w.heap.size/\blk q≠pm:=fun q hq=>by
  obtain⟨l,hl⟩:=jP.1 hq;have hb:=h.pg _ hl;refine⟨(gl hb),fun e=>?_⟩;simp only[e,ao] at hb;cases hb
 have au:pa<w.heap.size/\pa≠pm:=by
  refine⟨(gl h.hd),fun e=>?_⟩;have:=h.hd;rw[e,ao] at this;cases this
 refine⟨_,a3,⟨h.wf.add hp ht hr,?_,?_,?_,?_,h.ya,h.ym,?_,?_⟩,⟨rfl,rfl,rfl,?_,fun k hk=>hold k (ap k hk).1 (ap k hk).2⟩⟩
 ·rw[hold pa au.1 au.2];exact h.hd
 ·have:=wh ar;rw[ls,<-lV,i8] at this;exact this
 ·intro x hx;rcases rE.1 hx with rfl | hx
  ·simp only[if_true];rw[ChangeMaps.heap_setBlock_other hm _ (by omega)];show (w.heap.push _)[w.heap.size]?=_
   simp
  ·have hk:x.1∈s.keys:=jP.2 ⟨_,hx⟩;have ad:x.1≠p:=fun e=>hp (by rw[<-e];exact hk);simp only[ad,if_false];rw[hold _ (an _ hk).1 (an _ hk).2];exact h.pg x hx
 ·intro a ha b hb;rw[lV] at ha hb;rcases lX.1 ha with ea | ai<;>rcases lX.1 hb with eb | al
  ·exact fun _=>ea.trans eb.symm
  ·have ad:b≠p:=fun e=>hp (by rw[<-e];exact al);have:=(an b al).1;simp only[ea,ad,if_true,if_false];omega
  ·have ad:a≠p:=fun e=>hp (by rw[<-e];exact ai);have:=(an a ai).1;simp only[eb,ad,if_true,if_false];omega
  ·have h1:a≠p:=fun e=>hp (by rw[<-e];exact ai);have h2:b≠p:=fun e=>hp (by rw[<-e];exact al);simp only[h1,h2,if_false];exact h.inj a ai b al
 ·intro q hq;rw[lV] at hq;rcases lX.1 hq with rfl | hq
  ·simp only[if_true];exact fun hy=>absurd (h.yl _ hy) (by omega)
  ·have ad:q≠p:=fun e=>hp (by rw[<-e];exact hq);simp only[ad,if_false];exact h.yp q hq
 ·intro k hk;have:=h.yl k hk;simp[setBlock]
  omega
 ·simp[setBlock]
theorem rh(s:Slab)(p:Nat):(s.del p).keys=s.keys.filter fun q=>q≠p:=by
 unfold Slab.del Slab.keys;simp only;rw[List.filter_map];rfl
theorem mV{p q:Nat}:q∈(s.del p).keys↔q∈s.keys/\q≠p:=by
 rw[rh,dt];simp
theorem oC{x:Nat×fQ}:x∈(s.del p).pages↔x∈s.pages/\x.1≠p:=by
 unfold Slab.del;simp
theorem eQ.del(h:eQ s)(p:Nat):eQ (s.del p) where
 sorted:=by rw[rh];exact h.sorted.filter _
 len:=fun y hy=>h.len y (oC.1 hy).1
 word:=fun y hy=>h.word y (oC.1 hy).1
 top:=fun q hq=>h.top q (mV.1 hq).1
 room:=by
  have h1:(s.del p).pages.length<=s.pages.length:=List.length_filter_le _ _;have:=h.room;show _<=s.quota
  omega
 quota:=h.quota
theorem eh.less{pa pm:Nat}(h:eh w pa pm s Y blk)(p:Nat)(hp:p<=9223372036854775807)(ty:TypeId):
 ∃w',(Builtin.delete_ #[169,3] ty #[.map (some pm),.int .i64 p]).run prog w=.ok (.tuple #[]) w'/\eh w' pa pm (s.del p) Y blk/\Fo Y w w':=by
 obtain⟨w',ap,ad,es,ck,al,ai,hm,rfl⟩:=h.map.drop rn underlying169 (keyOf_int_mk underlying3 (uX hp)) ty;rw[Ds,<-rh] at ad;have hold:∀k,k≠pm->(setBlock w pm (.map al ai)).heap[k]?=w.heap[k]?:=fun k hne=>ChangeMaps.heap_setBlock_other hm _ hne;have ao:pa≠pm:=fun e=>by
  have:=h.hd;rw[e,hm] at this
  cases this
 have an:∀x∈s.pages,blk x.1≠pm:=fun x hx e=>by
  have hb:=h.pg x hx;rw[e,hm] at hb
  cases hb
 refine⟨_,ap,⟨h.wf.del p,?_,?_,?_,?_,h.ya,h.ym,?_,?_⟩,⟨rfl,rfl,rfl,?_,fun k hk=>hold k fun e=>h.ym (by rw[<-e];exact hk)⟩⟩
 ·rw[hold pa ao];exact h.hd
 ·have:=wh ad;rw[ls,i8] at this;exact this
 ·intro x hx;rw[hold _ (an x (oC.1 hx).1)];exact h.pg x (oC.1 hx).1
 ·intro a ha b hb;exact h.inj a (mV.1 ha).1 b (mV.1 hb).1
 ·intro q hq;exact h.yp q (mV.1 hq).1
 ·intro k hk;have:=h.yl k hk
  simp[setBlock]
  exact this
 ·simp[setBlock]
theorem Ej(w:World)(q:Nat)(hq:q<=262144)(Y:Nat->Prop)(hy:∀k,Y k->k<w.heap.size):
 eh ((w.alloc (.map #[] 0)).alloc (.cells #[.int .i64 q,.map (some w.heap.size)] 171 (0,0))) (w.heap.size+1) w.heap.size ⟨q,[]⟩ Y (fun _=>0):=by
 refine⟨⟨by simp[Slab.keys],by simp,by simp,by simp[Slab.keys],by simp,hq⟩,?_,?_,by simp,by simp[Slab.keys],?_,?_,by simp[Slab.keys],?_⟩
 ·show (((w.heap.push _).push _))[w.heap.size+1]?=_
  rw[Array.getElem?_push,if_pos (by simp)]
 ·have:=World.ownsMap_made w prog 3 l9;exact this.alloc _
 ·exact fun h=>absurd (hy _ h) (by omega)
 ·exact fun h=>absurd (hy _ h) (by omega)
 ·intro k hk;have:=hy k hk
  simp
  omega
theorem El(n:Nat)(w:World)(Y:Nat->Prop)(hy:∀k,Y k->k<w.heap.size)(hn:n<=262144):
 Ct 76 #[.int .i64 n] w fun e w'=>
  e=.returned (.tuple #[PV (w.heap.size+1),.int .i64 0])/\eh w' (w.heap.size+1) w.heap.size ⟨n,[]⟩ Y (fun _=>0)/\Fo Y w w':=by
 have HS:=If (Ej w n hn Y hy);have ai:¬(262144:Int)<n:=by omega
 have ad:= @run_makeMap prog;go_enter func76,ntmps76;go_wp2
 go_ret2;exact⟨rfl,HS.out,Fo.of_below (((aa _ w).alloc Ih _).alloc (by simp) _) hy⟩
end Go.Proofs.YtcibkdbpicledaaGreatDoor
namespace Go.Proofs.YtcibkdbpicledaaGreatDoor
open Go.RowKit Tryz Go.BigFrame Go.Maps Go.WideMaps Lf
variable{Y:Nat->Prop}{blk:Nat->Nat}{s:Slab}{w:World}
theorem Dp{p:Nat}:(s.page? p).isSome=true↔p∈s.keys:=by
 constructor
 ·intro h;refine Classical.byContradiction fun hn=>?_;rw[oK hn] at h
  cases h
 ·intro h;obtain⟨l,h1,_⟩:=kK h;rw[h1]
  rfl
theorem si{n p:Nat}:s.runIs n p=true↔∀k,k<n->p+k∈s.keys:=by
 unfold Slab.runIs;rw[dC];simp only[bJ,Dp]
theorem mi{n p:Nat}:s.run n p=true↔∀k,k<n->p+k∉s.keys:=by
 unfold Slab.run;rw[dC];simp only[bJ];refine forall_congr' fun k=>imp_congr_right fun _=>?_;rw[Option.isNone_iff_eq_none]
 constructor
 ·intro h hk;obtain⟨l,h1,_⟩:=kK hk;rw[h1] at h
  cases h
 ·exact oK
theorem vL {s:Slab}{p q:Nat}:∀{n:Nat},q∈(s.delRun p n).keys↔q∈s.keys/\¬(p<=q/\q<p+n)
 | 0=>by
  show q∈s.keys↔_
  constructor
  ·exact fun h=>⟨h,by omega⟩
  ·exact fun h=>h.1
 | n+1=>by
  show q∈((s.delRun p n).del (p+n)).keys↔_
  rw[mV,vL];constructor
  ·rintro⟨⟨h1,h2⟩,h3⟩;exact⟨h1,by omega⟩
  ·rintro⟨h1,h2⟩;exact⟨⟨h1,by omega⟩,by omega⟩
theorem En{pa pm:Nat}(h:eh w pa pm s Y blk)(p n:Nat)(hp:p<=1048575)(hn:n<=100000000):
 Ct 118 #[PV pa,.int .i64 p,.int .i64 n] w fun e w'=>e=.returned (.int .i64 ((s.release p n).1:Nat))/\eh w' pa pm (s.release p n).2 Y blk/\Fo Y w w':=by
 have c1:=h.cells.2;have ar:=If (ly h)
 by_cases hg:n<1\/4096<n\/1048575+1<p+n
 ·have he:s.release p n=(2,s):=by unfold Slab.release;rw[if_pos hg]
  rw[he];have H:=If h;have au:n<1\/(1<=n/\4096<n)\/(1<=n/\n<=4096/\1048575+1<p+n):=by omega
  clear h he hg
  rcases au with hg | ⟨ap,hg⟩ | ⟨ap,a0,hg⟩
  all_goals
   go_enter func118,ntmps118;go_wp2_with fail;refine ar.out.mono ?_;rintro e w' ⟨rfl,rfl⟩;go_wp2_with fail;go_ret;exact⟨rfl,H.out,Fo.refl _ _⟩
 ·have ap:1<=n:=by omega
  have a0:n<=4096:=by omega
  have a2:p+n<=1048576:=by omega
  have a3:¬((1048575:Int)-n+1<p):=by omega
  have he:s.release p n=if s.runIs n p then(0,s.delRun p n) else(5,s):=by unfold Slab.release;rw[if_neg hg]
  obtain⟨R,hR⟩:=Ii (s.release p n);rw[hR] at he⊢;have HR:=If he;have HL:=If (fun k (hk:k<n)=>h.look (p+k) (by omega));have HS:=If h;clear he hg h hR;go_enter func118,ntmps118;go_wp2_with fail;refine ar.out.mono ?_;rintro e w' ⟨rfl,rfl⟩;go_wp2_with fail
  go_loop [7,31] (fun _ i=>∃k:Nat,k<=n/\i=.int .i64 k/\Hid (∀j,j<k->p+j∈s.keys)) (fun _ i=>n-(intOf i).toNat)
  case atStart=>exact⟨0,by omega,rfl,fun j hj=>absurd hj (by omega)⟩
  case round=>
   obtain⟨k,hk,rfl,ad⟩:=hrel
   by_cases hlt:k<n
   ·have hl:=HL.out k hlt;rw[show ((p+k:Nat):Int)=(p:Int)+k from by simp] at hl
    by_cases hm:p+k∈s.keys
    ·have hv:iE s.keys blk (p+k)=PV (blk (p+k)):=by unfold iE;rw[if_pos hm]
     rw[hv] at hl;generalize blk (p+k)=b at*;have HM:=If hm;clear hv hm;go_wp2_with fail;go_round
     case rel=>exact⟨k+1,by omega,by go_num,fun j hj=>by
      by_cases e:j=k
      ·rw[e];exact HM.out
      ·exact ad.out j (by omega)⟩
     case measure=>simp[intOf];omega
    ·have hv:iE s.keys blk (p+k)=.pointer none:=by unfold iE;rw[if_neg hm]
     rw[hv] at hl;have ai:s.runIs n p=false:=by
      refine dP.2 fun hr=>hm (si.1 hr k hlt)
     have al:=If ai;clear hv hm ai;go_wp2_with fail;go_ret;obtain rfl:R=(5,s):=by rw[HR.out,al.out];rfl
     exact⟨rfl,HS.out,Fo.refl _ _⟩
   ·obtain rfl:k=n:=by omega
    have ai:s.runIs k p=true:=si.2 ad.out;have al:=If ai;clear ad ai HL hlt c1 hk;go_wp2_with fail
    go_loopw [8,45] (fun _ i wr=>∃j:Nat,j<=k/\i=.int .i64 j/\Hid (eh wr pa pm (s.delRun p j) Y blk/\Fo Y w wr)) (fun _ i _=>k-(intOf i).toNat)
    case atStart=>exact⟨0,by omega,rfl,HS.out,Fo.refl _ _⟩
    case round=>
     obtain⟨j,hj,rfl,ad⟩:=hrel;have c1:=ad.out.1.cells.2
     by_cases hlt:j<k
     ·obtain⟨w1,a1,ao,an⟩:=ad.out.1.less (p+j) (by omega) 0;rw[show ((p+j:Nat):Int)=(p:Int)+j from by simp] at a1;have HN:=kq2 ao an;clear ao an;go_wp2_with fail;go_roundw
      case rel=>exact⟨j+1,by omega,by go_num,HN.a,ad.out.2.trans HN.b⟩
      case measure=>simp[intOf];omega
     ·obtain rfl:j=k:=by omega
      go_wp2_with fail;go_ret;obtain rfl:R=(0,s.delRun p j):=by rw[HR.out,al.out];rfl
      exact⟨rfl,ad.out⟩
theorem qH(n:Nat):∀(L:Nat) (ks:List Nat),ks.length<=L->∀a,∃t,a<=t/\t<=a+L*n/\∀k,k<n->t+k∉ks
 | 0,ks,hl,a=>⟨a,Nat.le_refl _,by omega,fun k _=>by
  have:ks=[]:=ci.1 (by omega);rw[this];simp⟩
 | L+1,ks,hl,a=>by
  by_cases h:∀k,k<n->a+k∉ks
  ·exact⟨a,Nat.le_refl _,by omega,h⟩
  ·have h2:∃k,k<n/\a+k∈ks:=by
    refine Classical.byContradiction fun hn=>h fun k hk hm=>hn ⟨k,hk,hm⟩
   obtain⟨k,hk,hm⟩:=h2;obtain⟨t,h1,h3,h4⟩:=qH n L (ks.filter fun q=>q≠a+k) (by
    have:(ks.filter fun q=>decide (q≠a+k)).length<ks.length:=by
     refine List.length_filter_lt_length_iff_exists.2 ⟨a+k,hm,by simp⟩
    omega) (a+k+1)
   refine⟨t,by omega,by rw[Nat.add_mul];omega,fun j hj hin=>?_⟩;exact h4 j hj (dt.2 ⟨hin,by simp;omega⟩)
theorem qE {s:Slab}{n t:Nat}(ht:s.run n t=true):∀(f p:Nat),p<=t->t<p+f->(∀g,p<=g->g<t->s.run n g=false)->s.firstRun n f p=t
 | 0,p,h1,h2,_=>by omega
 | f+1,p,h1,h2,h3=>by
  unfold Slab.firstRun;by_cases e:p=t
  ·rw[e,ht,if_pos rfl]
  ·rw[h3 p Ih (by omega)];exact qE ht f (p+1) (by omega) (by omega) fun g hg hg2=>h3 g (by omega) hg2
theorem nK {s:Slab}{p q:Nat}:∀{n:Nat},q∈(s.addRun p n).keys↔q∈s.keys\/(p<=q/\q<p+n)
 | 0=>by
  show q∈s.keys↔_
  constructor
  ·exact fun h=>ab h
  ·rintro(h | h)
   ·exact h
   ·omega
 | n+1=>by
  show q∈((s.addRun p n).add (p+n)).keys↔_
  rw[lV,lX,nK];constructor
  ·rintro(h | h | h)
   ·exact ae (by omega)
   ·exact ab h
   ·exact ae (by omega)
  ·rintro(h | h)
   ·exact ae (ab h)
   ·by_cases e:q=p+n
    ·exact ab e
    ·exact ae (ae (by omega))
theorem mu(s:Slab)(p:Nat):∀n,(s.addRun p n).pages.length=s.pages.length+n
 | 0=>rfl
 | n+1=>by
  show (ins _ _ _).length=_
  rw[vp,mu s p n];omega
theorem mw(s:Slab)(p:Nat):∀n,(s.addRun p n).quota=s.quota
 | 0=>rfl
 | n+1=>mw s p n
theorem Fl:(jB.map fun v:Nat=>Value.int .u64 v).toArray=#[.int .u64 0,.int .u64 0,.int .u64 0,.int .u64 0,.int .u64 0,.int .u64 0,.int .u64 0,.int .u64 0,.int .u64 0,.int .u64 0,.int .u64 0,.int .u64 0,.int .u64 0,.int .u64 0,.int .u64 0,.int .u64 0,.int .u64 0,.int .u64 0,.int .u64 0,.int .u64 0,.int .u64 0,.int .u64 0,.int .u64 0,.int .u64 0,.int .u64 0,.int .u64 0,.int .u64 0,.int .u64 0,.int .u64 0,.int .u64 0,.int .u64 0,.int .u64 0,.int .u64 0,.int .u64 0,.int .u64 0,.int .u64 0,.int .u64 0,.int .u64 0,.int .u64 0,.int .u64 0,.int .u64 0,.int .u64 0,.int .u64 0,.int .u64 0,.int .u64 0,.int .u64 0,.int .u64 0,.int .u64 0,.int .u64 0,.int .u64 0,.int .u64 0,.int .u64 0,.int .u64 0,.int .u64 0,.int .u64 0,.int .u64 0,.int .u64 0,.int .u64 0,.int .u64 0,.int .u64 0,.int .u64 0,.int .u64 0,.int .u64 0,.int .u64 0]:=by kernel_rfl
theorem eh.drewN{pa pm:Nat}(h:eh w pa pm s Y blk)(n:Nat):eh (w.drewN n) pa pm s Y blk:=
 ⟨h.wf,h.hd,h.map,h.pg,h.inj,h.ya,h.ym,h.yp,h.yl⟩
theorem vn{n:Nat}:∀t,s.run n t=true->∃t',t'<=t/\s.run n t'=true/\∀g,g<t'->s.run n g=false:=by
 intro t
 induction t using Nat.strongRecOn with
 | _ t ih=>
  intro h
  by_cases hg:∀g,g<t->s.run n g=false
  ·exact⟨t,Nat.le_refl _,h,hg⟩
  ·have:∃g,g<t/\s.run n g=true:=by
    refine Classical.byContradiction fun hn=>hg fun g ad=>?_
    cases hr:s.run n g with
    | false=>rfl
    | true=>exact absurd ⟨g,ad,hr⟩ hn
   obtain⟨g,ad,hr⟩:=this;obtain⟨t',h1,h2,h3⟩:=ih g ad hr;exact⟨t',by omega,h2,h3⟩
theorem Ek{pa pm:Nat}(h:eh w pa pm s Y blk)(n:Nat)(hn:n<=100):
 Ct 113 #[PV pa,.int .i64 n] w fun e w'=>e=.returned (.tuple #[.int .i64 ((s.grant n).1.1:Nat),.int .i64 ((s.grant n).1.2:Nat)])/\(∃ad,eh w' pa pm (s.grant n).2 Y ad)/\Fo Y w w':=by
 have c0:=h.cells.1;have c1:=h.cells.2;have an:=If (ly h);obtain⟨R,hR⟩:=Ii (s.grant n)
 by_cases hg:n<1
 ·have he:s.grant n=((0,2),s):=by unfold Slab.grant;rw[if_pos (ab hg)]
  rw[hR] at he⊢;have HR:=If he;have H:=If h;clear h he hR;go_enter func113,ntmps113;go_wp2_with fail
  go_step3
  go_wp2_with fail;refine an.out.mono ?_;rintro e w' ⟨rfl,rfl⟩;go_wp2_with fail;go_ret2;obtain rfl:R=((0,2),s):=HR.out;exact⟨rfl,⟨_,H.out⟩,Fo.refl _ _⟩
 ·have bo:=h.wf.room;have bm:=h.wf.quota;have hL:s.pages.length<=4096:=by omega
  have bj:∀(q:Nat) (ty:TypeId),(Builtin.len_ #[169] ty #[.map (some pm)]).run prog (w.drewN q)=.ok (.int .i64 (s.pages.length:Nat)) (w.drewN q):=fun q ty=>by
   have:=World.ownsMap.len (w:=w.drewN q) h.map underlying169 ty;rw[ls,i8] at this;exact this
  have al:¬(n<1\/4096<n):=by omega
  by_cases hq:s.quota<(s.pages.length+n)*64
  ·have he:s.grant n=((0,3),s):=by unfold Slab.grant;rw[if_neg al,if_pos hq]
   rw[hR] at he⊢;have HR:=If he;have H:=If h;have bc:(s.quota:Int)<((s.pages.length:Int)+n)*64:=by omega
   generalize s.pages.length=L at*;generalize s.quota=Q at*;have ao:IntKind.i64.wrap ((L:Int)+n)=(L:Int)+n:=aD _ (by omega);have ap:IntKind.i64.wrap (((L:Int)+n)*64)=((L:Int)+n)*64:=aD _ (by omega);have ba:1<=n:=by omega
   clear h he hR hq al hg;go_enter func113,ntmps113;go_wp2_with fail
   go_step3
   go_wp2_with fail;refine an.out.mono ?_;rintro e w' ⟨rfl,rfl⟩;go_wp2_with fail
   go_quiet (fail)
   clear ao ap;go_wp2_with fail
   try rw[Exit.noGoto_ret]
   go_ret2;obtain rfl:R=((0,3),s):=HR.out;exact⟨rfl,⟨_,H.out.drewN _⟩,Fo.drewN _ _ _⟩
  ·have a7:(s.pages.length+n)*64<=s.quota:=by omega
   obtain⟨t,_,bf,a8⟩:=qH n s.pages.length s.keys (by rw[i8];exact Nat.le_refl _) 0;have a9:s.pages.length*n<=4096*100:=Nat.mul_le_mul hL hn;have ht:t<=409600:=by omega
   have a':∃t',t'<=t/\s.run n t'=true/\∀g,g<t'->s.run n g=false:=by
    exact vn t (mi.2 a8)
   obtain⟨t',bt,ar,au⟩:=a';have a5:s.firstRun n (s.pages.length*n+1) 0=t':=qE ar _ 0 (cH _) (by omega) fun g _ hg=>au g hg;have he:s.grant n=((t',0),s.addRun t' n):=by unfold Slab.grant;rw[if_neg al,if_neg hq,a5]
   rw[hR] at he⊢;have HR:=If he;have H:=If h;have HT:=kq2 ar au;have bc:¬(s.quota:Int)<((s.pages.length:Int)+n)*64:=by omega
   have HQ:=If a7;have bk:=If (fun k (hk:k<=1000000)=>h.look k (by omega));generalize a2:s.pages.length=L at*;generalize a3:s.quota=Q at*;have ao:IntKind.i64.wrap ((L:Int)+n)=(L:Int)+n:=aD _ (by omega);have ap:IntKind.i64.wrap (((L:Int)+n)*64)=((L:Int)+n)*64:=aD _ (by omega);have ba:1<=n:=by omega
   have a0:=kq2 a2 a3;clear h he hR hq al hg ar au a7 a5 a9 a8 bf a2 a3;go_enter func113,ntmps113;go_wp2_with fail
   go_step3
   go_wp2_with fail;refine an.out.mono ?_;rintro e w' ⟨rfl,rfl⟩;go_wp2_with fail
   go_quiet (fail)
   clear ao ap;go_wp2_with fail
   go_step3
   go_wp2_with fail
   go_loopg [6,7] t' (fun g i _ wr=>∃f:Nat,f+g=t'/\i=.int .i64 f/\wr=w.drewN nq)
   case atStart=>exact⟨0,by omega,rfl,rfl⟩
   case round=>
    obtain⟨f,hf,rfl,rfl⟩:=hrel;go_wp2_with fail
    go_loopg [6,7,34] n (fun g x _ i wr=>x=.int .i64 f/\∃k:Nat,k+g=n/\i=.int .i64 k/\wr=w.drewN nq/\Hid (∀j,j<k->f+j∉s.keys))
    case atStart=>exact⟨rfl,0,by omega,rfl,rfl,fun j hj=>absurd hj (by omega)⟩
    case round=>
     obtain⟨rfl,k,hk,rfl,rfl,ai⟩:=hrel
     by_cases hlt:k<n
     ·have hl:=(H.out.drewN nq).look (f+k) (by omega);rw[show ((f+k:Nat):Int)=(f:Int)+k from by simp] at hl
      by_cases hm:f+k∈s.keys
      ·have hv:iE s.keys blk (f+k)=PV (blk (f+k)):=by unfold iE;rw[if_pos hm]
       rw[hv] at hl;have a6:f+k+1<=t':=by
        refine Classical.byContradiction fun hc=>?_;have:=mi.1 HT.a (f+k-t') (by omega);rw[show t'+(f+k-t')=f+k by omega] at this;exact this hm
       generalize blk (f+k)=b at*;clear hv hm;go_wp2_with fail
       go_roundg (t'-(f+(k+1)))
       case rel=>exact⟨f+(k+1),by omega,by go_num,rfl⟩
       case measure=>omega
      ·have hv:iE s.keys blk (f+k)=.pointer none:=by unfold iE;rw[if_neg hm]
       rw[hv] at hl;have HM:=If hm;clear hv hm;go_wp2_with fail
       go_roundg (n-(k+1))
       case rel=>exact⟨rfl,k+1,by omega,by go_num,rfl,fun j hj=>by
        by_cases e:j=k
        ·rw[e];exact HM.out
        ·exact ai.out j (by omega)⟩
       case measure=>omega
     ·obtain rfl:k=n:=by omega
      have a6:f=t':=by
       by_cases e:f=t'
       ·exact e
       ·have h1:=HT.b f (by omega);rw[mi.2 ai.out] at h1
        cases h1
      subst a6;clear hlt ai;go_wp2_with fail;have bs:f+k<=1048576:=by omega
      go_loopw [8,52] (fun _ i wr=>∃j:Nat,j<=k/\i=.int .i64 j/\Hid ((∃ad,eh wr pa pm (s.addRun f j) Y ad)/\Fo Y w wr)) (fun _ i _=>k-(intOf i).toNat)
      case atStart=>exact⟨0,by omega,rfl,⟨_,H.out.drewN nq⟩,Fo.drewN _ _ _⟩
      case round=>
       obtain⟨j,hj,rfl,ai⟩:=hrel;obtain⟨⟨ad,hS⟩,hK⟩:=ai;have c1:=hS.cells.2
       by_cases hlt:j<k
       ·have bb:f+j∉(s.addRun f j).keys:=fun hc=>by
         rcases nK.1 hc with hc | hc
         ·exact mi.1 HT.a j hlt hc
         ·omega
        obtain⟨w1,bd,a4,a1⟩:=hS.more bb (by omega) (by
         rw[mu,mw];have h1:=HQ.out;have h2:=a0.a;have h3:=a0.b;omega)
        rw[show ((f+j:Nat):Int)=(f:Int)+j from by simp,Fl] at bd;have HN:=kq2 a4 (hK.trans a1);clear a4 a1 hK hS;go_wp2_with fail;go_roundw
        case rel=>exact⟨j+1,by omega,by go_num,⟨_,HN.a⟩,HN.b⟩
        case measure=>simp[intOf];omega
       ·obtain rfl:j=k:=by omega
        have HE:=kq2 (Exists.intro ad hS) hK;clear hS hK;go_wp2_with fail
        try rw[Exit.noGoto_ret]
        go_ret2;obtain rfl:R=((f,0),s.addRun f j):=HR.out;exact⟨rfl,HE.out⟩
end Go.Proofs.YtcibkdbpicledaaGreatDoor
namespace Go.Proofs.YtcibkdbpicledaaGreatDoor
open Go.RowKit Tryz Go.BigFrame Go.Maps Go.WideMaps Lf
open Go.Sort Go.Shelf
variable{blk:Nat->Nat}{ks:List Nat}{s:Slab}{v:Value}{w:World}
theorem wY(m:Nat):AnyZI.SortsIn prog sortedA_ren Fence.wide m:=
 ⟨fun blk off cap ss W hH hblk hsz=>callsIn_wide.2 (AnyM.slices_Sort_int sortA blk off cap ss W hH hblk hsz),
  fun p cap W=>callsIn_wide.2 (AnyM.slices_Sort_int_none sortA p cap W)⟩
def kU(w:World)(B:Nat)(v:Value)(ks:List Nat):Prop:=
 ∃A c,v=.slice A ks.length c/\∀(i:Nat) (h:i<ks.length),∃b o:Nat,A=some ⟨b,o,none⟩/\B<=b/\b<w.heap.size/\w.cell? ⟨b,o+i,none⟩=some (.int .i64 ks[i])
theorem BH{B:Nat}(h:w.ownsRow B 3 1 v ks.length (ks.map fun k:Nat=>Value.int .i64 k)):kU w B v ks:=by
 rcases h.2 with⟨h0,hx⟩ | ⟨g,ai,ad,hv,hg,hb,h1,h2,h3,h4⟩
 ·have:ks=[]:=by simpa using hx
  subst this;exact⟨none,0,by rw[h0];rfl,fun i hi=>absurd hi (by simp)⟩
 ·refine⟨_,_,hv,fun i hi=>⟨g,0,rfl,hg,(gl hb),?_⟩⟩;have al:i<ad.size:=by omega
  rw[Fs hb];have e:(ad.toList.take (ks.length*1))[i]?=(ks.map fun k:Nat=>Value.int .i64 k)[i]?:=by rw[h4]
  rw[cA (by omega)] at e;rw[bT,<-bK,e]
  simp[List.getElem?_eq_getElem hi]
theorem kU.mono{B B':Nat}(h:kU w B v ks)(hB:B'<=B):kU w B' v ks:=by
 obtain⟨A,c,h1,h2⟩:=h;refine⟨A,c,h1,fun i hi=>?_⟩;obtain⟨b,o,k1,k2,k3⟩:=h2 i hi;exact⟨b,o,k1,by omega,k3⟩
theorem wX(h:eQ s){ss:List Int}(hp:ss.Perm (intKeys (fM s.keys blk))):ss.length=s.keys.length/\(ss.mergeSort fun x y=>decide (x<=y)).map encZ=s.keys.map fun k:Nat=>Value.int .i64 k:=by
 have hk:intKeys (fM s.keys blk)=s.keys.map fun k:Nat=>(k:Int):=by
  show ((s.keys.map fun p:Nat=>(Lit.int .i64 (p:Int),DataW.lit (H:=Unit) (.int .i64 (blk p)))).map fun p=>Go.intOf p.1)=_
  rw[cN]
  rfl
 rw[hk] at hp;refine⟨by rw[hp.length_eq,aq],?_⟩;have e1:(ss.mergeSort fun x y=>decide (x<=y))=(s.keys.map fun k:Nat=>(k:Int)).mergeSort fun x y=>decide (x<=y):=mergeSort_of_perm_i hp;have e2:((s.keys.map fun k:Nat=>(k:Int)).mergeSort fun x y=>decide (x<=y))=s.keys.map fun k:Nat=>(k:Int):=by
  refine List.mergeSort_of_pairwise ?_;rw[List.pairwise_map];refine h.sorted.imp fun {a b} hab=>?_;simp only[decide_eq_true_eq];omega
 rw[e1,e2,cN]
 rfl
theorem wQ{pa pm:Nat}{Y:Nat->Prop}(h:eh w pa pm s Y blk):
 Ct 132 #[PV pa] w fun e w'=>∃v,e=.returned v/\kU w' w.heap.size v s.keys/\Below w.heap.size w w':=by
 refine(callsIn_wide (n:=6)).1 ?_;have ao:=h.map.lt;have c1:=h.cells.2;have ap:CallsIn Fence.wide 5 prog 142 #[PV pa] w _:=callsIn_wide.2 (ly h);have ai:Maps.size (fM s.keys blk)<=maxLen:=by
  rw[ls,i8];have:=h.wf.room;have:=h.wf.quota;unfold maxLen;omega
 have ad:Maps.size (fM s.keys blk)*8<=140737488355328:=by
  rw[ls,i8];have:=h.wf.room;have:=h.wf.quota;omega
 have al:SeqGives Fence.wide 2 prog 175 #[.pointer (some ⟨w.heap.size,0,none⟩)] encZ (fun ss=>ss.Perm (intKeys (fM s.keys blk))) (Maps.size (fM s.keys blk)) (w.alloc (.cells #[.map (some pm)] 169)):=
  AnyZI.keys_gives (ρ:=keysA_ren) { keysA with } Fence.wide _ trivial rfl (by omega) w.heap.size pm s.pages.length (fM s.keys blk) _ (by simp) (by simp) (by
   obtain⟨es,an,hb,Ft,hs,hD⟩:=h.map;exact⟨es,an,(Below.heap_alloc _ _ pm ao).trans hb,Ft,hs,hD⟩)
 have cK:∀mb W,CallsIn Fence.wide 5 prog 154 #[.map mb] W fun e w'=>e=.returned (.func (.func 175) #[] #[.pointer (some ⟨W.heap.size,0,none⟩)])/\w'=W.alloc (.cells #[.map mb] 169):=fun mb W=>AnyZI.keys_in keysA Fence.wide 5 trivial rfl mb W;have cS:=AnyZI.sorted_in sortedA Fence.wide 5 trivial trivial trivial trivial rfl (by omega) (wY _) (enters_of func174 (by kernel_rfl) rfl) 175 #[.pointer (some ⟨w.heap.size,0,none⟩)] trivial (enters_of func175 (by kernel_rfl) rfl) _ _ ai ad _ al;change CallsIn _ _ prog 153 _ _ _ at cS;have ar:Fence.wide.fn 154:=trivial;have a0:Fence.wide.fn 153:=trivial;have au:Fence.wide.fn 142:=trivial;have HS:=If h;clear h ai ad al;refine callsIn_of_wp func132 rfl trivial ?_ rfl;simp only[ntmps132,bp,ak,aK,Nat.reduceAdd,Nat.reduceSub,aV,aW,bw,aZ,aU,aP]
 gi_wp2_with (first
  | (gi_at_call 142;refine ap.mono ?_;rintro e w' ⟨rfl,rfl⟩)
  | (gi_at_call 154;refine(cK _ _).mono ?_;rintro e w' ⟨rfl,rfl⟩)
  | (gi_at_call 153;refine cS.mono ?_;rintro e w' ⟨v,ss,rfl,hS,hrow,a1,hb⟩))
 go_ret;obtain⟨hl,hm⟩:=wX HS.out.wf hS;rw[hm,hl] at hrow;exact⟨v,rfl,(BH hrow).mono (by simp),((aa _ w).alloc Ih _).trans (hb.mono (by simp))⟩
end Go.Proofs.YtcibkdbpicledaaGreatDoor
namespace Go.Proofs.YtcibkdbpicledaaGreatDoor.Qt
open Go Go.RowKit
section
variable {P:Program}{ops:Array Oper}{md:Region.Mode}{C:World->Prop}
def nE(P:Program)(md:Region.Mode)(ops:Array Oper)(C:World->Prop)(n:Nat)(L:Array Bool->Act->Prop):Nat->Array Bool->Act->Prop
 | 0,listed,a=>L listed a
 | f+1,listed,a=>
  Region.ready md ops listed≠[]/\∀i∈Region.ready md ops listed,i<n/\qOp P ops C i (nE P md ops C n L f (listed.setIfInBounds i true)) a
theorem wpAny_of_head {n g:Nat}{L:Array Bool->Act->Prop}{Q':Exit->Act->World->Prop}(hL:∀listed a w,C w->L listed a->wpAny P md ops Q' g listed a w):
 ∀(f:Nat) (listed:Array Bool) (a:Act) (w:World),C w->nE P md ops C n L f listed a->wpAny P md ops Q' (f+g) listed a w
 | 0,listed,a,w,hC,h=>by rw[bT];exact hL _ _ _ hC h
 | f+1,listed,a,w,hC,h=>by
  rw[show f+1+g=(f+g)+1 by omega];exact⟨fun h0=>absurd h0 h.1,fun i hi=>wpOp_of_qOp hC (fun a' w' hC' h'=>wpAny_of_head hL f _ a' w' hC' h') (h.2 i hi).2⟩
theorem Fb {n i:Nat}{oi:Oper}{v:Value}{L:Array Bool->Act->Prop}(hi:ops[i]?=some oi)(hsel:∀(j:Nat) (o:Oper) cs b,ops[j]?=some o->o.op≠ .select cs b)
 (hs:Region.sinkB md ops n=true) (hc:Region.chainB md ops n=true) (hn:n<ops.size) (hin:i<n)
 (hdone:∀ad a,L ad a->∀j∈Region.ready md ops ad,n<=j):
 ∀(f:Nat) (ad:Array Bool) (a:Act),HeadInv md ops n ad->
  (∀j oj,ops[j]?=some oj->j≠i->ad.getD j true=false->(∀e∈oj.after,Region.binds md e=true->e.on≠i)->oi.apart ops oj=true)->
  i∈Region.ready md ops ad->YieldsIn P ops C oi v a->
  nE P md ops C n L f (ad.setIfInBounds i true) (a.put oi.dst v)->nE P md ops C n L (f+1) ad a:=by
 intro f;induction f with
 | zero=>
  intro ad a inv _ hr hy H;have ai:=(mem_ready.1 hr).1;refine⟨fun h=>(by rw[h] at hr;cases hr),fun j hj=>?_⟩;have al:j<n:=by
   rcases cg j n with h | h
   ·exact h
   ·exact absurd hj (tail_waits hs hc hn inv _ i rfl hin ai j h)
  refine⟨al,?_⟩;by_cases hji:j=i
  ·subst hji;exact hy.qOp hi H
  ·have:=hdone _ _ H j (ready_mono hj hji);omega
 | succ f ih=>
  intro ad a inv hfree hr hy H;have ai:=(mem_ready.1 hr).1;refine⟨fun h=>(by rw[h] at hr;cases hr),fun j hj=>?_⟩;have al:j<n:=by
   rcases cg j n with h | h
   ·exact h
   ·exact absurd hj (tail_waits hs hc hn inv _ i rfl hin ai j h)
  refine⟨al,?_⟩;by_cases hji:j=i
  ·subst hji;exact hy.qOp hi H
  ·have h1:=(H.2 j (ready_mono hj hji)).2;obtain⟨ao,oj,an,ap⟩:=mem_ready.1 hj;have au:∀e∈oj.after,Region.binds md e=true->e.on≠i:=fun e he hb heq=>by
    have h1:=ap e he hb;rw[heq,getD_both ai] at h1;cases h1
   have h2:=qOp_put an (hfree j oj an hji ao au) (fun cs b=>hsel i oi cs b hi) (fun cs b=>hsel j oj cs b an) hy h1;have ar:∀k ok,ops[k]?=some ok->k≠i->(ad.setIfInBounds j true).getD k true=false->
    (∀e∈ok.after,Region.binds md e=true->e.on≠i)->oi.apart ops ok=true:=fun k ok hk hki ai hno=>by
    refine hfree k ok hk hki ?_ hno;by_cases hjk:j=k
    ·subst hjk;exact ao
    ·rw[getD_set_ne true hjk] at ai;exact ai
   refine qOp_mono (fun a' h3=>ih (ad.setIfInBounds j true) a' (inv.set hj al) ar (ready_mono hr (Ne.symm hji)) h3.1 ?_) h2;rw[Array.setIfInBounds_comm _ _ hji];exact h3.2
theorem wpAnyQL_lex {n g:Nat}{Lq:Act->Prop}(hsel:Region.noSelect ops=true)(hs:Region.sinkB md ops n=true)(hc:Region.chainB md ops n=true)(hn:n<ops.size):
 ∀(l:List Oper) (k:Nat) (listed:Array Bool) (a:Act),(∀j,j<l.length->l[j]?=ops[k+j]?)->k+l.length=n->HeadInv md ops n listed->
 Region.lexHead md ops g l.length k listed=true->wpQuiet P ops C Lq l a->
 nE P md ops C n (fun listed' a'=>Region.seqB md ops g n listed'=true/\Lq a') l.length listed a
 | [],k,listed,a,_,hk,_,hB,h=>by
  have:k=n:=by simpa using hk
  subst this;exact⟨by simpa[Region.lexHead] using hB,h⟩
 | o::l,k,listed,a,hl,hk,inv,hB,h=>by
  have h0:ops[k]?=some o:=by simpa using(hl 0 (by simp)).symm
  simp only[ak,Region.lexHead,aI] at hB;obtain⟨⟨hr,hf⟩,al⟩:=hB;have ad:k<n:=by simp only[ak] at hk;omega
  have ai:k∈Region.ready md ops listed:=by simpa using hr
  have an:qOp P ops C k (wpQuiet P ops C Lq l) a:=by unfold qOp;simp only[h0];exact h
  obtain⟨v,hy,hK⟩:=yieldsIn_of_qOp h0 an;exact Fb h0 (Region.noSelect_spec hsel) hs hc hn ad (fun listed' a' hL=>seqB_ready hL.1) l.length listed a inv (Region.free_spec h0 hf) ai hy
   (wpAnyQL_lex hsel hs hc hn l (k+1) _ _ (fun j hj=>by have:=hl (j+1) (by simp;omega);simpa[Nat.add_assoc,Nat.add_comm 1 j] using this) (by simp only[ak] at hk;omega) (inv.set ai ad) al hK)
end
end Qt
theorem lD {P:Program}{C:World->Prop}{id:Nat}{Q:Exit->Act->World->Prop}{a:Act}{w:World}{l:List Oper}(n:Nat)(hm:P.follows .mixedOrders=true)(hB:Region.lexTailB .any l.toArray n=true)(hC:C w.drew)
 (h:wpQuiet P l.toArray C (fun a'=>∀w',C w'->wpList P l.toArray Q (l.drop n) a' w') (l.take n) a):(Code.region id l.toArray true).wp P Q a w:=by
 simp only[Region.lexTailB,aI,decide_eq_true_eq] at hB;obtain⟨⟨⟨⟨ao,hn⟩,hs⟩,hc⟩,an⟩:=hB;have ar:n<l.length:=by simpa using hn
 have ad:(l.take n).length=n:=by simp;omega
 have ai:(l.drop n).length=l.toArray.size-n:=by simp
 have ap:HeadInv .any l.toArray n (Array.replicate l.toArray.size false):=
  ⟨by simp,fun j oj _ hl=>(by rw[getD_replicate_false] at hl;cases hl),fun t _ ht=>getD_in (by simpa using ht) (getD_replicate_false _ _)⟩
 have H:=Qt.wpAnyQL_lex (md:=.any) (g:=l.toArray.size-n) ao hs hc hn (l.take n) 0 _ a (fun j hj=>by
  have al:j<n:=by rw[ad] at hj;exact hj
  simp[al]) (by simpa using ad) ap (by rw[ad];exact an) h
 refine wp_region_any hm ?_;have:=Qt.wpAny_of_head (Q':=Q) (g:=l.toArray.size-n) (fun listed a' w' hC' hL=>by
  have:=wpAny_of_seq (md:=.any) (Q':=Q) (l.drop n) n listed a' w' (fun j=>by simp[List.getElem?_drop]) (by rw[ai];exact hL.1) (hL.2 w' hC');rwa[ai] at this) _ _ _ _ (show C { w with drawn:=w.drawn+1 } from hC) H
 rw[ad,show n+(l.toArray.size-n)=l.toArray.size by omega] at this;exact this
end Go.Proofs.YtcibkdbpicledaaGreatDoor
namespace Go.Proofs.YtcibkdbpicledaaGreatDoor
open Go.RowKit Tryz Go.BigFrame Go.Maps Go.WideMaps Lf
variable{Y:Nat->Prop}{blk:Nat->Nat}{s:Slab}{w:World}
abbrev fy:Nat:=0
theorem eh.of_keep{w w':World}{pa pm:Nat}(h:eh w pa pm s Y blk)(hs:w.heap.size<=w'.heap.size)(hb:∀k,k<w.heap.size->(k=pa\/k=pm\/∃p∈s.keys,k=blk p)->w'.heap[k]?=w.heap[k]?):eh w' pa pm s Y blk where
 wf:=h.wf
 hd:=by rw[hb pa (gl h.hd) (ab rfl)];exact h.hd
 map:=rN h.map (hb pm h.map.lt (ae (ab rfl)))
 pg:=fun x hx=>by
  have h1:=h.pg x hx;rw[hb _ (gl h1) (ae (ae ⟨x.1,jP.2 ⟨_,hx⟩,rfl⟩))];exact h1
 inj:=h.inj
 ya:=h.ya
 ym:=h.ym
 yp:=h.yp
 yl:=fun k hk=>bD (h.yl k hk) hs
theorem eh.below{w w':World}{pa pm:Nat}(h:eh w pa pm s Y blk)(hb:Below w.heap.size w w'):eh w' pa pm s Y blk:=
 h.of_keep hb.size fun k hk _=>hb.block k hk
structure Fz (w:World) (ph pa pm:Nat) (s:Slab) (Y:Nat->Prop):Prop where
 slab:∃blk,eh w pa pm s Y blk
 hp:w.heap[ph]?=some (.cells #[PV pa] 177 (0,0))
 yh:Y ph
 tab:gA w
 yt:Y fy
theorem Fz.yl{ph pa pm:Nat}(h:Fz w ph pa pm s Y):∀k,Y k->k<w.heap.size:=by
 obtain⟨ad,hs⟩:=h.slab;exact hs.yl
theorem Fz.wf{ph pa pm:Nat}(h:Fz w ph pa pm s Y):eQ s:=by
 obtain⟨ad,hs⟩:=h.slab;exact hs.wf
theorem Fz.step{w w':World}{ph pa pm:Nat}{s s':Slab}(h:Fz w ph pa pm s Y)(hs:∃blk,eh w' pa pm s' Y blk)(hk:Fo Y w w'):Fz w' ph pa pm s' Y where
 slab:=hs
 hp:=by rw[hk.block ph h.yh];exact h.hp
 yh:=h.yh
 tab:=h.tab.of_block (hk.block _ h.yt)
 yt:=h.yt
theorem Fz.below{w w':World}{ph pa pm:Nat}(h:Fz w ph pa pm s Y)(hb:Below w.heap.size w w'):Fz w' ph pa pm s Y:=by
 obtain⟨ad,hs⟩:=h.slab;exact h.step ⟨ad,hs.below hb⟩ (Fo.of_below hb hs.yl)
theorem Fz.keep{w w':World}{ph pa pm:Nat}(h:Fz w ph pa pm s Y)(hb:Below w.heap.size w w'):Fo Y w w':=Fo.of_below hb h.yl
theorem Fz.cell{ph pa pm:Nat}(h:Fz w ph pa pm s Y):w.cell? ⟨ph,0,none⟩=some (PV pa):=by rw[Fs h.hp];rfl
theorem Fz.lt{ph pa pm:Nat}(h:Fz w ph pa pm s Y):ph<w.heap.size:=h.yl _ h.yh
theorem eh.mono{pa pm:Nat}{Y Z:Nat->Prop}(h:eh w pa pm s Y blk)(hz:∀k,Z k->Y k):eh w pa pm s Z blk:=
 ⟨h.wf,h.hd,h.map,h.pg,h.inj,fun k=>h.ya (hz _ k),fun k=>h.ym (hz _ k),fun p hp k=>h.yp p hp (hz _ k),fun k hk=>h.yl k (hz k hk)⟩
abbrev lE(Y:Nat->Prop)(b:Nat):Nat->Prop:=fun k=>Y k\/k=b
theorem eh.own{pa pm:Nat}(h:eh w pa pm s Y blk)(o:Obj):eh (w.alloc o) pa pm s (lE Y w.heap.size) blk:=by
 have h':=h.below ((aa _ w).alloc Ih o);have ad:=(gl h.hd);refine⟨h'.wf,h'.hd,h'.map,h'.pg,h'.inj,?_,?_,?_,?_⟩
 ·rintro(k | k)
  ·exact h.ya k
  ·omega
 ·rintro(k | k)
  ·exact h.ym k
  ·have:=h.map.lt;omega
 ·rintro p hp (k | k)
  ·exact h.yp p hp k
  ·obtain⟨l,hl⟩:=jP.1 hp;have:=(gl (h.pg _ hl));simp only at this;omega
 ·rintro k (hk | hk)
  ·have:=h.yl k hk
   simp;omega
  ·simp;omega
theorem Fz.own{ph pa pm:Nat}(h:Fz w ph pa pm s Y)(o:Obj):Fz (w.alloc o) ph pa pm s (lE Y w.heap.size):=by
 have h':=h.below ((aa _ w).alloc Ih o);obtain⟨ad,hs⟩:=h.slab;exact⟨⟨ad,hs.own o⟩,h'.hp,ab h.yh,h'.tab,ab h.yt⟩
theorem Fz.mono{ph pa pm:Nat}{Y Z:Nat->Prop}(h:Fz w ph pa pm s Y)(hz:∀k,Z k->Y k)(h1:Z ph)(h2:Z fy):Fz w ph pa pm s Z:=by
 obtain⟨ad,hs⟩:=h.slab;exact⟨⟨ad,hs.mono hz⟩,h.hp,h1,h.tab,h2⟩
theorem Fz.drewN{ph pa pm:Nat}(h:Fz w ph pa pm s Y)(n:Nat):Fz (w.drewN n) ph pa pm s Y:=h.below ⟨rfl,rfl,rfl,Nat.le_refl _,fun _ _=>rfl⟩
theorem Fz.read{ph pa pm:Nat}(h:Fz w ph pa pm s Y)(a:Nat)(ha:a<=2^62):
 Ct 102 #[PV pa,.int .i64 a] w fun e w'=>e=.returned (.tuple #[.int .u64 (s.rd a:Nat),.int .i64 (s.err a:Nat)])/\w=w':=by
 obtain⟨ad,hs⟩:=h.slab;exact wR hs a ha
theorem Fz.write{ph pa pm:Nat}(h:Fz w ph pa pm s Y)(a x:Nat)(ha:a<=2^62)(hx:x<2^64):
 Ct 95 #[PV pa,.int .i64 a,.int .u64 x] w fun e w'=>e=.returned (.int .i64 (s.err a:Nat))/\Fz w' ph pa pm (s.wr a x) Y/\Fo Y w w':=by
 obtain⟨ad,hs⟩:=h.slab;refine(Ep hs a x ha hx).mono ?_;rintro e w' ⟨h1,h2,h3⟩;exact⟨h1,h.step ⟨_,h2⟩ h3,h3⟩
theorem Fz.write'{ph pa pm:Nat}(h:Fz w ph pa pm s Y)(a x:Nat){ai xi:Int}(ha:a<=2^62)(hx:x<2^64)(hai:ai=(a:Int))(hxi:xi=(x:Int)):
 Ct 95 #[PV pa,.int .i64 ai,.int .u64 xi] w fun e w'=>e=.returned (.int .i64 (s.err a:Nat))/\Fz w' ph pa pm (s.wr a x) Y/\Fo Y w w':=by
 subst hai hxi;exact h.write a x ha hx
theorem Fz.rd_lt{ph pa pm:Nat}(h:Fz w ph pa pm s Y)(a:Nat):s.rd a<2^64:=by
 obtain⟨ad,hs⟩:=h.slab;exact hs.rd_lt a
theorem qV{ph pa pm:Nat}(h:Fz w ph pa pm s Y):
 Ct 110 #[PV ph] w fun e w'=>e=.returned (.bool false)/\w=w':=by
 have c1:=h.cell;clear h;go_enter func110,ntmps110
 go_wp2
 go_ret;exact⟨rfl,rfl⟩
def fT(x:Hr):Value:=.agg #[.int .i64 x.kind,.int .i64 x.n,.int .u64 x.w]
theorem qU{ph pa pm:Nat}(h:Fz w ph pa pm s Y)(p:Nat)(hp:p<=1048576):
 Cb 144 #[PV ph,.int .i64 p] w (fT (FA s p)):=by
 have c1:=h.cell;have al:=h.lt;have r1:=fun W (hb:Below w.heap.size w W)=>(h.below hb).read (p*64) (by omega);have r2:=fun W (hb:Below w.heap.size w W)=>(h.below hb).read (p*64+1) (by omega);have l1:=h.rd_lt (p*64);have he:FA s p=⟨s.rd (p*64) % 256,s.rd (p*64) / 256,s.rd (p*64+1)⟩:=rfl;rw[he];clear he h;generalize s.rd (p*64)=a at*;generalize s.rd (p*64+1)=b at*;generalize s.err (p*64)=e1 at*;generalize s.err (p*64+1)=e2 at*;rw[show ((p*64:Nat):Int)=(p:Int)*64 from by simp] at r1;rw[show ((p*64+1:Nat):Int)=(p:Int)*64+1 from by simp] at r2;have HR:=kq2 r1 r2;clear r1 r2;have ad:=bits_and_u64_nat a 255 l1 (by decide);rw[show a &&& 255=a % 256 from Nat.and_two_pow_sub_one_eq_mod a 8] at ad;have ai:Below w.heap.size w (w.alloc (.cells #[.int .i64 0,.int .i64 0,.int .u64 0] 196)):=(aa _ w).alloc Ih _;go_enter func144,ntmps144;go_wp2_with fail;refine(HR.a _ ai).mono ?_;rintro e w1 ⟨rfl,rfl⟩;go_wp2_with fail;refine(HR.b _ ai).mono ?_;rintro e w1 ⟨rfl,rfl⟩;go_wp2_with fail;have hw:wrap64 (bits BinOp.and IntKind.u64 (a:Int) 255)=((a % 256:Nat):Int):=by
  rw[show (255:Int)=((255:Nat):Int) from rfl,ad];unfold wrap64;omega
 simp only[hw];exact bodyPost_ret (v:=fT ⟨a % 256,a / 256,b⟩) (by simp[results,f144,go_sem,fT]) rfl ⟨rfl,(aa _ w).alloc Ih _⟩
theorem oh{ph pa pm:Nat}(h:Fz w ph pa pm s Y)(p:Nat)(x:Hr)(hp:p<=1048576)(hk:x.kind<256)(hn:x.n<2^56)(hxw:x.w<2^64):
 Ct 114 #[PV ph,.int .i64 p,fT x] w fun e w'=>e=.returned (.tuple #[])/\Fz w' ph pa pm (Ie s p x) Y/\Fo Y w w':=by
 obtain⟨kd,xn,xw⟩:=x;simp only at hk hn hxw;simp only[fT];have ho:=h.own (.cells #[.int .i64 kd,.int .i64 xn,.int .u64 xw] 196);have a4:kd+xn*256<2^64:=by omega
 have a0:bits BinOp.or IntKind.u64 (kd:Int) ((xn:Int)*256)=((kd+xn*256:Nat):Int):=by
  rw[show ((xn:Int)*256)=((xn*256:Nat):Int) by simp,bits_or_u64_nat _ _ (by omega) (by omega)]
  congr 1
  have h8:=cU (i:=8) (b:=kd) (by omega) xn;rw[Nat.shiftLeft_eq] at h8;rw[Nat.or_comm,Nat.add_comm];exact h8.symm
 have a3:=If a0;clear a0;have a5:IntKind.u64.wrap ((xn:Int)*256)=((xn*256:Nat):Int):=by rw[IntKind.wrap_u64];omega
 have a1:Ie s p ⟨kd,xn,xw⟩=(s.wr (p*64) (kd+xn*256)).wr (p*64+1) xw:=rfl;rw[a1];obtain⟨W0,ad⟩:=Ii (w.alloc (.cells #[.int .i64 kd,.int .i64 xn,.int .u64 xw] 196));have ai:W0.heap[w.heap.size]?=some (.cells #[.int .i64 kd,.int .i64 xn,.int .u64 xw] 196 (0,0)):=by
  rw[<-ad]
  show (w.heap.push _)[w.heap.size]?=_;simp
 have ao:Below w.heap.size w W0:=by rw[<-ad];exact(aa _ w).alloc Ih _
 have b0:W0.cell? ⟨w.heap.size,0,none⟩=some (.int .i64 kd):=by rw[Fs ai];rfl
 have b1:W0.cell? ⟨w.heap.size,1,none⟩=some (.int .i64 xn):=by rw[Fs ai];rfl
 have b2:W0.cell? ⟨w.heap.size,2,none⟩=some (.int .u64 xw):=by rw[Fs ai];rfl
 rw[ad] at ho;have c1:=ho.cell;have ar:=h.keep ao;have a2:=And.intro h.yh h.yt;have HO:=kq5 ho ar a2 ad ai;clear ho h ad ai ao a1 ar a2;go_enter func114,ntmps114;go_wp2_with fail;rw[HO.d];refine lD (C:=fun w'=>∃q:Nat,w'=(W0).drewN q) 14 (by kernel_rfl) (by kernel_rfl) ⟨1,rfl⟩ ?_;simp only[bS,cF,ce,cR]
 repeat (first | go_big_quiet_skip | (go_big_quiet_want;go_big_quiet_op;first | go_big_quiet_on))
 refine wpQuiet_nil ?_;rintro _ ⟨q,rfl⟩;go_wp2_with fail;refine((HO.a.drewN q).write' (p*64) (kd+xn*256) (by omega) a4 (by simp) a3.out).mono ?_;rintro e w1 ⟨rfl,an,al⟩;have c1:=an.cell;have b2:w1.cell? ⟨w.heap.size,2,none⟩=some (.int .u64 xw):=by rw[al.cell (p:=⟨w.heap.size,2,none⟩) (ae rfl)];exact b2
 have H1:=kq2 an (al.mono (Z:=Y) fun k hk=>ab hk);clear an al b0 b1;go_wp2_with fail;refine lD (C:=fun w'=>∃q:Nat,w'=(w1).drewN q) 9 (by kernel_rfl) (by kernel_rfl) ⟨1,rfl⟩ ?_;simp only[bS,cF,ce,cR]
 repeat (first | go_big_quiet_skip | (go_big_quiet_want;go_big_quiet_op;first | go_big_quiet_on))
 refine wpQuiet_nil ?_;rintro _ ⟨q,rfl⟩;go_wp2_with fail;refine((H1.a.drewN q).write' (p*64+1) xw (by omega) hxw (by simp) rfl).mono ?_;rintro e w2 ⟨rfl,au,ap⟩;have H2:=kq2 (au.mono (fun k hk=>ab hk) HO.c.1 HO.c.2) (ap.mono (Z:=Y) fun k hk=>ab hk);clear au ap;go_wp2_with fail
 go_end0
 exact⟨rfl,H2.a,HO.b.trans ((Fo.drewN _ _ _).trans (H1.b.trans ((Fo.drewN _ _ _).trans H2.b)))⟩
theorem Bp{ph pa pm:Nat}(h:Fz w ph pa pm s Y)(a n:Nat)(ha:a<=2305843009213693952)(hn:n<=100000):
 Ct 148 #[PV ph,.int .i64 a,.int .i64 n] w fun e w'=>e=.returned (.tuple #[])/\Fz w' ph pa pm (nY s a n) Y/\Fo Y w w':=by
 have H:=If h;clear h;go_enter func148,ntmps148;go_wp2_with fail
 go_loopw [6,8] (fun _ i wr=>∃k:Nat,k<=n/\i=.int .i64 k/\Hid (Fz wr ph pa pm (s.zero a k) Y/\Fo Y w wr)) (fun _ i _=>n-(intOf i).toNat)
 case atStart=>exact⟨0,by omega,rfl,H.out,Fo.refl _ _⟩
 case round=>
  obtain⟨k,hk,rfl,ad⟩:=hrel;have c1:=ad.out.1.cell
  by_cases hlt:k<n
  ·go_wp2_with fail;refine(ad.out.1.write' (a+k) 0 (by omega) (by decide) (by simp) rfl).mono ?_;rintro e w1 ⟨rfl,h1,k1⟩;have H1:=kq2 h1 (ad.out.2.trans k1);clear h1 k1 c1;go_wp2_with fail;go_roundw
   case rel=>exact⟨k+1,by omega,by go_num,H1.out⟩
   case measure=>simp[intOf];omega
  ·obtain rfl:k=n:=by omega
   go_wp2_with fail
   go_end0
   exact⟨rfl,ad.out⟩
end Go.Proofs.YtcibkdbpicledaaGreatDoor
namespace Go.Proofs.YtcibkdbpicledaaGreatDoor
open Go.RowKit Tryz
section
variable {F:Fence}{n:Nat}{P:Program}{ops:Array Oper}{md:Region.Mode}{C:World->Prop}
def kl(ops:Array Oper):Bool:=ops.all fun o=>match o.op with | .defer _=>false | _=>true
theorem rL(h:kl ops=true){i:Nat}{o:Oper}(ho:ops[i]?=some o):∀c,o.op≠ .defer c:=fun c hc=>by
 obtain⟨hi,rfl⟩:=Array.getElem?_eq_some_iff.1 ho;have:=Array.all_eq_true.1 h i hi;rw[hc] at this;cases this
theorem Fe {o:Oper}{a:Act}{K:Act->Prop}{K':Act->World->Prop}{Q':Exit->Act->World->Prop}{w:World}(hnd:∀c,o.op≠ .defer c)(hw:C w)(h:∀a w',C w'->K a->K' a w')
 (ha:o.askedIn F P a C) (hh:o.quietIn F n P a C K):o.wpIn F n P a w K' Q':=by
 obtain⟨v,h1,h2⟩:=hh;have h3:=h1 w hw;unfold Oper.quietAtIn at h3;unfold Oper.wpIn;refine⟨ha w hw,?_⟩;rw[Oper.semAt_eq _ _ _ hnd];generalize (execOp a.eval o).run P w=r at*;cases r with
 | ok x w'=>
  cases x<;>simp only[Oper.quietUponIn] at h3<;>simp only[Oper.uponIn]
  case value u=>
   obtain⟨e1,e2⟩:=h3;rw[e1,e2];exact h _ _ hw h2
  case skip=>
   obtain⟨e1,e2⟩:=h3;rw[e1,<-e2];exact h _ _ hw h2
  case enter f args=>
   obtain⟨e1,hd,hc⟩:=h3;rw[e1];exact⟨hd,hc.mono fun e w'' ⟨he,hw''⟩=>by subst he;exact h _ _ hw'' h2⟩
 | halt x w'=>simp only[Oper.quietUponIn] at h3
theorem Fh {i:Nat}{a:Act}{K:Act->Prop}{K':Act->World->Prop}{Q':Exit->Act->World->Prop}{w:World}(hnd:kl ops=true)(hC:C w)(h:∀a w',C w'->K a->K' a w')
 (hh:qOpIn F n P ops C i K a):wpOpIn F n P ops Q' i K' a w:=by
 unfold qOpIn at hh;unfold wpOpIn;split
 ·rename_i ho;simp only[ho] at hh;exact h _ _ hC hh
 ·rename_i o ho;simp only[ho] at hh;obtain⟨ha,hh⟩:=hh;split
  ·rename_i hw;simp only[hw,if_true] at hh;exact Fe (rL hnd ho) hC h ha hh
  ·rename_i hw;simp only[hw] at hh;exact⟨ha w hC,h _ _ hC hh⟩
theorem ye {Q:Act->Prop}{Q':Exit->Act->World->Prop}(hnd:kl ops=true)(hQ:∀a w,C w->Q a->Q' .normal a w):∀(fuel:Nat) (listed:Array Bool) (a:Act) (w:World),C w->
 wpAnyQIn F n P md ops C Q fuel listed a->wpAnyIn F n P md ops Q' fuel listed a w
 | 0,_,_,_,hw,h=>⟨h.1,hQ _ _ hw h.2⟩
 | fuel+1,_,_,_,hw,h=>⟨fun h0=>hQ _ _ hw (h.1 h0),fun i hi=>Fh hnd hw (fun a' w' hw'=>ye hnd hQ fuel _ a' w' hw') (h.2 i hi)⟩
theorem Fg {id:Nat}{Q:Exit->Act->World->Prop}{a:Act}{w:World}(hnd:kl ops=true)(hm:P.follows .mixedOrders=true)(hB:Region.lexB .any ops=true)(hC:C { w with drawn:=w.drawn+1 })
 (h:wpQuietIn F n P ops C (fun a'=>∀w',C w'->Q .normal a' w') ops.toList a):(Code.region id ops true).wpIn F n P Q a w:=by
 simp only[Region.lexB,aI] at hB;refine wpIn_region_any hm (ye (Q:=fun a'=>∀w',C w'->Q .normal a' w') hnd (fun _ w' hw' h=>h w' hw') _ _ _ _ hC ?_);have:=wpAnyQIn_lex (F:=F) (n:=n) (C:=C) (md:=.any) hB.1 ops.toList 0 (Array.replicate ops.size false) a (by simp) (by simpa using hB.2) h;simpa using this
theorem pq {id:Nat}{Q:Exit->Act->World->Prop}{a:Act}{w:World}{l:List Oper}(I:World->Prop)(hnd:kl l.toArray=true)(hm:P.follows .mixedOrders=true)(hB:Region.lexB .any l.toArray=true)
 (hI:I w.drew)
 (h:Nonempty (Fq I)->wpQuietIn F n P l.toArray (fun w'=>∃x:Fq I,w'=x.to) (fun a'=>∀w',(∃x:Fq I,w'=x.to)->Q .normal a' w') l a):(Code.region id l.toArray true).wpIn F n P Q a w:=
 Fg (C:=fun w'=>∃x:Fq I,w'=x.to) hnd hm hB ⟨⟨_,hI⟩,rfl⟩ (by simpa using h ⟨⟨_,hI⟩⟩)
theorem CallsIn.keeps_below {f:FuncId}{args:Array Value}{w:World}{v:Value}{x:Fq (Below w.heap.size w)}
 (h:CallsIn F n P f args x.to fun e w'=>e=.returned v/\Below x.to.heap.size x.to w'):CallsIn F n P f args x.to fun e w''=>e=.returned v/\∃y:Fq (Below w.heap.size w),w''=y.to:=
 h.mono fun _ _ ⟨he,hb⟩=>⟨he,⟨_,x.ok.trans (hb.mono x.ok.size)⟩,rfl⟩
theorem CallsIn.keeps_same {f:FuncId}{args:Array Value}{I:World->Prop}{v:Value}{x:Fq I}
 (h:CallsIn F n P f args x.to fun e w'=>e=.returned v/\x.to=w'):CallsIn F n P f args x.to fun e w''=>e=.returned v/\∃y:Fq I,w''=y.to:=
 h.mono fun _ _ ⟨he,hb⟩=>⟨he,x,hb.symm⟩
end
