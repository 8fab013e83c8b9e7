/- The handles' table in memory; none, of, At: the walks. -/
import Derived.Test.YtpljannolpapgaaGreatDoorRLf
import Derived.Laws.AppendOwn
import Derived.OwnWalk
import Derived.Maps.AppendAt
import Derived.Lib.ItoaWalk
import Derived.Sort.BigQuietIn
set_option maxRecDepth 100000
set_option maxHeartbeats 1600000
namespace Go.Proofs.YtpljannolpapgaaGreatDoor
section
open Go.RowKit Tryz Go.BigFrame Go.Maps Go.WideMaps Lf
variable{pt:Nat}{v:Value}{w:World}
structure iW (t:Hs):Prop where
 most:1<=t.most/\t.most<=65536
 last:1<=t.last/\t.last<4294967296
 len:t.p_.length<=t.most
 slot:∀x∈t.p_,x.is<=2/\x.gen<4294967296/\x.t_<=4611686018427387903
def ko(x:mj):List Value:=[Xi x.is,.int .u32 x.gen,Xi x.t_]
def fp(l:List mj):List Value:=l.flatMap ko
structure eI (w:World) (pt:Nat) (t:Hs) (v:Value):Prop where
 wf:iW t
 hd:w.1[pt]?=some (.cells #[Xi t.most,.int .u32 t.last,v] 158 (0,0))
 row:w.ownsRow 0 197 3 v t.p_.length (fp t.p_)
theorem oV(l:List mj):(fp l).length=l.length*3:=by
 induction l with
 | nil=>rfl
 | cons x r ih=>simp only[fp,co,ag,ko,aj,aL] at ih⊢;omega
theorem wS(l:List mj):∀(k j:Nat) (h:k<l.length),j<3->(fp l)[k*3+j]?=(ko l[k])[j]?:=by
 induction l with
 | nil=>intro k j h;simp at h
 | cons x r ih=>
  intro k j h hj
  cases k with
  | zero=>
   simp only[fp,co,Nat.zero_mul,bz,List.getElem_cons_zero];rw[List.getElem?_append_left (by simp[ko];omega)]
  | succ k=>
   simp only[fp,co,List.getElem_cons_succ];rw[List.getElem?_append_right (by simp[ko];omega),show (k+1)*3+j-(ko x).length=k*3+j by simp[ko];omega];exact ih k j (by simpa using h) hj
theorem eI.cells{t:Hs}(h:eI w pt t v):
 (t.p_=[]/\v=.slice none 0 0)\/∃g ad,v=.slice (some (y_ g)) t.p_.length ad/\∀(k:Nat) (hk:k<t.p_.length),
  w.cell? ⟨g,k*3,none⟩=some (Xi t.p_[k].is)/\w.cell? ⟨g,k*3+1,none⟩=some (.int .u32 t.p_[k].gen)/\w.cell? ⟨g,k*3+2,none⟩=some (Xi t.p_[k].t_):=by
 rcases h.row.2 with⟨h0,hx⟩ | ⟨g,ad,ai,hv,_,hb,h1,_,h3,h4⟩
 ·exact ab ⟨bI.1 hx,h0⟩
 ·refine ae ⟨g,ad,hv,fun k hk=>?_⟩;have key:∀j,j<3->w.cell? ⟨g,k*3+j,none⟩=(ko t.p_[k])[j]?:=fun j hj=>by
   rw[q_ hb,<-wS t.p_ k j hk hj,<-h4,cP o_,bM]
  exact⟨key 0 d_,key 1 d_,key 2 d_⟩
theorem xz{t:Hs}(h:eI w pt t v):
 Ct 111 #[PV pt] w fun e w'=>e=.returned (.bool false)/\w=w':=by
 have c0:w.cell? (y_ pt)=some (Xi t.most):=e_ h.hd
 have hm:=h.wf.most;have hb:((t.most:Int)==0)=false:=m_
 clear h;go_enter func111,ntmps111
 go_wp2
 go_ret;exact⟨rfl,rfl⟩
def oU(v:Value)(k:Nat):Value:=match v with | .slice (some ⟨g,0,none⟩) _ _=> .pointer (some ⟨g,k*3,none⟩) | _=> .pointer none
theorem qTaaf{P:Prop}(h:P:=by
 have HG:=kq2 an ai;clear an ai hR ad hq hg hL h0;go_enter func164,ntmps164;exact qTaaa):P:=h
theorem qTaaa{P:Prop}(h:P:=by
 go_wp2_with fail;refine Jc HG.a ?_;go_wp2_with fail;go_ret2;obtain rfl:=HG.b;exact⟨rfl,rfl⟩):P:=h
theorem Is{t:Hs}(h:eI w pt t v)(hh:Nat)(hl:hh<2^64):
 Ct 164 #[PV pt,Xu hh] w fun e w'=>e=.returned (match t.of hh with | some k=> .tuple #[oU v k,Xi 0] | none=> .tuple #[.pointer none,Xi 7])/\w=w':=by
 have an:=xz h;have c2:w.cell? (x_ pt 2)=some v:=e_ h.hd
 have a0:bits BinOp.and IntKind.u64 (hh:Int) 4294967295=((hh % 4294967296:Nat):Int):=by
  rw[show (4294967295:Int)=((4294967295:Nat):Int) from rfl,bits_and_u64_nat _ _ hl d_]
  congr 1
  exact Nat.and_two_pow_sub_one_eq_mod hh 32
 obtain⟨q,hq⟩:=Ii (hh % 4294967296);obtain⟨g,hg⟩:=Ii (hh / 4294967296);have au:(hh:Int) / 4294967296=(g:Int):=o_
 have ar:q<4294967296:=o_
 have a4:g<4294967296:=o_
 rw[hq] at a0;obtain⟨R,hR⟩:=Ii (match t.of hh with | some k=>Value.tuple #[oU v k,Xi 0] | none=> .tuple #[.pointer none,Xi 7]);rw[hR];have ad:t.of hh=if q=0 then none else match t.p_[q-1]? with | none=>none | some x=>if x.is=1/\x.gen=g then some (q-1) else none:=by
  unfold Hs.of;simp only[hq,hg]
  rfl
 by_cases h0:q=0
 ·rw[h0,if_pos rfl] at ad;have ai:R=.tuple #[.pointer none,Xi 7]:=by rw[<-hR,ad]
  subst h0;have HG:=kq2 an ai;clear an ai hR ad h hq hg au;go_enter func164,ntmps164;exact qTaaa
 ·rw[if_neg h0] at ad
  rcases h.cells with⟨he,hv⟩ | ⟨b,a3,hv,ap⟩
  ·rw[he] at ad;have ai:R=.tuple #[.pointer none,Xi 7]:=by rw[<-hR,ad];rfl
   subst hv;have h1:¬((q:Int)-1<0):=o_
   have HG:=kq2 an ai;clear an ai hR ad h hq hg he au;go_enter func164,ntmps164;exact qTaaa
  ·obtain⟨k,rfl⟩:∃k,q=k+1:=⟨q-1,o_⟩;rw[Nat.add_sub_cancel] at ad;have a5:=h.wf.len;have a6:=h.wf.most
   by_cases hk:k<t.p_.length
   ·obtain⟨k0,k1,_⟩:=ap k hk;rw[af hk] at ad;simp only at ad;have a1:=(h.wf.slot _ (ao hk)).2.1;clear ap;generalize t.p_[k]=x at*;clear h;generalize hL:t.p_.length=L at*;obtain⟨xi,xg,xa⟩:=x;simp only at ad k0 k1 a1;subst hv;have a2:(k:Int)<L:=o_
    by_cases h1:xi=1
    ·by_cases h2:xg=g
     ·have ai:R=.tuple #[.pointer (some ⟨b,k*3,none⟩),Xi 0]:=by rw[<-hR,ad,if_pos ⟨h1,h2⟩];rfl
      subst h1 h2;exact qTaaf
     ·have ai:R=.tuple #[.pointer none,Xi 7]:=by rw[<-hR,ad,if_neg (fun hh=>h2 hh.2)]
      have ar:((xg:Int) !=g)=true:=m_
      subst h1;have HG:=kq2 an ai;clear an ai hR ad hq hg hL h0 h2;go_enter func164,ntmps164;exact qTaaa
    ·have ai:R=.tuple #[.pointer none,Xi 7]:=by rw[<-hR,ad,if_neg (fun hh=>h1 hh.1)]
     have ar:((xi:Int) !=1)=true:=m_
     have HG:=kq2 an ai;clear an ai hR ad hq hg hL h0 h1;go_enter func164,ntmps164;exact qTaaa
   ·rw[aY o_] at ad;have ai:R=.tuple #[.pointer none,Xi 7]:=by rw[<-hR,ad]
    clear ap h;generalize hL:t.p_.length=L at*;subst hv;have a2:(L:Int)<=k:=o_
    exact qTaaf
theorem Hs.of_lt{t:Hs}{h k:Nat}(hk:t.of h=some k):∃hlt:k<t.p_.length,t.p_[k].is=1/\t.p_[k].gen=h / 4294967296/\k+1=h % 4294967296:=by
 unfold Hs.of at hk;simp only at hk
 split at hk
 ·cases hk
 ·rename_i h0
  split at hk
  ·cases hk
  ·rename_i x hx
   split at hk
   ·rename_i hc
    injection hk with hk
    obtain⟨hlt,ad⟩:=aC.1 hx;subst hk;refine⟨hlt,?_,?_,o_⟩
    ·rw[ad];exact hc.1
    ·rw[ad];exact hc.2
   ·cases hk
theorem sQ{t:Hs}{h k:Nat}(hk:t.of h=some k)(hlt:k<t.p_.length):t.at h=(t.p_[k].t_,0):=by
 unfold Hs.at;rw[hk];simp only;rw[ay,af hlt];rfl
theorem qTaad{P:Prop}(h:P:=by
 go_enter func128,ntmps128;go_wp2_with fail;refine Jc HO.O ?_;go_wp2_with fail;go_ret2;exact⟨rfl,rfl⟩):P:=h
theorem EH{t:Hs}(h:eI w pt t v)(hh:Nat)(hl:hh<2^64):
 Ct 128 #[PV pt,Xu hh] w fun e w'=>e=.returned (.tuple #[Xi ((t.at hh).1:Nat),Xi ((t.at hh).2:Nat)])/\w=w':=by
 have ho:=Is h hh hl
 cases hk:t.of hh with
 | none=>
  have he:t.at hh=(0,7):=by unfold Hs.at;rw[hk]
  rw[hk] at ho;rw[he];have HO:=If ho;clear ho he hk h;exact qTaad
 | some k=>
  obtain⟨hlt,_⟩:=Hs.of_lt hk;have he:=sQ hk hlt;rw[hk] at ho;rw[he]
  rcases h.cells with⟨h0,_⟩ | ⟨b,ai,hv,ad⟩
  ·rw[h0] at hlt
   simp at hlt
  ·have k2:=(ad k hlt).2.2;generalize t.p_[k]=x at*;rw[hv] at ho;simp only[oU] at ho;have HO:=If ho;clear ho he hk ad h hv;exact qTaad
theorem EK(n l:Nat)(w:World)(hn:1<=n/\n<=65536)(hl:1<=l/\l<4294967296):
 Ct 45 #[Xi n,.int .u32 l] w fun e w'=>e=.returned (.tuple #[PV w.1.size,Xi 0])/\eI w' w.1.size ⟨n,l,[]⟩ n_/\D_ w w':=by
 obtain⟨h1,h2⟩:=hn;obtain⟨h3,h4⟩:=hl;have ht:eI (w.alloc (.cells #[Xi n,.int .u32 l,n_] 158)) w.1.size ⟨n,l,[]⟩ n_:=by
  refine⟨⟨⟨h1,h2⟩,⟨h3,h4⟩,cC _,fun x hx=>absurd hx s_⟩,?_,World.ownsRow_nil _ _ _ _⟩
  show (w.1.push _)[w.1.size]?=_
  simp
 have HT:=If ht;clear ht;go_enter func45,ntmps45
 go_wp2
 go_ret2;exact⟨rfl,HT.O,(aa _ _).alloc Ih _⟩
theorem EJ{t:Hs}(h:eI w pt t v)(k:Nat)(hk:k<t.p_.length):
 Ct 112 #[PV pt,Xi k] w fun e w'=>e=.returned (Xu (gj t.p_[k].gen k:Nat))/\w=w':=by
 have c2:w.cell? (x_ pt 2)=some v:=e_ h.hd
 have au:=h.wf.len;have a0:=h.wf.most
 rcases h.cells with⟨h0,_⟩ | ⟨b,ap,hv,ad⟩
 ·rw[h0] at hk
  simp at hk
 ·have k1:=(ad k hk).2.1;have hg:=(h.wf.slot _ (ao hk)).2.1;clear ad;generalize t.p_[k].gen=g at*;clear h;generalize hL:t.p_.length=L at*;subst hv;have ar:(k:Int)<L:=o_
  have ai:bits BinOp.or IntKind.u64 ((g:Int)*4294967296) ((k:Int)+1)=((gj g k:Nat):Int):=by
   rw[show ((g:Int)*4294967296)=((g*4294967296:Nat):Int) by simp,show ((k:Int)+1)=((k+1:Nat):Int) by simp,bits_or_u64_nat _ _ o_ o_]
   congr 1
   have h8:=cV (i:=32) (b:=k+1) o_ g;rw[Nat.shiftLeft_eq] at h8;exact h8.S
  have an:=If ai;clear ai hL;go_enter func112,ntmps112
  go_wp2
  go_ret;rw[<-an.O];exact⟨rfl,rfl⟩
theorem qC:∀(l:List mj) (k0 k:Nat),k<=l.length->(∀j (h:j<l.length),j<k->l[j].is≠0)->(k=l.length\/∃h:k<l.length,l[k].is=0)->gH l k0=k0+k
 | [],k0,k,hk,_,_=>by
  have:k=0:=by grind
  subst this;rfl
 | x::r,k0,k,hk,h1,h2=>by
  unfold gH;cases k with
  | zero=>
   rcases h2 with h2 | ⟨h,h2⟩
   ·grind
   ·grind
  | succ k=>
   have hx:=h1 0 s_ o_;rw[if_neg (by grind),qC r (k0+1) k (by grind) (fun j h hj=>by grind) (by
    grind)]
   omega
theorem wT:∀(l:List mj) (k:Nat) (x:mj),k<l.length->(((fp l).set (k*3) (Xi x.is)).set (k*3+1) (.int .u32 x.gen)).set (k*3+2) (Xi x.t_)=fp (l.set k x)
 | [],k,_,h=>by simp at h
 | y::r,0,x,_=>rfl
 | y::r,k+1,x,h=>by
  have ih:=wT r k x (by simpa using h);have e:fp (y::r)=(Xi y.is)::(.int .u32 y.gen)::(Xi y.t_)::fp r:=rfl;have e2:fp ((y::r).set (k+1) x)=(Xi y.is)::(.int .u32 y.gen)::(Xi y.t_)::fp (r.set k x):=rfl;rw[e,e2,<-ih,show (k+1)*3=k*3+1+1+1 by omega,show k*3+1+1+1+1=k*3+1+1+1+1 from rfl,show k*3+1+1+1+2=k*3+2+1+1+1 by omega];simp only[List.set_cons_succ]
theorem Er(l m:List mj):fp (l++m)=fp l++fp m:=by unfold fp;grind
def jz(w:World)(g k:Nat)(x:mj):World:=((w.setCell ⟨g,k*3,none⟩ (Xi x.is)).setCell ⟨g,k*3+1,none⟩ (.int .u32 x.gen)).setCell ⟨g,k*3+2,none⟩ (Xi x.t_)
theorem wB{g k b:Nat}{x:mj}(h:b≠g):(jz w g k x).1[b]?=w.1[b]?:=by
 grind [jz,FB]
theorem DH(w:World)(g k:Nat)(x:mj):(jz w g k x).1.size=w.1.size:=by unfold jz;simp_all
theorem Do{g cap k:Nat}{l:List mj}(h:w.ownsRow 0 197 3 (.slice (some (y_ g)) l.length cap) l.length (fp l))(x:mj)(hk:k<l.length):
 (jz w g k x).ownsRow 0 197 3 (.slice (some (y_ g)) l.length cap) l.length (fp (l.set k x)):=by
 rcases h.2 with⟨h0,_⟩ | ⟨g',ai,ad,hv,hg,hb,h1,h2,h3,h4⟩
 ·omega
 ·injection hv with hv1 hv2 hv3
  injection hv1 with hv1
  injection hv1 with hv1
  subst hv1 hv3;refine⟨by rw[oV,bA],ae ⟨g,cap,((ad.setIfInBounds (k*3) (Xi x.is)).setIfInBounds (k*3+1) (.int .u32 x.gen)).setIfInBounds (k*3+2) (Xi x.t_),rfl,hg,?_,h1,h2,by grind,?_⟩⟩
  ·grind [jz,heap_setCell]
  ·have an:ad.toList=fp l++ad.toList.drop (l.length*3):=by rw[<-h4,aU]
   grind [oV,Array.toList_setIfInBounds,List.set_append_left,List.take_left',wT]
theorem Eq:(prog.info? 197).map (fun i=>(i.zero,i.size,i.bytes))=some (some (.agg #[Xi 0,.int .u32 0,Xi 0]),3,24):=k_
theorem eI.form{t:Hs}(h:eI w pt t v):
 ∃A ad,v=.slice A t.p_.length ad/\∀(k:Nat) (hk:k<t.p_.length),∃g,A=some (y_ g)/\
  (w.cell? ⟨g,k*3,none⟩=some (Xi t.p_[k].is)/\w.cell? ⟨g,k*3+1,none⟩=some (.int .u32 t.p_[k].gen)/\w.cell? ⟨g,k*3+2,none⟩=some (Xi t.p_[k].t_))/\
  (w.frozen? ⟨g,k*3,none⟩=false/\w.frozen? ⟨g,k*3+1,none⟩=false/\w.frozen? ⟨g,k*3+2,none⟩=false)/\g≠pt:=by
 rcases h.row.2 with⟨h0,hx⟩ | ⟨g,ad,ai,hv,_,hb,h1,_,h3,h4⟩
 ·grind
 ·refine⟨_,ad,hv,fun k hk=>⟨g,rfl,?_,⟨AT hb,AT hb,AT hb⟩,fun e=>?_⟩⟩
  ·have key:∀j,j<3->w.cell? ⟨g,k*3+j,none⟩=(ko t.p_[k])[j]?:=fun j hj=>by
    rw[q_ hb,<-wS t.p_ k j hk hj,<-h4,cP o_,bM]
   exact⟨key 0 d_,key 1 d_,key 2 d_⟩
  ·have:=h.hd;grind
theorem eI.set{t:Hs}{g cap k:Nat}(h:eI w pt t (.slice (some (y_ g)) t.p_.length cap))(x:mj)(hk:k<t.p_.length)(hx:x.is<=2/\x.gen<4294967296/\x.t_<=4611686018427387903)(hg:g≠pt):
 eI (jz w g k x) pt { t with p_:=t.p_.set k x } (.slice (some (y_ g)) t.p_.length cap) where
 wf:=⟨h.wf.most,h.wf.last,by simpa using h.wf.len,fun y hy=>by
  rcases df hy with hy | rfl
  ·exact h.wf.slot y hy
  omega⟩
 hd:=by rw[wB (Ne.S hg)];exact h.hd
 row:=by
  have:=Do h.row x hk;grind
theorem eI.opened{t:Hs}{g cap k:Nat}(h:eI w pt t (.slice (some (y_ g)) t.p_.length cap))(q is gen a:Nat)(hk:k<t.p_.length)(hx:is<=2/\gen<4294967296/\a<=4611686018427387903)(hg:g≠pt)(Y:Nat->Prop)(hy:∀b,Y b->b≠g):
 eI (jz (w.drewN q) g k ⟨is,gen,a⟩) pt { t with p_:=t.p_.set k ⟨is,gen,a⟩ } (.slice (some (y_ g)) t.p_.length cap)/\Fo Y w (jz (w.drewN q) g k ⟨is,gen,a⟩):=
 have hd:eI (w.drewN q) pt t (.slice (some (y_ g)) t.p_.length cap):=⟨h.wf,h.hd,h.row⟩
 ⟨hd.set ⟨is,gen,a⟩ hk hx hg,rfl,rfl,rfl,Nat.le_of_eq (DH (w.drewN q) g k ⟨is,gen,a⟩).S,fun b hb=>wB (w:=w.drewN q) (hy b hb)⟩
theorem eI.named{t:Hs}{k is gen a:Nat}(h:eI w pt { t with p_:=t.p_.set k ⟨is,gen,a⟩ } v)(hk:k<t.p_.length):
 Ct 112 #[PV pt,Xi k] w fun e w'=>e=.returned (Xu (gj gen k:Nat))/\w=w':=by
 have:=EJ h k (by grind);simpa using this
theorem Es(l:List mj):fp l++[Xi 0,.int .u32 0,Xi 0]=fp (l++[⟨0,0,0⟩]):=by rw[Er];rfl
theorem eI.head_ne{t:Hs}(h:eI w pt t v):v.ownBlock≠some pt:=by
 rcases h.row.2 with⟨rfl,_⟩ | ⟨g,ad,ai,rfl,_,hb,_⟩
 ·simp[Value.ownBlock]
 ·simp only[Value.ownBlock,ne_eq,Option.some.injEq];intro e;have:=h.hd
  grind
theorem eI.pt_lt{t:Hs}(h:eI w pt t v):pt<w.1.size:=(gl h.hd)
theorem eI.grew{w w1:World}{t:Hs}{v v':Value}(h:eI w pt t v)(o:Obj)(hm:t.p_.length<t.most)(hown:w1.ownsRow 0 197 3 v' (t.p_.length+1) (fp t.p_++[Xi 0,.int .u32 0,Xi 0]))
 (hgrow:(w.alloc o).grownBy w1 v.ownBlock) (hat:v'.ownBlock=v.ownBlock\/v'.ownBlock=some (w.1.size+1)) (Y:Nat->Prop) (hy:∀b,Y b->b<w.1.size/\b≠pt/\some b≠v.ownBlock):
 w1.1[pt]?=w.1[pt]?/\eI (w1.setCell (x_ pt 2) v') pt { t with p_:=t.p_++[⟨0,0,0⟩] } v'/\Fo Y w (w1.setCell (x_ pt 2) v')/\(∀b,Y b->some b≠v'.ownBlock):=by
 have hlt:=h.pt_lt;have ad:w1.1[pt]?=w.1[pt]?:=by
  rw[hgrow.block pt m_ (fun e=>h.head_ne e.S),heap_alloc_old w o hlt]
 have ap:v'.ownBlock≠some pt:=by
  rcases hat with e | e
  ·rw[e];exact h.head_ne
  ·rw[e];simp;omega
 refine⟨ad,⟨⟨h.wf.most,h.wf.last,m_,fun x hx=>?_⟩,?_,?_⟩,⟨hgrow.os,hgrow.tape,hgrow.output,?_,fun b hb=>?_⟩,fun b hb e=>?_⟩
 ·rcases aq.1 hx with hx | hx
  ·exact h.wf.slot x hx
  ·obtain rfl:=aE.1 hx;simp
 ·exact heap_setCell (ad.T h.hd)
 ·rw[Es] at hown;simp only[ag,aj,aL,bz];refine⟨hown.1,?_⟩;rcases hown.2 with hn | ⟨g,ai,an,rfl,hb,hg,ar⟩
  ·exact ab hn
  ·refine ae ⟨g,ai,an,rfl,hb,?_,ar⟩;rw[FB (fun e=>ap (by rw[<-show g=pt from e];rfl))];exact hg
 ·have:=hgrow.size;rw[size_setCell];simp at this
  omega
 ·obtain⟨h1,h2,h3⟩:=hy b hb;rw[FB h2,hgrow.block b m_ h3,heap_alloc_old w o h1]
 grind
theorem EL{t:Hs}(h:eI w pt t v)(a:Nat)(ha:a<=4611686018427387903)(Y:Nat->Prop)(hy:∀b,Y b->b<w.1.size/\b≠pt/\some b≠v.ownBlock):
 Ct 65 #[PV pt,Xi a] w fun e w'=>e=.returned (.tuple #[Xu ((t.open a).1.1:Nat),Xi ((t.open a).1.2:Nat)])/\(∃v',eI w' pt (t.open a).2 v'/\∀b,Y b->some b≠v'.ownBlock)/\Fo Y w w':=by
 have c0:w.cell? (y_ pt)=some (Xi t.most):=e_ h.hd
 have c2:w.cell? (x_ pt 2)=some v:=e_ h.hd
 have f2:w.frozen? (x_ pt 2)=false:=AT h.hd;obtain⟨A,a4,hv,a6⟩:=h.form;have a2:=h.wf.len;have a':=h.wf.most;obtain⟨R,hR⟩:=Ii (t.open a);rw[hR];have a5:R=if gH t.p_ 0=t.most then((0,10),t) else((gj ((t.genAt (gH t.p_ 0)+1) % 4294967296) (gH t.p_ 0),0),{ t with p_:=(if gH t.p_ 0=t.p_.length then t.p_++[⟨0,0,0⟩] else t.p_).set (gH t.p_ 0) ⟨1,(t.genAt (gH t.p_ 0)+1) % 4294967296,a⟩ }):=by rw[<-hR];rfl
 subst hv;obtain⟨L,hL⟩:=Ii t.p_.length;obtain⟨M,hM⟩:=Ii t.most;rw[hL] at c2 a2;rw[hM] at c0 a2 a';have HG:=kq7 (xz h) a5 h a6 hL hM hy;go_enter func65,ntmps65;go_wp2_with fail;refine Jc HG.a ?_;go_wp2_with fail
 go_loop [6] (fun i=>∃k:Nat,k<=L/\i=Xi k/\Hid (∀j (h:j<t.p_.length),j<k->t.p_[j].is≠0)) (fun i=>L-(intOf i).toNat)
 case atStart=>exact⟨0,o_,rfl,fun j _ hj=>absurd hj o_⟩
 case round=>
  obtain⟨k,hk,rfl,ap⟩:=hrel
  by_cases hlt:k<L
  ·obtain⟨g,hA,⟨k0,k1,k2⟩,⟨f0,f1,f3⟩,an⟩:=HG.d k (by rw[HG.e];omega);subst hA;have bm:(k:Int)<L:=o_
   by_cases hz:(t.p_[k]'(by grind)).is=0
   ·rw[hz] at k0;have ad:gH t.p_ 0=0+k:=qC t.p_ 0 k (by grind) ap.O (ae ⟨by grind,hz⟩);rw[bz] at ad;have a9:((k:Int)==M)=false:=by grind
    have bk:((k:Int)==L)=false:=by grind
    have a3:=HG.c.wf.slot _ (ao (show k<t.p_.length by rw[HG.e];exact hlt));have a1:t.genAt k=(t.p_[k]'(by grind)).gen:=by
     grind [Hs.genAt,List.getElem?_eq_getElem]
    obtain⟨gn,a8⟩:=Ii (t.p_[k]'(by grind)).gen;rw[a8] at k1 a1 a3;have HF:=kq3 ad a1 a3;go_wp2_with fail;refine lD (C:=fun w'=>∃q:Nat,w'=(w).drewN q) 17 k_ k_ ⟨1,rfl⟩ ?_;simp only[ci,bW,bZ,c8]
    repeat (first | go_big_quiet_skip | (go_big_quiet_want;go_big_quiet_op;first | go_big_quiet_on))
    refine wpQuiet_nil ?_;rintro _ ⟨q,rfl⟩;go_wp2_with fail;have HP:=If (HG.c.opened q 1 ((gn+1) % 4294967296) a (by rw[HG.e];exact hlt) ⟨o_,Nat.mod_lt _ d_,ha⟩ an Y (fun b hb e=>(HG.g b hb).2.2 (by rw[e];rfl)));have HN:=HP.O.1.named (by grind);rw[show jz (w.drewN q) g k ⟨1,(gn+1) % 4294967296,a⟩=(((w.drewN q).setCell ⟨g,k*3,none⟩ (Xi 1)).setCell ⟨g,k*3+1,none⟩ (.int .u32 (((gn:Int)+1) % 4294967296))).setCell ⟨g,k*3+2,none⟩ (Xi a) from rfl] at HN;refine Jc HN ?_;go_wp2_with fail;go_ret2;obtain rfl:R=((gj ((gn+1) % 4294967296) k,0),{ t with p_:=t.p_.set k ⟨1,(gn+1) % 4294967296,a⟩ }):=by
     rw[HG.b,HF.a,if_neg (by rw[HG.f];omega),HF.b,if_neg (by grind)]
    exact⟨rfl,⟨_,HP.O.1,fun b hb=>(HG.g b hb).2.2⟩,HP.O.2⟩
   ·obtain⟨z,bj⟩:=Ii (t.p_[k]'(by grind)).is;have hj:∀j (h:j<t.p_.length),j<k+1->t.p_[j].is≠0:=fun j hjl ar=>by
     rcases Nat.lt_succ_iff_lt_or_eq.1 ar with ar | rfl
     ·exact ap.O j hjl ar
     omega
    have hj:=If hj;rw[bj] at k0 hz;have bo:((z:Int)==0)=false:=by grind
    go_wp2_with fail;go_round
    case rel=>exact⟨k+1,o_,s_,hj⟩
    case measure=>simp[intOf];omega
  ·obtain rfl:k=L:=o_
   have ad:gH t.p_ 0=0+k:=qC t.p_ 0 k (by rw[HG.e];omega) ap.O (ab HG.e.S);rw[bz] at ad;have HF:=If ad
   by_cases hM:k=M
   ·subst hM;go_wp2_with fail;go_ret2;obtain rfl:R=((0,10),t):=by rw[HG.b,HF.O,if_pos HG.f.S]
    exact⟨rfl,⟨_,HG.c,fun b hb=>(HG.g b hb).2.2⟩,Fo.refl _ _⟩
   ·have a9:((k:Int)==M)=false:=by grind
    have HR:=If HG.c.row;rw[HG.e] at HR;obtain⟨i0,hi,bc,bd,bf⟩:=info_parts Eq
    go_wp2_with (at_builtin;refine wpList_append_own_at _ rfl _ _ 156 rfl 0 197 i0 (.agg #[Xi 0,.int .u32 0,Xi 0]) 3 24 underlying156 hi bc bd bf rfl d_ _ _ _ rfl (HR.O.alloc _) (y_ w.1.size) 1 1 [Xi 0,.int .u32 0,Xi 0] rfl rfl ?c1 ?c2 ?c3 ?c4 ?c5 ?_)
    case c2=>simp[Value.oneCell']
    case c3=>unfold maxLen;omega
    case c4=>omega
    intro v' w1 hown1 hgrow1 _ hat;have HQ:=If (HG.c.grew _ (by rw[HG.e,HG.f];omega) (by rw[HG.e];exact hown1) (by rw[HG.e];exact hgrow1) (by rw[HG.e];omega) Y HG.g);have d2:w1.cell? (x_ pt 2)=some (.slice A k a4):=(World.cell?_of_block HQ.O.1).T c2;have g2:w1.frozen? (x_ pt 2)=false:=(World.frozen?_of_block HQ.O.1).T f2;obtain⟨l2,au⟩:=Ii (t.p_++[(⟨0,0,0⟩:mj)]);have ai:l2.length=k+1:=by rw[<-au];simp[HG.e]
    have bb:l2[k]' o_=⟨0,0,0⟩:=by
     grind
    rw[au] at HQ;obtain⟨A',a0,ba,a7⟩:=HQ.O.2.1.form;obtain⟨g,hA,⟨k0,k1,k2⟩,⟨f0,f1,f3⟩,an⟩:=a7 k (by grind);subst ba hA;simp only[bb] at k0 k1 k2;simp only[ai] at k0 k1 k2 f0 f1 f3;have c3:(w1.setCell (x_ pt 2) (.slice (some (y_ g)) l2.length a0)).cell? (x_ pt 2)=some (.slice (some (y_ g)) (k+1) a0):=by
     rw[q_ HQ.O.2.1.hd,<-ai]
     rfl
    rw[ai] at c3;have HL:=kq2 ai au;simp only[ai];go_wp2_with fail
    go_name_world W HW
    rw[HL.a] at HQ;rw[HW] at c3 k0 k1 k2 f0 f1 f3 HQ;refine lD (C:=fun w'=>∃q:Nat,w'=(W).drewN q) 17 k_ k_ ⟨1,rfl⟩ ?_;simp only[ci,bW,bZ,c8]
    repeat (first | go_big_quiet_skip | (go_big_quiet_want;go_big_quiet_op;first | go_big_quiet_on))
    refine wpQuiet_nil ?_;rintro _ ⟨q,rfl⟩;go_wp2_with fail;have h2:=HQ.O.2.1;rw[<-HL.a] at h2;have HP:=If (h2.opened q 1 1 a (by show k<l2.length;rw[HL.a];omega) ⟨o_,o_,ha⟩ an Y (fun b hb e=>HQ.O.2.2.2 b hb (by rw[e];rfl)));have HN:=HP.O.1.named (t:=⟨t.most,t.last,l2⟩) (by show k<l2.length;rw[HL.a];omega);rw[show jz (W.drewN q) g k ⟨1,1,a⟩=(((W.drewN q).setCell ⟨g,k*3,none⟩ (Xi 1)).setCell ⟨g,k*3+1,none⟩ (.int .u32 1)).setCell ⟨g,k*3+2,none⟩ (Xi a) from rfl] at HN;refine Jc HN ?_;go_wp2_with fail;go_ret2;obtain rfl:R=((gj 1 k,0),{ t with p_:=l2.set k ⟨1,1,a⟩ }):=by
     have:t.genAt k=0:=by
      unfold Hs.genAt;rw[ay,aY (by rw[HG.e];exact Nat.le_refl _)]
      rfl
     grind
    exact⟨rfl,⟨_,HP.O.1,fun b hb=>by have:=HQ.O.2.2.2 b hb;rwa[<-HL.a] at this⟩,HQ.O.2.2.1.T HP.O.2⟩
theorem wU:∀(l:List mj) (k i:Nat) (h:k<l.length),(fp l).set (k*3) (Xi i)=fp (l.set k { l[k] with is:=i })
 | [],k,_,h=>by simp at h
 | y::r,0,i,_=>rfl
 | y::r,k+1,i,h=>by
  have ih:=wU r k i (by simpa using h);have e:fp (y::r)=(Xi y.is)::(.int .u32 y.gen)::(Xi y.t_)::fp r:=rfl;have e2:fp ((y::r).set (k+1) { (y::r)[k+1] with is:=i })=(Xi y.is)::(.int .u32 y.gen)::(Xi y.t_)::fp (r.set k { (y::r)[k+1] with is:=i }):=rfl;rw[e,e2,show (k+1)*3=k*3+1+1+1 by omega];simp only[List.set_cons_succ,List.getElem_cons_succ] at ih⊢;rw[ih]
theorem eI.mark{t:Hs}{g cap k:Nat}(h:eI w pt t (.slice (some (y_ g)) t.p_.length cap))(i:Nat)(hk:k<t.p_.length)(hi:i<=2)(hg:g≠pt):
 eI (w.setCell ⟨g,k*3,none⟩ (Xi i)) pt { t with p_:=t.p_.set k { t.p_[k] with is:=i } } (.slice (some (y_ g)) t.p_.length cap) where
 wf:=⟨h.wf.most,h.wf.last,by simpa using h.wf.len,fun y hy=>by
  rcases df hy with hy | rfl
  ·exact h.wf.slot y hy
  ·have:=h.wf.slot _ (ao hk);exact⟨hi,this.2⟩⟩
 hd:=by rw[FB (Ne.S hg)];exact h.hd
 row:=by
  refine⟨by rw[oV],?_⟩;rcases h.row.2 with⟨h0,_⟩ | ⟨g',an,ad,hv,ai,hb,h1,h2,h3,h4⟩
  ·cases h0
  ·injection hv with hv1 hv2 hv3
   injection hv1 with hv1
   injection hv1 with hv1
   subst hv1 hv3;refine ae ⟨g,cap,ad.setIfInBounds (k*3) (Xi i),?_,ai,heap_setCell hb,by simpa using h1,h2,by simpa using h3,?_⟩
   ·simp
   ·have hl:=oV t.p_;simp only[cZ,bA];rw[show ad.toList=fp t.p_++ad.toList.drop (t.p_.length*3) by rw[<-h4,aU],List.set_append_left _ _ o_,List.take_left' m_,wU t.p_ k i hk]
theorem Fo.mark{Y:Nat->Prop}{g k:Nat}(hy:∀b,Y b->b≠g):Fo Y w (w.setCell (x_ g k) v):=
 ⟨rfl,rfl,rfl,Nat.le_of_eq (size_setCell w _ _).S,fun b hb=>FB (hy b hb)⟩
theorem Hs.close_some{t:Hs}{h k:Nat}(hk:t.of h=some k)(hlt:k<t.p_.length):t.close h=(0,{ t with p_:=t.p_.set k { t.p_[k] with is:=if t.p_[k].gen=t.last then 2 else 0 } }):=by
 unfold Hs.close;rw[hk];simp only[ay,af hlt,Option.getD_some]
theorem EI{t:Hs}(h:eI w pt t v)(hh:Nat)(hl:hh<2^64)(Y:Nat->Prop)(hy:∀b,Y b->some b≠v.ownBlock):
 Ct 124 #[PV pt,Xu hh] w fun e w'=>e=.returned (Xi ((t.close hh).1:Nat))/\eI w' pt (t.close hh).2 v/\Fo Y w w':=by
 have ho:=Is h hh hl
 cases hk:t.of hh with
 | none=>
  have he:t.close hh=(7,t):=by unfold Hs.close;rw[hk]
  rw[hk] at ho;rw[he];have HO:=kq2 ho h;clear ho he hk h hy;go_enter func124,ntmps124;go_wp2_with fail;refine Jc HO.a ?_;go_wp2_with fail;go_ret;exact⟨rfl,HO.b,Fo.refl _ _⟩
 | some k=>
  obtain⟨hlt,_⟩:=Hs.of_lt hk;have he:=Hs.close_some hk hlt;rw[hk] at ho;rw[he];obtain⟨A,cap,hv,an⟩:=h.form;obtain⟨g,hA,⟨k0,k1,k2⟩,⟨f0,f1,f3⟩,ar⟩:=an k hlt;subst hv hA;simp only[oU] at ho;have c1:w.cell? (x_ pt 1)=some (.int .u32 t.last):=e_ h.hd
  have hm:=fun i hi=>h.mark (k:=k) i hlt hi ar;have ap:=(h.wf.slot _ (ao hlt)).2.1;have a0:=h.wf.last;obtain⟨x,hx⟩:=Ii t.p_[k];rw[hx] at k0 k1 k2 ap hm⊢;obtain⟨xi,xg,xa⟩:=x;simp only at k0 k1 k2 ap hm⊢;obtain⟨la,ai⟩:=Ii t.last;rw[ai] at c1 a0⊢;have a2:∀b,Y b->b≠g:=fun b hb e=>hy b hb (by rw[e];rfl);have HO:=kq5 ho hm hlt ai a2;clear ho he hk an h hy hm hx ai
  by_cases hgl2:xg=la
  ·rw[if_pos hgl2];have au:((xg:Int)==la)=true:=m_
   go_enter func124,ntmps124;go_wp2_with fail;refine Jc HO.a ?_;go_wp2_with fail
   go_quiet (fail)
   go_wp2_with fail;go_ret;have ad:eI ((w.setCell ⟨g,k*3,none⟩ (Xi 0)).drewN nq) pt { t with p_:=t.p_.set k ⟨0,xg,xa⟩ } (.slice (some (y_ g)) t.p_.length cap):=by
    have:=HO.b 0 o_;exact⟨this.wf,this.hd,this.row⟩
   have a1:=eI.mark (t:= { t with p_:=t.p_.set k ⟨0,xg,xa⟩ }) (g:=g) (cap:=cap) (k:=k) (by simpa using ad) 2 (by simpa using HO.c) o_ ar;refine⟨rfl,?_,((Fo.mark HO.e).T (Fo.drewN _ _ nq)).T (Fo.mark HO.e)⟩;rw[<-HO.d]
   simpa using a1
  ·rw[if_neg hgl2];have au:((xg:Int)==la)=false:=m_
   go_enter func124,ntmps124;go_wp2_with fail;refine Jc HO.a ?_;go_wp2_with fail
   go_quiet (fail)
   go_wp2_with fail;go_ret;have ad:eI ((w.setCell ⟨g,k*3,none⟩ (Xi 0)).drewN nq) pt { t with p_:=t.p_.set k ⟨0,xg,xa⟩ } (.slice (some (y_ g)) t.p_.length cap):=by
    have:=HO.b 0 o_;exact⟨this.wf,this.hd,this.row⟩
   rw[HO.d] at ad;exact⟨rfl,ad,(Fo.mark HO.e).T (Fo.drewN _ _ nq)⟩
end
section
open Go.RowKit Tryz Go.BigFrame Go.Maps Go.WideMaps Lf
open Go.Shelf
variable{Y:Nat->Prop}{Z:Nat->Prop}{n:Nat}{s:r_}{w:World}
attribute [local go_sem] Oper.semAt_some
structure fe (n:Nat) (Z:Nat->Prop) (W W':World):Prop where
 size:W.1.size<=W'.1.size
 block:∀(k:Nat) (o:Obj),¬Z k->W.1[k]?=some o->(k<n\/o.isCells=true)->W'.1[k]?=some o
theorem lf{A B:World}(h:D_ A B):A.grownBy B none:=⟨h.os,h.tape,h.output,h.size,fun k hk _=>h.block k hk⟩
theorem fe.refl(n:Nat)(Z:Nat->Prop)(W:World):fe n Z W W:=⟨Nat.le_refl _,fun _ _ _ h _=>h⟩
theorem fe.T{A B C:World}(h:fe n Z A B)(k:fe n Z B C):fe n Z A C:=
 ⟨aH h.size k.size,fun i o hz ho hc=>k.block i o hz (h.block i o hz ho hc) hc⟩
theorem fe.v_{A B:World}(h:D_ A B):fe n Z A B:=
 ⟨h.size,fun i _ _ ho _=>(h.block i (gl ho)).T ho⟩
theorem fe.put(W:World)(l:Nat)(o o':Obj)(hl:n<=l)(ho:W.1[l]?=some o)(hc:o.isCells=false)(_:o.isWalk=false):fe n Z W (W.putObj l o'):=
 ⟨s_,fun k o1 _ h1 h2=>by
  by_cases e:k=l
  ·subst e;rw[ho] at h1;injection h1 with h1
   subst h1;rcases h2 with h2 | h2
   ·omega
   ·rw[hc] at h2;cases h2
  ·exact(World.putObj_heap_other e).T h1⟩
theorem fe.cell{W W':World}(h:fe n Z W W'){a:Addr}{v:Value}(hz:¬Z a.block)(hc:W.cell? a=some v):W'.cell? a=some v:=by
 have:∃cs t fr,W.1[a.block]?=some (.cells cs t fr):=by
  unfold World.cell? at hc
  split at hc
  ·rename_i c t fr heq;exact⟨_,_,_,heq⟩
  ·cases hc
 obtain⟨cs,t,fr,hb⟩:=this;rw[<-hc];exact World.cell?_of_block ((h.block a.block _ hz hb (ae rfl)).T hb.S)
theorem Fz.kp{w w':World}{ph pa pm n:Nat}{Y Z:Nat->Prop}(h:Fz w ph pa pm s Y)(hk:fe n Z w w')(hn:pm<n)(hz:∀k,Z k->Y k/\k≠ph/\k≠fy):Fz w' ph pa pm s Y:=by
 obtain⟨ad,hs⟩:=h.slab;have c1:∀{k:Nat} {cs:Array Value} {t:TypeId} {fr:Nat×Nat},¬Z k->w.1[k]?=some (.cells cs t fr)->w'.1[k]?=some (.cells cs t fr):=fun hz hb=>hk.block _ _ hz hb (ae rfl);refine⟨⟨ad,hs.wf,c1 (fun hh=>hs.ya (hz _ hh).1) hs.hd,?_,fun x hx=>c1 (fun hh=>hs.yp _ (jP.2 ⟨_,hx⟩) (hz _ hh).1) (hs.pg x hx),hs.inj,hs.ya,hs.ym,hs.yp,fun k hkk=>aB (hs.yl k hkk) hk.size⟩,c1 (fun hh=>(hz _ hh).2.1 rfl) h.hp,h.yh,?_,h.yt⟩
 ·obtain⟨es,ck,hm⟩:=hs.map_block;exact rN hs.map ((hk.block pm _ (fun hh=>hs.ym (hz _ hh).1) hm (ab hn)).T hm.S)
 ·intro j hj;exact hk.cell (a:=x_ fy j) (fun hh=>(hz _ hh).2.2 rfl) (h.tab j hj)
theorem Fz.pm_lt{ph pa pm:Nat}(h:Fz w ph pa pm s Y):pm<w.1.size:=by
 obtain⟨ad,hs⟩:=h.slab;exact hs.map.lt
def fl(s:r_):Nat->List (Nat×Hr)×Nat
 | 0=>([],0)
 | k+1=>
  if s.j_.getD k 0<(fl s k).2 then fl s k
  else((fl s k).1++[(s.j_.getD k 0,FA s (s.j_.getD k 0))],if(FA s (s.j_.getD k 0)).l_=2 then s.j_.getD k 0+(FA s (s.j_.getD k 0)).n else(fl s k).2)
theorem qP(s:r_)(p:Nat):∀(l:List Nat) (nx:Nat),gC s nx (l++[p])=gC s nx l++gC s (l.foldl (fun nx q=>if q<nx then nx else if(FA s q).l_=2 then q+(FA s q).n else nx) nx) [p]
 | [],nx=>by show gC s nx [p]=[]++gC s nx [p];rw[aX]
 | q::l,nx=>by
  simp only[aJ,gC,List.foldl_cons];by_cases h:q<nx
  ·simp only[h,if_true];exact qP s p l nx
  ·simp only[h,if_false,aJ];rw[qP s p l];rfl
theorem uE(s:r_):∀k,k<=s.j_.length->fl s k=(gC s 0 (s.j_.take k),(s.j_.take k).foldl (fun nx q=>if q<nx then nx else if(FA s q).l_=2 then q+(FA s q).n else nx) 0)
 | 0,_=>by simp[fl,gC]
 | k+1,h=>by
  have hk:s.j_.getD k 0=s.j_[k]:=by rw[ay,af o_];rfl
  rw[aw o_,qP,List.foldl_append];unfold fl;rw[(uE s k o_),hk];simp only[List.foldl_cons,List.foldl_nil,gC];split
  ·simp
  ·rfl
theorem qN(s:r_):(fl s s.j_.length).1=heads s:=by
 rw[uE s _ Ih,cB];rfl
theorem uF(s:r_):∀k,(fl s k).1.length<=k
 | 0=>Nat.le_refl _
 | k+1=>by
  have:=uF s k;unfold fl;split
  ·omega
  ·simp;omega
theorem qO(s:r_)(k:Nat):∀d,(fl s k).1<+:(fl s (k+d)).1
 | 0=>List.prefix_refl _
 | d+1=>by
  refine(qO s k d).T ?_;show (fl s (k+d)).1<+:(fl s (k+d+1)).1
  conv=>rhs;unfold fl
  split
  ·exact List.prefix_refl _
  ·exact List.prefix_append _ _
theorem getH_lt{ph pa pm:Nat}(h:Fz w ph pa pm s Y)(p:Nat):(FA s p).l_<256/\(FA s p).n<2^56/\(FA s p).w<2^64:=by
 have h1:=h.rd_lt (p*64);exact⟨Nat.mod_lt _ d_,by show s.rd (p*64) / 256<_;omega,h.rd_lt (p*64+1)⟩
theorem uG {w:World}{ph pa pm:Nat}{s:r_}{Y:Nat->Prop}(h:Fz w ph pa pm s Y):∀k,k<=s.j_.length->(fl s k).2<=72057594039000000
 | 0,_=>cC _
 | k+1,hk=>by
  have ih:=uG h k o_;have h1:=getH_lt h (s.j_.getD k 0);have h2:s.j_.getD k 0<=1048575:=by
   rw[ay,af o_];exact h.wf.top _ (ao _)
  unfold fl;split
  ·exact ih
  ·simp only;split
   ·omega
   ·exact ih
abbrev iH:= { x:Nat×Hr // x.1<=1048575/\x.2.l_<256/\x.2.n<2^56/\x.2.w<2^64 }
abbrev mF(x:iH):Array Value:=#[Xi x.1.1,fT x.1.2]
abbrev gt(l:List iH):List (Nat×Hr):=l.map (·.1)
theorem Fz.B_{ph pa pm:Nat}(h:Fz w ph pa pm s Y):
 Ct 132 #[PV pa] w fun e w'=>∃v,e=.returned v/\kU w' w.1.size v s.j_/\D_ w w':=by
 obtain⟨ad,hs⟩:=h.slab;exact wQ hs
theorem qR{ph pa pm:Nat}{Y Z:Nat->Prop}(h:Fz w ph pa pm s Y)(hz:∀k,Z k->Y k/\k≠ph/\k≠fy)(B:Nat)(hB:w.cell? (y_ B)=some (PV ph))(hzB:¬Z B):
 SeqStopsK Fence.wide 6 prog 159 #[PV B] mF (fe w.1.size Z) (fun xs=>gt xs=heads s) (fun ad=>gt ad<+:heads s) s.j_.length w:=fun l J Jx W hW hJ hJx hY h0=>by
 have hH:=h.a_ hW;have bo:B<w.1.size:=by
  unfold World.cell? at hB;split at hB
  ·rename_i heq;exact(gl heq)
  ·cases hB
 have bm:W.cell? (y_ B)=some (PV ph):=(hW.cell (p:=y_ B) bo).T hB;have bu:CallsIn Fence.wide 5 prog 132 #[PV pa] W _:=callsIn_wide.2 hH.B_;have c1:=hH.cell;have bv:=h.pm_lt;have HY:=If hY;have cc:Fence.wide.fn 132:=trivial;have cb:Fence.wide.fn 153:=trivial;have HJ:=kq2 hJ hJx;have H0:=kq5 hH h0 hz hzB bm;refine callsIn_of_wp func159 rfl trivial ?_ rfl;simp only[ntmps159,aS,aj,aL,Nat.reduceAdd,Nat.reduceSub,aO,aP,aT,aR,aX,aJ];gi_wp2_with (gi_at_call 132;refine bu.M ?_;rintro e w1 ⟨v,rfl,⟨A,c,rfl,C_⟩,bb⟩)
 have HR:=kq3 C_ bb (H0.a.a_ bb);gi_loopw [3,5,13] (fun nx _ i wr=>∃k:Nat,k<=s.j_.length/\i=Xi k/\nx=Xi (fl s k).2/\Hid (fe w.1.size Z w1 wr/\∃pX,gt pX=(fl s k).1/\J pX wr)) (fun _ _ i _=>s.j_.length-(intOf i).toNat)
 case atStart=>exact⟨0,o_,rfl,rfl,fe.refl _ _ _,[],rfl,HJ.a _ _ _ none H0.b (lf HR.b) (fun r e=>by cases e)⟩
 case round=>
  obtain⟨k,hk,rfl,rfl,an⟩:=hrel;have au:=HR.c.kp an.O.1 bv H0.c;have ch:k<=4096:=by
   have h1:=au.wf.room;have h2:=au.wf.E1;rw[i8] at hk;omega
  by_cases hlt:k<s.j_.length
  ·obtain⟨b,o,rfl,b9,b',bc⟩:=HR.a k hlt;have b0:¬Z b:=fun hh=>by
    have h1:=H0.a.yl _ (H0.c _ hh).1;omega
   have bc:=an.O.1.cell (a:=⟨b,o+k,none⟩) b0 bc;have ca:=an.O.1.cell (a:=y_ B) H0.d ((HR.b.cell (p:=y_ B) (by
    have:=H0.e;unfold World.cell? at this;split at this
    ·rename_i heq;exact(gl heq)
    ·cases this)).T H0.e)
   have bs:s.j_.getD k 0=s.j_[k]:=by rw[ay,af hlt];rfl
   have bx:s.j_[k]<=1048575:=au.wf.top _ (ao _);have bj:=uG au k o_;have a5:fl s (k+1)=if s.j_[k]<(fl s k).2 then fl s k
    else((fl s k).1++[(s.j_[k],FA s s.j_[k])],if(FA s s.j_[k]).l_=2 then s.j_[k]+(FA s s.j_[k]).n else(fl s k).2):=by
    conv=>lhs;unfold fl
    rw[bs]
   have bf:=uF s k;have ck:(k:Int)<s.j_.length:=o_
   have ap:Hid (k+1<=s.j_.length):=If hlt;obtain⟨T,hT⟩:=Ii (fl s k);obtain⟨T',ba⟩:=Ii (fl s (k+1));rw[hT] at an bj a5 bf⊢;rw[ba] at a5;have bd:=getH_lt au s.j_[k];have bq:CallsIn Fence.wide 5 prog 153 #[PV ph,Xi (s.j_[k]:Nat)] wr _:=callsIn_wide.2 (qU au s.j_[k] o_);generalize FA s s.j_[k]=x at*;generalize s.j_[k]=p at*;obtain⟨ad,nx⟩:=T;simp only at an bj a5 bf⊢;have HS:=kq3 ba a5 au;by_cases hsk:p<nx
   ·have ai:T'=(ad,nx):=by rw[HS.b,if_pos hsk]
    gi_wp2_with fail;go_roundw
    case rel=>exact⟨k+1,ap.O,by go_num,by rw[HS.a,ai],by rw[HS.a,ai];exact an⟩
    case measure=>have:=ap.O;simp[intOf];omega
   ·gi_wp2_with fail;refine bq.M ?_;rintro e w2 ⟨rfl,a4⟩;obtain⟨w3,ar⟩:=Ii (w2.alloc (Xj x.l_ x.n x.w));have a0:D_ wr w3:=by rw[<-ar];exact a4.alloc a4.size _
    obtain⟨pX,a1,a7⟩:=an.O.2;have cn:pX.length=ad.length:=by rw[<-a1];exact(am _).S
    obtain⟨xX,bk⟩:∃xX:iH,xX.1=(p,x):=⟨⟨(p,x),bx,bd⟩,rfl⟩;obtain⟨fn,cp,b2,b4,hy,a3⟩:=HY.O pX xX w3 (HJ.a _ _ _ none a7 (lf a0) (fun r e=>by cases e)) (by have:=ap.O;omega);have bt:gt (pX++[xX])=ad++[(p,x)]:=by show (pX++[xX]).map (·.1)=_;rw[aN,show pX.map (·.1)=ad from a1];simp[bk]
    have a2:=If bt;dsimp only[mF] at hy
    rw[bk] at hy;obtain⟨kd,xn,xw⟩:=x;dsimp only[fT] at hy
    simp only at bd ar;by_cases hk2:kd=2
    ·subst hk2;have ai:T'=(ad++[(p,⟨2,xn,xw⟩)],p+xn):=by rw[HS.b,if_neg hsk,if_pos rfl]
     rw[show ((2:Nat):Int)=2 from rfl] at ar hy;rw[<-ar] at hy a3;have H3:=If a0;rw[<-ar] at H3;clear a0 a4 ar;simp only[fT];gi_wp2_with fail;refine a3.M ?_;rintro e w4 (⟨rfl,a6,a9⟩ | ⟨rfl,a8⟩)
     ·have H4:=kq2 (an.O.1.T ((fe.v_ H3.O).T a9)) a6;gi_wp2_with fail;go_roundw
      case rel=>exact⟨k+1,ap.O,by go_num,by rw[HS.a,ai];go_num,by rw[HS.a,ai];exact⟨H4.a,_,a2.O,H4.b⟩⟩
      case measure=>have:=ap.O;simp[intOf];omega
     ·have H4:=If a8;have a':ad++[(p,⟨2,xn,xw⟩)]<+:heads s:=by
       rw[<-qN,show ad++[(p,⟨2,xn,xw⟩)]=(fl s (k+1)).1 by rw[HS.a,ai]];obtain⟨d,hd⟩:∃d,s.j_.length=k+1+d:=⟨s.j_.length-(k+1),by have:=ap.O;omega⟩;rw[hd];exact qO s (k+1) d
      gi_wp2_with fail;refine bodyPost_ret (results_none rfl _ _ _) rfl ?_;exact⟨⟨_,rfl⟩,.inr ⟨_,by rw[a2.O];exact a',H4.O⟩⟩
    ·have cj:((kd:Int)==2)=false:=m_
     have ai:T'=(ad++[(p,⟨kd,xn,xw⟩)],nx):=by rw[HS.b,if_neg hsk,if_neg hk2]
     have b1:=If hk2;rw[<-ar] at hy a3;have H3:=If a0;rw[<-ar] at H3;clear a0 a4 ar;simp only[fT];gi_wp2_with fail;refine a3.M ?_;rintro e w4 (⟨rfl,a6,a9⟩ | ⟨rfl,a8⟩)
     ·have H4:=kq2 (an.O.1.T ((fe.v_ H3.O).T a9)) a6;gi_wp2_with fail;go_roundw
      case rel=>exact⟨k+1,ap.O,by go_num,by rw[HS.a,ai],by rw[HS.a,ai];exact⟨H4.a,_,a2.O,H4.b⟩⟩
      case measure=>have:=ap.O;simp[intOf];omega
     ·have H4:=If a8;have a':ad++[(p,⟨kd,xn,xw⟩)]<+:heads s:=by
       rw[<-qN,show ad++[(p,⟨kd,xn,xw⟩)]=(fl s (k+1)).1 by rw[HS.a,ai]];obtain⟨d,hd⟩:∃d,s.j_.length=k+1+d:=⟨s.j_.length-(k+1),by have:=ap.O;omega⟩;rw[hd];exact qO s (k+1) d
      gi_wp2_with fail;refine bodyPost_ret (results_none rfl _ _ _) rfl ?_;exact⟨⟨_,rfl⟩,.inr ⟨_,by rw[a2.O];exact a',H4.O⟩⟩
  ·obtain rfl:k=s.j_.length:=o_
   gi_wp2
   go_end0
   obtain⟨pX,a1,a7⟩:=an.O.2;rw[qN] at a1;exact⟨⟨_,rfl⟩,.inl ⟨_,a1,a7⟩⟩
attribute [local go_sem] Oper.semAt_some
theorem Fz.wide{w w':World}{ph pa pm:Nat}(h:Fz w ph pa pm s Y)(hb:D_ w w'):Fz w' ph pa pm s (fun k=>Y k\/(w.1.size<=k/\k<w'.1.size)):=by
 have h':=h.a_ hb;obtain⟨ai,hs⟩:=h.slab;obtain⟨an,ar⟩:=h'.slab;have ap:=(gl hs.hd);have ad:=hs.a_ hb;refine⟨⟨ai,ad.wf,ad.hd,ad.map,ad.pg,ad.inj,?_,?_,?_,?_⟩,h'.hp,ab h.yh,h'.tab,ab h.yt⟩
 ·rintro(k | k)
  ·exact hs.ya k
  ·omega
 ·rintro(k | k)
  ·exact hs.ym k
  ·have:=hs.map.lt;omega
 ·rintro p hp (k | k)
  ·exact hs.yp p hp k
  ·obtain⟨l,hl⟩:=jP.1 hp;have:=(gl (hs.pg _ hl));simp only at this;omega
 ·rintro k (hk | hk)
  ·have:=hs.yl k hk;have:=hb.size;omega
  ·exact hk.2
theorem qQ(ph:Nat)(w:World):
 Ct 116 #[PV ph] w fun e w'=>e=.returned (.func (.func 159) #[] #[PV w.1.size])/\w'=w.alloc (Xm ph):=by
 go_enter func116,ntmps116
 go_wp2
 go_ret;exact⟨rfl,rfl⟩
theorem sq(c:Nat)(x:Nat×Hr):∀q:List (Nat×Hr),fd c q=none->fd c (q++[x])=fd c [x]
 | [],_=>rfl
 | (p,y)::q,h=>by
  have h0:fd c ((p,y)::q++[x])=if y.l_≠1\/y.n≠c then fd c (q++[x]) else match fW y.w (eJ c) with | some k=>some (p,k) | none=>fd c (q++[x]):=rfl
  have h1:fd c ((p,y)::q)=if y.l_≠1\/y.n≠c then fd c q else match fW y.w (eJ c) with | some k=>some (p,k) | none=>fd c q:=rfl
  rw[h1] at h;rw[h0];by_cases hc:y.l_≠1\/y.n≠c
  ·rw[if_pos hc] at h⊢;exact sq c x q h
  ·rw[if_neg hc] at h⊢;cases hb:fW y.w (eJ c) with
   | some k=>rw[hb] at h;cases h
   | none=>rw[hb] at h;exact sq c x q h
theorem sv(c:Nat)(r:Nat×Nat):∀q t:List (Nat×Hr),fd c q=some r->fd c (q++t)=some r
 | (p,y)::q,t,h=>by
  have h0:fd c ((p,y)::q++t)=if y.l_≠1\/y.n≠c then fd c (q++t) else match fW y.w (eJ c) with | some k=>some (p,k) | none=>fd c (q++t):=rfl
  have h1:fd c ((p,y)::q)=if y.l_≠1\/y.n≠c then fd c q else match fW y.w (eJ c) with | some k=>some (p,k) | none=>fd c q:=rfl
  rw[h1] at h;rw[h0];by_cases hc:y.l_≠1\/y.n≠c
  ·rw[if_pos hc] at h⊢;exact sv c r q t h
  ·rw[if_neg hc] at h⊢;cases hb:fW y.w (eJ c) with
   | some k=>rw[hb] at h;exact h
   | none=>rw[hb] at h;exact sv c r q t h
def Kf(r:Option (Nat×Nat)):Value:=match r with | some (p,k)=> .tuple #[Xi p,Xi k,.bool true] | none=> .tuple #[Xi 0,Xi 0,.bool false]
theorem nX(c:Nat):eJ c<=31:=by
 unfold eJ
 split
 ·rename_i h;have:∀c,c<8->62 / iP.getD c 1<=31:=d_
  exact this c h
 ·omega
theorem wW(c:Nat):∃er:Nat,je c=(eJ c,er):=by
 unfold je
 by_cases h:c<8
 ·rw[if_pos o_,cW];exact⟨_,rfl⟩
 ·rw[if_neg o_];refine⟨2,?_⟩;unfold eJ;rw[if_neg h]
theorem qTaae{P:Prop}(h:P:=by
 gi_wp2_with fail;exact⟨KeepsFrom.refl _ _,fe.refl _ _ _,⟨ap.O,HH.b,HH.c,HH.d,HH.e,HH.f⟩,HH.g⟩):P:=h
theorem By{ph pa pm:Nat}(h:Fz w ph pa pm s Y)(c:Nat)(hc:c<=2^56):
 Cb 106 #[PV ph,Xi c] w (Kf (kt s c)):=by
 refine(callsIn_wide (n:=7)).1 ?_;have h1:1<=7:=o_
 have ca:Fence.wide.fn 117:=trivial;have b':Fence.wide.fn 116:=trivial;have b9:Fence.wide.fn 152:=trivial;obtain⟨er,bs⟩:=wW c;have a4:∀W,CallsIn Fence.wide 6 prog 117 #[Xi c] W _:=fun W=>callsIn_wide.2 (qk c W);rw[bs] at a4;have bu:∀W,CallsIn Fence.wide 6 prog 116 #[PV ph] W _:=fun W=>callsIn_wide.2 (qQ ph W);obtain⟨R,hR⟩:=Ii (Kf (kt s c));rw[hR];have bt:=nX c;obtain⟨m,hm⟩:=Ii (eJ c);rw[hm] at a4 bt;have HR:=kq3 hR hm h;clear hR bs hm h;refine callsIn_of_wp_marks func106 rfl trivial ?_ rfl;simp only[ntmps106,aS,aj,aL,Nat.reduceAdd,Nat.reduceSub,aO,aP,aT,aR,aX,aJ];have bb:=nM w (Xh c) (.cells #[Xi 0] 3) (.cells #[Xi 0] 3) (.cells #[.bool false] 4);have c0:=(((Bx.new w (Xi c) 3).alloc (.cells #[Xi 0] 3)).alloc (.cells #[Xi 0] 3)).alloc (.cells #[.bool false] 4);have c1:=((Bx.new (w.alloc (Xh c)) (Xi 0) 3).alloc (.cells #[Xi 0] 3)).alloc (.cells #[.bool false] 4);have c2:=(Bx.new ((w.alloc (Xh c)).alloc (.cells #[Xi 0] 3)) (Xi 0) 3).alloc (.cells #[.bool false] 4);have c3:=Bx.new (((w.alloc (Xh c)).alloc (.cells #[Xi 0] 3)).alloc (.cells #[Xi 0] 3)) (.bool false) 4;simp only[World.size_alloc] at c1 c2 c3;have ch:((((w.alloc (Xh c)).alloc (.cells #[Xi 0] 3)).alloc (.cells #[Xi 0] 3)).alloc (.cells #[.bool false] 4)).1.size=w.1.size+1+1+1+1:=s_
 gi_wp2_with fail;generalize ((((w.alloc (Xh c)).alloc (.cells #[Xi 0] 3)).alloc (.cells #[Xi 0] 3)).alloc (.cells #[.bool false] 4))=w4 at*;refine(a4 w4).M ?_;rintro e w5 ⟨rfl,bc⟩;have H5:=kq6 bc c0 c1 c2 c3 bb;clear bc c0 c1 c2 c3 bb;gi_wp2_with fail;refine(bu _).M ?_;rintro e w7 ⟨rfl,rfl⟩;gi_wp2_with fail;have cb:=H5.a.size;have b5:∀{b:Nat} {v:Value},Bx w4 b v->Bx ((w5.alloc (Xh m)).alloc (Xm ph)) b v:=fun {b v} hb=>by
  have hlt:b<w4.1.size:=by
   have:=hb.1;unfold World.cell? at this
   split at this
   ·rename_i heq;exact(gl heq)
   ·cases this
  exact((hb.a_ H5.a hlt).alloc _).alloc _
 have c4:=(Bx.new w5 (Xi m) 3).alloc (Xm ph);have c5:=Bx.new (w5.alloc (Xh m)) (PV ph) 90;have bd:D_ w ((w5.alloc (Xh m)).alloc (Xm ph)):=
  ((H5.f.T (H5.a.M o_)).alloc o_ _).alloc m_ _
 have cc:((w5.alloc (Xh m)).alloc (Xm ph)).1.size=w5.1.size+1+1:=s_
 have C0:=b5 H5.b;have C1:=b5 H5.c;have C2:=b5 H5.d;have C3:=b5 H5.e;simp only[World.size_alloc] at c5;clear b5;generalize ((w5.alloc (Xh m)).alloc (Xm ph))=W0 at*;have hW:=HR.c.wide bd;have bx:=hW.tab;refine wpIn_rangeFunc_ownH rfl h1 (gf:=159) (lb:=#[PV (w5.1.size+1)]) rfl trivial (enters_of func159 k_ rfl)
  (qR hW (Z:=fun k=>k=w.1.size+1\/k=w.1.size+1+1\/k=w.1.size+1+1+1) (fun k hk=>by
   have h1:=hW.yl _ hW.yh;have h2:=HR.c.lt;have h3:=HR.c.tab.lt;refine⟨ae o_,o_,?_⟩
   show k≠1
   omega) (w5.1.size+1) c5.1 o_) fe.T (fun W l o o' h1 h2 h3 h4=>fe.put W l o o' h1 h2 h3 h4) (aa _ _) (fun _=>rfl)
  (fun ad W=>(fd c (gt ad)=none/\Bx W w.1.size (Xi c)/\Bx W (w.1.size+1) (Xi 0)/\Bx W (w.1.size+1+1) (Xi 0)/\Bx W (w.1.size+1+1+1) (.bool false)/\Bx W w5.1.size (Xi m))/\D_ w W)
  (fun cd ad W=>(cd=.ret/\(∃p k:Nat,fd c (gt ad)=some (p,k)/\Bx W (w.1.size+1) (Xi p)/\Bx W (w.1.size+1+1) (Xi k))/\Bx W (w.1.size+1+1+1) (.bool true))/\D_ w W)
  (OwnFrom.and (Own.from (fun s A B row hs hg hr=>⟨hs.1,hs.2.1.kept hg hr,hs.2.2.1.kept hg hr,hs.2.2.2.1.kept hg hr,hs.2.2.2.2.1.kept hg hr,hs.2.2.2.2.2.kept hg hr⟩) _) (ownFrom_below Ih o_))
  (fun cd=>OwnFrom.and (Own.from (fun s A B row hs hg hr=>⟨hs.1,(let ⟨p,k,k1,k2,k3⟩:=hs.2.1;⟨p,k,k1,k2.kept hg hr,k3.kept hg hr⟩),hs.2.2.kept hg hr⟩) _) (ownFrom_below Ih o_))
  ⟨⟨rfl,C0,C1,C2,C3,c4⟩,bd⟩
  (fun x a' W=>∃B,w5.1.size<B/\W.1[B]?=some (.cells #[Xi x.1.2.l_,Xi x.1.2.n,Xu x.1.2.w] 188 (0,0))/\a'= { tmps:=#[PV ph,Xi c,undef,PV w.1.size,PV (w.1.size+1),PV (w.1.size+1+1),PV (w.1.size+1+1+1),PV w5.1.size,Xi er,Xi x.1.1,PV B,undef,.tuple #[Xi m,Xi er],Xi c,.tuple #[Xi m,Xi er],Xi m,Xi er,PV ph,.func (.func 159) #[] #[PV (w5.1.size+1)],Xi x.1.1,fT x.1.2,undef,undef,undef,undef,undef,undef,undef,undef,undef,undef,undef,undef,undef,undef,undef,undef,undef],defers:=[] })
  (fun x a' _ X W' row hs hg hr=>by
   obtain⟨B,k1,k2,k3⟩:=hs;refine⟨B,k1,(hg.block B (gl k2) (fun e=>?_)).T k2,k3⟩;obtain⟨_,o,ho,bf⟩:=hr B e.S;rw[k2] at ho
   injection ho with ho
   rw[<-ho] at bf
   cases bf)
  ?assign ?body ?done ?stop
 case assign=>
  rintro l ad ⟨⟨p,kd,xn,xw⟩,hx⟩ W K ⟨⟨i0,i1,i2,i3,i4,i5⟩,hB⟩ hK;have HH:=kq7 i0 i1 i2 i3 i4 i5 hB;have HK:=If hK;clear i0 i1 i2 i3 i4 i5 hB hK;simp only[mF,fT]
  gi_wp2
  have a2:=HH.g;refine HK.O _ _ ((KeepsOthers.alloc _ _).from _) (fe.v_ ((aa _ W).alloc Ih _)) ⟨⟨HH.a,HH.b.alloc _,HH.c.alloc _,HH.d.alloc _,HH.e.alloc _,HH.f.alloc _⟩,a2.alloc a2.size _⟩ ⟨W.1.size,?_,?_,rfl⟩
  ·have:=HH.f.1;unfold World.cell? at this
   split at this
   ·rename_i heq;exact(gl heq)
   ·cases this
  ·show (W.1.push _)[W.1.size]?=_
   simp
 case body=>
  rintro l ad ⟨⟨p,kd,xn,xw⟩,hx⟩ a' W hl _ ⟨⟨i0,i1,i2,i3,i4,i5⟩,hB⟩ ⟨B,a2,au,rfl⟩ hlt;simp only at hx au;obtain⟨a5,a6,a7,a1⟩:=hx;have b0:W.cell? (y_ B)=some (Xi kd):=e_ au
  have b1:W.cell? (x_ B 1)=some (Xi xn):=e_ au
  have b2:W.cell? (x_ B 2)=some (Xu xw):=e_ au
  have k0:=i1.1;have k5:=i5.1;obtain⟨k1,f1⟩:=id i2;obtain⟨k2,f2⟩:=id i3;obtain⟨k3,f3⟩:=id i4;have a8:gA W:=HR.c.tab.a_ hB Ih;have bk:CallsIn Fence.wide 4 prog 152 #[Xu xw,Xi m] W _:=callsIn_wide.2 (zr xw m W a1 o_ a8);have HF:=If bk;have HH:=kq7 i0 i1 i2 i3 i4 i5 hB;have bq:=sq c (p,⟨kd,xn,xw⟩) (gt ad) i0;have hv:∀(hx:_),gt (ad++[(⟨(p,⟨kd,xn,xw⟩),hx⟩:iH)])=gt ad++[(p,⟨kd,xn,xw⟩)]:=fun hx=>by
   show (ad++[(⟨(p,⟨kd,xn,xw⟩),hx⟩:iH)]).map (·.1)=_
   rw[aN]
   rfl
  have bm:fd c [(p,⟨kd,xn,xw⟩)]=if kd≠1\/xn≠c then none else match fW xw (eJ c) with | some k=>some (p,k) | none=>none:=rfl
  have HV:=kq3 bq @hv bm;clear i0 i1 i2 i3 i4 i5 hB bk bq hv bm a8 au
  by_cases h1:kd=1/\xn=c
  ·obtain⟨rfl,rfl⟩:=h1;have hq:((xn:Int) !=xn)=false:=s_
   have hi:∀{b:Nat} {v:Value},Bx W b v->b<W.1.size:=fun {b v} hb=>by
    have:=hb.1;unfold World.cell? at this
    split at this
    ·rename_i heq;exact(gl heq)
    ·cases this
   have HI:=kq5 (hi HH.b) (hi HH.c) (hi HH.d) (hi HH.e) (hi HH.f);clear hi k0 k5 k1 k2 k3 f1 f2 f3;have k5:=HH.f.1;have k0:=HH.b.1
   cases hbf:fW xw m with
   | none=>
    have a0:jM xw m= -1:=by unfold jM;rw[hbf]
    have an:fd xn [(p,⟨1,xn,xw⟩)]=none:=by rw[HV.c,if_neg o_,HR.b,hbf]
    rw[a0] at HF;have ap:Hid (fd xn (gt (ad++[(⟨(p,⟨1,xn,xw⟩),⟨a5,a6,a7,a1⟩⟩:iH)]))=none):=If (by rw[HV.b,HV.a,an]);clear an hbf a0;gi_wp2_with fail;refine(CallsIn.inRound l HF.O).M ?_;rintro e w2 ⟨rfl,ai⟩;have H2:=If ai;clear ai;gi_wp2_with fail;exact⟨KeepsFrom.of_grownBy (lf H2.O) (fun j e=>by cases e),fe.v_ H2.O,⟨ap.O,HH.b.a_ H2.O HI.a,HH.c.a_ H2.O HI.b,HH.d.a_ H2.O HI.c,HH.e.a_ H2.O HI.d,HH.f.a_ H2.O HI.e⟩,b_ HH.g H2.O⟩
   | some k=>
    have a0:jM xw m=k:=by unfold jM;rw[hbf]
    have an:fd xn [(p,⟨1,xn,xw⟩)]=some (p,k):=by rw[HV.c,if_neg o_,HR.b,hbf]
    rw[a0] at HF;have ap:Hid (fd xn (gt (ad++[(⟨(p,⟨1,xn,xw⟩),⟨a5,a6,a7,a1⟩⟩:iH)]))=some (p,k)):=If (by rw[HV.b,HV.a,an]);clear an hbf a0;gi_wp2_with fail;refine(CallsIn.inRound l HF.O).M ?_;rintro e w2 ⟨rfl,ai⟩;have j1:=HH.c.a_ ai HI.b;have j2:=HH.d.a_ ai HI.c;have j3:=HH.e.a_ ai HI.d;have H2:=kq4 ai j1 j2 j3;obtain⟨k1,f1⟩:=j1;obtain⟨k2,f2⟩:=j2;obtain⟨k3,f3⟩:=j3;clear ai;gi_wp2_with fail;exact⟨(KeepsFrom.of_grownBy (lf H2.a) (fun j e=>by cases e)).T ((((KeepsOthers.setCell _ _ _).T (KeepsOthers.setCell _ _ _)).T (KeepsOthers.setCell _ _ _)).from _),
     ⟨rfl,⟨p,k,ap.O,((H2.b.set _).u_ _ o_).u_ _ o_,((H2.c.u_ _ o_).set _).u_ _ o_⟩,((H2.d.u_ _ o_).u_ _ o_).set _⟩,
     (((b_ HH.g H2.a).setCell (p:=y_ (w.1.size+1)) s_ _).setCell (p:=y_ (w.1.size+1+1)) m_ _).setCell (p:=y_ (w.1.size+1+1+1)) m_ _⟩
  ·have an:fd c [(p,⟨kd,xn,xw⟩)]=none:=by rw[HV.c,if_pos o_]
   have HN:=If an;have hd:((kd:Int) !=1)=true\/(((kd:Int) !=1)=false/\((xn:Int) !=c)=true):=by
    by_cases e:kd=1
    ·refine ae ⟨by rw[e];rfl,?_⟩;have:¬xn=c:=fun e2=>h1 ⟨e,e2⟩
     simp
     omega
    ·exact ab m_
   clear h1 an;have bj:fd c (gt (ad++[(⟨(p,⟨kd,xn,xw⟩),⟨a5,a6,a7,a1⟩⟩:iH)]))=none:=by rw[HV.b,HV.a,HN.O]
   have ap:=If bj;clear bj
   rcases hd with hd | ⟨hd,b4⟩
   ·exact qTaae
   ·exact qTaae
 case done=>
  rintro D ys W hD hS ⟨⟨i0,i1,i2,i3,i4,i5⟩,hB⟩ hK;obtain⟨k1,f1⟩:=id i2;obtain⟨k2,f2⟩:=id i3;obtain⟨k3,f3⟩:=id i4;have HH:=kq4 i2 i3 i4 hB;rw[hS] at i0;have a3:R=.tuple #[Xi 0,Xi 0,.bool false]:=by
   rw[<-HR.a];unfold kt;rw[i0]
   rfl
  clear i0 i1 i2 i3 i4 i5 hB hS
  gi_wp2
  have ar:=(((KeepsOthers.setCell W (y_ (w.1.size+1)) (Xi 0)).T (KeepsOthers.setCell _ (y_ (w.1.size+1+1)) (Xi 0))).T (KeepsOthers.setCell _ (y_ (w.1.size+1+1+1)) (.bool false))).same D _ hK rfl;refine⟨s_,.inl ⟨_,_,rfl,run_takeDeferred ar,?_⟩⟩;have r1:=((((HH.a.set (Xi 0)).u_ (Xi 0) (show w.1.size+1≠w.1.size+1+1 by omega)).u_ (.bool false) (show w.1.size+1≠w.1.size+1+1+1 by omega)).put (o':=.deferred none) ar rfl).1;have r2:=((((HH.b.u_ (Xi 0) (show w.1.size+1+1≠w.1.size+1 by omega)).set (Xi 0)).u_ (.bool false) (show w.1.size+1+1≠w.1.size+1+1+1 by omega)).put (o':=.deferred none) ar rfl).1;have r3:=((((HH.c.u_ (Xi 0) (show w.1.size+1+1+1≠w.1.size+1 by omega)).u_ (Xi 0) (show w.1.size+1+1+1≠w.1.size+1+1 by omega)).set (.bool false)).put (o':=.deferred none) ar rfl).1;subst a3;refine⟨.tuple #[Xi 0,Xi 0,.bool false],?_,rfl,(((HH.d.setCell (p:=y_ (w.1.size+1)) s_ _).setCell (p:=y_ (w.1.size+1+1)) m_ _).setCell (p:=y_ (w.1.size+1+1+1)) m_ _).T (belowK_b (w:=w) Ih _ D _ _ o_ ar rfl rfl)⟩
  simp[results,f106,go_sem,r1,r2,r3]
 case stop=>
  rintro D cd ad W hD bv ⟨⟨rfl,⟨p,k,bo,a9,ai⟩,ba⟩,hB⟩ hK;obtain⟨t,ht⟩:=bv;have a3:R=.tuple #[Xi p,Xi k,.bool true]:=by
   rw[<-HR.a];unfold kt;rw[<-ht,sv c (p,k) _ t bo]
   rfl
  have HH:=If hB;have r1:=(a9.put (o':=.deferred none) hK rfl).1;have r2:=(ai.put (o':=.deferred none) hK rfl).1;have r3:=(ba.put (o':=.deferred none) hK rfl).1;clear bo ht a9 ai ba hB;subst a3
  gi_wp2
  refine⟨s_,.inl ⟨_,_,rfl,run_takeDeferred hK,?_⟩⟩;refine⟨.tuple #[Xi p,Xi k,.bool true],?_,rfl,HH.O.T (belowK_b (w:=w) Ih W D _ _ o_ hK rfl rfl)⟩
  simp[results,f106,go_sem,r1,r2,r3]
theorem Ef(c:Nat):∃er:Nat,ip c=(et c,er):=by
 unfold ip
 by_cases h:c<8
 ·rw[if_pos o_,cW];exact⟨_,rfl⟩
 ·rw[if_neg o_];refine⟨2,?_⟩;unfold et;rw[ay,aY (by simp[iP];omega)]
  rfl
theorem Aq(c:Nat):et c<=28:=by
 by_cases h:c<8
 ·have:∀c,c<8->et c<=28:=d_
  exact this c h
 ·unfold et;rw[ay,aY (by simp[iP];omega)];decide
theorem tO{w k:Nat}(hw:w<2^64)(hk:k<64):iY w k<2^64:=Nat.or_lt_two_pow (n:=64) hw (me hk)
theorem uK{ph pa pm:Nat}(h:Fz w ph pa pm s Y)(p k:Nat)(hp:p<=1048576)(hk:k<64):
 Ct 107 #[PV ph,Xi p,Xi k] w fun e w'=>e=.returned (Xi ((fP s p k).1:Nat))/\Fz w' ph pa pm (fP s p k).2 Y/\Fo Y w w':=by
 have ar:=getH_lt h p;have ad:=qU h p hp;have ht:fP s p k=(fF p (FA s p).n k,nY (Ie s p ⟨(FA s p).l_,(FA s p).n,iY (FA s p).w k⟩) (fF p (FA s p).n k) (et (FA s p).n)):=rfl;rw[ht];clear ht;generalize FA s p=x at*;obtain⟨kd,xn,xw⟩:=x;simp only at ar ad⊢;obtain⟨a6,a7,ap⟩:=ar;have a3:=fun W=>zz xw k W ap hk;have a5:=tO ap hk;obtain⟨er,a2⟩:=Ef xn;have an:=fun W=>KG xn W;rw[a2] at an;have a':=Aq xn;have a1:=fun W=>uJ p xn k W hp o_ o_;have a9:fF p xn k<=67108926:=by
  have:=KF xn k;unfold fF;omega
 have ai:∀W,Fz W ph pa pm s Y->_:=fun W hW=>oh (hW.own (Xj kd xn (iY xw k:Nat))) p ⟨kd,xn,iY xw k⟩ hp a6 a7 a5;simp only[fT] at ad ai;generalize iY xw k=bs at*;generalize hz:et xn=z at*;generalize hq:fF p xn k=q at*;generalize Ie s p ⟨kd,xn,bs⟩=s1 at*;have HG:=kq6 ad a3 an a1 ai h;clear ad a3 an a1 ai h a2 hz hq;go_enter func107,ntmps107;go_wp2_with fail;refine dR HG.a fun w1 hb1=>?_;have H1:=kq2 (HG.f.a_ hb1) (HG.f.w_ hb1);clear hb1;go_wp2_with fail;refine Jc (HG.b _) ?_;go_wp2_with fail;refine(HG.e w1 H1.a).M ?_;rintro e w3 ⟨rfl,h3,k3⟩;have a0:(w1.alloc (Xj kd xn (bs:Nat))).1[w1.1.size]?=some (.cells #[Xi kd,Xi xn,Xu (bs:Nat)] 188 (0,0)):=by
  show (w1.1.push _)[w1.1.size]?=_;simp
 have b1:w3.cell? (x_ w1.1.size 1)=some (Xi xn):=by
  rw[k3.cell (p:=x_ w1.1.size 1) (ae rfl),q_ a0]
  rfl
 have au:Fo Y w1 (w1.alloc (Xj kd xn (bs:Nat))):=H1.a.w_ ((aa _ w1).alloc Ih _);have a8:w1.1.size<w3.1.size:=h3.yl _ (ae rfl);have H3:=kq2 (h3.M (fun k hk=>ab hk) HG.f.yh HG.f.yt) (H1.b.T (au.T (k3.M fun k hk=>ab hk)));clear h3 k3 a0 au;go_wp2_with fail;refine dR (HG.c _) fun w4 hb4=>?_;have a4:w4.cell? (x_ w1.1.size 1)=some (Xi xn):=(hb4.cell (p:=x_ w1.1.size 1) a8).T b1;have H4:=kq2 (H3.a.a_ hb4) (H3.b.T (H3.a.w_ hb4));clear hb4 b1;go_wp2_with fail;refine dR (HG.d _) fun w5 hb5=>?_;have H5:=kq2 (H4.a.a_ hb5) (H4.b.T (H4.a.w_ hb5));clear hb5 a4;go_wp2_with fail;refine(Bp H5.a q z o_ o_).M ?_;rintro e w6 ⟨rfl,h6,k6⟩;have H6:=kq2 h6 (H5.b.T k6);clear h6 k6;go_wp2_with fail;go_ret;exact⟨rfl,H6.O⟩
theorem oD {s:r_}{y:Nat×Hr}:∀(ks:List Nat) (nx:Nat),y∈gC s nx ks->y.1∈ks/\y.2=FA s y.1
 | [],_,h=>by simp[gC] at h
 | p::r,nx,h=>by
  unfold gC at h;split at h
  ·have:=oD r nx h;exact⟨ak _ this.1,this.2⟩
  ·rcases ah.1 h with rfl | h
   ·exact⟨av,rfl⟩
   ·have:=oD r _ h;exact⟨ak _ this.1,this.2⟩
theorem oX {c p k:Nat}:∀(q:List (Nat×Hr)),fd c q=some (p,k)->(∃x,(p,x)∈q/\x.l_=1/\x.n=c/\fW x.w (eJ c)=some k)
 | (p',y)::q,h=>by
  have h1:fd c ((p',y)::q)=if y.l_≠1\/y.n≠c then fd c q else match fW y.w (eJ c) with | some k=>some (p',k) | none=>fd c q:=rfl
  rw[h1] at h;by_cases hc:y.l_≠1\/y.n≠c
  ·rw[if_pos hc] at h;obtain⟨x,hx,hr⟩:=oX q h;exact⟨x,ak _ hx,hr⟩
  ·rw[if_neg hc] at h;have ad:y.l_=1:=o_
   have ai:y.n=c:=o_
   cases hb:fW y.w (eJ c) with
   | some j=>
    rw[hb] at h;simp only[Option.some.injEq,Prod.mk.injEq] at h;obtain⟨rfl,rfl⟩:=h;exact⟨y,av,ad,ai,hb⟩
   | none=>
    rw[hb] at h;obtain⟨x,hx,hr⟩:=oX q h;exact⟨x,ak _ hx,hr⟩
theorem tN{w n k:Nat}(h:fW w n=some k):k<n:=by
 unfold fW at h;rw[dh] at h;simpa using h.2.1
theorem GJ(hw:eQ s){c p k:Nat}(h:kt s c=some (p,k)):p<=1048575/\k<31:=by
 obtain⟨x,hx,_,_,hb⟩:=oX _ h;have h1:=(oD _ _ hx).1;have h2:=tN hb;have h3:=nX c;exact⟨hw.top _ h1,o_⟩
theorem uw(s:r_)(n:Nat):∀f p,s.firstRun n f p<=p+f
 | 0,p=>Nat.le_refl _
 | f+1,p=>by
  unfold r_.firstRun;split
  ·omega
  ·have:=uw s n f (p+1);omega
theorem mJ(hw:eQ s)(hn:n<=100):(s.grant n).1.1<=409601:=by
 have h1:=hw.room;have h2:=hw.E1;have h3:s.B_.length*n<=4096*100:=Nat.mul_le_mul o_ hn;unfold r_.grant
 split
 ·simp
 ·split
  ·simp
  ·have:=uw s n (s.B_.length*n+1) 0;simp only;omega
theorem Fz.grant{ph pa pm:Nat}(h:Fz w ph pa pm s Y)(n:Nat)(hn:n<=100):
 Ct 104 #[PV pa,Xi n] w fun e w'=>e=.returned (.tuple #[Xi ((s.grant n).1.1:Nat),Xi ((s.grant n).1.2:Nat)])/\Fz w' ph pa pm (s.grant n).2 Y/\Fo Y w w':=by
 obtain⟨ad,hs⟩:=h.slab;refine(Ek hs n hn).M ?_;rintro e w' ⟨h1,h2,h3⟩;exact⟨h1,h.step h2 h3,h3⟩
theorem tZ{n c:Nat}(h:gd n=some c):c<8:=by
 unfold gd at h;rw[dh] at h;simpa using h.2.1
theorem ua(h:n<=4000):fa n<=63:=by
 unfold fa
 split
 ·omega
 ·split
  ·omega
  ·omega
theorem qTaab{P:Prop}(h:P:=by
 go_wp2_with fail;refine(HG.f _ H3.a).M ?_;rintro e w4 ⟨rfl,h4,k4⟩;have H4:=kq2 h4 (H3.b.T k4);clear h4 k4 c3;go_wp2_with fail;go_ret2;obtain rfl:=HG.c;exact⟨rfl,H4.O⟩):P:=h
theorem heap_alloc{ph pa pm:Nat}(h:Fz w ph pa pm s Y)(n:Nat)(_:n<=100000):
 Ct 62 #[PV ph,Xi n] w fun e w'=>e=.returned (.tuple #[Xi ((fR s n).1.1:Nat),Xi ((fR s n).1.2:Nat)])/\Fz w' ph pa pm (fR s n).2 Y/\Fo Y w w':=by
 have ap:=dQ h;have an:=fun W=>Gn n W;obtain⟨R,hR⟩:=Ii (fR s n);rw[hR]
 rcases vX n with⟨h1,h2,_⟩ | ⟨h1,⟨c,h2,h3,_⟩ | ⟨h2,h3,h4⟩⟩
 ·have ad:R=((0,2),s):=by rw[<-hR];unfold fR;rw[if_pos h1]
  rw[h2] at an;have HG:=kq4 ap an ad h;clear ap an ad h hR h1 h2;go_enter func62,ntmps62;go_wp2_with fail;refine Jc HG.a ?_;go_wp2_with fail;refine dR (HG.b _) fun w2 hb2=>?_;have H2:=If hb2;clear hb2;go_wp2_with fail;go_ret2;obtain rfl:=HG.c;exact⟨rfl,HG.d.a_ H2.O,HG.d.w_ H2.O⟩
 ·have a2:¬(n<1\/4000<n):=o_
  rw[h3] at an;have a':=tZ h2;have au:=fun W (hW:Fz W ph pa pm s Y)=>By hW c o_
  cases hspot:kt s c with
  | some pk=>
   obtain⟨p,k⟩:=pk;have ad:R=(((fP s p k).1,0),(fP s p k).2):=by rw[<-hR];unfold fR;rw[if_neg a2,h2];simp only[hspot]
   rw[hspot] at au;obtain⟨hp,hk⟩:=GJ h.wf hspot;have a6:=fun W (hW:Fz W ph pa pm s Y)=>uK hW p k o_ o_;generalize fP s p k=tk at*;have HG:=kq6 ap an ad h au a6;clear ap an ad h hR h1 h2 h3 au a6 hspot;go_enter func62,ntmps62;go_wp2_with fail;refine Jc HG.a ?_;go_wp2_with fail;refine dR (HG.b _) fun w2 hb2=>?_;have H2:=kq2 (HG.d.a_ hb2) (HG.d.w_ hb2);clear hb2;go_wp2_with fail;refine dR (HG.e _ H2.a) fun w3 hb3=>?_;have H3:=kq2 (H2.a.a_ hb3) (H2.b.T (H2.a.w_ hb3));clear hb3;simp only[Kf];go_wp2_with fail;refine(HG.f _ H3.a).M ?_;rintro e w4 ⟨rfl,h4,k4⟩;have H4:=kq2 h4 (H3.b.T k4);clear h4 k4;go_wp2_with fail;go_ret2;obtain rfl:=HG.c;exact⟨rfl,H4.O⟩
  | none=>
   rw[hspot] at au;have ai:=fun W (hW:Fz W ph pa pm s Y)=>hW.grant 1 o_;have a1:=mJ h.wf (n:=1) o_;obtain⟨⟨⟨gp,ge⟩,gs⟩,ar⟩:∃g,s.grant 1=g:=⟨_,rfl⟩;rw[ar] at ai a1;simp only at ai a1
   cases ge with
   | zero=>
    have ad:R=(((fP (Ie gs gp ⟨1,c,0⟩) gp 0).1,0),(fP (Ie gs gp ⟨1,c,0⟩) gp 0).2):=by rw[<-hR];unfold fR;rw[if_neg a2,h2];simp only[hspot,ar]
    have a0:=fun W (hW:Fz W ph pa pm gs Y)=>oh hW gp ⟨1,c,0⟩ o_ (show 1<256 by omega) (by simp only;omega) (show 0<2^64 by omega);simp only[fT] at a0;generalize Ie gs gp ⟨1,c,0⟩=s2 at*;have a6:=fun W (hW:Fz W ph pa pm s2 Y)=>uK hW gp 0 o_ o_;generalize fP s2 gp 0=tk at*;have HG:=kq8 ap an ad h au ai a0 a6;clear ap an ad h hR h1 h2 h3 au a6 hspot ai a0 ar;go_enter func62,ntmps62;go_wp2_with fail;refine Jc HG.a ?_;go_wp2_with fail;refine dR (HG.b _) fun w2 hb2=>?_;have H2:=kq2 (HG.d.a_ hb2) (HG.d.w_ hb2);clear hb2;go_wp2_with fail;refine dR (HG.e _ H2.a) fun w3 hb3=>?_;have H3:=kq2 (H2.a.a_ hb3) (H2.b.T (H2.a.w_ hb3));have c3:=H3.a.cell;clear hb3;simp only[Kf];go_wp2_with fail;refine(HG.f _ H3.a).M ?_;rintro e w4 ⟨rfl,h4,k4⟩;have H4:=kq2 h4 (H3.b.T k4);clear h4 k4 c3;go_wp2_with fail;refine(HG.g _ H4.a).M ?_;rintro e w5 ⟨rfl,h5,k5⟩;have H5:=kq2 h5 (H4.b.T k5);clear h5 k5;go_wp2_with fail;refine(HG.h _ H5.a).M ?_;rintro e w6 ⟨rfl,h6,k6⟩;have H6:=kq2 h6 (H5.b.T k6);clear h6 k6;go_wp2_with fail;go_ret2;obtain rfl:=HG.c;exact⟨rfl,H6.O⟩
   | succ ge=>
    have ad:R=((0,ge+1),gs):=by rw[<-hR];unfold fR;rw[if_neg a2,h2];simp only[hspot,ar]
    have a7:(((ge+1:Nat):Int) !=0)=true:=m_
    obtain⟨g1,a3⟩:=Ii (ge+1);rw[a3] at ai ad a7;have a9:¬(g1:Int)=0:=o_
    have HG:=kq6 ap an ad h au ai;clear ap an ad h hR h1 h2 h3 au hspot ai ar a3;go_enter func62,ntmps62;go_wp2_with fail;refine Jc HG.a ?_;go_wp2_with fail;refine dR (HG.b _) fun w2 hb2=>?_;have H2:=kq2 (HG.d.a_ hb2) (HG.d.w_ hb2);clear hb2;go_wp2_with fail;refine dR (HG.e _ H2.a) fun w3 hb3=>?_;have H3:=kq2 (H2.a.a_ hb3) (H2.b.T (H2.a.w_ hb3));have c3:=H3.a.cell;clear hb3;simp only[Kf];exact qTaab
 ·have a2:¬(n<1\/4000<n):=o_
  rw[h3] at an;have a5:=fun W=>GT n W h1.2 h1.1;have a8:=ua h1.2;have ai:=fun W (hW:Fz W ph pa pm s Y)=>hW.grant (fa n) o_;have a1:=mJ h.wf (n:=fa n) o_;obtain⟨np,a4⟩:=Ii (fa n);rw[a4] at a5 a8 ai a1;obtain⟨⟨⟨gp,ge⟩,gs⟩,ar⟩:∃g,s.grant np=g:=⟨_,rfl⟩;rw[ar] at ai a1;simp only at ai a1
  cases ge with
  | zero=>
   have ad:R=((gp*64+2,0),Ie gs gp ⟨2,np,n⟩):=by rw[<-hR];unfold fR;rw[if_neg a2,h2,a4];simp only[ar]
   have a0:=fun W (hW:Fz W ph pa pm gs Y)=>oh hW gp ⟨2,np,n⟩ o_ (show 2<256 by omega) (by simp only;omega) (by simp only;omega);simp only[fT] at a0;generalize Ie gs gp ⟨2,np,n⟩=s2 at*;have ba:n<=4000:=h1.2;have HG:=kq7 ap an ad h a5 ai a0;clear ap an ad h hR h1 h2 h3 h4 a5 ai a0 ar a4;go_enter func62,ntmps62;go_wp2_with fail;refine Jc HG.a ?_;go_wp2_with fail;refine dR (HG.b _) fun w2 hb2=>?_;have H2:=kq2 (HG.d.a_ hb2) (HG.d.w_ hb2);clear hb2;go_wp2_with fail;refine dR (HG.e _) fun w3 hb3=>?_;have H3:=kq2 (H2.a.a_ hb3) (H2.b.T (H2.a.w_ hb3));have c3:=H3.a.cell;clear hb3;go_wp2_with fail;refine(HG.f _ H3.a).M ?_;rintro e w4 ⟨rfl,h4,k4⟩;have H4:=kq2 h4 (H3.b.T k4);clear h4 k4 c3;go_wp2_with fail;refine(HG.g _ H4.a).M ?_;rintro e w5 ⟨rfl,h5,k5⟩;have H5:=kq2 h5 (H4.b.T k5);clear h5 k5;go_wp2_with fail;go_ret2;obtain rfl:=HG.c;exact⟨s_,H5.O⟩
  | succ ge=>
   have ad:R=((0,ge+1),gs):=by rw[<-hR];unfold fR;rw[if_neg a2,h2,a4];simp only[ar]
   have a7:(((ge+1:Nat):Int) !=0)=true:=m_
   obtain⟨g1,a3⟩:=Ii (ge+1);rw[a3] at ai ad a7;have a9:¬(g1:Int)=0:=o_
   have HG:=kq6 ap an ad h a5 ai;clear ap an ad h hR h1 h2 h3 h4 a5 ai ar a4 a3;go_enter func62,ntmps62;go_wp2_with fail;refine Jc HG.a ?_;go_wp2_with fail;refine dR (HG.b _) fun w2 hb2=>?_;have H2:=kq2 (HG.d.a_ hb2) (HG.d.w_ hb2);clear hb2;go_wp2_with fail;refine dR (HG.e _) fun w3 hb3=>?_;have H3:=kq2 (H2.a.a_ hb3) (H2.b.T (H2.a.w_ hb3));have c3:=H3.a.cell;clear hb3;exact qTaab
end
section
open Go.RowKit Tryz Go.BigFrame Go.Maps Go.WideMaps Lf
variable{S:St}{Y:Nat->Prop}{ps:Nat}{pt:Nat}{v:Value}{w:World}
theorem eI.of_keep{w w':World}{t:Hs}(h:eI w pt t v)(hp:w'.1[pt]?=w.1[pt]?)(hv:∀b,v.ownBlock=some b->w'.1[b]?=w.1[b]?):eI w' pt t v where
 wf:=h.wf
 hd:=hp.T h.hd
 row:=by
  refine⟨h.row.1,?_⟩;rcases h.row.2 with hn | ⟨g,ad,ai,rfl,hb,hg,an⟩
  ·grind
  ·exact ae ⟨g,ad,ai,rfl,hb,(hv g rfl).T hg,an⟩
theorem eI.own_lt{t:Hs}(h:eI w pt t v){b:Nat}(hb:v.ownBlock=some b):b<w.1.size:=by
 rcases h.row.2 with⟨rfl,_⟩ | ⟨g,ad,ai,rfl,_,hg,_⟩
 ·cases hb
 ·injection hb with hb
  grind
def YS(Y:Nat->Prop)(ps ph pt:Nat)(v:Value):Nat->Prop:=fun k=>Y k\/k=ps\/k=ph\/k=fy\/k=pt\/v.ownBlock=some k
structure eR (w:World) (ps pa pm ph pt:Nat) (v:Value) (S:St) (Y:Nat->Prop):Prop where
 hd:w.1[ps]?=some (.cells #[Xi S.t.most,.int .u32 S.t.last,PV pa,PV ph,PV pt] 94 (0,0))
 heap:Fz w ph pa pm S.a (YS Y ps ph pt v)
 tab:eI w pt S.t v
 off:∀k,(Y k\/k=ps\/k=ph\/k=fy)->k≠pt/\v.ownBlock≠some k
def Ig(w:World)(ps:Nat)(S:St)(Y:Nat->Prop):Prop:=∃pa pm ph pt v,eR w ps pa pm ph pt v S Y
theorem eR.cells{ps pa pm ph pt:Nat}(h:eR w ps pa pm ph pt v S Y):
 w.cell? (y_ ps)=some (Xi S.t.most)/\w.cell? (x_ ps 1)=some (.int .u32 S.t.last)/\w.cell? (x_ ps 2)=some (PV pa)/\w.cell? (x_ ps 3)=some (PV ph)/\w.cell? (x_ ps 4)=some (PV pt):=by
 refine⟨?_,?_,?_,?_,?_⟩<;>· rw[q_ h.hd];rfl
theorem eR.a_{w w':World}{ps pa pm ph pt:Nat}(h:eR w ps pa pm ph pt v S Y)(hb:D_ w w'):eR w' ps pa pm ph pt v S Y where
 hd:=by rw[hb.block ps (gl h.hd)];exact h.hd
 heap:=h.heap.a_ hb
 tab:=h.tab.of_keep (hb.block _ h.tab.pt_lt) fun b e=>hb.block _ (h.tab.own_lt e)
 off:=h.off
theorem Ig.a_{w w':World}(h:Ig w ps S Y)(hb:D_ w w'):Ig w' ps S Y:=by
 obtain⟨pa,pm,ph,pt,v,h⟩:=h;exact⟨pa,pm,ph,pt,v,h.a_ hb⟩
theorem eR.yl{ps pa pm ph pt:Nat}(h:eR w ps pa pm ph pt v S Y):∀k,Y k->k<w.1.size:=fun k hk=>h.heap.yl k (ab hk)
theorem Ig.yl(h:Ig w ps S Y):∀k,Y k->k<w.1.size:=by
 obtain⟨pa,pm,ph,pt,v,h⟩:=h;exact h.yl
theorem Ig.lt(h:Ig w ps S Y):ps<w.1.size:=by
 obtain⟨pa,pm,ph,pt,v,h⟩:=h;exact(gl h.hd)
theorem Ig.w_{w w':World}(h:Ig w ps S Y)(hb:D_ w w'):Fo Y w w':=Fo.v_ hb h.yl
theorem Ig.drewN(h:Ig w ps S Y)(n:Nat):Ig (w.drewN n) ps S Y:=h.a_ ⟨rfl,rfl,rfl,Nat.le_refl _,fun _ _=>rfl⟩
theorem Ig.M{Y Z:Nat->Prop}(h:Ig w ps S Y)(hz:∀k,Z k->Y k):Ig w ps S Z:=by
 obtain⟨pa,pm,ph,pt,v,h⟩:=h;refine⟨pa,pm,ph,pt,v,h.hd,h.heap.M (fun k hk=>hk.imp (hz k) id) (ae (ae (ab rfl))) (ae (ae (ae (ab rfl)))),h.tab,fun k hk=>h.off k (hk.imp (hz k) id)⟩
theorem Ig.wide{w w':World}(h:Ig w ps S Y)(hb:D_ w w'):Ig w' ps S (fun k=>Y k\/(w.1.size<=k/\k<w'.1.size)):=by
 obtain⟨pa,pm,ph,pt,v,h⟩:=h;have h':=h.a_ hb;refine⟨pa,pm,ph,pt,v,h'.hd,?_,h'.tab,?_⟩
 ·refine(h.heap.wide hb).M ?_ (ae (ae (ab rfl))) (ae (ae (ae (ab rfl))));rintro k ((hk | hk) | hk)
  ·exact ab (ab hk)
  ·omega
  ·exact ab (ae hk)
 ·rintro k ((hk | hk) | hk)
  ·exact h.off k (ab hk)
  ·have h1:=h.tab.pt_lt;refine⟨o_,fun e=>?_⟩;have:=h.tab.own_lt e;omega
  ·exact h.off k (ae hk)
theorem eR.arena{w w':World}{ps pa pm ph pt:Nat}(h:eR w ps pa pm ph pt v S Y){a:r_}(ha:Fz w' ph pa pm a (YS Y ps ph pt v))(hk:Fo (YS Y ps ph pt v) w w'):eR w' ps pa pm ph pt v ⟨a,S.t⟩ Y where
 hd:=(hk.block ps (ae (ab rfl))).T h.hd
 heap:=ha
 tab:=h.tab.of_keep (hk.block pt (ae (ae (ae (ae (ab rfl)))))) fun b e=>hk.block b (ae (ae (ae (ae (ae e)))))
 off:=h.off
theorem YS.self{ps ph pt:Nat}{k:Nat}(h:Y k):YS Y ps ph pt v k:=ab h
theorem eR.table{w w':World}{ps pa pm ph pt:Nat}{v v':Value}(h:eR w ps pa pm ph pt v S Y){t:Hs}(ht:eI w' pt t v')(hm:t.most=S.t.most/\t.last=S.t.last)
 (Z:Nat->Prop) (hZ:∀k,k<w.1.size->k≠pt->v.ownBlock≠some k->Z k) (hk:Fo Z w w') (hv':∀b,Z b->v'.ownBlock≠some b):eR w' ps pa pm ph pt v' ⟨S.a,t⟩ Y:=by
 have hlt:∀k,(Y k\/k=ps\/k=ph\/k=fy)->k<w.1.size:=fun k hk=>h.heap.yl k (by
  rcases hk with hk | hk | hk | hk
  ·exact ab hk
  ·exact ae (ab hk)
  ·exact ae (ae (ab hk))
  ·exact ae (ae (ae (ab hk))))
 have an:∀k,(Y k\/k=ps\/k=ph\/k=fy)->Z k:=fun k hk=>hZ k (hlt k hk) (h.off k hk).1 (h.off k hk).2;obtain⟨ai,hs⟩:=h.heap.slab;have au:∀k,k<w.1.size->(k=pa\/k=pm\/∃p∈S.a.j_,k=ai p)->Z k:=fun k hkl hk=>by
  have ap:¬YS Y ps ph pt v k:=by
   rcases hk with rfl | rfl | ⟨p,hp,rfl⟩
   ·exact hs.ya
   ·exact hs.ym
   ·exact hs.yp p hp
  exact hZ k hkl (fun e=>ap (ae (ae (ae (ae (ab e)))))) (fun e=>ap (ae (ae (ae (ae (ae e))))))
 have ad:eh w' pa pm S.a (YS Y ps ph pt v) ai:=hs.of_keep hk.size fun k hkl hkk=>hk.block k (au k hkl hkk);have ar:eh w' pa pm S.a (YS Y ps ph pt v') ai:=by
  have key:∀k,k<w.1.size->(k=pa\/k=pm\/∃p∈S.a.j_,k=ai p)->¬YS Y ps ph pt v k->¬YS Y ps ph pt v' k:=fun k hkl hkk hn hy=>by
   rcases hy with hy | hy | hy | hy | hy | hy
   ·exact hn (ab hy)
   ·exact hn (ae (ab hy))
   ·exact hn (ae (ae (ab hy)))
   ·exact hn (ae (ae (ae (ab hy))))
   ·exact hn (ae (ae (ae (ae (ab hy)))))
   grind
  refine⟨ad.wf,ad.hd,ad.map,ad.pg,ad.inj,?_,?_,?_,?_⟩
  ·exact key pa (gl hs.hd) (ab rfl) hs.ya
  ·exact key pm hs.map.lt (ae (ab rfl)) hs.ym
  ·intro p hp;obtain⟨l,hl⟩:=jP.1 hp;exact key _ (gl (hs.pg _ hl)) (ae (ae ⟨p,hp,rfl⟩)) (hs.yp p hp)
  ·intro k hkk;rcases hkk with hy | hy | hy | hy | hy | hy
   ·exact ad.yl k (ab hy)
   ·exact ad.yl k (ae (ab hy))
   ·exact ad.yl k (ae (ae (ab hy)))
   ·exact ad.yl k (ae (ae (ae (ab hy))))
   ·exact ad.yl k (ae (ae (ae (ae (ab hy)))))
   ·exact ht.own_lt hy
 refine⟨?_,⟨⟨ai,ar⟩,(hk.block ph (an ph (ae (ae (ab rfl))))).T h.heap.hp,ae (ae (ab rfl)),h.heap.tab.of_block (hk.block _ (an fy (ae (ae (ae rfl))))),ae (ae (ae (ab rfl)))⟩,ht,fun k hkk=>⟨(h.off k hkk).1,hv' k (an k hkk)⟩⟩;rw[hk.block ps (an ps (ae (ab rfl))),h.hd,hm.1,hm.2]
structure Fv (S:St):Prop where
 len:∀(i:Nat) (h:i<S.t.p_.length),S.t.p_[i].is=1->S.a.rd (S.t.p_[i].t_+1)<=3998/\S.t.p_[i].t_<=2^60
 apart:∀(i j:Nat) (hi:i<S.t.p_.length) (hj:j<S.t.p_.length),i≠j->S.t.p_[i].is=1->S.t.p_[j].is=1->
  S.t.p_[i].t_+2+S.a.rd (S.t.p_[i].t_+1)<=S.t.p_[j].t_\/S.t.p_[j].t_+2+S.a.rd (S.t.p_[j].t_+1)<=S.t.p_[i].t_
theorem Lf.St.at_some{h k:Nat}(hk:S.t.of h=some k)(hlt:k<S.t.p_.length):S.at h=(S.t.p_[k].t_,S.a.rd (S.t.p_[k].t_+1),0):=by
 unfold St.at;rw[sQ hk hlt];rfl
theorem Lf.St.at_none{h:Nat}(hk:S.t.of h=none):S.at h=(0,0,7):=by
 unfold St.at Hs.at;grind
theorem Fv.at_le(hi:Fv S)(h:Nat):(S.at h).2.1<=3998:=by
 cases hk:S.t.of h with
 | none=>rw[St.at_none hk];simp
 | some k=>
  obtain⟨hlt,h1,_⟩:=Hs.of_lt hk;rw[St.at_some hk hlt];exact(hi.len k hlt h1).1
theorem Fv.addr_le(hi:Fv S)(h:Nat):(S.at h).1<=2^60:=by
 cases hk:S.t.of h with
 | none=>rw[St.at_none hk];simp
 | some k=>
  obtain⟨hlt,h1,_⟩:=Hs.of_lt hk;rw[St.at_some hk hlt];exact(hi.len k hlt h1).2
theorem Lf.St.at_cases(S:St)(h:Nat):(∃t_ n,S.at h=(t_,n,0)/\S.t.at h=(t_,0)/\S.a.rd (t_+1)=n)\/(S.at h=(0,0,7)/\S.t.at h=(0,7)):=by
 grind [St.at_none,Hs.at,Hs.of_lt,St.at_some,sQ]
def Lf.St.place(s:St)(h k:Nat):Nat×Nat:=
 match s.at h with
 | (t_,n,0)=>if k<n then(t_+2+k,0) else(0,2)
 | (_,_,e)=>(0,e)
theorem Lf.St.get_place(S:St)(h k:Nat):S.get h k=match S.place h k with | (p,0)=>(S.a.rd p,S.a.err p) | (_,e)=>(0,e):=by
 unfold St.get St.place;grind
theorem Lf.St.put_place(S:St)(h k w:Nat):S.put h k w=match S.place h k with | (p,0)=>(S.a.err p,{ S with a:=S.a.wr p w }) | (_,e)=>(e,S):=by
 unfold St.put St.place;grind
theorem Fv.place_le(hi:Fv S)(h k:Nat):(S.place h k).1<=2305843009213693952:=by
 have h2:=hi.addr_le h;have h3:=hi.at_le h;grind [St.place]
theorem Lf.St.place_cases(S:St)(h k:Nat):(∃p,S.place h k=(p,0))\/(∃e,S.place h k=(0,e+1)):=by
 unfold St.place
 rcases S.at_cases h with⟨a,n,h1,_⟩ | ⟨h1,_⟩
 ·rw[h1];simp only
  split
  ·exact ab ⟨_,rfl⟩
  ·exact ae ⟨1,rfl⟩
 grind
theorem sI(h:Ig w ps S Y):
 Ct 61 #[PV ps] w fun e w'=>e=.returned (.bool false)/\w=w':=by
 obtain⟨pa,pm,ph,pt,v,h⟩:=h;obtain⟨_,_,c2,_,_⟩:=h.cells;clear h;go_enter func61,ntmps61
 go_wp2
 go_ret;exact⟨rfl,rfl⟩
theorem sD(h:Ig w ps S Y)(hi:Fv S)(hh:Nat)(hl:hh<2^64):
 Ct 82 #[PV ps,Xu hh] w fun e w'=>e=.returned (.tuple #[Xi ((S.at hh).1:Nat),Xi ((S.at hh).2.1:Nat),Xi ((S.at hh).2.2:Nat)])/\w=w':=by
 have ai:=sI h;have h3:=hi.at_le hh;have h4:=hi.addr_le hh;obtain⟨pa,pm,ph,pt,v,h⟩:=h;obtain⟨_,_,c2,_,c4⟩:=h.cells;have ad:=EH h.tab hh hl
 rcases S.at_cases hh with⟨a,n,h1,h2,hn⟩ | ⟨h1,h2⟩
 ·rw[h1] at h3 h4⊢;rw[h2] at ad;simp only at h3 h4 ad⊢;have an:=h.heap.read (a+1) o_;rw[hn] at an;have HG:=kq3 ai ad an;clear ai ad h h1 h2 hn an;go_enter func82,ntmps82;go_wp2_with fail;refine Jc HG.a ?_;go_wp2_with fail;refine Jc HG.b ?_;go_wp2_with fail;refine Jc HG.c ?_;go_wp2_with fail;go_ret3;exact⟨rfl,rfl⟩
 ·rw[h1];rw[h2] at ad;simp only at ad⊢;have HG:=kq2 ai ad;clear ai ad h h1 h2;go_enter func82,ntmps82;go_wp2_with fail;refine Jc HG.a ?_;go_wp2_with fail;refine Jc HG.b ?_;go_wp2_with fail;go_ret3;exact⟨rfl,rfl⟩
theorem fB(h:Ig w ps S Y)(hi:Fv S)(hh:Nat)(hl:hh<2^64):
 Ct 42 #[PV ps,Xu hh] w fun e w'=>e=.returned (.tuple #[Xi ((S.len hh).1:Nat),Xi ((S.len hh).2:Nat)])/\w=w':=by
 have ad:=sD h hi hh hl;unfold St.len;generalize S.at hh=r at*;have HG:=If ad;clear ad h hi;go_enter func42,ntmps42;go_wp2_with fail;refine Jc HG.O ?_;go_wp2_with fail;go_ret2;exact⟨rfl,rfl⟩
theorem qTaah{P:Prop}(h:P:=by
 have HG:=kq2 ad hR;clear ad hR h hi h1 hkn;go_enter func163,ntmps163;exact qTaaa):P:=h
theorem sJ(h:Ig w ps S Y)(hi:Fv S)(hh k:Nat)(hl:hh<2^64)(hk:k<=2^62):
 Ct 163 #[PV ps,Xu hh,Xi k] w fun e w'=>e=.returned (.tuple #[Xi ((S.place hh k).1:Nat),Xi ((S.place hh k).2:Nat)])/\w=w':=by
 have ad:=sD h hi hh hl;have h3:=hi.at_le hh;have h4:=hi.addr_le hh;obtain⟨R,hR⟩:=Ii (S.place hh k);rw[hR];unfold St.place at hR
 rcases S.at_cases hh with⟨a,n,h1,_⟩ | ⟨h1,_⟩
 ·rw[h1] at h3 h4 ad hR;simp only at h3 h4 ad hR
  by_cases hkn:k<n
  ·rw[if_pos hkn] at hR;have ai:(k:Int)<n:=o_
   exact qTaah
  ·rw[if_neg hkn] at hR;have ai:(n:Int)<=k:=o_
   exact qTaah
 ·rw[h1] at ad hR;simp only at ad hR;have HG:=kq2 ad hR;clear ad hR h hi h1;go_enter func163,ntmps163;exact qTaaa
theorem sG(h:Ig w ps S Y)(hi:Fv S)(hh k:Nat)(hl:hh<2^64)(hk:k<=2^62):
 Ct 123 #[PV ps,Xu hh,Xi k] w fun e w'=>e=.returned (.tuple #[Xu ((S.get hh k).1:Nat),Xi ((S.get hh k).2:Nat)])/\w=w':=by
 have ad:=sJ h hi hh k hl hk;have h3:=hi.place_le hh k;obtain⟨pa,pm,ph,pt,v,h⟩:=h;obtain⟨_,_,c2,_,_⟩:=h.cells;obtain⟨R,hR⟩:=Ii (S.get hh k);rw[hR];rw[St.get_place] at hR
 rcases S.place_cases hh k with⟨p,h1⟩ | ⟨er,h1⟩
 ·rw[h1] at ad h3 hR;simp only at ad h3 hR;have an:=h.heap.read p o_;have HG:=kq3 ad hR an;clear ad hR h hi h1 an;go_enter func123,ntmps123;go_wp2_with fail;refine Jc HG.a ?_;go_wp2_with fail;refine Jc HG.c ?_;go_wp2_with fail;go_ret2;obtain rfl:=HG.b;exact⟨rfl,rfl⟩
 ·rw[h1] at ad hR;simp only at ad hR;have ap:(((er+1:Nat):Int) !=0)=true:=m_
  obtain⟨g1,ai⟩:=Ii (er+1);rw[ai] at ad hR ap;have HG:=kq2 ad hR;clear ad hR h hi h1 ai;go_enter func123,ntmps123;exact qTaaa
theorem LV(h:Ig w ps S Y)(hi:Fv S)(hh k x:Nat)(hl:hh<2^64)(hk:k<=2^62)(hx:x<2^64):
 Ct 167 #[PV ps,Xu hh,Xi k,Xu x] w fun e w'=>e=.returned (Xi ((S.put hh k x).1:Nat))/\Ig w' ps (S.put hh k x).2 Y/\Fo Y w w':=by
 have ad:=sJ h hi hh k hl hk;have h3:=hi.place_le hh k;have hY:=h.yl;obtain⟨R,hR⟩:=Ii (S.put hh k x);rw[hR];rw[St.put_place] at hR
 rcases S.place_cases hh k with⟨p,h1⟩ | ⟨er,h1⟩
 ·rw[h1] at ad h3 hR;simp only at ad h3 hR;obtain⟨pa,pm,ph,pt,v,h⟩:=h;obtain⟨_,_,c2,_,_⟩:=h.cells;have ap:=h.heap.write p x o_ hx;have HG:=kq4 ad hR ap h;clear ad hR h hi h1 ap hY;go_enter func167,ntmps167;go_wp2_with fail;refine Jc HG.a ?_;go_wp2_with fail;refine HG.c.M ?_;rintro e w1 ⟨rfl,ha,ai⟩;have HA:=kq2 (HG.d.arena ha ai) (ai.M fun _=>YS.self);clear ha ai;go_wp2_with fail;go_ret;obtain rfl:=HG.b;exact⟨rfl,⟨_,_,_,_,_,HA.a⟩,HA.b⟩
 ·rw[h1] at ad hR;simp only at ad hR;have ar:(((er+1:Nat):Int) !=0)=true:=m_
  obtain⟨g1,an⟩:=Ii (er+1);rw[an] at ad hR ar;have HG:=kq3 ad hR h;clear ad hR h hi h1 an hY;go_enter func167,ntmps167;go_wp2_with fail;refine Jc HG.a ?_;go_wp2_with fail;go_ret;obtain rfl:=HG.b;exact⟨rfl,HG.c,Fo.refl _ _⟩
end
section
open Go.RowKit Tryz
section
variable {F:Fence}{n:Nat}{P:Program}{ops:Array Oper}{md:Region.Mode}{C:World->Prop}
def yZ(ops:Array Oper):Bool:=ops.all fun o=>match o.op with | .defer _=>false | _=>true
theorem rL(h:yZ ops=true){i:Nat}{o:Oper}(ho:ops[i]?=some o):∀c,o.op≠ .defer c:=fun c hc=>by
 obtain⟨hi,rfl⟩:=Array.getElem?_eq_some_iff.1 ho;have:=Array.all_eq_true.1 h i hi;rw[hc] at this;cases this
theorem Fe {o:Oper}{a:Act}{K:Act->Prop}{K':Act->World->Prop}{Q':Exit->Act->World->Prop}{w:World}(hnd:∀c,o.op≠ .defer c)(hw:C w)(h:∀a w',C w'->K a->K' a w')
 (ha:o.askedIn F P a C) (hh:o.quietIn F n P a C K):o.wpIn F n P a w K' Q':=by
 obtain⟨v,h1,h2⟩:=hh;have h3:=h1 w hw;unfold Oper.quietAtIn at h3;refine⟨ha w hw,?_⟩;rw[Oper.semAt_eq _ _ _ hnd];generalize (execOp a.eval o).run P w=r at*;cases r with
 | ok x w'=>
  cases x<;>simp only[Oper.quietUponIn] at h3<;>simp only[Oper.uponIn]
  case value u=>
   grind
  case skip=>
   grind
  case enter f args=>
   obtain⟨e1,hd,hc⟩:=h3;rw[e1];exact⟨hd,hc.M fun e w'' ⟨he,hw''⟩=>by grind⟩
 | halt x w'=>simp only[Oper.quietUponIn] at h3
theorem Fh {i:Nat}{a:Act}{K:Act->Prop}{K':Act->World->Prop}{Q':Exit->Act->World->Prop}{w:World}(hnd:yZ ops=true)(hC:C w)(h:∀a w',C w'->K a->K' a w')
 (hh:qOpIn F n P ops C i K a):wpOpIn F n P ops Q' i K' a w:=by
 unfold qOpIn at hh;unfold wpOpIn;split
 ·grind
 ·rename_i o ho;simp only[ho] at hh;obtain⟨ha,hh⟩:=hh;split
  ·rename_i hw;simp only[hw,if_true] at hh;exact Fe (rL hnd ho) hC h ha hh
  ·rename_i hw;simp only[hw] at hh;exact⟨ha w hC,h _ _ hC hh⟩
theorem ye {Q:Act->Prop}{Q':Exit->Act->World->Prop}(hnd:yZ ops=true)(hQ:∀a w,C w->Q a->Q' .normal a w):∀(fuel:Nat) (listed:Array Bool) (a:Act) (w:World),C w->
 wpAnyQIn F n P md ops C Q fuel listed a->wpAnyIn F n P md ops Q' fuel listed a w
 | 0,_,_,_,hw,h=>⟨h.1,hQ _ _ hw h.2⟩
 | fuel+1,_,_,_,hw,h=>⟨fun h0=>hQ _ _ hw (h.1 h0),fun i hi=>Fh hnd hw (fun a' w' hw'=>ye hnd hQ fuel _ a' w' hw') (h.2 i hi)⟩
theorem Fg {id:Nat}{Q:Exit->Act->World->Prop}{a:Act}{w:World}(hnd:yZ ops=true)(hm:P.follows .mixedOrders=true)(hB:Region.lexB .any ops=true)(hC:C { w with drawn:=w.drawn+1 })
 (h:wpQuietIn F n P ops C (fun a'=>∀w',C w'->Q .normal a' w') ops.toList a):(Code.region id ops true).wpIn F n P Q a w:=by
 simp only[Region.lexB,aM] at hB;refine wpIn_region_any hm (ye (Q:=fun a'=>∀w',C w'->Q .normal a' w') hnd (fun _ w' hw' h=>h w' hw') _ _ _ _ hC ?_);have:=wpAnyQIn_lex (F:=F) (n:=n) (C:=C) (md:=.any) hB.1 ops.toList 0 (Array.replicate ops.size false) a s_ (by simpa using hB.2) h;omega
theorem pq {id:Nat}{Q:Exit->Act->World->Prop}{a:Act}{w:World}{l:List Oper}(I:World->Prop)(hnd:yZ l.toArray=true)(hm:P.follows .mixedOrders=true)(hB:Region.lexB .any l.toArray=true)
 (hI:I w.drew)
 (h:Nonempty (Fq I)->wpQuietIn F n P l.toArray (fun w'=>∃x:Fq I,w'=x.to) (fun a'=>∀w',(∃x:Fq I,w'=x.to)->Q .normal a' w') l a):(Code.region id l.toArray true).wpIn F n P Q a w:=
 Fg (C:=fun w'=>∃x:Fq I,w'=x.to) hnd hm hB ⟨⟨_,hI⟩,rfl⟩ (by simpa using h ⟨⟨_,hI⟩⟩)
theorem CallsIn.C6 {f:FuncId}{args:Array Value}{w:World}{v:Value}{x:Fq (D_ w)}
 (h:CallsIn F n P f args x.to fun e w'=>e=.returned v/\Below x.to.1.size x.to w'):CallsIn F n P f args x.to fun e w''=>e=.returned v/\∃y:Fq (D_ w),w''=y.to:=
 h.M fun _ _ ⟨he,hb⟩=>⟨he,⟨_,b_ x.ok hb⟩,rfl⟩
theorem CallsIn.keeps_same {f:FuncId}{args:Array Value}{I:World->Prop}{v:Value}{x:Fq I}
 (h:CallsIn F n P f args x.to fun e w'=>e=.returned v/\x.to=w'):CallsIn F n P f args x.to fun e w''=>e=.returned v/\∃y:Fq I,w''=y.to:=
 h.M fun _ _ ⟨he,hb⟩=>⟨he,x,hb.S⟩
end
end
section
open Go.RowKit Tryz Go.BigFrame Go.Maps Go.WideMaps Lf
open Go.Shelf
variable{B:Nat}{W:World}{Y:Nat->Prop}{blk:Nat->Nat}{v:Value}{w:World}
def Cx(W:World)(B i:Nat)(v:Value):Prop:=W.cell? (x_ B i)=some v/\W.frozen? (x_ B i)=false
theorem Cx.kept{W W':World}{row:Option Nat}{B i:Nat}(h:Cx W B i v)(hg:W.grownBy W' row)(hr:∀r,row=some r->∃o:Obj,W.1[r]?=some o/\o.isCells=false):Cx W' B i v:=
 ⟨cell_kept h.1 hg hr,(frozen_kept h.1 hg hr).T h.2⟩
theorem Cx.alloc{B i:Nat}(h:Cx W B i v)(o:Obj):Cx (W.alloc o) B i v:=h.kept (World.grownBy_alloc W o none) (fun r e=>by cases e)
theorem Cx.set{B i:Nat}(h:Cx W B i v)(u:Value):Cx (W.setCell (x_ B i) u) B i u:=
 ⟨World.cell?_setCell_same' _ _ _ (by rw[h.1];rfl),by rw[World.frozen?_setCell];exact h.2⟩
theorem Cx.u_{B C i j:Nat}(h:Cx W B i v)(u:Value)(hne:B≠C):Cx (W.setCell (x_ C j) u) B i v:=by
 refine⟨?_,by rw[World.frozen?_setCell];exact h.2⟩;have e:(W.setCell (x_ C j) u).cell? (x_ B i)=W.cell? (x_ B i):=World.cell?_of_block (cy W (x_ C j) u B hne);rw[e];exact h.1
theorem Cx.put{B D i:Nat}{o o':Obj}(h:Cx W B i v)(hD:W.1[D]?=some o)(ho:o.isCells=false):Cx (W.putObj D o') B i v:=
 h.kept (grownBy_putObj' W D o') (fun r e=>by cases e;exact⟨o,hD,ho⟩)
theorem Cx.a_{W W':World}{B n i:Nat}(h:Cx W B i v)(hb:Below n W W')(hB:B<n):Cx W' B i v:=
 ⟨(hb.cell (p:=x_ B i) hB).T h.1,(hb.frozen (p:=x_ B i) hB).T h.2⟩
theorem Cx.lt{B i:Nat}(h:Cx W B i v):B<W.1.size:=by
 have:=h.1;grind [World.cell?,Array.getElem?_eq_some_iff]
def Hx(W:World)(B:Nat)(x:Hr):Prop:=W.1[B]?=some (.cells #[Xi x.l_,Xi x.n,Xu x.w] 188 (0,0))
theorem Hx.new(W:World)(x:Hr):Hx (W.alloc (Xj x.l_ x.n x.w)) W.1.size x:=by
 show (W.1.push _)[W.1.size]?=_
 simp
theorem Hx.lt{x:Hr}(h:Hx W B x):B<W.1.size:=(gl h)
theorem Hx.kept{W W':World}{row:Option Nat}{x:Hr}(h:Hx W B x)(hg:W.grownBy W' row)(hr:∀r,row=some r->∃o:Obj,W.1[r]?=some o/\o.isCells=false):Hx W' B x:=
 (hg.block B h.lt (fun e=>by
  obtain⟨o,ho,hc⟩:=hr B e.S;rw[show W.1[B]?=_ from h] at ho;injection ho with ho
  rw[<-ho] at hc;cases hc)).T h
theorem Hx.alloc{x:Hr}(h:Hx W B x)(o:Obj):Hx (W.alloc o) B x:=h.kept (World.grownBy_alloc W o none) (fun r e=>by cases e)
theorem Hx.u_{B C j:Nat}{x:Hr}(h:Hx W B x)(u:Value)(hne:B≠C):Hx (W.setCell (x_ C j) u) B x:=(cy W (x_ C j) u B hne).T h
theorem Hx.put{B D:Nat}{x:Hr}{o o':Obj}(h:Hx W B x)(hD:W.1[D]?=some o)(ho:o.isCells=false):Hx (W.putObj D o') B x:=
 h.kept (grownBy_putObj' W D o') (fun r e=>by cases e;exact⟨o,hD,ho⟩)
theorem Hx.a_{W W':World}{B n:Nat}{x:Hr}(h:Hx W B x)(hb:Below n W W')(hB:B<n):Hx W' B x:=(hb.block B hB).T h
theorem Hx.set{x:Hr}(h:Hx W B x)(y:Hr):Hx (((W.setCell (y_ B) (Xi y.l_)).setCell (x_ B 1) (Xi y.n)).setCell (x_ B 2) (Xu y.w)) B y:=by
 have:=heap_setCell (v:=Xu y.w) (i:=2) (heap_setCell (v:=Xi y.n) (i:=1) (heap_setCell (v:=Xi y.l_) (i:=0) h));exact this
theorem Hx.c0{x:Hr}(h:Hx W B x):Cx W B 0 (Xi x.l_):=⟨e_ h,AT h⟩
theorem Hx.c1{x:Hr}(h:Hx W B x):Cx W B 1 (Xi x.n):=⟨e_ h,AT h⟩
theorem Hx.c2{x:Hr}(h:Hx W B x):Cx W B 2 (Xu x.w):=⟨e_ h,AT h⟩
theorem JX(t_ p:Nat)(x:Hr)(r:List (Nat×Hr)):fS t_ ((p,x)::r)=
 if x.l_=2/\t_=p*64+2 then some (p,0,x)
 else if x.l_≠1\/t_ / 64≠p then fS t_ r
 else match JL t_ p x with
  | some k=>some (p,k,x)
  | none=>fS t_ r:=rfl
theorem qx(t_:Nat)(x:Nat×Hr):∀q:List (Nat×Hr),fS t_ q=none->fS t_ (q++[x])=fS t_ [x]
 | [],_=>rfl
 | (p,y)::q,h=>by
  rw[JX] at h;rw[aJ,JX];split at h
  ·cases h
  ·rename_i h1;rw[if_neg h1];split at h
   ·rename_i h2;rw[if_pos h2];exact qx t_ x q h
   ·rename_i h2;rw[if_neg h2];split at h
    ·cases h
    ·exact qx t_ x q h
theorem qy(t_:Nat)(r:Nat×Nat×Hr):∀q t:List (Nat×Hr),fS t_ q=some r->fS t_ (q++t)=some r
 | (p,y)::q,t,h=>by
  rw[JX] at h;rw[aJ,JX];split at h
  ·rename_i h1;rw[if_pos h1];exact h
  ·rename_i h1;rw[if_neg h1];split at h
   ·rename_i h2;rw[if_pos h2];exact qy t_ r q t h
   ·rename_i h2;rw[if_neg h2];split at h
    ·exact h
    ·exact qy t_ r q t h
def od(r:Option (Nat×Nat×Hr)):Value:=match r with | some (p,k,x)=> .tuple #[Xi p,Xi k,fT x,.bool true] | none=> .tuple #[Xi 0,Xi 0,fT ⟨0,0,0⟩,.bool false]
theorem AU{q:Nat->Bool}{m:Nat}(h:∀j,j<m->q j=false):(List.range m).find? q=none:=
 bS.2 fun j hj=>by rw[h j (bw.1 hj)];simp
theorem AV{q:Nat->Bool}{m k:Nat}(hk:k<m)(hq:q k=true)(h:∀j,j<k->q j=false):(List.range m).find? q=some k:=by
 rw[List.find?_eq_some_iff_append];refine⟨hq,List.range k,(List.range (m-k-1)).map (·+(k+1)),?_,fun j hj=>by rw[h j (bw.1 hj)];rfl⟩;rw[show m=k+((m-k-1)+1) by omega,List.range_add,List.range_succ_eq_map]
 simp
 omega
attribute [local go_sem] Oper.semAt_some
theorem Em{pa pm:Nat}{s:r_}(h:eh w pa pm s Y blk)(hz:s.j_=[]):
 Cb 132 #[PV pa] w n_:=by
 refine(callsIn_wide (n:=6)).1 ?_;have ar:=h.map.lt;have c1:=h.cells.2;have a0:CallsIn Fence.wide 5 prog 151 #[PV pa] w _:=callsIn_wide.2 (ly h);have ai:Maps.size (fM s.j_ blk)<=maxLen:=by
  rw[ls,i8];have:=h.wf.room;have:=h.wf.E1;unfold maxLen;omega
 have ad:Maps.size (fM s.j_ blk)*8<=140737488355328:=by
  rw[ls,i8];have:=h.wf.room;have:=h.wf.E1;omega
 have an:SeqGives Fence.wide 2 prog 203 #[.pointer (some (y_ w.1.size))] encZ (fun ss=>ss.Perm (intKeys (fM s.j_ blk))) (Maps.size (fM s.j_ blk)) (w.alloc (.cells #[.map (some pm)] 153)):=
  AnyZI.keys_gives (ρ:=keysA_ren) { keysA with } Fence.wide _ trivial rfl o_ w.1.size pm s.B_.length (fM s.j_ blk) _ s_ s_ (by
   obtain⟨es,ap,hb,Ft,hs,hD⟩:=h.map;exact⟨es,ap,(cL _ _ pm ar).T hb,Ft,hs,hD⟩)
 have cK:∀mb W,CallsIn Fence.wide 5 prog 170 #[.map mb] W fun e w'=>e=.returned (.func (.func 203) #[] #[.pointer (some (y_ W.1.size))])/\w'=W.alloc (.cells #[.map mb] 153):=fun mb W=>AnyZI.keys_in keysA Fence.wide 5 trivial rfl mb W;have cS:=AnyZI.sorted_in sortedA Fence.wide 5 trivial trivial trivial trivial rfl o_ (wY _) (enters_of func202 k_ rfl) 203 #[.pointer (some (y_ w.1.size))] trivial (enters_of func203 k_ rfl) _ _ ai ad _ an;change CallsIn _ _ prog 169 _ _ _ at cS;have a1:Fence.wide.fn 170:=trivial;have a3:Fence.wide.fn 169:=trivial;have a2:Fence.wide.fn 151:=trivial;have HS:=If h;clear h ai ad an;refine callsIn_of_wp func132 rfl trivial ?_ rfl;simp only[ntmps132,aS,aj,aL,Nat.reduceAdd,Nat.reduceSub,aO,aP,aT,aR,aX,aJ]
 gi_wp2_with (first
  | (gi_at_call 151;refine a0.M ?_;rintro e w' ⟨rfl,rfl⟩)
  | (gi_at_call 170;refine(cK _ _).M ?_;rintro e w' ⟨rfl,rfl⟩)
  | (gi_at_call 169;refine cS.M ?_;rintro e w' ⟨v,ss,rfl,hS,C_,au,hb⟩))
 go_ret;obtain⟨hl,_⟩:=wX HS.O.wf hS;rw[hz] at hl;obtain rfl:=au.2 (bI.1 hl);exact⟨rfl,((aa _ w).alloc Ih _).T (hb.M s_)⟩
theorem Fz.pages_nil{ph pa pm q:Nat}(h:Fz w ph pa pm ⟨q,[]⟩ Y):
 Cb 132 #[PV pa] w n_:=by
 obtain⟨ad,hs⟩:=h.slab;exact Em hs rfl
theorem MU{ph pa pm q:Nat}(h:Fz w ph pa pm ⟨q,[]⟩ Y):
 Cb 85 #[PV ph] w (Xi 0):=by
 refine(callsIn_wide (n:=7)).1 ?_;have h1:1<=7:=o_
 have a6:Fence.wide.fn 101:=trivial;have a5:Fence.wide.fn 116:=trivial;have a7:Fence.wide.fn 132:=trivial;have a3:∀W,Fz W ph pa pm ⟨q,[]⟩ Y->CallsIn Fence.wide 6 prog 101 #[PV ph] W _:=fun W hW=>callsIn_wide.2 (dQ hW);have a2:∀W,CallsIn Fence.wide 6 prog 116 #[PV ph] W _:=fun W=>callsIn_wide.2 (qQ ph W);have HR:=If h;clear h;refine callsIn_of_wp_marks func85 rfl trivial ?_ rfl;simp only[ntmps85,aS,aj,aL,Nat.reduceAdd,Nat.reduceSub,aO,aP,aT,aR,aX,aJ];gi_wp2_with fail;have c0:=(Bx.new w (PV ph) 90).alloc (.cells #[Xi 0] 27);have c1:=Bx.new (w.alloc (Xm ph)) (Xi 0) 27;have ai:D_ w ((w.alloc (Xm ph)).alloc (.cells #[Xi 0] 27)):=((aa _ w).alloc Ih _).alloc s_ _;simp only[World.size_alloc] at c1;have a0:((w.alloc (Xm ph)).alloc (.cells #[Xi 0] 27)).1.size=w.1.size+1+1:=s_
 generalize ((w.alloc (Xm ph)).alloc (.cells #[Xi 0] 27))=w2 at*;refine(a3 w2 (HR.O.a_ ai)).M ?_;rintro e w3 ⟨rfl,rfl⟩;have k0:=c0.1;have H2:=kq4 c0 c1 ai a0;clear c0 c1 ai;gi_wp2_with fail;refine(a2 _).M ?_;rintro e w4 ⟨rfl,rfl⟩;gi_wp2_with fail;have k4:Bx (((w2.alloc (.cells #[Xi 0] 3)).alloc (Xm ph))) (w.1.size+1+1) (Xi 0):=by
  have:=(Bx.new w2 (Xi 0) 3).alloc (Xm ph);rwa[H2.d] at this
 have k5:Bx (((w2.alloc (.cells #[Xi 0] 3)).alloc (Xm ph))) (w.1.size+1+1+1) (PV ph):=by
  have:=Bx.new (w2.alloc (.cells #[Xi 0] 3)) (PV ph) 90;rwa[World.size_alloc,H2.d] at this
 have c0:=(H2.a.alloc (.cells #[Xi 0] 3)).alloc (Xm ph);have c1:=(H2.b.alloc (.cells #[Xi 0] 3)).alloc (Xm ph);have ar:D_ w ((w2.alloc (.cells #[Xi 0] 3)).alloc (Xm ph)):=(H2.c.alloc o_ _).alloc m_ _;have a9:((w2.alloc (.cells #[Xi 0] 3)).alloc (Xm ph)).1.size=w.1.size+1+1+1+1:=by simp[H2.d]
 clear a0 k0;generalize ((w2.alloc (.cells #[Xi 0] 3)).alloc (Xm ph))=W0 at*;have hW:=HR.O.wide ar;refine wpIn_rangeFunc_ownH rfl h1 (gf:=159) (lb:=#[PV (w.1.size+1+1+1)]) rfl trivial (enters_of func159 k_ rfl)
  (qR hW (Z:=fun _=>False) (fun k hk=>hk.elim) (w.1.size+1+1+1) k5.1 id) fe.T (fun W l o o' h1 h2 h3 h4=>fe.put W l o o' h1 h2 h3 h4) (aa _ _) (fun _=>rfl)
  (fun _ W=>(Bx W w.1.size (PV ph)/\Bx W (w.1.size+1) (Xi 0)/\Bx W (w.1.size+1+1) (Xi 0))/\D_ w W)
  (fun _ _ _=>False)
  (OwnFrom.and (Own.from (fun s A B row hs hg hr=>⟨hs.1.kept hg hr,hs.2.1.kept hg hr,hs.2.2.kept hg hr⟩) _) (ownFrom_below Ih o_))
  (fun cd=>Own.from (fun s A B row hs hg hr=>hs) _)
  ⟨⟨c0,c1,k4⟩,ar⟩
  (fun x a' W=>True) (fun x a' _ X W' row hs hg hr=>trivial)
  ?assign ?body ?done ?stop
 case assign=>
  rintro l a1 ⟨⟨p,kd,xn,xw⟩,hx⟩ W K ⟨⟨i0,i1,i2⟩,hB⟩ hK;have HH:=kq4 i0 i1 i2 hB;have HK:=If hK;clear i0 i1 i2 hB hK;simp only[mF,fT]
  gi_wp2
  have an:=HH.d;exact HK.O _ _ ((KeepsOthers.alloc _ _).from _) (fe.v_ ((aa _ W).alloc Ih _)) ⟨⟨HH.a.alloc _,HH.b.alloc _,HH.c.alloc _⟩,an.alloc an.size _⟩ trivial
 case body=>
  intro l a1 x a' W _ _ _ _ hlt;exact absurd hlt (Nat.not_lt_zero _)
 case done=>
  rintro D ys W hD _ ⟨⟨i0,i1,i2⟩,hB⟩ hK;have hH:=HR.O.a_ hB;have ca:=hH.cell;have k0:=i0.1;have k2:=i2.1;obtain⟨k1,f1⟩:=id i1;have au:∀x:Fq (D_ W),CallsIn Fence.wide 6 prog 132 #[PV pa] x.to _:=fun x=>CallsIn.C6 (callsIn_wide.2 (hH.a_ x.ok).pages_nil);have ba:∀x:Fq (D_ W),x.to.cell? (y_ w.1.size)=some (PV ph):=fun x=>(x.ok.cell (p:=y_ w.1.size) (Cx.lt (show Cx W _ 0 _ from i0))).T k0;have bb:∀x:Fq (D_ W),x.to.cell? (y_ (w.1.size+1+1))=some (Xi 0):=fun x=>(x.ok.cell (p:=y_ (w.1.size+1+1)) (Cx.lt (show Cx W _ 0 _ from i2))).T k2;have bc:∀x:Fq (D_ W),x.to.cell? (y_ ph)=some (PV pa):=fun x=>(x.ok.cell (p:=y_ ph) hH.lt).T ca;have HH:=kq3 au hB i1;clear hB i0 i1 i2 hH;gi_wp2_with fail;refine pq (D_ W) k_ k_ k_ ⟨rfl,rfl,rfl,Nat.le_refl _,fun _ _=>rfl⟩ fun⟨x0⟩=>?_
  repeat (first | gi_big_quiet_skip | (gi_big_quiet_want;gi_big_quiet_op;first | go_big_quiet_on | (apply Exists.intro;refine⟨fun x=>?_,?_⟩;(· with_reducible exact au x);go_big_quiet_on)))
  refine wpQuietIn_nil ?_;rintro _ ⟨x,rfl⟩;have j1:=HH.c.a_ x.ok (Cx.lt (show Cx W _ 0 _ from HH.c));obtain⟨bd,a4⟩:=id j1;have ap:x.to.1[D]?=some (.deferred (some [])):=(x.ok.block D (gl hK)).T hK;have HX:=kq3 j1 ap (b_ HH.b x.ok);clear j1 ap
  gi_wp2
  have ad:=(KeepsOthers.setCell x.to (y_ (w.1.size+1)) (Xi 0)).same D _ HX.b rfl;refine⟨s_,.inl ⟨_,_,rfl,run_takeDeferred ad,?_⟩⟩;have r1:=((HX.a.set (Xi 0)).put (o':=.deferred none) ad rfl).1;refine⟨Xi 0,?_,rfl,(HX.c.setCell (p:=y_ (w.1.size+1)) s_ _).T (belowK_b (w:=w) Ih _ D _ _ o_ ad rfl rfl)⟩
  simp[results,f85,go_sem,r1]
 case stop=>
  rintro D cd a1 W hD a8 hF;exact hF.elim
theorem Bw{pa pm q:Nat}(hs:eh w pa pm ⟨q,[]⟩ Y blk)(ht:gA w)(hyt:Y fy):
 Ct 46 #[PV pa] w fun e w'=>e=.returned (.tuple #[PV w.1.size,Xi 0])/\Fz w' w.1.size pa pm ⟨q,[]⟩ (lE Y w.1.size)/\D_ w w':=by
 have ad:=wR hs 0 o_;have an:r_.err ⟨q,[]⟩ 0=5:=rfl;rw[an] at ad;have hH:Fz (w.alloc (.cells #[PV pa] 160)) w.1.size pa pm ⟨q,[]⟩ (lE Y w.1.size):=by
  have hb:=(aa _ w).alloc Ih (.cells #[PV pa] 160);exact⟨⟨blk,hs.own _⟩,heap_alloc_new w _,ae rfl,ht.of_block (hb.block _ (hs.yl _ hyt)),ab hyt⟩
 have ai:=MU hH;have HG:=kq3 ad ai hH;clear ad ai hH an hs ht hyt;go_enter func46,ntmps46;go_wp2_with fail;refine Jc HG.a ?_;go_wp2_with fail;refine dR HG.b fun w1 hb=>?_;have HB:=If hb;clear hb;go_wp2_with fail;go_ret2;exact⟨rfl,HG.c.a_ HB.O,((aa _ w).alloc Ih _).T (HB.O.M s_)⟩
end
section
open Go.RowKit Tryz Go.BigFrame Go.Maps Go.WideMaps Lf
variable{Y:Nat->Prop}{w:World}
theorem Fz.pages'{ph pa pm:Nat}{s:r_}(h:Fz w ph pa pm s Y):
 Ct 132 #[PV pa] w fun e w'=>∃v,e=.returned v/\kU w' w.1.size v s.j_/\D_ w w':=by
 obtain⟨ad,hs⟩:=h.slab;exact wQ hs
theorem xo{ps:Nat}{S:St}(h:Ig w ps S Y):
 Cb 127 #[PV ps] w (Xi (S.words:Nat)):=by
 have ad:=sI h;obtain⟨pa,pm,ph,pt,v,h⟩:=h;obtain⟨_,_,c2,_,_⟩:=h.cells;have hw:=h.heap.wf;have h1:=hw.room;have h2:=hw.E1;have hk:=i8 S.a;have ai:Ct 132 #[PV pa] w fun e w'=>(∃A c,e=.returned (.slice A S.a.B_.length c))/\D_ w w':=by
  refine h.heap.pages'.M ?_;rintro e w' ⟨v,rfl,⟨A,c,rfl,_⟩,hb⟩;exact⟨⟨A,c,by rw[hk]⟩,hb⟩
 unfold St.words;generalize S.a.B_.length=m at*;have HG:=kq2 ad ai;have hm:m<=262144:=o_
 clear ad ai hk h hw h1 h2;go_enter func127,ntmps127;go_wp2_with fail;refine Jc HG.a ?_;go_wp2_with fail;refine HG.b.M ?_;rintro e w1 ⟨⟨A,c,rfl⟩,hb⟩;have HB:=If hb;clear hb;go_wp2_with fail;go_ret;exact⟨s_,HB.O⟩
theorem eh.empty_more{pa pm q:Nat}{blk:Nat->Nat}(h:eh w pa pm ⟨q,[]⟩ Y blk):eh w pa pm ⟨q,[]⟩ (fun k=>k<w.1.size/\k≠pa/\k≠pm) blk:=
 ⟨h.wf,h.hd,h.map,h.pg,h.inj,fun k=>k.2.1 rfl,fun k=>k.2.2 rfl,fun p hp=>absurd hp (by simp[r_.j_]),fun _ k=>k.1⟩
theorem qTaag{P:Prop}(h:P:=by
 exact ab (ab ⟨o_,o_,o_⟩)):P:=h
theorem qTaac{P:Prop}(h:P:=by
 exact⟨o_,by simp[Value.ownBlock]⟩):P:=h
theorem NA(ht:gA w)(q n l:Nat)(hq:q<=262144)(hn:1<=n/\n<=65536)(hl:1<=l/\l<4294967296):
 Ct 12 #[Xi q,Xi n,.int .u32 l] w fun e w'=>∃ps,e=.returned (.tuple #[PV ps,Xi 0])/\Ig w' ps ⟨⟨q,[]⟩,⟨n,l,[]⟩⟩ (fun k=>k<w.1.size)/\D_ w w'/\w.1.size<=ps:=by
 have a':fy<w.1.size:=ht.lt;have h1:=El q w (fun k=>k<w.1.size) (fun _ k=>k) hq;have HG:=kq2 h1 ht;clear h1 ht;go_enter func12,ntmps12;go_wp2_with fail;refine HG.a.M ?_;rintro e w1 ⟨rfl,hs,hk⟩;have a0:=hs.map.lt;have au:=(gl hs.hd);have H1:=kq4 hs hk.a_ a0 au;clear hs hk a0 au;go_wp2_with fail;refine(EK n l w1 hn hl).M ?_;rintro e w2 ⟨rfl,an,ap⟩;have a1:=(H1.a.a_ ap).empty_more;have ai:=b_ H1.b ap;have a2:=H1.b.size;have a3:=ap.size;have ar:=an.pt_lt;have H2:=kq6 a1 an ai a2 a3 ar;clear a1 an ap ai a2 a3 ar;go_wp2_with fail;have a4:gA w2:=HG.b.a_ H2.c Ih;have hz:fy<w2.1.size/\fy≠w.1.size+1/\fy≠w.1.size:=⟨by have:=H2.c.size;omega,o_,o_⟩;refine(Bw H2.a a4 hz).M ?_;rintro e w3 ⟨rfl,hH,ad⟩;have H3:=kq2 hH ad;clear hH ad a4 hz;go_wp2_with fail;go_ret2;have ad:=H3.b;obtain⟨a1,an,ai,a2,a3,ar⟩:=H2.O;obtain⟨_,_,a0,au⟩:=H1.O;have a7:=ad.size;have hH:=H3.a.own (.cells #[Xi n,.int .u32 l,PV (w.1.size+1),PV w2.1.size,PV w1.1.size] 94 (0,0));have a5:D_ w3 (w3.alloc (.cells #[Xi n,.int .u32 l,PV (w.1.size+1),PV w2.1.size,PV w1.1.size] 94 (0,0))):=(aa _ w3).alloc Ih _;have a8:=ai.size;have a6:=ai.T ((ad.T (a5.M a7)).M a8);have a9:=H3.a.lt;refine⟨w3.1.size,rfl,⟨w.1.size+1,w.1.size,w2.1.size,w1.1.size,n_,heap_alloc_new w3 _,?_,?_,?_⟩,a6,o_⟩
 ·refine hH.M ?_ (ae (ae (ab rfl))) (ae (ae (ae (ab rfl))));rintro k (hk | hk | hk | hk | hk | hk)
  ·exact qTaag
  ·exact ae hk
  ·exact ab (ae hk)
  ·subst hk;exact qTaag
  ·subst hk;exact qTaag
  ·cases hk
 ·exact an.of_keep (by rw[a5.block _ o_,ad.block _ ar]) fun b hb=>by cases hb
 ·rintro k (hk | hk | hk | hk)
  ·exact qTaac
  ·subst hk;exact qTaac
  ·subst hk;exact qTaac
  ·subst hk;exact qTaac
theorem xp(ht:gA w)(q n l:Nat)(hq:q<=262144)(hn:1<=n/\n<=65536)(hl:1<=l/\l<4294967296):
 Ct 12 #[Xi q,Xi n,.int .u32 l] w fun e w'=>∃ps,e=.returned (.tuple #[PV ps,Xi 0])/\Ig w' ps ⟨⟨q,[]⟩,⟨n,l,[]⟩⟩ (fun k=>k<w.1.size)/\D_ w w':=
 (NA ht q n l hq hn hl).M fun _ _ ⟨ps,h1,h2,h3,_⟩=>⟨ps,h1,h2,h3⟩
end
section
open Lf
variable{S:St}
theorem Od(p i x:Nat):∀(l:List (Nat×fQ)) (q:Nat),(l.map fun y=>if y.1=p then(y.1,y.2.set i x) else y).lookup q=(l.lookup q).map fun t=>if q=p then t.set i x else t
 | [],q=>rfl
 | (a,t)::l,q=>by
  have ih:=Od p i x l q;grind
theorem Lf.r_.page?_wr(s:r_)(a x q:Nat):(s.wr a x).page? q=(s.page? q).map fun t=>if q=a / 64 then t.set (a % 64) x else t:=Od (a / 64) (a % 64) x s.B_ q
theorem Lf.r_.rd_wr_ne(s:r_)(a x b:Nat)(h:b≠a):(s.wr a x).rd b=s.rd b:=by
 unfold r_.rd;rw[r_.page?_wr];grind
theorem Lf.St.place_some{h k p:Nat}(hp:S.place h k=(p,0)):∃j,S.t.of h=some j/\∃hj:j<S.t.p_.length,p=S.t.p_[j].t_+2+k/\k<S.a.rd (S.t.p_[j].t_+1)/\S.t.p_[j].is=1:=by
 cases hk:S.t.of h with
 | none=>
  unfold St.place at hp;rw[St.at_none hk] at hp
  simp at hp
 | some j=>
  obtain⟨hj,h1,_⟩:=Hs.of_lt hk;refine⟨j,rfl,hj,?_⟩;unfold St.place at hp;rw[St.at_some hk hj] at hp
  split at hp
  ·grind
  ·grind
theorem Fv.place_ne(hi:Fv S){h k p:Nat}(hp:S.place h k=(p,0))(i:Nat)(hl:i<S.t.p_.length)(h1:S.t.p_[i].is=1):S.t.p_[i].t_+1≠p:=by
 obtain⟨j,_,hj,rfl,hk,h2⟩:=St.place_some hp
 by_cases e:i=j
 ·grind
 ·have:=hi.apart i j hl hj e h1 h2;omega
theorem Fv.put(hi:Fv S)(h k x:Nat):Fv (S.put h k x).2:=by
 rw[St.put_place]
 rcases S.place_cases h k with⟨p,hp⟩ | ⟨e,hp⟩
 ·rw[hp];have key:∀(i:Nat) (hl:i<S.t.p_.length),S.t.p_[i].is=1->(S.a.wr p x).rd (S.t.p_[i].t_+1)=S.a.rd (S.t.p_[i].t_+1):=fun i hl h1=>r_.rd_wr_ne _ _ _ _ (hi.place_ne hp i hl h1);refine⟨fun i hl h1=>?_,fun i j hl hj hne h1 h2=>?_⟩
  ·have ad:S.t.p_[i].is=1:=h1
   show (S.a.wr p x).rd (S.t.p_[i].t_+1)<=3998/\_
   rw[key i hl ad];exact hi.len i hl ad
  ·show S.t.p_[i].t_+2+(S.a.wr p x).rd (S.t.p_[i].t_+1)<=S.t.p_[j].t_\/S.t.p_[j].t_+2+(S.a.wr p x).rd (S.t.p_[j].t_+1)<=S.t.p_[i].t_
   rw[key i hl h1,key j hj h2];exact hi.apart i j hl hj hne h1 h2
 grind
theorem wD(S:St)(h k x:Nat):(S.put h k x).2.t=S.t:=by
 grind [St.put_place]
theorem Fv.put_at(hi:Fv S)(h k x h':Nat):(S.put h k x).2.at h'=S.at h':=by
 cases hk:S.t.of h' with
 | none=>rw[St.at_none hk,St.at_none (by rw[wD];omega)]
 | some j=>
  obtain⟨hj,h1,_⟩:=Hs.of_lt hk;rw[St.at_some hk hj];rw[St.put_place]
  rcases S.place_cases h k with⟨p,hp⟩ | ⟨e,hp⟩
  ·rw[hp];refine(St.at_some (S:= { S with a:=S.a.wr p x }) (h:=h') hk hj).T ?_
   show (S.t.p_[j].t_,(S.a.wr p x).rd (S.t.p_[j].t_+1),0)=_
   rw[r_.rd_wr_ne _ _ _ _ (hi.place_ne hp j hj h1)]
  ·rw[hp];exact St.at_some hk hj
theorem rV(h:Nat):∀(l:List Nat) (S:St) (k:Nat),Fv S->Fv (FC S h k l)/\(∀h',(FC S h k l).at h'=S.at h')/\(FC S h k l).t=S.t
 | [],S,k,hi=>⟨hi,fun _=>rfl,rfl⟩
 | x::r,S,k,hi=>by
  obtain⟨h1,h2,h3⟩:=rV h r (S.put h k x).2 (k+1) (hi.put h k x);exact⟨h1,fun h'=>(h2 h').T (hi.put_at h k x h'),h3.T (wD S h k x)⟩
theorem yL(S:St):S.at 0=(0,0,7):=St.at_none (by rfl)
theorem fU(S:St):S.len 0=(0,7):=by unfold St.len;rw[yL]
