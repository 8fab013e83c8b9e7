/- Rows of pairs by rising keys: where a key lies among them; rows that are long; strings compared. -/
import Derived.Test.YtpljannolpapgaaGreatDoorVXh
set_option maxRecDepth 100000
set_option maxHeartbeats 1600000
namespace Go.Proofs.YtpljannolpapgaaGreatDoor
open Go.RowKit Tryz Go.BigFrame Go.Maps Go.WideMaps Lf Tr
abbrev ms(L:List (List UInt8×List UInt8)):Prop:=L.Pairwise fun p q=>Fu p.1 q.1<0
theorem qm {key:List UInt8}:∀{L:List (List UInt8×List UInt8)},ms L->(∀i p,L[i]?=some p->i<eK L key->Fu p.1 key<0)/\(∀i p,L[i]?=some p->eK L key<=i->¬Fu p.1 key<0)
 | [],_=>⟨fun _ _ h=>by simp at h,fun _ _ h=>by simp at h⟩
 | q::L,hs=>by
  obtain⟨hq,hL⟩:=aT.1 hs;obtain⟨ad,ai⟩:=qm (key:=key) hL;by_cases h:Fu q.1 key<0
  ·have hc:eK (q::L) key=eK L key+1:=by
    unfold eK;rw[cO (by simpa using h)]
   rw[hc];refine⟨fun i p hp hi=>?_,fun i p hp hi=>?_⟩
   ·cases i with
    | zero=>simp at hp;rw[<-hp];exact h
    | succ i=>exact ad i p (by simpa using hp) (by omega)
   ·cases i with
    | zero=>omega
    | succ i=>exact ai i p (by simpa using hp) (by omega)
  ·have hn:∀p∈L,¬Fu p.1 key<0:=fun p hp hl=>h (ig (hq p hp) hl);have hc:eK (q::L) key=0:=by
    unfold eK;rw[dB];intro p hp;rcases ag.1 hp with rfl | hp
    ·simpa using h
    ·simpa using hn p hp
   rw[hc];refine⟨fun i p hp hi=>by omega,fun i p hp _=>?_⟩;cases i with
   | zero=>simp at hp;rw[<-hp];exact h
   | succ i=>exact hn p (ce (by simpa using hp))
theorem Az {a b:List UInt8}(h:¬Fu a b<0)(hn:a≠b):Fu b a<0:=by
 rw[ie]
 rcases cN (Fu a b) 0 with g | g | g
 ·exact absurd g h
 ·exact absurd (jL g) hn
 ·omega
theorem Dh {L:List (List UInt8×List UInt8)}(hs:ms L){key v:List UInt8}(h:Bt.getL L key=some v):L[eK L key]?=some (key,v):=by
 obtain⟨h1,h2⟩:=qm (key:=key) hs;unfold Bt.getL at h;rw[aC] at h;obtain⟨p,hp,rfl⟩:=h;have hm:=bI hp;have hk:p.1=key:=by simpa using cE hp
 obtain⟨j,hj,ad⟩:=bT.1 hm;have ai:L[j]?=some p:=by rw[af hj,ad]
 have ar:eK L key<=j:=by
  rcases bW j (eK L key) with g | g
  ·have:=h1 j p ai g;rw[hk,fX] at this;omega
  ·exact g
 have an:j=eK L key:=by
  rcases bW (eK L key) j with g | g
  ·exfalso
   have hc:eK L key<L.length:=by omega
   have al:=bJ.1 hs (eK L key) j hc hj g;rw[ad,hk] at al;exact h2 _ _ (af hc) Ih al
  ·omega
 rw[<-an,ai,<-hk]
theorem Dg {L:List (List UInt8×List UInt8)}(hs:ms L){key:List UInt8}(h:Bt.getL L key=none):(∀p,L[eK L key]?=some p->Fu key p.1<0)/\∀i p,i<eK L key->L[i]?=some p->Fu p.1 key<0:=by
 obtain⟨h1,h2⟩:=qm (key:=key) hs;refine⟨fun p hp=>Az (h2 _ p hp Ih) fun q=>?_,fun i p hi hp=>h1 i p hp hi⟩;unfold Bt.getL at h;rw[Option.map_eq_none_iff] at h;have:=bB.1 h p (ce hp);rw[q] at this;simp at this
theorem qe:∀a b:List UInt8,Op.bytesLess a b=decide (Fu a b<0)
 | [],[]=>rfl
 | [],_::_=>rfl
 | _::_,[]=>rfl
 | a::x,b::y=>by
  have ih:=qe x y;unfold Op.bytesLess Fu;rw[ih];by_cases h1:a<b
  ·simp[h1]
  ·by_cases h2:b<a
   ·have:¬a=b:=fun q=>by subst q;exact h1 h2
    simp[h1,h2,this]
   ·have:a=b:=dT (dj.1 h2) (dj.1 h1);simp[this]
theorem pe(a:List UInt8):(⟨a.toArray⟩:ByteArray).toList=a:=ByteArray.toList_mk a
def jb(l:List (List UInt8×List UInt8)):Bool:=l.any fun p=>decide (1000<p.1.length) || decide (1000<p.2.length)
theorem Cl {l:List (List UInt8×List UInt8)}(h:jb l=false):pK l:=fun p hp=>by
 unfold jb at h;have:=List.any_eq_false.1 h p hp;simp at this
 omega
theorem Cm {w:World}{v:Value}{l:List (List UInt8×List UInt8)}(hv:PRow w v l)(hl:l.length<=100000):
 Ct 10 #[v] w fun e w'=>e=.returned (.bool (jb l))/\w=w':=by
 obtain⟨A,c,rfl,hc⟩:=hv;obtain⟨n,hn⟩:=Ii l.length;have HC:=kq2 hc hn;rw[hn] at hl⊢;obtain⟨R,hR⟩:=Ii (jb l);have HR:=If hR;rw[hR];clear hc hn hR;go_enter func10,ntmps10;go_wp2_with fail
 go_loopw [3] (fun s3 wr=>∃i:Nat,s3=Xi i/\i<=n/\Hid (jb (l.take i)=false)/\wr=w) (fun s3 _=>n-(intOf s3).toNat)
 case atStart=>exact⟨0,rfl,by omega,If rfl,rfl⟩
 case round=>
  obtain⟨i,rfl,a2,I0,rfl⟩:=hrel
  by_cases hi:i<n
  ·have a0:(i:Int)<n:=by omega
   have ad:i<l.length:=by rw[HC.b];exact hi
   obtain⟨g,o,rfl,c0,c1⟩:=HC.a i ad;obtain⟨pk,ai⟩:=Ii l[i];rw[ai] at c0 c1;obtain⟨a,b⟩:=pk;have an:jb (l.take (i+1))=(decide (1000<a.length) || decide (1000<b.length)):=by
    have:=I0.out;rw[xB ad,ai];unfold jb at this⊢;rw[List.any_append,this]
    simp
   have al:jb (l.take (i+1))=true->jb l=true:=fun h=>by
    unfold jb at h⊢;obtain⟨x,hx,a1⟩:=List.any_eq_true.1 h;exact List.any_eq_true.2 ⟨x,bC hx,a1⟩
   have HN:=kq2 an al;clear ai an al ad
   by_cases ha:1000<a.length
   ·have ar:(1000<(a.length:Int))=True:=eq_true (by omega);go_wp2_with fail;go_ret;exact⟨by rw[<-HR.out,HN.b (by rw[HN.a,decide_eq_true ha];rfl)];rfl,rfl⟩
   ·have ar:(1000<(a.length:Int))=False:=eq_false (by omega)
    by_cases hb:1000<b.length
    ·have au:(1000<(b.length:Int))=True:=eq_true (by omega);go_wp2_with fail;go_ret;exact⟨by rw[<-HR.out,HN.b (by rw[HN.a,decide_eq_true hb,Bool.or_true])];rfl,rfl⟩
    ·have au:(1000<(b.length:Int))=False:=eq_false (by omega);go_wp2_with fail;go_roundw
     case rel=>exact⟨i+1,by simp,by omega,If (by rw[HN.a,decide_eq_false ha,decide_eq_false hb];rfl),by first | rfl | trivial⟩
     case measure=>simp[intOf];omega
  ·obtain rfl:i=n:=by omega
   have a0:¬(i:Int)<i:=by omega
   have hF:jb l=false:=by have:=I0.out;rwa[aZ (by rw[HC.b];exact Nat.le_refl _)] at this
   have HF:=If (HR.out.symm.trans hF);clear hF;go_wp2_with fail;go_ret;exact⟨by rw[HF.out];rfl,rfl⟩