/- Rows of F_ by rising j_: where a key lies among them; rows that are long; strings compared. -/
import Derived.Test.YtpljannolpapgaaGreatDoorRIb
set_option maxRecDepth 100000
set_option maxHeartbeats 1600000
namespace Go.Proofs.YtpljannolpapgaaGreatDoor
open Go.RowKit Tryz Go.BigFrame Go.Maps Go.WideMaps Lf Tr
def jb(l:List (List UInt8×List UInt8)):Bool:=l.any fun p=>decide (1000<p.1.length) || decide (1000<p.2.length)
theorem Cl {l:List (List UInt8×List UInt8)}(h:jb l=false):pK l:=fun p hp=>by
 unfold jb at h;have:=List.any_eq_false.1 h p hp;simp at this
 omega
theorem Cm {w:World}{v:Value}{l:List (List UInt8×List UInt8)}(hv:PRow w v l)(hl:l.length<=100000):
 Ct 10 #[v] w fun e w'=>e=.returned (.bool (jb l))/\w=w':=by
 obtain⟨A,c,rfl,hc⟩:=hv;obtain⟨n,hn⟩:=Ii l.length;have HC:=kq2 hc hn;rw[hn] at hl⊢;obtain⟨R,hR⟩:=Ii (jb l);have HR:=If hR;rw[hR];clear hc hn hR;go_enter func10,ntmps10;go_wp2_with fail
 go_loopw [3] (fun s3 wr=>∃i:Nat,s3=Xi i/\i<=n/\Hid (jb (l.take i)=false)/\wr=w) (fun s3 _=>n-(intOf s3).toNat)
 case atStart=>exact⟨0,rfl,o_,If rfl,rfl⟩
 case round=>
  obtain⟨i,rfl,a1,I0,rfl⟩:=hrel
  by_cases hi:i<n
  ·have hlt:(i:Int)<n:=o_
   have ad:i<l.length:=by rw[HC.b];exact hi
   obtain⟨g,o,rfl,c0,c1⟩:=HC.a i ad;obtain⟨pk,ai⟩:=Ii l[i];rw[ai] at c0 c1;obtain⟨a,b⟩:=pk;have ap:jb (l.take (i+1))=(decide (1000<a.length) || decide (1000<b.length)):=by
    have:=I0.O;rw[xB ad,ai];unfold jb at this⊢;rw[List.any_append,this]
    simp
   have an:jb (l.take (i+1))=true->jb l=true:=fun h=>by
    unfold jb at h⊢;obtain⟨x,hx,a0⟩:=List.any_eq_true.1 h;exact List.any_eq_true.2 ⟨x,bD hx,a0⟩
   have HN:=kq2 ap an;clear ai ap an ad
   by_cases ha:1000<a.length
   ·have ar:(1000<(a.length:Int))=True:=eq_true o_;go_wp2_with fail;go_ret;exact⟨by rw[<-HR.O,HN.b (by rw[HN.a,decide_eq_true ha];rfl)];rfl,rfl⟩
   ·have ar:(1000<(a.length:Int))=False:=eq_false o_
    by_cases hb:1000<b.length
    ·have au:(1000<(b.length:Int))=True:=eq_true o_;go_wp2_with fail;go_ret;exact⟨by rw[<-HR.O,HN.b (by rw[HN.a,decide_eq_true hb,Bool.or_true])];rfl,rfl⟩
    ·have au:(1000<(b.length:Int))=False:=eq_false o_;go_wp2_with fail;go_roundw
     case rel=>exact⟨i+1,s_,o_,If (by rw[HN.a,decide_eq_false ha,decide_eq_false hb];rfl),by first | rfl | trivial⟩
     case measure=>simp[intOf];omega
  ·obtain rfl:i=n:=o_
   have hlt:¬(i:Int)<i:=o_
   have hF:jb l=false:=by have:=I0.O;rwa[aQ (by rw[HC.b];exact Nat.le_refl _)] at this
   have HF:=If (HR.O.S.T hF);clear hF;go_wp2_with fail;go_ret;exact⟨by rw[HF.O];rfl,rfl⟩