/- The document's answers about rows of F5: Compare, Rank, Find: the walks. -/
import Derived.Test.YtpljannolpapgaaGreatDoorUIh
set_option maxRecDepth 100000
set_option maxHeartbeats 1600000
namespace Go.Proofs.YtpljannolpapgaaGreatDoor
open Go.RowKit Tryz Go.BigFrame Go.Maps Go.WideMaps Lf Tr
theorem GM {a:List UInt8}{i:Nat}(h:i<a.length)(W:World):(Instr.index 9 (SV a) (Xi (i:Nat))).run prog W=.ok (.int .u8 ((a[i].toNat:Nat):Int)) W:=by
 have hs:(⟨a.toArray⟩:ByteArray).size=a.length:=by show a.toArray.size=_;simp
 unfold SV;rw[run_index_string _ _ _ _ _ underlying9,dif_pos ⟨o_,by rw[hs];omega⟩]
 rfl
theorem GU {a b:List UInt8}{i:Nat}(h1:i<a.length)(h2:i<b.length):Fu (a.drop i) (b.drop i)=if a[i]<b[i] then-1 else if b[i]<a[i] then 1 else Fu (a.drop (i+1)) (b.drop (i+1)):=by
 rw[aZ h1,aZ h2];rfl
theorem GV {a b:List UInt8}{i:Nat}(h1:i<=a.length)(h2:i<=b.length)(h:¬(i<a.length/\i<b.length)):Fu (a.drop i) (b.drop i)=if a.length<b.length then-1 else if b.length<a.length then 1 else 0:=by
 by_cases q:i<a.length
 ·obtain rfl:i=b.length:=o_
  rw[List.drop_length,aZ q,if_neg o_,if_pos o_]
  rfl
 ·obtain rfl:i=a.length:=o_
  rw[List.drop_length]
  by_cases r:a.length<b.length
  ·rw[aZ r,if_pos r]
   rfl
  ·rw[if_neg r,if_neg o_,co o_]
   rfl
theorem qRfab{P:Prop}(h:P:=by
 go_wp2_with fail;go_ret;exact⟨by rw[hR];rfl,I1.O⟩):P:=h
theorem qRfaa{P:Prop}(h:P:=by
 go_wp2_with fail
 go_quiet (fail)
 go_wp2_with fail;go_ret;exact⟨by rw[hR];rfl,I1.O.T ⟨rfl,rfl,rfl,Nat.le_refl _,fun _ _=>rfl⟩⟩):P:=h
theorem Gk(a b:List UInt8)(hb:b.length<2^62)(w:World):
 Cb 100 #[SV a,SV b] w (Xi (Fu a b)):=by
 obtain⟨R,hR⟩:=Ii (Fu a b);rw[hR];obtain⟨n,hn⟩:=Ii a.length;obtain⟨m,hm⟩:=Ii b.length;have HG:=kq3 hR hn hm;rw[hm] at hb;have ap:∀W,(Builtin.len_ #[9] 3 #[SV a]).run prog W=.ok (Xi (n:Nat)) W:=fun W=>by rw[<-hn];exact(run_len_string (P:=prog) W 9 3 _ underlying9).T (by simp[goInt,ByteArray.size])
 have ar:∀W,(Builtin.len_ #[9] 3 #[SV b]).run prog W=.ok (Xi (m:Nat)) W:=fun W=>by rw[<-hm];exact(run_len_string (P:=prog) W 9 3 _ underlying9).T (by simp[goInt,ByteArray.size])
 clear hR hn hm;go_enter func100,ntmps100;go_wp2_with fail
 go_loopw [5] (fun s5 wr=>∃i:Nat,s5=Xi i/\i<=n/\i<=m/\Hid (Fu (a.drop i) (b.drop i)=R)/\Hid (D_ w wr)) (fun s5 _=>n-(intOf s5).toNat)
 case atStart=>exact⟨0,rfl,o_,o_,If HG.a,If (aa _ _)⟩
 case round=>
  obtain⟨i,rfl,an,ai,I0,I1⟩:=hrel
  by_cases hi:i<n/\i<m
  ·have h1:((i:Int)<n)=True:=eq_true o_;have h2:((i:Int)<m)=True:=eq_true o_;have ga:i<a.length:=by rw[HG.b];exact hi.1
   have gb:i<b.length:=by rw[HG.c];exact hi.2
   have xa:=GM ga;have xb:=GM gb;have hc:=GU ga gb;rw[I0.O] at hc;generalize a[i]=x at xa hc;generalize b[i]=y at xb hc;have HC:=If hc
   by_cases q:x<y
   ·have q1:(((x.toNat:Nat):Int)<((y.toNat:Nat):Int))=True:=eq_true (by have:=dx.1 q;omega);have hR:R= -1:=by rw[HC.O,if_pos q]
    clear hi ga gb hc q;exact qRfaa
   ·have q1:(((x.toNat:Nat):Int)<((y.toNat:Nat):Int))=False:=eq_false (fun h=>q (dx.2 o_))
    by_cases r:y<x
    ·have r1:(((y.toNat:Nat):Int)<((x.toNat:Nat):Int))=True:=eq_true (by have:=dx.1 r;omega);have hR:R=1:=by rw[HC.O,if_neg q,if_pos r]
     clear hi ga gb hc q r;go_wp2_with fail
     go_quiet (fail)
     exact qRfaa
    ·have r1:(((y.toNat:Nat):Int)<((x.toNat:Nat):Int))=False:=eq_false (fun h=>r (dx.2 o_));have hR:Fu (a.drop (i+1)) (b.drop (i+1))=R:=by rw[HC.O,if_neg q,if_neg r]
     have HR:=If hR;have ad:i+1<=n/\i+1<=m:=o_
     clear hi ga gb hc q r hR;go_wp2_with fail
     go_quiet (fail)
     go_wp2_with fail
     go_quiet (fail)
     go_wp2_with fail;go_roundw
     case rel=>exact⟨i+1,s_,ad.1,ad.2,HR,If (I1.O.T ⟨rfl,rfl,rfl,Nat.le_refl _,fun _ _=>rfl⟩)⟩
     case measure=>simp[intOf];omega
  ·have he:=GV (a:=a) (b:=b) (i:=i) (by rw[HG.b];exact an) (by rw[HG.c];exact ai) (by rw[HG.b,HG.c];exact hi);rw[I0.O,HG.b,HG.c] at he
   by_cases h1:i<n
   ·obtain rfl:i=m:=o_
    have g1:((i:Int)<n)=True:=eq_true o_;have g2:((i:Int)<i)=False:=eq_false o_;have g3:((n:Int)<i)=False:=eq_false o_;have hR:R=1:=by rw[he,if_neg o_,if_pos o_]
    clear hi he h1;exact qRfab
   ·obtain rfl:i=n:=o_
    have g1:((i:Int)<i)=False:=eq_false o_
    by_cases h2:i<m
    ·have g2:((i:Int)<m)=True:=eq_true o_;have hR:R= -1:=by rw[he,if_pos h2]
     clear hi he h1 h2;exact qRfab
    ·obtain rfl:i=m:=o_
     have hR:R=0:=by rw[he,if_neg h2,if_neg h2]
     clear hi he h1 h2;exact qRfab
theorem Hl {w:World}{v:Value}{l:List (List UInt8×List UInt8)}(hv:PRow w v l)(hl:l.length<=100000)(key:List UInt8)(hk:key.length<2^62):
 Cb 60 #[v,SV key] w (Xi (eK l key:Nat)):=by
 obtain⟨A,c,rfl,hc⟩:=hv;obtain⟨n,hn⟩:=Ii l.length;have ar:=fun(x:List UInt8) W=>Gk x key hk W;have HG:=kq3 hc hn ar;rw[hn] at hl⊢;clear hc hn ar hk;go_enter func60,ntmps60;go_wp2_with fail
 go_loopw [5,6] (fun s5 s6 wr=>∃i:Nat,s6=Xi i/\i<=n/\∃k:Nat,s5=Xi k/\k<=i/\Hid (eK (l.take i) key=k)/\Hid (D_ w wr)) (fun _ s6 _=>n-(intOf s6).toNat)
 case atStart=>exact⟨0,rfl,o_,0,rfl,o_,If rfl,If (aa _ _)⟩
 case round=>
  obtain⟨i,rfl,a0,k,rfl,a1,I0,I1⟩:=hrel
  by_cases hi:i<n
  ·have au:(i:Int)<n:=o_
   have ai:i<l.length:=by rw[HG.b];exact hi
   obtain⟨g,o,rfl,c0,c1⟩:=HG.a i ai
   replace c0:=(I1.O.cell (p:=⟨g,o+i*2,none⟩) (cell_lt c0)).T c0
   obtain⟨pk,an⟩:=Ii l[i];rw[an] at c0;obtain⟨a,b⟩:=pk;have ap:eK (l.take (i+1)) key=k+if Fu a key<0 then 1 else 0:=by
    rw[xB ai,an,<-I0.O];unfold eK;rw[List.countP_append]
    congr 1
    by_cases q:Fu a key<0
    ·rw[if_pos q,dm (by simpa using q)]
     rfl
    ·rw[if_neg q,List.countP_cons_of_neg (by simpa using q)]
     rfl
   obtain⟨C,hC⟩:=Ii (Fu a key);have ad:=HG.c a wr;rw[hC] at ap ad;have HP:=kq2 ap ad;clear ap ad hC c1 an ai;go_wp2_with fail;refine e9 HP.b fun w2 hb2=>?_;have H2:=If (b_ I1.O hb2);clear hb2
   by_cases q:C<0
   ·have hs:=HP.a;rw[if_pos q] at hs;have HS:=If hs;clear hs;go_wp2_with fail;go_roundw
    case rel=>exact⟨i+1,s_,o_,k+1,s_,o_,HS,H2⟩
    case measure=>simp[intOf];omega
   ·have hs:=HP.a;rw[if_neg q] at hs;have HS:=If hs;clear hs;go_wp2_with fail;go_roundw
    case rel=>exact⟨i+1,s_,o_,k,rfl,o_,HS,H2⟩
    case measure=>simp[intOf];omega
  ·obtain rfl:i=n:=o_
   have au:¬(i:Int)<i:=o_
   have hF:=I0.O;rw[aJ (by rw[HG.b];exact Nat.le_refl _)] at hF;have HF:=If hF;clear hF;go_wp2_with fail;go_ret;exact⟨by rw[HF.O];rfl,I1.O⟩