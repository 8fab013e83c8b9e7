/- Who has which record: had: the walk. -/
import Derived.Test.YtpljannolpapgaaGreatDoorTDh
import Derived.LaidEqlPtr
set_option maxRecDepth 100000
set_option maxHeartbeats 6400000
namespace Go.Proofs.YtpljannolpapgaaGreatDoor
open Go.RowKit Tryz Go.BigFrame Go.Maps Go.WideMaps Lf Tr
variable{S:St}{Y:Nat->Prop}{j:Nat}{o:Nat->Nat}{w:World}
def e9(ps:Nat)(ms:List (Nat×Nat×List Nat)):List Nat:=ms.flatMap fun m=>if m.2.1=ps then m.2.2 else[]
theorem Mn(ps:Nat)(ms:List (Nat×Nat×List Nat))(hj:j<ms.length):e9 ps (ms.take (j+1))=e9 ps (ms.take j)++(if ms[j].2.1=ps then ms[j].2.2 else[]):=by
 unfold e9;rw[aw hj,List.flatMap_append];simp
theorem Mm(ps:Nat)(ms:List (Nat×Nat×List Nat))(j:Nat):(e9 ps (ms.take j)).length<=(e9 ps ms).length:=by
 have:e9 ps ms=e9 ps (ms.take j)++e9 ps (ms.drop j):=by
  unfold e9;rw[<-List.flatMap_append,aS]
 rw[this,ag];omega
theorem M5:∃j,prog.info? 94=some j/\j.size≠0:=by
 have e:(prog.info? 94).map (·.size)=some 5:=k_
 cases hj:prog.info? 94 with
 | none=>rw[hj] at e;cases e
 | some j=>
  rw[hj] at e;exact⟨j,rfl,by have:j.size=5:=Option.some.inj e;omega⟩
theorem LW{a b:Nat}{ca cb:Array Value}{ta tb:TypeId}(w:World)(ha:w.1[a]?=some (.cells ca ta (0,0)))(hb:w.1[b]?=some (.cells cb tb (0,0))):
 (binOp .neq 26 (PV a) (PV b)).run prog w=.ok (.bool (decide (a≠b))) w:=by
 obtain⟨j,hj,hz⟩:=M5;have hp:=underlying26;have h:∀d:Nat,(Op.equalIn (d+1) 26 (.pointer (some (y_ a))) (.pointer (some (y_ b)))).run prog w=.ok (decide (a=b)) w:=fun d=>by
  by_cases e:a=b
  ·subst e
   simp[Op.equalIn,run_underlying hp,sizeOf,typeInfo,hj,run_sameAddr_same]
  ·have ad:((y_ a):Addr)≠(y_ b):=fun q=>e (by injection q)
   simp[Op.equalIn,run_underlying hp,sizeOf,typeInfo,hj,hz,run_sameAddr_other w ad ha hb,e]
 show (binOp .neq 26 (.pointer (some (y_ a))) (.pointer (some (y_ b)))).run prog w=_
 simp only[binOp];have h9:=h 9999
 by_cases e:a=b
 ·subst e
  simp[Op.equal,Op.maxDepth,h9]
 ·simp[Op.equal,Op.maxDepth,h9,e]
structure JM (w:World) (ps bm:Nat) (ms:List (Nat×Nat×List Nat)):Prop where
 cell:∀i (hi:i<ms.length),w.cell? (x_ bm i)=some (PV ms[i].1)
 lt:bm<w.1.size
 st:∀m∈ms,∀W,D_ w W->Ct 70 #[PV m.1] W fun e w'=>e=.returned (PV m.2.1)/\W=w'
 of:∀m∈ms,m.2.1=ps->∀W,D_ w W->Ct 36 #[PV m.1] W fun e w'=>∃v,e=.returned v/\FE w' W.1.size v m.2.2/\D_ W w'
 own:∀m∈ms,∃cs ty,w.1[m.2.1]?=some (.cells cs ty (0,0))
 hlt:∀m∈ms,∀x∈m.2.2,x<2^64
 len:(e9 ps ms).length<=10000/\ms.length<=1000
theorem JM.a_{w W:World}{ps bm:Nat}{ms:List (Nat×Nat×List Nat)}(h:JM w ps bm ms)(hb:D_ w W):JM W ps bm ms where
 cell i hi:=(xA (hb.block bm h.lt)).T (h.cell i hi)
 lt:=aE h.lt hb.size
 st m hm V hV:=h.st m hm V (b_ hb hV)
 of m hm e V hV:=h.of m hm e V (b_ hb hV)
 own m hm:=by
  obtain⟨cs,ty,e⟩:=h.own m hm;exact⟨cs,ty,(hb.block _ (gl e)).T e⟩
 hlt:=h.hlt
 len:=h.len
theorem qNfaa{P:Prop}(h:P:=by
 go_wp2_with fail;go_roundw
 case rel=>exact⟨i+1,o_,s_,HE⟩
 case measure=>simp[intOf];omega):P:=h
theorem LS{ps bm cm:Nat}{ms:List (Nat×Nat×List Nat)}(h:Ig w ps S Y)(hf:Fw S o)(hm:JM w ps bm ms):
 Ct 67 #[PV ps,.slice (some (y_ bm)) ms.length cm,n_] w fun e w'=>e=.returned (.tuple #[.map (some w.1.size),Xi 0])/\mq w' w.1.size (e9 ps ms)/\D_ w w':=by
 have a4:=fB h hf.inv 0 o_;rw[oy (rZ hf)] at a4;generalize hn:ms.length=n at*;have cp:n<=1000:=by rw[<-hn];exact hm.len.2
 obtain⟨a8,bk⟩:∃a8,w.1[ps]?=some (.cells a8 94 (0,0)):=by
  obtain⟨_,_,_,_,_,hI⟩:=id h;exact⟨_,hI.hd⟩
 have HP:=If bk;have HR:=kq3 a4 hm hn;clear bk a4 hm hn h hf;go_enter func67,ntmps67;go_wp2_with fail;refine Jc HR.a ?_;go_wp2_with fail
 go_loopw [11,34] (fun _ s34 wr=>∃j:Nat,j<=n/\s34=Xi j/\wr=w) (fun _ s34 _=>n-(intOf s34).toNat)
 case atStart=>exact⟨0,o_,rfl,rfl⟩
 case round=>
  obtain⟨j,cj,rfl,hw⟩:=hrel;have hw:=hw.S;subst hw
  by_cases hlt:j<n
  ·have a5:(j:Int)<n:=o_
   have bc:j<ms.length:=by rw[HR.c];exact hlt
   have cc:=HR.b.cell j bc;have bs:=HR.b.st ms[j] (aq _) _ (aa _ _);generalize ms[j].1=pj at*;generalize ms[j].2.1=qj at*;have HS:=If bs;clear bs bc;go_wp2_with fail;refine Jc HS.O ?_;go_wp2_with fail;go_roundw
   case rel=>exact⟨j+1,o_,s_,s_⟩
   case measure=>simp[intOf];omega
  ·obtain rfl:j=n:=o_
   have a5:¬(j:Int)<j:=o_
   have bu:¬(0:Int)<0:=o_
   go_wp2_with fail
   go_loopw [13,14,15,44] (fun _ _ _ s44 wq=>s44=Xi 0/\wq=w) (fun _ _ _ _ _=>0)
   case atStart=>exact⟨rfl,rfl⟩
   obtain⟨rfl,hw⟩:=hrel;have hw:=hw.S;subst hw;have b9:= @run_makeMap prog;go_wp2_with fail;clear b9;have c0:=mq.made w;have B0:D_ w (w.alloc (.map #[] 0)):=(aa _ _).alloc Ih _;generalize bv:w.alloc (.map #[] 0)=W0 at*;have H0:=kq2 c0 B0;clear c0 B0 bv
   go_loopw [18,20,60,69,70,71] (fun _ _ s60 _ _ _ wx=>∃i:Nat,i<=j/\s60=Xi i/\Hid (mq wx w.1.size (e9 ps (ms.take i))/\D_ w wx)) (fun _ _ s60 _ _ _ _=>j-(intOf s60).toNat)
   case atStart=>exact⟨0,o_,rfl,H0.a,H0.b⟩
   case round=>
    obtain⟨i,ch,rfl,I⟩:=hrel;obtain⟨wx,b'⟩:∃wx,wx=wr:=⟨_,rfl⟩;subst b'
    by_cases hlt:i<j
    ·have a5:(i:Int)<j:=o_
     have ar:i<ms.length:=by rw[HR.c];exact hlt
     have hM:=HR.b.a_ I.O.2;have ba:=hM.cell i ar;have ai:=aq ar;obtain⟨cb,cw,bq⟩:=hM.own ms[i] ai;have bo:=(I.O.2.block ps (gl HP.O)).T HP.O;have an:=LW wx bq bo;have a2:=hM.st ms[i] ai _ (aa _ _);have a1:=hM.of ms[i] ai;have a0:=hM.hlt ms[i] ai;have ap:=Mn ps ms ar;have bx:=Mm ps ms (i+1);have b0:=hM.len.1;obtain⟨⟨pi,qi,Li⟩,bj⟩:∃x,ms[i]=x:=⟨_,rfl⟩;rw[bj] at ba a2 a1 a0 ap an;simp only at ba a2 a1 a0 ap an;have HS:=kq5 a2 a1 a0 ap (by omega:(e9 ps (ms.take (i+1))).length<=10000);clear a2 a1 a0 ap bx b0 hM ai ar bj bq bo
     by_cases hq:qi=ps
     ·subst hq;rw[decide_eq_false s_] at an;go_wp2_with fail;refine Jc HS.a ?_;go_wp2_with fail;clear an;refine(HS.b trivial _ (aa _ _)).M ?_;rintro e w2 ⟨v0,rfl,a6,a3⟩;obtain⟨A0,c0,rfl⟩:=a6.E_;have bd:mq w2 w.1.size (e9 qi (ms.take i)):=I.O.1.kept (a3.block _ I.O.1.lt);have B2:=b_ I.O.2 a3;have bt:=I.O.1.lt;generalize hL:Li.length=n at*;have cq:n<=10000:=by
       have:=HS.e;rw[HS.d,if_pos trivial,ag] at this;omega
      have HV:=kq5 a6 bd B2 hL bt;clear a6 a3 bd B2 hL bt I;go_wp2_with fail
      go_loopw [20,71] (fun _ s71 wz=>∃k:Nat,k<=n/\s71=Xi k/\Hid (mq wz w.1.size (e9 qi (ms.take i)++Li.take k)/\D_ w wz/\FE wz wx.1.size (.slice A0 n c0) Li)) (fun _ s71 _=>n-(intOf s71).toNat)
      case atStart=>exact⟨0,o_,rfl,by rw[bZ,bw];exact HV.b,HV.c,HV.a⟩
      case round=>
       obtain⟨k,ck,rfl,J⟩:=hrel;obtain⟨wz,ca⟩:∃wz,wz=wr:=⟨_,rfl⟩;subst ca
       by_cases hkl:k<n
       ·have b2:(k:Int)<n:=o_
        have au:k<Li.length:=by rw[HV.d];exact hkl
        obtain⟨b,c,e,hb,hc⟩:=J.O.2.2.cell_at au
        injection e with e1 e2 e3
        subst e1;have a7:=HS.c _ (aq au);have bb:e9 qi (ms.take i)++Li.take (k+1)=(e9 qi (ms.take i)++Li.take k)++[Li[k]]:=by rw[aw au,aY]
        have b4:(e9 qi (ms.take i)++Li.take k).length<=10000:=by
         have:=HS.e;rw[HS.d,if_pos trivial,ag] at this;rw[ag,aM];omega
        generalize Li[k]=x at*;have co:=J.O.1.look x a7;obtain⟨w3,cu,bf,ad⟩:=J.O.1.store x a7 o_;have b1:(e9 qi (ms.take i)++Li.take k).count x<=(e9 qi (ms.take i)++Li.take k).length:=List.count_le_length;generalize (e9 qi (ms.take i)++Li.take k).count x=cn at*;have cv:IntKind.i64.wrap ((cn:Int)+1)=(cn:Int)+1:=ax _ o_;have a9:D_ w w3:=J.O.2.1.T ⟨ad.os,ad.tape,ad.output,ad.size,fun k hk=>ad.block k (aE hk J.O.2.1.size) fun e=>by
         have e:k=w.1.size:=Option.some.inj e;omega⟩
        have a':FE w3 wx.1.size (.slice (some (y_ b)) n c0) Li:=J.O.2.2.at fun g e=>ad.block g (J.O.2.2.ge g e).2 fun q=>by
         have q:g=w.1.size:=Option.some.inj q;have:=(J.O.2.2.ge g e).1;have:=HV.e;omega
        have HE:Hid (mq w3 w.1.size (e9 qi (ms.take i)++Li.take (k+1))/\D_ w w3/\FE w3 wx.1.size (.slice (some (y_ b)) n c0) Li):=⟨by rw[bb];exact bf,a9,a'⟩;clear bf ad a9 a' bb b4 b1 a7 hb e2 e3 J au;go_wp2_with fail;go_roundw
        case rel=>exact⟨k+1,o_,s_,HE⟩
        case measure=>simp[intOf];omega
       ·obtain rfl:k=n:=o_
        have b2:¬(k:Int)<k:=o_
        have HE:Hid (mq wz w.1.size (e9 qi (ms.take (i+1)))/\D_ w wz):=⟨by
         rw[HS.d,if_pos trivial];have ht:Li.take k=Li:=aN (by rw[HV.d];exact Nat.le_refl _);rw[<-ht];exact J.O.1,J.O.2.1⟩
        clear J;exact qNfaa
     ·have HE:Hid (mq wx w.1.size (e9 ps (ms.take (i+1)))/\D_ w wx):=⟨by
       rw[HS.d,if_neg hq,bw];exact I.O.1,I.O.2⟩
      clear I;rw[decide_eq_true hq] at an;go_wp2_with fail;refine Jc HS.a ?_;exact qNfaa
    ·obtain rfl:i=j:=o_
     have a5:¬(i:Int)<i:=o_
     have bu:¬(0:Int)<0:=o_
     have HE:Hid (mq wx w.1.size (e9 ps ms)/\D_ w wx):=⟨by
      have:=I.O.1;rwa[aN (by rw[HR.c];exact Nat.le_refl _)] at this,I.O.2⟩
     clear I;go_wp2_with fail
     go_loopw [22,23,83] (fun _ _ s83 wq=>s83=Xi 0/\wq=wx) (fun _ _ _ _=>0)
     case atStart=>exact⟨rfl,rfl⟩
     obtain⟨rfl,hw⟩:=hrel;have hw:=hw.S;subst hw;go_wp2_with fail;go_ret2;exact⟨rfl,HE.O.1,HE.O.2⟩
theorem Fw.all_lt(hf:Fw S o){x:Nat}(hx:x∈S.all):x<2^64:=by
 obtain⟨ws,hw⟩:=dG.1 ((hf.mem_all x).1 hx);exact(fL hf hw).2.1
def mn(ks l:List Nat):List Nat:=l.filter fun x=>decide (x∉ks)
theorem LM(ks l:List Nat)(hj:j<l.length):mn ks (l.take (j+1))=if l[j]∈ks then mn ks (l.take j) else mn ks (l.take j)++[l[j]]:=by
 unfold mn;rw[aw hj,List.filter_append]
 by_cases h:l[j]∈ks
 ·rw[if_pos h,List.filter_cons_of_neg (by simp[h])]
  simp
 ·rw[if_neg h,dN (by simp[h])]
  simp
theorem qNfab{P:Prop}(h:P:=by
 go_roundw
 case rel=>exact⟨j+1,o_,s_,HE⟩
 case measure=>simp[intOf];omega):P:=h
theorem LT{ps bm cm:Nat}{ms:List (Nat×Nat×List Nat)}(h:Ig w ps S Y)(hf:Fw S o)(hm:JM w ps bm ms):
 Ct 32 #[PV ps,.slice (some (y_ bm)) ms.length cm,n_] w fun e w'=>∃v,e=.returned v/\FE w' w.1.size v (mn (e9 ps ms) S.all)/\D_ w w':=by
 have a3:=LS (cm:=cm) h hf hm;have au:∀W,D_ w W->Ct 33 #[PV ps] W _:=fun W hW=>KQ (h.a_ hW) hf;have bk:S.all.length<=65536:=by rw[Kc];exact aG hf.live_le (aG hf.tab.len hf.tab.most.2)
 have hlt:=fun x (hx:x∈S.all)=>hf.all_lt hx;generalize hn:S.all.length=n at*;generalize ms.length=m at*;have HR:=kq4 a3 au hlt hn;clear a3 au hlt hn h hf hm;go_enter func32,ntmps32;go_wp2_with fail;refine HR.a.M ?_;rintro e w1 ⟨rfl,a4,a0⟩;have H1:=kq2 a4 a0;clear a4 a0;go_wp2_with fail;refine(HR.b _ H1.b).M ?_;rintro e w2 ⟨v0,rfl,ar,ai⟩;obtain⟨A0,c0,rfl⟩:=ar.E_;have a5:mq w2 w.1.size (e9 ps ms):=H1.a.kept (ai.block _ H1.a.lt);have HV:=kq5 ar (b_ H1.b ai) a5 H1.b.size ai.size;clear ar ai a5 H1;have hn:=HR.d;rw[hn];have HN:=If hn;clear hn;go_wp2_with fail
 go_loopw [9,11,24] (fun s9 _ s24 wr=>∃j:Nat,j<=n/\s24=Xi j/\Hid (FE wr w2.1.size s9 (mn (e9 ps ms) (S.all.take j))/\D_ w2 wr)) (fun _ _ s24 _=>n-(intOf s24).toNat)
 case atStart=>exact⟨0,o_,rfl,World.ownsRow_nil _ _ _ _,aa _ _⟩
 case round=>
  obtain⟨j,bf,rfl,I⟩:=hrel
  by_cases hjl:j<n
  ·have bb:(j:Int)<n:=o_
   have ap:j<S.all.length:=by rw[HN.O];exact hjl
   have a9:FE wr w1.1.size (.slice A0 S.all.length c0) S.all:=HV.a.at fun g e=>I.O.2.block g (HV.a.ge g e).2;obtain⟨b,c,e,hb,hc⟩:=a9.cell_at ap
   injection e with e1 e2 e3
   subst e1;have a':=HR.c _ (aq ap);have a2:=LM (e9 ps ms) S.all ap;have a7:(mn (e9 ps ms) (S.all.take j)).length<=100000:=by
    have:=List.length_filter_le (fun x=>decide (x∉e9 ps ms)) (S.all.take j);rw[aM] at this;unfold mn;omega
   have a6:mq wr w.1.size (e9 ps ms):=HV.c.kept (I.O.2.block _ HV.c.lt);have bj:=a6.look _ a';have an:(e9 ps ms).count S.all[j]=0↔S.all[j]∉e9 ps ms:=dL;generalize S.all[j]=x at*;generalize ba:(e9 ps ms).count x=cn at*;clear ba;have HM:=kq4 a2 a7 I.O.1 I.O.2;clear a2 a7 a9 hb e2 e3 I a6 a' ap
   by_cases hx:x∈e9 ps ms
   ·have a1:¬((cn:Int)=0):=fun q=>(an.1 o_) hx;have HE:Hid (FE wr w2.1.size u9 (mn (e9 ps ms) (S.all.take (j+1)))/\D_ w2 wr):=⟨by rw[HM.a,if_pos hx];exact HM.c,HM.d⟩;clear HM an hx;go_wp2_with fail;exact qNfab
   ·have a1:cn=0:=an.2 hx;subst a1;obtain⟨v2,w3,bc,a8,ad,bd⟩:=jF HM.c HM.b x HM.d.size 59;have HE:Hid (FE w3 w2.1.size v2 (mn (e9 ps ms) (S.all.take (j+1)))/\D_ w2 w3):=⟨by rw[HM.a,if_neg hx];exact a8,HM.d.T ⟨ad.os,ad.tape,ad.output,ad.size,fun k hk=>ad.block k (aE hk HM.d.size) fun e=>by
     have:=(HM.c.ge k e.S).1;omega⟩⟩
    clear a8 ad bd an hx
    go_wp2_with (at_builtin;refine Lib.wpList_append_run _ rfl _ _ _ _ rfl _ _ rfl rfl _ _ bc ?_)
    exact qNfab
  ·obtain rfl:j=n:=o_
   have bb:¬(j:Int)<j:=o_
   have hs:=HV.b.size;have HE:Hid (FE wr w.1.size u9 (mn (e9 ps ms) S.all)/\D_ w wr):=⟨by
    have e:S.all.take j=S.all:=aN (by rw[HN.O];exact Nat.le_refl _);rw[<-e];exact FE.base2 I.O.1 hs,HV.b.T (I.O.2.M hs)⟩
   clear I;go_wp2_with fail;go_ret;exact⟨_,rfl,HE.O.1,HE.O.2⟩
theorem KO{ps bm cm:Nat}{ms:List (Nat×Nat×List Nat)}(h:Ig w ps S Y)(hf:Fw S o)(hm:JM w ps bm ms)(ho:∀m∈ms,m.2.1=ps){r:Nat}
 (hck:∀m∈ms,∃px:Nat,(∀W,D_ w W->Ct 23 #[PV m.1] W fun e w'=>e=.returned (PV px)/\W=w')/\∀W,D_ w W->Ct 56 #[PV px] W fun e w'=>e=.returned (Xi 0)/\D_ W w')
 (hr:(r=0/\(∀x∈S.all,(e9 ps ms).count x=1)/\∀x∈e9 ps ms,x∈S.all)\/(r=8/\∃x∈S.all,(e9 ps ms).count x≠1)):
 Cb 34 #[PV ps,.slice (some (y_ bm)) ms.length cm,n_] w (Xi r):=by
 have a9:=LS (cm:=cm) h hf hm;have a6:∀W,D_ w W->Ct 33 #[PV ps] W _:=fun W hW=>KQ (h.a_ hW) hf;have hlt:=fun x (hx:x∈S.all)=>hf.all_lt hx;have b1:S.all.length<=65536:=by rw[Kc];exact aG hf.live_le (aG hf.tab.len hf.tab.most.2)
 have ba:=hf.all_nodup;obtain⟨a4,bb⟩:∃a4,w.1[ps]?=some (.cells a4 94 (0,0)):=by
  obtain⟨_,_,_,_,_,hI⟩:=id h;exact⟨_,hI.hd⟩
 have b2:ms.length<=1000:=hm.len.2;generalize hn:ms.length=n at*;generalize hk:S.all.length=nk at*;have HR:=kq5 a9 hm hn bb ho;have HA:=kq6 hck hr a6 hlt ba hk;clear a9 hn h hf hm bb ho hck hr a6 hlt ba hk;go_enter func34,ntmps34;go_wp2_with fail;refine HR.a.M ?_;rintro e w1 ⟨rfl,a',a7⟩;have H1:=kq2 a7 a';clear a7 a';go_wp2_with fail;go_loopw [10,31] (fun _ s31 wr=>∃j:Nat,j<=n/\s31=Xi j/\wr=w1) (fun _ s31 _=>n-(intOf s31).toNat)
 case atStart=>exact⟨0,o_,rfl,rfl⟩
 case round=>
  obtain⟨j,bv,rfl,hw⟩:=hrel;have hw:=hw.S;subst hw;by_cases hlt:j<n
  ·have bj:(j:Int)<n:=o_
   have au:j<ms.length:=by rw[HR.c];exact hlt
   have hM:=HR.b.a_ H1.a;have bt:=hM.cell j au;have ai:=aq au;have a2:=hM.st ms[j] ai _ (aa _ _);have a1:=(H1.a.block ps (gl HR.d)).T HR.d;have bk:=LW w1 a1 a1;rw[decide_eq_false s_] at bk;rw[HR.e _ ai] at a2;generalize ms[j].1=pj at*;have HS:=If a2;clear a2 au hM ai a1;go_wp2_with fail;refine Jc HS.O ?_;go_wp2_with fail;go_roundw
   case rel=>exact⟨j+1,o_,s_,s_⟩
   case measure=>simp[intOf];omega
  ·obtain rfl:j=n:=o_
   have bj:¬(j:Int)<j:=o_
   have bq:¬(0:Int)<0:=o_
   go_wp2_with fail;go_loopw [12,13,42] (fun _ _ s42 wq=>s42=Xi 0/\wq=w1) (fun _ _ _ _=>0)
   case atStart=>exact⟨rfl,rfl⟩
   obtain⟨rfl,hw⟩:=hrel;have hw:=hw.S;subst hw;go_wp2_with fail;go_loopw [15,58] (fun _ s58 wq=>∃i:Nat,i<=j/\s58=Xi i/\Hid (D_ w1 wq)) (fun _ s58 _=>j-(intOf s58).toNat)
   case atStart=>exact⟨0,o_,rfl,aa _ _⟩
   case round=>
    obtain⟨i,bu,rfl,I⟩:=hrel;by_cases hli:i<j
    ·have bf:(i:Int)<j:=o_
     have ar:i<ms.length:=by rw[HR.c];exact hli
     have hB:=b_ H1.a I.O;have bs:=(HR.b.a_ hB).cell i ar;obtain⟨px,ht,hc⟩:=HA.a ms[i] (aq ar);have ht:=ht _ hB;have hc:=hc _ hB;generalize ms[i].1=pi at*;have HS:=kq3 ht hc I.O;clear ht hc I hB ar;go_wp2_with fail;refine Jc HS.a ?_;go_wp2_with fail;refine b8 HS.b fun w2 ad=>?_;have HE:=If (b_ HS.c ad);clear ad HS;go_wp2_with fail;go_roundw
     case rel=>exact⟨i+1,o_,s_,HE⟩
     case measure=>simp[intOf];omega
    ·obtain rfl:i=j:=o_
     have bf:¬(i:Int)<i:=o_
     have HB:=If (b_ H1.a I.O);have HC:Hid (mq wr w.1.size (e9 ps ms)):=If (H1.b.kept (I.O.block _ H1.b.lt));clear I;go_wp2_with fail;refine(HA.c _ HB.O).M ?_;rintro e w2 ⟨v0,rfl,a3,ad⟩;obtain⟨A0,c0,rfl⟩:=a3.E_;have a0:mq w2 w.1.size (e9 ps ms):=HC.O.kept (ad.block _ HC.O.lt);have a8:=b_ HB.O ad;obtain⟨ds,d1,d2,d3⟩:=a0.len 3;have hn:=HA.f;have HV:=kq5 a3 a0 a8 d1 d2;clear a3 ad a0 a8 HB HC d1 d2;rw[hn];have HN:=If hn;clear hn;go_wp2_with fail;go_loopw [18,71] (fun _ s71 wq=>∃k:Nat,k<=nk/\s71=Xi k/\Hid ((∀z (hz:z<S.all.length),z<k->(e9 ps ms).count S.all[z]=1)/\wq=w2)) (fun _ s71 _=>nk-(intOf s71).toNat)
     case atStart=>exact⟨0,o_,rfl,fun z _ q=>absurd q o_,rfl⟩
     case round=>
      obtain⟨k,bx,rfl,J⟩:=hrel;have hw:=J.O.2.S;subst hw;by_cases hkl:k<nk
      ·have bd:(k:Int)<nk:=o_
       have an:k<S.all.length:=by rw[HN.O];exact hkl
       obtain⟨b,c,e,hb,hc⟩:=HV.a.cell_at an;injection e with e1 e2 e3
       subst e1;have b0:=HV.b.look _ (HA.d _ (aq an));have a5:(e9 ps ms).count S.all[k]=1->∀z (hz:z<S.all.length),z<k+1->(e9 ps ms).count S.all[z]=1:=fun q z hz hzk=>by
        by_cases e:z=k
        ·subst e;exact q
        ·exact J.O.1 z hz o_
       have ai:=aq an;have ap:(e9 ps ms).count S.all[k]≠1->r=8:=fun q=>by
        rcases HA.b with⟨_,q2,_⟩ | ⟨q2,_⟩
        ·exact absurd (q2 _ ai) q
        ·exact q2
       clear J hb e2 e3;generalize S.all[k]=x at*;generalize (e9 ps ms).count x=cn at*;have HJ:=kq2 a5 ap;clear a5 ap ai an;by_cases hx:cn=1
       ·subst hx;go_wp2_with fail;go_roundw
        case rel=>exact⟨k+1,o_,s_,HJ.a rfl,s_⟩
        case measure=>simp[intOf];omega
       ·have b4:¬((cn:Int)=1):=o_
        have ap:=HJ.b hx;subst ap;go_wp2_with fail;go_ret;exact⟨rfl,HV.c⟩
      ·obtain rfl:k=nk:=o_
       have bd:¬(k:Int)<k:=o_
       have bo:r=0/\ds.length=k:=by
        rcases HA.b with⟨q1,q2,q3⟩ | ⟨_,x,hx,q⟩
        ·refine⟨q1,?_⟩;have l1:=HV.d.length_le_of_subset (l₂:=S.all) fun z hz=>q3 z ((HV.e z).1 hz);have l2:=HA.e.length_le_of_subset (l₂:=ds) fun z hz=>(HV.e z).2 (by
          have:=q2 z hz;exact List.count_pos_iff.1 o_)
         rw[HN.O] at l1 l2;omega
        ·exfalso
         obtain⟨i,hi,e⟩:=cR.1 hx;have:=HN.O;exact q (e▸J.O.1 i hi o_)
       obtain⟨rfl,bc⟩:=bo;rw[bc] at d3;clear J;go_wp2_with fail;go_ret;exact⟨rfl,HV.c⟩
