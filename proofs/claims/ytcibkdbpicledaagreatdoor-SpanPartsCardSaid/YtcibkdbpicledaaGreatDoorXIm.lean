/- Laws of layer 21 over maps of any kind: made, long, awake; two rows of pairs, compared: the walks. -/
import Derived.Test.YtcibkdbpicledaaGreatDoorXIh
import Derived.Test.YtcibkdbpicledaaGreatDoorXIl
set_option maxRecDepth 100000
set_option maxHeartbeats 6400000
namespace Go.Proofs.YtcibkdbpicledaaGreatDoor
open Go.RowKit Tryz Go.BigFrame Go.Maps Go.WideMaps Lf Tr
variable{v:Value}{w:World}
theorem F6:∀(l:List Pr) (i:Nat) (h:i<l.length),(FJ l)[i*2]?=some (SV l[i].1)/\(FJ l)[i*2+1]?=some (SV l[i].2)
 | p::l,0,_=>⟨rfl,rfl⟩
 | p::l,i+1,h=>by
  obtain⟨h1,h2⟩:=F6 l i (by simpa using h);have e:FJ (p::l)=SV p.1::SV p.2::FJ l:=by simp[FJ]
  rw[e,show (i+1)*2=i*2+1+1 by omega,bB,bB,bB,bB];exact⟨h1,h2⟩
theorem jj.of_owns{B:Nat}{l:List Pr}(h:w.ownsRow B 34 2 v l.length (FJ l)):jj w v l:=by
 rcases h.2 with⟨rfl,hx⟩ | ⟨g,ad,ai,hv,hb,hg,h1,h2,h3,h4⟩
 ·obtain rfl:=bS.1 hx;exact jj.nil w
 ·refine⟨some ⟨g,0,none⟩,ad,hv,fun i hi=>⟨g,0,rfl,?_⟩⟩;obtain⟨p1,p2⟩:=F6 l i hi;rw[<-h4] at p1 p2;rw[co (by omega),bH] at p1 p2;rw[Fs hg,Fs hg,bK];exact⟨p1,p2⟩
theorem jj.new(W:World)(l:List Pr)(t:TypeId):jj (W.alloc (.cells (FJ l).toArray t)) (.slice (some ⟨W.heap.size,0,none⟩) l.length l.length) l:=
 ⟨_,_,rfl,fun i hi=>⟨_,_,rfl,by
  obtain⟨p1,p2⟩:=F6 l i hi;rw[Fs (heap_alloc_new _ _),Fs (heap_alloc_new _ _),bK,bO,bO];exact⟨p1,p2⟩⟩⟩
theorem jj.first{A:Option Addr}{n c:Nat}{l:List Pr}(h:jj w (.slice A n c) l)(k:Nat)(hk:k<=l.length)(c':Nat):jj w (.slice A k c') (l.take k):=by
 obtain⟨A',c2,e,hc⟩:=h;have e1:A=A':=by injection e
 have hl:(l.take k).length=k:=by rw[am];omega
 refine⟨A',c',by rw[hl,e1],fun i hi=>?_⟩;rw[hl] at hi;rw[dA];exact hc i (by omega)
def FQ(l m:List Pr):Bool:=decide (l=m)
theorem F0{v u:Value}{l m:List Pr}(hv:jj w v l)(hu:jj w u m)(hl:l.length<2^63)(_:m.length<2^63):
 Cb 34 #[v,u] w (.bool (FQ l m)):=by
 obtain⟨A,c,rfl,hc⟩:=hv;obtain⟨B,c',rfl,an⟩:=hu
 by_cases hlm:l.length=m.length
 ·obtain⟨n,hn⟩:=Ii l.length;have ar:m.length=n:=by rw[<-hlm];exact hn
  obtain⟨R,hR⟩:=Ii (FQ l m);have HC:=kq5 hc an hn ar hR;rw[hn,ar,hR];rw[hn] at hl;have hq:((n:Int)==n)=true:=by simp
  clear hc an hlm hn ar hR;go_enter func34,ntmps34;go_wp2_with fail
  go_loopw [5] (fun s5 wr=>∃i:Nat,s5=.int .i64 i/\i<=n/\Hid (l.take i=m.take i)/\Hid (Below w.heap.size w wr)) (fun s5 _=>n-(intOf s5).toNat)
  case atStart=>exact⟨0,rfl,by omega,If (by simp),If (aa _ _)⟩
  case round=>
   obtain⟨i,rfl,a3,I0,I1⟩:=hrel
   by_cases hi:i<n
   ·have a2:(i:Int)<n:=by omega
    have ao:i<l.length:=by rw[HC.c];exact hi
    have ap:i<m.length:=by rw[HC.d];exact hi
    obtain⟨g,o,rfl,c0,c1⟩:=HC.a i ao;obtain⟨g',o',rfl,c2,c3⟩:=HC.b i ap
    replace c0:=(I1.out.cell (p:=⟨g,o+i*2,none⟩) (jK c0)).trans c0
    replace c1:=(I1.out.cell (p:=⟨g,o+i*2+1,none⟩) (jK c1)).trans c1
    replace c2:=(I1.out.cell (p:=⟨g',o'+i*2,none⟩) (jK c2)).trans c2
    replace c3:=(I1.out.cell (p:=⟨g',o'+i*2+1,none⟩) (jK c3)).trans c3
    obtain⟨pk,ai⟩:=Ii l[i];obtain⟨pm,al⟩:=Ii m[i];rw[ai] at c0 c1;rw[al] at c2 c3;obtain⟨a,b⟩:=pk;obtain⟨x,y⟩:=pm;have ad:=DE a b x y;have a1:l.take (i+1)=l.take i++[(a,b)]:=by rw[xB ao,ai]
    have a0:m.take (i+1)=m.take i++[(x,y)]:=by rw[xB ap,al]
    have HP:=kq6 a1 a0 ai al ao ap;clear a1 a0 ai al
    by_cases hab:(a==x && b==y)=true
    ·rw[hab] at ad;simp only[Bool.not_true] at ad;have HQ:=If hab;clear hab;go_wp2_with fail
     go_quiet (fail)
     go_wp2_with fail;go_roundw
     case rel=>
      refine⟨i+1,by simp,by omega,If ?_,If (I1.out.trans ⟨rfl,rfl,rfl,Nat.le_refl _,fun _ _=>rfl⟩)⟩;have:=HQ.out
      simp at this
      rw[HP.a,HP.b,I0.out,this.1,this.2]
     case measure=>simp[intOf];omega
    ·have au:(a==x && b==y)=false:=by simpa using hab
     rw[au] at ad;simp only[Bool.not_false] at ad;have HQ:=If hab;clear hab au;go_wp2_with fail
     go_quiet (fail)
     go_wp2_with fail;go_ret;refine⟨?_,I1.out.trans ⟨rfl,rfl,rfl,Nat.le_refl _,fun _ _=>rfl⟩⟩;have hR:R=false:=by
      rw[<-HC.e];unfold FQ;refine decide_eq_false fun e=>HQ.out ?_;have h1:=HP.c;have h2:=HP.d;subst e;rw[h1] at h2
      injection h2 with h3 h4
      rw[h3,h4]
      simp
     rw[hR]
     rfl
   ·obtain rfl:i=n:=by omega
    have a2:¬(i:Int)<i:=by omega
    go_wp2_with fail;go_ret;refine⟨?_,I1.out⟩;have hR:R=true:=by
     rw[<-HC.e];unfold FQ;have:=I0.out;rw[aG (by rw[HC.c];exact Nat.le_refl _),aG (by rw[HC.d];exact Nat.le_refl _)] at this;exact decide_eq_true this
    rw[hR]
    rfl
 ·have hq:(((l.length:Nat):Int)==((m.length:Nat):Int))=false:=by simp;omega
  rw[show FQ l m=false from decide_eq_false fun e=>hlm (by rw[e])];clear hc an hlm;generalize l.length=n1 at*;generalize m.length=n2 at*;go_enter func34,ntmps34;go_wp2_with fail;go_ret;exact⟨rfl,aa _ _⟩
theorem F5{P:List (List UInt8×List UInt8)->Prop}{K:jo}{kind t:Int}(hk:j5 kind t K P)(hfb:FO kind t=true)(ht:gA w){l:List (List UInt8×List UInt8)}(hv:jj w v l)(hn:l.length<=60)(hl:jb l=false)(hP:∀i,i<l.length->P (im (l.take i))):
 Ct 27 #[.int .i64 kind,.int .i64 t,v] w fun e w'=>∃(ps pm px root:Nat) (S:St) (Y:Nat->Prop),e=.returned (.tuple #[PV ps,PV pm,.bool true])/\fi K w w' ps pm px 1000 root S Y (im l)/\fc S (20*(200-l.length)) (9*(200-l.length)):=by
 have ar:=Gd kind t w;have au:=Cm hv (by omega);rw[hfb] at ar;rw[hl] at au;have hs:=Cl hl;obtain⟨A,c,rfl,hc⟩:=hv;have bb:=xp ht 262144 4000 4294967295 (by omega) (by omega) (by omega);have a5:=ux 262144 4000 4294967295 (by omega) (by omega) (by omega);have bc:fc ⟨⟨262144,[]⟩,⟨4000,4294967295,[]⟩⟩ (20*200) (9*200):=⟨by decide,by decide⟩;have HG:=kq5 bb a5 bc hk hs;have HF:=kq2 ar au;have HC:=If hc;have a2:=If hk.ok;have bd:=If hP;obtain⟨n,a0⟩:=Ii l.length;have HN:=If a0;rw[a0] at hn HF⊢;have bt:(60<(n:Int))=False:=eq_false (by omega);clear bb a5 bc hk ht hc hl a0 hP ar au hs hfb;go_enter func27,ntmps27;go_wp2_with fail;refine HF.a.mono ?_;rintro e wf ⟨rfl,rfl⟩;go_wp2_with fail;refine HF.b.mono ?_;rintro e wf ⟨rfl,rfl⟩;go_wp2_with fail;refine HG.a.mono ?_;rintro e w1 ⟨ps,rfl,ba,a4⟩;have a7:=vK HG.d ba HG.b a4 (fun k hk=>hk) 1000 (by omega);have H1:=If a7;clear ba a4 a7;go_wp2_with fail;refine H1.out.mono ?_;rintro e w2 ⟨pm,px,Y,rfl,hm,_,bk⟩;have H2:=If hm;clear hm bk;go_wp2_with fail
 go_loopw [13] (fun s13 wr=>∃i:Nat,s13=.int .i64 i/\i<=n/\Hid (∃root S,fi K w wr ps pm px 1000 root S Y (im (l.take i))/\fc S (20*(200-i)) (9*(200-i)))) (fun s13 _=>n-(intOf s13).toNat)
 case atStart=>exact⟨0,rfl,by omega,0,_,H2.out,HG.c⟩
 case round=>
  obtain⟨i,rfl,bs,I0⟩:=hrel
  by_cases hi:i<n
  ·have bm:(i:Int)<n:=by omega
   have ai:i<l.length:=by rw[HN.out];exact hi
   obtain⟨root,S,hM,hS⟩:=I0.out;obtain⟨g,o,rfl,c0,c1⟩:=HC.out i ai;have an:=hM.bl;have d0:=(an.cell (p:=⟨g,o+i*2,none⟩) (jK c0)).trans c0;have d1:=(an.cell (p:=⟨g,o+i*2+1,none⟩) (jK c1)).trans c1;obtain⟨pk,al⟩:=Ii l[i];rw[al] at c0 c1 d0 d1;obtain⟨a,b⟩:=pk;have a1:=HG.e (a,b) (by rw[<-al];exact aI ai);obtain⟨I,ao,ap⟩:=lB (fun w'=>w'.cell? ⟨g,o+i*2,none⟩=some (SV a)) (fun w'=>w'.cell? ⟨g,o+i*2+1,none⟩=some (SV b));have o0:=fun x:Fq I=>(ao _ x.ok).1;have o1:=fun x:Fq I=>(ao _ x.ok).2;have bf:I wr.drew:=ap _ d0 d1;have a6:=wt (l.take i);rw[am] at a6;have hp:=(hM.below a2.out (aa _ _).drew).put (p:=20*(200-(i+1))) (q:=9*(200-(i+1))) a2.out (hS.mono (by omega) (by omega)) a b a1.1 a1.2 (by omega) (by omega) (bd.out i ai);have a8:gV (im (l.take i)) a b=im (l.take (i+1)):=by rw[xB ai,DF,al]
   rw[a8] at hp;obtain⟨r1,a9⟩:=Ii ((Bt.getL (im (l.take i)) a).getD []);obtain⟨r2,a'⟩:=Ii (Bt.getL (im (l.take i)) a).isSome;rw[a9,a'] at hp;have HP:=kq5 hp ap c0 c1 an;clear ao ap hM hS c0 c1 d0 d1 al a1 a6 hp a8 a9 a' an;go_wp2_with fail;refine fh I (.take 0 (.take 1 (.take 2 (.take 3 (.take 4 (.take 5 (.take 6 (.take 7 (.take 8 (.take 9 (.take 10 (.go 11 .nil)))))))))))) (by kernel_rfl) (by kernel_rfl) bf ?_
   iterate 11
    refine' pT ?_ ?_;rotate_left
    ·intro x;go_simp
     try rfl
    try simp only[pu]
   refine pD fun K hK=>?_;go_simp;refine HP.a.mono ?_;rintro e w3 ⟨rfl,bo,S3,ad,a3⟩;have bj:I w3:=HP.b _ ((ad.bl.cell (p:=⟨g,o+i*2,none⟩) (jK HP.c)).trans HP.c) ((ad.bl.cell (p:=⟨g,o+i*2+1,none⟩) (jK HP.d)).trans HP.d);have H3:=kq2 ad a3;clear ad a3
   try go_simp
   refine hK.out _ _ bj ?_;clear hK K
   try simp only[pu]
   refine eP ?_;go_wp2_with fail;go_roundw
   case rel=>exact⟨i+1,by simp,by omega,bo,S3,H3.out⟩
   case measure=>simp[intOf];omega
  ·obtain rfl:i=n:=by omega
   have bm:¬(i:Int)<i:=by omega
   obtain⟨root,S,hM,hS⟩:=I0.out;rw[aG (by rw[HN.out];exact Nat.le_refl _)] at hM;have HF:=kq2 hM hS;clear hM hS;go_wp2_with fail;go_ret3;exact⟨ps,pm,rfl,px,root,S,⟨Y,HF.a⟩,HF.b⟩
theorem qImaa{P:Prop}(h:P:=by
 go_enter func27,ntmps27;go_wp2_with fail;refine HF.out.mono ?_;rintro e wf ⟨rfl,rfl⟩;go_wp2_with fail;go_ret3;exact⟨rfl,rfl⟩):P:=h
theorem Gg{kind t:Int}{l:List (List UInt8×List UInt8)}(hv:jj w v l)(h:¬(FO kind t=true/\l.length<=60/\jb l=false)):
 Ct 27 #[.int .i64 kind,.int .i64 t,v] w fun e w'=>e=.returned (.tuple #[.pointer none,.pointer none,.bool false])/\w=w':=by
 have ad:=Gd kind t w;have ai:=fun hl=>Cm (w:=w) hv hl;obtain⟨A,c,rfl,hc⟩:=hv
 cases hf:FO kind t with
 | false=>
  rw[hf] at ad;have HF:=If ad;clear ad ai hf h hc;exact qImaa
 | true=>
  rw[hf] at ad h
  by_cases hn:l.length<=60
  ·have al:jb l=true:=by
    cases q:jb l with
    | true=>rfl
    | false=>exact absurd ⟨rfl,hn,q⟩ h
   have ai:=ai (by omega);rw[al] at ai;have an:(60<((l.length:Nat):Int))=False:=eq_false (by omega);have HF:=kq2 ad ai;clear ad ai hf h hc al;generalize l.length=n at*;go_enter func27,ntmps27;go_wp2_with fail;refine HF.a.mono ?_;rintro e wf ⟨rfl,rfl⟩;go_wp2_with fail;refine HF.b.mono ?_;rintro e wf ⟨rfl,rfl⟩;go_wp2_with fail;go_ret3;exact⟨rfl,rfl⟩
  ·have an:(60<((l.length:Nat):Int))=True:=eq_true (by omega);have HF:=If ad;clear ad ai hf h hc hn;generalize l.length=n at*;exact qImaa
def FR(fr to:List UInt8):Bool:=decide (2000<fr.length) || decide (2000<to.length)
theorem qImab{P:Prop}(h:P:=by
 go_enter func28,ntmps28;go_wp2_with fail;go_ret;obtain rfl:=HR.out;exact⟨by simp[FR,h1,h2],(aa _ w).alloc Ih _⟩):P:=h
theorem Gf(fr to:List UInt8)(op:Bool)(most:Int)(w:World):
 Cb 28 #[.agg #[SV fr,SV to,.bool op,.int .i64 most]] w (.bool (FR fr to)):=by
 obtain⟨R,hR⟩:=Ii (FR fr to);rw[hR];have HR:=If hR;clear hR
 by_cases h1:2000<fr.length
 ·have ad:(2000<(fr.length:Int))=True:=eq_true (by omega);go_enter func28,ntmps28;go_wp2_with fail;go_ret;obtain rfl:=HR.out;exact⟨by simp[FR,h1],(aa _ w).alloc Ih _⟩
 ·have ad:(2000<(fr.length:Int))=False:=eq_false (by omega)
  by_cases h2:2000<to.length
  ·have ai:(2000<(to.length:Int))=True:=eq_true (by omega);exact qImab
  ·have ai:(2000<(to.length:Int))=False:=eq_false (by omega);exact qImab
theorem Ga(ht:gA w):
 Cb 29 #[] w (.bool true):=by
 have B0:=(aa w.heap.size w).alloc Ih (.cells #[SV [97],SV [],SV [98],SV [],SV [99],SV []] 34);have r0:jj (w.alloc (.cells #[SV [97],SV [],SV [98],SV [],SV [99],SV []] 34)) (.slice (some ⟨w.heap.size,0,none⟩) 3 3) [([97],[]),([98],[]),([99],[])]:=jj.new w [([97],[]),([98],[]),([99],[])] 34;have hK:tp 1 0 (jH 1 eZ):=rj vi (pU vi va) va.nil 0;obtain⟨K,au⟩:=Ii (jH 1 eZ);rw[au] at hK;clear au;have hm:=F5 hK (by decide) (ht.of_block (B0.block _ ht.lt)) r0 (by decide) (by decide) (fun _ _=>trivial);have ad:=If hK.ok;have HG:=kq3 hm B0 ht;clear hm B0 r0 ht hK;go_enter func29,ntmps29;go_wp2_with fail;refine HG.a.mono ?_;rintro e w1 ⟨ps,pm,px,root,S,Y,rfl,ai,-⟩;rw[show im [([97],[]),([98],[]),([99],[])]=[(([97]:List UInt8),([]:List UInt8)),([98],[]),([99],[])] by decide] at ai;have h2:=FY ad.out ai (by decide) [97] [99] false 9 (by omega) (q:=[([97],[]),([98],[])]) (by decide);have H1:=kq2 ai h2;clear ai h2;go_wp2_with fail;refine H1.b.mono ?_;rintro e w2 ⟨v,rfl,a2,a0⟩;have an:=H1.a.below ad.out a0;have h3:=F3 ad.out an (by decide) [97] [] true 2 (by omega) (q:=[([99],[]),([98],[])]) (by decide);have H2:=kq3 an (jj.of_owns a2) h3;clear a2 a0 an h3;go_wp2_with fail;refine H2.c.mono ?_;rintro e w3 ⟨u,rfl,a3,ap⟩;have ao:=H2.a.below ad.out ap;have h4:=Gc ad.out ao (by decide) [98] [97] false;rw[show ((FI [(([97]:List UInt8),([]:List UInt8)),([98],[]),([99],[])] [98] [97] false).2-(FI [(([97]:List UInt8),([]:List UInt8)),([98],[]),([99],[])] [98] [97] false).1:Nat)=0 by decide] at h4;have H3:=kq4 ao (H2.b.below ap) (jj.of_owns a3) h4;clear a3 ap ao h4;go_wp2_with fail;refine H3.d.mono ?_;rintro e w4 ⟨rfl,al⟩;have H4:=kq3 (H3.a.below ad.out al) (H3.b.below al) (H3.c.below al);clear al;go_wp2_with fail;have n5:jj (w4.alloc (.cells #[SV [97],SV [],SV [98],SV []] 34)) (.slice (some ⟨w4.heap.size,0,none⟩) 2 2) [([97],[]),([98],[])]:=jj.new w4 [([97],[]),([98],[])] 34;have A5:=(aa w4.heap.size w4).alloc Ih (.cells #[SV [97],SV [],SV [98],SV []] 34);have M5:=H4.a.below ad.out A5;have R5:=H4.c.below A5;have S5:=F0 (H4.b.below A5) n5 (by decide) (by decide);rw[show FQ [(([97]:List UInt8),([]:List UInt8)),([98],[])] [([97],[]),([98],[])]=true by decide] at S5;refine S5.mono ?_;rintro e w5 ⟨rfl,ar⟩;have H5:=kq2 (M5.below ad.out ar) (R5.below ar);clear n5 A5 M5 R5 S5 ar;go_wp2_with fail;have n6:jj (w5.alloc (.cells #[SV [99],SV [],SV [98],SV []] 34)) (.slice (some ⟨w5.heap.size,0,none⟩) 2 2) [([99],[]),([98],[])]:=jj.new w5 [([99],[]),([98],[])] 34;have A6:=(aa w5.heap.size w5).alloc Ih (.cells #[SV [99],SV [],SV [98],SV []] 34);have M6:=H5.a.below ad.out A6;have S6:=F0 (H5.b.below A6) n6 (by decide) (by decide);rw[show FQ [(([99]:List UInt8),([]:List UInt8)),([98],[])] [([99],[]),([98],[])]=true by decide] at S6;refine S6.mono ?_;rintro e w6 ⟨rfl,a1⟩;have H6:=If (M6.below ad.out a1);clear n6 A6 M6 S6 a1;go_wp2_with fail;go_ret;exact⟨rfl,HG.b.trans (H6.out.bl.mono HG.b.size)⟩