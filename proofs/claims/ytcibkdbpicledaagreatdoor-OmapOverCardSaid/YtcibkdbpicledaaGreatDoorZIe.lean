/- The law's awake of layer 20, by what maps of any kind answer: the walk. -/
import Derived.Test.YtcibkdbpicledaaGreatDoorZDg
import Derived.Test.YtcibkdbpicledaaGreatDoorZPr
set_option maxRecDepth 100000
set_option maxHeartbeats 6400000
namespace Go.Proofs.YtcibkdbpicledaaGreatDoor
open Go.RowKit Tryz Go.BigFrame Go.Maps Go.WideMaps Lf Tr
theorem AO(W:World):(binOp .eql 34 (.agg #[SV [97],SV [120]]) (.agg #[SV [97],SV [120]])).run prog W=.ok (.bool true) W:=by kernel_rfl
theorem AP(W:World):(binOp .eql 34 (.agg #[SV [99],SV [121]]) (.agg #[SV [99],SV [121]])).run prog W=.ok (.bool true) W:=by kernel_rfl
theorem yV {w:World}(ht:gA w):
 Cb 12 #[] w (.bool true):=by
 have bb:=xp ht 262144 1000 4294967295 (by omega) (by omega) (by omega);have a1:=ux 262144 1000 4294967295 (by omega) (by omega) (by omega);have hK:tp 2 0 (jH 2 Rb):=rj ot (pU ot oq) oq.nil 0;obtain⟨K,ap⟩:=Ii (jH 2 Rb);rw[ap] at hK;clear ap;have bc:fc ⟨⟨262144,[]⟩,⟨1000,4294967295,[]⟩⟩ (20+20) (9+9):=⟨by decide,by decide⟩;have ok:=hK.ok;have HG:=kq5 bb a1 bc hK ok;clear bb a1 bc hK ht ok;go_enter func12,ntmps12;go_wp2_with fail;refine HG.a.mono ?_;rintro e w1 ⟨ps,rfl,a',ar⟩;have a5:=vK HG.d a' HG.b ar (fun k hk=>hk) 3 (by omega);have H1:=If a5;clear a' ar a5;go_wp2_with fail;refine H1.out.mono ?_;rintro e w2 ⟨pm,px,Y,rfl,hm,_,bd⟩;have a6:=hm.put HG.e HG.c [97] [120] (by decide) (by decide) (by omega) (by decide) trivial;have H2:=If a6;clear hm bd a6;go_wp2_with fail;refine H2.out.mono ?_;rintro e w3 ⟨rfl,x1,S1,a4,ba⟩;have a7:=a4.put (p:=0) (q:=0) HG.e ba [99] [121] (by decide) (by decide) (by omega) (by decide) trivial;have H3:=If a7;clear a4 ba a7;go_wp2_with fail;refine H3.out.mono ?_;rintro e w4 ⟨rfl,x2,S2,ad,bf⟩;have a2:=fun {V:World} (hV:Below w4.heap.size w4 V)=>(ad.below HG.e hV).floor HG.e (by decide) [98] (some ([97],[120])) (by decide);have a3:=fun {V:World} (hV:Below w4.heap.size w4 V)=>(ad.below HG.e hV).floor HG.e (by decide) [65] none (by decide);have a0:=fun {V:World} (hV:Below w4.heap.size w4 V)=>(ad.below HG.e hV).ceiling HG.e (by decide) [98] (some ([99],[121])) (by decide);have a9:=fun {V:World} (hV:Below w4.heap.size w4 V)=>CT (ad.below HG.e hV).map [97,98,99,100] [120] (ab (by decide));have a8:=fun {V:World} (hV:Below w4.heap.size w4 V)=>(ad.below HG.e hV).absent_there HG.e (by decide) [97] [122] (by decide) (by decide) (v:=[120]) (by decide);have HH:=kq6 (@a2) (@a3) (@a0) (@a9) (@a8) ad.bl;clear ad bf a2 a3 a0 a9 a8;go_wp2_with fail;refine(HH.a (aa _ _)).mono ?_;rintro e w5 ⟨rfl,an⟩;have A5:=an.trans (((aa w5.heap.size w5).alloc Ih (.cells #[SV [97],SV [120]] 34)).mono an.size);have q5:=heap_alloc_new w5 (.cells #[SV [97],SV [120]] 34);have H5:=kq2 A5 q5;clear A5 q5 an;simp only[eu,bA,bz,if_true];go_wp2_with fail;refine(HH.c H5.a).mono ?_;rintro e w6 ⟨rfl,ao⟩;have q6:=(ao.block w5.heap.size (by simp)).trans H5.b;have A6:=(aa w6.heap.size w6).alloc Ih (.cells #[SV [99],SV [121]] 34);have p6:=(A6.block _ (gl q6)).trans q6;have r6:=heap_alloc_new w6 (.cells #[SV [99],SV [121]] 34);have B6:=(H5.a.trans (ao.mono H5.a.size));have H6:=kq3 (B6.trans (A6.mono B6.size)) p6 r6;clear q6 A6 p6 r6 B6 ao;simp only[eu,bA,bz,if_true];go_wp2_with fail;refine(HH.b H6.a).mono ?_;rintro e w7 ⟨rfl,al⟩;have q7:=(al.block w5.heap.size (gl H6.b)).trans H6.b;have p7:=(al.block w6.heap.size (gl H6.c)).trans H6.c;have B7:=H6.a.trans (al.mono H6.a.size);have A7:=(aa w7.heap.size w7).alloc Ih (.cells #[.string ⟨#[]⟩,.string ⟨#[]⟩] 34);have q8:=(A7.block _ (gl q7)).trans q7;have p8:=(A7.block _ (gl p7)).trans p7;have H7:=kq3 (B7.trans (A7.mono B7.size)) q8 p8;clear al q7 p7 B7 A7 q8 p8;simp only[eu,bQ,bH,aS,if_false];go_wp2_with fail;refine(HH.d H7.a).mono ?_;rintro e w8 ⟨rfl,rfl⟩;obtain⟨W8,ai⟩:=Ii (w7.alloc (.cells #[.string ⟨#[]⟩,.string ⟨#[]⟩] 34));have q8:=H7.b;have p8:=H7.c;rw[ai] at q8 p8;obtain⟨c0,c1⟩:=Fp p8;obtain⟨d0,d1⟩:=Fp q8;clear q8 p8;have ea:=AO;have ec:=AP;rw[ai];have H8:=If (ai▸H7.a);clear ai;go_wp2_with fail;refine(HH.e H8.out).mono ?_;rintro e w9 ⟨rfl,au⟩;have H9:=If (H8.out.trans (au.mono H8.out.size));clear au;go_wp2_with fail;go_ret;exact⟨rfl,HH.f.trans (H9.out.mono HH.f.size)⟩
def im(l:List (List UInt8×List UInt8)):List (List UInt8×List UInt8):=l.foldl (fun L p=>gV L p.1 p.2) []
theorem DF(l:List (List UInt8×List UInt8))(p:List UInt8×List UInt8):im (l++[p])=gV (im l) p.1 p.2:=by
 unfold im;rw[List.foldl_append];rfl
theorem xQ(p q:List UInt8×List UInt8->Bool)(h:∀x,¬(p x=true/\q x=true)):∀L:List (List UInt8×List UInt8),(L.filter p).length+(L.filter q).length<=L.length
 | []=>Nat.le_refl _
 | x::L=>by
  have ih:=xQ p q h L;have hx:=h x;rw[List.filter_cons,List.filter_cons,ak];split<;>split<;>(try simp only[ak])<;>first | omega | (exfalso;exact hx ⟨by assumption,by assumption⟩)
theorem DG(L:List (List UInt8×List UInt8))(a b:List UInt8):(gV L a b).length<=L.length+1:=by
 unfold gV;rw[aE,ak];have:=xQ (fun p=>decide (Fu p.1 a<0)) (fun p=>decide (0<Fu p.1 a)) (fun x ⟨h1,h2⟩=>by simp at h1 h2;omega) L;omega
theorem wo:∀(l L:List (List UInt8×List UInt8)),(l.foldl (fun L p=>gV L p.1 p.2) L).length<=L.length+l.length
 | [],_=>Nat.le_refl _
 | p::l,L=>by
  have h1:=wo l (gV L p.1 p.2);have h2:=DG L p.1 p.2;rw[List.foldl_cons,ak];omega
theorem wt(l:List (List UInt8×List UInt8)):(im l).length<=l.length:=by
 have h:=wo l [];rwa[aK,bT] at h
theorem xB {α:Type}{l:List α}{i:Nat}(h:i<l.length):l.take (i+1)=l.take i++[l[i]]:=by
 rw[List.take_add_one,af h];rfl
def FO(kind t:Int):Bool:=decide (kind=1\/kind=2\/kind=3/\2<=t/\t<=16)
theorem qIeaa{P:Prop}(h:P:=by
 go_enter func19,ntmps19;go_wp2_with fail;go_ret;exact⟨rfl,rfl⟩):P:=h
theorem Gd(kind t:Int)(w:World):
 Ct 19 #[.int .i64 kind,.int .i64 t] w fun e w'=>e=.returned (.bool (FO kind t))/\w=w':=by
 by_cases h1:kind=1
 ·rw[show FO kind t=true from decide_eq_true (ab h1)];subst h1;exact qIeaa
 by_cases h2:kind=2
 ·rw[show FO kind t=true from decide_eq_true (ae (ab h2))];subst h2;exact qIeaa
 by_cases h3:kind=3
 ·subst h3
  by_cases h4:2<=t
  ·by_cases h5:t<=16
   ·rw[show FO 3 t=true from decide_eq_true (ae (ae ⟨rfl,h4,h5⟩))];exact qIeaa
   ·rw[show FO 3 t=false from decide_eq_false (by omega)];exact qIeaa
  ·rw[show FO 3 t=false from decide_eq_false (by omega)];exact qIeaa
 ·rw[show FO kind t=false from decide_eq_false (by omega)];have e1:(kind==1)=false:=by simpa using h1
  have e2:(kind==2)=false:=by simpa using h2
  have e3:(kind==3)=false:=by simpa using h3
  exact qIeaa
def pK(l:List (List UInt8×List UInt8)):Prop:=∀p∈l,p.1.length<=1000/\p.2.length<=1000
theorem Cp {P:List (List UInt8×List UInt8)->Prop}{K:jo}{kind t:Int}(hk:j5 kind t K P){w:World}(ht:gA w){v:Value}{l:List (List UInt8×List UInt8)}(hv:jj w v l)(hn:l.length<=60)(hl:pK l)(hP:∀i,i<l.length->P (im (l.take i))):
 Ct 13 #[.int .i64 kind,.int .i64 t,v] w fun e w'=>∃(ps pm px root:Nat) (S:St) (Y:Nat->Prop),e=.returned (.tuple #[PV ps,PV pm,.bool true])/\fi K w w' ps pm px 1000 root S Y (im l)/\fc S (20*(200-l.length)) (9*(200-l.length)):=by
 obtain⟨A,c,rfl,hc⟩:=hv;have ba:=xp ht 262144 4000 4294967295 (by omega) (by omega) (by omega);have a4:=ux 262144 4000 4294967295 (by omega) (by omega) (by omega);have bb:fc ⟨⟨262144,[]⟩,⟨4000,4294967295,[]⟩⟩ (20*200) (9*200):=⟨by decide,by decide⟩;have HG:=kq5 ba a4 bb hk hl;have HC:=If hc;have a1:=If hk.ok;have bc:=If hP;obtain⟨n,au⟩:=Ii l.length;have HN:=If au;rw[au] at hn⊢;clear ba a4 bb hk ht hc hl au hP;go_enter func13,ntmps13;go_wp2_with fail;refine HG.a.mono ?_;rintro e w1 ⟨ps,rfl,a',a3⟩;have a6:=vK HG.d a' HG.b a3 (fun k hk=>hk) 1000 (by omega);have H1:=If a6;clear a' a3 a6;go_wp2_with fail;refine H1.out.mono ?_;rintro e w2 ⟨pm,px,Y,rfl,hm,_,bf⟩;have H2:=If hm;clear hm bf;go_wp2_with fail
 go_loopw [13,14,15,16] (fun s13 _ _ _ wr=>∃i:Nat,s13=.int .i64 i/\i<=n/\Hid (∃root S,fi K w wr ps pm px 1000 root S Y (im (l.take i))/\fc S (20*(200-i)) (9*(200-i)))) (fun s13 _ _ _ _=>n-(intOf s13).toNat)
 case atStart=>exact⟨0,rfl,by omega,0,_,H2.out,HG.c⟩
 case round=>
  obtain⟨i,rfl,bm,I0⟩:=hrel
  by_cases hi:i<n
  ·have bj:(i:Int)<n:=by omega
   have al:i<l.length:=by rw[HN.out];exact hi
   obtain⟨root,S,hM,hS⟩:=I0.out;obtain⟨g,o,rfl,c0,c1⟩:=HC.out i al;have ao:=hM.bl;have d0:=(ao.cell (p:=⟨g,o+i*2,none⟩) (jK c0)).trans c0;have d1:=(ao.cell (p:=⟨g,o+i*2+1,none⟩) (jK c1)).trans c1;obtain⟨pk,an⟩:=Ii l[i];rw[an] at c0 c1 d0 d1;obtain⟨a,b⟩:=pk;have a0:=HG.e (a,b) (by rw[<-an];exact aG al);obtain⟨I,ap,ar⟩:=lB (fun w'=>w'.cell? ⟨g,o+i*2,none⟩=some (SV a)) (fun w'=>w'.cell? ⟨g,o+i*2+1,none⟩=some (SV b));have o0:=fun x:Fq I=>(ap _ x.ok).1;have o1:=fun x:Fq I=>(ap _ x.ok).2;have bd:I wr.drew:=ar _ d0 d1;have a5:=wt (l.take i);rw[ay] at a5;have hp:=(hM.below a1.out (aa _ _).drew).put (p:=20*(200-(i+1))) (q:=9*(200-(i+1))) a1.out (hS.mono (by omega) (by omega)) a b a0.1 a0.2 (by omega) (by omega) (bc.out i al);have a7:gV (im (l.take i)) a b=im (l.take (i+1)):=by rw[xB al,DF,an]
   rw[a7] at hp;obtain⟨r1,a8⟩:=Ii ((Bt.getL (im (l.take i)) a).getD []);obtain⟨r2,a9⟩:=Ii (Bt.getL (im (l.take i)) a).isSome;rw[a8,a9] at hp;have HP:=kq5 hp ar c0 c1 ao;clear ap ar hM hS c0 c1 d0 d1 an a0 a5 hp a7 a8 a9 ao;go_wp2_with fail;refine fh I (.take 0 (.take 1 (.take 2 (.take 3 (.take 4 (.take 5 (.take 6 (.take 7 (.take 8 (.take 9 (.take 10 (.go 11 (.take 12 (.take 13 (.take 14 (.take 15 (.go 16 (.go 17 (.go 18 .nil))))))))))))))))))) (by kernel_rfl) (by kernel_rfl) bd ?_
   iterate 11
    refine' pT ?_ ?_;rotate_left
    ·intro x;go_simp
     try rfl
    try simp only[pu]
   refine pD fun K hK=>?_;go_simp;refine HP.a.mono ?_;rintro e w3 ⟨rfl,bk,S3,ai,a2⟩;have ad:I w3:=HP.b _ ((ai.bl.cell (p:=⟨g,o+i*2,none⟩) (jK HP.c)).trans HP.c) ((ai.bl.cell (p:=⟨g,o+i*2+1,none⟩) (jK HP.d)).trans HP.d);have H3:=kq2 ai a2;clear ai a2
   try go_simp
   refine hK.out _ _ ad ?_;clear hK K
   try simp only[pu]
   iterate 4
    refine' pT ?_ ?_;rotate_left
    ·intro x;go_simp
     try rfl
    try simp only[pu]
   refine pD fun K hK=>?_;go_simp
   try go_simp
   refine hK.out _ _ ad ?_;clear hK K
   try simp only[pu]
   refine pD fun K hK=>?_;go_simp
   try go_simp
   refine hK.out _ _ ad ?_;clear hK K
   try simp only[pu]
   refine pD fun K hK=>?_;go_simp
   try go_simp
   refine hK.out _ _ ad ?_;clear hK K
   try simp only[pu]
   refine eP ?_;go_wp2_with fail;go_roundw
   case rel=>exact⟨i+1,by simp,by omega,bk,S3,H3.out⟩
   case measure=>simp[intOf];omega
  ·obtain rfl:i=n:=by omega
   have bj:¬(i:Int)<i:=by omega
   obtain⟨root,S,hM,hS⟩:=I0.out;rw[bi (by rw[HN.out];exact Nat.le_refl _)] at hM;have HF:=kq2 hM hS;clear hM hS;go_wp2_with fail;go_ret3;exact⟨ps,pm,rfl,px,root,S,⟨Y,HF.a⟩,HF.b⟩