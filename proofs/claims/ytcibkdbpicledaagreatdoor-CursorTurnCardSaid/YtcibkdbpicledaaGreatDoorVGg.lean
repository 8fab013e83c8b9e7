/- CursorTurn: the walk (printed by mkgg.py). -/
import Derived.Test.YtcibkdbpicledaaGreatDoorVGf
set_option maxRecDepth 100000
set_option maxHeartbeats 12800000
namespace Go.Proofs.YtcibkdbpicledaaGreatDoor
open Go.RowKit Tryz Go.BigFrame Go.Maps Go.WideMaps Lf Tr
theorem Iq(a b:List UInt8)(W:World):(binOp .neq 34 (.agg #[SV a,SV b]) (.agg #[SV a,SV b])).run prog W=.ok (.bool false) W:=by
 rw[pr_neq];simp
theorem qGgaa{P:Prop}(h:P:=by
 go_wp2_with fail;refine wx (HG.a _ (aa _ _)) fun w1 ai=>?_;have H1:=If ai;clear ai;go_wp2_with fail;go_ret;exact⟨rfl,H1.out⟩):P:=h
theorem cursorTurn_walk(kind t:Int){v:Value}{l:List (List UInt8×List UInt8)}{w:World}(ht:gA w)(hv:PRow w v l):
 Cb 9 #[Xi kind,Xi t,v] w (.bool true):=by
 have bk:=fun W (hW:Below w.heap.size w W)=>Iw (ht.of_block (hW.block _ ht.lt));have a5:=Gd kind t w;obtain⟨A,c,rfl,hc⟩:=hv;have hv:PRow w (.slice A l.length c) l:=⟨A,c,rfl,hc⟩;obtain⟨n,hn⟩:=Ii l.length;rw[hn] at hv;have HG:=kq4 bk ht hv hn;clear bk ht hv hc;rw[hn];obtain⟨fb,ap⟩:=Ii (FO kind t);rw[ap] at a5;have HF:=If a5;clear a5
 cases fb with
 | false=>
  clear hn ap;go_enter func9,ntmps9;go_wp2_with fail;refine Jc HF.out ?_;exact qGgaa
 | true=>
 have ap:=of_decide_eq_true ap
 by_cases k5:40<n
 ·clear hn ap;have ch:(40<(n:Int))=True:=eq_true (by omega);go_enter func9,ntmps9;go_wp2_with fail;refine Jc HF.out ?_;exact qGgaa
 have ch:(40<(n:Int))=False:=eq_false (by omega);have a7:=Cm HG.c (by omega);obtain⟨lb,a2⟩:=Ii (jb l);rw[a2] at a7;have bb:=If a7;clear a7
 cases lb with
 | true=>
  clear hn ap a2 k5;go_enter func9,ntmps9;go_wp2_with fail;refine Jc HF.out ?_;go_wp2_with fail;refine Jc bb.out ?_;exact qGgaa
 | false=>
 obtain⟨K,hK⟩:=BU uS kind t ap;have bv:=Ij hK HG.b 1000 (by omega) (20*200) (9*200) (by omega) (by omega);have hs:=Cl a2;have b0:=hK.ok;have HM:=kq3 bv b0 hs;obtain⟨L,hL⟩:=Ii (im l);have bd:L.length<=40:=by
  rw[<-hL];have:=wt l;omega
 have bf:∀z∈L,z.1.length<=1000:=by
  rw[<-hL];exact fun z hz=>(Ir (Q:=fun p=>p.1.length<=1000/\p.2.length<=1000) l [] (fun p hp=>nomatch hp) hs z hz).1
 have bj:ms L:=hL▸GF l;have HL:=kq4 hL bd bf bj;have cv:n<=40:=by omega
 clear bv b0 hs hK hn ap a2 k5 hL bd bf bj;go_enter func9,ntmps9;go_wp2_with fail;refine Jc HF.out ?_;go_wp2_with fail;refine Jc bb.out ?_;go_wp2_with fail;refine HM.a.mono ?_;rintro e w1 ⟨ps,pm,px,pp,rfl,m1⟩;obtain⟨b1,ai⟩:=Ii w1.heap.size;obtain⟨ob,a8⟩:∃ob:Obj,(Xg pm pp false false)=ob:=⟨_,rfl⟩;have HB:=If (fun(V:World) (hV:V.heap[b1]?=some ob)=>show V.cell? ⟨b1,0,none⟩=some (PV pm) by
  rw[<-a8] at hV;rw[cell_of_block hV]
  rfl)
 have m2:an K w ps pm px 1000 [] (20*200) (9*200) [(b1,ob)] (w1.alloc (Xg pm pp false false)):=by
  rw[<-a8,<-ai];exact m1.box HM.b _
 have H2:=If m2;clear m1 m2 a8;go_wp2_with fail
 go_loopw [9] (fun s9 wr=>∃i:Nat,s9=Xi i/\i<=n/\Hid (an K w ps pm px 1000 (im (l.take i)) (20*(200-i)) (9*(200-i)) [(b1,ob)] wr)) (fun s9 _=>n-(intOf s9).toNat)
 case atStart=>exact⟨0,rfl,by omega,H2.out⟩
 case round=>
  obtain⟨i,rfl,cr,I0⟩:=hrel
  by_cases hi:i<n
  ·have cc:(i:Int)<n:=by omega
   have ar:i<l.length:=by rw[HG.d];exact hi
   obtain⟨g,o,rfl,c0,c1⟩:=(HG.d▸HG.c).cells ar;obtain⟨pk,ad⟩:=Ii l[i];rw[ad] at c0 c1;obtain⟨a,b⟩:=pk;have a':=HM.c (a,b) (by rw[<-ad];exact aF ar);obtain⟨I,a1,bc⟩:=lB (fun w'=>w'.cell? ⟨g,o+i*2,none⟩=some (SV a)/\w'.cell? ⟨g,o+i*2+1,none⟩=some (SV b)) (fun w'=>w'.cell? ⟨b1,0,none⟩=some (PV pm));have o0:=fun x:Fq I=>(a1 _ x.ok).1.1;have o1:=fun x:Fq I=>(a1 _ x.ok).1.2;have o2:=fun x:Fq I=>(a1 _ x.ok).2;have a3:∀V l',an K w ps pm px 1000 l' (20*(200-(i+1))) (9*(200-(i+1))) [(b1,ob)] V->I V:=fun V l' hV=>bc _ ⟨(hV.bl.cell (p:=⟨g,o+i*2,none⟩) (cell_lt c0)).trans c0,(hV.bl.cell (p:=⟨g,o+i*2+1,none⟩) (cell_lt c1)).trans c1⟩ (HB.out _ (hV.at (ag ..)));have hm:=(I0.out.below HM.b (aa _ _).drew).less (p':=20+20*(200-(i+1))) (q':=9+9*(200-(i+1))) (by omega) (by omega);have ca:I wr.drew:=a3 _ _ (hm.less (by omega) (by omega));have bu:=wt (l.take i);rw[aB] at bu;have hp:=hm.put HM.b a b a'.1 a'.2 (by omega) (by omega) trivial;have b2:gV (im (l.take i)) a b=im (l.take (i+1)):=by rw[xB ar,DF,ad]
   rw[b2] at hp;obtain⟨r1,b4⟩:=Ii ((Bt.getL (im (l.take i)) a).getD []);obtain⟨r2,b8⟩:=Ii (Bt.getL (im (l.take i)) a).isSome;rw[b4,b8] at hp;have HP:=kq2 hp a3;clear a1 bc hm hp b2 b4 b8 bu a' ad a3 c0 c1;go_wp2_with fail;refine fh I (.take 0 (.take 1 (.take 2 (.take 3 (.take 4 (.take 5 (.take 6 (.take 7 (.take 8 (.take 9 (.take 10 (.take 11 (.go 12 .nil))))))))))))) (by kernel_rfl) (by kernel_rfl) ca ?_
   iterate 12
    refine' pT ?_ ?_;rotate_left
    ·intro x;go_simp
     try rfl
    try simp only[pu]
   refine pD fun K hK=>?_;go_simp;refine wx HP.a fun w3 m3=>?_;have H3:=If m3;clear m3
   try go_simp
   refine hK.out _ _ (HP.b _ _ H3.out) ?_;clear hK K
   try simp only[pu]
   refine eP ?_;go_wp2_with fail;go_roundw
   case rel=>exact⟨i+1,by simp,by omega,H3.out⟩
   case measure=>simp[intOf];omega
  ·obtain rfl:i=n:=by omega
   have cc:¬(i:Int)<i:=by omega
   have m3:=I0.out;rw[aU (by rw[HG.d];exact Nat.le_refl _),HL.a] at m3;have ba:=Hv (HG.c.below m3.bl) (by have:=HG.d;omega) HM.c;rw[HL.a] at ba;have H3:=kq2 m3 ba;clear m3 ba I0 H2;go_wp2_with fail;refine H3.b.mono ?_;rintro e w4 ⟨v4,rfl,b9,bm⟩;obtain⟨l4,m4,a6,a9⟩:=H3.a.row HM.b bm b9;obtain⟨A4,c4,rfl,_⟩:=a9 w4 fun x hx=>m4.at hx;have z4:=HB.out _ (m4.at (a6 _ (ag ..)));have H4:=kq3 a9 (a6 _ (ag ..)) ((m4.less (p':=20+0) (q':=9+0) (by omega) (by omega)).cursor HM.b (by omega));obtain⟨N,hN⟩:=Ii L.length;have ck:N<=40:=hN▸HL.b;have HN:=If hN;rw[hN];clear b9 bm a6 a9 m4 H3 hN;go_wp2_with fail;refine H4.c.mono ?_;rintro e w5 ⟨pc,hh,cj,rfl,m5⟩;have H5:=If m5;clear m5 z4;go_wp2_with fail
   go_loopw [13,14,15,16,17] (fun s13 _ _ _ _ wr=>∃i:Nat,s13=Xi i/\i<=N/\Hid (∃is ws,ao K w ps pm px 1000 L 0 0 pc hh is ws l4 wr/\pf L 1000 i is ws)) (fun s13 _ _ _ _ _=>N-(intOf s13).toNat)
   case atStart=>exact⟨0,rfl,by omega,0,cj,H5.out,[],ab rfl,rfl⟩
   case round=>
    obtain⟨j,rfl,cs,J0⟩:=hrel
    by_cases hj:j<N
    ·have cb:(j:Int)<N:=by omega
     have bs:j<L.length:=by rw[HN.out];exact hj
     obtain⟨is,ws,mj,hk⟩:=J0.out;obtain⟨pk,ad⟩:=Ii L[j];have al:L[j]?=some pk:=by rw[af bs,ad]
     obtain⟨a,b⟩:=pk;have au:fj L (j:Nat)=some (a,b):=by
      unfold fj;rw[if_neg (by omega)];exact al
     have hn:=mj.onNext HM.b (by have:=HL.b;omega) HL.c hk (some (a,b)) au;simp only[eu,ci,cH,if_true] at hn;have a0:=Al HL.d HL.c al;have HJ:=kq4 hn a0 ad bs;have bt:=HL.c _ (bA al);have HA:=If bt;clear hn mj hk a0 ad al au J0 bt;go_wp2_with fail;refine wx HJ.a fun wk mk=>?_;have mb:=mk.box HM.b (Xj a b);have HK:=If (mb.tell HM.b HA.out);clear mk mb;go_wp2_with fail;refine wx HK.out fun wl ml=>?_;have zq:=ml.at (ag ..);obtain⟨x0,x1⟩:=Fp zq;obtain⟨g4,o4,rfl,y0,y1⟩:=(HN.out▸H4.a wl fun x hx=>ml.at (aj _ hx)).cells HJ.d;rw[HJ.c] at y0 y1;have cd:=Iq a b;have HQ:=If ml.tail;clear ml zq;go_wp2_with fail
     go_quiet (fail)
     go_wp2_with fail;go_roundw
     case rel=>exact⟨j+1,by simp,by omega,1,_,HQ.out.below HM.b ⟨rfl,rfl,rfl,Nat.le_refl _,fun _ _=>rfl⟩,HJ.b.1⟩
     case measure=>simp[intOf];omega
    ·obtain rfl:j=N:=by omega
     have cb:¬(j:Int)<j:=by omega
     obtain⟨is,ws,mj,hk⟩:=J0.out;have hn:=mj.onNext HM.b (by have:=HL.b;omega) HL.c hk none (by
      unfold fj;rw[if_neg (by omega)];exact aH (by rw[HN.out];exact Nat.le_refl _))
     simp only[eu,Option.getD_none,dM,bO,if_false] at hn;have HJ:=If hn;clear hn mj hk J0;go_wp2_with fail;refine wx HJ.out fun wk mk=>?_;have mb:=mk.box HM.b (Xj [] []);have HK:=kq2 (mb.tell_no HM.b (by decide)) mb.tail;clear mk mb;go_wp2_with fail;refine Jc HK.a ?_;obtain⟨W6,a4⟩:=Ii (wk.alloc (Xj [] []));have H6:=If (a4▸HK.b);rw[a4];clear a4 HK;go_wp2_with fail
     go_loopw [22,23,24] (fun s22 _ _ wr=>∃i:Nat,s22=Xi ((i:Int)-1)/\i<=j/\Hid (∃is ws,ao K w ps pm px 1000 L 0 0 pc hh is ws l4 wr/\Jp L 1000 ((i:Int)-1) is ws)) (fun s22 _ _ _=>(intOf s22+1).toNat)
     case atStart=>exact⟨j,rfl,Nat.le_refl _,2,_,H6.out,[],ae (ab rfl),by unfold JC;rw[HN.out];rfl⟩
     case round=>
      obtain⟨i,rfl,cp,J1⟩:=hrel
      cases i with
      | succ i=>
       have bo:(0<=((i+1:Nat):Int)-1)=True:=eq_true (by omega);have ar:i<L.length:=by rw[HN.out];omega
       obtain⟨is,ws,mj,hk⟩:=J1.out;rw[show (((i+1:Nat):Int)-1)=(i:Int) by omega] at hk bo⊢;obtain⟨pk,ad⟩:=Ii L[i];have al:L[i]?=some pk:=by rw[af ar,ad]
       obtain⟨a,b⟩:=pk;have au:fj L (i:Nat)=some (a,b):=by
        unfold fj;rw[if_neg (by omega)];exact al
       have hn:=mj.onPrev HM.b (by have:=HL.b;omega) HL.c hk (some (a,b)) au;simp only[eu,ci,cH,if_true] at hn;have a0:=Al HL.d HL.c al;have HJ:=kq4 hn a0 ad ar;have cl:i<98:=by omega
       have cn:(i:Int)<j:=by omega
       clear hn mj hk a0 ad al au J1;go_wp2_with fail;refine wx HJ.a fun wk mk=>?_;have mb:=mk.box HM.b (Xj a b);have zq:=mb.at (ag ..);obtain⟨x0,x1⟩:=Fp zq;obtain⟨g4,o4,rfl,y0,y1⟩:=(HN.out▸H4.a _ fun x hx=>mb.at (aj _ hx)).cells HJ.d;rw[HJ.c] at y0 y1;have cd:=Iq a b;have HQ:=If mb.tail;clear mk mb zq;go_wp2_with fail
       go_quiet (fail)
       go_wp2_with fail;go_roundw
       case rel=>exact⟨i,by simp,by omega,1,_,HQ.out.below HM.b ⟨rfl,rfl,rfl,Nat.le_refl _,fun _ _=>rfl⟩,HJ.b.2⟩
       case measure=>simp[intOf]
      | zero=>
       have bo:(0<=((0:Nat):Int)-1)=False:=eq_false (by omega);obtain⟨is,ws,mj,hk⟩:=J1.out;have hn:=mj.onPrev HM.b (by have:=HL.b;omega) HL.c hk none rfl;simp only[eu,Option.getD_none,dM,bO,if_false] at hn;have HJ:=If hn;clear hn mj hk J1;go_wp2_with fail;refine wx HJ.out fun wk mk=>?_;have HK:=If ((mk.box HM.b (Xj [] [])).last HM.b);clear mk;go_wp2_with fail;refine wx HK.out fun wl ml=>?_;have b':=If (ml.first HM.b);clear ml;go_wp2_with fail;refine wx b'.out fun wm mm=>?_;have HE:=kq2 (HG.a _ mm.m.bl) mm.m.bl;clear mm;go_wp2_with fail;refine wx HE.a fun wn hbn=>?_;have HZ:=If (HE.b.trans (hbn.mono HE.b.size));clear hbn;go_wp2_with fail;go_ret;exact⟨rfl,HZ.out⟩