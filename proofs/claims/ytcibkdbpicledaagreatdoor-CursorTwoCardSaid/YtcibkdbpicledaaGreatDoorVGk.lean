/- CursorTwo: the walk (printed by mkgk.py). -/
import Derived.Test.YtcibkdbpicledaaGreatDoorVGj
set_option maxRecDepth 100000
set_option maxHeartbeats 12800000
namespace Go.Proofs.YtcibkdbpicledaaGreatDoor
open Go.RowKit Tryz Go.BigFrame Go.Maps Go.WideMaps Lf Tr
def Jl(w:World)(v:Value)(l:List Bool):Prop:=∃A c,v=.slice A l.length c/\∀(i:Nat) (h:i<l.length),∃g o,A=some ⟨g,o,none⟩/\w.cell? ⟨g,o+i,none⟩=some (.bool l[i])
def JA(lim is:Nat)(ws:List Nat):Prop:=∃t:List UInt8,is=0\/is=2\/is=1/\ws=Jt t (many lim)/\t.length<=lim
section
variable {P:List (List UInt8×List UInt8)->Prop}{K:jo}{w W:World}{ps pm px limit p q pc hh is:Nat}{ws:List Nat}{L:List (List UInt8×List UInt8)}{l:List (Nat×Obj)}
theorem ao.moved(h:∃x:Option Pr,ao K w ps pm px limit L p q pc hh (if x.isSome=true then 1 else is) (Jt (x.getD ([],[])).1 (many limit)) l W/\(∀p,x=some p->p∈L))(hi:is=0\/is=2)(hL:∀z∈L,z.1.length<=limit):∃is ws,ao K w ps pm px limit L p q pc hh is ws l W/\JA limit is ws:=by
 obtain⟨x,h,hx⟩:=h;refine⟨_,_,h,(x.getD ([],[])).1,?_⟩
 cases x with
 | none=>exact hi.imp id ab
 | some p=>exact ae (ae ⟨rfl,rfl,hL p (hx p rfl)⟩)
theorem Jj {k:Int}{p:Pr}(h:fj L k=some p):p∈L:=by
 unfold fj at h
 split at h
 ·cases h
 ·exact bA h
theorem ao.goes(ok:gB K P)(h:ao K w ps pm px limit L p q pc hh is ws l W)(hc:L.length<98)(hL:∀z∈L,z.1.length<=1000)(hl:∀z∈L,z.1.length<=limit)(hs:JA limit is ws)(b:Bool):
 Ct (bif b then 39 else 41) #[PV pc] W fun e w'=>(∃(y:Pr) (n:Int),e=.returned (.tuple #[eu y,Xi n])/\n≠7)/\∃is ws,ao K w ps pm px limit L p q pc hh is ws l w'/\JA limit is ws:=by
 obtain⟨t,hi⟩:=hs
 cases b with
 | true=>
  refine wx (h.onNext ok hc hL ⟨t,hi,rfl⟩ _ rfl) fun w' h=>?_;exact⟨⟨_,_,rfl,by split<;>decide⟩,ao.moved ⟨_,h,fun _=>Jj⟩ (ae rfl) hl⟩
 | false=>
  refine wx (h.onPrev ok hc hL ⟨t,hi,rfl⟩ _ rfl) fun w' h=>?_;exact⟨⟨_,_,rfl,by split<;>decide⟩,ao.moved ⟨_,h,fun _=>Jj⟩ (ab rfl) hl⟩
end
theorem Js(key:List UInt8):(({ data:=key.toArray }:ByteArray)++ { data:=#[0] })=⟨(key++[0]).toArray⟩:=by
 apply ByteArray.ext;simp
theorem Jq {L:List Pr}(hs:ms L)(key:List UInt8):Ji L 1 key=(eK L (key++[0]):Nat):=by
 rw[Jm hs];unfold Ji;cases (Bt.getL L key).isSome<;>simp
theorem Jr(a:Pr)(W:World):(binOp .eql 34 (.agg #[SV a.1,SV a.2]) (.agg #[SV a.1,SV a.2])).run prog W=.ok (.bool true) W:=by
 rw[pr_eql];simp
theorem qGkab{P:Prop}(h:P:=by
 go_wp2_with fail;refine HJ.a.mono ?_;rintro e wk ⟨⟨y,n',rfl,_⟩,a2,a3,mk,al⟩;have mt:=mk.turn (Ba _ _);have HK:=kq3 (HJ.b mt) al mk.n;clear mk mt al;go_wp2_with fail;refine wx HK.a fun wl ml=>?_;have HQ:=If ml;clear ml;go_wp2_with fail;go_roundw
 case rel=>exact⟨j+1,by simp,by omega,a2,a3,HQ.out,HK.out.2⟩
 case measure=>simp[intOf];omega):P:=h
theorem qGkaa{P:Prop}(h:P:=by
 go_wp2_with fail;refine wx (HG.a _ (aa _ _)) fun w1 ad=>?_;have H1:=If ad;clear ad;go_wp2_with fail;go_ret;exact⟨rfl,H1.out⟩):P:=h
theorem cursorTwo_walk(kind t:Int){v:Value}{l:List (List UInt8×List UInt8)}{u:Value}{mv:List Bool}(key:List UInt8){w:World}(ht:gA w)(hv:PRow w v l)(hu:Jl w u mv):
 Cb 10 #[Xi kind,Xi t,v,u,SV key] w (.bool true):=by
 have bu:=fun W (hW:Below w.heap.size w W)=>Iw (ht.of_block (hW.block _ ht.lt));have a8:=Gd kind t w;obtain⟨A,c,rfl,hc⟩:=hv;have hv:PRow w (.slice A l.length c) l:=⟨A,c,rfl,hc⟩;obtain⟨B,c',rfl,hu⟩:=hu;obtain⟨n,hn⟩:=Ii l.length;obtain⟨m,hm⟩:=Ii mv.length;rw[hn] at hv;have HG:=kq6 bu ht hv hn hu hm;clear bu ht hv hc hu;rw[hn,hm];obtain⟨fb,a7⟩:=Ii (FO kind t);rw[a7] at a8;have HF:=If a8;have bk:=If a7;clear a8 hn hm a7;go_enter func10,ntmps10;go_wp2_with fail;refine Jc HF.out ?_
 cases fb with
 | false=>
  exact qGkaa
 | true=>
 by_cases k5:40<n
 ·have cj:(40<(n:Int))=True:=eq_true (by omega);clear k5;exact qGkaa
 have cj:(40<(n:Int))=False:=eq_false (by omega);have ba:=If (Cm HG.c (by have:=HG.d;omega));obtain⟨lb,a'⟩:=Ii (jb l);rw[a'] at ba;have bm:=If a';clear a';go_wp2_with fail;refine Jc ba.out ?_
 cases lb with
 | true=>
  exact qGkaa
 | false=>
 by_cases k6:60<m
 ·have ck:(60<(m:Int))=True:=eq_true (by omega);clear k6 k5;exact qGkaa
 have ck:(60<(m:Int))=False:=eq_false (by omega)
 by_cases k7:1000<key.length
 ·have cl:(1000<(key.length:Int))=True:=eq_true (by omega);clear k7 k6 k5;exact qGkaa
 have cl:(1000<(key.length:Int))=False:=eq_false (by omega);obtain⟨K,hK⟩:=BU uS kind t (of_decide_eq_true bk.out);have hs:=Cl bm.out;have HM:=kq3 (Ij hK HG.b 1000 (by omega) (20*200) (9*200) (by omega) (by omega)) hK.ok hs;obtain⟨L,hL⟩:=Ii (im l);have bs:L.length<=40:=by
  rw[<-hL];have:=wt l;have:=HG.d;omega
 have bt:∀z∈L,z.1.length<=1000:=by
  rw[<-hL];exact fun z hz=>(Ir (Q:=fun p=>p.1.length<=1000/\p.2.length<=1000) l [] (fun p hp=>nomatch hp) hs z hz).1
 have HL:=kq4 hL bs bt (hL▸GF l:ms L);have cx:n<=40:=by omega
 have cw:m<=60:=by omega
 have cv:key.length<=1000:=by omega
 clear hs hK k5 k6 k7 hL bs bt HF bk ba bm;go_wp2_with fail;refine HM.a.mono ?_;rintro e w1 ⟨ps,pm,px,pp,rfl,m1⟩;obtain⟨b1,ad⟩:=Ii w1.heap.size;obtain⟨ob,bb⟩:∃ob:Obj,(Xg pm pp false false)=ob:=⟨_,rfl⟩;have HB:=If (fun(V:World) (hV:V.heap[b1]?=some ob)=>show V.cell? ⟨b1,0,none⟩=some (PV pm) by
  rw[<-bb] at hV;rw[cell_of_block hV]
  rfl)
 have m2:an K w ps pm px 1000 [] (20*200) (9*200) [(b1,ob)] (w1.alloc (Xg pm pp false false)):=by
  rw[<-bb,<-ad];exact m1.box HM.b _
 have H2:=If m2;clear m1 m2 bb;go_wp2_with fail
 go_loopw [13] (fun s9 wr=>∃i:Nat,s9=Xi i/\i<=n/\Hid (an K w ps pm px 1000 (im (l.take i)) (20*(200-i)) (9*(200-i)) [(b1,ob)] wr)) (fun s9 _=>n-(intOf s9).toNat)
 case atStart=>exact⟨0,rfl,by omega,H2.out⟩
 case round=>
  obtain⟨i,rfl,cr,I0⟩:=hrel
  by_cases hi:i<n
  ·have cc:(i:Int)<n:=by omega
   have a9:i<l.length:=by rw[HG.d];exact hi
   obtain⟨g,o,rfl,c0,c1⟩:=(HG.d▸HG.c).cells a9;obtain⟨pk,a0⟩:=Ii l[i];rw[a0] at c0 c1;obtain⟨a,b⟩:=pk;have bc:=HM.c (a,b) (by rw[<-a0];exact aF a9);obtain⟨I,ar,bo⟩:=lB (fun w'=>w'.cell? ⟨g,o+i*2,none⟩=some (SV a)/\w'.cell? ⟨g,o+i*2+1,none⟩=some (SV b)) (fun w'=>w'.cell? ⟨b1,0,none⟩=some (PV pm));have o0:=fun x:Fq I=>(ar _ x.ok).1.1;have o1:=fun x:Fq I=>(ar _ x.ok).1.2;have o2:=fun x:Fq I=>(ar _ x.ok).2;have a4:∀V l',an K w ps pm px 1000 l' (20*(200-(i+1))) (9*(200-(i+1))) [(b1,ob)] V->I V:=fun V l' hV=>bo _ ⟨(hV.bl.cell (p:=⟨g,o+i*2,none⟩) (cell_lt c0)).trans c0,(hV.bl.cell (p:=⟨g,o+i*2+1,none⟩) (cell_lt c1)).trans c1⟩ (HB.out _ (hV.at (ag ..)));have hm:=(I0.out.below HM.b (aa _ _).drew).less (p':=20+20*(200-(i+1))) (q':=9+9*(200-(i+1))) (by omega) (by omega);have ca:I wr.drew:=a4 _ _ (hm.less (by omega) (by omega));have b0:=wt (l.take i);rw[aB] at b0;have hp:=hm.put HM.b a b bc.1 bc.2 (by omega) (by omega) trivial;have b4:gV (im (l.take i)) a b=im (l.take (i+1)):=by rw[xB a9,DF,a0]
   rw[b4] at hp;obtain⟨r1,b8⟩:=Ii ((Bt.getL (im (l.take i)) a).getD []);obtain⟨r2,b9⟩:=Ii (Bt.getL (im (l.take i)) a).isSome;rw[b8,b9] at hp;have HP:=kq2 hp a4;clear ar bo hm hp b4 b8 b9 b0 bc a0 a4 c0 c1;go_wp2_with fail;refine fh I (.take 0 (.take 1 (.take 2 (.take 3 (.take 4 (.take 5 (.take 6 (.take 7 (.take 8 (.take 9 (.take 10 (.take 11 (.go 12 .nil))))))))))))) (by kernel_rfl) (by kernel_rfl) ca ?_
   iterate 12
    refine' pT ?_ ?_;rotate_left
    ·intro x;go_simp
     try rfl
    try simp only[pu]
   refine pD fun K hK=>?_;go_simp;refine wx HP.a fun w3 m3=>?_;have H3:=If m3;clear m3
   try go_simp
   refine hK.out _ _ (HP.b _ _ H3.out) ?_;clear hK K
   try simp only[pu]
   refine eP ?_;go_wp2_with fail;go_roundw
   case rel=>exact⟨i+1,by simp,by omega,H3.out⟩
   case measure=>simp[intOf];omega
  ·obtain rfl:i=n:=by omega
   have cc:¬(i:Int)<i:=by omega
   have m3:=I0.out;rw[aU (by rw[HG.d];exact Nat.le_refl _),HL.a] at m3;have H3:=kq2 ((m3.less (p':=20+(20+0)) (q':=9+(9+0)) (by omega) (by omega)).cursor HM.b (by omega)) (HB.out _ (m3.at (ag ..)));have c0:=H3.b;clear m3 I0 H2;go_wp2_with fail;refine H3.a.mono ?_;rintro e w3 ⟨pc,hc,b',rfl,m3⟩;have H4:=kq3 m3 (m3.m.cursor (Jv HM.b _ _) (by omega)) (HB.out _ (m3.at (ag ..)));have c1:=H4.c;clear m3 c0 H3;go_wp2_with fail;refine H4.b.mono ?_;rintro e w4 ⟨pd,hd,cn,rfl,m4⟩;have bd:=Jv HM.b hc b';have cd:((hc:Int)==(hd:Nat))=false:=by
    obtain⟨_,_,_,h1,_⟩:=m4.m.ex;obtain⟨o,R,T,rfl,⟨T2,rfl,_⟩,hn,_⟩:=h1.hold;simp only[beq_eq_false_iff_ne,ne_eq];have:¬hd=hc:=fun e=>hn (e▸ag ..);omega
   have H5:=kq4 ((m4.turn H4.a.n).handle (Jv HM.b hd cn)) (m4.handle bd) (m4.seek bd key (by omega)) H4.a.n;clear m4 bd c1 H4;go_wp2_with fail;refine Jc H5.a ?_;go_wp2_with fail;refine Jc H5.b ?_;go_wp2_with fail;refine wx H5.c fun w5 m5=>?_;have H6:=kq2 m5 H5.d;clear m5 H5 cd;go_wp2_with fail
   go_loopw [18,19,20] (fun s18 _ _ wr=>∃j:Nat,s18=Xi j/\j<=m/\Hid (∃is ws,ao (Jw K hc ws) w ps pm px 1000 L 0 0 pd hd 1 (Jt key (many 1000)) [(pc,A6 pm ps hc is),(b1,ob)] wr/\JA 1000 is ws/\ws.length=many 1000)) (fun s18 _ _ _=>m-(intOf s18).toNat)
   case atStart=>exact⟨0,rfl,by omega,0,b',H6.a,⟨[],ab rfl⟩,H6.b⟩
   case round=>
    obtain⟨j,rfl,cs,J0⟩:=hrel
    by_cases hj:j<m
    ·have cb:(j:Int)<m:=by omega
     obtain⟨is,ws,mj,a1,ap⟩:=J0.out;obtain⟨g,o,rfl,c0⟩:=HG.e j (by rw[HG.f];exact hj);obtain⟨b,hb⟩:∃b,mv[j]'(by rw[HG.f];exact hj)=b:=⟨_,rfl⟩;rw[hb] at c0;have c1:=(mj.m.bl.cell (p:=⟨g,o+j,none⟩) (cell_lt c0)).trans c0;have HJ:=kq2 ((mj.turn ap).goes (Jv HM.b hd _) (by have:=HL.b;omega) HL.c HL.c a1 b) (fun {W:World} {is:Nat} {ws:List Nat} (h:ao (Jw K hc ws) w ps pm px 1000 L 0 0 pd hd 1 (Jt key (many 1000)) [(pc,A6 pm ps hc is),(b1,ob)] W)=>h.tell (Jv HM.b hc ws) (by omega));clear hb c0 mj a1 ap J0 H6
     cases b with
     | true=>
      exact qGkab
     | false=>
      exact qGkab
    ·obtain rfl:j=m:=by omega
     have cb:¬(j:Int)<j:=by omega
     obtain⟨is,ws,mj,a1,ap⟩:=J0.out;obtain⟨x,hx⟩:=Ii (fj L (eK L (key++[0]):Nat));have hn:=mj.onNext (Jv HM.b hc ws) (by have:=HL.b;omega) HL.c ⟨key,ae (ae ⟨rfl,rfl,by omega⟩),Jq HL.d key⟩ x hx;obtain⟨⟨a,b⟩,ai⟩:∃p,x.getD ([],[])=p:=⟨_,rfl⟩;obtain⟨er,a6⟩:=Ii (if x.isSome=true then 0 else 5:Nat);have a5:JA 1000 (if x.isSome=true then 1 else 2) (Jt a (many 1000)):=by
      refine⟨a,?_⟩
      cases x with
      | none=>exact ae (ab rfl)
      | some p=>
       refine ae (ae ⟨rfl,rfl,?_⟩);have h1:=HL.c p (Jj hx);rw[ci] at ai;rwa[ai] at h1
     have au:=fun {W:World} {l':List (Nat×Obj)} (h:an (Jw (Jw K hc ws) hd (Jt a (many 1000))) w ps pm px 1000 L 0 0 l' W)=>h.read (Jv (Jv HM.b hc ws) hd _) fun root S Y hM=>hM.ceiling (Jv (Jv HM.b hc ws) hd _) (by have:=HL.b;omega) (key++[0]) x hx;rw[ai,a6] at hn;simp only[ai,a6] at au;simp only[eu] at hn au;obtain⟨ch,bv⟩:=Ii (if x.isSome=true then 1 else 2);rw[bv] at hn a5;have HJ:=kq4 hn (@au) a5 ap;clear hn au a5 bv a6 ai hx a1 ap mj J0 H6;go_wp2_with fail;refine wx HJ.a fun wk mk=>?_;have mb:=mk.box (Jv HM.b hc ws) (Xj a b);have z0:=HB.out _ (mb.at (by simp));have HK:=If mb;clear mk mb;go_wp2_with fail;rw[Js];refine wx (HJ.b HK.out.m) fun wl ml=>?_;have mq:=ao.box (Jv HM.b hc ws) (⟨ml,HK.out.n,HK.out.lim⟩:ao (Jw K hc ws) w ps pm px 1000 L 0 0 pd hd ch (Jt a (many 1000)) _ wl) (Xj a b);have mc:=ao.turn ⟨mq.m.perm (.cons _ (List.perm_middle (l₁:=[_,_]))),mq.n,mq.lim⟩ HJ.d;have bf:=If (mc.close (Jv HM.b hd _));clear ml mq mc z0 HK;go_wp2_with fail;refine wx bf.out fun wm mm=>?_;have hg:=ao.goes HM.b ⟨mm.swap,Ba _ _,by omega⟩ (by have:=HL.b;omega) HL.c HL.c HJ.c false;have bj:=If hg;clear mm hg bf;go_wp2_with fail;refine bj.out.mono ?_;rintro e wn ⟨⟨⟨y1,y2⟩,n',rfl,b2⟩,a2,a3,mn,_⟩;simp only[eu];have mz:=mn.box HM.b (Xj y1 y2);have qp:=mz.at (b:=wk.heap.size) (o:=Xj a b) (by simp);have qq:=mz.at (b:=wl.heap.size) (o:=Xj a b) (by simp);obtain⟨r0,r1⟩:=Fp qp;obtain⟨s0,s1⟩:=Fp qq;have c3:(n' !=7)=true:=by simpa using b2
     have cp:=Jr (a,b);have HZ:=kq2 mz.m.bl (HG.a _ mz.m.bl);clear mn mz qp qq b2 bj;go_wp2_with fail;refine wx HZ.b fun wz hz=>?_;have HY:=If (HZ.a.trans (hz.mono HZ.a.size));clear hz;go_wp2_with fail;go_ret;exact⟨rfl,HY.out⟩