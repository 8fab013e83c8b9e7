/- Trees of any kind checked and listed: parts, bulk, Tree: the walks. -/
import Derived.Test.YtpljannolpapgaaGreatDoorVIm
set_option maxRecDepth 100000
set_option maxHeartbeats 12800000
namespace Go.Proofs.YtpljannolpapgaaGreatDoor
open Go.RowKit Tryz Go.BigFrame Go.Maps Go.WideMaps Lf Tr
variable{S:St}{Y:Nat->Prop}{kind:Nat}{ps:Nat}{root:Nat}{w:World}
theorem LG(h:Ig w ps S Y)(hi:Fv S){j c:FuncId}(hk:j6 kind j c)(hen:∀(args:Array Value) (w:World),(callFunc c args).run prog w=.ok (.enter c args) w)(hcc:∀W,Below w.heap.size w W->Ct c #[PV ps,Xu root] W fun e w'=>e=.returned (Xi 0)/\Below W.heap.size W w'):
 Cb 134 #[PV ps,Xi kind,Xu root] w (Xi 0):=by
 have ha:=yG h hi hk;simp only[gS,eL] at ha;have HG:=kq2 ha hcc;clear ha hcc h hi hk;go_enter func134,ntmps134;go_wp2_with fail;refine b8 HG.a fun w1 hb1=>?_;have H1:=If (hb1.alloc hb1.size (.cells #[PV ps,.func (.func j) #[] #[],.func (.func c) #[] #[]] 265));clear hb1;go_wp2_with fail;refine b8 (HG.b _ H1.out) fun w2 hb2=>?_;have H2:=If (H1.out.trans (hb2.mono H1.out.size));clear hb2;go_wp2_with fail;go_ret;exact⟨rfl,H2.out⟩
theorem K6(h:Ig w ps S Y)(hi:Fv S)(hk:kind=1\/kind=2)(t:Int)(hc:Cb 134 #[PV ps,Xi kind,Xu root] w (Xi 0)):
 Cb 86 #[PV ps,Xi kind,Xi t,Xu root] w (Xi 0):=by
 have ha:=zY h hi hk t;have hq:((kind:Int)==3)=false:=by simp;omega
 have HG:=kq2 ha hc;clear ha hc h hi hk;go_enter func86,ntmps86;go_wp2_with fail;refine Jc HG.a ?_;go_wp2_with fail;refine b8 HG.b fun w2 hb2=>?_;have H2:=If hb2;clear hb2;go_wp2_with fail;go_ret;exact⟨rfl,H2.out⟩
theorem LQ{px ps kind td root:Nat}{ty:TypeId}{kv:Value}(hT:FF w px ps ty kv kind td root)(hs:∀W,Below w.heap.size w W->Cb 86 #[PV ps,Xi kind,Xi td,Xu root] W (Xi 0)):
 Cb 56 #[PV px] w (Xi 0):=by
 have hn:=kw hT;have hs:=hs _ (aa _ w).drew;obtain⟨I,an,ad⟩:=kN px ps ty kv kind td root;have ai:=fun x:Fq I=>an _ x.ok;simp only[FF] at ai;obtain⟨m0,m1,m2,m3,m4⟩:=iK ai;have ap:I w.drew:=ad _ hT;have HG:=kq4 hn hs hT ad;clear hn hs hT an ad ai;go_enter func56,ntmps56;go_wp2_with fail;refine Jc HG.a ?_;go_wp2_with fail;refine fh I (.take 0 (.take 1 (.take 2 (.take 3 (.take 4 (.take 5 (.take 6 (.take 7 (.take 8 (.take 9 (.take 10 (.take 11 (.take 12 (.take 13 (.take 14 (.take 15 (.go 16 (.go 17 .nil)))))))))))))))))) (by kernel_rfl) (by kernel_rfl) ap ?_
 iterate 16
  refine' pT ?_ ?_;rotate_left
  ·intro x;go_simp
   try rfl
  try simp only[pu]
 refine pD fun K hK=>?_;go_simp;refine b8 HG.b fun w2 hb2=>?_;have T2:=FF.below (w:=w.drew) HG.c hb2;have B2:=kq2 T2 ((aa w.heap.size w).drew.trans hb2);clear T2 hb2
 try go_simp
 refine hK.out _ _ (HG.d _ B2.a) ?_;clear hK K
 try simp only[pu]
 refine pD fun K hK=>?_;go_simp
 try go_simp
 refine hK.out _ _ (HG.d _ B2.a) ?_;clear hK K
 try simp only[pu]
 refine eP ?_;go_wp2_with fail;go_ret;exact⟨rfl,B2.b⟩
theorem Tr.ofN_nodes:∀t:Tr,pd t.nodes=eB t.its
 | .nil=>rfl
 | .node l d m r=>by
  show pd (nodes l++(d,nd l d m r)::nodes r)=eB (l.its++d::r.its)
  rw[iX,mx,<-ofN_nodes l,<-ofN_nodes r];simp[pd,nd]
theorem JM(l:List It):(eB l).length=3*l.length:=by
 induction l with
 | nil=>rfl
 | cons d r ih=>rw[mx];simp only[ag,ih];omega
theorem Lb(args:Array Value)(w:World):(callFunc 234 args).run prog w=.ok (.enter 234 args) w:=by kernel_rfl
section
variable {X:Nat->Prop}{w W:World}{ps pm px:Nat}{S:St}{o:Nat->Nat}{Y:Nat->Prop}{t:Tr}
theorem mB.of(h:mB X w ps pm px S o Y t W)(hl:t.its.length<=1000):Ct 36 #[PV pm] W fun e w'=>∃v,e=.returned v/\FE w' W.heap.size v (eB t.its)/\Below W.heap.size W w':=by
 have:=KH h.st h.bin.fit h.map h.tr (ab rfl) h.bin.at' (by rw[nodes_len];exact h.bin.limit) (by rw[nodes_len];exact hl);rwa[ofN_nodes] at this
theorem mB.maps(h:mB X w ps pm px S o Y t W)(hl:t.its.length<=1000){bm:Nat}{ty:TypeId}(hc:W.heap[bm]?=some (.cells #[PV pm] ty)):qa W ps bm [(pm,ps,eB t.its)] where
 cell i hi:=by
  have hi:i<1:=hi;obtain rfl:i=0:=by omega
  rw[cell_of_block hc];rfl
 lt:=(gl hc)
 st m hm V hV:=by
  rw[aA] at hm;subst hm;exact IQ (h.below hV).map
 of m hm _ V hV:=by
  rw[aA] at hm;subst hm;exact(h.below hV).of hl
 own m hm:=by
  rw[aA] at hm;subst hm;obtain⟨_,_,_,_,_,hI⟩:=h.st;exact⟨_,_,hI.hd⟩
 hlt m hm x hx:=by
  rw[aA] at hm;subst hm;obtain⟨ws,hw⟩:=dA.1 (h.bin.some x hx);exact(fL h.bin.fit hw).2.1
 len:=by
  refine⟨?_,by simp⟩;unfold dO;simp only[bZ,List.flatMap_nil,bD,if_true];rw[JM];omega
theorem mB.cat(t:Tr):dO ps [(pm,ps,eB t.its)]=eB t.its:=by
 unfold dO;simp
theorem mB.check(h:mB X w ps pm px S o Y t W)(hl:t.its.length<=1000):Cb 56 #[PV px] W (Xi 0):=
 LQ h.tr fun _ hV=>K6 (h.st.below hV) h.bin.fit.inv (ab rfl) 0 (LG (h.st.below hV) h.bin.fit.inv E2 Lb fun _ hU=>KX (h.st.below (hV.trans (hU.mono hV.size))) h.bin hl)
theorem mB.make(h:mB X w ps pm px S o Y t W){n:Nat}(hn:n<=3998)(hsp:fc S (fa (n+2)) 1):
 Ct 31 #[PV ps,Xi n] W fun e w'=>∃(hh:Nat) (S':St) (o':Nat->Nat),e=.returned (.tuple #[Xu hh,Xi 0])/\mB X w ps pm px S' o' Y t w'/\reco S hh=none/\reco S' hh≠none/\ej S S' (fa (n+2)) 1:=by
 obtain⟨hh,S',o',ws,e,f',ad,hl,hr,ai,hg,ho⟩:=oz h.bin.fit hn hsp;have hm:=sH h.st n hn ho;rw[e] at hm;refine hm.mono ?_;rintro e w' ⟨rfl,h1,h2⟩;exact⟨hh,S',o',rfl,⟨h1,h.bin.frame f' (fun y hy=>ai y (by rintro rfl;exact h.bin.some _ hy ad)),FF.keep h.tr h2 h.yx,(h2.block pm h.ym).trans h.map,h.kp.trans (h2.mono fun k hk=>h.own k hk),h.own,h.yx,h.ym,h.nx,h.ne⟩,ad,by rw[hr];simp,hg⟩
end
theorem Kf {S:St}{o:Nat->Nat}(hf:Fw S o){l:List Nat}(hd:l.Nodup)(hs:∀x∈l,reco S x≠none):l.length<=S.t.slots.length:=by
 have:=hd.length_le_of_subset (l₂:=S.all) fun x hx=>(hf.mem_all x).2 (hs x hx);rw[zq] at this;exact aB this hf.live_le
theorem KR {S:St}{o:Nat->Nat}{t:Tr}(hB:fC eZ S o t)(h9:S.t.slots.length<=3*t.its.length):(∀x∈S.all,(eB t.its).count x=1)/\∀x∈eB t.its,x∈S.all:=by
 refine⟨fun x hx=>?_,fun x hx=>(hB.fit.mem_all x).2 (hB.some x hx)⟩;have hm:x∈eB t.its:=Classical.byContradiction fun hn=>by
  have:=Kf hB.fit (l:=x::eB t.its) (aF.2 ⟨hn,hB.nd⟩) fun z hz=>by
   rcases aj.1 hz with rfl | hz
   ·exact(hB.fit.mem_all _).1 hx
   ·exact hB.some z hz
  rw[ag,JM] at this;omega
 rw[hB.nd.count,if_pos hm]
theorem Lx {S:St}{o:Nat->Nat}{t:Tr}(hB:fC eZ S o t)(h9:S.t.slots.length<=3*t.its.length+1){hh:Nat}(hr:reco S hh≠none)(hn:hh∉eB t.its):mA (eB t.its) S.all=[hh]:=by
 have hd:(mA (eB t.its) S.all).Nodup:=hB.fit.all_nodup.filter _;have ai:hh∈mA (eB t.its) S.all:=cZ.2 ⟨(hB.fit.mem_all hh).2 hr,by simpa using hn⟩;have ad:∀z∈mA (eB t.its) S.all,z=hh:=fun z hz=>Classical.byContradiction fun hne=>by
  obtain⟨z1,z2⟩:=cZ.1 hz;have z2:z∉eB t.its:=by simpa using z2
  have:=Kf hB.fit (l:=z::hh::eB t.its) (aF.2 ⟨by simp[hne,z2],aF.2 ⟨hn,hB.nd⟩⟩) fun y hy=>by
   rcases aj.1 hy with rfl | hy
   ·exact(hB.fit.mem_all _).1 z1
   ·rcases aj.1 hy with rfl | hy
    ·exact hr
    ·exact hB.some y hy
  rw[ag,ag,JM] at this;omega
 cases hL:mA (eB t.its) S.all with
 | nil=>rw[hL] at ai;cases ai
 | cons a r=>
  rw[hL] at hd ad;have ha:=ad a (am ..)
  cases r with
  | nil=>rw[ha]
  | cons b r=>
   have hb:=ad b (by simp);rw[ha,hb] at hd
   simp at hd
theorem PRow.at {W W':World}{b n c:Nat}{l:List (List UInt8×List UInt8)}(h:PRow W (.slice (some ⟨b,0,none⟩) n c) l)(e:W'.heap[b]?=W.heap[b]?):PRow W' (.slice (some ⟨b,0,none⟩) n c) l:=by
 obtain⟨A,c',e1,hc⟩:=h;refine⟨A,c',e1,fun i hi=>?_⟩;obtain⟨g,o,e4,k0,k1⟩:=hc i hi
 injection e1 with q1 q2 q3
 rw[<-q1] at e4
 injection e4 with e4
 injection e4 with e5 e6
 subst e5 e6;exact⟨_,_,q1.symm,(Ha e).trans k0,(Ha e).trans k1⟩
theorem KY {w:World}(ht:gA w):
 Cb 29 #[] w (.bool true):=by
 have bt:=xp ht 262144 1000 4294967295 (by omega) (by omega) (by omega);have ba:=ux 262144 1000 4294967295 (by omega) (by omega) (by omega);have HG:=kq2 bt ba;clear bt ba ht;go_enter func29,ntmps29;go_wp2_with fail;refine HG.a.mono ?_;rintro e w1 ⟨ps,rfl,bq,ap⟩;have B2:=(aa w1.heap.size w1).alloc Ih (.cells #[SV [97],SV [],SV [98],SV [],SV [99],SV []] 40);have r2:PRow (w1.alloc (.cells #[SV [97],SV [],SV [98],SV [],SV [99],SV []] 40)) (.slice (some ⟨w1.heap.size,0,none⟩) 3 3) mz:=PRow.new w1 [([97],[]),([98],[]),([99],[])] 40;have q2:=World.alloc_heap_new w1 (.cells #[SV [97],SV [],SV [98],SV [],SV [99],SV []] 40);have bo:Ct 30 #[PV ps,Xi 1,Xi 0,.slice (some ⟨w1.heap.size,0,none⟩) 3 3] (w1.alloc (.cells #[SV [97],SV [],SV [98],SV [],SV [99],SV []] 40)) fun e w'=>∃pm,e=.returned (PV pm)/\qW (fun k=>k<w.heap.size\/k=w1.heap.size) (w1.alloc (.cells #[SV [97],SV [],SV [98],SV [],SV [99],SV []] 40)) ps pm 3 w':=by
  refine J4 r2 (by decide) (fun pm i W=>qW (fun k=>k<w.heap.size\/k=w1.heap.size) (w1.alloc (.cells #[SV [97],SV [],SV [98],SV [],SV [99],SV []] 40)) ps pm i W) ?_ ?_ ?_ ?_
  ·refine KW (w0:=w) (bq.wide B2) HG.b (ap.trans (B2.mono ap.size)) (fun k hk=>ab hk) (fun k hk=>hk.imp id fun e=>?_) (fun k hk=>hk.imp id fun e=>⟨#[SV [97],SV [],SV [98],SV [],SV [99],SV []],by rw[e];exact q2⟩) rfl ⟨by decide,by decide⟩;subst e;exact⟨Nat.le_refl _,by simp⟩
  ·rintro pm i W ⟨px,S,o,Y,t,hM,_⟩;exact r2.at (hM.kp.block _ (ae rfl))
  ·rintro pm i W ⟨px,S,o,Y,t,hM,h1,h2,h3⟩;exact⟨px,S,o,Y,t,hM.below (aa _ _).drew,h1,h2,h3⟩
  ·exact fun pm i W hi h=>h.put hi
 have H1:=kq2 bo (ap.trans (B2.mono ap.size));clear bo r2 q2 B2 bq ap;go_wp2_with fail;refine H1.a.mono ?_;rintro e w3 ⟨pm,rfl,px,S,o,Y,t,a0,hp,a7,bu⟩;have h3:t.its.length=3:=by rw[<-jT,hp];rfl
 have b3:Below w.heap.size w w3:=H1.b.trans (Fo.below (a0.kp.mono fun k hk=>ab hk));have B4:=(aa w3.heap.size w3).alloc Ih (.cells #[PV pm] 45);have ad:=a0.below B4;have bd:=ad.maps (by omega) (World.alloc_heap_new w3 (.cells #[PV pm] 45));have a':=KI (cm:=1) (r:=0) ad.st ad.bin.fit bd (fun m hm=>by rw[aA] at hm;subst hm;rfl) (fun m hm=>by
  rw[aA] at hm;subst hm;exact⟨px,fun V hV=>Gh (ad.below hV).map,fun V hV=>(ad.below hV).check (by omega)⟩) (ab ⟨rfl,by rw[mB.cat];exact KR ad.bin (by rw[h3];exact a7)⟩)
 have H3:=kq6 a' ad h3 a7 bu (b3.trans (B4.mono b3.size));have b0:=If H1.b;clear a' ad h3 a7 bu b3 B4 bd a0 hp H1;go_wp2_with fail;refine b8 H3.a fun w5 hb5=>?_;have a8:=H3.b.below hb5;have bj:=a8.make (n:=1) (by omega) (H3.e.mono (by decide) (by decide));have H5:=kq2 bj (H3.f.trans (hb5.mono H3.f.size));clear a8 bj hb5;go_wp2_with fail;refine H5.a.mono ?_;rintro e w6 ⟨hh,S',o',rfl,a1,bk,a6,bb⟩;have b6:Below w.heap.size w w6:=b0.out.trans (Fo.below (a1.kp.mono fun k hk=>ab hk));have a5:hh∉eB t.its:=fun q=>H3.b.bin.some _ q bk;have bs:S'.t.slots.length<=3*t.its.length+1:=by have:=bb.slots;have:=H3.d;have:=H3.c;omega
 have B7:=(aa w6.heap.size w6).alloc Ih (.cells #[PV pm] 45);have an:=a1.below B7;have bf:=an.maps (by have:=H3.c;omega) (World.alloc_heap_new w6 (.cells #[PV pm] 45));have a4:=J6 (cm:=1) an.st an.bin.fit bf;rw[mB.cat,Lx an.bin bs a6 a5] at a4;have H6:=kq5 a4 an a6 a5 (b6.trans (B7.mono b6.size));clear a4 an a6 a5 b6 bs bf a1 bk bb B7;go_wp2_with fail;refine H6.a.mono ?_;rintro e w8 ⟨v,rfl,bv,a3⟩;obtain⟨b,c,rfl,hb,hc⟩:=bv.cell_at (j:=0) (by simp);have hc:w8.cell? ⟨b,0,none⟩=some (Xu hh):=hc;have a2:=H6.b.below a3;have bm:=a2.of (by have:=H3.c;omega);have H8:=kq4 bm a2 hc (H6.e.trans (a3.mono H6.e.size));clear bm a2 hc a3 bv hb;simp only[bi];go_wp2_with fail;refine H8.a.mono ?_;rintro e w9 ⟨v9,rfl,bx,ar⟩;obtain⟨A9,c9,rfl⟩:=bx.slice2;have h9:(eB t.its).length=9:=by rw[JM,H3.c]
 rw[h9];have b1:=(ar.cell (p:=⟨b,0,none⟩) (cell_lt H8.c)).trans H8.c;have au:=(aa w9.heap.size w9).alloc Ih (.cells #[PV pm] 45);have ai:=(H8.b.below ar).below au;have bc:=ai.maps (by have:=H3.c;omega) (World.alloc_heap_new w9 (.cells #[PV pm] 45));have a9:=KI (cm:=1) (r:=8) ai.st ai.bin.fit bc (fun m hm=>by rw[aA] at hm;subst hm;rfl) (fun m hm=>by
  rw[aA] at hm;subst hm;exact⟨px,fun V hV=>Gh (ai.below hV).map,fun V hV=>(ai.below hV).check (by have:=H3.c;omega)⟩) (ae ⟨rfl,hh,(ai.bin.fit.mem_all hh).2 H6.c,by
   rw[mB.cat,List.count_eq_zero.2 H6.d];decide⟩)
 have HF:=kq2 a9 (H8.d.trans ((ar.trans (au.mono ar.size)).mono H8.d.size));clear a9 ar au ai bc bx h9;go_wp2_with fail;refine b8 HF.a fun w11 hb11=>?_;have HZ:=If (HF.b.trans (hb11.mono HF.b.size));clear hb11;go_wp2_with fail;go_ret;exact⟨rfl,HZ.out⟩
section
variable {P:List (List UInt8×List UInt8)->Prop}{K:jo}{w W:World}{ps pm px root:Nat}{S:St}{o:Nat->Nat}{X Y:Nat->Prop}{L:List (List UInt8×List UInt8)}
theorem KE {kind t:Int}(hk:j5 kind t K P)(h:Ig W ps S Y)(hf:Fw S o)(hb:Below w.heap.size w W)(hown:∀k,k<w.heap.size->Y k)(limit:Nat)(hl:limit<=1000):
 Ct 52 #[PV ps,Xi kind,Xi t,Xi limit] W fun e w'=>∃(pm px:Nat) (Z:Nat->Prop),e=.returned (.tuple #[PV pm,Xi 0])/\fi K w w' ps pm px limit 0 S Z []/\(∀k,Y k->Z k)/\Below W.heap.size W w'/\W.heap.size<=px/\W.heap.size<=pm:=by
 refine(CR h kind t limit K hk.ok.onLt hk.ok.onBelow (hk.new h hf) fun V px hV hT=>hk.of hV hf hT limit hl).mono ?_;rintro e w' ⟨pm,px,rfl,hM,hT,ad,lm,lx,ne⟩;exact⟨pm,px,fun k=>Y k\/(W.heap.size<=k/\k<w'.heap.size),rfl,⟨h.wide ad,⟨o,[],hk.zero hf⟩,hT,hM,hb.trans (ad.mono hb.size),fun k hk=>ab (hown k hk),ae ⟨lx,hk.ok.onLt hT⟩,ae ⟨lm,(gl hM)⟩,aB hb.size lx,aB hb.size lm,ne⟩,fun k hk=>ab hk,ad,lx,lm⟩
structure JK (K:jo) (X:Nat->Prop) (w w3 W:World) (ps pm px root:Nat) (S:St) (Y:Nat->Prop) (L:List (List UInt8×List UInt8)):Prop where
 m:fi K w W ps pm px 1000 root S Y L
 x:∀k,X k->Y k/\k≠px
 kp:Fo X w3 W
theorem JK.put {w3:World}{p q:Nat}(ok:gB K P)(h:JK K X w w3 W ps pm px root S Y L)(hs:fc S (20+p) (9+q))(a b:List UInt8)(ha:a.length<=1000)(hb:b.length<=1000)(hc:L.length<98)(hP:P L):
 Ct 24 #[PV pm,SV a,SV b] W fun e w'=>e=.returned (.tuple #[SV ((Bt.getL L a).getD []),.bool (Bt.getL L a).isSome,Xi 0])/\∃x S3,JK K X w w3 w' ps pm px x S3 Y (gV L a b)/\fc S3 p q:=by
 obtain⟨o,R,hH⟩:=h.m.hold;refine CS h.m.map a b _ _ ha hb ((ok.put h.m.st hH hc h.m.on h.m.yx hP a b ha hb (hs.mono (by omega) (by omega))).mono ?_);rintro e w' ⟨x,S3,rfl,k1,k2,k3,k4⟩;obtain⟨o3,R3,k5,_⟩:=k4.holds;exact⟨rfl,x,S3,⟨⟨k1,⟨o3,R3,k5⟩,k3,(k2.block pm ⟨h.m.ym,h.m.ne⟩).trans h.m.map,h.m.bl.trans (Fo.below (k2.mono fun k hk=>⟨h.m.own k hk,fun q=>by have:=h.m.lx;omega⟩)),h.m.own,h.m.yx,h.m.ym,h.m.lx,h.m.lm,h.m.ne⟩,h.x,h.kp.trans (k2.mono fun k hk=>h.x k hk)⟩,fc.grew hs k4.grew⟩
theorem LI {kind t:Int}(hk:j5 kind t K P)(h:Ig W ps S Y)(hf:Fw S o)(hb:Below w.heap.size w W)(hown:∀k,k<w.heap.size->Y k):
 Ct 30 #[PV ps,Xi kind,Xi t,.slice none 0 0] W fun e w'=>∃(pm:Nat),e=.returned (PV pm)/\∃px Z,fi K w w' ps pm px 1000 0 S Z []/\Below W.heap.size W w'/\W.heap.size<=px/\W.heap.size<=pm:=by
 refine J4 (l:=[]) (PRow.nil W) (by simp) (fun pm _ w'=>∃px Z,fi K w w' ps pm px 1000 0 S Z []/\Below W.heap.size W w'/\W.heap.size<=px/\W.heap.size<=pm) ?_ ?_ ?_ ?_
 ·refine(KE hk h hf hb hown 1000 (by omega)).mono ?_;rintro e w' ⟨pm,px,Z,rfl,h1,_,h2,h3,h4⟩;exact⟨pm,rfl,px,Z,h1,h2,h3,h4⟩
 ·exact fun pm i W _=>PRow.nil W
 ·rintro pm i V ⟨px,Z,h1,h2,h3,h4⟩;exact⟨px,Z,h1.below hk.ok (aa _ _).drew,h2.trans ((aa _ _).drew.mono h2.size),h3,h4⟩
 ·exact fun pm i W hi _=>absurd hi (by simp)
theorem LJ {kind t:Int}(hk:tp kind t K)(h:Ig W ps S X)(hf:Fw S o)(hb:Below w.heap.size w W)(hown:∀k,k<w.heap.size->X k){v:Value}{l:List (List UInt8×List UInt8)}(hv:PRow W v l)(hvw:∀V,Fo X W V->PRow V v l)(hn:l.length<=20)(hl:pK l)(hsp:fc S (20*40) (9*40)):
 Ct 30 #[PV ps,Xi kind,Xi t,v] W fun e w'=>∃(pm:Nat),e=.returned (PV pm)/\W.heap.size<=pm/\(∃cs,w'.heap[ps]?=some (.cells cs 94 (0,0)))/\∃px,Ic w' pm px ps 1000/\Fo X W w':=by
 have ai:∀k,X k->k<W.heap.size:=h.yl;refine(J4 hv (by omega) (fun pm i w'=>W.heap.size<=pm/\∃px root S Y,JK K X w W w' ps pm px root S Y (im (l.take i))/\fc S (20*(40-i)) (9*(40-i))) ?_ ?_ ?_ ?_).mono ?_
 ·refine(KE hk h hf hb hown 1000 (by omega)).mono ?_;rintro e w' ⟨pm,px,Z,rfl,h1,hz,h2,h3,h4⟩;exact⟨pm,rfl,h4,px,0,S,Z,⟨h1,fun k hk=>⟨hz k hk,by have:=ai k hk;omega⟩,Fo.of_below h2 ai⟩,hsp⟩
 ·rintro pm i V ⟨_,px,root,S',Y',h1,_⟩;exact hvw V h1.kp
 ·rintro pm i V ⟨h0,px,root,S',Y',h1,h2⟩;exact⟨h0,px,root,S',Y',⟨h1.m.below hk.ok (aa _ _).drew,h1.x,h1.kp.trans (Fo.of_below (aa _ _).drew fun k hk=>h1.m.st.yl k (h1.x k hk).1)⟩,h2⟩
 ·rintro pm i V hi ⟨h0,px,root,S',Y',h1,h2⟩;have ad:=hl l[i] (aw hi);have an:=wt (l.take i);rw[aL] at an;refine(h1.put (p:=20*(40-(i+1))) (q:=9*(40-(i+1))) hk.ok (h2.mono (by omega) (by omega)) l[i].1 l[i].2 ad.1 ad.2 (by omega) trivial).mono ?_;rintro e w' ⟨rfl,x,S3,h3,h4⟩;have e:gV (im (l.take i)) l[i].1 l[i].2=im (l.take (i+1)):=by rw[xB hi,DF]
  rw[e] at h3;exact⟨_,_,0,rfl,h0,px,x,S3,Y',h3,h4⟩
 ·rintro e w' ⟨pm,rfl,h0,px,root,S',Y',h1,_⟩;obtain⟨_,_,_,_,_,hI⟩:=h1.m.st;exact⟨pm,rfl,h0,⟨_,hI.hd⟩,px,h1.m.map,h1.kp⟩
theorem Ly(h:Ig W ps S Y)(hf:Fw S o)(n:Int){p q:Nat}(hsp:fc S (64+p) (1+q)):
 Ct 31 #[PV ps,Xi n] W fun e w'=>∃(a b:Value) (S':St) (o':Nat->Nat),e=.returned (.tuple #[a,b])/\Ig w' ps S' Y/\Fw S' o'/\Fo Y W w'/\fc S' p q:=by
 by_cases hn:n<0\/3998<n
 ·refine(LO h n hn).mono ?_;rintro e w' ⟨rfl,hb⟩;exact⟨_,_,S,o,rfl,h.below hb,hf,h.keep hb,hsp.mono (by omega) (by omega)⟩
 ·obtain⟨m,rfl⟩:∃m:Nat,n=m:=⟨n.toNat,by omega⟩;have hm:m<=3998:=by omega
  have ai:fa (m+2)<=64:=by
   unfold fa;rw[if_neg (by omega)]
   split<;>omega
  obtain⟨hh,S',o',ws,e,f',_,_,_,_,hg,ho⟩:=oz hf hm (hsp.mono (by omega) (by omega));have ad:=sH h m hm ho;rw[e] at ad;refine ad.mono ?_;rintro e w' ⟨rfl,h1,h2⟩;exact⟨_,_,S',o',rfl,h1,f',h2,fc.grew hsp (hg.mono ai Ih)⟩
end
def Kd(w:World)(v:Value)(l:List Int):Prop:=∃A c,v=.slice A l.length c/\∀(i:Nat) (h:i<l.length),∃g o,A=some ⟨g,o,none⟩/\w.cell? ⟨g,o+i,none⟩=some (Xi l[i])
theorem Lz {K:jo}{P:List (List UInt8×List UInt8)->Prop}(ok:gB K P)(hO:JL K){W:World}{ps pa pxa:Nat}{S:St}{o:Nat->Nat}{Y:Nat->Prop}(st:Ig W ps S Y)(ft:Fw S o)(hMa:Ic W pa pxa ps 1000)(hOa:K.On W pxa ps 0){V:World}(hV:Below W.heap.size W V){bm:Nat}{ty:TypeId}(hc:V.heap[bm]?=some (.cells #[PV pa] ty)):qa V ps bm [(pa,ps,[])] where
 cell i hi:=by
  have hi:i<1:=hi;obtain rfl:i=0:=by omega
  rw[cell_of_block hc];rfl
 lt:=(gl hc)
 st x hx U hU:=by
  rw[aA] at hx;subst hx;exact IQ (hMa.below (hV.trans (hU.mono hV.size)))
 of x hx _ U hU:=by
  rw[aA] at hx;subst hx;have hb:=hV.trans (hU.mono hV.size);exact hO (st.below hb) ft (hMa.below hb) (ok.onBelow hOa hb)
 own x hx:=by
  rw[aA] at hx;subst hx;obtain⟨_,_,_,_,_,hI⟩:=st.below hV;exact⟨_,_,hI.hd⟩
 hlt x hx y hy:=by
  rw[aA] at hx;subst hx;cases hy
 len:=⟨by simp[dO],by simp⟩
theorem LA {K:jo}{P:List (List UInt8×List UInt8)->Prop}(ok:gB K P)(hO:JL K){W:World}{ps po pa pxa pb pxb:Nat}{S:St}{o:Nat->Nat}{Y:Nat->Prop}(st:Ig W ps S Y)(ft:Fw S o)(hMa:Ic W pa pxa ps 1000)(hOa:K.On W pxa ps 0)(hMb:Ic W pb pxb po 1000)(hpo:∃cs,W.heap[po]?=some (.cells cs 94 (0,0)))(hne:po≠ps){V:World}(hV:Below W.heap.size W V){bm:Nat}{ty:TypeId}(hc:V.heap[bm]?=some (.cells #[PV pa,PV pb] ty)):qa V ps bm [(pa,ps,[]),(pb,po,[])] where
 cell i hi:=by
  have hi:i<2:=hi;have:i=0\/i=1:=by omega
  rcases this with rfl | rfl<;>rw[cell_of_block hc]<;>rfl
 lt:=(gl hc)
 st x hx U hU:=by
  have hb:=hV.trans (hU.mono hV.size);rcases aj.1 hx with rfl | hx
  ·exact IQ (hMa.below hb)
  ·rw[aA] at hx;subst hx;exact IQ (hMb.below hb)
 of x hx e U hU:=by
  have hb:=hV.trans (hU.mono hV.size);rcases aj.1 hx with rfl | hx
  ·exact hO (st.below hb) ft (hMa.below hb) (ok.onBelow hOa hb)
  ·rw[aA] at hx;subst hx;exact absurd e hne
 own x hx:=by
  rcases aj.1 hx with rfl | hx
  ·obtain⟨_,_,_,_,_,hI⟩:=st.below hV;exact⟨_,_,hI.hd⟩
  ·rw[aA] at hx;subst hx;obtain⟨cs,e⟩:=hpo;exact⟨cs,_,(hV.block _ (gl e)).trans e⟩
 hlt x hx y hy:=by
  rcases aj.1 hx with rfl | hx
  ·cases hy
  ·rw[aA] at hx;subst hx;cases hy
 len:=⟨by simp[dO],by simp⟩
theorem KF(l:List Nat):mA [] l=l:=by simp[mA]
theorem qYiac{P:Prop}(h:P:=by
 go_enter func6,ntmps6;go_wp2_with fail;refine Jc HF.a ?_;go_wp2_with fail;refine Jc HF.b ?_;exact qYiaa):P:=h
theorem qYiab{P:Prop}(h:P:=by
 go_enter func6,ntmps6;go_wp2_with fail;refine Jc HF.a ?_;go_wp2_with fail;refine Jc HF.b ?_;go_wp2_with fail;refine Jc HF.c ?_;exact qYiaa):P:=h
theorem qYiaa{P:Prop}(h:P:=by
 go_wp2_with fail;refine b8 (HG.a _ (aa _ _)) fun w9 hb=>?_;have HB:=If hb;clear hb;go_wp2_with fail;go_ret;exact⟨rfl,HB.out⟩):P:=h
theorem reachOther_walk(one two t:Int){v u:Value}{l:List (List UInt8×List UInt8)}{more:List Int}{w:World}(ht:gA w)(hv:PRow w v l)(hu:Kd w u more):
 Cb 6 #[Xi one,Xi two,Xi t,v,u] w (.bool true):=by
 have cb:=fun W (hW:Below w.heap.size w W)=>KY (ht.of_block (hW.block _ ht.lt));have ad:=Gd one t w;have an:=Gd two t w;have ai:=fun hl=>Cm (w:=w) hv hl;obtain⟨A,c,rfl,hc⟩:=hv;have hv:PRow w (.slice A l.length c) l:=⟨A,c,rfl,hc⟩;obtain⟨Au,cu,rfl,hu⟩:=hu;obtain⟨n,hn⟩:=Ii l.length;obtain⟨m,hm⟩:=Ii more.length;rw[hn] at hv ai⊢;rw[hm];have HG:=kq6 cb ht hv hn hu hm;clear cb ht hv hc hu hm hn
 cases q1:FO one t with
 | false=>
  rw[q1] at ad;have HF:=If ad;clear ad an ai q1;go_enter func6,ntmps6;go_wp2_with fail;refine Jc HF.out ?_;exact qYiaa
 | true=>
 rw[q1] at ad
 cases q2:FO two t with
 | false=>
  rw[q2] at an;have HF:=kq2 ad an;clear ad an ai q1 q2;exact qYiac
 | true=>
 rw[q2] at an
 by_cases k3:20<n
 ·have d7:(20<(n:Int))=True:=eq_true (by omega);have HF:=kq2 ad an;clear ad an ai q1 q2 k3;exact qYiac
 have d7:(20<(n:Int))=False:=eq_false (by omega);have ai:=ai (by omega)
 cases q4:jb l with
 | true=>
  rw[q4] at ai;have HF:=kq3 ad an ai;clear ad an ai q1 q2 k3 q4;exact qYiab
 | false=>
 rw[q4] at ai
 by_cases k5:20<m
 ·have d8:(20<(m:Int))=True:=eq_true (by omega);have HF:=kq3 ad an ai;clear ad an ai q1 q2 k3 q4 k5;exact qYiab
 have d8:(20<(m:Int))=False:=eq_false (by omega);have cj:one=1\/one=2\/one=3/\2<=t/\t<=16:=by unfold FO at q1;exact of_decide_eq_true q1
 have ck:two=1\/two=2\/two=3/\2<=t/\t<=16:=by unfold FO at q2;exact of_decide_eq_true q2
 obtain⟨K1,bt,b4⟩:=Kt uS one t cj;obtain⟨K2,bu,_⟩:=Kt uS two t ck;have c7:=xp HG.b 262144 4000 4294967295 (by omega) (by omega) (by omega);have c9:=fun W (hW:Below w.heap.size w W)=>KL (HG.b.of_block (hW.block _ HG.b.lt)) 262144 4000 4294967295 (by omega) (by omega) (by omega);have ch:=ux 262144 4000 4294967295 (by omega) (by omega) (by omega);have c':fc ⟨⟨262144,[]⟩,⟨4000,4294967295,[]⟩⟩ (20*40+64*20) (9*40+20):=⟨by decide,by decide⟩;have c5:pK l:=Cl q4;have HF:=kq8 ad an ai c7 c9 ch c' c5;have HK:=kq3 bt @b4 bu;clear ad an ai c7 c9 ch c' c5 bt b4 bu cj ck q1 q2 q4;go_enter func6,ntmps6;go_wp2_with fail;refine Jc HF.a ?_;go_wp2_with fail;refine Jc HF.b ?_;go_wp2_with fail;refine Jc HF.c ?_;go_wp2_with fail;refine HF.d.mono ?_;rintro e w1 ⟨ps,rfl,c3,cc⟩;have H1:=kq2 c3 cc;clear c3 cc;go_wp2_with fail;refine(HF.e _ H1.b).mono ?_;rintro e w2 ⟨po,rfl,c4,a2,dn⟩;have cp:=LI (w:=w) HK.a (H1.a.below a2) HF.f (H1.b.trans (a2.mono H1.b.size)) (fun k hk=>hk);have H2:=kq4 c4 a2 cp dn;clear c4 a2 cp dn;go_wp2_with fail;refine H2.c.mono ?_;rintro e w3 ⟨pa,rfl,au,Za,b',a3,dd,dk⟩;have ap:Below w1.heap.size w1 w3:=H2.b.trans (a3.mono H2.b.size);have dc:=HG.c.below (H1.b.trans (ap.mono H1.b.size));have cw:=LJ (w:=w1) HK.c (H2.a.wide a3) HF.f ap (fun k hk=>ab hk) (v:=.slice A n c) (l:=l) dc (fun V hV=>HG.c.below (H1.b.trans ((ap.trans (hV.mono fun k hk=>ab hk).below).mono H1.b.size))) (by have:=HG.d;omega) HF.h (HF.g.mono (by omega) (by omega));have H3:=kq6 cw b' ap a3 dd dk;clear cw b' a3 dd dk dc ap;go_wp2_with fail;refine H3.a.mono ?_;rintro e w4 ⟨pb,rfl,lb,cq,d9,bx,a6⟩;have a0:Below w1.heap.size w1 w4:=H3.c.trans (a6.mono fun k hk=>ab hk).below;have a8:=H3.b.map;have bv:Ic w4 pa au ps 1000:=(a6.block pa (ae ⟨H3.f,(gl a8)⟩)).trans a8;have b9:K1.On w4 au ps 0:=HK.a.ok.onKeep H3.b.on a6 (ae ⟨H3.e,HK.a.ok.onLt H3.b.on⟩);have d4:po≠ps:=by have:=H2.d;have:=H1.a.lt;omega
 have H4:=kq7 (H1.a.wide a0) (H1.b.trans (a0.mono H1.b.size)) bv b9 cq bx d4;have HL:=kq8 lb H3.e H3.f H2.d H2.b.size H3.d.size H1.b.size a0.size;clear a6 a0 a8 bv b9 cq bx lb;go_wp2_with fail
 go_loopw [17] (fun s17 wr=>∃i:Nat,i<=m/\s17=Xi i/\Hid (∃S o,Ig wr ps S (fun k=>k<w.heap.size\/(w1.heap.size<=k/\k<w4.heap.size))/\Fw S o/\fc S (64*(20-i)) (20-i)/\Fo (fun k=>k<w.heap.size\/(w1.heap.size<=k/\k<w4.heap.size)) w4 wr)) (fun s17 _=>m-(intOf s17).toNat)
 case atStart=>exact⟨0,by omega,rfl,_,_,H4.a,HF.f,HF.g.mono (by omega) (by omega),Fo.refl _ _⟩
 case round=>
  obtain⟨i,eb,rfl,I⟩:=hrel
  by_cases hi:i<m
  ·have ds:(i:Int)<m:=by omega
   have dv:i<more.length:=by rw[HG.f];exact hi
   obtain⟨g,o2,rfl,bb⟩:=HG.e i dv;obtain⟨S,o,st,ft,sp,kp⟩:=I.out;have bb:=((H4.b.trans (kp.mono fun k hk=>ab hk).below).cell (p:=⟨g,o2+i,none⟩) (cell_lt bb)).trans bb;generalize more[i]=z at*;have cn:=Ly (p:=64*(20-(i+1))) (q:=20-(i+1)) st ft z (sp.mono (by omega) (by omega));have HM:=kq2 cn kp;clear cn kp st ft sp I;go_wp2_with fail;refine HM.a.mono ?_;rintro e w5 ⟨ra,rb,S',o',rfl,st,ft,kp,sp⟩;have HE:=kq4 st ft sp (HM.b.trans kp);clear st ft sp kp HM;go_wp2_with fail;go_roundw
   case rel=>exact⟨i+1,by omega,by simp,S',o',HE.out⟩
   case measure=>simp[intOf];omega
  ·obtain rfl:i=m:=by omega
   have ds:¬(i:Int)<i:=by omega
   obtain⟨S,o,st,ft,_,kp⟩:=I.out;clear I;obtain⟨wm,d5⟩:∃wm,wm=wr:=⟨_,rfl⟩;subst d5;have a9:=(kp.block pa (ae ⟨aB HL.e HL.c,(gl H4.c)⟩)).trans H4.c;have a':K1.On wm au ps 0:=HK.a.ok.onKeep H4.d kp (ae ⟨aB HL.e HL.b,HK.a.ok.onLt H4.d⟩);have b0:=(kp.block pb (ae ⟨aB HL.e (aB HL.f HL.a),(gl H4.f)⟩)).trans H4.f;have cv:∃cs,wm.heap[po]?=some (.cells cs 94 (0,0)):=by
    obtain⟨cs,e⟩:=H4.e;exact⟨cs,(kp.block po (ae ⟨HL.d,(gl e)⟩)).trans e⟩
   have B5:Below w.heap.size w wm:=H4.b.trans (kp.mono fun k hk=>ab hk).below;have ca:=J8 st ft;have bq:= @Lz K1 _ HK.a.ok (fun {_ _ _ _ _ _ _} =>HK.b) wm ps pa au S o _ st ft a9 a';have bs:= @LA K1 _ HK.a.ok (fun {_ _ _ _ _ _ _} =>HK.b) wm ps po pa au pb d9 S o _ st ft a9 a' b0 cv H4.g;have H5:=kq7 st ft B5 ca @bq @bs H4.g;clear st ft kp a9 a' b0 cv B5 ca bq bs;go_wp2_with fail;refine H5.d.mono ?_;rintro e w6 ⟨v6,rfl,bj,ba⟩;obtain⟨A6,c6,rfl⟩:=bj.slice2;have N7:=World.alloc_heap_new w6 (.cells #[PV pa] 45);have B7:Below wm.heap.size wm (w6.alloc (.cells #[PV pa] 45)):=ba.alloc ba.size _;have bc:=J6 (cm:=1) (H5.a.below B7) H5.b (H5.e B7 N7);rw[show dO ps [(pa,ps,[])]=[] by simp[dO],KF] at bc;have R7:FE (w6.alloc (.cells #[PV pa] 45)) wm.heap.size (.slice A6 S.all.length c6) S.all:=bj.alloc _;have H7:=kq3 bc R7 B7;clear bc R7 B7 N7 bj ba;go_wp2_with fail;refine H7.a.mono ?_;rintro e w8 ⟨v8,rfl,bk,a4⟩;obtain⟨A8,c8,rfl⟩:=bk.slice2;have N9:=World.alloc_heap_new w8 (.cells #[PV pa,PV pb] 45);have B9:Below wm.heap.size wm (w8.alloc (.cells #[PV pa,PV pb] 45)):=(H7.c.trans (a4.mono H7.c.size)).alloc (aB H7.c.size a4.size) _;have bd:=J6 (cm:=2) (H5.a.below B9) H5.b (H5.f B9 N9);rw[show dO ps [(pa,ps,[]),(pb,po,[])]=[] by simp[dO],KF] at bd;have R9:FE (w8.alloc (.cells #[PV pa,PV pb] 45)) wm.heap.size (.slice A6 S.all.length c6) S.all:=(H7.b.at fun g e=>a4.block g (H7.b.ge g e).2).alloc _;have Q9:FE (w8.alloc (.cells #[PV pa,PV pb] 45)) wm.heap.size (.slice A8 S.all.length c8) S.all:=(FE.base2 bk H7.c.size).alloc _;have H9:=kq4 bd R9 Q9 B9;clear bd R9 Q9 B9 N9 bk a4;go_wp2_with fail;refine H9.a.mono ?_;rintro e a7 ⟨ee,rfl,bf,a1⟩;obtain⟨d',ea,rfl⟩:=bf.slice2;have bo:FE a7 wm.heap.size (.slice A6 S.all.length c6) S.all:=H9.b.at fun g e=>a1.block g (H9.b.ge g e).2;have bm:FE a7 wm.heap.size (.slice A8 S.all.length c8) S.all:=H9.c.at fun g e=>a1.block g (H9.c.ge g e).2;have ar:=kq4 bo bm (FE.base2 bf H9.d.size) (H9.d.trans (a1.mono H9.d.size));clear bo bm bf a1;have ed:S.all.length<=65536:=by rw[zq];exact aB H5.b.live_le (aB H5.b.tab.len H5.b.tab.most.2)
   generalize hk:S.all.length=k at*;have dp:=If hk;clear hk;go_wp2_with fail
   go_loopw [21] (fun s21 wq=>∃j:Nat,j<=k/\s21=Xi j/\Hid (Below a7.heap.size a7 wq)) (fun s21 _=>k-(intOf s21).toNat)
   case atStart=>exact⟨0,by omega,rfl,aa _ _⟩
   case round=>
    obtain⟨j,ec,rfl,J⟩:=hrel;obtain⟨wq,d6⟩:∃wq,wq=wr:=⟨_,rfl⟩;subst d6
    by_cases hj:j<k
    ·have d0:(j:Int)<k:=by omega
     have a5:j<S.all.length:=by rw[dp.out];exact hj
     obtain⟨b1,d1,e1,_,x1⟩:=ar.a.cell_at a5;obtain⟨b2,d2,e2,_,x2⟩:=ar.b.cell_at a5;obtain⟨b3,d3,e3,_,x3⟩:=ar.c.cell_at a5
     injection e1 with e1 e4 e5
     injection e2 with e2 e6 e7
     injection e3 with e3 e8 e9
     subst e1 e2 e3;have x1:=(J.out.cell (p:=⟨b1,j,none⟩) (cell_lt x1)).trans x1;have x2:=(J.out.cell (p:=⟨b2,j,none⟩) (cell_lt x2)).trans x2;have x3:=(J.out.cell (p:=⟨b3,j,none⟩) (cell_lt x3)).trans x3;generalize S.all[j]=z at*;clear e4 e5 e6 e7 e8 e9 a5;go_wp2_with fail
     go_quiet (fail)
     clear x1 x2 x3;go_wp2_with fail;go_roundw
     case rel=>exact⟨j+1,by omega,by simp,If (J.out.trans ⟨rfl,rfl,rfl,Nat.le_refl _,fun _ _=>rfl⟩)⟩
     case measure=>simp[intOf];omega
    ·obtain rfl:j=k:=by omega
     have d0:¬(j:Int)<j:=by omega
     have BZ:Below wm.heap.size wm wq:=ar.d.trans (J.out.mono ar.d.size);have NZ:=World.alloc_heap_new wq (.cells #[PV pa,PV pb] 45);have BY:Below wm.heap.size wm (wq.alloc (.cells #[PV pa,PV pb] 45)):=BZ.alloc BZ.size _;have cx:=LK (cm:=2) (H5.a.below BY) H5.b (H5.f BY NZ) ⟨(pb,po,[]),by simp,H5.g⟩;have HY:=kq2 cx (H5.c.trans (BY.mono H5.c.size));clear cx BY NZ BZ J;go_wp2_with fail;refine b8 HY.a fun w12 hb12=>?_;have HX:=If (HY.b.trans (hb12.mono HY.b.size));clear hb12;go_wp2_with fail;refine b8 (HG.a _ HX.out) fun w13 hb13=>?_;have HW:=If (HX.out.trans (hb13.mono HX.out.size));clear hb13;go_wp2_with fail;go_ret;exact⟨rfl,HW.out⟩