/- Cursors over maps of any kind: Close: the walk. -/
import Derived.Test.YtcibkdbpicledaaGreatDoorVGh
set_option maxRecDepth 100000
set_option maxHeartbeats 1600000
namespace Go.Proofs.YtcibkdbpicledaaGreatDoor
open Go.RowKit Tryz Go.BigFrame Go.Maps Go.WideMaps Lf Tr
section
variable {P:List (List UInt8×List UInt8)->Prop}{K:jo}{w W:World}{ps pm px limit p q pc hh is:Nat}{ws:List Nat}{L:List (List UInt8×List UInt8)}{l:List (Nat×Obj)}
theorem ao.drop(ok:gB K P)(h:ao K w ps pm px limit L p q pc hh is ws l W):
 Ct 75 #[PV ps,Xu hh] W fun e w'=>e=.returned (Xi 0)/\an K w ps pm px limit L p q ((pc,A6 pm ps hh is)::l) w':=by
 obtain⟨root,S,Y,h1,h2,h3⟩:=h.m.ex;obtain⟨o,R,T,rfl,hH,hn,hr⟩:=h1.hold;have hf:=ok.fit hH;obtain⟨S',e1,f1,n1,o1,g1⟩:=mQ hf hr;have hd:=sE h1.st hf.inv hh (fL hf hr).2.1;rw[e1] at hd;refine hd.mono ?_;rintro e w' ⟨rfl,k1,k2⟩;refine⟨rfl,⟨root,S',Y,⟨k1,⟨o,T,ok.frame hH f1 fun y hy=>o1 y fun e=>hn (e▸hy)⟩,(Jv ok hh ws).onKeep h1.on k2 h1.yx,(k2.block pm h1.ym).trans h1.map,h1.bl.trans (Fo.below (k2.mono h1.own)),h1.own,h1.yx,h1.ym,h1.lx,h1.lm,h1.ne⟩,fc.grew (p:=0) (q:=0) (by simpa using h2) g1,fun x hx=>?_⟩,h.m.nd,h.m.tb⟩;obtain⟨a,b,c,d,e⟩:=h3 x hx;exact⟨a,b,c,d,(k2.block _ a).trans e⟩
theorem ao.close(ok:gB K P)(h:ao K w ps pm px limit L p q pc hh is ws l W):
 Ct 46 #[PV pc] W fun e w'=>e=.returned (Xi 0)/\an K w ps pm px limit L p q ((pc,A6 pm ps 0 is)::l) w':=by
 have hC:=h.c;have hd:=fun W' (hW:Below W.heap.size W W')=>(h.below ok hW).drop ok;obtain⟨I,ap,ad⟩:=Bb pc pm ps hh is;have ai:=fun x:Fq I=>ap _ x.ok;simp only[Ju] at ai;obtain⟨m0,m1,m2,m3⟩:=iB ai;have al:I W.drew:=ad _ (hC.below (aa _ _).drew);have HG:=kq4 (ee hC (h.pos ok).1) hd ad ok;clear hC h ok hd ap ad ai;go_enter func46,ntmps46;go_wp2_with fail;refine Jc HG.a ?_;go_wp2_with fail;refine fh I (.take 0 (.take 1 (.take 2 (.take 3 (.take 4 (.take 5 (.take 6 (.take 7 (.go 8 .nil))))))))) (by kernel_rfl) (by kernel_rfl) al ?_;clear al
 iterate 8
  refine' pT ?_ ?_;rotate_left
  ·intro x;go_simp
   try rfl
  try simp only[pu]
 refine pD fun K hK=>?_;go_simp;refine wx (HG.b _ (aa _ _).drew) fun w2 m2=>?_;have hC:=m2.at (ag ..);unfold A6 at hC
 try go_simp
 refine hK.out _ _ (HG.c _ hC) ?_;clear hK K
 try simp only[pu]
 refine eP ?_;obtain⟨c0,c1,c2,c3⟩:=Fy hC;obtain⟨f0,f1,f2,f3⟩:=fO hC;have q3:=heap_setCell (i:=2) (v:=Xu 0) hC;have H3:=If (show an K w ps pm px limit L p q ((pc,A6 pm ps 0 is)::l) (w2.setCell ⟨pc,2,none⟩ (Xu 0)) from m2.write HG.d ⟨by decide,by decide⟩ (by simp) ⟨rfl,rfl,rfl⟩ (fun k hk=>FB hk) q3);clear m2 hC q3;go_wp2_with fail;go_ret;exact⟨rfl,H3.out⟩
end
