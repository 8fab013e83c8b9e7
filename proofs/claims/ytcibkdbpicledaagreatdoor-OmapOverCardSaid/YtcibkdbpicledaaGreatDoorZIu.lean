/- OmapOver: the walk. -/
import Derived.Test.YtcibkdbpicledaaGreatDoorZRk
set_option maxRecDepth 100000
set_option maxHeartbeats 25600000
namespace Go.Proofs.YtcibkdbpicledaaGreatDoor
open Go.RowKit Tryz Go.BigFrame Go.Maps Go.WideMaps Lf Tr
def GN(w:World)(v:Value)(l:List (List UInt8)):Prop:=∃A c,v=.slice A l.length c/\∀(i:Nat) (h:i<l.length),∃g o,A=some ⟨g,o,none⟩/\w.cell? ⟨g,o+i,none⟩=some (SV l[i])
theorem G0 {kind t:Int}(h:FO kind t=true):kind=1\/kind=2\/kind=3/\2<=t/\t<=16:=of_decide_eq_true h
theorem GL(a:List UInt8)(W:World):(binOp .neq 9 (SV a) (SV a)).run prog W=.ok (.bool false) W:=by rw[Hp];simp
theorem qIuaa{P:Prop}(h:P:=by
 go_wp2_with fail;refine(HG.a _ HB.out).mono ?_;rintro e w6 ⟨rfl,ap⟩;have H6:=If (HB.out.trans (ap.mono HB.out.size));clear ap;go_wp2_with fail;go_ret;exact⟨rfl,H6.out⟩):P:=h
theorem omapOver_walk(kind t:Int){v:Value}{l:List Pr}(key:List UInt8){u:Value}{vals:List (List UInt8)}{w:World}(ht:gA w)(hv:jj w v l)(hu:GN w u vals):
 Cb 4 #[.int .i64 kind,.int .i64 t,v,SV key,u] w (.bool true):=by
 have bb:=fun W (hW:Below w.heap.size w W)=>yV (ht.of_block (hW.block _ ht.lt));have b0:=Gd kind t w;have b1:=fun h=>Cm (w:=w) hv h;have ao:=fun h60 hsh W (hW:Below w.heap.size w W)=>Hv (hv.below hW) h60 (hsh:pK l);obtain⟨Al,cl,rfl,bt⟩:=hv;have hv:jj w (.slice Al l.length cl) l:=⟨Al,cl,rfl,bt⟩;obtain⟨Au,cu,rfl,bu⟩:=hu;obtain⟨m,hm⟩:=Ii vals.length;obtain⟨n,hn⟩:=Ii l.length;have HG:=kq4 bb b0 b1 ht;have HV:=kq4 hv bu hm hn;have HO:=If ao;rw[hm];rw[hn] at HG HV HO⊢;clear bb b0 b1 ao ht hv bu bt hm
 by_cases hg:FO kind t=false\/30<n\/jb l=true\/1000<key.length\/30<m
 ·obtain⟨fb,an⟩:=Ii (FO kind t);obtain⟨lb,al⟩:=Ii (jb l);rw[an,al] at HG hg;have cb:fb=false\/(fb=true/\(30<(n:Int))=True)\/(fb=true/\(30<(n:Int))=False/\n<=100000/\lb=true)\/(fb=true/\(30<(n:Int))=False/\n<=100000/\lb=false/\(1000<(key.length:Int))=True)\/(fb=true/\(30<(n:Int))=False/\n<=100000/\lb=false/\(1000<(key.length:Int))=False/\(30<(m:Int))=True):=by
   cases fb with
   | false=>exact ab rfl
   | true=>
    refine ae ?_
    by_cases h1:30<n
    ·exact ab ⟨rfl,eq_true (by omega)⟩
    refine ae ?_
    cases lb with
    | true=>exact ab ⟨rfl,eq_false (by omega),by omega,rfl⟩
    | false=>
     refine ae ?_
     by_cases h2:1000<key.length
     ·exact ab ⟨rfl,eq_false (by omega),by omega,rfl,eq_true (by omega)⟩
     ·exact ae ⟨rfl,eq_false (by omega),by omega,rfl,eq_false (by omega),eq_true (by simp[h1,h2] at hg;omega)⟩
  clear hg an al hn
  rcases cb with rfl | ⟨rfl,g1⟩ | ⟨rfl,g1,g2,rfl⟩ | ⟨rfl,g1,g2,rfl,g3⟩ | ⟨rfl,g1,g2,rfl,g3,g4⟩
  all_goals
   go_enter func4,ntmps4;go_wp2_with fail;refine HG.b.mono ?_;rintro e w1 ⟨rfl,rfl⟩;go_wp2_with fail
   try (refine(HG.c (by assumption)).mono ?_;rintro e w1 ⟨rfl,rfl⟩;go_wp2_with fail)
   refine(HG.a _ (aa _ _)).mono ?_;rintro e w1 ⟨rfl,bc⟩;have H1:=If bc;clear bc;go_wp2_with fail;go_ret;exact⟨rfl,H1.out⟩
 ·have an:FO kind t=true:=by
   cases h:FO kind t with
   | false=>exact absurd (ab h) hg
   | true=>rfl
  have al:jb l=false:=by
   cases h:jb l with
   | true=>exact absurd (ae (ae (ab h))) hg
   | false=>rfl
  have ck:n<=30:=by omega
  have hk:key.length<=1000:=by omega
  have cp:m<=30:=by omega
  have g1:(30<(n:Int))=False:=eq_false (by omega);have g3:(1000<(key.length:Int))=False:=eq_false (by omega);have g4:(30<(m:Int))=False:=eq_false (by omega);rw[an,al] at HG;obtain⟨K,hK⟩:=BU uS kind t (G0 an);have a2:=Cp hK HG.d HV.a (by omega) (Cl al) (fun _ _=>trivial);have ao:=HO.out (by omega) (Cl al);have a8:=GF l;have a7:=wt l;have ad:=If hK.ok;obtain⟨L,hL⟩:=Ii (im l);rw[hL] at a2 ao a8 a7;rw[hn] at a2;have HM:=kq4 a2 ao a8 a7;clear a2 ao a8 a7 hL hK an al hg HO;go_enter func4,ntmps4;go_wp2_with fail;refine HG.b.mono ?_;rintro e w1 ⟨rfl,rfl⟩;go_wp2_with fail;refine(HG.c (by omega)).mono ?_;rintro e w1 ⟨rfl,rfl⟩;go_wp2_with fail;clear g1 g3 g4;refine HM.a.mono ?_;rintro e w1 ⟨ps,pm,px,root,S,Y,rfl,hM,hS⟩;have H1:=kq2 hM (hS.mono (p':=20*100) (q':=9*100) (by omega) (by omega));clear hM hS;go_wp2_with fail;refine(HM.b _ H1.a.bl).mono ?_;rintro e w2 ⟨v2,rfl,b2,bd⟩;have H2:=kq2 (H1.a.below ad.out bd) (jj.of_owns b2);clear b2 bd;have bv:=Hj H2.b (by have:=HM.d;omega) key (by omega);have b8:=If bv;clear bv;go_wp2_with fail;refine b8.out.mono ?_;rintro e w3 ⟨rfl,bf⟩;have H3:=If (H2.a.below ad.out bf);have b9:=HM.d;have a3:=fun x=>He HM.c key x;obtain⟨M,a5⟩:=Ii L.length;obtain⟨T,hT⟩:=Ii (if(Bt.getL L key).isSome=true then M else M+1);rw[a5] at a3 b9;rw[hT] at a3;have HT:=kq2 a3 a5;obtain⟨N,hN⟩:=Ii (FT L key);obtain⟨g,ai⟩:=Ii (Bt.getL L key);rw[hN];rw[ai] at hT;clear bf a3 a5
  cases g
  case' none=>
   have h1:=Gu HM.c ai;have b':(0<=N)=False:=eq_false (by omega);have ca:T=M+1:=by rw[<-hT];rfl
   have ch:((T:Int) !=(M:Int))=true:=by simp;omega
   have cr:((T:Int) !=(M:Int)+1)=false:=by simp;omega
   have cs:IntKind.i64.wrap ((M:Int)+1)=(M:Int)+1:=aD _ (by omega);clear h1 hT hN;have a9:=If ai;clear ai;go_wp2_with fail
  case' some v0=>
   obtain⟨e1,e2⟩:=Gv HM.c ai;have ca:T=M:=by rw[<-hT];rfl
   have cc:=nZ L key;obtain⟨k,hk⟩:=Ii (eK L key);rw[hk] at e1 e2 cc;obtain rfl:N=(k:Nat):=by rw[<-hN,e1]
   have b':(0<=(k:Int))=True:=eq_true (by omega);have ch:((T:Int) !=(M:Int))=false:=by simp;omega
   have a9:=If ai;have HE:=If e2;clear e1 e2 hk hT hN ai;go_wp2_with fail;refine(HM.b _ H3.out.bl).mono ?_;rintro e w4 ⟨v4,rfl,b4,bj⟩;have H4:=If (H3.out.below ad.out bj);obtain⟨A4,c4,rfl,r4⟩:=jj.of_owns b4;obtain⟨gk,gp⟩:=aA.1 HE.out;obtain⟨ga,gb,rfl,d0,d1⟩:=r4 k gk;rw[gp] at d0 d1;rw[HT.b];have cn:k<M:=by rw[<-HT.b];exact gk
   clear bj b4 r4 gp gk d0 H3;have H3:=H4;clear H4;go_wp2_with fail
  all_goals
   refine(H3.out.len ad.out (by rw[HT.b];omega)).mono ?_;rintro e w5 ⟨rfl,bk⟩;have H5:=If (H3.out.below ad.out bk);rw[HT.b];clear bk;go_wp2_with fail
   go_loopw [15,16,18,19,20,21,22,23] (fun s15 s16 s18 _ _ _ _ _ wr=>∃i:Nat,s18=.int .i64 i/\i<=m/\∃gi:Option (List UInt8),s15=.bool gi.isSome/\s16=SV (gi.getD [])/\Hid (∃root S Li,fi K w wr ps pm px 1000 root S Y Li/\fc S (20*(100-i)) (9*(100-i))/\Bt.getL Li key=gi/\(∀x,(gV Li key x).length=T)/\Li.length<=31)) (fun _ _ s18 _ _ _ _ _ _=>m-(intOf s18).toNat)
   case atStart=>exact⟨0,rfl,by omega,_,rfl,rfl,root,S,L,H5.out,H1.b,a9.out,HT.a,by rw[HT.b];omega⟩
   case round=>
    obtain⟨i,rfl,cm,gi,rfl,rfl,I0⟩:=hrel;obtain⟨root,S,Li,hM,hS,a1,au,ar⟩:=I0.out
    by_cases hi:i<m
    ·have cd:(i:Int)<m:=by omega
     obtain⟨ub,uo,rfl,uc⟩:=HV.b i (by rw[HV.c];exact hi);obtain⟨x,hx⟩:∃x,vals[i]'(by rw[HV.c];exact hi)=x:=⟨_,rfl⟩;rw[hx] at uc;have HU:=If uc;have u1:=(hM.bl.cell (p:=⟨ub,uo+i,none⟩) (jK uc)).trans uc;clear uc hx
     by_cases hxl:1000<x.length
     ·have cj:(1000<(x.length:Int))=True:=eq_true (by omega);have HB:=If hM.bl;clear hM hS a1 au ar hxl;exact qIuaa
     ·have cj:(1000<(x.length:Int))=False:=eq_false (by omega);have hp:=hM.put (p:=20*(100-(i+1))) (q:=9*(100-(i+1))) ad.out (hS.mono (by omega) (by omega)) key x hk (by omega) (by omega) (by omega) trivial;rw[a1] at hp;obtain⟨b,hb⟩:=Ii gi.isSome;obtain⟨o,ho⟩:=Ii (gi.getD []);rw[hb,ho] at hp⊢;have HP:=kq3 hp au ar;clear hM hS a1 au ar hp hb ho hxl;go_wp2_with fail;refine HP.a.mono ?_;rintro e w6 ⟨rfl,r6,S6,a4,ba⟩;have a':(gV Li key x).length<=31:=by rw[HP.b];omega
      have a0:=a4.get ad.out (by omega) key;rw[Gx] at a0;simp only[bA,bz,if_true] at a0;have H6:=kq4 a4 ba a' a0;clear a4 ba a' a0 u1;go_wp2_with fail;refine H6.d.mono ?_;rintro e w7 ⟨rfl,bm⟩;have H7:=If (H6.a.below ad.out bm);have u1:=(H7.out.bl.cell (p:=⟨ub,uo+i,none⟩) (jK HU.out)).trans HU.out;have n1:=GL o;have n2:=GL x;have a6:=fun(W:World) (hM:fi K w W ps pm px 1000 r6 S6 Y (gV Li key x))=>hM.len ad.out (by have:=H6.c;omega);rw[HP.b x] at a6;have HL:=If a6;clear bm a6;go_wp2_with fail;refine(HL.out _ H7.out).mono ?_;rintro e w8 ⟨rfl,bo⟩;have H8:=If (H7.out.below ad.out bo);clear bo u1 n1 n2;go_wp2_with fail
      try (refine(HL.out _ H8.out).mono ?_;rintro e w9 ⟨rfl,bs⟩;have H8:=If (H8.out.below ad.out bs);clear bs;go_wp2_with fail)
      go_roundw
      case rel=>exact⟨i+1,by simp,by omega,some x,rfl,rfl,r6,S6,_,H8.out,H6.b,Gx _ _,fun y=>by rw[Hf];exact HP.b y,H6.c⟩
      case measure=>simp[intOf];omega
    ·obtain rfl:i=m:=by omega
     have cd:¬(i:Int)<i:=by omega
     have HB:=If hM.bl;clear hM hS a1 au ar;exact qIuaa