/- Binary trees gone through in order: a row of handles that a round appends to; walk.List: the walk. -/
import Derived.Test.YtpljannolpapgaaGreatDoorTBx
import Derived.Test.YtpljannolpapgaaGreatDoorTXv
import Derived.Test.YtpljannolpapgaaGreatDoorTBv
set_option maxRecDepth 100000
set_option maxHeartbeats 6400000
namespace Go.Proofs.YtpljannolpapgaaGreatDoor
section
open Go.RowKit Tryz Go.BigFrame Go.Maps Go.WideMaps Lf Tr
attribute [local go_sem] Oper.semAt_some
structure xb (w:World) (Bo D:Nat) (X:Nat->Prop) (L:List Nat) (W:World):Prop where
 lo:w.1.size<=Bo/\Bo<D/\D<=W.1.size
 bl:D_ w W
 xl:∀k,X k->w.1.size<=k/\k≠Bo/\k<W.1.size
 ex:∃A c,W.1[Bo]?=some (.cells #[.slice A L.length c] 59)/\FE W D (.slice A L.length c) L/\∀g,(Value.slice A L.length c).ownBlock=some g->¬X g
section
variable {w W W':World}{Bo D B:Nat}{X X':Nat->Prop}{L:List Nat}{row:Option Nat}
theorem xb.grown(h:xb w Bo D X L W)(hB:w.1.size<=B)(hg:W.grownBy W' row)(hr:∀r,row=some r->X r\/B<=r/\∃o:Obj,W.1[r]?=some o/\o.isCells=false)(hx:∀k,X' k->X k\/W.1.size<=k/\k<W'.1.size):xb w Bo D X' L W':=by
 obtain⟨A,c,h1,h2,h3⟩:=h.ex;have ap:=hg.size;have ar:=h.lo;have au:=h.bl.size;have ai:=(gl h1);have an:∀k cs ty fr,W.1[k]?=some (.cells cs ty fr)->¬X k->row≠some k:=fun k cs ty fr e hx e2=>by
  rcases hr k e2 with q | ⟨_,o,q,q2⟩
  ·grind
  ·rw[e] at q
   cases q
   cases q2
 have ad:¬X Bo:=fun q=>(h.xl _ q).2.1 rfl;refine⟨o_,h.bl.T ⟨hg.os,hg.tape,hg.output,ap,fun k hk=>hg.block k o_ fun e=>?_⟩,fun k hk=>?_,A,c,(hg.block _ ai fun e=>an _ _ _ _ h1 ad e.S).T h1,h2.at fun g e=>hg.block g (h2.ge g e).2 fun q=>?_,fun g e q=>?_⟩
 ·rcases hr k e.S with q | ⟨q,_⟩
  ·have:=(h.xl _ q).1;omega
  omega
 ·rcases hx k hk with q | q
  ·have:=h.xl _ q;omega
  omega
 ·obtain⟨_,_,cs,fr,e3⟩:=h2.block e
  grind
 ·have:=(h2.ge g e).2
  grind
theorem xb.own {α:Type}(f:List α->List Nat)(hB:w.1.size<=B):JT B (fun X xs W=>xb w Bo D X (f xs) W):=fun _ _ _ _ _ _ h hg hr hx=>h.grown hB hg hr hx
theorem xb.append(h:xb w Bo D X L W)(hl:L.length<=100000)(x:Nat)(ty:TypeId)(n0:Nat)(hn:n0<=Bo):
 ∃A c,W.1[Bo]?=some (.cells #[.slice A L.length c] 59)/\∃A2 c2 W2,(Builtin.append_ #[59,59] ty #[.slice A L.length c,.slice (some (y_ W.1.size)) 1 1]).run prog (W.alloc (Xf x))=.ok (.slice A2 (L.length+1) c2) W2/\(∃v,W2.1[Bo]?=some (.cells #[v] 59))/\
  xb w Bo D X (L++[x]) (W2.setCell (y_ Bo) (.slice A2 (L.length+1) c2))/\KeepsFrom D W (W2.setCell (y_ Bo) (.slice A2 (L.length+1) c2))/\mA n0 X W (W2.setCell (y_ Bo) (.slice A2 (L.length+1) c2)):=by
 obtain⟨A,c,h1,h2,h3⟩:=h.ex;have ap:=h.lo;obtain⟨v2,W2,a0,ai,ad,a1⟩:=jF h2 hl x ap.2.2 ty;obtain⟨A2,c2,rfl⟩:=ai.E_;have a3:=ad.size;rw[ag,bi] at a0 ai a1;have ar:∀k,k<W.1.size->(k<D\/X k)->W2.1[k]?=W.1[k]?:=fun k hk q=>ad.block k hk fun e=>by
  rcases q with q | q
  ·have:=(h2.ge k e.S).1;omega
  grind
 have an:=(ar Bo ((gl h1)) (.inl ap.2.1)).T h1;have hs:∀k,k≠Bo->(W2.setCell (y_ Bo) (.slice A2 (L.length+1) c2)).1[k]?=W2.1[k]?:=fun k hk=>FB hk;have au:=ai;have key:∀k,k<W.1.size->(k<D\/X k)->k≠Bo->(W2.setCell (y_ Bo) (.slice A2 (L.length+1) c2)).1[k]?=W.1[k]?:=fun k hk q q2=>(hs k q2).T (ar k hk q);refine⟨A,c,h1,A2,c2,W2,a0,⟨_,an⟩,⟨by rw[size_setCell];omega,h.bl.T ⟨ad.os,ad.tape,ad.output,by simp_all,fun k hk=>key k o_ (.inl o_) o_⟩,(fun k hk=>by have:=h.xl k hk;grind),A2,c2,?_,?_,fun g e q=>?_⟩,⟨by simp_all,fun k o hk e hc=>?_⟩,⟨ad.os,ad.tape,ad.output,by simp_all,fun k hk=>key k o_ (.inl o_) o_⟩,fun k o hk e=>(key k (gl e) (.inr hk) (h.xl k hk).2.1).T e⟩
 ·rw[ag,bi];exact heap_setCell (i:=0) (v:=.slice A2 (L.length+1) c2) an
 ·rw[ag,bi];exact au.at fun g e=>hs g (by have:=(au.ge g e).1;omega)
 ·rw[ag,bi] at e;rcases a1 with q2 | ⟨g',q2,hg⟩
  ·grind
  ·rw[e] at q2;cases q2
   have:=h.xl g q;omega
 ·have a2:=(gl e);refine(hs k o_).T ((ad.block k a2 fun q=>?_).T e);obtain⟨_,_,cs,fr,e3⟩:=h2.block q.S;rw[e] at e3;cases e3
  cases hc
end
theorem NE {w:World}{ps:Nat}{S:St}{o:Nat->Nat}{Y:Nat->Prop}{t:Tr}(h:Ig w ps S Y)(hf:Fw S o)(ha:Tr.At S t)(hN:t.h_.length<A6 S)(hN2:t.h_.length<=1000):
 CallsIn Fence.wide 7 prog 75 #[PV ps,Xu t.f9] w fun e w'=>∃v,e=.returned v/\FE w' (w.1.size+3) v t.hs/\D_ w w':=by
 have h1:1<=7:=o_
 have a8:Fence.wide.fn 121:=trivial;have a1:∀W,CallsIn Fence.wide 6 prog 121 #[PV ps,Xu t.f9] W _:=fun W=>callsIn_wide.2 (EY ps t.f9 W);have HR:=kq5 h hf ha hN hN2;refine callsIn_of_wp_marks func75 rfl trivial ?_ rfl;simp only[ntmps75,aT,aj,aK,Nat.reduceAdd,Nat.reduceSub,aO,aP,aU,aR,aV,aJ];gi_wp2_with fail;refine(a1 _).M ?_;rintro e w4 ⟨rfl,rfl⟩;gi_wp2_with fail;have hb:=((c_ w (.cells #[n_] 59)).alloc s_ (Xg ps)).alloc m_ (Xf t.f9);obtain⟨W0,ai⟩:=Ii (((w.alloc (.cells #[n_] 59)).alloc (Xg ps)).alloc (Xf t.f9));have z0:W0.1.size=w.1.size+3:=by rw[<-ai];simp
 have g0:W0.1[w.1.size]?=some (.cells #[n_] 59):=by
  grind [Below.heap_alloc,World.alloc_heap_new]
 have g1:W0.1[w.1.size+1]?=some (Xg ps):=by
  rw[<-ai,cI _ _ _ s_];have:=World.alloc_heap_new (w.alloc (.cells #[n_] 59)) (Xg ps)
  simp_all
 have g2:W0.1[w.1.size+1+1]?=some (Xf t.f9):=by
  rw[<-ai];have:=World.alloc_heap_new ((w.alloc (.cells #[n_] 59)).alloc (Xg ps)) (Xf t.f9)
  simp_all
 rw[ai] at hb⊢;have ar:xb w w.1.size (w.1.size+3) (fun k=>k=w.1.size+1\/k=w.1.size+1+1) [] W0:=⟨o_,hb,fun k hk=>by omega,none,0,g0,World.ownsRow_nil _ _ _ _,fun g e=>nomatch e⟩;refine KW rfl h1 (gf:=161) (lb:=#[PV (w.1.size+1),PV (w.1.size+1+1)]) rfl trivial (enters_of func161 k_ rfl)
  (Ls HR.a HR.b HR.c HR.d HR.e _ _ hb o_ g1 g2) (fun k hk=>by omega) mA.T
  (fun X W l o o' h1 h2 h3 h4 h5=>⟨nN W l o o' o_ h3 h4 h5,fun k o2 hx e=>(World.putObj_heap_other (by grind)).T e⟩) (aa _ _) (fun _=>rfl)
  (fun X ad W=>xb w w.1.size (w.1.size+3) X (ad.map (·.1.h)) W)
  (xb.own (B:=W0.1.size) (fun l:List (It×Nd)=>l.map (·.1.h)) o_)
  ar
  (fun x a' _=>a'= { tmps:=#[PV ps,Xu t.f9,undef,undef,n_,PV w.1.size,Xu x.1.h,PV ps,Xu t.f9,.func (.func 161) #[] #[PV (w.1.size+1),PV (w.1.size+1+1)],Xu x.1.h,eS x.2,undef,undef,undef,undef,undef],defers:=[] })
  (fun x a' _ X W' row hs hg hr=>hs)
  ?assign ?body ?done
 case assign=>
  rintro l X ad x W K hI hK;have HK:=If hK;simp only[JW]
  gi_wp2
  exact HK.O _ _ (KeepsFrom.refl _ _) (mA.refl _ _ _) hI rfl
 case body=>
  rintro l X ad x a' W a9 ba hI rfl ⟨r,a6⟩;have a4:(ad.map (·.1.h)).length<=100000:=by
   have:=congrArg List.length a6;have:=HR.e
   grind
  obtain⟨A,c,an,A2,c2,W2,a7,⟨v2,ap⟩,au,a2,a3⟩:=hI.append a4 x.1.h 59 w.1.size Ih;generalize (ad.map (·.1.h)).length=n at*;have c0:(W).cell? (y_ w.1.size)=some (.slice A n c):=e_ an
  have d0:(W2).cell? (y_ w.1.size)=some (v2):=e_ ap
  have f0:(W2).frozen? (y_ w.1.size)=false:=AT ap;have HI:=kq3 au a2 a3
  gi_wp2_with (gi_at_builtin;refine Kg _ rfl _ _ _ _ rfl _ _ rfl rfl _ _ a7 ?_)
  refine⟨by rw[z0];exact HI.b,HI.c,?_⟩
  show xb w w.1.size (w.1.size+3) X ((ad++[x]).map (·.1.h)) _
  rw[aQ];exact HI.a
 case done=>
  rintro D X xs W hD rfl hI hK;obtain⟨A,c,an,ho,_⟩:=hI.ex;have HI:=kq2 ho hI.bl;generalize (t.h_.map (·.1.h)).length=n at*;have c0:(W).cell? (y_ w.1.size)=some (.slice A n c):=e_ an
  gi_wp2
  refine⟨s_,.inl ⟨_,_,rfl,run_takeDeferred hK,?_⟩⟩;obtain⟨ho,a0⟩:=HI.O;have a5:∀g,(Value.slice A n c).ownBlock=some g->g≠D:=fun g e q=>by
   subst q;obtain⟨_,_,cs,fr,e3⟩:=ho.block e
   grind
  refine⟨.slice A n c,by simp[results,f75,go_sem],_,rfl,?_,a0.T (nN W D _ _ o_ hK rfl rfl)⟩;rw[<-nodes_h];exact ho.at fun g e=>World.putObj_heap_other (a5 g e)
theorem Kr {w:World}{ps:Nat}{S:St}{o:Nat->Nat}{Y:Nat->Prop}{t:Tr}(h:Ig w ps S Y)(hf:Fw S o)(ha:Tr.At S t)(hN:t.h_.length<A6 S)(hN2:t.h_.length<=1000):
 Ct 75 #[PV ps,Xu t.f9] w fun e w'=>∃v,e=.returned v/\FE w' (w.1.size+3) v t.hs/\D_ w w':=callsIn_wide.1 (NE h hf ha hN hN2)
theorem Ky {w:World}{B:Nat}{v:Value}{l xs:List Nat}(h:FE w B v l)(hl:l.length+xs.length<=100000)(ad:Addr)(c:Nat)(hc:∀j u,(hV xs)[j]?=some u->w.cell? (ad.add j)=some u)(hB:B<=w.1.size)(ty:TypeId):
 ∃v' w',(Builtin.append_ #[59,59] ty #[v,.slice (some ad) xs.length c]).run prog w=.ok v' w'/\FE w' B v' (l++xs)/\w.grownBy w' v.ownBlock/\(v'.ownBlock=v.ownBlock\/∃g,v'.ownBlock=some g/\w.1.size<=g):=by
 obtain⟨i,hi,ai,an,ap⟩:=info_parts uP;obtain⟨v',w',h1,h2,h3,_,h4⟩:=run_append_own_at (P:=prog) (w:=w) B 59 ty 61 i (Xu 0) 1 8 underlying59 hi ai an ap rfl d_ v l.length (hV l) h ad xs.length c (hV xs) (by simp[hV]) hc (fun u hu=>by obtain⟨x,_,rfl⟩:=az.1 hu;rfl) (by unfold maxLen;omega) o_ hB;refine⟨v',w',h1,?_,h3,?_⟩
 ·have e:hV (l++xs)=hV l++hV xs:=by simp[hV]
  unfold FE;rw[e,ag];exact h2
 grind
theorem Kz {w:World}{B:Nat}{v:Value}{l:List Nat}(h:FE w B v l)(hl:l.length<=90000)(x y:Nat)(hB:B<=w.1.size)(ty:TypeId):
 ∃v' w',(Builtin.append_ #[59,59] ty #[v,.slice (some (y_ w.1.size)) 2 2]).run prog (w.alloc (.cells #[Xu x,Xu y] 61))=.ok v' w'/\FE w' B v' (l++[x,y])/\w.grownBy w' v.ownBlock/\(v'.ownBlock=v.ownBlock\/∃g,v'.ownBlock=some g/\w.1.size<=g):=by
 obtain⟨v',w',h1,h2,h3,h4⟩:=Ky (xs:=[x,y]) (w:=w.alloc (.cells #[Xu x,Xu y] 61)) (h.alloc _) (by grind) (y_ w.1.size) 2 (fun j u hu=>by
  rw[Addr.add_lit,bC,r_ (World.alloc_heap_new w (.cells #[Xu x,Xu y] 61))]
  grind [hV]) m_ ty
 exact⟨v',w',h1,h2,(World.grownBy_alloc w _ _).T h3,h4.imp id fun⟨g,e,hg⟩=>⟨g,e,by simp at hg;omega⟩⟩
def Kx(D b:Nat)(X:Nat->Prop)(W W':World):Prop:=KeepsFrom D W W'/\mA b X W W'
theorem Kx.T {D b:Nat}{X:Nat->Prop}{A B C:World}(h:Kx D b X A B)(k:Kx D b X B C):Kx D b X A C:=⟨⟨aG h.1.size k.1.size,fun i o h1 h2 h3=>k.1.same i o h1 (h.1.same i o h1 h2 h3) h3⟩,h.2.T k.2⟩
structure mz (w:World) (ps mb Bm Bd Bl Bf D:Nat) (X:Nat->Prop) (ks sd:List Nat) (lk:List UInt8) (fb:Bool) (W:World):Prop where
 lo:w.1.size+1<mb/\mb<Bm/\Bm<Bd/\Bd<Bl/\Bl<Bf/\Bf<D/\D<=W.1.size
 bl:D_ w W
 cs:W.1[w.1.size]?=some (Xg ps)
 ce:W.1[w.1.size+1]?=some (.cells #[Xi 0] 27)
 cm:W.1[Bm]?=some (.cells #[.map (some mb)] 123)
 cd:∃A c,W.1[Bd]?=some (.cells #[.slice A sd.length c] 59)/\FE W w.1.size (.slice A sd.length c) sd/\∀g,(Value.slice A sd.length c).ownBlock=some g->¬X g
 cl:W.1[Bl]?=some (.cells #[SV lk] 9)
 cf:W.1[Bf]?=some (.cells #[.bool fb] 4)
 mp:mq W mb ks
 xl:∀k,X k->w.1.size<=k/\k<W.1.size/\k≠w.1.size/\k≠w.1.size+1/\k≠mb/\k≠Bm/\k≠Bd/\k≠Bl/\k≠Bf
section
variable {w W W':World}{ps mb Bm Bd Bl Bf D B:Nat}{X X':Nat->Prop}{ks sd:List Nat}{lk:List UInt8}{fb:Bool}{row:Option Nat}
theorem mz.grown(h:mz w ps mb Bm Bd Bl Bf D X ks sd lk fb W)(hB:D<=B)(hg:W.grownBy W' row)(hr:∀r,row=some r->X r\/B<=r/\∃o:Obj,W.1[r]?=some o/\o.isCells=false)(hx:∀k,X' k->X k\/W.1.size<=k/\k<W'.1.size):mz w ps mb Bm Bd Bl Bf D X' ks sd lk fb W':=by
 obtain⟨A,c,d1,d2,d3⟩:=h.cd;have ad:=hg.size;have ai:=h.lo;have ne:∀k,k<D->¬X k->row≠some k:=fun k hk hx e=>by
  grind
 have kp:∀{k o},W.1[k]?=some o->k<D->¬X k->W'.1[k]?=some o:=fun e hk hx=>(hg.block _ (gl e) fun q=>ne _ hk hx q.S).T e;have nx:∀{k:Nat},k=w.1.size\/k=w.1.size+1\/k=mb\/k=Bm\/k=Bd\/k=Bl\/k=Bf->¬X k:=fun q hx=>by have:=h.xl _ hx;omega
 refine⟨o_,h.bl.T ⟨hg.os,hg.tape,hg.output,ad,fun k hk=>hg.block k o_ fun e=>?_⟩,kp h.cs o_ (nx o_),kp h.ce o_ (nx o_),kp h.cm o_ (nx o_),⟨A,c,kp d1 o_ (nx o_),d2.at fun g e=>hg.block g (d2.ge g e).2 fun q=>?_,fun g e q=>?_⟩,kp h.cl o_ (nx o_),kp h.cf o_ (nx o_),h.mp.kept (hg.block _ h.mp.lt fun q=>ne mb o_ (nx o_) q.S),fun k hk=>?_⟩
 ·rcases hr k e.S with q | ⟨q,_⟩
  ·have:=h.xl _ q;omega
  omega
 ·obtain⟨_,_,cs,fr,e3⟩:=d2.block e
  rcases hr g q.S with q | ⟨_,o,q,q2⟩
  ·grind
  ·rw[e3] at q
   cases q
   cases q2
 ·have:=(d2.ge g e).2
  grind
 ·rcases hx k hk with q | q
  ·have:=h.xl _ q;omega
  omega
theorem mz.a_(h:mz w ps mb Bm Bd Bl Bf D X ks sd lk fb W)(hb:D_ W W'):mz w ps mb Bm Bd Bl Bf D X ks sd lk fb W'/\Kx D w.1.size X W W':=by
 have lt:∀{k o},W.1[k]?=some o->W'.1[k]?=some o:=fun e=>(hb.block _ (gl e)).T e;exact⟨h.grown (B:=D) Ih (lf hb) (fun r e=>by cases e) (fun k hk=> .inl hk),⟨hb.size,fun k o _ e _=>lt e⟩,⟨hb.M h.bl.size,fun k o _ e=>lt e⟩⟩
theorem mz.one {r:Nat}(h:mz w ps mb Bm Bd Bl Bf D X ks sd lk fb W)(hr:r=mb\/r=Bl\/r=Bf)(hg:W.grownBy W' (some r)){ks':List Nat}{lk':List UInt8}{fb':Bool}
 (cl:W'.1[Bl]?=some (.cells #[SV lk'] 9)) (cf:W'.1[Bf]?=some (.cells #[.bool fb'] 4)) (mp:mq W' mb ks'):mz w ps mb Bm Bd Bl Bf D X ks' sd lk' fb' W'/\Kx D w.1.size X W W':=by
 obtain⟨A,c,d1,d2,d3⟩:=h.cd;have ad:=hg.size;have an:=h.lo;have ai:∀g,(Value.slice A sd.length c).ownBlock=some g->g≠r:=fun g e q=>by
  subst q;obtain⟨_,_,cs,fr,e3⟩:=d2.block e;rcases hr with rfl | rfl | rfl
  ·obtain⟨es,cc,e4⟩:=h.mp.obj;grind
  ·have e4:=h.cl;grind
  ·have e4:=h.cf;grind
 have kp:∀{k o},W.1[k]?=some o->k≠r->W'.1[k]?=some o:=fun e hk=>(hg.block _ (gl e) fun q=>hk (Option.some.inj q)).T e;refine⟨⟨o_,h.bl.T ⟨hg.os,hg.tape,hg.output,ad,fun k hk=>hg.block k o_ fun q=>by grind⟩,kp h.cs o_,kp h.ce o_,kp h.cm o_,⟨A,c,kp d1 o_,d2.at fun g e=>hg.block g (d2.ge g e).2 fun q=>ai g e (Option.some.inj q),d3⟩,cl,cf,mp,fun k hk=>by have:=h.xl k hk;omega⟩,⟨ad,fun k o hk e _=>kp e o_⟩,⟨hg.os,hg.tape,hg.output,ad,fun k hk=>hg.block k o_ fun q=>by grind⟩,fun k o hx e=>kp e fun q=>by have:=h.xl k hx;omega⟩
theorem mz.seen(h:mz w ps mb Bm Bd Bl Bf D X ks sd lk fb W){x:Nat}(hx:x<2^64)(hn:x∉ks)(hl:ks.length<100000):
 (Instr.lookup 123 (.map (some mb)) (Xu x) false).run prog W=.ok (Xi 0) W/\∃W',(Instr.mapUpdate 123 (.map (some mb)) (Xu x) (Xi 1)).run prog W=.ok () W'/\
  (Instr.lookup 123 (.map (some mb)) (Xu x) false).run prog W'=.ok (Xi 1) W'/\W.grownBy W' (some mb)/\mz w ps mb Bm Bd Bl Bf D X (ks++[x]) sd lk fb W'/\Kx D w.1.size X W W':=by
 have hc:ks.count x=0:=dL.2 hn;have h0:=h.mp.look x hx;obtain⟨W',hr,hm,hg⟩:=h.mp.store x hx hl;have h2:=hm.look x hx;have ad:(ks++[x]).count x=1:=by rw[List.count_append,hc];simp
 have ai:=h.lo;have kp:∀{k o},W.1[k]?=some o->k≠mb->W'.1[k]?=some o:=fun e hk=>(hg.block _ (gl e) fun q=>hk (Option.some.inj q)).T e;obtain⟨r1,r2⟩:=h.one (.inl rfl) hg (kp h.cl o_) (kp h.cf o_) hm;grind
theorem mz.last(h:mz w ps mb Bm Bd Bl Bf D X ks sd lk fb W)(k:List UInt8):mz w ps mb Bm Bd Bl Bf D X ks sd k fb (W.setCell (y_ Bl) (SV k))/\Kx D w.1.size X W (W.setCell (y_ Bl) (SV k)):=by
 have ad:=h.lo;exact h.one (.inr (.inl rfl)) (grownBy_setCell' W Bl _) (heap_setCell (i:=0) (v:=SV k) h.cl) ((FB o_).T h.cf) (h.mp.kept (FB o_))
theorem mz.first(h:mz w ps mb Bm Bd Bl Bf D X ks sd lk fb W)(b:Bool):mz w ps mb Bm Bd Bl Bf D X ks sd lk b (W.setCell (y_ Bf) (.bool b))/\Kx D w.1.size X W (W.setCell (y_ Bf) (.bool b)):=by
 have ad:=h.lo;exact h.one (.inr (.inr rfl)) (grownBy_setCell' W Bf _) ((FB o_).T h.cl) (heap_setCell (i:=0) (v:=.bool b) h.cf) (h.mp.kept (FB o_))
theorem mz.side(h:mz w ps mb Bm Bd Bl Bf D X ks sd lk fb W)(hl:sd.length<=10000)(x y:Nat)(ty:TypeId):
 ∃A c,W.1[Bd]?=some (.cells #[.slice A sd.length c] 59)/\∃A2 c2 W2,(Builtin.append_ #[59,59] ty #[.slice A sd.length c,.slice (some (y_ W.1.size)) 2 2]).run prog (W.alloc (.cells #[Xu x,Xu y] 61))=.ok (.slice A2 (sd.length+2) c2) W2/\(∃v,W2.1[Bd]?=some (.cells #[v] 59))/\
  mz w ps mb Bm Bd Bl Bf D X ks (sd++[x,y]) lk fb (W2.setCell (y_ Bd) (.slice A2 (sd.length+2) c2))/\Kx D w.1.size X W (W2.setCell (y_ Bd) (.slice A2 (sd.length+2) c2)):=by
 obtain⟨A,c,d1,d2,d3⟩:=h.cd;have a3:=h.lo;obtain⟨v2,W2,a0,au,ad,a1⟩:=Kz d2 o_ x y h.bl.size ty;obtain⟨A2,c2,rfl⟩:=au.E_;have a4:=ad.size;have el:(sd++[x,y]).length=sd.length+2:=s_
 rw[el] at a0;have ai:∀g cs ty fr,W.1[g]?=some (.cells cs ty fr)->ty≠61->(Value.slice A sd.length c).ownBlock≠some g:=fun g cs ty fr e q q2=>by
  obtain⟨_,_,ap,ar,e3⟩:=d2.block q2;grind
 have kp:∀{k o},W.1[k]?=some o->(Value.slice A sd.length c).ownBlock≠some k->W2.1[k]?=some o:=fun e q=>(ad.block _ (gl e) fun q2=>q q2.S).T e;have k1:=kp d1 (ai _ _ _ _ d1 d_);have hs:∀k,k≠Bd->(W2.setCell (y_ Bd) (.slice A2 (sd.length+2) c2)).1[k]?=W2.1[k]?:=fun k hk=>FB hk;have kq:∀{k o},W.1[k]?=some o->(Value.slice A sd.length c).ownBlock≠some k->k≠Bd->(W2.setCell (y_ Bd) (.slice A2 (sd.length+2) c2)).1[k]?=some o:=fun e q q2=>(hs _ q2).T (kp e q);have lb:∀k,k<w.1.size->(Value.slice A sd.length c).ownBlock≠some k:=fun k hk e=>by have:=(d2.ge k e).1;omega
 have hm:(Value.slice A sd.length c).ownBlock≠some mb:=fun e=>by
  obtain⟨_,_,ap,ar,e3⟩:=d2.block e;obtain⟨es,cc,e4⟩:=h.mp.obj;grind
 have an:∀k,k<w.1.size->(W2.setCell (y_ Bd) (.slice A2 (sd.length+2) c2)).1[k]?=W.1[k]?:=fun k hk=>(hs k o_).T (ad.block k o_ fun e=>lb k hk e.S);refine⟨A,c,d1,A2,c2,W2,a0,⟨_,k1⟩,⟨by rw[size_setCell];omega,h.bl.T ⟨ad.os,ad.tape,ad.output,by simp_all,an⟩,kq h.cs (ai _ _ _ _ h.cs d_) o_,kq h.ce (ai _ _ _ _ h.ce d_) o_,kq h.cm (ai _ _ _ _ h.cm d_) o_,⟨A2,c2,?_,?_,fun g e q=>?_⟩,kq h.cl (ai _ _ _ _ h.cl d_) o_,kq h.cf (ai _ _ _ _ h.cf d_) o_,?_,fun k hk=>?_⟩,⟨by simp_all,fun k o hk e hc=>kq e (fun q=>?_) o_⟩,⟨ad.os,ad.tape,ad.output,by simp_all,an⟩,fun k o hx e=>kq e (fun q=>d3 k q hx) fun q=>by have:=h.xl k hx;omega⟩
 ·rw[el];exact heap_setCell (i:=0) (v:=.slice A2 (sd.length+2) c2) k1
 ·exact au.at fun g e=>hs g fun q=>by
   grind
 ·rcases a1 with q2 | ⟨g',q2,a2⟩
  ·grind
  ·rw[q2] at e;cases e
   have:=h.xl g q;omega
 ·obtain⟨es,cc,e4⟩:=h.mp.obj;exact h.mp.kept ((kq e4 hm o_).T e4.S)
 ·rw[size_setCell];have:=h.xl k hk;omega
 ·obtain⟨_,_,ap,ar,e3⟩:=d2.block q;rw[e] at e3;cases e3
  cases hc
end
end
section
open Go.RowKit Tryz Go.BigFrame Go.Maps Go.WideMaps Lf Tr
open Go.Shelf
variable{D:Nat}{l:List Nat}{v:Value}{w:World}
theorem MO{B G c:Nat}{fr:Nat×Nat}(hN:l.length<=100000)(hl:∀x∈l,x<2^64)(h0:l≠[])(hB:w.1[B]?=some (.cells #[.slice (some (y_ G)) l.length c] 59 fr))(hG:∀(j:Nat) (h:j<l.length),w.cell? (x_ G j)=some (Xu (l[j]:Nat)))(hGl:G<w.1.size):
 Ct 204 #[.func (.func 233) #[] #[PV B]] w fun e w'=>∃v l',e=.returned v/\l'.Perm l/\FE w' w.1.size v l'/\D_ w w':=by
 have hc:=MA hN (enters_of func233 k_ rfl) (MP hN hl hB hG hGl);have H:=If hc;go_enter func204,ntmps204;go_wp2_with fail;refine H.O.M ?_;rintro e w1 ⟨v,rfl,ho,hb⟩;obtain⟨b,c,rfl,hc⟩:=ho.some (dl.2 h0);have hp:PX ⟨w.1.size,b,0,l.length,c,w1,l,rfl,hN⟩ w1:=⟨l,aa _ _,List.Perm.refl _,ho,rfl⟩;have hs:=MN hp;have J:=kq2 hs hb;go_wp2_with fail;refine J.a.M ?_;rintro e w2 ⟨rfl,l2,P⟩;have K:=If P;go_wp2_with fail;go_ret;have hq:=K.O.len;have ho:=K.O.own;rw[hq] at ho;have hz:l.length=l2.length:=hq.S;refine⟨_,l2,rfl,K.O.perm,?_,J.b.T K.O.a_⟩;exact ho
theorem Mz(h:FE w D v l)(hl:l.length<=100000)(h0:l≠[]):Ct 207 #[v] w fun e w'=>∃v',e=.returned v'/\FE w' w.1.size v' l/\D_ w w':=by
 obtain⟨b,c,rfl,hc⟩:=h.some (dl.2 h0);have hz:=(FE.ge h b rfl).2;have O:FE (w.alloc (.cells #[] 61)) w.1.size (.slice (some (y_ w.1.size)) 0 0) []:=⟨rfl,.inr ⟨w.1.size,0,#[],rfl,Nat.le_refl _,heap_alloc_new w _,s_,s_,s_,rfl⟩⟩;have ad:∀j u,(hV l)[j]?=some u->(w.alloc (.cells #[] 61)).cell? (((y_ b):Addr).add j)=some u:=fun j u hu=>by
  have:=World.ownsRow.cells h (g:=b) rfl j u hu;exact(((aa _ w).alloc Ih _).cell (p:=((y_ b):Addr).add j) (by rw[Addr.add_lit];omega)).T this
 obtain⟨v2,w2,ap,an,ai,ar⟩:=Ky O (xs:=l) (by grind) (y_ b) c ad s_ 59;have J:=kq2 an ai;have qs:∀(w:World) (a:Option Addr) (n c n' c':Nat),(binOp .eql 59 (.slice a n c) (.slice none n' c')).run prog w=.ok (.bool a.isNone) w:=fun w a n c n' c'=>Lib.run_eql_slice_nil w _ _ a n c n' c' underlying59;obtain⟨n,hn⟩:=Ii l.length;go_enter func207,ntmps207
 go_wp2_with (at_builtin;refine Lib.wpList_append_run _ rfl _ _ _ _ rfl _ _ rfl rfl _ _ ap ?_)
 go_ret;exact⟨v2,rfl,J.a,((aa _ w).alloc Ih _).grown J.b s_ (fun k e=>by cases e;grind)⟩
theorem MB(h:FE w D v l)(hl:l.length<=100000)(hn:l.Nodup):Ct 206 #[v] w fun e w'=>e=.returned v/\∃q,w'=w.drewN q:=by
 by_cases h0:l=[]
 ·subst h0;obtain⟨A,c,rfl⟩:=h.E_;go_enter func206,ntmps206;go_wp2_with fail;go_ret;exact⟨rfl,0,rfl⟩
 obtain⟨b,c,rfl,hc⟩:=h.some (dl.2 h0);obtain⟨n,hq⟩:=Ii l.length;have H:=kq3 (fun(j:Nat) (hj:j<l.length)=>(mY h (af hj)).1) hn hq;go_enter func206,ntmps206
 by_cases h2:(n:Int)<2
 ·go_wp2_with fail;go_ret;exact⟨rfl,0,rfl⟩
 ·go_wp2_with fail
  go_loopg [3,4,5] n (fun t s3 _ _ wr=>∃k:Nat,s3=Xi ((k:Int)+1)/\k<n/\n-k<=t/\∃q,wr=w.drewN q)
  case atStart=>exact⟨0,s_,o_,o_,0,rfl⟩
  case round=>
   obtain⟨k,rfl,hk,ap,q,rfl⟩:=hrel
   by_cases hlt:(k:Int)+1<n
   ·have ad:k<l.length:=by have:=H.c;omega
    have ai:k+1<l.length:=by have:=H.c;omega
    have c1:=H.a k ad;have c2:=H.a (k+1) ai;have an:¬l[k+1]=l[k]:=fun e=>absurd ((List.getElem_inj (h₀:=ai) (h₁:=ad) H.b).1 e) o_;generalize l[k+1]=x at*;generalize l[k]=y at*;have hb:(x==y)=false:=by simp[an]
    go_wp2_with fail
    go_quiet (fail)
    go_wp2_with fail
    go_roundg (n-(k+1))
    case rel=>exact⟨k+1,s_,o_,o_,_,rfl⟩
    omega
   ·go_wp2_with fail;go_ret;exact⟨rfl,q,rfl⟩
theorem Lo(h:FE w D v l)(hl:l.length<=100000)(h0:l≠[])(hn:l.Nodup)(hx:∀x∈l,x<2^64):Cb 171 #[v] w (.bool false):=by
 obtain⟨b,c,rfl,hc⟩:=h.some (dl.2 h0);have hz:=(FE.ge h b rfl).2;have B1:=c_ w (.cells #[.slice (some (y_ b)) l.length c] 59);have hs:=MO hl hx h0 (heap_alloc_new w (.cells #[.slice (some (y_ b)) l.length c] 59)) (fun j hj=>by
  obtain⟨b',c',e,_,q⟩:=h.cell_at hj
  injection e with e _ _
  injection e with e
  injection e with e
  subst e;exact(B1.cell (p:=x_ b j) hz).T q) m_
 have H:=kq4 hs B1 hn h0;obtain⟨n,hq⟩:=Ii l.length;rw[hq] at H hl;have HQ:=If hq;rw[hq];go_enter func171,ntmps171;go_wp2_with fail;refine Jc (MQ _ _ _ _) ?_;go_wp2_with fail;refine H.a.M ?_;rintro e w2 ⟨v2,l2,rfl,hp,ho,hb⟩;obtain⟨A2,c2,rfl⟩:=ho.E_;have ad:l2.length=n:=hp.length_eq.T HQ.O;have hc:=Mz ho o_ (fun e=>H.d (by simp_all));rw[ad] at hc;rw[ad];have J:=kq4 hc (hp.nodup_iff.2 H.c) hb ad;go_wp2_with fail;refine J.a.M ?_;rintro e w3 ⟨v3,rfl,ai,an⟩;obtain⟨A3,c3,rfl⟩:=ai.E_;have hc:=MB ai (by rw[J.d];omega) J.b;rw[J.d] at hc⊢;have K:=kq2 hc an;go_wp2_with fail;refine K.a.M ?_;rintro e w4 ⟨rfl,q,rfl⟩;go_wp2_with fail;go_ret;refine⟨s_,?_⟩;have b1:=H.b;have b2:=b_ b1 J.c;have b3:=b_ b2 K.b;exact⟨b3.os,b3.tape,b3.output,b3.size,b3.block⟩
theorem Bt.trail_le:∀p:List Bool,Bt.trail p<=p.length
 | []=>Nat.le_refl _
 | b::r=>by
  unfold Bt.trail;have:=Bt.trail_le r;rw[aj];split
  ·split<;>omega
  ·omega
theorem uB(t:Nat)(key:List UInt8):∀{d:Nat} (x:Bt d),(Bt.F1 t key x).length<=d
 | 0,x=>nomatch x
 | d+1,x=>by
  unfold Bt.F1;rw[aj];cases h:(Bn.ks x)[belowB key (Bn.es x)]? with
  | none=>simp
  | some k=>have:=uB t key k;simp only;omega
def iD(t:Nat)(key:List UInt8){d:Nat}(x:Bt (d+1)):Nat:=Bt.needB 0 true (Bt.F1 t key x)
theorem oE(t:Nat)(key:List UInt8){d:Nat}(x:Bt (d+1)):iD t key x=Bt.trail (Bt.F1 t key x)+(if(Bt.F1 t key x).all id=true then 1 else 0)/\iD t key x<=d+2:=by
 have h:=Bt.need_zero (Bt.F1 t key x);have h1:=Bt.trail_le (Bt.F1 t key x);have h2:=uB t key x;refine⟨h,?_⟩;unfold iD;rw[h];split<;>omega
theorem ku(w:World)(o1 o2 o3:Obj):D_ w (w.drew.alloc o1)/\D_ w ((w.drew.alloc o1).alloc o2)/\D_ w (((w.drew.alloc o1).alloc o2).alloc o3)/\(((w.drew.alloc o1).alloc o2).alloc o3).1[w.1.size]?=some o1/\(((w.drew.alloc o1).alloc o2).alloc o3).1[w.1.size+1]?=some o2/\(((w.drew.alloc o1).alloc o2).alloc o3).1[w.1.size+2]?=some o3:=by
 have z1:(w.drew.alloc o1).1.size=w.1.size+1:=s_
 have z2:((w.drew.alloc o1).alloc o2).1.size=w.1.size+2:=s_
 have b1:=((aa w.1.size w).drew).alloc Ih o1;have c2:=(aa (w.drew.alloc o1).1.size (w.drew.alloc o1)).alloc Ih o2;have c3:=(aa ((w.drew.alloc o1).alloc o2).1.size ((w.drew.alloc o1).alloc o2)).alloc Ih o3;have q1:=heap_alloc_new w.drew o1;have q2:=heap_alloc_new (w.drew.alloc o1) o2;have q3:=heap_alloc_new ((w.drew.alloc o1).alloc o2) o3;have r1:=(c3.block w.1.size o_).T ((c2.block w.1.size o_).T q1);rw[z1] at q2;rw[z2] at q3;have r2:=(c3.block (w.1.size+1) o_).T q2;exact⟨b1,b1.T (c2.M (by rw[z1];omega)),(b1.T (c2.M (by rw[z1];omega))).T (c3.M (by rw[z2];omega)),r1,r2,q3⟩
theorem qXuaa{P:Prop}(h:P:=by
 rintro en au ⟨rfl,cj,a2,ar,a8,a7⟩;have bq:=T4.2.2.1.size;have ad:I au:=bm _ _ T4.2.2.1 ar;have hold:=(bj.O _ ad).2;have kF:Fo Y w au:=(HK.a.T (Fo.v_ (a5.O.T (T4.2.2.1.M o_)) fun k hk=>by have:=HK.g k hk;have:=HK.a.size;omega)).T (ar.M fun k hk=>⟨ab (ab (ab hk)),by have:=HK.g k hk;omega⟩);obtain⟨x0,x1⟩:=Fp hold;obtain⟨f0,f1⟩:=ef hold;have ap:=kq3 hold a2 kF;clear ar a8 a7 hold a2 kF T4
 try go_simp
 refine hK.O _ _ ad ?_;clear hK K
 try simp only[pu]
 refine eG fun K hK=>?_;go_simp
 try go_simp
 refine hK.O _ _ ad ?_;clear hK K
 try simp only[pu]
 refine eG fun K hK=>?_;go_simp
 try go_simp
 refine hK.O _ _ (a1 _ ad) ?_;clear hK K
 try simp only[pu]
 refine eG fun K hK=>?_;go_simp
 try go_simp
 refine hK.O _ _ (a1 _ ad) ?_;clear hK K
 try simp only[pu]
 refine eG fun K hK=>?_;go_simp
 try go_simp
 refine hK.O _ _ (a1 _ ad) ?_;clear hK K
 try simp only[pu]
 refine dX ?_;go_wp2_with fail;obtain⟨WF,ai⟩:=Ii ((au.setCell (y_ (w.1.size+1)) (Xu 0)).setCell (x_ (w.1.size+1) 1) (Xu 0));rw[ai];have eF:WF.1[w.1.size+1]?=some (.cells #[Xu 0,Xu 0] 104 (0,0)):=by
  rw[<-ai];exact heap_setCell (i:=1) (v:=Xu 0) (heap_setCell (i:=0) (v:=Xu 0) ap.a)
 have a4:Ig WF ps (FC S2 rr 0 (w_ t (Bt.bn (Bt.F8 rr m y1 y2)))) Y:=by
  rw[<-ai];exact(ap.b.write (b:=w.1.size+1) (ab (ab (ae ⟨o_,o_⟩))) ap.a ⟨d_,d_⟩ s_ s_ fun k _ hk=>(FB hk).T (FB hk)).M fun k hk=>ab (ab (ab hk))
 have kF:Fo Y w WF:=by
  rw[<-ai];have a0:∀k,Y k->k≠w.1.size+1:=fun k hk=>by have:=HK.g k hk;omega
  exact(ap.c.T (Fo.mark a0)).T (Fo.mark a0)
 clear ai x0 x1 f0 f1;obtain⟨u0,u1⟩:=Fp eF;exact bodyPost_ret (v:=.tuple #[Xu (rr:Nat),.agg #[Xu 0,Xu 0],.bool false,Xi 0]) (by simp[results,f137,go_sem,u0,u1]) rfl ⟨d+1,Bt.F8 rr m y1 y2,_,o1,rfl,a4,kF,bf.O⟩):P:=h
theorem zI(hins:∀d,j4 d){ps:Nat}{S:St}{o:Nat->Nat}{Y:Nat->Prop}(h:Ig w ps S Y){t d:Nat}{x:Bt (d+1)}(hx:Bt.Tree S o t x){e:It}(hn:Bt.New S x e)(hr:fc S (2*iD t e.k x) (iD t e.k x)):
 Ct 137 #[PV ps,Xi t,Xu (Bt.hd x:Nat),Id e.kh e.vh] w fun en w'=>∃(d':Nat) (y:Bt (d'+1)) (S':St) (o':Nat->Nat),en=.returned (.tuple #[Xu (Bt.hd y:Nat),Id 0 0,.bool false,Xi 0])/\Ig w' ps S' Y/\Fo Y w w'/\Bt.Tree S' o' t y/\Bt.its y=Bt.insB e (Bt.its x)/\(∀z∈Bt.h_ y,z∈Bt.h_ x\/i_ S z=none)/\(∀z,z∉Bt.h_ x->i_ S z≠none->i_ S' z=i_ S z)/\ej S S' (2*iD t e.k x) (iD t e.k x)/\∀z,i_ S' z≠none->z∈Bt.h_ y\/i_ S z≠none/\z∉Bt.h_ x:=by
 have B0:=(c_ w (Xe e.kh e.vh)).alloc s_ (.cells #[Xu 0,Xu 0] 104);have z1:(w.alloc (Xe e.kh e.vh)).1.size=w.1.size+1:=s_
 have q1:=heap_alloc_new w (Xe e.kh e.vh);have q2:=heap_alloc_new (w.alloc (Xe e.kh e.vh)) (.cells #[Xu 0,Xu 0] 104);have q1:=(((aa (w.alloc (Xe e.kh e.vh)).1.size (w.alloc (Xe e.kh e.vh))).alloc Ih (.cells #[Xu 0,Xu 0] 104)).block w.1.size s_).T q1;rw[z1] at q2;have hz:((w.alloc (Xe e.kh e.vh)).alloc (.cells #[Xu 0,Xu 0] 104)).1.size=w.1.size+2:=s_
 generalize hW:(w.alloc (Xe e.kh e.vh)).alloc (.cells #[Xu 0,Xu 0] 104)=W0 at*;have A1:=c_ W0 (Xc ps t);have q3:=heap_alloc_new W0 (Xc ps t);have b':(W0.alloc (Xc ps t)).1.size=w.1.size+3:=by simp[hz]
 have hw:=hx.walk;have hi:=hx.fit.inv;have has:=kZ (h.a_ B0) hi hx.t1 hx.t2;obtain⟨W1,ev⟩:=Ii (W0.alloc (Xc ps t));rw[ev] at A1 q3 b';have B1:=B0.T (A1.M o_);rw[hz] at q3;have dv:=jt hx.fit hn.F5.lk hn.F5.k;have dp:=iz (h.a_ B1) hi e.kh (Bt.blobs_lt hx.fit hn.F5).1 (by rw[dv];simp);rw[dv] at dp;have q1:=(A1.block _ o_).T q1;have q2:=(A1.block _ o_).T q2;obtain⟨x0,x1⟩:=Fp q1;have H0:=kq7 h hx hn hr hw hi b';have H1:=kq4 B1 q1 q2 q3;have ed:=If has;have ee:=If dp;have i0:Bt.hd x≠0:=(Bt.At.hd_ok hx.fit hx.at').1;have i1:((Bt.hd x:Nat):Int)≠0:=o_
 clear z1 q1 q2 q3 B0 B1 A1 hw hi has dv dp h hx hn hr;unfold Id;go_enter func137,ntmps137;go_wp2_with fail;refine ed.O.M ?_;rintro en w1 ⟨rfl,rfl⟩;clear hW;go_wp2_with fail;refine ee.O.M ?_;rintro en w2 ⟨rfl,bo⟩;clear x0 x1;have p1:=(bo.block _ (by have:=H0.g;omega)).T H1.b;have p2:=(bo.block _ (by have:=H0.g;omega)).T H1.c;have p3:=(bo.block _ (by have:=H0.g;omega)).T H1.d;have b2:=b_ H1.a bo;obtain⟨x0,x1⟩:=Fp p3;have ds:=kI (H0.a.a_ b2) H0.f H0.e.read;have i5:w.1.size+3<=w2.1.size:=by have:=bo.size;have:=H0.g;omega
 unfold FH eC at ds;have ek:=If ds;have H2:=kq4 b2 p1 p2 p3;clear bo p1 p2 p3 b2 ds ee ed H1 ev;go_wp2_with fail;refine ek.O.M ?_;rintro en w3 ⟨vk,vv,vc,rfl,rows,dd⟩;obtain⟨Ak,mk,ck,rfl⟩:=rows.k.slice;obtain⟨Av,mv,cv,rfl⟩:=rows.v.slice;obtain⟨Ac,mc,cc,rfl⟩:=rows.c.slice;obtain⟨sz,c6⟩:=Ii (Bt.bn x).size;rw[c6];clear c6;have A3:=c_ w3 (.cells #[.slice Ak mk ck,.slice Av mv cv,.slice Ac mc cc,Xu sz] 215);obtain⟨W3,ez⟩:=Ii (w3.alloc (.cells #[.slice Ak mk ck,.slice Av mv cv,.slice Ac mc cc,Xu sz] 215));rw[ez] at A3;have c3:=b_ dd A3;have p1:=(c3.block _ o_).T H2.b;have p2:=(c3.block _ o_).T H2.c;have p3:=(c3.block _ o_).T H2.d;have B3:=b_ H2.a c3;have i6:w.1.size+3<=W3.1.size:=by have:=c3.size;omega
 have iv:=H0.b.low;have fn:=Bt.findB_none H0.c.key;have cp:=fun W (hw:D_ W3 W)=>pY (H0.a.a_ (b_ B3 hw)) H0.e o_ e.k;rw[fn] at cp;have cq:=nT (R:=none) (cp W3 (aa _ _)) fun W hW=>cp W (by rw[hW];exact(aa _ _).alloc Ih _);unfold i7 Id at cq
 dsimp only[Option.isSome] at cq
 have eg:=If cq;have H3:=kq4 B3 p1 p2 p3;clear A3 c3 p1 p2 p3 B3 fn cp cq x0 x1 dd H2 ek rows;go_wp2_with fail;refine eg.O.M ?_;rintro en w4 ⟨rfl,dk⟩;clear ez;go_wp2_with fail;have A4:=c_ w4 (.cells #[Xu 0,Xu 0] 104);obtain⟨W4,dc⟩:=Ii (w4.alloc (.cells #[Xu 0,Xu 0] 104));rw[dc] at A4;rw[dc];clear dc;have c4:=b_ dk A4;have p1:=(c4.block _ o_).T H3.b;have p2:=(c4.block _ o_).T H3.c;have p3:=(c4.block _ o_).T H3.d;have B4:=b_ H3.a c4;have d4:w.1.size+3<=W4.1.size:=by have:=c4.size;omega
 have eb:=H0.a.wide B4;have bk:=fun W (hw:D_ W4 W)=>zN (H0.a.a_ (b_ B4 hw)) H0.e o_ e.k;obtain⟨q,hq⟩:=Ii (iD t e.k x);have i3:q<=22:=by have:=(oE t e.k x).2;omega
 have d3:=H0.d;rw[hq] at d3;have bt:=fun W (hw:D_ W4 W)=>tU (eb.a_ hw) H0.b.fit H0.b.t1 H0.b.t2 q o_ d3;have f':Bt.needB 0 true (Bt.F1 t e.k x)=q:=hq;rw[f'] at bk;unfold FH at bk bt;have bk:=If bk;have bt:=If bt;have H4:=kq5 B4 p1 p2 p3 eb;have HQ:=If hq;clear A4 c4 p1 p2 p3 B4 eb hq f' d3 dk H3 eg;obtain⟨I,a3,a6⟩:=ic fun w'=>w'.1[w.1.size+2]?=W4.1[w.1.size+2]?;have b':=fun x:Fq I=>(a3 _ x.ok).T H4.d;obtain⟨r0,r1⟩:=mt b';have ba:I W4.drew:=a6 _ rfl;have a9:=If a6;clear a3 a6 b';refine fh I (.take 0 (.take 1 (.take 2 (.take 3 (.go 4 (.go 5 (.take 6 (.take 7 (.take 8 (.go 9 (.go 10 .nil))))))))))) k_ k_ ba ?_
 iterate 4
  refine pT_ ?_
  try simp only[pu]
 refine pD fun K hK=>?_;go_simp;refine(bk.O _ (aa _ W4).drew).M ?_;rintro en w5 ⟨rfl,dn⟩;have ep:I w5:=a9.O _ (dn.block _ d4);have B5:=(aa W4.1.size W4).drew.T dn;have bs:=If B5;clear dn B5
 try go_simp
 refine hK.O _ _ ep ?_;clear hK K
 try simp only[pu]
 refine pD fun K hK=>?_;go_simp;refine(bt.O _ bs.O).M ?_;rintro en w6 ⟨rfl,S1,o1,v6,L,g',ea,g8,f6,er,g9,fk,e',fb⟩;have co:I w6:=a9.O _ ((ea.block _ (ae ⟨o_,o_⟩)).T (bs.O.block _ d4));have H6:=kq9 g' ea g8 f6 er g9 fk e' fb;clear g' ea g8 f6 er g9 fk e' fb
 try go_simp
 refine hK.O _ _ co ?_;clear hK K
 try simp only[pu]
 iterate 3
  refine pT_ ?_
  try simp only[pu]
 refine pD fun K hK=>?_;go_simp
 try go_simp
 refine hK.O _ _ co ?_;clear hK K
 try simp only[pu]
 refine pD fun K hK=>?_;go_simp
 try go_simp
 refine hK.O _ _ co ?_;clear hK K
 try simp only[pu]
 refine eP ?_;have jk:=d4;have k6:∀k,w.1.size<=k->k<W4.1.size->w6.1[k]?=W4.1[k]?:=fun k h1 h2=>(H6.b.block k (ae ⟨h1,h2⟩)).T (bs.O.block k h2);have p1:=(k6 w.1.size o_ o_).T H4.b;have p2:=(k6 (w.1.size+1) o_ o_).T H4.c;have p3:=(k6 (w.1.size+2) o_ o_).T H4.d;obtain⟨x0,x1⟩:=Fp p1;obtain⟨y0,y1⟩:=Fp p3;have bv:Bt.Tree S1 o1 t x:=H0.b.frame H6.d fun y hy=>H6.h y fun hm=>H0.b.has y hy (H6.g y hm);have hlt:=Bt.blobs_lt H0.b.fit H0.c.F5;have cu:=hins d 0 H6.a bv.walk bv.h_ o_ H6.c H6.f (fun y hy q=>H0.b.has y (aB _ q) (H6.g y hy)) (ae (ae (ab rfl))) (ae (ab rfl)) (fun b hb=>ae (ae (ae hb))) (by have:=H6.e;omega) H0.c.key bv.lts hlt.1 hlt.2 (by have h1:=(oE t e.k x).1;have h2:=HQ.O;have h3:=H6.e;omega);unfold FH Id JB at cu;have e0:((0:Nat):Int)=0:=rfl;rw[e0] at cu;have el:=If cu;have em:=kq3 bv p2 k6;clear e0 cu bv hlt p1 p2 p3 k6 r0 r1 bk bt a9 ba ep co;go_wp2_with fail;refine el.O.M ?_;rintro en w7 ⟨r,S2,v7,L7,U,rfl,h7⟩;have H7:=If h7;clear h7 el x0 x1 y0 y1;have b9:=H0.a.yl;have i':=bs.O.size;have jc:=H6.b.size;have kY:Fo Y w w7:=((Fo.v_ H4.a b9).T (Fo.v_ bs.O fun k hk=>by have:=b9 k hk;omega)).T ((H6.b.M fun k hk=>ab hk).T (H7.O.2.2.2.1.M fun k hk=>⟨ab (ab hk),by have:=b9 k hk;omega⟩));have p2:=(H7.O.2.2.2.1.block (w.1.size+1) ⟨ab (ae ⟨o_,o_⟩),o_⟩).T em.b;have p3:=(H7.O.2.2.2.1.block (w.1.size+2) ⟨ab (ae ⟨o_,o_⟩),o_⟩).T ((em.c _ o_ o_).T H4.d);have c':∀y∈U,y∈L:=fun y hy=>by rw[H7.O.1];exact aA _ hy
 have e8:∀z,z∉Bt.h_ x->z∉L->i_ S2 z=i_ S z:=fun z h1 h2=>(H7.O.2.1.fr z h1 fun q=>h2 (c' z q)).T (H6.h z h2);have fj:ej S S2 (2*q) q:=(H6.i.T H7.O.2.1.grew).M o_ o_;have fv:=(gl p2);have hl:=(gl p3);have HK:=kq7 kY p2 p3 c' e8 fj b9;clear kY p2 p3 c' e8 fj b9
 rcases r with _ | ⟨m,g⟩
 ·dsimp only[ky,iQ]
  go_wp2_with fail;have A8:=c_ w7 (.cells #[.bool false,Xu 0,Xu 0,Xu 0] 274);obtain⟨W8,bb⟩:=Ii (w7.alloc (.cells #[.bool false,Xu 0,Xu 0,Xu 0] 274));rw[bb] at A8;rw[bb];have p2:=(A8.block _ fv).T HK.b;have ch:=H7.O.2.2.1.a_ A8;have k8:Fo Y w W8:=HK.a.T (Fo.v_ A8 fun k hk=>by have:=HK.g k hk;have:=HK.a.size;omega);obtain⟨x0,x1⟩:=Fp p2;obtain⟨f0,f1⟩:=ef p2;have H8:=kq3 p2 ch k8;clear bb A8 p2 ch k8
  go_region
  go_wp2_with fail;obtain⟨WF,ai⟩:=Ii (((W8.setCell (y_ (w.1.size+1)) (Xu 0)).setCell (x_ (w.1.size+1) 1) (Xu 0))).drew;rw[ai];have eF:WF.1[w.1.size+1]?=some (.cells #[Xu 0,Xu 0] 104 (0,0)):=by
   rw[<-ai];exact heap_setCell (i:=1) (v:=Xu 0) (heap_setCell (i:=0) (v:=Xu 0) H8.a)
  have a4:Ig WF ps S2 Y:=by
   rw[<-ai];exact((H8.b.write (b:=w.1.size+1) (ab (ae ⟨o_,o_⟩)) H8.a ⟨d_,d_⟩ s_ s_ fun k _ hk=>(FB hk).T (FB hk)).a_ (aa _ _).drew).M fun k hk=>ab (ab hk)
  have kF:Fo Y w WF:=by
   rw[<-ai];have a0:∀k,Y k->k≠w.1.size+1:=fun k hk=>by have:=HK.g k hk;omega
   exact((H8.c.T (Fo.mark a0)).T (Fo.mark a0)).T ⟨rfl,rfl,rfl,Nat.le_refl _,fun _ _=>rfl⟩
  clear ai x0 x1 f0 f1;obtain⟨u0,u1⟩:=Fp eF;obtain⟨y,bx,b0,b4,bc⟩:=H0.b.insert_none H0.c H6.g H6.h HK.d H7.O.2.1;have ha:∀z∈L,z∈U:=by
   have h1:=H6.e;have h2:=congrArg List.length H7.O.1;rw[ag] at h2;have h3:=H7.O.2.2.2.2.2.2.1;have h4:=H7.O.2.2.2.2.2.2.2;have cw:=(oE t e.k x).1;rw[if_neg (by rw[<-h4];simp),HQ.O] at cw;have h5:L7=[]:=bH.1 o_;rw[H7.O.1,h5];exact fun z hz=>hz
  have hc:∀z,i_ S2 z≠none->z∈Bt.h_ y\/i_ S z≠none/\z∉Bt.h_ x:=fun z hz=>by
   by_cases hm:z∈Bt.h_ y
   ·exact ab hm
   ·have h1:z∉Bt.h_ x:=fun q=>hm ((bc z).2 (.inl q));have h2:z∉L:=fun q=>hm ((bc z).2 (.inr (ha z q)));exact ae ⟨fun q=>hz ((HK.e z h1 h2).T q),h1⟩
  exact bodyPost_ret (v:=.tuple #[Xu (Bt.hd x:Nat),.agg #[Xu 0,Xu 0],.bool false,Xi 0]) (by simp[results,f137,go_sem,u0,u1]) rfl ⟨d,y,S2,o1,by rw[bx];rfl,a4,kF,b0,b4,fun z hz=>((bc z).1 hz).imp id fun hu=>H6.g z (HK.d z hu),fun z h1 h2=>HK.e z h1 fun hm=>h2 (H6.g z hm),by rw[HQ.O];exact HK.f,hc⟩
 ·dsimp only[ky,iQ]
  have hj:=H7.O.2.2.2.2.2.2.1;have e4:=H7.O.2.2.2.2.2.2.2;have cw:=(oE t e.k x).1;have e5:(Bt.F1 t e.k x).all id=true:=e4.S;rw[if_pos e5,HQ.O] at cw;have c9:L7.length=1:=by
   have h1:=H6.e;have h2:=congrArg List.length H7.O.1;rw[ag] at h2;omega
  obtain⟨rr,bu⟩:∃rr,L7=[]++[rr]:=by
   cases L7 with
   | nil=>simp at c9
   | cons a l=>
    cases l with
    | nil=>exact⟨a,rfl⟩
    | cons b l=>simp at c9
  have cx:rr∈L:=by rw[H7.O.1,bu];simp
  have gb:rr∉U:=fun hm=>by
   have fm:=H6.f.nd;rw[H7.O.1,bu] at fm;exact(aD.1 fm).2.2 rr s_ rr hm rfl
  obtain⟨ws,gf,d8⟩:=H6.f.recs rr cx;obtain⟨y1,y2,bx,b0,b4,bc,gv,g0,ih,g4,g5,d9,gg,gk,gn,gp,gs,ib⟩:=H0.b.insert_root H0.c H6.g H6.h HK.d H7.O.2.1 cx gb gf d8;obtain⟨n1,d0⟩:=Ii (Bt.its y1).length;obtain⟨n2,d1⟩:=Ii (Bt.its y2).length;have d5:=fun W Yx hst=>ri (ps:=ps) H7.O.2.1.fit H0.b.t1 H0.b.t2 b4 gv o_ W Yx hst;have d6:=fun W Yx hst=>ri (ps:=ps) H7.O.2.1.fit H0.b.t1 H0.b.t2 bc g0 o_ W Yx hst;rw[bx,d0] at d5;rw[b0,d1] at d6;have i2:n1+n2+1<1000000:=o_
  have c5:=H7.O.2.2.2.2.1;rw[bu] at c5;have hA:∀(W:World) (b1 b2 b3:Nat),D_ w7 W->w7.1.size<=b1->w7.1.size<=b2->w7.1.size<=b3->W.1[b1]?=some (.cells #[Xu m.kh] 61 (0,0))->W.1[b2]?=some (.cells #[Xu m.vh] 61 (0,0))->W.1[b3]?=some (.cells #[Xu (Bt.hd x:Nat),Xu g] 61 (0,0))->
   Ct 214 #[.agg #[.slice (some (y_ b1)) 1 1,.slice (some (y_ b2)) 1 1,.slice (some (y_ b3)) 2 2,Xu ((n1:Int)+n2+1)],PV (w5.1.size+1),PV w5.1.size] W fun en w'=>en=.returned (Xu rr)/\∃v',Ig w' ps (FC S2 rr 0 (w_ t (Bt.bn (Bt.F8 rr m y1 y2)))) (fun k=>((Y k\/(w.1.size<=k/\k<W4.1.size))\/iJ w5.1.size (w5.1.size+1) v6 k)\/(w7.1.size<=k/\k<W.1.size))/\Fo (fun k=>(((Y k\/(w.1.size<=k/\k<W4.1.size))\/iJ w5.1.size (w5.1.size+1) v6 k)\/(w7.1.size<=k/\k<W.1.size))/\k≠w5.1.size+1) W w'/\gz w' w5.1.size (w5.1.size+1) (w5.1.size+2) ps t v' []/\v'.ownBlock=v7.ownBlock:=by
   intro W b1 b2 b3 hB g1 g2 g3 e1 e2 e3;have g6:w5.1.size+2<=w7.1.size:=by
    have h1:=(gl c5.box);omega
   have gc:∀(b k:Nat),W.1[b]?=some (.cells #[Xu k] 61 (0,0))->FD W (.slice (some (y_ b)) 1 1) [k]:=fun b k hb=>⟨_,1,rfl,fun i hi=>⟨b,0,rfl,by
    have hi:i=0:=by simp at hi;exact hi
    subst hi;rw[r_ hb]
    rfl⟩⟩
   have hv:FD W (.slice (some (y_ b3)) 2 2) [Bt.hd x,g]:=⟨_,2,rfl,fun i hi=>⟨b3,0,rfl,by
    have hi:i=0\/i=1:=by simp at hi;omega
    rcases hi with rfl | rfl
    ·rw[r_ e3]
     rfl
    ·rw[r_ e3]
     rfl⟩⟩
   have hh:S2.len rr=(6*t,0):=by rw[jw H7.O.2.1.fit.tab d9,d8]
   have he:∀k∈Bn.ks (Bt.F8 rr m y1 y2),Bt.At S2 t k:=fun k hk=>by
    have hk:k∈ [y1,y2]:=hk
    rcases ah.1 hk with rfl | hk
    ·exact b4
    ·rw[aH.1 hk];exact bc
   have hf:(Bt.bn (Bt.F8 rr m y1 y2)).B_=[Bt.hd x,g]:=by
    show[Bt.hd y1,Bt.hd y2]=_
    rw[bx,b0]
   have c6:(((Bt.bn (Bt.F8 rr m y1 y2)).size:Nat):Int)=(n1:Int)+n2+1:=by
    show (((Bt.its y1++m::Bt.its y2).length:Nat):Int)=_
    rw[ag,aj,d0,d1];omega
   have d2:∀{b n c:Nat},w7.1.size<=b->∀g,(Value.slice (some (y_ b)) n c).ownBlock=some g->g≠w5.1.size+1:=fun hb g hg q=>by
    have hg:=Option.some.inj hg;simp only at hg;omega
   have d7:=pZ (n:=Bt.bn (Bt.F8 rr m y1 y2)) (vk:=.slice (some (y_ b1)) 1 1) (vv:=.slice (some (y_ b2)) 1 1) (vc:=.slice (some (y_ b3)) 2 2) (H7.O.2.2.1.wide hB) H7.O.2.1.fit.inv (c5.keeps fun k hk=>hB.block k ?_) (ab (ae (ae (ab rfl)))) (ab (ae (ab rfl))) (fun b hb=>ab (ae (ae (ae (by rw[<-H7.O.2.2.2.2.2.1];exact hb))))) s_ (Bt.bnok_of H7.O.2.1.fit H0.b.t1 H0.b.t2 he g4) (gc b1 _ e1) (gc b2 _ e2) (by rw[hf];exact hv) (d2 g1) (d2 g2) (d2 g3) (fL H7.O.2.1.fit d9).2.1 hh (kX g5 (by show 1<_;omega))
   ·unfold eC at d7;rw[c6] at d7;exact d7
   ·have ik:=H7.O.2.2.1.yl;refine ik k (ae ?_)
    rcases hk with hk | hk | hk
    ·exact ab hk
    ·exact ae (ab hk)
    ·exact ae (ae (by rw[<-H7.O.2.2.2.2.2.1];exact hk))
  have HA:=If hA;have c7:=If d5;have c8:=If d6;have g7:∀z∈L7,z=rr:=fun z hz=>by rw[bu] at hz;simpa using hz
  have HT:=kq8 gg gk gn gp gs cx ib g7;clear g7;clear hj e4 cw e5 c9 bu gb gf d8 bx b0 b4 bc gv g0 ih g4 g5 d9 gg gk gn gp gs d0 d1 d5 d6 c5 hA cx;go_wp2_with fail;have A8:=c_ w7 (.cells #[.bool true,Xu (m.kh:Nat),Xu (m.vh:Nat),Xu g] 274);have p4:=heap_alloc_new w7 (.cells #[.bool true,Xu (m.kh:Nat),Xu (m.vh:Nat),Xu g] 274);obtain⟨W8,bb⟩:=Ii (w7.alloc (.cells #[.bool true,Xu (m.kh:Nat),Xu (m.vh:Nat),Xu g] 274));rw[bb] at A8 p4;rw[bb];clear bb;have p2:=(A8.block _ fv).T HK.b;have p3:=(A8.block _ hl).T HK.c;have ho:=(gl p2);have ht:=(gl p3);have fw:=(gl p4);have ch:=H7.O.2.2.1.a_ A8;obtain⟨I,a3,a6⟩:=ic fun w'=>∀k,k<W8.1.size->w'.1[k]?=W8.1[k]?;have ca:=fun x:Fq I=>(a3 _ x.ok _ ht).T p3;have cb:=fun x:Fq I=>(a3 _ x.ok _ fw).T p4;obtain⟨r0,r1⟩:=mt ca;obtain⟨s0,s1,s2,s3⟩:=iB cb;have ba:I W8.drew:=a6 _ fun _ _=>rfl;have a9:=If a6;have a':=kq5 A8 p2 p3 p4 ch;have h8:IntKind.i64.wrap ((n1:Int)+n2)=(n1:Int)+n2:=ax _ o_;have h9:IntKind.u64.wrap ((n1:Int)+n2)=(n1:Int)+n2:=bM _ o_;have h':IntKind.u64.wrap ((n1:Int)+n2+1)=(n1:Int)+n2+1:=bM _ o_;unfold FH at c7 c8;clear a3 a6 ca cb A8 p2 p3 p4 ch;refine fh I (.take 0 (.take 1 (.take 3 (.take 4 (.take 5 (.go 2 (.go 6 (.take 7 (.take 8 (.take 9 (.go 10 .nil))))))))))) k_ k_ ba ?_
  iterate 5
   refine pT_ ?_
   try simp only[pu]
  refine pD fun K hK=>?_;go_simp;refine(c7.O _ _ (a'.e.a_ (aa _ W8).drew)).M ?_;rintro en w9 ⟨rfl,e7⟩;have B9:=(aa W8.1.size W8).drew.T e7;have cn:=If B9;clear e7 B9
  try go_simp
  refine hK.O _ _ (a9.O _ fun k hk=>cn.O.block k hk) ?_;clear hK K
  try simp only[pu]
  refine pD fun K hK=>?_;go_simp;refine(c8.O _ _ (a'.e.a_ cn.O)).M ?_;rintro en an ⟨rfl,e6⟩;have ec:=b_ cn.O e6;have bd:=If ec;clear e6 ec
  try go_simp
  refine hK.O _ _ (a9.O _ fun k hk=>bd.O.block k hk) ?_;clear hK K
  try simp only[pu]
  iterate 3
   refine pT_ ?_
   try simp only[pu]
  refine pD fun K hK=>?_;go_simp
  try go_simp
  refine hK.O _ _ (a9.O _ fun k hk=>bd.O.block k hk) ?_;clear hK K
  try simp only[pu]
  refine eP ?_;go_wp2_with fail;clear r0 r1 s0 s1 s2 s3 ba a9 h8 h9 h' c7 c8;have h6:=a'.a.size;have i4:=bd.O.size;have g6:=a'.a;have a5:Hid (D_ w7 an):=If (a'.a.T (bd.O.M h6));have eo:Bt.Tree (FC S2 rr 0 (w_ t (Bt.bn (Bt.F8 rr m y1 y2)))) o1 t (Bt.F8 rr m y1 y2)/\Bt.its (Bt.F8 rr m y1 y2)=Bt.insB e (Bt.its x)/\(∀z∈Bt.h_ (Bt.F8 rr m y1 y2),z∈Bt.h_ x\/i_ S z=none)/\(∀z,z∉Bt.h_ x->i_ S z≠none->i_ (FC S2 rr 0 (w_ t (Bt.bn (Bt.F8 rr m y1 y2)))) z=i_ S z)/\ej S (FC S2 rr 0 (w_ t (Bt.bn (Bt.F8 rr m y1 y2)))) (2*iD t e.k x) (iD t e.k x)/\∀z,i_ (FC S2 rr 0 (w_ t (Bt.bn (Bt.F8 rr m y1 y2)))) z≠none->z∈Bt.h_ (Bt.F8 rr m y1 y2)\/i_ S z≠none/\z∉Bt.h_ x:=by
   obtain⟨t1,t2,t3,t4,t5,t6,t7,t8⟩:=HT.O;refine⟨t1,t2,fun z hz=>(t3 z hz).imp id fun hm=>H6.g z hm,fun z h1 h2=>(t4 z fun q=>h2 (H6.g z (q▸t6))).T (HK.e z h1 fun hm=>h2 (H6.g z hm)),?_,fun z hz=>?_⟩
   ·rw[HQ.O];exact(HK.f.T t5).M o_ o_
   ·by_cases hm:z∈Bt.h_ (Bt.F8 rr m y1 y2)
    ·exact ab hm
    ·have h0:z≠rr:=fun q=>hm (t7 z (.inr (.inr q)));have h1:z∉Bt.h_ x:=fun q=>hm (t7 z (.inl q));have h2:z∉L:=fun q=>by
      rw[H7.O.1] at q
      rcases ao.1 q with q | q
      ·exact h0 (t8 z q)
      ·exact hm (t7 z (.inr (.inl q)))
     exact ae ⟨fun q=>hz ((t4 z h0).T ((HK.e z h1 h2).T q)),h1⟩
  have bf:=If eo;obtain⟨I,a3,a6⟩:=ic fun w'=>w'.1[w7.1.size]?=some (.cells #[.bool true,Xu (m.kh:Nat),Xu (m.vh:Nat),Xu g] 274 (0,0))/\w'.1[w.1.size+1]?=some (.cells #[Xu 0,Xu 0] 104 (0,0));have ca:=fun x:Fq I=>(a3 _ x.ok).1;have cb:=fun x:Fq I=>(a3 _ x.ok).2;obtain⟨s0,s1,s2,s3⟩:=iB ca;obtain⟨r0,r1⟩:=mt cb;have hJ:∀W,D_ an W->I W:=fun W hB=>a6 _ ⟨(hB.block _ o_).T ((bd.O.block _ fw).T a'.d),(hB.block _ o_).T ((bd.O.block _ ho).T a'.b)⟩;have ba:I an.drew:=hJ _ (aa _ an).drew;have bm:∀W w',D_ an W->Fo (fun k=>(((Y k\/(w.1.size<=k/\k<W4.1.size))\/iJ w5.1.size (w5.1.size+1) v6 k)\/(w7.1.size<=k/\k<W.1.size))/\k≠w5.1.size+1) W w'->I w':=fun W w' hB hk=>by
   have bq:=hB.size;have jj:=H7.O.2.2.2.1.size;have iu:=(gl H7.O.2.2.2.2.1.box);have h1:=a3 _ (hJ W hB);exact a6 _ ⟨(hk.block _ ⟨ae ⟨Nat.le_refl _,o_⟩,o_⟩).T h1.1,(hk.block _ ⟨ab (ab (ae ⟨o_,o_⟩)),o_⟩).T h1.2⟩
  have a1:∀w',I w'->I ((w'.setCell (y_ (w.1.size+1)) (Xu 0)).setCell (x_ (w.1.size+1) 1) (Xu 0)):=fun w' hi=>a6 _ ⟨((FB o_).T (FB o_)).T (a3 _ hi).1,heap_setCell (i:=1) (v:=Xu 0) (heap_setCell (i:=0) (v:=Xu 0) (a3 _ hi).2)⟩;have HJ:=If hJ;have bj:=If a3;clear ca cb a3 a6 g6 eo;refine Fi I (.take 0 (.take 1 (.take 2 (.take 3 (.take 5 (.take 6 (.take 7 (.take 9 (.take 10 (.take 11 (.take 13 (.take 16 (.three 4 8 12 (.two 8 12 (.go 12 (.take 14 (.go 15 (.go 17 (.go 18 (.go 19 (.go 20 .nil))))))) (.go 8 (.take 14 (.go 15 (.go 17 (.go 18 (.go 19 (.go 20 .nil)))))))) (.two 4 12 (.go 12 (.take 14 (.go 15 (.go 17 (.go 18 (.go 19 (.go 20 .nil))))))) (.go 4 (.take 14 (.go 15 (.go 17 (.go 18 (.go 19 (.go 20 .nil)))))))) (.two 4 8 (.go 8 (.take 14 (.go 15 (.go 17 (.go 18 (.go 19 (.go 20 .nil))))))) (.go 4 (.take 14 (.go 15 (.go 17 (.go 18 (.go 19 (.go 20 .nil))))))))))))))))))))) k_ k_ ba ?_
  iterate 12
   refine' lq ?_ ?_;rotate_left
   ·intro x;go_simp
    try rfl
   try simp only[pu]
  clear s0 s1 s2 s3 r0 r1;refine Dx ?_ ?_ ?_
  ·have T4:=ku an (Xf (m.kh:Nat)) (Xf (m.kh:Nat)) (Xf (m.kh:Nat));refine eG fun K hK=>?_;go_simp
   try go_simp
   refine hK.O _ _ (HJ.O _ T4.1) ?_;clear hK K
   try simp only[pu]
   clear T4;refine rP ?_ ?_
   ·have T4:=ku an (Xf (m.kh:Nat)) (Xf (m.vh:Nat)) (.cells #[Xu (Bt.hd x:Nat),Xu g] 61);refine eG fun K hK=>?_;go_simp
    try go_simp
    refine hK.O _ _ (HJ.O _ T4.2.1) ?_;clear hK K
    try simp only[pu]
    refine eG fun K hK=>?_;go_simp
    try go_simp
    refine hK.O _ _ (HJ.O _ T4.2.2.1) ?_;clear hK K
    try simp only[pu]
    refine' lq ?_ ?_;rotate_left
    ·intro x;go_simp
     try rfl
    try simp only[pu]
    refine eG fun K hK=>?_;go_simp;refine(HA.O _ an.1.size (an.1.size+1) (an.1.size+2) (a5.O.T (T4.2.2.1.M o_)) o_ o_ o_ T4.2.2.2.1 T4.2.2.2.2.1 T4.2.2.2.2.2).M ?_;exact qXuaa
   ·have T4:=ku an (Xf (m.kh:Nat)) (.cells #[Xu (Bt.hd x:Nat),Xu g] 61) (Xf (m.vh:Nat));refine eG fun K hK=>?_;go_simp
    try go_simp
    refine hK.O _ _ (HJ.O _ T4.2.1) ?_;clear hK K
    try simp only[pu]
    refine eG fun K hK=>?_;go_simp
    try go_simp
    refine hK.O _ _ (HJ.O _ T4.2.2.1) ?_;clear hK K
    try simp only[pu]
    refine' lq ?_ ?_;rotate_left
    ·intro x;go_simp
     try rfl
    try simp only[pu]
    refine eG fun K hK=>?_;go_simp;refine(HA.O _ an.1.size (an.1.size+2) (an.1.size+1) (a5.O.T (T4.2.2.1.M o_)) o_ o_ o_ T4.2.2.2.1 T4.2.2.2.2.2 T4.2.2.2.2.1).M ?_;exact qXuaa
  ·have T4:=ku an (Xf (m.vh:Nat)) (Xf (m.vh:Nat)) (Xf (m.vh:Nat));refine eG fun K hK=>?_;go_simp
   try go_simp
   refine hK.O _ _ (HJ.O _ T4.1) ?_;clear hK K
   try simp only[pu]
   clear T4;refine rP ?_ ?_
   ·have T4:=ku an (Xf (m.vh:Nat)) (Xf (m.kh:Nat)) (.cells #[Xu (Bt.hd x:Nat),Xu g] 61);refine eG fun K hK=>?_;go_simp
    try go_simp
    refine hK.O _ _ (HJ.O _ T4.2.1) ?_;clear hK K
    try simp only[pu]
    refine eG fun K hK=>?_;go_simp
    try go_simp
    refine hK.O _ _ (HJ.O _ T4.2.2.1) ?_;clear hK K
    try simp only[pu]
    refine' lq ?_ ?_;rotate_left
    ·intro x;go_simp
     try rfl
    try simp only[pu]
    refine eG fun K hK=>?_;go_simp;refine(HA.O _ (an.1.size+1) an.1.size (an.1.size+2) (a5.O.T (T4.2.2.1.M o_)) o_ o_ o_ T4.2.2.2.2.1 T4.2.2.2.1 T4.2.2.2.2.2).M ?_;exact qXuaa
   ·have T4:=ku an (Xf (m.vh:Nat)) (.cells #[Xu (Bt.hd x:Nat),Xu g] 61) (Xf (m.kh:Nat));refine eG fun K hK=>?_;go_simp
    try go_simp
    refine hK.O _ _ (HJ.O _ T4.2.1) ?_;clear hK K
    try simp only[pu]
    refine eG fun K hK=>?_;go_simp
    try go_simp
    refine hK.O _ _ (HJ.O _ T4.2.2.1) ?_;clear hK K
    try simp only[pu]
    refine' lq ?_ ?_;rotate_left
    ·intro x;go_simp
     try rfl
    try simp only[pu]
    refine eG fun K hK=>?_;go_simp;refine(HA.O _ (an.1.size+2) an.1.size (an.1.size+1) (a5.O.T (T4.2.2.1.M o_)) o_ o_ o_ T4.2.2.2.2.2 T4.2.2.2.1 T4.2.2.2.2.1).M ?_;exact qXuaa
  ·have T4:=ku an (.cells #[Xu (Bt.hd x:Nat),Xu g] 61) (.cells #[Xu (Bt.hd x:Nat),Xu g] 61) (.cells #[Xu (Bt.hd x:Nat),Xu g] 61);refine eG fun K hK=>?_;go_simp
   try go_simp
   refine hK.O _ _ (HJ.O _ T4.1) ?_;clear hK K
   try simp only[pu]
   clear T4;refine rP ?_ ?_
   ·have T4:=ku an (.cells #[Xu (Bt.hd x:Nat),Xu g] 61) (Xf (m.kh:Nat)) (Xf (m.vh:Nat));refine eG fun K hK=>?_;go_simp
    try go_simp
    refine hK.O _ _ (HJ.O _ T4.2.1) ?_;clear hK K
    try simp only[pu]
    refine eG fun K hK=>?_;go_simp
    try go_simp
    refine hK.O _ _ (HJ.O _ T4.2.2.1) ?_;clear hK K
    try simp only[pu]
    refine' lq ?_ ?_;rotate_left
    ·intro x;go_simp
     try rfl
    try simp only[pu]
    refine eG fun K hK=>?_;go_simp;refine(HA.O _ (an.1.size+1) (an.1.size+2) an.1.size (a5.O.T (T4.2.2.1.M o_)) o_ o_ o_ T4.2.2.2.2.1 T4.2.2.2.2.2 T4.2.2.2.1).M ?_;exact qXuaa
   ·have T4:=ku an (.cells #[Xu (Bt.hd x:Nat),Xu g] 61) (Xf (m.vh:Nat)) (Xf (m.kh:Nat));refine eG fun K hK=>?_;go_simp
    try go_simp
    refine hK.O _ _ (HJ.O _ T4.2.1) ?_;clear hK K
    try simp only[pu]
    refine eG fun K hK=>?_;go_simp
    try go_simp
    refine hK.O _ _ (HJ.O _ T4.2.2.1) ?_;clear hK K
    try simp only[pu]
    refine' lq ?_ ?_;rotate_left
    ·intro x;go_simp
     try rfl
    try simp only[pu]
    refine eG fun K hK=>?_;go_simp;refine(HA.O _ (an.1.size+2) (an.1.size+1) an.1.size (a5.O.T (T4.2.2.1.M o_)) o_ o_ o_ T4.2.2.2.2.2 T4.2.2.2.2.1 T4.2.2.2.1).M ?_;exact qXuaa
namespace Bt
structure Empty (S:St) (o:Nat->Nat) (t:Nat):Prop where
 fit:Fw S o
 t1:2<=t
 t2:t<=16
structure First (S:St) (e:It):Prop where
 F5:gu S e
 ne:e.kh≠e.vh
def leafOf(r:Nat)(e:It):Bt 1:=(⟨r,[e],[]⟩:Bn (Bt 0))
theorem first_tree {S:St}{o:Nat->Nat}{t:Nat}(h:Empty S o t){e:It}(n:First S e){r:Nat}{ws:List Nat}(hw:i_ S r=some ws)(hl:ws.length=6*t)(hk:r≠e.kh)(hv:r≠e.vh):
 Ok t (leafOf r e)/\iT (bn (leafOf r e))/\Tree (FC S r 0 (w_ t (bn (leafOf r e)))) o t (leafOf r e)/\(∀z,z≠r->i_ (FC S r 0 (w_ t (bn (leafOf r e)))) z=i_ S z)/\ej S (FC S r 0 (w_ t (bn (leafOf r e)))) 0 0:=by
 have t1:=h.t1;have ok:Ok t (leafOf r e):=⟨by show 1<=2*t-1;omega,rfl,fun k hk=>by have hk:k∈([]:List (Bt 0)):=hk;simp at hk⟩;have an:∀k∈Bn.ks (leafOf r e),At S t k:=fun k hk=>by have hk:k∈([]:List (Bt 0)):=hk;simp at hk
 have ad:its (leafOf r e)=[e]:=its_leaf _;have hb:=blobs_lt h.fit n.F5;have ai:iT (bn (leafOf r e)):=bnLt_of h.fit (fun a ha=>by
  have ha:a∈ [e]:=ha;rw[aH.1 ha];exact hb) an (by rw[ad];show 1<_;omega)
 obtain⟨p1,p2,p3,p4⟩:=put_node (x:=leafOf r e) h.fit an (fun k hk=>by have hk:k∈([]:List (Bt 0)):=hk;simp at hk) (ws:=ws) hw hl ai (by show 1<1000;omega);have p3:∀z,z≠r->i_ (FC S r 0 (w_ t (bn (leafOf r e)))) z=i_ S z:=p3;have ap:Bt.h_ (leafOf r e)=[r]:=by rw[jQ];rfl
 refine⟨ok,ai,⟨p1,h.t1,h.t2,p2,ok,by rw[ad];exact List.pairwise_singleton _ _,?_,by rw[ad];show 1<_;omega,by rw[ap];simp,?_,?_,Nat.le_refl 1⟩,p3,p4⟩
 ·rw[ad];intro a ha;rw[aH.1 ha];exact n.F5.frame (p3 _ (Ne.S hk)) (p3 _ (Ne.S hv))
 ·rw[ad]
  show[e.kh,e.vh].Nodup
  simp[n.ne]
 ·rw[ad,ap];intro z hz hm;rw[aH.1 hz] at hm;have hm:r∈ [e.kh,e.vh]:=hm
  simp at hm
  exact hm.elim hk hv
end Bt
theorem xP(w:World)(o1 o2:Obj):D_ w (w.drew.alloc o1)/\D_ w ((w.drew.alloc o1).alloc o2)/\((w.drew.alloc o1).alloc o2).1[w.1.size]?=some o1/\((w.drew.alloc o1).alloc o2).1[w.1.size+1]?=some o2:=by
 have z1:(w.drew.alloc o1).1.size=w.1.size+1:=s_
 have b1:=((aa w.1.size w).drew).alloc Ih o1;have c2:=(aa (w.drew.alloc o1).1.size (w.drew.alloc o1)).alloc Ih o2;have q1:=heap_alloc_new w.drew o1;have q2:=heap_alloc_new (w.drew.alloc o1) o2;have r1:=(c2.block w.1.size o_).T q1;rw[z1] at q2;exact⟨b1,b1.T (c2.M (by rw[z1];omega)),r1,q2⟩
theorem qXuab{P:Prop}(h:P:=by
 rintro en a1 ⟨rfl,ea,a',a0,ch,cc⟩;have ad:I a1:=c5 _ _ T4.2.1 a0;have hold:=(cv.O _ ad).2;have kF:Fo Y w a1:=(HK.a.T (Fo.v_ T4.2.1 fun k hk=>by have:=HK.d k hk;omega)).T (a0.M fun k hk=>⟨ab (ab hk),by have:=HK.d k hk;omega⟩);obtain⟨x0,x1⟩:=Fp hold;obtain⟨f0,f1⟩:=ef hold;have ap:=kq3 hold a' kF;clear a0 ch cc hold a' kF T4
 try go_simp
 refine hK.O _ _ ad ?_;clear hK K
 try simp only[pu]
 refine pD fun K hK=>?_;go_simp
 try go_simp
 refine hK.O _ _ ad ?_;clear hK K
 try simp only[pu]
 refine pD fun K hK=>?_;go_simp
 try go_simp
 refine hK.O _ _ (a2 _ ad) ?_;clear hK K
 try simp only[pu]
 refine pD fun K hK=>?_;go_simp
 try go_simp
 refine hK.O _ _ (a2 _ ad) ?_;clear hK K
 try simp only[pu]
 refine pD fun K hK=>?_;go_simp
 try go_simp
 refine hK.O _ _ (a2 _ ad) ?_;clear hK K
 try simp only[pu]
 refine eP ?_;go_wp2_with fail;obtain⟨WF,ai⟩:=Ii ((a1.setCell (y_ (w.1.size+1)) (Xu 0)).setCell (x_ (w.1.size+1) 1) (Xu 0));rw[ai];have eF:WF.1[w.1.size+1]?=some (.cells #[Xu 0,Xu 0] 104 (0,0)):=by
  rw[<-ai];exact heap_setCell (i:=1) (v:=Xu 0) (heap_setCell (i:=0) (v:=Xu 0) ap.a)
 have ck:Ig WF ps (FC S1 rr 0 (w_ t (Bt.bn (Bt.leafOf rr e)))) Y:=by
  rw[<-ai];exact(ap.b.write (b:=w.1.size+1) (ab (ae ⟨o_,o_⟩)) ap.a ⟨d_,d_⟩ s_ s_ fun k _ hk=>(FB hk).T (FB hk)).M fun k hk=>ab (ab hk)
 have kF:Fo Y w WF:=by
  rw[<-ai];have a7:∀k,Y k->k≠w.1.size+1:=fun k hk=>by have:=HK.d k hk;omega
  exact(ap.c.T (Fo.mark a7)).T (Fo.mark a7)
 clear ai x0 x1 f0 f1;obtain⟨u0,u1⟩:=Fp eF;exact bodyPost_ret (v:=.tuple #[Xu (rr:Nat),.agg #[Xu 0,Xu 0],.bool false,Xi 0]) (by simp[results,f137,go_sem,u0,u1]) rfl ⟨Bt.leafOf rr e,_,o1,rfl,ck,kF,cq.O⟩):P:=h
theorem zH {w:World}{ps:Nat}{S:St}{o:Nat->Nat}{Y:Nat->Prop}(h:Ig w ps S Y){t:Nat}(hx:Bt.Empty S o t){e:It}(hn:Bt.First S e)(hr:fc S (2*1) 1):
 Ct 137 #[PV ps,Xi t,Xu 0,Id e.kh e.vh] w fun en w'=>∃(y:Bt 1) (S':St) (o':Nat->Nat),en=.returned (.tuple #[Xu (Bt.hd y:Nat),Id 0 0,.bool false,Xi 0])/\Ig w' ps S' Y/\Fo Y w w'/\Bt.Tree S' o' t y/\Bt.its y=[e]/\(∀z∈Bt.h_ y,i_ S z=none)/\(∀z,i_ S z≠none->i_ S' z=i_ S z)/\ej S S' 2 1/\∀z,i_ S' z≠none->z∈Bt.h_ y\/i_ S z≠none:=by
 have B0:=(c_ w (Xe e.kh e.vh)).alloc s_ (.cells #[Xu 0,Xu 0] 104);have z1:(w.alloc (Xe e.kh e.vh)).1.size=w.1.size+1:=s_
 have q1:=heap_alloc_new w (Xe e.kh e.vh);have q2:=heap_alloc_new (w.alloc (Xe e.kh e.vh)) (.cells #[Xu 0,Xu 0] 104);have q1:=(((aa (w.alloc (Xe e.kh e.vh)).1.size (w.alloc (Xe e.kh e.vh))).alloc Ih (.cells #[Xu 0,Xu 0] 104)).block w.1.size s_).T q1;rw[z1] at q2;have hz:((w.alloc (Xe e.kh e.vh)).alloc (.cells #[Xu 0,Xu 0] 104)).1.size=w.1.size+2:=s_
 generalize hW:(w.alloc (Xe e.kh e.vh)).alloc (.cells #[Xu 0,Xu 0] 104)=W0 at*;have A1:=c_ W0 (Xc ps t);have q3:=heap_alloc_new W0 (Xc ps t);have a9:(W0.alloc (Xc ps t)).1.size=w.1.size+3:=by simp[hz]
 have hi:=hx.fit.inv;have hw:=hi;have dk:S.len 0=(0,7):=fU S;have has:=kZ (h.a_ B0) hi hx.t1 hx.t2;obtain⟨W1,c7⟩:=Ii (W0.alloc (Xc ps t));rw[c7] at A1 q3 a9;have B1:=B0.T (A1.M o_);rw[hz] at q3;have b4:=jt hx.fit hn.F5.lk hn.F5.k;have bu:=iz (h.a_ B1) hi e.kh (Bt.blobs_lt hx.fit hn.F5).1 (by rw[b4];simp);rw[b4] at bu;have q1:=(A1.block _ o_).T q1;have q2:=(A1.block _ o_).T q2;obtain⟨x0,x1⟩:=Fp q1;have H0:=kq7 h hx hn hr hw hi a9;have H1:=kq4 B1 q1 q2 q3;have cn:=If has;have co:=If bu;clear z1 q1 q2 q3 B0 B1 A1 hw hi has b4 bu h hx hn hr;unfold Id;go_enter func137,ntmps137;go_wp2_with fail;refine cn.O.M ?_;rintro en w1 ⟨rfl,rfl⟩;clear hW;go_wp2_with fail;refine co.O.M ?_;rintro en w2 ⟨rfl,a3⟩;clear x0 x1;have p1:=(a3.block _ (by have:=H0.g;omega)).T H1.b;have p2:=(a3.block _ (by have:=H0.g;omega)).T H1.c;have p3:=(a3.block _ (by have:=H0.g;omega)).T H1.d;have b2:=b_ H1.a a3;obtain⟨x0,x1⟩:=Fp p3;have b0:=nQ (H0.a.a_ b2) H0.f H0.b.t1 H0.b.t2 0 o_ dk;have ec:w.1.size+3<=w2.1.size:=by have:=a3.size;have:=H0.g;omega
 unfold FH eC at b0;have cu:=If b0;have H2:=kq4 b2 p1 p2 p3;clear a3 p1 p2 p3 b2 b0 co cn H1 c7;go_wp2_with fail;refine cu.O.M ?_;rintro en w3 ⟨rfl,bq⟩;go_wp2_with fail;have A3:=c_ w3 (.cells #[n_,n_,n_,Xu 0] 215);obtain⟨W3,bm⟩:=Ii (w3.alloc (.cells #[n_,n_,n_,Xu 0] 215));rw[bm] at A3;rw[bm];clear bm;have c3:=b_ bq A3;have p1:=(c3.block _ o_).T H2.b;have p2:=(c3.block _ o_).T H2.c;have p3:=(c3.block _ o_).T H2.d;have B3:=b_ H2.a c3;have ed:w.1.size+3<=W3.1.size:=by have:=c3.size;omega
 have bv:=fun W (hw:D_ W3 W)=>tT (H0.a.a_ (b_ B3 hw)) H0.f H0.b.t1 H0.b.t2 0 o_ dk e.k;have bc:=nT (R:=none) (bv W3 (aa _ _)) fun W hW=>bv W (by rw[hW];exact(aa _ _).alloc Ih _);unfold i7 Id at bc
 dsimp only[Option.isSome] at bc
 have cp:=If bc;have H3:=kq4 B3 p1 p2 p3;clear A3 c3 p1 p2 p3 B3 bv bc x0 x1 bq H2 cu;refine cp.O.M ?_;rintro en w4 ⟨rfl,bs⟩;go_wp2_with fail;have A4:=c_ w4 (.cells #[Xu 0,Xu 0] 104);obtain⟨W4,bo⟩:=Ii (w4.alloc (.cells #[Xu 0,Xu 0] 104));rw[bo] at A4;rw[bo];clear bo;have c4:=b_ bs A4;have p1:=(c4.block _ o_).T H3.b;have p2:=(c4.block _ o_).T H3.c;have p3:=(c4.block _ o_).T H3.d;have B4:=b_ H3.a c4;have dv:w.1.size+3<=W4.1.size:=by have:=c4.size;omega
 have cj:=H0.a.wide B4;have a6:=fun W (_:D_ W4 W)=>zO W ps t e.k;have a5:=fun W (hw:D_ W4 W)=>tU (cj.a_ hw) H0.b.fit H0.b.t1 H0.b.t2 1 o_ H0.d;unfold FH at a6 a5;have a6:=If a6;have a5:=If a5;have H4:=kq5 B4 p1 p2 p3 cj;clear A4 c4 p1 p2 p3 B4 cj bs H3 cp;obtain⟨I,an,ar⟩:=ic fun w'=>w'.1[w.1.size+2]?=W4.1[w.1.size+2]?;have a9:=fun x:Fq I=>(an _ x.ok).T H4.d;obtain⟨r0,r1⟩:=mt a9;have ba:I W4.drew:=ar _ rfl;have bj:=If ar;clear an ar a9;refine fh I (.take 0 (.take 1 (.take 2 (.take 3 (.go 4 (.go 5 (.take 6 (.take 7 (.take 8 (.go 9 (.go 10 .nil))))))))))) k_ k_ ba ?_
 iterate 4
  refine pT_ ?_
  try simp only[pu]
 refine pD fun K hK=>?_;go_simp;refine(a6.O _ (aa _ W4).drew).M ?_;rintro en w5 ⟨rfl,bt⟩;have cx:I w5:=bj.O _ (bt.block _ dv);have B5:=(aa W4.1.size W4).drew.T bt;have a4:=If B5;clear bt B5
 try go_simp
 refine hK.O _ _ cx ?_;clear hK K
 try simp only[pu]
 refine pD fun K hK=>?_;go_simp;refine(a5.O _ a4.O).M ?_;rintro en w6 ⟨rfl,S1,o1,v6,L,d7,cb,d5,f6,c6,d6,dn,au,dc⟩;have bb:I w6:=bj.O _ ((cb.block _ (ae ⟨o_,o_⟩)).T (a4.O.block _ dv));have H6:=kq9 d7 cb d5 f6 c6 d6 dn au dc;clear d7 cb d5 f6 c6 d6 dn au dc
 try go_simp
 refine hK.O _ _ bb ?_;clear hK K
 try simp only[pu]
 iterate 3
  refine pT_ ?_
  try simp only[pu]
 refine pD fun K hK=>?_;go_simp
 try go_simp
 refine hK.O _ _ bb ?_;clear hK K
 try simp only[pu]
 refine pD fun K hK=>?_;go_simp
 try go_simp
 refine hK.O _ _ bb ?_;clear hK K
 try simp only[pu]
 refine eP ?_;have k6:∀k,w.1.size<=k->k<W4.1.size->w6.1[k]?=W4.1[k]?:=fun k h1 h2=>(H6.b.block k (ae ⟨h1,h2⟩)).T (a4.O.block k h2);have p1:=(k6 w.1.size o_ o_).T H4.b;have p2:=(k6 (w.1.size+1) o_ o_).T H4.c;have bf:=H0.a.yl;have ee:=a4.O.size;have eg:=H6.b.size;have kY:Fo Y w w6:=((Fo.v_ H4.a bf).T (Fo.v_ a4.O fun k hk=>by have:=bf k hk;omega)).T (H6.b.M fun k hk=>ab hk);have bk:=H6.e;obtain⟨rr,d'⟩:∃rr,L=[]++[rr]:=by
  cases L with
  | nil=>simp at bk
  | cons a l=>
   cases l with
   | nil=>exact⟨a,rfl⟩
   | cons b l=>simp at bk
 subst d';obtain⟨ws,bd,ca⟩:=H6.f.recs rr s_;have a8:=H6.g rr s_;have b9:rr≠e.kh:=fun q=>by have:=H0.c.F5.k;rw[<-q,a8] at this;cases this
 have b':rr≠e.vh:=fun q=>by have:=H0.c.F5.v;rw[<-q,a8] at this;cases this
 have au:∀z,z≠rr->i_ S1 z=i_ S z:=fun z hz=>H6.h z (by simpa using hz);have c9:Bt.Empty S1 o1 t:=⟨H6.d,H0.b.t1,H0.b.t2⟩;have c':Bt.First S1 e:=⟨H0.c.F5.frame (au _ (Ne.S b9)) (au _ (Ne.S b')),H0.c.ne⟩;obtain⟨ok,c8,d1,bx,dd⟩:=Bt.first_tree c9 c' bd ca b9 b';have hA:∀(W:World) (b1 b2:Nat),D_ w6 W->w6.1.size<=b1->w6.1.size<=b2->W.1[b1]?=some (.cells #[Xu e.kh] 61 (0,0))->W.1[b2]?=some (.cells #[Xu e.vh] 61 (0,0))->
  Ct 214 #[.agg #[.slice (some (y_ b1)) 1 1,.slice (some (y_ b2)) 1 1,n_,Xu 1],PV (w5.1.size+1),PV w5.1.size] W fun en w'=>en=.returned (Xu rr)/\∃v',Ig w' ps (FC S1 rr 0 (w_ t (Bt.bn (Bt.leafOf rr e)))) (fun k=>(Y k\/(w.1.size<=k/\k<W4.1.size))\/iJ w5.1.size (w5.1.size+1) v6 k)/\Fo (fun k=>((Y k\/(w.1.size<=k/\k<W4.1.size))\/iJ w5.1.size (w5.1.size+1) v6 k)/\k≠w5.1.size+1) W w'/\gz w' w5.1.size (w5.1.size+1) (w5.1.size+2) ps t v' []/\v'.ownBlock=v6.ownBlock:=by
  intro W b1 b2 hB g1 g2 e1 e2;have ek:w5.1.size+2<=w6.1.size:=by
   have h1:=(gl H6.c.box);omega
  have ds:∀(b k:Nat),W.1[b]?=some (.cells #[Xu k] 61 (0,0))->FD W (.slice (some (y_ b)) 1 1) [k]:=fun b k hb=>⟨_,1,rfl,fun i hi=>⟨b,0,rfl,by
   have hi:i=0:=by simp at hi;exact hi
   subst hi;rw[r_ hb]
   rfl⟩⟩
  have d9:FD W n_ []:=⟨none,0,rfl,fun i hi=>absurd hi s_⟩;have d8:S1.len rr=(6*t,0):=by rw[jw H6.d.tab bd,ca]
  have dp:∀{b n c:Nat},w6.1.size<=b->∀g,(Value.slice (some (y_ b)) n c).ownBlock=some g->g≠w5.1.size+1:=fun hb g hg q=>by
   have hg:=Option.some.inj hg;simp only at hg;omega
  have d0:=pZ (n:=Bt.bn (Bt.leafOf rr e)) (vk:=.slice (some (y_ b1)) 1 1) (vv:=.slice (some (y_ b2)) 1 1) (vc:=.slice none 0 0) (H6.a.a_ hB) H6.d.inv (H6.c.keeps fun k hk=>hB.block k (H6.a.yl k (ae hk))) (ae (ae (ab rfl))) (ae (ab rfl)) (fun b hb=>ae (ae (ae hb))) s_ (Bt.bnok_of H6.d H0.b.t1 H0.b.t2 (fun k hk=>by have hk:k∈([]:List (Bt 0)):=hk;simp at hk) ok) (ds b1 _ e1) (ds b2 _ e2) d9 (dp g1) (dp g2) (fun g hg=>nomatch hg) (fL H6.d bd).2.1 d8 (kX (t:=t) c8 (by show 1<_;omega));unfold eC at d0;exact d0
 have cw:Bt.Tree (FC S1 rr 0 (w_ t (Bt.bn (Bt.leafOf rr e)))) o1 t (Bt.leafOf rr e)/\Bt.its (Bt.leafOf rr e)=[e]/\(∀z∈Bt.h_ (Bt.leafOf rr e),i_ S z=none)/\(∀z,i_ S z≠none->i_ (FC S1 rr 0 (w_ t (Bt.bn (Bt.leafOf rr e)))) z=i_ S z)/\ej S (FC S1 rr 0 (w_ t (Bt.bn (Bt.leafOf rr e)))) 2 1/\∀z,i_ (FC S1 rr 0 (w_ t (Bt.bn (Bt.leafOf rr e)))) z≠none->z∈Bt.h_ (Bt.leafOf rr e)\/i_ S z≠none:=by
  refine⟨d1,Bt.its_leaf _,fun z hz=>?_,fun z hz=>?_,(H6.i.T dd).M o_ o_,fun z hz=>?_⟩
  ·have hz:z∈ [rr]:=hz;rw[aH.1 hz];exact a8
  ·have d4:z≠rr:=fun q=>hz (q▸a8);exact(bx z d4).T (au z d4)
  ·by_cases hm:z=rr
   ·exact ab (show z∈ [rr] from hm▸av ..)
   ·exact ae fun q=>hz ((bx z hm).T ((au z hm).T q))
 have HA:=If hA;have cq:=If cw;have eb:=(gl p2);have HK:=kq4 kY p2 p1 bf;obtain⟨x0,x1⟩:=Fp p1;clear bk bd ca a8 b9 b' au c9 c' ok c8 d1 bx dd hA cw kY p1 p2 k6 bf r0 r1 a6 a5 bj ba cx bb;go_wp2_with fail;obtain⟨I,an,ar⟩:=ic fun w'=>w'.1[w.1.size]?=some (.cells #[Xu e.kh,Xu e.vh] 104 (0,0))/\w'.1[w.1.size+1]?=some (.cells #[Xu 0,Xu 0] 104 (0,0));have d2:=fun x:Fq I=>(an _ x.ok).1;have d3:=fun x:Fq I=>(an _ x.ok).2;obtain⟨s0,s1⟩:=mt d2;obtain⟨r0,r1⟩:=mt d3;have hJ:∀W,D_ w6 W->I W:=fun W hB=>ar _ ⟨(hB.block _ o_).T HK.c,(hB.block _ o_).T HK.b⟩;have ba:I w6.drew:=hJ _ (aa _ w6).drew;have c5:∀W w',D_ w6 W->Fo (fun k=>((Y k\/(w.1.size<=k/\k<W4.1.size))\/iJ w5.1.size (w5.1.size+1) v6 k)/\k≠w5.1.size+1) W w'->I w':=fun W w' hB hk=>by
  have h1:=an _ (hJ W hB);exact ar _ ⟨(hk.block _ ⟨ab (ae ⟨o_,o_⟩),o_⟩).T h1.1,(hk.block _ ⟨ab (ae ⟨o_,o_⟩),o_⟩).T h1.2⟩
 have a2:∀w',I w'->I ((w'.setCell (y_ (w.1.size+1)) (Xu 0)).setCell (x_ (w.1.size+1) 1) (Xu 0)):=fun w' hi=>ar _ ⟨((FB o_).T (FB o_)).T (an _ hi).1,heap_setCell (i:=1) (v:=Xu 0) (heap_setCell (i:=0) (v:=Xu 0) (an _ hi).2)⟩;have HJ:=If hJ;have cv:=If an;clear d2 d3 an ar x0 x1;refine fh I (.take 0 (.take 1 (.take 2 (.take 4 (.take 5 (.take 9 (.two 3 6 (.go 6 (.take 7 (.go 8 (.go 10 (.go 11 (.go 12 (.go 13 .nil))))))) (.go 3 (.take 7 (.go 8 (.go 10 (.go 11 (.go 12 (.go 13 .nil)))))))))))))) k_ k_ ba ?_
 iterate 6
  refine pT_ ?_
  try simp only[pu]
 clear s0 s1 r0 r1;refine gL ?_ ?_
 ·have T4:=xP w6 (Xf (e.kh:Nat)) (Xf (e.vh:Nat));refine pD fun K hK=>?_;go_simp
  try go_simp
  refine hK.O _ _ (HJ.O _ T4.1) ?_;clear hK K
  try simp only[pu]
  refine pD fun K hK=>?_;go_simp
  try go_simp
  refine hK.O _ _ (HJ.O _ T4.2.1) ?_;clear hK K
  try simp only[pu]
  refine pT_ ?_
  try simp only[pu]
  refine pD fun K hK=>?_;go_simp;refine(HA.O _ w6.1.size (w6.1.size+1) T4.2.1 o_ o_ T4.2.2.1 T4.2.2.2).M ?_;exact qXuab
 ·have T4:=xP w6 (Xf (e.vh:Nat)) (Xf (e.kh:Nat));refine pD fun K hK=>?_;go_simp
  try go_simp
  refine hK.O _ _ (HJ.O _ T4.1) ?_;clear hK K
  try simp only[pu]
  refine pD fun K hK=>?_;go_simp
  try go_simp
  refine hK.O _ _ (HJ.O _ T4.2.1) ?_;clear hK K
  try simp only[pu]
  refine pT_ ?_
  try simp only[pu]
  refine pD fun K hK=>?_;go_simp;refine(HA.O _ (w6.1.size+1) w6.1.size T4.2.1 o_ o_ T4.2.2.2 T4.2.2.1).M ?_;exact qXuab
end
section
open Go.RowKit Tryz Go.BigFrame Go.Maps Go.WideMaps Lf Tr
def jx(ps t:Nat):Value:=.agg #[PV ps,Xi t]
theorem rH(f:Nat)(v:Value)(w:World):(method (f+1) 164 v "loft/backend.insert").run prog w=.ok (318,v) w:=k_
theorem qu(args:Array Value)(w:World):(callFunc 318 args).run prog w=.ok (.enter 318 args) w:=k_
theorem rA {w:World}{ps t hh p q:Nat}{S:St}{Y:Nat->Prop}(h:Ig w ps S Y)(was:Bool){R:Nat->Nat->Nat->St->Prop}(hs:∀W Z,Ig W ps S Z->Ct 137 #[PV ps,Xi t,Xu hh,Id p q] W fun e w'=>∃(x ik iv:Nat) (S':St),e=.returned (.tuple #[Xu x,Id ik iv,.bool was,Xi 0])/\Ig w' ps S' Z/\Fo Z W w'/\R x ik iv S'):
 Ct 318 #[jx ps t,Xu hh,Id p q] w fun e w'=>∃(x ik iv:Nat) (S':St),e=.returned (.tuple #[Xu x,Id ik iv,.bool was,Xi 0])/\Ig w' ps S' Y/\Fo Y w w'/\R x ik iv S':=by
 simp only[Id,jx] at hs⊢;have B1:=c_ w (.cells #[PV ps,Xi t] 164);have B2:=B1.alloc B1.size (Xe p q);have B3:=B2.alloc B2.size (.cells #[Xu 0,Xu 0] 104);have y3:=heap_alloc_new ((w.alloc (.cells #[PV ps,Xi t] 164)).alloc (Xe p q)) (.cells #[Xu 0,Xu 0] 104);have z2:((w.alloc (.cells #[PV ps,Xi t] 164)).alloc (Xe p q)).1.size=w.1.size+2:=s_
 have z3:(((w.alloc (.cells #[PV ps,Xi t] 164)).alloc (Xe p q)).alloc (.cells #[Xu 0,Xu 0] 104)).1.size=w.1.size+3:=s_
 rw[z2] at y3;have hY:=h.yl;have hw:=hs _ _ (h.wide B3);rw[z3] at hw;have HG:=kq4 hw (Fo.v_ B3 hY) y3 hY;clear hw h y3 B1 B2 B3 hY hs z2 z3;go_enter func318,ntmps318;go_wp2_with fail;refine HG.a.M ?_;rintro e w6 ⟨x,ik,iv,S',rfl,h6,k6,r6⟩;have y6:=(k6.block (w.1.size+2) (ae ⟨o_,o_⟩)).T HG.c;obtain⟨e0,e1⟩:=Fp y6;obtain⟨f0,f1⟩:=ef y6;have H6:=kq4 h6 (HG.b.T (k6.M fun k hk=>ab hk)) y6 r6;clear h6 k6 y6 r6;go_wp2_with fail;have q7:((w6.setCell (y_ (w.1.size+2)) (Xu ik)).setCell (x_ (w.1.size+2) 1) (Xu iv)).1[w.1.size+2]?=_:=ew H6.c (Xu ik) (Xu iv);have o7:∀k,k≠w.1.size+2->((w6.setCell (y_ (w.1.size+2)) (Xu ik)).setCell (x_ (w.1.size+2) 1) (Xu iv)).1[k]?=w6.1[k]?:=fun k hk=>fA hk _ _;have s7:Ig ((w6.setCell (y_ (w.1.size+2)) (Xu ik)).setCell (x_ (w.1.size+2) 1) (Xu iv)) ps S' Y:=(H6.a.write (b:=w.1.size+2) (ae ⟨o_,o_⟩) H6.c ⟨d_,d_⟩ s_ s_ fun k _ hk=>o7 k hk).M fun k hk=>ab hk;have k7:Fo Y w ((w6.setCell (y_ (w.1.size+2)) (Xu ik)).setCell (x_ (w.1.size+2) 1) (Xu iv)):=H6.b.T ⟨rfl,rfl,rfl,s_,fun k hk=>o7 k (by have:=HG.d k hk;omega)⟩;clear e0 e1 f0 f1 o7;generalize ((w6.setCell (y_ (w.1.size+2)) (Xu ik)).setCell (x_ (w.1.size+2) 1) (Xu iv))=W7 at*;obtain⟨e0,e1⟩:=Fp q7;exact bodyPost_ret (v:=.tuple #[Xu x,.agg #[Xu ik,Xu iv],.bool was,Xi 0]) (by simp[results,f318,go_sem,e0,e1]) rfl ⟨x,ik,iv,S',rfl,s7,k7,H6.d⟩
end
section
open Go.RowKit Tryz Go.BigFrame Go.Maps Go.WideMaps Lf Tr
open Go.Shelf
theorem zJ {w:World}{ps:Nat}{S:St}{o:Nat->Nat}{Y:Nat->Prop}(h:Ig w ps S Y){t d:Nat}{x:Bt (d+1)}(hx:Bt.Tree S o t x){e e0:It}(hn:gu S e){g:Nat}{n0:BN}{k0:Nat}(hnb:Bt.nodeB e.k x=some (g,n0,k0))(hr:Bt.RepAt S o t x e e0 g n0 k0):
 Ct 137 #[PV ps,Xi t,Xu (Bt.hd x:Nat),Id e.kh e.vh] w fun en w'=>en=.returned (.tuple #[Xu (Bt.hd x:Nat),Id e0.kh e0.vh,.bool true,Xi 0])/\Ig w' ps (FC S g 0 (w_ t (Bt.setN n0 k0 e))) Y/\Fo Y w w':=by
 have B0:=(c_ w (Xe e.kh e.vh)).alloc s_ (.cells #[Xu 0,Xu 0] 104);have z1:(w.alloc (Xe e.kh e.vh)).1.size=w.1.size+1:=s_
 have q1:=heap_alloc_new w (Xe e.kh e.vh);have q2:=heap_alloc_new (w.alloc (Xe e.kh e.vh)) (.cells #[Xu 0,Xu 0] 104);have q1:=(((aa (w.alloc (Xe e.kh e.vh)).1.size (w.alloc (Xe e.kh e.vh))).alloc Ih (.cells #[Xu 0,Xu 0] 104)).block w.1.size s_).T q1;rw[z1] at q2;have hz:((w.alloc (Xe e.kh e.vh)).alloc (.cells #[Xu 0,Xu 0] 104)).1.size=w.1.size+2:=s_
 generalize hW:(w.alloc (Xe e.kh e.vh)).alloc (.cells #[Xu 0,Xu 0] 104)=W0 at*;have A1:=c_ W0 (Xc ps t);have q3:=heap_alloc_new W0 (Xc ps t);have bd:(W0.alloc (Xc ps t)).1.size=w.1.size+3:=by simp[hz]
 have hw:=hx.walk;have hi:=hx.fit.inv;have has:=kZ (h.a_ B0) hi hx.t1 hx.t2;obtain⟨W1,a9⟩:=Ii (W0.alloc (Xc ps t));rw[a9] at A1 q3 bd;have B1:=B0.T (A1.M o_);rw[hz] at q3;have a2:=jt hx.fit hn.lk hn.k;have a0:=iz (h.a_ B1) hi e.kh (Bt.blobs_lt hx.fit hn).1 (by rw[a2];simp);rw[a2] at a0;have q1:=(A1.block _ o_).T q1;have q2:=(A1.block _ o_).T q2;obtain⟨x0,x1⟩:=Fp q1;have H0:=kq7 h hx hn hr hw hi bd;have ap:=kq2 hnb h.yl;clear hnb;have H1:=kq4 B1 q1 q2 q3;have a5:=If has;have a6:=If a0;have bo:Bt.hd x≠0:=(Bt.At.hd_ok hx.fit hx.at').1;have bq:((Bt.hd x:Nat):Int)≠0:=o_
 clear z1 q1 q2 q3 B0 B1 A1 hw hi has a2 a0 h hx hn hr;unfold Id;go_enter func137,ntmps137;go_wp2_with fail;refine a5.O.M ?_;rintro en w1 ⟨rfl,rfl⟩;clear hW;go_wp2_with fail;refine a6.O.M ?_;rintro en w2 ⟨rfl,ad⟩;clear x0 x1;have p1:=(ad.block _ (by have:=H0.g;omega)).T H1.b;have p2:=(ad.block _ (by have:=H0.g;omega)).T H1.c;have p3:=(ad.block _ (by have:=H0.g;omega)).T H1.d;have b2:=b_ H1.a ad;obtain⟨x0,x1⟩:=Fp p3;have a1:=kI (H0.a.a_ b2) H0.f H0.e.read;have bs:w.1.size+3<=w2.1.size:=by have:=ad.size;have:=H0.g;omega
 unfold FH eC at a1;have a8:=If a1;have H2:=kq4 b2 p1 p2 p3;clear ad p1 p2 p3 b2 a1 a6 a5 H1 a9;go_wp2_with fail;refine a8.O.M ?_;rintro en w3 ⟨vk,vv,vc,rfl,rows,ar⟩;obtain⟨Ak,mk,ck,rfl⟩:=rows.k.slice;obtain⟨Av,mv,cv,rfl⟩:=rows.v.slice;obtain⟨Ac,mc,cc,rfl⟩:=rows.c.slice;obtain⟨sz,bc⟩:=Ii (Bt.bn x).size;rw[bc];clear bc;have A3:=c_ w3 (.cells #[.slice Ak mk ck,.slice Av mv cv,.slice Ac mc cc,Xu sz] 215);obtain⟨W3,a'⟩:=Ii (w3.alloc (.cells #[.slice Ak mk ck,.slice Av mv cv,.slice Ac mc cc,Xu sz] 215));rw[a'] at A3;have c3:=b_ ar A3;have p1:=(c3.block _ o_).T H2.b;have p2:=(c3.block _ o_).T H2.c;have p3:=(c3.block _ o_).T H2.d;have B3:=b_ H2.a c3;have bt:w.1.size+3<=W3.1.size:=by have:=c3.size;omega
 have bm:=H0.b.low;have bb:=H0.d.find;have ai:=fun W (hw:D_ W3 W)=>pY (H0.a.a_ (b_ B3 hw)) H0.e o_ e.k;rw[bb] at ai;have an:=nT (R:=some e0) (ai W3 (aa _ _)) fun W hW=>ai W (by rw[hW];exact(aa _ _).alloc Ih _);unfold i7 Id at an
 dsimp only[Option.isSome] at an
 have a7:=If an;have H3:=kq4 B3 p1 p2 p3;clear A3 c3 p1 p2 p3 B3 bb ai an x0 x1 ar H2 a8 rows;go_wp2_with fail;refine a7.O.M ?_;rintro en w4 ⟨rfl,au⟩;clear a';have A4:=c_ w4 (Xe e0.kh e0.vh);obtain⟨W4,ba⟩:=Ii (w4.alloc (Xe e0.kh e0.vh));rw[ba] at A4;have c4:=b_ au A4;have p1:=(c4.block _ o_).T H3.b;have p2:=(c4.block _ o_).T H3.c;have p3:=(c4.block _ o_).T H3.d;have B4:=b_ H3.a c4;have bu:w.1.size+3<=W4.1.size:=by have:=c4.size;omega
 have bf:=H0.a.wide B4;have a3:=zR bf H0.e o_ ap.a H0.d;unfold FH Id at a3;have bk:=If a3;obtain⟨x0,x1⟩:=Fp p3;obtain⟨y0,y1⟩:=Fp p1;have H4:=kq2 B4 p2;clear A4 c4 p1 p2 p3 B4 bf au H3 a7 a3;go_wp2_with fail;refine bk.O.M ?_;rintro en w5 ⟨rfl,bj,a4⟩;clear ba x0 x1 y0 y1;have q5:=(a4.block (w.1.size+1) (ae ⟨o_,o_⟩)).T H4.b;obtain⟨x0,x1⟩:=Fp q5;obtain⟨f0,f1⟩:=ef q5;have H5:=kq3 bj a4 q5;clear bj a4 q5;go_wp2_with fail;have qF:=ew H5.c (Xu e0.kh) (Xu e0.vh);have oF:∀k,k≠w.1.size+1->((w5.setCell (y_ (w.1.size+1)) (Xu e0.kh)).setCell (x_ (w.1.size+1) 1) (Xu e0.vh)).1[k]?=w5.1[k]?:=fun k hk=>fA hk _ _;have sF:Ig ((w5.setCell (y_ (w.1.size+1)) (Xu e0.kh)).setCell (x_ (w.1.size+1) 1) (Xu e0.vh)) ps (FC S g 0 (w_ t (Bt.setN n0 k0 e))) Y:=(H5.a.write (b:=w.1.size+1) (ae ⟨o_,o_⟩) H5.c ⟨d_,d_⟩ s_ s_ fun k _ hk=>oF k hk).M fun k hk=>ab hk;have kF:Fo Y w ((w5.setCell (y_ (w.1.size+1)) (Xu e0.kh)).setCell (x_ (w.1.size+1) 1) (Xu e0.vh)):=((Fo.v_ H4.a ap.b).T (H5.b.M fun k hk=>ab hk)).T ⟨rfl,rfl,rfl,s_,fun k hk=>oF k (by have:=ap.b k hk;omega)⟩;clear x0 x1 f0 f1 oF;generalize ((w5.setCell (y_ (w.1.size+1)) (Xu e0.kh)).setCell (x_ (w.1.size+1) 1) (Xu e0.vh))=WF at*;obtain⟨u0,u1⟩:=Fp qF;exact bodyPost_ret (v:=.tuple #[Xu (Bt.hd x:Nat),.agg #[Xu e0.kh,Xu e0.vh],.bool true,Xi 0]) (by simp[results,f137,go_sem,u0,u1]) rfl ⟨rfl,sF,kF⟩
end
section
open Lf Tr
namespace Bt
variable{R:List Nat}{S:St}{o:Nat->Nat}
theorem two_fit(hf:Fw S o){a b:List UInt8}(ha:a.length<=1000)(hb:b.length<=1000)(hr:fc S 6 2):
 ∃ka vb S2 o2,itemsM S a b=some ((ka,vb),S2)/\nJ S a b/\Fw S2 o2/\i_ S ka=none/\i_ S vb=none/\ka≠vb/\i_ S2 ka=some (FK a)/\i_ S2 vb=some (FK b)/\(∀h',h'≠ka->h'≠vb->i_ S2 h'=i_ S h')/\ej S S2 6 2:=by
 obtain⟨ka,S1,o1,e1,f1,n1,l1,q1,g1,k1⟩:=oL hf ha (hr.M o_ o_);obtain⟨vb,S2,o2,e2,f2,n2,l2,q2,g2,k2⟩:=oL f1 hb (fc.grew (hr.M (p':=3+3) (q':=1+1) o_ o_) g1);have ad:ka≠vb:=by grind
 have ai:itemsM S a b=some ((ka,vb),S2):=by
  unfold itemsM
  grind
 exact⟨ka,vb,S2,o2,ai,⟨ha,hb,k1,by grind⟩,f2,n1,(q1 _ ad.S).S.T n2,ad,(q2 _ ad).T l1,l2,fun h' w1 w2=>(q2 h' w2).T (q1 h' w1),(g1.T g2).M o_ o_⟩
def getL(L:List (List UInt8×List UInt8))(a:List UInt8):Option (List UInt8):=(L.find? fun p=>p.1==a).map (·.2)
theorem getL_pairs(l:List It)(a:List UInt8):getL (F0 l) a=(G7 a l).map (·.v):=by
 unfold getL F0 G7;rw[List.find?_map,Option.map_map];rfl
theorem xu{l:List It}(hs:l.Pairwise eU){e e0:It}(hf:G7 e.k l=some e0):
 ∃A B,l=A++e0::B/\l.map (rep e)=A++e::B/\e0.k=e.k/\(∀x∈A,Fu x.k e.k<0)/\∀x∈B,Fu e.k x.k<0:=by
 unfold G7 at hf;have hk:e0.k=e.k:=by grind
 obtain⟨A,B,rfl⟩:=List.append_of_mem (cD hf);obtain⟨p1,p2,p3⟩:=bE.1 hs;obtain⟨p4,p5⟩:=bB.1 p2;have hA:∀x∈A,Fu x.k e.k<0:=fun x hx=>by
  grind [List.mem_cons_self,eU]
 have hB:∀x∈B,Fu e.k x.k<0:=fun x hx=>by
  have:=p4 x hx;unfold eU at this
  grind
 have e1:A.map (rep e)=A:=(aZ fun x hx=>(mg (ne_of_lt (hA x hx)):rep e x=id x)).T (dO _);have e2:B.map (rep e)=B:=(aZ fun x hx=>(mg (fun q=>by have:=hB x hx;rw[q,fX] at this;omega):rep e x=id x)).T (dO _);refine⟨A,B,rfl,?_,hk,hA,hB⟩;rw[aQ,bg,e1,e2]
 congr 2
 exact if_pos hk
theorem pairs_ins{e:It}{l:List It}(hs:l.Pairwise eU)(hn:∀d∈l,d.k≠e.k):F0 (insB e l)=gV (F0 l) e.k e.v:=by
 obtain⟨b1,b2,b3⟩:=lL (key:=e.k) hs;have ad:∀d∈l.drop (belowB e.k l),Fu e.k d.k<0:=fun d hd=>by
  have h1:=b2 d hd;have h2:=hn d (bA hd)
  grind [ie,Int.lt_trichotomy,Fu,absurd,jL]
 have h:=oO (a:=e.k) (b:=e.v) (d:=e) (tl:=l.take (belowB e.k l)) (tr:=l.drop (belowB e.k l)) (mid:=[]) ⟨rfl,rfl⟩ (fun x hx=>by grind) b1 ad;rw[bw,aS] at h;exact h
theorem Dq{e e0:It}{l:List It}(hs:l.Pairwise eU)(hf:G7 e.k l=some e0):F0 (l.map (rep e))=gV (F0 l) e.k e.v:=by
 obtain⟨A,B,h1,h2,h3,h4,h5⟩:=xu hs hf;have h:=oO (a:=e.k) (b:=e.v) (d:=e) (tl:=A) (tr:=B) (mid:=[e0]) ⟨rfl,rfl⟩ (fun x hx=>by rw[aH.1 hx];exact h3) h4 h5;grind
theorem qXuac{P:Prop}(h:P:=by
 exact(h.F5 a hx).frame (hS _ (an _ (gh.2 ⟨a,hx,ab rfl⟩))) (hS _ (an _ (gh.2 ⟨a,hx,ae rfl⟩)))):P:=h
theorem Tree.swap{t d:Nat}{x:Bt (d+1)}(h:Tree S o t x){e e0:It}(hb:gu S e)(ne:e.kh≠e.vh)(off:e.kh∉recs x/\e.vh∉recs x){g:Nat}{n:BN}{k:Nat}(r:RepAt S o t x e e0 g n k){S1:St}(hS1:S1=FC S g 0 (w_ t (setN n k e))):
 Fw S1 o/\fz S1 e0.vh=(e0.v,0)/\e0.kh<2^64/\e0.vh<2^64/\Fv (S1.drop e0.kh).2/\∃S3,S3=((S1.drop e0.kh).2.drop e0.vh).2/\Tree S3 o t (mapB (rep e) x)/\F0 (its (mapB (rep e) x))=gV (F0 (its x)) e.k e.v/\ej S S3 0 0/\(∀y,y∉recs x->i_ S3 y=i_ S y)/\(∀y∈recs (mapB (rep e) x),y∈recs x\/y=e.kh\/y=e.vh)/\∀y,i_ S3 y≠none->y∈recs (mapB (rep e) x)\/i_ S y≠none/\y∉recs x/\y≠e.kh/\y≠e.vh:=by
 obtain⟨A,B,h1,h2,h3,h4,h5⟩:=xu h.F3 r.find;have a1:e0∈its x:=by rw[h1];simp
 have ap:=h.F5 e0 a1;have k0:e0.kh∈ff (its x):=gh.2 ⟨e0,a1,ab rfl⟩;have v0:e0.vh∈ff (its x):=gh.2 ⟨e0,a1,ae rfl⟩;have an:∀y∈ff (its x),y≠g:=fun y hy q=>h.apart g r.mem (q▸hy);have a4:e.kh≠g/\e.vh≠g:=⟨fun q=>off.1 (q▸aB _ r.mem),fun q=>off.2 (q▸aB _ r.mem)⟩;have a2:=h.texts;rw[h1,nO] at a2;have ec:∀(z:It) (l:List It),ff (z::l)=z.kh::z.vh::ff l:=fun _ _=>rfl;rw[ec] at a2;obtain⟨t1,t2,t3⟩:=aD.1 a2;obtain⟨t4,t5⟩:=aI.1 t2;obtain⟨t6,t7⟩:=aI.1 t5;have oe:∀y,y=e.kh\/y=e.vh->y∉ff (its x)/\y∉Bt.h_ x:=fun y hy=>by
  rcases hy with rfl | rfl
  ·exact⟨fun q=>off.1 (aA _ q),fun q=>off.1 (aB _ q)⟩
  ·exact⟨fun q=>off.2 (aA _ q),fun q=>off.2 (aB _ q)⟩
 have ad:∀y,y∈ff A\/y∈ff B->y∈ff (its x):=fun y hy=>by
  rw[h1,nO,ec]
  rcases hy with hy | hy
  ·exact aB _ hy
  ·exact aA _ (ak _ (ak _ hy))
 have a0:its (mapB (rep e) x)=A++e::B:=by rw[ln,h2]
 have ai:∀y,y∈ff (its (mapB (rep e) x))↔y∈ff A\/y=e.kh\/y=e.vh\/y∈ff B:=fun y=>by
  rw[a0,nO,ec,ao,ah,ah]
 have ar:Tree S1 o t (mapB (rep e) x):=by
  subst hS1;refine⟨r.fit,h.t1,h.t2,r.at',vF _ h.ok,?_,?_,?_,by rw[lW];exact h.h_,?_,?_,by rw[vE];exact h.pos⟩
  ·rw[ln];refine dR.2 (h.F3.imp fun {a b} q=>?_);unfold eU at q⊢;rw[wI,wI];exact q
  ·intro a ha;have hS:∀y,y≠g->i_ (FC S g 0 (w_ t (setN n k e))) y=i_ S y:=r.fr;rw[a0] at ha
   rcases ao.1 ha with ha | ha
   ·have hx:a∈its x:=by rw[h1];exact aB _ ha
    exact qXuac
   ·rcases ah.1 ha with rfl | ha
    ·exact hb.frame (hS _ a4.1) (hS _ a4.2)
    ·have hx:a∈its x:=by rw[h1];exact aA _ (ak _ ha)
     exact qXuac
  ·rw[ln,am];exact h.few
  ·rw[a0,nO,ec];refine aD.2 ⟨t1,aI.2 ⟨fun q=>?_,aI.2 ⟨fun q=>(oe _ (ae rfl)).1 (ad _ (ae q)),t7⟩⟩,fun y hy z hz=>?_⟩
   ·rcases ah.1 q with q | q
    ·exact ne q
    ·exact(oe _ (ab rfl)).1 (ad _ (ae q))
   ·rintro rfl
    rcases ah.1 hz with q | hz
    ·exact(oe y (ab q)).1 (ad _ (ab hy))
    ·rcases ah.1 hz with q | hz
     ·exact(oe y (ae q)).1 (ad _ (ab hy))
     ·exact t3 y hy y (ak _ (ak _ hz)) rfl
  ·intro y hy hb1;rw[lW] at hy
   rcases(ai y).1 hb1 with q | q | q | q
   ·exact h.apart y hy (ad _ (ab q))
   ·exact(oe y (ab q)).2 hy
   ·exact(oe y (ae q)).2 hy
   ·exact h.apart y hy (ad _ (ae q))
 have au:∀y,y≠g->i_ S1 y=i_ S y:=by rw[hS1];exact r.fr
 have a8:ej S S1 0 0:=by rw[hS1];exact r.grew
 have kk:i_ S1 e0.kh=some (FK e0.k):=(au _ (an _ k0)).T ap.k;have vv:i_ S1 e0.vh=some (FK e0.v):=(au _ (an _ v0)).T ap.v;have a7:e0.kh≠e0.vh:=fun q=>t4 (by rw[q];exact av ..);obtain⟨S2,e2,f2,m2,o2,g2⟩:=mQ ar.fit kk;obtain⟨S3,e3,f3,m3,o3,g3⟩:=mQ f2 ((o2 _ a7.S).T vv);have a5:e0.kh∉recs (mapB (rep e) x)/\e0.vh∉recs (mapB (rep e) x):=by
  have a6:∀y,y=e0.kh\/y=e0.vh->y∉ff A/\y∉ff B:=fun y hy=>by
   rcases hy with rfl | rfl
   ·exact⟨fun q=>t3 _ q _ (av ..) rfl,fun q=>t4 (ak _ q)⟩
   ·exact⟨fun q=>t3 _ q _ (ak _ (av ..)) rfl,t6⟩
  have a3:∀y,y=e0.kh\/y=e0.vh->y∈ff (its x)->y∉recs (mapB (rep e) x):=fun y hy hyx q=>by
   unfold recs at q
   rcases ao.1 q with q | q
   ·rw[lW] at q;exact h.apart y q hyx
   ·rcases(ai y).1 q with q | q | q | q
    ·exact(a6 y hy).1 q
    ·exact(oe y (ab q)).1 hyx
    ·exact(oe y (ae q)).1 hyx
    ·exact(a6 y hy).2 q
  exact⟨a3 _ (ab rfl) k0,a3 _ (ae rfl) v0⟩
 refine⟨ar.fit,jt ar.fit ap.lv vv,(blobs_lt h.fit ap).1,(blobs_lt h.fit ap).2,by rw[e2];exact f2.inv,S3,by rw[e2,e3],ar.frame f3 (fun y hy=>(o3 y fun q=>a5.2 (q▸hy)).T (o2 y fun q=>a5.1 (q▸hy))),?_,((a8.T g2).T g3),fun y hy=>?_,fun y hy=>?_,fun y hy=>?_⟩
 ·rw[ln];exact Dq h.F3 r.find
 ·have w1:y≠e0.kh:=fun q=>hy (q▸aA _ k0);have w2:y≠e0.vh:=fun q=>hy (q▸aA _ v0);have w3:y≠g:=fun q=>hy (q▸aB _ r.mem);exact(o3 y w2).T ((o2 y w1).T (au y w3))
 ·unfold recs at hy⊢
  rcases ao.1 hy with q | q
  ·rw[lW] at q;exact ab (aB _ q)
  ·rcases(ai y).1 q with q | q | q | q
   ·exact ab (aA _ (ad _ (ab q)))
   ·exact ae (ab q)
   ·exact ae (ae q)
   ·exact ab (aA _ (ad _ (ae q)))
 ·by_cases hm:y∈recs (mapB (rep e) x)
  ·exact ab hm
  ·have w1:y≠e0.kh:=by
    rintro rfl;exact hy ((o3 _ a7).T m2)
   have w2:y≠e0.vh:=by
    rintro rfl;exact hy m3
   have hx:y∉recs x:=fun q=>by
    unfold recs at q hm
    rcases ao.1 q with q | q
    ·exact hm (aB _ (by rw[lW];exact q))
    ·rw[h1,nO,ec] at q
     rcases ao.1 q with q | q
     ·exact hm (aA _ ((ai y).2 (.inl q)))
     ·rcases ah.1 q with q | q
      ·exact w1 q
      ·rcases ah.1 q with q | q
       ·exact w2 q
       ·exact hm (aA _ ((ai y).2 (.inr (.inr (.inr q)))))
   have w3:y≠g:=fun q=>hx (q▸aB _ r.mem);exact ae ⟨fun q=>hy ((o3 y w2).T ((o2 y w1).T ((au y w3).T q))),hx,fun q=>hm (aA _ ((ai y).2 (.inr (.inl q)))),fun q=>hm (aA _ ((ai y).2 (.inr (.inr (.inl q)))))⟩
def Holds(S:St)(o:Nat->Nat)(t f9:Nat)(L:List (List UInt8×List UInt8))(R:List Nat):Prop:=
 (Empty S o t/\f9=0/\L=[]/\R=[])\/∃(d:Nat) (x:Bt (d+1)),Tree S o t x/\f9=hd x/\L=F0 (its x)/\R=recs x
theorem Holds.fit{t f9:Nat}{L:List (List UInt8×List UInt8)}(h:Holds S o t f9 L R):Fw S o:=by
 rcases h with⟨h,_⟩ | ⟨_,_,h,_⟩
 ·exact h.fit
 ·exact h.fit
theorem Holds.deg{t f9:Nat}{L:List (List UInt8×List UInt8)}(h:Holds S o t f9 L R):2<=t/\t<=16:=by
 rcases h with⟨h,_⟩ | ⟨_,_,h,_⟩
 ·exact⟨h.t1,h.t2⟩
 ·exact⟨h.t1,h.t2⟩
theorem Holds.has{t f9:Nat}{L:List (List UInt8×List UInt8)}(h:Holds S o t f9 L R):∀y∈R,i_ S y≠none:=by
 rcases h with⟨_,_,_,rfl⟩ | ⟨_,_,h,_,_,rfl⟩
 ·grind
 ·exact h.has
theorem Holds.frame{S S':St}{o o':Nat->Nat}{t f9:Nat}{L:List (List UInt8×List UInt8)}(h:Holds S o t f9 L R)(hf:Fw S' o')(hs:∀y∈R,i_ S' y=i_ S y):Holds S' o' t f9 L R:=by
 rcases h with⟨h,h1,h2,h3⟩ | ⟨d,x,h,h1,h2,h3⟩
 ·exact ab ⟨⟨hf,h.t1,h.t2⟩,h1,h2,h3⟩
 ·refine ae ⟨d,x,h.frame hf (by grind),h1,h2,h3⟩
end Bt
end
section
open Go.RowKit Tryz Go.BigFrame Go.Maps Go.WideMaps Lf Tr
theorem uS:∀d,j4 d
 | 0=>uU 0 fun _ h=>absurd h o_
 | d+1=>uU (d+1) fun d0 h=>by
  have h:d=d0:=o_
  subst h;exact @uS d
