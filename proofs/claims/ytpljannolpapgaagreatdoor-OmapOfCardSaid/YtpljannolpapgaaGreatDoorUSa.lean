/- Sorting a row of handles: it stays the same handles in some order; what the small functions do. -/
import Derived.Test.YtpljannolpapgaaGreatDoorUDe
import Derived.Sort.EveryDepth
import Derived.CellFam
import Derived.Deep.CutRange
import Derived.Deep.CutBlock
import Derived.Test.YtpljannolpapgaaGreatDoorUBv
set_option maxRecDepth 100000
set_option maxHeartbeats 8000000
namespace Go.Proofs.YtpljannolpapgaaGreatDoor
section
open Go.RowKit Tryz Go.BigFrame Go.Maps Go.WideMaps Lf Tr
variable{w:World}
structure SP where
 D:Nat
 b:Nat
 off:Nat
 n:Nat
 c:Nat
 w:World
 l:List Nat
 z:off=0
 big:n<=100000
structure PS (p:SP) (w:World) (l:List Nat):Prop where
 a_:Below p.D p.w w
 perm:l.Perm p.l
 own:FE w p.D (.slice (some (y_ p.b)) l.length p.c) l
 len:l.length=p.n
def PX(p:SP)(w:World):Prop:=∃l,PS p w l
abbrev pi(p:SP):Value:=.slice (some (x_ p.b p.off)) p.n p.c
theorem PS.d{p:SP}{l:List Nat}(h:PS p w l):p.D<=p.b/\p.b<w.1.size:=FE.ge h.own p.b rfl
theorem PX.draws{p:SP}(h:PX p w)(q:Nat):PX p (w.drewN q):=by
 obtain⟨l,h⟩:=h;have h1:Below p.D p.w (w.drewN q):=⟨h.a_.os,h.a_.tape,h.a_.output,h.a_.size,h.a_.block⟩;exact⟨l,h1,h.perm,h.own.at fun _ _=>rfl,h.len⟩
theorem PX.grow{p:SP}{w w':World}(h:PX p w)(hb:D_ w w'):PX p w':=by
 obtain⟨l,h⟩:=h;exact⟨l,h.a_.T (hb.M (cW (cL h.d.1 h.d.2))),h.perm,oJ h.own hb,h.len⟩
theorem PX.open{p:SP}(h:PX p w):∃g:Nat->Nat,(∀t,t<p.n->w.cell? ⟨p.b,p.off+t,none⟩=some (Xu (g t:Nat)))/\(∀t,t<p.n->w.frozen? ⟨p.b,p.off+t,none⟩=false)/\
 ∀i j,i<p.n->j<p.n->∀q,PX p (((w.drewN q).setCell ⟨p.b,p.off+i,none⟩ (Xu (g j:Nat))).setCell ⟨p.b,p.off+j,none⟩ (Xu (g i:Nat))):=by
 obtain⟨l,h⟩:=h;have hl:=h.len;rw[p.z];have hc:∀t,t<p.n->w.cell? (x_ p.b t)=some (Xu (l.getD t 0:Nat))/\w.frozen? (x_ p.b t)=false:=fun t ht=>mY h.own (v:=l.getD t 0) (by rw[av,af o_];rfl);refine⟨fun t=>l.getD t 0,fun t ht=>by rw[bD];exact(hc t ht).1,fun t ht=>by rw[bD];exact(hc t ht).2,fun i j hi hj q=>PX.draws (w:=(w.setCell _ _).setCell _ _) ?_ q⟩;have ad:i<l.length:=o_
 have ai:j<l.length:=o_
 have o1:=Im h.own (l.getD j 0) ad;rw[show l.length=(l.set i (l.getD j 0)).length from bx.S] at o1;have o2:=Im o1 (l.getD i 0) (k:=j) (by rw[bx];exact ai);refine⟨(l.set i (l.getD j 0)).set j (l.getD i 0),(h.a_.setCell h.d.1 _).setCell h.d.1 _,?_,?_,by rw[bx,bx];exact hl⟩
 ·refine List.Perm.T ?_ h.perm;have e1:l.getD j 0=l[j]:=by rw[av,af ai];rfl
  have e2:l.getD i 0=l[i]:=by rw[av,af ad];rfl
  rw[e1,e2];exact List.set_set_perm ad ai
 grind
theorem MT(x:Nat)(w:World):Ct 279 #[Xu x] w fun e w'=>e=.returned (.bool false)/\w'=w:=by
 go_enter func279,ntmps279;go_wp2_with fail;go_ret;simp_all
theorem MS(x y:Nat)(w:World):Ct 271 #[Xu x,Xu y] w fun e w'=>e=.returned (.bool (decide (x<y)))/\w'=w:=by
 go_enter func271,ntmps271;go_wp2_with fail;refine Jc (MT x _) ?_;go_wp2_with fail;go_ret;simp_all
theorem qi(x y:Nat)(w:World)(n:Nat):Ct 271 #[Xu x,Xu y] (w.drewN n) fun e w''=>e=.returned (.bool (decide (x<y)))/\∃m,w''=w.drewN m:=
 (MS x y _).M fun _ _ h=>⟨h.1,n,h.2⟩
theorem qSaag{P:Prop}(h:P:=by
 go_roundw
 case rel=>exact⟨i+1,s_,o_,J.O.draws _⟩
 case measure=>simp[intOf];omega):P:=h
theorem qSaaf{P:Prop}(h:P:=by
 go_wp2_with fail
 go_end0
 exact⟨rfl,I.O⟩):P:=h
theorem MR{p:SP}(h:PX p w){a z:Nat}(hz:z<=p.n)(haz:a<=z):Ct 265 #[pi p,Xi a,Xi z] w fun e w'=>e=.returned (.tuple #[])/\PX p w':=by
 have H:=If h;have big:=p.big;go_enter func265,ntmps265;go_wp2_with fail
 go_loopw [6,7] (fun s6 _ wr=>∃i:Nat,s6=Xi i/\i<=z+1/\Hid (PX p wr)) (fun s6 _ _=>z+1-(intOf s6).toNat)
 case atStart=>exact⟨a+1,s_,o_,H⟩
 case round=>
  obtain⟨i,rfl,hi,I⟩:=hrel
  by_cases hlt:(i:Int)<z
  ·go_wp2_with fail
   go_loopw [7] (fun s7 wq=>∃j:Nat,s7=Xi j/\j<=i/\Hid (PX p wq)) (fun s7 _=>(intOf s7).toNat)
   case atStart=>grind
   case round=>
    obtain⟨j,rfl,hj,J⟩:=hrel
    by_cases hja:a<j
    ·obtain⟨k,rfl⟩:∃k,j=k+1:=⟨j-1,o_⟩;obtain⟨g,cw,fw,hs⟩:=PX.open (J.O);have ai:=If (hs (k+1) k o_ o_);have ad:(a:Int)<k+1:=o_
     go_wp2_with fail
     go_quiet (exact qi _ _ _ _)
     go_wp2_with fail
     ·go_region
      go_wp2_with fail;go_roundw
      case rel=>exact⟨k,s_,o_,ai.O _⟩
      case measure=>simp[intOf]
     ·exact qSaag
    ·have ad:decide (a<j)=false:=decide_eq_false hja;go_wp2_with fail
     go_quiet (exact qi _ _ _ _)
     go_wp2_with fail;exact qSaag
  ·exact qSaaf
theorem MZ{p:SP}(h:PX p w){a z:Nat}(hz:z<=p.n)(haz:a<z):Ct 269 #[pi p,Xi a,Xi z] w fun e w'=>e=.returned (.tuple #[])/\PX p w':=by
 have H:=If h;have big:=p.big;unfold pi;clear h;go_enter func269,ntmps269;go_wp2_with fail
 go_loopw [6,7] (fun s6 s7 wr=>∃i j:Nat,s6=Xi i/\s7=Xi j/\j<z/\i<=z/\Hid (PX p wr)) (fun s6 _ _=>z-(intOf s6).toNat)
 case atStart=>exact⟨a,z-1,rfl,by congr 1;omega,o_,o_,H⟩
 case round=>
  obtain⟨i,j,rfl,rfl,hj,hi,I⟩:=hrel
  by_cases hlt:(i:Int)<j
  ·obtain⟨k,rfl⟩:∃k,j=k+1:=⟨j-1,o_⟩;obtain⟨g,cw,fw,hs⟩:=PX.open (I.O);have ad:=If (hs i (k+1) o_ o_);clear hs;go_wp2_with fail
   go_region
   go_wp2_with fail;go_roundw
   case rel=>exact⟨i+1,k,s_,s_,o_,o_,ad.O _⟩
   case measure=>simp[intOf];omega
  ·exact qSaaf
theorem Mq{p:SP}(h:PX p w){lo hi first:Nat}(hl:lo<=hi)(hf:first+hi<=p.n):Ct 276 #[pi p,Xi lo,Xi hi,Xi first] w fun e w'=>e=.returned (.tuple #[])/\PX p w':=by
 have H:=If h;have big:=p.big;unfold pi;clear h;go_enter func276,ntmps276;go_wp2_with fail
 go_loopg [8,9] (hi-lo) (fun k s8 _ wr=>∃r:Nat,s8=Xi r/\r<=hi/\hi-r<=k/\Hid (PX p wr))
 case atStart=>exact⟨lo,rfl,hl,Nat.le_refl _,H⟩
 case round=>
  obtain⟨r,rfl,hr,ap,I⟩:=hrel
  by_cases h0:(hi:Int)<=2*r+1
  ·exact qSaaf
  ·obtain⟨g,cw,fw,hs⟩:=PX.open (I.O);clear hs
   go_upto_region 3 with fail
   go_cut [36] from 11 to 75 (fun s36 wx=>∃b:Bool,s36=.bool b/\(b=true->2*r+1+1<hi)/\Hid (PX p wx))
   case first=>
    by_cases h1:2*(r:Int)+1+1<hi
    ·go_quiet (exact qi _ _ _ _)
     go_wp2_with fail
     go_meet
     exact⟨_,rfl,fun _=>by omega,I.O.draws _⟩
    ·have hz:decide (2*(r:Int)+1+1<hi)=false:=decide_eq_false h1
     go_quiet (exact qi _ _ _ _)
     go_wp2_with fail
     go_meet
     exact⟨_,rfl,(fun h=>nomatch h),I.O.draws _⟩
   case rest=>
    obtain⟨b,rfl,hb,J⟩:=hcut;clear cw fw I
    go_upto_if 36 with fail
    go_cut [9] from 11 to 75 (fun s9 wx=>∃ch:Nat,s9=Xi ch/\r<ch/\ch<hi/\Hid (PX p wx))
    case first=>
     cases b
     ·go_wp2_with fail
      go_meet
      exact⟨2*r+1,s_,o_,o_,J⟩
     ·have hb:=hb rfl;go_wp2_with fail
      go_meet
      exact⟨2*r+1+1,s_,o_,o_,J⟩
    case rest=>
     clear J hb;obtain⟨ch,rfl,ai,an,J⟩:=hcut;obtain⟨g,cw,fw,hs⟩:=PX.open (J.O);have ad:=If (hs (first+r) (first+ch) o_ o_);clear hs;go_wp2_with fail
     go_quiet (exact qi _ _ _ _)
     go_wp2_with fail
     ·refine bodyPost_ret (results_none rfl _ _ _) rfl ?_;exact⟨rfl,J.O.draws _⟩
     ·go_region
      go_wp2_with fail
      go_roundg (hi-ch)
      case rel=>exact⟨ch,rfl,o_,Nat.le_refl _,ad.O _⟩
      case measure=>omega
theorem qSaac{P:Prop}(h:P:=by
 go_region
 go_wp2_with fail
 go_meet
 exact ad.O _):P:=h
theorem MQ{p:SP}(h:PX p w){a m:Nat}(hz:a+m+1<=p.n):Ct 266 #[pi p,Xi a,Xi ((a:Int)+m+1)] w fun e w'=>e=.returned (.tuple #[])/\PX p w':=by
 have H:=If h;have big:=p.big;unfold pi;clear h;have ez:(a:Int)+m+1-a=m+1:=o_
 go_enter func266,ntmps266;go_wp2_with fail
 go_loopw [9] (fun s9 wr=>∃k:Nat,s9=Xi ((k:Int)-1)/\k<=m+1/\Hid (PX p wr)) (fun s9 _=>(intOf s9+1).toNat)
 case atStart=>exact⟨m / 2+1,s_,o_,H⟩
 case round=>
  obtain⟨k,rfl,hk,I⟩:=hrel
  cases k with
  | zero=>
   go_wp2_with fail
   go_loopg [10] (m+1) (fun k s10 wr=>s10=Xi ((k:Int)-1)/\k<=m+1/\Hid (PX p wr))
   case atStart=>exact⟨s_,o_,I⟩
   case round=>
    obtain⟨rfl,hk,I⟩:=hrel
    cases gk with
    | zero=>
     exact qSaaf
    | succ k=>
     go_upto_region 10 with fail
     go_cut [] from 29 to 55 (fun wx=>Hid (PX p wx))
     case first=>
      obtain⟨g,cw,fw,hs⟩:=PX.open (I.O);have ad:=If (hs a (a+k) o_ o_);clear hs
      rcases Nat.eq_zero_or_pos k with rfl | ai
      all_goals
       exact qSaac
     case rest=>
      go_wp2_with fail;refine e9 (Mq hcut.O (lo:=0) (hi:=k) (first:=a) o_ o_) fun w1 J=>?_;go_wp2_with fail
      go_roundg k
      case rel=>exact⟨s_,o_,J⟩
      case measure=>omega
  | succ k=>
   go_wp2_with fail;refine e9 (Mq I.O (lo:=k) (hi:=m+1) (first:=a) o_ o_) fun w1 J=>?_;go_wp2_with fail;go_roundw
   case rel=>exact⟨k,s_,o_,J⟩
   case measure=>simp[intOf]
theorem qSaad{P:Prop}(h:P:=by
 go_wp2_with fail
 go_roundg (j-1+2-(i+1))
 case rel=>exact⟨i+1,j-1,s_,by congr 1;omega,o_,o_,o_,o_,o_,Nat.le_refl _,hcut⟩
 case measure=>omega):P:=h
theorem qSaab{P:Prop}(h:P:=by
 obtain⟨i,rfl,q1,q2,q3,I⟩:=hrel;obtain⟨f,cw,fw,hs⟩:=PX.open I.O
 by_cases hc:i<=j0
 ·go_wp2_with fail
  go_quiet (exact qi _ _ _ _)
  go_wp2_with fail
  ·go_roundw
   case rel=>exact⟨i+1,s_,o_,o_,o_,I.O.draws _⟩
   case measure=>simp[intOf];omega
  ·go_meet
   exact⟨i,rfl,q1,q2,q3,I.O.draws _⟩
 ·have ai:decide (i<=j0)=false:=decide_eq_false hc;go_wp2_with fail
  go_quiet (exact qi _ _ _ _)
  go_wp2_with fail
  go_meet
  exact⟨i,rfl,q1,q2,q3,I.O.draws _⟩):P:=h
theorem qSaaa{P:Prop}(h:P:=by
 obtain⟨j,rfl,r1,r2,r3,I⟩:=hrel;obtain⟨f,cw,fw,hs⟩:=PX.open I.O
 by_cases hc:i<=j
 ·go_wp2_with fail
  go_quiet (exact qi _ _ _ _)
  go_wp2_with fail
  ·go_roundw
   case rel=>exact⟨j-1,by congr 1;omega,o_,o_,o_,I.O.draws _⟩
   case measure=>simp[intOf];omega
  ·go_meet
   exact⟨j,rfl,r1,r2,r3,I.O.draws _⟩
 ·have ai:decide (i<=j)=false:=decide_eq_false hc;go_wp2_with fail
  go_quiet (exact qi _ _ _ _)
  go_wp2_with fail
  go_meet
  exact⟨j,rfl,r1,r2,r3,I.O.draws _⟩):P:=h
theorem MP{p:SP}(h:PX p w){a z v:Nat}(hz:z<=p.n)(hv:a<=v/\v<z):Ct 272 #[pi p,Xi a,Xi z,Xi v] w fun e w'=>∃x:Nat,e=.returned (Xi (x:Nat))/\(a<x/\x<=z)/\PX p w':=by
 have big:=p.big;have H:=If h;obtain⟨f,cw,fw,hs⟩:=PX.open h;have ad:=If (hs a v o_ o_);go_enter func272,ntmps272
 go_upto_region 1 with fail
 go_cut [] from 11 (fun wx=>Hid (PX p wx))
 case first=>
  rcases cJ hv.1 with rfl | an
  all_goals
   exact qSaac
 case rest=>
  go_wp2_with fail
  go_loopg [9,10] (z+1) (fun k s9 s10 wr=>∃i j:Nat,s9=Xi i/\s10=Xi j/\a<i/\i<=z/\i<=j+2/\a<=j/\j<z/\j+2-i<=k/\Hid (PX p wr))
  case atStart=>exact⟨a+1,z-1,s_,by congr 1;omega,o_,o_,o_,o_,o_,o_,hcut⟩
  case round=>
   obtain⟨i0,j0,rfl,rfl,hi,au,ar,hj,a0,ap,I⟩:=hrel
   go_upto_block 2 with fail
   go_cut [9] from 29 to 82 (fun s9 wx=>∃i:Nat,s9=Xi i/\i0<=i/\i<=z/\i<=j0+2/\Hid (PX p wx))
   case first=>
    go_wp2_with fail
    go_loopw [9] (fun s9 wr=>∃i:Nat,s9=Xi i/\i0<=i/\i<=z/\i<=j0+2/\Hid (PX p wr)) (fun s9 _=>j0+2-(intOf s9).toNat)
    case atStart=>exact⟨i0,rfl,o_,o_,o_,I⟩
    case round=>
     exact qSaab
   case rest=>
    obtain⟨i,rfl,q1,q2,q3,I⟩:=hcut
    go_upto_block 4 with fail
    go_cut [10] from 29 to 82 (fun s10 wx=>∃j:Nat,s10=Xi j/\j<=j0/\a<=j/\i<=j+2/\Hid (PX p wx))
    case first=>
     go_wp2_with fail
     go_loopw [10] (fun s10 wr=>∃j:Nat,s10=Xi j/\j<=j0/\a<=j/\i<=j+2/\Hid (PX p wr)) (fun s10 _=>(intOf s10).toNat)
     case atStart=>exact⟨j0,rfl,o_,o_,o_,I⟩
     case round=>
      exact qSaaa
    case rest=>
     obtain⟨j,rfl,r1,r2,r3,I⟩:=hcut
     by_cases hc:(j:Int)<i
     ·go_wp2_with fail;go_ret;exact⟨i,rfl,o_,I.O⟩
     ·obtain⟨f,cw,fw,hs⟩:=PX.open I.O;have ad:=If (hs i j o_ o_)
      go_upto_region 8 with fail
      go_cut [] from 29 to 82 (fun wx=>Hid (PX p wx))
      case first=>
       rcases cJ (show i<=j by omega) with rfl | a1
       all_goals
        exact qSaac
      case rest=>
       exact qSaad
theorem MW{p:SP}(h:PX p w){a z v:Nat}(hz:z<=p.n)(hv:a<=v/\v<z):Ct 273 #[pi p,Xi a,Xi z,Xi v] w fun e w'=>∃(x:Nat) (b:Bool),e=.returned (.tuple #[Xi (x:Nat),.bool b])/\(a<=x/\x<z)/\PX p w':=by
 have big:=p.big;have H:=If h;obtain⟨f,cw,fw,hs⟩:=PX.open h;have ad:=If (hs a v o_ o_);go_enter func273,ntmps273
 go_upto_region 1 with fail
 go_cut [] from 12 (fun wx=>Hid (PX p wx))
 case first=>
  rcases cJ hv.1 with rfl | a1
  all_goals
   exact qSaac
 case rest=>
  go_upto_region 2 with fail
  go_cut [10,11] from 26 (fun s10 s11 wx=>∃i j:Nat,s10=Xi i/\s11=Xi j/\a<i/\i<=z/\i<=j+2/\a<=j/\j<z/\Hid (PX p wx))
  case first=>
   go_wp2_with fail
   go_meet
   exact⟨a+1,z-1,s_,by congr 1;omega,o_,o_,o_,o_,o_,hcut⟩
  case rest=>
   obtain⟨i0,j0,rfl,rfl,hi,au,ar,hj,a0,I⟩:=hcut
   go_upto_block 0 with fail
   go_cut [10] from 30 (fun s10 wx=>∃i:Nat,s10=Xi i/\i0<=i/\i<=z/\i<=j0+2/\Hid (PX p wx))
   case first=>
    go_wp2_with fail
    go_loopw [10] (fun s10 wr=>∃i:Nat,s10=Xi i/\i0<=i/\i<=z/\i<=j0+2/\Hid (PX p wr)) (fun s10 _=>j0+2-(intOf s10).toNat)
    case atStart=>exact⟨i0,rfl,o_,o_,o_,I⟩
    case round=>
     exact qSaab
   case rest=>
    obtain⟨i,rfl,q1,q2,q3,I⟩:=hcut
    go_upto_block 2 with fail
    go_cut [11] from 46 (fun s11 wx=>∃j:Nat,s11=Xi j/\j<=j0/\a<=j/\i<=j+2/\Hid (PX p wx))
    case first=>
     go_wp2_with fail
     go_loopw [11] (fun s11 wr=>∃j:Nat,s11=Xi j/\j<=j0/\a<=j/\i<=j+2/\Hid (PX p wr)) (fun s11 _=>(intOf s11).toNat)
     case atStart=>exact⟨j0,rfl,o_,o_,o_,I⟩
     case round=>
      exact qSaaa
    case rest=>
     obtain⟨j,rfl,r1,r2,r3,I⟩:=hcut;obtain⟨f,cw,fw,hs⟩:=PX.open I.O;have ap:=If (hs j a o_ o_)
     by_cases hc:(j:Int)<i
     ·clear hs
      rcases cJ r2 with rfl | an
      all_goals
       go_wp2_with fail
       go_region
       go_wp2_with fail;go_ret2;exact⟨_,true,rfl,⟨r2,o_⟩,ap.O _⟩
     ·have ad:=If (hs i j o_ o_)
      go_upto_region 10 with fail
      go_cut [] from 66 (fun wx=>Hid (PX p wx))
      case first=>
       rcases cJ (show i<=j by omega) with rfl | an
       all_goals
        exact qSaac
      case rest=>
       have I:=hcut;go_wp2_with fail
       go_loopg [10,11] (z+1) (fun k s10 s11 wr=>∃i j:Nat,s10=Xi i/\s11=Xi j/\a<i/\i<=z/\i<=j+2/\a<=j/\j<z/\j+2-i<=k/\Hid (PX p wr))
       case atStart=>exact⟨i+1,j-1,s_,by congr 1;omega,o_,o_,o_,o_,o_,o_,I⟩
       case round=>
        obtain⟨i0,j0,rfl,rfl,hi,au,ar,hj,a0,a2,I⟩:=hrel
        go_upto_block 6 with fail
        go_cut [10] from 99 to 152 (fun s10 wx=>∃i:Nat,s10=Xi i/\i0<=i/\i<=z/\i<=j0+2/\Hid (PX p wx))
        case first=>
         go_wp2_with fail
         go_loopw [10] (fun s10 wr=>∃i:Nat,s10=Xi i/\i0<=i/\i<=z/\i<=j0+2/\Hid (PX p wr)) (fun s10 _=>j0+2-(intOf s10).toNat)
         case atStart=>exact⟨i0,rfl,o_,o_,o_,I⟩
         case round=>
          exact qSaab
        case rest=>
         obtain⟨i,rfl,q1,q2,q3,I⟩:=hcut
         go_upto_block 8 with fail
         go_cut [11] from 99 to 152 (fun s11 wx=>∃j:Nat,s11=Xi j/\j<=j0/\a<=j/\i<=j+2/\Hid (PX p wx))
         case first=>
          go_wp2_with fail
          go_loopw [11] (fun s11 wr=>∃j:Nat,s11=Xi j/\j<=j0/\a<=j/\i<=j+2/\Hid (PX p wr)) (fun s11 _=>(intOf s11).toNat)
          case atStart=>exact⟨j0,rfl,o_,o_,o_,I⟩
          case round=>
           exact qSaaa
         case rest=>
          obtain⟨j,rfl,r1,r2,r3,I⟩:=hcut;obtain⟨f,cw,fw,hs⟩:=PX.open I.O;have ap:=If (hs j a o_ o_)
          by_cases hc:(j:Int)<i
          ·clear hs
           rcases cJ r2 with rfl | an
           all_goals
            go_wp2_with fail
            go_region
            go_wp2_with fail;go_ret2;exact⟨_,false,rfl,⟨r2,o_⟩,ap.O _⟩
          ·have ad:=If (hs i j o_ o_)
           go_upto_region 18 with fail
           go_cut [] from 99 to 152 (fun wx=>Hid (PX p wx))
           case first=>
            rcases cJ (show i<=j by omega) with rfl | an
            all_goals
             exact qSaac
           case rest=>
            exact qSaad
structure PW (p:SP) (g s:Nat) (w:World):Prop where
 x:PX p w
 d:p.D<=g
 ne:g≠p.b
 box:w.1[g]?=some (.cells #[Xi s] 3 (0,0))
theorem PX.set{p:SP}(h:PX p w){a:Addr}(hd:p.D<=a.block)(hn:a.block≠p.b)(v:Value):PX p (w.setCell a v):=by
 obtain⟨l,h⟩:=h;refine⟨l,h.a_.setCell hd v,h.perm,h.own.at fun k hk=>?_,h.len⟩
 cases hk
 exact cg w a v p.b fun e=>hn e.S
theorem PW.draws{p:SP}{g s:Nat}(h:PW p g s w)(q:Nat):PW p g s (w.drewN q):=⟨h.x.draws q,h.d,h.ne,h.box⟩
theorem MU{p:SP}{g s:Nat}(h:PW p g s w){lo up i j:Nat}(hs:s<=100)(hh:up<=p.n)(hi:lo<=i/\i<up)(hj:lo<=j/\j<up):
 Ct 280 #[pi p,Xi i,Xi j,PV g] w fun e w'=>∃x y s',e=.returned (.tuple #[Xi (x:Nat),Xi (y:Nat)])/\(lo<=x/\x<up)/\(lo<=y/\y<up)/\s'<=s+1/\PW p g s' w':=by
 have H:=If h;obtain⟨f,cw,fw,hx⟩:=PX.open h.x;have hb:=h.box;unfold pi;clear h hx;obtain⟨k0,kf⟩:=qS hb;go_enter func280,ntmps280;go_wp2_with fail
 go_quiet (exact qi _ _ _ _)
 go_wp2_with fail
 ·go_ret2;refine⟨j,i,s+1,rfl,hj,hi,Nat.le_refl _,(H.O.x.draws _).set H.O.d H.O.ne _,H.O.d,H.O.ne,?_⟩;rw[heap_setCell (H.O.draws _).box]
  simp
 ·go_ret2;exact⟨i,j,s,rfl,hi,hj,o_,H.O.draws _⟩
theorem Mp{p:SP}{g s:Nat}(h:PW p g s w){lo up i j k:Nat}(hs:s<=90)(hh:up<=p.n)(hi:lo<=i/\i<up)(hj:lo<=j/\j<up)(hk:lo<=k/\k<up):
 Ct 278 #[pi p,Xi i,Xi j,Xi k,PV g] w fun e w'=>∃x s',e=.returned (Xi (x:Nat))/\(lo<=x/\x<up)/\s'<=s+3/\PW p g s' w':=by
 have ad:=fun(W:World) (r:Nat) (h:PW p g r W) {i j:Nat}=>MU (lo:=lo) (up:=up) (i:=i) (j:=j) h;unfold pi at*;have H:=kq2 h ad;clear h ad;go_enter func278,ntmps278;go_wp2_with fail;refine(H.b _ _ H.a o_ hh hi hj).M ?_;rintro e w1 ⟨x1,y1,s1,rfl,ai,ap,au,h1⟩;go_wp2_with fail;refine(H.b _ _ h1 o_ hh ap hk).M ?_;rintro e w2 ⟨x2,y2,s2,rfl,an,a3,a0,h2⟩;go_wp2_with fail;refine(H.b _ _ h2 o_ hh ai an).M ?_;rintro e w3 ⟨x3,y3,s3,rfl,a2,ar,a1,h3⟩;go_wp2_with fail;go_ret;exact⟨y3,s3,rfl,ar,o_,h3⟩
theorem MJ{p:SP}{g s:Nat}(h:PW p g s w){lo up i:Nat}(hs:s<=90)(hh:up<=p.n)(h1:lo<i)(h2:i+1<up):
 Ct 277 #[pi p,Xi i,PV g] w fun e w'=>∃x s',e=.returned (Xi (x:Nat))/\(lo<=x/\x<up)/\s'<=s+3/\PW p g s' w':=by
 obtain⟨k,rfl⟩:∃k,i=k+1:=⟨i-1,o_⟩;have big:=p.big;have hm:=Mp h (lo:=lo) (up:=up) (i:=k) (j:=k+1) (k:=k+1+1) hs hh ⟨o_,o_⟩ ⟨o_,o_⟩ ⟨o_,o_⟩;unfold pi at*;have H:=If hm;clear hm h;go_enter func277,ntmps277;go_wp2_with fail;refine H.O.M ?_;rintro e w1 ⟨x1,s1,rfl,ai,ad,h1⟩;go_wp2_with fail;go_ret;exact⟨x1,s1,rfl,ai,ad,h1⟩
theorem MY{p:SP}(h:PX p w){a L:Nat}(hL:12<L)(hz:a+L<=p.n):
 Ct 268 #[pi p,Xi a,Xi ((a:Int)+L)] w fun e w'=>∃x t:Nat,e=.returned (.tuple #[Xi (x:Nat),Xi (t:Nat)])/\(a<=x/\x<a+L)/\PX p w':=by
 have big:=p.big;have ez:(a:Int)+L-a=L:=o_
 obtain⟨Q,hQ⟩:=Ii (L / 4);have a0:(L:Int) / 4=Q:=o_
 have h8:(8:Int)<=L:=o_
 have hq:4*Q<=L/\L<4*Q+4:=o_
 have P0:PW p w.1.size 0 (w.alloc (.cells #[Xi 0] 3)):=by
  obtain⟨l,h⟩:=h;have:=h.d;exact⟨PX.grow ⟨l,h⟩ ((aa _ _).alloc Ih _),o_,o_,heap_alloc_new w _⟩
 have ai:=fun(W:World) (r:Nat) (h:PW p w.1.size r W) {i:Nat}=>MJ (lo:=a) (up:=a+L) (i:=i) h;have an:=fun(W:World) (r:Nat) (h:PW p w.1.size r W) {i j k:Nat}=>Mp (lo:=a) (up:=a+L) (i:=i) (j:=j) (k:=k) h;unfold pi at*;obtain⟨W,hW⟩:=Ii (w.alloc (.cells #[Xi 0] 3));rw[hW] at P0;have H:=kq3 P0 ai an;clear h ai an P0 hQ;go_enter func268,ntmps268
 go_upto_if 34 with fail
 go_cut [10,11,12] from 33 (fun s10 s11 s12 wx=>∃i j k s:Nat,s10=Xi i/\s11=Xi j/\s12=Xi k/\(a<=i/\i<a+L)/\(a<=j/\j<a+L)/\(a<=k/\k<a+L)/\s<=9/\Hid (PW p w.1.size s wx))
 case first=>
  by_cases h50:(50:Int)<=L
  ·go_wp2_with fail;refine(H.b _ _ H.a (i:=a+Q) o_ hz o_ o_).M ?_;rintro e w1 ⟨x1,s1,rfl,ad,ap,h1⟩;go_wp2_with fail;refine(H.b _ _ h1 (i:=a+Q*2) o_ hz o_ o_).M ?_;rintro e w2 ⟨x2,s2,rfl,ar,a1,h2⟩;go_wp2_with fail;refine(H.b _ _ h2 (i:=a+Q*3) o_ hz o_ o_).M ?_;rintro e w3 ⟨x3,s3,rfl,au,a2,h3⟩;go_wp2_with fail
   go_meet
   exact⟨x1,x2,x3,s3,rfl,rfl,rfl,ad,ar,au,o_,h3⟩
  ·go_wp2_with fail
   go_meet
   exact⟨a+Q,a+Q*2,a+Q*3,0,s_,s_,s_,o_,o_,o_,o_,H.a⟩
 case rest=>
  obtain⟨i,j,k,s,rfl,rfl,rfl,hi,hj,hk,hs,J⟩:=hcut;go_wp2_with fail;refine(H.c _ _ J.O o_ hz hi hj hk).M ?_;rintro e w1 ⟨x1,s1,rfl,ad,ap,h1⟩;have hb:=h1.box;have c0:(w1).cell? (y_ w.1.size)=some (Xi s1):=e_ hb
  have J1:=If h1.x;clear h1 hb;go_wp2_with fail
  all_goals
   go_ret2;exact⟨_,_,rfl,ad,J1.O⟩
end
section
open Go.RowKit Tryz Go.BigFrame Go.Maps Go.WideMaps Lf Tr
open Go.Sort Go.Shelf
variable{w:World}
structure XB (p:SP) (B:Nat) (w:World):Prop where
 x:PX p w
 d:p.D<=B
 ne:B≠p.b
 box:∃X:Nat,X<2^64/\w.1[B]?=some (.cells #[Xu X] 347 (0,0))
theorem XB.next{p:SP}{B:Nat}(h:XB p B w){R:Nat}(hR:R<2^64):XB p B ((w.setCell (y_ B) (Xu (R:Nat))).drewN 3):=by
 obtain⟨X,_,hb⟩:=h.box;exact⟨(h.x.set h.d h.ne _).draws 3,h.d,h.ne,R,hR,heap_setCell hb⟩
theorem XB.step{p:SP}{B i j:Nat}{u v:Value}(h:XB p B w)(hx:∀q,PX p (((w.drewN q).setCell (x_ p.b i) u).setCell (x_ p.b j) v))(q:Nat):XB p B (((w.drewN q).setCell (x_ p.b i) u).setCell (x_ p.b j) v):=by
 obtain⟨X,h1,hb⟩:=h.box;exact⟨hx q,h.d,h.ne,X,h1,(cg _ _ _ B h.ne).T ((cg _ _ _ B h.ne).T hb)⟩
theorem ML{p:SP}(h:PX p w){a L:Nat}(hL:12<L)(hz:a+L<=p.n):Ct 267 #[pi p,Xi a,Xi ((a:Int)+L)] w fun e w'=>e=.returned (.tuple #[])/\PX p w':=by
 have big:=p.big;have ez:(a:Int)+L-a=L:=o_
 obtain⟨Q,hQ⟩:=Ii (L / 4);have a2:(L:Int) / 4=Q:=o_
 have hq:4*Q<=L/\L<4*Q+4:=o_
 obtain⟨M,hM⟩:∃M:Nat,M=1<<<bitsLen L:=⟨_,rfl⟩;have a3:1<=M:=by rw[hM,Nat.one_shiftLeft];exact Nat.two_pow_pos _
 have a4:M<=2*L:=by rw[hM,Nat.one_shiftLeft];exact two_pow_bitsLen_le o_
 have ai:∀w,Ct 260 #[Xi (L:Int)] w fun e w'=>e=.returned (Xu (M:Int))/\w'=w:=by rw[hM];exact fun w=>calls_of_every_depth fun D=>AnySM.nextPowerOfTwoIn { sortA with } D L o_ w
 have ap:∀(X:Nat) (w:World),X<2^64->∀g,w.cell? (y_ g)=some (Xu X)->w.frozen? (y_ g)=false->Ct 261 #[.pointer (some (y_ g))] w fun e w'=>e=.returned (Xu (xorNextN X:Nat))/\w'=(w.setCell (y_ g) (Xu (xorNextN X:Nat))).drewN 3:=fun X w hX g hc hf=>calls_of_every_depth fun D=>AnySM.xorshift_NextIn { sortA with } D g 0 X hX w hc hf;have K0:XB p w.1.size (w.alloc (.cells #[Xu (L:Nat)] 347)):=by
  obtain⟨l,h⟩:=h;have:=h.d;exact⟨PX.grow ⟨l,h⟩ ((aa _ _).alloc Ih _),o_,o_,L,o_,heap_alloc_new w _⟩
 have K:=If K0;obtain⟨B,hB⟩:=Ii w.1.size;rw[hB] at K;have a0:=If ap;have au:=If ai;unfold pi;clear h hQ hM ap ai K0;have h8:(8:Int)<=L:=o_
 go_enter func267,ntmps267;go_wp2_with fail;refine Jc (au.O _) ?_;go_wp2_with fail
 go_loopg [9,10] 3 (fun k s9 _ wr=>∃t i:Nat,s9=Xi i/\i+1<=a+Q*2+t/\a+Q*2+t<=i+1/\t<=3/\3-t<=k/\Hid (XB p B wr))
 case atStart=>exact⟨0,a+Q*2-1,by congr 1;omega,o_,o_,o_,o_,K⟩
 case round=>
  obtain⟨t,i,rfl,h1,h2,ht,a5,I⟩:=hrel
  by_cases h3:(i:Int)<=a+Q*2+1
  ·obtain⟨X,hX,hB⟩:=I.O.box;have ad:=a0.O X wr hX B (t_ hB) (AT hB);obtain⟨R,hR⟩:∃R:Nat,xorNextN X=R:=⟨_,rfl⟩;have lR:R<2^64:=by rw[<-hR];exact xorNextN_lt X hX
   rw[hR] at ad;have HN:=If ad;obtain⟨O,hO⟩:∃O:Nat,O=R &&& (M-1):=⟨_,rfl⟩;have lO:O<=M-1:=by rw[hO];exact Nat.and_le_right
   have a1:bits .and .u64 (R:Int) ((M:Int)-1)=(O:Int):=by
    rw[show ((M:Int)-1)=((M-1:Nat):Int) by omega,bits_and_u64_nat _ _ lR o_,hO]
   clear hO ad hB hR;go_wp2_with fail;refine Jc HN.O ?_;have J:XB p B ((wr.setCell (y_ B) (Xu (R:Nat))).drewN 3):=I.O.next lR;obtain⟨W2,an⟩:=Ii ((wr.setCell (y_ B) (Xu (R:Nat))).drewN 3);rw[an] at J⊢;have J:=If J;clear an HN I
   go_upto_if 43 with fail
   go_cut [10] from 26 to 64 (fun s10 wx=>∃o:Nat,s10=Xi o/\o<L/\wx=W2)
   case first=>
    by_cases hlo:(L:Int)<=O
    ·go_wp2_with fail
     go_meet
     exact⟨O-L,by congr 1;omega,o_,rfl⟩
    ·go_wp2_with fail
     go_meet
     exact⟨O,rfl,o_,rfl⟩
   case rest=>
    obtain⟨o,rfl,ho,rfl⟩:=hcut;obtain⟨f,cw,fw,hs⟩:=PX.open J.O.x;have ar:=If (J.O.step (hs i (a+o) o_ o_));clear hs a1 lO lR
    by_cases heq:i=a+o
    ·subst heq;go_wp2_with fail
     go_region
     go_wp2_with fail
     go_roundg (2-t)
     case rel=>exact⟨t+1,a+o+1,s_,o_,o_,o_,o_,ar.O _⟩
     case measure=>omega
    ·go_wp2_with fail
     go_region
     go_wp2_with fail
     go_roundg (2-t)
     case rel=>exact⟨t+1,i+1,s_,o_,o_,o_,o_,ar.O _⟩
     case measure=>omega
  ·go_wp2_with fail
   go_end0
   exact⟨rfl,I.O.x⟩
end
section
open Go.RowKit Tryz Go.BigFrame Go.Maps Go.WideMaps Lf Tr
theorem MV {p:SP}{w:World}(h:PX p w){a z:Nat}(hz:z<=p.n)(haz:a<z):Ct 270 #[pi p,Xi a,Xi z] w fun e w'=>∃b:Bool,e=.returned (.bool b)/\PX p w':=by
 have big:=p.big;have H:=If h;unfold pi;clear h;go_enter func270,ntmps270;go_wp2_with fail
 go_loopg [7,8,9,10] 5 (fun k s7 s8 _ _ wr=>∃i j:Nat,s7=Xi i/\s8=Xi j/\a<i/\i<=z/\j<=5/\5-j<=k/\Hid (PX p wr))
 case atStart=>exact⟨a+1,0,s_,rfl,o_,o_,o_,o_,H⟩
 case round=>
  obtain⟨i0,j0,rfl,rfl,hi,ai,hj,ap,I⟩:=hrel
  by_cases hj5:(j0:Int)<5
  ·go_upto_block 2 with fail
   go_cut [7] from 13 to 132 (fun s7 wx=>∃i:Nat,s7=Xi i/\a<i/\i<=z/\Hid (PX p wx))
   case first=>
    go_wp2_with fail
    go_loopw [7] (fun s7 wr=>∃i:Nat,s7=Xi i/\a<i/\i<=z/\Hid (PX p wr)) (fun s7 _=>z-(intOf s7).toNat)
    case atStart=>exact⟨i0,rfl,hi,ai,I⟩
    case round=>
     obtain⟨i,rfl,q1,q2,I⟩:=hrel;obtain⟨k,rfl⟩:∃k,i=k+1:=⟨i-1,o_⟩;obtain⟨f,cw,fw,hs⟩:=PX.open I.O;clear hs
     by_cases hc:(k:Int)+1<z
     ·go_wp2_with fail
      go_quiet (exact qi _ _ _ _)
      go_wp2_with fail
      ·go_roundw
       case rel=>exact⟨k+1+1,s_,o_,o_,I.O.draws _⟩
       case measure=>simp[intOf];omega
      ·go_meet
       exact⟨k+1,s_,q1,q2,I.O.draws _⟩
     ·have an:decide ((k:Int)+1<z)=false:=decide_eq_false hc;go_wp2_with fail
      go_quiet (exact qi _ _ _ _)
      go_wp2_with fail
      go_meet
      exact⟨k+1,s_,q1,q2,I.O.draws _⟩
   case rest=>
    obtain⟨i,rfl,q1,q2,I⟩:=hcut;obtain⟨k,rfl⟩:∃k,i=k+1:=⟨i-1,o_⟩
    by_cases ai:(k:Int)+1=z
    ·go_wp2_with fail;go_ret;exact⟨_,rfl,I.O⟩
    ·by_cases h50:(z:Int)-a<50
     ·go_wp2_with fail;go_ret;exact⟨_,rfl,I.O⟩
     ·go_upto_region 11 with fail
      go_cut [] from 13 to 132 (fun wx=>Hid (PX p wx))
      case first=>
       obtain⟨f,cw,fw,hs⟩:=PX.open I.O;have ad:=If (hs (k+1) k o_ o_);clear hs;exact qSaac
      case rest=>
       clear I
       go_upto_if 61 with fail
       go_cut [9] from 13 to 132 (fun _ wx=>Hid (PX p wx))
       case first=>
        by_cases h2:(2:Int)<=k+1-a
        ·go_wp2_with fail
         go_loopw [9] (fun s9 wr=>∃j:Nat,s9=Xi j/\j<=k/\Hid (PX p wr)) (fun s9 _=>(intOf s9).toNat)
         case atStart=>exact⟨k,s_,o_,hcut⟩
         case round=>
          obtain⟨j,rfl,r1,I⟩:=hrel
          by_cases hj1:(1:Int)<=j
          ·obtain⟨m,rfl⟩:∃m,j=m+1:=⟨j-1,o_⟩;obtain⟨f,cw,fw,hs⟩:=PX.open I.O;have ad:=If (hs (m+1) m o_ o_);clear hs;go_wp2_with fail
           go_quiet (exact qi _ _ _ _)
           go_wp2_with fail
           ·go_meet
            exact I.O.draws _
           ·go_region
            go_wp2_with fail;go_roundw
            case rel=>exact⟨m,s_,o_,ad.O _⟩
            case measure=>simp[intOf]
          ·go_wp2_with fail
           go_meet
           exact I.O
        ·go_wp2_with fail
         go_meet
         exact hcut
       case rest=>
        have I:=hcut;clear hcut
        by_cases h2:(2:Int)<=z-(k+1)
        ·go_wp2_with fail
         go_loopw [10] (fun s9 wr=>∃j:Nat,s9=Xi ((j:Int)+1)/\j<z/\Hid (PX p wr)) (fun s9 _=>z-(intOf s9).toNat)
         case atStart=>exact⟨k+1,s_,o_,I⟩
         case round=>
          obtain⟨j,rfl,r1,I⟩:=hrel
          by_cases hj1:(j:Int)+1<z
          ·obtain⟨f,cw,fw,hs⟩:=PX.open I.O;have ad:=If (hs (j+1) j o_ o_);clear hs;go_wp2_with fail
           go_quiet (exact qi _ _ _ _)
           go_wp2_with fail
           ·go_roundg (4-j0)
            case rel=>exact⟨k+1,j0+1,s_,s_,o_,o_,o_,o_,I.O.draws _⟩
            case measure=>omega
           ·go_region
            go_wp2_with fail;go_roundw
            case rel=>exact⟨j+1,s_,o_,ad.O _⟩
            case measure=>simp[intOf];omega
          ·go_wp2_with fail
           go_roundg (4-j0)
           case rel=>exact⟨k+1,j0+1,s_,s_,o_,o_,o_,o_,I.O⟩
           case measure=>omega
        ·go_wp2_with fail
         go_roundg (4-j0)
         case rel=>exact⟨k+1,j0+1,s_,s_,o_,o_,o_,o_,I⟩
         case measure=>omega
  ·go_wp2_with fail;go_ret;exact⟨.inl rfl,I.O⟩
end
section
open Go.Sort Go.RowKit Go.BigFrame Go.Maps Go.WideMaps Lf Tr
theorem qSaah{P:Prop}(h:P:=by
 go_quiet (exact qi _ _ _ _)
 go_wp2_with fail
 go_meet
 exact⟨_,rfl,I.O.draws _⟩):P:=h
theorem qSaae{P:Prop}(h:P:=by
 go_wp2_with fail;refine bodyPost_ret (results_none rfl _ _ _) rfl ?_;exact⟨rfl,J⟩):P:=h
theorem MX {p:SP}:∀(N:Nat) {w:World} {a z lim:Nat},PX p w->z-a<N->a<=z->z<=p.n->lim<=100->Ct 257 #[pi p,Xi a,Xi z,Xi lim] w fun e w'=>e=.returned (.tuple #[])/\PX p w':=by
 intro N
 induction N with
 | zero=>exact fun _ h=>absurd h o_
 | succ N ih=>
  intro w a z lim h hN ai hz ad;have big:=p.big;have ar:=fun(w:World) (a z lim:Nat)=> @ih w a z lim;have H:=kq2 h ar;unfold pi;clear h ih ar;go_enter Tryz.func257,Tryz.ntmps257;go_wp2_with fail
  go_loopg [1,2,3,8,9,10,11,12,13,14,15,16,17,18] (z-a) (fun k s1 s2 s3 s8 s9 _ _ _ _ _ _ _ _ _ wr=>∃(a z lim:Nat) (b c:Bool),s1=Xi a/\s2=Xi z/\s3=Xi lim/\s8=.bool b/\s9=.bool c/\a<=z/\z<=p.n/\lim<=100/\z-a<=N/\z-a<=k/\Hid (PX p wr))
  case atStart=>exact⟨a,z,lim,true,true,rfl,rfl,rfl,rfl,rfl,ai,hz,ad,o_,o_,H.a⟩
  case round=>
   clear hN ai hz ad a z lim;obtain⟨a,z,lim,b,c,rfl,rfl,rfl,rfl,rfl,ai,hz,ad,hN,a0,I⟩:=hrel;obtain⟨L,rfl⟩:∃L,z=a+L:=⟨z-a,o_⟩;have ez:(a:Int)+L-a=L:=o_
   by_cases h12:(L:Int)<=12
   ·go_wp2_with fail;refine e9 (MR I.O (a:=a) (z:=a+L) hz o_) fun w1 J=>?_;exact qSaae
   ·by_cases hl0:(lim:Int)=0
    ·obtain⟨m,rfl⟩:∃m,L=m+1:=⟨L-1,o_⟩;go_wp2_with fail;refine e9 (MQ I.O (a:=a) (m:=m) o_) fun w1 J=>?_;exact qSaae
    ·go_upto_if 35 with fail
     go_cut [3] from 19 to 133 (fun s3 wx=>∃lim:Nat,s3=Xi lim/\lim<=100/\Hid (PX p wx))
     case first=>
      cases b
      ·go_wp2_with fail;refine e9 (ML I.O (a:=a) (L:=L) o_ o_) fun w1 J=>?_;go_wp2_with fail
       go_meet
       exact⟨lim-1,by congr 1;omega,o_,J⟩
      ·go_wp2_with fail
       go_meet
       exact⟨lim,rfl,ad,I⟩
     case rest=>
      clear ad hl0 I;obtain⟨lim,rfl,ad,I⟩:=hcut;go_wp2_with fail;refine(MY I.O (a:=a) (L:=L) o_ o_).M ?_;rintro e w1 ⟨x,t,rfl,hx,J⟩;have J:=If J;clear I
      go_upto_if 50 with fail
      go_cut [11,12] from 19 to 133 (fun s11 s12 wx=>∃x t:Nat,s11=Xi x/\s12=Xi t/\a<=x/\x<a+L/\Hid (PX p wx))
      case first=>
       by_cases h2:(t:Int)=2
       ·go_wp2_with fail;refine e9 (MZ J.O (a:=a) (z:=a+L) hz o_) fun w2 J2=>?_;go_wp2_with fail
        go_meet
        exact⟨a+L-1-(x-a),1,by congr 1;omega,rfl,o_,o_,J2⟩
       ·go_wp2_with fail
        go_meet
        exact⟨x,t,rfl,rfl,hx.1,hx.2,J⟩
      case rest=>
       clear hx J x t;obtain⟨x,t,rfl,rfl,an,ap,I⟩:=hcut
       go_upto_region 15 with fail
       go_cut [68] from 19 to 133 (fun s68 wx=>∃q:Bool,s68=.bool q/\Hid (PX p wx))
       case first=>
        by_cases h1:(t:Int)=1
        all_goals
         cases b
         all_goals
          cases c
          all_goals
           go_wp2_with fail
           go_meet
           exact⟨_,rfl,I⟩
       case rest=>
       obtain⟨q,rfl,I⟩:=hcut
       go_upto_if 68 with fail
       go_cut [] from 19 to 133 (fun wx=>Hid (PX p wx))
       case first=>
        cases q
        ·go_wp2_with fail
         go_meet
         exact I
        ·go_wp2_with fail;refine(MV I.O (a:=a) (z:=a+L) hz o_).M ?_;rintro e w2 ⟨bb,rfl,J⟩
         cases bb
         ·go_wp2_with fail
          go_meet
          exact J
         ·exact qSaae
       case rest=>
        have I:=hcut;clear hcut
        go_upto_region 17 with fail
        go_cut [87] from 19 to 133 (fun s87 wx=>∃q:Bool,s87=.bool q/\Hid (PX p wx))
        case first=>
         by_cases ha:0<a
         ·obtain⟨k,rfl⟩:∃k,a=k+1:=⟨a-1,o_⟩;obtain⟨f,cw,fw,hs⟩:=PX.open I.O;clear hs;exact qSaah
         ·have au:decide (0<a)=false:=decide_eq_false ha;exact qSaah
        case rest=>
         clear I;obtain⟨q,rfl,I⟩:=hcut
         cases q
         case true=>
          go_wp2_with fail;refine(MP I.O (a:=a) (z:=a+L) (v:=x) hz ⟨an,ap⟩).M ?_;rintro e w2 ⟨y,rfl,hy,J⟩;go_wp2_with fail
          go_roundg (a+L-y)
          case rel=>exact⟨y,a+L,lim,b,c,rfl,s_,rfl,rfl,rfl,hy.2,hz,ad,o_,o_,J⟩
          case measure=>omega
         go_wp2_with fail;refine(MW I.O (a:=a) (z:=a+L) (v:=x) hz ⟨an,ap⟩).M ?_;rintro e w2 ⟨y,b2,rfl,hy,J⟩
         by_cases hlt:(y:Int)-a<a+L-y
         ·go_wp2_with fail;refine e9 (H.b _ a y lim J o_ hy.1 o_ ad) fun w3 J=>?_;go_wp2_with fail
          go_roundg (a+L-(y+1))
          case rel=>exact⟨y+1,a+L,lim,_,b2,s_,s_,rfl,rfl,rfl,o_,hz,ad,o_,o_,J⟩
          case measure=>omega
         ·go_wp2_with fail;refine e9 (H.b _ (y+1) (a+L) lim J o_ o_ o_ ad) fun w3 J=>?_;go_wp2_with fail
          go_roundg (y-a)
          case rel=>exact⟨a,y,lim,_,b2,rfl,rfl,rfl,rfl,rfl,hy.1,o_,ad,o_,o_,J⟩
          case measure=>omega
theorem M1 {p:SP}{w:World}(h:PX p w):Ct 232 #[pi p] w fun e w'=>e=.returned (.tuple #[])/\PX p w':=by
 have big:=p.big;have hk:Go.Sort.bitsLen p.n<=62:=(Go.Sort.bitsLen_le_iff p.n 62).2 o_;have ad:∀w,Ct 230 #[Xu (p.n:Int)] w fun e w'=>e=.returned (Xi (Go.Sort.bitsLen p.n:Nat))/\w'=w:=fun w=>by
  have h:=calls_of_every_depth fun D=>AnySM.bits_LenIn { Tryz.sortA with } D (p.n:Int) w o_ o_;rwa[cT,bitLen_eq _ o_] at h
 obtain⟨q,hq⟩:=Ii (Go.Sort.bitsLen p.n);rw[hq] at ad hk;have H:=kq2 h ad;unfold pi;clear h ad hq;go_enter Tryz.func232,Tryz.ntmps232;go_wp2_with fail;refine Jc (H.b _) ?_;go_wp2_with fail;refine e9 (MX (p.n+1) H.a (a:=0) (z:=p.n) (lim:=q) o_ o_ o_ o_) fun w2 J=>?_;go_wp2_with fail
 go_end0
 exact⟨rfl,J⟩
end
section
open Go.RowKit Tryz Go.BigFrame Go.Maps Go.WideMaps Lf Tr
open Go.Shelf
variable{D:Nat}{N:Nat}{fr:Nat×Nat}{g:Nat}{l:List Nat}{lb:Array Value}{q:List Nat}{v:Value}{w:World}
attribute [local go_sem] Oper.semAt_some
theorem M4(w:World)(A:Option Addr)(m c:Nat):Ct 205 #[.slice A m c] w fun e w'=>e=.returned (.func (.func 233) #[] #[PV w.1.size])/\w'=w.alloc (.cells #[.slice A m c] 59):=by
 go_enter func205,ntmps205
 go_wp2
 go_ret;exact⟨rfl,rfl⟩
theorem M3{B G c:Nat}(hN:l.length<=100000)(hl:∀x∈l,x<2^64)(hB:w.1[B]?=some (.cells #[.slice (some (y_ G)) l.length c] 59 fr))(hG:∀(j:Nat) (h:j<l.length),w.cell? (x_ G j)=some (Xu (l[j]:Nat)))(hGl:G<w.1.size):
 SeqStopsK Fence.wide 6 prog 233 #[PV B] mG (Below w.1.size) (fun xs=>iR xs=l) (fun _=>True) l.length w:=fun L J Jx W hW hJ hJx hY h0=>by
 have a3:=(gl hB);have a8:W.cell? (y_ B)=some (.slice (some (y_ G)) l.length c):=e_ ((hW.block B a3).T hB)
 obtain⟨n,hn⟩:=Ii l.length;rw[hn] at a8 hN hY;have HY:=If hY;have HJ:=kq2 hJ hJx;have H0:=kq6 h0 hG hGl hl hn hW;clear hY hJ hJx h0 hB hG hW hl hGl a3 hn;refine callsIn_of_wp func233 rfl trivial ?_ rfl;simp only[ntmps233,aT,ah,aK,Nat.reduceAdd,Nat.reduceSub,aN,aO,aX,aR,aU,aM];gi_wp2_with fail;gi_loopw [4,7] (fun _ i wr=>∃k:Nat,k<=n/\i=Xi k/\Hid (D_ w wr/\∃pX,iR pX=l.take k/\J pX wr)) (fun _ i _=>n-(intOf i).toNat)
 case atStart=>exact⟨0,o_,rfl,H0.f,[],rfl,H0.a⟩
 case round=>
  obtain⟨k,hk,rfl,an⟩:=hrel;by_cases hlt:k<n
  ·have bb:(k:Int)<n:=o_
   have ap:k<l.length:=by have:=H0.e;omega
   have hc:wr.cell? (x_ G k)=some (Xu (l[k]:Nat)):=(an.O.1.cell (p:=x_ G k) H0.c).T (H0.b k ap);have a0:=H0.d l[k] (aw ap);have a1:l.take (k+1)=l.take k++[l[k]]:=(List.take_append_getElem ap).S;obtain⟨x,hx⟩:=Ii l[k];rw[hx] at hc a0 a1;obtain⟨pX,ad,ai⟩:=an.O.2;obtain⟨xX,a2⟩:∃xX:Jf,xX.1=x:=⟨⟨x,a0⟩,rfl⟩;have a9:pX.length=k:=by
    have:=congrArg List.length ad;rw[aF] at this;simp[iR] at this
    omega
   obtain⟨fn,bc,a',ba,hy,au⟩:=HY.O pX xX wr ai o_;have a7:iR (pX++[xX])=l.take (k+1):=by rw[a1,<-ad,<-a2];simp[iR]
   have ar:=kq2 a7 hlt;unfold mG at hy;rw[a2] at hy;clear a7 ad a9 ai a2 a0 a1 ap hx;gi_wp2_with fail;refine au.M ?_;rintro e w4 (⟨rfl,a4,a6⟩ | ⟨rfl,a5⟩)
   ·have H4:=kq2 (an.O.1.T a6) a4;clear a4 a6 hy au hc;gi_wp2_with fail;go_roundw
    case rel=>exact⟨k+1,ar.b,by go_num,H4.a,_,ar.a,H4.b⟩
    case measure=>have:=ar.b;simp[intOf];omega
   ·have H4:=If a5;clear a5 hy au hc;gi_wp2_with fail;refine bodyPost_ret (results_none rfl _ _ _) rfl ?_;exact⟨⟨_,rfl⟩,.inr ⟨_,trivial,H4.O⟩⟩
  ·obtain rfl:k=n:=o_
   gi_wp2
   go_end0
   obtain⟨pX,ad,ai⟩:=an.O.2;exact⟨⟨_,rfl⟩,.inl ⟨_,by rw[ad,aJ (by rw[H0.e];exact Nat.le_refl _)],ai⟩⟩
theorem MK(hN:N<=100000)(eg:∀args w,(callFunc g args).run prog w=.ok (.enter g args) w)
 (hseq:SeqStopsK Fence.wide 6 prog g lb mG (Below w.1.size) (fun xs=>iR xs=q) (fun _=>True) N w):
 CallsIn Fence.wide 7 prog 256 #[n_,.func (.func g) #[] lb] w fun e w'=>∃v,e=.returned v/\w'.ownsRow w.1.size 61 1 v q.length (uV q)/\D_ w w':=by
 have h1:1<=7:=o_
 obtain⟨i0,hi,bo,bq,bs⟩:=info_parts uP;refine callsIn_of_wp_marks func256 rfl trivial ?_ rfl;simp only[ntmps256,aT,ah,aK,Nat.reduceAdd,Nat.reduceSub,aN,aO,aX,aR,aU,aM];gi_wp2_with fail;have k0:(w.alloc (.cells #[n_] 59)).1[w.1.size]?=some (.cells #[n_] 59 (0,0)):=heap_alloc_new w _;have a1:D_ w (w.alloc (.cells #[n_] 59)):=(aa _ w).alloc Ih _;have bd:(w.alloc (.cells #[n_] 59)).1.size=w.1.size+1:=s_
 generalize w.alloc (.cells #[n_] 59)=W0 at*;refine wpIn_rangeFunc_ownH rfl h1 (gf:=g) (lb:=lb) rfl trivial eg hseq (fun h k=>h.T k) (fun W l o o' h1 h2 h3 h4=>nN W l o o' o_ h2 h3 h4) a1 (fun _=>rfl)
  (fun ai W=>(∃v,W.1[w.1.size]?=some (.cells #[v] 59 (0,0))/\W.ownsRow w.1.size 61 1 v ai.length (uV (iR ai)))/\D_ w W)
  (fun _ _ _=>False)
  (OwnFrom.and (Own.from (fun s A B row hs hg hr=>by
   obtain⟨v,hv,E_⟩:=hs;refine⟨v,(hg.block _ (gl hv) (fun e=>?_)).T hv,wi E_ hg hr⟩;obtain⟨o,ho,hc⟩:=hr _ e.S;rw[hv] at ho;injection ho with ho
   subst ho;cases hc) _) (ownFrom_below Ih o_))
  (fun cd=>Own.from (fun s A B row hs hg hr=>hs) _)
  ⟨⟨_,k0,rfl,ab ⟨rfl,rfl⟩⟩,a1⟩
  (fun x a' _=>a'= { tmps:=#[n_,.func (.func g) #[] lb,PV w.1.size,undef,n_,Xu (x.1:Nat),.func (.func g) #[] lb,Xu (x.1:Nat),undef,undef,undef,undef,undef],defers:=[] })
  (fun x a' _ X W' row hs hg hr=>hs)
  ?assign ?body ?done ?stop
 case assign=>
  rintro l ai ⟨x,hx⟩ W K hI hK;have HK:=If hK;have HI:=If hI;clear hK hI;simp only[mG];gi_wp2
  exact HK.O _ _ (KeepsFrom.refl _ _) (aa _ _) HI.O rfl
 case body=>
  rintro l ai ⟨x,hx⟩ a' W hl _ ⟨⟨v,hv,E_⟩,hB⟩ rfl an;obtain⟨c1,f1⟩:=qS hv;have HI:=kq6 hv E_ hB an bd hl;obtain⟨m,hm⟩:=Ii ai.length;have bv:m<=100000:=o_
  rw[hm] at HI;clear hv E_ hB an hm;gi_wp2_with (gi_at_builtin;refine wpListIn_append_own_at _ rfl _ _ 59 rfl w.1.size 61 i0 (Xu 0) 1 8 underlying59 hi bo bq bs rfl d_ _ _ _ rfl (HI.b.alloc _) (y_ W.1.size) 1 1 [Xu x] rfl rfl (cell_one_new _ _ _) ?c2 ?c3 ?c4 ?c5 ?_)
  case c2=>simp[Value.oneCell']
  case c3=>unfold maxLen;omega
  case c4=>omega
  case c5=>have:=HI.c.size;simp;omega
  intro v' w1 hown hgrow _ hat;obtain⟨g',a0,bf,rfl,a4,ar,a9,ba,bb,bc⟩:=hown.2.resolve_left (by rintro⟨_,h⟩;exact absurd h s_);obtain⟨hv,E_,hB,an,bd,hl⟩:=HI.O;have ap:=hB.size;have a5:=(gl hv);have a8:v.ownBlock≠some w.1.size:=fun e'=>by
   rcases E_.2 with⟨rfl,_⟩ | ⟨g0,bt,bu,rfl,_,bj,_⟩
   ·cases e'
   ·have:g0=w.1.size:=by simpa[Value.ownBlock] using e'
    subst this;rw[bj] at hv;injection hv with hv
    injection hv with _ hv
    exact absurd hv d_
  have ad:w1.1[w.1.size]?=some (.cells #[v] 59 (0,0)):=by
   rw[hgrow.block _ m_ (fun e=>a8 e.S),heap_alloc_old W _ a5];exact hv
  have a6:g'≠w.1.size:=fun e=>by
   subst e;rw[ar] at ad;injection ad with ad
   injection ad with _ ad
   exact absurd ad d_
  have a2:Below w.1.size W w1:=((aa _ W).M ap |>.alloc ap (Xf x)).grown hgrow m_ (fun k e=>(E_.lt k e).1);have a7:KeepsFrom W0.1.size W w1:=((KeepsOthers.alloc W (Xf x)).from _).T (BL (E_.alloc _) hgrow);obtain⟨d1,e1⟩:=qS ad;have HW:=kq11 ad ar a6 a2 a7 hown a4 a9 ba bb bc;clear ad ar a6 a2 a7 hown a4 a9 ba bb bc hgrow hat a8 a5 ap hv E_ hB an hl;gi_wp2_with fail;have a3:=HW.d.setCell (p:=y_ w.1.size) (Nat.le_refl w.1.size) (.slice (some (y_ g')) (m+1) a0);refine⟨HW.e.T ((KeepsOthers.setCell _ _ _).from _),a3,⟨_,heap_setCell HW.a,?_⟩,HI.c.T a3⟩;have bk:(ai++[(⟨x,hx⟩:Jf)]).length=m+1:=by have:=HW.f.1;simp[uV,iR] at this⊢;omega
  have bm:uV (iR (ai++[(⟨x,hx⟩:Jf)]))=uV (iR ai)++[Xu x]:=by simp[uV,iR]
  rw[bk,bm];exact⟨HW.f.1,ae ⟨g',a0,bf,rfl,HW.g,(FB HW.c).T HW.b,HW.O.2.2.2.2.2.2.2⟩⟩
 case done=>
  rintro D ys W hD hS ⟨⟨v,hv,E_⟩,hB⟩ hK;obtain⟨c1,f1⟩:=qS hv;have au:ys.length=q.length:=by rw[<-hS];simp[iR]
  rw[hS,au] at E_;have HI:=kq5 E_ hB hv au hS;clear E_ hB hv au hS f1;gi_wp2
  refine⟨s_,.inl ⟨_,_,rfl,run_takeDeferred hK,?_⟩⟩;refine⟨v,by simp[results,f256,go_sem],v,rfl,?_,HI.b.T (nN W D _ _ o_ hK rfl rfl)⟩;exact wi HI.a (grownBy_putObj' W D _) (fun r e=>by cases e;exact⟨_,hK,rfl⟩)
 case stop=>
  rintro D cd ai W hD b0 hF;exact hF.elim
theorem MN(hN:N<=100000)(eg:∀args w,(callFunc g args).run prog w=.ok (.enter g args) w)
 (hseq:SeqStopsK Fence.wide 6 prog g lb mG (Below w.1.size) (fun xs=>iR xs=q) (fun _=>True) N w):
 Ct 231 #[.func (.func g) #[] lb] w fun e w'=>∃v,e=.returned v/\FE w' w.1.size v q/\D_ w w':=by
 have hc:=callsIn_wide.1 (MK hN eg hseq);have H:=If hc;clear hc hseq;go_enter func231,ntmps231;go_wp2_with fail;refine H.O.M ?_;rintro e w1 ⟨v,rfl,h1,h2⟩;have J:=kq2 h1 h2;clear h1 h2;go_wp2_with fail;go_ret;exact⟨v,rfl,J.a,J.b⟩
theorem M2{B G c:Nat}(hN:l.length<=100000)(hl:∀x∈l,x<2^64)(h0:l≠[])(hB:w.1[B]?=some (.cells #[.slice (some (y_ G)) l.length c] 59 fr))(hG:∀(j:Nat) (h:j<l.length),w.cell? (x_ G j)=some (Xu (l[j]:Nat)))(hGl:G<w.1.size):
 Ct 204 #[.func (.func 233) #[] #[PV B]] w fun e w'=>∃v l',e=.returned v/\l'.Perm l/\FE w' w.1.size v l'/\D_ w w':=by
 have hc:=MN hN (enters_of func233 k_ rfl) (M3 hN hl hB hG hGl);have H:=If hc;clear hc hB hG hGl hl;go_enter func204,ntmps204;go_wp2_with fail;refine H.O.M ?_;rintro e w1 ⟨v,rfl,ho,hb⟩;obtain⟨b,c,rfl,hc⟩:=ho.some (dl.2 h0);have hp:PX ⟨w.1.size,b,0,l.length,c,w1,l,rfl,hN⟩ w1:=⟨l,aa _ _,List.Perm.refl _,ho,rfl⟩;have hs:=M1 hp;unfold pi at hs;have J:=kq2 hs hb;clear hs hp hb ho hc;go_wp2_with fail;refine J.a.M ?_;rintro e w2 ⟨rfl,l2,P⟩;have K:=If P;clear P;go_wp2_with fail;go_ret;have hq:=K.O.len;have ho:=K.O.own;simp only at hq ho;rw[hq] at ho;have hz:l.length=l2.length:=hq.S;refine⟨_,l2,rfl,K.O.perm,?_,J.b.T K.O.a_⟩;rw[<-hz] at*;exact ho
theorem MM(h:FE w D v l)(hl:l.length<=100000)(h0:l≠[]):Ct 207 #[v] w fun e w'=>∃v',e=.returned v'/\FE w' w.1.size v' l/\D_ w w':=by
 obtain⟨b,c,rfl,hc⟩:=h.some (dl.2 h0);have hz:=(FE.ge h b rfl).2;have O:FE (w.alloc (.cells #[] 61)) w.1.size (.slice (some (y_ w.1.size)) 0 0) []:=⟨rfl,.inr ⟨w.1.size,0,#[],rfl,Nat.le_refl _,heap_alloc_new w _,s_,s_,s_,rfl⟩⟩;have ad:∀j u,(hV l)[j]?=some u->(w.alloc (.cells #[] 61)).cell? (((y_ b):Addr).add j)=some u:=fun j u hu=>by
  have:=World.ownsRow.cells h (g:=b) rfl j u hu;exact(((aa _ w).alloc Ih _).cell (p:=((y_ b):Addr).add j) (by rw[Addr.add_lit];exact hz)).T this
 obtain⟨v2,w2,ap,an,ai,ar⟩:=Kg O (xs:=l) (by simpa using hl) (y_ b) c ad s_ 59;have J:=kq2 an ai;have qs:∀(w:World) (a:Option Addr) (n c n' c':Nat),(binOp .eql 59 (.slice a n c) (.slice none n' c')).run prog w=.ok (.bool a.isNone) w:=fun w a n c n' c'=>Lib.run_eql_slice_nil w _ _ a n c n' c' underlying59;obtain⟨n,hn⟩:=Ii l.length;rw[hn] at ap hl⊢;clear h O ad an ai ar hc h0 hz hn;go_enter func207,ntmps207
 go_wp2_with (at_builtin;refine Lib.wpList_append_run _ rfl _ _ _ _ rfl _ _ rfl rfl _ _ ap ?_)
 go_ret;exact⟨v2,rfl,J.a,((aa _ w).alloc Ih _).grown J.b s_ (fun k e=>by cases e;exact Nat.le_refl _)⟩
theorem MO(h:FE w D v l)(hl:l.length<=100000)(hn:l.Nodup):Ct 206 #[v] w fun e w'=>e=.returned v/\∃q,w'=w.drewN q:=by
 by_cases h0:l=[]
 ·subst h0;obtain⟨A,c,rfl⟩:=h.F8;clear h;go_enter func206,ntmps206;go_wp2_with fail;go_ret;exact⟨rfl,0,rfl⟩
 obtain⟨b,c,rfl,hc⟩:=h.some (dl.2 h0);have ad:=fun(j:Nat) (hj:j<l.length)=>(mY h (af hj)).1;obtain⟨n,hq⟩:=Ii l.length;have H:=kq3 ad hn hq;rw[hq] at hl⊢;clear ad hn hq h h0 hc;go_enter func206,ntmps206
 by_cases h2:(n:Int)<2
 ·go_wp2_with fail;go_ret;exact⟨rfl,0,rfl⟩
 ·go_wp2_with fail
  go_loopg [3,4,5] n (fun t s3 _ _ wr=>∃k:Nat,s3=Xi ((k:Int)+1)/\k<n/\n-k<=t/\∃q,wr=w.drewN q)
  case atStart=>exact⟨0,s_,o_,o_,0,rfl⟩
  case round=>
   obtain⟨k,rfl,hk,ar,q,rfl⟩:=hrel
   by_cases hlt:(k:Int)+1<n
   ·have ai:k<l.length:=by have:=H.c;omega
    have an:k+1<l.length:=by have:=H.c;omega
    have c1:=H.a k ai;have c2:=H.a (k+1) an;have ap:¬l[k+1]=l[k]:=fun e=>absurd ((List.getElem_inj (h₀:=an) (h₁:=ai) H.b).1 e) o_;generalize l[k+1]=x at*;generalize l[k]=y at*;have hb:(x==y)=false:=by simp[ap]
    go_wp2_with fail
    go_quiet (fail)
    go_wp2_with fail
    go_roundg (n-(k+1))
    case rel=>exact⟨k+1,s_,o_,o_,_,rfl⟩
    case measure=>omega
   ·go_wp2_with fail;go_ret;exact⟨rfl,q,rfl⟩
theorem Mr(h:FE w D v l)(hl:l.length<=100000)(h0:l≠[])(hn:l.Nodup)(hx:∀x∈l,x<2^64):Cb 171 #[v] w (.bool false):=by
 obtain⟨b,c,rfl,hc⟩:=h.some (dl.2 h0);have hz:=(FE.ge h b rfl).2;have B1:=c_ w (.cells #[.slice (some (y_ b)) l.length c] 59);have hs:=M2 hl hx h0 (heap_alloc_new w (.cells #[.slice (some (y_ b)) l.length c] 59)) (fun j hj=>by
  obtain⟨b',c',e,_,q⟩:=h.cell_at hj
  injection e with e _ _
  injection e with e
  injection e with e
  subst e;exact(B1.cell (p:=x_ b j) hz).T q) m_
 have H:=kq4 hs B1 hn h0;clear hs B1 hn h0 h hx hc hz;obtain⟨n,hq⟩:=Ii l.length;rw[hq] at H hl;have HQ:=If hq;rw[hq];clear hq;go_enter func171,ntmps171;go_wp2_with fail;refine Jc (M4 _ _ _ _) ?_;go_wp2_with fail;refine H.a.M ?_;rintro e w2 ⟨v2,l2,rfl,hp,ho,hb⟩;obtain⟨A2,c2,rfl⟩:=ho.F8;have ap:=hp.nodup_iff.2 H.c;have ad:l2.length=n:=hp.length_eq.T HQ.O;have hc:=MM ho o_ (fun e=>H.d (by rw[e] at hp;exact hp.nil_eq.S));rw[ad] at hc;rw[ad];have J:=kq4 hc ap hb ad;clear hc ap ho hp hb ad;go_wp2_with fail;refine J.a.M ?_;rintro e w3 ⟨v3,rfl,ai,an⟩;obtain⟨A3,c3,rfl⟩:=ai.F8;have hc:=MO ai (by rw[J.d];exact hl) J.b;rw[J.d] at hc⊢;have K:=kq2 hc an;clear hc ai an;go_wp2_with fail;refine K.a.M ?_;rintro e w4 ⟨rfl,q,rfl⟩;go_wp2_with fail;go_ret;refine⟨s_,?_⟩;have b1:=H.b;have b2:=b_ b1 J.c;have b3:=b_ b2 K.b;exact⟨b3.os,b3.tape,b3.output,b3.size,b3.block⟩
end
section
open Go.RowKit Tryz Go.BigFrame Go.Maps Go.WideMaps Lf Tr
theorem ME {ps t d:Nat}{S:St}{o:Nat->Nat}{x:Bt (d+1)}(hx:Bt.Walk S o t x){w:World}{Y:Nat->Prop}(h:Ig w ps S Y)(hd:d<40):
 Cb 173 #[PV ps,Xi t,Xu (Bt.hd x)] w (Xi ((d+1:Nat):Int)):=by
 have a3:=kZ h hx.fit.inv hx.t1 hx.t2;have ap:=fun W (hW:D_ w W) (d':Nat) (y:Bt (d'+1)) (hy:Bt.Walk S o t y)=>kI (h.a_ hW) hy.fit.inv hy.read;unfold FH at ap;have HG:=kq3 a3 ap hx;clear a3 ap hx h;go_enter func173,ntmps173;go_wp2_with fail;refine Jc HG.a ?_;go_wp2_with fail
 go_loopw [2,6,7,8,9,24,32] (fun s2 _ s7 _ _ _ _ wr=>∃(j d':Nat) (y:Bt (d'+1)),s2=Xu (Bt.hd y)/\s7=Xi j/\j<=d/\Hid (j+d'=d/\Bt.Walk S o t y/\D_ w wr)) (fun _ _ s7 _ _ _ _ _=>40-(intOf s7).toNat)
 case atStart=>exact⟨0,d,x,rfl,rfl,o_,o_,HG.c,aa _ _⟩
 case round=>
  obtain⟨j,d',y,rfl,rfl,hj,J0⟩:=hrel;have a':((j:Int)==40)=false:=m_
  have hg:=HG.b wr J0.O.2.2 d' y J0.O.2.1;have HE:=If hg;obtain⟨hy,au⟩:=Ii (Bt.hd y);rw[au] at HE;rw[au];clear hg au;go_wp2_with fail;refine HE.O.M ?_;rintro e w2 ⟨vk,vv,vc,rfl,hr,hb⟩;obtain⟨kA,kc,rfl⟩:=hr.k.F8;obtain⟨vA,vC,rfl⟩:=hr.v.F8;obtain⟨cA,cc,rfl⟩:=hr.c.F8;unfold eC;have ad:=J0.O.2.1.ok.2.1;obtain⟨m,hm⟩:=Ii (Bn.ks y).length;have lc:(Bt.bn y).C_.length=m:=by rw[<-hm];exact ak _
  have a7:=J0.O.2.1.es.2.2;rw[hm] at ad;rw[lc];have A1:=b_ J0.O.2.2 hb;obtain⟨nk,a5⟩:=Ii (Bt.bn y).i_.length;obtain⟨nv,a6⟩:=Ii (Bt.bn y).F4.length;obtain⟨z,hz⟩:=Ii (Bt.bn y).size;rw[a5,a6,hz];have N1:=c_ w2 (.cells #[.slice kA nk kc,.slice vA nv vC,.slice cA m cc,Xu z] 215);have q1:=heap_alloc_new w2 (.cells #[.slice kA nk kc,.slice vA nv vC,.slice cA m cc,Xu z] 215);obtain⟨W2,a9⟩:=Ii (w2.alloc (.cells #[.slice kA nk kc,.slice vA nv vC,.slice cA m cc,Xu z] 215));rw[a9] at N1 q1;have B1:=b_ A1 N1;have an:=hr.c.at (w':=W2) fun g e=>N1.block g (hr.c.ge g e).2;clear a5 a6 hz N1 A1 hb hr
  rcases(show d'=0\/∃d2,d'=d2+1 by cases d' with | zero=>exact .inl rfl | succ d2=>exact .inr ⟨d2,rfl⟩) with rfl | ⟨d2,rfl⟩
  ·rw[if_pos rfl] at ad;have f1:((m:Int)==0)=true:=by rw[ad];rfl
   have f2:(m==0)=true:=by rw[ad];rfl
   have a1:j=d:=by have:=J0.O.1;omega
   have HB:=kq2 B1 a1;obtain⟨y0,y1,y2,y3⟩:=Fy q1;clear B1 lc ad a1 an q1 hm a7;go_wp2_with fail;go_ret
   exact⟨by rw[HB.b];rfl,HB.a⟩
  ·rw[if_neg o_] at ad;have a2:0<(Bn.ks y).length:=o_
   have f1:((m:Int)==0)=false:=m_
   have f2:(m==0)=false:=m_
   have f3:(0:Int)<m:=o_
   obtain⟨bc,c3,e3,_,a8⟩:=an.cell_at (j:=0) (by rw[lc];omega);obtain⟨rfl,rfl⟩:cA=some (y_ bc)/\cc=c3:=by cases e3;exact⟨rfl,rfl⟩
   obtain⟨kid,a0⟩:=Ii ((Bn.ks y)[0]'a2);have rc:W2.cell? (y_ bc)=some (Xu (Bt.hd kid)):=by rw[a8,<-a0];simp[Bt.bn]
   have a4:kid∈Bn.ks y:=a0▸aw a2;have HB:=kq2 B1 (J0.O.2.1.kid a4);obtain⟨y0,y1,y2,y3⟩:=Fy q1;have ba:j+(d2+1)=d:=J0.O.1;clear B1 lc ad an q1 hm a7 e3 a8 a0 a4 a2;obtain⟨bb,ar⟩:=Ii (Bt.hd kid);rw[ar] at rc;have HQ:=If ar;clear ar;go_wp2_with fail;go_roundw
   case rel=>exact⟨j+1,d2,kid,by rw[HQ.O],s_,o_,o_,HB.b,HB.a⟩
   case measure=>simp[intOf];omega
structure vt (w:World) (ps:Nat) (S:St) (Y:Nat->Prop) (D:Nat) (v:Value) (L:List Nat):Prop where
 st:Ig w ps S (fun k=>Y k\/v.ownBlock=some k)
 own:FE w D v L
 lo:fy<D/\D<=w.1.size
 off:∀g,v.ownBlock=some g->¬Y g
section
variable {w w':World}{ps D:Nat}{S:St}{Y Z:Nat->Prop}{v:Value}{L:List Nat}
theorem vt.wide(h:vt w ps S Y D v L)(hb:D_ w w'):vt w' ps S (fun k=>Y k\/(w.1.size<=k/\k<w'.1.size)) D v L:=by
 refine⟨(h.st.wide hb).M fun k hk=>?_,h.own.at fun g e=>hb.block g (h.own.ge g e).2,⟨h.lo.1,aI h.lo.2 hb.size⟩,fun g e hk=>?_⟩
 ·rcases hk with (hk | hk) | hk
  ·exact ab (ab hk)
  ·exact ae hk
  ·exact ab (ae hk)
 ·rcases hk with hk | hk
  ·exact h.off g e hk
  ·have:=(h.own.ge g e).2;omega
theorem vt.M(h:vt w ps S Y D v L)(hz:∀k,Z k->Y k):vt w ps S Z D v L:=⟨h.st.M fun k hk=>hk.imp (hz k) id,h.own,h.lo,fun g e hk=>h.off g e (hz g hk)⟩
theorem vt.a_(h:vt w ps S Y D v L)(hb:D_ w w'):vt w' ps S Y D v L:=(h.wide hb).M fun _ hk=>ab hk
theorem vt.append(h:vt w ps S Y D v L)(hl:L.length<=100000)(x:Nat)(ty:TypeId):
 ∃v' w',(Builtin.append_ #[59,59] ty #[v,.slice (some (y_ w.1.size)) 1 1]).run prog (w.alloc (Xf x))=.ok v' w'/\vt w' ps S Y D v' (L++[x])/\Fo Y w w'/\Below D w w':=by
 obtain⟨v2,w2,ar,ai,ad,an⟩:=jF h.own hl x h.lo.2 ty;have ap:∀k,Y k->k<w.1.size:=fun k hk=>h.st.yl k (ab hk);refine⟨v2,w2,ar,⟨h.st.row h.lo.1 h.own ai ad an,ai,⟨h.lo.1,aI h.lo.2 ad.size⟩,fun g e hk=>?_⟩,⟨ad.os,ad.tape,ad.output,ad.size,fun k hk=>ad.block k (ap k hk) fun e=>h.off k e.S hk⟩,ad.os,ad.tape,ad.output,ad.size,fun k hk=>ad.block k (aH hk h.lo.2) fun e=>by have:=(h.own.ge k e.S).1;omega⟩
 rcases an with q | ⟨g',q,hg⟩
 ·rw[q] at e;exact h.off g e hk
 ·rw[q] at e;obtain rfl:g'=g:=Option.some.inj e;have:=ap _ hk;omega
end
theorem MB {ps t:Nat}{S:St}{o:Nat->Nat}:∀(d:Nat) (x:Bt d),Bt.Walk S o t x->∀{w:World} {Y:Nat->Prop} {D most dp:Nat} {v:Value} {L:List Nat},vt w ps S Y D v L->dp+d<=40->L.length+(Bt.j_ x).length<=most->most<=100000->
 Ct 80 #[FH ps t,v,Xu (Bt.hd x:Nat),Xi most,Xi dp] w fun e w'=>∃v',e=.returned v'/\vt w' ps S Y D v' (L++Bt.j_ x)/\Fo Y w w'/\Below D w w':=by
 intro d;induction d with
 | zero=>exact fun x=>nomatch x
 | succ d ih=>
  intro x hx w Y D most dp v L h hd hl hm;have hn:(Bt.j_ x).length=1+((Bn.ks x).map fun k=>Bt.j_ k).flatten.length:=by
   show (Bn.h x::((Bn.ks x).map fun k=>Bt.j_ k).flatten).length=_
   rw[ah,Nat.add_comm]
  have B0:=c_ w (Xc ps t);have q0:=heap_alloc_new w (Xc ps t);have z0:(w.alloc (Xc ps t)).1.size=w.1.size+1:=s_
  have hg:=kI ((h.a_ B0).st) hx.fit.inv hx.read;obtain⟨A,c,rfl⟩:=h.own.F8;have a5:((most:Int)<=(L.length:Int))=False:=eq_false o_;have a3:((dp:Int)==40)=false:=m_
  have HG:=kq7 hg h B0 q0 ih hx hl;unfold FH;obtain⟨c0,c1⟩:=Fp q0;clear hg h B0 q0 ih hl hx;go_enter func80,ntmps80;go_wp2_with fail;refine HG.a.M ?_;rintro e w1 ⟨vk,vv,vc,rfl,hr,hb⟩;obtain⟨kA,km,kc,rfl⟩:=hr.k.slice;obtain⟨vA,vm,vC,rfl⟩:=hr.v.slice;obtain⟨cA,cc,rfl⟩:=hr.c.F8;unfold eC;obtain⟨n,au⟩:=Ii (Bt.bn x).size;obtain⟨m,ai⟩:=Ii (Bt.bn x).C_.length;have an:m=(Bn.ks x).length:=by rw[<-ai];exact ak _
  have a6:m<=100:=by
   have h1:=HG.f.ok.1;have h2:=HG.f.ok.2.1;have:=HG.f.t2;rw[an];split at h2<;>omega
  rw[au,ai];have A1:=c_ w1 (.cells #[.slice kA km kc,.slice vA vm vC,.slice cA m cc,Xu n] 215);have q1:=heap_alloc_new w1 (.cells #[.slice kA km kc,.slice vA vm vC,.slice cA m cc,Xu n] 215);have C1:=b_ HG.c hb;have C2:=b_ C1 A1;have o2:=HG.b.wide C2;have z2:(w1.alloc (.cells #[.slice kA km kc,.slice vA vm vC,.slice cA m cc,Xu n] 215)).1.size=w1.1.size+1:=s_
  have s1:=C1.size;obtain⟨v3,w3,ap,o3,k3,e3⟩:=o2.append (by have:=HG.g;omega) (Bt.hd x) 59;have bl:∀k,w.1.size<=k->k<w1.1.size+1->w3.1[k]?=(w1.alloc (.cells #[.slice kA km kc,.slice vA vm vC,.slice cA m cc,Xu n] 215)).1[k]?:=fun k h1 h2=>k3.block k (ae ⟨h1,by rw[z2];exact h2⟩);have q3:=(bl w1.1.size s1 o_).T q1;have t3:=(bl w.1.size Ih o_).T ((A1.block _ (by have:=hb.size;omega)).T ((hb.block _ o_).T HG.d));obtain⟨b0,b1,b2,b3⟩:=Fy q3;rw[z2] at o3 k3 ap;have E_:∀W,Fo (fun k=>Y k\/(w.1.size<=k/\k<w1.1.size+1)) w3 W->FD W (.slice cA m cc) ((Bn.ks x).map Bt.hd):=fun W hW=>by
   have hw:=hr.c;rw[ai] at hw;refine hw.E_.keeps fun g e _=>?_;have ar:=hw.ge g e;rw[z0] at ar;exact(hW.block g (ae ⟨o_,o_⟩)).T ((bl g o_ o_).T (A1.block g ar.2))
  have o3:vt w3 ps S (fun k=>Y k\/(w.1.size<=k/\k<w1.1.size+1)) D v3 (L++Bt.hd x::(((Bn.ks x).take 0).map fun k=>Bt.j_ k).flatten):=o3;have H3:=kq4 o3 E_ t3 (k3.M (Z:=Y) fun k hk=>ab hk);have a1:=If (Fo.A_ C2 fun k hk=>HG.b.st.yl k (ab hk):Fo Y w _);have HE:=If ((C2.M HG.b.lo.2).T e3);have HB:=kq4 s1 hn an hm;clear e3 hn au ai an hm o3 E_ t3 k3 q3 bl q1 C1 C2 o2 A1 hr hb s1 z0 z2;go_wp2_with (at_builtin;refine Lib.wpList_append_run _ rfl _ _ _ _ rfl _ _ rfl rfl _ _ ap ?_)
  clear b0 b1 b2 b3 c0 c1 ap;go_loopw [1,14,41] (fun s1 _ s41 wr=>∃j:Nat,s41=Xi j/\j<=m/\Hid (vt wr ps S (fun k=>Y k\/(w.1.size<=k/\k<w1.1.size+1)) D s1 (L++Bt.hd x::(((Bn.ks x).take j).map fun k=>Bt.j_ k).flatten)/\Fo (fun k=>Y k\/(w.1.size<=k/\k<w1.1.size+1)) w3 wr/\Below D w3 wr)) (fun _ _ s41 _=>m-(intOf s41).toNat)
  case atStart=>exact⟨0,rfl,o_,H3.a,Fo.refl _ _,aa _ _⟩
  case round=>
   obtain⟨j,rfl,a4,J0⟩:=hrel;by_cases hj:j<m
   ·have a2:(j:Int)<m:=o_
    have ad:j<(Bn.ks x).length:=by have:=HB.c;omega
    obtain⟨g,o5,rfl,r0⟩:=(H3.b _ J0.O.2.1).at (af ad);have t5:=(J0.O.2.1.block w.1.size (ae ⟨Nat.le_refl _,by have:=HB.a;omega⟩)).T H3.c;obtain⟨c0,c1⟩:=Fp t5;have a0:(L++Bt.hd x::(((Bn.ks x).take j).map fun k=>Bt.j_ k).flatten).length+(Bt.j_ (Bn.ks x)[j]).length<=most:=by
     have h1:=HG.g;rw[HB.b] at h1;have h2:(((Bn.ks x).take (j+1)).map fun k=>Bt.j_ k).flatten.length<=((Bn.ks x).map fun k=>Bt.j_ k).flatten.length:=by
      conv=>rhs;rw[<-aV (j+1) (Bn.ks x),aQ,bY,ag]
      omega
     rw[aA ad,aQ,bY,ag] at h2;simp only[bg,List.map_nil,dz,List.flatten_nil,bI] at h2;simp only[ag,ah];omega
    have hi:=HG.e (Bn.ks x)[j] (HG.f.kid (aw ad)) (dp:=dp+1) (most:=most) J0.O.1 o_ a0 HB.d;have HI:=If hi;clear hi a0 t5;unfold FH at HI;go_wp2_with fail;refine HI.O.M ?_;rintro e w5 ⟨v5,rfl,o5,k5,e5⟩;have H5:=kq3 o5 (J0.O.2.1.T k5) (J0.O.2.2.T e5);clear o5 k5 e5 c0 c1 r0;go_wp2_with fail;go_roundw
    case rel=>
     refine⟨j+1,s_,o_,?_,H5.O.2⟩;have:=H5.a;rw[bp] at this;rw[aA ad,aQ,bY,bg,List.map_nil,dz,List.flatten_nil,bI];exact this
    case measure=>simp[intOf];omega
   ·obtain rfl:j=m:=o_
    have a2:¬(j:Int)<j:=o_
    have h1:=J0.O.1;rw[aJ (Nat.le_of_eq HB.c.S)] at h1;have H5:=kq2 (h1.M (Z:=Y) fun k hk=>ab hk) (H3.d.T (J0.O.2.1.M fun k hk=>ab hk));clear h1;go_wp2_with fail;go_ret;exact⟨_,rfl,H5.a,(a1.O).T H5.b,HE.O.T J0.O.2.2⟩
theorem FE.base {w:World}{B B':Nat}{v:Value}{l:List Nat}(h:FE w B v l)(hB:B'<=B):FE w B' v l:=
 ⟨h.1,h.2.imp id fun⟨g,cap,cur,a,b,c⟩=>⟨g,cap,cur,a,aI hB b,c⟩⟩
def Bt.NodesOf(S:St)(o:Nat->Nat)(t f9:Nat)(L:List (List UInt8×List UInt8))(R N:List Nat):Prop:=
 (Empty S o t/\f9=0/\L=[]/\R=[]/\N=[])\/∃(d:Nat) (x:Bt (d+1)),Tree S o t x/\f9=hd x/\L=F5 (its x)/\R=recs x/\N=Bt.j_ x
theorem Bt.Tree.many {S:St}{o:Nat->Nat}{t d:Nat}{x:Bt (d+1)}(h:Tree S o t x):(Bt.j_ x).length<=S.words / (6*t):=by
 have t1:=h.t1;have:=LL h.fit (n:=6*t) o_ h.j_ fun y hy=>by
  obtain⟨n,hn⟩:=h.at'.rec y hy;exact⟨_,hn,by rw[jJ];omega⟩
 unfold St.words;rw[Nat.le_div_iff_mul_le o_,Nat.mul_comm _ 64];exact this
theorem MC {w:World}{ps:Nat}{S:St}{o:Nat->Nat}{Y:Nat->Prop}(h:Ig w ps S Y)(hf:Fw S o){t:Nat}(t1:2<=t)(t2:t<=16)(z:Nat):
 Cb 80 #[FH ps t,n_,Xu 0,Xi z,Xi 0] w n_:=by
 have B0:=c_ w (Xc ps t);have q0:=heap_alloc_new w (Xc ps t);have hg:=nQ (h.a_ B0) hf.inv t1 t2 0 o_ (oy (rZ hf));unfold FH eC at hg;obtain⟨c0,c1⟩:=Fp q0;have HG:=kq2 hg B0;clear hg B0 h hf q0;unfold FH;go_enter func80,ntmps80;go_wp2_with fail;refine e9 HG.a fun w1 hb1=>?_;have B1:=b_ HG.b hb1;have H1:=If (B1.alloc B1.size (.cells #[n_,n_,n_,Xu 0] 215));clear hb1 B1 c0 c1;go_wp2_with fail;go_ret;exact⟨rfl,H1.O⟩
theorem K4 {w:World}{ps t f9:Nat}{S:St}{o:Nat->Nat}{Y:Nat->Prop}{L:List (List UInt8×List UInt8)}{R:List Nat}(h:Ig w ps S Y)(hH:Bt.Holds S o t f9 L R):
 Ct 40 #[PV ps,Xi t,Xu f9] w fun e w'=>∃v N,e=.returned v/\FE w' w.1.size v N/\D_ w w'/\N.length<=50000/\Bt.NodesOf S o t f9 L R N:=by
 obtain⟨t1,t2⟩:=hH.deg;have hf:=hH.fit;have ar:=kZ h hf.inv t1 t2;have B0:=c_ w (Xc ps t);have q0:=heap_alloc_new w (Xc ps t);have ai:=Kj (h.a_ B0.drew) t1 t2;have a2:=nB h;have au:=xA h;have an:∀W,D_ w W->Ct 80 #[FH ps t,n_,Xu f9,Xi (S.words / (6*t)+1:Nat),Xi 0] W fun e w'=>∃v N,e=.returned v/\FE w' W.1.size v N/\D_ W w'/\N.length<=50000/\Bt.NodesOf S o t f9 L R N:=fun W hW=>by
  have a3:S.words / (6*t)<=22000:=by
   rw[<-Nat.lt_succ_iff,Nat.div_lt_iff_lt_mul o_];omega
  have hO:vt W ps S Y W.1.size n_ []:=⟨(h.a_ hW).M (fun k hk=>hk.elim id (fun e=>nomatch e)),World.ownsRow_nil _ _ _ _,⟨aH au hW.size,Nat.le_refl _⟩,(fun g e=>nomatch e)⟩
  rcases hH with⟨hE,rfl,rfl,rfl⟩ | ⟨d,x,hx,rfl,rfl,rfl⟩
  ·refine(MC (h.a_ hW) hE.fit t1 t2 _).M ?_;rintro e w' ⟨rfl,hb⟩;exact⟨_,[],rfl,World.ownsRow_nil _ _ _ _,hb,cC _,ab ⟨hE,rfl,rfl,rfl,rfl⟩⟩
  ·refine(MB (d+1) x hx.walk (dp:=0) hO (by have:=hx.low;omega) (by have:=hx.many;simp;omega) o_).M ?_;rintro e w' ⟨v',rfl,h1,h2,h3⟩;exact⟨v',_,rfl,h1.own,h3,by have:=hx.many;simp;omega,ae ⟨d,x,hx,rfl,rfl,rfl,rfl⟩⟩
 unfold FH at ai an;generalize S.words / (6*t)+1=z at*;have HG:=kq5 ar ai an B0 q0;obtain⟨I,ap,ad⟩:=ic fun w'=>w'.1[w.1.size]?=some (Xc ps t);have a0:=fun x:Fq I=>ap _ x.ok;obtain⟨m0,m1⟩:=ft a0;have a1:I (w.alloc (Xc ps t)).drew:=ad _ q0;have HI:=If ad;clear ar ai an B0 q0 h hH hf ap ad a0 a2 au;go_enter func40,ntmps40;go_wp2_with fail;refine Jc HG.a ?_;go_wp2_with fail;refine fh I (.take 0 (.take 1 (.take 2 (.go 3 (.go 4 (.go 5 .nil)))))) k_ k_ a1 ?_
 iterate 3
  refine pT_ ?_
  try simp only[pu]
 refine pD fun K hK=>?_;go_simp;refine e9 HG.b fun w1 hb1=>?_;have B1:=b_ HG.d.drew hb1;have q1:=(hb1.block w.1.size (gl HG.e)).T HG.e;have H1:=kq2 B1 q1;clear hb1 B1 q1
 try go_simp
 refine hK.O _ _ (HI.O _ H1.b) ?_;clear hK K
 try simp only[pu]
 refine pD fun K hK=>?_;go_simp;refine(HG.c _ H1.a).M ?_;rintro e w2 ⟨v,N,rfl,h2,h3,h4⟩;have H2:=kq4 (FE.base h2 H1.a.size) (b_ H1.a h3) h4 ((h3.block w.1.size (gl H1.b)).T H1.b);clear h2 h3 h4
 try go_simp
 refine hK.O _ _ (HI.O _ H2.d) ?_;clear hK K
 try simp only[pu]
 refine pD fun K hK=>?_;go_simp
 try go_simp
 refine hK.O _ _ (HI.O _ H2.d) ?_;clear hK K
 try simp only[pu]
 refine eP ?_;go_wp2_with fail;go_ret;exact⟨_,N,rfl,H2.a,H2.b,H2.c⟩
structure L1 (W0 w2:World) (b:Nat) (N:List Nat) (L:List It) (v:Value) (j:Nat) (W:World):Prop where
 bel:D_ W0 W
 own:FE W W0.1.size v (N++ff (L.take j))
 it:W.1[b]?=w2.1[b]?
 ne:v.ownBlock≠some b
 lt:b<W.1.size
theorem L1.a_ {W0 w2 W W':World}{b j:Nat}{N:List Nat}{L:List It}{v:Value}(h:L1 W0 w2 b N L v j W)(hb:D_ W W'):L1 W0 w2 b N L v j W':=
 ⟨b_ h.bel hb,oJ h.own hb,(hb.block _ h.lt).T h.it,h.ne,aH h.lt hb.size⟩
theorem My {L:List It}{j:Nat}(hj:j<L.length):ff (L.take (j+1))=ff (L.take j)++[L[j].kh,L[j].vh]:=by
 rw[aA hj,nO];rfl
theorem Md(L:List It):(ff L).length=2*L.length:=by
 induction L with
 | nil=>rfl
 | cons d L ih=>
  have:ff (d::L)=[d.kh,d.vh]++ff L:=rfl;rw[this,ag,ih]
  simp
  omega
theorem Bt.NodesOf.of {S:St}{o:Nat->Nat}{t d:Nat}{x:Bt (d+1)}{N:List Nat}{r:Nat}(h:Bt.NodesOf S o t r (F5 (Bt.its x)) (Bt.recs x) N):N=Bt.j_ x:=by
 rcases h with⟨_,_,_,h,_⟩ | ⟨d',x',ad,_,h2,h3,rfl⟩
 ·have:(Bt.recs x).length=0:=by rw[h];rfl
  unfold Bt.recs at this;rw[ag] at this;have:=List.length_pos_of_mem (Bt.hd_mem x);omega
 ·have hl:(Bt.its x').length=(Bt.its x).length:=by
   have:=congrArg List.length h2
   simpa[F5] using this.S
  unfold Bt.recs at h3;exact((List.append_inj' h3 (by rw[Md,Md,hl])).1).S
theorem MD {ps t d:Nat}{S:St}{o:Nat->Nat}{x:Bt (d+1)}(hT:Bt.Tree S o t x){w:World}{Y:Nat->Prop}(h:Ig w ps S Y)(hl:(Bt.its x).length<=1000):
 Cb 133 #[PV ps,Xi t,Xu (Bt.hd x)] w (Xi 0):=by
 have hx:=hT.walk;have hf:=hT.fit;have hd:d<40:=Nat.lt_trans hT.low d_;have b9:=kZ h hf.inv hx.t1 hx.t2;have B0:=c_ w (Xc ps t);have q0:=heap_alloc_new w (Xc ps t);obtain⟨W0,bc⟩:=Ii (w.alloc (Xc ps t));have a0:w.1.size<W0.1.size:=by rw[<-bc];simp
 rw[bc] at B0 q0;have cn:=K4 (h.a_ B0) (ae ⟨d,x,hT,rfl,rfl,rfl⟩);have b8:=fun(W:World) (hW:D_ w W)=>ME hx (h.a_ hW) hd;have bk:=fun(W:World) (hW:D_ w W)=>Mz (d+1) x hx (h.a_ hW) (top:=true) hT.pos o_ o_;rw[show ((d+1:Nat):Int)-1=(d:Int) by omega] at bk;have cc:=fun(W:World) (hW:D_ w W)=>Mn hx (h.a_ hW) hd (Nat.le_succ_of_le hT.many) o_;have cv:=fun(W:World) (hW:D_ w W)=>Mm (h.a_ hW) x hx;have b2:=fun(W:World) (hW:D_ w W) (a:It) (ha:a∈Bt.its x)=>And.intro (Ki (h.a_ hW) hf (hT.G7 a ha).lk (hT.G7 a ha).k) (Ki (h.a_ hW) hf (hT.G7 a ha).lv (hT.G7 a ha).v);have ca:=fun(W:World) (hW:D_ w W) (a:It) (ha:a∈Bt.its x)=>zK (h.a_ hW) hf.inv t a.kh (Bt.blobs_lt hf (hT.G7 a ha)).1 (jt hf (hT.G7 a ha).lk (hT.G7 a ha).k);have cq:¬Bt.hd x=0:=fun e=>by
  obtain⟨n,q⟩:=hT.at'.rec _ (Bt.hd_mem x);rw[e,rZ hf] at q
  cases q
 have bm:∀y∈Bt.recs x,y<2^64:=fun y hy=>by
  cases e:l_ S y with
  | none=>exact absurd e (hT.has y hy)
  | some r=>exact(fL hf e).2.1
 have ck:(Bt.recs x).Nodup:=aC.2 ⟨hT.j_,hT.texts,fun a ha b hb e=>hT.apart a ha (e▸hb)⟩;have HR:=kq4 bm ck hT B0;have HC:=kq6 b8 bk cc cv b2 ca;have HN:=kq3 cn b9 q0;obtain⟨r,hr⟩:=Ii (Bt.hd x);rw[hr] at HC HN cq⊢;obtain⟨n,hn⟩:=Ii (Bt.its x).length;rw[hn] at hl;have HE:=If hn;unfold FH at HC;clear cn b8 bk cc cv b2 ca bm ck b9 q0 B0 hx hf h hr hn;have dk:IntKind.i64.wrap (d:Int)=(d:Int):=aq _ o_;have d0:(r==0)=false:=by simp[cq]
 go_enter func133,ntmps133;go_wp2_with fail;refine Jc HN.b ?_;go_wp2_with fail;refine HN.a.M ?_;rintro e w1 ⟨v1,N,rfl,ho,ar,c4,bu⟩;obtain rfl:=Bt.NodesOf.of bu;have ai:Bt.j_ x≠[]:=List.ne_nil_of_mem (Bt.hd_mem x);obtain⟨b1,c1,rfl,_⟩:=ho.some (dl.2 ai);have au:=fun(W:World) (hW:D_ w1 W)=>Mr (oJ ho hW) o_ ai hT.j_ fun y hy=>HR.a y (aD _ hy);obtain⟨nn,bo⟩:=Ii (Bt.j_ x).length;rw[bo] at au⊢;have dv:nn<=50000:=o_
 have cx:∀W,D_ w1 W->D_ w W:=fun W hW=>HR.d.T ((b_ ar hW).M (cW a0));have H1:=kq6 au ho ar cx ai bo;obtain⟨I,ap,ad⟩:=ic fun w'=>∀k,k<w1.1.size->w'.1[k]?=w1.1[k]?;have a2:=fun x:Fq I=>(ap _ x.ok w.1.size (aH a0 ar.size)).T ((ar.block _ a0).T HN.c);obtain⟨m0,m1⟩:=ft a2;have a5:I w1.drew:=ad _ fun _ _=>rfl;have HI:=If ad;clear au ho ar c4 ai bo ap ad a2 bu bc cx;go_wp2_with fail;refine fh I (.take 0 (.go 1 (.take 2 (.take 3 (.take 4 (.take 5 (.take 6 (.take 7 (.go 8 (.take 9 (.go 10 (.take 11 (.take 12 .nil))))))))))))) k_ k_ a5 ?_;refine pT_ ?_
 try simp only[pu]
 refine pD fun K hK=>?_;go_simp;refine e9 (H1.a _ (aa _ w1).drew) fun w3 hb3=>?_;have B3:D_ w1 w3:=(aa _ w1).drew.T hb3;have a3:=If B3;clear hb3 B3
 try go_simp
 refine hK.O _ _ (HI.O _ a3.O.block) ?_;clear hK K
 try simp only[pu]
 iterate 6
  refine pT_ ?_
  try simp only[pu]
 refine pD fun K hK=>?_;go_simp;refine e9 (HC.a _ (H1.d _ a3.O)) fun w4 hb4=>?_;have a4:=If (b_ a3.O hb4);clear hb4
 try go_simp
 refine hK.O _ _ (HI.O _ a4.O.block) ?_;clear hK K
 try simp only[pu]
 refine pT_ ?_
 try simp only[pu]
 refine pD fun K hK=>?_;go_simp;refine e9 (HC.b _ (H1.d _ a4.O)) fun w5 hb5=>?_;have a1:=If (b_ a4.O hb5);clear hb5
 try go_simp
 refine hK.O _ _ (HI.O _ a1.O.block) ?_;clear hK K
 try simp only[pu]
 iterate 2
  refine pT_ ?_
  try simp only[pu]
 refine eP ?_;clear a5;go_wp2_with fail;refine(HC.c _ (H1.d _ a1.O)).M ?_;rintro e w6 ⟨v6,rfl,a7,bj⟩;have bq:0<(Bt.its x).length:=by
  have h1:=Bt.pow_le t HR.c.t1 HR.c.ok HR.c.pos;have h2:=Nat.two_pow_pos d;rw[Nat.pow_succ] at h1;omega
 obtain⟨b,c,rfl,-,-,-⟩:=a7.cell_at bq;have b4:∀(j:Nat) (hj:j<(Bt.its x).length),w6.cell? ⟨b,j*2,none⟩=some (Xu (Bt.its x)[j].kh)/\w6.cell? ⟨b,j*2+1,none⟩=some (Xu (Bt.its x)[j].vh):=fun j hj=>by
  obtain⟨b',c',e,_,h1,h2⟩:=a7.cell_at hj
  injection e with e _ _
  injection e with e
  injection e with e
  subst e;exact⟨h1,h2⟩
 have b0:w5.1.size<=b/\b<w6.1.size:=World.ownsRow.lt a7 b rfl;have bs:=a1.O.size;have K0:L1 W0 w6 b (Bt.j_ x) (Bt.its x) (.slice (some (y_ b1)) nn c1) 0 w6:=by
  have o:=oJ H1.b (a1.O.T (bj.M bs));have hg:=(FE.ge H1.b b1 rfl).2;rw[H1.f] at o;refine⟨H1.c.T ((a1.O.T (bj.M bs)).M H1.c.size),?_,rfl,fun e=>?_,b0.2⟩
  ·rw[cz]
   show FE w6 W0.1.size _ (Bt.j_ x++[])
   rw[bI];exact o
  ·have e:b1=b:=by simpa[Value.ownBlock] using e
   omega
 have HK:=kq3 K0 b4 bq;clear K0 b4 bq a7 bj bs b0;rw[HE.O];go_wp2_with fail
 go_loopg [9,11,12,13,14,15,16,51] n (fun k s9 _ _ _ _ _ _ s51 wr=>∃j:Nat,s51=Xi j/\j<=n/\n-j<=k/\Hid (L1 W0 w6 b (Bt.j_ x) (Bt.its x) s9 j wr))
 case atStart=>exact⟨0,rfl,o_,o_,HK.a⟩
 case round=>
  obtain⟨j,rfl,hj,dn,I1⟩:=hrel
  by_cases bm:j<n
  ·have c5:(j:Int)<n:=o_
   have a8:j<(Bt.its x).length:=by have:=HE.O;omega
   have hc:=HK.b j a8;have ha:=aw a8;have o1:=(Ha (o:=j*2) I1.O.it).T hc.1;have o2:=(Ha (o:=j*2+1) I1.O.it).T hc.2;have an:D_ w wr:=HR.d.T (I1.O.bel.M o_);obtain⟨a,bf⟩:=Ii ((Bt.its x)[j]);rw[bf] at o1 o2 ha;have HA:=kq2 bf ha;have A1:=c_ wr (Xe a.kh a.vh);have p1:=heap_alloc_new wr (Xe a.kh a.vh);obtain⟨W1,bv⟩:=Ii (wr.alloc (Xe a.kh a.vh));rw[bv] at A1 p1;have I2:=kq3 (I1.O.a_ A1) (b_ an A1) p1;clear hc ha bf A1 an;obtain⟨f0,f1⟩:=Fp p1;clear p1;go_wp2_with fail;refine e9 (HC.e W1 I2.b a HA.b).1 fun w7 hb7=>?_;have p7:=(hb7.block _ (gl I2.c)).T I2.c;have I7:=kq3 (I2.a.a_ hb7) (b_ I2.b hb7) p7;clear hb7 f0 f1 bv o1 o2;obtain⟨f0,f1⟩:=Fp p7;clear p7;go_wp2_with fail;refine e9 (HC.e w7 I7.b a HA.b).2 fun w8 hb8=>?_;have p8:=(hb8.block _ (gl I7.c)).T I7.c;have I8:=kq3 (I7.a.a_ hb8) (b_ I7.b hb8) p8;clear hb8 f0 f1 p8
   go_upto_region 16 with fail
   go_cut [92] from 52 to 100 (fun s92 wx=>s92=.bool false/\Hid (D_ w8 wx))
   case first=>
    cases j with
    | zero=>
     go_quiet (fail)
     go_wp2_with fail
     go_meet
     exact⟨rfl,rfl,rfl,rfl,Nat.le_refl _,fun _ _=>rfl⟩
    | succ k=>
     have a9:k<(Bt.its x).length:=o_
     have ba:=bW.1 HR.c.G6 k (k+1) a9 a8 (aP k);rw[HA.a] at ba;obtain⟨a',bd⟩:=Ii ((Bt.its x)[k]);have cj:a'∈Bt.its x:=bd▸aw a9;have hc:=(Ha (o:=k*2) I8.a.it).T (HK.b k a9).1;rw[bd] at ba hc;have dc:Fu a'.k a.k<0:=ba;have ds:IntKind.i64.wrap (k:Int)=(k:Int):=aq _ o_;have dp:(k:Int)<n:=o_
     have c7:decide (0<=Fu a'.k a.k)=false:=m_
     have cb:=fun(W:World) (hW:D_ w8 W)=>HC.f W (b_ I8.b hW) a' cj;obtain⟨I,ap,ad⟩:=ic fun w'=>∀k,k<w8.1.size->w'.1[k]?=w8.1[k]?;have a2:=fun x:Fq I=>(ap _ x.ok w.1.size (aH a0 I8.a.bel.size)).T ((I8.a.bel.block _ a0).T HN.c);obtain⟨m0,m1⟩:=ft a2;have o0:∀x:Fq I,x.to.cell? ⟨b,k*2,none⟩=some (Xu (a'.kh:Nat)):=fun x=>(j9 (ap _ x.ok b I8.a.lt)).T hc;have a5:I w8.drew:=ad _ fun _ _=>rfl;have HJ:=kq2 ad cb;clear ap ad a2 hc cb ba cj bd a9;refine fh I (.take 0 (.take 1 (.take 2 (.take 3 (.take 4 (.take 5 (.take 6 (.take 7 (.take 8 (.take 9 (.take 10 (.take 11 (.take 12 (.take 13 (.take 14 (.take 15 (.take 16 (.take 18 (.go 17 (.go 19 (.take 20 (.take 21 (.take 22 .nil))))))))))))))))))))))) k_ k_ a5 ?_
     iterate 18
      refine pT_ ?_
      try simp only[pu]
     refine pD fun K hK=>?_;go_simp;refine e9 (HJ.b _ (aa _ w8).drew) fun w9 hb9=>?_;have bb:Hid (D_ w8 w9):=(aa _ w8).drew.T hb9;clear hb9
     try go_simp
     refine hK.O _ _ (HJ.a _ bb.O.block) ?_;clear hK K
     try simp only[pu]
     refine pD fun K hK=>?_;go_simp;refine Jc (sT _ _ _) ?_
     try go_simp
     refine hK.O _ _ (HJ.a _ bb.O.block) ?_;clear hK K
     try simp only[pu]
     iterate 3
      refine pT_ ?_
      try simp only[pu]
     refine eP ?_;go_wp2_with fail
     go_meet
     exact⟨rfl,bb⟩
   case rest=>
    obtain⟨rfl,J⟩:=hcut;have I9:=I8.a.a_ J.O;have p9:=(J.O.block _ (gl I8.c)).T I8.c;have bt:=I9.bel.size;have ch:(Bt.j_ x++ff ((Bt.its x).take j)).length<=90000:=by
     rw[ag,Md,aF,H1.f];omega
    obtain⟨v2,w9,c6,cp,a6,c3⟩:=KV I9.own ch a.kh a.vh bt 59;have K9:Hid (L1 W0 w6 b (Bt.j_ x) (Bt.its x) v2 (j+1) w9):=by
     refine⟨I9.bel.grown a6 bt fun k e=>(FE.ge I9.own k e).1,?_,(a6.block b I9.lt fun e=>I9.ne e.S).T I9.it,fun e=>?_,aH I9.lt a6.size⟩
     ·rw[My a8,HA.a,<-bp];exact cp
     ·rcases c3 with q | ⟨g,q,hq⟩
      ·exact I9.ne (q▸e)
      ·rw[q] at e
       injection e with e
       have:=I9.lt;omega
    clear I9 bt ch cp a6 c3;obtain⟨f0,f1⟩:=Fp p9;clear p9
    go_wp2_with (at_builtin;refine Lib.wpList_append_run _ rfl _ _ _ _ rfl _ _ rfl rfl _ _ c6 ?_)
    go_roundg (n-(j+1))
    case rel=>exact⟨j+1,s_,o_,o_,K9⟩
    case measure=>omega
  ·obtain rfl:j=n:=o_
   have c5:¬(j:Int)<j:=o_
   have cw:(Bt.its x).take j=Bt.its x:=by rw[<-HE.O,cY]
   have ho:=I1.O.own;rw[cw] at ho;have ai:Bt.j_ x++ff (Bt.its x)≠[]:=fun e=>H1.e (List.append_eq_nil_iff.1 e).1;have au:=Mr ho (by rw[ag,Md,HE.O,H1.f];omega) ai HR.b HR.a;have an:D_ w wr:=HR.d.T (I1.O.bel.M o_);have p:=(I1.O.bel.block _ a0).T HN.c;have H9:=kq3 au an p;clear au ho cw ai an p;go_wp2_with fail;refine e9 H9.a fun w7 hb7=>?_;have p:=(hb7.block _ (gl H9.c)).T H9.c;have hs:=HC.d w7 (b_ H9.b hb7);rw[HE.O] at hs;have H7:=kq2 hs (b_ H9.b hb7);clear hs hb7;obtain⟨f0,f1⟩:=Fp p;clear p;go_wp2_with fail;refine e9 H7.a fun w8 hb8=>?_;have H8:=If (b_ H7.b hb8);clear hb8;go_wp2_with fail;go_ret;exact⟨rfl,H8.O⟩
theorem uS:∀d,j4 d
 | 0=>uU 0 fun _ h=>absurd h o_
 | d+1=>uU (d+1) fun d0 h=>by
  have h:d=d0:=o_
  subst h;exact @uS d
