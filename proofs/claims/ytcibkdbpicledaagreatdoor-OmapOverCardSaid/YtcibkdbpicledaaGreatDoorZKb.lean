/- Texts: Many, the closure that lays a byte, slices.Equal at words: the walks. -/
import Derived.Test.YtcibkdbpicledaaGreatDoorZKa
import Derived.Test.YtcibkdbpicledaaGreatDoorZSn
import Derived.Lib.ItoaWalk
import Derived.Deep.OwnRows
import Derived.Laws.IdiomStrings
import Derived.Deep.RegionHeld3
import Derived.Test.YtcibkdbpicledaaGreatDoorZCl
import Derived.BigRegion
import Derived.RegionTactic
import Derived.ChangeAlike
set_option maxRecDepth 100000
set_option maxHeartbeats 3200000
namespace Go.Proofs.YtcibkdbpicledaaGreatDoor
open Go.RowKit Tryz Go.BigFrame Go.Maps Go.WideMaps Lf
variable{w:World}{ws:List Nat}
theorem xD(n:Nat)(w:World)(hn:n<=1099511627776):
 Ct 69 #[.int .i64 n] w fun e w'=>e=.returned (.int .i64 (many n:Nat))/\w=w':=by
 unfold many
 by_cases h:1000<n
 ·rw[if_pos h];have h':(1000:Int)<n:=by omega
  go_enter func69,ntmps69
  go_wp2
  go_ret;exact⟨rfl,rfl⟩
 ·rw[if_neg h];have h':(n:Int)<=1000:=by omega
  have hq:((1+(n+7) / 8:Nat):Int)=1+((n:Int)+7) / 8:=by omega
  rw[hq];clear h hq;go_enter func69,ntmps69
  go_wp2
  go_ret;exact⟨by simp;omega,rfl⟩
theorem EO{B G m cap i c x y:Nat}(hb:w.cell? ⟨B,0,none⟩=some (.slice (some ⟨G,0,none⟩) m cap))(hi:1+i / 8<m)(hm:m<=200)
 (hx:w.cell? ⟨G,1+i / 8,none⟩=some (.int .u64 x)) (hf:w.frozen? ⟨G,1+i / 8,none⟩=false) (hxl:x<2^64) (hc:c<256) (hy:x ||| c*2^(8*(7-i % 8))=y):
 Ct 125 #[.int .i64 i,.int .u8 c,PV B] w fun e w'=>e=.returned (.tuple #[])/\∃q,w'=(w.drewN q).setCell ⟨G,1+i / 8,none⟩ (.int .u64 y):=by
 obtain⟨q,hq⟩:=Ii (i / 8);obtain⟨r,hr⟩:=Ii (i % 8);have an:r<8:=by omega
 obtain⟨s,hs⟩:=Ii (8*(7-r));rw[hq] at hi hx hf⊢;rw[hr,hs] at hy;have ai:(i:Int) / 8=(q:Int):=by omega
 have al:(i:Int) % 8=(r:Int):=by omega
 have ao:8*(7-(r:Int))=(s:Int):=by omega
 have ad:i<9223372036854775807:=by omega
 go_enter func125,ntmps125;go_wp2_with fail;refine lD (C:=fun w'=>∃q:Nat,w'=(w).drewN q) 15 (by kernel_rfl) (by kernel_rfl) ⟨1,rfl⟩ ?_;simp only[bS,cF,ce,cR];repeat (first | go_big_quiet_skip | (go_big_quiet_want;go_big_quiet_op;first | go_big_quiet_on))
 refine wpQuiet_nil ?_;rintro _ ⟨q,rfl⟩;go_wp2_with fail;have hw:IntKind.u64.wrap ((c:Int)*2^s)=((c*2^s:Nat):Int):=by
  have h1:c*2^s<256*2^56:=bD (cZ hc (Nat.pow_pos (by decide))) (Nat.mul_le_mul_left _ (cT (by decide) (by omega)));have h2:((c:Int)*2^s)=((c*2^s:Nat):Int):=by push_cast;rfl
  rw[h2];show ((c*2^s:Nat):Int) % 18446744073709551616=_
  omega
 have h1:c*2^s<2^64:=bD (cZ hc (Nat.pow_pos (by decide))) (Nat.mul_le_mul_left 256 (cT (n:=2) (by decide) (show s<=56 by omega)));rw[hw,bits_or_u64_nat _ _ hxl h1,hy];go_end0
 exact⟨rfl,_,rfl⟩
def jm(w:World)(B:Nat)(v:Value)(ws:List Nat):Prop:=∃G c,v=.slice (some ⟨G,0,none⟩) ws.length c/\B<=G/\∀(i:Nat) (h:i<ws.length),w.cell? ⟨G,i,none⟩=some (.int .u64 (ws[i]:Nat))
theorem jm.below{w w':World}{B:Nat}{v:Value}(h:jm w B v ws)(hb:Below w.heap.size w w'):jm w' B v ws:=by
 obtain⟨G,c,rfl,hB,hc⟩:=h;refine⟨G,c,rfl,hB,fun i hi=>?_⟩;have h1:=hc i hi;have ad:G<w.heap.size:=by
  unfold World.cell? at h1
  split at h1
  ·rename_i heq;exact(gl heq)
  ·cases h1
 exact(hb.cell (p:=⟨G,i,none⟩) ad).trans h1
theorem E8{B B':Nat}{v v':Value}(h:jm w B v ws)(h':jm w B' v' ws)(hl:ws.length<=100000):
 Ct 124 #[v,v'] w fun e w'=>e=.returned (.bool true)/\∃q,w'=w.drewN q:=by
 obtain⟨G,c,rfl,_,hc⟩:=h;obtain⟨G',c',rfl,_,ad⟩:=h';obtain⟨n,hn⟩:=Ii ws.length;rw[hn] at hl;have H:=kq3 hc ad hn;rw[hn];clear hc ad hn;go_enter func124,ntmps124;go_wp2_with fail
 go_loopw [13] (fun i wr=>∃k:Nat,k<=n/\i=.int .i64 k/\∃q,wr=w.drewN q) (fun i _=>n-(intOf i).toNat)
 case atStart=>exact⟨0,by omega,rfl,0,rfl⟩
 case round=>
  obtain⟨k,hk,rfl,q,rfl⟩:=hrel
  by_cases hlt:k<n
  ·have ai:(k:Int)<n:=by omega
   have c1:=H.a k (by rw[H.c];exact hlt);have c2:=H.b k (by rw[H.c];exact hlt);generalize ws[k]'(by rw[H.c];exact hlt)=x at c1 c2;go_wp2_with fail
   go_quiet (fail)
   go_wp2_with fail;go_roundw
   case rel=>exact⟨k+1,by omega,by simp,_,rfl⟩
   case measure=>simp[intOf];omega
  ·obtain rfl:k=n:=by omega
   go_wp2_with fail;go_ret;exact⟨rfl,_,rfl⟩
abbrev SV(l:List UInt8):Value:=.string ⟨l.toArray⟩
theorem uQ:(prog.info? 82).map (fun i=>(i.zero,i.size,i.bytes))=some (some (.int .u64 0),1,8):=by kernel_rfl
theorem vB(n:Nat)(hn:n<=1000000)(W:World):(Instr.makeSlice 162 (.int .i64 (n:Int)) (.int .i64 (n:Int))).run prog W=.ok (.slice (some ⟨W.heap.size,0,none⟩) n n) (W.alloc (.cells ((List.replicate n 0).map fun x:Nat=>Value.int .u64 x).toArray 82)):=by
 obtain⟨i0,hi,ad,ai,al⟩:=info_parts uQ;have e:((List.replicate n 0).map fun x:Nat=>Value.int .u64 x).toArray=madeCells #[.int .u64 0] n:=by
  apply Array.toList_inj.1;rw[toList_madeCells_one]
  simp
 rw[e];exact run_make_row 162 82 i0 (.int .u64 0) underlying162 hi ad ai rfl .i64 .i64 n (by rw[al];omega) (by omega) W
theorem Ae(l:List UInt8):∃(capF:World->Nat) (csF:World->Array Value) (frF:World->Nat×Nat),(∀W,(convert 9 49 (SV l)).run prog W=.ok (.slice (some ⟨W.heap.size,0,none⟩) l.length (capF W)) (W.drew.alloc (.cells (csF W) 5 (frF W))))/\∀W i,i<l.length->(csF W)[i]?=some (.int .u8 (FN l i:Nat)):=by
 refine⟨_,_,_,fun W=>run_bytes_of_string W _ _ _ _ underlying9 underlying49 underlying5,?_⟩;intro W i hi;rw[bytesRow_at _ _ _ (by simpa using hi)];simp[FN,List.getD_eq_getElem?_getD,List.getElem?_eq_getElem hi]
structure pM (l:List UInt8) (w:World) (k:Nat) (wr:World):Prop where
 row:wr.heap[w.heap.size]?=some (.cells ((iC l k).map fun x:Nat=>Value.int .u64 x).toArray 82 (0,0))
 box:wr.cell? ⟨w.heap.size+1,0,none⟩=some (.slice (some ⟨w.heap.size,0,none⟩) (1+(l.length+7) / 8) (1+(l.length+7) / 8))
 bytes:∀i,i<l.length->wr.cell? ⟨w.heap.size+2,i,none⟩=some (.int .u8 (FN l i:Nat))
 below:Below w.heap.size w wr
theorem xE(l:List UInt8)(w:World)(hl:l.length<=1000):
 Ct 98 #[SV l] w fun e w'=>∃v,e=.returned (.tuple #[v,.int .i64 0])/\jm w' w.heap.size v (FK l)/\Below w.heap.size w w':=by
 have a7:(l.length:Int)<=1000:=by omega
 have hm:=fun W=>xD l.length W (by omega);have a5:many l.length=1+(l.length+7) / 8:=by unfold many;rw[if_neg (by omega)]
 rw[a5] at hm;obtain⟨n,hn⟩:=Ii l.length;obtain⟨m,au⟩:=Ii (1+(n+7) / 8);have a8:m<=200:=by omega
 rw[hn,au] at hm;have H:=kq3 hm hn au;clear hm a5 au;go_enter func98,ntmps98;go_wp2_with fail;simp only[hn] at a7⊢;clear hn;refine(H.a _).mono ?_;rintro e w1 ⟨rfl,rfl⟩;have a4:=vB m (by omega);obtain⟨ad,ar⟩:∃cs,((List.replicate m 0).map fun x:Nat=>Value.int .u64 x).toArray=cs:=⟨_,rfl⟩;rw[ar] at a4;obtain⟨a9,ao,ap,a1,a0⟩:=Ae l;rw[H.b] at a1;have HB:=kq2 ar a0;clear ar a0;have ba:(0:Int)<m:=by have:=H.c;omega
 have bb:0<ad.size:=by have:=H.c;rw[<-HB.a];simp;omega
 go_wp2_with fail
 go_name_world W HW
 have hW:pM l w 0 W:=by
  have e1:∀k:Nat,W.heap[k]?=(((w.alloc (.cells (ad.setIfInBounds 0 (.int .u64 l.length)) 82)).alloc (.cells #[.slice (some ⟨w.heap.size,0,none⟩) m m] 162)).alloc (.cells (ao ((w.alloc (.cells (ad.setIfInBounds 0 (.int .u64 l.length)) 82)).alloc (.cells #[.slice (some ⟨w.heap.size,0,none⟩) m m] 162))) 5 (ap ((w.alloc (.cells (ad.setIfInBounds 0 (.int .u64 l.length)) 82)).alloc (.cells #[.slice (some ⟨w.heap.size,0,none⟩) m m] 162))))).heap[k]?:=fun k=>by rw[<-HW];rfl
  have hB:Below w.heap.size w W:=by
   rw[<-HW];have h3:=(((aa _ w).alloc Ih (.cells (ad.setIfInBounds 0 (.int .u64 l.length)) 82)).alloc (by simp) (.cells #[.slice (some ⟨w.heap.size,0,none⟩) m m] 162)).alloc (by simp;omega) (.cells (ao ((w.alloc (.cells (ad.setIfInBounds 0 (.int .u64 l.length)) 82)).alloc (.cells #[.slice (some ⟨w.heap.size,0,none⟩) m m] 162))) 5 (ap ((w.alloc (.cells (ad.setIfInBounds 0 (.int .u64 l.length)) 82)).alloc (.cells #[.slice (some ⟨w.heap.size,0,none⟩) m m] 162))));exact⟨h3.os,h3.tape,h3.output,h3.size,h3.block⟩
  have ai:(l.length+7) / 8+1=m:=by have:=H.b;have:=H.c;omega
  refine⟨?_,?_,?_,hB⟩
  ·rw[e1,heap_alloc_old _ _ (by simp;omega),heap_alloc_old _ _ (by simp),heap_alloc_new,Cg,<-HB.a,<-ai]
   simp[List.replicate_succ]
  ·have:W.heap[w.heap.size+1]?=some (.cells #[.slice (some ⟨w.heap.size,0,none⟩) m m] 162):=by
    rw[e1,heap_alloc_old _ _ (by simp)];have:=heap_alloc_new (w.alloc (.cells (ad.setIfInBounds 0 (.int .u64 l.length)) 82)) (.cells #[.slice (some ⟨w.heap.size,0,none⟩) m m] 162)
    simpa using this
   rw[Fs this,show 1+(l.length+7) / 8=m by omega]
   rfl
  ·intro i hi;have:W.heap[w.heap.size+2]?=some (.cells (ao ((w.alloc (.cells (ad.setIfInBounds 0 (.int .u64 l.length)) 82)).alloc (.cells #[.slice (some ⟨w.heap.size,0,none⟩) m m] 162))) 5 (ap ((w.alloc (.cells (ad.setIfInBounds 0 (.int .u64 l.length)) 82)).alloc (.cells #[.slice (some ⟨w.heap.size,0,none⟩) m m] 162)))):=by
    rw[e1];have:=heap_alloc_new ((w.alloc (.cells (ad.setIfInBounds 0 (.int .u64 l.length)) 82)).alloc (.cells #[.slice (some ⟨w.heap.size,0,none⟩) m m] 162)) (.cells (ao ((w.alloc (.cells (ad.setIfInBounds 0 (.int .u64 l.length)) 82)).alloc (.cells #[.slice (some ⟨w.heap.size,0,none⟩) m m] 162))) 5 (ap ((w.alloc (.cells (ad.setIfInBounds 0 (.int .u64 l.length)) 82)).alloc (.cells #[.slice (some ⟨w.heap.size,0,none⟩) m m] 162))))
    simpa using this
   rw[Fs this];exact HB.b _ i hi
 clear HW a4 a1;have HA:=If hW;clear hW
 go_loopw [6,7,24] (fun _ _ i wr=>∃k:Nat,k<=n/\i=.int .i64 k/\pM l w k wr) (fun _ _ i _=>n-(intOf i).toNat)
 case atStart=>exact⟨0,by omega,rfl,HA.out⟩
 case round=>
  obtain⟨k,hk,rfl,hA⟩:=hrel;have an:=H.b;have ai:=H.c
  by_cases hlt:k<n
  ·have a':(k:Int)<n:=by omega
   have c1:=hA.bytes k (by omega);have a2:=Cc l k (by omega);have c2:wr.cell? ⟨w.heap.size,1+k / 8,none⟩=some (.int .u64 (cell l (k / 8) (k % 8):Nat)):=by
    rw[Fs hA.row,cz,bg,a2]
    rfl
   have al:=hA.box;rw[an,ai] at al;have a3:=fun W' (h1:W'.heap=wr.heap)=>EO (w:=W') (B:=w.heap.size+1) (G:=w.heap.size) (m:=m) (cap:=m) (i:=k) (c:=FN l k) (x:=cell l (k / 8) (k % 8)) (y:=cell l (k / 8) (k % 8+1))
    (by rw[<-al];simp only[World.cell?,h1]) (by omega) a8 (by rw[<-c2];simp only[World.cell?,h1]) (by rw[AT (h1▸hA.row)]) (jK _ _ _ (by omega)) (mC _ _) (by have:=Ag l (k / 8) (k % 8) (by omega);rwa[show 8*(k / 8)+k % 8=k by omega] at this)
   have HK:=kq2 hA a3;clear hA a3 al c2 a2 an ai;go_wp2_with fail;refine(HK.b _ rfl).mono ?_;rintro e w2 ⟨rfl,q,rfl⟩;have HN:pM l w (k+1) ((wr.drewN q).setCell ⟨w.heap.size,1+k / 8,none⟩ (.int .u64 (cell l (k / 8) (k % 8+1):Nat))):=by
    have hA:=HK.a;have hB:Below w.heap.size w ((wr.drewN q).setCell ⟨w.heap.size,1+k / 8,none⟩ (.int .u64 (cell l (k / 8) (k % 8+1):Nat))):=by
     have:Below w.heap.size w (wr.drewN q):=⟨hA.below.os,hA.below.tape,hA.below.output,hA.below.size,hA.below.block⟩;exact this.setCell (p:=⟨w.heap.size,1+k / 8,none⟩) (Nat.le_refl w.heap.size) _
    refine⟨?_,?_,?_,hB⟩
    ·rw[heap_setCell (show (wr.drewN q).heap[w.heap.size]?=_ from hA.row),Cf]
     simp
    ·rw[<-hA.box];exact World.cell?_of_block (w:=wr.drewN q) (FB (w:=wr.drewN q) (k:=w.heap.size+1) (by omega))
    ·intro i hi;rw[<-hA.bytes i hi];exact World.cell?_of_block (w:=wr.drewN q) (FB (w:=wr.drewN q) (k:=w.heap.size+2) (by omega))
   have a6:=If HN;clear HN;go_wp2_with fail;go_roundw
   case rel=>exact⟨k+1,by omega,by simp,a6.out⟩
   case measure=>simp[intOf];omega
  ·obtain rfl:k=n:=by omega
   have al:=hA.box;rw[an,ai] at al;have HK:=kq3 hA ai an;clear hA ai an;go_wp2_with fail;go_ret2;refine⟨_,rfl,⟨w.heap.size,m,?_,Nat.le_refl _,?_⟩,HK.a.below⟩
   ·rw[pj,HK.c,HK.b]
    rfl
   ·intro i hi;have h:=HK.a.row;rw[<-HK.c,rm] at h;rw[Fs h,cz,bg,af hi]
    rfl
end Go.Proofs.YtcibkdbpicledaaGreatDoor
namespace Go.Proofs.YtcibkdbpicledaaGreatDoor.Qu
open Go Go.RowKit
section
variable {P:Program}{l:List Oper}{md:Region.Mode}{S:World->Prop}{Q:Exit->Act->World->Prop}
def kQ(P:Program)(l:List Oper)(S:World->Prop)(Q:Act->Prop):List Nat->Act->Prop
 | [],a=>Q a
 | i::is,a=>∃o,l[i]?=some o/\∃v,YieldsIf P l.toArray S o v a/\kQ P l S Q is (a.put o.dst v)
def lC(P:Program)(l:List Oper)(Q:Exit->Act->World->Prop)(S:World->Prop):List Nat->Act->World->Prop
 | [],a,w=>Q .normal a w
 | i::is,a,w=>∃o,l[i]?=some o/\Region.wanted o (yielded l.toArray a.tmps)=true/\o.wp P a w (fun a' w'=>S w'/\lC P l Q S is a' w') Q
def seqB(md:Region.Mode)(ops:Array Oper):List Nat->Array Bool->Bool
 | [],listed=>(Region.ready md ops listed).isEmpty
 | i::is,listed=>decide (Region.ready md ops listed=[i]) && seqB md ops is (listed.setIfInBounds i true)
def mL(md:Region.Mode)(ops:Array Oper)(js:List Nat):List Nat->Array Bool->Bool
 | [],listed=>seqB md ops js listed
 | i::is,listed=>(Region.ready md ops listed).contains i && Region.free md ops listed i && mL md ops js is (listed.setIfInBounds i true)
theorem yd:∀(js:List Nat) (listed:Array Bool) (a:Act) (w:World),
 seqB md l.toArray js listed=true->S w->lC P l Q S js a w->wpAnyH P md l.toArray Q S js.length listed a w
 | [],_,_,_,hB,_,h=>⟨by simpa[seqB] using hB,h⟩
 | j::js,listed,a,w,hB,hS,h=>by
  simp only[seqB,aI,decide_eq_true_eq] at hB;refine⟨fun h1=>(by rw[hB.1] at h1;cases h1),fun i hi=>?_⟩;rw[hB.1] at hi;have ai:i=j:=by simpa using hi
  subst ai;have al:=fun a' w' (hs:S w') (hq:lC P l Q S js a' w')=>yd js (listed.setIfInBounds i true) a' w' hB.2 hs hq;obtain⟨o,h0,hw,hh⟩:=h;have ad:l.toArray[i]?=some o:=by simpa using h0
  unfold wpOp;simp only[ad,hw,if_true];exact .inl (Oper.wp_mono (fun a' w' h'=>⟨h'.1,al a' w' h'.1 h'.2⟩) hh)
theorem yc {js:List Nat}{w:World}{Lq:Act->Prop}(hsel:Region.noSelect l.toArray=true)(hS:S w)(hQ:∀d v c a w,Q (.panic c) (Act.put a d v) w->Q (.panic c) a w)
 (hL:∀listed a,seqB md l.toArray js listed=true->Lq a->wpAnyH P md l.toArray Q S js.length listed a w):
 ∀(is:List Nat) (listed:Array Bool) (a:Act),
 mL md l.toArray js is listed=true->kQ P l S Lq is a->wpAnyH P md l.toArray Q S (is.length+js.length) listed a w
 | [],listed,a,hB,h=>by simpa using hL listed a (by simpa[mL] using hB) h
 | i::is,listed,a,hB,h=>by
  simp only[mL,aI] at hB;obtain⟨⟨hr,hf⟩,ai⟩:=hB;obtain⟨o,h0,v,hy,hK⟩:=h;have ad:l.toArray[i]?=some o:=by simpa using h0
  rw[ak,show is.length+1+js.length=(is.length+js.length)+1 by omega];exact wpAnyH_take ad hsel hf hr (fun c a w=>hQ _ _ c a w) hy hS (yc hsel hS hQ hL is _ _ ai hK)
end
def vq(md:Region.Mode)(ops:Array Oper)(is js:List Nat):Bool:=
 Region.noSelect ops && decide (is.length+js.length=ops.size) && mL md ops js is (Array.replicate ops.size false)
end Qu
open Qu
abbrev FG(I:World->Prop):World->Prop:=fun w'=>∃x:Fq I,w'=x.to
theorem mq {P:Program}{id:Nat}{Q:Exit->Act->World->Prop}{a:Act}{w:World}{l:List Oper}(I:World->Prop)(is js:List Nat)(hm:P.follows .mixedOrders=true)(hB:vq .any l.toArray is js=true)
 (hI:I w.drew)
 (h:kQ P l (FG I) (fun a'=>lC P l (NoPanic Q) (FG I) js a' w.drew) is a):(Code.region id l.toArray true).wp P Q a w:=by
 simp only[vq,aI,decide_eq_true_eq] at hB;obtain⟨⟨ai,hn⟩,ad⟩:=hB;have hS:FG I w.drew:=⟨⟨_,hI⟩,rfl⟩;refine wp_region_noPanic (wp_region_held_drew (S:=FG I) hm hS (fun _=>?_));have:=yc (md:=.any) (js:=js) (Q:=NoPanic Q) ai hS (fun _ _ _ _ _ h=>(h:False).elim) (fun listed a' hq hl=>
  yd (md:=.any) (Q:=NoPanic Q) (S:=FG I) js listed a' w.drew hq hS hl) is _ a ad h
 rw[hn] at this;exact this
theorem Fc {P:Program}{l:List Oper}{S:World->Prop}{Q:Act->Prop}{i:Nat}{is:List Nat}{a:Act}(o:Oper)(ho:l[i]?=some o)(v:Value)(hw:Region.wanted o (yielded l.toArray a.tmps)=true)(hr:∀w,S w->(execOp a.eval o).run P w=.ok (.value v) w)
 (h:kQ P l S Q is (a.put o.dst v)):kQ P l S Q (i::is) a:=⟨o,ho,v,ab ⟨hw,hr⟩,h⟩
theorem hC {P:Program}{l:List Oper}{I:World->Prop}{Q:Act->Prop}{i:Nat}{is:List Nat}{a:Act}{o:Oper}{v:Value}(hr:∀x:Fq I,(execOp a.eval o).run P x.to=.ok (.value v) x.to)(h:kQ P l (FG I) Q is (a.put o.dst v))(ho:l[i]?=some o:=by rfl)(hw:Region.wanted o (yielded l.toArray a.tmps)=true:=by rfl):kQ P l (FG I) Q (i::is) a:=Fc o ho v hw (fun _ g=>by obtain⟨x,rfl⟩:=g;exact hr x) h
theorem mo {P:Program}{l:List Oper}{S:World->Prop}{Q:Act->Prop}{a:Act}(h:Q a):kQ P l S Q [] a:=h
theorem gF {P:Program}{l:List Oper}{Q:Exit->Act->World->Prop}{I:World->Prop}{i:Nat}{is:List Nat}{a:Act}{w:World}(o:Oper)(ho:l[i]?=some o)(hw:Region.wanted o (yielded l.toArray a.tmps)=true)
 (h:∀K':Act->World->Prop,Shut (∀a w,I w->lC P l Q (FG I) is a w->K' a w)->Oper.wp P o a w K' Q):lC P l Q (FG I) (i::is) a w:=
 ⟨o,ho,hw,h _ (fun _ _ hI hs=>⟨⟨⟨_,hI⟩,rfl⟩,hs⟩)⟩
theorem mp {P:Program}{l:List Oper}{Q:Exit->Act->World->Prop}{S:World->Prop}{a:Act}{w:World}(h:Q .normal a w):lC P l (NoPanic Q) S [] a w:=h
end Go.Proofs.YtcibkdbpicledaaGreatDoor
namespace Go.Proofs.YtcibkdbpicledaaGreatDoor.Qv
open Go Go.RowKit
section
variable {P:Program}{l:List Oper}{md:Region.Mode}{S:World->Prop}{Q:Exit->Act->World->Prop}
def iG(P:Program)(l:List Oper)(Q:Exit->Act->World->Prop)(S:World->Prop):List (Bool×Nat)->Act->World->Prop
 | [],a,w=>Q .normal a w
 | (true,i)::is,a,w=>∃o,l[i]?=some o/\∃v,YieldsIf P l.toArray S o v a/\iG P l Q S is (a.put o.dst v) w
 | (false,i)::is,a,w=>∃o,l[i]?=some o/\Region.wanted o (yielded l.toArray a.tmps)=true/\o.wp P a w (fun a' w'=>S w'/\iG P l Q S is a' w') Q
def lp(md:Region.Mode)(ops:Array Oper):List (Bool×Nat)->Array Bool->Bool
 | [],listed=>(Region.ready md ops listed).isEmpty
 | (true,i)::is,listed=>(Region.ready md ops listed).contains i && Region.free md ops listed i && lp md ops is (listed.setIfInBounds i true)
 | (false,i)::is,listed=>decide (Region.ready md ops listed=[i]) && lp md ops is (listed.setIfInBounds i true)
theorem tf(hsel:Region.noSelect l.toArray=true)(hQ:∀d v c a w,Q (.panic c) (Act.put a d v) w->Q (.panic c) a w):
 ∀(is:List (Bool×Nat)) (listed:Array Bool) (a:Act) (w:World),lp md l.toArray is listed=true->S w->iG P l Q S is a w->wpAnyH P md l.toArray Q S is.length listed a w
 | [],_,_,_,hB,_,h=>⟨by simpa[lp] using hB,h⟩
 | (true,i)::is,listed,a,w,hB,hS,h=>by
  simp only[lp,aI] at hB;obtain⟨⟨hr,hf⟩,ai⟩:=hB;obtain⟨o,h0,v,hy,hK⟩:=h;have ad:l.toArray[i]?=some o:=by simpa using h0
  exact wpAnyH_take ad hsel hf hr (fun c a w=>hQ _ _ c a w) hy hS (tf hsel hQ is _ _ _ ai hS hK)
 | (false,j)::is,listed,a,w,hB,hS,h=>by
  simp only[lp,aI,decide_eq_true_eq] at hB;refine⟨fun h1=>(by rw[hB.1] at h1;cases h1),fun i hi=>?_⟩;rw[hB.1] at hi;have al:i=j:=by simpa using hi
  subst al;have an:=fun a' w' (hs:S w') (hq:iG P l Q S is a' w')=>tf hsel hQ is (listed.setIfInBounds i true) a' w' hB.2 hs hq;obtain⟨o,h0,hw,hh⟩:=h;have ad:l.toArray[i]?=some o:=by simpa using h0
  unfold wpOp;simp only[ad,hw,if_true];exact .inl (Oper.wp_mono (fun a' w' h'=>⟨h'.1,an a' w' h'.1 h'.2⟩) hh)
def vr(md:Region.Mode)(ops:Array Oper)(is:List (Bool×Nat)):Bool:=
 Region.noSelect ops && decide (is.length=ops.size) && lp md ops is (Array.replicate ops.size false)
end
end Qv
open Qv
theorem nF {P:Program}{id:Nat}{Q:Exit->Act->World->Prop}{a:Act}{w:World}{l:List Oper}(I:World->Prop)(is:List (Bool×Nat))(hm:P.follows .mixedOrders=true)(hB:vr .any l.toArray is=true)
 (hI:I w.drew) (h:iG P l (NoPanic Q) (FG I) is a w.drew):(Code.region id l.toArray true).wp P Q a w:=by
 simp only[vr,aI,decide_eq_true_eq] at hB;obtain⟨⟨ai,hn⟩,ad⟩:=hB;have hS:FG I w.drew:=⟨⟨_,hI⟩,rfl⟩;refine wp_region_noPanic (wp_region_held_drew (S:=FG I) hm hS (fun _=>?_));have:=tf (md:=.any) (Q:=NoPanic Q) ai (fun _ _ _ _ _ h=>(h:False).elim) is _ a w.drew ad hS h;rw[hn] at this;exact this
theorem De {P:Program}{l:List Oper}{I:World->Prop}{Q:Exit->Act->World->Prop}{i:Nat}{is:List (Bool×Nat)}{a:Act}{w:World}(o:Oper)(ho:l[i]?=some o)(v:Value)(hw:Region.wanted o (yielded l.toArray a.tmps)=true)(hr:∀w,FG I w->(execOp a.eval o).run P w=.ok (.value v) w)
 (h:iG P l Q (FG I) is (a.put o.dst v) w):iG P l Q (FG I) ((true,i)::is) a w:=⟨o,ho,v,ab ⟨hw,hr⟩,h⟩
theorem mT {P:Program}{l:List Oper}{I:World->Prop}{Q:Exit->Act->World->Prop}{i:Nat}{p:List (Bool×Nat)}{a:Act}{w:World}{o:Oper}{v:Value}(hr:∀x:Fq I,(execOp a.eval o).run P x.to=.ok (.value v) x.to)(h:iG P l Q (FG I) p (a.put o.dst v) w)(ho:l[i]?=some o:=by rfl)(hw:Region.wanted o (yielded l.toArray a.tmps)=true:=by rfl):iG P l Q (FG I) ((true,i)::p) a w:=De o ho v hw (fun _ g=>by obtain⟨x,rfl⟩:=g;exact hr x) h
theorem Dd {P:Program}{l:List Oper}{Q:Exit->Act->World->Prop}{I:World->Prop}{i:Nat}{is:List (Bool×Nat)}{a:Act}{w:World}(o:Oper)(ho:l[i]?=some o)(hw:Region.wanted o (yielded l.toArray a.tmps)=true)
 (h:∀K':Act->World->Prop,Shut (∀a w,I w->iG P l Q (FG I) is a w->K' a w)->Oper.wp P o a w K' Q):iG P l Q (FG I) ((false,i)::is) a w:=
 ⟨o,ho,hw,h _ (fun _ _ hI hs=>⟨⟨⟨_,hI⟩,rfl⟩,hs⟩)⟩
theorem mD {P:Program}{l:List Oper}{I:World->Prop}{Q:Exit->Act->World->Prop}{i:Nat}{p:List (Bool×Nat)}{a:Act}{w:World}{o:Oper}(h:∀K':Act->World->Prop,Shut (∀a w,I w->iG P l Q (FG I) p a w->K' a w)->Oper.wp P o a w K' Q)(ho:l[i]?=some o:=by rfl)(hw:Region.wanted o (yielded l.toArray a.tmps)=true:=by rfl):iG P l Q (FG I) ((false,i)::p) a w:=Dd o ho hw h
theorem mX {P:Program}{l:List Oper}{Q:Exit->Act->World->Prop}{S:World->Prop}{a:Act}{w:World}(h:Q .normal a w):iG P l (NoPanic Q) S [] a w:=h
end Go.Proofs.YtcibkdbpicledaaGreatDoor
namespace Go.Proofs.YtcibkdbpicledaaGreatDoor.Qw
open Go Go.RowKit
inductive Plan where
 | nil
 | take (i:Nat) (p:Plan)
 | go (i:Nat) (p:Plan)
 | two (i j:Nat) (p q:Plan)
def Plan.len:Plan->Nat
 | .nil=>0
 | .take _ p=>p.len+1
 | .go _ p=>p.len+1
 | .two _ _ p _=>p.len+1
section
variable {P:Program}{l:List Oper}{md:Region.Mode}{S:World->Prop}{Q:Exit->Act->World->Prop}
def wpPlan(P:Program)(l:List Oper)(Q:Exit->Act->World->Prop)(S:World->Prop):Plan->Act->World->Prop
 | .nil,a,w=>Q .normal a w
 | .take i p,a,w=>∃o,l[i]?=some o/\∃v,YieldsIf P l.toArray S o v a/\wpPlan P l Q S p (a.put o.dst v) w
 | .go i p,a,w=>∃o,l[i]?=some o/\Region.wanted o (yielded l.toArray a.tmps)=true/\o.wp P a w (fun a' w'=>S w'/\wpPlan P l Q S p a' w') Q
 | .two i j p q,a,w=>(∃o,l[i]?=some o/\Region.wanted o (yielded l.toArray a.tmps)=true/\o.wp P a w (fun a' w'=>S w'/\wpPlan P l Q S p a' w') Q)/\
  (∃o,l[j]?=some o/\Region.wanted o (yielded l.toArray a.tmps)=true/\o.wp P a w (fun a' w'=>S w'/\wpPlan P l Q S q a' w') Q)
def fG(md:Region.Mode)(ops:Array Oper):Plan->Array Bool->Bool
 | .nil,listed=>(Region.ready md ops listed).isEmpty
 | .take i p,listed=>(Region.ready md ops listed).contains i && Region.free md ops listed i && fG md ops p (listed.setIfInBounds i true)
 | .go i p,listed=>decide (Region.ready md ops listed=[i]) && fG md ops p (listed.setIfInBounds i true)
 | .two i j p q,listed=>decide (Region.ready md ops listed=[i,j]) && decide (p.len=q.len) && fG md ops p (listed.setIfInBounds i true) && fG md ops q (listed.setIfInBounds j true)
theorem wpAnyH_plan(hsel:Region.noSelect l.toArray=true)(hQ:∀d v c a w,Q (.panic c) (Act.put a d v) w->Q (.panic c) a w):
 ∀(p:Plan) (listed:Array Bool) (a:Act) (w:World),fG md l.toArray p listed=true->S w->wpPlan P l Q S p a w->wpAnyH P md l.toArray Q S p.len listed a w
 | .nil,_,_,_,hB,_,h=>⟨by simpa[fG] using hB,h⟩
 | .take i p,listed,a,w,hB,hS,h=>by
  simp only[fG,aI] at hB;obtain⟨⟨hr,hf⟩,al⟩:=hB;obtain⟨o,h0,v,hy,hK⟩:=h;have ad:l.toArray[i]?=some o:=by simpa using h0
  exact wpAnyH_take ad hsel hf hr (fun c a w=>hQ _ _ c a w) hy hS (wpAnyH_plan hsel hQ p _ _ _ al hS hK)
 | .go j p,listed,a,w,hB,hS,h=>by
  simp only[fG,aI,decide_eq_true_eq] at hB;refine⟨fun h1=>(by rw[hB.1] at h1;cases h1),fun i hi=>?_⟩;rw[hB.1] at hi;have an:i=j:=by simpa using hi
  subst an;have ai:=fun a' w' (hs:S w') (hq:wpPlan P l Q S p a' w')=>wpAnyH_plan hsel hQ p (listed.setIfInBounds i true) a' w' hB.2 hs hq;obtain⟨o,h0,hw,hh⟩:=h;have ad:l.toArray[i]?=some o:=by simpa using h0
  unfold wpOp;simp only[ad,hw,if_true];exact .inl (Oper.wp_mono (fun a' w' h'=>⟨h'.1,ai a' w' h'.1 h'.2⟩) hh)
 | .two i j p q,listed,a,w,hB,hS,h=>by
  simp only[fG,aI,decide_eq_true_eq] at hB;obtain⟨⟨⟨hr,ap⟩,hp⟩,hq⟩:=hB;refine⟨fun h1=>(by rw[hr] at h1;cases h1),fun k hk=>?_⟩;rw[hr] at hk;have ao:k=i\/k=j:=by simpa using hk
  rcases ao with rfl | rfl
  ·have ai:=fun a' w' (hs:S w') (hq':wpPlan P l Q S p a' w')=>wpAnyH_plan hsel hQ p (listed.setIfInBounds k true) a' w' hp hs hq';obtain⟨o,h0,hw,hh⟩:=h.1;have ad:l.toArray[k]?=some o:=by simpa using h0
   unfold wpOp;simp only[ad,hw,if_true];exact .inl (Oper.wp_mono (fun a' w' h'=>⟨h'.1,ai a' w' h'.1 h'.2⟩) hh)
  ·have ai:=fun a' w' (hs:S w') (hq':wpPlan P l Q S q a' w')=>wpAnyH_plan hsel hQ q (listed.setIfInBounds k true) a' w' hq hs hq';rw[<-ap] at ai;obtain⟨o,h0,hw,hh⟩:=h.2;have ad:l.toArray[k]?=some o:=by simpa using h0
   unfold wpOp;simp only[ad,hw,if_true];exact .inl (Oper.wp_mono (fun a' w' h'=>⟨h'.1,ai a' w' h'.1 h'.2⟩) hh)
def lexPlanB(md:Region.Mode)(ops:Array Oper)(p:Plan):Bool:=
 Region.noSelect ops && decide (p.len=ops.size) && fG md ops p (Array.replicate ops.size false)
end
end Qw
open Qw
theorem fh {P:Program}{id:Nat}{Q:Exit->Act->World->Prop}{a:Act}{w:World}{l:List Oper}(I:World->Prop)(p:Plan)(hm:P.follows .mixedOrders=true)(hB:lexPlanB .any l.toArray p=true)
 (hI:I w.drew) (h:wpPlan P l (NoPanic Q) (FG I) p a w.drew):(Code.region id l.toArray true).wp P Q a w:=by
 simp only[lexPlanB,aI,decide_eq_true_eq] at hB;obtain⟨⟨ai,hn⟩,ad⟩:=hB;have hS:FG I w.drew:=⟨⟨_,hI⟩,rfl⟩;refine wp_region_noPanic (wp_region_held_drew (S:=FG I) hm hS (fun _=>?_));have:=wpAnyH_plan (md:=.any) (Q:=NoPanic Q) ai (fun _ _ _ _ _ h=>(h:False).elim) p _ a w.drew ad hS h;rw[hn] at this;exact this
theorem DC {P:Program}{l:List Oper}{I:World->Prop}{Q:Exit->Act->World->Prop}{i:Nat}{p:Plan}{a:Act}{w:World}(o:Oper)(ho:l[i]?=some o)(v:Value)(hw:Region.wanted o (yielded l.toArray a.tmps)=true)(hr:∀w,FG I w->(execOp a.eval o).run P w=.ok (.value v) w)
 (h:wpPlan P l Q (FG I) p (a.put o.dst v) w):wpPlan P l Q (FG I) (.take i p) a w:=⟨o,ho,v,ab ⟨hw,hr⟩,h⟩
theorem pT {P:Program}{l:List Oper}{I:World->Prop}{Q:Exit->Act->World->Prop}{i:Nat}{p:Plan}{a:Act}{w:World}{o:Oper}{v:Value}(hr:∀x:Fq I,(execOp a.eval o).run P x.to=.ok (.value v) x.to)(h:wpPlan P l Q (FG I) p (a.put o.dst v) w)(ho:l[i]?=some o:=by rfl)(hw:Region.wanted o (yielded l.toArray a.tmps)=true:=by rfl):wpPlan P l Q (FG I) (.take i p) a w:=DC o ho v hw (fun _ g=>by obtain⟨x,rfl⟩:=g;exact hr x) h
theorem DB {P:Program}{l:List Oper}{Q:Exit->Act->World->Prop}{I:World->Prop}{i:Nat}{p:Plan}{a:Act}{w:World}(o:Oper)(ho:l[i]?=some o)(hw:Region.wanted o (yielded l.toArray a.tmps)=true)
 (h:∀K':Act->World->Prop,Shut (∀a w,I w->wpPlan P l Q (FG I) p a w->K' a w)->Oper.wp P o a w K' Q):wpPlan P l Q (FG I) (.go i p) a w:=
 ⟨o,ho,hw,h _ (fun _ _ hI hs=>⟨⟨⟨_,hI⟩,rfl⟩,hs⟩)⟩
theorem pD {P:Program}{l:List Oper}{Q:Exit->Act->World->Prop}{I:World->Prop}{i:Nat}{p:Plan}{a:Act}{w:World}{o:Oper}
 (h:∀K':Act->World->Prop,Shut (∀a w,I w->wpPlan P l Q (FG I) p a w->K' a w)->Oper.wp P o a w K' Q) (ho:l[i]?=some o:=by rfl) (hw:Region.wanted o (yielded l.toArray a.tmps)=true:=by rfl):wpPlan P l Q (FG I) (.go i p) a w:=DB o ho hw h
theorem gL {P:Program}{l:List Oper}{Q:Exit->Act->World->Prop}{I:World->Prop}{i j:Nat}{p q:Plan}{a:Act}{w:World}(h1:wpPlan P l Q (FG I) (.go i p) a w)(h2:wpPlan P l Q (FG I) (.go j q) a w):wpPlan P l Q (FG I) (.two i j p q) a w:=⟨h1,h2⟩
theorem eP {P:Program}{l:List Oper}{Q:Exit->Act->World->Prop}{S:World->Prop}{a:Act}{w:World}(h:Q .normal a w):wpPlan P l (NoPanic Q) S .nil a w:=h
end Go.Proofs.YtcibkdbpicledaaGreatDoor
namespace Go.Proofs.YtcibkdbpicledaaGreatDoor.Qx
open Go Go.RowKit Qw Qu
def iI(Q:Exit->Act->World->Prop):Exit->Act->World->Prop
 | .normal,a,w=>Q .normal a w
 | _,_,_=>False
theorem iI.imp {Q:Exit->Act->World->Prop}:∀(e:Exit) (a:Act) (w:World),iI Q e a w->Q e a w:=fun e a w h=>by
 cases e<;>first | exact h | exact(h:False).elim
theorem iI.shut {Q:Exit->Act->World->Prop}:¬LetsOut (iI Q):=fun⟨_,_,h⟩=>h
theorem wM {n:Nat}{P:Program}{row:String}{args:Array Value}{w:World}{R:Value->World->Prop}(h:Rows P row args w R):RowsIn Fence.wide n P row args w R:=
 fun c cs _=>let ⟨v,w',r,s⟩:=h c cs;⟨v,w',r,stepsIn_wide.2 s⟩
section
variable {P:Program}{ops:Array Oper}{md:Region.Mode}{S:World->Prop}{Q:Exit->Act->World->Prop}{l n:Nat}
theorem Ff {o:Oper}{a:Act}{w:World}{K:Act->World->Prop}(hnd:∀c,o.op≠ .defer c)(h:o.wp P a w K Q):o.wpIn (Fence.wide.inRound l) n P a w K Q:=by
 refine⟨fun _ _=>trivial,?_⟩;rw[Oper.semAt_eq _ _ _ hnd];unfold Oper.wp at h;generalize (execOp a.eval o).run P w=r at h⊢
 cases r with
 | ok x w'=>
  cases x with
  | value v=>exact h
  | skip=>exact h
  | defer d=>exact h
  | enter f args=>exact⟨fun hd=>(by cases hd),(callsIn_wide.2 h:CallsIn Fence.wide (n-1) P f args w' _)⟩
  | row row args=>exact⟨fun hd=>(by cases hd),wM h⟩
  | _=>exact(h:False).elim
 | halt x w'=>
  cases x<;>first | exact h | exact(h:False).elim
theorem pp(hnd:kl ops=true)(hl:¬LetsOut Q):∀(fuel:Nat) (listed:Array Bool) (a:Act) (w:World),wpAnyH P md ops Q S fuel listed a w->wpAnyIn (Fence.wide.inRound l) n P md ops Q fuel listed a w
 | 0,_,_,_,h=>h
 | fuel+1,listed,a,w,h=>by
  refine⟨h.1,fun i hi=>?_⟩;have h2:=h.2 i hi;unfold wpOp at h2;unfold wpOpIn;split
  ·rename_i ho;simp only[ho] at h2;exact pp hnd hl fuel _ _ _ h2.2
  ·rename_i o ho;simp only[ho] at h2;split
   ·rename_i hw;simp only[hw,if_true] at h2;rcases h2 with h2 | h2
    ·exact Ff (rL hnd ho) (Oper.wp_mono (fun a' w' h'=>pp hnd hl fuel _ _ _ h'.2) h2)
    ·exact absurd h2.2 hl
   ·rename_i hw;simp only[hw] at h2;exact⟨fun _ _=>trivial,pp hnd hl fuel _ _ _ h2.2⟩
end
end Qx
open Qw Qu Qx
theorem yg {P:Program}{id r n:Nat}{Q:Exit->Act->World->Prop}{a:Act}{w:World}{l:List Oper}(I:World->Prop)(p:Plan)(hnd:kl l.toArray=true)(hm:P.follows .mixedOrders=true)(hB:lexPlanB .any l.toArray p=true)
 (hI:I w.drew) (h:wpPlan P l (iI Q) (FG I) p a w.drew):(Code.region id l.toArray true).wpIn (Fence.wide.inRound r) n P Q a w:=by
 simp only[lexPlanB,aI,decide_eq_true_eq] at hB;obtain⟨⟨ai,hn⟩,ad⟩:=hB;have hS:FG I w.drew:=⟨⟨_,hI⟩,rfl⟩;have:=wpAnyH_plan (md:=.any) (Q:=iI Q) ai (fun _ _ _ _ _ h=>(h:False).elim) p _ a w.drew ad hS h;rw[hn] at this;exact Code.wpIn_mono iI.imp (wpIn_region_any hm (pp hnd iI.shut _ _ _ _ this))
theorem jy {P:Program}{l:List Oper}{Q:Exit->Act->World->Prop}{S:World->Prop}{a:Act}{w:World}(h:Q .normal a w):wpPlan P l (iI Q) S .nil a w:=h
end Go.Proofs.YtcibkdbpicledaaGreatDoor
namespace Go.Proofs.YtcibkdbpicledaaGreatDoor
open Go.RowKit Tryz Go.BigFrame Go.Maps Go.WideMaps Lf
variable{l:List Nat}{t:Nat}{v:Value}{w:World}
structure Lf.BN where
 keys:List Nat
 vals:List Nat
 kids:List Nat
 size:Nat
def Lf.isDeg(t:Int):Bool:=decide (2<=t) && decide (t<=16)
def FD(w:World)(v:Value)(l:List Nat):Prop:=∃A c,v=.slice A l.length c/\∀(i:Nat) (h:i<l.length),∃g o,A=some ⟨g,o,none⟩/\w.cell? ⟨g,o+i,none⟩=some (.int .u64 (l[i]:Nat))
theorem fK{g o:Nat}(h:w.cell? ⟨g,o,none⟩=some v):g<w.heap.size:=by
 unfold World.cell? at h
 split at h
 ·rename_i heq;exact(gl heq)
 ·cases h
theorem FD.below{w w':World}(h:FD w v l)(hb:Below w.heap.size w w'):FD w' v l:=by
 obtain⟨A,c,rfl,hc⟩:=h;refine⟨A,c,rfl,fun i hi=>?_⟩;obtain⟨g,o,rfl,h1⟩:=hc i hi;exact⟨g,o,rfl,(hb.cell (p:=⟨g,_,none⟩) (fK h1)).trans h1⟩
theorem FD.nil(w:World):FD w (.slice none 0 0) []:=⟨none,0,rfl,fun i hi=>absurd hi (by simp)⟩
theorem qKbaa{P:Prop}(h:P:=by
 go_enter func176,ntmps176;go_wp2_with fail;go_ret;exact⟨by rw[HQ.out];rfl,rfl⟩):P:=h
theorem nP(t:Int)(w:World):
 Ct 176 #[.int .i64 t] w fun e w'=>e=.returned (.bool (isDeg t))/\w=w':=by
 by_cases h1:2<=t
 ·by_cases h2:t<=16
  ·have HQ:=If (show isDeg t=true by unfold isDeg;rw[decide_eq_true h1,decide_eq_true h2];rfl);exact qKbaa
  ·have HQ:=If (show isDeg t=false by unfold isDeg;rw[decide_eq_false h2];simp);exact qKbaa
 ·have HQ:=If (show isDeg t=false by unfold isDeg;rw[decide_eq_false h1];rfl);exact qKbaa
theorem Bi(h:FD w v l)(hl:l.length<=100000):
 Ct 260 #[v,.int .u64 0] w fun e w'=>∃k:Int,e=.returned (.int .i64 k)/\(decide (0<=k)=l.contains 0)/\w=w':=by
 obtain⟨A,c,rfl,hc⟩:=h;obtain⟨n,hn⟩:=Ii l.length;rw[hn] at hl;have H:=kq2 hc hn;rw[hn];clear hc hn;go_enter func260,ntmps260;go_wp2_with fail
 go_loopw [5,8] (fun _ i wr=>∃k:Nat,k<=n/\i=.int .i64 k/\wr=w/\∀(j:Nat) (hj:j<l.length),j<k->l[j]≠0) (fun _ i _=>n-(intOf i).toNat)
 case atStart=>exact⟨0,by omega,rfl,rfl,fun j _ hj=>absurd hj (by omega)⟩
 case round=>
  obtain⟨k,hk,rfl,rfl,ai⟩:=hrel
  by_cases hlt:k<n
  ·have ap:(k:Int)<n:=by omega
   have al:k<l.length:=by rw[H.b];exact hlt
   obtain⟨g,o,rfl,c1⟩:=H.a k al
   by_cases h0:l[k]=0
   ·have ad:l.contains 0=true:=by rw[db,<-h0];exact aG al
    rw[h0] at c1;have HK:=If ad;clear ai ad h0;go_wp2_with fail;go_ret;exact⟨k,rfl,by rw[HK.out];simp,rfl⟩
   ·have ao:((l[k]:Nat):Int)≠0:=by omega
    have an:∀(j:Nat) (hj:j<l.length),j<k+1->l[j]≠0:=fun j hj h1=>by
     rcases cg j k with h2 | h2
     ·exact ai j hj h2
     ·obtain rfl:j=k:=by omega
      exact h0
    have HK:=If an;clear ai an h0;generalize l[k]=x at*;have ar:¬x=0:=by omega
    have au:¬0=x:=by omega
    have a0:((0:Int)==(x:Int))=false:=by simp;omega
    clear ao;go_wp2_with fail;exact⟨⟨k+1,by omega,by simp,trivial,HK.out⟩,by simp[intOf];omega⟩
  ·obtain rfl:k=n:=by omega
   have ad:l.contains 0=false:=by
    rw[dP];intro h;rw[db] at h;obtain⟨j,hj,e⟩:=co.1 h;exact ai j hj (by rw[<-H.b];exact hj) e
   have HK:=If ad;clear ai ad;go_wp2_with fail;go_ret;exact⟨-1,rfl,by rw[HK.out];simp,rfl⟩
theorem Bg(h:FD w v l)(hl:l.length<=100000):
 Ct 244 #[v,.int .u64 0] w fun e w'=>e=.returned (.bool (l.contains 0))/\w=w':=by
 have HG:=If (Bi h hl);clear h hl;go_enter func244,ntmps244;go_wp2_with fail;refine HG.out.mono ?_;rintro e w1 ⟨k,rfl,hk,rfl⟩;have HK:=If hk;clear hk;go_wp2_with fail;go_ret;exact⟨by rw[<-HK.out];rfl,rfl⟩
def eC(vk vv vc:Value)(s:Nat):Value:=.agg #[vk,vv,vc,.int .u64 s]
structure iU (t:Nat) (n:BN):Prop where
 lo:2<=t
 hi:t<=16
 many:n.keys.length<=2*t-1
 vals:n.vals.length=n.keys.length
 kids:n.kids.length=0\/(n.kids.length=n.keys.length+1/\n.kids.contains 0=false)
theorem om(h1:2<=t)(h2:t<=16):isDeg (t:Int)=true:=by unfold isDeg;rw[decide_eq_true (by omega),decide_eq_true (by omega)];rfl
theorem pW(t:Nat)(h1:2<=t)(h2:t<=16)(w:World):
 Ct 155 #[.int .i64 t] w fun e w'=>e=.returned (.int .i64 (6*(t:Int)))/\w=w':=by
 have HG:=If (om h1 h2▸nP (t:Int) w);go_enter func155,ntmps155;go_wp2_with fail;refine HG.out.mono ?_;rintro e w1 ⟨rfl,rfl⟩;go_wp2_with fail;go_ret;exact⟨rfl,rfl⟩
theorem pV{n:BN}{vk vv vc:Value}(hn:iU t n)(hk:FD w vk n.keys)(hv:FD w vv n.vals)(hc:FD w vc n.kids):
 Cb 215 #[.int .i64 t,eC vk vv vc n.size] w (.bool true):=by
 obtain⟨h1,h2,h3,h4,h5⟩:=hn;unfold eC;have ad:=fun W (hW:Below w.heap.size w W)=>Bg (hc.below hW) (by omega);have ai:=fun W=>om h1 h2▸nP (t:Int) W;obtain⟨Ak,ck,rfl,-⟩:=hk;obtain⟨Av,cv,rfl,-⟩:=hv;obtain⟨Ac,cc,rfl,-⟩:=hc;rw[h4];obtain⟨k,al⟩:=Ii n.keys.length;rw[al] at h3 h5⊢;generalize n.size=sz at*;have an:(k:Int)<=2*(t:Int)-1:=by omega
 have ao:decide ((k:Int)<=2*(t:Int)-1)=true:=decide_eq_true an
 rcases h5 with h5 | ⟨h5,h6⟩
 ·rw[h5] at ad⊢;have B0:=(aa w.heap.size w).alloc Ih (.cells #[.slice Ak k ck,.slice Av k cv,.slice Ac 0 cc,.int .u64 sz] 286);have q0:=heap_alloc_new w (.cells #[.slice Ak k ck,.slice Av k cv,.slice Ac 0 cc,.int .u64 sz] 286);obtain⟨c0,c1,c2,c3⟩:=Fy q0;have HG:=kq2 ai B0;clear ai B0 ad q0 al h4 h5;go_enter func215,ntmps215;go_wp2_with fail;refine(HG.a _).mono ?_;rintro e w1 ⟨rfl,rfl⟩;go_wp2_with fail;go_ret;exact⟨rfl,HG.b⟩
 ·rw[h6] at ad;rw[h5] at ad⊢;have hq:(((k+1:Nat):Int)==0)=false:=by simp;omega
  have ap:((k+1:Nat):Int)=(k:Int)+1:=by omega
  have ar:¬((k:Int)+1=0):=by omega
  have B0:=(aa w.heap.size w).alloc Ih (.cells #[.slice Ak k ck,.slice Av k cv,.slice Ac (k+1) cc,.int .u64 sz] 286);have q0:=heap_alloc_new w (.cells #[.slice Ak k ck,.slice Av k cv,.slice Ac (k+1) cc,.int .u64 sz] 286);obtain⟨c0,c1,c2,c3⟩:=Fy q0;have HG:=kq3 ai B0 ad;clear ai B0 ad q0 al h4 h5 h6;go_enter func215,ntmps215;go_wp2_with fail;refine(HG.c _ HG.b).mono ?_;rintro e w1 ⟨rfl,rfl⟩;go_wp2_with fail;refine(HG.a _).mono ?_;rintro e w2 ⟨rfl,rfl⟩;go_wp2_with fail;go_ret;exact⟨rfl,HG.b⟩
def Lf.wAt(t:Nat)(n:BN)(a b j:Nat):Nat:=
 if j=0 then n.keys.length else if j=1 then n.size
 else if j<2+2*a then(if j % 2=0 then n.keys.getD ((j-2) / 2) 0 else n.vals.getD ((j-2) / 2) 0)
 else if 4*t<=j/\j<4*t+b then n.kids.getD (j-4*t) 0 else 0
def Lf.bnWords(t:Nat)(n:BN):List Nat:=(List.range (6*t)).map (wAt t n n.keys.length n.kids.length)
theorem jJ(t:Nat)(n:BN):(bnWords t n).length=6*t:=by simp[bnWords]
def gO(N:Nat)(f:Nat->Nat):Array Value:=((List.range N).map fun j=>Value.int .u64 (f j)).toArray
theorem mh{N j:Nat}(f:Nat->Nat)(h:j<N):(gO N f)[j]?=some (.int .u64 (f j)):=by
 unfold gO;rw[cz,bg,bO h];rfl
theorem ni{N i:Nat}(f:Nat->Nat)(v:Nat):(gO N f).setIfInBounds i (.int .u64 v)=gO N (fun j=>if j=i then v else f j):=by
 unfold gO;refine Array.ext_getElem? fun j=>?_;rw[List.setIfInBounds_toArray,cz,cz]
 by_cases hj:j<N
 ·by_cases e:i=j
  ·subst e;rw[cy (by simpa using hj),bg,bO hj]
   simp
  ·rw[cD e,bg,bg,bO hj]
   simp[show ¬j=i from fun q=>e q.symm]
 ·rw[aH (by simp;omega),aH (by simp;omega)]
theorem sh{N:Nat}{f g:Nat->Nat}(h:∀j,j<N->f j=g j):gO N f=gO N g:=by
 unfold gO
 congr 1
 refine aR fun j hj=>?_;rw[h j (bJ.1 hj)]
theorem Ec(N:Nat):((List.replicate N 0).map fun x:Nat=>Value.int .u64 x).toArray=gO N fun _=>0:=by
 unfold gO
 congr 1
 refine dz fun j=>?_
 by_cases hj:j<N
 ·rw[bg,bg,bO hj,List.getElem?_replicate,if_pos hj]
  rfl
 ·rw[aH (by simp;omega),aH (by simp;omega)]
theorem yC(A:Option Addr)(n c:Nat)(w:World):
 Ct 245 #[.slice A n c] w fun e w'=>e=.returned (.func (.func 261) #[] #[PV w.heap.size])/\w'=w.alloc (.cells #[.slice A n c] 162):=by
 go_enter func245,ntmps245
 go_wp2
 go_ret;exact⟨rfl,rfl⟩
structure j7 (t:Nat) (n:BN) (a b:Nat) (w W:World) (vk vv vc:Value):Prop where
 row:W.heap[w.heap.size+1]?=some (.cells (gO (6*t) (wAt t n a b)) 82 (0,0))
 box:W.heap[w.heap.size]?=some (.cells #[vk,vv,vc,.int .u64 n.size] 286 (0,0))
 below:Below w.heap.size w W
theorem j7.two{n:BN}{a b i j x y:Nat}{w W W':World}{vk vv vc:Value}(h:j7 t n a b w W vk vv vc)(a' b':Nat)(hW:W'.heap=((W.setCell ⟨w.heap.size+1,i,none⟩ (.int .u64 x)).setCell ⟨w.heap.size+1,j,none⟩ (.int .u64 y)).heap)(ho:W'.os=W.os)(ht:W'.tape=W.tape)(hu:W'.output=W.output)
 (hr:∀q,q<6*t->wAt t n a' b' q=if q=j then y else if q=i then x else wAt t n a b q):j7 t n a' b' w W' vk vv vc:=by
 have hB:=(h.below.setCell (p:=⟨w.heap.size+1,i,none⟩) (bM _) (.int .u64 x)).setCell (p:=⟨w.heap.size+1,j,none⟩) (bM _) (.int .u64 y);refine⟨?_,?_,⟨ho.trans h.below.os,ht.trans h.below.tape,hu.trans h.below.output,by rw[hW];exact hB.size,fun k hk=>by rw[hW];exact hB.block k hk⟩⟩
 ·rw[hW,heap_setCell (heap_setCell h.row),ni,ni,sh hr]
 ·rw[hW,FB (by omega),FB (by omega)];exact h.box
theorem j7.one{n:BN}{a b i x:Nat}{w W W':World}{vk vv vc:Value}(h:j7 t n a b w W vk vv vc)(a' b':Nat)(hW:W'.heap=(W.setCell ⟨w.heap.size+1,i,none⟩ (.int .u64 x)).heap)(ho:W'.os=W.os)(ht:W'.tape=W.tape)(hu:W'.output=W.output)
 (hr:∀q,q<6*t->wAt t n a' b' q=if q=i then x else wAt t n a b q):j7 t n a' b' w W' vk vv vc:=by
 have hB:=h.below.setCell (p:=⟨w.heap.size+1,i,none⟩) (bM _) (.int .u64 x);refine⟨?_,?_,⟨ho.trans h.below.os,ht.trans h.below.tape,hu.trans h.below.output,by rw[hW];exact hB.size,fun k hk=>by rw[hW];exact hB.block k hk⟩⟩
 ·rw[hW,heap_setCell h.row,ni,sh hr]
 ·rw[hW,FB (by omega)];exact h.box
theorem tS{n:BN}{vk vv vc:Value}(hn:iU t n)(hk:FD w vk n.keys)(hv:FD w vv n.vals)(hc:FD w vc n.kids):
 Ct 216 #[.int .i64 t,eC vk vv vc n.size] w fun e w'=>∃B,e=.returned (.func (.func 261) #[] #[PV B])/\w.heap.size<=B/\w'.heap[B]?=some (.cells #[.slice (some ⟨w.heap.size+1,0,none⟩) (6*t) (6*t)] 162 (0,0))/\
  w'.heap[w.heap.size+1]?=some (.cells (gO (6*t) (wAt t n n.keys.length n.kids.length)) 82 (0,0))/\Below w.heap.size w w':=by
 obtain⟨h1,h2,h3,h4,h5⟩:=hn;unfold eC;have a1:=vB (6*t) (by omega);rw[Ec] at a1;obtain⟨Ak,ck,rfl,hk⟩:=hk;obtain⟨Av,cv,rfl,hv⟩:=hv;obtain⟨Ac,cc,rfl,hc⟩:=hc;obtain⟨k,ar⟩:=Ii n.keys.length;obtain⟨c,ap⟩:=Ii n.kids.length;rw[ar] at h3 h4 h5;rw[ap] at h5;have bc:c<=2*t:=by rcases h5 with g | ⟨g,_⟩<;>omega
 have HB:=kq6 ar h4 ap hk hv hc;rw[h4,ar,ap];clear hk hv hc ar h4 ap h5;generalize a6:n.size=sz;have HS:=If a6;clear a6;have q0:=heap_alloc_new w (.cells #[.slice Ak k ck,.slice Av k cv,.slice Ac c cc,.int .u64 sz] 286);have B0:=(aa w.heap.size w).alloc Ih (.cells #[.slice Ak k ck,.slice Av k cv,.slice Ac c cc,.int .u64 sz] 286);have z0:(w.alloc (.cells #[.slice Ak k ck,.slice Av k cv,.slice Ac c cc,.int .u64 sz] 286)).heap.size=w.heap.size+1:=by simp
 have q1:=heap_alloc_new (w.alloc (.cells #[.slice Ak k ck,.slice Av k cv,.slice Ac c cc,.int .u64 sz] 286)) (.cells (gO (6*t) fun _=>0) 82);have B1:=B0.alloc B0.size (.cells (gO (6*t) fun _=>0) 82);have a4:=(((aa (w.alloc (.cells #[.slice Ak k ck,.slice Av k cv,.slice Ac c cc,.int .u64 sz] 286)).heap.size (w.alloc (.cells #[.slice Ak k ck,.slice Av k cv,.slice Ac c cc,.int .u64 sz] 286))).alloc Ih (.cells (gO (6*t) fun _=>0) 82)).block w.heap.size (by omega)).trans q0;rw[z0] at q1;have a2:=a1 (w.alloc (.cells #[.slice Ak k ck,.slice Av k cv,.slice Ac c cc,.int .u64 sz] 286));rw[z0] at a2;have bd:IntKind.i64.wrap (6*(t:Int))=6*(t:Int):=aD _ (by omega);have a9:((6*t:Nat):Int)=6*(t:Int):=by omega
 rw[a9] at a2;have bf:(0:Int)<6*(t:Int):=by omega
 have bj:(1:Int)<6*(t:Int):=by omega
 clear a1 q0 B0;go_enter func216,ntmps216;go_wp2_with fail;clear a2;generalize a7:(w.alloc (.cells #[.slice Ak k ck,.slice Av k cv,.slice Ac c cc,.int .u64 sz] 286)).alloc (.cells (gO (6*t) fun _=>0) 82)=W1 at*;obtain⟨c0,c1,c2,c3⟩:=Fy a4;have r0:W1.cell? ⟨w.heap.size+1,0,none⟩=some (.int .u64 0):=by rw[Fs q1,mh _ (by omega)];rfl
 have r1:W1.cell? ⟨w.heap.size+1,1,none⟩=some (.int .u64 0):=by rw[Fs q1,mh _ (by omega)];rfl
 have f0:W1.frozen? ⟨w.heap.size+1,0,none⟩=false:=AT q1;have f1:W1.frozen? ⟨w.heap.size+1,1,none⟩=false:=AT q1;have ba:¬(w.heap.size=w.heap.size+1):=by omega
 go_region
 go_wp2_with fail;go_name_world W HW
 have hW:j7 t n 0 0 w W (.slice Ak k ck) (.slice Av k cv) (.slice Ac c cc):=by
  refine⟨?_,?_,?_⟩
  ·rw[<-HW];show ((W1.setCell ⟨w.heap.size+1,0,none⟩ (.int .u64 k)).setCell ⟨w.heap.size+1,1,none⟩ (.int .u64 sz)).heap[w.heap.size+1]?=_
   rw[heap_setCell (heap_setCell q1),ni,ni];congr 2
   refine sh fun q hq=>?_;unfold wAt;rw[HB.a,HS.out];by_cases e1:q=1
   ·rw[if_pos e1,if_neg (by omega),if_pos e1]
   ·rw[if_neg e1];by_cases e0:q=0
    ·rw[if_pos e0,if_pos e0]
    ·rw[if_neg e0,if_neg e0,if_neg e1,if_neg (by omega),if_neg (by omega)]
  ·rw[<-HW];show ((W1.setCell ⟨w.heap.size+1,0,none⟩ (.int .u64 k)).setCell ⟨w.heap.size+1,1,none⟩ (.int .u64 sz)).heap[w.heap.size]?=_
   rw[FB (by omega),FB (by omega),HS.out];exact a4
  ·rw[<-HW];have h:=(B1.setCell (p:=⟨w.heap.size+1,0,none⟩) (bM _) (.int .u64 k)).setCell (p:=⟨w.heap.size+1,1,none⟩) (bM _) (.int .u64 sz);exact⟨h.os,h.tape,h.output,h.size,h.block⟩
 clear HW;have HA:=If hW;clear hW r0 r1 f0 f1 ba c0 c1 c2 c3 a4 q1 a7 B1;go_loopw [6,25] (fun _ i wr=>∃j:Nat,j<=k/\i=.int .i64 j/\j7 t n j 0 w wr (.slice Ak k ck) (.slice Av k cv) (.slice Ac c cc)) (fun _ i _=>k-(intOf i).toNat)
 case atStart=>exact⟨0,by omega,rfl,HA.out⟩
 case round=>
  obtain⟨j,hj,rfl,hA⟩:=hrel;by_cases hlt:j<k
  ·have a':(j:Int)<k:=by omega
   have ad:=hA.box;rw[HS.out] at ad;obtain⟨c0,c1,c2,c3⟩:=Fy ad;have ik:j<n.keys.length:=by rw[HB.a];exact hlt
   have iv:j<n.vals.length:=by rw[HB.b];exact hlt
   obtain⟨gk,ok,rfl,ai⟩:=HB.d j ik;obtain⟨gv,ov,rfl,a0⟩:=HB.e j iv;have lk:=fK ai;have lv:=fK a0;have dk:=(hA.below.cell (p:=⟨gk,ok+j,none⟩) lk).trans ai;have dv:=(hA.below.cell (p:=⟨gv,ov+j,none⟩) lv).trans a0;obtain⟨xk,al⟩:∃x,n.keys[j]=x:=⟨_,rfl⟩;obtain⟨xv,a3⟩:∃x,n.vals[j]=x:=⟨_,rfl⟩;rw[al] at dk;rw[a3] at dv;have ao:n.keys.getD j 0=xk:=by rw[aj,af ik,<-al];rfl
   have a5:n.vals.getD j 0=xv:=by rw[aj,af iv,<-a3];rfl
   have z2:∀q,2+2*j<=q->q<4*t->wAt t n j 0 q=0:=fun q h1 h2=>by
    unfold wAt;rw[if_neg (by omega),if_neg (by omega),if_neg (by omega),if_neg (by omega)]
   have r0:wr.cell? ⟨w.heap.size+1,2+2*j,none⟩=some (.int .u64 0):=by
    rw[Fs hA.row,mh _ (by omega),z2 _ (by omega) (by omega)];rfl
   have r1:wr.cell? ⟨w.heap.size+1,2+2*j+1,none⟩=some (.int .u64 0):=by
    rw[Fs hA.row,mh _ (by omega),z2 _ (by omega) (by omega)];rfl
   have f0:wr.frozen? ⟨w.heap.size+1,2+2*j,none⟩=false:=AT hA.row;have f1:wr.frozen? ⟨w.heap.size+1,2+2*j+1,none⟩=false:=AT hA.row;have n1:¬(w.heap.size=w.heap.size+1):=by omega
   have n2:¬(gk=w.heap.size+1):=by omega
   have n3:¬(gv=w.heap.size+1):=by omega
   have a8:2+2*(j:Int)<6*(t:Int):=by omega
   have bb:2+2*(j:Int)+1<6*(t:Int):=by omega
   have HK:=kq4 hA ao a5 hlt;clear hA ad ai a0 z2 al a3 ao a5 lk lv;go_wp2_with fail;go_region
   have HN:=fun W' h1 h2 h3 h4=>HK.a.two (i:=2+2*j) (j:=2+2*j+1) (x:=xk) (y:=xv) (W':=W') (j+1) 0 h1 h2 h3 h4 (fun q hq=>by
    unfold wAt;by_cases e1:q=2+2*j+1
    ·rw[if_pos e1,if_neg (by omega),if_neg (by omega),if_pos (by omega),if_neg (by omega),show (q-2) / 2=j by omega];exact HK.c
    ·rw[if_neg e1];by_cases e0:q=2+2*j
     ·rw[if_pos e0,if_neg (by omega),if_neg (by omega),if_pos (by omega),if_pos (by omega),show (q-2) / 2=j by omega];exact HK.b
     ·rw[if_neg e0];by_cases g0:q=0
      ·rw[if_pos g0,if_pos g0]
      ·rw[if_neg g0,if_neg g0];by_cases g1:q=1
       ·rw[if_pos g1,if_pos g1]
       ·rw[if_neg g1,if_neg g1];by_cases g2:q<2+2*j
        ·rw[if_pos (by omega),if_pos g2]
        ·rw[if_neg (by omega),if_neg g2])
   have au:=If HN;clear HN r0 r1 f0 f1 n1 n2 n3 c0 c1 c2 c3 dk dv;go_wp2_with fail;go_roundw
   case rel=>exact⟨j+1,HK.d,by simp,au.out _ rfl rfl rfl rfl⟩
   case measure=>have:=HK.d;simp[intOf];omega
  ·obtain rfl:j=k:=by omega
   have ad:=hA.box;rw[HS.out] at ad;obtain⟨c0,c1,c2,c3⟩:=Fy ad;have HK:=If hA;clear hA ad;go_wp2_with fail;clear c0 c1 c2 c3;go_loopw [7,8,53] (fun _ _ i wr=>∃q:Nat,q<=c/\i=.int .i64 q/\j7 t n j q w wr (.slice Ak j ck) (.slice Av j cv) (.slice Ac c cc)) (fun _ _ i _=>c-(intOf i).toNat)
   case atStart=>exact⟨0,by omega,rfl,HK.out⟩
   case round=>
    obtain⟨q,hq,rfl,hA⟩:=hrel;by_cases hlt:q<c
    ·have a':(q:Int)<c:=by omega
     have ik:q<n.kids.length:=by rw[HB.c];exact hlt
     obtain⟨gk,ok,rfl,ai⟩:=HB.f q ik;have lk:=fK ai;have dk:=(hA.below.cell (p:=⟨gk,ok+q,none⟩) lk).trans ai;obtain⟨xk,al⟩:∃x,n.kids[q]=x:=⟨_,rfl⟩;rw[al] at dk;have ao:n.kids.getD q 0=xk:=by rw[aj,af ik,<-al];rfl
     have r0:wr.cell? ⟨w.heap.size+1,4*t+q,none⟩=some (.int .u64 0):=by
      rw[Fs hA.row,mh _ (by omega)];unfold wAt;rw[if_neg (by omega),if_neg (by omega),if_neg (by omega),if_neg (by omega)];rfl
     have f0:wr.frozen? ⟨w.heap.size+1,4*t+q,none⟩=false:=AT hA.row;have a8:4*(t:Int)+q<6*(t:Int):=by omega
     have an:=kq3 hA ao hlt;clear hA ai al ao lk;go_wp2_with fail;have HN:=fun W' h1 h2 h3 h4=>an.a.one (i:=4*t+q) (x:=xk) (W':=W') j (q+1) h1 h2 h3 h4 (fun p hp=>by
      unfold wAt;by_cases e1:p=4*t+q
      ·rw[if_pos e1,if_neg (by omega),if_neg (by omega),if_neg (by omega),if_pos (by omega),show p-4*t=q by omega];exact an.b
      ·rw[if_neg e1];by_cases g0:p=0
       ·rw[if_pos g0,if_pos g0]
       ·rw[if_neg g0,if_neg g0];by_cases g1:p=1
        ·rw[if_pos g1,if_pos g1]
        ·rw[if_neg g1,if_neg g1];by_cases g2:p<2+2*j
         ·rw[if_pos g2,if_pos g2]
         ·rw[if_neg g2,if_neg g2];by_cases g3:4*t<=p/\p<4*t+q
          ·rw[if_pos (by omega),if_pos g3]
          ·rw[if_neg (by omega),if_neg g3])
     have au:=If HN;clear HN r0 f0 dk;go_roundw
     case rel=>exact⟨q+1,an.c,by simp,au.out _ rfl rfl rfl rfl⟩
     case measure=>have:=an.c;simp[intOf];omega
    ·obtain rfl:q=c:=by omega
     have an:=If hA;clear hA;go_wp2_with fail;refine(yC _ _ _ wr).mono ?_;rintro e w2 ⟨rfl,rfl⟩;go_wp2_with fail;go_ret;have hA:=an.out;have hB:=(aa wr.heap.size wr).alloc Ih (.cells #[.slice (some ⟨w.heap.size+1,0,none⟩) (6*t) (6*t)] 162);refine⟨_,rfl,hA.below.size,heap_alloc_new _ _,?_,hA.below.trans (hB.mono hA.below.size)⟩;exact(hB.block _ (gl hA.row)).trans hA.row
end Go.Proofs.YtcibkdbpicledaaGreatDoor
namespace Go.Proofs.YtcibkdbpicledaaGreatDoor.Qy
open Go Go.RowKit Qw Qu Qx
section
variable {P:Program}{ops:Array Oper}{md:Region.Mode}{S:World->Prop}{Q:Exit->Act->World->Prop}{n:Nat}
theorem Fd {o:Oper}{a:Act}{w:World}{K:Act->World->Prop}(hnd:∀c,o.op≠ .defer c)(h:o.wp P a w K Q):o.wpIn Fence.wide n P a w K Q:=by
 refine⟨fun _ _=>trivial,?_⟩;rw[Oper.semAt_eq _ _ _ hnd];unfold Oper.wp at h;generalize (execOp a.eval o).run P w=r at h⊢
 cases r with
 | ok x w'=>
  cases x with
  | value v=>exact h
  | skip=>exact h
  | defer d=>exact h
  | enter f args=>exact⟨fun hd=>(by cases hd),(callsIn_wide.2 h:CallsIn Fence.wide (n-1) P f args w' _)⟩
  | row row args=>exact⟨fun hd=>(by cases hd),wM h⟩
  | _=>exact(h:False).elim
 | halt x w'=>
  cases x<;>first | exact h | exact(h:False).elim
theorem pn(hnd:kl ops=true)(hl:¬LetsOut Q):∀(fuel:Nat) (listed:Array Bool) (a:Act) (w:World),wpAnyH P md ops Q S fuel listed a w->wpAnyIn Fence.wide n P md ops Q fuel listed a w
 | 0,_,_,_,h=>h
 | fuel+1,listed,a,w,h=>by
  refine⟨h.1,fun i hi=>?_⟩;have h2:=h.2 i hi;unfold wpOp at h2;unfold wpOpIn;split
  ·rename_i ho;simp only[ho] at h2;exact pn hnd hl fuel _ _ _ h2.2
  ·rename_i o ho;simp only[ho] at h2;split
   ·rename_i hw;simp only[hw,if_true] at h2;rcases h2 with h2 | h2
    ·exact Fd (rL hnd ho) (Oper.wp_mono (fun a' w' h'=>pn hnd hl fuel _ _ _ h'.2) h2)
    ·exact absurd h2.2 hl
   ·rename_i hw;simp only[hw] at h2;exact⟨fun _ _=>trivial,pn hnd hl fuel _ _ _ h2.2⟩
end
end Qy
open Qw Qu Qx Qy
theorem tg {P:Program}{id n:Nat}{Q:Exit->Act->World->Prop}{a:Act}{w:World}{l:List Oper}(I:World->Prop)(p:Plan)(hnd:kl l.toArray=true)(hm:P.follows .mixedOrders=true)(hB:lexPlanB .any l.toArray p=true)
 (hI:I w.drew) (h:wpPlan P l (iI Q) (FG I) p a w.drew):(Code.region id l.toArray true).wpIn Fence.wide n P Q a w:=by
 simp only[lexPlanB,aI,decide_eq_true_eq] at hB;obtain⟨⟨ai,hn⟩,ad⟩:=hB;have hS:FG I w.drew:=⟨⟨_,hI⟩,rfl⟩;have:=wpAnyH_plan (md:=.any) (Q:=iI Q) ai (fun _ _ _ _ _ h=>(h:False).elim) p _ a w.drew ad hS h;rw[hn] at this;exact Code.wpIn_mono iI.imp (wpIn_region_any hm (pn hnd iI.shut _ _ _ _ this))
