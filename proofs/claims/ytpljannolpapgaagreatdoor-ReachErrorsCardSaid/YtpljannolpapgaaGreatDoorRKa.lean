/- Texts as words: what is laid byte by byte, and what is read again: plain. -/
import Derived.Test.YtpljannolpapgaaGreatDoorRLf
import Derived.Lib.ItoaWalk
import Derived.Deep.OwnRows
import Derived.Laws.IdiomStrings
import Derived.Deep.RegionHeld3
import Derived.Maps.OwnIn
set_option maxRecDepth 100000
set_option maxHeartbeats 1600000
namespace Go.Proofs.YtpljannolpapgaaGreatDoor.Lf
def FN(l:List UInt8)(i:Nat):Nat:=(l.getD i 0).toNat
theorem mC(l:List UInt8)(i:Nat):FN l i<256:=(l.getD i 0).toNat_lt
def gx(l:List UInt8)(j:Nat):Nat->Nat
 | 0=>0
 | r+1=>gx l j r*256+FN l (8*j+r)
theorem wj(l:List UInt8)(j:Nat):∀r,gx l j r<256^r
 | 0=>by simp[gx]
 | r+1=>by
  have:=wj l j r;grind [mC,gx,Nat.pow_succ]
theorem GS(l:List UInt8)(j:Nat):Kk (l.drop (8*j))=gx l j 8:=by
 have h:∀q,(l.drop (8*j)).getD q 0=l.getD (8*j+q) 0:=fun q=>by
  grind
 simp only[Kk,show List.range 8=[0,1,2,3,4,5,6,7] from rfl,List.foldl_cons,List.foldl_nil,h]
 simp[gx,FN]
def cell(l:List UInt8)(j r:Nat):Nat:=gx l j r*256^(8-r)
theorem cell_lt(l:List UInt8)(j r:Nat)(h:r<=8):cell l j r<2^64:=by
 have h2:256^r*256^(8-r)=2^64:=by rw[<-Nat.pow_add,show r+(8-r)=8 by omega]
 have h3:0<256^(8-r):=Nat.pow_pos d_;rw[<-h2];exact cY (wj l j r) h3
theorem tY(l:List UInt8)(j r:Nat)(h:r<8):cell l j (r+1)=cell l j r+FN l (8*j+r)*2^(8*(7-r)):=by
 have e:256^(8-r)=256*256^(7-r):=by rw[show 8-r=(7-r)+1 by omega,Nat.pow_succ,Nat.mul_comm]
 grind [Nat.pow_mul,cell,gx,Nat.add_mul,Nat.mul_assoc]
theorem Ag(l:List UInt8)(j r:Nat)(h:r<8):cell l j r ||| FN l (8*j+r)*2^(8*(7-r))=cell l j (r+1):=by
 have e:cell l j r=gx l j r<<<(8*(8-r)):=by
  rw[Nat.shiftLeft_eq,Nat.pow_mul]
  rfl
 have h1:FN l (8*j+r)*2^(8*(7-r))<2^(8*(8-r)):=by
  rw[show 8*(8-r)=8+8*(7-r) by omega,Nat.pow_add];exact cY (mC _ _) (Nat.pow_pos d_)
 grind [tY,Nat.shiftLeft_add_eq_or_of_lt]
theorem Ah(l:List UInt8)(j:Nat):cell l j 0=0:=by simp[cell,gx]
theorem Ad(l:List UInt8)(i:Nat)(h:l.length<=i):FN l i=0:=by
 simp[FN,List.getD_eq_getElem?_getD,List.getElem?_eq_none h]
theorem tX(l:List UInt8)(j r:Nat)(h:l.length<=8*j+r):∀d,r+d<=8->cell l j (r+d)=cell l j r
 | 0,_=>rfl
 | d+1,hd=>by
  have:=tY l j (r+d) o_;rw[Ad l _ o_,Nat.zero_mul,Nat.add_zero] at this;rw[<-dE,this];exact tX l j r h d o_
theorem tV(l:List UInt8)(j:Nat):cell l j 8=Kk (l.drop (8*j)):=by rw[GS];simp[cell]
def iC(l:List UInt8)(i:Nat):List Nat:=l.length::(List.range ((l.length+7) / 8)).map fun j=>cell l j (min 8 (i-8*j))
theorem Cd(l:List UInt8)(i:Nat):(iC l i).length=1+(l.length+7) / 8:=by simp[iC];omega
theorem Cg(l:List UInt8):iC l 0=l.length::List.replicate ((l.length+7) / 8) 0:=by
 unfold iC
 congr 1
 apply dC s_;intro n h1 h2
 simp[Ah]
theorem KK(l:List UInt8):iC l l.length=FK l:=by
 unfold iC FK qg
 congr 1
 apply bg;intro j hj;rw[<-tV]
 by_cases h:8*j+8<=l.length
 ·grind
 ·rw[Nat.min_eq_right o_];have:=tX l j (l.length-8*j) o_ (8-(l.length-8*j)) o_
  grind
theorem Cc(l:List UInt8)(i:Nat)(h:i<l.length):(iC l i)[1+i / 8]?=some (cell l (i / 8) (i % 8)):=by
 unfold iC;grind
theorem Cf(l:List UInt8)(i:Nat):iC l (i+1)=(iC l i).set (1+i / 8) (cell l (i / 8) (i % 8+1)):=by
 unfold iC;rw[Nat.add_comm 1,List.set_cons_succ]
 congr 1
 apply dC s_
 grind
theorem Ce(l:List UInt8)(i:Nat)(hl:l.length<2^64):∀x∈iC l i,x<2^64:=by
 grind [iC,cell_lt,Nat.min_le_left]
theorem Ks(l:List UInt8):(FK l).length=1+(l.length+7) / 8:=by rw[<-KK,Cd]
theorem te(l:List UInt8)(h:l.length<=1000):(FK l).length=many l.length:=by
 rw[Ks];unfold many;grind
theorem xZ(l:List UInt8)(hl:l.length<2^64):∀x∈FK l,x<2^64:=by rw[<-KK];exact Ce l _ hl
theorem xY(l:List UInt8)(i:Nat)(h:i<l.length):(FK l)[1+i / 8]?=some (cell l (i / 8) 8):=by
 unfold FK qg;grind [Option.some.injEq,tV]
theorem tW(l:List UInt8)(j:Nat):∀d r,r+d=7->cell l j 8 / 2^(8*d) % 256=FN l (8*j+r):=by
 intro d r hr;have key:∀k,k<=8-(r+1)->gx l j (r+1+k) / 256^k=gx l j (r+1):=by
  intro k
  induction k with
  | zero=>intro _;simp
  | succ k ih=>
   intro hk;rw[show r+1+(k+1)=(r+1+k)+1 by omega];simp only[gx];rw[Nat.pow_succ,Nat.mul_comm (256^k),<-Nat.div_div_eq_div_mul];have hb:=mC l (8*j+(r+1+k));rw[show (gx l j (r+1+k)*256+FN l (8*j+(r+1+k))) / 256=gx l j (r+1+k) by omega];exact ih o_
 grind [cell,gx,Nat.pow_mul,mC]
theorem Af(l:List UInt8):mE (FK l) l.length=l:=by
 unfold mE;apply dC s_;intro i h1 h2;simp only[bG,List.getElem_range];rw[ay,xY l i h2];have h:=tW l (i / 8) (7-i % 8) (i % 8) o_;grind [Nat.pow_mul,UInt8.toNat_inj,UInt8.toNat_ofNat',FN,List.getElem?_eq_getElem]
theorem EN(l:List UInt8)(h:l.length<=1000):dZ (FK l)=some l:=by
 have h1:=te l h;have h2:=Af l;have e:∃r,FK l=l.length::r:=⟨_,rfl⟩;obtain⟨r,e⟩:=e;unfold dZ;grind
theorem EM {ws:List Nat}{l:List UInt8}(h:dZ ws=some l):l.length<=1000/\ws=FK l:=by
 unfold dZ at h;grind [mE]
end Go.Proofs.YtpljannolpapgaaGreatDoor.Lf
namespace Go.Proofs.YtpljannolpapgaaGreatDoor
open Go.RowKit Tryz Go.BigFrame Go.Maps Go.WideMaps Lf
variable{w:World}{ws:List Nat}
theorem xD(n:Nat)(w:World)(hn:n<=1099511627776):
 Ct 72 #[Xi n] w fun e w'=>e=.returned (Xi (many n:Nat))/\w=w':=by
 unfold many
 by_cases h:1000<n
 ·rw[if_pos h];have h':(1000:Int)<n:=o_
  go_enter func72,ntmps72
  go_wp2
  go_ret;exact⟨rfl,rfl⟩
 ·rw[if_neg h];have h':(n:Int)<=1000:=o_
  have hq:((1+(n+7) / 8:Nat):Int)=1+((n:Int)+7) / 8:=o_
  rw[hq];clear h hq;go_enter func72,ntmps72
  go_wp2
  go_ret;exact⟨m_,rfl⟩
theorem EO{B G m cap i c x y:Nat}(hb:w.cell? (y_ B)=some (.slice (some (y_ G)) m cap))(hi:1+i / 8<m)(hm:m<=200)
 (hx:w.cell? ⟨G,1+i / 8,none⟩=some (Xu x)) (hf:w.frozen? ⟨G,1+i / 8,none⟩=false) (hxl:x<2^64) (hc:c<256) (hy:x ||| c*2^(8*(7-i % 8))=y):
 Ct 194 #[Xi i,.int .u8 c,PV B] w fun e w'=>e=.returned (.tuple #[])/\∃q,w'=(w.drewN q).setCell ⟨G,1+i / 8,none⟩ (Xu y):=by
 obtain⟨q,hq⟩:=Ii (i / 8);obtain⟨r,hr⟩:=Ii (i % 8);have ap:r<8:=o_
 obtain⟨s,hs⟩:=Ii (8*(7-r));rw[hq] at hi hx hf⊢;rw[hr,hs] at hy;have ai:(i:Int) / 8=(q:Int):=o_
 have an:(i:Int) % 8=(r:Int):=o_
 have ar:8*(7-(r:Int))=(s:Int):=o_
 have ad:i<9223372036854775807:=o_
 go_enter func194,ntmps194;go_wp2_with fail;refine lD (C:=fun w'=>∃q:Nat,w'=(w).drewN q) 15 k_ k_ ⟨1,rfl⟩ ?_;simp only[ci,bW,bZ,c8];repeat (first | go_big_quiet_skip | (go_big_quiet_want;go_big_quiet_op;first | go_big_quiet_on))
 refine wpQuiet_nil ?_;rintro _ ⟨q,rfl⟩;go_wp2_with fail;have hw:IntKind.u64.wrap ((c:Int)*2^s)=((c*2^s:Nat):Int):=by
  have h1:c*2^s<256*2^56:=aB (cY hc (Nat.pow_pos d_)) (Nat.mul_le_mul_left _ (cU d_ o_));have h2:((c:Int)*2^s)=((c*2^s:Nat):Int):=by push_cast;rfl
  rw[h2];show ((c*2^s:Nat):Int) % 18446744073709551616=_
  omega
 have h1:c*2^s<2^64:=aB (cY hc (Nat.pow_pos d_)) (Nat.mul_le_mul_left 256 (cU (n:=2) d_ (show s<=56 by omega)));rw[hw,bits_or_u64_nat _ _ hxl h1,hy];go_end0
 exact⟨rfl,_,rfl⟩
def jm(w:World)(B:Nat)(v:Value)(ws:List Nat):Prop:=∃G c,v=.slice (some (y_ G)) ws.length c/\B<=G/\∀(i:Nat) (h:i<ws.length),w.cell? (x_ G i)=some (Xu (ws[i]:Nat))
theorem jm.a_{w w':World}{B:Nat}{v:Value}(h:jm w B v ws)(hb:D_ w w'):jm w' B v ws:=by
 obtain⟨G,c,rfl,hB,hc⟩:=h;refine⟨G,c,rfl,hB,fun i hi=>?_⟩;have h1:=hc i hi;have hlt:G<w.1.size:=by
  unfold World.cell? at h1
  split at h1
  ·rename_i heq;exact(gl heq)
  ·cases h1
 exact(hb.cell (p:=x_ G i) hlt).T h1
theorem E8{B B':Nat}{v v':Value}(h:jm w B v ws)(h':jm w B' v' ws)(hl:ws.length<=100000):
 Ct 147 #[v,v'] w fun e w'=>e=.returned (.bool true)/\∃q,w'=w.drewN q:=by
 obtain⟨G,c,rfl,_,hc⟩:=h;obtain⟨G',c',rfl,_,ad⟩:=h';obtain⟨n,hn⟩:=Ii ws.length;rw[hn] at hl;have H:=kq3 hc ad hn;rw[hn];clear hc ad hn;go_enter func147,ntmps147;go_wp2_with fail
 go_loopw [13] (fun i wr=>∃k:Nat,k<=n/\i=Xi k/\∃q,wr=w.drewN q) (fun i _=>n-(intOf i).toNat)
 case atStart=>exact⟨0,o_,rfl,0,rfl⟩
 case round=>
  obtain⟨k,hk,rfl,q,rfl⟩:=hrel
  by_cases hlt:k<n
  ·have ai:(k:Int)<n:=o_
   have c1:=H.a k (by rw[H.c];exact hlt);have c2:=H.b k (by rw[H.c];exact hlt);generalize ws[k]'(by rw[H.c];exact hlt)=x at c1 c2;go_wp2_with fail
   go_quiet (fail)
   go_wp2_with fail;go_roundw
   case rel=>exact⟨k+1,o_,s_,_,rfl⟩
   case measure=>simp[intOf];omega
  ·obtain rfl:k=n:=o_
   go_wp2_with fail;go_ret;exact⟨rfl,_,rfl⟩
end Go.Proofs.YtpljannolpapgaaGreatDoor
namespace Go.Proofs.YtpljannolpapgaaGreatDoor
open Go.RowKit Tryz Go.BigFrame Go.Maps Go.WideMaps Lf
abbrev SV(l:List UInt8):Value:=.string ⟨l.toArray⟩
theorem uQ:(prog.info? 60).map (fun i=>(i.zero,i.size,i.bytes))=some (some (Xu 0),1,8):=k_
theorem vB(n:Nat)(hn:n<=1000000)(W:World):(Instr.makeSlice 177 (Xi (n:Int)) (Xi (n:Int))).run prog W=.ok (.slice (some (y_ W.1.size)) n n) (W.alloc (.cells ((List.replicate n 0).map fun x:Nat=>Value.int .u64 x).toArray 60)):=by
 obtain⟨i0,hi,ad,ai,an⟩:=info_parts uQ;have e:((List.replicate n 0).map fun x:Nat=>Value.int .u64 x).toArray=madeCells #[Xu 0] n:=by
  apply Array.toList_inj.1;rw[toList_madeCells_one]
  simp
 rw[e];exact run_make_row 177 60 i0 (Xu 0) underlying177 hi ad ai rfl .i64 .i64 n (by rw[an];omega) o_ W
theorem Ae(l:List UInt8):∃(capF:World->Nat) (csF:World->Array Value) (frF:World->Nat×Nat),(∀W,(convert 9 226 (SV l)).run prog W=.ok (.slice (some (y_ W.1.size)) l.length (capF W)) (W.drew.alloc (.cells (csF W) 5 (frF W))))/\∀W i,i<l.length->(csF W)[i]?=some (.int .u8 (FN l i:Nat)):=by
 refine⟨_,_,_,fun W=>run_bytes_of_string W _ _ _ _ underlying9 underlying226 underlying5,?_⟩;intro W i hi;rw[bytesRow_at _ _ _ (by simpa using hi)];simp[FN,List.getD_eq_getElem?_getD,List.getElem?_eq_getElem hi]
structure pM (l:List UInt8) (w:World) (k:Nat) (wr:World):Prop where
 row:wr.1[w.1.size]?=some (.cells ((iC l k).map fun x:Nat=>Value.int .u64 x).toArray 60 (0,0))
 box:wr.cell? (y_ (w.1.size+1))=some (.slice (some (y_ w.1.size)) (1+(l.length+7) / 8) (1+(l.length+7) / 8))
 bytes:∀i,i<l.length->wr.cell? (x_ (w.1.size+2) i)=some (.int .u8 (FN l i:Nat))
 a_:D_ w wr
theorem xE(l:List UInt8)(w:World)(hl:l.length<=1000):
 Ct 146 #[SV l] w fun e w'=>∃v,e=.returned (.tuple #[v,Xi 0])/\jm w' w.1.size v (FK l)/\D_ w w':=by
 have a9:(l.length:Int)<=1000:=o_
 have hm:=fun W=>xD l.length W o_;have a7:many l.length=1+(l.length+7) / 8:=by unfold many;rw[if_neg o_]
 rw[a7] at hm;obtain⟨n,hn⟩:=Ii l.length;obtain⟨m,a1⟩:=Ii (1+(n+7) / 8);have a':m<=200:=o_
 rw[hn,a1] at hm;have H:=kq3 hm hn a1;clear hm a7 a1;go_enter func146,ntmps146;go_wp2_with fail;simp only[hn] at a9⊢;clear hn;refine Jc (H.a _) ?_;have a6:=vB m o_;obtain⟨ad,a0⟩:∃cs,((List.replicate m 0).map fun x:Nat=>Value.int .u64 x).toArray=cs:=⟨_,rfl⟩;rw[a0] at a6;obtain⟨ba,ar,au,a3,a2⟩:=Ae l;rw[H.b] at a3;have HB:=kq2 a0 a2;clear a0 a2;have bc:(0:Int)<m:=by have:=H.c;omega
 have bd:0<ad.size:=by have:=H.c;rw[<-HB.a];simp;omega
 go_wp2_with fail
 go_name_world W HW
 have hW:pM l w 0 W:=by
  have e1:∀k:Nat,W.1[k]?=(((w.alloc (.cells (ad.setIfInBounds 0 (Xu l.length)) 60)).alloc (.cells #[.slice (some (y_ w.1.size)) m m] 177)).alloc (.cells (ar ((w.alloc (.cells (ad.setIfInBounds 0 (Xu l.length)) 60)).alloc (.cells #[.slice (some (y_ w.1.size)) m m] 177))) 5 (au ((w.alloc (.cells (ad.setIfInBounds 0 (Xu l.length)) 60)).alloc (.cells #[.slice (some (y_ w.1.size)) m m] 177))))).1[k]?:=fun k=>by rw[<-HW];rfl
  have hB:D_ w W:=by
   rw[<-HW];have h3:=(((aa _ w).alloc Ih (.cells (ad.setIfInBounds 0 (Xu l.length)) 60)).alloc s_ (.cells #[.slice (some (y_ w.1.size)) m m] 177)).alloc m_ (.cells (ar ((w.alloc (.cells (ad.setIfInBounds 0 (Xu l.length)) 60)).alloc (.cells #[.slice (some (y_ w.1.size)) m m] 177))) 5 (au ((w.alloc (.cells (ad.setIfInBounds 0 (Xu l.length)) 60)).alloc (.cells #[.slice (some (y_ w.1.size)) m m] 177))));exact⟨h3.os,h3.tape,h3.output,h3.size,h3.block⟩
  have ai:(l.length+7) / 8+1=m:=by have:=H.b;have:=H.c;omega
  refine⟨?_,?_,?_,hB⟩
  ·rw[e1,heap_alloc_old _ _ m_,heap_alloc_old _ _ s_,heap_alloc_new,Cg,<-HB.a,<-ai]
   simp[List.replicate_succ]
  ·have:W.1[w.1.size+1]?=some (.cells #[.slice (some (y_ w.1.size)) m m] 177):=by
    rw[e1,heap_alloc_old _ _ s_];have:=heap_alloc_new (w.alloc (.cells (ad.setIfInBounds 0 (Xu l.length)) 60)) (.cells #[.slice (some (y_ w.1.size)) m m] 177)
    simpa using this
   rw[q_ this,show 1+(l.length+7) / 8=m by omega]
   rfl
  ·intro i hi;have:W.1[w.1.size+2]?=some (.cells (ar ((w.alloc (.cells (ad.setIfInBounds 0 (Xu l.length)) 60)).alloc (.cells #[.slice (some (y_ w.1.size)) m m] 177))) 5 (au ((w.alloc (.cells (ad.setIfInBounds 0 (Xu l.length)) 60)).alloc (.cells #[.slice (some (y_ w.1.size)) m m] 177)))):=by
    rw[e1];have:=heap_alloc_new ((w.alloc (.cells (ad.setIfInBounds 0 (Xu l.length)) 60)).alloc (.cells #[.slice (some (y_ w.1.size)) m m] 177)) (.cells (ar ((w.alloc (.cells (ad.setIfInBounds 0 (Xu l.length)) 60)).alloc (.cells #[.slice (some (y_ w.1.size)) m m] 177))) 5 (au ((w.alloc (.cells (ad.setIfInBounds 0 (Xu l.length)) 60)).alloc (.cells #[.slice (some (y_ w.1.size)) m m] 177))))
    simpa using this
   rw[q_ this];exact HB.b _ i hi
 clear HW a6 a3;have HA:=If hW;clear hW
 go_loopw [6,7,24] (fun _ _ i wr=>∃k:Nat,k<=n/\i=Xi k/\pM l w k wr) (fun _ _ i _=>n-(intOf i).toNat)
 case atStart=>exact⟨0,o_,rfl,HA.O⟩
 case round=>
  obtain⟨k,hk,rfl,hA⟩:=hrel;have ap:=H.b;have ai:=H.c
  by_cases hlt:k<n
  ·have bb:(k:Int)<n:=o_
   have c1:=hA.bytes k o_;have a4:=Cc l k o_;have c2:wr.cell? ⟨w.1.size,1+k / 8,none⟩=some (Xu (cell l (k / 8) (k % 8):Nat)):=by
    rw[q_ hA.row,bO,bQ,a4]
    rfl
   have an:=hA.box;rw[ap,ai] at an;have a5:=fun W' (h1:W'.heap=wr.heap)=>EO (w:=W') (B:=w.1.size+1) (G:=w.1.size) (m:=m) (cap:=m) (i:=k) (c:=FN l k) (x:=cell l (k / 8) (k % 8)) (y:=cell l (k / 8) (k % 8+1))
    (by rw[<-an];simp only[World.cell?,h1]) o_ a' (by rw[<-c2];simp only[World.cell?,h1]) (by rw[AT (h1▸hA.row)]) (cell_lt _ _ _ o_) (mC _ _) (by have:=Ag l (k / 8) (k % 8) o_;rwa[show 8*(k / 8)+k % 8=k by omega] at this)
   have HK:=kq2 hA a5;clear hA a5 an c2 a4 ap ai;go_wp2_with fail;refine(HK.b _ rfl).M ?_;rintro e w2 ⟨rfl,q,rfl⟩;have HN:pM l w (k+1) ((wr.drewN q).setCell ⟨w.1.size,1+k / 8,none⟩ (Xu (cell l (k / 8) (k % 8+1):Nat))):=by
    have hA:=HK.a;have hB:D_ w ((wr.drewN q).setCell ⟨w.1.size,1+k / 8,none⟩ (Xu (cell l (k / 8) (k % 8+1):Nat))):=by
     have:D_ w (wr.drewN q):=⟨hA.a_.os,hA.a_.tape,hA.a_.output,hA.a_.size,hA.a_.block⟩;exact this.setCell (p:=⟨w.1.size,1+k / 8,none⟩) (Nat.le_refl w.1.size) _
    refine⟨?_,?_,?_,hB⟩
    ·rw[heap_setCell (show (wr.drewN q).1[w.1.size]?=_ from hA.row),Cf]
     simp
    ·rw[<-hA.box];exact World.cell?_of_block (w:=wr.drewN q) (FB (w:=wr.drewN q) (k:=w.1.size+1) o_)
    ·intro i hi;rw[<-hA.bytes i hi];exact World.cell?_of_block (w:=wr.drewN q) (FB (w:=wr.drewN q) (k:=w.1.size+2) o_)
   have a8:=If HN;clear HN;go_wp2_with fail;go_roundw
   case rel=>exact⟨k+1,o_,s_,a8.O⟩
   case measure=>simp[intOf];omega
  ·obtain rfl:k=n:=o_
   have an:=hA.box;rw[ap,ai] at an;have HK:=kq3 hA ai ap;clear hA ai ap;go_wp2_with fail;go_ret2;refine⟨_,rfl,⟨w.1.size,m,?_,Nat.le_refl _,?_⟩,HK.a.a_⟩
   ·rw[Ks,HK.c,HK.b]
    rfl
   ·intro i hi;have h:=HK.a.row;rw[<-HK.c,KK] at h;rw[q_ h,bO,bQ,af hi]
    rfl
end Go.Proofs.YtpljannolpapgaaGreatDoor
namespace Go.Proofs.YtpljannolpapgaaGreatDoor.Lf
def num(x:Nat):Option Nat:=match x / 4611686018427387904 with | 0=>some x | _+1=>none
def eE(S:St)(h:Nat):Option Nat:=num (mU S h)
def fY(S:St)(h:Nat):Option Nat:=num (sj S h)
def gD(S:St)(h:Nat):Option (List UInt8):=if(fz S h).2=8 then none else some (fz S h).1
def ij(S:St)(k:List UInt8):Nat->Nat->Nat->Option (Nat×Nat)
 | 0,_,a_=>some (0,a_)
 | f+1,f9,a_=>
  if f9=0 then some (0,a_)
  else if(f_ S f9).2≠0 then some (0,a_)
  else match gD S (f_ S f9).1.key with
   | none=>none
   | some t=>
    if Fu k t<0 then ij S k f (f_ S f9).1.left a_
    else match fY S (f_ S f9).1.left with
     | none=>none
     | some z=>
      if 0<Fu k t then(match num (a_+(z+1)) with | none=>none | some b=>ij S k f (f_ S f9).1.right b)
      else(match num (a_+z) with | none=>none | some b=>some (f9,b))
def fu(S:St)(n:Nd)(h l r:Nat):Option St:=
 match eE S l,eE S r,fY S l,fY S r with
 | some a,some b,some x,some y=>some (gM S h { n with left:=l,right:=r,mark:=max a b+1,size:=x+y+1 }).2
 | _,_,_,_=>none
def isT(S:St)(h:Nat):Bool:=h=0 || (f_ S h).2=0
abbrev Jn:=St->Nat->Nat->Nat->Option ((Nat×Nat)×St)
def jq(jn:Jn)(S:St)(l m r:Nat):Option (Nat×St):=
 (jn S l m r).map fun x=>(if x.1.2=0 then x.1.1 else m,x.2)
def kr(jn:Jn)(key:List UInt8):Nat->St->Nat->Option ((Nat×Nat×Nat)×St)
 | 0,S,_=>some ((0,0,0),S)
 | f+1,S,f9=>
  if f9=0 then some ((0,0,0),S)
  else match gD S (f_ S f9).1.key with
   | none=>none
   | some k=>
    if Fu key k<0 then
     match kr jn key f S (f_ S f9).1.left with
     | none=>none
     | some ((l,m,r),S1)=>(jq jn S1 r f9 (f_ S f9).1.right).map fun x=>((l,m,x.1),x.2)
    else if 0<Fu key k then
     match kr jn key f S (f_ S f9).1.right with
     | none=>none
     | some ((l,m,r),S1)=>(jq jn S1 (f_ S f9).1.left f9 l).map fun x=>((x.1,m,r),x.2)
    else some (((f_ S f9).1.left,f9,(f_ S f9).1.right),S)
theorem wZ(jn:Jn)(key:List UInt8)(S:St)(f9:Nat):kr jn key 0 S f9=some ((0,0,0),S):=rfl
theorem sk(jn:Jn)(key:List UInt8)(f:Nat)(S:St)(f9:Nat):kr jn key (f+1) S f9=
 if f9=0 then some ((0,0,0),S)
 else match gD S (f_ S f9).1.key with
  | none=>none
  | some k=>
   if Fu key k<0 then
    match kr jn key f S (f_ S f9).1.left with
    | none=>none
    | some ((l,m,r),S1)=>(jq jn S1 r f9 (f_ S f9).1.right).map fun x=>((l,m,x.1),x.2)
   else if 0<Fu key k then
    match kr jn key f S (f_ S f9).1.right with
    | none=>none
    | some ((l,m,r),S1)=>(jq jn S1 (f_ S f9).1.left f9 l).map fun x=>((x.1,m,r),x.2)
   else some (((f_ S f9).1.left,f9,(f_ S f9).1.right),S):=rfl
end Go.Proofs.YtpljannolpapgaaGreatDoor.Lf
namespace Go.Proofs.YtpljannolpapgaaGreatDoor.Qu
open Go Go.RowKit
section
variable {P:Program}{l:List Oper}{md:Region.Mode}{S:World->Prop}{Q:Exit->Act->World->Prop}
def kQ(P:Program)(l:List Oper)(S:World->Prop)(Q:Act->Prop):List Nat->Act->Prop
 | [],a=>Q a
 | i::is,a=>∃o,l[i]?=some o/\∃v,YieldsIf P l.toArray S o v a/\kQ P l S Q is (a.put o.dst v)
def lC(P:Program)(l:List Oper)(Q:Exit->Act->World->Prop)(S:World->Prop):List Nat->Act->World->Prop
 | [],a,w=>Q .normal a w
 | i::is,a,w=>∃o,l[i]?=some o/\Region.wanted o (yielded l.toArray a.tmps)=true/\o.wp P a w (fun a' w'=>S w'/\lC P l Q S is a' w') Q
def seqB(md:Region.Mode)(ops:Array Oper):List Nat->Array Bool->Bool
 | [],listed=>(Region.ready md ops listed).isEmpty
 | i::is,listed=>decide (Region.ready md ops listed=[i]) && seqB md ops is (listed.setIfInBounds i true)
def mL(md:Region.Mode)(ops:Array Oper)(js:List Nat):List Nat->Array Bool->Bool
 | [],listed=>seqB md ops js listed
 | i::is,listed=>(Region.ready md ops listed).contains i && Region.free md ops listed i && mL md ops js is (listed.setIfInBounds i true)
theorem yd:∀(js:List Nat) (listed:Array Bool) (a:Act) (w:World),
 seqB md l.toArray js listed=true->S w->lC P l Q S js a w->wpAnyH P md l.toArray Q S js.length listed a w
 | [],_,_,_,hB,_,h=>⟨by simpa[seqB] using hB,h⟩
 | j::js,listed,a,w,hB,hS,h=>by
  simp only[seqB,aM,decide_eq_true_eq] at hB;refine⟨fun h1=>(by rw[hB.1] at h1;cases h1),fun i hi=>?_⟩;rw[hB.1] at hi;have ad:i=j:=by simpa using hi
  subst ad;have an:=fun a' w' (hs:S w') (hq:lC P l Q S js a' w')=>yd js (listed.setIfInBounds i true) a' w' hB.2 hs hq;obtain⟨o,h0,hw,hh⟩:=h;have ai:l.toArray[i]?=some o:=by simpa using h0
  unfold wpOp;grind [Oper.wp_mono]
theorem yc {js:List Nat}{w:World}{Lq:Act->Prop}(hsel:Region.noSelect l.toArray=true)(hS:S w)(hQ:∀d v c a w,Q (.panic c) (Act.put a d v) w->Q (.panic c) a w)
 (hL:∀listed a,seqB md l.toArray js listed=true->Lq a->wpAnyH P md l.toArray Q S js.length listed a w):
 ∀(is:List Nat) (listed:Array Bool) (a:Act),
 mL md l.toArray js is listed=true->kQ P l S Lq is a->wpAnyH P md l.toArray Q S (is.length+js.length) listed a w
 | [],listed,a,hB,h=>by simpa using hL listed a (by simpa[mL] using hB) h
 | i::is,listed,a,hB,h=>by
  simp only[mL,aM] at hB;obtain⟨⟨hr,hf⟩,ai⟩:=hB;obtain⟨o,h0,v,hy,hK⟩:=h;have ad:l.toArray[i]?=some o:=by simpa using h0
  rw[aj,show is.length+1+js.length=(is.length+js.length)+1 by omega];exact wpAnyH_take ad hsel hf hr (fun c a w=>hQ _ _ c a w) hy hS (yc hsel hS hQ hL is _ _ ai hK)
end
def vq(md:Region.Mode)(ops:Array Oper)(is js:List Nat):Bool:=
 Region.noSelect ops && decide (is.length+js.length=ops.size) && mL md ops js is (Array.replicate ops.size false)
end Qu
open Qu
abbrev FG(I:World->Prop):World->Prop:=fun w'=>∃x:Fq I,w'=x.to
theorem Jz {P:Program}{id:Nat}{Q:Exit->Act->World->Prop}{a:Act}{w:World}{l:List Oper}(I:World->Prop)(is js:List Nat)(hm:P.follows .mixedOrders=true)(hB:vq .any l.toArray is js=true)
 (hI:I w.drew)
 (h:kQ P l (FG I) (fun a'=>lC P l (NoPanic Q) (FG I) js a' w.drew) is a):(Code.region id l.toArray true).wp P Q a w:=by
 simp only[vq,aM,decide_eq_true_eq] at hB;obtain⟨⟨ai,hn⟩,ad⟩:=hB;have hS:FG I w.drew:=⟨⟨_,hI⟩,rfl⟩;refine wp_region_noPanic (wp_region_held_drew (S:=FG I) hm hS (fun _=>?_));have:=yc (md:=.any) (js:=js) (Q:=NoPanic Q) ai hS (fun _ _ _ _ _ h=>(h:False).elim) (fun listed a' hq hl=>
  yd (md:=.any) (Q:=NoPanic Q) (S:=FG I) js listed a' w.drew hq hS hl) is _ a ad h
 grind
theorem Fc {P:Program}{l:List Oper}{S:World->Prop}{Q:Act->Prop}{i:Nat}{is:List Nat}{a:Act}(o:Oper)(ho:l[i]?=some o)(v:Value)(hw:Region.wanted o (yielded l.toArray a.tmps)=true)(hr:∀w,S w->(execOp a.eval o).run P w=.ok (.value v) w)
 (h:kQ P l S Q is (a.put o.dst v)):kQ P l S Q (i::is) a:=⟨o,ho,v,ab ⟨hw,hr⟩,h⟩
theorem hC {P:Program}{l:List Oper}{I:World->Prop}{Q:Act->Prop}{i:Nat}{is:List Nat}{a:Act}{o:Oper}{v:Value}(hr:∀x:Fq I,(execOp a.eval o).run P x.to=.ok (.value v) x.to)(h:kQ P l (FG I) Q is (a.put o.dst v))(ho:l[i]?=some o:=by rfl)(hw:Region.wanted o (yielded l.toArray a.tmps)=true:=by rfl):kQ P l (FG I) Q (i::is) a:=Fc o ho v hw (fun _ g=>by obtain⟨x,rfl⟩:=g;exact hr x) h
theorem mo {P:Program}{l:List Oper}{S:World->Prop}{Q:Act->Prop}{a:Act}(h:Q a):kQ P l S Q [] a:=h
theorem gF {P:Program}{l:List Oper}{Q:Exit->Act->World->Prop}{I:World->Prop}{i:Nat}{is:List Nat}{a:Act}{w:World}(o:Oper)(ho:l[i]?=some o)(hw:Region.wanted o (yielded l.toArray a.tmps)=true)
 (h:∀K':Act->World->Prop,Shut (∀a w,I w->lC P l Q (FG I) is a w->K' a w)->Oper.wp P o a w K' Q):lC P l Q (FG I) (i::is) a w:=
 ⟨o,ho,hw,h _ (fun _ _ hI hs=>⟨⟨⟨_,hI⟩,rfl⟩,hs⟩)⟩
theorem J9 {P:Program}{l:List Oper}{Q:Exit->Act->World->Prop}{S:World->Prop}{a:Act}{w:World}(h:Q .normal a w):lC P l (NoPanic Q) S [] a w:=h
end Go.Proofs.YtpljannolpapgaaGreatDoor
namespace Go.Proofs.YtpljannolpapgaaGreatDoor.Qv
open Go Go.RowKit
section
variable {P:Program}{l:List Oper}{md:Region.Mode}{S:World->Prop}{Q:Exit->Act->World->Prop}
def iG(P:Program)(l:List Oper)(Q:Exit->Act->World->Prop)(S:World->Prop):List (Bool×Nat)->Act->World->Prop
 | [],a,w=>Q .normal a w
 | (true,i)::is,a,w=>∃o,l[i]?=some o/\∃v,YieldsIf P l.toArray S o v a/\iG P l Q S is (a.put o.dst v) w
 | (false,i)::is,a,w=>∃o,l[i]?=some o/\Region.wanted o (yielded l.toArray a.tmps)=true/\o.wp P a w (fun a' w'=>S w'/\iG P l Q S is a' w') Q
def lp(md:Region.Mode)(ops:Array Oper):List (Bool×Nat)->Array Bool->Bool
 | [],listed=>(Region.ready md ops listed).isEmpty
 | (true,i)::is,listed=>(Region.ready md ops listed).contains i && Region.free md ops listed i && lp md ops is (listed.setIfInBounds i true)
 | (false,i)::is,listed=>decide (Region.ready md ops listed=[i]) && lp md ops is (listed.setIfInBounds i true)
theorem tf(hsel:Region.noSelect l.toArray=true)(hQ:∀d v c a w,Q (.panic c) (Act.put a d v) w->Q (.panic c) a w):
 ∀(is:List (Bool×Nat)) (listed:Array Bool) (a:Act) (w:World),lp md l.toArray is listed=true->S w->iG P l Q S is a w->wpAnyH P md l.toArray Q S is.length listed a w
 | [],_,_,_,hB,_,h=>⟨by simpa[lp] using hB,h⟩
 | (true,i)::is,listed,a,w,hB,hS,h=>by
  simp only[lp,aM] at hB;obtain⟨⟨hr,hf⟩,ai⟩:=hB;obtain⟨o,h0,v,hy,hK⟩:=h;have ad:l.toArray[i]?=some o:=by simpa using h0
  exact wpAnyH_take ad hsel hf hr (fun c a w=>hQ _ _ c a w) hy hS (tf hsel hQ is _ _ _ ai hS hK)
 | (false,j)::is,listed,a,w,hB,hS,h=>by
  simp only[lp,aM,decide_eq_true_eq] at hB;refine⟨fun h1=>(by rw[hB.1] at h1;cases h1),fun i hi=>?_⟩;rw[hB.1] at hi;have an:i=j:=by simpa using hi
  subst an;have ap:=fun a' w' (hs:S w') (hq:iG P l Q S is a' w')=>tf hsel hQ is (listed.setIfInBounds i true) a' w' hB.2 hs hq;obtain⟨o,h0,hw,hh⟩:=h;have ad:l.toArray[i]?=some o:=by simpa using h0
  unfold wpOp;grind [Oper.wp_mono]
def vr(md:Region.Mode)(ops:Array Oper)(is:List (Bool×Nat)):Bool:=
 Region.noSelect ops && decide (is.length=ops.size) && lp md ops is (Array.replicate ops.size false)
end
end Qv
open Qv
theorem nF {P:Program}{id:Nat}{Q:Exit->Act->World->Prop}{a:Act}{w:World}{l:List Oper}(I:World->Prop)(is:List (Bool×Nat))(hm:P.follows .mixedOrders=true)(hB:vr .any l.toArray is=true)
 (hI:I w.drew) (h:iG P l (NoPanic Q) (FG I) is a w.drew):(Code.region id l.toArray true).wp P Q a w:=by
 simp only[vr,aM,decide_eq_true_eq] at hB;obtain⟨⟨ai,hn⟩,ad⟩:=hB;have hS:FG I w.drew:=⟨⟨_,hI⟩,rfl⟩;refine wp_region_noPanic (wp_region_held_drew (S:=FG I) hm hS (fun _=>?_));grind [tf,NoPanic]
theorem De {P:Program}{l:List Oper}{I:World->Prop}{Q:Exit->Act->World->Prop}{i:Nat}{is:List (Bool×Nat)}{a:Act}{w:World}(o:Oper)(ho:l[i]?=some o)(v:Value)(hw:Region.wanted o (yielded l.toArray a.tmps)=true)(hr:∀w,FG I w->(execOp a.eval o).run P w=.ok (.value v) w)
 (h:iG P l Q (FG I) is (a.put o.dst v) w):iG P l Q (FG I) ((true,i)::is) a w:=⟨o,ho,v,ab ⟨hw,hr⟩,h⟩
theorem mT {P:Program}{l:List Oper}{I:World->Prop}{Q:Exit->Act->World->Prop}{i:Nat}{p:List (Bool×Nat)}{a:Act}{w:World}{o:Oper}{v:Value}(hr:∀x:Fq I,(execOp a.eval o).run P x.to=.ok (.value v) x.to)(h:iG P l Q (FG I) p (a.put o.dst v) w)(ho:l[i]?=some o:=by rfl)(hw:Region.wanted o (yielded l.toArray a.tmps)=true:=by rfl):iG P l Q (FG I) ((true,i)::p) a w:=De o ho v hw (fun _ g=>by obtain⟨x,rfl⟩:=g;exact hr x) h
theorem Dd {P:Program}{l:List Oper}{Q:Exit->Act->World->Prop}{I:World->Prop}{i:Nat}{is:List (Bool×Nat)}{a:Act}{w:World}(o:Oper)(ho:l[i]?=some o)(hw:Region.wanted o (yielded l.toArray a.tmps)=true)
 (h:∀K':Act->World->Prop,Shut (∀a w,I w->iG P l Q (FG I) is a w->K' a w)->Oper.wp P o a w K' Q):iG P l Q (FG I) ((false,i)::is) a w:=
 ⟨o,ho,hw,h _ (fun _ _ hI hs=>⟨⟨⟨_,hI⟩,rfl⟩,hs⟩)⟩
theorem mD {P:Program}{l:List Oper}{I:World->Prop}{Q:Exit->Act->World->Prop}{i:Nat}{p:List (Bool×Nat)}{a:Act}{w:World}{o:Oper}(h:∀K':Act->World->Prop,Shut (∀a w,I w->iG P l Q (FG I) p a w->K' a w)->Oper.wp P o a w K' Q)(ho:l[i]?=some o:=by rfl)(hw:Region.wanted o (yielded l.toArray a.tmps)=true:=by rfl):iG P l Q (FG I) ((false,i)::p) a w:=Dd o ho hw h
theorem mX {P:Program}{l:List Oper}{Q:Exit->Act->World->Prop}{S:World->Prop}{a:Act}{w:World}(h:Q .normal a w):iG P l (NoPanic Q) S [] a w:=h
end Go.Proofs.YtpljannolpapgaaGreatDoor
namespace Go.Proofs.YtpljannolpapgaaGreatDoor.Qw
open Go Go.RowKit
inductive Plan where
 | nil
 | take (i:Nat) (p:Plan)
 | go (i:Nat) (p:Plan)
 | two (i j:Nat) (p q:Plan)
def Plan.len:Plan->Nat
 | .nil=>0
 | .take _ p=>p.len+1
 | .go _ p=>p.len+1
 | .two _ _ p _=>p.len+1
section
variable {P:Program}{l:List Oper}{md:Region.Mode}{S:World->Prop}{Q:Exit->Act->World->Prop}
def C8(P:Program)(l:List Oper)(Q:Exit->Act->World->Prop)(S:World->Prop):Plan->Act->World->Prop
 | .nil,a,w=>Q .normal a w
 | .take i p,a,w=>∃o,l[i]?=some o/\∃v,YieldsIf P l.toArray S o v a/\C8 P l Q S p (a.put o.dst v) w
 | .go i p,a,w=>∃o,l[i]?=some o/\Region.wanted o (yielded l.toArray a.tmps)=true/\o.wp P a w (fun a' w'=>S w'/\C8 P l Q S p a' w') Q
 | .two i j p q,a,w=>(∃o,l[i]?=some o/\Region.wanted o (yielded l.toArray a.tmps)=true/\o.wp P a w (fun a' w'=>S w'/\C8 P l Q S p a' w') Q)/\
  (∃o,l[j]?=some o/\Region.wanted o (yielded l.toArray a.tmps)=true/\o.wp P a w (fun a' w'=>S w'/\C8 P l Q S q a' w') Q)
def fG(md:Region.Mode)(ops:Array Oper):Plan->Array Bool->Bool
 | .nil,listed=>(Region.ready md ops listed).isEmpty
 | .take i p,listed=>(Region.ready md ops listed).contains i && Region.free md ops listed i && fG md ops p (listed.setIfInBounds i true)
 | .go i p,listed=>decide (Region.ready md ops listed=[i]) && fG md ops p (listed.setIfInBounds i true)
 | .two i j p q,listed=>decide (Region.ready md ops listed=[i,j]) && decide (p.len=q.len) && fG md ops p (listed.setIfInBounds i true) && fG md ops q (listed.setIfInBounds j true)
theorem wpAnyH_plan(hsel:Region.noSelect l.toArray=true)(hQ:∀d v c a w,Q (.panic c) (Act.put a d v) w->Q (.panic c) a w):
 ∀(p:Plan) (listed:Array Bool) (a:Act) (w:World),fG md l.toArray p listed=true->S w->C8 P l Q S p a w->wpAnyH P md l.toArray Q S p.len listed a w
 | .nil,_,_,_,hB,_,h=>⟨by simpa[fG] using hB,h⟩
 | .take i p,listed,a,w,hB,hS,h=>by
  simp only[fG,aM] at hB;obtain⟨⟨hr,hf⟩,an⟩:=hB;obtain⟨o,h0,v,hy,hK⟩:=h;have ad:l.toArray[i]?=some o:=by grind
  exact wpAnyH_take ad hsel hf hr (fun c a w=>hQ _ _ c a w) hy hS (wpAnyH_plan hsel hQ p _ _ _ an hS hK)
 | .go j p,listed,a,w,hB,hS,h=>by
  simp only[fG,aM,decide_eq_true_eq] at hB;refine⟨fun h1=>(by rw[hB.1] at h1;cases h1),fun i hi=>?_⟩;rw[hB.1] at hi;have ap:i=j:=by simpa using hi
  subst ap;have ai:=fun a' w' (hs:S w') (hq:C8 P l Q S p a' w')=>wpAnyH_plan hsel hQ p (listed.setIfInBounds i true) a' w' hB.2 hs hq;obtain⟨o,h0,hw,hh⟩:=h;have ad:l.toArray[i]?=some o:=by simpa using h0
  unfold wpOp;grind [Oper.wp_mono]
 | .two i j p q,listed,a,w,hB,hS,h=>by
  simp only[fG,aM,decide_eq_true_eq] at hB;obtain⟨⟨⟨hr,au⟩,hp⟩,hq⟩:=hB;refine⟨fun h1=>(by grind),fun k hk=>?_⟩;have ar:k=i\/k=j:=by grind
  rcases ar with rfl | rfl
  ·have ai:=fun a' w' (hs:S w') (hq':C8 P l Q S p a' w')=>wpAnyH_plan hsel hQ p (listed.setIfInBounds k true) a' w' hp hs hq';obtain⟨o,h0,hw,hh⟩:=h.1;have ad:l.toArray[k]?=some o:=by simpa using h0
   unfold wpOp;grind [Oper.wp_mono]
  ·have ai:=fun a' w' (hs:S w') (hq':C8 P l Q S q a' w')=>wpAnyH_plan hsel hQ q (listed.setIfInBounds k true) a' w' hq hs hq';obtain⟨o,h0,hw,hh⟩:=h.2;have ad:l.toArray[k]?=some o:=by simpa using h0
   unfold wpOp;grind [Oper.wp_mono]
def lexPlanB(md:Region.Mode)(ops:Array Oper)(p:Plan):Bool:=
 Region.noSelect ops && decide (p.len=ops.size) && fG md ops p (Array.replicate ops.size false)
end
end Qw
open Qw
theorem fh {P:Program}{id:Nat}{Q:Exit->Act->World->Prop}{a:Act}{w:World}{l:List Oper}(I:World->Prop)(p:Plan)(hm:P.follows .mixedOrders=true)(hB:lexPlanB .any l.toArray p=true)
 (hI:I w.drew) (h:C8 P l (NoPanic Q) (FG I) p a w.drew):(Code.region id l.toArray true).wp P Q a w:=by
 simp only[lexPlanB,aM,decide_eq_true_eq] at hB;obtain⟨⟨ai,hn⟩,ad⟩:=hB;have hS:FG I w.drew:=⟨⟨_,hI⟩,rfl⟩;refine wp_region_noPanic (wp_region_held_drew (S:=FG I) hm hS (fun _=>?_));grind [wpAnyH_plan,NoPanic]
theorem DC {P:Program}{l:List Oper}{I:World->Prop}{Q:Exit->Act->World->Prop}{i:Nat}{p:Plan}{a:Act}{w:World}(o:Oper)(ho:l[i]?=some o)(v:Value)(hw:Region.wanted o (yielded l.toArray a.tmps)=true)(hr:∀w,FG I w->(execOp a.eval o).run P w=.ok (.value v) w)
 (h:C8 P l Q (FG I) p (a.put o.dst v) w):C8 P l Q (FG I) (.take i p) a w:=⟨o,ho,v,ab ⟨hw,hr⟩,h⟩
theorem pT {P:Program}{l:List Oper}{I:World->Prop}{Q:Exit->Act->World->Prop}{i:Nat}{p:Plan}{a:Act}{w:World}{o:Oper}{v:Value}(hr:∀x:Fq I,(execOp a.eval o).run P x.to=.ok (.value v) x.to)(h:C8 P l Q (FG I) p (a.put o.dst v) w)(ho:l[i]?=some o:=by rfl)(hw:Region.wanted o (yielded l.toArray a.tmps)=true:=by rfl):C8 P l Q (FG I) (.take i p) a w:=DC o ho v hw (fun _ g=>by obtain⟨x,rfl⟩:=g;exact hr x) h
theorem pT_ {P:Program}{l:List Oper}{I:World->Prop}{Q:Exit->Act->World->Prop}{i:Nat}{p:Plan}{a:Act}{w:World}{o:Oper}{v:Value}(h:C8 P l Q (FG I) p (a.put o.dst v) w)(ho:l[i]?=some o:=by rfl)(hw:Region.wanted o (yielded l.toArray a.tmps)=true:=by rfl)(hr:∀x:Fq I,(execOp a.eval o).run P x.to=.ok (.value v) x.to:=by
 intro x;go_simp
 try rfl):C8 P l Q (FG I) (.take i p) a w:=pT hr h ho hw
theorem DB {P:Program}{l:List Oper}{Q:Exit->Act->World->Prop}{I:World->Prop}{i:Nat}{p:Plan}{a:Act}{w:World}(o:Oper)(ho:l[i]?=some o)(hw:Region.wanted o (yielded l.toArray a.tmps)=true)
 (h:∀K':Act->World->Prop,Shut (∀a w,I w->C8 P l Q (FG I) p a w->K' a w)->Oper.wp P o a w K' Q):C8 P l Q (FG I) (.go i p) a w:=
 ⟨o,ho,hw,h _ (fun _ _ hI hs=>⟨⟨⟨_,hI⟩,rfl⟩,hs⟩)⟩
theorem pD {P:Program}{l:List Oper}{Q:Exit->Act->World->Prop}{I:World->Prop}{i:Nat}{p:Plan}{a:Act}{w:World}{o:Oper}
 (h:∀K':Act->World->Prop,Shut (∀a w,I w->C8 P l Q (FG I) p a w->K' a w)->Oper.wp P o a w K' Q) (ho:l[i]?=some o:=by rfl) (hw:Region.wanted o (yielded l.toArray a.tmps)=true:=by rfl):C8 P l Q (FG I) (.go i p) a w:=DB o ho hw h
theorem gL {P:Program}{l:List Oper}{Q:Exit->Act->World->Prop}{I:World->Prop}{i j:Nat}{p q:Plan}{a:Act}{w:World}(h1:C8 P l Q (FG I) (.go i p) a w)(h2:C8 P l Q (FG I) (.go j q) a w):C8 P l Q (FG I) (.two i j p q) a w:=⟨h1,h2⟩
theorem eP {P:Program}{l:List Oper}{Q:Exit->Act->World->Prop}{S:World->Prop}{a:Act}{w:World}(h:Q .normal a w):C8 P l (NoPanic Q) S .nil a w:=h
end Go.Proofs.YtpljannolpapgaaGreatDoor
namespace Go.Proofs.YtpljannolpapgaaGreatDoor
open Go.RowKit Tryz Go.BigFrame Go.Maps Go.WideMaps Lf
variable{l:List Nat}{v:Value}{w:World}
structure Lf.BN where
 j_:List Nat
 C9:List Nat
 A6:List Nat
 size:Nat
def Lf.isDeg(t:Int):Bool:=decide (2<=t) && decide (t<=16)
def FD(w:World)(v:Value)(l:List Nat):Prop:=∃A c,v=.slice A l.length c/\∀(i:Nat) (h:i<l.length),∃g o,A=some (x_ g o)/\w.cell? ⟨g,o+i,none⟩=some (Xu (l[i]:Nat))
theorem fK{g o:Nat}(h:w.cell? (x_ g o)=some v):g<w.1.size:=by
 unfold World.cell? at h
 split at h
 ·rename_i heq;exact(gl heq)
 ·cases h
theorem FD.a_{w w':World}(h:FD w v l)(hb:D_ w w'):FD w' v l:=by
 obtain⟨A,c,rfl,hc⟩:=h;refine⟨A,c,rfl,fun i hi=>?_⟩;obtain⟨g,o,rfl,h1⟩:=hc i hi;exact⟨g,o,rfl,(hb.cell (p:=x_ g _) (fK h1)).T h1⟩
theorem FD.nil(w:World):FD w n_ []:=⟨none,0,rfl,fun i hi=>absurd hi s_⟩
theorem qKaaa{P:Prop}(h:P:=by
 go_enter func165,ntmps165;go_wp2_with fail;go_ret;exact⟨by rw[HQ.O];rfl,rfl⟩):P:=h
theorem nP(t:Int)(w:World):
 Ct 165 #[Xi t] w fun e w'=>e=.returned (.bool (isDeg t))/\w=w':=by
 by_cases h1:2<=t
 ·by_cases h2:t<=16
  ·have HQ:=If (show isDeg t=true by unfold isDeg;rw[decide_eq_true h1,decide_eq_true h2];rfl);exact qKaaa
  ·have HQ:=If (show isDeg t=false by unfold isDeg;rw[decide_eq_false h2];simp);exact qKaaa
 ·have HQ:=If (show isDeg t=false by unfold isDeg;rw[decide_eq_false h1];rfl);exact qKaaa
theorem Bi(h:FD w v l)(hl:l.length<=100000):
 Ct 243 #[v,Xu 0] w fun e w'=>∃k:Int,e=.returned (Xi k)/\(decide (0<=k)=l.contains 0)/\w=w':=by
 obtain⟨A,c,rfl,hc⟩:=h;obtain⟨n,hn⟩:=Ii l.length;rw[hn] at hl;have H:=kq2 hc hn;rw[hn];clear hc hn;go_enter func243,ntmps243;go_wp2_with fail
 go_loopw [5,8] (fun _ i wr=>∃k:Nat,k<=n/\i=Xi k/\wr=w/\∀(j:Nat) (hj:j<l.length),j<k->l[j]≠0) (fun _ i _=>n-(intOf i).toNat)
 case atStart=>exact⟨0,o_,rfl,rfl,fun j _ hj=>absurd hj o_⟩
 case round=>
  obtain⟨k,hk,rfl,rfl,ai⟩:=hrel
  by_cases hlt:k<n
  ·have au:(k:Int)<n:=o_
   have an:k<l.length:=by rw[H.b];exact hlt
   obtain⟨g,o,rfl,c1⟩:=H.a k an
   by_cases h0:l[k]=0
   ·have ad:l.contains 0=true:=by rw[db,<-h0];exact ao an
    rw[h0] at c1;have HK:=If ad;clear ai ad h0;go_wp2_with fail;go_ret;exact⟨k,rfl,by rw[HK.O];simp,rfl⟩
   ·have ar:((l[k]:Nat):Int)≠0:=o_
    have ap:∀(j:Nat) (hj:j<l.length),j<k+1->l[j]≠0:=fun j hj h1=>by
     rcases cE j k with h2 | h2
     ·exact ai j hj h2
     ·obtain rfl:j=k:=o_
      exact h0
    have HK:=If ap;clear ai ap h0;generalize l[k]=x at*;have a0:¬x=0:=o_
    have a1:¬0=x:=o_
    have a2:((0:Int)==(x:Int))=false:=m_
    clear ar;go_wp2_with fail;exact⟨⟨k+1,o_,s_,trivial,HK.O⟩,by simp[intOf];omega⟩
  ·obtain rfl:k=n:=o_
   have ad:l.contains 0=false:=by
    rw[Bool.eq_false_iff];intro h;rw[db] at h;obtain⟨j,hj,e⟩:=bK.1 h;exact ai j hj (by rw[<-H.b];exact hj) e
   have HK:=If ad;clear ai ad;go_wp2_with fail;go_ret;exact⟨-1,rfl,by rw[HK.O];simp,rfl⟩
theorem Bg(h:FD w v l)(hl:l.length<=100000):
 Ct 226 #[v,Xu 0] w fun e w'=>e=.returned (.bool (l.contains 0))/\w=w':=by
 have HG:=If (Bi h hl);clear h hl;go_enter func226,ntmps226;go_wp2_with fail;refine HG.O.M ?_;rintro e w1 ⟨k,rfl,hk,rfl⟩;have HK:=If hk;clear hk;go_wp2_with fail;go_ret;exact⟨by rw[<-HK.O];rfl,rfl⟩
end Go.Proofs.YtpljannolpapgaaGreatDoor
namespace Go.Proofs.YtpljannolpapgaaGreatDoor.Qz
open Go Go.RowKit Qw
section
variable {P:Program}{ops:Array Oper}{l:List Oper}{md:Region.Mode}{S:World->Prop}{Q:Exit->Act->World->Prop}{late:Nat->Bool}
def wpAnyL(P:Program)(md:Region.Mode)(ops:Array Oper)(Q:Exit->Act->World->Prop)(S:World->Prop)(late:Nat->Bool):Nat->Array Bool->Act->World->Prop
 | 0,listed,a,w=>Region.ready md ops listed=[]/\Q .normal a w
 | fuel+1,listed,a,w=>
  (Region.ready md ops listed=[]->Q .normal a w)/\
  ∀i∈Region.ready md ops listed,wpOp P ops Q i (fun a' w'=>(late i=false->S w')/\wpAnyL P md ops Q S late fuel (listed.setIfInBounds i true) a' w') a w
theorem yf:∀(fuel:Nat) (listed:Array Bool) (a:Act) (w:World),wpAnyL P md ops Q S late fuel listed a w->wpAny P md ops Q fuel listed a w
 | 0,_,_,_,h=>h
 | fuel+1,_,_,_,h=>⟨h.1,fun i hi=>wpOp_mono (fun a' w' h'=>yf fuel _ a' w' h'.2) (h.2 i hi)⟩
def kS(md:Region.Mode)(ops:Array Oper)(listed:Array Bool):Prop:=∀(k:Nat) (ok:Oper),ops[k]?=some ok->listed.getD k false=true->∀e∈ok.after,Region.binds md e=true->listed.getD e.on false=true
theorem kS.set {listed:Array Bool}(h:kS md ops listed){j:Nat}(hj:j∈Region.ready md ops listed):kS md ops (listed.setIfInBounds j true):=fun k ok hk hl e he hb=>by
 refine getD_set_true ?_;by_cases hjk:j=k
 ·subst hjk;obtain⟨_,o,ho,ad⟩:=mem_ready.1 hj;rw[hk] at ho;injection ho with ho
  subst ho;exact ad e he hb
 ·rw[getD_set_ne false hjk] at hl;exact h k ok hk hl e he hb
theorem N5(n:Nat):kS md ops (Array.replicate n false):=fun k _ _ hl=>by
 exfalso
 rw[Array.getD_eq_getD_getElem?,Array.getElem?_replicate] at hl;split at hl<;>simp at hl
def kC(md:Region.Mode)(ops:Array Oper)(i:Nat):Nat->Nat->Bool
 | 0,_=>false
 | n+1,j=>match ops[j]? with
  | some o=>o.after.any fun e=>Region.binds md e && (e.on==i || kC md ops i n e.on)
  | none=>false
theorem xR {listed:Array Bool}(hc:kS md ops listed){i:Nat}:∀(n j:Nat) (oj:Oper),kC md ops i n j=true->ops[j]?=some oj->(∀e∈oj.after,Region.binds md e=true->listed.getD e.on false=true)->listed.getD i false=true
 | 0,_,_,h,_,_=>by simp[kC] at h
 | n+1,j,oj,h,hj,hall=>by
  simp only[kC,hj,Array.any_eq_true'] at h;obtain⟨e,he,hb⟩:=h;simp only[aM,Bool.or_eq_true,beq_iff_eq] at hb;have h1:=hall e he hb.1;rcases hb.2 with h2 | h2
  ·rw[<-h2];exact h1
  ·cases ho:ops[e.on]? with
   | none=>
    cases n with
    | zero=>simp[kC] at h2
    | succ n=>simp[kC,ho] at h2
   | some o=>exact xR hc n e.on o h2 ho (hc e.on o ho h1)
theorem Ck {listed:Array Bool}{i:Nat}(h0:listed.getD i true=false)(h1:listed.getD i false=true):False:=by
 grind
theorem Fa {i:Nat}{oi:Oper}{v:Value}(hi:ops[i]?=some oi)(hsel:∀(j:Nat) (o:Oper) cs b,ops[j]?=some o->o.op≠ .select cs b)
 (hQ:∀c a w,Q (.panic c) (a.put oi.dst v) w->Q (.panic c) a w)
 (hlate:∀j oj,ops[j]?=some oj->late j=true->kC md ops i 8 j=true):
 ∀(ai:Nat) (ad:Array Bool) (a:Act) (w:World),kS md ops ad->
  (∀j oj,ops[j]?=some oj->j≠i->ad.getD j true=false->(∀e∈oj.after,Region.binds md e=true->e.on≠i)->oi.apart ops oj=true)->
  i∈Region.ready md ops ad->YieldsIf P ops S oi v a->S w->
  wpAnyL P md ops Q S late ai (ad.setIfInBounds i true) (a.put oi.dst v) w->wpAnyL P md ops Q S late (ai+1) ad a w:=by
 intro ai;induction ai with
 | zero=>
  intro ad a w _ _ hr hy hS H;refine⟨fun h=>(by grind),fun j hj=>?_⟩;by_cases hji:j=i
  ·subst hji;exact hy.wpOp hi hS ⟨fun _=>hS,H⟩
  ·have:=ready_mono hj hji;rw[H.1] at this;grind
 | succ ai ih=>
  intro ad a w hcl hfree hr hy hS H;refine⟨fun h=>(by grind),fun j hj=>?_⟩;by_cases hji:j=i
  ·subst hji;exact hy.wpOp hi hS ⟨fun _=>hS,H⟩
  ·have h1:=H.2 j (ready_mono hj hji);obtain⟨ar,oj,an,ap⟩:=mem_ready.1 hj;have a1:∀e∈oj.after,Region.binds md e=true->e.on≠i:=fun e he hb heq=>by
    have h1:=ap e he hb;have h0:=(mem_ready.1 hr).1;rw[heq] at h1;rcases cE i ad.size with h' | h'
    ·simp[h'] at h0 h1;rw[h0] at h1;cases h1
    ·simp[Array.getElem?_eq_none h'] at h1
   have a0:late j=false:=by
    cases hc:late j with
    | false=>rfl
    | true=>exact(Ck (mem_ready.1 hr).1 (xR hcl 8 j oj (hlate j oj an hc) an ap)).elim
   have au:∀k ok,ops[k]?=some ok->k≠i->(ad.setIfInBounds j true).getD k true=false->
    (∀e∈ok.after,Region.binds md e=true->e.on≠i)->oi.apart ops ok=true:=fun k ok hk hki hun hno=>by
    refine hfree k ok hk hki ?_ hno;by_cases hjk:j=k
    ·subst hjk;exact ar
    ·rw[getD_set_ne true hjk] at hun;exact hun
   refine wpOp_mono (fun a' w' h3=>⟨h3.2.1,ih (ad.setIfInBounds j true) a' w' (hcl.set hj) au (ready_mono hr (Ne.S hji)) h3.1 (h3.2.1 a0) ?_⟩) (wpOp_putIf an (hfree j oj an hji ar a1) (fun cs b=>hsel i oi cs b hi) (fun cs b=>hsel j oj cs b an) hQ hy h1);rw[Array.setIfInBounds_comm _ _ hji];grind
def sW(md:Region.Mode)(ops:Array Oper)(late:Nat->Bool)(i:Nat):Bool:=
 !(late i) && (List.range ops.size).all fun j=> !(late j) || kC md ops i 8 j
theorem EU {i:Nat}(h:sW md ops late i=true):∀j oj,ops[j]?=some oj->late j=true->kC md ops i 8 j=true:=fun j oj hj hl=>by
 simp only[sW,aM,List.all_eq_true] at h;simpa[hl] using h.2 j (bw.2 (gl hj))
def fI(P:Program)(l:List Oper)(Q:Exit->Act->World->Prop)(S:World->Prop)(late:Nat->Bool):Plan->Act->World->Prop
 | .nil,a,w=>Q .normal a w
 | .take i p,a,w=>∃o,l[i]?=some o/\∃v,YieldsIf P l.toArray S o v a/\fI P l Q S late p (a.put o.dst v) w
 | .go i p,a,w=>∃o,l[i]?=some o/\Region.wanted o (yielded l.toArray a.tmps)=true/\o.wp P a w (fun a' w'=>(late i=false->S w')/\fI P l Q S late p a' w') Q
 | .two i j p q,a,w=>(∃o,l[i]?=some o/\Region.wanted o (yielded l.toArray a.tmps)=true/\o.wp P a w (fun a' w'=>(late i=false->S w')/\fI P l Q S late p a' w') Q)/\
  (∃o,l[j]?=some o/\Region.wanted o (yielded l.toArray a.tmps)=true/\o.wp P a w (fun a' w'=>(late j=false->S w')/\fI P l Q S late q a' w') Q)
def jU(md:Region.Mode)(ops:Array Oper)(late:Nat->Bool):Plan->Bool->Array Bool->Bool
 | .nil,_,listed=>(Region.ready md ops listed).isEmpty
 | .take i p,k,listed=>k && (Region.ready md ops listed).contains i && Region.free md ops listed i && sW md ops late i && jU md ops late p k (listed.setIfInBounds i true)
 | .go i p,k,listed=>decide (Region.ready md ops listed=[i]) && jU md ops late p (k && !(late i)) (listed.setIfInBounds i true)
 | .two i j p q,k,listed=>decide (Region.ready md ops listed=[i,j]) && decide (p.len=q.len) && jU md ops late p (k && !(late i)) (listed.setIfInBounds i true) && jU md ops late q (k && !(late j)) (listed.setIfInBounds j true)
theorem qG {k b:Bool}(e:(k && !b)=true):b=false:=by cases b<;>simp_all
theorem wpAnyL_plan(hsel:Region.noSelect l.toArray=true)(hQ:∀d v c a w,Q (.panic c) (Act.put a d v) w->Q (.panic c) a w):
 ∀(p:Plan) (k:Bool) (listed:Array Bool) (a:Act) (w:World),kS md l.toArray listed->jU md l.toArray late p k listed=true->(k=true->S w)->fI P l Q S late p a w->wpAnyL P md l.toArray Q S late p.len listed a w
 | .nil,_,_,_,_,_,hB,_,h=>⟨by simpa[jU] using hB,h⟩
 | .take i p,k,listed,a,w,hcl,hB,hS,h=>by
  simp only[jU,aM] at hB;obtain⟨⟨⟨⟨hk,hr⟩,hf⟩,hw⟩,ap⟩:=hB;obtain⟨o,h0,v,hy,hK⟩:=h;have ad:l.toArray[i]?=some o:=by grind
  exact Fa ad (Region.noSelect_spec hsel) (fun c a w=>hQ _ _ c a w) (EU hw) _ listed a w hcl (Region.free_spec ad hf) (by grind) hy (hS hk) (wpAnyL_plan hsel hQ p k _ _ _ (hcl.set (by grind)) ap hS hK)
 | .go j p,k,listed,a,w,hcl,hB,hS,h=>by
  simp only[jU,aM,decide_eq_true_eq] at hB;refine⟨fun h1=>(by rw[hB.1] at h1;cases h1),fun i hi=>?_⟩;have ar:=hi;rw[hB.1] at hi;have au:i=j:=by simpa using hi
  subst au;have an:=fun a' w' (hs:late i=false->S w') (hq:fI P l Q S late p a' w')=>wpAnyL_plan hsel hQ p (k && !(late i)) (listed.setIfInBounds i true) a' w' (hcl.set ar) hB.2 (fun e=>hs (qG e)) hq;obtain⟨o,h0,hw,hh⟩:=h;have ad:l.toArray[i]?=some o:=by simpa using h0
  unfold wpOp;grind [Oper.wp_mono]
 | .two i j p q,k,listed,a,w,hcl,hB,hS,h=>by
  simp only[jU,aM,decide_eq_true_eq] at hB;obtain⟨⟨⟨hr,a1⟩,hp⟩,hq⟩:=hB;refine⟨fun h1=>(by grind),fun m hm=>?_⟩;have ai:=hm;have a0:m=i\/m=j:=by grind
  rcases a0 with rfl | rfl
  ·have an:=fun a' w' (hs:late m=false->S w') (hq':fI P l Q S late p a' w')=>wpAnyL_plan hsel hQ p (k && !(late m)) (listed.setIfInBounds m true) a' w' (hcl.set ai) hp (fun e=>hs (qG e)) hq';obtain⟨o,h0,hw,hh⟩:=h.1;have ad:l.toArray[m]?=some o:=by simpa using h0
   unfold wpOp;grind [Oper.wp_mono]
  ·have an:=fun a' w' (hs:late m=false->S w') (hq':fI P l Q S late q a' w')=>wpAnyL_plan hsel hQ q (k && !(late m)) (listed.setIfInBounds m true) a' w' (hcl.set ai) hq (fun e=>hs (qG e)) hq';obtain⟨o,h0,hw,hh⟩:=h.2;have ad:l.toArray[m]?=some o:=by simpa using h0
   unfold wpOp;grind [Oper.wp_mono]
def J4(md:Region.Mode)(ops:Array Oper)(late:Nat->Bool)(p:Plan):Bool:=
 Region.noSelect ops && decide (p.len=ops.size) && jU md ops late p true (Array.replicate ops.size false)
end
end Qz
open Qw Qz
theorem nG {P:Program}{id:Nat}{Q:Exit->Act->World->Prop}{a:Act}{w:World}{l:List Oper}(I:World->Prop)(late:Nat->Bool)(p:Plan)(hm:P.follows .mixedOrders=true)(hB:J4 .any l.toArray late p=true)
 (hI:I w.drew) (h:fI P l (NoPanic Q) (FG I) late p a w.drew):(Code.region id l.toArray true).wp P Q a w:=by
 simp only[J4,aM,decide_eq_true_eq] at hB;obtain⟨⟨ai,hn⟩,ad⟩:=hB;have hS:FG I w.drew:=⟨⟨_,hI⟩,rfl⟩;refine wp_region_noPanic (wp_region_any hm (yf (S:=FG I) (late:=late) _ _ _ _ ?_));have:=wpAnyL_plan (md:=.any) (Q:=NoPanic Q) ai (fun _ _ _ _ _ h=>(h:False).elim) p true _ a w.drew (N5 _) ad (fun _=>hS) h;simp_all
theorem DA {P:Program}{l:List Oper}{I:World->Prop}{late:Nat->Bool}{Q:Exit->Act->World->Prop}{i:Nat}{p:Plan}{a:Act}{w:World}(o:Oper)(ho:l[i]?=some o)(v:Value)(hw:Region.wanted o (yielded l.toArray a.tmps)=true)(hr:∀w,FG I w->(execOp a.eval o).run P w=.ok (.value v) w)
 (h:fI P l Q (FG I) late p (a.put o.dst v) w):fI P l Q (FG I) late (.take i p) a w:=⟨o,ho,v,ab ⟨hw,hr⟩,h⟩
theorem qT {P:Program}{l:List Oper}{I:World->Prop}{Q:Exit->Act->World->Prop}{late:Nat->Bool}{i:Nat}{p:Plan}{a:Act}{w:World}{o:Oper}{v:Value}(hr:∀x:Fq I,(execOp a.eval o).run P x.to=.ok (.value v) x.to)(h:fI P l Q (FG I) late p (a.put o.dst v) w)(ho:l[i]?=some o:=by rfl)(hw:Region.wanted o (yielded l.toArray a.tmps)=true:=by rfl):fI P l Q (FG I) late (.take i p) a w:=DA o ho v hw (fun _ g=>by obtain⟨x,rfl⟩:=g;exact hr x) h
theorem qT_ {P:Program}{l:List Oper}{I:World->Prop}{Q:Exit->Act->World->Prop}{late:Nat->Bool}{i:Nat}{p:Plan}{a:Act}{w:World}{o:Oper}{v:Value}(h:fI P l Q (FG I) late p (a.put o.dst v) w)(ho:l[i]?=some o:=by rfl)(hw:Region.wanted o (yielded l.toArray a.tmps)=true:=by rfl)(hr:∀x:Fq I,(execOp a.eval o).run P x.to=.ok (.value v) x.to:=by
 intro x;go_simp
 try rfl):fI P l Q (FG I) late (.take i p) a w:=qT hr h ho hw
theorem Dy {P:Program}{l:List Oper}{Q:Exit->Act->World->Prop}{I:World->Prop}{late:Nat->Bool}{i:Nat}{p:Plan}{a:Act}{w:World}(o:Oper)(ho:l[i]?=some o)(hw:Region.wanted o (yielded l.toArray a.tmps)=true)
 (h:∀K':Act->World->Prop,Shut (∀a w,I w->fI P l Q (FG I) late p a w->K' a w)->Oper.wp P o a w K' Q):fI P l Q (FG I) late (.go i p) a w:=
 ⟨o,ho,hw,h _ (fun _ _ hI hs=>⟨fun _=>⟨⟨_,hI⟩,rfl⟩,hs⟩)⟩
theorem qD {P:Program}{l:List Oper}{I:World->Prop}{Q:Exit->Act->World->Prop}{late:Nat->Bool}{i:Nat}{p:Plan}{a:Act}{w:World}{o:Oper}(h:∀K':Act->World->Prop,Shut (∀a w,I w->fI P l Q (FG I) late p a w->K' a w)->Oper.wp P o a w K' Q)(ho:l[i]?=some o:=by rfl)(hw:Region.wanted o (yielded l.toArray a.tmps)=true:=by rfl):fI P l Q (FG I) late (.go i p) a w:=Dy o ho hw h
theorem Dz {P:Program}{l:List Oper}{Q:Exit->Act->World->Prop}{I:World->Prop}{late:Nat->Bool}{i:Nat}{p:Plan}{a:Act}{w:World}(o:Oper)(ho:l[i]?=some o)(hl:late i=true)(hw:Region.wanted o (yielded l.toArray a.tmps)=true)
 (h:∀K':Act->World->Prop,Shut (∀a w,True->fI P l Q (FG I) late p a w->K' a w)->Oper.wp P o a w K' Q):fI P l Q (FG I) late (.go i p) a w:=
 ⟨o,ho,hw,h _ (fun _ _ _ hs=>⟨fun e=>(by rw[hl] at e;cases e),hs⟩)⟩
theorem qL {P:Program}{l:List Oper}{I:World->Prop}{Q:Exit->Act->World->Prop}{late:Nat->Bool}{i:Nat}{p:Plan}{a:Act}{w:World}{o:Oper}(h:∀K':Act->World->Prop,Shut (∀a w,True->fI P l Q (FG I) late p a w->K' a w)->Oper.wp P o a w K' Q)(ho:l[i]?=some o:=by rfl)(hl:late i=true:=by rfl)(hw:Region.wanted o (yielded l.toArray a.tmps)=true:=by rfl):fI P l Q (FG I) late (.go i p) a w:=Dz o ho hl hw h
theorem Jh {P:Program}{l:List Oper}{Q:Exit->Act->World->Prop}{I:World->Prop}{late:Nat->Bool}{i j:Nat}{p q:Plan}{a:Act}{w:World}(h1:fI P l Q (FG I) late (.go i p) a w)(h2:fI P l Q (FG I) late (.go j q) a w):fI P l Q (FG I) late (.two i j p q) a w:=⟨h1,h2⟩
theorem jd {P:Program}{l:List Oper}{Q:Exit->Act->World->Prop}{S:World->Prop}{late:Nat->Bool}{a:Act}{w:World}(h:Q .normal a w):fI P l (NoPanic Q) S late .nil a w:=h
end Go.Proofs.YtpljannolpapgaaGreatDoor
namespace Go.Proofs.YtpljannolpapgaaGreatDoor
open Go.RowKit Tryz Go.BigFrame Go.Maps Go.WideMaps Lf
def hk(x:Nat):Lit:=.int .u64 x
theorem MW {x y:Nat}(h:hk x=hk y):x=y:=by
 unfold hk at h
 injection h with _ h
 omega
structure JQ (D:DataW Unit) (ks:List Nat):Prop where
 at':∀x,D.atKey (hk x) (.lit (.int .i64 0))=.lit (.int .i64 (ks.count x:Nat))
 has:∀x,Maps.has D (hk x)=decide (x∈ks)
 tidy:Tidy D
 size:∃ds:List Nat,ds.Nodup/\(∀x,x∈ds↔x∈ks)/\Maps.size D=ds.length
theorem KJ(x:Nat):WideAt.IsKeyLit (hk x):=trivial
theorem LZ {x:Nat}(h:x<2^64):(Lit.int .u64 x).wf=true:=by
 simp[Lit.wf,IntKind.min,IntKind.max,IntKind.signed,IntKind.bits]
 omega
theorem NG {x:Nat}(h:x<1000000):(Lit.int .i64 x).wf=true:=by
 simp[Lit.wf,IntKind.min,IntKind.max,IntKind.signed,IntKind.bits]
 omega
theorem NJ(w:World):(zeroValue 3).run prog w=.ok (Xi 0) w:=k_
theorem JQ.nil:JQ (.map []) []:=⟨fun x=>by simp[DataW.atKey],fun x=>by simp[Maps.has],tidy_empty,[],dl,fun _=>Iff.rfl,rfl⟩
theorem JQ.snoc {D:DataW Unit}{ks:List Nat}(h:JQ D ks)(x:Nat):JQ (D.put (hk x) (.lit (.int .i64 ((ks.count x:Nat)+1)))) (ks++[x]):=by
 have ne:∀y,y≠x->hk y≠hk x:=fun y hy e=>hy (MW e);refine⟨fun y=>?_,fun y=>?_,h.tidy.put (KJ x) _,?_⟩
 ·by_cases e:y=x
  ·subst e;rw[atKey_put_same h.tidy.isMap (KJ _)]
   simp[List.count_append]
  ·rw[atKey_put_other (ne y e),h.at' y,List.count_append,List.count_singleton];have:(x==y)=false:=m_
   rw[this]
   simp
 ·by_cases e:y=x
  ·subst e;rw[has_put_same h.tidy.isMap (KJ _)]
   simp
  ·rw[has_put_other (ne y e),h.has y]
   simp[e]
 ·obtain⟨ds,h1,h2,h3⟩:=h.size;rw[size_put h.tidy,h.has x]
  by_cases e:x∈ks
  ·refine⟨ds,h1,fun y=>?_,by rw[if_pos (by simp[e])];exact h3⟩;rw[h2 y,aq,aE];exact⟨.inl,fun q=>q.elim id fun q=>q▸e⟩
  ·refine⟨x::ds,aI.2 ⟨fun q=>e ((h2 x).1 q),h1⟩,fun y=>?_,by rw[if_neg (by simp[e]),h3];rfl⟩;rw[ah,h2 y,aq,aE];exact⟨fun q=>q.elim .inr .inl,fun q=>q.elim .inr .inl⟩
def mq(w:World)(mb:Nat)(ks:List Nat):Prop:=∃D:DataW Unit,w.ownsMap prog 61 (plainElem prog 3) mb ks.length D/\JQ D ks
section
variable {w w':World}{mb:Nat}{ks:List Nat}
theorem mq.made(w:World):mq (w.alloc (.map #[] 0)) w.1.size []:=⟨_,World.ownsMap_made w _ _ _,JQ.nil⟩
theorem mq.lt(h:mq w mb ks):mb<w.1.size:=by
 obtain⟨D,h,_⟩:=h;exact h.lt
theorem mq.obj(h:mq w mb ks):∃es c,w.1[mb]?=some (.map es c):=by
 obtain⟨D,⟨es,c,e,_⟩,_⟩:=h;exact⟨es,c,e⟩
theorem mq.kept(h:mq w mb ks)(e:w'.1[mb]?=w.1[mb]?):mq w' mb ks:=by
 obtain⟨D,⟨es,c,e1,r⟩,h2⟩:=h;exact⟨D,⟨es,c,e.T e1,r⟩,h2⟩
theorem mq.look(h:mq w mb ks)(x:Nat)(hx:x<2^64):(Instr.lookup 123 (.map (some mb)) (.int .u64 x) false).run prog w=.ok (.int .i64 (ks.count x:Nat)) w:=by
 obtain⟨D,ho,hD⟩:=h;obtain⟨c,hr,ad,_⟩:=ho.lookup_int (int_keyed underlying61) underlying123 underlying3 (NJ w) (keyOf_int_mk underlying61 (a:=x) (LZ hx));have e:=(hD.at' x).S.T ad;simp only[DataW.lit.injEq,Lit.int.injEq,true_and] at e;rw[e];exact hr
theorem mq.store(h:mq w mb ks)(x:Nat)(hx:x<2^64)(hl:ks.length<100000):∃w',(Instr.mapUpdate 123 (.map (some mb)) (Xu x) (Xi ((ks.count x:Nat)+1))).run prog w=.ok () w'/\mq w' mb (ks++[x])/\w.grownBy w' (some mb):=by
 obtain⟨D,ho,hD⟩:=h;have hc:ks.count x<=ks.length:=List.count_le_length;obtain⟨w',h1,h2,h3⟩:=ho.update (int_keyed underlying61) underlying123 (by unfold maxLen;omega) (keyOf_int_mk underlying61 (a:=x) (LZ hx)) (plainElem_int underlying3 (a:=((ks.count x+1:Nat):Int)) (NG o_));exact⟨w',h1,⟨_,by rw[ag];exact h2,hD.snoc x⟩,h3⟩
theorem mq.len(h:mq w mb ks)(ty:TypeId):∃ds:List Nat,ds.Nodup/\(∀x,x∈ds↔x∈ks)/\(Builtin.len_ #[123] ty #[.map (some mb)]).run prog w=.ok (Xi (ds.length:Nat)) w:=by
 obtain⟨D,ho,hD⟩:=h;obtain⟨ds,h1,h2,h3⟩:=hD.size;exact⟨ds,h1,h2,by rw[<-h3];exact ho.len underlying123 ty⟩
end
end Go.Proofs.YtpljannolpapgaaGreatDoor
namespace Go.Proofs.YtpljannolpapgaaGreatDoor.Qc
open Go Go.RowKit
inductive Plan where
 | nil
 | take (i:Nat) (p:Plan)
 | go (i:Nat) (p:Plan)
 | two (i j:Nat) (p q:Plan)
 | three (i j k:Nat) (p q r:Plan)
def Plan.len:Plan->Nat
 | .nil=>0
 | .take _ p=>p.len+1
 | .go _ p=>p.len+1
 | .two _ _ p _=>p.len+1
 | .three _ _ _ p _ _=>p.len+1
section
variable {P:Program}{l:List Oper}{md:Region.Mode}{S:World->Prop}{Q:Exit->Act->World->Prop}
def C8(P:Program)(l:List Oper)(Q:Exit->Act->World->Prop)(S:World->Prop):Plan->Act->World->Prop
 | .nil,a,w=>Q .normal a w
 | .take i p,a,w=>∃o,l[i]?=some o/\∃v,YieldsIf P l.toArray S o v a/\C8 P l Q S p (a.put o.dst v) w
 | .go i p,a,w=>∃o,l[i]?=some o/\Region.wanted o (yielded l.toArray a.tmps)=true/\o.wp P a w (fun a' w'=>S w'/\C8 P l Q S p a' w') Q
 | .two i j p q,a,w=>(∃o,l[i]?=some o/\Region.wanted o (yielded l.toArray a.tmps)=true/\o.wp P a w (fun a' w'=>S w'/\C8 P l Q S p a' w') Q)/\
  (∃o,l[j]?=some o/\Region.wanted o (yielded l.toArray a.tmps)=true/\o.wp P a w (fun a' w'=>S w'/\C8 P l Q S q a' w') Q)
 | .three i j k p q r,a,w=>(∃o,l[i]?=some o/\Region.wanted o (yielded l.toArray a.tmps)=true/\o.wp P a w (fun a' w'=>S w'/\C8 P l Q S p a' w') Q)/\
  (∃o,l[j]?=some o/\Region.wanted o (yielded l.toArray a.tmps)=true/\o.wp P a w (fun a' w'=>S w'/\C8 P l Q S q a' w') Q)/\
  (∃o,l[k]?=some o/\Region.wanted o (yielded l.toArray a.tmps)=true/\o.wp P a w (fun a' w'=>S w'/\C8 P l Q S r a' w') Q)
def fG(md:Region.Mode)(ops:Array Oper):Plan->Array Bool->Bool
 | .nil,listed=>(Region.ready md ops listed).isEmpty
 | .take i p,listed=>(Region.ready md ops listed).contains i && Region.free md ops listed i && fG md ops p (listed.setIfInBounds i true)
 | .go i p,listed=>decide (Region.ready md ops listed=[i]) && fG md ops p (listed.setIfInBounds i true)
 | .two i j p q,listed=>decide (Region.ready md ops listed=[i,j]) && decide (p.len=q.len) && fG md ops p (listed.setIfInBounds i true) && fG md ops q (listed.setIfInBounds j true)
 | .three i j k p q r,listed=>decide (Region.ready md ops listed=[i,j,k]) && decide (p.len=q.len) && decide (p.len=r.len) && fG md ops p (listed.setIfInBounds i true) && fG md ops q (listed.setIfInBounds j true) && fG md ops r (listed.setIfInBounds k true)
theorem wpAnyH_plan(hsel:Region.noSelect l.toArray=true)(hQ:∀d v c a w,Q (.panic c) (Act.put a d v) w->Q (.panic c) a w):
 ∀(p:Plan) (listed:Array Bool) (a:Act) (w:World),fG md l.toArray p listed=true->S w->C8 P l Q S p a w->wpAnyH P md l.toArray Q S p.len listed a w
 | .nil,_,_,_,hB,_,h=>⟨by simpa[fG] using hB,h⟩
 | .take i p,listed,a,w,hB,hS,h=>by
  simp only[fG,aM] at hB;obtain⟨⟨hr,hf⟩,ap⟩:=hB;obtain⟨o,h0,v,hy,hK⟩:=h;have ad:l.toArray[i]?=some o:=by grind
  exact wpAnyH_take ad hsel hf hr (fun c a w=>hQ _ _ c a w) hy hS (wpAnyH_plan hsel hQ p _ _ _ ap hS hK)
 | .go j p,listed,a,w,hB,hS,h=>by
  simp only[fG,aM,decide_eq_true_eq] at hB;refine⟨fun h1=>(by rw[hB.1] at h1;cases h1),fun i hi=>?_⟩;rw[hB.1] at hi;have ar:i=j:=by simpa using hi
  subst ar;have ai:=fun a' w' (hs:S w') (hq:C8 P l Q S p a' w')=>wpAnyH_plan hsel hQ p (listed.setIfInBounds i true) a' w' hB.2 hs hq;obtain⟨o,h0,hw,hh⟩:=h;have ad:l.toArray[i]?=some o:=by simpa using h0
  unfold wpOp;grind [Oper.wp_mono]
 | .two i j p q,listed,a,w,hB,hS,h=>by
  simp only[fG,aM,decide_eq_true_eq] at hB;obtain⟨⟨⟨hr,au⟩,hp⟩,hq⟩:=hB;refine⟨fun h1=>(by grind),fun k hk=>?_⟩;have an:k=i\/k=j:=by grind
  rcases an with rfl | rfl
  ·have ai:=fun a' w' (hs:S w') (hq':C8 P l Q S p a' w')=>wpAnyH_plan hsel hQ p (listed.setIfInBounds k true) a' w' hp hs hq';obtain⟨o,h0,hw,hh⟩:=h.1;have ad:l.toArray[k]?=some o:=by simpa using h0
   unfold wpOp;grind [Oper.wp_mono]
  ·have ai:=fun a' w' (hs:S w') (hq':C8 P l Q S q a' w')=>wpAnyH_plan hsel hQ q (listed.setIfInBounds k true) a' w' hq hs hq';obtain⟨o,h0,hw,hh⟩:=h.2;have ad:l.toArray[k]?=some o:=by simpa using h0
   unfold wpOp;grind [Oper.wp_mono]
 | .three i j m p q r,listed,a,w,hB,hS,h=>by
  simp only[fG,aM,decide_eq_true_eq] at hB;obtain⟨⟨⟨⟨⟨hr,au⟩,a1⟩,hp⟩,hq⟩,a0⟩:=hB;refine⟨fun h1=>(by grind),fun k hk=>?_⟩;have an:k=i\/k=j\/k=m:=by grind
  rcases an with rfl | rfl | rfl
  ·have ai:=fun a' w' (hs:S w') (hq':C8 P l Q S p a' w')=>wpAnyH_plan hsel hQ p (listed.setIfInBounds k true) a' w' hp hs hq';obtain⟨o,h0,hw,hh⟩:=h.1;have ad:l.toArray[k]?=some o:=by simpa using h0
   unfold wpOp;grind [Oper.wp_mono]
  ·have ai:=fun a' w' (hs:S w') (hq':C8 P l Q S q a' w')=>wpAnyH_plan hsel hQ q (listed.setIfInBounds k true) a' w' hq hs hq';obtain⟨o,h0,hw,hh⟩:=h.2.1;have ad:l.toArray[k]?=some o:=by simpa using h0
   unfold wpOp;grind [Oper.wp_mono]
  ·have ai:=fun a' w' (hs:S w') (hq':C8 P l Q S r a' w')=>wpAnyH_plan hsel hQ r (listed.setIfInBounds k true) a' w' a0 hs hq';obtain⟨o,h0,hw,hh⟩:=h.2.2;have ad:l.toArray[k]?=some o:=by simpa using h0
   unfold wpOp;grind [Oper.wp_mono]
def lexPlanB(md:Region.Mode)(ops:Array Oper)(p:Plan):Bool:=
 Region.noSelect ops && decide (p.len=ops.size) && fG md ops p (Array.replicate ops.size false)
end
end Qc
theorem Fi {P:Program}{id:Nat}{Q:Exit->Act->World->Prop}{a:Act}{w:World}{l:List Oper}(I:World->Prop)(p:Qc.Plan)(hm:P.follows .mixedOrders=true)(hB:Qc.lexPlanB .any l.toArray p=true)
 (hI:I w.drew) (h:Qc.C8 P l (NoPanic Q) (FG I) p a w.drew):(Code.region id l.toArray true).wp P Q a w:=by
 simp only[Qc.lexPlanB,aM,decide_eq_true_eq] at hB;obtain⟨⟨ai,hn⟩,ad⟩:=hB;have hS:FG I w.drew:=⟨⟨_,hI⟩,rfl⟩;refine wp_region_noPanic (wp_region_held_drew (S:=FG I) hm hS (fun _=>?_));grind [Qc.wpAnyH_plan,NoPanic]
theorem Dw {P:Program}{l:List Oper}{I:World->Prop}{Q:Exit->Act->World->Prop}{i:Nat}{p:Qc.Plan}{a:Act}{w:World}(o:Oper)(ho:l[i]?=some o)(v:Value)(hw:Region.wanted o (yielded l.toArray a.tmps)=true)(hr:∀w,FG I w->(execOp a.eval o).run P w=.ok (.value v) w)
 (h:Qc.C8 P l Q (FG I) p (a.put o.dst v) w):Qc.C8 P l Q (FG I) (.take i p) a w:=⟨o,ho,v,ab ⟨hw,hr⟩,h⟩
theorem lq {P:Program}{l:List Oper}{I:World->Prop}{Q:Exit->Act->World->Prop}{i:Nat}{p:Qc.Plan}{a:Act}{w:World}{o:Oper}{v:Value}(hr:∀x:Fq I,(execOp a.eval o).run P x.to=.ok (.value v) x.to)(h:Qc.C8 P l Q (FG I) p (a.put o.dst v) w)(ho:l[i]?=some o:=by rfl)(hw:Region.wanted o (yielded l.toArray a.tmps)=true:=by rfl):Qc.C8 P l Q (FG I) (.take i p) a w:=Dw o ho v hw (fun _ g=>by obtain⟨x,rfl⟩:=g;exact hr x) h
theorem Dv {P:Program}{l:List Oper}{Q:Exit->Act->World->Prop}{I:World->Prop}{i:Nat}{p:Qc.Plan}{a:Act}{w:World}(o:Oper)(ho:l[i]?=some o)(hw:Region.wanted o (yielded l.toArray a.tmps)=true)
 (h:∀K':Act->World->Prop,Shut (∀a w,I w->Qc.C8 P l Q (FG I) p a w->K' a w)->Oper.wp P o a w K' Q):Qc.C8 P l Q (FG I) (.go i p) a w:=
 ⟨o,ho,hw,h _ (fun _ _ hI hs=>⟨⟨⟨_,hI⟩,rfl⟩,hs⟩)⟩
theorem eG {P:Program}{l:List Oper}{I:World->Prop}{Q:Exit->Act->World->Prop}{i:Nat}{p:Qc.Plan}{a:Act}{w:World}{o:Oper}(h:∀K':Act->World->Prop,Shut (∀a w,I w->Qc.C8 P l Q (FG I) p a w->K' a w)->Oper.wp P o a w K' Q)(ho:l[i]?=some o:=by rfl)(hw:Region.wanted o (yielded l.toArray a.tmps)=true:=by rfl):Qc.C8 P l Q (FG I) (.go i p) a w:=Dv o ho hw h
theorem rP {P:Program}{l:List Oper}{Q:Exit->Act->World->Prop}{I:World->Prop}{i j:Nat}{p q:Qc.Plan}{a:Act}{w:World}(h1:Qc.C8 P l Q (FG I) (.go i p) a w)(h2:Qc.C8 P l Q (FG I) (.go j q) a w):Qc.C8 P l Q (FG I) (.two i j p q) a w:=⟨h1,h2⟩
theorem Dx {P:Program}{l:List Oper}{Q:Exit->Act->World->Prop}{I:World->Prop}{i j k:Nat}{p q r:Qc.Plan}{a:Act}{w:World}(h1:Qc.C8 P l Q (FG I) (.go i p) a w)(h2:Qc.C8 P l Q (FG I) (.go j q) a w)(h3:Qc.C8 P l Q (FG I) (.go k r) a w):Qc.C8 P l Q (FG I) (.three i j k p q r) a w:=⟨h1,h2,h3⟩
theorem dX {P:Program}{l:List Oper}{Q:Exit->Act->World->Prop}{S:World->Prop}{a:Act}{w:World}(h:Q .normal a w):Qc.C8 P l (NoPanic Q) S .nil a w:=h
