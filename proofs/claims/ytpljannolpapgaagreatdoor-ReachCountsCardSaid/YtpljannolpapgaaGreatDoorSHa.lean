/- The heap in memory; none, get, put, clear: the walks. -/
import Derived.Test.YtpljannolpapgaaGreatDoorSLf
import Derived.Laws.AppendOwn
import Derived.OwnWalk
import Derived.Maps.AppendAt
import Derived.Lib.ItoaWalk
set_option maxRecDepth 100000
set_option maxHeartbeats 1600000
namespace Go.Proofs.YtpljannolpapgaaGreatDoor
section
open Go.RowKit Tryz Go.BigFrame Go.Maps Go.WideMaps Lf
variable{Y:Nat->Prop}{blk:Nat->Nat}{pt:Nat}{s:r_}{v:Value}{w:World}
abbrev fy:Nat:=1
theorem eh.of_keep{w w':World}{pa pm:Nat}(h:eh w pa pm s Y blk)(hs:w.1.size<=w'.1.size)(hb:∀k,k<w.1.size->(k=pa\/k=pm\/∃p∈s.l_,k=blk p)->w'.1[k]?=w.1[k]?):eh w' pa pm s Y blk where
 wf:=h.wf
 hd:=by rw[hb pa (gl h.hd) (ab rfl)];exact h.hd
 map:=rN h.map (hb pm h.map.lt (ae (ab rfl)))
 pg:=fun x hx=>by
  have h1:=h.pg x hx;grind [Array.getElem?_eq_some_iff,jP]
 inj:=h.inj
 ya:=h.ya
 ym:=h.ym
 yp:=h.yp
 yl:=fun k hk=>aF (h.yl k hk) hs
theorem eh.a_{w w':World}{pa pm:Nat}(h:eh w pa pm s Y blk)(hb:D_ w w'):eh w' pa pm s Y blk:=
 h.of_keep hb.size fun k hk _=>hb.block k hk
structure Fz (w:World) (ph pa pm:Nat) (s:r_) (Y:Nat->Prop):Prop where
 slab:∃blk,eh w pa pm s Y blk
 hp:w.1[ph]?=some (.cells #[PV pa] 160 (0,0))
 yh:Y ph
 tab:gA w
 yt:Y fy
theorem Fz.yl{ph pa pm:Nat}(h:Fz w ph pa pm s Y):∀k,Y k->k<w.1.size:=by
 obtain⟨ad,hs⟩:=h.slab;exact hs.yl
theorem Fz.wf{ph pa pm:Nat}(h:Fz w ph pa pm s Y):eQ s:=by
 obtain⟨ad,hs⟩:=h.slab;exact hs.wf
theorem Fz.step{w w':World}{ph pa pm:Nat}{s s':r_}(h:Fz w ph pa pm s Y)(hs:∃blk,eh w' pa pm s' Y blk)(hk:Fo Y w w'):Fz w' ph pa pm s' Y where
 slab:=hs
 hp:=by rw[hk.block ph h.yh];exact h.hp
 yh:=h.yh
 tab:=h.tab.of_block (hk.block _ h.yt)
 yt:=h.yt
theorem Fz.a_{w w':World}{ph pa pm:Nat}(h:Fz w ph pa pm s Y)(hb:D_ w w'):Fz w' ph pa pm s Y:=by
 obtain⟨ad,hs⟩:=h.slab;exact h.step ⟨ad,hs.a_ hb⟩ (Fo.v_ hb hs.yl)
theorem Fz.w_{w w':World}{ph pa pm:Nat}(h:Fz w ph pa pm s Y)(hb:D_ w w'):Fo Y w w':=Fo.v_ hb h.yl
theorem Fz.cell{ph pa pm:Nat}(h:Fz w ph pa pm s Y):w.cell? (y_ ph)=some (PV pa):=e_ h.hp
theorem Fz.lt{ph pa pm:Nat}(h:Fz w ph pa pm s Y):ph<w.1.size:=h.yl _ h.yh
theorem eh.M{pa pm:Nat}{Y Z:Nat->Prop}(h:eh w pa pm s Y blk)(hz:∀k,Z k->Y k):eh w pa pm s Z blk:=
 ⟨h.wf,h.hd,h.map,h.pg,h.inj,fun k=>h.ya (hz _ k),fun k=>h.ym (hz _ k),fun p hp k=>h.yp p hp (hz _ k),fun k hk=>h.yl k (hz k hk)⟩
abbrev lE(Y:Nat->Prop)(b:Nat):Nat->Prop:=fun k=>Y k\/k=b
theorem eh.own{pa pm:Nat}(h:eh w pa pm s Y blk)(o:Obj):eh (w.alloc o) pa pm s (lE Y w.1.size) blk:=by
 have h':=h.a_ ((aa _ w).alloc Ih o);have ad:=(gl h.hd);refine⟨h'.wf,h'.hd,h'.map,h'.pg,h'.inj,?_,?_,?_,?_⟩
 ·rintro(k | k)
  ·exact h.ya k
  omega
 ·rintro(k | k)
  ·exact h.ym k
  ·have:=h.map.lt;omega
 ·rintro p hp (k | k)
  ·exact h.yp p hp k
  ·obtain⟨l,hl⟩:=jP.1 hp;have:=(gl (h.pg _ hl))
   grind
 ·rintro k (hk | hk)
  ·have:=h.yl k hk
   simp;omega
  simp_all
theorem Fz.own{ph pa pm:Nat}(h:Fz w ph pa pm s Y)(o:Obj):Fz (w.alloc o) ph pa pm s (lE Y w.1.size):=by
 have h':=h.a_ ((aa _ w).alloc Ih o);obtain⟨ad,hs⟩:=h.slab;exact⟨⟨ad,hs.own o⟩,h'.hp,ab h.yh,h'.tab,ab h.yt⟩
theorem Fz.M{ph pa pm:Nat}{Y Z:Nat->Prop}(h:Fz w ph pa pm s Y)(hz:∀k,Z k->Y k)(h1:Z ph)(h2:Z fy):Fz w ph pa pm s Z:=by
 obtain⟨ad,hs⟩:=h.slab;exact⟨⟨ad,hs.M hz⟩,h.hp,h1,h.tab,h2⟩
theorem Fz.drewN{ph pa pm:Nat}(h:Fz w ph pa pm s Y)(n:Nat):Fz (w.drewN n) ph pa pm s Y:=h.a_ ⟨rfl,rfl,rfl,Nat.le_refl _,fun _ _=>rfl⟩
theorem Fz.read{ph pa pm:Nat}(h:Fz w ph pa pm s Y)(a:Nat)(ha:a<=2^62):
 Ct 69 #[PV pa,Xi a] w fun e w'=>e=.returned (.tuple #[Xu (s.rd a:Nat),Xi (s.err a:Nat)])/\w=w':=by
 obtain⟨ad,hs⟩:=h.slab;exact wR hs a ha
theorem Fz.write{ph pa pm:Nat}(h:Fz w ph pa pm s Y)(a x:Nat)(ha:a<=2^62)(hx:x<2^64):
 Ct 66 #[PV pa,Xi a,Xu x] w fun e w'=>e=.returned (Xi (s.err a:Nat))/\Fz w' ph pa pm (s.wr a x) Y/\Fo Y w w':=by
 obtain⟨ad,hs⟩:=h.slab;refine(Ep hs a x ha hx).M ?_;rintro e w' ⟨h1,h2,h3⟩;exact⟨h1,h.step ⟨_,h2⟩ h3,h3⟩
theorem Fz.write'{ph pa pm:Nat}(h:Fz w ph pa pm s Y)(a x:Nat){ai xi:Int}(ha:a<=2^62)(hx:x<2^64)(hai:ai=(a:Int))(hxi:xi=(x:Int)):
 Ct 66 #[PV pa,Xi ai,Xu xi] w fun e w'=>e=.returned (Xi (s.err a:Nat))/\Fz w' ph pa pm (s.wr a x) Y/\Fo Y w w':=by
 subst hai hxi;exact h.write a x ha hx
theorem Fz.rd_lt{ph pa pm:Nat}(h:Fz w ph pa pm s Y)(a:Nat):s.rd a<2^64:=by
 obtain⟨ad,hs⟩:=h.slab;exact hs.rd_lt a
theorem qV{ph pa pm:Nat}(h:Fz w ph pa pm s Y):
 Ct 101 #[PV ph] w fun e w'=>e=.returned (.bool false)/\w=w':=by
 have c1:=h.cell;go_enter func101,ntmps101
 go_wp2
 go_ret
 simp_all
def fT(x:Hr):Value:=.agg #[Xi x.j_,Xi x.n,Xu x.w]
theorem qU{ph pa pm:Nat}(h:Fz w ph pa pm s Y)(p:Nat)(hp:p<=1048576):
 Cb 153 #[PV ph,Xi p] w (fT (FA s p)):=by
 have c1:=h.cell;have hlt:=h.lt;have r1:=fun W (hb:D_ w W)=>(h.a_ hb).read (p*64) o_;have r2:=fun W (hb:D_ w W)=>(h.a_ hb).read (p*64+1) o_;have l1:=h.rd_lt (p*64);have he:FA s p=⟨s.rd (p*64) % 256,s.rd (p*64) / 256,s.rd (p*64+1)⟩:=rfl;rw[he];generalize s.rd (p*64)=a at*;generalize s.rd (p*64+1)=b at*;generalize s.err (p*64)=e1 at*;generalize s.err (p*64+1)=e2 at*;have HR:=kq2 r1 r2;have ai:=bits_and_u64_nat a 255 l1 d_;rw[show a &&& 255=a % 256 from Nat.and_two_pow_sub_one_eq_mod a 8] at ai;have ad:D_ w (w.alloc (.cells #[Xi 0,Xi 0,Xu 0] 188)):=(aa _ w).alloc Ih _;go_enter func153,ntmps153;go_wp2_with fail;refine Jc (HR.a _ ad) ?_;go_wp2_with fail;refine Jc (HR.b _ ad) ?_;go_wp2_with fail;have hw:wrap64 (bits BinOp.and IntKind.u64 (a:Int) 255)=((a % 256:Nat):Int):=by
  grind [wrap64]
 simp only[hw];exact bodyPost_ret (v:=fT ⟨a % 256,a / 256,b⟩) (by simp[results,f153,go_sem,fT]) rfl ⟨rfl,(aa _ w).alloc Ih _⟩
theorem oh{ph pa pm:Nat}(h:Fz w ph pa pm s Y)(p:Nat)(x:Hr)(hp:p<=1048576)(hk:x.j_<256)(hn:x.n<2^56)(hxw:x.w<2^64):
 Ct 105 #[PV ph,Xi p,fT x] w fun e w'=>e=.returned (.tuple #[])/\Fz w' ph pa pm (Ie s p x) Y/\Fo Y w w':=by
 obtain⟨kd,xn,xw⟩:=x;simp only at hk hn hxw;simp only[fT];have ho:=h.own (Xj kd xn xw);have a4:kd+xn*256<2^64:=o_
 have au:bits BinOp.or IntKind.u64 (kd:Int) ((xn:Int)*256)=((kd+xn*256:Nat):Int):=by
  rw[show ((xn:Int)*256)=((xn*256:Nat):Int) by simp,bits_or_u64_nat _ _ o_ o_]
  congr 1
  have h8:=cX (i:=8) (b:=kd) o_ xn
  grind [Nat.shiftLeft_eq,Nat.add_comm]
 have a0:=If au;clear au;have a5:IntKind.u64.wrap ((xn:Int)*256)=((xn*256:Nat):Int):=by rw[IntKind.wrap_u64];omega
 have a3:Ie s p ⟨kd,xn,xw⟩=(s.wr (p*64) (kd+xn*256)).wr (p*64+1) xw:=rfl;obtain⟨W0,ad⟩:=Ii (w.alloc (Xj kd xn xw));have ai:W0.1[w.1.size]?=some (.cells #[Xi kd,Xi xn,Xu xw] 188 (0,0)):=by
  rw[<-ad]
  show (w.1.push _)[w.1.size]?=_;simp
 have an:D_ w W0:=by rw[<-ad];exact(aa _ w).alloc Ih _
 have b0:W0.cell? (y_ w.1.size)=some (Xi kd):=e_ ai
 have b1:W0.cell? (x_ w.1.size 1)=some (Xi xn):=e_ ai
 have b2:W0.cell? (x_ w.1.size 2)=some (Xu xw):=e_ ai
 rw[ad] at ho;have c1:=ho.cell;have HO:=kq5 ho (h.w_ an) (kq2 h.yh h.yt) ad ai;clear ho h ad ai an a3;go_enter func105,ntmps105;go_wp2_with fail;rw[HO.d];refine lD (C:=fun w'=>∃q:Nat,w'=(W0).drewN q) 14 k_ k_ ⟨1,rfl⟩ ?_;simp only[ci,bU,bZ,da]
 repeat (first | go_big_quiet_skip | (go_big_quiet_want;go_big_quiet_op;first | go_big_quiet_on))
 refine wpQuiet_nil ?_;rintro _ ⟨q,rfl⟩;go_wp2_with fail;refine((HO.a.drewN q).write' (p*64) (kd+xn*256) o_ a4 s_ a0.O).M ?_;rintro e w1 ⟨rfl,ar,ap⟩;have c1:=ar.cell;have b2:w1.cell? (x_ w.1.size 2)=some (Xu xw):=by rw[ap.cell (p:=x_ w.1.size 2) (ae rfl)];exact b2
 have H1:=kq2 ar (ap.M (Z:=Y) fun k hk=>ab hk);go_wp2_with fail;refine lD (C:=fun w'=>∃q:Nat,w'=(w1).drewN q) 9 k_ k_ ⟨1,rfl⟩ ?_;simp only[ci,bU,bZ,da]
 repeat (first | go_big_quiet_skip | (go_big_quiet_want;go_big_quiet_op;first | go_big_quiet_on))
 refine wpQuiet_nil ?_;rintro _ ⟨q,rfl⟩;go_wp2_with fail;refine((H1.a.drewN q).write' (p*64+1) xw o_ hxw s_ rfl).M ?_;rintro e w2 ⟨rfl,a2,a1⟩;have H2:=kq2 (a2.M (fun k hk=>ab hk) HO.c.a HO.c.b) (a1.M (Z:=Y) fun k hk=>ab hk);go_wp2_with fail
 go_end0
 exact⟨rfl,H2.a,HO.b.T ((Fo.drewN _ _ _).T (H1.b.T ((Fo.drewN _ _ _).T H2.b)))⟩
theorem Bp{ph pa pm:Nat}(h:Fz w ph pa pm s Y)(a n:Nat)(ha:a<=2305843009213693952)(hn:n<=100000):
 Ct 156 #[PV ph,Xi a,Xi n] w fun e w'=>e=.returned (.tuple #[])/\Fz w' ph pa pm (nY s a n) Y/\Fo Y w w':=by
 have H:=If h;go_enter func156,ntmps156;go_wp2_with fail
 go_loopw [6,8] (fun _ i wr=>∃k:Nat,k<=n/\i=Xi k/\Hid (Fz wr ph pa pm (s.zero a k) Y/\Fo Y w wr)) (fun _ i _=>n-(intOf i).toNat)
 case atStart=>exact⟨0,o_,rfl,H.O,Fo.refl _ _⟩
 case round=>
  obtain⟨k,hk,rfl,ad⟩:=hrel;have c1:=ad.O.1.cell
  by_cases hlt:k<n
  ·go_wp2_with fail;refine(ad.O.1.write' (a+k) 0 o_ d_ s_ rfl).M ?_;rintro e w1 ⟨rfl,h1,k1⟩;have H1:=kq2 h1 (ad.O.2.T k1);go_wp2_with fail;go_roundw
   case rel=>exact⟨k+1,o_,by go_num,H1.O⟩
   case measure=>simp[intOf];omega
  ·obtain rfl:k=n:=o_
   go_wp2_with fail
   go_end0
   exact⟨rfl,ad.O⟩
structure iW (t:Hs):Prop where
 most:1<=t.most/\t.most<=65536
 last:1<=t.last/\t.last<4294967296
 len:t.p_.length<=t.most
 slot:∀x∈t.p_,x.is<=2/\x.gen<4294967296/\x.t_<=4611686018427387903
def ko(x:mj):List Value:=[Xi x.is,.int .u32 x.gen,Xi x.t_]
def fp(l:List mj):List Value:=l.flatMap ko
structure eI (w:World) (pt:Nat) (t:Hs) (v:Value):Prop where
 wf:iW t
 hd:w.1[pt]?=some (.cells #[Xi t.most,.int .u32 t.last,v] 158 (0,0))
 row:w.ownsRow 0 197 3 v t.p_.length (fp t.p_)
theorem oV(l:List mj):(fp l).length=l.length*3:=by
 induction l with
 | nil=>rfl
 | cons x r ih=>simp only[fp,co,af,ko,aj,aJ] at ih⊢;omega
theorem wS(l:List mj):∀(k j:Nat) (h:k<l.length),j<3->(fp l)[k*3+j]?=(ko l[k])[j]?:=by
 induction l with
 | nil=>intro k j h;simp at h
 | cons x r ih=>
  intro k j h hj
  cases k with
  | zero=>
   simp only[fp,co,Nat.zero_mul,bA,List.getElem_cons_zero];rw[List.getElem?_append_left (by simp[ko];omega)]
  | succ k=>
   simp only[fp,co,List.getElem_cons_succ];rw[List.getElem?_append_right (by simp[ko];omega),show (k+1)*3+j-(ko x).length=k*3+j by simp[ko];omega];exact ih k j (by simpa using h) hj
theorem eI.cells{t:Hs}(h:eI w pt t v):
 (t.p_=[]/\v=.slice none 0 0)\/∃g ad,v=.slice (some (y_ g)) t.p_.length ad/\∀(k:Nat) (hk:k<t.p_.length),
  w.cell? ⟨g,k*3,none⟩=some (Xi t.p_[k].is)/\w.cell? ⟨g,k*3+1,none⟩=some (.int .u32 t.p_[k].gen)/\w.cell? ⟨g,k*3+2,none⟩=some (Xi t.p_[k].t_):=by
 rcases h.row.2 with⟨h0,hx⟩ | ⟨g,ad,cur,hv,_,hb,h1,_,h3,h4⟩
 ·exact ab ⟨bG.1 hx,h0⟩
 ·refine ae ⟨g,ad,hv,fun k hk=>?_⟩;have key:∀j,j<3->w.cell? ⟨g,k*3+j,none⟩=(ko t.p_[k])[j]?:=fun j hj=>by
   rw[q_ hb,<-wS t.p_ k j hk hj,<-h4,cQ o_,bJ]
  exact⟨key 0 d_,key 1 d_,key 2 d_⟩
theorem xz{t:Hs}(h:eI w pt t v):
 Ct 111 #[PV pt] w fun e w'=>e=.returned (.bool false)/\w=w':=by
 have c0:w.cell? (y_ pt)=some (Xi t.most):=e_ h.hd
 have hm:=h.wf.most;have hb:((t.most:Int)==0)=false:=m_
 clear h;go_enter func111,ntmps111
 go_wp2
 go_ret;exact⟨rfl,rfl⟩
def oU(v:Value)(k:Nat):Value:=match v with | .slice (some ⟨g,0,none⟩) _ _=> .pointer (some ⟨g,k*3,none⟩) | _=> .pointer none
theorem qHaae{P:Prop}(h:P:=by
 have HG:=kq2 an ai;clear an ai hR ad hq hg hL h0;go_enter func164,ntmps164;exact qHaaa):P:=h
theorem qHaaa{P:Prop}(h:P:=by
 go_wp2_with fail;refine Jc HG.a ?_;go_wp2_with fail;go_ret2;obtain rfl:=HG.b;exact⟨rfl,rfl⟩):P:=h
theorem Is{t:Hs}(h:eI w pt t v)(hh:Nat)(hl:hh<2^64):
 Ct 164 #[PV pt,Xu hh] w fun e w'=>e=.returned (match t.of hh with | some k=> .tuple #[oU v k,Xi 0] | none=> .tuple #[.pointer none,Xi 7])/\w=w':=by
 have an:=xz h;have c2:w.cell? (x_ pt 2)=some v:=e_ h.hd
 have a0:bits BinOp.and IntKind.u64 (hh:Int) 4294967295=((hh % 4294967296:Nat):Int):=by
  rw[show (4294967295:Int)=((4294967295:Nat):Int) from rfl,bits_and_u64_nat _ _ hl d_]
  congr 1
  exact Nat.and_two_pow_sub_one_eq_mod hh 32
 obtain⟨q,hq⟩:=Ii (hh % 4294967296);obtain⟨g,hg⟩:=Ii (hh / 4294967296);have au:(hh:Int) / 4294967296=(g:Int):=o_
 have ar:q<4294967296:=o_
 have a4:g<4294967296:=o_
 rw[hq] at a0;obtain⟨R,hR⟩:=Ii (match t.of hh with | some k=>Value.tuple #[oU v k,Xi 0] | none=> .tuple #[.pointer none,Xi 7]);rw[hR];have ad:t.of hh=if q=0 then none else match t.p_[q-1]? with | none=>none | some x=>if x.is=1/\x.gen=g then some (q-1) else none:=by
  unfold Hs.of;simp only[hq,hg]
  rfl
 by_cases h0:q=0
 ·rw[h0,if_pos rfl] at ad;have ai:R=.tuple #[.pointer none,Xi 7]:=by rw[<-hR,ad]
  subst h0;have HG:=kq2 an ai;clear an ai hR ad h hq hg au;go_enter func164,ntmps164;exact qHaaa
 ·rw[if_neg h0] at ad
  rcases h.cells with⟨he,hv⟩ | ⟨b,a3,hv,ap⟩
  ·rw[he] at ad;have ai:R=.tuple #[.pointer none,Xi 7]:=by rw[<-hR,ad];rfl
   subst hv;have h1:¬((q:Int)-1<0):=o_
   have HG:=kq2 an ai;clear an ai hR ad h hq hg he au;go_enter func164,ntmps164;exact qHaaa
  ·obtain⟨k,rfl⟩:∃k,q=k+1:=⟨q-1,o_⟩;rw[Nat.add_sub_cancel] at ad;have a5:=h.wf.len;have a6:=h.wf.most
   by_cases hk:k<t.p_.length
   ·obtain⟨k0,k1,_⟩:=ap k hk;rw[ag hk] at ad;simp only at ad;have a1:=(h.wf.slot _ (av hk)).2.1;clear ap;generalize t.p_[k]=x at*;clear h;generalize hL:t.p_.length=L at*;obtain⟨xi,xg,xa⟩:=x;simp only at ad k0 k1 a1;subst hv;have a2:(k:Int)<L:=o_
    by_cases h1:xi=1
    ·by_cases h2:xg=g
     ·have ai:R=.tuple #[.pointer (some ⟨b,k*3,none⟩),Xi 0]:=by rw[<-hR,ad,if_pos ⟨h1,h2⟩];rfl
      subst h1 h2;exact qHaae
     ·have ai:R=.tuple #[.pointer none,Xi 7]:=by rw[<-hR,ad,if_neg (fun hh=>h2 hh.2)]
      have ar:((xg:Int) !=g)=true:=m_
      subst h1;have HG:=kq2 an ai;clear an ai hR ad hq hg hL h0 h2;go_enter func164,ntmps164;exact qHaaa
    ·have ai:R=.tuple #[.pointer none,Xi 7]:=by rw[<-hR,ad,if_neg (fun hh=>h1 hh.1)]
     have ar:((xi:Int) !=1)=true:=m_
     have HG:=kq2 an ai;clear an ai hR ad hq hg hL h0 h1;go_enter func164,ntmps164;exact qHaaa
   ·rw[aY o_] at ad;have ai:R=.tuple #[.pointer none,Xi 7]:=by rw[<-hR,ad]
    clear ap h;generalize hL:t.p_.length=L at*;subst hv;have a2:(L:Int)<=k:=o_
    exact qHaae
theorem Hs.of_lt{t:Hs}{h k:Nat}(hk:t.of h=some k):∃hlt:k<t.p_.length,t.p_[k].is=1/\t.p_[k].gen=h / 4294967296/\k+1=h % 4294967296:=by
 unfold Hs.of at hk;simp only at hk
 split at hk
 ·cases hk
 ·rename_i h0
  split at hk
  ·cases hk
  ·rename_i x hx
   split at hk
   ·rename_i hc
    injection hk with hk
    obtain⟨hlt,ad⟩:=aD.1 hx;subst hk;refine⟨hlt,?_,?_,o_⟩
    ·rw[ad];exact hc.1
    ·rw[ad];exact hc.2
   ·cases hk
theorem sQ{t:Hs}{h k:Nat}(hk:t.of h=some k)(hlt:k<t.p_.length):t.at h=(t.p_[k].t_,0):=by
 unfold Hs.at;rw[hk];simp only;rw[az,ag hlt];rfl
theorem qHaac{P:Prop}(h:P:=by
 go_enter func128,ntmps128;go_wp2_with fail;refine Jc HO.O ?_;go_wp2_with fail;go_ret2;exact⟨rfl,rfl⟩):P:=h
theorem EH{t:Hs}(h:eI w pt t v)(hh:Nat)(hl:hh<2^64):
 Ct 128 #[PV pt,Xu hh] w fun e w'=>e=.returned (.tuple #[Xi ((t.at hh).1:Nat),Xi ((t.at hh).2:Nat)])/\w=w':=by
 have ho:=Is h hh hl
 cases hk:t.of hh with
 | none=>
  have he:t.at hh=(0,7):=by unfold Hs.at;rw[hk]
  rw[hk] at ho;rw[he];have HO:=If ho;clear ho he hk h;exact qHaac
 | some k=>
  obtain⟨hlt,_⟩:=Hs.of_lt hk;have he:=sQ hk hlt;rw[hk] at ho;rw[he]
  rcases h.cells with⟨h0,_⟩ | ⟨b,ai,hv,ad⟩
  ·rw[h0] at hlt
   simp at hlt
  ·have k2:=(ad k hlt).2.2;generalize t.p_[k]=x at*;rw[hv] at ho;simp only[oU] at ho;have HO:=If ho;clear ho he hk ad h hv;exact qHaac
theorem EK(n l:Nat)(w:World)(hn:1<=n/\n<=65536)(hl:1<=l/\l<4294967296):
 Ct 45 #[Xi n,.int .u32 l] w fun e w'=>e=.returned (.tuple #[PV w.1.size,Xi 0])/\eI w' w.1.size ⟨n,l,[]⟩ n_/\D_ w w':=by
 obtain⟨h1,h2⟩:=hn;obtain⟨h3,h4⟩:=hl;have ht:eI (w.alloc (.cells #[Xi n,.int .u32 l,n_] 158)) w.1.size ⟨n,l,[]⟩ n_:=by
  refine⟨⟨⟨h1,h2⟩,⟨h3,h4⟩,cD _,fun x hx=>absurd hx s_⟩,?_,World.ownsRow_nil _ _ _ _⟩
  show (w.1.push _)[w.1.size]?=_
  simp
 have HT:=If ht;clear ht;go_enter func45,ntmps45
 go_wp2
 go_ret2;exact⟨rfl,HT.O,(aa _ _).alloc Ih _⟩
theorem EJ{t:Hs}(h:eI w pt t v)(k:Nat)(hk:k<t.p_.length):
 Ct 112 #[PV pt,Xi k] w fun e w'=>e=.returned (Xu (gj t.p_[k].gen k:Nat))/\w=w':=by
 have c2:w.cell? (x_ pt 2)=some v:=e_ h.hd
 have au:=h.wf.len;have a0:=h.wf.most
 rcases h.cells with⟨h0,_⟩ | ⟨b,ap,hv,ad⟩
 ·rw[h0] at hk
  simp at hk
 ·have k1:=(ad k hk).2.1;have hg:=(h.wf.slot _ (av hk)).2.1;clear ad;generalize t.p_[k].gen=g at*;clear h;generalize hL:t.p_.length=L at*;subst hv;have ar:(k:Int)<L:=o_
  have ai:bits BinOp.or IntKind.u64 ((g:Int)*4294967296) ((k:Int)+1)=((gj g k:Nat):Int):=by
   rw[show ((g:Int)*4294967296)=((g*4294967296:Nat):Int) by simp,show ((k:Int)+1)=((k+1:Nat):Int) by simp,bits_or_u64_nat _ _ o_ o_]
   congr 1
   have h8:=cX (i:=32) (b:=k+1) o_ g;rw[Nat.shiftLeft_eq] at h8;exact h8.S
  have an:=If ai;clear ai hL;go_enter func112,ntmps112
  go_wp2
  go_ret;rw[<-an.O];exact⟨rfl,rfl⟩
theorem qC:∀(l:List mj) (k0 k:Nat),k<=l.length->(∀j (h:j<l.length),j<k->l[j].is≠0)->(k=l.length\/∃h:k<l.length,l[k].is=0)->gH l k0=k0+k
 | [],k0,k,hk,_,_=>by
  have:k=0:=by grind
  subst this;rfl
 | x::r,k0,k,hk,h1,h2=>by
  unfold gH;cases k with
  | zero=>
   rcases h2 with h2 | ⟨h,h2⟩
   ·grind
   ·grind
  | succ k=>
   have hx:=h1 0 s_ o_;rw[if_neg (by grind),qC r (k0+1) k (by grind) (fun j h hj=>by grind) (by
    grind)]
   omega
theorem wT:∀(l:List mj) (k:Nat) (x:mj),k<l.length->(((fp l).set (k*3) (Xi x.is)).set (k*3+1) (.int .u32 x.gen)).set (k*3+2) (Xi x.t_)=fp (l.set k x)
 | [],k,_,h=>by simp at h
 | y::r,0,x,_=>rfl
 | y::r,k+1,x,h=>by
  have ih:=wT r k x (by simpa using h);have e:fp (y::r)=(Xi y.is)::(.int .u32 y.gen)::(Xi y.t_)::fp r:=rfl;have e2:fp ((y::r).set (k+1) x)=(Xi y.is)::(.int .u32 y.gen)::(Xi y.t_)::fp (r.set k x):=rfl;rw[e,e2,<-ih,show (k+1)*3=k*3+1+1+1 by omega,show k*3+1+1+1+1=k*3+1+1+1+1 from rfl,show k*3+1+1+1+2=k*3+2+1+1+1 by omega];simp only[List.set_cons_succ]
theorem Er(l m:List mj):fp (l++m)=fp l++fp m:=by unfold fp;grind
def jz(w:World)(g k:Nat)(x:mj):World:=((w.setCell ⟨g,k*3,none⟩ (Xi x.is)).setCell ⟨g,k*3+1,none⟩ (.int .u32 x.gen)).setCell ⟨g,k*3+2,none⟩ (Xi x.t_)
theorem wB{g k b:Nat}{x:mj}(h:b≠g):(jz w g k x).1[b]?=w.1[b]?:=by
 grind [jz,FB]
theorem DH(w:World)(g k:Nat)(x:mj):(jz w g k x).1.size=w.1.size:=by unfold jz;simp_all
theorem Do{g cap k:Nat}{l:List mj}(h:w.ownsRow 0 197 3 (.slice (some (y_ g)) l.length cap) l.length (fp l))(x:mj)(hk:k<l.length):
 (jz w g k x).ownsRow 0 197 3 (.slice (some (y_ g)) l.length cap) l.length (fp (l.set k x)):=by
 rcases h.2 with⟨h0,_⟩ | ⟨g',ad,cur,hv,hg,hb,h1,h2,h3,h4⟩
 ·omega
 ·injection hv with hv1 hv2 hv3
  injection hv1 with hv1
  injection hv1 with hv1
  subst hv1 hv3;refine⟨by rw[oV,bz],ae ⟨g,cap,((cur.setIfInBounds (k*3) (Xi x.is)).setIfInBounds (k*3+1) (.int .u32 x.gen)).setIfInBounds (k*3+2) (Xi x.t_),rfl,hg,?_,h1,h2,by grind,?_⟩⟩
  ·grind [jz,heap_setCell]
  ·have ai:cur.toList=fp l++cur.toList.drop (l.length*3):=by rw[<-h4,aX]
   grind [oV,Array.toList_setIfInBounds,List.set_append_left,List.take_left',wT]
theorem Eq:(prog.info? 197).map (fun i=>(i.zero,i.size,i.bytes))=some (some (.agg #[Xi 0,.int .u32 0,Xi 0]),3,24):=k_
theorem eI.form{t:Hs}(h:eI w pt t v):
 ∃A ad,v=.slice A t.p_.length ad/\∀(k:Nat) (hk:k<t.p_.length),∃g,A=some (y_ g)/\
  (w.cell? ⟨g,k*3,none⟩=some (Xi t.p_[k].is)/\w.cell? ⟨g,k*3+1,none⟩=some (.int .u32 t.p_[k].gen)/\w.cell? ⟨g,k*3+2,none⟩=some (Xi t.p_[k].t_))/\
  (w.frozen? ⟨g,k*3,none⟩=false/\w.frozen? ⟨g,k*3+1,none⟩=false/\w.frozen? ⟨g,k*3+2,none⟩=false)/\g≠pt:=by
 rcases h.row.2 with⟨h0,hx⟩ | ⟨g,ad,cur,hv,_,hb,h1,_,h3,h4⟩
 ·grind
 ·refine⟨_,ad,hv,fun k hk=>⟨g,rfl,?_,⟨AT hb,AT hb,AT hb⟩,fun e=>?_⟩⟩
  ·have key:∀j,j<3->w.cell? ⟨g,k*3+j,none⟩=(ko t.p_[k])[j]?:=fun j hj=>by
    rw[q_ hb,<-wS t.p_ k j hk hj,<-h4,cQ o_,bJ]
   exact⟨key 0 d_,key 1 d_,key 2 d_⟩
  ·have:=h.hd;grind
theorem eI.set{t:Hs}{g cap k:Nat}(h:eI w pt t (.slice (some (y_ g)) t.p_.length cap))(x:mj)(hk:k<t.p_.length)(hx:x.is<=2/\x.gen<4294967296/\x.t_<=4611686018427387903)(hg:g≠pt):
 eI (jz w g k x) pt { t with p_:=t.p_.set k x } (.slice (some (y_ g)) t.p_.length cap) where
 wf:=⟨h.wf.most,h.wf.last,by simpa using h.wf.len,fun y hy=>by
  rcases dh hy with hy | rfl
  ·exact h.wf.slot y hy
  omega⟩
 hd:=by rw[wB (Ne.S hg)];exact h.hd
 row:=by
  have:=Do h.row x hk;grind
theorem eI.opened{t:Hs}{g cap k:Nat}(h:eI w pt t (.slice (some (y_ g)) t.p_.length cap))(q is gen a:Nat)(hk:k<t.p_.length)(hx:is<=2/\gen<4294967296/\a<=4611686018427387903)(hg:g≠pt)(Y:Nat->Prop)(hy:∀b,Y b->b≠g):
 eI (jz (w.drewN q) g k ⟨is,gen,a⟩) pt { t with p_:=t.p_.set k ⟨is,gen,a⟩ } (.slice (some (y_ g)) t.p_.length cap)/\Fo Y w (jz (w.drewN q) g k ⟨is,gen,a⟩):=
 have hd:eI (w.drewN q) pt t (.slice (some (y_ g)) t.p_.length cap):=⟨h.wf,h.hd,h.row⟩
 ⟨hd.set ⟨is,gen,a⟩ hk hx hg,rfl,rfl,rfl,Nat.le_of_eq (DH (w.drewN q) g k ⟨is,gen,a⟩).S,fun b hb=>wB (w:=w.drewN q) (hy b hb)⟩
theorem eI.named{t:Hs}{k is gen a:Nat}(h:eI w pt { t with p_:=t.p_.set k ⟨is,gen,a⟩ } v)(hk:k<t.p_.length):
 Ct 112 #[PV pt,Xi k] w fun e w'=>e=.returned (Xu (gj gen k:Nat))/\w=w':=by
 have:=EJ h k (by grind);simpa using this
theorem Es(l:List mj):fp l++[Xi 0,.int .u32 0,Xi 0]=fp (l++[⟨0,0,0⟩]):=by rw[Er];rfl
theorem eI.head_ne{t:Hs}(h:eI w pt t v):v.ownBlock≠some pt:=by
 rcases h.row.2 with⟨rfl,_⟩ | ⟨g,ad,cur,rfl,_,hb,_⟩
 ·simp[Value.ownBlock]
 ·simp only[Value.ownBlock,ne_eq,Option.some.injEq];intro e;have:=h.hd
  grind
theorem eI.pt_lt{t:Hs}(h:eI w pt t v):pt<w.1.size:=(gl h.hd)
theorem eI.grew{w w1:World}{t:Hs}{v v':Value}(h:eI w pt t v)(o:Obj)(hm:t.p_.length<t.most)(hown:w1.ownsRow 0 197 3 v' (t.p_.length+1) (fp t.p_++[Xi 0,.int .u32 0,Xi 0]))
 (hgrow:(w.alloc o).grownBy w1 v.ownBlock) (hat:v'.ownBlock=v.ownBlock\/v'.ownBlock=some (w.1.size+1)) (Y:Nat->Prop) (hy:∀b,Y b->b<w.1.size/\b≠pt/\some b≠v.ownBlock):
 w1.1[pt]?=w.1[pt]?/\eI (w1.setCell (x_ pt 2) v') pt { t with p_:=t.p_++[⟨0,0,0⟩] } v'/\Fo Y w (w1.setCell (x_ pt 2) v')/\(∀b,Y b->some b≠v'.ownBlock):=by
 have hlt:=h.pt_lt;have ad:w1.1[pt]?=w.1[pt]?:=by
  rw[hgrow.block pt m_ (fun e=>h.head_ne e.S),heap_alloc_old w o hlt]
 have an:v'.ownBlock≠some pt:=by
  rcases hat with e | e
  ·rw[e];exact h.head_ne
  ·rw[e];simp;omega
 refine⟨ad,⟨⟨h.wf.most,h.wf.last,m_,fun x hx=>?_⟩,?_,?_⟩,⟨hgrow.os,hgrow.tape,hgrow.output,?_,fun b hb=>?_⟩,fun b hb e=>?_⟩
 ·rcases ak.1 hx with hx | hx
  ·exact h.wf.slot x hx
  ·obtain rfl:=aE.1 hx;simp
 ·exact heap_setCell (ad.T h.hd)
 ·rw[Es] at hown;simp only[af,aj,aJ,bA];refine⟨hown.1,?_⟩;rcases hown.2 with hn | ⟨g,ai,cur,rfl,hb,hg,ap⟩
  ·exact ab hn
  ·refine ae ⟨g,ai,cur,rfl,hb,?_,ap⟩;rw[FB (fun e=>an (by rw[<-show g=pt from e];rfl))];exact hg
 ·have:=hgrow.size;rw[size_setCell];simp at this
  omega
 ·obtain⟨h1,h2,h3⟩:=hy b hb;rw[FB h2,hgrow.block b m_ h3,heap_alloc_old w o h1]
 grind
theorem EL{t:Hs}(h:eI w pt t v)(a:Nat)(ha:a<=4611686018427387903)(Y:Nat->Prop)(hy:∀b,Y b->b<w.1.size/\b≠pt/\some b≠v.ownBlock):
 Ct 65 #[PV pt,Xi a] w fun e w'=>e=.returned (.tuple #[Xu ((t.open a).1.1:Nat),Xi ((t.open a).1.2:Nat)])/\(∃v',eI w' pt (t.open a).2 v'/\∀b,Y b->some b≠v'.ownBlock)/\Fo Y w w':=by
 have c0:w.cell? (y_ pt)=some (Xi t.most):=e_ h.hd
 have c2:w.cell? (x_ pt 2)=some v:=e_ h.hd
 have f2:w.frozen? (x_ pt 2)=false:=AT h.hd;obtain⟨A,a4,hv,a6⟩:=h.form;have a2:=h.wf.len;have a':=h.wf.most;obtain⟨R,hR⟩:=Ii (t.open a);rw[hR];have a5:R=if gH t.p_ 0=t.most then((0,10),t) else((gj ((t.genAt (gH t.p_ 0)+1) % 4294967296) (gH t.p_ 0),0),{ t with p_:=(if gH t.p_ 0=t.p_.length then t.p_++[⟨0,0,0⟩] else t.p_).set (gH t.p_ 0) ⟨1,(t.genAt (gH t.p_ 0)+1) % 4294967296,a⟩ }):=by rw[<-hR];rfl
 subst hv;obtain⟨L,hL⟩:=Ii t.p_.length;obtain⟨M,hM⟩:=Ii t.most;rw[hL] at c2 a2;rw[hM] at c0 a2 a';have HG:=kq7 (xz h) a5 h a6 hL hM hy;go_enter func65,ntmps65;go_wp2_with fail;refine Jc HG.a ?_;go_wp2_with fail
 go_loop [6] (fun i=>∃k:Nat,k<=L/\i=Xi k/\Hid (∀j (h:j<t.p_.length),j<k->t.p_[j].is≠0)) (fun i=>L-(intOf i).toNat)
 case atStart=>exact⟨0,o_,rfl,fun j _ hj=>absurd hj o_⟩
 case round=>
  obtain⟨k,hk,rfl,ap⟩:=hrel
  by_cases hlt:k<L
  ·obtain⟨g,hA,⟨k0,k1,k2⟩,⟨f0,f1,f3⟩,an⟩:=HG.d k (by rw[HG.e];omega);subst hA;have bm:(k:Int)<L:=o_
   by_cases hz:(t.p_[k]'(by grind)).is=0
   ·rw[hz] at k0;have ad:gH t.p_ 0=0+k:=qC t.p_ 0 k (by grind) ap.O (ae ⟨by grind,hz⟩);rw[bA] at ad;have a9:((k:Int)==M)=false:=by grind
    have bk:((k:Int)==L)=false:=by grind
    have a3:=HG.c.wf.slot _ (av (show k<t.p_.length by rw[HG.e];exact hlt));have a1:t.genAt k=(t.p_[k]'(by grind)).gen:=by
     grind [Hs.genAt,List.getElem?_eq_getElem]
    obtain⟨gn,a8⟩:=Ii (t.p_[k]'(by grind)).gen;rw[a8] at k1 a1 a3;have HF:=kq3 ad a1 a3;go_wp2_with fail;refine lD (C:=fun w'=>∃q:Nat,w'=(w).drewN q) 17 k_ k_ ⟨1,rfl⟩ ?_;simp only[ci,bU,bZ,da]
    repeat (first | go_big_quiet_skip | (go_big_quiet_want;go_big_quiet_op;first | go_big_quiet_on))
    refine wpQuiet_nil ?_;rintro _ ⟨q,rfl⟩;go_wp2_with fail;have HP:=If (HG.c.opened q 1 ((gn+1) % 4294967296) a (by rw[HG.e];exact hlt) ⟨o_,Nat.mod_lt _ d_,ha⟩ an Y (fun b hb e=>(HG.g b hb).2.2 (by rw[e];rfl)));have HN:=HP.O.1.named (by grind);rw[show jz (w.drewN q) g k ⟨1,(gn+1) % 4294967296,a⟩=(((w.drewN q).setCell ⟨g,k*3,none⟩ (Xi 1)).setCell ⟨g,k*3+1,none⟩ (.int .u32 (((gn:Int)+1) % 4294967296))).setCell ⟨g,k*3+2,none⟩ (Xi a) from rfl] at HN;refine Jc HN ?_;go_wp2_with fail;go_ret2;obtain rfl:R=((gj ((gn+1) % 4294967296) k,0),{ t with p_:=t.p_.set k ⟨1,(gn+1) % 4294967296,a⟩ }):=by
     rw[HG.b,HF.a,if_neg (by rw[HG.f];omega),HF.b,if_neg (by grind)]
    exact⟨rfl,⟨_,HP.O.1,fun b hb=>(HG.g b hb).2.2⟩,HP.O.2⟩
   ·obtain⟨z,bj⟩:=Ii (t.p_[k]'(by grind)).is;have hj:∀j (h:j<t.p_.length),j<k+1->t.p_[j].is≠0:=fun j hjl ar=>by
     rcases Nat.lt_succ_iff_lt_or_eq.1 ar with ar | rfl
     ·exact ap.O j hjl ar
     omega
    have hj:=If hj;rw[bj] at k0 hz;have bo:((z:Int)==0)=false:=by grind
    go_wp2_with fail;go_round
    case rel=>exact⟨k+1,o_,s_,hj⟩
    case measure=>simp[intOf];omega
  ·obtain rfl:k=L:=o_
   have ad:gH t.p_ 0=0+k:=qC t.p_ 0 k (by rw[HG.e];omega) ap.O (ab HG.e.S);rw[bA] at ad;have HF:=If ad
   by_cases hM:k=M
   ·subst hM;go_wp2_with fail;go_ret2;obtain rfl:R=((0,10),t):=by rw[HG.b,HF.O,if_pos HG.f.S]
    exact⟨rfl,⟨_,HG.c,fun b hb=>(HG.g b hb).2.2⟩,Fo.refl _ _⟩
   ·have a9:((k:Int)==M)=false:=by grind
    have HR:=If HG.c.row;rw[HG.e] at HR;obtain⟨i0,hi,bc,bd,bf⟩:=info_parts Eq
    go_wp2_with (at_builtin;refine wpList_append_own_at _ rfl _ _ 156 rfl 0 197 i0 (.agg #[Xi 0,.int .u32 0,Xi 0]) 3 24 underlying156 hi bc bd bf rfl d_ _ _ _ rfl (HR.O.alloc _) (y_ w.1.size) 1 1 [Xi 0,.int .u32 0,Xi 0] rfl rfl ?c1 ?c2 ?c3 ?c4 ?c5 ?_)
    case c2=>simp[Value.oneCell']
    case c3=>unfold maxLen;omega
    case c4=>omega
    intro v' w1 hown1 hgrow1 _ hat;have HQ:=If (HG.c.grew _ (by rw[HG.e,HG.f];omega) (by rw[HG.e];exact hown1) (by rw[HG.e];exact hgrow1) (by rw[HG.e];omega) Y HG.g);have d2:w1.cell? (x_ pt 2)=some (.slice A k a4):=(World.cell?_of_block HQ.O.1).T c2;have g2:w1.frozen? (x_ pt 2)=false:=(World.frozen?_of_block HQ.O.1).T f2;obtain⟨l2,au⟩:=Ii (t.p_++[(⟨0,0,0⟩:mj)]);have ai:l2.length=k+1:=by rw[<-au];simp[HG.e]
    have bb:l2[k]' o_=⟨0,0,0⟩:=by
     grind
    rw[au] at HQ;obtain⟨A',a0,ba,a7⟩:=HQ.O.2.1.form;obtain⟨g,hA,⟨k0,k1,k2⟩,⟨f0,f1,f3⟩,an⟩:=a7 k (by grind);subst ba hA;simp only[bb] at k0 k1 k2;simp only[ai] at k0 k1 k2 f0 f1 f3;have c3:(w1.setCell (x_ pt 2) (.slice (some (y_ g)) l2.length a0)).cell? (x_ pt 2)=some (.slice (some (y_ g)) (k+1) a0):=by
     rw[q_ HQ.O.2.1.hd,<-ai]
     rfl
    rw[ai] at c3;have HL:=kq2 ai au;simp only[ai];go_wp2_with fail
    go_name_world W HW
    rw[HL.a] at HQ;rw[HW] at c3 k0 k1 k2 f0 f1 f3 HQ;refine lD (C:=fun w'=>∃q:Nat,w'=(W).drewN q) 17 k_ k_ ⟨1,rfl⟩ ?_;simp only[ci,bU,bZ,da]
    repeat (first | go_big_quiet_skip | (go_big_quiet_want;go_big_quiet_op;first | go_big_quiet_on))
    refine wpQuiet_nil ?_;rintro _ ⟨q,rfl⟩;go_wp2_with fail;have h2:=HQ.O.2.1;rw[<-HL.a] at h2;have HP:=If (h2.opened q 1 1 a (by show k<l2.length;rw[HL.a];omega) ⟨o_,o_,ha⟩ an Y (fun b hb e=>HQ.O.2.2.2 b hb (by rw[e];rfl)));have HN:=HP.O.1.named (t:=⟨t.most,t.last,l2⟩) (by show k<l2.length;rw[HL.a];omega);rw[show jz (W.drewN q) g k ⟨1,1,a⟩=(((W.drewN q).setCell ⟨g,k*3,none⟩ (Xi 1)).setCell ⟨g,k*3+1,none⟩ (.int .u32 1)).setCell ⟨g,k*3+2,none⟩ (Xi a) from rfl] at HN;refine Jc HN ?_;go_wp2_with fail;go_ret2;obtain rfl:R=((gj 1 k,0),{ t with p_:=l2.set k ⟨1,1,a⟩ }):=by
     have:t.genAt k=0:=by
      unfold Hs.genAt;rw[az,aY (by rw[HG.e];exact Nat.le_refl _)]
      rfl
     grind
    exact⟨rfl,⟨_,HP.O.1,fun b hb=>by have:=HQ.O.2.2.2 b hb;rwa[<-HL.a] at this⟩,HQ.O.2.2.1.T HP.O.2⟩
theorem wU:∀(l:List mj) (k i:Nat) (h:k<l.length),(fp l).set (k*3) (Xi i)=fp (l.set k { l[k] with is:=i })
 | [],k,_,h=>by simp at h
 | y::r,0,i,_=>rfl
 | y::r,k+1,i,h=>by
  have ih:=wU r k i (by simpa using h);have e:fp (y::r)=(Xi y.is)::(.int .u32 y.gen)::(Xi y.t_)::fp r:=rfl;have e2:fp ((y::r).set (k+1) { (y::r)[k+1] with is:=i })=(Xi y.is)::(.int .u32 y.gen)::(Xi y.t_)::fp (r.set k { (y::r)[k+1] with is:=i }):=rfl;rw[e,e2,show (k+1)*3=k*3+1+1+1 by omega];simp only[List.set_cons_succ,List.getElem_cons_succ] at ih⊢;rw[ih]
theorem eI.mark{t:Hs}{g cap k:Nat}(h:eI w pt t (.slice (some (y_ g)) t.p_.length cap))(i:Nat)(hk:k<t.p_.length)(hi:i<=2)(hg:g≠pt):
 eI (w.setCell ⟨g,k*3,none⟩ (Xi i)) pt { t with p_:=t.p_.set k { t.p_[k] with is:=i } } (.slice (some (y_ g)) t.p_.length cap) where
 wf:=⟨h.wf.most,h.wf.last,by simpa using h.wf.len,fun y hy=>by
  rcases dh hy with hy | rfl
  ·exact h.wf.slot y hy
  ·have:=h.wf.slot _ (av hk);exact⟨hi,this.2⟩⟩
 hd:=by rw[FB (Ne.S hg)];exact h.hd
 row:=by
  refine⟨by rw[oV],?_⟩;rcases h.row.2 with⟨h0,_⟩ | ⟨g',ai,cur,hv,ad,hb,h1,h2,h3,h4⟩
  ·cases h0
  ·injection hv with hv1 hv2 hv3
   injection hv1 with hv1
   injection hv1 with hv1
   subst hv1 hv3;refine ae ⟨g,cap,cur.setIfInBounds (k*3) (Xi i),?_,ad,heap_setCell hb,by simpa using h1,h2,by simpa using h3,?_⟩
   ·simp
   ·have hl:=oV t.p_;simp only[c8,bz];rw[show cur.toList=fp t.p_++cur.toList.drop (t.p_.length*3) by rw[<-h4,aX],List.set_append_left _ _ o_,List.take_left' m_,wU t.p_ k i hk]
theorem Fo.mark{g k:Nat}(hy:∀b,Y b->b≠g):Fo Y w (w.setCell (x_ g k) v):=
 ⟨rfl,rfl,rfl,Nat.le_of_eq (size_setCell w _ _).S,fun b hb=>FB (hy b hb)⟩
theorem Hs.close_some{t:Hs}{h k:Nat}(hk:t.of h=some k)(hlt:k<t.p_.length):t.close h=(0,{ t with p_:=t.p_.set k { t.p_[k] with is:=if t.p_[k].gen=t.last then 2 else 0 } }):=by
 unfold Hs.close;rw[hk];simp only[az,ag hlt,Option.getD_some]
theorem EI{t:Hs}(h:eI w pt t v)(hh:Nat)(hl:hh<2^64)(Y:Nat->Prop)(hy:∀b,Y b->some b≠v.ownBlock):
 Ct 124 #[PV pt,Xu hh] w fun e w'=>e=.returned (Xi ((t.close hh).1:Nat))/\eI w' pt (t.close hh).2 v/\Fo Y w w':=by
 have ho:=Is h hh hl
 cases hk:t.of hh with
 | none=>
  have he:t.close hh=(7,t):=by unfold Hs.close;rw[hk]
  rw[hk] at ho;rw[he];have HO:=kq2 ho h;clear ho he hk h hy;go_enter func124,ntmps124;go_wp2_with fail;refine Jc HO.a ?_;go_wp2_with fail;go_ret;exact⟨rfl,HO.b,Fo.refl _ _⟩
 | some k=>
  obtain⟨hlt,_⟩:=Hs.of_lt hk;have he:=Hs.close_some hk hlt;rw[hk] at ho;rw[he];obtain⟨A,cap,hv,an⟩:=h.form;obtain⟨g,hA,⟨k0,k1,k2⟩,⟨f0,f1,f3⟩,ar⟩:=an k hlt;subst hv hA;simp only[oU] at ho;have c1:w.cell? (x_ pt 1)=some (.int .u32 t.last):=e_ h.hd
  have hm:=fun i hi=>h.mark (k:=k) i hlt hi ar;have ap:=(h.wf.slot _ (av hlt)).2.1;have a0:=h.wf.last;obtain⟨x,hx⟩:=Ii t.p_[k];rw[hx] at k0 k1 k2 ap hm⊢;obtain⟨xi,xg,xa⟩:=x;simp only at k0 k1 k2 ap hm⊢;obtain⟨la,ai⟩:=Ii t.last;rw[ai] at c1 a0⊢;have a2:∀b,Y b->b≠g:=fun b hb e=>hy b hb (by rw[e];rfl);have HO:=kq5 ho hm hlt ai a2;clear ho he hk an h hy hm hx ai
  by_cases hgl2:xg=la
  ·rw[if_pos hgl2];have au:((xg:Int)==la)=true:=m_
   go_enter func124,ntmps124;go_wp2_with fail;refine Jc HO.a ?_;go_wp2_with fail
   go_quiet (fail)
   go_wp2_with fail;go_ret;have ad:eI ((w.setCell ⟨g,k*3,none⟩ (Xi 0)).drewN nq) pt { t with p_:=t.p_.set k ⟨0,xg,xa⟩ } (.slice (some (y_ g)) t.p_.length cap):=by
    have:=HO.b 0 o_;exact⟨this.wf,this.hd,this.row⟩
   have a1:=eI.mark (t:= { t with p_:=t.p_.set k ⟨0,xg,xa⟩ }) (g:=g) (cap:=cap) (k:=k) (by simpa using ad) 2 (by simpa using HO.c) o_ ar;refine⟨rfl,?_,((Fo.mark HO.e).T (Fo.drewN _ _ nq)).T (Fo.mark HO.e)⟩;rw[<-HO.d]
   simpa using a1
  ·rw[if_neg hgl2];have au:((xg:Int)==la)=false:=m_
   go_enter func124,ntmps124;go_wp2_with fail;refine Jc HO.a ?_;go_wp2_with fail
   go_quiet (fail)
   go_wp2_with fail;go_ret;have ad:eI ((w.setCell ⟨g,k*3,none⟩ (Xi 0)).drewN nq) pt { t with p_:=t.p_.set k ⟨0,xg,xa⟩ } (.slice (some (y_ g)) t.p_.length cap):=by
    have:=HO.b 0 o_;exact⟨this.wf,this.hd,this.row⟩
   rw[HO.d] at ad;exact⟨rfl,ad,(Fo.mark HO.e).T (Fo.drewN _ _ nq)⟩
end
section
open Go.RowKit Tryz Go.BigFrame Go.Maps Go.WideMaps Lf
open Go.Shelf
variable{Y:Nat->Prop}{Z:Nat->Prop}{n:Nat}{s:r_}{w:World}
attribute [local go_sem] Oper.semAt_some
structure fe (n:Nat) (Z:Nat->Prop) (W W':World):Prop where
 size:W.1.size<=W'.1.size
 block:∀(k:Nat) (o:Obj),¬Z k->W.1[k]?=some o->(k<n\/o.isCells=true)->W'.1[k]?=some o
theorem lf{A B:World}(h:D_ A B):A.grownBy B none:=⟨h.os,h.tape,h.output,h.size,fun k hk _=>h.block k hk⟩
theorem fe.refl(n:Nat)(Z:Nat->Prop)(W:World):fe n Z W W:=⟨Nat.le_refl _,fun _ _ _ h _=>h⟩
theorem fe.T{A B C:World}(h:fe n Z A B)(k:fe n Z B C):fe n Z A C:=
 ⟨aH h.size k.size,fun i o hz ho hc=>k.block i o hz (h.block i o hz ho hc) hc⟩
theorem fe.v_{A B:World}(h:D_ A B):fe n Z A B:=
 ⟨h.size,fun i _ _ ho _=>(h.block i (gl ho)).T ho⟩
theorem fe.put(W:World)(l:Nat)(o o':Obj)(hl:n<=l)(ho:W.1[l]?=some o)(hc:o.isCells=false)(_:o.isWalk=false):fe n Z W (W.putObj l o'):=
 ⟨s_,fun k o1 _ h1 h2=>by
  by_cases e:k=l
  ·subst e;rw[ho] at h1;injection h1 with h1
   subst h1;rcases h2 with h2 | h2
   ·omega
   ·rw[hc] at h2;cases h2
  ·exact(World.putObj_heap_other e).T h1⟩
theorem fe.cell{W W':World}(h:fe n Z W W'){a:Addr}{v:Value}(hz:¬Z a.block)(hc:W.cell? a=some v):W'.cell? a=some v:=by
 have:∃cs t fr,W.1[a.block]?=some (.cells cs t fr):=by
  unfold World.cell? at hc
  split at hc
  ·rename_i c t fr heq;exact⟨_,_,_,heq⟩
  ·cases hc
 obtain⟨cs,t,fr,hb⟩:=this;rw[<-hc];exact World.cell?_of_block ((h.block a.block _ hz hb (ae rfl)).T hb.S)
theorem Fz.kp{w w':World}{ph pa pm n:Nat}{Y Z:Nat->Prop}(h:Fz w ph pa pm s Y)(hk:fe n Z w w')(hn:pm<n)(hz:∀k,Z k->Y k/\k≠ph/\k≠fy):Fz w' ph pa pm s Y:=by
 obtain⟨ad,hs⟩:=h.slab;have c1:∀{k:Nat} {cs:Array Value} {t:TypeId} {fr:Nat×Nat},¬Z k->w.1[k]?=some (.cells cs t fr)->w'.1[k]?=some (.cells cs t fr):=fun hz hb=>hk.block _ _ hz hb (ae rfl);refine⟨⟨ad,hs.wf,c1 (fun hh=>hs.ya (hz _ hh).1) hs.hd,?_,fun x hx=>c1 (fun hh=>hs.yp _ (jP.2 ⟨_,hx⟩) (hz _ hh).1) (hs.pg x hx),hs.inj,hs.ya,hs.ym,hs.yp,fun k hkk=>aF (hs.yl k hkk) hk.size⟩,c1 (fun hh=>(hz _ hh).2.1 rfl) h.hp,h.yh,?_,h.yt⟩
 ·obtain⟨es,ck,hm⟩:=hs.map_block;exact rN hs.map ((hk.block pm _ (fun hh=>hs.ym (hz _ hh).1) hm (ab hn)).T hm.S)
 ·intro j hj;exact hk.cell (a:=x_ fy j) (fun hh=>(hz _ hh).2.2 rfl) (h.tab j hj)
theorem Fz.pm_lt{ph pa pm:Nat}(h:Fz w ph pa pm s Y):pm<w.1.size:=by
 obtain⟨ad,hs⟩:=h.slab;exact hs.map.lt
def fl(s:r_):Nat->List (Nat×Hr)×Nat
 | 0=>([],0)
 | k+1=>
  if s.l_.getD k 0<(fl s k).2 then fl s k
  else((fl s k).1++[(s.l_.getD k 0,FA s (s.l_.getD k 0))],if(FA s (s.l_.getD k 0)).j_=2 then s.l_.getD k 0+(FA s (s.l_.getD k 0)).n else(fl s k).2)
theorem qP(s:r_)(p:Nat):∀(l:List Nat) (nx:Nat),gC s nx (l++[p])=gC s nx l++gC s (l.foldl (fun nx q=>if q<nx then nx else if(FA s q).j_=2 then q+(FA s q).n else nx) nx) [p]
 | [],nx=>by show gC s nx [p]=[]++gC s nx [p];rw[aT]
 | q::l,nx=>by
  simp only[aL,gC,List.foldl_cons];by_cases h:q<nx
  ·simp only[h,if_true];exact qP s p l nx
  ·simp only[h,if_false,aL];rw[qP s p l];rfl
theorem uE(s:r_):∀k,k<=s.l_.length->fl s k=(gC s 0 (s.l_.take k),(s.l_.take k).foldl (fun nx q=>if q<nx then nx else if(FA s q).j_=2 then q+(FA s q).n else nx) 0)
 | 0,_=>by simp[fl,gC]
 | k+1,h=>by
  have hk:s.l_.getD k 0=s.l_[k]:=by rw[az,ag o_];rfl
  rw[ay o_,qP,List.foldl_append];unfold fl;rw[(uE s k o_),hk];simp only[List.foldl_cons,List.foldl_nil,gC];split
  ·simp
  ·rfl
theorem qN(s:r_):(fl s s.l_.length).1=wb s:=by
 rw[uE s _ Ih,cC];rfl
theorem uF(s:r_):∀k,(fl s k).1.length<=k
 | 0=>Nat.le_refl _
 | k+1=>by
  have:=uF s k;unfold fl;split
  ·omega
  ·simp;omega
theorem qO(s:r_)(k:Nat):∀d,(fl s k).1<+:(fl s (k+d)).1
 | 0=>List.prefix_refl _
 | d+1=>by
  refine(qO s k d).T ?_;show (fl s (k+d)).1<+:(fl s (k+d+1)).1
  conv=>rhs;unfold fl
  split
  ·exact List.prefix_refl _
  ·exact List.prefix_append _ _
theorem getH_lt{ph pa pm:Nat}(h:Fz w ph pa pm s Y)(p:Nat):(FA s p).j_<256/\(FA s p).n<2^56/\(FA s p).w<2^64:=by
 have h1:=h.rd_lt (p*64);exact⟨Nat.mod_lt _ d_,by show s.rd (p*64) / 256<_;omega,h.rd_lt (p*64+1)⟩
theorem uG {w:World}{ph pa pm:Nat}{s:r_}{Y:Nat->Prop}(h:Fz w ph pa pm s Y):∀k,k<=s.l_.length->(fl s k).2<=72057594039000000
 | 0,_=>cD _
 | k+1,hk=>by
  have ih:=uG h k o_;have h1:=getH_lt h (s.l_.getD k 0);have h2:s.l_.getD k 0<=1048575:=by
   rw[az,ag o_];exact h.wf.top _ (av _)
  unfold fl;split
  ·exact ih
  ·simp only;split
   ·omega
   ·exact ih
abbrev iH:= { x:Nat×Hr // x.1<=1048575/\x.2.j_<256/\x.2.n<2^56/\x.2.w<2^64 }
abbrev mF(x:iH):Array Value:=#[Xi x.1.1,fT x.1.2]
abbrev gt(l:List iH):List (Nat×Hr):=l.map (·.1)
theorem Fz.C_{ph pa pm:Nat}(h:Fz w ph pa pm s Y):
 Ct 132 #[PV pa] w fun e w'=>∃v,e=.returned v/\kU w' w.1.size v s.l_/\D_ w w':=by
 obtain⟨ad,hs⟩:=h.slab;exact wQ hs
theorem qR{ph pa pm:Nat}{Y Z:Nat->Prop}(h:Fz w ph pa pm s Y)(hz:∀k,Z k->Y k/\k≠ph/\k≠fy)(B:Nat)(hB:w.cell? (y_ B)=some (PV ph))(hzB:¬Z B):
 SeqStopsK Fence.wide 6 prog 159 #[PV B] mF (fe w.1.size Z) (fun xs=>gt xs=wb s) (fun ad=>gt ad<+:wb s) s.l_.length w:=fun l J Jx W hW hJ hJx hY h0=>by
 have hH:=h.a_ hW;have bo:B<w.1.size:=by
  unfold World.cell? at hB;split at hB
  ·rename_i heq;exact(gl heq)
  ·cases hB
 have bm:W.cell? (y_ B)=some (PV ph):=(hW.cell (p:=y_ B) bo).T hB;have bu:CallsIn Fence.wide 5 prog 132 #[PV pa] W _:=callsIn_wide.2 hH.C_;have c1:=hH.cell;have bv:=h.pm_lt;have HY:=If hY;have cb:Fence.wide.fn 132:=trivial;have ca:Fence.wide.fn 153:=trivial;have HJ:=kq2 hJ hJx;have H0:=kq5 hH h0 hz hzB bm;refine callsIn_of_wp func159 rfl trivial ?_ rfl;simp only[ntmps159,aV,aj,aJ,Nat.reduceAdd,Nat.reduceSub,aO,aP,aW,aR,aT,aL];gi_wp2_with (gi_at_call 132;refine bu.M ?_;rintro e w1 ⟨v,rfl,⟨A,c,rfl,C6⟩,bb⟩)
 have HR:=kq3 C6 bb (H0.a.a_ bb);gi_loopw [3,5,13] (fun nx _ i wr=>∃k:Nat,k<=s.l_.length/\i=Xi k/\nx=Xi (fl s k).2/\Hid (fe w.1.size Z w1 wr/\∃pX,gt pX=(fl s k).1/\J pX wr)) (fun _ _ i _=>s.l_.length-(intOf i).toNat)
 case atStart=>exact⟨0,o_,rfl,rfl,fe.refl _ _ _,[],rfl,HJ.a _ _ _ none H0.b (lf HR.b) (fun r e=>by cases e)⟩
 case round=>
  obtain⟨k,hk,rfl,rfl,an⟩:=hrel;have au:=HR.c.kp an.O.1 bv H0.c;have cc:k<=4096:=by
   have h1:=au.wf.room;have h2:=au.wf.F0;rw[i8] at hk;omega
  by_cases hlt:k<s.l_.length
  ·obtain⟨b,o,rfl,b8,b9,bc⟩:=HR.a k hlt;have b0:¬Z b:=fun hh=>by
    have h1:=H0.a.yl _ (H0.c _ hh).1;omega
   have bc:=an.O.1.cell (a:=⟨b,o+k,none⟩) b0 bc;have b':=an.O.1.cell (a:=y_ B) H0.d ((HR.b.cell (p:=y_ B) (by
    have:=H0.e;unfold World.cell? at this;split at this
    ·rename_i heq;exact(gl heq)
    ·cases this)).T H0.e)
   have bs:s.l_.getD k 0=s.l_[k]:=by rw[az,ag hlt];rfl
   have bx:s.l_[k]<=1048575:=au.wf.top _ (av _);have bj:=uG au k o_;have a5:fl s (k+1)=if s.l_[k]<(fl s k).2 then fl s k
    else((fl s k).1++[(s.l_[k],FA s s.l_[k])],if(FA s s.l_[k]).j_=2 then s.l_[k]+(FA s s.l_[k]).n else(fl s k).2):=by
    conv=>lhs;unfold fl
    rw[bs]
   have bf:=uF s k;have cj:(k:Int)<s.l_.length:=o_
   have ap:Hid (k+1<=s.l_.length):=If hlt;obtain⟨T,hT⟩:=Ii (fl s k);obtain⟨T',ba⟩:=Ii (fl s (k+1));rw[hT] at an bj a5 bf⊢;rw[ba] at a5;have bd:=getH_lt au s.l_[k];have bq:CallsIn Fence.wide 5 prog 153 #[PV ph,Xi (s.l_[k]:Nat)] wr _:=callsIn_wide.2 (qU au s.l_[k] o_);generalize FA s s.l_[k]=x at*;generalize s.l_[k]=p at*;obtain⟨ad,nx⟩:=T;simp only at an bj a5 bf⊢;have HS:=kq3 ba a5 au;by_cases hsk:p<nx
   ·have ai:T'=(ad,nx):=by rw[HS.b,if_pos hsk]
    gi_wp2_with fail;go_roundw
    case rel=>exact⟨k+1,ap.O,by go_num,by rw[HS.a,ai],by rw[HS.a,ai];exact an⟩
    case measure=>have:=ap.O;simp[intOf];omega
   ·gi_wp2_with fail;refine bq.M ?_;rintro e w2 ⟨rfl,a4⟩;obtain⟨w3,ar⟩:=Ii (w2.alloc (Xj x.j_ x.n x.w));have a0:D_ wr w3:=by rw[<-ar];exact a4.alloc a4.size _
    obtain⟨pX,a1,a7⟩:=an.O.2;have ck:pX.length=ad.length:=by rw[<-a1];exact(ao _).S
    obtain⟨xX,bk⟩:∃xX:iH,xX.1=(p,x):=⟨⟨(p,x),bx,bd⟩,rfl⟩;obtain⟨fn,cn,b2,b4,hy,a3⟩:=HY.O pX xX w3 (HJ.a _ _ _ none a7 (lf a0) (fun r e=>by cases e)) (by have:=ap.O;omega);have bt:gt (pX++[xX])=ad++[(p,x)]:=by show (pX++[xX]).map (·.1)=_;rw[aK,show pX.map (·.1)=ad from a1];simp[bk]
    have a2:=If bt;dsimp only[mF] at hy
    rw[bk] at hy;obtain⟨kd,xn,xw⟩:=x;dsimp only[fT] at hy
    simp only at bd ar;by_cases hk2:kd=2
    ·subst hk2;have ai:T'=(ad++[(p,⟨2,xn,xw⟩)],p+xn):=by rw[HS.b,if_neg hsk,if_pos rfl]
     rw[show ((2:Nat):Int)=2 from rfl] at ar hy;rw[<-ar] at hy a3;have H3:=If a0;rw[<-ar] at H3;clear a0 a4 ar;simp only[fT];gi_wp2_with fail;refine a3.M ?_;rintro e w4 (⟨rfl,a6,a9⟩ | ⟨rfl,a8⟩)
     ·have H4:=kq2 (an.O.1.T ((fe.v_ H3.O).T a9)) a6;gi_wp2_with fail;go_roundw
      case rel=>exact⟨k+1,ap.O,by go_num,by rw[HS.a,ai];go_num,by rw[HS.a,ai];exact⟨H4.a,_,a2.O,H4.b⟩⟩
      case measure=>have:=ap.O;simp[intOf];omega
     ·have H4:=If a8;have a':ad++[(p,⟨2,xn,xw⟩)]<+:wb s:=by
       rw[<-qN,show ad++[(p,⟨2,xn,xw⟩)]=(fl s (k+1)).1 by rw[HS.a,ai]];obtain⟨d,hd⟩:∃d,s.l_.length=k+1+d:=⟨s.l_.length-(k+1),by have:=ap.O;omega⟩;rw[hd];exact qO s (k+1) d
      gi_wp2_with fail;refine bodyPost_ret (results_none rfl _ _ _) rfl ?_;exact⟨⟨_,rfl⟩,.inr ⟨_,by rw[a2.O];exact a',H4.O⟩⟩
    ·have ch:((kd:Int)==2)=false:=m_
     have ai:T'=(ad++[(p,⟨kd,xn,xw⟩)],nx):=by rw[HS.b,if_neg hsk,if_neg hk2]
     have b1:=If hk2;rw[<-ar] at hy a3;have H3:=If a0;rw[<-ar] at H3;clear a0 a4 ar;simp only[fT];gi_wp2_with fail;refine a3.M ?_;rintro e w4 (⟨rfl,a6,a9⟩ | ⟨rfl,a8⟩)
     ·have H4:=kq2 (an.O.1.T ((fe.v_ H3.O).T a9)) a6;gi_wp2_with fail;go_roundw
      case rel=>exact⟨k+1,ap.O,by go_num,by rw[HS.a,ai],by rw[HS.a,ai];exact⟨H4.a,_,a2.O,H4.b⟩⟩
      case measure=>have:=ap.O;simp[intOf];omega
     ·have H4:=If a8;have a':ad++[(p,⟨kd,xn,xw⟩)]<+:wb s:=by
       rw[<-qN,show ad++[(p,⟨kd,xn,xw⟩)]=(fl s (k+1)).1 by rw[HS.a,ai]];obtain⟨d,hd⟩:∃d,s.l_.length=k+1+d:=⟨s.l_.length-(k+1),by have:=ap.O;omega⟩;rw[hd];exact qO s (k+1) d
      gi_wp2_with fail;refine bodyPost_ret (results_none rfl _ _ _) rfl ?_;exact⟨⟨_,rfl⟩,.inr ⟨_,by rw[a2.O];exact a',H4.O⟩⟩
  ·obtain rfl:k=s.l_.length:=o_
   gi_wp2
   go_end0
   obtain⟨pX,a1,a7⟩:=an.O.2;rw[qN] at a1;exact⟨⟨_,rfl⟩,.inl ⟨_,a1,a7⟩⟩
attribute [local go_sem] Oper.semAt_some
theorem Fz.wide{w w':World}{ph pa pm:Nat}(h:Fz w ph pa pm s Y)(hb:D_ w w'):Fz w' ph pa pm s (fun k=>Y k\/(w.1.size<=k/\k<w'.1.size)):=by
 have h':=h.a_ hb;obtain⟨ai,hs⟩:=h.slab;obtain⟨an,ar⟩:=h'.slab;have ap:=(gl hs.hd);have ad:=hs.a_ hb;refine⟨⟨ai,ad.wf,ad.hd,ad.map,ad.pg,ad.inj,?_,?_,?_,?_⟩,h'.hp,ab h.yh,h'.tab,ab h.yt⟩
 ·rintro(k | k)
  ·exact hs.ya k
  ·omega
 ·rintro(k | k)
  ·exact hs.ym k
  ·have:=hs.map.lt;omega
 ·rintro p hp (k | k)
  ·exact hs.yp p hp k
  ·obtain⟨l,hl⟩:=jP.1 hp;have:=(gl (hs.pg _ hl));simp only at this;omega
 ·rintro k (hk | hk)
  ·have:=hs.yl k hk;have:=hb.size;omega
  ·exact hk.2
theorem qQ(ph:Nat)(w:World):
 Ct 116 #[PV ph] w fun e w'=>e=.returned (.func (.func 159) #[] #[PV w.1.size])/\w'=w.alloc (Xm ph):=by
 go_enter func116,ntmps116
 go_wp2
 go_ret;exact⟨rfl,rfl⟩
theorem sq(c:Nat)(x:Nat×Hr):∀q:List (Nat×Hr),fd c q=none->fd c (q++[x])=fd c [x]
 | [],_=>rfl
 | (p,y)::q,h=>by
  have h0:fd c ((p,y)::q++[x])=if y.j_≠1\/y.n≠c then fd c (q++[x]) else match fW y.w (eJ c) with | some k=>some (p,k) | none=>fd c (q++[x]):=rfl
  have h1:fd c ((p,y)::q)=if y.j_≠1\/y.n≠c then fd c q else match fW y.w (eJ c) with | some k=>some (p,k) | none=>fd c q:=rfl
  rw[h1] at h;rw[h0];by_cases hc:y.j_≠1\/y.n≠c
  ·rw[if_pos hc] at h⊢;exact sq c x q h
  ·rw[if_neg hc] at h⊢;cases hb:fW y.w (eJ c) with
   | some k=>rw[hb] at h;cases h
   | none=>rw[hb] at h;exact sq c x q h
theorem sv(c:Nat)(r:Nat×Nat):∀q t:List (Nat×Hr),fd c q=some r->fd c (q++t)=some r
 | (p,y)::q,t,h=>by
  have h0:fd c ((p,y)::q++t)=if y.j_≠1\/y.n≠c then fd c (q++t) else match fW y.w (eJ c) with | some k=>some (p,k) | none=>fd c (q++t):=rfl
  have h1:fd c ((p,y)::q)=if y.j_≠1\/y.n≠c then fd c q else match fW y.w (eJ c) with | some k=>some (p,k) | none=>fd c q:=rfl
  rw[h1] at h;rw[h0];by_cases hc:y.j_≠1\/y.n≠c
  ·rw[if_pos hc] at h⊢;exact sv c r q t h
  ·rw[if_neg hc] at h⊢;cases hb:fW y.w (eJ c) with
   | some k=>rw[hb] at h;exact h
   | none=>rw[hb] at h;exact sv c r q t h
def Kf(r:Option (Nat×Nat)):Value:=match r with | some (p,k)=> .tuple #[Xi p,Xi k,.bool true] | none=> .tuple #[Xi 0,Xi 0,.bool false]
theorem nX(c:Nat):eJ c<=31:=by
 unfold eJ
 split
 ·rename_i h;have:∀c,c<8->62 / iP.getD c 1<=31:=d_
  exact this c h
 ·omega
theorem wW(c:Nat):∃er:Nat,je c=(eJ c,er):=by
 unfold je
 by_cases h:c<8
 ·rw[if_pos o_,cY];exact⟨_,rfl⟩
 ·rw[if_neg o_];refine⟨2,?_⟩;unfold eJ;rw[if_neg h]
theorem qHaad{P:Prop}(h:P:=by
 gi_wp2_with fail;exact⟨KeepsFrom.refl _ _,fe.refl _ _ _,⟨ap.O,HH.b,HH.c,HH.d,HH.e,HH.f⟩,HH.g⟩):P:=h
theorem By{ph pa pm:Nat}(h:Fz w ph pa pm s Y)(c:Nat)(hc:c<=2^56):
 Cb 106 #[PV ph,Xi c] w (Kf (kt s c)):=by
 refine(callsIn_wide (n:=7)).1 ?_;have h1:1<=7:=o_
 have b':Fence.wide.fn 117:=trivial;have b9:Fence.wide.fn 116:=trivial;have b8:Fence.wide.fn 152:=trivial;obtain⟨er,bs⟩:=wW c;have a4:∀W,CallsIn Fence.wide 6 prog 117 #[Xi c] W _:=fun W=>callsIn_wide.2 (qk c W);rw[bs] at a4;have bu:∀W,CallsIn Fence.wide 6 prog 116 #[PV ph] W _:=fun W=>callsIn_wide.2 (qQ ph W);obtain⟨R,hR⟩:=Ii (Kf (kt s c));rw[hR];have bt:=nX c;obtain⟨m,hm⟩:=Ii (eJ c);rw[hm] at a4 bt;have HR:=kq3 hR hm h;clear hR bs hm h;refine callsIn_of_wp_marks func106 rfl trivial ?_ rfl;simp only[ntmps106,aV,aj,aJ,Nat.reduceAdd,Nat.reduceSub,aO,aP,aW,aR,aT,aL];have bb:=nM w (Xh c) (.cells #[Xi 0] 3) (.cells #[Xi 0] 3) (.cells #[.bool false] 4);have c0:=(((Bx.new w (Xi c) 3).alloc (.cells #[Xi 0] 3)).alloc (.cells #[Xi 0] 3)).alloc (.cells #[.bool false] 4);have c1:=((Bx.new (w.alloc (Xh c)) (Xi 0) 3).alloc (.cells #[Xi 0] 3)).alloc (.cells #[.bool false] 4);have c2:=(Bx.new ((w.alloc (Xh c)).alloc (.cells #[Xi 0] 3)) (Xi 0) 3).alloc (.cells #[.bool false] 4);have c3:=Bx.new (((w.alloc (Xh c)).alloc (.cells #[Xi 0] 3)).alloc (.cells #[Xi 0] 3)) (.bool false) 4;simp only[World.size_alloc] at c1 c2 c3;have cc:((((w.alloc (Xh c)).alloc (.cells #[Xi 0] 3)).alloc (.cells #[Xi 0] 3)).alloc (.cells #[.bool false] 4)).1.size=w.1.size+1+1+1+1:=s_
 gi_wp2_with fail;generalize ((((w.alloc (Xh c)).alloc (.cells #[Xi 0] 3)).alloc (.cells #[Xi 0] 3)).alloc (.cells #[.bool false] 4))=w4 at*;refine(a4 w4).M ?_;rintro e w5 ⟨rfl,bc⟩;have H5:=kq6 bc c0 c1 c2 c3 bb;clear bc c0 c1 c2 c3 bb;gi_wp2_with fail;refine(bu _).M ?_;rintro e w7 ⟨rfl,rfl⟩;gi_wp2_with fail;have ca:=H5.a.size;have b5:∀{b:Nat} {v:Value},Bx w4 b v->Bx ((w5.alloc (Xh m)).alloc (Xm ph)) b v:=fun {b v} hb=>by
  have hlt:b<w4.1.size:=by
   have:=hb.1;unfold World.cell? at this
   split at this
   ·rename_i heq;exact(gl heq)
   ·cases this
  exact((hb.a_ H5.a hlt).alloc _).alloc _
 have c4:=(Bx.new w5 (Xi m) 3).alloc (Xm ph);have c5:=Bx.new (w5.alloc (Xh m)) (PV ph) 90;have bd:D_ w ((w5.alloc (Xh m)).alloc (Xm ph)):=
  ((H5.f.T (H5.a.M o_)).alloc o_ _).alloc m_ _
 have cb:((w5.alloc (Xh m)).alloc (Xm ph)).1.size=w5.1.size+1+1:=s_
 have C0:=b5 H5.b;have C1:=b5 H5.c;have C2:=b5 H5.d;have C3:=b5 H5.e;simp only[World.size_alloc] at c5;clear b5;generalize ((w5.alloc (Xh m)).alloc (Xm ph))=W0 at*;have hW:=HR.c.wide bd;have bx:=hW.tab;refine wpIn_rangeFunc_ownH rfl h1 (gf:=159) (lb:=#[PV (w5.1.size+1)]) rfl trivial (enters_of func159 k_ rfl)
  (qR hW (Z:=fun k=>k=w.1.size+1\/k=w.1.size+1+1\/k=w.1.size+1+1+1) (fun k hk=>by
   have h1:=hW.yl _ hW.yh;have h2:=HR.c.lt;have h3:=HR.c.tab.lt;refine⟨ae o_,o_,?_⟩
   show k≠1
   omega) (w5.1.size+1) c5.1 o_) fe.T (fun W l o o' h1 h2 h3 h4=>fe.put W l o o' h1 h2 h3 h4) (aa _ _) (fun _=>rfl)
  (fun ad W=>(fd c (gt ad)=none/\Bx W w.1.size (Xi c)/\Bx W (w.1.size+1) (Xi 0)/\Bx W (w.1.size+1+1) (Xi 0)/\Bx W (w.1.size+1+1+1) (.bool false)/\Bx W w5.1.size (Xi m))/\D_ w W)
  (fun cd ad W=>(cd=.ret/\(∃p k:Nat,fd c (gt ad)=some (p,k)/\Bx W (w.1.size+1) (Xi p)/\Bx W (w.1.size+1+1) (Xi k))/\Bx W (w.1.size+1+1+1) (.bool true))/\D_ w W)
  (OwnFrom.and (Own.from (fun s A B row hs hg hr=>⟨hs.1,hs.2.1.kept hg hr,hs.2.2.1.kept hg hr,hs.2.2.2.1.kept hg hr,hs.2.2.2.2.1.kept hg hr,hs.2.2.2.2.2.kept hg hr⟩) _) (ownFrom_below Ih o_))
  (fun cd=>OwnFrom.and (Own.from (fun s A B row hs hg hr=>⟨hs.1,(let ⟨p,k,k1,k2,k3⟩:=hs.2.1;⟨p,k,k1,k2.kept hg hr,k3.kept hg hr⟩),hs.2.2.kept hg hr⟩) _) (ownFrom_below Ih o_))
  ⟨⟨rfl,C0,C1,C2,C3,c4⟩,bd⟩
  (fun x a' W=>∃B,w5.1.size<B/\W.1[B]?=some (.cells #[Xi x.1.2.j_,Xi x.1.2.n,Xu x.1.2.w] 188 (0,0))/\a'= { tmps:=#[PV ph,Xi c,undef,PV w.1.size,PV (w.1.size+1),PV (w.1.size+1+1),PV (w.1.size+1+1+1),PV w5.1.size,Xi er,Xi x.1.1,PV B,undef,.tuple #[Xi m,Xi er],Xi c,.tuple #[Xi m,Xi er],Xi m,Xi er,PV ph,.func (.func 159) #[] #[PV (w5.1.size+1)],Xi x.1.1,fT x.1.2,undef,undef,undef,undef,undef,undef,undef,undef,undef,undef,undef,undef,undef,undef,undef,undef,undef],defers:=[] })
  (fun x a' _ X W' row hs hg hr=>by
   obtain⟨B,k1,k2,k3⟩:=hs;refine⟨B,k1,(hg.block B (gl k2) (fun e=>?_)).T k2,k3⟩;obtain⟨_,o,ho,bf⟩:=hr B e.S;rw[k2] at ho
   injection ho with ho
   rw[<-ho] at bf
   cases bf)
  ?assign ?body ?done ?stop
 case assign=>
  rintro l ad ⟨⟨p,kd,xn,xw⟩,hx⟩ W K ⟨⟨i0,i1,i2,i3,i4,i5⟩,hB⟩ hK;have HH:=kq7 i0 i1 i2 i3 i4 i5 hB;have HK:=If hK;clear i0 i1 i2 i3 i4 i5 hB hK;simp only[mF,fT]
  gi_wp2
  have a2:=HH.g;refine HK.O _ _ ((KeepsOthers.alloc _ _).from _) (fe.v_ ((aa _ W).alloc Ih _)) ⟨⟨HH.a,HH.b.alloc _,HH.c.alloc _,HH.d.alloc _,HH.e.alloc _,HH.f.alloc _⟩,a2.alloc a2.size _⟩ ⟨W.1.size,?_,?_,rfl⟩
  ·have:=HH.f.1;unfold World.cell? at this
   split at this
   ·rename_i heq;exact(gl heq)
   ·cases this
  ·show (W.1.push _)[W.1.size]?=_
   simp
 case body=>
  rintro l ad ⟨⟨p,kd,xn,xw⟩,hx⟩ a' W hl _ ⟨⟨i0,i1,i2,i3,i4,i5⟩,hB⟩ ⟨B,a2,au,rfl⟩ hlt;simp only at hx au;obtain⟨a5,a6,a7,a1⟩:=hx;have b0:W.cell? (y_ B)=some (Xi kd):=e_ au
  have b1:W.cell? (x_ B 1)=some (Xi xn):=e_ au
  have b2:W.cell? (x_ B 2)=some (Xu xw):=e_ au
  have k0:=i1.1;have k5:=i5.1;obtain⟨k1,f1⟩:=id i2;obtain⟨k2,f2⟩:=id i3;obtain⟨k3,f3⟩:=id i4;have a8:gA W:=HR.c.tab.a_ hB Ih;have bk:CallsIn Fence.wide 4 prog 152 #[Xu xw,Xi m] W _:=callsIn_wide.2 (zr xw m W a1 o_ a8);have HF:=If bk;have HH:=kq7 i0 i1 i2 i3 i4 i5 hB;have bq:=sq c (p,⟨kd,xn,xw⟩) (gt ad) i0;have hv:∀(hx:_),gt (ad++[(⟨(p,⟨kd,xn,xw⟩),hx⟩:iH)])=gt ad++[(p,⟨kd,xn,xw⟩)]:=fun hx=>by
   show (ad++[(⟨(p,⟨kd,xn,xw⟩),hx⟩:iH)]).map (·.1)=_
   rw[aK]
   rfl
  have bm:fd c [(p,⟨kd,xn,xw⟩)]=if kd≠1\/xn≠c then none else match fW xw (eJ c) with | some k=>some (p,k) | none=>none:=rfl
  have HV:=kq3 bq @hv bm;clear i0 i1 i2 i3 i4 i5 hB bk bq hv bm a8 au
  by_cases h1:kd=1/\xn=c
  ·obtain⟨rfl,rfl⟩:=h1;have hq:((xn:Int) !=xn)=false:=s_
   have hi:∀{b:Nat} {v:Value},Bx W b v->b<W.1.size:=fun {b v} hb=>by
    have:=hb.1;unfold World.cell? at this
    split at this
    ·rename_i heq;exact(gl heq)
    ·cases this
   have HI:=kq5 (hi HH.b) (hi HH.c) (hi HH.d) (hi HH.e) (hi HH.f);clear hi k0 k5 k1 k2 k3 f1 f2 f3;have k5:=HH.f.1;have k0:=HH.b.1
   cases hbf:fW xw m with
   | none=>
    have a0:jM xw m= -1:=by unfold jM;rw[hbf]
    have an:fd xn [(p,⟨1,xn,xw⟩)]=none:=by rw[HV.c,if_neg o_,HR.b,hbf]
    rw[a0] at HF;have ap:Hid (fd xn (gt (ad++[(⟨(p,⟨1,xn,xw⟩),⟨a5,a6,a7,a1⟩⟩:iH)]))=none):=If (by rw[HV.b,HV.a,an]);clear an hbf a0;gi_wp2_with fail;refine(CallsIn.inRound l HF.O).M ?_;rintro e w2 ⟨rfl,ai⟩;have H2:=If ai;clear ai;gi_wp2_with fail;exact⟨KeepsFrom.of_grownBy (lf H2.O) (fun j e=>by cases e),fe.v_ H2.O,⟨ap.O,HH.b.a_ H2.O HI.a,HH.c.a_ H2.O HI.b,HH.d.a_ H2.O HI.c,HH.e.a_ H2.O HI.d,HH.f.a_ H2.O HI.e⟩,b_ HH.g H2.O⟩
   | some k=>
    have a0:jM xw m=k:=by unfold jM;rw[hbf]
    have an:fd xn [(p,⟨1,xn,xw⟩)]=some (p,k):=by rw[HV.c,if_neg o_,HR.b,hbf]
    rw[a0] at HF;have ap:Hid (fd xn (gt (ad++[(⟨(p,⟨1,xn,xw⟩),⟨a5,a6,a7,a1⟩⟩:iH)]))=some (p,k)):=If (by rw[HV.b,HV.a,an]);clear an hbf a0;gi_wp2_with fail;refine(CallsIn.inRound l HF.O).M ?_;rintro e w2 ⟨rfl,ai⟩;have j1:=HH.c.a_ ai HI.b;have j2:=HH.d.a_ ai HI.c;have j3:=HH.e.a_ ai HI.d;have H2:=kq4 ai j1 j2 j3;obtain⟨k1,f1⟩:=j1;obtain⟨k2,f2⟩:=j2;obtain⟨k3,f3⟩:=j3;clear ai;gi_wp2_with fail;exact⟨(KeepsFrom.of_grownBy (lf H2.a) (fun j e=>by cases e)).T ((((KeepsOthers.setCell _ _ _).T (KeepsOthers.setCell _ _ _)).T (KeepsOthers.setCell _ _ _)).from _),
     ⟨rfl,⟨p,k,ap.O,((H2.b.set _).u_ _ o_).u_ _ o_,((H2.c.u_ _ o_).set _).u_ _ o_⟩,((H2.d.u_ _ o_).u_ _ o_).set _⟩,
     (((b_ HH.g H2.a).setCell (p:=y_ (w.1.size+1)) s_ _).setCell (p:=y_ (w.1.size+1+1)) m_ _).setCell (p:=y_ (w.1.size+1+1+1)) m_ _⟩
  ·have an:fd c [(p,⟨kd,xn,xw⟩)]=none:=by rw[HV.c,if_pos o_]
   have HN:=If an;have hd:((kd:Int) !=1)=true\/(((kd:Int) !=1)=false/\((xn:Int) !=c)=true):=by
    by_cases e:kd=1
    ·refine ae ⟨by rw[e];rfl,?_⟩;have:¬xn=c:=fun e2=>h1 ⟨e,e2⟩
     simp
     omega
    ·exact ab m_
   clear h1 an;have bj:fd c (gt (ad++[(⟨(p,⟨kd,xn,xw⟩),⟨a5,a6,a7,a1⟩⟩:iH)]))=none:=by rw[HV.b,HV.a,HN.O]
   have ap:=If bj;clear bj
   rcases hd with hd | ⟨hd,b4⟩
   ·exact qHaad
   ·exact qHaad
 case done=>
  rintro D ys W hD hS ⟨⟨i0,i1,i2,i3,i4,i5⟩,hB⟩ hK;obtain⟨k1,f1⟩:=id i2;obtain⟨k2,f2⟩:=id i3;obtain⟨k3,f3⟩:=id i4;have HH:=kq4 i2 i3 i4 hB;rw[hS] at i0;have a3:R=.tuple #[Xi 0,Xi 0,.bool false]:=by
   rw[<-HR.a];unfold kt;rw[i0]
   rfl
  clear i0 i1 i2 i3 i4 i5 hB hS
  gi_wp2
  have ar:=(((KeepsOthers.setCell W (y_ (w.1.size+1)) (Xi 0)).T (KeepsOthers.setCell _ (y_ (w.1.size+1+1)) (Xi 0))).T (KeepsOthers.setCell _ (y_ (w.1.size+1+1+1)) (.bool false))).same D _ hK rfl;refine⟨s_,.inl ⟨_,_,rfl,run_takeDeferred ar,?_⟩⟩;have r1:=((((HH.a.set (Xi 0)).u_ (Xi 0) (show w.1.size+1≠w.1.size+1+1 by omega)).u_ (.bool false) (show w.1.size+1≠w.1.size+1+1+1 by omega)).put (o':=.deferred none) ar rfl).1;have r2:=((((HH.b.u_ (Xi 0) (show w.1.size+1+1≠w.1.size+1 by omega)).set (Xi 0)).u_ (.bool false) (show w.1.size+1+1≠w.1.size+1+1+1 by omega)).put (o':=.deferred none) ar rfl).1;have r3:=((((HH.c.u_ (Xi 0) (show w.1.size+1+1+1≠w.1.size+1 by omega)).u_ (Xi 0) (show w.1.size+1+1+1≠w.1.size+1+1 by omega)).set (.bool false)).put (o':=.deferred none) ar rfl).1;subst a3;refine⟨.tuple #[Xi 0,Xi 0,.bool false],?_,rfl,(((HH.d.setCell (p:=y_ (w.1.size+1)) s_ _).setCell (p:=y_ (w.1.size+1+1)) m_ _).setCell (p:=y_ (w.1.size+1+1+1)) m_ _).T (belowK_b (w:=w) Ih _ D _ _ o_ ar rfl rfl)⟩
  simp[results,f106,go_sem,r1,r2,r3]
 case stop=>
  rintro D cd ad W hD bv ⟨⟨rfl,⟨p,k,bo,a9,ai⟩,ba⟩,hB⟩ hK;obtain⟨t,ht⟩:=bv;have a3:R=.tuple #[Xi p,Xi k,.bool true]:=by
   rw[<-HR.a];unfold kt;rw[<-ht,sv c (p,k) _ t bo]
   rfl
  have HH:=If hB;have r1:=(a9.put (o':=.deferred none) hK rfl).1;have r2:=(ai.put (o':=.deferred none) hK rfl).1;have r3:=(ba.put (o':=.deferred none) hK rfl).1;clear bo ht a9 ai ba hB;subst a3
  gi_wp2
  refine⟨s_,.inl ⟨_,_,rfl,run_takeDeferred hK,?_⟩⟩;refine⟨.tuple #[Xi p,Xi k,.bool true],?_,rfl,HH.O.T (belowK_b (w:=w) Ih W D _ _ o_ hK rfl rfl)⟩
  simp[results,f106,go_sem,r1,r2,r3]
theorem Ef(c:Nat):∃er:Nat,ip c=(et c,er):=by
 unfold ip
 by_cases h:c<8
 ·rw[if_pos o_,cY];exact⟨_,rfl⟩
 ·rw[if_neg o_];refine⟨2,?_⟩;unfold et;rw[az,aY (by simp[iP];omega)]
  rfl
theorem Aq(c:Nat):et c<=28:=by
 by_cases h:c<8
 ·have:∀c,c<8->et c<=28:=d_
  exact this c h
 ·unfold et;rw[az,aY (by simp[iP];omega)];decide
theorem tO{w k:Nat}(hw:w<2^64)(hk:k<64):iY w k<2^64:=Nat.or_lt_two_pow (n:=64) hw (me hk)
theorem uK{ph pa pm:Nat}(h:Fz w ph pa pm s Y)(p k:Nat)(hp:p<=1048576)(hk:k<64):
 Ct 107 #[PV ph,Xi p,Xi k] w fun e w'=>e=.returned (Xi ((fP s p k).1:Nat))/\Fz w' ph pa pm (fP s p k).2 Y/\Fo Y w w':=by
 have ar:=getH_lt h p;have ad:=qU h p hp;have ht:fP s p k=(fF p (FA s p).n k,nY (Ie s p ⟨(FA s p).j_,(FA s p).n,iY (FA s p).w k⟩) (fF p (FA s p).n k) (et (FA s p).n)):=rfl;rw[ht];clear ht;generalize FA s p=x at*;obtain⟨kd,xn,xw⟩:=x;simp only at ar ad⊢;obtain⟨a6,a7,ap⟩:=ar;have a3:=fun W=>zz xw k W ap hk;have a5:=tO ap hk;obtain⟨er,a2⟩:=Ef xn;have an:=fun W=>KG xn W;rw[a2] at an;have a':=Aq xn;have a1:=fun W=>uJ p xn k W hp o_ o_;have a9:fF p xn k<=67108926:=by
  have:=KF xn k;unfold fF;omega
 have ai:∀W,Fz W ph pa pm s Y->_:=fun W hW=>oh (hW.own (Xj kd xn (iY xw k:Nat))) p ⟨kd,xn,iY xw k⟩ hp a6 a7 a5;simp only[fT] at ad ai;generalize iY xw k=bs at*;generalize hz:et xn=z at*;generalize hq:fF p xn k=q at*;generalize Ie s p ⟨kd,xn,bs⟩=s1 at*;have HG:=kq6 ad a3 an a1 ai h;clear ad a3 an a1 ai h a2 hz hq;go_enter func107,ntmps107;go_wp2_with fail;refine dR HG.a fun w1 hb1=>?_;have H1:=kq2 (HG.f.a_ hb1) (HG.f.w_ hb1);clear hb1;go_wp2_with fail;refine Jc (HG.b _) ?_;go_wp2_with fail;refine(HG.e w1 H1.a).M ?_;rintro e w3 ⟨rfl,h3,k3⟩;have a0:(w1.alloc (Xj kd xn (bs:Nat))).1[w1.1.size]?=some (.cells #[Xi kd,Xi xn,Xu (bs:Nat)] 188 (0,0)):=by
  show (w1.1.push _)[w1.1.size]?=_;simp
 have b1:w3.cell? (x_ w1.1.size 1)=some (Xi xn):=by
  rw[k3.cell (p:=x_ w1.1.size 1) (ae rfl),q_ a0]
  rfl
 have au:Fo Y w1 (w1.alloc (Xj kd xn (bs:Nat))):=H1.a.w_ ((aa _ w1).alloc Ih _);have a8:w1.1.size<w3.1.size:=h3.yl _ (ae rfl);have H3:=kq2 (h3.M (fun k hk=>ab hk) HG.f.yh HG.f.yt) (H1.b.T (au.T (k3.M fun k hk=>ab hk)));clear h3 k3 a0 au;go_wp2_with fail;refine dR (HG.c _) fun w4 hb4=>?_;have a4:w4.cell? (x_ w1.1.size 1)=some (Xi xn):=(hb4.cell (p:=x_ w1.1.size 1) a8).T b1;have H4:=kq2 (H3.a.a_ hb4) (H3.b.T (H3.a.w_ hb4));clear hb4 b1;go_wp2_with fail;refine dR (HG.d _) fun w5 hb5=>?_;have H5:=kq2 (H4.a.a_ hb5) (H4.b.T (H4.a.w_ hb5));clear hb5 a4;go_wp2_with fail;refine(Bp H5.a q z o_ o_).M ?_;rintro e w6 ⟨rfl,h6,k6⟩;have H6:=kq2 h6 (H5.b.T k6);clear h6 k6;go_wp2_with fail;go_ret;exact⟨rfl,H6.O⟩
theorem oD {s:r_}{y:Nat×Hr}:∀(ks:List Nat) (nx:Nat),y∈gC s nx ks->y.1∈ks/\y.2=FA s y.1
 | [],_,h=>by simp[gC] at h
 | p::r,nx,h=>by
  unfold gC at h;split at h
  ·have:=oD r nx h;exact⟨am _ this.1,this.2⟩
  ·rcases ah.1 h with rfl | h
   ·exact⟨aq,rfl⟩
   ·have:=oD r _ h;exact⟨am _ this.1,this.2⟩
theorem oX {c p k:Nat}:∀(q:List (Nat×Hr)),fd c q=some (p,k)->(∃x,(p,x)∈q/\x.j_=1/\x.n=c/\fW x.w (eJ c)=some k)
 | (p',y)::q,h=>by
  have h1:fd c ((p',y)::q)=if y.j_≠1\/y.n≠c then fd c q else match fW y.w (eJ c) with | some k=>some (p',k) | none=>fd c q:=rfl
  rw[h1] at h;by_cases hc:y.j_≠1\/y.n≠c
  ·rw[if_pos hc] at h;obtain⟨x,hx,hr⟩:=oX q h;exact⟨x,am _ hx,hr⟩
  ·rw[if_neg hc] at h;have ad:y.j_=1:=o_
   have ai:y.n=c:=o_
   cases hb:fW y.w (eJ c) with
   | some j=>
    rw[hb] at h;simp only[Option.some.injEq,Prod.mk.injEq] at h;obtain⟨rfl,rfl⟩:=h;exact⟨y,aq,ad,ai,hb⟩
   | none=>
    rw[hb] at h;obtain⟨x,hx,hr⟩:=oX q h;exact⟨x,am _ hx,hr⟩
theorem tN{w n k:Nat}(h:fW w n=some k):k<n:=by
 unfold fW at h;rw[dl] at h;simpa using h.2.1
theorem GJ(hw:eQ s){c p k:Nat}(h:kt s c=some (p,k)):p<=1048575/\k<31:=by
 obtain⟨x,hx,_,_,hb⟩:=oX _ h;have h1:=(oD _ _ hx).1;have h2:=tN hb;have h3:=nX c;exact⟨hw.top _ h1,o_⟩
theorem uw(s:r_)(n:Nat):∀f p,s.firstRun n f p<=p+f
 | 0,p=>Nat.le_refl _
 | f+1,p=>by
  unfold r_.firstRun;split
  ·omega
  ·have:=uw s n f (p+1);omega
theorem mJ(hw:eQ s)(hn:n<=100):(s.grant n).1.1<=409601:=by
 have h1:=hw.room;have h2:=hw.F0;have h3:s.C_.length*n<=4096*100:=Nat.mul_le_mul o_ hn;unfold r_.grant
 split
 ·simp
 ·split
  ·simp
  ·have:=uw s n (s.C_.length*n+1) 0;simp only;omega
theorem Fz.grant{ph pa pm:Nat}(h:Fz w ph pa pm s Y)(n:Nat)(hn:n<=100):
 Ct 104 #[PV pa,Xi n] w fun e w'=>e=.returned (.tuple #[Xi ((s.grant n).1.1:Nat),Xi ((s.grant n).1.2:Nat)])/\Fz w' ph pa pm (s.grant n).2 Y/\Fo Y w w':=by
 obtain⟨ad,hs⟩:=h.slab;refine(Ek hs n hn).M ?_;rintro e w' ⟨h1,h2,h3⟩;exact⟨h1,h.step h2 h3,h3⟩
theorem tZ{n c:Nat}(h:gd n=some c):c<8:=by
 unfold gd at h;rw[dl] at h;simpa using h.2.1
theorem ua(h:n<=4000):fa n<=63:=by
 unfold fa
 split
 ·omega
 ·split
  ·omega
  ·omega
theorem qHaab{P:Prop}(h:P:=by
 go_wp2_with fail;refine(HG.f _ H3.a).M ?_;rintro e w4 ⟨rfl,h4,k4⟩;have H4:=kq2 h4 (H3.b.T k4);clear h4 k4 c3;go_wp2_with fail;go_ret2;obtain rfl:=HG.c;exact⟨rfl,H4.O⟩):P:=h
theorem heap_alloc{ph pa pm:Nat}(h:Fz w ph pa pm s Y)(n:Nat)(_:n<=100000):
 Ct 62 #[PV ph,Xi n] w fun e w'=>e=.returned (.tuple #[Xi ((fR s n).1.1:Nat),Xi ((fR s n).1.2:Nat)])/\Fz w' ph pa pm (fR s n).2 Y/\Fo Y w w':=by
 have ap:=qV h;have an:=fun W=>Gn n W;obtain⟨R,hR⟩:=Ii (fR s n);rw[hR]
 rcases vX n with⟨h1,h2,_⟩ | ⟨h1,⟨c,h2,h3,_⟩ | ⟨h2,h3,h4⟩⟩
 ·have ad:R=((0,2),s):=by rw[<-hR];unfold fR;rw[if_pos h1]
  rw[h2] at an;have HG:=kq4 ap an ad h;clear ap an ad h hR h1 h2;go_enter func62,ntmps62;go_wp2_with fail;refine Jc HG.a ?_;go_wp2_with fail;refine dR (HG.b _) fun w2 hb2=>?_;have H2:=If hb2;clear hb2;go_wp2_with fail;go_ret2;obtain rfl:=HG.c;exact⟨rfl,HG.d.a_ H2.O,HG.d.w_ H2.O⟩
 ·have a2:¬(n<1\/4000<n):=o_
  rw[h3] at an;have a':=tZ h2;have au:=fun W (hW:Fz W ph pa pm s Y)=>By hW c o_
  cases hspot:kt s c with
  | some pk=>
   obtain⟨p,k⟩:=pk;have ad:R=(((fP s p k).1,0),(fP s p k).2):=by rw[<-hR];unfold fR;rw[if_neg a2,h2];simp only[hspot]
   rw[hspot] at au;obtain⟨hp,hk⟩:=GJ h.wf hspot;have a6:=fun W (hW:Fz W ph pa pm s Y)=>uK hW p k o_ o_;generalize fP s p k=tk at*;have HG:=kq6 ap an ad h au a6;clear ap an ad h hR h1 h2 h3 au a6 hspot;go_enter func62,ntmps62;go_wp2_with fail;refine Jc HG.a ?_;go_wp2_with fail;refine dR (HG.b _) fun w2 hb2=>?_;have H2:=kq2 (HG.d.a_ hb2) (HG.d.w_ hb2);clear hb2;go_wp2_with fail;refine dR (HG.e _ H2.a) fun w3 hb3=>?_;have H3:=kq2 (H2.a.a_ hb3) (H2.b.T (H2.a.w_ hb3));clear hb3;simp only[Kf];go_wp2_with fail;refine(HG.f _ H3.a).M ?_;rintro e w4 ⟨rfl,h4,k4⟩;have H4:=kq2 h4 (H3.b.T k4);clear h4 k4;go_wp2_with fail;go_ret2;obtain rfl:=HG.c;exact⟨rfl,H4.O⟩
  | none=>
   rw[hspot] at au;have ai:=fun W (hW:Fz W ph pa pm s Y)=>hW.grant 1 o_;have a1:=mJ h.wf (n:=1) o_;obtain⟨⟨⟨gp,ge⟩,gs⟩,ar⟩:∃g,s.grant 1=g:=⟨_,rfl⟩;rw[ar] at ai a1;simp only at ai a1
   cases ge with
   | zero=>
    have ad:R=(((fP (Ie gs gp ⟨1,c,0⟩) gp 0).1,0),(fP (Ie gs gp ⟨1,c,0⟩) gp 0).2):=by rw[<-hR];unfold fR;rw[if_neg a2,h2];simp only[hspot,ar]
    have a0:=fun W (hW:Fz W ph pa pm gs Y)=>oh hW gp ⟨1,c,0⟩ o_ (show 1<256 by omega) (by simp only;omega) (show 0<2^64 by omega);simp only[fT] at a0;generalize Ie gs gp ⟨1,c,0⟩=s2 at*;have a6:=fun W (hW:Fz W ph pa pm s2 Y)=>uK hW gp 0 o_ o_;generalize fP s2 gp 0=tk at*;have HG:=kq8 ap an ad h au ai a0 a6;clear ap an ad h hR h1 h2 h3 au a6 hspot ai a0 ar;go_enter func62,ntmps62;go_wp2_with fail;refine Jc HG.a ?_;go_wp2_with fail;refine dR (HG.b _) fun w2 hb2=>?_;have H2:=kq2 (HG.d.a_ hb2) (HG.d.w_ hb2);clear hb2;go_wp2_with fail;refine dR (HG.e _ H2.a) fun w3 hb3=>?_;have H3:=kq2 (H2.a.a_ hb3) (H2.b.T (H2.a.w_ hb3));have c3:=H3.a.cell;clear hb3;simp only[Kf];go_wp2_with fail;refine(HG.f _ H3.a).M ?_;rintro e w4 ⟨rfl,h4,k4⟩;have H4:=kq2 h4 (H3.b.T k4);clear h4 k4 c3;go_wp2_with fail;refine(HG.g _ H4.a).M ?_;rintro e w5 ⟨rfl,h5,k5⟩;have H5:=kq2 h5 (H4.b.T k5);clear h5 k5;go_wp2_with fail;refine(HG.h _ H5.a).M ?_;rintro e w6 ⟨rfl,h6,k6⟩;have H6:=kq2 h6 (H5.b.T k6);clear h6 k6;go_wp2_with fail;go_ret2;obtain rfl:=HG.c;exact⟨rfl,H6.O⟩
   | succ ge=>
    have ad:R=((0,ge+1),gs):=by rw[<-hR];unfold fR;rw[if_neg a2,h2];simp only[hspot,ar]
    have a7:(((ge+1:Nat):Int) !=0)=true:=m_
    obtain⟨g1,a3⟩:=Ii (ge+1);rw[a3] at ai ad a7;have a9:¬(g1:Int)=0:=o_
    have HG:=kq6 ap an ad h au ai;clear ap an ad h hR h1 h2 h3 au hspot ai ar a3;go_enter func62,ntmps62;go_wp2_with fail;refine Jc HG.a ?_;go_wp2_with fail;refine dR (HG.b _) fun w2 hb2=>?_;have H2:=kq2 (HG.d.a_ hb2) (HG.d.w_ hb2);clear hb2;go_wp2_with fail;refine dR (HG.e _ H2.a) fun w3 hb3=>?_;have H3:=kq2 (H2.a.a_ hb3) (H2.b.T (H2.a.w_ hb3));have c3:=H3.a.cell;clear hb3;simp only[Kf];exact qHaab
 ·have a2:¬(n<1\/4000<n):=o_
  rw[h3] at an;have a5:=fun W=>GT n W h1.2 h1.1;have a8:=ua h1.2;have ai:=fun W (hW:Fz W ph pa pm s Y)=>hW.grant (fa n) o_;have a1:=mJ h.wf (n:=fa n) o_;obtain⟨np,a4⟩:=Ii (fa n);rw[a4] at a5 a8 ai a1;obtain⟨⟨⟨gp,ge⟩,gs⟩,ar⟩:∃g,s.grant np=g:=⟨_,rfl⟩;rw[ar] at ai a1;simp only at ai a1
  cases ge with
  | zero=>
   have ad:R=((gp*64+2,0),Ie gs gp ⟨2,np,n⟩):=by rw[<-hR];unfold fR;rw[if_neg a2,h2,a4];simp only[ar]
   have a0:=fun W (hW:Fz W ph pa pm gs Y)=>oh hW gp ⟨2,np,n⟩ o_ (show 2<256 by omega) (by simp only;omega) (by simp only;omega);simp only[fT] at a0;generalize Ie gs gp ⟨2,np,n⟩=s2 at*;have ba:n<=4000:=h1.2;have HG:=kq7 ap an ad h a5 ai a0;clear ap an ad h hR h1 h2 h3 h4 a5 ai a0 ar a4;go_enter func62,ntmps62;go_wp2_with fail;refine Jc HG.a ?_;go_wp2_with fail;refine dR (HG.b _) fun w2 hb2=>?_;have H2:=kq2 (HG.d.a_ hb2) (HG.d.w_ hb2);clear hb2;go_wp2_with fail;refine dR (HG.e _) fun w3 hb3=>?_;have H3:=kq2 (H2.a.a_ hb3) (H2.b.T (H2.a.w_ hb3));have c3:=H3.a.cell;clear hb3;go_wp2_with fail;refine(HG.f _ H3.a).M ?_;rintro e w4 ⟨rfl,h4,k4⟩;have H4:=kq2 h4 (H3.b.T k4);clear h4 k4 c3;go_wp2_with fail;refine(HG.g _ H4.a).M ?_;rintro e w5 ⟨rfl,h5,k5⟩;have H5:=kq2 h5 (H4.b.T k5);clear h5 k5;go_wp2_with fail;go_ret2;obtain rfl:=HG.c;exact⟨s_,H5.O⟩
  | succ ge=>
   have ad:R=((0,ge+1),gs):=by rw[<-hR];unfold fR;rw[if_neg a2,h2,a4];simp only[ar]
   have a7:(((ge+1:Nat):Int) !=0)=true:=m_
   obtain⟨g1,a3⟩:=Ii (ge+1);rw[a3] at ai ad a7;have a9:¬(g1:Int)=0:=o_
   have HG:=kq6 ap an ad h a5 ai;clear ap an ad h hR h1 h2 h3 h4 a5 ai ar a4 a3;go_enter func62,ntmps62;go_wp2_with fail;refine Jc HG.a ?_;go_wp2_with fail;refine dR (HG.b _) fun w2 hb2=>?_;have H2:=kq2 (HG.d.a_ hb2) (HG.d.w_ hb2);clear hb2;go_wp2_with fail;refine dR (HG.e _) fun w3 hb3=>?_;have H3:=kq2 (H2.a.a_ hb3) (H2.b.T (H2.a.w_ hb3));have c3:=H3.a.cell;clear hb3;exact qHaab
end
section
open Go.RowKit Tryz Go.BigFrame Go.Maps Go.WideMaps Lf
variable{S:St}{Y:Nat->Prop}{ps:Nat}{pt:Nat}{v:Value}{w:World}
theorem eI.of_keep{w w':World}{t:Hs}(h:eI w pt t v)(hp:w'.1[pt]?=w.1[pt]?)(hv:∀b,v.ownBlock=some b->w'.1[b]?=w.1[b]?):eI w' pt t v where
 wf:=h.wf
 hd:=hp.T h.hd
 row:=by
  refine⟨h.row.1,?_⟩;rcases h.row.2 with hn | ⟨g,ad,cur,rfl,hb,hg,ai⟩
  ·grind
  ·exact ae ⟨g,ad,cur,rfl,hb,(hv g rfl).T hg,ai⟩
theorem eI.own_lt{t:Hs}(h:eI w pt t v){b:Nat}(hb:v.ownBlock=some b):b<w.1.size:=by
 rcases h.row.2 with⟨rfl,_⟩ | ⟨g,ad,cur,rfl,_,hg,_⟩
 ·cases hb
 ·injection hb with hb
  grind
def YS(Y:Nat->Prop)(ps ph pt:Nat)(v:Value):Nat->Prop:=fun k=>Y k\/k=ps\/k=ph\/k=fy\/k=pt\/v.ownBlock=some k
structure eR (w:World) (ps pa pm ph pt:Nat) (v:Value) (S:St) (Y:Nat->Prop):Prop where
 hd:w.1[ps]?=some (.cells #[Xi S.t.most,.int .u32 S.t.last,PV pa,PV ph,PV pt] 94 (0,0))
 heap:Fz w ph pa pm S.a (YS Y ps ph pt v)
 tab:eI w pt S.t v
 off:∀k,(Y k\/k=ps\/k=ph\/k=fy)->k≠pt/\v.ownBlock≠some k
def Ig(w:World)(ps:Nat)(S:St)(Y:Nat->Prop):Prop:=∃pa pm ph pt v,eR w ps pa pm ph pt v S Y
theorem eR.cells{ps pa pm ph pt:Nat}(h:eR w ps pa pm ph pt v S Y):
 w.cell? (y_ ps)=some (Xi S.t.most)/\w.cell? (x_ ps 1)=some (.int .u32 S.t.last)/\w.cell? (x_ ps 2)=some (PV pa)/\w.cell? (x_ ps 3)=some (PV ph)/\w.cell? (x_ ps 4)=some (PV pt):=by
 refine⟨?_,?_,?_,?_,?_⟩<;>· rw[q_ h.hd];rfl
theorem eR.a_{w w':World}{ps pa pm ph pt:Nat}(h:eR w ps pa pm ph pt v S Y)(hb:D_ w w'):eR w' ps pa pm ph pt v S Y where
 hd:=by rw[hb.block ps (gl h.hd)];exact h.hd
 heap:=h.heap.a_ hb
 tab:=h.tab.of_keep (hb.block _ h.tab.pt_lt) fun b e=>hb.block _ (h.tab.own_lt e)
 off:=h.off
theorem Ig.a_{w w':World}(h:Ig w ps S Y)(hb:D_ w w'):Ig w' ps S Y:=by
 obtain⟨pa,pm,ph,pt,v,h⟩:=h;exact⟨pa,pm,ph,pt,v,h.a_ hb⟩
theorem eR.yl{ps pa pm ph pt:Nat}(h:eR w ps pa pm ph pt v S Y):∀k,Y k->k<w.1.size:=fun k hk=>h.heap.yl k (ab hk)
theorem Ig.yl(h:Ig w ps S Y):∀k,Y k->k<w.1.size:=by
 obtain⟨pa,pm,ph,pt,v,h⟩:=h;exact h.yl
theorem Ig.w_{w w':World}(h:Ig w ps S Y)(hb:D_ w w'):Fo Y w w':=Fo.v_ hb h.yl
theorem Ig.drewN(h:Ig w ps S Y)(n:Nat):Ig (w.drewN n) ps S Y:=h.a_ ⟨rfl,rfl,rfl,Nat.le_refl _,fun _ _=>rfl⟩
theorem Ig.M{Y Z:Nat->Prop}(h:Ig w ps S Y)(hz:∀k,Z k->Y k):Ig w ps S Z:=by
 obtain⟨pa,pm,ph,pt,v,h⟩:=h;refine⟨pa,pm,ph,pt,v,h.hd,h.heap.M (fun k hk=>hk.imp (hz k) id) (ae (ae (ab rfl))) (ae (ae (ae (ab rfl)))),h.tab,fun k hk=>h.off k (hk.imp (hz k) id)⟩
theorem Ig.wide{w w':World}(h:Ig w ps S Y)(hb:D_ w w'):Ig w' ps S (fun k=>Y k\/(w.1.size<=k/\k<w'.1.size)):=by
 obtain⟨pa,pm,ph,pt,v,h⟩:=h;have h':=h.a_ hb;refine⟨pa,pm,ph,pt,v,h'.hd,?_,h'.tab,?_⟩
 ·refine(h.heap.wide hb).M ?_ (ae (ae (ab rfl))) (ae (ae (ae (ab rfl))));rintro k ((hk | hk) | hk)
  ·exact ab (ab hk)
  ·omega
  ·exact ab (ae hk)
 ·rintro k ((hk | hk) | hk)
  ·exact h.off k (ab hk)
  ·have h1:=h.tab.pt_lt;refine⟨o_,fun e=>?_⟩;have:=h.tab.own_lt e;omega
  ·exact h.off k (ae hk)
theorem eR.arena{w w':World}{ps pa pm ph pt:Nat}(h:eR w ps pa pm ph pt v S Y){a:r_}(ha:Fz w' ph pa pm a (YS Y ps ph pt v))(hk:Fo (YS Y ps ph pt v) w w'):eR w' ps pa pm ph pt v ⟨a,S.t⟩ Y where
 hd:=(hk.block ps (ae (ab rfl))).T h.hd
 heap:=ha
 tab:=h.tab.of_keep (hk.block pt (ae (ae (ae (ae (ab rfl)))))) fun b e=>hk.block b (ae (ae (ae (ae (ae e)))))
 off:=h.off
theorem YS.self{ps ph pt:Nat}{k:Nat}(h:Y k):YS Y ps ph pt v k:=ab h
theorem eR.table{w w':World}{ps pa pm ph pt:Nat}{v v':Value}(h:eR w ps pa pm ph pt v S Y){t:Hs}(ht:eI w' pt t v')(hm:t.most=S.t.most/\t.last=S.t.last)
 (Z:Nat->Prop) (hZ:∀k,k<w.1.size->k≠pt->v.ownBlock≠some k->Z k) (hk:Fo Z w w') (hv':∀b,Z b->v'.ownBlock≠some b):eR w' ps pa pm ph pt v' ⟨S.a,t⟩ Y:=by
 have hlt:∀k,(Y k\/k=ps\/k=ph\/k=fy)->k<w.1.size:=fun k hk=>h.heap.yl k (by
  rcases hk with hk | hk | hk | hk
  ·exact ab hk
  ·exact ae (ab hk)
  ·exact ae (ae (ab hk))
  ·exact ae (ae (ae (ab hk))))
 have an:∀k,(Y k\/k=ps\/k=ph\/k=fy)->Z k:=fun k hk=>hZ k (hlt k hk) (h.off k hk).1 (h.off k hk).2;obtain⟨ai,hs⟩:=h.heap.slab;have au:∀k,k<w.1.size->(k=pa\/k=pm\/∃p∈S.a.l_,k=ai p)->Z k:=fun k hkl hk=>by
  have ap:¬YS Y ps ph pt v k:=by
   rcases hk with rfl | rfl | ⟨p,hp,rfl⟩
   ·exact hs.ya
   ·exact hs.ym
   ·exact hs.yp p hp
  exact hZ k hkl (fun e=>ap (ae (ae (ae (ae (ab e)))))) (fun e=>ap (ae (ae (ae (ae (ae e))))))
 have ad:eh w' pa pm S.a (YS Y ps ph pt v) ai:=hs.of_keep hk.size fun k hkl hkk=>hk.block k (au k hkl hkk);have ar:eh w' pa pm S.a (YS Y ps ph pt v') ai:=by
  have key:∀k,k<w.1.size->(k=pa\/k=pm\/∃p∈S.a.l_,k=ai p)->¬YS Y ps ph pt v k->¬YS Y ps ph pt v' k:=fun k hkl hkk hn hy=>by
   rcases hy with hy | hy | hy | hy | hy | hy
   ·exact hn (ab hy)
   ·exact hn (ae (ab hy))
   ·exact hn (ae (ae (ab hy)))
   ·exact hn (ae (ae (ae (ab hy))))
   ·exact hn (ae (ae (ae (ae (ab hy)))))
   grind
  refine⟨ad.wf,ad.hd,ad.map,ad.pg,ad.inj,?_,?_,?_,?_⟩
  ·exact key pa (gl hs.hd) (ab rfl) hs.ya
  ·exact key pm hs.map.lt (ae (ab rfl)) hs.ym
  ·intro p hp;obtain⟨l,hl⟩:=jP.1 hp;exact key _ (gl (hs.pg _ hl)) (ae (ae ⟨p,hp,rfl⟩)) (hs.yp p hp)
  ·intro k hkk;rcases hkk with hy | hy | hy | hy | hy | hy
   ·exact ad.yl k (ab hy)
   ·exact ad.yl k (ae (ab hy))
   ·exact ad.yl k (ae (ae (ab hy)))
   ·exact ad.yl k (ae (ae (ae (ab hy))))
   ·exact ad.yl k (ae (ae (ae (ae (ab hy)))))
   ·exact ht.own_lt hy
 refine⟨?_,⟨⟨ai,ar⟩,(hk.block ph (an ph (ae (ae (ab rfl))))).T h.heap.hp,ae (ae (ab rfl)),h.heap.tab.of_block (hk.block _ (an fy (ae (ae (ae rfl))))),ae (ae (ae (ab rfl)))⟩,ht,fun k hkk=>⟨(h.off k hkk).1,hv' k (an k hkk)⟩⟩;rw[hk.block ps (an ps (ae (ab rfl))),h.hd,hm.1,hm.2]
structure Fv (S:St):Prop where
 len:∀(i:Nat) (h:i<S.t.p_.length),S.t.p_[i].is=1->S.a.rd (S.t.p_[i].t_+1)<=3998/\S.t.p_[i].t_<=2^60
 apart:∀(i j:Nat) (hi:i<S.t.p_.length) (hj:j<S.t.p_.length),i≠j->S.t.p_[i].is=1->S.t.p_[j].is=1->
  S.t.p_[i].t_+2+S.a.rd (S.t.p_[i].t_+1)<=S.t.p_[j].t_\/S.t.p_[j].t_+2+S.a.rd (S.t.p_[j].t_+1)<=S.t.p_[i].t_
theorem Lf.St.at_some{h k:Nat}(hk:S.t.of h=some k)(hlt:k<S.t.p_.length):S.at h=(S.t.p_[k].t_,S.a.rd (S.t.p_[k].t_+1),0):=by
 unfold St.at;rw[sQ hk hlt];rfl
theorem Lf.St.at_none{h:Nat}(hk:S.t.of h=none):S.at h=(0,0,7):=by
 unfold St.at Hs.at;grind
theorem Fv.at_le(hi:Fv S)(h:Nat):(S.at h).2.1<=3998:=by
 cases hk:S.t.of h with
 | none=>rw[St.at_none hk];simp
 | some k=>
  obtain⟨hlt,h1,_⟩:=Hs.of_lt hk;rw[St.at_some hk hlt];exact(hi.len k hlt h1).1
theorem Fv.addr_le(hi:Fv S)(h:Nat):(S.at h).1<=2^60:=by
 cases hk:S.t.of h with
 | none=>rw[St.at_none hk];simp
 | some k=>
  obtain⟨hlt,h1,_⟩:=Hs.of_lt hk;rw[St.at_some hk hlt];exact(hi.len k hlt h1).2
theorem Lf.St.at_cases(S:St)(h:Nat):(∃t_ n,S.at h=(t_,n,0)/\S.t.at h=(t_,0)/\S.a.rd (t_+1)=n)\/(S.at h=(0,0,7)/\S.t.at h=(0,7)):=by
 grind [St.at_none,Hs.at,Hs.of_lt,St.at_some,sQ]
def Lf.St.place(s:St)(h k:Nat):Nat×Nat:=
 match s.at h with
 | (t_,n,0)=>if k<n then(t_+2+k,0) else(0,2)
 | (_,_,e)=>(0,e)
theorem Lf.St.get_place(S:St)(h k:Nat):S.get h k=match S.place h k with | (p,0)=>(S.a.rd p,S.a.err p) | (_,e)=>(0,e):=by
 unfold St.get St.place;grind
theorem Lf.St.put_place(S:St)(h k w:Nat):S.put h k w=match S.place h k with | (p,0)=>(S.a.err p,{ S with a:=S.a.wr p w }) | (_,e)=>(e,S):=by
 unfold St.put St.place;grind
theorem Fv.place_le(hi:Fv S)(h k:Nat):(S.place h k).1<=2305843009213693952:=by
 have h2:=hi.addr_le h;have h3:=hi.at_le h;grind [St.place]
theorem Lf.St.place_cases(S:St)(h k:Nat):(∃p,S.place h k=(p,0))\/(∃e,S.place h k=(0,e+1)):=by
 unfold St.place
 rcases S.at_cases h with⟨a,n,h1,_⟩ | ⟨h1,_⟩
 ·rw[h1];simp only
  split
  ·exact ab ⟨_,rfl⟩
  ·exact ae ⟨1,rfl⟩
 grind
end
section
open Lf
variable{S:St}{o:Nat->Nat}{p:Nat}{s:r_}
theorem Od(p i x:Nat):∀(l:List (Nat×fQ)) (q:Nat),(l.map fun y=>if y.1=p then(y.1,y.2.set i x) else y).lookup q=(l.lookup q).map fun t=>if q=p then t.set i x else t
 | [],q=>rfl
 | (a,t)::l,q=>by
  have ih:=Od p i x l q;grind
theorem Lf.r_.page?_wr(s:r_)(a x q:Nat):(s.wr a x).page? q=(s.page? q).map fun t=>if q=a / 64 then t.set (a % 64) x else t:=Od (a / 64) (a % 64) x s.C_ q
theorem Lf.r_.rd_wr_ne(s:r_)(a x b:Nat)(h:b≠a):(s.wr a x).rd b=s.rd b:=by
 unfold r_.rd;rw[r_.page?_wr];grind
theorem Lf.St.place_some{h k p:Nat}(hp:S.place h k=(p,0)):∃j,S.t.of h=some j/\∃hj:j<S.t.p_.length,p=S.t.p_[j].t_+2+k/\k<S.a.rd (S.t.p_[j].t_+1)/\S.t.p_[j].is=1:=by
 cases hk:S.t.of h with
 | none=>
  unfold St.place at hp;rw[St.at_none hk] at hp
  simp at hp
 | some j=>
  obtain⟨hj,h1,_⟩:=Hs.of_lt hk;refine⟨j,rfl,hj,?_⟩;unfold St.place at hp;rw[St.at_some hk hj] at hp
  split at hp
  ·grind
  ·grind
theorem Fv.place_ne(hi:Fv S){h k p:Nat}(hp:S.place h k=(p,0))(i:Nat)(hl:i<S.t.p_.length)(h1:S.t.p_[i].is=1):S.t.p_[i].t_+1≠p:=by
 obtain⟨j,_,hj,rfl,hk,h2⟩:=St.place_some hp
 by_cases e:i=j
 ·grind
 ·have:=hi.apart i j hl hj e h1 h2;omega
theorem Fv.put(hi:Fv S)(h k x:Nat):Fv (S.put h k x).2:=by
 rw[St.put_place]
 rcases S.place_cases h k with⟨p,hp⟩ | ⟨e,hp⟩
 ·rw[hp];have key:∀(i:Nat) (hl:i<S.t.p_.length),S.t.p_[i].is=1->(S.a.wr p x).rd (S.t.p_[i].t_+1)=S.a.rd (S.t.p_[i].t_+1):=fun i hl h1=>r_.rd_wr_ne _ _ _ _ (hi.place_ne hp i hl h1);refine⟨fun i hl h1=>?_,fun i j hl hj hne h1 h2=>?_⟩
  ·have ad:S.t.p_[i].is=1:=h1
   show (S.a.wr p x).rd (S.t.p_[i].t_+1)<=3998/\_
   rw[key i hl ad];exact hi.len i hl ad
  ·show S.t.p_[i].t_+2+(S.a.wr p x).rd (S.t.p_[i].t_+1)<=S.t.p_[j].t_\/S.t.p_[j].t_+2+(S.a.wr p x).rd (S.t.p_[j].t_+1)<=S.t.p_[i].t_
   rw[key i hl h1,key j hj h2];exact hi.apart i j hl hj hne h1 h2
 grind
theorem wD(S:St)(h k x:Nat):(S.put h k x).2.t=S.t:=by
 grind [St.put_place]
theorem Fv.put_at(hi:Fv S)(h k x h':Nat):(S.put h k x).2.at h'=S.at h':=by
 cases hk:S.t.of h' with
 | none=>rw[St.at_none hk,St.at_none (by rw[wD];omega)]
 | some j=>
  obtain⟨hj,h1,_⟩:=Hs.of_lt hk;rw[St.at_some hk hj];rw[St.put_place]
  rcases S.place_cases h k with⟨p,hp⟩ | ⟨e,hp⟩
  ·rw[hp];refine(St.at_some (S:= { S with a:=S.a.wr p x }) (h:=h') hk hj).T ?_
   show (S.t.p_[j].t_,(S.a.wr p x).rd (S.t.p_[j].t_+1),0)=_
   rw[r_.rd_wr_ne _ _ _ _ (hi.place_ne hp j hj h1)]
  ·rw[hp];exact St.at_some hk hj
theorem rV(h:Nat):∀(l:List Nat) (S:St) (k:Nat),Fv S->Fv (FC S h k l)/\(∀h',(FC S h k l).at h'=S.at h')/\(FC S h k l).t=S.t
 | [],S,k,hi=>⟨hi,fun _=>rfl,rfl⟩
 | x::r,S,k,hi=>by
  obtain⟨h1,h2,h3⟩:=rV h r (S.put h k x).2 (k+1) (hi.put h k x);exact⟨h1,fun h'=>(h2 h').T (hi.put_at h k x h'),h3.T (wD S h k x)⟩
theorem yL(S:St):S.at 0=(0,0,7):=St.at_none (by rfl)
theorem fU(S:St):S.len 0=(0,7):=by unfold St.len;rw[yL]
theorem oS(hw:eQ s){a:Nat}(hp:a / 64∈s.l_)(x:Nat):(s.wr a x).rd a=x:=by
 obtain⟨l,h1,h2⟩:=kK hp;have hl:=hw.len _ h2;unfold r_.rd;rw[Lf.r_.page?_wr,h1];grind
theorem oM(s:r_)(p:Nat)(x:Hr):(Ie s p x).l_=s.l_:=by unfold Ie;rw[i9,i9]
theorem Ke(s:r_)(p:Nat)(x:Hr):(Ie s p x).C_.length=s.C_.length:=by unfold Ie;rw[kL,kL]
theorem ng(s:r_)(p:Nat)(x:Hr):(Ie s p x).F0=s.F0:=rfl
theorem rS(hw:eQ s)(p:Nat){x:Hr}(h1:x.j_<256)(h2:x.n<256)(h3:x.w<2^64):eQ (Ie s p x):=
 (hw.wr _ _ o_).wr _ _ h3
theorem oN(p:Nat)(x:Hr){b:Nat}(h1:b≠p*64)(h2:b≠p*64+1):(Ie s p x).rd b=s.rd b:=by
 unfold Ie;rw[r_.rd_wr_ne _ _ _ _ h2,r_.rd_wr_ne _ _ _ _ h1]
theorem rR(hw:eQ s)(hp:p∈s.l_){x:Hr}(h1:x.j_<256)(h2:x.n<256):FA (Ie s p x) p=x:=by
 have e1:(p*64+1) / 64=p:=o_
 have e0:p*64 / 64=p:=o_
 have ad:eQ (s.wr (p*64) (x.j_+x.n*256)):=hw.wr _ _ o_;have r1:(Ie s p x).rd (p*64+1)=x.w:=oS ad (by rw[e1,i9];exact hp) _;have r0:(Ie s p x).rd (p*64)=x.j_+x.n*256:=by
  unfold Ie;rw[r_.rd_wr_ne _ _ _ _ o_];exact oS hw (by rw[e0];exact hp) _
 unfold FA;obtain⟨a,b,c⟩:=x
 grind
theorem lQ{s s':r_}(h:∀b,b / 64=p->b % 64<2->s'.rd b=s.rd b):FA s' p=FA s p:=by
 grind [FA]
theorem yi(s:r_)(a:Nat):∀n,(s.zero a n).l_=s.l_
 | 0=>rfl
 | n+1=>by show (r_.wr _ _ _).l_=_;rw[i9,yi s a n]
theorem yj(s:r_)(a:Nat):∀n,(s.zero a n).C_.length=s.C_.length
 | 0=>rfl
 | n+1=>by show (r_.wr _ _ _).C_.length=_;rw[kL,yj s a n]
theorem yn(s:r_)(a:Nat):∀n,(s.zero a n).F0=s.F0
 | 0=>rfl
 | n+1=>by show (r_.wr _ _ _).F0=_;exact yn s a n
theorem yo {s:r_}(hw:eQ s)(a:Nat):∀n,eQ (s.zero a n)
 | 0=>hw
 | n+1=>(yo hw a n).wr _ _ o_
theorem tj(s:r_)(a:Nat){b:Nat}:∀n,(b<a\/a+n<=b)->(s.zero a n).rd b=s.rd b
 | 0,_=>rfl
 | n+1,h=>by
  show (r_.wr _ _ _).rd b=_
  rw[r_.rd_wr_ne _ _ _ _ o_];exact tj s a n o_
theorem lj(a q:Nat)(b:fQ)(r:List (Nat×fQ)):((a,b)::r).lookup q=if q=a then some b else r.lookup q:=by
 grind
theorem LG(p q:Nat)(l:fQ):∀r:List (Nat×fQ),(ins p l r).lookup q=if q=p then some l else r.lookup q
 | []=>by
  unfold ins;rw[lj]
 | x::r=>by
  obtain⟨a,b⟩:=x;unfold ins;simp only;split
  ·rename_i h;rw[lj,LG p q l r,lj];by_cases e:q=a
   ·rw[if_pos e,if_neg o_,if_pos e]
   ·rw[if_neg e,if_neg e]
  ·rw[lj]
theorem page?_add(s:r_)(p q:Nat):(s.add p).page? q=if q=p then some jB else s.page? q:=LG p q jB s.C_
theorem tx(s:r_)(p:Nat){b:Nat}:∀n,(b / 64<p\/p+n<=b / 64)->(s.G5 p n).rd b=s.rd b
 | 0,_=>rfl
 | n+1,h=>by
  rw[<-tx s p n o_];show ((s.G5 p n).add (p+n)).rd b=_
  unfold r_.rd;rw[page?_add,if_neg o_]
theorem tz {s:r_}(hw:eQ s){p:Nat}:∀n,(∀k,k<n->p+k∉s.l_)->p+n<=1048576->(s.C_.length+n)*64<=s.F0->eQ (s.G5 p n)
 | 0,_,_,_=>hw
 | n+1,h1,h2,h3=>by
  refine(tz hw n (fun k hk=>h1 k o_) o_ o_).add ?_ o_ ?_
  ·rw[nK];rintro(h | h)
   ·exact h1 n o_ h
   ·omega
  ·rw[mu,mw];omega
theorem ry(p q:Nat):∀r:List (Nat×fQ),q≠p->(r.filter fun x=>x.1≠p).lookup q=r.lookup q
 | [],_=>rfl
 | x::r,h=>by
  obtain⟨a,b⟩:=x;rw[List.filter_cons];split
  ·rw[lj,lj,ry p q r h]
  ·rename_i h1;have:a=p:=by grind
   subst this;rw[ry a q r h,lj,if_neg h]
theorem AE(s:r_){p b:Nat}(h:b / 64≠p):(s.del p).rd b=s.rd b:=by
 unfold r_.rd;have:(s.del p).page? (b / 64)=s.page? (b / 64):=ry p _ s.C_ h;grind
theorem qr(s:r_)(p:Nat){b:Nat}:∀n,(b / 64<p\/p+n<=b / 64)->(s.delRun p n).rd b=s.rd b
 | 0,_=>rfl
 | n+1,h=>by
  rw[<-qr s p n o_];exact AE _ o_
theorem ug {s:r_}(hw:eQ s)(p:Nat):∀n,eQ (s.delRun p n)
 | 0=>hw
 | n+1=>(ug hw p n).del _
theorem Jk(s:r_)(p:Nat):∀n,(s.delRun p n).F0=s.F0
 | 0=>rfl
 | n+1=>Jk s p n
theorem qo(s:r_)(p:Nat):∀n,(s.delRun p n).C_.length<=s.C_.length
 | 0=>Nat.le_refl _
 | n+1=>aH (List.length_filter_le _ _) (qo s p n)
def gr(x:Hr):Nat:=if x.j_=2 then x.n else 1
def kT(x:Hr):Prop:=(x.j_=1/\x.n<8)\/(x.j_=2/\1<=x.n/\x.n<=64)
structure Own (s:r_) (o:Nat->Nat):Prop where
 wf:eQ s
 up:∀p∈s.l_,o p∈s.l_/\o (o p)=o p/\o p<=p/\p<o p+gr (FA s (o p))
 down:∀h∈s.l_,o h=h->kT (FA s h)/\∀k,k<gr (FA s h)->h+k∈s.l_/\o (h+k)=h
theorem kT.small{x:Hr}(h:kT x):x.j_<256/\x.n<256:=by rcases h with h | h<;>omega
theorem rD {s:r_}{o:Nat->Nat}(h:Own s o):∀(ks:List Nat) (nx:Nat),ks.Pairwise (·<·)->(∀q∈ks,q∈s.l_)->(∀q∈ks,o q∈ks->nx<=q)->(∀q∈ks,o q∉ks->q<nx)->∀y,y∈gC s nx ks↔(y.1∈ks/\o y.1=y.1/\y.2=FA s y.1)
 | [],nx,_,_,_,_,y=>by simp[gC]
 | p::r,nx,hs,hk,h1,h2,y=>by
  have ai:=(bC.1 hs).1;have ar:=(bC.1 hs).2;have ap:=hk p (aq ..);have up:=h.up p ap;unfold gC;by_cases hlt:p<nx
  ·rw[if_pos hlt];have ad:o p∉p::r:=fun hm=>by have:=h1 p (aq ..) hm;omega
   have an:o p≠p:=fun e=>ad (by rw[e];exact aq ..);have au:∀q∈r,o q∈p::r->o q∈r:=fun q hq hm=>by
    rcases ah.1 hm with e | e
    ·exfalso
     have:=(h.up q (hk q (am _ hq))).2.1;rw[e] at this;exact an this
    ·exact e
   rw[rD h r nx ar (fun q hq=>hk q (am _ hq)) (fun q hq hm=>h1 q (am _ hq) (am _ hm))
    (fun q hq hm=>h2 q (am _ hq) fun hm2=>hm (au q hq hm2)) y]
   constructor
   ·rintro⟨a,b,c⟩;exact⟨am _ a,b,c⟩
   ·rintro⟨a,b,c⟩;rcases ah.1 a with e | e
    ·exfalso;rw[e] at b;exact an b
    ·exact⟨e,b,c⟩
  ·rw[if_neg hlt];have a2:o p∈p::r:=Classical.byContradiction fun hn=>hlt (h2 p (aq ..) hn);have ad:o p=p:=by
    grind
   have sp:p<p+gr (FA s p):=by grind
   rw[ah,rD h r _ ar (fun q hq=>hk q (am _ hq)) ?_ ?_ y]
   ·grind
   ·intro q hq hm;have a0:=ai q hq;have a3:=h1 q (am _ hq) (am _ hm);split
    ·rename_i hk2;refine Classical.byContradiction fun hn=>?_;have a1:gr (FA s p)=(FA s p).n:=by unfold gr;rw[if_pos hk2]
     have:=((h.down p ap ad).2 (q-p) (by rw[a1];omega)).2;rw[show p+(q-p)=q by omega] at this;rw[this] at hm;have:=ai p hm;omega
    omega
   ·intro q hq hm;have a0:=ai q hq;by_cases e:o q=p
    ·have hu:=(h.up q (hk q (am _ hq))).2.2.2;rw[e] at hu;unfold gr at hu;split
     ·rename_i hk2;rw[if_pos hk2] at hu;exact hu
     ·rename_i hk2;rw[if_neg hk2] at hu;omega
    grind
theorem Own.mem_heads(h:Own s o)(y:Nat×Hr):y∈wb s↔(y.1∈s.l_/\o y.1=y.1/\y.2=FA s y.1):=
 rD h s.l_ 0 h.wf.F4 (fun _ hq=>hq) (fun _ _ _=>cD _) (fun q hq hn=>absurd (h.up q hq).1 hn) y
theorem JI{c k:Nat}(hc:c<8)(hk:k<eJ c)(h:Nat):fF h c k=h*64+2+k*et c/\k*et c+et c<=62/\2<=et c:=by
 have e:fF h c k=h*64+2+k*et c:=by unfold fF iL;grind
 refine⟨e,?_⟩;have:c=0\/c=1\/c=2\/c=3\/c=4\/c=5\/c=6\/c=7:=o_
 rcases this with rfl | rfl | rfl | rfl | rfl | rfl | rfl | rfl<;>simp[eJ,et,iP] at hk⊢ <;>omega
theorem wV{c k k':Nat}(h:k≠k'):k*et c+et c<=k'*et c\/k'*et c+et c<=k*et c:=by
 rcases Nat.lt_or_gt_of_ne h with h | h
 ·left
  have:=dF (et c) (show k+1<=k' from h)
  grind
 ·right
  have:=dF (et c) (show k'+1<=k from h)
  grind
theorem jA{c k:Nat}(h:k<eJ c):c<8/\k<31:=by
 have hc:c<8:=by
  unfold eJ at h
  grind
 refine⟨hc,?_⟩;have:c=0\/c=1\/c=2\/c=3\/c=4\/c=5\/c=6\/c=7:=o_
 rcases this with rfl | rfl | rfl | rfl | rfl | rfl | rfl | rfl<;>simp[eJ,iP] at h<;>omega
def nH(x:Hr)(h a r:Nat):Prop:=(x.j_=1/\∃k,k<eJ x.n/\x.w.testBit k=true/\a=fF h x.n k/\r=et x.n)\/(x.j_=2/\a=h*64+2/\r+2=x.n*64)
def gZ(s:r_)(o:Nat->Nat)(h a r:Nat):Prop:=h∈s.l_/\o h=h/\nH (FA s h) h a r
def eO(s:r_)(o:Nat->Nat)(a r:Nat):Prop:=∃h,gZ s o h a r
theorem nH.pos{x:Hr}{h a r:Nat}(_:kT x)(hb:nH x h a r):2<=r/\a / 64=h/\2<=a % 64:=by
 rcases hb with⟨h1,k,h2,h3,h4,h5⟩ | ⟨h1,h2,h3⟩
 ·obtain⟨e1,e2,e3⟩:=JI (jA h2).1 h2 h;omega
 omega
theorem gZ.word(ho:Own s o){h a r b:Nat}(hp:gZ s o h a r)(hb:b<r):(a+b) / 64∈s.l_/\o ((a+b) / 64)=h/\((a+b) / 64=h->2<=(a+b) % 64):=by
 obtain⟨h1,h2,h3⟩:=hp;obtain⟨hd,dn⟩:=ho.down h h1 h2
 rcases h3 with⟨g1,k,g2,g3,g4,g5⟩ | ⟨g1,g2,g3⟩
 ·obtain⟨e1,e2,e3⟩:=JI (jA g2).1 g2 h
  grind
 ·have hs:gr (FA s h)=(FA s h).n:=by unfold gr;rw[if_pos g1]
  have:=dn ((a+b) / 64-h) (by rw[hs];omega)
  grind
theorem gZ.not_head(ho:Own s o){h a r b h':Nat}(hp:gZ s o h a r)(hb:b<r)(hh:o h'=h')(e:(a+b) / 64=h'):2<=(a+b) % 64:=by
 obtain⟨_,h2,h3⟩:=hp.word ho hb;grind
theorem gZ.pos(ho:Own s o){h a r:Nat}(hp:gZ s o h a r):2<=r/\a / 64=h/\2<=a % 64:=hp.2.2.pos (ho.down h hp.1 hp.2.1).1
theorem gZ.apart(ho:Own s o){h a r h' a' r':Nat}(hp:gZ s o h a r)(hp':gZ s o h' a' r'):(a=a'/\r=r')\/a+r<=a'\/a'+r'<=a:=by
 by_cases e:h=h'
 ·subst e
  rcases hp.2.2 with⟨g1,k,g2,g3,g4,g5⟩ | ⟨g1,g2,g3⟩
  ·rcases hp'.2.2 with⟨f1,k',f2,f3,f4,f5⟩ | ⟨f1,f2,f3⟩
   ·by_cases ek:k=k'
    ·subst ek
     left;exact⟨g4.T f4.S,g5.T f5.S⟩
    ·right
     have hc:=(jA g2).1;rw[(JI hc g2 h).1] at g4;rw[(JI hc f2 h).1] at f4;have:=wV (c:=(FA s h).n) ek;omega
   omega
  ·rcases hp'.2.2 with⟨f1,k',f2,f3,f4,f5⟩ | ⟨f1,f2,f3⟩
   ·omega
   omega
 ·right
  refine Classical.byContradiction fun hn=>e ?_;have p1:=(hp.pos ho).1;have p2:=(hp'.pos ho).1
  rcases Nat.le_total a a' with hl | hl
  ·have w1:=(hp.word ho (b:=a'-a) o_).2.1;have w2:=(hp'.word ho (b:=0) o_).2.1
   grind
  ·have w1:=(hp'.word ho (b:=a-a') o_).2.1;have w2:=(hp.word ho (b:=0) o_).2.1
   grind
theorem eO.apart(ho:Own s o){a r a' r':Nat}(hp:eO s o a r)(hp':eO s o a' r'):(a=a'/\r=r')\/a+r<=a'\/a'+r'<=a:=by
 obtain⟨h,hp⟩:=hp;obtain⟨h',hp'⟩:=hp';exact hp.apart ho hp'
theorem eO.ok(ho:Own s o){a r b:Nat}(hp:eO s o a r)(hb:b<r):s.err (a+b)=0/\a+b<=gK/\(a+b) / 64∈s.l_:=by
 obtain⟨h,hp⟩:=hp;have hk:=(hp.word ho hb).1;have:=ho.wf.top _ hk;grind [gK,Gt]
theorem Own.same{s s':r_}(h:Own s o)(hw:eQ s')(hk:s'.l_=s.l_)(hg:∀p∈s.l_,o p=p->FA s' p=FA s p):Own s' o where
 wf:=hw
 up p hp:=by
  rw[hk] at hp⊢;have:=h.up p hp;grind
 down p hp ho:=by
  rw[hk] at hp⊢;rw[hg p hp ho];exact h.down p hp ho
theorem gZ.same{s s':r_}(hk:s'.l_=s.l_)(hg:∀p∈s.l_,o p=p->FA s' p=FA s p){h a r:Nat}(hp:gZ s o h a r):gZ s' o h a r:=
 ⟨by rw[hk];exact hp.1,hp.2.1,by rw[hg h hp.1 hp.2.1];exact hp.2.2⟩
theorem Own.wr(h:Own s o){a r b x:Nat}(hp:eO s o a r)(hb:b<r)(hx:x<2^64):Own (s.wr (a+b) x) o/\(∀a0 r0,eO s o a0 r0->eO (s.wr (a+b) x) o a0 r0):=by
 obtain⟨h0,hp⟩:=hp;have hg:∀p∈s.l_,o p=p->FA (s.wr (a+b) x) p=FA s p:=fun p _ ho=>lQ fun c e1 e2=>r_.rd_wr_ne _ _ _ _ (by
  rintro rfl;have:=hp.not_head h hb ho e1;omega)
 exact⟨h.same (h.wf.wr _ _ hx) (i9 _ _ _) hg,fun a0 r0 ⟨h1,q⟩=>⟨h1,q.same (i9 _ _ _) hg⟩⟩
end
section
open Go.RowKit Tryz Go.BigFrame Go.Maps Go.WideMaps Lf
variable{S:St}{Y:Nat->Prop}{ps:Nat}{w:World}
theorem sI(h:Ig w ps S Y):
 Ct 61 #[PV ps] w fun e w'=>e=.returned (.bool false)/\w=w':=by
 obtain⟨pa,pm,ph,pt,v,h⟩:=h;obtain⟨_,_,c2,_,_⟩:=h.cells;clear h;go_enter func61,ntmps61
 go_wp2
 go_ret;exact⟨rfl,rfl⟩
theorem sD(h:Ig w ps S Y)(hi:Fv S)(hh:Nat)(hl:hh<2^64):
 Ct 82 #[PV ps,Xu hh] w fun e w'=>e=.returned (.tuple #[Xi ((S.at hh).1:Nat),Xi ((S.at hh).2.1:Nat),Xi ((S.at hh).2.2:Nat)])/\w=w':=by
 have ai:=sI h;have h3:=hi.at_le hh;have h4:=hi.addr_le hh;obtain⟨pa,pm,ph,pt,v,h⟩:=h;obtain⟨_,_,c2,_,c4⟩:=h.cells;have ad:=EH h.tab hh hl
 rcases S.at_cases hh with⟨a,n,h1,h2,hn⟩ | ⟨h1,h2⟩
 ·rw[h1] at h3 h4⊢;rw[h2] at ad;simp only at h3 h4 ad⊢;have an:=h.heap.read (a+1) o_;rw[hn] at an;have HG:=kq3 ai ad an;clear ai ad h h1 h2 hn an;go_enter func82,ntmps82;go_wp2_with fail;refine Jc HG.a ?_;go_wp2_with fail;refine Jc HG.b ?_;go_wp2_with fail;refine Jc HG.c ?_;go_wp2_with fail;go_ret3;exact⟨rfl,rfl⟩
 ·rw[h1];rw[h2] at ad;simp only at ad⊢;have HG:=kq2 ai ad;clear ai ad h h1 h2;go_enter func82,ntmps82;go_wp2_with fail;refine Jc HG.a ?_;go_wp2_with fail;refine Jc HG.b ?_;go_wp2_with fail;go_ret3;exact⟨rfl,rfl⟩
theorem fB(h:Ig w ps S Y)(hi:Fv S)(hh:Nat)(hl:hh<2^64):
 Ct 42 #[PV ps,Xu hh] w fun e w'=>e=.returned (.tuple #[Xi ((S.len hh).1:Nat),Xi ((S.len hh).2:Nat)])/\w=w':=by
 have ad:=sD h hi hh hl;unfold St.len;generalize S.at hh=r at*;have HG:=If ad;clear ad h hi;go_enter func42,ntmps42;go_wp2_with fail;refine Jc HG.O ?_;go_wp2_with fail;go_ret2;exact⟨rfl,rfl⟩
theorem qHaaf{P:Prop}(h:P:=by
 have HG:=kq2 ad hR;clear ad hR h hi h1 hkn;go_enter func163,ntmps163;exact qHaaa):P:=h
theorem sJ(h:Ig w ps S Y)(hi:Fv S)(hh k:Nat)(hl:hh<2^64)(hk:k<=2^62):
 Ct 163 #[PV ps,Xu hh,Xi k] w fun e w'=>e=.returned (.tuple #[Xi ((S.place hh k).1:Nat),Xi ((S.place hh k).2:Nat)])/\w=w':=by
 have ad:=sD h hi hh hl;have h3:=hi.at_le hh;have h4:=hi.addr_le hh;obtain⟨R,hR⟩:=Ii (S.place hh k);rw[hR];unfold St.place at hR
 rcases S.at_cases hh with⟨a,n,h1,_⟩ | ⟨h1,_⟩
 ·rw[h1] at h3 h4 ad hR;simp only at h3 h4 ad hR
  by_cases hkn:k<n
  ·rw[if_pos hkn] at hR;have ai:(k:Int)<n:=o_
   exact qHaaf
  ·rw[if_neg hkn] at hR;have ai:(n:Int)<=k:=o_
   exact qHaaf
 ·rw[h1] at ad hR;simp only at ad hR;have HG:=kq2 ad hR;clear ad hR h hi h1;go_enter func163,ntmps163;exact qHaaa
theorem sG(h:Ig w ps S Y)(hi:Fv S)(hh k:Nat)(hl:hh<2^64)(hk:k<=2^62):
 Ct 123 #[PV ps,Xu hh,Xi k] w fun e w'=>e=.returned (.tuple #[Xu ((S.get hh k).1:Nat),Xi ((S.get hh k).2:Nat)])/\w=w':=by
 have ad:=sJ h hi hh k hl hk;have h3:=hi.place_le hh k;obtain⟨pa,pm,ph,pt,v,h⟩:=h;obtain⟨_,_,c2,_,_⟩:=h.cells;obtain⟨R,hR⟩:=Ii (S.get hh k);rw[hR];rw[St.get_place] at hR
 rcases S.place_cases hh k with⟨p,h1⟩ | ⟨er,h1⟩
 ·rw[h1] at ad h3 hR;simp only at ad h3 hR;have an:=h.heap.read p o_;have HG:=kq3 ad hR an;clear ad hR h hi h1 an;go_enter func123,ntmps123;go_wp2_with fail;refine Jc HG.a ?_;go_wp2_with fail;refine Jc HG.c ?_;go_wp2_with fail;go_ret2;obtain rfl:=HG.b;exact⟨rfl,rfl⟩
 ·rw[h1] at ad hR;simp only at ad hR;have ap:(((er+1:Nat):Int) !=0)=true:=m_
  obtain⟨g1,ai⟩:=Ii (er+1);rw[ai] at ad hR ap;have HG:=kq2 ad hR;clear ad hR h hi h1 ai;go_enter func123,ntmps123;exact qHaaa
theorem LV(h:Ig w ps S Y)(hi:Fv S)(hh k x:Nat)(hl:hh<2^64)(hk:k<=2^62)(hx:x<2^64):
 Ct 167 #[PV ps,Xu hh,Xi k,Xu x] w fun e w'=>e=.returned (Xi ((S.put hh k x).1:Nat))/\Ig w' ps (S.put hh k x).2 Y/\Fo Y w w':=by
 have ad:=sJ h hi hh k hl hk;have h3:=hi.place_le hh k;have hY:=h.yl;obtain⟨R,hR⟩:=Ii (S.put hh k x);rw[hR];rw[St.put_place] at hR
 rcases S.place_cases hh k with⟨p,h1⟩ | ⟨er,h1⟩
 ·rw[h1] at ad h3 hR;simp only at ad h3 hR;obtain⟨pa,pm,ph,pt,v,h⟩:=h;obtain⟨_,_,c2,_,_⟩:=h.cells;have ap:=h.heap.write p x o_ hx;have HG:=kq4 ad hR ap h;clear ad hR h hi h1 ap hY;go_enter func167,ntmps167;go_wp2_with fail;refine Jc HG.a ?_;go_wp2_with fail;refine HG.c.M ?_;rintro e w1 ⟨rfl,ha,ai⟩;have HA:=kq2 (HG.d.arena ha ai) (ai.M fun _=>YS.self);clear ha ai;go_wp2_with fail;go_ret;obtain rfl:=HG.b;exact⟨rfl,⟨_,_,_,_,_,HA.a⟩,HA.b⟩
 ·rw[h1] at ad hR;simp only at ad hR;have ar:(((er+1:Nat):Int) !=0)=true:=m_
  obtain⟨g1,an⟩:=Ii (er+1);rw[an] at ad hR ar;have HG:=kq3 ad hR h;clear ad hR h hi h1 an hY;go_enter func167,ntmps167;go_wp2_with fail;refine Jc HG.a ?_;go_wp2_with fail;go_ret;obtain rfl:=HG.b;exact⟨rfl,HG.c,Fo.refl _ _⟩