/- The document's answers about rows of pairs: rows put one behind the other, Put, Sorted: plain laws and the walks. -/
import Derived.Test.YtcibkdbpicledaaGreatDoorZRf
import Derived.Test.YtcibkdbpicledaaGreatDoorZIm
set_option maxRecDepth 100000
set_option maxHeartbeats 6400000
namespace Go.Proofs.YtcibkdbpicledaaGreatDoor
open Go.RowKit Tryz Go.BigFrame Go.Maps Go.WideMaps Lf Tr
variable{B:Nat}{v:Value}{w:World}
theorem Gb {key:List UInt8}:∀{L:List Pr},ms L->L.filter (fun p=>decide (Fu p.1 key<0))=L.take (eK L key)
 | [],_=>rfl
 | q::L,hs=>by
  obtain⟨hq,hL⟩:=aQ.1 hs;by_cases h:Fu q.1 key<0
  ·have hc:eK (q::L) key=eK L key+1:=by unfold eK;rw[cW (by simpa using h)]
   rw[hc,List.filter_cons_of_pos (by simpa using h),bS,Gb hL]
  ·have hc:eK (q::L) key=0:=by
    unfold eK;refine dE.2 fun p hp=>?_;rcases ag.1 hp with rfl | hp
    ·simpa using h
    ·simpa using fun hl=>h (ig (hq p hp) hl)
   rw[hc,cF,ct];intro p hp;rcases ag.1 hp with rfl | hp
   ·simpa using h
   ·simpa using fun hl=>h (ig (hq p hp) hl)
def Ge(l:List Pr)(a b:List UInt8):List Pr:=l.take (eK l a)++(a,b)::l.drop (if(l[eK l a]?.map Prod.fst)=some a then eK l a+1 else eK l a)
theorem Gz {a:List UInt8}:∀{L:List Pr},ms L->L.filter (fun p=>decide (0<Fu p.1 a))=L.drop (if(L[eK L a]?.map Prod.fst)=some a then eK L a+1 else eK L a)
 | [],_=>by simp
 | q::L,hs=>by
  obtain⟨hq,hL⟩:=aQ.1 hs;by_cases h:Fu q.1 a<0
  ·have hc:eK (q::L) a=eK L a+1:=by unfold eK;rw[cW (by simpa using h)]
   rw[hc,dm (by simp;omega),Gz hL,bE];split<;>rfl
  ·have ad:∀p∈L,0<Fu p.1 a:=fun p hp=>by
    have h1:=hq p hp;have h2:¬Fu p.1 a<0:=fun hl=>h (ig h1 hl);rcases cV (Fu p.1 a) 0 with g | g | g
    ·exact absurd g h2
    ·have e:=jL g;rw[e] at h1;exact absurd h1 h
    ·exact g
   have hc:eK (q::L) a=0:=by
    unfold eK;refine dE.2 fun p hp=>?_;rcases ag.1 hp with rfl | hp
    ·simpa using h
    ·have:=ad p hp;simp
     omega
   have hf:L.filter (fun p=>decide (0<Fu p.1 a))=L:=dF.2 fun p hp=>by simpa using ad p hp
   rw[hc,dN];by_cases e:q.1=a
   ·rw[if_pos (by rw[<-e];rfl),dm (by rw[e,fX];simp),hf];rfl
   ·have:0<Fu q.1 a:=by
     rcases cV (Fu q.1 a) 0 with g | g | g
     ·exact absurd g h
     ·exact absurd (jL g) e
     ·exact g
    rw[if_neg (by simpa using e),List.filter_cons_of_pos (by simpa using this),hf];rfl
theorem G5{L:List Pr}(hs:ms L)(a b:List UInt8):Ge L a b=gV L a b:=by
 unfold Ge gV;rw[Gb hs,Gz hs]
theorem Hg{L:List Pr}(hs:ms L)(a b:List UInt8):ms (gV L a b):=by
 unfold gV;refine bC.2 ⟨hs.filter _,aQ.2 ⟨fun p hp=>?_,hs.filter _⟩,fun p hp q hq=>?_⟩
 ·have:=(dt.1 hp).2;simp only[decide_eq_true_eq] at this
  show Fu a p.1<0
  rw[ie];omega
 ·have h1:=(dt.1 hp).2;simp only[decide_eq_true_eq] at h1
  rcases ag.1 hq with rfl | hq
  ·exact h1
  ·have h2:=(dt.1 hq).2;simp only[decide_eq_true_eq] at h2;exact ig h1 (by rw[ie];omega)
theorem GF(l:List Pr):ms (im l):=by
 unfold im
 suffices h:∀(l L:List Pr),ms L->ms (l.foldl (fun L p=>gV L p.1 p.2) L) from h l [] List.Pairwise.nil
 intro l
 induction l with
 | nil=>exact fun _ h=>h
 | cons p l ih=>exact fun L h=>ih _ (Hg h _ _)
def Gl(v:Value)(l:List Pr):Prop:=(v=.slice none 0 0/\l=[])\/∃g c,v=.slice (some ⟨g,0,none⟩) l.length c/\l.length<=c
theorem Gl.of{l:List Pr}(h:w.ownsRow B 34 2 v l.length (FJ l)):Gl v l:=by
 rcases h.2 with⟨rfl,hx⟩ | ⟨g,ad,ai,hv,hb,hg,h1,h2,h3,h4⟩
 ·exact ab ⟨rfl,ci.1 hx⟩
 ·exact ae ⟨g,ad,hv,h1⟩
theorem Ha(l m:List Pr):FJ (l++m)=FJ l++FJ m:=by unfold FJ;exact dG
theorem Hb{g o:Nat}{m:List Pr}(hc:∀i (h:i<m.length),w.cell? ⟨g,o+i*2,none⟩=some (SV m[i].1)/\w.cell? ⟨g,o+i*2+1,none⟩=some (SV m[i].2)):∀j u,(FJ m)[j]?=some u->w.cell? ((⟨g,o,none⟩:Addr).add j)=some u:=fun j u hj=>by
 have hl:=(aA.1 hj).1;rw[GE] at hl;have ad:(⟨g,o,none⟩:Addr).add j=⟨g,o+j,none⟩:=by unfold Addr.add;split<;>simp_all
 rw[ad];obtain⟨h1,h2⟩:=F6 m (j / 2) (by omega);obtain⟨c1,c2⟩:=hc (j / 2) (by omega);rcases dB j with q | q
 ·rw[show j / 2*2=j by omega] at h1 c1;rw[h1] at hj;injection hj with hj
  rw[<-hj];exact c1
 ·rw[show j / 2*2+1=j by omega] at h2;rw[show o+j / 2*2+1=o+j by omega] at c2;rw[h2] at hj;injection hj with hj
  rw[<-hj];exact c2
theorem F9{v u:Value}{l m:List Pr}(h:w.ownsRow B 34 2 v l.length (FJ l))(hu:jj w u m)(hn:l.length+m.length<=100000)(hB:B<=w.heap.size)(ty:TypeId):
 ∃v' w',(Builtin.append_ #[22,22] ty #[v,u]).run prog w=.ok v' w'/\w'.ownsRow B 34 2 v' (l++m).length (FJ (l++m))/\Below B w w':=by
 obtain⟨i0,ad,ar,au,a0⟩:=info_parts Gy;obtain⟨A,c,rfl,hc⟩:=hu;have ao:∀k,v.ownBlock=some k->B<=k:=fun k e=>by
  rcases h.2 with⟨rfl,hx⟩ | ⟨g,al,an,rfl,hb,_⟩
  ·cases e
  ·injection e with e
   subst e;exact hb
 have ai:∀(a:Addr),A=some a->(∀j u,(FJ m)[j]?=some u->w.cell? (a.add j)=some u)->∃v' w',(Builtin.append_ #[22,22] ty #[v,.slice A m.length c]).run prog w=.ok v' w'/\w'.ownsRow B 34 2 v' (l++m).length (FJ (l++m))/\Below B w w':=fun a e hcs=>by
  subst e;obtain⟨v',w',h1,h2,h3,_,_⟩:=run_append_own_at (P:=prog) (w:=w) B 22 ty 34 i0 (.agg #[.string ⟨#[]⟩,.string ⟨#[]⟩]) 2 32 underlying22 ad ar au a0 rfl (by decide) v l.length (FJ l) h a m.length c (FJ m) (GE m) hcs (fun u hu=>by
   unfold FJ at hu;obtain⟨p,_,hp⟩:=List.mem_flatMap.1 hu
   rcases ag.1 hp with rfl | hp
   ·simp[Value.oneCell']
   ·rcases ag.1 hp with rfl | hp
    ·simp[Value.oneCell']
    ·cases hp) (by unfold maxLen;omega) (by omega) hB
  exact⟨v',w',h1,by rw[aE,Ha];exact h2,(aa _ w).mono hB |>.grown h3 hB ao⟩
 cases m with
 | nil=>
  cases A with
  | none=>
   refine⟨v,w,?_,by rw[bZ];exact h,(aa _ w).mono hB⟩
   rcases h.2 with⟨rfl,_⟩ | ⟨g,al,an,rfl,_,_,ap,_⟩
   ·simp[Builtin.append_,run_underlying (P:=prog) underlying22,sizeOf,typeInfo,ad,Builtin.lenOf,Builtin.firstCells]
   ·simp[Builtin.append_,run_underlying (P:=prog) underlying22,sizeOf,typeInfo,ad,Builtin.lenOf,Builtin.firstCells,ap,storeCells]
  | some a=>exact ai a rfl fun j u hj=>by simp[FJ] at hj
 | cons p m=>
  obtain⟨g,o,rfl,_,_⟩:=hc 0 (by simp);refine ai ⟨g,o,none⟩ rfl (Hb fun i hi=>?_);obtain⟨g',o',e,c0,c1⟩:=hc i hi
  injection e with e
  injection e with e1 e2
  subst e1 e2;exact⟨c0,c1⟩
theorem G9(w:World)(hB:B<=w.heap.size):(w.alloc (.cells #[] 34)).ownsRow B 34 2 (.slice (some ⟨w.heap.size,0,none⟩) 0 0) ([]:List Pr).length (FJ []):=
 World.ownsRow_lit w #[] 0 hB (by decide) rfl
theorem jj.rest{A:Option Addr}{n c:Nat}{l:List Pr}(h:jj w (.slice A n c) l)(k:Nat)(c':Nat):jj w (.slice (A.map (·.add (k*2))) (n-k) c') (l.drop k):=by
 obtain⟨A',c2,e,hr⟩:=h
 injection e with e1 e2
 subst e1 e2;refine⟨_,c',by rw[aN],fun i hi=>?_⟩;rw[aN] at hi;obtain⟨g,o,rfl,c0,c1⟩:=hr (k+i) (by omega);refine⟨g,o+k*2,by rw[dw,Addr.add_lit],?_⟩;rw[List.getElem_drop,show o+k*2+i*2=o+(k+i)*2 by omega];exact⟨c0,c1⟩
theorem jj.rest'{g n c:Nat}{l:List Pr}(h:jj w (.slice (some ⟨g,0,none⟩) n c) l)(k:Nat)(hk:k<=n)(hn:n<=c):jj w (.slice (if c=k then some ⟨g,0,none⟩ else some ⟨g,k*2,none⟩) (n-k) (c-k)) (l.drop k):=by
 have:=h.rest k (c-k);rw[dw,Addr.add_lit,bT] at this
 split
 ·have hl:l.drop k=[]:=by
   obtain⟨A',c2,e,hr⟩:=h
   injection e with e1 e2
   exact bY (by omega)
  rw[hl];exact⟨_,c-k,by rw[aK,show n-k=0 by omega],fun i hi=>absurd hi (by simp)⟩
 ·exact this
theorem qRgab{P:Prop}(h:P:=by
 go_wp2_with (at_builtin;refine Lib.wpList_append_run _ rfl _ _ _ _ rfl _ _ rfl rfl _ _ ad ?_)
 go_ret;exact⟨_,rfl,al,ap⟩):P:=h
theorem qRgaa{P:Prop}(h:P:=by
 exact⟨v4,w4,ad,Gj al (bM _),(show Below w.heap.size w (w3.drewN m) from C3.trans ⟨rfl,rfl,rfl,Nat.le_refl _,fun _ _=>rfl⟩).trans (ap.mono (bM _))⟩):P:=h
theorem Ib{l:List Pr}(hv:jj w v l)(hcv:Gl v l)(hl:l.length<=1000)(a b:List UInt8)(hk:a.length<2^62):
 Ct 55 #[v,eu (a,b)] w fun e w'=>∃v',e=.returned v'/\w'.ownsRow w.heap.size 34 2 v' (Ge l a b).length (FJ (Ge l a b))/\Below w.heap.size w w':=by
 have B0:=(aa w.heap.size w).alloc Ih (.cells #[SV a,SV b] 34);have q0:=heap_alloc_new w (.cells #[SV a,SV b] 34);have z0:(w.alloc (.cells #[SV a,SV b] 34)).heap.size=w.heap.size+1:=by simp
 have hr:=Hl (hv.below B0) (by omega) a hk;have ar:=nZ l a;obtain⟨D,hD⟩:=Ii (Ge l a b);rw[hD];unfold Ge at hD;generalize eK l a=k at hr ar hD;obtain⟨x0,x1⟩:=Fp q0;have H0:=kq3 q0 B0 hr;clear q0 B0 hr
 rcases hcv with⟨rfl,rfl⟩ | ⟨g,c,rfl,a9⟩
 ·obtain rfl:k=0:=by simpa using ar
  have HD:D=[(a,b)]:=by rw[<-hD];rfl
  subst HD;clear hD ar hl hk hv;go_enter func55,ntmps55;unfold eu;go_wp2_with fail;generalize w.alloc (.cells #[SV a,SV b] 34)=w0 at*;clear x0 x1;refine H0.c.mono ?_;rintro e w1 ⟨rfl,ai⟩;have C1:=H0.b.trans (ai.mono H0.b.size);have s1:w.heap.size+1<=w1.heap.size:=by have:=ai.size;omega
  have q1:=(ai.block w.heap.size (by omega)).trans H0.a;have A1:=(aa w1.heap.size w1).alloc Ih (.cells #[] 34);obtain⟨v2,w2,a4,au,an⟩:=F9 (G9 w1 (B:=w.heap.size+1) s1) (jj.nil _) (by simp) (by simp;omega) 22;have C2:=(C1.trans (A1.mono C1.size)).trans (an.mono (bM _));have q2:=(an.block w.heap.size (aJ _)).trans ((A1.block _ s1).trans q1);have A2:=(aa w2.heap.size w2).alloc Ih (.cells #[SV a,SV b] 34);obtain⟨v3,w3,a5,a1,ao⟩:=F9 (au.alloc (.cells #[SV a,SV b] 34)) (jj.one (heap_alloc_new w2 _) (c:=1)) (by simp) (by have:=A2.size;have:=(gl q2);omega) 22;have C3:=(C2.trans (A2.mono C2.size)).trans (ao.mono (bM _));have q3:=(ao.block w.heap.size (aJ _)).trans ((A2.block _ (gl q2)).trans q2);have a0:∀m:Nat,∃v4 w4,(Builtin.append_ #[22,22] 22 #[v3,.slice none 0 0]).run prog (w3.drewN m)=.ok v4 w4/\w4.ownsRow w.heap.size 34 2 v4 [(a,b)].length (FJ [(a,b)])/\Below w.heap.size w w4:=fun m=>by
   obtain⟨v4,w4,ad,al,ap⟩:=F9 (w:=w3.drewN m) a1 (jj.nil _) (by simp) (by have:=C3.size;have:=(gl q3);simp;omega) 22;rw[aU,bZ] at al;exact qRgaa
  obtain⟨y0,y1⟩:=Fp q2;obtain⟨z0,z1⟩:=Fp q3;have HN:=If a0;clear C1 C2 C3 A1 A2 q1 q2 q3 au a1 an ao ai s1 a0
  go_wp2_with (first | (at_builtin;refine Lib.wpList_append_run _ rfl _ _ _ _ rfl _ _ rfl rfl _ _ a4 ?_) | (at_builtin;refine Lib.wpList_append_run _ rfl _ _ _ _ rfl _ _ rfl rfl _ _ a5 ?_))
  go_quiet (fail)
  obtain⟨v4,w4,ad,al,ap⟩:=HN.out nq;exact qRgab
 ·obtain⟨n,hn⟩:=Ii l.length;rw[hn] at hv ar a9 hl H0⊢;have ba:(k:Int)<=(c:Int):=by omega
  have bc:(k:Int)<=(n:Int):=by omega
  obtain⟨j,hj⟩:=Ii (if(l[k]?.map Prod.fst)=some a then k+1 else k);rw[hj] at hD;have bb:j<=n:=by
   rw[<-hj]
   split
   ·rename_i h;obtain⟨p,hp,_⟩:=aB.1 h;have:=(aA.1 hp).1;omega
   ·exact ar
  have a6:(k<n/\∃(x y:List UInt8),w.cell? ⟨g,k*2,none⟩=some (SV x)/\(x==a)=decide (j=k+1)/\(j=k\/j=k+1))\/(¬k<n/\j=k):=by
   by_cases a3:k<n
   ·refine ab ⟨a3,?_⟩;obtain⟨A',c',e,hr⟩:=hv
    injection e with e1 e2 e3
    obtain⟨g',o',e',c0,c1⟩:=hr k (by omega);rw[e'] at e1
    injection e1 with e1
    injection e1 with e1 e2
    subst e1 e2;rw[bT] at c0;refine⟨_,[],c0,?_,?_⟩
    ·rw[<-hj,af (by omega)]
     by_cases q:l[k].1=a
     ·rw[if_pos (by rw[<-q];rfl)]
      simpa using q
     ·rw[if_neg (by simpa using q)]
      simpa using q
    ·rw[<-hj]
     split
     ·exact ae rfl
     ·exact ab rfl
   ·refine ae ⟨a3,?_⟩;rw[<-hj,aH (by omega)]
    rfl
  have HL:=If hn;have HD:=If hD;have HV:=If hv;clear hj hD hn hk hv;go_enter func55,ntmps55;unfold eu;go_wp2_with fail;generalize w.alloc (.cells #[SV a,SV b] 34)=w0 at*;clear x0 x1;refine H0.c.mono ?_;rintro e w1 ⟨rfl,ai⟩;have C1:=H0.b.trans (ai.mono H0.b.size);have s1:w.heap.size+1<=w1.heap.size:=by have:=ai.size;omega
  have q1:=(ai.block w.heap.size (by omega)).trans H0.a;have A1:=(aa w1.heap.size w1).alloc Ih (.cells #[] 34);obtain⟨v2,w2,a4,au,an⟩:=F9 (G9 w1 (B:=w.heap.size+1) s1) (jj.first (HV.out.below (C1.trans (A1.mono C1.size))) k (by rw[HL.out];exact ar) c) (by rw[ay,HL.out];simp;omega) (by simp;omega) 22;rw[aU] at au;have C2:=(C1.trans (A1.mono C1.size)).trans (an.mono (bM _));have q2:=(an.block w.heap.size (aJ _)).trans ((A1.block _ s1).trans q1);have A2:=(aa w2.heap.size w2).alloc Ih (.cells #[SV a,SV b] 34);obtain⟨v3,w3,a5,a1,ao⟩:=F9 (au.alloc (.cells #[SV a,SV b] 34)) (jj.one (heap_alloc_new w2 _) (c:=1)) (by rw[ay,HL.out];simp;omega) (by have:=C2.size;have:=A2.size;have:=(gl q2);omega) 22;have C3:=(C2.trans (A2.mono C2.size)).trans (ao.mono (bM _));have q3:=(ao.block w.heap.size (aJ _)).trans ((A2.block _ (gl q2)).trans q2);have a0:∀m:Nat,∃v4 w4,(Builtin.append_ #[22,22] 22 #[v3,.slice (if c=j then some ⟨g,0,none⟩ else some ⟨g,j*2,none⟩) (n-j) (c-j)]).run prog (w3.drewN m)=.ok v4 w4/\w4.ownsRow w.heap.size 34 2 v4 D.length (FJ D)/\Below w.heap.size w w4:=fun m=>by
   have P4:=(HV.out.below C3).rest' j (by omega) (by omega);obtain⟨v4,w4,ad,al,ap⟩:=F9 (w:=w3.drewN m) (u:=.slice (if c=j then some ⟨g,0,none⟩ else some ⟨g,j*2,none⟩) (n-j) (c-j)) (m:=l.drop j) a1 P4 (by rw[aE,ay,aN,HL.out];simp;omega) (by have:=C3.size;have:=(gl q3);simp;omega) 22;rw[bW,List.singleton_append,HD.out] at al;exact qRgaa
  obtain⟨y0,y1⟩:=Fp q2;obtain⟨z0,z1⟩:=Fp q3;have HN:=kq2 a0 C3;clear C1 C2 C3 A1 A2 q1 q2 q3 au a1 an ao ai s1 a0;have a8:(k<n/\(∃(x y:List UInt8),w.cell? ⟨g,k*2,none⟩=some (SV x)/\(x==a)=decide (j=k+1))/\¬c=0/\(j=k/\¬c=k\/j=k+1/\(c=k+1/\n-(k+1)=0\/¬c=k+1)))\/(k=n/\j=n/\(n=0/\c=0\/¬c=0/\(c=n\/¬c=n))):=by
   rcases a6 with⟨h1,x,y,h2,h3,h4⟩ | ⟨h1,h2⟩
   ·exact ab ⟨h1,⟨x,y,h2,h3⟩,by omega,by omega⟩
   ·exact ae ⟨by omega,by omega,by omega⟩
  clear a6
  rcases a8 with⟨a3,⟨x,y,cx,hx⟩,a7,⟨rfl,a2⟩ | ⟨rfl,⟨rfl,a'⟩ | a2⟩⟩ | ⟨rfl,rfl,⟨rfl,rfl⟩ | ⟨a7,rfl | a2⟩⟩
  case' inl.inl=>have hx:(x==a)=false:=by rw[hx];simp
  case' inl.inr.inl=>have hx:(x==a)=true:=by rw[hx];simp
  case' inl.inr.inr=>have hx:(x==a)=true:=by rw[hx];simp
  all_goals
   try have cx:=(HN.b.cell (p:=⟨g,_,none⟩) (jK cx)).trans cx
   go_wp2_with (first | (at_builtin;refine Lib.wpList_append_run _ rfl _ _ _ _ rfl _ _ rfl rfl _ _ a4 ?_) | (at_builtin;refine Lib.wpList_append_run _ rfl _ _ _ _ rfl _ _ rfl rfl _ _ a5 ?_))
   go_quiet (fail)
   obtain⟨v4,w4,ad,al,ap⟩:=HN.a nq
   first
    | rw[if_neg a2] at ad
    | simp only[if_true] at ad
   try simp only[dT] at ad
   try rw[a'] at ad
   exact qRgab
theorem Hv{l:List Pr}(hv:jj w v l)(hl:l.length<=1000)(hs:pK l):
 Ct 21 #[v] w fun e w'=>∃v',e=.returned v'/\w'.ownsRow w.heap.size 34 2 v' (im l).length (FJ (im l))/\Below w.heap.size w w':=by
 obtain⟨A,c,rfl,hc⟩:=hv;obtain⟨n,hn⟩:=Ii l.length;have HG:=kq3 hc hn hs;rw[hn] at hl⊢;clear hc hn hs;go_enter func21,ntmps21;go_wp2_with fail
 go_loopw [3,4] (fun s3 s4 wr=>∃i:Nat,s4=.int .i64 i/\i<=n/\Hid (wr.ownsRow w.heap.size 34 2 s3 (im (l.take i)).length (FJ (im (l.take i)))/\Below w.heap.size w wr)) (fun _ s4 _=>n-(intOf s4).toNat)
 case atStart=>exact⟨0,rfl,by omega,World.ownsRow_nil _ _ _ _,aa _ _⟩
 case round=>
  obtain⟨i,rfl,a0,I0⟩:=hrel
  by_cases hi:i<n
  ·have au:(i:Int)<n:=by omega
   have ad:i<l.length:=by rw[HG.b];exact hi
   obtain⟨g,o,rfl,c0,c1⟩:=HG.a i ad
   replace c0:=(I0.out.2.cell (p:=⟨g,o+i*2,none⟩) (jK c0)).trans c0
   replace c1:=(I0.out.2.cell (p:=⟨g,o+i*2+1,none⟩) (jK c1)).trans c1
   obtain⟨pk,ai⟩:=Ii l[i];have ap:=HG.c pk (by rw[<-ai];exact aG ad);rw[ai] at c0 c1;obtain⟨a,b⟩:=pk;have ar:im (l.take (i+1))=Ge (im (l.take i)) a b:=by rw[xB ad,ai,DF,G5 (GF _)]
   have an:=wt (l.take i);rw[ay] at an;have hp:=Ib (jj.of_owns I0.out.1) (Gl.of I0.out.1) (by omega) a b (by have:=ap.1;simp only at this;omega);rw[<-ar] at hp;have HP:=If hp;clear hp ar ai ap an ad;go_wp2_with fail;refine HP.out.mono ?_;rintro e w2 ⟨v2,rfl,ao,al⟩;have H2:=kq2 (Gj ao I0.out.2.size) (I0.out.2.trans (al.mono I0.out.2.size));clear ao al;go_wp2_with fail;go_roundw
   case rel=>exact⟨i+1,by simp,by omega,H2.out⟩
   case measure=>simp[intOf];omega
  ·obtain rfl:i=n:=by omega
   have au:¬(i:Int)<i:=by omega
   have hF:=I0.out;rw[bi (by rw[HG.b];exact Nat.le_refl _)] at hF;have HF:=If hF;clear hF;go_wp2_with fail;go_ret;exact⟨_,rfl,HF.out⟩