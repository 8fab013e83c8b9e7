/- The document's answers about rows of F5: rows put one behind the v_, Put, Sorted: plain laws and the walks. -/
import Derived.Test.YtpljannolpapgaaGreatDoorURf
import Derived.Test.YtpljannolpapgaaGreatDoorUIm
set_option maxRecDepth 100000
set_option maxHeartbeats 6400000
namespace Go.Proofs.YtpljannolpapgaaGreatDoor
open Go.RowKit Tryz Go.BigFrame Go.Maps Go.WideMaps Lf Tr
variable{B:Nat}{v:Value}{w:World}
theorem Gb {key:List UInt8}:∀{L:List Pr},ms L->L.filter (fun p=>decide (Fu p.1 key<0))=L.take (eK L key)
 | [],_=>rfl
 | q::L,hs=>by
  obtain⟨hq,hL⟩:=bi.1 hs;by_cases h:Fu q.1 key<0
  ·have hc:eK (q::L) key=eK L key+1:=by unfold eK;rw[dm (by simpa using h)]
   rw[hc,List.filter_cons_of_pos (by simpa using h),bT,Gb hL]
  ·have hc:eK (q::L) key=0:=by
    unfold eK;refine List.countP_eq_zero.2 fun p hp=>?_;rcases aj.1 hp with rfl | hp
    ·simpa using h
    ·simpa using fun hl=>h (ig (hq p hp) hl)
   rw[hc,cz,cV];intro p hp;rcases aj.1 hp with rfl | hp
   ·simpa using h
   ·simpa using fun hl=>h (ig (hq p hp) hl)
def Ge(l:List Pr)(a b:List UInt8):List Pr:=l.take (eK l a)++(a,b)::l.drop (if(l[eK l a]?.map Prod.fst)=some a then eK l a+1 else eK l a)
theorem Gz {a:List UInt8}:∀{L:List Pr},ms L->L.filter (fun p=>decide (0<Fu p.1 a))=L.drop (if(L[eK L a]?.map Prod.fst)=some a then eK L a+1 else eK L a)
 | [],_=>by simp
 | q::L,hs=>by
  obtain⟨hq,hL⟩:=bi.1 hs;by_cases h:Fu q.1 a<0
  ·have hc:eK (q::L) a=eK L a+1:=by unfold eK;rw[dm (by simpa using h)]
   rw[hc,List.filter_cons_of_neg m_,Gz hL,bC];split<;>rfl
  ·have ad:∀p∈L,0<Fu p.1 a:=fun p hp=>by
    have h1:=hq p hp;have h2:¬Fu p.1 a<0:=fun hl=>h (ig h1 hl);rcases dg (Fu p.1 a) 0 with g | g | g
    ·exact absurd g h2
    ·have e:=jL g;rw[e] at h1;exact absurd h1 h
    ·exact g
   have hc:eK (q::L) a=0:=by
    unfold eK;refine List.countP_eq_zero.2 fun p hp=>?_;rcases aj.1 hp with rfl | hp
    ·simpa using h
    ·have:=ad p hp;simp
     omega
   have hf:L.filter (fun p=>decide (0<Fu p.1 a))=L:=dG.2 fun p hp=>by simpa using ad p hp
   rw[hc,dM];by_cases e:q.1=a
   ·rw[if_pos (by rw[<-e];rfl),List.filter_cons_of_neg (by rw[e,fX];simp),hf];rfl
   ·have:0<Fu q.1 a:=by
     rcases dg (Fu q.1 a) 0 with g | g | g
     ·exact absurd g h
     ·exact absurd (jL g) e
     ·exact g
    rw[if_neg (by simpa using e),List.filter_cons_of_pos (by simpa using this),hf];rfl
theorem G5{L:List Pr}(hs:ms L)(a b:List UInt8):Ge L a b=gV L a b:=by
 unfold Ge gV;rw[Gb hs,Gz hs]
theorem Hg{L:List Pr}(hs:ms L)(a b:List UInt8):ms (gV L a b):=by
 unfold gV;refine bw.2 ⟨hs.filter _,bi.2 ⟨fun p hp=>?_,hs.filter _⟩,fun p hp q hq=>?_⟩
 ·have:=(dI.1 hp).2;simp only[decide_eq_true_eq] at this
  show Fu a p.1<0
  rw[ie];omega
 ·have h1:=(dI.1 hp).2;simp only[decide_eq_true_eq] at h1
  rcases aj.1 hq with rfl | hq
  ·exact h1
  ·have h2:=(dI.1 hq).2;simp only[decide_eq_true_eq] at h2;exact ig h1 (by rw[ie];omega)
theorem GF(l:List Pr):ms (im l):=by
 unfold im
 suffices h:∀(l L:List Pr),ms L->ms (l.foldl (fun L p=>gV L p.1 p.2) L) from h l [] List.Pairwise.nil
 intro l
 induction l with
 | nil=>exact fun _ h=>h
 | cons p l ih=>exact fun L h=>ih _ (Hg h _ _)
def Gl(v:Value)(l:List Pr):Prop:=(v=.slice none 0 0/\l=[])\/∃g c,v=.slice (some (y_ g)) l.length c/\l.length<=c
theorem Gl.of{l:List Pr}(h:w.ownsRow B 40 2 v l.length (FJ l)):Gl v l:=by
 rcases h.2 with⟨rfl,hx⟩ | ⟨g,ad,ai,hv,hb,hg,h1,h2,h3,h4⟩
 ·exact ab ⟨rfl,bG.1 hx⟩
 ·exact ae ⟨g,ad,hv,h1⟩
theorem IU(l m:List Pr):FJ (l++m)=FJ l++FJ m:=by unfold FJ;exact List.flatMap_append
theorem IV{g o:Nat}{m:List Pr}(hc:∀i (h:i<m.length),w.cell? ⟨g,o+i*2,none⟩=some (SV m[i].1)/\w.cell? ⟨g,o+i*2+1,none⟩=some (SV m[i].2)):∀j u,(FJ m)[j]?=some u->w.cell? (((x_ g o):Addr).add j)=some u:=fun j u hj=>by
 have hl:=(ax.1 hj).1;rw[GE] at hl;have ad:((x_ g o):Addr).add j=⟨g,o+j,none⟩:=by unfold Addr.add;split<;>simp_all
 rw[ad];obtain⟨h1,h2⟩:=F6 m (j / 2) o_;obtain⟨c1,c2⟩:=hc (j / 2) o_;rcases dB j with q | q
 ·rw[show j / 2*2=j by omega] at h1 c1;rw[h1] at hj;injection hj with hj
  rw[<-hj];exact c1
 ·rw[show j / 2*2+1=j by omega] at h2;rw[show o+j / 2*2+1=o+j by omega] at c2;rw[h2] at hj;injection hj with hj
  rw[<-hj];exact c2
theorem F9{v u:Value}{l m:List Pr}(h:w.ownsRow B 40 2 v l.length (FJ l))(hu:PRow w u m)(hn:l.length+m.length<=100000)(hB:B<=w.1.size)(ty:TypeId):
 ∃v' w',(Builtin.append_ #[22,22] ty #[v,u]).run prog w=.ok v' w'/\w'.ownsRow B 40 2 v' (l++m).length (FJ (l++m))/\Below B w w':=by
 obtain⟨i0,ad,a0,a1,a2⟩:=info_parts Gy;obtain⟨A,c,rfl,hc⟩:=hu;have ar:∀k,v.ownBlock=some k->B<=k:=fun k e=>by
  rcases h.2 with⟨rfl,hx⟩ | ⟨g,an,ap,rfl,hb,_⟩
  ·cases e
  ·injection e with e
   subst e;exact hb
 have ai:∀(a:Addr),A=some a->(∀j u,(FJ m)[j]?=some u->w.cell? (a.add j)=some u)->∃v' w',(Builtin.append_ #[22,22] ty #[v,.slice A m.length c]).run prog w=.ok v' w'/\w'.ownsRow B 40 2 v' (l++m).length (FJ (l++m))/\Below B w w':=fun a e hcs=>by
  subst e;obtain⟨v',w',h1,h2,h3,_,_⟩:=run_append_own_at (P:=prog) (w:=w) B 22 ty 40 i0 (.agg #[.string ⟨#[]⟩,.string ⟨#[]⟩]) 2 32 underlying22 ad a0 a1 a2 rfl d_ v l.length (FJ l) h a m.length c (FJ m) (GE m) hcs (fun u hu=>by
   unfold FJ at hu;obtain⟨p,_,hp⟩:=List.mem_flatMap.1 hu
   rcases aj.1 hp with rfl | hp
   ·simp[Value.oneCell']
   ·rcases aj.1 hp with rfl | hp
    ·simp[Value.oneCell']
    ·cases hp) (by unfold maxLen;omega) o_ hB
  exact⟨v',w',h1,by rw[ag,IU];exact h2,(aa _ w).M hB |>.grown h3 hB ar⟩
 cases m with
 | nil=>
  cases A with
  | none=>
   refine⟨v,w,?_,by rw[bI];exact h,(aa _ w).M hB⟩
   rcases h.2 with⟨rfl,_⟩ | ⟨g,an,ap,rfl,_,_,au,_⟩
   ·simp[Builtin.append_,run_underlying (P:=prog) underlying22,sizeOf,typeInfo,ad,Builtin.lenOf,Builtin.firstCells]
   ·simp[Builtin.append_,run_underlying (P:=prog) underlying22,sizeOf,typeInfo,ad,Builtin.lenOf,Builtin.firstCells,au,storeCells]
  | some a=>exact ai a rfl fun j u hj=>by simp[FJ] at hj
 | cons p m=>
  obtain⟨g,o,rfl,_,_⟩:=hc 0 s_;refine ai (x_ g o) rfl (IV fun i hi=>?_);obtain⟨g',o',e,c0,c1⟩:=hc i hi
  injection e with e
  injection e with e1 e2
  subst e1 e2;exact⟨c0,c1⟩
theorem G9(w:World)(hB:B<=w.1.size):(w.alloc (.cells #[] 40)).ownsRow B 40 2 (.slice (some (y_ w.1.size)) 0 0) ([]:List Pr).length (FJ []):=
 World.ownsRow_lit w #[] 0 hB d_ rfl
theorem PRow.rest{A:Option Addr}{n c:Nat}{l:List Pr}(h:PRow w (.slice A n c) l)(k:Nat)(c':Nat):PRow w (.slice (A.map (·.add (k*2))) (n-k) c') (l.drop k):=by
 obtain⟨A',c2,e,hr⟩:=h
 injection e with e1 e2
 subst e1 e2;refine⟨_,c',by rw[bJ],fun i hi=>?_⟩;rw[bJ] at hi;obtain⟨g,o,rfl,c0,c1⟩:=hr (k+i) o_;refine⟨g,o+k*2,by rw[Option.map_some,Addr.add_lit],?_⟩;rw[List.getElem_drop,show o+k*2+i*2=o+(k+i)*2 by omega];exact⟨c0,c1⟩
theorem PRow.rest'{g n c:Nat}{l:List Pr}(h:PRow w (.slice (some (y_ g)) n c) l)(k:Nat)(hk:k<=n)(hn:n<=c):PRow w (.slice (if c=k then some (y_ g) else some ⟨g,k*2,none⟩) (n-k) (c-k)) (l.drop k):=by
 have:=h.rest k (c-k);rw[Option.map_some,Addr.add_lit,bD] at this
 split
 ·have hl:l.drop k=[]:=by
   obtain⟨A',c2,e,hr⟩:=h
   injection e with e1 e2
   exact co o_
  rw[hl];exact⟨_,c-k,by rw[aK,show n-k=0 by omega],fun i hi=>absurd hi s_⟩
 ·exact this
theorem qRgab{P:Prop}(h:P:=by
 go_wp2_with (at_builtin;refine Lib.wpList_append_run _ rfl _ _ _ _ rfl _ _ rfl rfl _ _ ad ?_)
 go_ret;exact⟨_,rfl,ai,ar⟩):P:=h
theorem qRgaa{P:Prop}(h:P:=by
 exact⟨v4,w4,ad,Gj ai (bH _),(show D_ w (w3.drewN m) from C3.T ⟨rfl,rfl,rfl,Nat.le_refl _,fun _ _=>rfl⟩).T (ar.M (bH _))⟩):P:=h
theorem Ib{l:List Pr}(hv:PRow w v l)(hcv:Gl v l)(hl:l.length<=1000)(a b:List UInt8)(hk:a.length<2^62):
 Ct 28 #[v,eu (a,b)] w fun e w'=>∃v',e=.returned v'/\w'.ownsRow w.1.size 40 2 v' (Ge l a b).length (FJ (Ge l a b))/\D_ w w':=by
 have B0:=c_ w (Xk a b);have q0:=heap_alloc_new w (Xk a b);have z0:(w.alloc (Xk a b)).1.size=w.1.size+1:=s_
 have hr:=Hl (hv.a_ B0) o_ a hk;have au:=nZ l a;obtain⟨D,hD⟩:=Ii (Ge l a b);rw[hD];unfold Ge at hD;generalize eK l a=k at hr au hD;obtain⟨x0,x1⟩:=Fp q0;have H0:=kq3 q0 B0 hr;clear q0 B0 hr
 rcases hcv with⟨rfl,rfl⟩ | ⟨g,c,rfl,a'⟩
 ·obtain rfl:k=0:=by simpa using au
  have HD:D=[(a,b)]:=by rw[<-hD];rfl
  subst HD;clear hD au hl hk hv;go_enter func28,ntmps28;unfold eu;go_wp2_with fail;generalize w.alloc (Xk a b)=w0 at*;clear x0 x1;refine e9 H0.c fun w1 hb1=>?_;have C1:=b_ H0.b hb1;have s1:w.1.size+1<=w1.1.size:=by have:=hb1.size;omega
  have q1:=(hb1.block w.1.size o_).T H0.a;have A1:=c_ w1 (.cells #[] 40);obtain⟨v2,w2,a5,a0,an⟩:=F9 (G9 w1 (B:=w.1.size+1) s1) (PRow.nil _) s_ m_ 22;have C2:=(b_ C1 A1).T (an.M (bH _));have q2:=(an.block w.1.size (aP _)).T ((A1.block _ s1).T q1);have A2:=c_ w2 (Xk a b);obtain⟨v3,w3,a6,a2,ap⟩:=F9 (a0.alloc (Xk a b)) (PRow.one (heap_alloc_new w2 _) (c:=1)) s_ (by have:=A2.size;have:=(gl q2);omega) 22;have C3:=(b_ C2 A2).T (ap.M (bH _));have q3:=(ap.block w.1.size (aP _)).T ((A2.block _ (gl q2)).T q2);have a1:∀m:Nat,∃v4 w4,(Builtin.append_ #[22,22] 22 #[v3,n_]).run prog (w3.drewN m)=.ok v4 w4/\w4.ownsRow w.1.size 40 2 v4 [(a,b)].length (FJ [(a,b)])/\D_ w w4:=fun m=>by
   obtain⟨v4,w4,ad,ai,ar⟩:=F9 (w:=w3.drewN m) a2 (PRow.nil _) s_ (by have:=C3.size;have:=(gl q3);simp;omega) 22;rw[aU,bI] at ai;exact qRgaa
  obtain⟨y0,y1⟩:=Fp q2;obtain⟨z0,z1⟩:=Fp q3;have HN:=If a1;clear C1 C2 C3 A1 A2 q1 q2 q3 a0 a2 an ap hb1 s1 a1
  go_wp2_with (first | (at_builtin;refine Lib.wpList_append_run _ rfl _ _ _ _ rfl _ _ rfl rfl _ _ a5 ?_) | (at_builtin;refine Lib.wpList_append_run _ rfl _ _ _ _ rfl _ _ rfl rfl _ _ a6 ?_))
  go_quiet (fail)
  obtain⟨v4,w4,ad,ai,ar⟩:=HN.O nq;exact qRgab
 ·obtain⟨n,hn⟩:=Ii l.length;rw[hn] at hv au a' hl H0⊢;have bb:(k:Int)<=(c:Int):=o_
  have bd:(k:Int)<=(n:Int):=o_
  obtain⟨j,hj⟩:=Ii (if(l[k]?.map Prod.fst)=some a then k+1 else k);rw[hj] at hD;have bc:j<=n:=by
   rw[<-hj]
   split
   ·rename_i h;obtain⟨p,hp,_⟩:=aB.1 h;have:=(ax.1 hp).1;omega
   ·exact au
  have a7:(k<n/\∃(x y:List UInt8),w.cell? ⟨g,k*2,none⟩=some (SV x)/\(x==a)=decide (j=k+1)/\(j=k\/j=k+1))\/(¬k<n/\j=k):=by
   by_cases a4:k<n
   ·refine ab ⟨a4,?_⟩;obtain⟨A',c',e,hr⟩:=hv
    injection e with e1 e2 e3
    obtain⟨g',o',e',c0,c1⟩:=hr k o_;rw[e'] at e1
    injection e1 with e1
    injection e1 with e1 e2
    subst e1 e2;rw[bD] at c0;refine⟨_,[],c0,?_,?_⟩
    ·rw[<-hj,af o_]
     by_cases q:l[k].1=a
     ·rw[if_pos (by rw[<-q];rfl)]
      simpa using q
     ·rw[if_neg (by simpa using q)]
      simpa using q
    ·rw[<-hj]
     split
     ·exact ae rfl
     ·exact ab rfl
   ·refine ae ⟨a4,?_⟩;rw[<-hj,aS o_]
    rfl
  have HL:=If hn;have HD:=If hD;have HV:=If hv;clear hj hD hn hk hv;go_enter func28,ntmps28;unfold eu;go_wp2_with fail;generalize w.alloc (Xk a b)=w0 at*;clear x0 x1;refine e9 H0.c fun w1 hb1=>?_;have C1:=b_ H0.b hb1;have s1:w.1.size+1<=w1.1.size:=by have:=hb1.size;omega
  have q1:=(hb1.block w.1.size o_).T H0.a;have A1:=c_ w1 (.cells #[] 40);obtain⟨v2,w2,a5,a0,an⟩:=F9 (G9 w1 (B:=w.1.size+1) s1) (PRow.first (HV.O.a_ (b_ C1 A1)) k (by rw[HL.O];exact au) c) (by rw[aF,HL.O];simp;omega) m_ 22;rw[aU] at a0;have C2:=(b_ C1 A1).T (an.M (bH _));have q2:=(an.block w.1.size (aP _)).T ((A1.block _ s1).T q1);have A2:=c_ w2 (Xk a b);obtain⟨v3,w3,a6,a2,ap⟩:=F9 (a0.alloc (Xk a b)) (PRow.one (heap_alloc_new w2 _) (c:=1)) (by rw[aF,HL.O];simp;omega) (by have:=C2.size;have:=A2.size;have:=(gl q2);omega) 22;have C3:=(b_ C2 A2).T (ap.M (bH _));have q3:=(ap.block w.1.size (aP _)).T ((A2.block _ (gl q2)).T q2);have a1:∀m:Nat,∃v4 w4,(Builtin.append_ #[22,22] 22 #[v3,.slice (if c=j then some (y_ g) else some ⟨g,j*2,none⟩) (n-j) (c-j)]).run prog (w3.drewN m)=.ok v4 w4/\w4.ownsRow w.1.size 40 2 v4 D.length (FJ D)/\D_ w w4:=fun m=>by
   have P4:=(HV.O.a_ C3).rest' j o_ o_;obtain⟨v4,w4,ad,ai,ar⟩:=F9 (w:=w3.drewN m) (u:=.slice (if c=j then some (y_ g) else some ⟨g,j*2,none⟩) (n-j) (c-j)) (m:=l.drop j) a2 P4 (by rw[ag,aF,bJ,HL.O];simp;omega) (by have:=C3.size;have:=(gl q3);simp;omega) 22;rw[bp,List.singleton_append,HD.O] at ai;exact qRgaa
  obtain⟨y0,y1⟩:=Fp q2;obtain⟨z0,z1⟩:=Fp q3;have HN:=kq2 a1 C3;clear C1 C2 C3 A1 A2 q1 q2 q3 a0 a2 an ap hb1 s1 a1;have a9:(k<n/\(∃(x y:List UInt8),w.cell? ⟨g,k*2,none⟩=some (SV x)/\(x==a)=decide (j=k+1))/\¬c=0/\(j=k/\¬c=k\/j=k+1/\(c=k+1/\n-(k+1)=0\/¬c=k+1)))\/(k=n/\j=n/\(n=0/\c=0\/¬c=0/\(c=n\/¬c=n))):=by
   rcases a7 with⟨h1,x,y,h2,h3,h4⟩ | ⟨h1,h2⟩
   ·exact ab ⟨h1,⟨x,y,h2,h3⟩,o_,o_⟩
   ·exact ae ⟨o_,o_,o_⟩
  clear a7
  rcases a9 with⟨a4,⟨x,y,cx,hx⟩,a8,⟨rfl,a3⟩ | ⟨rfl,⟨rfl,ba⟩ | a3⟩⟩ | ⟨rfl,rfl,⟨rfl,rfl⟩ | ⟨a8,rfl | a3⟩⟩
  case' inl.inl=>have hx:(x==a)=false:=by rw[hx];simp
  case' inl.inr.inl=>have hx:(x==a)=true:=by rw[hx];simp
  case' inl.inr.inr=>have hx:(x==a)=true:=by rw[hx];simp
  all_goals
   try have cx:=(HN.b.cell (p:=x_ g _) (cell_lt cx)).T cx
   go_wp2_with (first | (at_builtin;refine Lib.wpList_append_run _ rfl _ _ _ _ rfl _ _ rfl rfl _ _ a5 ?_) | (at_builtin;refine Lib.wpList_append_run _ rfl _ _ _ _ rfl _ _ rfl rfl _ _ a6 ?_))
   go_quiet (fail)
   obtain⟨v4,w4,ad,ai,ar⟩:=HN.a nq
   first
    | rw[if_neg a3] at ad
    | simp only[if_true] at ad
   try simp only[Nat.sub_self] at ad
   try rw[ba] at ad
   exact qRgab
theorem Hv{l:List Pr}(hv:PRow w v l)(hl:l.length<=1000)(hs:pK l):
 Ct 15 #[v] w fun e w'=>∃v',e=.returned v'/\w'.ownsRow w.1.size 40 2 v' (im l).length (FJ (im l))/\D_ w w':=by
 obtain⟨A,c,rfl,hc⟩:=hv;obtain⟨n,hn⟩:=Ii l.length;have HG:=kq3 hc hn hs;rw[hn] at hl⊢;clear hc hn hs;go_enter func15,ntmps15;go_wp2_with fail
 go_loopw [3,4] (fun s3 s4 wr=>∃i:Nat,s4=Xi i/\i<=n/\Hid (wr.ownsRow w.1.size 40 2 s3 (im (l.take i)).length (FJ (im (l.take i)))/\D_ w wr)) (fun _ s4 _=>n-(intOf s4).toNat)
 case atStart=>exact⟨0,rfl,o_,World.ownsRow_nil _ _ _ _,aa _ _⟩
 case round=>
  obtain⟨i,rfl,a2,I0⟩:=hrel
  by_cases hi:i<n
  ·have a1:(i:Int)<n:=o_
   have ad:i<l.length:=by rw[HG.b];exact hi
   obtain⟨g,o,rfl,c0,c1⟩:=HG.a i ad
   replace c0:=(I0.O.2.cell (p:=⟨g,o+i*2,none⟩) (cell_lt c0)).T c0
   replace c1:=(I0.O.2.cell (p:=⟨g,o+i*2+1,none⟩) (cell_lt c1)).T c1
   obtain⟨pk,ai⟩:=Ii l[i];have au:=HG.c pk (by rw[<-ai];exact aw ad);rw[ai] at c0 c1;obtain⟨a,b⟩:=pk;have a0:im (l.take (i+1))=Ge (im (l.take i)) a b:=by rw[xB ad,ai,DF,G5 (GF _)]
   have ap:=wt (l.take i);rw[aF] at ap;have hp:=Ib (PRow.of_owns I0.O.1) (Gl.of I0.O.1) o_ a b (by have:=au.1;simp only at this;omega);rw[<-a0] at hp;have HP:=If hp;clear hp a0 ai au ap ad;go_wp2_with fail;refine HP.O.M ?_;rintro e w2 ⟨v2,rfl,ar,an⟩;have H2:=kq2 (Gj ar I0.O.2.size) (b_ I0.O.2 an);clear ar an;go_wp2_with fail;go_roundw
   case rel=>exact⟨i+1,s_,o_,H2.O⟩
   case measure=>simp[intOf];omega
  ·obtain rfl:i=n:=o_
   have a1:¬(i:Int)<i:=o_
   have hF:=I0.O;rw[aJ (by rw[HG.b];exact Nat.le_refl _)] at hF;have HF:=If hF;clear hF;go_wp2_with fail;go_ret;exact⟨_,rfl,HF.O⟩