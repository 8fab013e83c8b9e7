/- Texts as words: what is laid byte by byte, and what is read again: plain. -/
import Derived.Test.YtcibkdbpicledaaGreatDoorZLf
set_option maxRecDepth 100000
namespace Go.Proofs.YtcibkdbpicledaaGreatDoor.Lf
def FN(l:List UInt8)(i:Nat):Nat:=(l.getD i 0).toNat
theorem mC(l:List UInt8)(i:Nat):FN l i<256:=(l.getD i 0).toNat_lt
def gx(l:List UInt8)(j:Nat):Nat->Nat
 | 0=>0
 | r+1=>gx l j r*256+FN l (8*j+r)
theorem wj(l:List UInt8)(j:Nat):∀r,gx l j r<256^r
 | 0=>by simp[gx]
 | r+1=>by
  have:=wj l j r;have:=mC l (8*j+r);simp only[gx,Nat.pow_succ];omega
theorem GS(l:List UInt8)(j:Nat):nV (l.drop (8*j))=gx l j 8:=by
 have h:∀q,(l.drop (8*j)).getD q 0=l.getD (8*j+q) 0:=fun q=>by
  simp[List.getD_eq_getElem?_getD,List.getElem?_drop]
 simp only[nV,show List.range 8=[0,1,2,3,4,5,6,7] from rfl,List.foldl_cons,List.foldl_nil,h]
 simp[gx,FN]
def cell(l:List UInt8)(j r:Nat):Nat:=gx l j r*256^(8-r)
theorem jK(l:List UInt8)(j r:Nat)(h:r<=8):cell l j r<2^64:=by
 have h1:=wj l j r;have h2:256^r*256^(8-r)=2^64:=by rw[<-Nat.pow_add,show r+(8-r)=8 by omega]
 have h3:0<256^(8-r):=Nat.pow_pos (by decide);unfold cell;rw[<-h2];exact cZ h1 h3
theorem tY(l:List UInt8)(j r:Nat)(h:r<8):cell l j (r+1)=cell l j r+FN l (8*j+r)*2^(8*(7-r)):=by
 have e:256^(8-r)=256*256^(7-r):=by rw[show 8-r=(7-r)+1 by omega,Nat.pow_succ,Nat.mul_comm]
 have e2:2^(8*(7-r))=256^(7-r):=by rw[Nat.pow_mul]
 unfold cell;rw[e,e2,show 8-(r+1)=7-r by omega];simp only[gx,Nat.add_mul,Nat.mul_assoc]
theorem Ag(l:List UInt8)(j r:Nat)(h:r<8):cell l j r ||| FN l (8*j+r)*2^(8*(7-r))=cell l j (r+1):=by
 have e:cell l j r=gx l j r<<<(8*(8-r)):=by
  rw[Nat.shiftLeft_eq,Nat.pow_mul]
  rfl
 have h1:FN l (8*j+r)*2^(8*(7-r))<2^(8*(8-r)):=by
  rw[show 8*(8-r)=8+8*(7-r) by omega,Nat.pow_add];exact cZ (mC _ _) (Nat.pow_pos (by decide))
 rw[tY l j r h,e];exact(cU h1 _).symm
theorem Ah(l:List UInt8)(j:Nat):cell l j 0=0:=by simp[cell,gx]
theorem Ad(l:List UInt8)(i:Nat)(h:l.length<=i):FN l i=0:=by
 simp[FN,List.getD_eq_getElem?_getD,List.getElem?_eq_none h]
theorem tX(l:List UInt8)(j r:Nat)(h:l.length<=8*j+r):∀d,r+d<=8->cell l j (r+d)=cell l j r
 | 0,_=>rfl
 | d+1,hd=>by
  have:=tY l j (r+d) (by omega);rw[Ad l _ (by omega),Nat.zero_mul,Nat.add_zero] at this;rw[<-dx,this];exact tX l j r h d (by omega)
theorem tV(l:List UInt8)(j:Nat):cell l j 8=nV (l.drop (8*j)):=by rw[GS];simp[cell]
def iC(l:List UInt8)(i:Nat):List Nat:=l.length::(List.range ((l.length+7) / 8)).map fun j=>cell l j (min 8 (i-8*j))
theorem Cd(l:List UInt8)(i:Nat):(iC l i).length=1+(l.length+7) / 8:=by simp[iC];omega
theorem Cg(l:List UInt8):iC l 0=l.length::List.replicate ((l.length+7) / 8) 0:=by
 unfold iC
 congr 1
 apply dD (by simp);intro n h1 h2
 simp[Ah]
theorem rm(l:List UInt8):iC l l.length=FK l:=by
 unfold iC FK qg
 congr 1
 apply aR;intro j hj;rw[<-tV]
 by_cases h:8*j+8<=l.length
 ·rw[cX (by omega)]
 ·rw[Nat.min_eq_right (by omega)];have:=tX l j (l.length-8*j) (by omega) (8-(l.length-8*j)) (by omega);rw[<-this]
  congr 1
  omega
theorem Cc(l:List UInt8)(i:Nat)(h:i<l.length):(iC l i)[1+i / 8]?=some (cell l (i / 8) (i % 8)):=by
 unfold iC;rw[Nat.add_comm 1,bE,bg,bO (by omega)];simp only[dw,Option.some.injEq]
 congr 1
 omega
theorem Cf(l:List UInt8)(i:Nat):iC l (i+1)=(iC l i).set (1+i / 8) (cell l (i / 8) (i % 8+1)):=by
 unfold iC;rw[Nat.add_comm 1,List.set_cons_succ]
 congr 1
 apply dD (by simp);intro n h1 h2;rw[List.getElem_set];simp only[bq,dM]
 by_cases e:i / 8=n
 ·rw[if_pos e];subst e
  congr 1
  omega
 ·rw[if_neg e]
  congr 1
  omega
theorem Ce(l:List UInt8)(i:Nat)(hl:l.length<2^64):∀x∈iC l i,x<2^64:=by
 intro x hx;unfold iC at hx
 rcases ag.1 hx with rfl | hx
 ·exact hl
 ·obtain⟨j,_,rfl⟩:=aC.1 hx;exact jK _ _ _ (Nat.min_le_left _ _)
theorem pj(l:List UInt8):(FK l).length=1+(l.length+7) / 8:=by rw[<-rm,Cd]
theorem te(l:List UInt8)(h:l.length<=1000):(FK l).length=many l.length:=by
 rw[pj];unfold many;rw[if_neg (by omega)]
theorem xZ(l:List UInt8)(hl:l.length<2^64):∀x∈FK l,x<2^64:=by rw[<-rm];exact Ce l _ hl
theorem xY(l:List UInt8)(i:Nat)(h:i<l.length):(FK l)[1+i / 8]?=some (cell l (i / 8) 8):=by
 unfold FK qg;rw[Nat.add_comm 1,bE,bg,bO (by omega)];simp only[dw,Option.some.injEq];exact(tV _ _).symm
theorem tW(l:List UInt8)(j:Nat):∀d r,r+d=7->cell l j 8 / 2^(8*d) % 256=FN l (8*j+r):=by
 intro d r hr;have key:∀k,k<=8-(r+1)->gx l j (r+1+k) / 256^k=gx l j (r+1):=by
  intro k
  induction k with
  | zero=>intro _;simp
  | succ k ih=>
   intro hk;rw[show r+1+(k+1)=(r+1+k)+1 by omega];simp only[gx];rw[Nat.pow_succ,Nat.mul_comm (256^k),<-Nat.div_div_eq_div_mul];have hb:=mC l (8*j+(r+1+k));rw[show (gx l j (r+1+k)*256+FN l (8*j+(r+1+k))) / 256=gx l j (r+1+k) by omega];exact ih (by omega)
 have h1:=key d (by omega);have e:cell l j 8=gx l j 8:=by simp[cell]
 have e8:gx l j 8=gx l j (r+1+d):=by rw[show r+1+d=8 by omega]
 rw[e,Nat.pow_mul,show (2:Nat)^8=256 from rfl,e8,h1];simp only[gx];have hb:=mC l (8*j+r);omega
theorem Af(l:List UInt8):mE (FK l) l.length=l:=by
 unfold mE;apply dD (by simp);intro i h1 h2;simp only[bq,dM];rw[aj,xY l i h2];simp only[bA];have h:=tW l (i / 8) (7-i % 8) (i % 8) (by omega);rw[show 8*(i / 8)+i % 8=i by omega,Nat.pow_mul,show (2:Nat)^8=256 from rfl] at h;apply UInt8.toNat_inj.1;rw[UInt8.toNat_ofNat'];rw[show (2:Nat)^8=256 from rfl,h];simp[FN,List.getD_eq_getElem?_getD,List.getElem?_eq_getElem h2]
theorem EN(l:List UInt8)(h:l.length<=1000):mm (FK l)=some l:=by
 have h1:=te l h;have h2:=Af l;have e:∃r,FK l=l.length::r:=⟨_,rfl⟩;obtain⟨r,e⟩:=e;rw[e] at h1 h2⊢;unfold mm;simp only;rw[if_neg (by omega),h2,<-e,if_pos rfl]
theorem EM {ws:List Nat}{l:List UInt8}(h:mm ws=some l):l.length<=1000/\ws=FK l:=by
 unfold mm at h
 split at h
 ·cases h
 ·rename_i n r
  split at h
  ·cases h
  ·rename_i hn
   split at h
   ·rename_i hw
    injection h with h
    have hl:l.length=n:=by rw[<-h];simp[mE]
    rw[h] at hw;exact⟨by omega,hw.symm⟩
   ·cases h
end Go.Proofs.YtcibkdbpicledaaGreatDoor.Lf
namespace Go.Proofs.YtcibkdbpicledaaGreatDoor.Lf
def num(x:Nat):Option Nat:=match x / 4611686018427387904 with | 0=>some x | _+1=>none
def eE(S:St)(h:Nat):Option Nat:=num (mU S h)
def fY(S:St)(h:Nat):Option Nat:=num (sj S h)
def gD(S:St)(h:Nat):Option (List UInt8):=if(fz S h).2=8 then none else some (fz S h).1
def ij(S:St)(k:List UInt8):Nat->Nat->Nat->Option (Nat×Nat)
 | 0,_,below=>some (0,below)
 | f+1,root,below=>
  if root=0 then some (0,below)
  else if(getNode S root).2≠0 then some (0,below)
  else match gD S (getNode S root).1.key with
   | none=>none
   | some t=>
    if Fu k t<0 then ij S k f (getNode S root).1.left below
    else match fY S (getNode S root).1.left with
     | none=>none
     | some z=>
      if 0<Fu k t then(match num (below+(z+1)) with | none=>none | some b=>ij S k f (getNode S root).1.right b)
      else(match num (below+z) with | none=>none | some b=>some (root,b))
theorem AF(S:St)(k:List UInt8)(root below:Nat):ij S k 0 root below=some (0,below):=rfl
theorem n8(S:St)(k:List UInt8)(f root below:Nat):ij S k (f+1) root below=
 if root=0 then some (0,below)
 else if(getNode S root).2≠0 then some (0,below)
 else match gD S (getNode S root).1.key with
  | none=>none
  | some t=>
   if Fu k t<0 then ij S k f (getNode S root).1.left below
   else match fY S (getNode S root).1.left with
    | none=>none
    | some z=>
     if 0<Fu k t then(match num (below+(z+1)) with | none=>none | some b=>ij S k f (getNode S root).1.right b)
     else(match num (below+z) with | none=>none | some b=>some (root,b)):=rfl
def oP(S:St)(root:Nat)(k:List UInt8):Option Nat:=(ij S k (limit S) root 0).map (·.2)
def j8(S:St):Nat->Nat->Nat->Option (Nat×Nat)
 | 0,_,_=>some (0,2)
 | f+1,root,k=>
  if(getNode S root).2≠0 then some (0,2)
  else match fY S (getNode S root).1.left with
   | none=>none
   | some z=>
    if k<z then j8 S f (getNode S root).1.left k
    else if z<k then j8 S f (getNode S root).1.right (k-(z+1))
    else some (root,0)
theorem yK(S:St)(root k:Nat):j8 S 0 root k=some (0,2):=rfl
theorem tF(S:St)(f root k:Nat):j8 S (f+1) root k=
 if(getNode S root).2≠0 then some (0,2)
 else match fY S (getNode S root).1.left with
  | none=>none
  | some z=>
   if k<z then j8 S f (getNode S root).1.left k
   else if z<k then j8 S f (getNode S root).1.right (k-(z+1))
   else some (root,0):=rfl
def kD(S:St)(root k:Nat):Option (Nat×Nat):=
 match fY S root with
 | none=>none
 | some z=>if z<=k then some (0,2) else j8 S (limit S) root k
def fu(S:St)(n:Nd)(h l r:Nat):Option St:=
 match eE S l,eE S r,fY S l,fY S r with
 | some a,some b,some x,some y=>some (gM S h { n with left:=l,right:=r,mark:=max a b+1,size:=x+y+1 }).2
 | _,_,_,_=>none
def isT(S:St)(h:Nat):Bool:=h=0 || (getNode S h).2=0
abbrev Jn:=St->Nat->Nat->Nat->Option ((Nat×Nat)×St)
def jq(jn:Jn)(S:St)(l m r:Nat):Option (Nat×St):=
 (jn S l m r).map fun x=>(if x.1.2=0 then x.1.1 else m,x.2)
def kr(jn:Jn)(key:List UInt8):Nat->St->Nat->Option ((Nat×Nat×Nat)×St)
 | 0,S,_=>some ((0,0,0),S)
 | f+1,S,root=>
  if root=0 then some ((0,0,0),S)
  else match gD S (getNode S root).1.key with
   | none=>none
   | some k=>
    if Fu key k<0 then
     match kr jn key f S (getNode S root).1.left with
     | none=>none
     | some ((l,m,r),S1)=>(jq jn S1 r root (getNode S root).1.right).map fun x=>((l,m,x.1),x.2)
    else if 0<Fu key k then
     match kr jn key f S (getNode S root).1.right with
     | none=>none
     | some ((l,m,r),S1)=>(jq jn S1 (getNode S root).1.left root l).map fun x=>((x.1,m,r),x.2)
    else some (((getNode S root).1.left,root,(getNode S root).1.right),S)
theorem wZ(jn:Jn)(key:List UInt8)(S:St)(root:Nat):kr jn key 0 S root=some ((0,0,0),S):=rfl
theorem sk(jn:Jn)(key:List UInt8)(f:Nat)(S:St)(root:Nat):kr jn key (f+1) S root=
 if root=0 then some ((0,0,0),S)
 else match gD S (getNode S root).1.key with
  | none=>none
  | some k=>
   if Fu key k<0 then
    match kr jn key f S (getNode S root).1.left with
    | none=>none
    | some ((l,m,r),S1)=>(jq jn S1 r root (getNode S root).1.right).map fun x=>((l,m,x.1),x.2)
   else if 0<Fu key k then
    match kr jn key f S (getNode S root).1.right with
    | none=>none
    | some ((l,m,r),S1)=>(jq jn S1 (getNode S root).1.left root l).map fun x=>((x.1,m,r),x.2)
   else some (((getNode S root).1.left,root,(getNode S root).1.right),S):=rfl
end Go.Proofs.YtcibkdbpicledaaGreatDoor.Lf
