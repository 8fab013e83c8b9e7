import Derived.Test.YtcibkdbpicledaaGreatDoorWar
set_option maxRecDepth 100000
namespace Go.Proofs.YtcibkdbpicledaaGreatDoor
open Lf
theorem recWords_look {S : St} {o : Nat → Nat} (hf : Fit S o) {h : Nat} {ws : List Nat} (hl : reco S h = some ws) : recWords S h = ws := by
 unfold recWords
 rw [look_len hf.tab hl]
 refine List.ext_getElem? fun i => ?_
 by_cases hi : i < ws.length
 · rw [List.getElem?_map, List.getElem?_range hi]
   show some (S.get h i).1 = _
   rw [look_get hf hl hi, List.getElem?_eq_getElem hi, List.getD_eq_getElem?_getD, List.getElem?_eq_getElem hi]
   rfl
 · rw [List.getElem?_eq_none (by simp; omega), List.getElem?_eq_none (by omega)]
theorem getBlob_look {S : St} {o : Nat → Nat} (hf : Fit S o) {h : Nat} {t : List UInt8} (ht : t.length ≤ 1000) (hl : reco S h = some (wordsOf t)) : getBlob S h = (t, 0) := by
 unfold getBlob
 rw [look_len hf.tab hl]
 simp only
 rw [recWords_look hf hl, textOf_wordsOf t ht]
theorem many_le {n : Nat} (h : n ≤ 1000) : many n = 1 + (n + 7) / 8 ∧ many n ≤ 126 := by
 have : many n = 1 + (n + 7) / 8 := by unfold many; rw [if_neg (by omega)]
 omega
theorem classPages_small {n : Nat} (h1 : 1 ≤ n) (h2 : n ≤ 4000) : classPages n ≤ (n + 65) / 64 := by
 unfold classPages
 rw [if_neg (by omega)]
 split <;> omega
theorem putBlob_fit {S : St} {o : Nat → Nat} (hf : Fit S o) {t : List UInt8} (ht : t.length ≤ 1000) (hr : Space S 3 1) :
 ∃ h S' o', putBlob S t = ((h, 0), S') ∧ Fit S' o' ∧ reco S h = none ∧ reco S' h = some (wordsOf t) ∧ (∀ h', h' ≠ h → reco S' h' = reco S h') ∧ Grew S S' 3 1 ∧ MkOk S (many t.length) := by
 obtain ⟨m1, m2⟩ := many_le ht
 have hcp : classPages (many t.length + 2) ≤ 3 := Nat.le_trans (classPages_small (by omega) (by omega)) (by omega)
 obtain ⟨h, S1, o1, ws, e, hf1, hn, hlen, hl, ho, hg, _⟩ := make_fit hf (n := many t.length) (by omega) (hr.mono hcp (Nat.le_refl _))
 have hok := make_ok hf (n := many t.length) (by omega) (hr.mono hcp (Nat.le_refl _))
 obtain ⟨q1, q2, q3, q4⟩ := look_putAll hf1 hl (l := wordsOf t) (by rw [wordsOf_length, hlen, m1]) (wordsOf_lt t (by omega))
 refine ⟨h, putWords S1 h 0 (wordsOf t), o1, ?_, q1, hn, q2, fun h' hne => (q3 h' hne).trans (ho h' hne), (hg.trans q4).mono (by omega) (by omega), hok⟩
 unfold putBlob
 rw [if_neg (by omega), e]
 rfl
def ndWords (n : Nd) : List Nat := [n.key, n.val, n.left, n.right, n.mark, n.size]
theorem asked_look {S : St} {o : Nat → Nat} (hf : Fit S o) {h : Nat} {n : Nd} (hl : reco S h = some (ndWords n)) : askedN S h = 0 := by
 unfold askedN
 rw [look_len hf.tab hl]
 simp [ndWords]
theorem getNode_look {S : St} {o : Nat → Nat} (hf : Fit S o) {h : Nat} {n : Nd} (hl : reco S h = some (ndWords n)) : getNode S h = (n, 0) := by
 have g := fun k hk => look_get hf hl (k := k) hk
 have hlen : (ndWords n).length = 6 := rfl
 unfold getNode
 rw [asked_look hf hl]
 simp only
 rw [g 0 (by omega), g 1 (by omega), g 2 (by omega), g 3 (by omega), g 4 (by omega), g 5 (by omega)]
 rfl
theorem getNode_none {S : St} {h : Nat} (hl : reco S h = none) : getNode S h = (Nd.zero, 7) := by
 unfold getNode askedN
 rw [look_none hl]
 rfl
theorem look_zero {S : St} : reco S 0 = none := by
 unfold reco Tab.of
 simp
theorem getNode_nil (S : St) : getNode S 0 = (Nd.zero, 7) := getNode_none look_zero
theorem ndWords_lt {n : Nd} (hn : NdLt n) : ∀ v ∈ ndWords n, v < 18446744073709551616 := by
 intro v hv
 have h1 := hn.key
 have h2 := hn.val
 have h3 := hn.left
 have h4 := hn.right
 have h5 := hn.mark
 have h6 := hn.size
 simp only [ndWords, List.mem_cons, List.mem_nil_iff, or_false] at hv
 rcases hv with rfl | rfl | rfl | rfl | rfl | rfl <;> assumption
theorem putNode_fit {S : St} {o : Nat → Nat} (hf : Fit S o) {h : Nat} {n0 n : Nd} (hl : reco S h = some (ndWords n0)) (hn : NdLt n) :
 ∃ S', putNode S h n = (0, S') ∧ Fit S' o ∧ reco S' h = some (ndWords n) ∧ (∀ h', h' ≠ h → reco S' h' = reco S h') ∧ Grew S S' 0 0 := by
 obtain ⟨q1, q2, q3, q4⟩ := look_putAll hf hl (l := ndWords n) rfl (ndWords_lt hn)
 refine ⟨putWords S h 0 (ndWords n), ?_, q1, q2, q3, q4⟩
 unfold putNode
 rw [asked_look hf hl]
 rfl
theorem makeNode_fit {S : St} {o : Nat → Nat} (hf : Fit S o) {n : Nd} (hn : NdLt n) (hr : Space S 1 1) :
 ∃ h S' o', makeNode S n = ((h, 0), S') ∧ Fit S' o' ∧ reco S h = none ∧ reco S' h = some (ndWords n) ∧ (∀ h', h' ≠ h → reco S' h' = reco S h') ∧ Grew S S' 1 1 ∧ MkOk S 6 := by
 have hcp : classPages (6 + 2) ≤ 1 := Nat.le_trans (classPages_small (by omega) (by omega)) (by omega)
 obtain ⟨h, S1, o1, ws, e, hf1, hn0, hlen, hl, ho, hg, _⟩ := make_fit hf (n := 6) (by omega) (hr.mono hcp (Nat.le_refl _))
 have hok := make_ok hf (n := 6) (by omega) (hr.mono hcp (Nat.le_refl _))
 obtain ⟨q1, q2, q3, q4⟩ := look_putAll hf1 hl (l := ndWords n) (by rw [hlen]; rfl) (ndWords_lt hn)
 have ha : askedN S1 h = 0 := by
  unfold askedN
  rw [look_len hf1.tab hl, hlen]
  rfl
 refine ⟨h, putWords S1 h 0 (ndWords n), o1, ?_, q1, hn0, q2, fun h' hne => (q3 h' hne).trans (ho h' hne), (hg.trans q4).mono (by omega) (by omega), hok⟩
 unfold makeNode
 rw [e]
 simp only
 unfold putNode
 rw [ha]
 rfl
theorem dropNode_fit {S : St} {o : Nat → Nat} (hf : Fit S o) {h : Nat} {n : Nd} (hl : reco S h = some (ndWords n)) :
 ∃ S', dropNode S h = (0, S') ∧ Fit S' o ∧ reco S' h = none ∧ (∀ h', h' ≠ h → reco S' h' = reco S h') ∧ Grew S S' 0 0 := by
 obtain ⟨S', e, q⟩ := look_drop hf hl
 refine ⟨S', ?_, q⟩
 unfold dropNode
 rw [asked_look hf hl]
 exact e
theorem fit_empty (q n l : Nat) (hq : q ≤ 262144) (hn : 1 ≤ n ∧ n ≤ 65536) (hl : 1 ≤ l ∧ l < 4294967296) : Fit ⟨⟨q, []⟩, ⟨n, l, []⟩⟩ id where
 own := ⟨⟨List.Pairwise.nil, by simp, by simp, by simp [Slab.keys], by simp, hq⟩, by simp [Slab.keys], by simp [Slab.keys]⟩
 tab := ⟨hn, hl, by simp, by simp⟩
 live := by simp
 inj := by simp
def Lf.leftM (S : St) (h : Nat) : Option (Nat × St) :=
 match withM S (getNode S h).1 h (getNode S h).1.left (getNode S (getNode S h).1.right).1.left with
 | none => none
 | some S1 => (withM S1 (getNode S (getNode S h).1.right).1 (getNode S h).1.right h (getNode S (getNode S h).1.right).1.right).map fun S2 => ((getNode S h).1.right, S2)
def Lf.rightM (S : St) (h : Nat) : Option (Nat × St) :=
 match withM S (getNode S h).1 h (getNode S (getNode S h).1.left).1.right (getNode S h).1.right with
 | none => none
 | some S1 => (withM S1 (getNode S (getNode S h).1.left).1 (getNode S h).1.left (getNode S (getNode S h).1.left).1.left h).map fun S2 => ((getNode S h).1.left, S2)
def Lf.balM (S : St) (h : Nat) : Option (Nat × St) :=
 match heightM S (getNode S h).1.left, heightM S (getNode S h).1.right with
 | some a, some b =>
  if b + 1 < a then
   match heightM S (getNode S (getNode S h).1.left).1.left, heightM S (getNode S (getNode S h).1.left).1.right with
   | some c, some d =>
    if c < d then
     match leftM S (getNode S h).1.left with
     | none => none
     | some (x, S1) => match withM S1 (getNode S h).1 h x (getNode S h).1.right with
      | none => none
      | some S2 => rightM S2 h
    else rightM S h
   | _, _ => none
  else if a + 1 < b then
   match heightM S (getNode S (getNode S h).1.right).1.left, heightM S (getNode S (getNode S h).1.right).1.right with
   | some c, some d =>
    if d < c then
     match rightM S (getNode S h).1.right with
     | none => none
     | some (x, S1) => match withM S1 (getNode S h).1 h (getNode S h).1.left x with
      | none => none
      | some S2 => leftM S2 h
    else leftM S h
   | _, _ => none
  else some (h, S)
 | _, _ => none
def Lf.chk (o : Option (Nat × St)) : Option (Nat × St) :=
 match o with
 | none => none
 | some (x, S) => if x < 18446744073709551616 then some (x, S) else none
theorem chk_some {o : Option (Nat × St)} {x : Nat} {S : St} (h : chk o = some (x, S)) : o = some (x, S) ∧ x < 18446744073709551616 := by
 unfold chk at h
 split at h
 · cases h
 · split at h
   · rename_i hc
     injection h with h
     injection h with e1 e2
     subst e1 e2
     exact ⟨rfl, hc⟩
   · cases h
theorem chk_ok {x : Nat} {S : St} (h : x < 18446744073709551616) : chk (some (x, S)) = some (x, S) := by
 unfold chk
 simp only
 rw [if_pos h]
def Lf.joinB (n : Nd) (m : Nat) : Nat → St → Nat → Nat → Option (Nat × St)
 | 0, S, l, r => (withM S n m l r).map fun S' => (m, S')
 | f + 1, S, l, r =>
  match heightM S l, heightM S r with
  | some a, some b =>
   if b + 1 < a then
    match joinB n m f S (getNode S l).1.right r with
    | none => none
    | some (x, S1) =>
     match withM S1 (getNode S l).1 l (getNode S l).1.left x with
     | none => none
     | some S2 => chk (balM S2 l)
   else if a + 1 < b then
    match joinB n m f S l (getNode S r).1.left with
    | none => none
    | some (x, S1) =>
     match withM S1 (getNode S r).1 r x (getNode S r).1.right with
     | none => none
     | some S2 => chk (balM S2 r)
   else (withM S n m l r).map fun S' => (m, S')
  | _, _ => none
theorem joinB_zero (n : Nd) (m : Nat) (S : St) (l r : Nat) : joinB n m 0 S l r = (withM S n m l r).map fun S' => (m, S') := rfl
theorem joinB_succ (n : Nd) (m f : Nat) (S : St) (l r : Nat) : joinB n m (f + 1) S l r =
 match heightM S l, heightM S r with
 | some a, some b =>
  if b + 1 < a then
   match joinB n m f S (getNode S l).1.right r with
   | none => none
   | some (x, S1) =>
    match withM S1 (getNode S l).1 l (getNode S l).1.left x with
    | none => none
    | some S2 => chk (balM S2 l)
  else if a + 1 < b then
   match joinB n m f S l (getNode S r).1.left with
   | none => none
   | some (x, S1) =>
    match withM S1 (getNode S r).1 r x (getNode S r).1.right with
    | none => none
    | some S2 => chk (balM S2 r)
  else (withM S n m l r).map fun S' => (m, S')
 | _, _ => none := rfl
def Lf.avlJ (S : St) (l m r : Nat) : Option ((Nat × Nat) × St) :=
 if m = 0 ∨ isT S l = false ∨ isT S m = false ∨ isT S r = false then none
 else (joinB (getNode S m).1 m 100 S l r).map fun x => ((x.1, 0), x.2)
structure It where
 h : Nat
 kh : Nat
 vh : Nat
 k : List UInt8
 v : List UInt8
inductive Tr where
 | nil : Tr
 | node (l : Tr) (d : It) (m : Nat) (r : Tr) : Tr
namespace Tr
def root : Tr → Nat
 | nil => 0
 | node _ d _ _ => d.h
def mark : Tr → Nat
 | nil => 0
 | node _ _ m _ => m
def its : Tr → List It
 | nil => []
 | node l d _ r => l.its ++ d :: r.its
def hs (t : Tr) : List Nat := t.its.map (·.h)
def nd (l : Tr) (d : It) (m : Nat) (r : Tr) : Nd := ⟨d.kh, d.vh, l.root, r.root, m, (node l d m r).its.length⟩
def At (S : St) : Tr → Prop
 | nil => True
 | node l d m r => reco S d.h = some (ndWords (nd l d m r)) ∧ At S l ∧ At S r
def mk (l : Tr) (d : It) (r : Tr) : Tr := node l d (max l.mark r.mark + 1) r
theorem its_mk (l : Tr) (d : It) (r : Tr) : (mk l d r).its = l.its ++ d :: r.its := rfl
theorem hs_node (l : Tr) (d : It) (m : Nat) (r : Tr) : (node l d m r).hs = l.hs ++ d.h :: r.hs := by
 show (l.its ++ d :: r.its).map (·.h) = _
 simp [hs]
theorem At.frame {S S' : St} : ∀ {t : Tr}, At S t → (∀ h ∈ t.hs, reco S' h = reco S h) → At S' t
 | nil, _, _ => trivial
 | node l d m r, ⟨h1, h2, h3⟩, hf => by
  rw [hs_node] at hf
  refine ⟨(hf d.h (by simp)).trans h1, h2.frame fun h hm => hf h (by simp [hm]), h3.frame fun h hm => hf h (by simp [hm])⟩
theorem At.getNode {S : St} {o : Nat → Nat} (hf : Fit S o) {l : Tr} {d : It} {m : Nat} {r : Tr} (h : At S (node l d m r)) : Lf.getNode S d.h = (nd l d m r, 0) := getNode_look hf h.1
theorem At.root_lt {S : St} {o : Nat → Nat} (hf : Fit S o) : ∀ {t : Tr}, At S t → t.root < 18446744073709551616
 | nil, _ => by unfold root; decide
 | node _ _ _ _, h => (look_ok hf h.1).2.1
theorem At.mark_eq {S : St} {o : Nat → Nat} (hf : Fit S o) : ∀ {t : Tr}, At S t → markT S t.root = t.mark ∧ sizeT S t.root = t.its.length
 | nil, _ => by
  show (Lf.getNode S 0).1.mark = 0 ∧ (Lf.getNode S 0).1.size = 0
  rw [getNode_nil]; exact ⟨rfl, rfl⟩
 | node l d m r, h => by
  show (Lf.getNode S d.h).1.mark = m ∧ (Lf.getNode S d.h).1.size = _
  rw [h.getNode hf]; exact ⟨rfl, rfl⟩
theorem At.isT {S : St} {o : Nat → Nat} (hf : Fit S o) : ∀ {t : Tr}, At S t → Lf.isT S t.root = true
 | nil, _ => rfl
 | node l d m r, h => by
  show Lf.isT S d.h = true
  unfold Lf.isT
  rw [h.getNode hf]; simp
theorem num_of {x : Nat} (h : x < 4611686018427387904) : num x = some x := by
 unfold num
 rw [Nat.div_eq_of_lt h]
theorem At.height {S : St} {o : Nat → Nat} (hf : Fit S o) {t : Tr} (h : At S t) (hm : t.mark < 1000000) : heightM S t.root = some t.mark := by
 unfold heightM
 rw [(h.mark_eq hf).1]
 exact num_of (by omega)
theorem At.size {S : St} {o : Nat → Nat} (hf : Fit S o) {t : Tr} (h : At S t) (hm : t.its.length < 1000000) : sizeM S t.root = some t.its.length := by
 unfold sizeM
 rw [(h.mark_eq hf).2]
 exact num_of (by omega)
theorem with_fit {S : St} {o : Nat → Nat} (hf : Fit S o) {l r : Tr} {d : It} {n n0 : Nd} (hl : At S l) (hr : At S r) (hd : reco S d.h = some (ndWords n0)) (hk0 : n0.key = d.kh) (hv0 : n0.val = d.vh) (hk : n.key = d.kh) (hv : n.val = d.vh)
 (hnl : d.h ∉ l.hs) (hnr : d.h ∉ r.hs) (ml : l.mark < 100000) (mr : r.mark < 100000) (cl : l.its.length < 100000) (cr : r.its.length < 100000) :
 ∃ S', withM S n d.h l.root r.root = some S' ∧ Fit S' o ∧ At S' (mk l d r) ∧ (∀ h', h' ≠ d.h → reco S' h' = reco S h') ∧ Grew S S' 0 0 := by
 have hw := (look_ok hf hd).2.2.2
 have hkl : d.kh < 18446744073709551616 := by rw [← hk0]; exact hw _ (by simp [ndWords])
 have hvl : d.vh < 18446744073709551616 := by rw [← hv0]; exact hw _ (by simp [ndWords])
 have hnd : NdLt (nd l d (max l.mark r.mark + 1) r) := by
  have : (node l d (max l.mark r.mark + 1) r).its.length = l.its.length + (r.its.length + 1) := by simp [its]
  refine ⟨hkl, hvl, hl.root_lt hf, hr.root_lt hf, ?_, ?_⟩
  · show max l.mark r.mark + 1 < _; omega
  · show (node l d (max l.mark r.mark + 1) r).its.length < _; omega
 obtain ⟨S', e, hf', hlk, ho, hg⟩ := putNode_fit hf hd hnd
 refine ⟨S', ?_, hf', ?_, ho, hg⟩
 · unfold withM
   rw [hl.height hf (by omega), hr.height hf (by omega), hl.size hf (by omega), hr.size hf (by omega)]
   simp only
   have : ({ n with left := l.root, right := r.root, mark := max l.mark r.mark + 1, size := l.its.length + r.its.length + 1 } : Nd) = nd l d (max l.mark r.mark + 1) r := by
    unfold nd
    rw [hk, hv]
    simp [its]
    omega
   rw [this, e]
 · exact ⟨hlk, hl.frame fun h hm => ho h fun e => hnl (e ▸ hm), hr.frame fun h hm => ho h fun e => hnr (e ▸ hm)⟩
def Sm (t : Tr) : Prop := t.mark < 50000 ∧ t.its.length < 10000
theorem left_fit {S : St} {o : Nat → Nat} (hf : Fit S o) {l a b : Tr} {d e : It} {m m' : Nat} (h : At S (node l d m (node a e m' b))) (hd : (node l d m (node a e m' b)).hs.Nodup) (sl : Sm l) (sa : Sm a) (sb : Sm b) :
 ∃ S', leftM S d.h = some (e.h, S') ∧ Fit S' o ∧ At S' (mk (mk l d a) e b) ∧ (∀ h', h' ≠ d.h → h' ≠ e.h → reco S' h' = reco S h') ∧ Grew S S' 0 0 := by
 obtain ⟨h1, h2, h3⟩ := h
 have g1 := getNode_look hf h1
 have g2 := getNode_look hf h3.1
 simp only [hs_node, List.nodup_append, List.nodup_cons, List.mem_append, List.mem_cons, not_or] at hd
 obtain ⟨hd1, ⟨hd2, hd3, hd4, hd5⟩, hd6⟩ := hd
 have nl : d.h ∉ l.hs := fun hm => hd6 _ hm _ (Or.inl rfl) rfl
 have na : d.h ∉ a.hs := hd2.1
 have nde : d.h ≠ e.h := hd2.2.1
 have ndb : d.h ∉ b.hs := hd2.2.2
 have nel : e.h ∉ l.hs := fun hm => hd6 _ hm _ (Or.inr (Or.inr (Or.inl rfl))) rfl
 have nea : e.h ∉ a.hs := fun hm => hd5 _ hm _ (Or.inl rfl) rfl
 have neb : e.h ∉ b.hs := hd4.1
 obtain ⟨S1, e1, f1, a1, o1, w1⟩ := with_fit hf (n := nd l d m (node a e m' b)) h2 h3.2.1 h1 rfl rfl rfl rfl nl na (by have := sl.1; omega) (by have := sa.1; omega) (by have := sl.2; omega) (by have := sa.2; omega)
 have hb1 : At S1 b := h3.2.2.frame fun h hm => o1 h fun e => ndb (e ▸ hm)
 obtain ⟨S2, e2, f2, a2, o2, w2⟩ := with_fit f1 (n := nd a e m' b) (d := e) a1 hb1 ((o1 _ fun e => nde e.symm).trans h3.1) rfl rfl rfl rfl
  (by rw [show (mk l d a).hs = l.hs ++ d.h :: a.hs from hs_node ..]; simp only [List.mem_append, List.mem_cons, not_or]; exact ⟨nel, fun e => nde e.symm, nea⟩) neb
  (by show max l.mark a.mark + 1 < _; have := sl.1; have := sa.1; omega) (by have := sb.1; omega) (by rw [its_mk]; simp; have := sl.2; have := sa.2; omega) (by have := sb.2; omega)
 refine ⟨S2, ?_, f2, a2, fun h' q1 q2 => (o2 h' q2).trans (o1 h' q1), w1.trans w2⟩
 unfold leftM
 rw [g1]
 simp only [nd, root]
 rw [g2]
 simp only [nd, root] at e1 e2 ⊢
 rw [e1]
 simp only [mk] at e2 ⊢
 rw [e2]
 rfl
theorem right_fit {S : St} {o : Nat → Nat} (hf : Fit S o) {a b r : Tr} {d e : It} {m m' : Nat} (h : At S (node (node a e m' b) d m r)) (hd : (node (node a e m' b) d m r).hs.Nodup) (sa : Sm a) (sb : Sm b) (sr : Sm r) :
 ∃ S', rightM S d.h = some (e.h, S') ∧ Fit S' o ∧ At S' (mk a e (mk b d r)) ∧ (∀ h', h' ≠ d.h → h' ≠ e.h → reco S' h' = reco S h') ∧ Grew S S' 0 0 := by
 obtain ⟨h1, h2, h3⟩ := h
 have g1 := getNode_look hf h1
 have g2 := getNode_look hf h2.1
 simp only [hs_node, List.nodup_append, List.nodup_cons, List.mem_append, List.mem_cons] at hd
 obtain ⟨⟨hd1, ⟨hd2, hd3⟩, hd4⟩, ⟨hd5, hd6⟩, hd7⟩ := hd
 have nr : d.h ∉ r.hs := hd5
 have nb : d.h ∉ b.hs := fun hm => hd7 _ (Or.inr (Or.inr hm)) _ (Or.inl rfl) rfl
 have na : d.h ∉ a.hs := fun hm => hd7 _ (Or.inl hm) _ (Or.inl rfl) rfl
 have nde : d.h ≠ e.h := fun hm => hd7 _ (Or.inr (Or.inl hm)) _ (Or.inl rfl) rfl
 have nea : e.h ∉ a.hs := fun hm => hd4 _ hm _ (Or.inl rfl) rfl
 have neb : e.h ∉ b.hs := hd2
 have ner : e.h ∉ r.hs := fun hm => hd7 _ (Or.inr (Or.inl rfl)) _ (Or.inr hm) rfl
 obtain ⟨S1, e1, f1, a1, o1, w1⟩ := with_fit hf (n := nd (node a e m' b) d m r) (d := d) h2.2.2 h3 h1 rfl rfl rfl rfl nb nr (by have := sb.1; omega) (by have := sr.1; omega) (by have := sb.2; omega) (by have := sr.2; omega)
 have ha1 : At S1 a := h2.2.1.frame fun h hm => o1 h fun e => na (e ▸ hm)
 obtain ⟨S2, e2, f2, a2, o2, w2⟩ := with_fit f1 (n := nd a e m' b) (d := e) ha1 a1 ((o1 _ fun e => nde e.symm).trans h2.1) rfl rfl rfl rfl nea
  (by rw [show (mk b d r).hs = b.hs ++ d.h :: r.hs from hs_node ..]; simp only [List.mem_append, List.mem_cons, not_or]; exact ⟨neb, fun e => nde e.symm, ner⟩)
  (by have := sa.1; omega) (by show max b.mark r.mark + 1 < _; have := sb.1; have := sr.1; omega) (by have := sa.2; omega) (by rw [its_mk]; simp; have := sb.2; have := sr.2; omega)
 refine ⟨S2, ?_, f2, a2, fun h' q1 q2 => (o2 h' q2).trans (o1 h' q1), w1.trans w2⟩
 unfold rightM
 rw [g1]
 simp only [nd, root]
 rw [g2]
 simp only [nd, root] at e1 e2 ⊢
 rw [e1]
 simp only [mk] at e2 ⊢
 rw [e2]
 rfl
def Bal : Tr → Prop
 | nil => True
 | node l _ m r => Bal l ∧ Bal r ∧ m = max l.mark r.mark + 1 ∧ l.mark ≤ r.mark + 1 ∧ r.mark ≤ l.mark + 1
theorem Bal.mark_le : ∀ {t : Tr}, Bal t → t.mark ≤ t.its.length
 | nil, _ => Nat.le_refl _
 | node l d m r, ⟨h1, h2, h3, _, _⟩ => by
  have := h1.mark_le
  have := h2.mark_le
  show m ≤ (l.its ++ d :: r.its).length
  simp only [List.length_append, List.length_cons]
  omega
theorem Bal.sm {t : Tr} (h : Bal t) (hl : t.its.length < 10000) : Sm t := ⟨by have := h.mark_le; omega, hl⟩
theorem Bal.mk {l r : Tr} (d : It) (hl : Bal l) (hr : Bal r) (h1 : l.mark ≤ r.mark + 1) (h2 : r.mark ≤ l.mark + 1) : Bal (Tr.mk l d r) := ⟨hl, hr, rfl, h1, h2⟩
theorem mark_mk (l : Tr) (d : It) (r : Tr) : (mk l d r).mark = max l.mark r.mark + 1 := rfl
theorem Bal.pos {t : Tr} (h : Bal t) (hm : 0 < t.mark) : ∃ l d r, t = Tr.mk l d r ∧ Bal l ∧ Bal r ∧ l.mark ≤ r.mark + 1 ∧ r.mark ≤ l.mark + 1 := by
 cases t with
 | nil => exact absurd hm (by simp [mark])
 | node l d m r =>
  obtain ⟨h1, h2, h3, h4, h5⟩ := h
  exact ⟨l, d, r, by unfold Tr.mk; rw [h3], h1, h2, h4, h5⟩
structure Did (S S' : St) (o : Nat → Nat) (hs : List Nat) (t : Tr) : Prop where
 fit : Fit S' o
 at' : At S' t
 other : ∀ h', h' ∉ hs → reco S' h' = reco S h'
 grew : Grew S S' 0 0
theorem bal_fit {S : St} {o : Nat → Nat} (hf : Fit S o) {l r : Tr} {d : It} (h : At S (mk l d r)) (hd : (mk l d r).hs.Nodup) (bl : Bal l) (br : Bal r) (hc : (mk l d r).its.length < 10000) (q1 : l.mark ≤ r.mark + 2) (q2 : r.mark ≤ l.mark + 2) :
 ∃ t S', balM S d.h = some (t.root, S') ∧ Did S S' o (mk l d r).hs t ∧ Bal t ∧ t.its = (mk l d r).its ∧ t.mark ≤ max l.mark r.mark + 1 ∧ max l.mark r.mark ≤ t.mark ∧ (l.mark ≤ r.mark + 1 → r.mark ≤ l.mark + 1 → t.mark = max l.mark r.mark + 1) := by
 have hll : l.its.length < 10000 ∧ r.its.length < 10000 := by rw [its_mk] at hc; simp at hc; omega
 have sl := bl.sm hll.1
 have sr := br.sm hll.2
 have g1 := getNode_look hf h.1
 have k1 := h.2.1.height hf (by have := sl.1; omega)
 have k2 := h.2.2.height hf (by have := sr.1; omega)
 by_cases c1 : r.mark + 1 < l.mark
 · obtain ⟨a, e, b, rfl, ba, bb, ab1, ab2⟩ := bl.pos (by omega)
   rw [mark_mk] at c1 q1 q2
   have hla : a.its.length < 10000 ∧ b.its.length < 10000 := by rw [its_mk] at hll; simp at hll; omega
   have sa := ba.sm hla.1
   have sb := bb.sm hla.2
   have hl := h.2.1
   have g2 := getNode_look hf hl.1
   have k3 := hl.2.1.height hf (by have := sa.1; omega)
   have k4 := hl.2.2.height hf (by have := sb.1; omega)
   have memd : d.h ∈ (mk (mk a e b) d r).hs := by rw [show (mk (mk a e b) d r).hs = (mk a e b).hs ++ d.h :: r.hs from hs_node ..]; simp
   have meme : e.h ∈ (mk (mk a e b) d r).hs := by rw [show (mk (mk a e b) d r).hs = (mk a e b).hs ++ d.h :: r.hs from hs_node .., show (mk a e b).hs = a.hs ++ e.h :: b.hs from hs_node ..]; simp
   by_cases c2 : a.mark < b.mark
   · obtain ⟨b1, x, b2, rfl, bb1, bb2, bq1, bq2⟩ := bb.pos (by omega)
     rw [mark_mk] at c1 c2 ab1 ab2 q1 q2
     have hlb : b1.its.length < 10000 ∧ b2.its.length < 10000 := by have := hla.2; rw [its_mk] at this; simp at this; omega
     have s1 := bb1.sm hlb.1
     have s2 := bb2.sm hlb.2
     have memx : x.h ∈ (mk (mk a e (mk b1 x b2)) d r).hs := by
      rw [show (mk (mk a e (mk b1 x b2)) d r).hs = (mk a e (mk b1 x b2)).hs ++ d.h :: r.hs from hs_node .., show (mk a e (mk b1 x b2)).hs = a.hs ++ e.h :: (mk b1 x b2).hs from hs_node .., show (mk b1 x b2).hs = b1.hs ++ x.h :: b2.hs from hs_node ..]; simp
     have hnl : (mk a e (mk b1 x b2)).hs.Nodup := by
      have := hd
      rw [show (mk (mk a e (mk b1 x b2)) d r).hs = (mk a e (mk b1 x b2)).hs ++ d.h :: r.hs from hs_node ..] at this
      exact (List.nodup_append.1 this).1
     obtain ⟨S1, e1, f1, a1, o1, w1⟩ := left_fit hf hl hnl sa s1 s2
     have hdm : d.h ∉ (mk a e (mk b1 x b2)).hs := by
      have := hd
      rw [show (mk (mk a e (mk b1 x b2)) d r).hs = (mk a e (mk b1 x b2)).hs ++ d.h :: r.hs from hs_node ..] at this
      exact fun hm => (List.nodup_append.1 this).2.2 _ hm _ (List.mem_cons_self ..) rfl
     have hsl : (mk (mk a e b1) x b2).hs = (mk a e (mk b1 x b2)).hs := by unfold hs; simp [its_mk]
     have hdr : d.h ∉ r.hs := by
      have := hd
      rw [show (mk (mk a e (mk b1 x b2)) d r).hs = (mk a e (mk b1 x b2)).hs ++ d.h :: r.hs from hs_node ..] at this
      exact (List.nodup_cons.1 (List.nodup_append.1 this).2.1).1
     have memin : ∀ y, y ∈ (mk a e (mk b1 x b2)).hs → y ≠ d.h := fun y hy e => hdm (e ▸ hy)
     have me1 : e.h ∈ (mk a e (mk b1 x b2)).hs := by rw [show (mk a e (mk b1 x b2)).hs = a.hs ++ e.h :: (mk b1 x b2).hs from hs_node ..]; simp
     have mx1 : x.h ∈ (mk a e (mk b1 x b2)).hs := by rw [show (mk a e (mk b1 x b2)).hs = a.hs ++ e.h :: (mk b1 x b2).hs from hs_node .., show (mk b1 x b2).hs = b1.hs ++ x.h :: b2.hs from hs_node ..]; simp
     have hrn : ∀ y ∈ r.hs, y ∉ (mk a e (mk b1 x b2)).hs := by
      have := hd
      rw [show (mk (mk a e (mk b1 x b2)) d r).hs = (mk a e (mk b1 x b2)).hs ++ d.h :: r.hs from hs_node ..] at this
      exact fun y hy hm => (List.nodup_append.1 this).2.2 _ hm _ (List.mem_cons_of_mem _ hy) rfl
     have hr1 : At S1 r := h.2.2.frame fun y hy => o1 y (fun e => hrn y hy (e ▸ me1)) (fun e => hrn y hy (e ▸ mx1))
     obtain ⟨S2, e2, f2, a2, o2, w2⟩ := with_fit f1 (n := nd (mk a e (mk b1 x b2)) d (max (mk a e (mk b1 x b2)).mark r.mark + 1) r) (d := d) a1 hr1 ((o1 _ (fun e => memin _ me1 e.symm) (fun e => memin _ mx1 e.symm)).trans h.1) rfl rfl rfl rfl
      (by rw [hsl]; exact hdm) hdr (by rw [mark_mk, mark_mk]; have := sa.1; have := s1.1; have := s2.1; omega) (by have := sr.1; omega)
      (by have : (mk (mk a e b1) x b2).its.length = (mk a e (mk b1 x b2)).its.length := (by simp [its_mk]); omega) (by omega)
     have hsm : Sm (mk a e b1) := ⟨by rw [mark_mk]; have := (ba.mark_le); have := bb1.mark_le; omega, by have := hll.1; simp [its_mk] at this ⊢; omega⟩
     have hnd3 : (mk (mk (mk a e b1) x b2) d r).hs.Nodup := by
      rw [show (mk (mk (mk a e b1) x b2) d r).hs = (mk (mk a e b1) x b2).hs ++ d.h :: r.hs from hs_node .., hsl, ← show (mk (mk a e (mk b1 x b2)) d r).hs = (mk a e (mk b1 x b2)).hs ++ d.h :: r.hs from hs_node ..]
      exact hd
     obtain ⟨S3, e3, f3, a3, o3, w3⟩ := right_fit f2 a2 hnd3 hsm s2 sr
     refine ⟨mk (mk a e b1) x (mk b2 d r), S3, ?_, ⟨f3, a3, ?_, (w1.trans w2).trans w3⟩, ?_, ?_, ?_, ?_, ?_⟩
     · unfold balM
       rw [g1]
       simp only [nd]
       rw [k1, k2]
       simp only
       rw [if_pos (by rw [mark_mk, mark_mk]; omega)]
       rw [show (mk a e (mk b1 x b2)).root = e.h from rfl, g2]
       simp only [nd]
       rw [k3, k4]
       simp only
       rw [if_pos (by rw [mark_mk]; omega), e1]
       simp only
       have e2' := e2
       rw [show (mk (mk a e b1) x b2).root = x.h from rfl] at e2'
       simp only [nd] at e2'
       rw [show (mk a e (mk b1 x b2)).root = e.h from rfl] at e2'
       rw [e2']
       exact e3
     · intro y hy
       have y1 : y ≠ d.h := fun e => hy (e ▸ memd)
       have y2 : y ≠ e.h := fun e => hy (e ▸ meme)
       have y3 : y ≠ x.h := fun e => hy (e ▸ memx)
       exact (o3 y y1 y3).trans ((o2 y y1).trans (o1 y y2 y3))
     · refine Bal.mk _ (Bal.mk _ ba bb1 ?_ ?_) (Bal.mk _ bb2 br ?_ ?_) ?_ ?_ <;> (try simp only [mark_mk]) <;> omega
     · simp [its_mk]
     · simp only [mark_mk]; omega
     · simp only [mark_mk]; omega
     · intro z1 z2; simp only [mark_mk] at z1 z2; omega
   · obtain ⟨S1, e1, f1, a1, o1, w1⟩ := right_fit hf h hd sa sb sr
     refine ⟨mk a e (mk b d r), S1, ?_, ⟨f1, a1, fun y hy => o1 y (fun e => hy (e ▸ memd)) (fun e => hy (e ▸ meme)), w1⟩, ?_, ?_, ?_, ?_, ?_⟩
     · unfold balM
       rw [g1]
       simp only [nd]
       rw [k1, k2]
       simp only
       rw [if_pos (by rw [mark_mk]; omega)]
       rw [show (mk a e b).root = e.h from rfl, g2]
       simp only [nd]
       rw [k3, k4]
       simp only
       rw [if_neg c2, e1]
       rfl
     · refine Bal.mk _ ba (Bal.mk _ bb br ?_ ?_) ?_ ?_ <;> (try simp only [mark_mk]) <;> omega
     · simp [its_mk]
     · simp only [mark_mk]; omega
     · simp only [mark_mk]; omega
     · intro z1 z2; simp only [mark_mk] at z1 z2; omega
 · by_cases c1' : l.mark + 1 < r.mark
   · obtain ⟨a, e, b, rfl, ba, bb, ab1, ab2⟩ := br.pos (by omega)
     rw [mark_mk] at c1 c1' q1 q2
     have hla : a.its.length < 10000 ∧ b.its.length < 10000 := by rw [its_mk] at hll; simp at hll; omega
     have sa := ba.sm hla.1
     have sb := bb.sm hla.2
     have hr := h.2.2
     have g2 := getNode_look hf hr.1
     have k3 := hr.2.1.height hf (by have := sa.1; omega)
     have k4 := hr.2.2.height hf (by have := sb.1; omega)
     have memd : d.h ∈ (mk l d (mk a e b)).hs := by rw [show (mk l d (mk a e b)).hs = l.hs ++ d.h :: (mk a e b).hs from hs_node ..]; simp
     have meme : e.h ∈ (mk l d (mk a e b)).hs := by rw [show (mk l d (mk a e b)).hs = l.hs ++ d.h :: (mk a e b).hs from hs_node .., show (mk a e b).hs = a.hs ++ e.h :: b.hs from hs_node ..]; simp
     by_cases c2 : b.mark < a.mark
     · obtain ⟨b1, x, b2, rfl, bb1, bb2, bq1, bq2⟩ := ba.pos (by omega)
       rw [mark_mk] at c1 c1' c2 ab1 ab2 q1 q2
       have hlb : b1.its.length < 10000 ∧ b2.its.length < 10000 := by have := hla.1; rw [its_mk] at this; simp at this; omega
       have s1 := bb1.sm hlb.1
       have s2 := bb2.sm hlb.2
       have hsp : (mk l d (mk (mk b1 x b2) e b)).hs = l.hs ++ d.h :: (mk (mk b1 x b2) e b).hs := hs_node ..
       have hsq : (mk (mk b1 x b2) e b).hs = (mk b1 x b2).hs ++ e.h :: b.hs := hs_node ..
       have hsr : (mk b1 x b2).hs = b1.hs ++ x.h :: b2.hs := hs_node ..
       have hd' := hd
       rw [hsp] at hd'
       obtain ⟨n1, n2, n3⟩ := List.nodup_append.1 hd'
       obtain ⟨n4, n5⟩ := List.nodup_cons.1 n2
       have memx : x.h ∈ (mk l d (mk (mk b1 x b2) e b)).hs := by rw [hsp, hsq, hsr]; simp
       have me1 : e.h ∈ (mk (mk b1 x b2) e b).hs := by rw [hsq]; simp
       have mx1 : x.h ∈ (mk (mk b1 x b2) e b).hs := by rw [hsq, hsr]; simp
       obtain ⟨S1, e1, f1, a1, o1, w1⟩ := right_fit hf hr n5 s1 s2 sb
       have hsl : (mk b1 x (mk b2 e b)).hs = (mk (mk b1 x b2) e b).hs := by unfold hs; simp [its_mk]
       have hdl : d.h ∉ l.hs := fun hm => n3 _ hm _ (List.mem_cons_self ..) rfl
       have hln : ∀ y ∈ l.hs, y ∉ (mk (mk b1 x b2) e b).hs := fun y hy hm => n3 _ hy _ (List.mem_cons_of_mem _ hm) rfl
       have hl1 : At S1 l := h.2.1.frame fun y hy => o1 y (fun e => hln y hy (e ▸ me1)) (fun e => hln y hy (e ▸ mx1))
       obtain ⟨S2, e2, f2, a2, o2, w2⟩ := with_fit f1 (n := nd l d (max l.mark (mk (mk b1 x b2) e b).mark + 1) (mk (mk b1 x b2) e b)) (d := d) hl1 a1 ((o1 d.h (fun q => n4 (q.symm ▸ me1)) (fun q => n4 (q.symm ▸ mx1))).trans h.1) rfl rfl rfl rfl
        hdl (by rw [hsl]; exact n4) (by have := sl.1; omega) (by rw [mark_mk, mark_mk]; have := sb.1; have := s1.1; have := s2.1; omega) (by omega)
        (by have : (mk b1 x (mk b2 e b)).its.length = (mk (mk b1 x b2) e b).its.length := (by simp [its_mk]); omega)
       have hsm : Sm (mk b2 e b) := ⟨by rw [mark_mk]; have := bb2.mark_le; have := bb.mark_le; omega, by have := hll.2; simp [its_mk] at this ⊢; omega⟩
       have hnd3 : (mk l d (mk b1 x (mk b2 e b))).hs.Nodup := by
        rw [show (mk l d (mk b1 x (mk b2 e b))).hs = l.hs ++ d.h :: (mk b1 x (mk b2 e b)).hs from hs_node .., hsl, ← hsp]
        exact hd
       obtain ⟨S3, e3, f3, a3, o3, w3⟩ := left_fit f2 a2 hnd3 sl s1 hsm
       refine ⟨mk (mk l d b1) x (mk b2 e b), S3, ?_, ⟨f3, a3, ?_, (w1.trans w2).trans w3⟩, ?_, ?_, ?_, ?_, ?_⟩
       · unfold balM
         rw [g1]
         simp only [nd]
         rw [k1, k2]
         simp only
         rw [if_neg (by rw [mark_mk, mark_mk]; omega), if_pos (by rw [mark_mk, mark_mk]; omega)]
         rw [show (mk (mk b1 x b2) e b).root = e.h from rfl, g2]
         simp only [nd]
         rw [k3, k4]
         simp only
         rw [if_pos (by rw [mark_mk]; omega), e1]
         simp only
         have e2' := e2
         rw [show (mk b1 x (mk b2 e b)).root = x.h from rfl] at e2'
         simp only [nd] at e2'
         rw [show (mk (mk b1 x b2) e b).root = e.h from rfl] at e2'
         rw [e2']
         exact e3
       · intro y hy
         have y1 : y ≠ d.h := fun e => hy (e ▸ memd)
         have y2 : y ≠ e.h := fun e => hy (e ▸ meme)
         have y3 : y ≠ x.h := fun e => hy (e ▸ memx)
         exact (o3 y y1 y3).trans ((o2 y y1).trans (o1 y y2 y3))
       · refine Bal.mk _ (Bal.mk _ bl bb1 ?_ ?_) (Bal.mk _ bb2 bb ?_ ?_) ?_ ?_ <;> (try simp only [mark_mk]) <;> omega
       · simp [its_mk]
       · simp only [mark_mk]; omega
       · simp only [mark_mk]; omega
       · intro z1 z2; simp only [mark_mk] at z1 z2; omega
     · obtain ⟨S1, e1, f1, a1, o1, w1⟩ := left_fit hf h hd sl sa sb
       refine ⟨mk (mk l d a) e b, S1, ?_, ⟨f1, a1, fun y hy => o1 y (fun e => hy (e ▸ memd)) (fun e => hy (e ▸ meme)), w1⟩, ?_, ?_, ?_, ?_, ?_⟩
       · unfold balM
         rw [g1]
         simp only [nd]
         rw [k1, k2]
         simp only
         rw [if_neg (by rw [mark_mk]; omega), if_pos (by rw [mark_mk]; omega)]
         rw [show (mk a e b).root = e.h from rfl, g2]
         simp only [nd]
         rw [k3, k4]
         simp only
         rw [if_neg c2, e1]
         rfl
       · refine Bal.mk _ (Bal.mk _ bl ba ?_ ?_) bb ?_ ?_ <;> (try simp only [mark_mk]) <;> omega
       · simp [its_mk]
       · simp only [mark_mk]; omega
       · simp only [mark_mk]; omega
       · intro z1 z2; simp only [mark_mk] at z1 z2; omega
   · refine ⟨mk l d r, S, ?_, ⟨hf, h, fun _ _ => rfl, Grew.refl S⟩, Bal.mk _ bl br (by omega) (by omega), rfl, by rw [mark_mk]; exact Nat.le_refl _, by rw [mark_mk]; omega, fun _ _ => rfl⟩
     unfold balM
     rw [g1]
     simp only [nd]
     rw [k1, k2]
     simp only
     rw [if_neg c1, if_neg c1']
     rfl
end Tr
namespace Tr
theorem Bal.nil_of {t : Tr} (h : Bal t) (hm : t.mark = 0) : t = nil := by
 cases t with
 | nil => rfl
 | node l d m r =>
  obtain ⟨_, _, h3, _, _⟩ := h
  have h3 : m = max l.mark r.mark + 1 := h3
  have hm : m = 0 := hm
  omega
theorem join_fit {d : It} {n : Nd} (hk : n.key = d.kh) (hv : n.val = d.vh) : ∀ (f : Nat) {S : St} {o : Nat → Nat} {l r : Tr} {n0 : Nd}, Fit S o → At S l → At S r → Bal l → Bal r → reco S d.h = some (ndWords n0) → n0.key = d.kh → n0.val = d.vh →
 (l.hs ++ d.h :: r.hs).Nodup → l.its.length + r.its.length < 9000 → max l.mark r.mark ≤ f →
 ∃ t S', joinB n d.h f S l.root r.root = some (t.root, S') ∧ Did S S' o (l.hs ++ d.h :: r.hs) t ∧ Bal t ∧ t.its = l.its ++ d :: r.its ∧ max l.mark r.mark ≤ t.mark ∧ t.mark ≤ max l.mark r.mark + 1
 | 0, S, o, l, r, n0, hf, hl, hr, bl, br, hd, hk0, hv0, hnd, hlen, hm => by
  obtain rfl := bl.nil_of (by omega)
  obtain rfl := br.nil_of (by omega)
  obtain ⟨S1, e1, f1, a1, o1, w1⟩ := with_fit hf hl hr hd hk0 hv0 hk hv (by simp [hs, its]) (by simp [hs, its]) (by decide) (by decide) (by simp [its]) (by simp [its])
  refine ⟨mk nil d nil, S1, ?_, ⟨f1, a1, fun y hy => o1 y fun e => hy (by rw [e]; simp), w1⟩, Bal.mk d trivial trivial (Nat.zero_le _) (Nat.zero_le _), rfl, by rw [mark_mk]; omega, by rw [mark_mk]; exact Nat.le_refl _⟩
  rw [joinB_zero, e1]
  rfl
 | f + 1, S, o, l, r, n0, hf, hl, hr, bl, br, hd, hk0, hv0, hnd, hlen, hm => by
  have sl := bl.sm (by omega)
  have sr := br.sm (by omega)
  have k1 := hl.height hf (by have := sl.1; omega)
  have k2 := hr.height hf (by have := sr.1; omega)
  obtain ⟨n1, n2, n3⟩ := List.nodup_append.1 hnd
  obtain ⟨n4, n5⟩ := List.nodup_cons.1 n2
  have ndl : d.h ∉ l.hs := fun hm => n3 _ hm _ (List.mem_cons_self ..) rfl
  rw [joinB_succ, k1, k2]
  simp only
  by_cases c1 : r.mark + 1 < l.mark
  · rw [if_pos c1]
    obtain ⟨a, e, b, rfl, ba, bb, ab1, ab2⟩ := bl.pos (by omega)
    rw [mark_mk] at c1 hm
    have hsl : (mk a e b).hs = a.hs ++ e.h :: b.hs := hs_node ..
    have hla : a.its.length < 9000 ∧ b.its.length + r.its.length < 9000 := by rw [its_mk] at hlen; simp at hlen; omega
    rw [hsl] at n1 n3 ndl
    obtain ⟨m1, m2, m3⟩ := List.nodup_append.1 n1
    obtain ⟨m4, m5⟩ := List.nodup_cons.1 m2
    simp only [List.mem_append, List.mem_cons, not_or] at ndl
    have hnd1 : (b.hs ++ d.h :: r.hs).Nodup := List.nodup_append.2 ⟨m5, n2, fun x hx y hy => n3 x (by simp [hx]) y hy⟩
    have g1 := getNode_look hf hl.1
    obtain ⟨t, S1, e1, D1, bt, it, tm1, tm2⟩ := join_fit hk hv f hf hl.2.2 hr bb br hd hk0 hv0 hnd1 hla.2 (by omega)
    have hts : t.hs = b.hs ++ d.h :: r.hs := by unfold hs; rw [it]; simp
    have hat : ∀ y ∈ a.hs, y ∉ b.hs ++ d.h :: r.hs := fun y hy hm => by
     rcases List.mem_append.1 hm with hm | hm
     · exact m3 _ hy _ (List.mem_cons_of_mem _ hm) rfl
     · exact n3 y (by simp [hy]) y hm rfl
    have het : e.h ∉ b.hs ++ d.h :: r.hs := fun hm => by
     rcases List.mem_append.1 hm with hm | hm
     · exact m4 hm
     · exact n3 e.h (by simp) e.h hm rfl
    have hae : e.h ∉ a.hs := fun hm => m3 _ hm _ (List.mem_cons_self ..) rfl
    have a1 : At S1 a := hl.2.1.frame fun y hy => D1.other y (hat y hy)
    have htl : t.its.length < 9000 := by rw [it]; rw [its_mk] at hlen; simp at hlen ⊢; omega
    obtain ⟨S2, e2, f2, a2, o2, w2⟩ := with_fit D1.fit (n := nd a e (max a.mark b.mark + 1) b) (d := e) a1 D1.at' ((D1.other _ het).trans hl.1) rfl rfl rfl rfl hae (by rw [hts]; exact het)
     (by have := (ba.sm (by omega)).1; omega) (by have := (bt.sm (by omega)).1; omega) (by omega) (by omega)
    have hmh : (mk a e t).hs = (a.hs ++ e.h :: b.hs) ++ d.h :: r.hs := by rw [show (mk a e t).hs = a.hs ++ e.h :: t.hs from hs_node .., hts]; simp
    have hmi : (mk a e t).its = (a.its ++ e :: b.its) ++ d :: r.its := by rw [its_mk, it]; simp
    have hnd2 : (mk a e t).hs.Nodup := by rw [hmh, ← hsl]; exact hnd
    obtain ⟨u, S3, e3, D3, bu, iu, um1, um2, um3⟩ := bal_fit f2 a2 hnd2 ba bt (by rw [hmi]; rw [its_mk] at hlen; simp at hlen ⊢; omega) (by omega) (by omega)
    refine ⟨u, S3, ?_, ⟨D3.fit, D3.at', ?_, (D1.grew.trans w2).trans D3.grew⟩, bu, ?_, ?_, ?_⟩
    · rw [show (mk a e b).root = e.h from rfl, g1]
      simp only [nd]
      rw [e1]
      simp only
      have e2' := e2
      simp only [nd] at e2'
      rw [e2']
      simp only
      rw [e3]
      exact chk_ok (D3.at'.root_lt D3.fit)
    · intro y hy
      rw [hsl] at hy
      rw [hmh] at D3
      have y1 : y ≠ e.h := fun e => hy (by rw [e]; simp)
      refine (D3.other y hy).trans ((o2 y y1).trans (D1.other y fun hm => hy ?_))
      rcases List.mem_append.1 hm with hm | hm
      · simp [hm]
      · rcases List.mem_cons.1 hm with hm | hm <;> simp [hm]
    · rw [iu, hmi]; rfl
    · rw [mark_mk]; omega
    · rw [mark_mk]; omega
  · rw [if_neg c1]
    by_cases c2 : l.mark + 1 < r.mark
    · rw [if_pos c2]
      obtain ⟨a, e, b, rfl, ba, bb, ab1, ab2⟩ := br.pos (by omega)
      rw [mark_mk] at c2 hm
      have hsr : (mk a e b).hs = a.hs ++ e.h :: b.hs := hs_node ..
      have hla : l.its.length + a.its.length < 9000 ∧ b.its.length < 9000 := by rw [its_mk] at hlen; simp at hlen; omega
      rw [hsr] at n5 n4 n3
      obtain ⟨m1, m2, m3⟩ := List.nodup_append.1 n5
      obtain ⟨m4, m5⟩ := List.nodup_cons.1 m2
      simp only [List.mem_append, List.mem_cons, not_or] at n4
      have hnd1 : (l.hs ++ d.h :: a.hs).Nodup := List.nodup_append.2 ⟨n1, List.nodup_cons.2 ⟨n4.1, m1⟩, fun x hx y hy => n3 x hx y (by rcases List.mem_cons.1 hy with hy | hy <;> simp [hy])⟩
      have g1 := getNode_look hf hr.1
      obtain ⟨t, S1, e1, D1, bt, it, tm1, tm2⟩ := join_fit hk hv f hf hl hr.2.1 bl ba hd hk0 hv0 hnd1 hla.1 (by omega)
      have hts : t.hs = l.hs ++ d.h :: a.hs := by unfold hs; rw [it]; simp
      have hbt : ∀ y ∈ b.hs, y ∉ l.hs ++ d.h :: a.hs := fun y hy hm => by
       rcases List.mem_append.1 hm with hm | hm
       · exact n3 y hm y (by simp [hy]) rfl
       · rcases List.mem_cons.1 hm with hm | hm
         · subst hm; exact n4.2.2 hy
         · exact m3 _ hm _ (List.mem_cons_of_mem _ hy) rfl
      have het : e.h ∉ l.hs ++ d.h :: a.hs := fun hm => by
       rcases List.mem_append.1 hm with hm | hm
       · exact n3 e.h hm e.h (by simp) rfl
       · rcases List.mem_cons.1 hm with hm | hm
         · exact n4.2.1 hm.symm
         · exact m3 _ hm _ (List.mem_cons_self ..) rfl
      have b1 : At S1 b := hr.2.2.frame fun y hy => D1.other y (hbt y hy)
      have htl : t.its.length < 9000 := by rw [it]; rw [its_mk] at hlen; simp at hlen ⊢; omega
      obtain ⟨S2, e2, f2, a2, o2, w2⟩ := with_fit D1.fit (n := nd a e (max a.mark b.mark + 1) b) (d := e) D1.at' b1 ((D1.other _ het).trans hr.1) rfl rfl rfl rfl (by rw [hts]; exact het) m4
       (by have := (bt.sm (by omega)).1; omega) (by have := (bb.sm (by omega)).1; omega) (by omega) (by omega)
      have hmh : (mk t e b).hs = l.hs ++ d.h :: (a.hs ++ e.h :: b.hs) := by rw [show (mk t e b).hs = t.hs ++ e.h :: b.hs from hs_node .., hts]; simp
      have hmi : (mk t e b).its = l.its ++ d :: (a.its ++ e :: b.its) := by rw [its_mk, it]; simp
      have hnd2 : (mk t e b).hs.Nodup := by rw [hmh, ← hsr]; exact hnd
      obtain ⟨u, S3, e3, D3, bu, iu, um1, um2, um3⟩ := bal_fit f2 a2 hnd2 bt bb (by rw [hmi]; rw [its_mk] at hlen; simp at hlen ⊢; omega) (by omega) (by omega)
      refine ⟨u, S3, ?_, ⟨D3.fit, D3.at', ?_, (D1.grew.trans w2).trans D3.grew⟩, bu, ?_, ?_, ?_⟩
      · rw [show (mk a e b).root = e.h from rfl, g1]
        simp only [nd]
        rw [e1]
        simp only
        have e2' := e2
        simp only [nd] at e2'
        rw [e2']
        simp only
        rw [e3]
        exact chk_ok (D3.at'.root_lt D3.fit)
      · intro y hy
        rw [hsr] at hy
        rw [hmh] at D3
        have y1 : y ≠ e.h := fun e => hy (by rw [e]; simp)
        refine (D3.other y hy).trans ((o2 y y1).trans (D1.other y fun hm => hy ?_))
        rcases List.mem_append.1 hm with hm | hm
        · simp [hm]
        · rcases List.mem_cons.1 hm with hm | hm <;> simp [hm]
      · rw [iu, hmi]; rfl
      · rw [mark_mk]; omega
      · rw [mark_mk]; omega
    · rw [if_neg c2]
      obtain ⟨S1, e1, f1, a1, o1, w1⟩ := with_fit hf hl hr hd hk0 hv0 hk hv ndl n4 (by have := sl.1; omega) (by have := sr.1; omega) (by omega) (by omega)
      refine ⟨mk l d r, S1, by rw [e1]; rfl, ⟨f1, a1, fun y hy => o1 y fun e => hy (by rw [e]; simp), w1⟩, Bal.mk d bl br (by omega) (by omega), rfl, by rw [mark_mk]; omega, by rw [mark_mk]; omega⟩
structure JSpec (jn : Jn) (Ok : Tr → Prop) : Prop where
 nil : Ok nil
 sub : ∀ {l d m r}, Ok (node l d m r) → Ok l ∧ Ok r
 join : ∀ {S : St} {o : Nat → Nat} {l r : Tr} {d : It} {n0 : Nd}, Fit S o → At S l → At S r → Ok l → Ok r → reco S d.h = some (ndWords n0) → n0.key = d.kh → n0.val = d.vh →
  (l.hs ++ d.h :: r.hs).Nodup → l.its.length + r.its.length < 99 →
  ∃ t S', jn S l.root d.h r.root = some ((t.root, 0), S') ∧ Did S S' o (l.hs ++ d.h :: r.hs) t ∧ Ok t ∧ t.its = l.its ++ d :: r.its
theorem jspec_avl : JSpec avlJ Bal where
 nil := trivial
 sub h := ⟨h.1, h.2.1⟩
 join := by
  intro S o l r d n0 hf hl hr bl br hd hk0 hv0 hnd hlen
  obtain ⟨t, S', e, D, bt, it, _⟩ := join_fit (n := n0) hk0 hv0 100 hf hl hr bl br hd hk0 hv0 hnd (by omega) (by have := bl.mark_le; have := br.mark_le; omega)
  refine ⟨t, S', ?_, D, bt, it⟩
  have hd0 := (look_ok hf hd).1
  unfold avlJ
  rw [if_neg]
  · rw [getNode_look hf hd, e]; rfl
  · rw [hl.isT hf, hr.isT hf]
    have : isT S d.h = true := by unfold isT; rw [getNode_look hf hd]; simp
    rw [this]
    simp; omega
theorem cmpB_refl : ∀ a : List UInt8, cmpB a a = 0
 | [] => rfl
 | x :: a => by unfold cmpB; rw [if_neg (UInt8.lt_irrefl x), if_neg (UInt8.lt_irrefl x)]; exact cmpB_refl a
theorem cmpB_eq0 : ∀ {a b : List UInt8}, cmpB a b = 0 → a = b
 | [], [], _ => rfl
 | [], _ :: _, h => by unfold cmpB at h; omega
 | _ :: _, [], h => by unfold cmpB at h; omega
 | x :: a, y :: b, h => by
  unfold cmpB at h
  split at h
  · omega
  · rename_i h1
    split at h
    · omega
    · rename_i h2
      have : x = y := UInt8.le_antisymm (UInt8.not_lt.1 h2) (UInt8.not_lt.1 h1)
      rw [this, cmpB_eq0 h]
theorem cmpB_swap : ∀ a b : List UInt8, cmpB b a = - cmpB a b
 | [], [] => rfl
 | [], _ :: _ => rfl
 | _ :: _, [] => rfl
 | x :: a, y :: b => by
  unfold cmpB
  by_cases h1 : x < y
  · rw [if_pos h1, if_neg (UInt8.lt_asymm h1), if_pos h1]; rfl
  · by_cases h2 : y < x
    · rw [if_pos h2, if_neg h1, if_pos h2]
    · rw [if_neg h1, if_neg h2, if_neg h2, if_neg h1]; exact cmpB_swap a b
theorem cmpB_trans : ∀ {a b c : List UInt8}, cmpB a b < 0 → cmpB b c < 0 → cmpB a c < 0
 | [], [], _, h, _ => by unfold cmpB at h; omega
 | [], _ :: _, [], _, h => by unfold cmpB at h; omega
 | [], _ :: _, _ :: _, _, _ => by unfold cmpB; omega
 | _ :: _, [], _, h, _ => by unfold cmpB at h; omega
 | _ :: _, _ :: _, [], _, h => by unfold cmpB at h; omega
 | x :: a, y :: b, z :: c, h1, h2 => by
  unfold cmpB at h1 h2 ⊢
  by_cases p : x < y
  · by_cases q : y < z
    · rw [if_pos (UInt8.lt_trans p q)]; omega
    · rw [if_neg q] at h2
      by_cases q' : z < y
      · rw [if_pos q'] at h2; omega
      · have : y = z := UInt8.le_antisymm (UInt8.not_lt.1 q') (UInt8.not_lt.1 q)
        subst this
        rw [if_pos p]; omega
  · rw [if_neg p] at h1
    by_cases p' : y < x
    · rw [if_pos p'] at h1; omega
    · have : x = y := UInt8.le_antisymm (UInt8.not_lt.1 p') (UInt8.not_lt.1 p)
      subst this
      rw [if_neg p'] at h1
      by_cases q : x < z
      · rw [if_pos q]; omega
      · rw [if_neg q] at h2 ⊢
        by_cases q' : z < x
        · rw [if_pos q'] at h2; omega
        · rw [if_neg q'] at h2 ⊢
          exact cmpB_trans h1 h2
def klt (a b : It) : Prop := cmpB a.k b.k < 0
structure Blobs (S : St) (d : It) : Prop where
 k : reco S d.kh = some (wordsOf d.k)
 v : reco S d.vh = some (wordsOf d.v)
 lk : d.k.length ≤ 1000
 lv : d.v.length ≤ 1000
theorem At.blob {S : St} {o : Nat → Nat} (hf : Fit S o) {t : List UInt8} (ht : t.length ≤ 1000) {h : Nat} (hl : reco S h = some (wordsOf t)) : textM S h = some t := by
 unfold textM
 rw [getBlob_look hf ht hl]
 rfl
theorem split_fit {jn : Jn} {Ok : Tr → Prop} (J : JSpec jn Ok) (key : List UInt8) : ∀ (f : Nat) {S : St} {o : Nat → Nat} {t : Tr}, Fit S o → At S t → Ok t → t.hs.Nodup → (∀ d ∈ t.its, Blobs S d ∧ d.kh ∉ t.hs) → t.its.Pairwise klt → t.its.length ≤ f → t.its.length < 99 →
 ∃ tl m tr S', splitM jn key f S t.root = some ((tl.root, m, tr.root), S') ∧ Fit S' o ∧ At S' tl ∧ At S' tr ∧ Ok tl ∧ Ok tr ∧ (∀ h', h' ∉ t.hs → reco S' h' = reco S h') ∧ Grew S S' 0 0 ∧
  ((m = 0 ∧ t.its = tl.its ++ tr.its) ∨ (∃ d n0, m = d.h ∧ d.k = key ∧ t.its = tl.its ++ d :: tr.its ∧ reco S' d.h = some (ndWords n0) ∧ n0.key = d.kh ∧ n0.val = d.vh)) ∧ (∀ d ∈ tl.its, cmpB d.k key < 0) ∧ (∀ d ∈ tr.its, cmpB key d.k < 0)
 | 0, S, o, t, hf, ht, hok, hnd, hb, hs, hl, hl2 => by
  cases t with
  | nil => exact ⟨nil, 0, nil, S, splitM_zero .., hf, trivial, trivial, J.nil, J.nil, fun _ _ => rfl, Grew.refl S, Or.inl ⟨rfl, rfl⟩, by simp [its], by simp [its]⟩
  | node l d m r => simp [its] at hl
 | f + 1, S, o, t, hf, ht, hok, hnd, hb, hs, hl, hl2 => by
  cases t with
  | nil => exact ⟨nil, 0, nil, S, by rw [splitM_succ]; rfl, hf, trivial, trivial, J.nil, J.nil, fun _ _ => rfl, Grew.refl S, Or.inl ⟨rfl, rfl⟩, by simp [its], by simp [its]⟩
  | node l d m r =>
   obtain ⟨h1, h2, h3⟩ := ht
   obtain ⟨ok1, ok2⟩ := J.sub hok
   have g1 := getNode_look hf h1
   have hd0 := (look_ok hf h1).1
   rw [hs_node] at hnd hb ⊢
   have hbd := (hb d (by simp [its])).1
   have hblob := At.blob hf hbd.lk hbd.k
   have hsi : (node l d m r).its = l.its ++ d :: r.its := rfl
   rw [hsi] at hs hl hl2 ⊢
   obtain ⟨n1, n2, n3⟩ := List.nodup_append.1 hnd
   obtain ⟨n4, n5⟩ := List.nodup_cons.1 n2
   have ndl : d.h ∉ l.hs := fun hm => n3 _ hm _ (List.mem_cons_self ..) rfl
   obtain ⟨s1, s2, s3⟩ := List.pairwise_append.1 hs
   obtain ⟨s4, s5⟩ := List.pairwise_cons.1 s2
   simp only [List.length_append, List.length_cons] at hl hl2
   have er : (node l d m r).root = d.h := rfl
   rw [er, splitM_succ, if_neg (by omega), g1]
   simp only [nd]
   rw [hblob]
   simp only
   by_cases c1 : cmpB key d.k < 0
   · rw [if_pos c1]
     obtain ⟨tl, m', tr, S1, e1, f1, al, ar, okl, okr, o1, w1, hm, hlt, hgt⟩ := split_fit J key f hf h2 ok1 n1 (fun x hx => ⟨(hb x (by simp [hsi, hx])).1, fun hm => (hb x (by simp [hsi, hx])).2 (by simp [hm])⟩) s1 (by omega) (by omega)
     have hsub : ∀ x ∈ tr.its, x ∈ l.its := fun x hx => by
      rcases hm with ⟨_, e⟩ | ⟨d', _, _, _, e, _⟩ <;> rw [e] <;> simp [hx]
     have hsubl : ∀ x ∈ tl.its, x ∈ l.its := fun x hx => by
      rcases hm with ⟨_, e⟩ | ⟨d', _, _, _, e, _⟩ <;> rw [e] <;> simp [hx]
     have htr : ∀ y ∈ tr.hs, y ∈ l.hs := fun y hy => by
      obtain ⟨x, hx, rfl⟩ := List.mem_map.1 hy
      exact List.mem_map.2 ⟨x, hsub x hx, rfl⟩
     have htl : ∀ y ∈ tl.hs, y ∈ l.hs := fun y hy => by
      obtain ⟨x, hx, rfl⟩ := List.mem_map.1 hy
      exact List.mem_map.2 ⟨x, hsubl x hx, rfl⟩
     have hlh : l.hs = tl.hs ++ tr.hs ∨ ∃ x : It, m' = x.h ∧ l.hs = tl.hs ++ x.h :: tr.hs := by
      rcases hm with ⟨_, e⟩ | ⟨d', _, e0, _, e, _⟩
      · left; unfold Tr.hs; rw [e]; simp
      · right; exact ⟨d', e0, by unfold Tr.hs; rw [e]; simp⟩
     have ntr : tr.hs.Nodup ∧ ∀ y ∈ tl.hs, y ∉ tr.hs := by
      rcases hlh with e | ⟨x, _, e⟩
      · rw [e] at n1; exact ⟨(List.nodup_append.1 n1).2.1, fun y hy hm => (List.nodup_append.1 n1).2.2 _ hy _ hm rfl⟩
      · rw [e] at n1; exact ⟨(List.nodup_cons.1 (List.nodup_append.1 n1).2.1).2, fun y hy hm => (List.nodup_append.1 n1).2.2 _ hy _ (List.mem_cons_of_mem _ hm) rfl⟩
     have hnd2 : (tr.hs ++ d.h :: r.hs).Nodup := List.nodup_append.2 ⟨ntr.1, n2, fun x hx y hy => n3 x (htr x hx) y hy⟩
     have hr1 : At S1 r := h3.frame fun y hy => o1 y fun hm => n3 _ hm _ (List.mem_cons_of_mem _ hy) rfl
     have htrl : tr.its.length ≤ l.its.length := by
      rcases hm with ⟨_, e⟩ | ⟨d', _, _, _, e, _⟩ <;> rw [e] <;> simp <;> omega
     obtain ⟨u, S2, e2, D2, oku, iu⟩ := J.join f1 ar hr1 okr ok2 ((o1 _ ndl).trans h1) rfl rfl hnd2 (by omega)
     have hout : ∀ y ∈ tl.hs, y ∉ tr.hs ++ d.h :: r.hs := fun y hy hm => by
      rcases List.mem_append.1 hm with hm | hm
      · exact ntr.2 y hy hm
      · exact n3 _ (htl y hy) _ hm rfl
     refine ⟨tl, m', u, S2, ?_, D2.fit, al.frame fun y hy => D2.other y (hout y hy), D2.at', okl, oku, ?_, w1.trans D2.grew, ?_, hlt, ?_⟩
     · rw [e1]
       simp only
       unfold cjoinM
       rw [e2]
       rfl
     · intro y hy
       simp only [List.mem_append, List.mem_cons, not_or] at hy
       refine (D2.other y fun hm => ?_).trans (o1 y hy.1)
       rcases List.mem_append.1 hm with hm | hm
       · exact hy.1 (htr y hm)
       · rcases List.mem_cons.1 hm with hm | hm
         · exact hy.2.1 hm
         · exact hy.2.2 hm
     · rcases hm with ⟨e0, e⟩ | ⟨d', n0, e0, ek, e, q1, q2, q3⟩
       · left; exact ⟨e0, by rw [iu, e]; simp⟩
       · right
         refine ⟨d', n0, e0, ek, by rw [iu, e]; simp, (D2.other _ fun hm => ?_).trans q1, q2, q3⟩
         have hd' : d'.h ∈ l.hs := List.mem_map.2 ⟨d', by rw [e]; simp, rfl⟩
         rcases List.mem_append.1 hm with hm | hm
         · have : l.hs = tl.hs ++ d'.h :: tr.hs := by unfold Tr.hs; rw [e]; simp
           rw [this] at n1
           exact (List.nodup_cons.1 (List.nodup_append.1 n1).2.1).1 hm
         · exact n3 _ hd' _ hm rfl
     · intro x hx
       rw [iu] at hx
       rcases List.mem_append.1 hx with hx | hx
       · exact hgt x hx
       · rcases List.mem_cons.1 hx with hx | hx
         · rw [hx]; exact c1
         · exact cmpB_trans c1 (s4 x hx)
   · rw [if_neg c1]
     by_cases c2 : 0 < cmpB key d.k
     · rw [if_pos c2]
       have c2' : cmpB d.k key < 0 := by rw [cmpB_swap]; omega
       obtain ⟨tl, m', tr, S1, e1, f1, al, ar, okl, okr, o1, w1, hm, hlt, hgt⟩ := split_fit J key f hf h3 ok2 n5 (fun x hx => ⟨(hb x (by simp [hsi, hx])).1, fun hm => (hb x (by simp [hsi, hx])).2 (by simp [hm])⟩) s5 (by omega) (by omega)
       have hsub : ∀ x ∈ tr.its, x ∈ r.its := fun x hx => by
        rcases hm with ⟨_, e⟩ | ⟨d', _, _, _, e, _⟩ <;> rw [e] <;> simp [hx]
       have hsubl : ∀ x ∈ tl.its, x ∈ r.its := fun x hx => by
        rcases hm with ⟨_, e⟩ | ⟨d', _, _, _, e, _⟩ <;> rw [e] <;> simp [hx]
       have htr : ∀ y ∈ tr.hs, y ∈ r.hs := fun y hy => by
        obtain ⟨x, hx, rfl⟩ := List.mem_map.1 hy
        exact List.mem_map.2 ⟨x, hsub x hx, rfl⟩
       have htl : ∀ y ∈ tl.hs, y ∈ r.hs := fun y hy => by
        obtain ⟨x, hx, rfl⟩ := List.mem_map.1 hy
        exact List.mem_map.2 ⟨x, hsubl x hx, rfl⟩
       have hlh : r.hs = tl.hs ++ tr.hs ∨ ∃ x : It, m' = x.h ∧ r.hs = tl.hs ++ x.h :: tr.hs := by
        rcases hm with ⟨_, e⟩ | ⟨d', _, e0, _, e, _⟩
        · left; unfold Tr.hs; rw [e]; simp
        · right; exact ⟨d', e0, by unfold Tr.hs; rw [e]; simp⟩
       have ntr : tl.hs.Nodup ∧ ∀ y ∈ tl.hs, y ∉ tr.hs := by
        rcases hlh with e | ⟨x, _, e⟩
        · rw [e] at n5; exact ⟨(List.nodup_append.1 n5).1, fun y hy hm => (List.nodup_append.1 n5).2.2 _ hy _ hm rfl⟩
        · rw [e] at n5; exact ⟨(List.nodup_append.1 n5).1, fun y hy hm => (List.nodup_append.1 n5).2.2 _ hy _ (List.mem_cons_of_mem _ hm) rfl⟩
       have hnd2 : (l.hs ++ d.h :: tl.hs).Nodup := List.nodup_append.2 ⟨n1, List.nodup_cons.2 ⟨fun hm => n4 (htl _ hm), ntr.1⟩, fun x hx y hy => n3 x hx y (by
        rcases List.mem_cons.1 hy with hy | hy
        · rw [hy]; simp
        · exact List.mem_cons_of_mem _ (htl y hy))⟩
       have hl1 : At S1 l := h2.frame fun y hy => o1 y fun hm => n3 _ hy _ (List.mem_cons_of_mem _ hm) rfl
       have htrl : tl.its.length ≤ r.its.length := by
        rcases hm with ⟨_, e⟩ | ⟨d', _, _, _, e, _⟩ <;> rw [e] <;> simp
       obtain ⟨u, S2, e2, D2, oku, iu⟩ := J.join f1 hl1 al ok1 okl ((o1 _ n4).trans h1) rfl rfl hnd2 (by omega)
       have hout : ∀ y ∈ tr.hs, y ∉ l.hs ++ d.h :: tl.hs := fun y hy hm => by
        rcases List.mem_append.1 hm with hm | hm
        · exact n3 _ hm _ (List.mem_cons_of_mem _ (htr y hy)) rfl
        · rcases List.mem_cons.1 hm with hm | hm
          · subst hm; exact n4 (htr _ hy)
          · exact ntr.2 y hm hy
       refine ⟨u, m', tr, S2, ?_, D2.fit, D2.at', ar.frame fun y hy => D2.other y (hout y hy), oku, okr, ?_, w1.trans D2.grew, ?_, ?_, hgt⟩
       · rw [e1]
         simp only
         unfold cjoinM
         rw [e2]
         rfl
       · intro y hy
         simp only [List.mem_append, List.mem_cons, not_or] at hy
         refine (D2.other y fun hm => ?_).trans (o1 y hy.2.2)
         rcases List.mem_append.1 hm with hm | hm
         · exact hy.1 hm
         · rcases List.mem_cons.1 hm with hm | hm
           · exact hy.2.1 hm
           · exact hy.2.2 (htl y hm)
       · rcases hm with ⟨e0, e⟩ | ⟨d', n0, e0, ek, e, q1, q2, q3⟩
         · left; exact ⟨e0, by rw [iu, e]; simp⟩
         · right
           refine ⟨d', n0, e0, ek, by rw [iu, e]; simp, (D2.other _ fun hm => ?_).trans q1, q2, q3⟩
           have hd' : d'.h ∈ r.hs := List.mem_map.2 ⟨d', by rw [e]; simp, rfl⟩
           rcases List.mem_append.1 hm with hm | hm
           · exact n3 _ hm _ (List.mem_cons_of_mem _ hd') rfl
           · rcases List.mem_cons.1 hm with hm | hm
             · rw [hm] at hd'; exact n4 hd'
             · have : r.hs = tl.hs ++ d'.h :: tr.hs := by unfold Tr.hs; rw [e]; simp
               rw [this] at n5
               exact (List.nodup_append.1 n5).2.2 _ hm _ (List.mem_cons_self ..) rfl
       · intro x hx
         rw [iu] at hx
         rcases List.mem_append.1 hx with hx | hx
         · exact cmpB_trans (s3 x hx d (List.mem_cons_self ..)) c2'
         · rcases List.mem_cons.1 hx with hx | hx
           · rw [hx]; exact c2'
           · exact hlt x hx
     · rw [if_neg c2]
       have hke : key = d.k := cmpB_eq0 (by omega)
       refine ⟨l, d.h, r, S, rfl, hf, h2, h3, ok1, ok2, fun _ _ => rfl, Grew.refl S, Or.inr ⟨d, _, rfl, hke.symm, rfl, h1, rfl, rfl⟩, ?_, ?_⟩
       · intro x hx; rw [hke]; exact s3 x hx d (List.mem_cons_self ..)
       · intro x hx; rw [hke]; exact s4 x hx
end Tr
