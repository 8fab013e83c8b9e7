/- A region that draws its order, walked by a plan: as in wp_region_mix; and where two operations may come, both orders are walked. -/
import Derived.Test.YtoaabbnieakidaaGreatDoorRGav
namespace Go.Proofs.YtoaabbnieakidaaGreatDoorR.Qw
open Go Go.RowKit
inductive Plan where
  | nil
  | take (i : Nat) (p : Plan)
  | go (i : Nat) (p : Plan)
  | two (i j : Nat) (p q : Plan)
def Plan.len : Plan → Nat
  | .nil => 0
  | .take _ p => p.len + 1
  | .go _ p => p.len + 1
  | .two _ _ p _ => p.len + 1
section
variable {P : Program} {l : List Oper} {md : Region.Mode} {S : World → Prop} {Q : Exit → Act → World → Prop}

def wpPlan (P : Program) (l : List Oper) (Q : Exit → Act → World → Prop) (S : World → Prop) : Plan → Act → World → Prop
  | .nil, a, w => Q .normal a w
  | .take i p, a, w => ∃ o, l[i]? = some o ∧ ∃ v, YieldsIf P l.toArray S o v a ∧ wpPlan P l Q S p (a.put o.dst v) w
  | .go i p, a, w => ∃ o, l[i]? = some o ∧ Region.wanted o (yielded l.toArray a.tmps) = true ∧ o.wp P a w (fun a' w' => S w' ∧ wpPlan P l Q S p a' w') Q
  | .two i j p q, a, w => (∃ o, l[i]? = some o ∧ Region.wanted o (yielded l.toArray a.tmps) = true ∧ o.wp P a w (fun a' w' => S w' ∧ wpPlan P l Q S p a' w') Q) ∧
      (∃ o, l[j]? = some o ∧ Region.wanted o (yielded l.toArray a.tmps) = true ∧ o.wp P a w (fun a' w' => S w' ∧ wpPlan P l Q S q a' w') Q)
def planB (md : Region.Mode) (ops : Array Oper) : Plan → Array Bool → Bool
  | .nil, listed => (Region.ready md ops listed).isEmpty
  | .take i p, listed => (Region.ready md ops listed).contains i && Region.free md ops listed i && planB md ops p (listed.setIfInBounds i true)
  | .go i p, listed => decide (Region.ready md ops listed = [i]) && planB md ops p (listed.setIfInBounds i true)
  | .two i j p q, listed => decide (Region.ready md ops listed = [i, j]) && decide (p.len = q.len) && planB md ops p (listed.setIfInBounds i true) && planB md ops q (listed.setIfInBounds j true)

theorem wpAnyH_plan (hsel : Region.noSelect l.toArray = true) (hQ : ∀ d v c a w, Q (.panic c) (Act.put a d v) w → Q (.panic c) a w) :
    ∀ (p : Plan) (listed : Array Bool) (a : Act) (w : World), planB md l.toArray p listed = true → S w → wpPlan P l Q S p a w → wpAnyH P md l.toArray Q S p.len listed a w
  | .nil, _, _, _, hB, _, h => ⟨by simpa [planB] using hB, h⟩
  | .take i p, listed, a, w, hB, hS, h => by
    simp only [planB, Bool.and_eq_true] at hB
    obtain ⟨⟨hr, hf⟩, hB'⟩ := hB
    obtain ⟨o, h0, v, hy, hK⟩ := h
    have h0' : l.toArray[i]? = some o := by simpa using h0
    exact wpAnyH_take h0' hsel hf hr (fun c a w => hQ _ _ c a w) hy hS (wpAnyH_plan hsel hQ p _ _ _ hB' hS hK)
  | .go j p, listed, a, w, hB, hS, h => by
    simp only [planB, Bool.and_eq_true, decide_eq_true_eq] at hB
    refine ⟨fun h1 => (by rw [hB.1] at h1; cases h1), fun i hi => ?_⟩
    rw [hB.1] at hi
    have hik : i = j := by simpa using hi
    subst hik
    have hrec := fun a' w' (hs : S w') (hq : wpPlan P l Q S p a' w') => wpAnyH_plan hsel hQ p (listed.setIfInBounds i true) a' w' hB.2 hs hq
    obtain ⟨o, h0, hw, hh⟩ := h
    have h0' : l.toArray[i]? = some o := by simpa using h0
    unfold wpOp
    simp only [h0', hw, if_true]
    exact .inl (Oper.wp_mono (fun a' w' h' => ⟨h'.1, hrec a' w' h'.1 h'.2⟩) hh)
  | .two i j p q, listed, a, w, hB, hS, h => by
    simp only [planB, Bool.and_eq_true, decide_eq_true_eq] at hB
    obtain ⟨⟨⟨hr, hlen⟩, hp⟩, hq⟩ := hB
    refine ⟨fun h1 => (by rw [hr] at h1; cases h1), fun k hk => ?_⟩
    rw [hr] at hk
    have hk' : k = i ∨ k = j := by simpa using hk
    rcases hk' with rfl | rfl
    · have hrec := fun a' w' (hs : S w') (hq' : wpPlan P l Q S p a' w') => wpAnyH_plan hsel hQ p (listed.setIfInBounds k true) a' w' hp hs hq'
      obtain ⟨o, h0, hw, hh⟩ := h.1
      have h0' : l.toArray[k]? = some o := by simpa using h0
      unfold wpOp
      simp only [h0', hw, if_true]
      exact .inl (Oper.wp_mono (fun a' w' h' => ⟨h'.1, hrec a' w' h'.1 h'.2⟩) hh)
    · have hrec := fun a' w' (hs : S w') (hq' : wpPlan P l Q S q a' w') => wpAnyH_plan hsel hQ q (listed.setIfInBounds k true) a' w' hq hs hq'
      rw [← hlen] at hrec
      obtain ⟨o, h0, hw, hh⟩ := h.2
      have h0' : l.toArray[k]? = some o := by simpa using h0
      unfold wpOp
      simp only [h0', hw, if_true]
      exact .inl (Oper.wp_mono (fun a' w' h' => ⟨h'.1, hrec a' w' h'.1 h'.2⟩) hh)

def lexPlanB (md : Region.Mode) (ops : Array Oper) (p : Plan) : Bool :=
  Region.noSelect ops && decide (p.len = ops.size) && planB md ops p (Array.replicate ops.size false)
/-- so many takes, from number i on -/
def takes (i : Nat) : Nat → Plan → Plan
  | 0, p => p
  | n + 1, p => .take i (takes (i + 1) n p)
end
end Qw
open Qw

theorem wp_region_plan {P : Program} {id : Nat} {Q : Exit → Act → World → Prop} {a : Act} {w : World} {l : List Oper} (I : World → Prop) (p : Plan) (hm : P.follows .mixedOrders = true) (hB : lexPlanB .any l.toArray p = true)
    (hI : I w.drew) (h : wpPlan P l (NoPanic Q) (InK I) p a w.drew) : (Code.region id l.toArray true).wp P Q a w := by
  simp only [lexPlanB, Bool.and_eq_true, decide_eq_true_eq] at hB
  obtain ⟨⟨hsel, hn⟩, hlex⟩ := hB
  have hS : InK I w.drew := ⟨⟨_, hI⟩, rfl⟩
  refine wp_region_noPanic (wp_region_held_drew (S := InK I) hm hS (fun _ => ?_))
  have := wpAnyH_plan (md := .any) (Q := NoPanic Q) hsel (fun _ _ _ _ _ h => (h : False).elim) p _ a w.drew hlex hS h
  rw [hn] at this
  exact this
theorem plan_take {P : Program} {l : List Oper} {I : World → Prop} {Q : Exit → Act → World → Prop} {i : Nat} {p : Plan} {a : Act} {w : World} (o : Oper) (ho : l[i]? = some o) (v : Value) (hw : Region.wanted o (yielded l.toArray a.tmps) = true) (hr : ∀ w, InK I w → (execOp a.eval o).run P w = .ok (.value v) w)
    (h : wpPlan P l Q (InK I) p (a.put o.dst v) w) : wpPlan P l Q (InK I) (.take i p) a w := ⟨o, ho, v, Or.inl ⟨hw, hr⟩, h⟩
theorem plan_do {P : Program} {l : List Oper} {Q : Exit → Act → World → Prop} {I : World → Prop} {i : Nat} {p : Plan} {a : Act} {w : World} (o : Oper) (ho : l[i]? = some o) (hw : Region.wanted o (yielded l.toArray a.tmps) = true)
    (h : ∀ K' : Act → World → Prop, Shut (∀ a w, I w → wpPlan P l Q (InK I) p a w → K' a w) → Oper.wp P o a w K' Q) : wpPlan P l Q (InK I) (.go i p) a w :=
  ⟨o, ho, hw, h _ (fun _ _ hI hs => ⟨⟨⟨_, hI⟩, rfl⟩, hs⟩)⟩
theorem plan_two {P : Program} {l : List Oper} {Q : Exit → Act → World → Prop} {I : World → Prop} {i j : Nat} {p q : Plan} {a : Act} {w : World} (h1 : wpPlan P l Q (InK I) (.go i p) a w) (h2 : wpPlan P l Q (InK I) (.go j q) a w) : wpPlan P l Q (InK I) (.two i j p q) a w := ⟨h1, h2⟩
theorem plan_nil {P : Program} {l : List Oper} {Q : Exit → Act → World → Prop} {S : World → Prop} {a : Act} {w : World} (h : Q .normal a w) : wpPlan P l (NoPanic Q) S .nil a w := h
end Go.Proofs.YtoaabbnieakidaaGreatDoorR
