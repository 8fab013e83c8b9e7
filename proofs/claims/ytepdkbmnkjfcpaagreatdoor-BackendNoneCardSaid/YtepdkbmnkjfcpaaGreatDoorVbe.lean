/- B-trees: two rows of handles beside a store, grown one after the other: the steps. B-trees: insert: its contract. B-trees: insert: what its walk comes to between. Binary trees with their blobs: a pair put: plain. -/
import Derived.Test.YtepdkbmnkjfcpaaGreatDoorVbd
import Derived.Test.YtepdkbmnkjfcpaaGreatDoorVav
import Derived.Test.YtepdkbmnkjfcpaaGreatDoorVam
import Derived.OwnWalk
import Derived.Test.YtepdkbmnkjfcpaaGreatDoorVal
import Derived.Test.YtepdkbmnkjfcpaaGreatDoorVaq
set_option maxRecDepth 100000
namespace Go.Proofs.YtepdkbmnkjfcpaaGreatDoor
open Go.RowKit Go.BigFrame Go.Maps Go.WideMaps Lf Tr
open Go.Shelf
structure Two (w0 w : World) (B ps : Nat) (S : St) (Y : Nat → Prop) (v1 v2 u1 u2 : Value) (m1 m2 : List Nat) : Prop where
  own1 : OwnH w B u1 m1
  own2 : OwnH w B u2 m2
  st : StOn w ps S (fun k => Y k ∨ (w0.heap.size ≤ k ∧ k < w.heap.size))
  keep : Keep (fun k => k < w0.heap.size ∧ v1.ownBlock ≠ some k ∧ v2.ownBlock ≠ some k) w0 w
  p1 : u1.ownBlock = v1.ownBlock ∨ ∃ g, u1.ownBlock = some g ∧ w0.heap.size ≤ g
  p2 : u2.ownBlock = v2.ownBlock ∨ ∃ g, u2.ownBlock = some g ∧ w0.heap.size ≤ g
  apart : ∀ g, u1.ownBlock = some g → u2.ownBlock ≠ some g
  y1 : ∀ g, v1.ownBlock = some g → Y g
  y2 : ∀ g, v2.ownBlock = some g → Y g
theorem Two.swap {w0 w : World} {B ps : Nat} {S : St} {Y : Nat → Prop} {v1 v2 u1 u2 : Value} {m1 m2 : List Nat} (h : Two w0 w B ps S Y v1 v2 u1 u2 m1 m2) : Two w0 w B ps S Y v2 v1 u2 u1 m2 m1 :=
  ⟨h.own2, h.own1, h.st, h.keep.mono fun _ hk => ⟨hk.1, hk.2.2, hk.2.1⟩, h.p2, h.p1, fun g h2 h1 => h.apart g h1 h2, h.y2, h.y1⟩
theorem Two.start {w : World} {B ps : Nat} {S : St} {Y : Nat → Prop} {v1 v2 : Value} {m1 m2 : List Nat} (h : StOn w ps S Y) (o1 : OwnH w B v1 m1) (o2 : OwnH w B v2 m2) (ap : ∀ g, v1.ownBlock = some g → v2.ownBlock ≠ some g) (y1 : ∀ g, v1.ownBlock = some g → Y g) (y2 : ∀ g, v2.ownBlock = some g → Y g) : Two w w B ps S Y v1 v2 v1 v2 m1 m2 :=
  ⟨o1, o2, h.mono fun _ hk => hk.elim id fun h => absurd h.1 (Nat.not_le.2 h.2), Keep.refl _ _, Or.inl rfl, Or.inl rfl, ap, y1, y2⟩
theorem Two.below {w0 w w' : World} {B ps : Nat} {S : St} {Y : Nat → Prop} {v1 v2 u1 u2 : Value} {m1 m2 : List Nat} (h : Two w0 w B ps S Y v1 v2 u1 u2 m1 m2) (hb : Below w.heap.size w w') : Two w0 w' B ps S Y v1 v2 u1 u2 m1 m2 :=
  ⟨h.own1.at fun x e => hb.block x (h.own1.block e).2.1, h.own2.at fun x e => hb.block x (h.own2.block e).2.1,
    (h.st.wide hb).mono fun k hk => by
      rcases hk with hk | hk
      · exact Or.inl (Or.inl hk)
      · by_cases hw : k < w.heap.size
        · exact Or.inl (Or.inr ⟨hk.1, hw⟩)
        · exact Or.inr ⟨by omega, hk.2⟩,
    h.keep.trans (Keep.of_below hb fun k hk => by have := h.keep.size; omega), h.p1, h.p2, h.apart, h.y1, h.y2⟩
theorem Two.ins {w0 w : World} {B ps : Nat} {S : St} {Y : Nat → Prop} {v1 v2 u1 u2 : Value} {m1 m2 : List Nat} (h : Two w0 w B ps S Y v1 v2 u1 u2 m1 m2) (htab : tabB < B) (hB : B ≤ w.heap.size) (hl : m1.length ≤ 1000) {i : Nat} (hi : i ≤ m1.length) {x vb : Nat} (hx : w.heap[vb]? = some (.cells #[.int .u64 x] 43 (0, 0))) (hne : u1.ownBlock ≠ some vb) :
    Calls Tryz.prog 230 #[u1, .int .i64 i, .slice (some ⟨vb, 0, none⟩) 1 1] w fun e w' => ∃ u1', e = .returned u1' ∧ Two w0 w' B ps S Y v1 v2 u1' u2 (m1.take i ++ x :: m1.drop i) m2 ∧ (∀ k, k < w.heap.size → u1.ownBlock ≠ some k → w'.heap[k]? = w.heap[k]?) := by
  refine (ins_step h.st h.own1 (fun g hg => ?_) htab hl hi hx hne hB).mono ?_
  · rcases h.p1 with e | ⟨g', e, hg'⟩
    · exact Or.inl (h.y1 g (by rw [← e]; exact hg))
    · rw [e] at hg
      injection hg with hg
      subst hg
      exact Or.inr ⟨hg', (h.own1.block e).2.1⟩
  · rintro e w' ⟨u1', rfl, I⟩
    have hsz := h.keep.size
    have hsz' := I.grown.size
    refine ⟨u1', rfl, ⟨I.own, I.row h.own2 fun g hg e => h.apart g e hg, I.st.mono fun k hk => ?_, h.keep.trans (I.keep fun k hk => ⟨by omega, fun e => ?_⟩), ?_, h.p2, fun g hg e => ?_, h.y1, h.y2⟩, fun k hk hn => I.other hk hn⟩
    · rcases hk with hk | hk
      · exact Or.inl (Or.inl hk)
      · by_cases hw : k < w.heap.size
        · exact Or.inl (Or.inr ⟨hk.1, hw⟩)
        · exact Or.inr ⟨by omega, hk.2⟩
    · rcases h.p1 with e1 | ⟨g', e1, hg'⟩
      · exact hk.2.1 (by rw [← e1]; exact e)
      · rw [e1] at e
        injection e with e
        omega
    · rcases I.at' with e1 | ⟨g, e1, hg⟩
      · rw [e1]; exact h.p1
      · exact Or.inr ⟨g, e1, by omega⟩
    · rcases I.at' with e1 | ⟨g', e1, hg'⟩
      · exact h.apart g (by rw [← e1]; exact hg) e
      · rw [e1] at hg
        injection hg with hg
        have := (h.own2.block e).2.1
        omega
end Go.Proofs.YtepdkbmnkjfcpaaGreatDoor
namespace Go.Proofs.YtepdkbmnkjfcpaaGreatDoor
open Go.RowKit Go.BigFrame Go.Maps Go.WideMaps Lf Tr
open Go.Shelf
def takeV (bt bl : Nat) : Value := .func (.func 229) #[] #[PV bl, PV bt]
def upC : Option (It × Nat) → Array Value
  | none => #[.bool false, .int .u64 0, .int .u64 0, .int .u64 0]
  | some (m, g) => #[.bool true, .int .u64 m.kh, .int .u64 m.vh, .int .u64 g]
def upV (r : Option (It × Nat)) : Value := .agg (upC r)
def InsAt (d : Nat) : Prop := ∀ {w : World} {ps : Nat} {S : St} {o : Nat → Nat} {Z : Nat → Prop} {bt bl D t : Nat} {v : Value} {L : List Nat} {x : Bt (d + 1)} {e : It} (i : Nat),
  StOn w ps S Z → Bt.Walk S o t x → (Bt.nodes x).Nodup → i + d < 40 → SpOn w bt bl D ps t v L → Spare S t L → (∀ h ∈ L, h ∉ Bt.nodes x) → Z bl → Z bt → (∀ b, v.ownBlock = some b → Z b) → L.length ≤ 1000 →
  (∀ a ∈ Bt.its x, a.k ≠ e.k) → Bt.ItLt (Bt.its x) → e.kh < 18446744073709551616 → e.vh < 18446744073709551616 → Bt.trail (Bt.fullB t e.k x) ≤ L.length →
  Calls Tryz.prog 194 #[trB ps t, .int .u64 (Bt.hd x : Nat), SV e.k, itV e.kh e.vh, takeV bt bl, .int .i64 i] w fun en w' => ∃ (r : Option (It × Nat)) (S' : St) (v' : Value) (L' U : List Nat), en = .returned (upV r) ∧ L = L' ++ U ∧ Bt.Put S S' o t x e U r ∧ StOn w' ps S' Z ∧ Keep (fun k => Z k ∧ k ≠ bl) w w' ∧ SpOn w' bt bl D ps t v' L' ∧ v'.ownBlock = v.ownBlock ∧ U.length = Bt.trail (Bt.fullB t e.k x) ∧ r.isSome = (Bt.fullB t e.k x).all id
end Go.Proofs.YtepdkbmnkjfcpaaGreatDoor
namespace Go.Proofs.YtepdkbmnkjfcpaaGreatDoor
open Go.RowKit Go.BigFrame Go.Maps Go.WideMaps Lf Tr
open Go.Shelf
structure HeldAt (w : World) (ps : Nat) (Z : Nat → Prop) (bt bl D t : Nat) (v : Value) (bN : Nat) (wc : World) (S' : St) (Y : Nat → Prop) (v' : Value) (L' : List Nat) (vk vv vc : Value) (sz : Nat) (ks vs cs : List Nat) : Prop where
  st : StOn wc ps S' Y
  zy : ∀ k, Z k → Y k
  zl : ∀ k, Z k → k < w.heap.size
  zs : Z bl ∧ Z bt ∧ ∀ b, v.ownBlock = some b → Z b
  keep : Keep (fun k => Z k ∧ k ≠ bl) w wc
  sp : SpOn wc bt bl D ps t v' L'
  own : v'.ownBlock = v.ownBlock
  box : wc.heap[bN]? = some (.cells #[vk, vv, vc, .int .u64 sz] 267 (0, 0))
  rows : Rows3 wc (w.heap.size + 3) vk vv vc ks vs cs
  yb : Y bN ∧ Y w.heap.size ∧ Y (w.heap.size + 2)
  yk : ∀ g, (vk.ownBlock = some g ∨ vv.ownBlock = some g ∨ vc.ownBlock = some g) → Y g
  tree : wc.heap[w.heap.size]? = some (.cells #[PV ps, .int .i64 t] 221 (0, 0))
  res : wc.heap[w.heap.size + 2]? = some (.cells #[.bool false, .int .u64 0, .int .u64 0, .int .u64 0] 276 (0, 0))
  at3 : w.heap.size + 3 ≤ bN
theorem SpOn.keeps {w w' : World} {bt bl D ps t : Nat} {v : Value} {L : List Nat} (h : SpOn w bt bl D ps t v L) (e : ∀ k, SpY bt bl v k → w'.heap[k]? = w.heap[k]?) : SpOn w' bt bl D ps t v L :=
  ⟨(e bl (Or.inr (Or.inl rfl))).trans h.box, (e bt (Or.inl rfl)).trans h.tree, h.row.at fun g hg => e g (Or.inr (Or.inr hg)), h.lo⟩
section
variable {w wc wc' : World} {ps : Nat} {Z : Nat → Prop} {bt bl D t : Nat} {v : Value} {bN : Nat} {S' S2 : St} {Y Y' : Nat → Prop} {v' v2 : Value} {L' L2 : List Nat} {vk vv vc uk uv uc : Value} {sz sz' : Nat} {ks vs cs ks' vs' cs' : List Nat}
theorem HeldAt.ne (h : HeldAt w ps Z bt bl D t v bN wc S' Y v' L' vk vv vc sz ks vs cs) : vk.ownBlock ≠ some bN ∧ vv.ownBlock ≠ some bN ∧ vc.ownBlock ≠ some bN := by
  have hb := h.box
  refine ⟨fun q => ?_, fun q => ?_, fun q => ?_⟩
  · obtain ⟨cs, fr, e⟩ := (h.rows.k.block q).2.2
    rw [hb] at e; cases e
  · obtain ⟨cs, fr, e⟩ := (h.rows.v.block q).2.2
    rw [hb] at e; cases e
  · obtain ⟨cs, fr, e⟩ := (h.rows.c.block q).2.2
    rw [hb] at e; cases e
theorem HeldAt.lt (h : HeldAt w ps Z bt bl D t v bN wc S' Y v' L' vk vv vc sz ks vs cs) : bN < wc.heap.size := (Array.getElem?_eq_some_iff.1 h.box).1
theorem HeldAt.spz (h : HeldAt w ps Z bt bl D t v bN wc S' Y v' L' vk vv vc sz ks vs cs) : ∀ k, SpY bt bl v' k → Z k := fun k hk => by
  rcases hk with rfl | rfl | hk
  · exact h.zs.2.1
  · exact h.zs.1
  · exact h.zs.2.2 k (by rw [← h.own]; exact hk)
theorem HeldAt.move (h : HeldAt w ps Z bt bl D t v bN wc S' Y v' L' vk vv vc sz ks vs cs) (st : StOn wc' ps S2 Y') (hy : ∀ k, Y k → Y' k) (kp : Keep (fun k => (Z k ∧ k ≠ bl) ∨ k = w.heap.size ∨ k = w.heap.size + 2) wc wc') (sp : SpOn wc' bt bl D ps t v2 L2) (own : v2.ownBlock = v.ownBlock)
    (box : wc'.heap[bN]? = some (.cells #[uk, uv, uc, .int .u64 sz'] 267 (0, 0))) (rows : Rows3 wc' (w.heap.size + 3) uk uv uc ks' vs' cs') (yk : ∀ g, (uk.ownBlock = some g ∨ uv.ownBlock = some g ∨ uc.ownBlock = some g) → Y' g) : HeldAt w ps Z bt bl D t v bN wc' S2 Y' v2 L2 uk uv uc sz' ks' vs' cs' :=
  ⟨st, fun k hk => hy k (h.zy k hk), h.zl, h.zs, h.keep.trans (kp.mono fun _ hk => Or.inl hk), sp, own, box, rows, ⟨hy _ h.yb.1, hy _ h.yb.2.1, hy _ h.yb.2.2⟩, yk, (kp.block _ (Or.inr (Or.inl rfl))).trans h.tree, (kp.block _ (Or.inr (Or.inr rfl))).trans h.res, h.at3⟩
theorem HeldAt.below (h : HeldAt w ps Z bt bl D t v bN wc S' Y v' L' vk vv vc sz ks vs cs) (hb : Below wc.heap.size wc wc') : HeldAt w ps Z bt bl D t v bN wc' S' (fun k => Y k ∨ (wc.heap.size ≤ k ∧ k < wc'.heap.size)) v' L' vk vv vc sz ks vs cs := by
  have hyl := h.st.yl
  have hsz := h.keep.size
  have hl := h.lt
  refine h.move (h.st.wide hb) (fun k hk => Or.inl hk) (Keep.of_below hb fun k hk => ?_) (h.sp.keeps fun k hk => hb.block k (hyl k (h.zy k (h.spz k hk)))) h.own ((hb.block bN hl).trans h.box) (h.rows.below hb) fun g hg => Or.inl (h.yk g hg)
  rcases hk with hk | rfl | rfl
  · exact hyl k (h.zy k hk.1)
  · exact hyl _ h.yb.2.1
  · exact hyl _ h.yb.2.2
end
structure MidAt (w : World) (ps : Nat) (S : St) (o : Nat → Nat) (Z : Nat → Prop) (bt bl D t : Nat) (v : Value) (L : List Nat) {d : Nat} (x : Bt (d + 1)) (e : It) (bN : Nat) (wc : World) (S' : St) (Y : Nat → Prop) (v' : Value) (L' U : List Nat) (x' : Bt (d + 1)) (vk vv vc : Value) : Prop where
  held : HeldAt w ps Z bt bl D t v bN wc S' Y v' L' vk vv vc (Bt.its x).length (Bt.bn x').keys (Bt.bn x').vals (Bt.bn x').kids
  sum : L = L' ++ U
  mid : Bt.Mid S S' o t x e U x'
  num : U.length + (if (Bn.es x').length = 2 * t then 1 else 0) = Bt.trail (Bt.fullB t e.k x)
  all : decide ((Bn.es x').length = 2 * t) = (Bt.fullB t e.k x).all id
theorem Two.drew {w0 w : World} {B ps : Nat} {S : St} {Y : Nat → Prop} {v1 v2 u1 u2 : Value} {m1 m2 : List Nat} (h : Two w0 w B ps S Y v1 v2 u1 u2 m1 m2) : Two w0 w.drew B ps S Y v1 v2 u1 u2 m1 m2 := h.below (Below.refl _ w).drew
theorem Two.one {w0 w : World} {B ps : Nat} {S : St} {Y : Nat → Prop} {v1 v2 u1 u2 : Value} {m1 m2 : List Nat} (h : Two w0 w B ps S Y v1 v2 u1 u2 m1 m2) (x : Nat) : Two w0 (w.alloc (.cells #[.int .u64 x] 43)) B ps S Y v1 v2 u1 u2 m1 m2 ∧ (w.alloc (.cells #[.int .u64 x] 43)).heap[w.heap.size]? = some (.cells #[.int .u64 x] 43 (0, 0)) ∧ u1.ownBlock ≠ some w.heap.size ∧ u2.ownBlock ≠ some w.heap.size ∧ w.heap.size < (w.alloc (.cells #[.int .u64 x] 43)).heap.size ∧ Below w.heap.size w (w.alloc (.cells #[.int .u64 x] 43)) :=
  ⟨h.below ((Below.refl _ w).alloc (Nat.le_refl _) _), heap_alloc_new w _, fun q => by have := (h.own1.block q).2.1; omega, fun q => by have := (h.own2.block q).2.1; omega, by simp, (Below.refl _ w).alloc (Nat.le_refl _) _⟩
theorem Two.done {w0 w : World} {B ps : Nat} {S : St} {Y : Nat → Prop} {v1 v2 u1 u2 : Value} {m1 m2 : List Nat} (T : Two w0 w B ps S Y v1 v2 u1 u2 m1 m2) {bN sz : Nat} {vc : Value} (hN : w0.heap[bN]? = some (.cells #[v1, v2, vc, .int .u64 sz] 267 (0, 0))) (yN : Y bN) (n1 : v1.ownBlock ≠ some bN) (n2 : v2.ownBlock ≠ some bN) :
    w.heap[bN]? = some (.cells #[v1, v2, vc, .int .u64 sz] 267 (0, 0)) ∧ (w.setCell ⟨bN, 0, none⟩ u1).heap[bN]? = some (.cells #[u1, v2, vc, .int .u64 sz] 267 (0, 0)) ∧ ∀ w', w' = (w.setCell ⟨bN, 0, none⟩ u1).setCell ⟨bN, 1, none⟩ u2 → w'.heap[bN]? = some (.cells #[u1, u2, vc, .int .u64 sz] 267 (0, 0)) ∧ OwnH w' B u1 m1 ∧ OwnH w' B u2 m2 ∧ StOn w' ps S (fun k => Y k ∨ (w0.heap.size ≤ k ∧ k < w.heap.size)) ∧ Keep (fun k => k < w0.heap.size ∧ v1.ownBlock ≠ some k ∧ v2.ownBlock ≠ some k ∧ k ≠ bN) w0 w' ∧ w'.heap.size = w.heap.size := by
  have hlt : bN < w0.heap.size := (Array.getElem?_eq_some_iff.1 hN).1
  have e0 := (T.keep.block bN ⟨hlt, n1, n2⟩).trans hN
  have e1 : (w.setCell ⟨bN, 0, none⟩ u1).heap[bN]? = some (.cells #[u1, v2, vc, .int .u64 sz] 267 (0, 0)) := heap_setCell (i := 0) (v := u1) e0
  have e2 : ((w.setCell ⟨bN, 0, none⟩ u1).setCell ⟨bN, 1, none⟩ u2).heap[bN]? = some (.cells #[u1, u2, vc, .int .u64 sz] 267 (0, 0)) := heap_setCell (i := 1) (v := u2) e1
  have oth : ∀ k, k ≠ bN → ((w.setCell ⟨bN, 0, none⟩ u1).setCell ⟨bN, 1, none⟩ u2).heap[k]? = w.heap[k]? := fun k hk => (heap_setCell_ne hk).trans (heap_setCell_ne hk)
  have q1 : ∀ g, u1.ownBlock = some g → g ≠ bN := fun g hg q => by
    rcases T.p1 with e | ⟨g', e, hg'⟩
    · rw [e] at hg; exact n1 (hg.trans (q ▸ rfl))
    · rw [e] at hg
      have hg : g' = g := Option.some.inj hg
      omega
  have q2 : ∀ g, u2.ownBlock = some g → g ≠ bN := fun g hg q => by
    rcases T.p2 with e | ⟨g', e, hg'⟩
    · rw [e] at hg; exact n2 (hg.trans (q ▸ rfl))
    · rw [e] at hg
      have hg : g' = g := Option.some.inj hg
      omega
  refine ⟨e0, e1, ?_⟩
  rintro w' rfl
  refine ⟨e2, T.own1.at fun g hg => oth g (q1 g hg), T.own2.at fun g hg => oth g (q2 g hg), ?_, ?_, by simp⟩
  · exact T.st.write (b := bN) (Or.inl yN) e0 ⟨by decide, by decide⟩ (by simp) (by simp) fun k _ hk => oth k hk
  · exact ((T.keep.mono fun k hk => ⟨hk.1, hk.2.1, hk.2.2.1⟩).trans (Keep.mark fun b hb => hb.2.2.2)).trans (Keep.mark fun b hb => hb.2.2.2)
section
variable {w wc wc' : World} {ps : Nat} {Z : Nat → Prop} {bt bl D t : Nat} {v : Value} {bN : Nat} {S' S2 : St} {Y Y' : Nat → Prop} {v' v2 : Value} {L' L2 : List Nat} {vk vv vc uk uv uc : Value} {sz sz' : Nat} {ks vs cs ks' vs' cs' : List Nat}
theorem HeldAt.two (h : HeldAt w ps Z bt bl D t v bN wc S' Y v' L' vk vv vc sz ks vs cs) : Two wc wc (w.heap.size + 3) ps S' Y vk vv vk vv ks vs := Two.start h.st h.rows.k h.rows.v h.rows.kv (fun g hg => h.yk g (Or.inl hg)) fun g hg => h.yk g (Or.inr (Or.inl hg))
theorem HeldAt.grow (h : HeldAt w ps Z bt bl D t v bN wc S' Y v' L' vk vv vc sz ks vs cs) (T : Two wc wc' (w.heap.size + 3) ps S' Y vk vv uk uv ks' vs') :
    wc'.heap[bN]? = some (.cells #[vk, vv, vc, .int .u64 sz] 267 (0, 0)) ∧ (wc'.setCell ⟨bN, 0, none⟩ uk).heap[bN]? = some (.cells #[uk, vv, vc, .int .u64 sz] 267 (0, 0)) ∧ HeldAt w ps Z bt bl D t v bN ((wc'.setCell ⟨bN, 0, none⟩ uk).setCell ⟨bN, 1, none⟩ uv) S' (fun k => Y k ∨ (wc.heap.size ≤ k ∧ k < wc'.heap.size)) v' L' uk uv vc sz ks' vs' cs := by
  have hyl := h.st.yl
  have hsz := h.keep.size
  have hl := h.lt
  have h3 := h.at3
  obtain ⟨a0, a1, a2⟩ := T.done h.box h.yb.1 h.ne.1 h.ne.2.1
  refine ⟨a0, a1, ?_⟩
  obtain ⟨b1, b2, b3, b4, b5, b6⟩ := a2 _ rfl
  have hge : ∀ g, (vk.ownBlock = some g ∨ vv.ownBlock = some g ∨ vc.ownBlock = some g) → w.heap.size + 3 ≤ g ∧ g < wc.heap.size := fun g hg => by
    rcases hg with hg | hg | hg
    · exact ⟨(h.rows.k.block hg).1, (h.rows.k.block hg).2.1⟩
    · exact ⟨(h.rows.v.block hg).1, (h.rows.v.block hg).2.1⟩
    · exact ⟨(h.rows.c.block hg).1, (h.rows.c.block hg).2.1⟩
  have kz : ∀ k, k < w.heap.size + 3 → k < wc.heap.size ∧ vk.ownBlock ≠ some k ∧ vv.ownBlock ≠ some k ∧ k ≠ bN := fun k hk => ⟨by omega, fun q => by have := (hge k (Or.inl q)).1; omega, fun q => by have := (hge k (Or.inr (Or.inl q))).1; omega, by omega⟩
  have hbl : ∀ {u u0 : Value}, (u.ownBlock = u0.ownBlock ∨ ∃ g, u.ownBlock = some g ∧ wc.heap.size ≤ g) → (∀ g, u0.ownBlock = some g → vc.ownBlock ≠ some g) → ∀ g, u.ownBlock = some g → vc.ownBlock ≠ some g := fun hu ha g hg q => by
    rcases hu with e | ⟨g', e, hg'⟩
    · exact ha g (e ▸ hg) q
    · rw [e] at hg
      have hg : g' = g := Option.some.inj hg
      have := (hge g (Or.inr (Or.inr q))).2
      omega
  refine h.move b4 (fun k hk => Or.inl hk) (b5.mono fun k hk => kz k ?_) (h.sp.keeps fun k hk => b5.block k (kz k (by have := h.zl k (h.spz k hk); omega))) h.own b1 ⟨b2, b3, ?_, T.apart, hbl T.p1 h.rows.kc, hbl T.p2 h.rows.vc⟩ fun g hg => ?_
  · rcases hk with hk | rfl | rfl
    · have := h.zl k hk.1; omega
    · omega
    · omega
  · refine h.rows.c.at fun g hg => b5.block g ⟨(hge g (Or.inr (Or.inr hg))).2, fun q => h.rows.kc g q hg, fun q => h.rows.vc g q hg, fun q => h.ne.2.2 (q ▸ hg)⟩
  · have hsz6 := b6
    rw [hsz6] at *
    rcases hg with hg | hg | hg
    · rcases T.p1 with e | ⟨g', e, hg'⟩
      · exact Or.inl (h.yk g (Or.inl (e ▸ hg)))
      · exact Or.inr ⟨by rw [e] at hg; have hg : g' = g := Option.some.inj hg; omega, (T.own1.block hg).2.1⟩
    · rcases T.p2 with e | ⟨g', e, hg'⟩
      · exact Or.inl (h.yk g (Or.inr (Or.inl (e ▸ hg))))
      · exact Or.inr ⟨by rw [e] at hg; have hg : g' = g := Option.some.inj hg; omega, (T.own2.block hg).2.1⟩
    · exact Or.inl (h.yk g (Or.inr (Or.inr hg)))
theorem HeldAt.size (h : HeldAt w ps Z bt bl D t v bN wc S' Y v' L' vk vv vc sz ks vs cs) (n : Nat) : HeldAt w ps Z bt bl D t v bN (wc.setCell ⟨bN, 3, none⟩ (.int .u64 n)) S' Y v' L' vk vv vc n ks vs cs := by
  have hl := h.lt
  have h3 := h.at3
  have oth : ∀ k, k ≠ bN → (wc.setCell ⟨bN, 3, none⟩ (.int .u64 n)).heap[k]? = wc.heap[k]? := fun k h1 => heap_setCell_ne h1
  refine h.move (h.st.write (b := bN) h.yb.1 h.box ⟨by decide, by decide⟩ (by simp) (by simp) fun k _ hk => heap_setCell_ne hk) (fun k hk => hk) (Keep.mark fun k hk => ?_) (h.sp.keeps fun k hk => oth k (by have := h.zl k (h.spz k hk); omega)) h.own (heap_setCell (i := 3) (v := .int .u64 n) h.box) ⟨?_, ?_, ?_, h.rows.kv, h.rows.kc, h.rows.vc⟩ h.yk
  · rcases hk with hk | rfl | rfl
    · have := h.zl k hk.1; omega
    · omega
    · omega
  · exact h.rows.k.at fun g hg => oth g fun q => h.ne.1 (q ▸ hg)
  · exact h.rows.v.at fun g hg => oth g fun q => h.ne.2.1 (q ▸ hg)
  · exact h.rows.c.at fun g hg => oth g fun q => h.ne.2.2 (q ▸ hg)
theorem HeldAt.kid (h : HeldAt w ps Z bt bl D t v bN wc S' Y v' L' vk vv vc sz ks vs cs) (st : StOn wc' ps S2 Y) (kp : Keep (fun k => Y k ∧ k ≠ bl) wc wc') (sp : SpOn wc' bt bl D ps t v2 L2) (own : v2.ownBlock = v'.ownBlock) : HeldAt w ps Z bt bl D t v bN wc' S2 Y v2 L2 vk vv vc sz ks vs cs := by
  have hbl := h.zl bl h.zs.1
  have h3 := h.at3
  have q := h.yk
  have row : ∀ g, (vk.ownBlock = some g ∨ vv.ownBlock = some g ∨ vc.ownBlock = some g) → w.heap.size + 3 ≤ g → wc'.heap[g]? = wc.heap[g]? := fun g hg hg3 => kp.block g ⟨h.yk g hg, by omega⟩
  refine h.move st (fun k hk => hk) (kp.mono fun k hk => ?_) sp (own.trans h.own) ((kp.block bN ⟨h.yb.1, by omega⟩).trans h.box) ⟨?_, ?_, ?_, h.rows.kv, h.rows.kc, h.rows.vc⟩ h.yk
  · rcases hk with hk | rfl | rfl
    · exact ⟨h.zy k hk.1, hk.2⟩
    · exact ⟨h.yb.2.1, by omega⟩
    · exact ⟨h.yb.2.2, by omega⟩
  · exact h.rows.k.at fun g hg => row g (Or.inl hg) (h.rows.k.block hg).1
  · exact h.rows.v.at fun g hg => row g (Or.inr (Or.inl hg)) (h.rows.v.block hg).1
  · exact h.rows.c.at fun g hg => row g (Or.inr (Or.inr hg)) (h.rows.c.block hg).1
end
namespace Bt
theorem its_len {t d : Nat} {x : Bt (d + 1)} (h : OkN t x) : (its x).length = (Bn.es x).length + ((Bn.ks x).map fun k => (its k).length).sum := by
  rw [its_mk, weave_length _ _ (by rcases h.rows with h | h; exact Or.inl h.1; exact Or.inr h.1), List.map_map]
  rfl
end Bt
section
variable {w wc : World} {ps : Nat} {Z : Nat → Prop} {bt bl D t : Nat} {v : Value} {bN : Nat} {S S' : St} {o : Nat → Nat} {Y : Nat → Prop} {v' : Value} {L L' U : List Nat} {vk vv vc : Value} {sz k : Nat} {e : It}
end
structure UpAt (w : World) (ps : Nat) (S : St) (o : Nat → Nat) (Z : Nat → Prop) (bt bl D t : Nat) (v : Value) (L : List Nat) {d : Nat} (y : Bt (d + 1)) (e : It) (bN : Nat) (vk vv vc : Value) (sz : Nat) (ks vs cs : List Nat) (b : Nat) (wc : World) (r : Option (It × Nat)) (S4 : St) (Y4 : Nat → Prop) (v4 : Value) (L4 U : List Nat) : Prop where
  held : HeldAt w ps Z bt bl D t v bN wc S4 Y4 v4 L4 vk vv vc sz ks vs cs
  sum : L = L4 ++ U
  put : Bt.Put S S4 o t y e U r
  num : U.length = Bt.trail (Bt.fullB t e.k y)
  all : r.isSome = (Bt.fullB t e.k y).all id
  up : wc.heap[b]? = some (.cells (upC r) 276 (0, 0))
section
variable {w wc wc' : World} {ps : Nat} {Z : Nat → Prop} {bt bl D t : Nat} {v : Value} {bN : Nat} {S S' S2 : St} {o : Nat → Nat} {Y Y' : Nat → Prop} {v' v2 : Value} {L L' L2 : List Nat} {vk vv vc uk uv uc : Value} {sz sz' k : Nat} {ks vs cs ks' vs' cs' : List Nat} {e : It}
theorem HeldAt.other (h : HeldAt w ps Z bt bl D t v bN wc S' Y v' L' vk vv vc sz ks vs cs) {b : Nat} {cs0 : Array Value} {fr : Nat × Nat} (hb : Y b) (h3 : w.heap.size + 3 ≤ b) (hx : wc.heap[b]? = some (.cells cs0 276 fr)) (hz : cs0.size < 64) (kp : Keep (fun k => k ≠ b) wc wc') : HeldAt w ps Z bt bl D t v bN wc' S' Y v' L' vk vv vc sz ks vs cs := by
  have n3 : ∀ {u : Value} {l : List Nat}, OwnH wc (w.heap.size + 3) u l → ∀ g, u.ownBlock = some g → g ≠ b := fun hu g hg q => by
    obtain ⟨cs1, fr1, e1⟩ := (hu.block hg).2.2
    rw [q, hx] at e1
    cases e1
  have nb : bN ≠ b := fun q => by
    have e1 := h.box
    rw [q, hx] at e1
    cases e1
  refine h.move (h.st.write (b := b) hb hx ⟨by decide, by decide⟩ hz kp.size fun k _ hk => kp.block k hk) (fun k hk => hk) (kp.mono fun k hk => ?_) (h.sp.keeps fun k hk => kp.block k (by have := h.zl k (h.spz k hk); omega)) h.own ((kp.block bN nb).trans h.box) ⟨?_, ?_, ?_, h.rows.kv, h.rows.kc, h.rows.vc⟩ h.yk
  · rcases hk with hk | rfl | rfl
    · have := h.zl k hk.1; omega
    · omega
    · omega
  · exact h.rows.k.at fun g hg => kp.block g (n3 h.rows.k g hg)
  · exact h.rows.v.at fun g hg => kp.block g (n3 h.rows.v g hg)
  · exact h.rows.c.at fun g hg => kp.block g (n3 h.rows.c g hg)
end
section
variable {w wc wc' : World} {ps : Nat} {Z : Nat → Prop} {bt bl D t : Nat} {v : Value} {bN : Nat} {S S4 : St} {o : Nat → Nat} {Y : Nat → Prop} {v4 : Value} {L L4 U : List Nat} {vk vv vc : Value} {sz : Nat} {ks vs cs : List Nat} {e : It} {d : Nat} {y : Bt (d + 1)} {r : Option (It × Nat)} {Y1 : Nat → Prop} {w0 : World}
theorem UpAt.new (h : L = L4 ++ U ∧ Bt.Put S S4 o t y e U r ∧ U.length = Bt.trail (Bt.fullB t e.k y) ∧ r.isSome = (Bt.fullB t e.k y).all id ∧ HeldAt w ps Z bt bl D t v bN wc S4 Y v4 L4 vk vv vc sz ks vs cs ∧ Keep (fun k => Y1 k ∧ k ≠ bl) w0 wc) :
    UpAt w ps S o Z bt bl D t v L y e bN vk vv vc sz ks vs cs wc.heap.size (wc.alloc (.cells (upC r) 276)) r S4 (fun k => Y k ∨ (wc.heap.size ≤ k ∧ k < (wc.alloc (.cells (upC r) 276)).heap.size)) v4 L4 U :=
  ⟨h.2.2.2.2.1.below ((Below.refl _ wc).alloc (Nat.le_refl _) _), h.1, h.2.1, h.2.2.1, h.2.2.2.1, heap_alloc_new wc _⟩
theorem UpAt.set (h : L = L4 ++ U ∧ Bt.Put S S4 o t y e U r ∧ U.length = Bt.trail (Bt.fullB t e.k y) ∧ r.isSome = (Bt.fullB t e.k y).all id ∧ HeldAt w ps Z bt bl D t v bN wc S4 Y v4 L4 vk vv vc sz ks vs cs ∧ Keep (fun k => Y1 k ∧ k ≠ bl) w0 wc) {b : Nat} (hb : Y b) (h3 : w.heap.size + 3 ≤ b) {z0 z1 z2 z3 c0 c1 c2 c3 : Value} (hx : wc.heap[b]? = some (.cells #[z0, z1, z2, z3] 276 (0, 0))) (hr : upC r = #[c0, c1, c2, c3]) :
    UpAt w ps S o Z bt bl D t v L y e bN vk vv vc sz ks vs cs b ((((wc.setCell ⟨b, 0, none⟩ (c0)).setCell ⟨b, 1, none⟩ (c1)).setCell ⟨b, 2, none⟩ (c2)).setCell ⟨b, 3, none⟩ (c3)) r S4 Y v4 L4 U :=
  ⟨h.2.2.2.2.1.other hb h3 hx (by simp) ((((Keep.mark fun _ h => h).trans (Keep.mark fun _ h => h)).trans (Keep.mark fun _ h => h)).trans (Keep.mark fun _ h => h)), h.1, h.2.1, h.2.2.1, h.2.2.2.1, by
    rw [hr]
    exact heap_setCell (i := 3) (v := c3) (heap_setCell (i := 2) (v := c2) (heap_setCell (i := 1) (v := c1) (heap_setCell (i := 0) (v := c0) hx)))⟩
theorem UpAt.ne {b : Nat} (h : UpAt w ps S o Z bt bl D t v L y e bN vk vv vc sz ks vs cs b wc r S4 Y v4 L4 U) : b < wc.heap.size ∧ vk.ownBlock ≠ some b ∧ vv.ownBlock ≠ some b ∧ vc.ownBlock ≠ some b ∧ b ≠ bN := by
  have hb := h.up
  refine ⟨(Array.getElem?_eq_some_iff.1 hb).1, fun q => ?_, fun q => ?_, fun q => ?_, fun q => ?_⟩
  · obtain ⟨cs, fr, e⟩ := (h.held.rows.k.block q).2.2
    rw [hb] at e; cases e
  · obtain ⟨cs, fr, e⟩ := (h.held.rows.v.block q).2.2
    rw [hb] at e; cases e
  · obtain ⟨cs, fr, e⟩ := (h.held.rows.c.block q).2.2
    rw [hb] at e; cases e
  · have e := h.held.box
    rw [← q, hb] at e
    injection e with e
    injection e with _ e
    exact absurd e (by decide)
end
theorem Bt.bnok_of {S : St} {o : Nat → Nat} (hf : Fit S o) {t : Nat} (t1 : 2 ≤ t) (t2 : t ≤ 16) {d : Nat} {x : Bt (d + 1)} (hk : ∀ k ∈ Bn.ks x, Bt.At S t k) (ok : Bt.Ok t x) : BnOk t (Bt.bn x) := by
  refine ⟨t1, t2, by unfold Bt.bn; rw [List.length_map]; exact ok.1, by unfold Bt.bn; rw [List.length_map, List.length_map], ?_⟩
  have hq := ok.2.1
  unfold Bt.bn
  simp only [List.length_map]
  by_cases hd0 : d = 0
  · rw [if_pos hd0] at hq; exact Or.inl hq
  · rw [if_neg hd0] at hq
    refine Or.inr ⟨hq, ?_⟩
    rw [Bool.eq_false_iff]
    intro hc
    obtain ⟨k, hkm, e⟩ := List.mem_map.1 (List.contains_iff_mem.1 hc)
    exact (Bt.At.hd_ok hf (hk k hkm)).1 e
section
variable {w wc wc' : World} {ps : Nat} {Z : Nat → Prop} {bt bl D t : Nat} {v : Value} {bN : Nat} {S S4 S2 : St} {o : Nat → Nat} {Y : Nat → Prop} {v4 v2 : Value} {L L4 L2 U : List Nat} {vk vv vc : Value} {sz : Nat} {ks vs cs : List Nat} {e : It} {d : Nat}
end
theorem OwnH.some {w : World} {D : Nat} {v : Value} {l : List Nat} (h : OwnH w D v l) (hl : 0 < l.length) : ∃ b c, v = .slice (some ⟨b, 0, none⟩) l.length c ∧ l.length ≤ c := by
  rcases h.2 with ⟨e, e2⟩ | ⟨b, c, cur, e, hb, hb2, hnc, hcm, hcs, ht⟩
  · exact absurd e2 (by intro q; simp [q] at hl)
  · exact ⟨b, c, e, hnc⟩
theorem HRow.take {w : World} {b n c c' j : Nat} {l : List Nat} (h : HRow w (.slice (some ⟨b, 0, none⟩) n c) l) (hj : j ≤ l.length) : HRow w (.slice (some ⟨b, 0, none⟩) j c') (l.take j) := by
  obtain ⟨A, c1, e, hc⟩ := h
  injection e with e1 e2 e3
  subst e1
  refine ⟨_, c', by rw [List.length_take, Nat.min_eq_left hj], fun k hk => ?_⟩
  have hk2 : k < l.length := by rw [List.length_take] at hk; omega
  obtain ⟨g, o, eg, hg⟩ := hc k hk2
  exact ⟨g, o, eg, by rw [hg, List.getElem_take]⟩
theorem HRow.drop {w : World} {b n c c' j : Nat} {l : List Nat} (h : HRow w (.slice (some ⟨b, 0, none⟩) n c) l) (hj : j ≤ l.length) : HRow w (.slice (some ⟨b, j, none⟩) (n - j) c') (l.drop j) := by
  obtain ⟨A, c1, e, hc⟩ := h
  injection e with e1 e2 e3
  subst e1
  refine ⟨_, c', by rw [List.length_drop, e2], fun k hk => ?_⟩
  have hk2 : j + k < l.length := by rw [List.length_drop] at hk; omega
  obtain ⟨g, o, eg, hg⟩ := hc (j + k) hk2
  injection eg with eg
  injection eg with e4 e5 e6
  subst e4 e5
  exact ⟨b, j, rfl, by rw [List.getElem_drop]; rw [Nat.zero_add] at hg; exact hg⟩
structure CutAt (wc wd : World) (ps : Nat) (S' : St) (Y : Nat → Prop) (bL bR : Nat) (l r : Array Value) : Prop where
  st : StOn wd ps S' (fun k => Y k ∨ k = bL ∨ k = bR)
  yl : ∀ k, Y k → k < wc.heap.size
  kp : Keep Y wc wd
  bl : wd.heap[bL]? = some (.cells l 267 (0, 0))
  br : wd.heap[bR]? = some (.cells r 267 (0, 0))
  ge : wc.heap.size ≤ bL ∧ wc.heap.size ≤ bR ∧ bL ≠ bR
section
variable {wc wd wd' : World} {ps : Nat} {S' S2 : St} {Y : Nat → Prop} {bL bR : Nat} {l r : Array Value}
theorem CutAt.start (st : StOn wc ps S' Y) (l r : Array Value) : CutAt wc ((wc.alloc (.cells l 267)).alloc (.cells r 267)).drew ps S' Y wc.heap.size (wc.heap.size + 1) l r := by
  have z1 : (wc.alloc (.cells l 267)).heap.size = wc.heap.size + 1 := by simp
  have b1 := (Below.refl wc.heap.size wc).alloc (Nat.le_refl _) (.cells l 267)
  have c1 := (Below.refl (wc.alloc (.cells l 267)).heap.size (wc.alloc (.cells l 267))).alloc (Nat.le_refl _) (.cells r 267)
  have b2 := b1.trans (c1.mono (by rw [z1]; omega))
  have q1 := heap_alloc_new wc (.cells l 267)
  have q2 := heap_alloc_new (wc.alloc (.cells l 267)) (.cells r 267)
  have q3 := (c1.block wc.heap.size (by rw [z1]; omega)).trans q1
  rw [z1] at q2
  have hs : ((wc.alloc (.cells l 267)).alloc (.cells r 267)).drew.heap.size = wc.heap.size + 2 := by simp
  refine ⟨(st.wide b2.drew).mono fun k hk => ?_, st.yl, st.keep b2.drew, q3, q2, Nat.le_refl _, by omega, by omega⟩
  rcases hk with hk | rfl | rfl
  · exact Or.inl hk
  · exact Or.inr ⟨Nat.le_refl _, by rw [hs]; omega⟩
  · exact Or.inr ⟨by omega, by rw [hs]; omega⟩
theorem CutAt.lt (h : CutAt wc wd ps S' Y bL bR l r) : bL < wd.heap.size ∧ bR < wd.heap.size := ⟨(Array.getElem?_eq_some_iff.1 h.bl).1, (Array.getElem?_eq_some_iff.1 h.br).1⟩
theorem CutAt.below (h : CutAt wc wd ps S' Y bL bR l r) (hb : Below wd.heap.size wd wd') : CutAt wc wd' ps S' Y bL bR l r :=
  ⟨h.st.below hb, h.yl, h.kp.trans (Keep.of_below hb fun k hk => by have := h.yl k hk; have := h.kp.size; omega), (hb.block _ h.lt.1).trans h.bl, (hb.block _ h.lt.2).trans h.br, h.ge⟩
theorem CutAt.put (h : CutAt wc wd ps S' Y bL bR l r) (st : StOn wd' ps S2 (fun k => Y k ∨ k = bL ∨ k = bR)) (kp : Keep (fun k => Y k ∨ k = bL ∨ k = bR) wd wd') : CutAt wc wd' ps S2 Y bL bR l r :=
  ⟨st, h.yl, h.kp.trans (kp.mono fun _ hk => Or.inl hk), (kp.block _ (Or.inr (Or.inl rfl))).trans h.bl, (kp.block _ (Or.inr (Or.inr rfl))).trans h.br, h.ge⟩
theorem CutAt.setL (h : CutAt wc wd ps S' Y bL bR l r) (hl : l.size < 64) (i : Nat) (v : Value) (l' : Array Value) (e : (wd.setCell ⟨bL, i, none⟩ v).heap[bL]? = some (.cells l' 267 (0, 0))) : CutAt wc (wd.setCell ⟨bL, i, none⟩ v) ps S' Y bL bR l' r :=
  ⟨h.st.write (b := bL) (Or.inr (Or.inl rfl)) h.bl ⟨by decide, by decide⟩ hl (by simp) fun k _ hk => heap_setCell_ne hk, h.yl, h.kp.trans (Keep.mark fun k hk => by have := h.yl k hk; have := h.ge.1; omega), e, (heap_setCell_ne (Ne.symm h.ge.2.2)).trans h.br, h.ge⟩
theorem CutAt.row (h : CutAt wc wd ps S' Y bL bR l r) {v : Value} {u : List Nat} (hu : HRow wc v u) (hy : ∀ g, v.ownBlock = some g → Y g) : HRow wd v u := hu.keeps fun g hg _ => h.kp.block g (hy g hg)
end
section
variable {wc wd : World} {ps : Nat} {S' : St} {Y : Nat → Prop} {bL bR : Nat} {a b c z a' b' c' z' : Value}
end
namespace Bt
theorem Put.same {S S' : St} {o : Nat → Nat} {t d : Nat} {x : Bt (d + 1)} {e : It} {U V : List Nat} {r : Option (It × Nat)} (h : Put S S' o t x e U r) (hv : ∀ y, y ∈ U ↔ y ∈ V) : Put S S' o t x e V r := by
  refine ⟨h.fit, h.grew, fun y h1 h2 => h.fr y h1 fun q => h2 ((hv y).1 q), ?_⟩
  have := h.res
  cases r with
  | none =>
    obtain ⟨y, a, b, c, d, e, f, g⟩ := this
    exact ⟨y, a, b, c, d, e, f, fun z hz => (g z hz).imp id (hv z).1⟩
  | some q =>
    obtain ⟨m, g⟩ := q
    obtain ⟨y1, y2, a1, a2, a3, a4, a5, a6, a7, a8, a9, a10, a11⟩ := this
    exact ⟨y1, y2, a1, a2, a3, a4, a5, a6, a7, a8, a9, a10, fun z hz => (a11 z hz).imp id (hv z).1⟩
end Bt
section
variable {w wc : World} {ps : Nat} {Z : Nat → Prop} {bt bl D t : Nat} {v : Value} {bN : Nat} {S S' : St} {o : Nat → Nat} {Y : Nat → Prop} {v' : Value} {L L' U : List Nat} {vk vv vc : Value} {e : It} {d : Nat} {x x' : Bt (d + 1)}
theorem MidAt.halves (M : MidAt w ps S o Z bt bl D t v L x e bN wc S' Y v' L' U x' vk vv vc) (t1 : 2 ≤ t) (hn : (Bn.es x').length = 2 * t) (g : Nat) : Bt.Ok t (Bt.leftOf t x') ∧ Bt.Ok t (Bt.rightOf t x' g) ∧ (Bt.its x').length = (Bt.its (Bt.leftOf t x')).length + 1 + (Bt.its (Bt.rightOf t x' g)).length ∧ (∀ k ∈ Bn.ks (Bt.leftOf t x'), Bt.At S' t k) ∧ (∀ k ∈ Bn.ks (Bt.rightOf t x' g), Bt.At S' t k) ∧ (Bt.its (Bt.rightOf t x' g)).length = (Bn.es x').length - (t + 1) + (((Bn.ks x').drop (t + 1)).map fun k => (Bt.its k).length).sum := by
  obtain ⟨c1, c2, c3, c4, c5⟩ := M.mid.okN.split (by omega) hn g
  refine ⟨c2, c3, ?_, fun k hk => M.mid.kids k (List.mem_of_mem_take hk), fun k hk => M.mid.kids k (List.mem_of_mem_drop hk), ?_⟩
  · have := congrArg List.length c1
    rw [List.length_append, List.length_cons] at this
    omega
  · rw [Bt.its_len c3.okN]
    show ((Bn.es x').drop (t + 1)).length + _ = _
    rw [List.length_drop]
    rfl
theorem MidAt.lts (M : MidAt w ps S o Z bt bl D t v L x e bN wc S' Y v' L' U x' vk vv vc) (t1 : 2 ≤ t) (hn : (Bn.es x').length = 2 * t) (g : Nat) : BnLt (Bt.bn (Bt.leftOf t x')) ∧ BnLt (Bt.bn (Bt.rightOf t x' g)) := by
  have hs := (M.halves t1 hn g).2.2.1
  have hz : (Bt.its x').length < 18446744073709551616 := M.mid.lt.size
  have hes : ∀ q ∈ Bn.es x', q.kh < 18446744073709551616 ∧ q.vh < 18446744073709551616 := fun q hq => ⟨M.mid.lt.keys _ (List.mem_map.2 ⟨q, hq, rfl⟩), M.mid.lt.vals _ (List.mem_map.2 ⟨q, hq, rfl⟩)⟩
  exact ⟨Bt.bnLt_of M.mid.fit (fun q hq => hes q (List.mem_of_mem_take hq)) (fun k hk => M.mid.kids k (List.mem_of_mem_take hk)) (by omega), Bt.bnLt_of M.mid.fit (fun q hq => hes q (List.mem_of_mem_drop hq)) (fun k hk => M.mid.kids k (List.mem_of_mem_drop hk)) (by omega)⟩
end
theorem kid_size {S' : St} {o : Nat → Nat} {t ps : Nat} : ∀ {d : Nat} {k : Bt d}, Fit S' o → 2 ≤ t → t ≤ 16 → Bt.At S' t k → Bt.Ok t k → (Bt.its k).length < 4611686018427387904 → ∀ (W : World) (Yx : Nat → Prop), StOn W ps S' Yx → Calls Tryz.prog 158 #[trB ps t, .int .u64 (Bt.hd k : Nat)] W fun e w' => e = .returned (.int .i64 (Bt.its k).length) ∧ Below W.heap.size W w'
  | 0, k, _, _, _, _, _, _ => nomatch k
  | _ + 1, _, hf, t1, t2, ha, ok, hz => fun _ _ hst => bt_size hst hf.inv (Bt.At.read hf t1 t2 ha ok) hz
section
variable {w wc : World} {ps : Nat} {Z : Nat → Prop} {bt bl D t : Nat} {v : Value} {bN : Nat} {S S' : St} {o : Nat → Nat} {Y : Nat → Prop} {v' : Value} {L L' U : List Nat} {vk vv vc : Value} {e : It} {d : Nat} {x x' : Bt (d + 1)}
theorem MidAt.done (M : MidAt w ps S o Z bt bl D t v L x e bN wc S' Y v' L' U x' vk vv vc) (t1 : 2 ≤ t) (t2 : t ≤ 16) (hn : (Bn.es x').length = 2 * t) {g : Nat} (hU : g ∉ U) (hx : g ∉ Bt.nodes x) {wg : List Nat} (h1 : reco S g = some wg) (h2 : wg.length = 6 * t) (ht : t < (Bn.es x').length) :
    Bt.Put S (putWords (putWords S' (Bn.h x) 0 (bnWords t (Bt.bn (Bt.leftOf t x')))) g 0 (bnWords t (Bt.bn (Bt.rightOf t x' g)))) o t x e (g :: U) (some ((Bn.es x')[t], g)) ∧ (g :: U).length = Bt.trail (Bt.fullB t e.k x) ∧ true = (Bt.fullB t e.k x).all id := by
  have hnum := M.num
  have hall := M.all
  rw [if_pos hn] at hnum
  rw [decide_eq_true hn] at hall
  exact ⟨(M.mid.cut (by omega) t2 hn hU hx h1 h2).same fun y => by simp [or_comm], by rw [List.length_cons]; exact hnum, hall⟩
end
end Go.Proofs.YtepdkbmnkjfcpaaGreatDoor
namespace Go.Proofs.YtepdkbmnkjfcpaaGreatDoor
open Lf
namespace Tr
def putL (l : List (List UInt8 × List UInt8)) (a b : List UInt8) : List (List UInt8 × List UInt8) :=
  l.filter (fun p => decide (cmpB p.1 a < 0)) ++ (a, b) :: l.filter (fun p => decide (0 < cmpB p.1 a))
theorem filters {a : List UInt8} {L M : List (List UInt8 × List UInt8)} (x : List (List UInt8 × List UInt8)) (hx : ∀ p ∈ x, p.1 = a) (hL : ∀ p ∈ L, cmpB p.1 a < 0) (hM : ∀ p ∈ M, cmpB a p.1 < 0) :
    (L ++ x ++ M).filter (fun p => decide (cmpB p.1 a < 0)) = L ∧ (L ++ x ++ M).filter (fun p => decide (0 < cmpB p.1 a)) = M := by
  have h1 : L.filter (fun p => decide (cmpB p.1 a < 0)) = L := List.filter_eq_self.2 fun p hp => by simpa using hL p hp
  have h2 : M.filter (fun p => decide (0 < cmpB p.1 a)) = M := List.filter_eq_self.2 fun p hp => by have := hM p hp; rw [cmpB_swap] at this; simp; omega
  have h3 : L.filter (fun p => decide (0 < cmpB p.1 a)) = [] := List.filter_eq_nil_iff.2 fun p hp => by have := hL p hp; simp; omega
  have h4 : M.filter (fun p => decide (cmpB p.1 a < 0)) = [] := List.filter_eq_nil_iff.2 fun p hp => by have := hM p hp; rw [cmpB_swap] at this; simp; omega
  have h5 : x.filter (fun p => decide (cmpB p.1 a < 0)) = [] := List.filter_eq_nil_iff.2 fun p hp => by rw [hx p hp, cmpB_refl]; simp
  have h6 : x.filter (fun p => decide (0 < cmpB p.1 a)) = [] := List.filter_eq_nil_iff.2 fun p hp => by rw [hx p hp, cmpB_refl]; simp
  constructor
  · rw [List.filter_append, List.filter_append, h1, h4, h5]; simp
  · rw [List.filter_append, List.filter_append, h2, h3, h6]; simp
theorem pairs_append (a b : List It) : pairs (a ++ b) = pairs a ++ pairs b := by unfold pairs; simp
theorem putL_pairs {a b : List UInt8} {tl tr mid : List It} {d : It} (hd : d.k = a ∧ d.v = b) (hm : ∀ x ∈ mid, x.k = a) (h1 : ∀ x ∈ tl, cmpB x.k a < 0) (h2 : ∀ x ∈ tr, cmpB a x.k < 0) :
    pairs (tl ++ d :: tr) = putL (pairs (tl ++ mid ++ tr)) a b := by
  obtain ⟨f1, f2⟩ := filters (a := a) (L := pairs tl) (M := pairs tr) (pairs mid) (fun p hp => by obtain ⟨x, hx, rfl⟩ := List.mem_map.1 hp; exact hm x hx) (fun p hp => by obtain ⟨x, hx, rfl⟩ := List.mem_map.1 hp; exact h1 x hx) (fun p hp => by obtain ⟨x, hx, rfl⟩ := List.mem_map.1 hp; exact h2 x hx)
  unfold putL
  rw [pairs_append, pairs_append, pairs_append, f1, f2]
  show pairs tl ++ (d.k, d.v) :: pairs tr = _
  rw [hd.1, hd.2]
theorem Blobs.frame {S S' : St} {d : It} (h : Blobs S d) (h1 : reco S' d.kh = reco S d.kh) (h2 : reco S' d.vh = reco S d.vh) : Blobs S' d := ⟨h1.trans h.k, h2.trans h.v, h.lk, h.lv⟩
theorem Bin.some {Ok : Tr → Prop} {S : St} {o : Nat → Nat} {t : Tr} (h : Bin Ok S o t) : ∀ y ∈ allH t.its, reco S y ≠ none := by
  intro y hy
  obtain ⟨d, hd, e⟩ := mem_allH.1 hy
  have hb := h.blobs d hd
  rcases e with rfl | rfl | rfl
  · obtain ⟨n, hn⟩ := h.at'.rec d.h (List.mem_map.2 ⟨d, hd, rfl⟩)
    rw [hn]; simp
  · rw [hb.k]; simp
  · rw [hb.v]; simp
theorem Bin.frame {Ok : Tr → Prop} {S S' : St} {o o' : Nat → Nat} {t : Tr} (h : Bin Ok S o t) (hf : Fit S' o') (hs : ∀ y ∈ allH t.its, reco S' y = reco S y) : Bin Ok S' o' t where
  fit := hf
  at' := h.at'.frame fun y hy => by
    obtain ⟨d, hd, rfl⟩ := List.mem_map.1 hy
    exact hs _ (mem_allH.2 ⟨d, hd, Or.inl rfl⟩)
  ok := h.ok
  nd := h.nd
  blobs d hd := (h.blobs d hd).frame (hs _ (mem_allH.2 ⟨d, hd, Or.inr (Or.inl rfl)⟩)) (hs _ (mem_allH.2 ⟨d, hd, Or.inr (Or.inr rfl)⟩))
  sorted := h.sorted
end Tr
end Go.Proofs.YtepdkbmnkjfcpaaGreatDoor
