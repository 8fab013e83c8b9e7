/- The heap: Alloc: the walk. What texts, blobs, nodes and binary trees compute: plain Lean, no program in sight. The store in memory; what stands of it when blocks are kept: plain. -/
import Derived.Test.YtoaabbnieakidaaGreatDoorRGai
import Derived.Test.YtoaabbnieakidaaGreatDoorRGaa
import Derived.Test.YtoaabbnieakidaaGreatDoorRGag
namespace Go.Proofs.YtoaabbnieakidaaGreatDoorR
open Go.RowKit Go.BigFrame Go.Maps Go.WideMaps Lf
open Go.Shelf

theorem mem_headsFrom {s : Slab} {y : Nat × Head} : ∀ (ks : List Nat) (nx : Nat), y ∈ headsFrom s nx ks → y.1 ∈ ks ∧ y.2 = getH s y.1
  | [], _, h => by simp [headsFrom] at h
  | p :: r, nx, h => by
    unfold headsFrom at h
    split at h
    · have := mem_headsFrom r nx h
      exact ⟨List.mem_cons_of_mem _ this.1, this.2⟩
    · rcases List.mem_cons.1 h with rfl | h
      · exact ⟨List.mem_cons_self, rfl⟩
      · have := mem_headsFrom r _ h
        exact ⟨List.mem_cons_of_mem _ this.1, this.2⟩
theorem spotIn_mem {c p k : Nat} : ∀ (q : List (Nat × Head)), spotIn c q = some (p, k) → (∃ x, (p, x) ∈ q ∧ x.kind = 1 ∧ x.n = c ∧ bitFree x.w (classSlots c) = some k)
  | (p', y) :: q, h => by
    have h1 : spotIn c ((p', y) :: q) = if y.kind ≠ 1 ∨ y.n ≠ c then spotIn c q else match bitFree y.w (classSlots c) with | some k => some (p', k) | none => spotIn c q := rfl
    rw [h1] at h
    by_cases hc : y.kind ≠ 1 ∨ y.n ≠ c
    · rw [if_pos hc] at h
      obtain ⟨x, hx, hr⟩ := spotIn_mem q h
      exact ⟨x, List.mem_cons_of_mem _ hx, hr⟩
    · rw [if_neg hc] at h
      have hc1 : y.kind = 1 := by omega
      have hc2 : y.n = c := by omega
      cases hb : bitFree y.w (classSlots c) with
      | some j =>
        rw [hb] at h
        simp only [Option.some.injEq, Prod.mk.injEq] at h
        obtain ⟨rfl, rfl⟩ := h
        exact ⟨y, List.mem_cons_self, hc1, hc2, hb⟩
      | none =>
        rw [hb] at h
        obtain ⟨x, hx, hr⟩ := spotIn_mem q h
        exact ⟨x, List.mem_cons_of_mem _ hx, hr⟩
theorem bitFree_lt {w n k : Nat} (h : bitFree w n = some k) : k < n := by
  unfold bitFree at h
  rw [List.find?_range_eq_some] at h
  simpa using h.2.1
theorem spotH_le {s : Slab} (hw : SlabWF s) {c p k : Nat} (h : spotH s c = some (p, k)) : p ≤ 1048575 ∧ k < 31 := by
  obtain ⟨x, hx, _, _, hb⟩ := spotIn_mem _ h
  have h1 := (mem_headsFrom _ _ hx).1
  have h2 := bitFree_lt hb
  have h3 := classSlots_le c
  exact ⟨hw.top _ h1, by omega⟩
theorem firstRun_le (s : Slab) (n : Nat) : ∀ f p, s.firstRun n f p ≤ p + f
  | 0, p => Nat.le_refl _
  | f + 1, p => by
    unfold Slab.firstRun
    split
    · omega
    · have := firstRun_le s n f (p + 1)
      omega
theorem grant_le {s : Slab} (hw : SlabWF s) {n : Nat} (hn : n ≤ 100) : (s.grant n).1.1 ≤ 409601 := by
  have h1 := hw.room
  have h2 := hw.quota
  have h3 : s.pages.length * n ≤ 4096 * 100 := Nat.mul_le_mul (by omega) hn
  unfold Slab.grant
  split
  · simp
  · split
    · simp
    · have := firstRun_le s n (s.pages.length * n + 1) 0
      simp only
      omega
theorem HeapOn.grant {w : World} {ph pa pm : Nat} {s : Slab} {Y : Nat → Prop} (h : HeapOn w ph pa pm s Y) (n : Nat) (hn : n ≤ 100) :
    Calls Tryz.prog 188 #[PV pa, .int .i64 n] w fun e w' => e = .returned (.tuple #[.int .i64 ((s.grant n).1.1 : Nat), .int .i64 ((s.grant n).1.2 : Nat)]) ∧ HeapOn w' ph pa pm (s.grant n).2 Y ∧ Keep Y w w' := by
  obtain ⟨blk, hs⟩ := h.slab
  refine (slab_grant hs n hn).mono ?_
  rintro e w' ⟨h1, h2, h3⟩
  exact ⟨h1, h.step h2 h3, h3⟩
theorem classOf_lt {n c : Nat} (h : classOf n = some c) : c < 8 := by
  unfold classOf at h
  rw [List.find?_range_eq_some] at h
  simpa using h.2.1
theorem classPages_le {n : Nat} (h : n ≤ 4000) : classPages n ≤ 63 := by
  unfold classPages
  split
  · omega
  · split
    · omega
    · omega

set_option maxRecDepth 100000 in
set_option maxHeartbeats 1600000 in
theorem heap_alloc {w : World} {ph pa pm : Nat} {s : Slab} {Y : Nat → Prop} (h : HeapOn w ph pa pm s Y) (n : Nat) (_ : n ≤ 100000) :
    Calls Tryz.prog 134 #[PV ph, .int .i64 n] w fun e w' => e = .returned (.tuple #[.int .i64 ((allocH s n).1.1 : Nat), .int .i64 ((allocH s n).1.2 : Nat)]) ∧ HeapOn w' ph pa pm (allocH s n).2 Y ∧ Keep Y w w' := by
  have hno := heap_none h
  have hof := fun W => class_of n W
  obtain ⟨R, hR⟩ : ∃ R, allocH s n = R := ⟨_, rfl⟩
  rw [hR]
  rcases ofRes_nat n with ⟨h1, h2, _⟩ | ⟨h1, ⟨c, h2, h3, _⟩ | ⟨h2, h3, h4⟩⟩
  · have hRe : R = ((0, 2), s) := by rw [← hR]; unfold allocH; rw [if_pos h1]
    rw [h2] at hof
    have HG := Lib.hid (And.intro hno (And.intro hof (And.intro hRe h)))
    clear hno hof hRe h hR h1 h2
    go_enter Tryz.func134, Tryz.ntmps134
    go_wp2_with fail
    refine HG.out.1.mono ?_
    rintro e w1 ⟨rfl, rfl⟩
    go_wp2_with fail
    refine (HG.out.2.1 _).mono ?_
    rintro e w2 ⟨rfl, hb2⟩
    have H2 := Lib.hid hb2
    clear hb2
    go_wp2_with fail
    go_ret2
    obtain rfl := HG.out.2.2.1
    exact ⟨rfl, HG.out.2.2.2.below H2.out, HG.out.2.2.2.keep H2.out⟩
  · have hn1 : ¬ (n < 1 ∨ 4000 < n) := by omega
    rw [h3] at hof
    have hc8 := classOf_lt h2
    have hsp := fun W (hW : HeapOn W ph pa pm s Y) => heap_spot hW c (by omega)
    cases hspot : spotH s c with
    | some pk =>
      obtain ⟨p, k⟩ := pk
      have hRe : R = (((takeH s p k).1, 0), (takeH s p k).2) := by rw [← hR]; unfold allocH; rw [if_neg hn1, h2]; simp only [hspot]
      rw [hspot] at hsp
      obtain ⟨hp, hk⟩ := spotH_le h.wf hspot
      have htk := fun W (hW : HeapOn W ph pa pm s Y) => heap_take hW p k (by omega) (by omega)
      generalize takeH s p k = tk at *
      have HG := Lib.hid (And.intro hno (And.intro hof (And.intro hRe (And.intro h (And.intro hsp htk)))))
      clear hno hof hRe h hR h1 h2 h3 hsp htk hspot
      go_enter Tryz.func134, Tryz.ntmps134
      go_wp2_with fail
      refine HG.out.1.mono ?_
      rintro e w1 ⟨rfl, rfl⟩
      go_wp2_with fail
      refine (HG.out.2.1 _).mono ?_
      rintro e w2 ⟨rfl, hb2⟩
      have H2 := Lib.hid (And.intro (HG.out.2.2.2.1.below hb2) (HG.out.2.2.2.1.keep hb2))
      clear hb2
      go_wp2_with fail
      refine (HG.out.2.2.2.2.1 _ H2.out.1).mono ?_
      rintro e w3 ⟨rfl, hb3⟩
      have H3 := Lib.hid (And.intro (H2.out.1.below hb3) (H2.out.2.trans (H2.out.1.keep hb3)))
      clear hb3
      simp only [spotV]
      go_wp2_with fail
      refine (HG.out.2.2.2.2.2 _ H3.out.1).mono ?_
      rintro e w4 ⟨rfl, h4, k4⟩
      have H4 := Lib.hid (And.intro h4 (H3.out.2.trans k4))
      clear h4 k4
      go_wp2_with fail
      go_ret2
      obtain rfl := HG.out.2.2.1
      exact ⟨rfl, H4.out⟩
    | none =>
      rw [hspot] at hsp
      have hgr := fun W (hW : HeapOn W ph pa pm s Y) => hW.grant 1 (by omega)
      have hgl := grant_le h.wf (n := 1) (by omega)
      obtain ⟨⟨⟨gp, ge⟩, gs⟩, hgE⟩ : ∃ g, s.grant 1 = g := ⟨_, rfl⟩
      rw [hgE] at hgr hgl
      simp only at hgr hgl
      cases ge with
      | zero =>
        have hRe : R = (((takeH (putH gs gp ⟨1, c, 0⟩) gp 0).1, 0), (takeH (putH gs gp ⟨1, c, 0⟩) gp 0).2) := by rw [← hR]; unfold allocH; rw [if_neg hn1, h2]; simp only [hspot, hgE]
        have hpu := fun W (hW : HeapOn W ph pa pm gs Y) => heap_put hW gp ⟨1, c, 0⟩ (by omega) (show 1 < 256 by omega) (by simp only; omega) (show 0 < 18446744073709551616 by omega)
        simp only [headV] at hpu
        generalize putH gs gp ⟨1, c, 0⟩ = s2 at *
        have htk := fun W (hW : HeapOn W ph pa pm s2 Y) => heap_take hW gp 0 (by omega) (by omega)
        generalize takeH s2 gp 0 = tk at *
        have HG := Lib.hid (And.intro hno (And.intro hof (And.intro hRe (And.intro h (And.intro hsp (And.intro hgr (And.intro hpu htk)))))))
        clear hno hof hRe h hR h1 h2 h3 hsp htk hspot hgr hpu hgE
        go_enter Tryz.func134, Tryz.ntmps134
        go_wp2_with fail
        refine HG.out.1.mono ?_
        rintro e w1 ⟨rfl, rfl⟩
        go_wp2_with fail
        refine (HG.out.2.1 _).mono ?_
        rintro e w2 ⟨rfl, hb2⟩
        have H2 := Lib.hid (And.intro (HG.out.2.2.2.1.below hb2) (HG.out.2.2.2.1.keep hb2))
        clear hb2
        go_wp2_with fail
        refine (HG.out.2.2.2.2.1 _ H2.out.1).mono ?_
        rintro e w3 ⟨rfl, hb3⟩
        have H3 := Lib.hid (And.intro (H2.out.1.below hb3) (H2.out.2.trans (H2.out.1.keep hb3)))
        have c3 := H3.out.1.cell
        clear hb3
        simp only [spotV]
        go_wp2_with fail
        refine (HG.out.2.2.2.2.2.1 _ H3.out.1).mono ?_
        rintro e w4 ⟨rfl, h4, k4⟩
        have H4 := Lib.hid (And.intro h4 (H3.out.2.trans k4))
        clear h4 k4 c3
        go_wp2_with fail
        refine (HG.out.2.2.2.2.2.2.1 _ H4.out.1).mono ?_
        rintro e w5 ⟨rfl, h5, k5⟩
        have H5 := Lib.hid (And.intro h5 (H4.out.2.trans k5))
        clear h5 k5
        go_wp2_with fail
        refine (HG.out.2.2.2.2.2.2.2 _ H5.out.1).mono ?_
        rintro e w6 ⟨rfl, h6, k6⟩
        have H6 := Lib.hid (And.intro h6 (H5.out.2.trans k6))
        clear h6 k6
        go_wp2_with fail
        go_ret2
        obtain rfl := HG.out.2.2.1
        exact ⟨rfl, H6.out⟩
      | succ ge =>
        have hRe : R = ((0, ge + 1), gs) := by rw [← hR]; unfold allocH; rw [if_neg hn1, h2]; simp only [hspot, hgE]
        have hq1 : (((ge + 1 : Nat) : Int) != 0) = true := by simp; omega
        obtain ⟨g1, hg1⟩ : ∃ g1, ge + 1 = g1 := ⟨_, rfl⟩
        rw [hg1] at hgr hRe hq1
        have hq2 : ¬ (g1 : Int) = 0 := by omega
        have HG := Lib.hid (And.intro hno (And.intro hof (And.intro hRe (And.intro h (And.intro hsp hgr)))))
        clear hno hof hRe h hR h1 h2 h3 hsp hspot hgr hgE hg1
        go_enter Tryz.func134, Tryz.ntmps134
        go_wp2_with fail
        refine HG.out.1.mono ?_
        rintro e w1 ⟨rfl, rfl⟩
        go_wp2_with fail
        refine (HG.out.2.1 _).mono ?_
        rintro e w2 ⟨rfl, hb2⟩
        have H2 := Lib.hid (And.intro (HG.out.2.2.2.1.below hb2) (HG.out.2.2.2.1.keep hb2))
        clear hb2
        go_wp2_with fail
        refine (HG.out.2.2.2.2.1 _ H2.out.1).mono ?_
        rintro e w3 ⟨rfl, hb3⟩
        have H3 := Lib.hid (And.intro (H2.out.1.below hb3) (H2.out.2.trans (H2.out.1.keep hb3)))
        have c3 := H3.out.1.cell
        clear hb3
        simp only [spotV]
        go_wp2_with fail
        refine (HG.out.2.2.2.2.2 _ H3.out.1).mono ?_
        rintro e w4 ⟨rfl, h4, k4⟩
        have H4 := Lib.hid (And.intro h4 (H3.out.2.trans k4))
        clear h4 k4 c3
        go_wp2_with fail
        go_ret2
        obtain rfl := HG.out.2.2.1
        exact ⟨rfl, H4.out⟩
  · have hn1 : ¬ (n < 1 ∨ 4000 < n) := by omega
    rw [h3] at hof
    have hpgs := fun W => class_pages n W h1.2 h1.1
    have hcp := classPages_le h1.2
    have hgr := fun W (hW : HeapOn W ph pa pm s Y) => hW.grant (classPages n) (by omega)
    have hgl := grant_le h.wf (n := classPages n) (by omega)
    obtain ⟨np, hnp⟩ : ∃ np, classPages n = np := ⟨_, rfl⟩
    rw [hnp] at hpgs hcp hgr hgl
    obtain ⟨⟨⟨gp, ge⟩, gs⟩, hgE⟩ : ∃ g, s.grant np = g := ⟨_, rfl⟩
    rw [hgE] at hgr hgl
    simp only at hgr hgl
    cases ge with
    | zero =>
      have hRe : R = ((gp * 64 + 2, 0), putH gs gp ⟨2, np, n⟩) := by rw [← hR]; unfold allocH; rw [if_neg hn1, h2, hnp]; simp only [hgE]
      have hpu := fun W (hW : HeapOn W ph pa pm gs Y) => heap_put hW gp ⟨2, np, n⟩ (by omega) (show 2 < 256 by omega) (by simp only; omega) (by simp only; omega)
      simp only [headV] at hpu
      generalize putH gs gp ⟨2, np, n⟩ = s2 at *
      have hn4 : n ≤ 4000 := h1.2
      have HG := Lib.hid (And.intro hno (And.intro hof (And.intro hRe (And.intro h (And.intro hpgs (And.intro hgr hpu))))))
      clear hno hof hRe h hR h1 h2 h3 h4 hpgs hgr hpu hgE hnp
      go_enter Tryz.func134, Tryz.ntmps134
      go_wp2_with fail
      refine HG.out.1.mono ?_
      rintro e w1 ⟨rfl, rfl⟩
      go_wp2_with fail
      refine (HG.out.2.1 _).mono ?_
      rintro e w2 ⟨rfl, hb2⟩
      have H2 := Lib.hid (And.intro (HG.out.2.2.2.1.below hb2) (HG.out.2.2.2.1.keep hb2))
      clear hb2
      go_wp2_with fail
      refine (HG.out.2.2.2.2.1 _).mono ?_
      rintro e w3 ⟨rfl, hb3⟩
      have H3 := Lib.hid (And.intro (H2.out.1.below hb3) (H2.out.2.trans (H2.out.1.keep hb3)))
      have c3 := H3.out.1.cell
      clear hb3
      go_wp2_with fail
      refine (HG.out.2.2.2.2.2.1 _ H3.out.1).mono ?_
      rintro e w4 ⟨rfl, h4, k4⟩
      have H4 := Lib.hid (And.intro h4 (H3.out.2.trans k4))
      clear h4 k4 c3
      go_wp2_with fail
      refine (HG.out.2.2.2.2.2.2 _ H4.out.1).mono ?_
      rintro e w5 ⟨rfl, h5, k5⟩
      have H5 := Lib.hid (And.intro h5 (H4.out.2.trans k5))
      clear h5 k5
      go_wp2_with fail
      go_ret2
      obtain rfl := HG.out.2.2.1
      exact ⟨by simp, H5.out⟩
    | succ ge =>
      have hRe : R = ((0, ge + 1), gs) := by rw [← hR]; unfold allocH; rw [if_neg hn1, h2, hnp]; simp only [hgE]
      have hq1 : (((ge + 1 : Nat) : Int) != 0) = true := by simp; omega
      obtain ⟨g1, hg1⟩ : ∃ g1, ge + 1 = g1 := ⟨_, rfl⟩
      rw [hg1] at hgr hRe hq1
      have hq2 : ¬ (g1 : Int) = 0 := by omega
      have HG := Lib.hid (And.intro hno (And.intro hof (And.intro hRe (And.intro h (And.intro hpgs hgr)))))
      clear hno hof hRe h hR h1 h2 h3 h4 hpgs hgr hgE hnp hg1
      go_enter Tryz.func134, Tryz.ntmps134
      go_wp2_with fail
      refine HG.out.1.mono ?_
      rintro e w1 ⟨rfl, rfl⟩
      go_wp2_with fail
      refine (HG.out.2.1 _).mono ?_
      rintro e w2 ⟨rfl, hb2⟩
      have H2 := Lib.hid (And.intro (HG.out.2.2.2.1.below hb2) (HG.out.2.2.2.1.keep hb2))
      clear hb2
      go_wp2_with fail
      refine (HG.out.2.2.2.2.1 _).mono ?_
      rintro e w3 ⟨rfl, hb3⟩
      have H3 := Lib.hid (And.intro (H2.out.1.below hb3) (H2.out.2.trans (H2.out.1.keep hb3)))
      have c3 := H3.out.1.cell
      clear hb3
      go_wp2_with fail
      refine (HG.out.2.2.2.2.2 _ H3.out.1).mono ?_
      rintro e w4 ⟨rfl, h4, k4⟩
      have H4 := Lib.hid (And.intro h4 (H3.out.2.trans k4))
      clear h4 k4 c3
      go_wp2_with fail
      go_ret2
      obtain rfl := HG.out.2.2.1
      exact ⟨rfl, H4.out⟩
end Go.Proofs.YtoaabbnieakidaaGreatDoorR

namespace Go.Proofs.YtoaabbnieakidaaGreatDoorR.Lf

/-! ### texts -/
def many (n : Nat) : Nat := if 1000 < n then 0 else 1 + (n + 7) / 8
/-- eight bytes as a word, the first one highest; no byte is 0 -/
def chunk (l : List UInt8) : Nat := (List.range 8).foldl (fun n j => n * 256 + (l.getD j 0).toNat) 0
def chunks (l : List UInt8) (m : Nat) : List Nat := (List.range m).map fun i => chunk (l.drop (8 * i))
def wordsOf (l : List UInt8) : List Nat := l.length :: chunks l ((l.length + 7) / 8)
def bytesOf (ws : List Nat) (n : Nat) : List UInt8 := (List.range n).map fun i => UInt8.ofNat (ws.getD (1 + i / 8) 0 / 256 ^ (7 - i % 8))
def textOf (ws : List Nat) : Option (List UInt8) :=
  match ws with
  | [] => none
  | n :: _ => if 1000 < n ∨ many n ≠ ws.length then none else if wordsOf (bytesOf ws n) = ws then some (bytesOf ws n) else none
/-- -1, 0, 1 -/
def cmpB : List UInt8 → List UInt8 → Int
  | [], [] => 0
  | [], _ :: _ => -1
  | _ :: _, [] => 1
  | a :: l, b :: m => if a < b then -1 else if b < a then 1 else cmpB l m

/-! ### blobs -/
def putWords (s : St) (h : Nat) : Nat → List Nat → St
  | _, [] => s
  | k, w :: r => putWords (s.put h k w).2 h (k + 1) r
def putBlob (s : St) (t : List UInt8) : (Nat × Nat) × St :=
  if 1000 < t.length then ((0, 4), s)
  else match s.make (many t.length) with
    | ((h, 0), s1) => ((h, 0), putWords s1 h 0 (wordsOf t))
    | ((_, e), s1) => ((0, e), s1)
def recWords (s : St) (h : Nat) : List Nat := (List.range (s.len h).1).map fun k => (s.get h k).1
def getBlob (s : St) (h : Nat) : List UInt8 × Nat :=
  match s.len h with
  | (_, 0) => match textOf (recWords s h) with
    | some t => (t, 0)
    | none => ([], 8)
  | (_, e) => ([], e)
def dropBlob (s : St) (h : Nat) : Nat × St :=
  match getBlob s h with
  | (_, 0) => s.drop h
  | (_, e) => (e, s)

/-! ### nodes -/
structure Nd where
  key : Nat
  val : Nat
  left : Nat
  right : Nat
  mark : Nat
  size : Nat
deriving DecidableEq
def Nd.zero : Nd := ⟨0, 0, 0, 0, 0, 0⟩
def askedN (s : St) (h : Nat) : Nat :=
  match s.len h with
  | (n, 0) => if n ≠ 6 then 8 else 0
  | (_, e) => e
def getNode (s : St) (h : Nat) : Nd × Nat :=
  match askedN s h with
  | 0 => (⟨(s.get h 0).1, (s.get h 1).1, (s.get h 2).1, (s.get h 3).1, (s.get h 4).1, (s.get h 5).1⟩, 0)
  | e => (Nd.zero, e)
def putNode (s : St) (h : Nat) (n : Nd) : Nat × St :=
  match askedN s h with
  | 0 => (0, putWords s h 0 [n.key, n.val, n.left, n.right, n.mark, n.size])
  | e => (e, s)
def makeNode (s : St) (n : Nd) : (Nat × Nat) × St :=
  match s.make 6 with
  | ((h, 0), s1) => ((h, (putNode s1 h n).1), (putNode s1 h n).2)
  | ((_, e), s1) => ((0, e), s1)
def dropNode (s : St) (h : Nat) : Nat × St :=
  match askedN s h with
  | 0 => s.drop h
  | e => (e, s)

/-! ### binary trees -/
/-- a word as a number of 64 bits with a sign -/
def toI (w : Nat) : Int := if w < 9223372036854775808 then (w : Int) else (w : Int) - 18446744073709551616
def limit (s : St) : Nat := s.words / 8 + 1
def keyOf (s : St) (n : Nd) : List UInt8 := (getBlob s n.key).1
/-- a tree's size, as a word -/
def sizeT (s : St) (h : Nat) : Nat := (getNode s h).1.size
def markT (s : St) (h : Nat) : Nat := (getNode s h).1.mark
/-- the node of a key (0: none), and how many keys are below, as a word -/
def downT (s : St) (k : List UInt8) : Nat → Nat → Nat → Nat × Nat
  | 0, _, below => (0, below)
  | f + 1, root, below =>
    if root = 0 then (0, below)
    else match getNode s root with
      | (n, 0) =>
        if cmpB k (keyOf s n) < 0 then downT s k f n.left below
        else if 0 < cmpB k (keyOf s n) then downT s k f n.right ((below + sizeT s n.left + 1) % 18446744073709551616)
        else (root, (below + sizeT s n.left) % 18446744073709551616)
      | _ => (0, below)
def atT (s : St) : Nat → Nat → Int → Nat × Nat
  | 0, _, _ => (0, 2)
  | f + 1, root, k =>
    match getNode s root with
    | (n, 0) =>
      if k < toI (sizeT s n.left) then atT s f n.left k
      else if toI (sizeT s n.left) < k then atT s f n.right (k - (toI (sizeT s n.left) + 1))
      else (root, 0)
    | _ => (0, 2)
end Go.Proofs.YtoaabbnieakidaaGreatDoorR.Lf

namespace Go.Proofs.YtoaabbnieakidaaGreatDoorR
open Go.RowKit Go.BigFrame Go.Maps Go.WideMaps Lf

theorem TabOn.of_keep {w w' : World} {pt : Nat} {t : Tab} {v : Value} (h : TabOn w pt t v) (hp : w'.heap[pt]? = w.heap[pt]?) (hv : ∀ b, v.ownBlock = some b → w'.heap[b]? = w.heap[b]?) : TabOn w' pt t v where
  wf := h.wf
  hd := hp.trans h.hd
  row := by
    refine ⟨h.row.1, ?_⟩
    rcases h.row.2 with hn | ⟨g, cap, cur, rfl, hb, hg, rest⟩
    · exact Or.inl hn
    · exact Or.inr ⟨g, cap, cur, rfl, hb, (hv g rfl).trans hg, rest⟩
theorem TabOn.own_lt {w : World} {pt : Nat} {t : Tab} {v : Value} (h : TabOn w pt t v) {b : Nat} (hb : v.ownBlock = some b) : b < w.heap.size := by
  rcases h.row.2 with ⟨rfl, _⟩ | ⟨g, cap, cur, rfl, _, hg, _⟩
  · cases hb
  · injection hb with hb
    have hb : g = b := hb
    subst hb
    exact (Array.getElem?_eq_some_iff.1 hg).1

/-- what a store keeps while its heap works: what is to be kept, and all that is not the arena -/
def YS (Y : Nat → Prop) (ps ph pt : Nat) (v : Value) : Nat → Prop := fun k => Y k ∨ k = ps ∨ k = ph ∨ k = tabB ∨ k = pt ∨ v.ownBlock = some k
structure StIn (w : World) (ps pa pm ph pt : Nat) (v : Value) (S : St) (Y : Nat → Prop) : Prop where
  hd : w.heap[ps]? = some (.cells #[.int .i64 S.t.most, .int .u32 S.t.last, PV pa, PV ph, PV pt] 121 (0, 0))
  heap : HeapOn w ph pa pm S.a (YS Y ps ph pt v)
  tab : TabOn w pt S.t v
  off : ∀ k, (Y k ∨ k = ps ∨ k = ph ∨ k = tabB) → k ≠ pt ∧ v.ownBlock ≠ some k
/-- a store in memory: its struct is block ps; no block of it but that is of Y -/
def StOn (w : World) (ps : Nat) (S : St) (Y : Nat → Prop) : Prop := ∃ pa pm ph pt v, StIn w ps pa pm ph pt v S Y

theorem StIn.cells {w : World} {ps pa pm ph pt : Nat} {v : Value} {S : St} {Y : Nat → Prop} (h : StIn w ps pa pm ph pt v S Y) :
    w.cell? ⟨ps, 0, none⟩ = some (.int .i64 S.t.most) ∧ w.cell? ⟨ps, 1, none⟩ = some (.int .u32 S.t.last) ∧ w.cell? ⟨ps, 2, none⟩ = some (PV pa) ∧ w.cell? ⟨ps, 3, none⟩ = some (PV ph) ∧ w.cell? ⟨ps, 4, none⟩ = some (PV pt) := by
  refine ⟨?_, ?_, ?_, ?_, ?_⟩ <;> · rw [cell_of_block h.hd]; rfl
theorem StIn.below {w w' : World} {ps pa pm ph pt : Nat} {v : Value} {S : St} {Y : Nat → Prop} (h : StIn w ps pa pm ph pt v S Y) (hb : Below w.heap.size w w') : StIn w' ps pa pm ph pt v S Y where
  hd := by rw [hb.block ps (Array.getElem?_eq_some_iff.1 h.hd).1]; exact h.hd
  heap := h.heap.below hb
  tab := h.tab.of_keep (hb.block _ h.tab.pt_lt) fun b e => hb.block _ (h.tab.own_lt e)
  off := h.off
theorem StOn.below {w w' : World} {ps : Nat} {S : St} {Y : Nat → Prop} (h : StOn w ps S Y) (hb : Below w.heap.size w w') : StOn w' ps S Y := by
  obtain ⟨pa, pm, ph, pt, v, h⟩ := h
  exact ⟨pa, pm, ph, pt, v, h.below hb⟩
theorem StIn.yl {w : World} {ps pa pm ph pt : Nat} {v : Value} {S : St} {Y : Nat → Prop} (h : StIn w ps pa pm ph pt v S Y) : ∀ k, Y k → k < w.heap.size := fun k hk => h.heap.yl k (Or.inl hk)
theorem StOn.yl {w : World} {ps : Nat} {S : St} {Y : Nat → Prop} (h : StOn w ps S Y) : ∀ k, Y k → k < w.heap.size := by
  obtain ⟨pa, pm, ph, pt, v, h⟩ := h
  exact h.yl
theorem StOn.lt {w : World} {ps : Nat} {S : St} {Y : Nat → Prop} (h : StOn w ps S Y) : ps < w.heap.size := by
  obtain ⟨pa, pm, ph, pt, v, h⟩ := h
  exact (Array.getElem?_eq_some_iff.1 h.hd).1
theorem StOn.keep {w w' : World} {ps : Nat} {S : St} {Y : Nat → Prop} (h : StOn w ps S Y) (hb : Below w.heap.size w w') : Keep Y w w' := Keep.of_below hb h.yl
theorem StOn.drewN {w : World} {ps : Nat} {S : St} {Y : Nat → Prop} (h : StOn w ps S Y) (n : Nat) : StOn (w.drewN n) ps S Y := h.below ⟨rfl, rfl, rfl, Nat.le_refl _, fun _ _ => rfl⟩
theorem StOn.alloc {w : World} {ps : Nat} {S : St} {Y : Nat → Prop} (h : StOn w ps S Y) (o : Obj) : StOn (w.alloc o) ps S Y := h.below ((Below.refl _ w).alloc (Nat.le_refl _) o)
theorem HeapOn.mono' {w : World} {ph pa pm : Nat} {s : Slab} {Y Z : Nat → Prop} (h : HeapOn w ph pa pm s Y) (hz : ∀ k, Z k → Y k) (h1 : Z ph) (h2 : Z tabB) : HeapOn w ph pa pm s Z := h.mono hz h1 h2
theorem StOn.mono {w : World} {ps : Nat} {S : St} {Y Z : Nat → Prop} (h : StOn w ps S Y) (hz : ∀ k, Z k → Y k) : StOn w ps S Z := by
  obtain ⟨pa, pm, ph, pt, v, h⟩ := h
  refine ⟨pa, pm, ph, pt, v, h.hd, h.heap.mono (fun k hk => hk.imp (hz k) id) (Or.inr (Or.inr (Or.inl rfl))) (Or.inr (Or.inr (Or.inr (Or.inl rfl)))), h.tab, fun k hk => h.off k (hk.imp (hz k) id)⟩
/-- what was made since may be kept too -/
theorem StOn.wide {w w' : World} {ps : Nat} {S : St} {Y : Nat → Prop} (h : StOn w ps S Y) (hb : Below w.heap.size w w') : StOn w' ps S (fun k => Y k ∨ (w.heap.size ≤ k ∧ k < w'.heap.size)) := by
  obtain ⟨pa, pm, ph, pt, v, h⟩ := h
  have h' := h.below hb
  refine ⟨pa, pm, ph, pt, v, h'.hd, ?_, h'.tab, ?_⟩
  · refine (h.heap.wide hb).mono ?_ (Or.inr (Or.inr (Or.inl rfl))) (Or.inr (Or.inr (Or.inr (Or.inl rfl))))
    rintro k ((hk | hk) | hk)
    · exact Or.inl (Or.inl hk)
    · exact Or.inr hk
    · exact Or.inl (Or.inr hk)
  · rintro k ((hk | hk) | hk)
    · exact h.off k (Or.inl hk)
    · have h1 := h.tab.pt_lt
      refine ⟨by omega, fun e => ?_⟩
      have := h.tab.own_lt e
      omega
    · exact h.off k (Or.inr hk)
/-- the arena has turned, all else is as it was -/
theorem StIn.arena {w w' : World} {ps pa pm ph pt : Nat} {v : Value} {S : St} {Y : Nat → Prop} (h : StIn w ps pa pm ph pt v S Y) {a : Slab} (ha : HeapOn w' ph pa pm a (YS Y ps ph pt v)) (hk : Keep (YS Y ps ph pt v) w w') : StIn w' ps pa pm ph pt v ⟨a, S.t⟩ Y where
  hd := (hk.block ps (Or.inr (Or.inl rfl))).trans h.hd
  heap := ha
  tab := h.tab.of_keep (hk.block pt (Or.inr (Or.inr (Or.inr (Or.inr (Or.inl rfl)))))) fun b e => hk.block b (Or.inr (Or.inr (Or.inr (Or.inr (Or.inr e)))))
  off := h.off
theorem YS.self {Y : Nat → Prop} {ps ph pt : Nat} {v : Value} {k : Nat} (h : Y k) : YS Y ps ph pt v k := Or.inl h
/-- the table has turned, and its row may lie elsewhere -/
theorem StIn.table {w w' : World} {ps pa pm ph pt : Nat} {v v' : Value} {S : St} {Y : Nat → Prop} (h : StIn w ps pa pm ph pt v S Y) {t : Tab} (ht : TabOn w' pt t v') (hm : t.most = S.t.most ∧ t.last = S.t.last)
    (Z : Nat → Prop) (hZ : ∀ k, k < w.heap.size → k ≠ pt → v.ownBlock ≠ some k → Z k) (hk : Keep Z w w') (hv' : ∀ b, Z b → v'.ownBlock ≠ some b) : StIn w' ps pa pm ph pt v' ⟨S.a, t⟩ Y := by
  have hlt : ∀ k, (Y k ∨ k = ps ∨ k = ph ∨ k = tabB) → k < w.heap.size := fun k hk => h.heap.yl k (by
    rcases hk with hk | hk | hk | hk
    · exact Or.inl hk
    · exact Or.inr (Or.inl hk)
    · exact Or.inr (Or.inr (Or.inl hk))
    · exact Or.inr (Or.inr (Or.inr (Or.inl hk))))
  have hZo : ∀ k, (Y k ∨ k = ps ∨ k = ph ∨ k = tabB) → Z k := fun k hk => hZ k (hlt k hk) (h.off k hk).1 (h.off k hk).2
  obtain ⟨blk, hs⟩ := h.heap.slab
  have hzs : ∀ k, k < w.heap.size → (k = pa ∨ k = pm ∨ ∃ p ∈ S.a.keys, k = blk p) → Z k := fun k hkl hk => by
    have hny : ¬ YS Y ps ph pt v k := by
      rcases hk with rfl | rfl | ⟨p, hp, rfl⟩
      · exact hs.ya
      · exact hs.ym
      · exact hs.yp p hp
    exact hZ k hkl (fun e => hny (Or.inr (Or.inr (Or.inr (Or.inr (Or.inl e)))))) (fun e => hny (Or.inr (Or.inr (Or.inr (Or.inr (Or.inr e))))))
  have hs' : SlabOn w' pa pm S.a (YS Y ps ph pt v) blk := hs.of_keep hk.size fun k hkl hkk => hk.block k (hzs k hkl hkk)
  have hsv : SlabOn w' pa pm S.a (YS Y ps ph pt v') blk := by
    have key : ∀ k, k < w.heap.size → (k = pa ∨ k = pm ∨ ∃ p ∈ S.a.keys, k = blk p) → ¬ YS Y ps ph pt v k → ¬ YS Y ps ph pt v' k := fun k hkl hkk hn hy => by
      rcases hy with hy | hy | hy | hy | hy | hy
      · exact hn (Or.inl hy)
      · exact hn (Or.inr (Or.inl hy))
      · exact hn (Or.inr (Or.inr (Or.inl hy)))
      · exact hn (Or.inr (Or.inr (Or.inr (Or.inl hy))))
      · exact hn (Or.inr (Or.inr (Or.inr (Or.inr (Or.inl hy)))))
      · exact hv' k (hzs k hkl hkk) hy
    refine ⟨hs'.wf, hs'.hd, hs'.map, hs'.pg, hs'.inj, ?_, ?_, ?_, ?_⟩
    · exact key pa (Array.getElem?_eq_some_iff.1 hs.hd).1 (Or.inl rfl) hs.ya
    · exact key pm hs.map.lt (Or.inr (Or.inl rfl)) hs.ym
    · intro p hp
      obtain ⟨l, hl⟩ := keys_mem.1 hp
      exact key _ (Array.getElem?_eq_some_iff.1 (hs.pg _ hl)).1 (Or.inr (Or.inr ⟨p, hp, rfl⟩)) (hs.yp p hp)
    · intro k hkk
      rcases hkk with hy | hy | hy | hy | hy | hy
      · exact hs'.yl k (Or.inl hy)
      · exact hs'.yl k (Or.inr (Or.inl hy))
      · exact hs'.yl k (Or.inr (Or.inr (Or.inl hy)))
      · exact hs'.yl k (Or.inr (Or.inr (Or.inr (Or.inl hy))))
      · exact hs'.yl k (Or.inr (Or.inr (Or.inr (Or.inr (Or.inl hy)))))
      · exact ht.own_lt hy
  have hph := hZo ph (Or.inr (Or.inr (Or.inl rfl)))
  have htb := hZo tabB (Or.inr (Or.inr (Or.inr rfl)))
  have hps := hZo ps (Or.inr (Or.inl rfl))
  refine ⟨?_, ⟨⟨blk, hsv⟩, (hk.block ph hph).trans h.heap.hp, Or.inr (Or.inr (Or.inl rfl)), h.heap.tab.of_block (hk.block _ htb), Or.inr (Or.inr (Or.inr (Or.inl rfl)))⟩, ht, fun k hkk => ⟨(h.off k hkk).1, hv' k (hZo k hkk)⟩⟩
  rw [hk.block ps hps, h.hd, hm.1, hm.2]

/-- records apart, none too long -/
structure Inv (S : St) : Prop where
  len : ∀ (i : Nat) (h : i < S.t.slots.length), S.t.slots[i].is = 1 → S.a.rd (S.t.slots[i].addr + 1) ≤ 3998 ∧ S.t.slots[i].addr ≤ 1152921504606846976
  apart : ∀ (i j : Nat) (hi : i < S.t.slots.length) (hj : j < S.t.slots.length), i ≠ j → S.t.slots[i].is = 1 → S.t.slots[j].is = 1 →
    S.t.slots[i].addr + 2 + S.a.rd (S.t.slots[i].addr + 1) ≤ S.t.slots[j].addr ∨ S.t.slots[j].addr + 2 + S.a.rd (S.t.slots[j].addr + 1) ≤ S.t.slots[i].addr
theorem Lf.St.at_some {S : St} {h k : Nat} (hk : S.t.of h = some k) (hlt : k < S.t.slots.length) : S.at h = (S.t.slots[k].addr, S.a.rd (S.t.slots[k].addr + 1), 0) := by
  unfold St.at
  rw [tab_at_eq hk hlt]
  rfl
theorem Lf.St.at_none {S : St} {h : Nat} (hk : S.t.of h = none) : S.at h = (0, 0, 7) := by
  unfold St.at Tab.at
  rw [hk]
  rfl
theorem Inv.at_le {S : St} (hi : Inv S) (h : Nat) : (S.at h).2.1 ≤ 3998 := by
  cases hk : S.t.of h with
  | none => rw [St.at_none hk]; simp
  | some k =>
    obtain ⟨hlt, h1, _⟩ := Tab.of_lt hk
    rw [St.at_some hk hlt]
    exact (hi.len k hlt h1).1
theorem Inv.addr_le {S : St} (hi : Inv S) (h : Nat) : (S.at h).1 ≤ 1152921504606846976 := by
  cases hk : S.t.of h with
  | none => rw [St.at_none hk]; simp
  | some k =>
    obtain ⟨hlt, h1, _⟩ := Tab.of_lt hk
    rw [St.at_some hk hlt]
    exact (hi.len k hlt h1).2
theorem Lf.St.at_cases (S : St) (h : Nat) : (∃ addr n, S.at h = (addr, n, 0) ∧ S.t.at h = (addr, 0) ∧ S.a.rd (addr + 1) = n) ∨ (S.at h = (0, 0, 7) ∧ S.t.at h = (0, 7)) := by
  cases hk : S.t.of h with
  | none => exact Or.inr ⟨St.at_none hk, by unfold Tab.at; rw [hk]⟩
  | some k =>
    obtain ⟨hlt, _⟩ := Tab.of_lt hk
    exact Or.inl ⟨_, _, St.at_some hk hlt, tab_at_eq hk hlt, rfl⟩
def Lf.St.place (s : St) (h k : Nat) : Nat × Nat :=
  match s.at h with
  | (addr, n, 0) => if k < n then (addr + 2 + k, 0) else (0, 2)
  | (_, _, e) => (0, e)
theorem Lf.St.get_place (S : St) (h k : Nat) : S.get h k = match S.place h k with | (p, 0) => (S.a.rd p, S.a.err p) | (_, e) => (0, e) := by
  unfold St.get St.place
  rcases S.at_cases h with ⟨a, n, h1, _⟩ | ⟨h1, _⟩
  · rw [h1]; simp only; split <;> rfl
  · rw [h1]; rfl
theorem Lf.St.put_place (S : St) (h k w : Nat) : S.put h k w = match S.place h k with | (p, 0) => (S.a.err p, { S with a := S.a.wr p w }) | (_, e) => (e, S) := by
  unfold St.put St.place
  rcases S.at_cases h with ⟨a, n, h1, _⟩ | ⟨h1, _⟩
  · rw [h1]; simp only; split <;> rfl
  · rw [h1]; rfl
theorem Inv.place_le {S : St} (hi : Inv S) (h k : Nat) : (S.place h k).1 ≤ 2305843009213693952 := by
  have h2 := hi.addr_le h
  have h3 := hi.at_le h
  unfold St.place
  rcases S.at_cases h with ⟨a, n, h1, _⟩ | ⟨h1, _⟩
  · rw [h1] at h2 h3 ⊢; simp only at h2 h3 ⊢; split <;> simp; omega
  · rw [h1]; simp
theorem Lf.St.place_cases (S : St) (h k : Nat) : (∃ p, S.place h k = (p, 0)) ∨ (∃ e, S.place h k = (0, e + 1)) := by
  unfold St.place
  rcases S.at_cases h with ⟨a, n, h1, _⟩ | ⟨h1, _⟩
  · rw [h1]; simp only; split
    · exact Or.inl ⟨_, rfl⟩
    · exact Or.inr ⟨1, rfl⟩
  · rw [h1]; exact Or.inr ⟨6, rfl⟩
end Go.Proofs.YtoaabbnieakidaaGreatDoorR
