/- An argument that is a row of sections, opened. -/
import Derived.Test.YtccdipcneabooaaSr
import Derived.SizedLaws
import Derived.Deep.SlicePairs
namespace Go.Proofs.Ytccdipcneabooaa
open Go.RowKit Go.ChangeShapes Go.WideShapes Go.Deep

theorem reach_val : reachBytes = 140737488351232 := by decide
section
variable {H : Type} {enc : TypeId × Value → H}
theorem weights_all {P : Program} {e : TypeId} {n : Nat} : ∀ {l : List (DataW H)} {d : DataW H}, d ∈ l → n ∈ d.weights P e → n ∈ DataW.weightsAll P e l
  | [], _, h, _ => by cases h
  | x :: r, d, h, hn => by
    simp only [DataW.weightsAll, List.mem_append]
    rcases List.mem_cons.1 h with rfl | h
    · exact Or.inl hn
    · exact Or.inr (weights_all h hn)

theorem open_secs {W : World} {v : Value} {d : DataW H} {p : List MemPlace} (t0 : ∃ n, DataW.trod enc Try.prog W 0 (fun _ => true) true n 35 [v] = some (d, p)) (hw : ∀ n ∈ d.weights Try.prog 35, n ≤ reachBytes) :
    ∃ A c l, v = .slice A l.length c ∧ SecsAt W W.heap.size A l ∧ l.length ≤ 4611686018427387904 ∧ ∀ x ∈ l, x.1.size ≤ 140737488351232 ∧ x.2.size ≤ 140737488351232 := by
  obtain ⟨n, t0⟩ := t0
  rcases open_slice_pairs Try.underlying35 Try.underlying50 (by kernel_rfl) rfl rfl (by kernel_rfl) (by kernel_rfl) t0 with ⟨hc, _⟩ | ⟨a, len, cap, m, k, V0, V1, D0, D1, P0, P1, hc, _, hl, hm, hmm, hx, hall⟩
  · simp only [List.cons.injEq, and_true] at hc
    exact ⟨none, 0, [], hc, SecsAt.nil _ _ _, by decide, fun x hx => absurd hx (by simp)⟩
  · simp only [List.cons.injEq, and_true] at hc
    subst hc
    simp only [if_true] at hmm
    subst hmm
    simp only [Prod.mk.injEq] at hx
    obtain ⟨rfl, rfl⟩ := hx
    have hstr : ∀ i, i < len → ∃ q : Sect, V0 i = .string q.1 ∧ V1 i = .string q.2 ∧ D0 i = .lit (.string q.1.data.toList) ∧ D1 i = .lit (.string q.2.data.toList) := fun i hi => by
      obtain ⟨_, _, g0, g1⟩ := hall i (by omega)
      obtain ⟨s0, a1, a2, _⟩ := DataW.trod_string Try.underlying9 g0
      obtain ⟨s1, b1, b2, _⟩ := DataW.trod_string Try.underlying9 g1
      simp only [List.cons.injEq, and_true] at a1 b1
      simp only [Prod.mk.injEq] at a2 b2
      exact ⟨(s0, s1), a1, b1, a2.1, b2.1⟩
    obtain ⟨q, hq⟩ := choose_lt hstr
    have hwl : (len + (m - len)) * 32 ≤ reachBytes := by
      have := hw ((len + (m - len)) * Try.prog.bytesOf 50) (by simp [DataW.weights, Try.underlying35])
      rw [show Try.prog.bytesOf 50 = 32 from by kernel_rfl] at this
      exact this
    have hsz : ∀ i, i < len → (q i).1.size ≤ reachBytes ∧ (q i).2.size ≤ reachBytes := fun i hi => by
      obtain ⟨_, _, d0, d1⟩ := hq i hi
      have hmem : DataW.agg [D0 i, D1 i] ∈ (List.range len).map (fun i => DataW.agg [D0 i, D1 i]) := List.mem_map.2 ⟨i, List.mem_range.2 hi, rfl⟩
      have hin : ∀ n, n ∈ (DataW.agg [D0 i, D1 i]).weights Try.prog 50 → n ≤ reachBytes := fun n hn => hw n (by
        have := weights_all hmem hn
        simp only [DataW.weights, Try.underlying35]
        exact List.mem_cons_of_mem _ (List.mem_append_left _ this))
      rw [d0, d1] at hin
      constructor
      · exact hin (q i).1.size (by simp [DataW.weights, DataW.weightsEach, Try.underlying50])
      · exact hin (q i).2.size (by simp [DataW.weights, DataW.weightsEach, Try.underlying50])
    rw [reach_val] at hwl hsz
    refine ⟨some a, m, (List.range len).map q, by simp, fun i hi => ?_, by simp; omega, fun x hx => ?_⟩
    · have hi' : i < len := by simpa using hi
      obtain ⟨b, o, spot⟩ := a
      obtain ⟨c0, c1, _, _⟩ := hall i (by omega)
      have hspot : spot = none := by simpa [Addr.add] using World.cell?_spot (hall 0 (by omega)).1
      subst hspot
      have add_f : ∀ j, (⟨b, o, none⟩ : Addr).add j = ⟨b, o + j, none⟩ := fun j => by
        unfold Addr.add
        by_cases h : j = 0
        · simp [h]
        · simp [h]
      rw [add_f, (hq i hi').1] at c0
      rw [add_f, (hq i hi').2.1] at c1
      refine ⟨b, o, rfl, World.block_lt_of_cell? _ _ c0, ?_, ?_⟩
      · simpa using c0
      · simpa [Nat.add_assoc] using c1
    · obtain ⟨i, hi, rfl⟩ := List.mem_map.1 hx
      exact hsz i (List.mem_range.1 hi)
end
end Go.Proofs.Ytccdipcneabooaa
