/- Trees taken apart and put together: what is asked of a row of roots; Delete: the walks. A region that draws its order, inside a round of the wide fence, walked by a plan: it leaves by its end alone. -/
import Derived.Test.YtoaabbnieakidaaGreatDoorRGbh
import Derived.Test.YtoaabbnieakidaaGreatDoorRGay
import Derived.Test.YtoaabbnieakidaaGreatDoorRGak
namespace Go.Proofs.YtoaabbnieakidaaGreatDoorR
open Go.RowKit Go.BigFrame Go.Maps Go.WideMaps Lf

set_option maxRecDepth 100000 in
set_option maxHeartbeats 1600000 in
theorem asked_row {w : World} {ps : Nat} {S : St} {Y : Nat → Prop} (h : StOn w ps S Y) (hi : Inv S) {kind : Nat} {j c : FuncId} (hk : WayOk kind j c) (key : List UInt8) (hkey : key.length ≤ 1000) (rs : List Nat) (hrn : rs.length ≤ 1000) (hrs : ∀ a ∈ rs, a < 18446744073709551616 ∧ isT S a = true) (rb : Nat) {t : TypeId} {fr : Nat × Nat} (hr : w.heap[rb]? = some (.cells (rs.map fun a : Nat => Value.int .u64 (a : Int)).toArray t fr)) :
    Calls Tryz.prog 245 #[PV ps, .int .i64 kind, SV key, .slice (some ⟨rb, 0, none⟩) rs.length rs.length] w fun e w' => e = .returned (.tuple #[cutV ps j c, .int .i64 0]) ∧ Below w.heap.size w w' := by
  have q0 := heap_alloc_new w (.cells #[.pointer none, .nilFunc, .nilFunc] 343)
  have B0 := (Below.refl w.heap.size w).alloc (Nat.le_refl _) (.cells #[.pointer none, .nilFunc, .nilFunc] 343)
  have hlen := st_len (h.below B0) hi 0 (by omega)
  rw [len_zero] at hlen
  have hg := fun W (hW : Below w.heap.size w W) a (ha : a < 18446744073709551616) => node_get (h.below hW) hi a ha
  have hz : ∀ a er : Nat, isT S a = true → (getNode S a).2 = er → (((a : Int) != 0) && ((er : Int) != 0)) = false := fun a er hta he => by
    unfold isT at hta
    simp only [he, Bool.or_eq_true, decide_eq_true_eq] at hta
    rcases hta with e | e <;> simp [e]
  have hk1 : (1000 < (key.length : Int)) = False := eq_false (by omega)
  obtain ⟨n, hn⟩ : ∃ n, rs.length = n := ⟨_, rfl⟩
  rw [hn] at hrn ⊢
  simp only [cutV, WayOk, fnV, ndV] at hk hg ⊢
  have HG := Lib.hid (And.intro hlen (And.intro hk (And.intro q0 (And.intro B0 (And.intro hg (And.intro hr (And.intro hz (And.intro hrs hn))))))))
  clear hlen hk h hi q0 B0 hg hr hz hrs hn
  go_enter Tryz.func245, Tryz.ntmps245
  go_wp2_with fail
  refine HG.out.1.mono ?_
  rintro e w1 ⟨rfl, rfl⟩
  go_wp2_with fail
  refine (HG.out.2.1 _).mono ?_
  rintro e w2 ⟨rfl, hb2⟩
  have hal := hb2.alloc hb2.size (.cells #[.func (.func j) #[] #[], .func (.func c) #[] #[]] 341)
  have r2 := (hal.block w.heap.size (by simp)).trans HG.out.2.2.1
  have q2 := heap_alloc_new w2 (.cells #[.func (.func j) #[] #[], .func (.func c) #[] #[]] 341)
  have B2 := HG.out.2.2.2.1.trans (hal.mono HG.out.2.2.2.1.size)
  have hsz2 : w.heap.size < w2.heap.size := by have := hb2.size; simp at this; omega
  go_wp2_with fail
  generalize w2.alloc (.cells #[.func (.func j) #[] #[], .func (.func c) #[] #[]] 341) = W at *
  generalize w2.heap.size = bt at *
  have HR := Lib.hid (And.intro r2 (And.intro B2 (And.intro q2 hsz2)))
  clear r2 B2 hb2 hal q2 hsz2
  go_loopw [15, 16, 17, 40] (fun _ _ _ i wr => ∃ k : Nat, k ≤ n ∧ i = .int .i64 k ∧ Below W.heap.size W wr) (fun _ _ _ i _ => n - (intOf i).toNat)
  case atStart => exact ⟨0, by omega, rfl, Below.refl _ _⟩
  case round =>
    obtain ⟨k, hkn, rfl, hW⟩ := hrel
    by_cases hlt : k < n
    · have hlt' : (k : Int) < n := by omega
      have hkr : k < rs.length := by rw [HG.out.2.2.2.2.2.2.2.2]; exact hlt
      have hbr := ((HR.out.2.1.trans (hW.mono HR.out.2.1.size)).block rb (Array.getElem?_eq_some_iff.1 HG.out.2.2.2.2.2.1).1).trans HG.out.2.2.2.2.2.1
      obtain ⟨ha, hta⟩ := HG.out.2.2.2.2.2.2.2.1 rs[k] (List.getElem_mem hkr)
      have c0 : wr.cell? ⟨rb, k, none⟩ = some (.int .u64 (rs[k] : Nat)) := by rw [cell_of_block hbr]; simp [hkr]
      have hgk := fun W hW => HG.out.2.2.2.2.1 W hW rs[k] ha
      have hzk := fun er => HG.out.2.2.2.2.2.2.1 rs[k] er hta
      generalize rs[k] = a at *
      obtain ⟨⟨⟨a0, a1, a2, a3, a4, a5⟩, ea⟩, hEa⟩ : ∃ q, getNode S a = q := ⟨_, rfl⟩
      rw [hEa] at hgk hzk
      have hzk := hzk ea rfl
      simp only at hgk
      have HW := Lib.hid (And.intro hW (And.intro hgk hzk))
      clear hW hbr hgk hzk hEa hta ha
      go_wp2_with fail
      refine (HW.out.2.1 _ (HR.out.2.1.trans (HW.out.1.mono HR.out.2.1.size))).mono ?_
      rintro e w5 ⟨rfl, hb5⟩
      have H5 := Lib.hid ((HW.out.1.trans (hb5.mono HW.out.1.size)).alloc (HW.out.1.trans (hb5.mono HW.out.1.size)).size (.cells #[.int .u64 a0, .int .u64 a1, .int .u64 a2, .int .u64 a3, .int .u64 a4, .int .u64 a5] 274))
      clear hb5
      have hz := HW.out.2.2
      go_wp2_with fail
      all_goals exact ⟨⟨k + 1, by omega, by simp, H5.out⟩, by simp [intOf]; omega⟩
    · obtain rfl : k = n := by omega
      obtain ⟨r2, B2, q2, -⟩ := HR.out
      replace B2 := B2.trans (hW.mono B2.size)
      replace r2 := (hW.block _ (Array.getElem?_eq_some_iff.1 r2).1).trans r2
      replace q2 := (hW.block _ (Array.getElem?_eq_some_iff.1 q2).1).trans q2
      have c0 : (wr).cell? ⟨w.heap.size, 0, none⟩ = some (.pointer none) := by rw [cell_of_block r2]; rfl
      have c1 : (wr).cell? ⟨w.heap.size, 1, none⟩ = some (.nilFunc) := by rw [cell_of_block r2]; rfl
      have c2 : (wr).cell? ⟨w.heap.size, 2, none⟩ = some (.nilFunc) := by rw [cell_of_block r2]; rfl
      have f0 : (wr).frozen? ⟨w.heap.size, 0, none⟩ = false := frozen_of_block r2
      have f1 : (wr).frozen? ⟨w.heap.size, 1, none⟩ = false := frozen_of_block r2
      have f2 : (wr).frozen? ⟨w.heap.size, 2, none⟩ = false := frozen_of_block r2
      have d0 : (wr).cell? ⟨bt, 0, none⟩ = some (.func (.func j) #[] #[]) := by rw [cell_of_block q2]; rfl
      have d1 : (wr).cell? ⟨bt, 1, none⟩ = some (.func (.func c) #[] #[]) := by rw [cell_of_block q2]; rfl
      have HX := Lib.hid (And.intro r2 B2)
      clear r2 B2 q2
      go_wp2_with fail
      have q3 := st3_heap HX.out.1 (PV ps) (.func (.func j) #[] #[]) (.func (.func c) #[] #[])
      have B3 := st3_below HX.out.2 (Nat.le_refl w.heap.size) (PV ps) (.func (.func j) #[] #[]) (.func (.func c) #[] #[])
      generalize (((wr.setCell ⟨w.heap.size, 0, none⟩ (PV ps)).setCell ⟨w.heap.size, 1, none⟩ (.func (.func j) #[] #[])).setCell ⟨w.heap.size, 2, none⟩ (.func (.func c) #[] #[])) = W3 at *
      have e0 : (W3).cell? ⟨w.heap.size, 0, none⟩ = some (PV ps) := by rw [cell_of_block q3]; rfl
      have e1 : (W3).cell? ⟨w.heap.size, 1, none⟩ = some (.func (.func j) #[] #[]) := by rw [cell_of_block q3]; rfl
      have e2 : (W3).cell? ⟨w.heap.size, 2, none⟩ = some (.func (.func c) #[] #[]) := by rw [cell_of_block q3]; rfl
      exact bodyPost_ret (v := .tuple #[.agg #[PV ps, .func (.func j) #[] #[], .func (.func c) #[] #[]], .int .i64 0]) (by simp [results, Tryz.f245, go_sem, e0, e1, e2]) rfl ⟨rfl, B3⟩
end Go.Proofs.YtoaabbnieakidaaGreatDoorR

namespace Go.Proofs.YtoaabbnieakidaaGreatDoorR.Qx
open Go Go.RowKit Qw Qu

/-- Q at a region's end, no other way out -/
def Only (Q : Exit → Act → World → Prop) : Exit → Act → World → Prop
  | .normal, a, w => Q .normal a w
  | _, _, _ => False
theorem Only.imp {Q : Exit → Act → World → Prop} : ∀ (e : Exit) (a : Act) (w : World), Only Q e a w → Q e a w := fun e a w h => by
  cases e <;> first | exact h | exact (h : False).elim
theorem Only.shut {Q : Exit → Act → World → Prop} : ¬ LetsOut (Only Q) := fun ⟨_, _, h⟩ => h
theorem rowsIn_wide {n : Nat} {P : Program} {row : String} {args : Array Value} {w : World} {R : Value → World → Prop} (h : Rows P row args w R) : RowsIn Fence.wide n P row args w R :=
  fun c cs _ => let ⟨v, w', r, s⟩ := h c cs; ⟨v, w', r, stepsIn_wide.2 s⟩
section
variable {P : Program} {ops : Array Oper} {md : Region.Mode} {S : World → Prop} {Q : Exit → Act → World → Prop} {l n : Nat}

theorem wpIn_of_wp {o : Oper} {a : Act} {w : World} {K : Act → World → Prop} (hnd : ∀ c, o.op ≠ .defer c) (h : o.wp P a w K Q) : o.wpIn (Fence.wide.inRound l) n P a w K Q := by
  refine ⟨fun _ _ => trivial, ?_⟩
  rw [Oper.semAt_eq _ _ _ hnd]
  unfold Oper.wp at h
  generalize (execOp a.eval o).run P w = r at h ⊢
  cases r with
  | ok x w' =>
    cases x with
    | value v => exact h
    | skip => exact h
    | defer d => exact h
    | enter f args => exact ⟨fun hd => (by cases hd), (callsIn_wide.2 h : CallsIn Fence.wide (n - 1) P f args w' _)⟩
    | row row args => exact ⟨fun hd => (by cases hd), rowsIn_wide h⟩
    | _ => exact (h : False).elim
  | halt x w' =>
    cases x <;> first | exact h | exact (h : False).elim
theorem wpAnyIn_of_held (hnd : noDefer ops = true) (hl : ¬ LetsOut Q) : ∀ (fuel : Nat) (listed : Array Bool) (a : Act) (w : World), wpAnyH P md ops Q S fuel listed a w → wpAnyIn (Fence.wide.inRound l) n P md ops Q fuel listed a w
  | 0, _, _, _, h => h
  | fuel + 1, listed, a, w, h => by
    refine ⟨h.1, fun i hi => ?_⟩
    have h2 := h.2 i hi
    unfold wpOp at h2
    unfold wpOpIn
    split
    · rename_i ho
      simp only [ho] at h2
      exact wpAnyIn_of_held hnd hl fuel _ _ _ h2.2
    · rename_i o ho
      simp only [ho] at h2
      split
      · rename_i hw
        simp only [hw, if_true] at h2
        rcases h2 with h2 | h2
        · exact wpIn_of_wp (noDefer_at hnd ho) (Oper.wp_mono (fun a' w' h' => wpAnyIn_of_held hnd hl fuel _ _ _ h'.2) h2)
        · exact absurd h2.2 hl
      · rename_i hw
        simp only [hw] at h2
        exact ⟨fun _ _ => trivial, wpAnyIn_of_held hnd hl fuel _ _ _ h2.2⟩
end
end Qx
open Qw Qu Qx

theorem wpIn_region_plan {P : Program} {id r n : Nat} {Q : Exit → Act → World → Prop} {a : Act} {w : World} {l : List Oper} (I : World → Prop) (p : Plan) (hnd : noDefer l.toArray = true) (hm : P.follows .mixedOrders = true) (hB : lexPlanB .any l.toArray p = true)
    (hI : I w.drew) (h : wpPlan P l (Only Q) (InK I) p a w.drew) : (Code.region id l.toArray true).wpIn (Fence.wide.inRound r) n P Q a w := by
  simp only [lexPlanB, Bool.and_eq_true, decide_eq_true_eq] at hB
  obtain ⟨⟨hsel, hn⟩, hlex⟩ := hB
  have hS : InK I w.drew := ⟨⟨_, hI⟩, rfl⟩
  have := wpAnyH_plan (md := .any) (Q := Only Q) hsel (fun _ _ _ _ _ h => (h : False).elim) p _ a w.drew hlex hS h
  rw [hn] at this
  exact Code.wpIn_mono Only.imp (wpIn_region_any hm (wpAnyIn_of_held hnd Only.shut _ _ _ _ this))
theorem plan_end {P : Program} {l : List Oper} {Q : Exit → Act → World → Prop} {S : World → Prop} {a : Act} {w : World} (h : Q .normal a w) : wpPlan P l (Only Q) S .nil a w := h
end Go.Proofs.YtoaabbnieakidaaGreatDoorR
