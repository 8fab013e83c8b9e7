/- The arena: Grant: the walk. The arena: all pages, sorted: the walk. A region that draws its order and whose calls may make memory: one walk in the text's order, at a class of worlds that keep an invariant. A region that draws its order, whose operations but the last few are quiet in a class of worlds, and whose last few come in one forced order: one walk. (The library's theorem for the one world, turned to a class of worlds.) -/
import Derived.Test.YtepdkbmnkjfcpaaGreatDoorVac
import Derived.Deep.LoopGhost
import Derived.Test.YtepdkbmnkjfcpaaGreatDoorVab
import Derived.OwnWalkIn
import Derived.BigQuiet
import Derived.Below
import Derived.WalkKit
import Derived.StillTail
set_option maxRecDepth 100000
set_option maxHeartbeats 1600000
namespace Go.Proofs.YtepdkbmnkjfcpaaGreatDoor
open Go.RowKit Go.BigFrame Go.Maps Go.WideMaps Lf
theorem free_window (n : Nat) : ∀ (L : Nat) (ks : List Nat), ks.length ≤ L → ∀ a, ∃ t, a ≤ t ∧ t ≤ a + L * n ∧ ∀ k, k < n → t + k ∉ ks
  | 0, ks, hl, a => ⟨a, Nat.le_refl _, by omega, fun k _ => by
      have : ks = [] := List.length_eq_zero_iff.1 (by omega)
      rw [this]; simp⟩
  | L + 1, ks, hl, a => by
    by_cases h : ∀ k, k < n → a + k ∉ ks
    · exact ⟨a, Nat.le_refl _, by omega, h⟩
    · have h2 : ∃ k, k < n ∧ a + k ∈ ks := by
        refine Classical.byContradiction fun hn => h fun k hk hm => hn ⟨k, hk, hm⟩
      obtain ⟨k, hk, hm⟩ := h2
      obtain ⟨t, h1, h3, h4⟩ := free_window n L (ks.filter fun q => q ≠ a + k) (by
        have : (ks.filter fun q => decide (q ≠ a + k)).length < ks.length := by
          refine List.length_filter_lt_length_iff_exists.2 ⟨a + k, hm, by simp⟩
        omega) (a + k + 1)
      refine ⟨t, by omega, by rw [Nat.add_mul]; omega, fun j hj hin => ?_⟩
      exact h4 j hj (List.mem_filter.2 ⟨hin, by simp; omega⟩)
theorem firstRun_eq {s : Slab} {n t : Nat} (ht : s.run n t = true) : ∀ (f p : Nat), p ≤ t → t < p + f → (∀ g, p ≤ g → g < t → s.run n g = false) → s.firstRun n f p = t
  | 0, p, h1, h2, _ => by omega
  | f + 1, p, h1, h2, h3 => by
    unfold Slab.firstRun
    by_cases e : p = t
    · rw [e, ht, if_pos rfl]
    · rw [h3 p (Nat.le_refl _) (by omega)]
      exact firstRun_eq ht f (p + 1) (by omega) (by omega) fun g hg hg2 => h3 g (by omega) hg2
theorem addRun_keys {s : Slab} {p q : Nat} : ∀ {n : Nat}, q ∈ (s.addRun p n).keys ↔ q ∈ s.keys ∨ (p ≤ q ∧ q < p + n)
  | 0 => by
    show q ∈ s.keys ↔ _
    constructor
    · exact fun h => Or.inl h
    · rintro (h | h)
      · exact h
      · omega
  | n + 1 => by
    show q ∈ ((s.addRun p n).add (p + n)).keys ↔ _
    rw [keys_add, mem_insK, addRun_keys]
    constructor
    · rintro (h | h | h)
      · exact Or.inr (by omega)
      · exact Or.inl h
      · exact Or.inr (by omega)
    · rintro (h | h)
      · exact Or.inr (Or.inl h)
      · by_cases e : q = p + n
        · exact Or.inl e
        · exact Or.inr (Or.inr (by omega))
theorem addRun_length (s : Slab) (p : Nat) : ∀ n, (s.addRun p n).pages.length = s.pages.length + n
  | 0 => rfl
  | n + 1 => by
    show (ins _ _ _).length = _
    rw [length_ins, addRun_length s p n]
    omega
theorem addRun_quota (s : Slab) (p : Nat) : ∀ n, (s.addRun p n).quota = s.quota
  | 0 => rfl
  | n + 1 => addRun_quota s p n
theorem zrow_lit : (zeros.map fun v : Nat => Value.int .u64 v).toArray = #[.int .u64 0, .int .u64 0, .int .u64 0, .int .u64 0, .int .u64 0, .int .u64 0, .int .u64 0, .int .u64 0, .int .u64 0, .int .u64 0, .int .u64 0, .int .u64 0, .int .u64 0, .int .u64 0, .int .u64 0, .int .u64 0, .int .u64 0, .int .u64 0, .int .u64 0, .int .u64 0, .int .u64 0, .int .u64 0, .int .u64 0, .int .u64 0, .int .u64 0, .int .u64 0, .int .u64 0, .int .u64 0, .int .u64 0, .int .u64 0, .int .u64 0, .int .u64 0, .int .u64 0, .int .u64 0, .int .u64 0, .int .u64 0, .int .u64 0, .int .u64 0, .int .u64 0, .int .u64 0, .int .u64 0, .int .u64 0, .int .u64 0, .int .u64 0, .int .u64 0, .int .u64 0, .int .u64 0, .int .u64 0, .int .u64 0, .int .u64 0, .int .u64 0, .int .u64 0, .int .u64 0, .int .u64 0, .int .u64 0, .int .u64 0, .int .u64 0, .int .u64 0, .int .u64 0, .int .u64 0, .int .u64 0, .int .u64 0, .int .u64 0, .int .u64 0] := by kernel_rfl
theorem SlabOn.drewN {w : World} {pa pm : Nat} {s : Slab} {Y : Nat → Prop} {blk : Nat → Nat} (h : SlabOn w pa pm s Y blk) (n : Nat) : SlabOn (w.drewN n) pa pm s Y blk :=
  ⟨h.wf, h.hd, h.map, h.pg, h.inj, h.ya, h.ym, h.yp, h.yl⟩
theorem least_run {s : Slab} {n : Nat} : ∀ t, s.run n t = true → ∃ t', t' ≤ t ∧ s.run n t' = true ∧ ∀ g, g < t' → s.run n g = false := by
  intro t
  induction t using Nat.strongRecOn with
  | _ t ih =>
    intro h
    by_cases hg : ∀ g, g < t → s.run n g = false
    · exact ⟨t, Nat.le_refl _, h, hg⟩
    · have : ∃ g, g < t ∧ s.run n g = true := by
        refine Classical.byContradiction fun hn => hg fun g hlt => ?_
        cases hr : s.run n g with
        | false => rfl
        | true => exact absurd ⟨g, hlt, hr⟩ hn
      obtain ⟨g, hlt, hr⟩ := this
      obtain ⟨t', h1, h2, h3⟩ := ih g hlt hr
      exact ⟨t', by omega, h2, h3⟩
theorem slab_grant {w : World} {pa pm : Nat} {s : Slab} {Y : Nat → Prop} {blk : Nat → Nat} (h : SlabOn w pa pm s Y blk) (n : Nat) (hn : n ≤ 100) :
    Calls Tryz.prog 173 #[PV pa, .int .i64 n] w fun e w' => e = .returned (.tuple #[.int .i64 ((s.grant n).1.1 : Nat), .int .i64 ((s.grant n).1.2 : Nat)]) ∧ (∃ blk', SlabOn w' pa pm (s.grant n).2 Y blk') ∧ Keep Y w w' := by
  have c0 := h.cells.1
  have c1 := h.cells.2
  have hno := Lib.hid (slab_none h)
  obtain ⟨R, hR⟩ : ∃ R, s.grant n = R := ⟨_, rfl⟩
  by_cases hg : n < 1
  · have he : s.grant n = ((0, 2), s) := by unfold Slab.grant; rw [if_pos (Or.inl hg)]
    rw [hR] at he ⊢
    have HR := Lib.hid he
    have H := Lib.hid h
    clear h he hR
    go_enter Tryz.func173, Tryz.ntmps173
    go_wp2_with fail
    go_step3
    go_wp2_with fail
    refine hno.out.mono ?_
    rintro e w' ⟨rfl, rfl⟩
    go_wp2_with fail
    go_ret2
    obtain rfl : R = ((0, 2), s) := HR.out
    exact ⟨rfl, ⟨_, H.out⟩, Keep.refl _ _⟩
  · have hroom := h.wf.room
    have hquota := h.wf.quota
    have hL : s.pages.length ≤ 4096 := by omega
    have hlen : ∀ (q : Nat) (ty : TypeId), (Builtin.len_ #[151] ty #[.map (some pm)]).run Tryz.prog (w.drewN q) = .ok (.int .i64 (s.pages.length : Nat)) (w.drewN q) := fun q ty => by
      have := World.ownsMap.len (w := w.drewN q) h.map Tryz.underlying151 ty
      rw [pgD_size, keys_length] at this
      exact this
    have hn1 : ¬ (n < 1 ∨ 4096 < n) := by omega
    by_cases hq : s.quota < (s.pages.length + n) * 64
    · have he : s.grant n = ((0, 3), s) := by unfold Slab.grant; rw [if_neg hn1, if_pos hq]
      rw [hR] at he ⊢
      have HR := Lib.hid he
      have H := Lib.hid h
      have hq2 : (s.quota : Int) < ((s.pages.length : Int) + n) * 64 := by omega
      generalize s.pages.length = L at *
      generalize s.quota = Q at *
      have hs1 : IntKind.i64.wrap ((L : Int) + n) = (L : Int) + n := IntWalk.i64_in _ (by omega)
      have hs2 : IntKind.i64.wrap (((L : Int) + n) * 64) = ((L : Int) + n) * 64 := IntWalk.i64_in _ (by omega)
      have hn2 : 1 ≤ n := by omega
      clear h he hR hq hn1 hg
      go_enter Tryz.func173, Tryz.ntmps173
      go_wp2_with fail
      go_step3
      go_wp2_with fail
      refine hno.out.mono ?_
      rintro e w' ⟨rfl, rfl⟩
      go_wp2_with fail
      go_quiet (fail)
      clear hs1 hs2
      go_wp2_with fail
      try rw [Exit.noGoto_ret]
      go_ret2
      obtain rfl : R = ((0, 3), s) := HR.out
      exact ⟨rfl, ⟨_, H.out.drewN _⟩, Keep.drewN _ _ _⟩
    · have hq1 : (s.pages.length + n) * 64 ≤ s.quota := by omega
      obtain ⟨t, _, ht1, ht2⟩ := free_window n s.pages.length s.keys (by rw [keys_length]; exact Nat.le_refl _) 0
      have hLn : s.pages.length * n ≤ 4096 * 100 := Nat.mul_le_mul hL hn
      have ht : t ≤ 409600 := by omega
      have hfull : ∃ t', t' ≤ t ∧ s.run n t' = true ∧ ∀ g, g < t' → s.run n g = false := by
        exact least_run t (run_iff.2 ht2)
      obtain ⟨t', ht3, ht4, ht5⟩ := hfull
      have hfr : s.firstRun n (s.pages.length * n + 1) 0 = t' := firstRun_eq ht4 _ 0 (Nat.zero_le _) (by omega) fun g _ hg => ht5 g hg
      have he : s.grant n = ((t', 0), s.addRun t' n) := by unfold Slab.grant; rw [if_neg hn1, if_neg hq, hfr]
      rw [hR] at he ⊢
      have HR := Lib.hid he
      have H := Lib.hid h
      have HT := Lib.hid (And.intro ht4 ht5)
      have hq2 : ¬ (s.quota : Int) < ((s.pages.length : Int) + n) * 64 := by omega
      have HQ := Lib.hid hq1
      have hlook := Lib.hid (fun k (hk : k ≤ 1000000) => h.look k (by omega))
      generalize hLe : s.pages.length = L at *
      generalize hQe : s.quota = Q at *
      have hs1 : IntKind.i64.wrap ((L : Int) + n) = (L : Int) + n := IntWalk.i64_in _ (by omega)
      have hs2 : IntKind.i64.wrap (((L : Int) + n) * 64) = ((L : Int) + n) * 64 := IntWalk.i64_in _ (by omega)
      have hn2 : 1 ≤ n := by omega
      have HLe := Lib.hid (And.intro hLe hQe)
      clear h he hR hq hn1 hg ht4 ht5 hq1 hfr hLn ht2 ht1 hLe hQe
      go_enter Tryz.func173, Tryz.ntmps173
      go_wp2_with fail
      go_step3
      go_wp2_with fail
      refine hno.out.mono ?_
      rintro e w' ⟨rfl, rfl⟩
      go_wp2_with fail
      go_quiet (fail)
      clear hs1 hs2
      go_wp2_with fail
      go_step3
      go_wp2_with fail
      go_loopg [6, 7] t' (fun g i _ wr => ∃ f : Nat, f + g = t' ∧ i = .int .i64 f ∧ wr = w.drewN nq)
      case atStart => exact ⟨0, by omega, rfl, rfl⟩
      case round =>
        obtain ⟨f, hf, rfl, rfl⟩ := hrel
        go_wp2_with fail
        go_loopg [6, 7, 34] n (fun g x _ i wr => x = .int .i64 f ∧ ∃ k : Nat, k + g = n ∧ i = .int .i64 k ∧ wr = w.drewN nq ∧ Hid (∀ j, j < k → f + j ∉ s.keys))
        case atStart => exact ⟨rfl, 0, by omega, rfl, rfl, fun j hj => absurd hj (by omega)⟩
        case round =>
          obtain ⟨rfl, k, hk, rfl, rfl, hin⟩ := hrel
          by_cases hlt : k < n
          · have hl := (H.out.drewN nq).look (f + k) (by omega)
            rw [show ((f + k : Nat) : Int) = (f : Int) + k from by simp] at hl
            by_cases hm : f + k ∈ s.keys
            · have hv : pgV s.keys blk (f + k) = PV (blk (f + k)) := by unfold pgV; rw [if_pos hm]
              rw [hv] at hl
              have hft : f + k + 1 ≤ t' := by
                refine Classical.byContradiction fun hc => ?_
                have := run_iff.1 HT.out.1 (f + k - t') (by omega)
                rw [show t' + (f + k - t') = f + k by omega] at this
                exact this hm
              generalize blk (f + k) = b at *
              clear hv hm
              go_wp2_with fail
              go_roundg (t' - (f + (k + 1)))
              case rel => exact ⟨f + (k + 1), by omega, by go_num, rfl⟩
              case measure => omega
            · have hv : pgV s.keys blk (f + k) = .pointer none := by unfold pgV; rw [if_neg hm]
              rw [hv] at hl
              have HM := Lib.hid hm
              clear hv hm
              go_wp2_with fail
              go_roundg (n - (k + 1))
              case rel => exact ⟨rfl, k + 1, by omega, by go_num, rfl, fun j hj => by
                by_cases e : j = k
                · rw [e]; exact HM.out
                · exact hin.out j (by omega)⟩
              case measure => omega
          · obtain rfl : k = n := by omega
            have hft : f = t' := by
              by_cases e : f = t'
              · exact e
              · have h1 := HT.out.2 f (by omega)
                rw [run_iff.2 hin.out] at h1
                cases h1
            subst hft
            clear hlt hin
            go_wp2_with fail
            have hrt : f + k ≤ 1048576 := by omega
            go_loopw [8, 52] (fun _ i wr => ∃ j : Nat, j ≤ k ∧ i = .int .i64 j ∧ Hid ((∃ blk', SlabOn wr pa pm (s.addRun f j) Y blk') ∧ Keep Y w wr)) (fun _ i _ => k - (intOf i).toNat)
            case atStart => exact ⟨0, by omega, rfl, ⟨_, H.out.drewN nq⟩, Keep.drewN _ _ _⟩
            case round =>
              obtain ⟨j, hj, rfl, hin⟩ := hrel
              obtain ⟨⟨blk', hS⟩, hK⟩ := hin
              have c1 := hS.cells.2
              by_cases hlt : j < k
              · have hnk : f + j ∉ (s.addRun f j).keys := fun hc => by
                  rcases addRun_keys.1 hc with hc | hc
                  · exact run_iff.1 HT.out.1 j hlt hc
                  · omega
                obtain ⟨w1, hrun, hS1, hK1⟩ := hS.more hnk (by omega) (by
                  rw [addRun_length, addRun_quota]
                  have h1 := HQ.out
                  have h2 := HLe.out.1
                  have h3 := HLe.out.2
                  omega)
                rw [show ((f + j : Nat) : Int) = (f : Int) + j from by simp, zrow_lit] at hrun
                have HN := Lib.hid (And.intro hS1 (hK.trans hK1))
                clear hS1 hK1 hK hS
                go_wp2_with fail
                go_roundw
                case rel => exact ⟨j + 1, by omega, by go_num, ⟨_, HN.out.1⟩, HN.out.2⟩
                case measure => simp [intOf]; omega
              · obtain rfl : j = k := by omega
                have HE := Lib.hid (And.intro (Exists.intro blk' hS) hK)
                clear hS hK
                go_wp2_with fail
                try rw [Exit.noGoto_ret]
                go_ret2
                obtain rfl : R = ((f, 0), s.addRun f j) := HR.out
                exact ⟨rfl, HE.out⟩
end Go.Proofs.YtepdkbmnkjfcpaaGreatDoor
namespace Go.Proofs.YtepdkbmnkjfcpaaGreatDoor
open Go.RowKit Go.BigFrame Go.Maps Go.WideMaps Lf
open Go.Sort Go.Shelf
theorem sortsA (m : Nat) : AnyZI.SortsIn Tryz.prog Tryz.sortedA_ren Fence.wide m :=
  ⟨fun blk off cap ss W hH hblk hsz => callsIn_wide.2 (AnyM.slices_Sort_int Tryz.sortA blk off cap ss W hH hblk hsz),
   fun p cap W => callsIn_wide.2 (AnyM.slices_Sort_int_none Tryz.sortA p cap W)⟩
def IntRow (w : World) (B : Nat) (v : Value) (ks : List Nat) : Prop :=
  ∃ A c, v = .slice A ks.length c ∧ ∀ (i : Nat) (h : i < ks.length), ∃ b o : Nat, A = some ⟨b, o, none⟩ ∧ B ≤ b ∧ b < w.heap.size ∧ w.cell? ⟨b, o + i, none⟩ = some (.int .i64 ks[i])
theorem intRow_of_owns {w : World} {B : Nat} {v : Value} {ks : List Nat} (h : w.ownsRow B 3 1 v ks.length (ks.map fun k : Nat => Value.int .i64 k)) : IntRow w B v ks := by
  rcases h.2 with ⟨h0, hx⟩ | ⟨g, cap, cur, hv, hg, hb, h1, h2, h3, h4⟩
  · have : ks = [] := by simpa using hx
    subst this
    exact ⟨none, 0, by rw [h0]; rfl, fun i hi => absurd hi (by simp)⟩
  · refine ⟨_, _, hv, fun i hi => ⟨g, 0, rfl, hg, (Array.getElem?_eq_some_iff.1 hb).1, ?_⟩⟩
    have hlt : i < cur.size := by omega
    rw [cell_of_block hb]
    have e : (cur.toList.take (ks.length * 1))[i]? = (ks.map fun k : Nat => Value.int .i64 k)[i]? := by rw [h4]
    rw [List.getElem?_take_of_lt (by omega)] at e
    rw [Nat.zero_add, ← Array.getElem?_toList, e]
    simp [List.getElem?_eq_getElem hi]
theorem IntRow.mono {w : World} {B B' : Nat} {v : Value} {ks : List Nat} (h : IntRow w B v ks) (hB : B' ≤ B) : IntRow w B' v ks := by
  obtain ⟨A, c, h1, h2⟩ := h
  refine ⟨A, c, h1, fun i hi => ?_⟩
  obtain ⟨b, o, k1, k2, k3⟩ := h2 i hi
  exact ⟨b, o, k1, by omega, k3⟩
theorem sorted_keys {s : Slab} (h : SlabWF s) {ss : List Int} {blk : Nat → Nat} (hp : ss.Perm (intKeys (pgD s.keys blk))) : ss.length = s.keys.length ∧ (ss.mergeSort fun x y => decide (x ≤ y)).map encZ = s.keys.map fun k : Nat => Value.int .i64 k := by
  have hk : intKeys (pgD s.keys blk) = s.keys.map fun k : Nat => (k : Int) := by
    show ((s.keys.map fun p : Nat => (Lit.int .i64 (p : Int), DataW.lit (H := Unit) (.int .i64 (blk p)))).map fun p => Go.intOf p.1) = _
    rw [List.map_map]
    rfl
  rw [hk] at hp
  refine ⟨by rw [hp.length_eq, List.length_map], ?_⟩
  have e1 : (ss.mergeSort fun x y => decide (x ≤ y)) = (s.keys.map fun k : Nat => (k : Int)).mergeSort fun x y => decide (x ≤ y) := mergeSort_of_perm_i hp
  have e2 : ((s.keys.map fun k : Nat => (k : Int)).mergeSort fun x y => decide (x ≤ y)) = s.keys.map fun k : Nat => (k : Int) := by
    refine List.mergeSort_of_pairwise ?_
    rw [List.pairwise_map]
    refine h.sorted.imp fun {a b} hab => ?_
    simp only [decide_eq_true_eq]
    omega
  rw [e1, e2, List.map_map]
  rfl
theorem slab_pages {w : World} {pa pm : Nat} {s : Slab} {Y : Nat → Prop} {blk : Nat → Nat} (h : SlabOn w pa pm s Y blk) :
    Calls Tryz.prog 136 #[PV pa] w fun e w' => ∃ v, e = .returned v ∧ IntRow w' w.heap.size v s.keys ∧ Below w.heap.size w w' := by
  refine (callsIn_wide (n := 6)).1 ?_
  have hbl := h.map.lt
  have c1 := h.cells.2
  have hno : CallsIn Fence.wide 5 Tryz.prog 179 #[PV pa] w _ := callsIn_wide.2 (slab_none h)
  have hmax : Maps.size (pgD s.keys blk) ≤ maxLen := by
    rw [pgD_size, keys_length]; have := h.wf.room; have := h.wf.quota; unfold maxLen; omega
  have hbytes : Maps.size (pgD s.keys blk) * 8 ≤ 140737488355328 := by
    rw [pgD_size, keys_length]; have := h.wf.room; have := h.wf.quota; omega
  have hseq : SeqGives Fence.wide 2 Tryz.prog 223 #[.pointer (some ⟨w.heap.size, 0, none⟩)] encZ (fun ss => ss.Perm (intKeys (pgD s.keys blk))) (Maps.size (pgD s.keys blk)) (w.alloc (.cells #[.map (some pm)] 151)) :=
    AnyZI.keys_gives (ρ := Tryz.keysA_ren) { Tryz.keysA with } Fence.wide _ trivial rfl (by omega) w.heap.size pm s.pages.length (pgD s.keys blk) _ (by simp) (by simp) (by
      obtain ⟨es, clock, hb, Ft, hs, hD⟩ := h.map
      exact ⟨es, clock, (Below.heap_alloc _ _ pm hbl).trans hb, Ft, hs, hD⟩)
  have cK : ∀ mb W, CallsIn Fence.wide 5 Tryz.prog 185 #[.map mb] W fun e w' => e = .returned (.func (.func 223) #[] #[.pointer (some ⟨W.heap.size, 0, none⟩)]) ∧ w' = W.alloc (.cells #[.map mb] 151) := fun mb W => AnyZI.keys_in Tryz.keysA Fence.wide 5 trivial rfl mb W
  have cS := AnyZI.sorted_in Tryz.sortedA Fence.wide 5 trivial trivial trivial trivial rfl (by omega) (sortsA _) (enters_of Tryz.func222 (by kernel_rfl) rfl) 223 #[.pointer (some ⟨w.heap.size, 0, none⟩)] trivial (enters_of Tryz.func223 (by kernel_rfl) rfl) _ _ hmax hbytes _ hseq
  change CallsIn _ _ Tryz.prog 184 _ _ _ at cS
  have hfK : Fence.wide.fn 185 := trivial
  have hfS : Fence.wide.fn 184 := trivial
  have hfN : Fence.wide.fn 179 := trivial
  have HS := Lib.hid h
  clear h hmax hbytes hseq
  refine callsIn_of_wp Tryz.func136 rfl trivial ?_ rfl
  simp only [Tryz.ntmps136, List.size_toArray, List.length_cons, List.length_nil, Nat.reduceAdd, Nat.reduceSub, Array.replicate_succ, Array.replicate_zero, List.push_toArray, List.append_toArray, List.nil_append, List.cons_append]
  gi_wp2_with (first
    | (gi_at_call 179; refine hno.mono ?_; rintro e w' ⟨rfl, rfl⟩)
    | (gi_at_call 185; refine (cK _ _).mono ?_; rintro e w' ⟨rfl, rfl⟩)
    | (gi_at_call 184; refine cS.mono ?_; rintro e w' ⟨v, ss, rfl, hS, hrow, hnil, hb⟩))
  go_ret
  obtain ⟨hl, hm⟩ := sorted_keys HS.out.wf hS
  rw [hm, hl] at hrow
  exact ⟨v, rfl, (intRow_of_owns hrow).mono (by simp), ((Below.refl _ w).alloc (Nat.le_refl _) _).trans (hb.mono (by simp))⟩
end Go.Proofs.YtepdkbmnkjfcpaaGreatDoor
namespace Go.Proofs.YtepdkbmnkjfcpaaGreatDoor
open Go.RowKit
structure Keeps (I : World → Prop) where
  to : World
  ok : I to
theorem Calls.keeps_below {P : Program} {f : FuncId} {args : Array Value} {w : World} {v : Value} {x : Keeps (Below w.heap.size w)}
    (h : Calls P f args x.to fun e w' => e = .returned v ∧ Below x.to.heap.size x.to w') : Calls P f args x.to fun e w'' => e = .returned v ∧ ∃ y : Keeps (Below w.heap.size w), w'' = y.to :=
  h.mono fun _ _ ⟨he, hb⟩ => ⟨he, ⟨_, x.ok.trans (hb.mono x.ok.size)⟩, rfl⟩
theorem Calls.keeps_same {P : Program} {f : FuncId} {args : Array Value} {I : World → Prop} {v : Value} {x : Keeps I}
    (h : Calls P f args x.to fun e w' => e = .returned v ∧ x.to = w') : Calls P f args x.to fun e w'' => e = .returned v ∧ ∃ y : Keeps I, w'' = y.to :=
  h.mono fun _ _ ⟨he, hb⟩ => ⟨he, x, hb.symm⟩
end Go.Proofs.YtepdkbmnkjfcpaaGreatDoor
namespace Go.Proofs.YtepdkbmnkjfcpaaGreatDoor.Qt
open Go Go.RowKit
section
variable {P : Program} {ops : Array Oper} {md : Region.Mode} {C : World → Prop}
def wpAnyQL (P : Program) (md : Region.Mode) (ops : Array Oper) (C : World → Prop) (n : Nat) (L : Array Bool → Act → Prop) : Nat → Array Bool → Act → Prop
  | 0, listed, a => L listed a
  | f + 1, listed, a =>
    Region.ready md ops listed ≠ [] ∧ ∀ i ∈ Region.ready md ops listed, i < n ∧ qOp P ops C i (wpAnyQL P md ops C n L f (listed.setIfInBounds i true)) a
theorem wpAny_of_head {n g : Nat} {L : Array Bool → Act → Prop} {Q' : Exit → Act → World → Prop} (hL : ∀ listed a w, C w → L listed a → wpAny P md ops Q' g listed a w) :
    ∀ (f : Nat) (listed : Array Bool) (a : Act) (w : World), C w → wpAnyQL P md ops C n L f listed a → wpAny P md ops Q' (f + g) listed a w
  | 0, listed, a, w, hC, h => by rw [Nat.zero_add]; exact hL _ _ _ hC h
  | f + 1, listed, a, w, hC, h => by
    rw [show f + 1 + g = (f + g) + 1 by omega]
    exact ⟨fun h0 => absurd h0 h.1, fun i hi => wpOp_of_qOp hC (fun a' w' hC' h' => wpAny_of_head hL f _ a' w' hC' h') (h.2 i hi).2⟩
theorem wpAnyQL_first {n i : Nat} {oi : Oper} {v : Value} {L : Array Bool → Act → Prop} (hi : ops[i]? = some oi) (hsel : ∀ (j : Nat) (o : Oper) cs b, ops[j]? = some o → o.op ≠ .select cs b)
    (hs : Region.sinkB md ops n = true) (hc : Region.chainB md ops n = true) (hn : n < ops.size) (hin : i < n)
    (hdone : ∀ listed a, L listed a → ∀ j ∈ Region.ready md ops listed, n ≤ j) :
    ∀ (f : Nat) (listed : Array Bool) (a : Act), HeadInv md ops n listed →
      (∀ j oj, ops[j]? = some oj → j ≠ i → listed.getD j true = false → (∀ e ∈ oj.after, Region.binds md e = true → e.on ≠ i) → oi.apart ops oj = true) →
      i ∈ Region.ready md ops listed → YieldsIn P ops C oi v a →
      wpAnyQL P md ops C n L f (listed.setIfInBounds i true) (a.put oi.dst v) → wpAnyQL P md ops C n L (f + 1) listed a := by
  intro f
  induction f with
  | zero =>
    intro listed a inv _ hr hy H
    have hun := (mem_ready.1 hr).1
    refine ⟨fun h => (by rw [h] at hr; cases hr), fun j hj => ?_⟩
    have hjn : j < n := by
      rcases Nat.lt_or_ge j n with h | h
      · exact h
      · exact absurd hj (tail_waits hs hc hn inv _ i rfl hin hun j h)
    refine ⟨hjn, ?_⟩
    by_cases hji : j = i
    · subst hji; exact hy.qOp hi H
    · have := hdone _ _ H j (ready_mono hj hji)
      omega
  | succ f ih =>
    intro listed a inv hfree hr hy H
    have hun := (mem_ready.1 hr).1
    refine ⟨fun h => (by rw [h] at hr; cases hr), fun j hj => ?_⟩
    have hjn : j < n := by
      rcases Nat.lt_or_ge j n with h | h
      · exact h
      · exact absurd hj (tail_waits hs hc hn inv _ i rfl hin hun j h)
    refine ⟨hjn, ?_⟩
    by_cases hji : j = i
    · subst hji; exact hy.qOp hi H
    · have h1 := (H.2 j (ready_mono hj hji)).2
      obtain ⟨hjun, oj, hoj, hall⟩ := mem_ready.1 hj
      have hnot : ∀ e ∈ oj.after, Region.binds md e = true → e.on ≠ i := fun e he hb heq => by
        have h1 := hall e he hb
        rw [heq, getD_both hun] at h1
        cases h1
      have h2 := qOp_put hoj (hfree j oj hoj hji hjun hnot) (fun cs b => hsel i oi cs b hi) (fun cs b => hsel j oj cs b hoj) hy h1
      have hfree' : ∀ k ok, ops[k]? = some ok → k ≠ i → (listed.setIfInBounds j true).getD k true = false →
          (∀ e ∈ ok.after, Region.binds md e = true → e.on ≠ i) → oi.apart ops ok = true := fun k ok hk hki hun hno => by
        refine hfree k ok hk hki ?_ hno
        by_cases hjk : j = k
        · subst hjk; exact hjun
        · rw [getD_set_ne true hjk] at hun; exact hun
      refine qOp_mono (fun a' h3 => ih (listed.setIfInBounds j true) a' (inv.set hj hjn) hfree' (ready_mono hr (Ne.symm hji)) h3.1 ?_) h2
      rw [Array.setIfInBounds_comm _ _ hji]
      exact h3.2
theorem wpAnyQL_lex {n g : Nat} {Lq : Act → Prop} (hsel : Region.noSelect ops = true) (hs : Region.sinkB md ops n = true) (hc : Region.chainB md ops n = true) (hn : n < ops.size) :
    ∀ (l : List Oper) (k : Nat) (listed : Array Bool) (a : Act), (∀ j, j < l.length → l[j]? = ops[k + j]?) → k + l.length = n → HeadInv md ops n listed →
    Region.lexHead md ops g l.length k listed = true → wpQuiet P ops C Lq l a →
    wpAnyQL P md ops C n (fun listed' a' => Region.seqB md ops g n listed' = true ∧ Lq a') l.length listed a
  | [], k, listed, a, _, hk, _, hB, h => by
    have : k = n := by simpa using hk
    subst this
    exact ⟨by simpa [Region.lexHead] using hB, h⟩
  | o :: l, k, listed, a, hl, hk, inv, hB, h => by
    have h0 : ops[k]? = some o := by simpa using (hl 0 (by simp)).symm
    simp only [List.length_cons, Region.lexHead, Bool.and_eq_true] at hB
    obtain ⟨⟨hr, hf⟩, hB'⟩ := hB
    have hkn : k < n := by simp only [List.length_cons] at hk; omega
    have hr' : k ∈ Region.ready md ops listed := by simpa using hr
    have hst : qOp P ops C k (wpQuiet P ops C Lq l) a := by unfold qOp; simp only [h0]; exact h
    obtain ⟨v, hy, hK⟩ := yieldsIn_of_qOp h0 hst
    exact wpAnyQL_first h0 (Region.noSelect_spec hsel) hs hc hn hkn (fun listed' a' hL => seqB_ready hL.1) l.length listed a inv (Region.free_spec h0 hf) hr' hy
      (wpAnyQL_lex hsel hs hc hn l (k + 1) _ _ (fun j hj => by have := hl (j + 1) (by simp; omega); simpa [Nat.add_assoc, Nat.add_comm 1 j] using this) (by simp only [List.length_cons] at hk; omega) (inv.set hr' hkn) hB' hK)
end
end Qt
theorem wp_region_quiet_tail {P : Program} {C : World → Prop} {id : Nat} {Q : Exit → Act → World → Prop} {a : Act} {w : World} {l : List Oper} (n : Nat) (hm : P.follows .mixedOrders = true) (hB : Region.lexTailB .any l.toArray n = true) (hC : C w.drew)
    (h : wpQuiet P l.toArray C (fun a' => ∀ w', C w' → wpList P l.toArray Q (l.drop n) a' w') (l.take n) a) : (Code.region id l.toArray true).wp P Q a w := by
  simp only [Region.lexTailB, Bool.and_eq_true, decide_eq_true_eq] at hB
  obtain ⟨⟨⟨⟨hsel, hn⟩, hs⟩, hc⟩, hlex⟩ := hB
  have hn' : n < l.length := by simpa using hn
  have htl : (l.take n).length = n := by simp; omega
  have hdl : (l.drop n).length = l.toArray.size - n := by simp
  have inv0 : HeadInv .any l.toArray n (Array.replicate l.toArray.size false) :=
    ⟨by simp, fun j oj _ hl => (by rw [getD_replicate_false] at hl; cases hl), fun t _ ht => getD_in (by simpa using ht) (getD_replicate_false _ _)⟩
  have H := Qt.wpAnyQL_lex (md := .any) (g := l.toArray.size - n) hsel hs hc hn (l.take n) 0 _ a (fun j hj => by
    have hj' : j < n := by rw [htl] at hj; exact hj
    simp [hj']) (by simpa using htl) inv0 (by rw [htl]; exact hlex) h
  refine wp_region_any hm ?_
  have := Qt.wpAny_of_head (Q' := Q) (g := l.toArray.size - n) (fun listed a' w' hC' hL => by
    have := wpAny_of_seq (md := .any) (Q' := Q) (l.drop n) n listed a' w' (fun j => by simp [List.getElem?_drop]) (by rw [hdl]; exact hL.1) (hL.2 w' hC')
    rwa [hdl] at this) _ _ _ _ (show C { w with drawn := w.drawn + 1 } from hC) H
  rw [htl, show n + (l.toArray.size - n) = l.toArray.size by omega] at this
  exact this
end Go.Proofs.YtepdkbmnkjfcpaaGreatDoor
