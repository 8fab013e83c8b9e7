import Derived.Test.YtccdipcneabooaaChecked
import Derived.Test.YtccdipcneabooaaCrc
import Derived.WalkKit
import Derived.WalkSpells
import Derived.WalkLawsBesides
import Derived.Deep.LoopGhost
import Derived.Lib.Hide
namespace Go.Proofs.Ytccdipcneabooaa
open Go.RowKit

theorem u32_one (c : Nat) (hc : c < 4294967296) : bits .and .u32 (c : Int) 1 = (c : Int) % 2 := by
  have h := u32_and_nat c 1 hc (by omega)
  rw [Nat.and_one_is_mod] at h
  have e : ((c % 2 : Nat) : Int) = (c : Int) % 2 := by omega
  rw [← e]
  exact h
theorem u32_poly (c : Nat) (hc : c < 4294967296) (h1 : c % 2 = 1) : bits .xor .u32 ((c : Int) / 2) 3988292384 = (Crc.step c : Int) := by
  have e : ((c : Int) / 2) = ((c / 2 : Nat) : Int) := by omega
  rw [e]
  unfold Crc.step
  rw [if_pos h1]
  exact u32_xor_nat (c / 2) 3988292384 (by omega) (by omega)
theorem step_even (c : Nat) (h1 : ¬ c % 2 = 1) : (c : Int) / 2 = (Crc.step c : Int) := by
  unfold Crc.step
  rw [if_neg h1]
  omega
theorem below_setRow {B : Nat} {a w : World} (h : Below B a w) {g : Nat} (hg : B ≤ g) (cs : Array Value) : Below B a (w.setRow g cs) :=
  h.trans ⟨rfl, rfl, rfl, by simp, fun k hk => setRow_other w g k cs (by omega)⟩
def tabCells : Array Value := Array.ofFn (n := 256) fun i => .int .u32 (Crc.tab i.val : Int)
theorem tabCells_at (j : Nat) (h : j < 256) : tabCells[j]? = some (.int .u32 (Crc.tab j)) := by
  unfold tabCells
  rw [Array.getElem?_ofFn, dif_pos h]
theorem tabCells_size : tabCells.size = 256 := by simp [tabCells]
theorem tabCells_eq (cs : Array Value) (hsz : cs.size = 256) (hall : ∀ j, j < 256 → cs[j]? = some (.int .u32 (Crc.tab j))) : cs = tabCells := by
  apply Array.ext_getElem?
  intro j
  by_cases h : j < 256
  · rw [hall j h, tabCells_at j h]
  · rw [Array.getElem?_eq_none (by omega), Array.getElem?_eq_none (by rw [tabCells_size]; omega)]
theorem tabCells_one : tabCells.all (·.oneCell') = true := by
  rw [Array.all_eq_true_iff_forall_mem]
  intro v hv
  obtain ⟨j, hj, rfl⟩ := Array.getElem_of_mem hv
  simp only [tabCells, Array.getElem_ofFn]
  rfl
theorem tab_info : (Try.prog.info? 55).map (·.size) = some tabCells.size := by rw [tabCells_size]; kernel_rfl
def z256 : Array Value := Array.replicate 256 (.int .u32 0)
theorem z256_size : z256.size = tabCells.size := by rw [tabCells_size]; simp [z256]

theorem u32_idx (i : Nat) (hi : i < 256) : IntKind.u32.wrap (i : Int) = (i : Int) := by rw [IntKind.wrap_u32']; omega

set_option maxRecDepth 100000 in
set_option maxHeartbeats 400000 in
theorem table_any (w : World) :
    Calls Try.prog 36 #[] w fun e w' => e = .returned (.agg tabCells) ∧ Below w.heap.size w w' := by
  have hz : ∀ w, (zeroValue 55).run Try.prog w = .ok (.agg z256) w := fun _ => by kernel_rfl
  go_enter Try.func36, Try.ntmps36
  go_wp2
  clear hz
  go_loopw [3] (fun i wr => ∃ k : Nat, k ≤ 256 ∧ i = .int .i64 k ∧ Below w.heap.size w wr ∧ ∃ cs : Array Value, wr.heap[w.heap.size]? = some (.cells cs 55 (0, 0)) ∧ cs.size = 256 ∧ ∀ j, j < k → cs[j]? = some (.int .u32 (Crc.tab j))) (fun i _ => 256 - (intOf i).toNat)
  case atStart => exact ⟨0, by omega, rfl, (Below.refl _ _).alloc (Nat.le_refl _) _, z256, heap_alloc_new _ _, by simp [z256], fun j hj => absurd hj (by omega)⟩
  case round =>
    obtain ⟨k, hk, rfl, hb, cs, hcs, hsz, hall⟩ := hrel
    have H := Lib.hid (And.intro hcs (And.intro hsz hall))
    clear hcs hsz hall
    by_cases hlt : k < 256
    · go_wp2
      go_loop [2, 8] (fun c i => ∃ m : Nat, m ≤ 8 ∧ i = .int .i64 m ∧ c = .int .u32 (Crc.steps m k)) (fun _ i => 8 - (intOf i).toNat)
      case atStart => exact ⟨0, by omega, rfl, rfl⟩
      case round =>
        obtain ⟨m, hm, rfl, rfl⟩ := hrel
        have hc : Crc.steps m k < 4294967296 := Crc.steps_lt (by omega) m
        have hs : Crc.steps (m + 1) k = Crc.step (Crc.steps m k) := rfl
        generalize hcd : Crc.steps m k = c at *
        have HC := Lib.hid hcd
        clear hcd
        by_cases hlt8 : m < 8
        · have ho := u32_one c hc
          have HS := Lib.hid hs
          clear hs
          by_cases hodd : c % 2 = 1
          · have hq : (((c : Int) % 2) == 1) = true := by rw [show (c : Int) % 2 = 1 by omega]; rfl
            have hp := u32_poly c hc hodd
            have H1 := Lib.hid hodd
            clear hodd
            go_wp2
            go_round
            case rel => exact ⟨m + 1, by omega, by go_num, by rw [HS.out]⟩
            case measure => simp [intOf]; omega
          · have hq : (((c : Int) % 2) == 1) = false := by rw [show (c : Int) % 2 = 0 by omega]; rfl
            have H1 := Lib.hid (step_even c hodd)
            clear hodd
            go_wp2
            go_round
            case rel => exact ⟨m + 1, by omega, by go_num, by rw [HS.out, ← H1.out]⟩
            case measure => simp [intOf]; omega
        · obtain ⟨hcs, hsz, hall⟩ := H.out
          obtain ⟨u, hcell⟩ : ∃ u, wr.cell? ⟨w.heap.size, k, none⟩ = some u := ⟨cs[k], (cell_of_row wr _ k cs 55 (0, 0) hcs).trans (Array.getElem?_eq_getElem (by omega))⟩
          have hfr : wr.frozen? ⟨w.heap.size, k, none⟩ = false := frozen_of_row wr _ k cs 55 hcs
          have HN := Lib.hid hcs
          have HA := Lib.hid hall
          have HZ := Lib.hid hsz
          have HM : m = 8 := by omega
          have HM' := Lib.hid HM
          clear hcs hall hsz hs HM
          go_wp2
          go_roundw
          case rel =>
            have e : c = Crc.tab k := by have := HC.out; rw [HM'.out] at this; exact this.symm
            refine ⟨k + 1, by omega, by go_num, hb.setCell (Nat.le_refl _) _, cs.setIfInBounds k (.int .u32 (c : Int)), heap_setCell_same wr _ k cs 55 _ HN.out, by simp [HZ.out], fun j hj => ?_⟩
            rw [Array.getElem?_setIfInBounds]
            by_cases hjk : k = j
            · rw [if_pos hjk, if_pos (by rw [HZ.out]; exact hlt), e, hjk]
            · rw [if_neg hjk]; exact HA.out j (by omega)
          case measure => simp [intOf]; omega
    · obtain ⟨hcs, hsz, hall⟩ := H.out
      have hk256 : k = 256 := by omega
      subst hk256
      clear H
      have hi : (Try.prog.info? 55).map (·.size) = some cs.size := by rw [hsz]; kernel_rfl
      have hones : cs.all (·.oneCell') = true := by
        rw [Array.all_eq_true_iff_forall_mem]
        intro v hv
        obtain ⟨j, hj, rfl⟩ := Array.getElem_of_mem hv
        have := hall j (by omega)
        rw [Array.getElem?_eq_getElem hj] at this
        injection this with this
        rw [this]; rfl
      have HN := Lib.hid hcs
      have HA := Lib.hid hall
      have HZ := Lib.hid hsz
      have HI := Lib.hid hi
      clear hcs hall hsz hi
      go_wp2_with (first | (refine wpList_load_row rfl 55 _ rfl _ rfl 55 _ _ _ HN.out Try.underlying55 rfl HI.out ?_) | (refine wpList_store_row rfl 55 _ _ rfl _ _ rfl rfl 55 _ HN.out HI.out rfl hones ?_))
      have hG : (wr.setRow w.heap.size cs).heap[w.heap.size]? = some (.cells cs 55 (0, 0)) := setRow_heap wr _ cs cs 55 (0, 0) HN.out
      refine bodyPost_ret (results_cell_row (d := .array 256 22) rfl _ _ w.heap.size 55 cs (0, 0) rfl hG Try.underlying55 rfl HI.out) rfl ⟨?_, ?_⟩
      · rw [tabCells_eq cs HZ.out HA.out]
      · exact below_setRow hb (Nat.le_refl _) cs
end Go.Proofs.Ytccdipcneabooaa
