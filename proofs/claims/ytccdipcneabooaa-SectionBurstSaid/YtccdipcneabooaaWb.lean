import Derived.Test.YtccdipcneabooaaWm
import Derived.Test.YtccdipcneabooaaCrb
import Derived.Test.YtccdipcneabooaaInv
namespace Go.Proofs.Ytccdipcneabooaa
open Go.RowKit Go.BigFrame

def z256b : Array Value := Array.replicate 256 (.int .u8 0)
/-- the cells of 'from' behind k rounds -/
def FromCells (k : Nat) (cs : Array Value) : Prop := cs.size = 256 ∧ ∀ i, i < k → cs[Crc.top i]? = some (.int .u8 (i : Int))
theorem FromCells.step {k : Nat} {cs : Array Value} (h : FromCells k cs) (hk : k < 256) : FromCells (k + 1) (cs.setIfInBounds (Crc.top k) (.int .u8 (k : Int))) := by
  refine ⟨by simp [h.1], fun i hi => ?_⟩
  have ht := (Crc.top_facts k hk).1
  rw [Array.getElem?_setIfInBounds]
  by_cases e : Crc.top k = Crc.top i
  · have : k = i := Crc.top_inj hk (by omega) e
    rw [if_pos e, if_pos (by rw [h.1]; exact ht), this]
  · have hne : i ≠ k := fun e2 => e (by rw [e2])
    rw [if_neg e]
    exact h.2 i (by omega)
theorem FromCells.all {cs : Array Value} (h : FromCells 256 cs) (j : Nat) (hj : j < 256) : cs[j]? = some (.int .u8 (Crc.fr j : Int)) := by
  have ht := Crc.top_facts j hj
  have := h.2 (Crc.fr j) ht.2.2.2
  rwa [ht.2.2.1] at this
theorem tab_index (k : Nat) (hk : k < 256) (W : World) : (Instr.index 55 (.agg tabCells) (.int .i64 (k : Int))).run Try.prog W = .ok (.int .u32 (Crc.tab k)) W := by
  obtain ⟨i, hi, h1⟩ : ∃ i, Try.prog.info? 22 = some i ∧ i.size = 1 := by
    have h : ((Try.prog.info? 22).map fun i => i.size) = some 1 := by kernel_rfl
    cases e : Try.prog.info? 22 with
    | none => rw [e] at h; cases h
    | some i => rw [e] at h; exact ⟨i, rfl, by simpa using h⟩
  have ht := tabCells_at k hk
  have hp : Try.prog.plainKey 22 = true := by kernel_rfl
  unfold Instr.index
  have hpt : (part 22 tabCells k).run Try.prog W = .ok (.int .u32 (Crc.tab k)) W := run_part_plain (P := Try.prog) W hp ht
  simp [asIntOf, run_underlying Try.underlying55, sizeOf, typeInfo, hi, h1, hk, hpt]

/-- a table in its block, and an empty 'from' in the one behind it -/
theorem tab_from_blocks (w1 : World) :
    (((w1.alloc (.cells z256 55)).setRow w1.heap.size tabCells).alloc (.cells z256b 57)).heap[w1.heap.size]? = some (.cells tabCells 55 (0, 0)) ∧
    (((w1.alloc (.cells z256 55)).setRow w1.heap.size tabCells).alloc (.cells z256b 57)).heap[w1.heap.size + 1]? = some (.cells z256b 57 (0, 0)) ∧
    ∀ {w : World}, Below w.heap.size w w1 → Below w.heap.size w (((w1.alloc (.cells z256 55)).setRow w1.heap.size tabCells).alloc (.cells z256b 57)) := by
  have hz : ((w1.alloc (.cells z256 55)).setRow w1.heap.size tabCells).heap.size = w1.heap.size + 1 := by simp
  refine ⟨?_, ?_, fun hb => ?_⟩
  · refine (Below.heap_alloc _ _ w1.heap.size (by rw [hz]; omega)).trans ?_
    exact setRow_heap _ _ _ _ _ _ (heap_alloc_new _ _)
  · have := heap_alloc_new ((w1.alloc (.cells z256 55)).setRow w1.heap.size tabCells) (.cells z256b 57)
    rwa [hz] at this
  · exact (below_setRow (hb.alloc hb.size _) hb.size tabCells).alloc (by rw [hz]; have := hb.size; omega) _

/-- one byte back, by the walk's own operations -/
theorem bstep_ops (c b : Nat) (hc : c < 4294967296) (hb : b < 256) : ∃ j i d e : Nat, j < 256 ∧ (c : Int) / 16777216 = (j : Int) ∧ i < 256 ∧ Crc.fr j = i ∧ bits .xor .u32 (c : Int) (Crc.tab i : Int) = (d : Int) ∧ d < 16777216 ∧
    bits .xor .u8 (i : Int) (b : Int) = (e : Int) ∧ e < 256 ∧ bits .or .u32 ((d : Int) * 256) (e : Int) = (Crc.bstep c b : Int) := by
  have ht := Crc.top_facts (c / 16777216) (by omega)
  have hl := Crc.left_lt hc
  have he := Crc.bstep_idx hc hb
  refine ⟨c / 16777216, Crc.fr (c / 16777216), Crc.left c, Crc.fr (c / 16777216) ^^^ b, by omega, by omega, ht.2.2.2, rfl, u32_xor_nat c _ hc (Crc.tab_lt _ ht.2.2.2), hl, u8_xor_nat _ b ht.2.2.2 hb, he, ?_⟩
  have h1 := u32_or_nat (Crc.left c * 256) (Crc.fr (c / 16777216) ^^^ b) (by omega) (by omega)
  rw [Crc.or_low he] at h1
  have e1 : ((Crc.left c * 256 : Nat) : Int) = (Crc.left c : Int) * 256 := by simp
  rw [← e1]
  exact h1

theorem back_snoc (c : Nat) (s : ByteArray) (k : Nat) (h : k < s.size) : Crc.back c (s.data.toList.drop k) = Crc.bstep (Crc.back c (s.data.toList.drop (k + 1))) s[k].toNat := by
  have hl : k < s.data.toList.length := by simpa using h
  rw [List.drop_eq_getElem_cons hl]
  rfl

set_option maxRecDepth 100000 in
set_option maxHeartbeats 400000 in
theorem back_any (c : Nat) (s : ByteArray) (w : World) (hc : c < 4294967296) (hs : s.size ≤ 2147483648) :
    Calls Try.prog 35 #[.int .u32 c, .string s] w fun e w' => e = .returned (.int .u32 (Crc.back c s.data.toList)) ∧ Below w.heap.size w w' := by
  have hz : ∀ w, (zeroValue 55).run Try.prog w = .ok (.agg z256) w := fun _ => by kernel_rfl
  have hzb : ∀ w, (zeroValue 57).run Try.prog w = .ok (.agg z256b) w := fun _ => by kernel_rfl
  go_enter Try.func35, Try.ntmps35
  have hsz : s.size ≤ 9223372036854775807 := by omega
  go_wp2_with fail
  refine (table_any _).mono ?_
  rintro e w1 ⟨rfl, hb1⟩
  have h1 : w.heap.size ≤ w1.heap.size := hb1.size
  go_wp2_with (first
    | (refine wpList_store_row rfl 55 _ _ rfl w1.heap.size tabCells rfl rfl 55 z256 (heap_alloc_new _ _) tab_info z256_size tabCells_one ?_)
    | (refine wpList_load_row rfl 55 _ rfl w1.heap.size rfl 55 tabCells (0, 0) _ (tab_from_blocks w1).1 Try.underlying55 rfl tab_info ?_))
  clear hz hzb
  go_name_world W HW
  obtain ⟨hT, hF, hB0⟩ := tab_from_blocks w1
  have hB := hB0 hb1
  clear hB0
  rw [HW] at hT hF hB
  clear HW hb1
  have H0 := Lib.hid (And.intro hT (And.intro hF hB))
  clear hT hF hB
  go_loopw [13] (fun i wr => ∃ k : Nat, k ≤ 256 ∧ i = .int .i64 k ∧ Below w.heap.size w wr ∧ wr.heap[w1.heap.size]? = some (.cells tabCells 55 (0, 0)) ∧ ∃ cs, wr.heap[w1.heap.size + 1]? = some (.cells cs 57 (0, 0)) ∧ FromCells k cs) (fun i _ => 256 - (intOf i).toNat)
  case atStart => exact ⟨0, by omega, rfl, H0.out.2.2, H0.out.1, z256b, H0.out.2.1, by simp [z256b], fun i hi => absurd hi (by omega)⟩
  case round =>
    obtain ⟨k, hk, rfl, hb, hT, cs, hcs, hfc⟩ := hrel
    by_cases hlt : k < 256
    · have hix := tab_index k hlt
      have htl := Crc.tab_lt k hlt
      have htop : ((Crc.tab k : Int) / 16777216) = (Crc.top k : Int) := by unfold Crc.top; omega
      have ht2 := (Crc.top_facts k hlt).1
      have hsz2 := hfc.1
      obtain ⟨u, hcell⟩ : ∃ u, wr.cell? ⟨w1.heap.size + 1, Crc.top k, none⟩ = some u := ⟨cs[Crc.top k], (cell_of_row wr _ _ cs 57 (0, 0) hcs).trans (Array.getElem?_eq_getElem (by omega))⟩
      have hfr : wr.frozen? ⟨w1.heap.size + 1, Crc.top k, none⟩ = false := frozen_of_row wr _ _ cs 57 hcs
      have HF := Lib.hid hfc
      have HT := Lib.hid hT
      have HC := Lib.hid hcs
      have HB := Lib.hid hb
      clear hfc hT hcs hb hsz2
      generalize htk : Crc.top k = tk at *
      have HK := Lib.hid htk
      clear htk
      go_wp2
      go_roundw
      case rel =>
        refine ⟨k + 1, by omega, by go_num, HB.out.setCell (by show _ ≤ w1.heap.size + 1; omega) _, (heap_setCell_other wr _ _ _ (by show _ ≠ w1.heap.size + 1; omega)).trans HT.out, _, heap_setCell_same wr _ tk cs 57 _ HC.out, ?_⟩
        rw [← HK.out]
        exact HF.out.step hlt
      case measure => simp [intOf]; omega
    · obtain rfl : k = 256 := by omega
      have HT := Lib.hid hT
      have HC := Lib.hid hcs
      have HF := Lib.hid hfc
      have HB := Lib.hid hb
      clear hT hcs hfc hb
      go_wp2
      go_loopw [0, 9] (fun x i wq => ∃ k : Nat, k ≤ s.size ∧ i = .int .i64 ((k : Int) - 1) ∧ x = .int .u32 (Crc.back c (s.data.toList.drop k)) ∧ ∃ n, wq = wr.drewN n) (fun _ i _ => (intOf i + 1).toNat)
      case atStart => exact ⟨s.size, by omega, rfl, by rw [List.drop_of_length_le (show s.data.toList.length ≤ s.size from Nat.le_refl _)]; rfl, 0, rfl⟩
      case round =>
        obtain ⟨k, hk, rfl, rfl, n, rfl⟩ := hrel
        have hr := Crc.back_lt (s.data.toList.drop k) hc
        rcases Nat.eq_zero_or_pos k with rfl | hpos
        · rw [List.drop_zero] at hr ⊢
          go_wp2
          go_ret
          exact ⟨rfl, below_drewN HB.out n⟩
        · obtain ⟨m, rfl⟩ : ∃ m, k = m + 1 := ⟨k - 1, by omega⟩
          have hms : m < s.size := by omega
          rw [show ((m + 1 : Nat) : Int) - 1 = (m : Int) by omega]
          have he := back_snoc c s m hms
          have hbl : s[m].toNat < 256 := UInt8.toNat_lt _
          generalize Crc.back c (s.data.toList.drop (m + 1)) = x at *
          obtain ⟨j, i, d, e, hj, hx1, hi, hfr, hx2, hd, hx3, he2, hx4⟩ := bstep_ops x s[m].toNat hr hbl
          have hc1 : wr.cell? ⟨w1.heap.size + 1, j, none⟩ = some (.int .u8 (i : Int)) := by
            rw [cell_of_row wr _ j cs 57 (0, 0) HC.out, HF.out.all j hj, hfr]
          have hc2 : wr.cell? ⟨w1.heap.size, i, none⟩ = some (.int .u32 (Crc.tab i : Int)) := by
            rw [cell_of_row wr _ i tabCells 55 (0, 0) HT.out, tabCells_at i hi]
          have HE := Lib.hid he
          have HR := Lib.hid hfr
          clear he hfr
          generalize Crc.tab i = t at *
          generalize Crc.bstep x s[m].toNat = y at *
          have hiZ : (i : Int) < 256 := by omega
          have hmZ : (m : Int) < s.size := by omega
          go_wp2_with fail
          go_quiet (fail)
          go_wp2_with fail
          go_roundw
          case rel => exact ⟨m, by omega, by go_num, by rw [HE.out], _, rfl⟩
          case measure => simp [intOf]
end Go.Proofs.Ytccdipcneabooaa
