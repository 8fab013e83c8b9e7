import Derived.Test.YtccdipcneabooaaWt
import Derived.Laws.IdiomStrings
import Derived.Lib.ItoaWalk
namespace Go.Proofs.Ytccdipcneabooaa
open Go.RowKit
/-- what the byte s[j] is, as a number -/
def byteAt (s : ByteArray) (j : Nat) : Nat := (s.data.toList.getD j 0).toNat
theorem byteAt_lt (s : ByteArray) (j : Nat) : byteAt s j < 256 := UInt8.toNat_lt _
theorem run_step (c : Nat) (s : ByteArray) (k : Nat) (h : k < s.size) : Crc.run c (s.data.toList.take (k + 1)) = Crc.upd (Crc.run c (s.data.toList.take k)) (byteAt s k) := by
  have hl : k < s.data.toList.length := by simpa using h
  rw [List.take_succ_eq_append_getElem hl, Crc.run_snoc]
  unfold byteAt
  rw [List.getD, List.getElem?_eq_getElem hl]
  rfl
/-- the cells of a table in its block, and of a string's bytes in the one behind it -/
theorem tab_str_cells (w1 : World) (s : ByteArray) (cap : Nat) (fr : Nat × Nat) :
    (∀ j, j < 256 → ((((w1.alloc (.cells z256 55)).setRow w1.heap.size tabCells).alloc (.cells (bytesRow s cap) 5 fr)).drew).cell? ⟨w1.heap.size, j, none⟩ = some (.int .u32 (Crc.tab j))) ∧
    (∀ j, j < s.size → ((((w1.alloc (.cells z256 55)).setRow w1.heap.size tabCells).alloc (.cells (bytesRow s cap) 5 fr)).drew).cell? ⟨w1.heap.size + 1, j, none⟩ = some (.int .u8 (byteAt s j))) ∧
    ∀ {w : World}, Below w.heap.size w w1 → Below w.heap.size w ((((w1.alloc (.cells z256 55)).setRow w1.heap.size tabCells).alloc (.cells (bytesRow s cap) 5 fr)).drew) := by
  have hz : ((w1.alloc (.cells z256 55)).setRow w1.heap.size tabCells).heap.size = w1.heap.size + 1 := by simp
  refine ⟨fun j hj => ?_, fun j hj => ?_, fun hb => ?_⟩
  · have h1 : ((w1.alloc (.cells z256 55)).setRow w1.heap.size tabCells).heap[w1.heap.size]? = some (.cells tabCells 55 (0, 0)) := setRow_heap _ _ _ _ _ _ (heap_alloc_new _ _)
    show (((w1.alloc (.cells z256 55)).setRow w1.heap.size tabCells).alloc _).cell? _ = _
    rw [World.cell?_alloc_lt _ _ _ (by rw [hz]; show w1.heap.size < _; omega), cell_of_row _ _ j tabCells 55 (0, 0) h1, tabCells_at j hj]
  · show (((w1.alloc (.cells z256 55)).setRow w1.heap.size tabCells).alloc _).cell? _ = _
    have e : (⟨w1.heap.size + 1, j, none⟩ : Addr) = ⟨((w1.alloc (.cells z256 55)).setRow w1.heap.size tabCells).heap.size, j, none⟩ := by rw [hz]
    have hl : j < s.data.toList.length := by simpa using hj
    have hl2 : j < s.data.size := hj
    rw [e, World.cell?_alloc_mark]
    unfold bytesRow byteAt
    rw [Array.getElem?_append_left (by simpa using hl2), Array.getElem?_map, Array.getElem?_eq_getElem hl2, List.getD, List.getElem?_eq_getElem hl]
    rfl
  · exact (((below_setRow (hb.alloc hb.size _) hb.size tabCells).alloc (by rw [hz]; have := hb.size; omega) _).drew)

theorem upd_ops (x b : Nat) (hx : x < 4294967296) (hb : b < 256) : ∃ i : Nat, i < 256 ∧ bits .xor .u8 ((x : Int) % 256) (b : Int) = (i : Int) ∧ bits .xor .u32 (Crc.tab i : Int) ((x : Int) / 256) = (Crc.upd x b : Int) := by
  have e1 : ((x : Int) % 256) = ((x % 256 : Nat) : Int) := by omega
  have e2 : ((x : Int) / 256) = ((x / 256 : Nat) : Int) := by omega
  have hi := Crc.idx_lt (c := x) hb
  refine ⟨_, hi, ?_, ?_⟩
  · rw [e1]; exact u8_xor_nat (x % 256) b (by omega) hb
  · rw [e2, Crc.upd_tab]
    exact u32_xor_nat _ _ (Crc.steps_lt (by omega) 8) (by omega)

set_option maxRecDepth 100000 in
set_option maxHeartbeats 400000 in
theorem run_any (c : Nat) (s : ByteArray) (w : World) (hc : c < 4294967296) (hs : s.size ≤ 2147483648) :
    Calls Try.prog 34 #[.int .u32 c, .string s] w fun e w' => e = .returned (.int .u32 (Crc.run c s.data.toList)) ∧ Below w.heap.size w w' := by
  have hz : ∀ w, (zeroValue 55).run Try.prog w = .ok (.agg z256) w := fun _ => by kernel_rfl
  go_enter Try.func34, Try.ntmps34
  have hcv := fun W => run_bytes_of_string (P := Try.prog) W 9 28 5 s Try.underlying9 Try.underlying28 Try.underlying5
  have hsz : s.size ≤ 9223372036854775807 := by omega
  go_wp2_with fail
  refine (table_any _).mono ?_
  rintro e w1 ⟨rfl, hb1⟩
  have h1 : w.heap.size ≤ w1.heap.size := hb1.size
  go_wp2_with (refine wpList_store_row rfl 55 _ _ rfl w1.heap.size tabCells rfl rfl 55 z256 (heap_alloc_new _ _) tab_info z256_size tabCells_one ?_)
  clear hcv hz
  go_name_world W HW
  obtain ⟨hT, hS, hB0⟩ := tab_str_cells w1 s (grownCap ((w1.alloc (.cells z256 55)).setRow w1.heap.size tabCells) s.size 0 5) ((bytesRow s (grownCap ((w1.alloc (Obj.cells z256 55)).setRow w1.heap.size tabCells) s.size 0 5)).size, (bytesRow s (grownCap ((w1.alloc (Obj.cells z256 55)).setRow w1.heap.size tabCells) s.size 0 5)).size + 1)
  have hB := hB0 hb1
  clear hB0
  rw [HW] at hT hS hB
  generalize grownCap ((w1.alloc (.cells z256 55)).setRow w1.heap.size tabCells) s.size 0 5 = cap at *
  clear HW hb1
  have HT := Lib.hid hT
  have HS := Lib.hid hS
  have HB := Lib.hid hB
  clear hT hS hB
  go_loop [0, 12] (fun x i => ∃ k : Nat, k ≤ s.size ∧ i = .int .i64 k ∧ x = .int .u32 (Crc.run c (s.data.toList.take k))) (fun _ i => s.size - (intOf i).toNat)
  case atStart => exact ⟨0, by omega, rfl, rfl⟩
  case round =>
    obtain ⟨k, hk, rfl, rfl⟩ := hrel
    have hr := Crc.run_lt (s.data.toList.take k) hc
    by_cases hlt : k < s.size
    · have he := run_step c s k hlt
      generalize Crc.run c (s.data.toList.take k) = x at *
      have HE := Lib.hid he
      clear he
      have hb := byteAt_lt s k
      have h2 := HS.out k hlt
      generalize byteAt s k = b at *
      obtain ⟨i, hi, hx1, hx2⟩ := upd_ops x b hr hb
      have h3 := HT.out i hi
      generalize Crc.tab i = t at *
      go_wp2
      go_round
      case rel => exact ⟨k + 1, by omega, by go_num, by rw [HE.out]⟩
      case measure => simp [intOf]; omega
    · obtain rfl : k = s.size := by omega
      have he : s.data.toList.take s.size = s.data.toList := List.take_of_length_le (Nat.le_of_eq Array.length_toList)
      rw [he] at hr ⊢
      clear he
      go_wp2
      go_ret
      exact ⟨rfl, HB.out⟩
end Go.Proofs.Ytccdipcneabooaa
