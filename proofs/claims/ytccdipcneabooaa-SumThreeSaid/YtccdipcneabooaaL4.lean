import Derived.Test.YtccdipcneabooaaL3
import Derived.Test.YtccdipcneabooaaL2
import Derived.Laws.MakeOwn
import Derived.Deep.OwnRows
import Derived.StillTailTactics
namespace Go.Proofs.Ytccdipcneabooaa
open Go.RowKit Go.BigFrame

theorem Try.info5 : (Try.prog.info? 5).map (fun i => (i.zero, i.size, i.bytes)) = some (some (.int .u8 0), 1, 1) := by kernel_rfl
theorem make_bytes (n : Nat) (hn : n ≤ 1000000) (W : World) : (Instr.makeSlice 28 (.int .i64 (n : Int)) (.int .i64 (n : Int))).run Try.prog W = .ok (.slice (some ⟨W.heap.size, 0, none⟩) n n) (W.alloc (.cells (madeCells #[.int .u8 0] n) 5)) := by
  obtain ⟨i0, hi, hz0, hz1, hz2⟩ := info_parts Try.info5
  exact run_make_row 28 5 i0 (.int .u8 0) Try.underlying28 hi hz0 hz1 rfl .i64 .i64 n (by rw [hz2]; omega) (by omega) W

def xor3 (a b c : ByteArray) (k : Nat) : Nat := byteAt a k ^^^ byteAt b k ^^^ byteAt c k
set_option maxHeartbeats 400000 in
theorem sumThree_walk (a b c : ByteArray) (w : World) (h1 : a.size ≤ maxLen) (_ : b.size ≤ maxLen) (_ : c.size ≤ maxLen) :
    Calls Try.prog 5 #[.string a, .string b, .string c] w fun e w' => e = .returned (.bool true) ∧ Below w.heap.size w w' := by
  unfold maxLen at h1
  by_cases hc : a.size ≤ 2000 ∧ b.size = a.size ∧ c.size = a.size
  · obtain ⟨c1, c2, c3⟩ := hc
    have hb2 : ((b.size : Int) != a.size) = false := by simp [c2]
    have hb3 : ((c.size : Int) != a.size) = false := by simp [c3]
    have C2 := Lib.hid c2
    have C3 := Lib.hid c3
    clear c2 c3
    go_enter Try.func5, Try.ntmps5
    have hmk := make_bytes a.size (by omega)
    go_wp2_with fail
    have HB := Lib.hid (show Below w.heap.size w (w.alloc (.cells (madeCells #[.int .u8 0] a.size) 5)) from (Below.refl _ _).alloc (Nat.le_refl _) _)
    clear hmk
    go_loopw [8] (fun i wr => ∃ k : Nat, k ≤ a.size ∧ i = .int .i64 k ∧ Below w.heap.size w wr ∧ ∃ cs : Array Value, wr.heap[w.heap.size]? = some (.cells cs 5 (0, 0)) ∧ cs.size = a.size ∧ ∀ j, j < k → cs[j]? = some (.int .u8 ((xor3 a b c j : Nat) : Int))) (fun i _ => a.size - (intOf i).toNat)
    case atStart => exact ⟨0, by omega, rfl, HB.out, _, heap_alloc_new _ _, by simp [madeCells], fun j hj => absurd hj (by omega)⟩
    case round =>
      obtain ⟨k, hk, rfl, hb, cs, hcs, hsz, hall⟩ := hrel
      by_cases hlt : k < a.size
      · have hkb : k < b.size := by rw [C2.out]; exact hlt
        have hkc : k < c.size := by rw [C3.out]; exact hlt
        have hx1 := u8_xor_nat a[k].toNat b[k].toNat (UInt8.toNat_lt _) (UInt8.toNat_lt _)
        have hx2 := u8_xor_nat (a[k].toNat ^^^ b[k].toNat) c[k].toNat (Nat.xor_lt_two_pow (n := 8) (UInt8.toNat_lt _) (UInt8.toNat_lt _)) (UInt8.toNat_lt _)
        have hx3 : xor3 a b c k = a[k].toNat ^^^ b[k].toNat ^^^ c[k].toNat := by unfold xor3; rw [byteAt_eq a k hlt, byteAt_eq b k hkb, byteAt_eq c k hkc]
        obtain ⟨u, hcell⟩ : ∃ u, wr.cell? ⟨w.heap.size, k, none⟩ = some u := ⟨cs[k], (cell_of_row wr _ k cs 5 (0, 0) hcs).trans (Array.getElem?_eq_getElem (by omega))⟩
        have hfr : wr.frozen? ⟨w.heap.size, k, none⟩ = false := frozen_of_row wr _ k cs 5 hcs
        have HN := Lib.hid hcs
        have HA := Lib.hid hall
        have HZ := Lib.hid hsz
        have H3 := Lib.hid hx3
        clear hcs hall hsz hx3
        go_wp2_with fail
        go_still_tail 14, (by kernel_rfl)
        go_wp2_with fail
        go_roundw
        case rel =>
          refine ⟨k + 1, by omega, by go_num, (hb.drew).setCell (Nat.le_refl _) _, cs.setIfInBounds k (.int .u8 ((xor3 a b c k : Nat) : Int)), ?_, by simp [HZ.out], fun j hj => ?_⟩
          · rw [H3.out]; exact heap_setCell_same _ _ k cs 5 _ HN.out
          · rw [Array.getElem?_setIfInBounds]
            by_cases hjk : k = j
            · rw [if_pos hjk, if_pos (by rw [HZ.out]; exact hlt), hjk]
            · rw [if_neg hjk]; exact HA.out j (by omega)
        case measure => simp [intOf]; omega
      · obtain rfl : k = a.size := by omega
        have hcv : (convert 28 9 (.slice (some ⟨w.heap.size, 0, none⟩) a.size a.size)).run Try.prog wr = .ok (.string ⟨(Crc.xorL (Crc.xorL a.data.toList b.data.toList) c.data.toList).toArray⟩) wr := by
          have hla : (Crc.xorL (Crc.xorL a.data.toList b.data.toList) c.data.toList).length = a.size := by
            have e1 : a.data.toList.length = a.size := rfl
            have e2 : b.data.toList.length = a.data.toList.length := C2.out
            have e3 : c.data.toList.length = a.data.toList.length := C3.out
            rw [Crc.xorL_length _ _ (by rw [Crc.xorL_length _ _ e2.symm, e3]), Crc.xorL_length _ _ e2.symm, e1]
          have := run_convert_bytes_back (P := Try.prog) wr 28 9 5 ⟨w.heap.size, 0, none⟩ a.size (Crc.xorL (Crc.xorL a.data.toList b.data.toList) c.data.toList) Try.underlying28 Try.underlying5 Try.underlying9 (fun j hj => by
            have hj' : j < a.size := by rw [hla] at hj; exact hj
            have hadd : (⟨w.heap.size, 0, none⟩ : Addr).add j = ⟨w.heap.size, j, none⟩ := by unfold Addr.add; split <;> simp_all
            rw [hadd, cell_of_row wr _ j cs 5 (0, 0) hcs, hall j hj']
            have hjb : j < b.size := by rw [C2.out]; exact hj'
            have hjc : j < c.size := by rw [C3.out]; exact hj'
            unfold xor3
            rw [byteAt_eq a j hj', byteAt_eq b j hjb, byteAt_eq c j hjc]
            simp [Crc.xorL, UInt8.toNat_xor]
            rfl)
          rw [hla] at this
          exact this
        have h3s := Crc.three_sum a.data.toList b.data.toList c.data.toList C2.out C3.out
        have hd : (ByteArray.mk (Crc.xorL (Crc.xorL a.data.toList b.data.toList) c.data.toList).toArray).size ≤ 2147483648 := by
          show (Crc.xorL (Crc.xorL a.data.toList b.data.toList) c.data.toList).toArray.size ≤ _
          rw [List.size_toArray, Crc.xorL_length _ _ (by rw [Crc.xorL_length _ _ (show a.data.toList.length = b.data.toList.length from C2.out.symm)]; exact C3.out.symm), Crc.xorL_length _ _ (show a.data.toList.length = b.data.toList.length from C2.out.symm)]
          show a.size ≤ _
          omega
        obtain ⟨A, B, C, hA, hB, hC, k1, k2, k3, k4⟩ : ∃ A B C : Nat, A < 4294967296 ∧ B < 4294967296 ∧ C < 4294967296 ∧
            CallsU 17 #[.string ⟨(Crc.xorL (Crc.xorL a.data.toList b.data.toList) c.data.toList).toArray⟩] (A ^^^ B ^^^ C) ∧ CallsU 17 #[.string a] A ∧ CallsU 17 #[.string b] B ∧ CallsU 17 #[.string c] C :=
          ⟨_, _, _, Crc.more_lt _ (by decide), Crc.more_lt _ (by decide), Crc.more_lt _ (by decide), CallsU.of_eq (fun W => of_any _ W hd) h3s, fun W => of_any a W (by omega), fun W => of_any b W (by rw [C2.out]; omega), fun W => of_any c W (by rw [C3.out]; omega)⟩
        have hx1 := u32_xor_nat A B hA hB
        have hx2 := u32_xor_nat (A ^^^ B) C (Crc.xor_lt hA hB) hC
        generalize A ^^^ B = AB at *
        generalize AB ^^^ C = ABC at *
        clear hcs hsz hall h3s hd
        go_wp2_with fail
        refine (k1 _).mono ?_
        rintro e w1 ⟨rfl, hb1⟩
        go_wp2_with fail
        refine (k2 _).mono ?_
        rintro e w2 ⟨rfl, hb2⟩
        go_wp2_with fail
        refine (k3 _).mono ?_
        rintro e w3 ⟨rfl, hb3⟩
        go_wp2_with fail
        refine (k4 _).mono ?_
        rintro e w4 ⟨rfl, hb4⟩
        go_wp2_with fail
        refine (awake25 _).mono ?_
        rintro e w5 ⟨rfl, hb5⟩
        go_wp2_with fail
        go_ret
        exact ⟨rfl, bt (bt (bt (bt (bt hb hb1) hb2) hb3) hb4) hb5⟩
  · have hd : 2000 < a.size ∨ (a.size ≤ 2000 ∧ b.size ≠ a.size) ∨ (a.size ≤ 2000 ∧ b.size = a.size ∧ c.size ≠ a.size) := by omega
    clear hc
    rcases hd with hd | ⟨hd1, hd2⟩ | ⟨hd1, hd2, hd3⟩
    · go_enter Try.func5, Try.ntmps5
      go_wp2_with (go_at_call 16; refine (awake25 _).mono ?_; rintro e w1 ⟨rfl, hb1⟩)
      go_ret
      exact ⟨rfl, hb1⟩
    · have hb2 : ((b.size : Int) != a.size) = true := by simp; omega
      clear hd2
      go_enter Try.func5, Try.ntmps5
      go_wp2_with (go_at_call 16; refine (awake25 _).mono ?_; rintro e w1 ⟨rfl, hb1⟩)
      go_ret
      exact ⟨rfl, hb1⟩
    · have hb2 : ((b.size : Int) != a.size) = false := by simp [hd2]
      have hb3 : ((c.size : Int) != a.size) = true := by simp; omega
      clear hd2 hd3
      go_enter Try.func5, Try.ntmps5
      go_wp2_with (go_at_call 16; refine (awake25 _).mono ?_; rintro e w1 ⟨rfl, hb1⟩)
      go_ret
      exact ⟨rfl, hb1⟩
end Go.Proofs.Ytccdipcneabooaa
