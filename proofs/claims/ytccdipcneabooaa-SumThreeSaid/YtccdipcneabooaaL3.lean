import Derived.Test.YtccdipcneabooaaL1
import Derived.Test.YtccdipcneabooaaCrn
namespace Go.Proofs.Ytccdipcneabooaa
open Go.RowKit Go.BigFrame

/-- the four bytes of a number -/
def le4 (n : Nat) : List UInt8 := [UInt8.ofNat n, UInt8.ofNat (n / 256), UInt8.ofNat (n / 65536), UInt8.ofNat (n / 16777216)]
theorem conv_le4 (n : Nat) (hn : n < 4294967296) (W : World) :
    (convert 28 9 (.slice (some ⟨W.heap.size, 0, none⟩) 4 4)).run Try.prog (W.alloc (.cells #[.int .u8 ((n : Int) % 256), .int .u8 ((n : Int) / 256 % 256), .int .u8 ((n : Int) / 65536 % 256), .int .u8 ((n : Int) / 16777216)] 5)) =
      .ok (.string ⟨(le4 n).toArray⟩) (W.alloc (.cells #[.int .u8 ((n : Int) % 256), .int .u8 ((n : Int) / 256 % 256), .int .u8 ((n : Int) / 65536 % 256), .int .u8 ((n : Int) / 16777216)] 5)) := by
  refine run_convert_bytes_back (P := Try.prog) _ 28 9 5 ⟨W.heap.size, 0, none⟩ 4 (le4 n) Try.underlying28 Try.underlying5 Try.underlying9 (fun j hj => ?_)
  have hl : (le4 n).length = 4 := rfl
  have hadd : (⟨W.heap.size, 0, none⟩ : Addr).add j = ⟨W.heap.size, j, none⟩ := by unfold Addr.add; split <;> simp_all
  rw [hadd, World.cell?_alloc_mark]
  match j, hj with
  | 0, _ => simp [le4]
  | 1, _ => simp [le4]
  | 2, _ => simp [le4]
  | 3, _ => simp [le4]; omega
  | j + 4, hj => rw [hl] at hj; omega

set_option maxHeartbeats 400000 in
theorem sumZero_walk (s : ByteArray) (w : World) (h1 : s.size ≤ maxLen) :
    Calls Try.prog 6 #[.string s] w fun e w' => e = .returned (.bool true) ∧ Below w.heap.size w w' := by
  unfold maxLen at h1
  by_cases hc : s.size ≤ 3000
  · have hn := Crc.more_lt s.data.toList (show 0 < 4294967296 by decide)
    have k1 := fun W => of_any s W (by omega)
    have hz := Crc.zero_sum s.data.toList
    generalize Crc.more 0 s.data.toList = n at *
    have HZ := Lib.hid hz
    have K1 := Lib.hid k1
    clear hz k1
    go_enter Try.func6, Try.ntmps6
    go_wp2_with fail
    refine (K1.out _).mono ?_
    rintro e w1 ⟨rfl, hb1⟩
    have hcv := conv_le4 n hn
    have hl4 : (le4 n).length ≤ 4 := Nat.le_refl _
    go_wp2_with fail
    refine (of_any _ _ ?_).mono ?_
    · rw [ByteArray.size_append, show (ByteArray.mk (le4 n).toArray).size = 4 from rfl]; omega
    rintro e w2 ⟨rfl, hb2⟩
    have hq : Crc.more 0 (s ++ ⟨(le4 n).toArray⟩).data.toList = 558161692 := by
      have h := HZ.out (UInt8.ofNat n) (UInt8.ofNat (n / 256)) (UInt8.ofNat (n / 65536)) (UInt8.ofNat (n / 16777216)) (by simp; omega)
      rw [← h]
      simp [le4]
    rw [hq]
    clear hq hcv
    go_wp2_with fail
    refine (awake25 _).mono ?_
    rintro e w3 ⟨rfl, hb3⟩
    go_wp2_with fail
    go_ret
    exact ⟨rfl, bt (bt (hb1.alloc hb1.size _) hb2) hb3⟩
  · go_enter Try.func6, Try.ntmps6
    go_wp2_with (go_at_call 16; refine (awake25 _).mono ?_; rintro e w1 ⟨rfl, hb1⟩)
    go_ret
    exact ⟨rfl, hb1⟩
end Go.Proofs.Ytccdipcneabooaa
