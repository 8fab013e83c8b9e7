import Derived.Test.YtccdipcneabooaaWr
namespace Go.Proofs.Ytccdipcneabooaa
open Go.RowKit

theorem u32_not (c : Nat) (hc : c < 4294967296) : bits .xor .u32 IntKind.u32.max (c : Int) = (Crc.inv c : Int) := by
  have h := u32_xor_nat 4294967295 c (by decide) hc
  unfold Crc.inv
  rw [Nat.xor_comm]
  exact h
theorem ret_u32 {a b : Nat} (h : a = b) : Ending.returned (.int .u32 (a : Int)) = .returned (.int .u32 (b : Int)) := by rw [h]

set_option maxHeartbeats 400000 in
theorem more_any (c : Nat) (s : ByteArray) (w : World) (hc : c < 4294967296) (hs : s.size ≤ 2147483648) :
    Calls Try.prog 19 #[.int .u32 c, .string s] w fun e w' => e = .returned (.int .u32 (Crc.more c s.data.toList)) ∧ Below w.heap.size w w' := by
  have h1 := u32_not c hc
  have h2 := Crc.run_lt s.data.toList (Crc.inv_lt hc)
  have h3 := u32_not _ h2
  have h4 := Crc.inv_lt hc
  have H : Hid (Crc.more c s.data.toList = Crc.inv (Crc.run (Crc.inv c) s.data.toList)) := rfl
  generalize hq : Crc.run (Crc.inv c) s.data.toList = r at *
  have HQ := Lib.hid hq
  clear hq
  go_enter Try.func19, Try.ntmps19
  go_wp2_with fail
  refine (run_any _ _ _ h4 hs).mono ?_
  rintro e w1 ⟨rfl, hb⟩
  rw [HQ.out]
  go_wp2_with fail
  go_ret
  exact ⟨ret_u32 H.out.symm, hb⟩

set_option maxHeartbeats 400000 in
theorem of_any (s : ByteArray) (w : World) (hs : s.size ≤ 2147483648) :
    Calls Try.prog 17 #[.string s] w fun e w' => e = .returned (.int .u32 (Crc.more 0 s.data.toList)) ∧ Below w.heap.size w w' := by
  go_enter Try.func17, Try.ntmps17
  go_wp2_with fail
  refine (more_any 0 _ _ (by decide) hs).mono ?_
  rintro e w1 ⟨rfl, hb⟩
  go_wp2_with fail
  go_ret
  exact ⟨rfl, hb⟩

theorem byteAt_eq (s : ByteArray) (k : Nat) (h : k < s.size) : byteAt s k = s[k].toNat := by
  have hl : k < s.data.toList.length := by simpa using h
  unfold byteAt
  rw [List.getD, List.getElem?_eq_getElem hl]
  rfl
theorem u32_xorb (x b : Nat) (hx : x < 4294967296) (hb : b < 256) : bits .xor .u32 (x : Int) (b : Int) = ((x ^^^ b : Nat) : Int) := u32_xor_nat x b hx (by omega)

set_option maxRecDepth 100000 in
set_option maxHeartbeats 400000 in
theorem refmore_any (c : Nat) (s : ByteArray) (w : World) (hc : c < 4294967296) (hs : s.size ≤ 2147483648) :
    Calls Try.prog 20 #[.int .u32 c, .string s] w fun e w' => e = .returned (.int .u32 (Crc.more c s.data.toList)) ∧ w = w' := by
  have h1 := u32_not c hc
  have h4 := Crc.inv_lt hc
  have H : Hid (Crc.more c s.data.toList = Crc.inv (Crc.run (Crc.inv c) s.data.toList)) := rfl
  generalize Crc.inv c = d at *
  go_enter Try.func20, Try.ntmps20
  go_wp2_with fail
  clear h1
  go_loop [5, 6] (fun x i => ∃ k : Nat, k ≤ s.size ∧ i = .int .i64 k ∧ x = .int .u32 (Crc.run d (s.data.toList.take k))) (fun _ i => s.size - (intOf i).toNat)
  case atStart => exact ⟨0, by omega, rfl, rfl⟩
  case round =>
    obtain ⟨k, hk, rfl, rfl⟩ := hrel
    have hr := Crc.run_lt (s.data.toList.take k) h4
    by_cases hlt : k < s.size
    · have he := run_step d s k hlt
      rw [byteAt_eq s k hlt] at he
      have hb : s[k].toNat < 256 := UInt8.toNat_lt _
      generalize Crc.run d (s.data.toList.take k) = x at *
      have hx := u32_xorb x s[k].toNat hr hb
      have hx2 : x ^^^ s[k].toNat < 4294967296 := Crc.xor_lt hr (by omega)
      have hu : Crc.upd x s[k].toNat = Crc.steps 8 (x ^^^ s[k].toNat) := rfl
      rw [hu] at he
      generalize x ^^^ s[k].toNat = y at *
      have HE := Lib.hid he
      clear he hu
      go_wp2
      clear hx
      go_loop [5, 7] (fun c i => ∃ m : Nat, m ≤ 8 ∧ i = .int .i64 m ∧ c = .int .u32 (Crc.steps m y)) (fun _ i => 8 - (intOf i).toNat)
      case atStart => exact ⟨0, by omega, rfl, rfl⟩
      case round =>
        obtain ⟨m, hm, rfl, rfl⟩ := hrel
        have hc : Crc.steps m y < 4294967296 := Crc.steps_lt hx2 m
        have hs2 : Crc.steps (m + 1) y = Crc.step (Crc.steps m y) := rfl
        generalize hcd : Crc.steps m y = c at *
        have HC := Lib.hid hcd
        clear hcd
        have HS := Lib.hid hs2
        clear hs2
        by_cases hlt8 : m < 8
        · by_cases hodd : c % 2 = 1
          · have hq : (((c : Int) % 2) == 1) = true := by rw [show (c : Int) % 2 = 1 by omega]; rfl
            have hp := u32_poly c hc hodd
            have H1 := Lib.hid hodd
            clear hodd
            go_wp2
            go_round
            case rel => exact ⟨m + 1, by omega, by go_num, by rw [HS.out]⟩
            case measure => simp [intOf]; omega
          · have hq : (((c : Int) % 2) == 1) = false := by rw [show (c : Int) % 2 = 0 by omega]; rfl
            have H1 := Lib.hid (step_even c hodd)
            clear hodd
            go_wp2
            go_round
            case rel => exact ⟨m + 1, by omega, by go_num, by rw [HS.out, ← H1.out]⟩
            case measure => simp [intOf]; omega
        · obtain rfl : m = 8 := by omega
          go_wp2
          go_round
          case rel => exact ⟨k + 1, by omega, by go_num, by rw [HE.out, HC.out]⟩
          case measure => simp [intOf]; omega
    · obtain rfl : k = s.size := by omega
      have he : s.data.toList.take s.size = s.data.toList := List.take_of_length_le (Nat.le_of_eq Array.length_toList)
      rw [he] at hr ⊢
      clear he
      generalize Crc.run d s.data.toList = r at *
      have h3 := u32_not r hr
      go_wp2
      go_ret
      exact ⟨ret_u32 H.out.symm, rfl⟩

set_option maxHeartbeats 400000 in
theorem refof_any (s : ByteArray) (w : World) (hs : s.size ≤ 2147483648) :
    Calls Try.prog 18 #[.string s] w fun e w' => e = .returned (.int .u32 (Crc.more 0 s.data.toList)) ∧ w = w' := by
  go_enter Try.func18, Try.ntmps18
  go_wp2_with fail
  refine (refmore_any 0 _ _ (by decide) hs).mono ?_
  rintro e w1 ⟨rfl, rfl⟩
  go_wp2_with fail
  go_ret
  exact ⟨rfl, rfl⟩
end Go.Proofs.Ytccdipcneabooaa
