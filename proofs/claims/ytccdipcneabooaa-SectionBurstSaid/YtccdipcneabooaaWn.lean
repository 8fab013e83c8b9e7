import Derived.Test.YtccdipcneabooaaWm
import Derived.Test.YtccdipcneabooaaSn
import Derived.Test.YtccdipcneabooaaCrb
import Derived.Test.YtccdipcneabooaaInv
import Derived.Deep.AppendLies
import Derived.OwnWalk
namespace Go.Proofs.Ytccdipcneabooaa
open Go.RowKit Go.BigFrame

theorem pow256_le {w : Nat} (h : w ≤ 7) : (256 : Nat) ^ w ≤ 72057594037927936 := Nat.le_trans (Nat.pow_le_pow_right (by decide) h) (by decide)
theorem or_u64 (n b : Nat) (hn : n < 72057594037927936) (hb : b < 256) : bits .or .u64 ((n : Int) * 256) (b : Int) = ((n * 256 + b : Nat) : Int) := by
  have h := bits_or_u64_nat (n * 256) b (by omega) (by omega)
  rw [Crc.or_low hb] at h
  have e : ((n * 256 : Nat) : Int) = (n : Int) * 256 := by simp
  rw [← e]
  exact h

set_option maxHeartbeats 400000 in
theorem word_in (s : ByteArray) (a w : Nat) (W : World) (h1 : 1 ≤ w) (h2 : w ≤ 8) (h3 : a + w ≤ s.size) (hs : s.size ≤ 9223372036854775807) :
    Calls Try.prog 26 #[.string s, .int .i64 a, .int .i64 w] W fun e w' => e = .returned (.tuple #[.int .u64 (Sec.word s.data.toList a w), .int .i64 0]) ∧ W = w' := by
  go_enter Try.func26, Try.ntmps26
  go_wp2_with fail
  go_loop [8, 9] (fun x i => ∃ k : Nat, k ≤ w ∧ i = .int .i64 ((k : Int) - 1) ∧ x = .int .u64 (Sec.word s.data.toList (a + k) (w - k))) (fun _ i => (intOf i + 1).toNat)
  case atStart => exact ⟨w, by omega, rfl, by rw [Nat.sub_self, Sec.word_zero]; rfl⟩
  case round =>
    obtain ⟨k, hk, rfl, rfl⟩ := hrel
    rcases Nat.eq_zero_or_pos k with rfl | hpos
    · rw [Nat.add_zero, Nat.sub_zero]
      go_wp2
      go_ret2
      exact ⟨rfl, rfl⟩
    · obtain ⟨m, rfl⟩ : ∃ m, k = m + 1 := ⟨k - 1, by omega⟩
      have hms : a + m < s.size := by omega
      rw [show ((m + 1 : Nat) : Int) - 1 = (m : Int) by omega]
      obtain ⟨d, hd⟩ : ∃ d, w - m = d + 1 := ⟨w - m - 1, by omega⟩
      have he := Sec.word_step s.data.toList a m d hms
      have hwd : w - (m + 1) = d := by omega
      rw [hwd, ← Nat.add_assoc]
      have hlt := Sec.word_lt s.data.toList (a + m + 1) d
      have hp := pow256_le (w := d) (by omega)
      generalize Sec.word s.data.toList (a + m + 1) d = n at *
      have hb : s[a + m].toNat < 256 := UInt8.toNat_lt _
      have hn : n < 72057594037927936 := by omega
      have hor := or_u64 n s[a + m].toNat hn hb
      have hbe : s.data.toList[a + m].toNat = s[a + m].toNat := rfl
      rw [hbe] at he
      generalize n * 256 + s[a + m].toNat = y at *
      have HE := Lib.hid (And.intro he (And.intro hd hwd))
      clear he hd hwd hp hlt
      go_wp2_with fail
      go_round
      case rel => exact ⟨m, by omega, by go_num, by rw [HE.out.2.1, HE.out.1]⟩
      case measure => simp [intOf]

set_option maxHeartbeats 400000 in
theorem word_out (s : ByteArray) (a w : Int) (W : World) (h : ¬ (1 ≤ w ∧ w ≤ 8 ∧ 0 ≤ a ∧ a + w ≤ s.size)) (hs : s.size ≤ 9223372036854775807) :
    Calls Try.prog 26 #[.string s, .int .i64 a, .int .i64 w] W fun e w' => e = .returned (.tuple #[.int .u64 0, .int .i64 2]) ∧ W = w' := by
  have hd : w < 1 ∨ (1 ≤ w ∧ 8 < w) ∨ (1 ≤ w ∧ w ≤ 8 ∧ a < 0) ∨ (1 ≤ w ∧ w ≤ 8 ∧ 0 ≤ a ∧ (s.size : Int) - w < a) := by omega
  clear h
  rcases hd with hd | ⟨hd1, hd2⟩ | ⟨hd1, hd2, hd3⟩ | ⟨hd1, hd2, hd3, hd4⟩
  all_goals
    go_enter Try.func26, Try.ntmps26
    go_wp2_with fail
    go_ret2
    exact ⟨rfl, rfl⟩

theorem bytes_ext0 {a b : ByteArray} (h : a.data.toList = b.data.toList) : a = b := by
  cases a; cases b; congr 1; exact Array.toList_inj.1 h
/-- the bytes of a number as cells -/
def byteVals (l : List UInt8) : List Value := l.map fun b => Value.int .u8 (b.toNat : Int)
theorem conv_own (W : World) (base : Nat) (v : Value) (l : List UInt8) (hl : l ≠ []) (h : W.ownsRow base 5 1 v l.length (byteVals l)) : (convert 28 9 v).run Try.prog W = .ok (.string ⟨l.toArray⟩) W := by
  obtain ⟨g, cap, rfl, _, _⟩ := h.form (List.length_pos_iff.2 hl)
  refine run_convert_bytes_back (P := Try.prog) W 28 9 5 ⟨g, 0, none⟩ cap l Try.underlying28 Try.underlying5 Try.underlying9 (fun j hj => ?_)
  exact h.cells (g := g) rfl j _ (by simp [byteVals, List.getElem?_eq_getElem hj])

set_option maxHeartbeats 400000 in
theorem number_in (n w : Nat) (W : World) (h0 : n < 18446744073709551616) (h1 : 1 ≤ w) (h2 : w ≤ 8) :
    Calls Try.prog 28 #[.int .u64 n, .int .i64 w] W fun e w' => e = .returned (.string ⟨(Sec.numB n w).toArray⟩) ∧ Below W.heap.size W w' := by
  obtain ⟨i0, hi, hz0, hz1, hz2⟩ := info_parts (show (Try.prog.info? 5).map (fun i => (i.zero, i.size, i.bytes)) = some (some (.int .u8 0), 1, 1) from by kernel_rfl)
  go_enter Try.func28, Try.ntmps28
  go_wp2_with fail
  go_loopw [0, 5, 13] (fun x v i wr => ∃ k : Nat, k ≤ w ∧ i = .int .i64 k ∧ x = .int .u64 ((n / 256 ^ k : Nat) : Int) ∧ Below W.heap.size W wr ∧ wr.ownsRow W.heap.size 5 1 v k (byteVals (Sec.numB n k))) (fun _ _ i _ => w - (intOf i).toNat)
  case atStart => exact ⟨0, by omega, rfl, by simp, Below.refl _ _, World.ownsRow_nil _ _ _ _⟩
  case round =>
    obtain ⟨k, hk, rfl, rfl, hb, hown⟩ := hrel
    have hdv : n / 256 ^ k < 18446744073709551616 := Nat.lt_of_le_of_lt (Nat.div_le_self _ _) h0
    have hsn := Sec.numB_snoc k n
    have hdd : n / 256 ^ (k + 1) = n / 256 ^ k / 256 := by rw [Nat.pow_succ, Nat.div_div_eq_div_mul]
    generalize n / 256 ^ k = x at *
    have HB := Lib.hid (And.intro hb (And.intro hsn hdd))
    have HW := Lib.hid hown
    have hsz : W.heap.size ≤ wr.heap.size := hb.size
    clear hb hsn hdd hown
    by_cases hlt : k < w
    · go_wp2_with (at_builtin; refine wpList_append_own _ rfl _ _ 28 rfl W.heap.size 5 i0 (.int .u8 0) 1 1 Try.underlying28 hi hz0 hz1 hz2 rfl (by decide) _ _ _ rfl (HW.out.alloc _) ⟨wr.heap.size, 0, none⟩ 1 1 [.int .u8 ((x : Int) % 256)] rfl rfl ?c1 ?c2 ?c3 ?c4 ?c5 ?_)
      case c1 => exact cell_one_new _ _ _
      case c2 => simp [Value.oneCell']
      case c3 => unfold maxLen; omega
      case c4 => omega
      case c5 => simp; omega
      intro v' w1 hown1 hgrow1 _
      have hb1 : Below W.heap.size W w1 := (HB.out.1.alloc HB.out.1.size _).grown hgrow1 (by simp; omega) (fun j hj => (HW.out.lt j hj).1)
      have H1 := Lib.hid (And.intro hown1 hb1)
      clear hown1 hgrow1 hb1
      go_wp2_with fail
      go_roundw
      case rel =>
        refine ⟨k + 1, by omega, by go_num, by rw [HB.out.2.2]; simp, H1.out.2, ?_⟩
        rw [HB.out.2.1]
        have e : byteVals (Sec.numB n k ++ [UInt8.ofNat x]) = byteVals (Sec.numB n k) ++ [.int .u8 ((x : Int) % 256)] := by simp [byteVals]
        rw [e]
        exact H1.out.1
      case measure => simp [intOf]; omega
    · obtain rfl : k = w := by omega
      have hne : Sec.numB n k ≠ [] := fun e => by have := Sec.numB_length k n; rw [e] at this; simp at this; omega
      have hcv := conv_own wr W.heap.size u5 (Sec.numB n k) hne (by rw [Sec.numB_length]; exact HW.out)
      go_wp2_with fail
      go_ret
      exact ⟨rfl, HB.out.1⟩

set_option maxHeartbeats 400000 in
theorem number_out (n : Nat) (w : Int) (W : World) (h : ¬ (1 ≤ w ∧ w ≤ 8)) :
    Calls Try.prog 28 #[.int .u64 n, .int .i64 w] W fun e w' => e = .returned (.string ⟨#[]⟩) ∧ W = w' := by
  have hd : w < 1 ∨ (1 ≤ w ∧ 8 < w) := by omega
  clear h
  rcases hd with hd | ⟨hd1, hd2⟩
  all_goals
    go_enter Try.func28, Try.ntmps28
    go_wp2_with fail
    go_ret
    exact ⟨rfl, rfl⟩
theorem number_any (n : Nat) (w : Int) (W : World) (h0 : n < 18446744073709551616) :
    Calls Try.prog 28 #[.int .u64 n, .int .i64 w] W fun e w' => e = .returned (.string ⟨(Sec.number n w).toArray⟩) ∧ Below W.heap.size W w' := by
  unfold Sec.number
  by_cases h : 1 ≤ w ∧ w ≤ 8
  · rw [if_pos h]
    obtain ⟨k, rfl⟩ := Int.eq_ofNat_of_zero_le (show 0 ≤ w by omega)
    exact number_in n k W h0 (by omega) (by omega)
  · rw [if_neg h]
    exact (number_out n w W h).mono fun e w' ⟨he, hw⟩ => ⟨he, by rw [hw]; exact Below.refl _ _⟩

set_option maxHeartbeats 400000 in
theorem four_int (n : Nat) (W : World) (h0 : n ≤ 9223372036854775807) :
    Calls Try.prog 37 #[.int .i64 n] W fun e w' => e = .returned (.string ⟨(Sec.numB n 4).toArray⟩) ∧ Below W.heap.size W w' := by
  go_enter Try.func37, Try.ntmps37
  go_wp2_with fail
  refine (number_in n 4 W (by omega) (by omega) (by omega)).mono ?_
  rintro e w1 ⟨rfl, hb⟩
  go_wp2_with fail
  go_ret
  exact ⟨rfl, hb⟩
set_option maxHeartbeats 400000 in
theorem four_u32 (n : Nat) (W : World) (h0 : n < 4294967296) :
    Calls Try.prog 41 #[.int .u32 n] W fun e w' => e = .returned (.string ⟨(Sec.numB n 4).toArray⟩) ∧ Below W.heap.size W w' := by
  go_enter Try.func41, Try.ntmps41
  go_wp2_with fail
  refine (number_in n 4 W (by omega) (by omega) (by omega)).mono ?_
  rintro e w1 ⟨rfl, hb⟩
  go_wp2_with fail
  go_ret
  exact ⟨rfl, hb⟩

-- the document's
theorem conv_one (x : Nat) (W : World) : (convert 28 9 (.slice (some ⟨W.heap.size, 0, none⟩) 1 1)).run Try.prog (W.alloc (.cells #[.int .u8 ((x : Int) % 256)] 5)) =
    .ok (.string ⟨[UInt8.ofNat x].toArray⟩) (W.alloc (.cells #[.int .u8 ((x : Int) % 256)] 5)) := by
  refine run_convert_bytes_back (P := Try.prog) _ 28 9 5 ⟨W.heap.size, 0, none⟩ 1 [UInt8.ofNat x] Try.underlying28 Try.underlying5 Try.underlying9 (fun j hj => ?_)
  have h0 : j = 0 := by simp at hj; exact hj
  subst h0
  have hadd : (⟨W.heap.size, 0, none⟩ : Addr).add 0 = ⟨W.heap.size, 0, none⟩ := by unfold Addr.add; simp
  rw [hadd, World.cell?_alloc_mark]
  simp

set_option maxHeartbeats 400000 in
theorem refnumber_in (n w : Nat) (W : World) (h0 : n < 18446744073709551616) (h2 : w ≤ 8) :
    Calls Try.prog 29 #[.int .u64 n, .int .i64 w] W fun e w' => e = .returned (.string ⟨(Sec.numB n w).toArray⟩) ∧ Below W.heap.size W w' := by
  go_enter Try.func29, Try.ntmps29
  go_wp2_with fail
  go_loopw [0, 5, 6] (fun x v i wr => ∃ k : Nat, k ≤ w ∧ i = .int .i64 k ∧ x = .int .u64 ((n / 256 ^ k : Nat) : Int) ∧ Below W.heap.size W wr ∧ v = .string ⟨(Sec.numB n k).toArray⟩) (fun _ _ i _ => w - (intOf i).toNat)
  case atStart => exact ⟨0, by omega, rfl, by simp, Below.refl _ _, rfl⟩
  case round =>
    obtain ⟨k, hk, rfl, rfl, hb, rfl⟩ := hrel
    have hdv : n / 256 ^ k < 18446744073709551616 := Nat.lt_of_le_of_lt (Nat.div_le_self _ _) h0
    have hsn := Sec.numB_snoc k n
    have hln := Sec.numB_length k n
    have hdd : n / 256 ^ (k + 1) = n / 256 ^ k / 256 := by rw [Nat.pow_succ, Nat.div_div_eq_div_mul]
    generalize n / 256 ^ k = x at *
    obtain ⟨t, ht⟩ : ∃ t : ByteArray, t = ⟨(Sec.numB n k).toArray⟩ := ⟨_, rfl⟩
    have hts : t.size ≤ 8 := by rw [ht]; show (Sec.numB n k).toArray.size ≤ 8; rw [List.size_toArray, hln]; omega
    rw [← ht]
    have HB := Lib.hid (And.intro hb (And.intro hsn (And.intro hdd ht)))
    clear hb hsn hdd hln ht
    by_cases hlt : k < w
    · have hcv := conv_one x wr
      obtain ⟨u, hu⟩ : ∃ u : ByteArray, u = ⟨[UInt8.ofNat x].toArray⟩ := ⟨_, rfl⟩
      have hus : u.size ≤ 1 := by rw [hu]; exact Nat.le_refl _
      rw [← hu] at hcv
      have HU := Lib.hid hu
      clear hu
      go_wp2_with fail
      go_roundw
      case rel =>
        refine ⟨k + 1, by omega, by go_num, by rw [HB.out.2.2.1]; simp, HB.out.1.alloc HB.out.1.size _, ?_⟩
        rw [HB.out.2.1, HB.out.2.2.2, HU.out]
        congr 1
      case measure => simp [intOf]; omega
    · obtain rfl : k = w := by omega
      go_wp2_with fail
      go_ret
      exact ⟨congrArg (fun t => Ending.returned (Value.string t)) HB.out.2.2.2, HB.out.1⟩

set_option maxHeartbeats 400000 in
theorem refnumber_out (n : Nat) (w : Int) (W : World) (h : w < 0 ∨ 8 < w) (_ : n < 18446744073709551616) (hw : -9223372036854775808 ≤ w ∧ w ≤ 9223372036854775807) :
    Calls Try.prog 29 #[.int .u64 n, .int .i64 w] W fun e w' => e = .returned (.string ⟨#[]⟩) ∧ W = w' := by
  rcases h with hd | hd
  all_goals
    go_enter Try.func29, Try.ntmps29
    go_wp2_with fail
    refine wp_loop_rounds 1 ?_
    rw [rounds_succ]
    go_wp2_with fail
    go_ret
    exact ⟨rfl, rfl⟩
theorem refnumber_any (n : Nat) (w : Int) (W : World) (h0 : n < 18446744073709551616) (hw : -9223372036854775808 ≤ w ∧ w ≤ 9223372036854775807) :
    Calls Try.prog 29 #[.int .u64 n, .int .i64 w] W fun e w' => e = .returned (.string ⟨(Sec.number n w).toArray⟩) ∧ Below W.heap.size W w' := by
  unfold Sec.number
  by_cases h : 0 ≤ w ∧ w ≤ 8
  · obtain ⟨k, rfl⟩ := Int.eq_ofNat_of_zero_le h.1
    by_cases h1 : k = 0
    · subst h1
      rw [if_neg (by omega)]
      exact refnumber_in n 0 W h0 (by omega)
    · rw [if_pos (by omega)]
      exact refnumber_in n k W h0 (by omega)
  · rw [if_neg (by omega)]
    exact (refnumber_out n w W (by omega) h0 hw).mono fun e w' ⟨he, hw⟩ => ⟨he, by rw [hw]; exact Below.refl _ _⟩

set_option maxHeartbeats 400000 in
theorem refword_in (s : ByteArray) (a w : Nat) (W : World) (h1 : 1 ≤ w) (h2 : w ≤ 8) (h3 : a + w ≤ s.size) (hs : s.size ≤ 9223372036854775807) :
    Calls Try.prog 27 #[.string s, .int .i64 a, .int .i64 w] W fun e w' => e = .returned (.tuple #[.int .u64 (Sec.word s.data.toList a w), .int .i64 0]) ∧ W = w' := by
  have hdec : decide (s.size < a) = false := by simp; omega
  go_enter Try.func27, Try.ntmps27
  go_wp2_with fail
  go_loop [8, 9] (fun x i => ∃ k : Nat, k ≤ w ∧ i = .int .i64 ((k : Int) - 1) ∧ x = .int .u64 (Sec.word s.data.toList (a + k) (w - k))) (fun _ i => (intOf i + 1).toNat)
  case atStart => exact ⟨w, by omega, rfl, by rw [Nat.sub_self, Sec.word_zero]; rfl⟩
  case round =>
    obtain ⟨k, hk, rfl, rfl⟩ := hrel
    rcases Nat.eq_zero_or_pos k with rfl | hpos
    · rw [Nat.add_zero, Nat.sub_zero]
      go_wp2
      go_ret2
      exact ⟨rfl, rfl⟩
    · obtain ⟨m, rfl⟩ : ∃ m, k = m + 1 := ⟨k - 1, by omega⟩
      have hms : a + m < s.size := by omega
      rw [show ((m + 1 : Nat) : Int) - 1 = (m : Int) by omega]
      obtain ⟨d, hd⟩ : ∃ d, w - m = d + 1 := ⟨w - m - 1, by omega⟩
      have he := Sec.word_step s.data.toList a m d hms
      have hwd : w - (m + 1) = d := by omega
      rw [hwd, ← Nat.add_assoc]
      have hlt := Sec.word_lt s.data.toList (a + m + 1) d
      have hp := pow256_le (w := d) (by omega)
      generalize Sec.word s.data.toList (a + m + 1) d = n at *
      have hb : s[a + m].toNat < 256 := UInt8.toNat_lt _
      have hn : n < 72057594037927936 := by omega
      have hbe : s.data.toList[a + m].toNat = s[a + m].toNat := rfl
      rw [hbe] at he
      have hor : (n : Int) * 256 + (s[a + m].toNat : Int) = ((n * 256 + s[a + m].toNat : Nat) : Int) := by simp
      generalize n * 256 + s[a + m].toNat = y at *
      have HE := Lib.hid (And.intro he (And.intro hd hwd))
      clear he hd hwd hp hlt
      go_wp2_with fail
      go_round
      case rel => exact ⟨m, by omega, by go_num, by rw [HE.out.2.1, HE.out.1]⟩
      case measure => simp [intOf]

set_option maxHeartbeats 400000 in
theorem refword_out (s : ByteArray) (a w : Int) (W : World) (h : ¬ (1 ≤ w ∧ w ≤ 8 ∧ 0 ≤ a ∧ a + w ≤ s.size)) (hs : s.size ≤ 9223372036854775807) :
    Calls Try.prog 27 #[.string s, .int .i64 a, .int .i64 w] W fun e w' => e = .returned (.tuple #[.int .u64 0, .int .i64 2]) ∧ W = w' := by
  have hd : w < 1 ∨ (1 ≤ w ∧ 8 < w) ∨ (1 ≤ w ∧ w ≤ 8 ∧ a < 0) ∨ (1 ≤ w ∧ w ≤ 8 ∧ 0 ≤ a ∧ (s.size : Int) < a) ∨ (1 ≤ w ∧ w ≤ 8 ∧ 0 ≤ a ∧ a ≤ (s.size : Int) ∧ (s.size : Int) - a < w) := by omega
  clear h
  rcases hd with hd | ⟨hd1, hd2⟩ | ⟨hd1, hd2, hd3⟩ | ⟨hd1, hd2, hd3, hd4⟩ | ⟨hd1, hd2, hd3, hd4, hd5⟩
  all_goals
    go_enter Try.func27, Try.ntmps27
    go_wp2_with fail
    go_ret2
    exact ⟨rfl, rfl⟩
end Go.Proofs.Ytccdipcneabooaa
