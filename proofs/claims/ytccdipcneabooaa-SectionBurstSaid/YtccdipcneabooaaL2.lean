import Derived.Test.YtccdipcneabooaaL1
import Derived.Test.YtccdipcneabooaaInv
namespace Go.Proofs.Ytccdipcneabooaa
open Go.RowKit Go.BigFrame

/-- a call that makes memory alone and hands back a uint32 -/
def CallsU (f : FuncId) (args : Array Value) (r : Nat) : Prop := ∀ W : World, Calls Try.prog f args W fun e w' => e = .returned (.int .u32 (r : Int)) ∧ Below W.heap.size W w'
theorem CallsU.keeps {f : FuncId} {args : Array Value} {r : Nat} (h : CallsU f args r) {w : World} {x : Keeps (Below w.heap.size w)} :
    Calls Try.prog f args x.to fun e w'' => e = .returned (.int .u32 (r : Int)) ∧ ∃ y : Keeps (Below w.heap.size w), w'' = y.to := Calls.keeps_below (h _)
theorem CallsU.of_eq {f : FuncId} {args : Array Value} {r r' : Nat} (h : CallsU f args r) (e : r = r') : CallsU f args r' := e ▸ h

theorem parts_facts (s : ByteArray) (m n : Nat) (hs : s.size ≤ 3000) (hm : m ≤ n) (hn : n ≤ s.size) : ∃ r1 r2 r5 : Nat,
    CallsU 17 #[.string (s.extract 0 m)] r1 ∧ CallsU 19 #[.int .u32 r1, .string (s.extract m n)] r2 ∧ CallsU 19 #[.int .u32 r2, .string (s.extract n s.size)] r5 ∧
    CallsU 17 #[.string s] r5 ∧ CallsU 19 #[.int .u32 0, .string s] r5 ∧ CallsU 18 #[.string s] r5 ∧ CallsU 19 #[.int .u32 r5, .string ⟨#[]⟩] r5 := by
  have e1 : (s.extract 0 m).size ≤ 2147483648 := by simp; omega
  have e2 : (s.extract m n).size ≤ 2147483648 := by simp; omega
  have e3 : (s.extract n s.size).size ≤ 2147483648 := by simp; omega
  have z : (0 : Nat) < 4294967296 := by decide
  have l1 := Crc.more_lt (s.extract 0 m).data.toList z
  have l2 := Crc.more_lt (s.extract m n).data.toList l1
  have l5 := Crc.more_lt s.data.toList z
  refine ⟨_, _, Crc.more 0 s.data.toList, fun W => of_any _ W e1, fun W => more_any _ _ W l1 e2, CallsU.of_eq (fun W => more_any _ _ W l2 e3) ?_, fun W => of_any _ W (by omega), fun W => more_any 0 _ W z (by omega), fun W => ?_, CallsU.of_eq (fun W => more_any _ _ W l5 (by decide)) ?_⟩
  · rw [← Crc.more_append, ← Crc.more_append]
    congr 1
    simp
    have h3 : List.take (s.size - n) (List.drop n s.data.toList) = List.drop n s.data.toList := List.take_of_length_le (by simp)
    rw [h3, ← List.append_assoc]
    have h4 : List.take m s.data.toList ++ List.take (n - m) (List.drop m s.data.toList) = List.take n s.data.toList := by
      have := List.take_add (l := s.data.toList) (i := m) (j := n - m)
      rw [show m + (n - m) = n by omega] at this
      exact this.symm
    rw [h4, List.take_append_drop]
  · exact (refof_any s W (by omega)).mono fun e w' ⟨he, hw⟩ => ⟨he, by rw [hw]; exact Below.refl _ _⟩
  · unfold Crc.more
    simp [Crc.run, Crc.inv_inv]

set_option maxHeartbeats 400000 in
theorem sumParts_walk (s : ByteArray) (a b : Int) (w : World) (h1 : s.size ≤ maxLen) (_ : -9223372036854775808 ≤ a ∧ a ≤ 9223372036854775807) (_ : -9223372036854775808 ≤ b ∧ b ≤ 9223372036854775807) :
    Calls Try.prog 4 #[.string s, .int .i64 a, .int .i64 b] w fun e w' => e = .returned (.bool true) ∧ Below w.heap.size w w' := by
  unfold maxLen at h1
  by_cases hc : s.size ≤ 3000 ∧ 0 ≤ a ∧ a ≤ b ∧ b ≤ s.size
  · obtain ⟨c1, c2, c3, c4⟩ := hc
    obtain ⟨m, rfl⟩ := Int.eq_ofNat_of_zero_le c2
    obtain ⟨n, rfl⟩ := Int.eq_ofNat_of_zero_le (show 0 ≤ b by omega)
    have hmn : m ≤ n := by omega
    have hns : n ≤ s.size := by omega
    obtain ⟨r1, r2, r5, k1, k2, k3, k4, k5, k6, k7⟩ := parts_facts s m n c1 hmn hns
    go_enter Try.func4, Try.ntmps4
    go_wp2_with fail
    refine wp_region_keeps (Below w.heap.size w) (by kernel_rfl) (by kernel_rfl) (Below.refl _ _).drew (fun _ => ?_)
    repeat (first
      | go_big_quiet_skip
      | (go_big_quiet_want
         go_big_quiet_op
         first
           | go_big_quiet_on
           | (apply Exists.intro
              refine ⟨fun x => ?_, ?_⟩
              · first
                  | with_reducible exact CallsU.keeps k1
                  | with_reducible exact CallsU.keeps k2
                  | with_reducible exact CallsU.keeps k3
                  | with_reducible exact CallsU.keeps k4
                  | with_reducible exact CallsU.keeps k5
                  | with_reducible exact CallsU.keeps k6
                  | with_reducible exact CallsU.keeps k7
                  | with_reducible exact Calls.keeps_below (awake25 _)
              go_big_quiet_on)))
    refine wpQuiet_nil ?_
    rintro _ ⟨x, rfl⟩
    have hx := x.ok
    go_wp2_with fail
    go_ret
    exact ⟨rfl, hx⟩
  · have hd : 3000 < s.size ∨ (s.size ≤ 3000 ∧ a < 0) ∨ (s.size ≤ 3000 ∧ 0 ≤ a ∧ b < a) ∨ (s.size ≤ 3000 ∧ 0 ≤ a ∧ a ≤ b ∧ s.size < b) := by omega
    clear hc
    rcases hd with hd | ⟨hd1, hd2⟩ | ⟨hd1, hd2, hd3⟩ | ⟨hd1, hd2, hd3, hd4⟩
    all_goals
      go_enter Try.func4, Try.ntmps4
      go_wp2_with (go_at_call 16; refine (awake25 _).mono ?_; rintro e w1 ⟨rfl, hb1⟩)
      go_ret
      exact ⟨rfl, hb1⟩
end Go.Proofs.Ytccdipcneabooaa
