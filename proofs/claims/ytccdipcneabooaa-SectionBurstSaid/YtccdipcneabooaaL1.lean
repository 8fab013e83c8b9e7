import Derived.Test.YtccdipcneabooaaWa
namespace Go.Proofs.Ytccdipcneabooaa
open Go.RowKit

theorem bt {a b c : World} (h : Below a.heap.size a b) (k : Below b.heap.size b c) : Below a.heap.size a c := h.trans (k.mono h.size)

set_option maxHeartbeats 400000 in
theorem sumOf_walk (s more : ByteArray) (a : Nat) (w : World) (ha : a < 4294967296) (h1 : s.size ≤ maxLen) (h2 : more.size ≤ maxLen) :
    Calls Try.prog 3 #[.string s, .string more, .int .u32 a] w fun e w' => e = .returned (.bool true) ∧ Below w.heap.size w w' := by
  unfold maxLen at h1 h2
  by_cases hs : 3000 < s.size
  · go_enter Try.func3, Try.ntmps3
    go_wp2_with (go_at_call 16; refine (awake25 _).mono ?_; rintro e w1 ⟨rfl, hb1⟩)
    go_ret
    exact ⟨rfl, hb1⟩
  by_cases hm : 3000 < more.size
  · go_enter Try.func3, Try.ntmps3
    go_wp2_with (go_at_call 16; refine (awake25 _).mono ?_; rintro e w1 ⟨rfl, hb1⟩)
    go_ret
    exact ⟨rfl, hb1⟩
  go_enter Try.func3, Try.ntmps3
  go_wp2_with fail
  refine (of_any _ _ (by omega)).mono ?_
  rintro e w1 ⟨rfl, hb1⟩
  go_wp2_with fail
  refine (refof_any _ _ (by omega)).mono ?_
  rintro e w2 ⟨rfl, rfl⟩
  go_wp2_with fail
  refine (more_any _ _ _ ha (by omega)).mono ?_
  rintro e w3 ⟨rfl, hb3⟩
  go_wp2_with fail
  refine (refmore_any _ _ _ ha (by omega)).mono ?_
  rintro e w4 ⟨rfl, rfl⟩
  go_wp2_with fail
  refine (of_any _ _ (by omega)).mono ?_
  rintro e w5 ⟨rfl, hb5⟩
  go_wp2_with fail
  refine (more_any _ _ _ (Crc.more_lt _ (by decide)) (by omega)).mono ?_
  rintro e w6 ⟨rfl, hb6⟩
  go_wp2_with fail
  refine (of_any _ _ (by simp; omega)).mono ?_
  rintro e w7 ⟨rfl, hb7⟩
  have he : Crc.more 0 (s ++ more).data.toList = Crc.more (Crc.more 0 s.data.toList) more.data.toList := by
    rw [← Crc.more_append]; simp
  rw [he]
  clear he
  go_wp2_with fail
  refine (awake25 _).mono ?_
  rintro e w8 ⟨rfl, hb8⟩
  go_wp2_with fail
  go_ret
  exact ⟨rfl, bt (bt (bt (bt (bt hb1 hb3) hb5) hb6) hb7) hb8⟩
end Go.Proofs.Ytccdipcneabooaa
