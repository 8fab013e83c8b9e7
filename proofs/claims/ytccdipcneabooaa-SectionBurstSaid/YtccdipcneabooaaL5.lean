import Derived.Test.YtccdipcneabooaaWp
namespace Go.Proofs.Ytccdipcneabooaa
open Go.RowKit Go.BigFrame

set_option maxHeartbeats 400000 in
theorem patch_out (s : ByteArray) (a : Int) (want : Nat) (w : World) (hs : s.size ≤ 2147483648) (ha : a < 0 ∨ (s.size : Int) - 4 < a) :
    Calls Try.prog 21 #[.string s, .int .i64 a, .int .u32 want] w fun e w' => e = .returned (.tuple #[.string ⟨#[]⟩, .bool false]) ∧ w = w' := by
  have hd : a < 0 ∨ (0 ≤ a ∧ (s.size : Int) - 4 < a) := by omega
  clear ha
  rcases hd with hd | ⟨hd1, hd2⟩
  all_goals
    go_enter Try.func21, Try.ntmps21
    go_wp2_with fail
    go_ret2
    exact ⟨rfl, rfl⟩

set_option maxHeartbeats 400000 in
theorem bytes_ext {a b : ByteArray} (h : a.data.toList = b.data.toList) : a = b := by
  cases a; cases b; congr 1; exact Array.toList_inj.1 h
theorem str_eq {a b : ByteArray} (h : a = b) : (a.toList == b.toList) = true := by rw [h]; simp

set_option maxHeartbeats 400000 in
theorem sumPatch_walk (s : ByteArray) (a : Int) (want : Nat) (w : World) (h1 : s.size ≤ maxLen) (_ : -9223372036854775808 ≤ a ∧ a ≤ 9223372036854775807) (hw : want < 4294967296) :
    Calls Try.prog 7 #[.string s, .int .i64 a, .int .u32 want] w fun e w' => e = .returned (.bool true) ∧ Below w.heap.size w w' := by
  unfold maxLen at h1
  by_cases hc : s.size ≤ 3000
  · by_cases hin : 0 ≤ a ∧ a + 4 ≤ s.size
    · obtain ⟨c1, c2⟩ := hin
      obtain ⟨n, rfl⟩ := Int.eq_ofNat_of_zero_le c1
      have k0 := fun W => patch_in s n want W (by omega) (by omega) hw
      have hl := Crc.patched_length s.data.toList n want (by show n + 4 ≤ s.size; omega)
      have ht := Crc.patched_take s.data.toList n want (by show n + 4 ≤ s.size; omega)
      have hd := Crc.patched_drop s.data.toList n want (by show n + 4 ≤ s.size; omega)
      have hm := Crc.more_patched s.data.toList n want hw
      obtain ⟨t, hte⟩ : ∃ t : ByteArray, t = ⟨(Crc.patched s.data.toList n want).toArray⟩ := ⟨_, rfl⟩
      have htl : t.data.toList = Crc.patched s.data.toList n want := by rw [hte]
      rw [← hte] at k0
      rw [← htl] at hl ht hd hm
      have hts : t.size = s.size := hl
      have k1 : CallsU 18 #[.string t] want := CallsU.of_eq (fun W => (refof_any t W (by omega)).mono fun e w' ⟨he, hw⟩ => ⟨he, by rw [hw]; exact Below.refl _ _⟩) hm
      have K0 := Lib.hid k0
      have hq2 : ((t.extract 0 n).toList == (s.extract 0 n).toList) = true := str_eq (bytes_ext (by simpa using ht))
      have hq3 : ((t.extract (n + 4) t.size).toList == (s.extract (n + 4) s.size).toList) = true := str_eq (bytes_ext (by
        rw [hts]
        simp
        have e1 : List.take (s.size - (n + 4)) (List.drop (n + 4) t.data.toList) = List.drop (n + 4) t.data.toList := List.take_of_length_le (by rw [List.length_drop, hl]; exact Nat.le_refl _)
        have e2 : List.take (s.size - (n + 4)) (List.drop (n + 4) s.data.toList) = List.drop (n + 4) s.data.toList := List.take_of_length_le (by rw [List.length_drop]; exact Nat.le_refl _)
        rw [e1, e2, hd]))
      have HT := Lib.hid hts
      clear k0 hl ht hd hm hte htl hts
      have hq1 : ((t.size : Int) == s.size) = true := by rw [HT.out]; simp
      have b1 : (n : Int) + 4 ≤ s.size := by omega
      have b2 : n ≤ s.size := by omega
      have hdec : decide ((n : Int) ≤ (s.size : Int) - 4) = true := by simp; omega
      have b3 : n ≤ t.size := by rw [HT.out]; omega
      have b4 : (n : Int) + 4 ≤ t.size := by rw [HT.out]; omega
      go_enter Try.func7, Try.ntmps7
      go_wp2_with fail
      refine (K0.out _).mono ?_
      rintro e w1 ⟨rfl, hb1⟩
      go_wp2_with fail
      have ha2 : (0 : Int) ≤ (n : Int) := by omega
      have ha3 : (n : Int) ≤ s.size := by omega
      have ha5 : (n : Int) ≤ t.size := by omega
      have ha4 : (0 : Int) ≤ (n : Int) + 4 := by omega
      have hs1 : IntKind.i64.wrap ((n : Int) + 4) = (n : Int) + 4 := IntWalk.i64_in _ (by omega)
      have hs2 : ((n : Int) + 4).toNat = n + 4 := by omega
      refine wp_region_keeps (Below w1.heap.size w1) (by kernel_rfl) (by kernel_rfl) (Below.refl _ _).drew (fun _ => ?_)
      repeat (first
        | go_big_quiet_skip
        | (go_big_quiet_want
           go_big_quiet_op
           first
             | go_big_quiet_on
             | (apply Exists.intro
                refine ⟨fun x => ?_, ?_⟩
                · first
                    | with_reducible exact CallsU.keeps k1
                    | with_reducible exact Calls.keeps_below (awake25 _)
                go_big_quiet_on)))
      refine wpQuiet_nil ?_
      rintro _ ⟨⟨wx, hbx⟩, rfl⟩
      clear hs1 hs2
      go_wp2_with fail
      go_ret
      exact ⟨rfl, bt hb1 hbx⟩
    · have hd : a < 0 ∨ (0 ≤ a ∧ s.size < 4) ∨ (0 ≤ a ∧ 4 ≤ s.size ∧ (s.size : Int) - 4 < a) := by omega
      clear hin
      rcases hd with hd | ⟨hd1, hd2⟩ | ⟨hd1, hd2, hd3⟩
      all_goals
        go_enter Try.func7, Try.ntmps7
        go_wp2_with fail
        refine (patch_out s a want _ (by omega) (by omega)).mono ?_
        rintro e w1 ⟨rfl, rfl⟩
        go_wp2_with fail
        refine (awake25 _).mono ?_
        rintro e w2 ⟨rfl, hb2⟩
        go_wp2_with fail
        go_ret
        exact ⟨rfl, hb2⟩
  · go_enter Try.func7, Try.ntmps7
    go_wp2_with (go_at_call 16; refine (awake25 _).mono ?_; rintro e w1 ⟨rfl, hb1⟩)
    go_ret
    exact ⟨rfl, hb1⟩
end Go.Proofs.Ytccdipcneabooaa
