import Derived.Test.YtccdipcneabooaaL5
import Derived.Test.YtccdipcneabooaaCru
namespace Go.Proofs.Ytccdipcneabooaa
open Go.RowKit Go.BigFrame

/-- the cells of a row that reads as the bytes l -/
def ByteCells (l : List UInt8) (bs : Array Value) : Prop := ∀ (j : Nat) (h : j < l.length), bs[j]? = some (.int .u8 (l[j].toNat : Int))

theorem ByteCells.set {l : List UInt8} {bs : Array Value} (h : ByteCells l bs) {q : Nat} (hq : q < l.length) (x : UInt8) : ByteCells (l.set q x) (bs.setIfInBounds q (.int .u8 (x.toNat : Int))) := by
  intro j hj
  have hj' : j < l.length := by simpa using hj
  have hqb : q < bs.size := by
    have := h q hq
    rw [Array.getElem?_eq_some_iff] at this
    exact this.1
  rw [Array.getElem?_setIfInBounds]
  by_cases e : q = j
  · subst e
    rw [if_pos rfl, if_pos hqb]
    simp
  · rw [if_neg e, h j hj']
    simp [e]
theorem conv_bytes (l : List UInt8) (n : Nat) (hl : l.length = n) (W : World) (B : Nat) (bs : Array Value) (fr : Nat × Nat) (hB : W.heap[B]? = some (.cells bs 5 fr)) (hbs : ByteCells l bs) (cap : Nat) :
    (convert 28 9 (.slice (some ⟨B, 0, none⟩) n cap)).run Try.prog W = .ok (.string ⟨l.toArray⟩) W := by
  subst hl
  refine run_convert_bytes_back (P := Try.prog) W 28 9 5 ⟨B, 0, none⟩ cap l Try.underlying28 Try.underlying5 Try.underlying9 (fun j hj => ?_)
  have hadd : (⟨B, 0, none⟩ : Addr).add j = ⟨B, j, none⟩ := by unfold Addr.add; split <;> simp_all
  rw [hadd, cell_of_row W _ j bs 5 fr hB]
  exact hbs j hj
theorem str_ne {a b : ByteArray} (h : a.data.toList ≠ b.data.toList) : (a.toList == b.toList) = false := by
  rw [ByteArray.toList_eq, ByteArray.toList_eq]
  simpa using h

set_option maxRecDepth 100000 in
set_option maxHeartbeats 1000000 in
theorem sumBurst_walk (s : ByteArray) (a : Int) (u : Nat) (w : World) (h1 : s.size ≤ maxLen) (ha : -9223372036854775808 ≤ a ∧ a ≤ 9223372036854775807) (hu : u < 4294967296) :
    Calls Try.prog 8 #[.string s, .int .i64 a, .int .u32 u] w fun e w' => e = .returned (.bool true) ∧ Below w.heap.size w w' := by
  unfold maxLen at h1
  by_cases hc : s.size ≤ 3000 ∧ 0 ≤ a ∧ u ≠ 0
  · obtain ⟨c1, c2, c3⟩ := hc
    obtain ⟨n, rfl⟩ := Int.eq_ofNat_of_zero_le c2
    have hu0 : ((u : Int) == 0) = false := by simp; omega
    have C3 := Lib.hid c3
    have hcv := fun W => run_bytes_of_string (P := Try.prog) W 9 28 5 s Try.underlying9 Try.underlying28 Try.underlying5
    clear c3
    have ha2 : (n : Int) ≤ 9223372036854775807 := ha.2
    clear ha
    go_enter Try.func8, Try.ntmps8
    go_wp2_with fail
    clear hcv
    go_name_world W HW
    obtain ⟨bs0, fr, hfr1, hbyte, hblk, _⟩ := bytes_block w s (grownCap w s.size 0 5)
    have hb : Below w.heap.size w W := by rw [← HW]; exact ((Below.refl _ _).alloc (Nat.le_refl _) _).drew
    rw [HW] at hblk
    clear HW
    generalize grownCap w s.size 0 5 = cap at *
    have hbc : ByteCells s.data.toList bs0 := fun j hj => by
      have hj' : j < s.size := hj
      rw [hbyte j hj', byteAt_eq s j hj']
      rfl
    have H0 := Lib.hid (And.intro hfr1 (And.intro hbc (And.intro hblk hb)))
    clear hfr1 hbyte hbc hblk hb
    go_loopw [8] (fun i wr => ∃ k : Nat, k ≤ 32 ∧ i = .int .i64 k ∧ Below w.heap.size w wr ∧ ∃ bs l, wr.heap[w.heap.size]? = some (.cells bs 5 fr) ∧ ByteCells l bs ∧ Crc.Burst s.data.toList l n u k) (fun i _ => 32 - (intOf i).toNat)
    case atStart => exact ⟨0, by omega, rfl, H0.out.2.2.2, bs0, s.data.toList, H0.out.2.2.1, H0.out.2.1, Crc.Burst.zero _ _ _⟩
    case round =>
      obtain ⟨k, hk, rfl, hb, bs, l, hbs, hbc, hbu⟩ := hrel
      have HH := Lib.hid (And.intro hb (And.intro hbs (And.intro hbc hbu)))
      clear hb hbs hbc hbu
      by_cases hlt : k < 32
      · have hv : (u : Int) / 2 ^ k = ((u / 2 ^ k : Nat) : Int) := by simp
        obtain ⟨v, hve⟩ : ∃ v, v = u / 2 ^ k := ⟨_, rfl⟩
        rw [← hve] at hv
        have hv2 : v % 2 = 0 ∨ v % 2 = 1 := Nat.mod_two_eq_zero_or_one v
        have HVE := Lib.hid hve
        clear hve
        rcases hv2 with hbit | hbit
        · have hq : ((v : Int) % 2 == 0) = true := by rw [show (v : Int) % 2 = 0 by omega]; rfl
          have HBIT := Lib.hid hbit
          clear hbit
          go_wp2_with fail
          go_roundw
          case rel => exact ⟨k + 1, by omega, by go_num, HH.out.1, bs, l, HH.out.2.1, HH.out.2.2.1, HH.out.2.2.2.skip (by rw [← HVE.out]; exact HBIT.out)⟩
          case measure => simp [intOf]; omega
        · have hq : ((v : Int) % 2 == 0) = false := by rw [show (v : Int) % 2 = 1 by omega]; rfl
          have HBIT := Lib.hid hbit
          clear hbit
          by_cases hout : 8 * (s.size : Int) - 1 - k < n
          · go_wp2_with fail
            refine (awake25 _).mono ?_
            rintro e w2 ⟨rfl, hb2⟩
            go_wp2_with fail
            go_ret
            exact ⟨rfl, bt HH.out.1 hb2⟩
          · obtain ⟨q, hqd⟩ : ∃ q, q = (n + k) / 8 := ⟨_, rfl⟩
            obtain ⟨r, hrd⟩ : ∃ r, r = (n + k) % 8 := ⟨_, rfl⟩
            have hx1 : ((n : Int) + k) / 8 = (q : Int) := by omega
            have hx2 : ((n : Int) + k) % 8 = (r : Int) := by omega
            have hqs : q < s.size := by omega
            have hr8 : r < 8 := by omega
            have hll : l.length = s.size := HH.out.2.2.2.1
            have hql : q < l.length := by omega
            have hc1 : wr.cell? ⟨w.heap.size, q, none⟩ = some (.int .u8 (l[q].toNat : Int)) := by
              rw [cell_of_row wr _ q bs 5 fr HH.out.2.1]
              exact HH.out.2.2.1 q hql
            have hf1 : wr.frozen? ⟨w.heap.size, q, none⟩ = false := by
              have := HH.out.2.1
              have := H0.out.1
              simp [World.frozen?, HH.out.2.1]
              omega
            have hlq : l[q].toNat < 256 := UInt8.toNat_lt _
            generalize hlb : l[q].toNat = b at *
            have HLB := Lib.hid hlb
            have HQD := Lib.hid (And.intro hqd (And.intro hrd hll))
            clear hlb hqd hrd hll
            have hm256 : 2 ^ r < 256 := Nat.pow_lt_pow_right (n := 8) (by decide) hr8
            have hsh : (2 : Int) ^ r % 256 = ((2 ^ r : Nat) : Int) := by
              rw [show (2 : Int) ^ r = ((2 ^ r : Nat) : Int) by simp]
              exact Int.emod_eq_of_lt (Int.natCast_nonneg _) (Int.ofNat_lt.2 hm256)
            have hx := u8_xor_nat b (2 ^ r) hlq hm256
            generalize hme : (2 : Nat) ^ r = m at *
            have HME := Lib.hid hme
            clear hme
            go_wp2_with fail
            go_roundw
            case rel =>
              obtain ⟨hb, hbs, hbc, hbu⟩ := HH.out
              have e1 := HQD.out.1
              have e2 := HQD.out.2.1
              subst e1
              have hbl : (l[(n + k) / 8] ^^^ UInt8.ofNat (2 ^ ((n + k) % 8))).toNat = b ^^^ m := by
                rw [UInt8.toNat_xor, HLB.out, ← e2, HME.out, UInt8.toNat_ofNat', Nat.mod_eq_of_lt hm256]
              have hset := hbc.set hql (l[(n + k) / 8] ^^^ UInt8.ofNat (2 ^ ((n + k) % 8)))
              rw [hbl] at hset
              exact ⟨k + 1, by omega, by go_num, hb.setCell (Nat.le_refl _) _, _, _, heap_setCell_mark wr _ _ bs 5 fr _ hbs, hset, hbu.flip (by rw [← HVE.out]; exact HBIT.out) (by show n + k < 8 * s.size; omega) hql⟩
            case measure => simp [intOf]; omega
      · obtain rfl : k = 32 := by omega
        obtain ⟨hb, hbs, hbc, hbu⟩ := HH.out
        have hll : l.length = s.size := hbu.1
        have hsum := hbu.sum hu C3.out
        have hcv := conv_bytes l s.size hll wr w.heap.size bs fr hbs hbc cap
        obtain ⟨t, hte⟩ : ∃ t : ByteArray, t = ⟨l.toArray⟩ := ⟨_, rfl⟩
        have htl : t.data.toList = l := by rw [hte]
        rw [← hte] at hcv
        have hts : t.size = s.size := by show t.data.toList.length = _; rw [htl]; exact hll
        have hne := str_ne (a := t) (b := s) (by rw [htl]; exact hsum.2)
        obtain ⟨A, B, hB, hAB, k1, k2⟩ : ∃ A B : Nat, B < 4294967296 ∧ ((A : Int) == B) = false ∧ CallsU 17 #[.string t] A ∧ CallsU 17 #[.string s] (Crc.more 0 s.data.toList) ∧ B = Crc.more 0 s.data.toList :=
          ⟨Crc.more 0 t.data.toList, _, Crc.more_lt _ (by decide), by rw [htl]; exact beq_eq_false_iff_ne.2 (fun h => hsum.1 (Int.ofNat.inj h)), fun W => of_any t W (by omega), fun W => of_any s W (by omega), rfl⟩
        obtain ⟨k2, hBe⟩ := k2
        rw [← hBe] at k2
        have HBE := Lib.hid hBe
        have HTL := Lib.hid (And.intro htl hts)
        clear hb hbs hbc hbu hsum hte htl hts hBe
        by_cases h8 : n % 8 = 0 ∧ n / 8 + 4 ≤ s.size
        · obtain ⟨q, hqn⟩ : ∃ q, n = 8 * q := ⟨n / 8, by omega⟩
          have hq4 : q + 4 ≤ s.size := by omega
          have hx1 : ((n : Int) % 8 != 0) = false := by rw [show (n : Int) % 8 = 0 by omega]; rfl
          have hx2 : (n : Int) / 8 = (q : Int) := by omega
          have hx3 : decide ((s.size : Int) - 4 < q) = false := by simp; omega
          have k3 : ∀ W, Calls Try.prog 21 #[.string t, .int .i64 q, .int .u32 B] W fun e w' => e = .returned (.tuple #[.string s, .bool true]) ∧ Below W.heap.size W w' := fun W => by
            have h := patch_in t q B W (by rw [HTL.out.2]; omega) (by rw [HTL.out.2]; exact hq4) hB
            have e : (ByteArray.mk (Crc.patched t.data.toList q B).toArray) = s := by
              refine bytes_ext ?_
              show (Crc.patched t.data.toList q B).toArray.toList = _
              rw [HTL.out.1, HBE.out]
              have hbu := HH.out.2.2.2
              rw [hqn] at hbu
              exact hbu.back hu hq4
            rw [e] at h
            exact h
          have K3 := Lib.hid k3
          have HQ := Lib.hid hqn
          have HH8 := Lib.hid h8
          clear k3 hqn h8
          go_wp2_with fail
          refine (k1 _).mono ?_
          rintro e w1 ⟨rfl, hb1⟩
          go_wp2_with fail
          refine (k2 _).mono ?_
          rintro e w2 ⟨rfl, hb2⟩
          go_wp2_with fail
          refine (k2 _).mono ?_
          rintro e w3 ⟨rfl, hb3⟩
          go_wp2_with fail
          refine (K3.out _).mono ?_
          rintro e w4 ⟨rfl, hb4⟩
          go_wp2_with fail
          refine (awake25 _).mono ?_
          rintro e w5 ⟨rfl, hb5⟩
          go_wp2_with fail
          go_ret
          exact ⟨rfl, bt (bt (bt (bt (bt HH.out.1 hb1) hb2) hb3) hb4) hb5⟩
        · have hd : n % 8 ≠ 0 ∨ (n % 8 = 0 ∧ s.size < n / 8 + 4) := by omega
          clear h8
          rcases hd with hd | ⟨hd1, hd2⟩
          · have hx1 : ((n : Int) % 8 != 0) = true := by simp; omega
            clear hd
            go_wp2_with fail
            refine (k1 _).mono ?_
            rintro e w1 ⟨rfl, hb1⟩
            go_wp2_with fail
            refine (k2 _).mono ?_
            rintro e w2 ⟨rfl, hb2⟩
            go_wp2_with fail
            refine (awake25 _).mono ?_
            rintro e w5 ⟨rfl, hb5⟩
            go_wp2_with fail
            go_ret
            exact ⟨rfl, bt (bt (bt HH.out.1 hb1) hb2) hb5⟩
          · have hx1 : ((n : Int) % 8 != 0) = false := by rw [show (n : Int) % 8 = 0 by omega]; rfl
            obtain ⟨q, hqd⟩ : ∃ q, q = n / 8 := ⟨_, rfl⟩
            have hx2 : (n : Int) / 8 = (q : Int) := by omega
            have hx3 : decide ((s.size : Int) - 4 < q) = true := by simp; omega
            clear hd1 hd2 hqd
            go_wp2_with fail
            refine (k1 _).mono ?_
            rintro e w1 ⟨rfl, hb1⟩
            go_wp2_with fail
            refine (k2 _).mono ?_
            rintro e w2 ⟨rfl, hb2⟩
            go_wp2_with fail
            refine (awake25 _).mono ?_
            rintro e w5 ⟨rfl, hb5⟩
            go_wp2_with fail
            go_ret
            exact ⟨rfl, bt (bt (bt HH.out.1 hb1) hb2) hb5⟩
  · have hd : 3000 < s.size ∨ (s.size ≤ 3000 ∧ a < 0) ∨ (s.size ≤ 3000 ∧ 0 ≤ a ∧ u = 0) := by omega
    clear hc
    rcases hd with hd | ⟨hd1, hd2⟩ | ⟨hd1, hd2, rfl⟩
    all_goals
      go_enter Try.func8, Try.ntmps8
      go_wp2_with (go_at_call 16; refine (awake25 _).mono ?_; rintro e w1 ⟨rfl, hb1⟩)
      go_ret
      exact ⟨rfl, hb1⟩
end Go.Proofs.Ytccdipcneabooaa
