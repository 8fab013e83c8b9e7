/- SectionBurst: the walk. -/
import Derived.Test.YtccdipcneabooaaL12
import Derived.Test.YtccdipcneabooaaSl
import Derived.Test.YtccdipcneabooaaL6
namespace Go.Proofs.Ytccdipcneabooaa
open Go.RowKit Go.BigFrame

theorem fromTo_bound (l : List Sect) (hb : ¬ BigTo l l.length) (k : Nat) (hk : k ≤ l.length) : fromTo l k ≤ 12 + k * 16777228 := by
  induction k with
  | zero => exact Nat.le_refl _
  | succ k ih =>
    rw [fromTo_succ l k (by omega)]
    have h2 : l[k].2.size ≤ 16777216 := by
      rcases Nat.lt_or_ge 16777216 l[k].2.size with h | h
      · exact absurd ⟨k, by omega, by omega, h⟩ hb
      · exact h
    have := ih (by omega)
    rw [Nat.add_mul]
    omega

set_option maxRecDepth 100000 in
set_option maxHeartbeats 1600000 in
theorem sectionBurst_main (b o : Nat) (c : Nat) (l : List Sect) (q n u : Nat) (w : World) (hl : SecsAt w w.heap.size (some ⟨b, o, none⟩) l) (hn : l.length ≤ 4611686018427387904) (hs : ∀ x ∈ l, x.1.size ≤ 140737488351232 ∧ x.2.size ≤ 140737488351232)
    (hq : q < l.length) (hn2 : (n : Int) ≤ 9223372036854775807) (hu : u < 4294967296) (hu0 : u ≠ 0) (hlg : longB l = false) (hP : (putB l).2 = 0) :
    Calls Try.prog 12 #[.slice (some ⟨b, o, none⟩) l.length c, .int .i64 q, .int .i64 n, .int .u32 u] w fun e w' => e = .returned (.bool true) ∧ Below w.heap.size w w' := by
  have hs' : ∀ x ∈ l, x.1.size ≤ maxLen := fun x hx => by have := (hs x hx).1; unfold maxLen; omega
  have klong := fun W h => long_any (some ⟨b, o, none⟩) c l W h hn hs
  have kp := fun W h => put_any (some ⟨b, o, none⟩) c l W h hn hs'
  rcases putB_cases l with h | ⟨_, hP2, ht, hbg⟩
  · exact absurd hP h
  obtain ⟨p, r, hi1, hi2, hi3⟩ := img_burst l q hq ht hbg
  obtain ⟨Ps, hPs⟩ : ∃ Ps : ByteArray, (⟨(putB l).1.toArray⟩ : ByteArray) = Ps := ⟨_, rfl⟩
  have hPd : Ps.data.toList = imgTo l l.length := by rw [← hPs, hP2]
  have hPz : Ps.size ≤ 268435660 := by rw [← hPs]; show (putB l).1.toArray.size ≤ _; rw [List.size_toArray]; exact putB_size l
  have hPl : Ps.size = p.length + (l[q].2.size + r.length) := by
    rw [← toList_length, hPd, hi1, List.length_append, List.length_append, toList_length]
  have hcell : ∀ wr, Below w.heap.size w wr → wr.cell? ⟨b, o + q * 2 + 1, none⟩ = some (.string l[q].2) := fun wr hb => by
    obtain ⟨b', o', hbo, _, _, hc2⟩ := hl.keep hb hb.size q hq
    obtain ⟨rfl, rfl⟩ : b = b' ∧ o = o' := by simpa using hbo
    exact hc2
  have hi4 : ∀ (d : List UInt8) (s : ByteArray), Crc.Burst l[q].2.data.toList d n u 32 → s.data.toList = p ++ (d ++ r) → getB s = ([], 9) := fun d s h1 h2 => hi3 d s n u hu hu0 h1 h2
  have hi5 := hPd.trans hi1
  obtain ⟨dt, hdt⟩ : ∃ dt, l[q].2 = dt := ⟨_, rfl⟩
  rw [hdt] at hcell hi4 hi5 hPl
  rw [hPs, hP] at kp
  have kg := fun W => get_any Ps W (by omega)
  rw [getB_img Ps l hPd ht hbg] at kg
  have ks := fun W (B : Option Addr) (d : Nat) h1 h2 => same_any B (some ⟨b, o, none⟩) d c l l W h1 h2 hn hn
  rw [decide_eq_true (show l = l from rfl)] at ks
  rw [hlg] at klong
  have hfb := fromTo_bound l hbg
  have hl16 := ht.2
  have hu1 : ((u : Int) == 0) = false := by simp; omega
  have hql : decide ((l.length : Int) ≤ q) = false := by simp; omega
  have hql2 : (q : Int) < l.length := by omega
  have hq0 : decide ((q : Int) < 0) = false := by simp
  have hn0 : decide ((n : Int) < 0) = false := by simp
  have hd0 : dt.size ≤ Ps.size := by omega
  have HPL := Lib.hid hPl
  clear hPl
  have KK := Lib.hid (And.intro klong (And.intro kp (And.intro kg ks)))
  have HL := Lib.hid hl
  have HI := Lib.hid (And.intro hi5 (And.intro hi2 (And.intro hi4 (And.intro hfb hcell))))
  have HU := Lib.hid hu0
  have HQ := Lib.hid hq
  clear klong kp kg ks hl hs hs' hP hP2 hPs hPd hi1 hi2 hi3 hi4 hi5 hcell hdt ht hbg hlg hu0 hfb
  have hcv := fun W => run_bytes_of_string (P := Try.prog) W 9 28 5 Ps Try.underlying9 Try.underlying28 Try.underlying5
  have HCV := Lib.hid hcv
  clear hcv
  go_enter Try.func12, Try.ntmps12
  go_wp2_with fail
  refine (KK.out.2.1 w HL.out).mono ?_
  rintro e w1 ⟨rfl, hb1⟩
  have H1 := Lib.hid hb1
  clear hb1
  go_wp2_with fail
  refine (KK.out.1 _ (HL.out.keep H1.out H1.out.size)).mono ?_
  rintro e w2 ⟨rfl, n2, rfl⟩
  have H2 := Lib.hid (below_drewN' H1.out n2)
  go_wp2_with fail
  refine (KK.out.2.2.1 _).mono ?_
  rintro e w3 ⟨G, gc, rfl, hsG, hb3⟩
  have H3 := Lib.hid (And.intro (H2.out.trans (hb3.mono H2.out.size)) hsG)
  clear hb3 hsG
  go_wp2_with fail
  refine (KK.out.2.2.2 _ G gc H3.out.2 (HL.out.keep H3.out.1 H3.out.1.size)).mono ?_
  rintro e w4 ⟨rfl, n4, rfl⟩
  go_wp2_with fail
  go_loopw [13, 14] (fun x i wr => ∃ k : Nat, k ≤ q ∧ i = .int .i64 k ∧ x = .int .i64 (fromTo l k) ∧ ∃ n, wr = w3.drewN n) (fun _ i _ => q - (intOf i).toNat)
  case atStart => exact ⟨0, by omega, rfl, rfl, _, rfl⟩
  case round =>
    obtain ⟨k, hk, rfl, rfl, m4, rfl⟩ := hrel
    have hfk := HI.out.2.2.2.1 k (by have := HQ.out; omega)
    have hfk2 : fromTo l k ≤ 300000000 := by
      have : k * 16777228 ≤ 16 * 16777228 := Nat.mul_le_mul_right _ (by omega)
      omega
    clear hfk
    by_cases hlt : k < q
    · have hlt' : k < l.length := by have := HQ.out; omega
      obtain ⟨b', o', hbo, hb', hc1, hc2⟩ := HL.out.keep H3.out.1 H3.out.1.size k hlt'
      obtain ⟨rfl, rfl⟩ : b = b' ∧ o = o' := by simpa using hbo
      have hkl : (k : Int) < l.length := by omega
      have hstep := fromTo_succ l k hlt'
      have hzk : l[k].2.size ≤ 300000000 := by
        have h1 := HI.out.2.2.2.1 (k + 1) hlt'
        have : (k + 1) * 16777228 ≤ 16 * 16777228 := Nat.mul_le_mul_right _ (by omega)
        rw [hstep] at h1
        omega
      generalize fromTo l k = z at *
      generalize l[k].1 = t1 at *
      generalize l[k].2 = t2 at *
      have hs1 : IntKind.i64.wrap ((z : Int) + 12) = (z : Int) + 12 := IntWalk.i64_in _ (by omega)
      have hs2 : IntKind.i64.wrap ((z : Int) + 12 + t2.size) = (z : Int) + 12 + t2.size := IntWalk.i64_in _ (by omega)
      have HS := Lib.hid hstep
      clear hstep hbo
      go_wp2_with fail
      go_roundw
      case rel => exact ⟨k + 1, by omega, by go_num, by rw [HS.out]; go_num, _, rfl⟩
      case measure => simp [intOf]; omega
    · obtain rfl : k = q := by omega
      clear hlt
      have hpq : fromTo l k + 12 ≤ 268435660 := by have := HI.out.2.1; have := HPL.out; omega
      have hpz : p.length = fromTo l k + 12 := HI.out.2.1
      have HPZ := Lib.hid hpz
      clear hpz
      obtain ⟨z, hz⟩ : ∃ z, z = fromTo l k := ⟨_, rfl⟩
      rw [← hz] at hpq hfk2 HPZ ⊢
      have HZ := Lib.hid hz
      clear hz
      have hcv := HCV.out
      go_wp2_with fail
      clear hcv
      go_name_world W HW
      obtain ⟨bs0, fr, hfr1, hbyte, hblk, _⟩ := bytes_block (w3.drewN m4) Ps (grownCap (w3.drewN m4) Ps.size 0 5)
      have hb : Below w.heap.size w W := by rw [← HW]; exact ((below_drewN' H3.out.1 m4).alloc (below_drewN' H3.out.1 m4).size _).drew
      have hblk' : W.heap[w3.heap.size]? = some (.cells bs0 5 fr) := by rw [← HW]; exact hblk
      clear HW hblk
      generalize grownCap (w3.drewN m4) Ps.size 0 5 = cap at *
      have hbc : ByteCells (p ++ (dt.data.toList ++ r)) bs0 := fun j hj => by
        have e : p ++ (dt.data.toList ++ r) = Ps.data.toList := HI.out.1.symm
        simp only [e] at hj ⊢
        have hj' : j < Ps.size := hj
        rw [hbyte j hj', byteAt_eq Ps j hj']
        rfl
      have hsz3 : w.heap.size ≤ w3.heap.size := H3.out.1.size
      have H0 := Lib.hid (And.intro hfr1 (And.intro hbc (And.intro hblk' hb)))
      clear hfr1 hbyte hbc hblk' hb
      go_loopw [16] (fun i wr => ∃ j : Nat, j ≤ 32 ∧ i = .int .i64 j ∧ Below w.heap.size w wr ∧ ∃ bs d, wr.heap[w3.heap.size]? = some (.cells bs 5 fr) ∧ ByteCells (p ++ (d ++ r)) bs ∧ Crc.Burst dt.data.toList d n u j) (fun i _ => 32 - (intOf i).toNat)
      case atStart => exact ⟨0, by omega, rfl, H0.out.2.2.2, bs0, dt.data.toList, H0.out.2.2.1, H0.out.2.1, Crc.Burst.zero _ _ _⟩
      case round =>
        obtain ⟨j, hj, rfl, hb, bs, d, hbs, hbc, hbu⟩ := hrel
        have HH := Lib.hid (And.intro hb (And.intro hbs (And.intro hbc hbu)))
        clear hb hbs hbc hbu
        by_cases hlt : j < 32
        · have hv : (u : Int) / 2 ^ j = ((u / 2 ^ j : Nat) : Int) := by simp
          obtain ⟨v, hve⟩ : ∃ v, v = u / 2 ^ j := ⟨_, rfl⟩
          rw [← hve] at hv
          have hv2 : v % 2 = 0 ∨ v % 2 = 1 := Nat.mod_two_eq_zero_or_one v
          have HVE := Lib.hid hve
          clear hve
          rcases hv2 with hbit | hbit
          · have hq : ((v : Int) % 2 == 0) = true := by rw [show (v : Int) % 2 = 0 by omega]; rfl
            have HBIT := Lib.hid hbit
            clear hbit
            go_wp2_with fail
            go_roundw
            case rel => exact ⟨j + 1, by omega, by go_num, HH.out.1, bs, d, HH.out.2.1, HH.out.2.2.1, HH.out.2.2.2.skip (by rw [← HVE.out]; exact HBIT.out)⟩
            case measure => simp [intOf]; omega
          · have hq : ((v : Int) % 2 == 0) = false := by rw [show (v : Int) % 2 = 1 by omega]; rfl
            have HBIT := Lib.hid hbit
            clear hbit
            have hcw := HI.out.2.2.2.2 wr HH.out.1
            by_cases hout : 8 * (dt.size : Int) - 1 - j < n
            · go_wp2_with fail
              refine (awake26 _).mono ?_
              rintro e w5 ⟨rfl, hb5⟩
              go_wp2_with fail
              go_ret
              exact ⟨rfl, bt HH.out.1 hb5⟩
            · obtain ⟨g, hgd⟩ : ∃ g, g = (n + j) / 8 := ⟨_, rfl⟩
              obtain ⟨h, hhd⟩ : ∃ h, h = (n + j) % 8 := ⟨_, rfl⟩
              have hx1 : ((n : Int) + j) / 8 = (g : Int) := by omega
              have hx2 : ((n : Int) + j) % 8 = (h : Int) := by omega
              have hgs : g < dt.size := by omega
              have hh8 : h < 8 := by omega
              have hdl : d.length = dt.size := HH.out.2.2.2.1
              have hgl : g < d.length := by omega
              have hlen : (p ++ (d ++ r)).length = Ps.size := by
                rw [List.length_append, List.length_append, HPL.out, hdl]
              have hpl : p.length + g < (p ++ (d ++ r)).length := by rw [hlen, HPL.out]; omega
              have hgm := get_mid p d r g hgl hpl
              have hpz : z + 12 + g < Ps.size := by rw [HPZ.out, hlen] at hpl; exact hpl
              have hc1 : wr.cell? ⟨w3.heap.size, z + 12 + g, none⟩ = some (.int .u8 (d[g].toNat : Int)) := by
                have h1 := HH.out.2.2.1 _ hpl
                rw [hgm, HPZ.out] at h1
                rw [cell_of_row wr _ _ bs 5 fr HH.out.2.1]
                exact h1
              have hf1 : wr.frozen? ⟨w3.heap.size, z + 12 + g, none⟩ = false := by
                have := HH.out.2.1
                have := H0.out.1
                simp [World.frozen?, HH.out.2.1]
                omega
              have hlq : d[g].toNat < 256 := UInt8.toNat_lt _
              generalize hlb : d[g].toNat = y at *
              have HLB := Lib.hid hlb
              have HQD := Lib.hid (And.intro hgd (And.intro hhd hdl))
              clear hlb hgd hhd hdl hlen hgm hpl
              have hm256 : 2 ^ h < 256 := Nat.pow_lt_pow_right (n := 8) (by decide) hh8
              have hsh : (2 : Int) ^ h % 256 = ((2 ^ h : Nat) : Int) := by
                rw [show (2 : Int) ^ h = ((2 ^ h : Nat) : Int) by simp]
                exact Int.emod_eq_of_lt (Int.natCast_nonneg _) (Int.ofNat_lt.2 hm256)
              have hx := u8_xor_nat y (2 ^ h) hlq hm256
              generalize hme : (2 : Nat) ^ h = m at *
              have HME := Lib.hid hme
              clear hme
              go_wp2_with fail
              go_roundw
              case rel =>
                obtain ⟨hb, hbs, hbc, hbu⟩ := HH.out
                have e1 := HQD.out.1
                have e2 := HQD.out.2.1
                subst e1
                have hbl : (d[(n + j) / 8] ^^^ UInt8.ofNat (2 ^ ((n + j) % 8))).toNat = y ^^^ m := by
                  rw [UInt8.toNat_xor, HLB.out, ← e2, HME.out, UInt8.toNat_ofNat', Nat.mod_eq_of_lt hm256]
                have hpl : p.length + (n + j) / 8 < (p ++ (d ++ r)).length := by
                  rw [List.length_append, List.length_append]; omega
                have hset := hbc.set hpl (d[(n + j) / 8] ^^^ UInt8.ofNat (2 ^ ((n + j) % 8)))
                rw [hbl, set_mid p d r _ hgl, HPZ.out] at hset
                exact ⟨j + 1, by omega, by go_num, hb.setCell hsz3 _, _, _, heap_setCell_mark wr _ _ bs 5 fr _ hbs, hset, hbu.flip (by rw [← HVE.out]; exact HBIT.out) (by show n + j < 8 * dt.size; omega) hgl⟩
              case measure => simp [intOf]; omega
        · obtain rfl : j = 32 := by omega
          obtain ⟨hb, hbs, hbc, hbu⟩ := HH.out
          have hdl : d.length = dt.size := hbu.1
          have hlen : (p ++ (d ++ r)).length = Ps.size := by
            rw [List.length_append, List.length_append, HPL.out, hdl]
          have hcv := conv_bytes (p ++ (d ++ r)) Ps.size hlen wr w3.heap.size bs fr hbs hbc cap
          obtain ⟨t, hte⟩ : ∃ t : ByteArray, t = ⟨(p ++ (d ++ r)).toArray⟩ := ⟨_, rfl⟩
          have htl : t.data.toList = p ++ (d ++ r) := by rw [hte]
          rw [← hte] at hcv
          have hts : t.size = Ps.size := by rw [← hlen, ← htl]; rfl
          have kt := fun W => get_any t W (by omega)
          rw [HI.out.2.2.1 d t hbu htl] at kt
          have KT := Lib.hid kt
          clear kt hte htl hts hbc hbu hb hbs hlen hdl
          go_wp2_with fail
          refine (KT.out _).mono ?_
          rintro e w5 ⟨G5, gc5, rfl, _, hb5⟩
          have H5 := Lib.hid (bt HH.out.1 hb5)
          clear hb5 hcv
          go_wp2_with fail
          refine (awake26 _).mono ?_
          rintro e w6 ⟨rfl, hb6⟩
          go_wp2_with fail
          go_ret
          exact ⟨rfl, bt H5.out hb6⟩

set_option maxRecDepth 100000 in
set_option maxHeartbeats 1600000 in
theorem sectionBurst_walk (A : Option Addr) (c : Nat) (l : List Sect) (x a : Int) (u : Nat) (w : World) (hl : SecsAt w w.heap.size A l) (hn : l.length ≤ 4611686018427387904) (hs : ∀ x ∈ l, x.1.size ≤ 140737488351232 ∧ x.2.size ≤ 140737488351232) (hx : -9223372036854775808 ≤ x ∧ x ≤ 9223372036854775807) (ha : -9223372036854775808 ≤ a ∧ a ≤ 9223372036854775807) (hu : u < 4294967296) :
    Calls Try.prog 12 #[.slice A l.length c, .int .i64 x, .int .i64 a, .int .u32 u] w fun e w' => e = .returned (.bool true) ∧ Below w.heap.size w w' := by
  by_cases hc : longB l = false ∧ (putB l).2 = 0 ∧ 0 ≤ x ∧ x < l.length ∧ 0 ≤ a ∧ u ≠ 0
  · obtain ⟨c1, c2, c3, c4, c5, c6⟩ := hc
    obtain ⟨q, rfl⟩ := Int.eq_ofNat_of_zero_le c3
    obtain ⟨n, rfl⟩ := Int.eq_ofNat_of_zero_le c5
    have hq : q < l.length := by omega
    obtain ⟨b, o, rfl, _, _, _⟩ := hl q hq
    exact sectionBurst_main b o c l q n u w hl hn hs hq ha.2 hu c6 c1 c2
  · have hs' : ∀ x ∈ l, x.1.size ≤ maxLen := fun x hx => by have := (hs x hx).1; unfold maxLen; omega
    have klong := fun W h => long_any A c l W h hn hs
    have kp := fun W h => put_any A c l W h hn hs'
    generalize hlb : longB l = lb at *
    obtain ⟨Ps, hPs⟩ : ∃ Ps : ByteArray, (⟨(putB l).1.toArray⟩ : ByteArray) = Ps := ⟨_, rfl⟩
    obtain ⟨Pe, hPe⟩ : ∃ Pe, (putB l).2 = Pe := ⟨_, rfl⟩
    rw [hPs, hPe] at kp
    rw [hPe] at hc
    have KK := Lib.hid (And.intro klong kp)
    have HL := Lib.hid hl
    have hd : lb = true ∨ (lb = false ∧ (((Pe : Int) != 0) = true ∨ (((Pe : Int) != 0) = false ∧ (x < 0 ∨ (0 ≤ x ∧ (l.length : Int) ≤ x) ∨ ((0 ≤ x ∧ x < l.length) ∧ (a < 0 ∨ (0 ≤ a ∧ u = 0))))))) := by
      cases lb with
      | true => exact Or.inl rfl
      | false =>
        refine Or.inr ⟨rfl, ?_⟩
        by_cases hp : Pe = 0
        · subst hp
          refine Or.inr ⟨rfl, ?_⟩
          simp only [true_and] at hc
          omega
        · exact Or.inl (by simp; omega)
    clear klong kp hl hs hs' hPs hPe hc hlb
    rcases hd with rfl | ⟨rfl, hd | ⟨hd, h1 | ⟨h1, h2⟩ | ⟨⟨h1, h2⟩, h3 | ⟨h3, rfl⟩⟩⟩⟩
    all_goals
      go_enter Try.func12, Try.ntmps12
      go_wp2_with fail
      refine (KK.out.2 w HL.out).mono ?_
      rintro e w1 ⟨rfl, hb1⟩
      have H1 := Lib.hid hb1
      clear hb1
      go_wp2_with fail
      refine (KK.out.1 _ (HL.out.keep H1.out H1.out.size)).mono ?_
      rintro e w2 ⟨rfl, n2, rfl⟩
      have H2 := Lib.hid (below_drewN' H1.out n2)
      go_wp2_with fail
      refine (awake26 _).mono ?_
      rintro e w5 ⟨rfl, hb5⟩
      have H5 := Lib.hid (H2.out.trans (hb5.mono H2.out.size))
      clear hb5
      go_wp2_with fail
      go_ret
      exact ⟨rfl, H5.out⟩
end Go.Proofs.Ytccdipcneabooaa
