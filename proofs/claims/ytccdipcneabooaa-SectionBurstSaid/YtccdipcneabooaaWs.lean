/- The document's Put. -/
import Derived.Test.YtccdipcneabooaaWq
import Derived.Test.YtccdipcneabooaaL2
namespace Go.Proofs.Ytccdipcneabooaa
open Go.RowKit Go.BigFrame

theorem below_drewN' {B : Nat} {a w : World} (h : Below B a w) (n : Nat) : Below B a (w.drewN n) := h.trans ⟨rfl, rfl, rfl, Nat.le_refl _, fun _ _ => rfl⟩

set_option maxHeartbeats 800000 in
theorem refput_any (A : Option Addr) (c : Nat) (l : List Sect) (w : World) (hl : SecsAt w w.heap.size A l) (hn : l.length ≤ 4611686018427387904) (hs : ∀ x ∈ l, x.1.size ≤ maxLen) :
    Calls Try.prog 32 #[.slice A l.length c] w fun e w' => e = .returned (.tuple #[.string ⟨(putB l).1.toArray⟩, .int .i64 ((putB l).2 : Nat)]) ∧ Below w.heap.size w w' := by
  by_cases ht : TagsOk l
  · have htb := tagsB_true ht
    go_enter Try.func32, Try.ntmps32
    go_wp2_with fail
    refine (reftags_any A c l w hl hn).mono ?_
    rintro e w1 ⟨rfl, n1, rfl⟩
    rw [htb]
    have H0 := Lib.hid (And.intro htb (And.intro hl hs))
    clear htb hl hs
    go_wp2_with fail
    have hb1 : Below w.heap.size w (w.drewN n1) := below_drewN' (Below.refl _ w) n1
    refine (refnumber_in 1 4 _ (by decide) (by decide)).mono ?_
    rintro e w2 ⟨rfl, hb2⟩
    have hf1 := four_size 1
    obtain ⟨f1, hf1d⟩ : ∃ f1 : ByteArray, f1 = ⟨(Sec.numB 1 4).toArray⟩ := ⟨_, rfl⟩
    rw [← hf1d] at hf1 ⊢
    have HB2 := Lib.hid (And.intro hf1d (hb1.trans (hb2.mono hb1.size)))
    clear hf1d hb2 hb1
    have hwr : IntKind.u64.wrap (l.length : Int) = (l.length : Int) := IntWalk.u64_in _ (by omega)
    go_wp2_with fail
    refine (refnumber_in l.length 4 _ (by omega) (by omega)).mono ?_
    rintro e w3 ⟨rfl, hb3⟩
    have hf2 := four_size l.length
    obtain ⟨f2, hf2d⟩ : ∃ f2 : ByteArray, f2 = ⟨(Sec.numB l.length 4).toArray⟩ := ⟨_, rfl⟩
    rw [← hf2d] at hf2 ⊢
    have hst : (⟨#[76, 79, 70, 84]⟩ ++ f1 ++ f2 : ByteArray) = ⟨(imgTo l 0).toArray⟩ := by
      apply bytes_ext0
      rw [str_append, str_append, HB2.out.1, hf2d]
      simp [imgTo, secsTo, headB]
    have HB3 := Lib.hid (And.intro hst (HB2.out.2.trans (hb3.mono HB2.out.2.size)))
    clear hf2d hb3 hst
    go_wp2_with fail
    go_loopw [4, 5] (fun v i wr => ∃ k : Nat, k ≤ l.length ∧ i = .int .i64 k ∧ v = .string ⟨(imgTo l k).toArray⟩ ∧ Below w.heap.size w wr ∧ ¬ BigTo l k) (fun _ i _ => l.length - (intOf i).toNat)
    case atStart => exact ⟨0, by omega, rfl, by rw [HB3.out.1], HB3.out.2, BigTo.not_zero l⟩
    case round =>
      obtain ⟨k, hk, rfl, rfl, hb, hnb⟩ := hrel
      have hbd := imgTo_bound l ht k hk hnb
      by_cases hlt : k < l.length
      · obtain ⟨b, o, rfl, hab, hc1, hc2⟩ := H0.out.2.1.keep hb (Nat.le_refl _) k hlt
        have his := imgTo_succ l k hlt
        have hnx := BigTo.not_succ hlt hnb
        have hbx : 16777216 < l[k].2.size → BigTo l l.length := fun h => ⟨k, hlt, hlt, h⟩
        have hsx : l[k].1.size = 4 := by have := (ht.1 k hlt).1; rw [tagAt_eq l k hlt] at this; exact this
        have hkl : (k : Int) < l.length := by omega
        obtain ⟨tg, htg⟩ : ∃ tg, tg = l[k].1 := ⟨_, rfl⟩
        obtain ⟨dt, hdt⟩ : ∃ dt, dt = l[k].2 := ⟨_, rfl⟩
        have hse : secB l[k] = secB (tg, dt) := by rw [htg, hdt]
        rw [← htg] at hc1 hsx
        rw [← hdt] at hc2 hnx hbx
        rw [hse] at his
        generalize imgTo l k = L at *
        obtain ⟨Ls, hLs⟩ : ∃ Ls : ByteArray, Ls = ⟨L.toArray⟩ := ⟨_, rfl⟩
        have hLz : Ls.size ≤ 268435660 := by rw [hLs]; show L.toArray.size ≤ _; rw [List.size_toArray]; exact hbd
        rw [← hLs]
        have HH := Lib.hid (And.intro hb (And.intro hLs (And.intro his (And.intro hnx hbx))))
        have hbl2 : b < wr.heap.size := by have := hb.size; omega
        clear hb hLs his hnx hbx htg hdt hse hnb hbd
        by_cases hbig : dt.size ≤ 16777216
        · obtain ⟨r, hr⟩ : ∃ r, r = Crc.more 0 dt.data.toList := ⟨_, rfl⟩
          have hrl : r < 4294967296 := by rw [hr]; exact Crc.more_lt _ (by decide)
          have k1 := fun W => refnumber_in dt.size 4 W (by omega) (by decide)
          have k2 : CallsU 18 #[.string dt] r := fun W => (refof_any dt W (by omega)).mono fun e w' ⟨he, hw⟩ => ⟨by rw [hr]; exact he, by rw [hw]; exact Below.refl _ _⟩
          have k3 := fun W => refnumber_in r 4 W (by omega) (by decide)
          have hf3 := four_size dt.size
          have hf4 := four_size r
          have hw1 : IntKind.u64.wrap (dt.size : Int) = (dt.size : Int) := IntWalk.u64_in _ (by omega)
          have hw2 : IntKind.u64.wrap (r : Int) = (r : Int) := IntWalk.u64_in _ (by omega)
          obtain ⟨f3, hf3d⟩ : ∃ f3 : ByteArray, f3 = ⟨(Sec.numB dt.size 4).toArray⟩ := ⟨_, rfl⟩
          obtain ⟨f4, hf4d⟩ : ∃ f4 : ByteArray, f4 = ⟨(Sec.numB r 4).toArray⟩ := ⟨_, rfl⟩
          rw [← hf3d] at hf3 k1
          rw [← hf4d] at hf4 k3
          have HR := Lib.hid (And.intro hr (And.intro hf3d hf4d))
          have KK := Lib.hid (And.intro k1 (And.intro k2 k3))
          clear hr hf3d hf4d k1 k2 k3
          go_wp2_with fail
          go_name_world W2 HW2
          have hc1' : W2.cell? ⟨b, o + k * 2, none⟩ = some (.string tg) := by rw [← HW2]; exact hc1
          have hc2' : W2.cell? ⟨b, o + k * 2 + 1, none⟩ = some (.string dt) := by rw [← HW2]; exact hc2
          have hb2' : b < W2.heap.size := by rw [← HW2]; exact hbl2
          have hx0 : ∀ x : Keeps (Below W2.heap.size W2), x.to.cell? ⟨b, o + k * 2, none⟩ = some (.string tg) := fun x => (x.ok.cell hb2').trans hc1'
          have hx1 : ∀ x : Keeps (Below W2.heap.size W2), x.to.cell? ⟨b, o + k * 2 + 1, none⟩ = some (.string dt) := fun x => (x.ok.cell hb2').trans hc2'
          have H5 := Lib.hid HH.out.1
          rw [HW2] at H5
          clear HW2 hc1 hc2 hc1' hc2' hbl2 hb2'
          refine wp_region_keeps (Below W2.heap.size W2) (by kernel_rfl) (by kernel_rfl) (Below.refl _ _).drew (fun _ => ?_)
          repeat (first
            | go_big_quiet_skip
            | (go_big_quiet_want
               go_big_quiet_op
               first
                 | go_big_quiet_on
                 | (apply Exists.intro
                    refine ⟨fun x => ?_, ?_⟩
                    · first
                        | with_reducible exact Calls.keeps_below (KK.out.1 _)
                        | with_reducible exact CallsU.keeps KK.out.2.1
                        | with_reducible exact Calls.keeps_below (KK.out.2.2 _)
                    go_big_quiet_on)))
          refine wpQuiet_nil ?_
          rintro _ ⟨x, rfl⟩
          have hx := x.ok
          clear hx0 hx1
          have hst : (Ls ++ tg ++ f3 ++ f4 ++ dt : ByteArray) = ⟨(imgTo l (k + 1)).toArray⟩ := by
            apply bytes_ext0
            rw [str_append, str_append, str_append, str_append, HR.out.2.1, HR.out.2.2, HH.out.2.1, HH.out.2.2.1]
            simp [secB, HR.out.1]
          have HX := Lib.hid (And.intro hst (H5.out.trans (hx.mono H5.out.size)))
          clear hst hx
          go_wp2_with fail
          go_roundw
          case rel => exact ⟨k + 1, by omega, by go_num, by rw [HX.out.1], HX.out.2, HH.out.2.2.2.1 (by omega)⟩
          case measure => simp [intOf]; omega
        · have hbt := HH.out.2.2.2.2 (by omega)
          have HF := Lib.hid (And.intro (putB_big ht hbt) HH.out.1)
          clear hbt
          have hbig2 : (16777216 : Int) < dt.size := by omega
          clear hbig
          go_wp2_with fail
          go_ret2
          exact ⟨by rw [HF.out.1]; rfl, HF.out.2⟩
      · obtain rfl : k = l.length := by omega
        have HF := Lib.hid (And.intro (putB_ok ht hnb) hb)
        generalize imgTo l l.length = L at *
        clear hb hnb hbd
        go_wp2_with fail
        go_ret2
        exact ⟨by rw [HF.out.1]; rfl, HF.out.2⟩
  · have htb := tagsB_false ht
    have HF := Lib.hid (putB_tags ht)
    go_enter Try.func32, Try.ntmps32
    go_wp2_with fail
    refine (reftags_any A c l w hl hn).mono ?_
    rintro e w1 ⟨rfl, n1, rfl⟩
    rw [htb]
    have hb1 : Below w.heap.size w (w.drewN n1) := below_drewN' (Below.refl _ w) n1
    go_wp2_with fail
    go_ret2
    exact ⟨by rw [HF.out]; rfl, hb1⟩
end Go.Proofs.Ytccdipcneabooaa
