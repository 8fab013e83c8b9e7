/- Put. -/
import Derived.Test.YtccdipcneabooaaSb
import Derived.Test.YtccdipcneabooaaSp
import Derived.Test.YtccdipcneabooaaQt
import Derived.Lib.ItoaWalk
namespace Go.Proofs.Ytccdipcneabooaa
open Go.RowKit Go.BigFrame

theorem four_size (n : Nat) : (⟨(Sec.numB n 4).toArray⟩ : ByteArray).size = 4 := by
  show (Sec.numB n 4).toArray.size = 4
  rw [List.size_toArray, Sec.numB_length]
/-- a builder in a world that made memory since -/
theorem IsBuilder.keep {B b : Nat} {bs : List Value} {w w' : World} (h : Lib.IsBuilder 62 5 B b bs w) (hb : Below w.heap.size w w') : Lib.IsBuilder 62 5 B b bs w' := by
  have one : ∀ p, Lib.BuilderAt 62 5 B b p bs w → Lib.BuilderAt 62 5 B b p bs w' := fun p h => by
    have hlt := h.lt
    obtain ⟨hB, v, hbk, hown, hne⟩ := h
    refine ⟨hB, v, by rw [hb.block b hlt]; exact hbk, ⟨hown.1, ?_⟩, hne⟩
    have hl := hown.lt
    rcases hown.2 with hv | ⟨g, cap, cur, rfl, h1, h2, h3⟩
    · exact Or.inl hv
    · exact Or.inr ⟨g, cap, cur, rfl, h1, by rw [hb.block g (hl g rfl).2]; exact h2, h3⟩
  exact h.imp (one _) (one _)

set_option maxHeartbeats 800000 in
theorem put_any (A : Option Addr) (c : Nat) (l : List Sect) (w : World) (hl : SecsAt w w.heap.size A l) (hn : l.length ≤ 4611686018427387904) (hs : ∀ x ∈ l, x.1.size ≤ maxLen) :
    Calls Try.prog 31 #[.slice A l.length c] w fun e w' => e = .returned (.tuple #[.string ⟨(putB l).1.toArray⟩, .int .i64 ((putB l).2 : Nat)]) ∧ Below w.heap.size w w' := by
  by_cases ht : TagsOk l
  · have htb := tagsB_true ht
    go_enter Try.func31, Try.ntmps31
    go_wp2_with fail
    refine (tags_any A c l w hl hn hs).mono ?_
    rintro e w1 ⟨rfl, hb1⟩
    rw [htb]
    have H0 := Lib.hid (And.intro htb (And.intro hb1 (And.intro hl hs)))
    clear htb hb1 hl hs
    go_wp2_with fail
    have hB0 : w.heap.size ≤ w1.heap.size := H0.out.2.1.size
    refine (four_int 1 _ (by omega)).mono ?_
    rintro e w2 ⟨rfl, hb2⟩
    have hf1 := four_size 1
    obtain ⟨f1, hf1d⟩ : ∃ f1 : ByteArray, f1 = ⟨(Sec.numB 1 4).toArray⟩ := ⟨_, rfl⟩
    rw [← hf1d] at hf1 ⊢
    have HB2 := Lib.hid (And.intro hf1d hb2)
    clear hf1d hb2
    go_wp2_with fail
    refine (four_int l.length _ (by omega)).mono ?_
    rintro e w3 ⟨rfl, hb3⟩
    have hf2 := four_size l.length
    obtain ⟨f2, hf2d⟩ : ∃ f2 : ByteArray, f2 = ⟨(Sec.numB l.length 4).toArray⟩ := ⟨_, rfl⟩
    rw [← hf2d] at hf2 ⊢
    have HB3 := Lib.hid (And.intro hf2d hb3)
    clear hf2d hb3
    go_wp2_with fail
    have hbl1 : Lib.IsBuilder 62 5 w.heap.size w1.heap.size [] (w1.alloc (.cells #[.pointer none, .slice none 0 0] 62)) :=
      Or.inl ⟨hB0, .slice none 0 0, heap_alloc_new w1 _, World.ownsRow_nil _ _ _ _, by simp [Value.ownBlock]⟩
    have hbl3 := IsBuilder.keep (IsBuilder.keep hbl1 HB2.out.2) HB3.out.2
    have hb03 : Below w.heap.size w w3 := ((H0.out.2.1.alloc hB0 _).trans (HB2.out.2.mono (by simp; omega))).trans (HB3.out.2.mono (by have := HB2.out.2.size; simp at this; omega))
    refine (writeString_any w.heap.size w1.heap.size [] _ w3 hbl3 ?_ hb03.size).mono ?_
    · rw [ByteArray.size_append, ByteArray.size_append, hf1, hf2]
      decide
    rintro e w4 ⟨rfl, hbl4, hb4⟩
    have hst : Lib.IsBuilder 62 5 w.heap.size w1.heap.size (Lib.byteCells (imgTo l 0)) w4 := by
      refine Or.inr ?_
      have e : Lib.byteCells (imgTo l 0) = [] ++ Lib.strCells ((⟨#[76, 79, 70, 84]⟩ ++ f1) ++ f2) := by
        rw [Lib.strCells_eq, List.nil_append, str_append, str_append, HB2.out.1, HB3.out.1]
        simp [imgTo, secsTo, headB]
      rw [e]
      exact hbl4
    have H4 := Lib.hid (And.intro hst (hb03.trans hb4))
    have hlt1 : w1.heap.size < w4.heap.size := hbl4.lt
    clear hbl1 hbl3 hb03 hbl4 hb4 hst
    go_wp2_with fail
    go_loopw [19] (fun i wr => ∃ k : Nat, k ≤ l.length ∧ i = .int .i64 k ∧ Below w.heap.size w wr ∧ Lib.IsBuilder 62 5 w.heap.size w1.heap.size (Lib.byteCells (imgTo l k)) wr ∧ ¬ BigTo l k) (fun i _ => l.length - (intOf i).toNat)
    case atStart => exact ⟨0, by omega, rfl, H4.out.2, H4.out.1, BigTo.not_zero l⟩
    case round =>
      obtain ⟨k, hk, rfl, hb, hbl, hnb⟩ := hrel
      have hbd := imgTo_bound l ht k hk hnb
      by_cases hlt : k < l.length
      · obtain ⟨b, o, rfl, hab, hc1, hc2⟩ := H0.out.2.2.1.keep hb (Nat.le_refl _) k hlt
        have his := imgTo_succ l k hlt
        have hnx := BigTo.not_succ hlt hnb
        have hbx : 16777216 < l[k].2.size → BigTo l l.length := fun h => ⟨k, hlt, hlt, h⟩
        have hsx : l[k].1.size = 4 := by have := (ht.1 k hlt).1; rw [tagAt_eq l k hlt] at this; exact this
        obtain ⟨tg, htg⟩ : ∃ tg, tg = l[k].1 := ⟨_, rfl⟩
        obtain ⟨dt, hdt⟩ : ∃ dt, dt = l[k].2 := ⟨_, rfl⟩
        have hse : secB l[k] = secB (tg, dt) := by rw [htg, hdt]
        rw [← htg] at hc1 hsx
        rw [← hdt] at hc2 hnx hbx
        rw [hse] at his
        generalize imgTo l k = L at *
        have HH := Lib.hid (And.intro hb (And.intro hbl (And.intro his (And.intro hnx hbx))))
        have hlt2 : w1.heap.size < wr.heap.size := by rcases hbl with h | h <;> exact h.lt
        clear hb hbl his hnx hbx htg hdt hse hnb
        by_cases hbig : dt.size ≤ 16777216
        · obtain ⟨r, hr⟩ : ∃ r, r = Crc.more 0 dt.data.toList := ⟨_, rfl⟩
          have hrl : r < 4294967296 := by rw [hr]; exact Crc.more_lt _ (by decide)
          have k1 := fun W => four_int dt.size W (by omega)
          have k2 := fun W => of_any dt W (by omega)
          rw [← hr] at k2
          have k3 := fun W => four_u32 r W hrl
          have hf3 := four_size dt.size
          have hf4 := four_size r
          obtain ⟨f3, hf3d⟩ : ∃ f3 : ByteArray, f3 = ⟨(Sec.numB dt.size 4).toArray⟩ := ⟨_, rfl⟩
          obtain ⟨f4, hf4d⟩ : ∃ f4 : ByteArray, f4 = ⟨(Sec.numB r 4).toArray⟩ := ⟨_, rfl⟩
          rw [← hf3d] at hf3 k1
          rw [← hf4d] at hf4 k3
          have HR := Lib.hid (And.intro hr (And.intro hf3d hf4d))
          have KK := Lib.hid (And.intro k1 (And.intro k2 k3))
          clear hr hf3d hf4d k1 k2 k3
          go_wp2_with fail
          go_name_world W2 HW2
          have hx0 : ∀ x : Keeps (Below W2.heap.size W2), x.to.cell? ⟨wr.heap.size, 0, none⟩ = some (.string tg) := fun x => by
            rw [x.ok.cell (by rw [← HW2]; simp), ← HW2]
            simp [World.cell?_alloc_new]
          have hx1 : ∀ x : Keeps (Below W2.heap.size W2), x.to.cell? ⟨wr.heap.size, 1, none⟩ = some (.string dt) := fun x => by
            rw [x.ok.cell (by rw [← HW2]; simp), ← HW2]
            simp [World.cell?_alloc_new]
          have H5 := Lib.hid (And.intro ((HH.out.1.alloc HH.out.1.size (.cells #[.string tg, .string dt] 50))) (IsBuilder.keep HH.out.2.1 ((Below.refl _ wr).alloc (Nat.le_refl _) (.cells #[.string tg, .string dt] 50))))
          rw [HW2] at H5
          clear HW2
          have hne : Nonempty (Keeps (Below W2.heap.size W2)) := ⟨⟨W2, Below.refl _ _⟩⟩
          refine wp_region_quiet_tail (C := fun w' => ∃ x : Keeps (Below W2.heap.size W2), w' = x.to) 15 (by kernel_rfl) (by kernel_rfl) ⟨⟨_, (Below.refl _ _).drew⟩, rfl⟩ ?_
          simp only [List.take_succ_cons, List.take_zero, List.drop_succ_cons, List.drop_zero]
          repeat (first
            | go_big_quiet_skip
            | (go_big_quiet_want
               go_big_quiet_op
               first
                 | go_big_quiet_on
                 | (apply Exists.intro
                    refine ⟨fun x => ?_, ?_⟩
                    · first
                        | with_reducible exact Calls.keeps_below (KK.out.1 _)
                        | with_reducible exact Calls.keeps_below (KK.out.2.1 _)
                        | with_reducible exact Calls.keeps_below (KK.out.2.2 _)
                    go_big_quiet_on)))
          refine wpQuiet_nil ?_
          rintro _ ⟨x, rfl⟩
          have hx := x.ok
          clear hx0 hx1
          go_wp2_with fail
          have hb0x : Below w.heap.size w x.to := H5.out.1.trans (hx.mono H5.out.1.size)
          refine (writeString_any w.heap.size w1.heap.size (Lib.byteCells L) _ x.to (IsBuilder.keep H5.out.2 hx) ?_ hb0x.size).mono ?_
          · rw [Lib.byteCells_length, ByteArray.size_append, ByteArray.size_append, ByteArray.size_append]
            omega
          rintro e w5 ⟨rfl, hbl5, hb5⟩
          have hst : Lib.IsBuilder 62 5 w.heap.size w1.heap.size (Lib.byteCells (imgTo l (k + 1))) w5 := by
            refine Or.inr ?_
            have e : Lib.byteCells (imgTo l (k + 1)) = Lib.byteCells L ++ Lib.strCells (tg ++ f3 ++ f4 ++ dt) := by
              rw [Lib.strCells_eq, HH.out.2.2.1, Lib.byteCells_append, str_append, str_append, str_append, HR.out.2.1, HR.out.2.2]
              simp [secB, HR.out.1]
            rw [e]
            exact hbl5
          have H6 := Lib.hid (And.intro hst (hb0x.trans hb5))
          clear hst hb0x hbl5 hb5 hx
          go_wp2_with fail
          go_roundw
          case rel => exact ⟨k + 1, by omega, by go_num, H6.out.2, H6.out.1, HH.out.2.2.2.1 (by omega)⟩
          case measure => simp [intOf]; omega
        · have hbt := HH.out.2.2.2.2 (by omega)
          have HF := Lib.hid (And.intro (putB_big ht hbt) (HH.out.1.alloc HH.out.1.size (.cells #[.string tg, .string dt] 50)))
          clear hbt
          have hbig2 : (16777216 : Int) < dt.size := by omega
          clear hbig
          go_wp2_with fail
          go_ret2
          exact ⟨by rw [HF.out.1]; rfl, HF.out.2⟩
      · obtain rfl : k = l.length := by omega
        have HF := Lib.hid (And.intro (putB_ok ht hnb) hb)
        have hk1 := string_any w.heap.size w1.heap.size (imgTo l l.length) wr hbl (imgTo_ne l l.length)
        generalize imgTo l l.length = L at *
        clear hb hbl hnb hbd
        go_wp2_with fail
        refine hk1.mono ?_
        rintro e w5 ⟨rfl, hb5⟩
        go_wp2_with fail
        go_ret2
        exact ⟨by rw [HF.out.1]; rfl, HF.out.2.trans hb5⟩
  · have htb := tagsB_false ht
    have HF := Lib.hid (putB_tags ht)
    go_enter Try.func31, Try.ntmps31
    go_wp2_with fail
    refine (tags_any A c l w hl hn hs).mono ?_
    rintro e w1 ⟨rfl, hb1⟩
    rw [htb]
    go_wp2_with fail
    go_ret2
    exact ⟨by rw [HF.out]; rfl, hb1⟩
end Go.Proofs.Ytccdipcneabooaa
