/- awake of law 26. -/
import Derived.Test.YtccdipcneabooaaWh
import Derived.Test.YtccdipcneabooaaSi
namespace Go.Proofs.Ytccdipcneabooaa
open Go.RowKit Go.BigFrame

/-- the one section that awake puts -/
def oneS : List Sect := [(⟨#[65, 66, 67, 68]⟩, ⟨#[120]⟩)]
theorem oneS_tags : TagsOk oneS := ⟨fun i hi => by
  have : i = 0 := by simp [oneS] at hi; omega
  subst this
  exact ⟨rfl, fun j hj => absurd hj (by omega)⟩, by decide⟩
theorem oneS_big : ¬ BigTo oneS oneS.length := by
  rintro ⟨i, hi, _, hb⟩
  have : i = 0 := by simp [oneS] at hi; omega
  subst this
  have e : oneS[0].2.size = 1 := rfl
  omega
theorem noS_tags : TagsOk [] := ⟨fun i hi => absurd hi (by simp), by decide⟩
theorem noS_big : ¬ BigTo [] ([] : List Sect).length := by
  rintro ⟨i, hi, _, _⟩
  exact absurd hi (by simp)
theorem oneS_new (w : World) : SecsAt (w.alloc (.cells #[.string ⟨#[65, 66, 67, 68]⟩, .string ⟨#[120]⟩] 50)) (w.alloc (.cells #[.string ⟨#[65, 66, 67, 68]⟩, .string ⟨#[120]⟩] 50)).heap.size (some ⟨w.heap.size, 0, none⟩) oneS := by
  intro i hi
  have : i = 0 := by simp [oneS] at hi; omega
  subst this
  exact ⟨w.heap.size, 0, rfl, by simp, World.cell?_alloc_new _ _ _ _, World.cell?_alloc_new _ _ _ _⟩
theorem put_none : putB [] = ([76, 79, 70, 84, 1, 0, 0, 0, 0, 0, 0, 0], 0) := by rw [putB_ok noS_tags noS_big]; rfl
theorem put_one : putB oneS = (imgTo oneS 1, 0) := putB_ok oneS_tags oneS_big
theorem get_loft : getB ⟨#[76, 79, 70, 84]⟩ = ([], 8) := getB_head fun h => absurd h.1 (by decide)

set_option maxHeartbeats 800000 in
theorem awake26 (w : World) : Calls Try.prog 22 #[] w fun e w' => e = .returned (.bool true) ∧ Below w.heap.size w w' := by
  obtain ⟨T, hT⟩ : ∃ T : ByteArray, T = ⟨(imgTo oneS 1).toArray⟩ := ⟨_, rfl⟩
  have hTz : T.size = 25 := by
    rw [hT]
    show (imgTo oneS 1).toArray.size = 25
    rw [List.size_toArray]
    unfold imgTo
    rw [List.length_append, headB_length, secsTo_succ oneS 0 (by decide), List.length_append, secB_length]
    rfl
  have hTg : getB T = (oneS, 0) := getB_img T oneS (by rw [hT]; rfl) oneS_tags oneS_big
  have kp0 := fun W => put_any none 0 [] W (SecsAt.nil _ _ _) (by decide) (fun x hx => absurd hx (by simp))
  have kp1 := fun (W : World) (g : Nat) (hg : SecsAt W W.heap.size (some ⟨g, 0, none⟩) oneS) => put_any (some ⟨g, 0, none⟩) 1 oneS W hg (by decide) (fun x hx => by simp [oneS] at hx; subst hx; unfold maxLen; decide)
  have kg1 := fun W => get_any T W (by omega)
  have kg2 := fun W => get_any ⟨#[76, 79, 70, 84]⟩ W (by decide)
  rw [put_none] at kp0
  rw [put_one] at kp1
  simp only at kp0 kp1
  rw [← hT] at kp1
  rw [hTg] at kg1
  rw [get_loft] at kg2
  have KK := Lib.hid (And.intro kp0 (And.intro kp1 (And.intro kg1 kg2)))
  clear kp0 kp1 kg1 kg2 hT hTg
  go_enter Try.func22, Try.ntmps22
  go_wp2_with fail
  refine (KK.out.1 w).mono ?_
  rintro e w1 ⟨rfl, hb1⟩
  have HB1 := Lib.hid hb1
  clear hb1
  go_wp2_with fail
  refine (KK.out.2.1 _ _ (oneS_new w1)).mono ?_
  rintro e w2 ⟨rfl, hb2⟩
  have HB2 := Lib.hid ((HB1.out.alloc HB1.out.size (.cells #[.string ⟨#[65, 66, 67, 68]⟩, .string ⟨#[120]⟩] 50)).trans (hb2.mono (by simp; have := HB1.out.size; omega)))
  clear hb2
  go_wp2_with fail
  refine (KK.out.2.2.1 _).mono ?_
  rintro e w3 ⟨A, c, rfl, hsec, hb3⟩
  have HB3 := Lib.hid (And.intro (HB2.out.trans (hb3.mono HB2.out.size)) hsec)
  clear hb3 hsec
  go_wp2_with fail
  refine (KK.out.2.2.2 _).mono ?_
  rintro e w4 ⟨A4, c4, rfl, _, hb4⟩
  have HB4 := Lib.hid (And.intro (HB3.out.1.trans (hb4.mono HB3.out.1.size)) (HB3.out.2.keep hb4 hb4.size))
  clear hb4
  go_wp2_with fail
  have hb4s : w4.heap.size ≤ (w4.alloc (.cells #[.string ⟨#[65, 66, 67, 68]⟩, .string ⟨#[120]⟩] 50)).heap.size := by simp
  have hbn : Below w4.heap.size w4 (w4.alloc (.cells #[.string ⟨#[65, 66, 67, 68]⟩, .string ⟨#[120]⟩] 50)) := (Below.refl _ _).alloc (Nat.le_refl _) _
  have ks := same_any A (some ⟨w4.heap.size, 0, none⟩) c 1 oneS oneS _ (HB4.out.2.keep hbn hb4s) (oneS_new w4) (by decide) (by decide)
  rw [decide_eq_true (show oneS = oneS from rfl)] at ks
  have KS := Lib.hid (And.intro ks (HB4.out.1.trans (hbn.mono HB4.out.1.size)))
  clear ks hb4s hbn
  refine KS.out.1.mono ?_
  rintro e w5 ⟨rfl, n5, rfl⟩
  have HB5 := Lib.hid (below_drewN' KS.out.2 n5)
  go_wp2_with fail
  go_ret
  exact ⟨rfl, HB5.out⟩
end Go.Proofs.Ytccdipcneabooaa
