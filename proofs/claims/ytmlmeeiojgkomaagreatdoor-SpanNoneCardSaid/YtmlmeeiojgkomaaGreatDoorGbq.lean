/- SpanNone: for every input the law returns true, and each argument reads behind the call as it did; the package-level table reads as the program's text lays it (the tied card). -/
import Derived.Test.YtmlmeeiojgkomaaGreatDoorRows
import Derived.Test.YtmlmeeiojgkomaaGreatDoorCards
import Derived.Test.YtmlmeeiojgkomaaGreatDoorTie
import Derived.Test.YtmlmeeiojgkomaaGreatDoorGbp
import Derived.SevenTiedAt
import Derived.JoinedOf
import Derived.ChangeVars
namespace Go.Proofs.YtmlmeeiojgkomaaGreatDoor
open Go.ChangeShapes Go.WideShapes Go.ChangeAt Go.RowKit

theorem SV_bytes (s : ByteArray) : SV s.data.toList = .string s := by
  unfold SV
  congr 1

set_option maxRecDepth 100000 in
theorem spanNone_lifted (os : Os) (started : os.Started) (H : Type) (enc : TypeId × Value → H) :
    ReturnsInHanded {} Tryz.checked os 3 .any (fun w args => (Rows.spanNoneSpec.pre enc Tryz.prog Tryz.f3 [] false w args ∧ laidMetH Tryz.prog laidTab w) ∧ sizedMet enc Tryz.prog Tryz.f3 (OpenSpec.ofChange Rows.spanNoneSpec) false w args)
      (Rows.spanNoneSpec.post enc Tryz.prog Tryz.f3 false true false false) := by
  refine returnsInHanded_of_change_and (C := Tryz.checked) (X := fun w _ => laidMetH Tryz.prog laidTab w) (fun _ _ _ hh h => h.of_heap hh) Tryz.own started (by kernel_rfl) Tryz.func3
    (ChangeSpec.witness_shaped (enc := enc) (C := Tryz.checked) (os := os) (X := fun w _ => laidMetH Tryz.prog laidTab w) false (World.laidAll Tryz.prog os laidTab) #[.agg #[.string ByteArray.empty, .string ByteArray.empty, .bool false, .int .i64 0]] 8 (World.laidAll_os _ _ _)
      (World.shaped_of_ZipB (by kernel_rfl) (by kernel_rfl)) (by kernel_rfl) (by kernel_rfl) (by kernel_rfl)
      (by rw [MakeChecks.laidMetH_plain _ _ _ (by kernel_rfl)]; exact laidMet_laidAll _ (by kernel_rfl) (by kernel_rfl))) ?_
  intro W base args ds gs before hval0 hW _ _ hL _
  have hval : ∀ (j : Nat) t v, Tryz.f3.params[j]? = some t → args[j]? = some v → Value.okWide Tryz.prog W .any base t v := hval0
  have hW' : DataW.Whole enc Tryz.prog Tryz.f3.params.toList Rows.spanNoneSpec.vars false W args.toList ds gs before := hW
  obtain ⟨p, q, hA0, hV, rfl, hfz, hnd⟩ := hW
  have hA : DataW.TrodAll enc Tryz.prog W 0 (fun _ => true) true Tryz.f3.params.toList args.toList ds p := hA0
  rw [Tryz.params3] at hA hval
  obtain ⟨v0, d0, rfl, rfl, h0⟩ := trodAll_one hA
  obtain ⟨rfl, rfl⟩ := trodVars_none hV
  obtain ⟨u0, u1, u2, u3, y0, y1, y2, y3, n, rfl, rfl, rfl, t0, t1, t2, t3⟩ := _root_.Go.Joins.open_agg4 Tryz.underlying23 (by kernel_rfl) (by kernel_rfl) (hval 0 _ v0 rfl rfl) h0
  obtain ⟨s0, e0, rfl, -⟩ := DataW.trod_string Tryz.underlying9 t0
  obtain ⟨s1, e1, rfl, -⟩ := DataW.trod_string Tryz.underlying9 t1
  obtain ⟨b2, e2, rfl⟩ := DataW.trod_bool Tryz.underlying4 t2
  obtain ⟨m3, e3, rfl, -⟩ := DataW.trod_int Tryz.underlying3 t3
  obtain rfl : u0 = .string s0 := by simpa using e0
  obtain rfl : u1 = .string s1 := by simpa using e1
  obtain rfl : u2 = .bool b2 := by simpa using e2
  obtain rfl : u3 = .int .i64 m3 := by simpa using e3
  clear hA0 hval0
  have hw := spanNone_walk s0.data.toList s1.data.toList b2 m3 (tab_of_laid hL)
  rw [SV_bytes, SV_bytes] at hw
  refine hw.mono fun e W' ⟨he, hb⟩ => ?_
  exact ⟨_, he, law_post (tb := 4) Tryz.laidOut rfl (by intro t ht; rw [Tryz.params3] at ht; simp at ht; subst ht; exact ⟨by kernel_rfl, of_decide_eq_true (by kernel_rfl)⟩) rfl Tryz.underlying4 hW' rfl hb⟩

theorem spanNone_row : Rows.SpanNoneSaid :=
  OpenClaim.holds_of_wide 3 Tryz.f3 rfl rfl rfl rfl rfl rfl rfl ⟨rfl, rfl, rfl, rfl, rfl⟩ rfl rfl rfl rfl rfl (by kernel_rfl) Tryz.func3 (by kernel_rfl)
    (of_decide_eq_true (by kernel_rfl)) (by unfold Func.isWrapper; first | (rw [if_pos (by decide +kernel)]; kernel_rfl) | (rw [if_neg (by decide +kernel)]; exact ⟨rfl, rfl⟩))
    (fun os started H enc _ => spanNone_lifted os started H enc)

theorem spanNone_holds : Rows.SpanNoneCardSaid :=
  Claim7.holds_tied_plain_at .later [] [.data] true (true, "016afd651fab23cc9f326dced5e5336265264b265d9b57869d0fa0e7a82dbd88") false spanNone_row (fun _ h => by cases h) (by kernel_rfl) (fun _ h => by cases h) spanNone_row_tie rfl ⟨rfl, rfl⟩ (by kernel_rfl) rfl
    (fun f fn hf hfn => by
      obtain rfl : f = 3 := Option.some.inj ((show Tryz.prog.funcNamed "loft/loftlaw21.SpanNone" = some 3 by kernel_rfl).symm.trans hf) |>.symm
      obtain rfl : fn = Tryz.f3 := (Option.some.inj (Tryz.func3.symm.trans hfn)).symm
      exact ⟨by kernel_rfl, fun j t ht => by
        rw [Tryz.params3] at ht
        have hm : t ∈ [23] := by simpa using Array.mem_of_getElem? ht
        have hall : ([23].all fun u => !Tryz.prog.wantsStandIn u) = true := by kernel_rfl
        exact (show Tryz.prog.wantsStandIn t = false by simpa using List.all_eq_true.1 hall t hm)⟩)
    (by kernel_rfl)
#print axioms spanNone_holds
end Go.Proofs.YtmlmeeiojgkomaaGreatDoor
