/- ScriptNone: for every input the law returns true, and each argument reads behind the call as it did; the package-level table reads as the program's text lays it (the tied card). -/
import Derived.Test.YtoaabbnieakidaaGreatDoorRRows
import Derived.Test.YtoaabbnieakidaaGreatDoorRCards
import Derived.Test.YtoaabbnieakidaaGreatDoorRTie
import Derived.Test.YtoaabbnieakidaaGreatDoorRHae
import Derived.Test.YtoaabbnieakidaaGreatDoorRGbs
import Derived.Test.YtoaabbnieakidaaGreatDoorRHag
import Derived.SevenTiedAt
import Derived.JoinedOf
import Derived.ChangeVars
namespace Go.Proofs.YtoaabbnieakidaaGreatDoorR
open Go.ChangeShapes Go.WideShapes Go.ChangeAt Go.RowKit
open Go.ChangeMaps (open_string)

theorem SV_bytes (s : ByteArray) : SV s.data.toList = .string s := by
  unfold SV
  congr 1

set_option maxRecDepth 100000 in
theorem scriptNone_lifted (os : Os) (started : os.Started) (H : Type) (enc : TypeId × Value → H) :
    ReturnsInHanded {} Tryz.checked os 3 .any (fun w args => (Rows.scriptNoneSpec.pre enc Tryz.prog Tryz.f3 [] false w args ∧ laidMetH Tryz.prog laidTab w) ∧ sizedMet enc Tryz.prog Tryz.f3 (OpenSpec.ofChange Rows.scriptNoneSpec) false w args)
      (Rows.scriptNoneSpec.post enc Tryz.prog Tryz.f3 false true false false) := by
  refine returnsInHanded_of_change_and (C := Tryz.checked) (X := fun w _ => laidMetH Tryz.prog laidTab w) (fun _ _ _ hh h => h.of_heap hh) Tryz.own started (by kernel_rfl) Tryz.func3
    (ChangeSpec.witness_shaped (enc := enc) (C := Tryz.checked) (os := os) (X := fun w _ => laidMetH Tryz.prog laidTab w) false (World.laidAll Tryz.prog os laidTab) #[.agg #[.int .i64 0, .int .i64 0, .string ByteArray.empty, .string ByteArray.empty]] 8 (World.laidAll_os _ _ _)
      (World.shaped_of_ZipB (by kernel_rfl) (by kernel_rfl)) (by kernel_rfl) (by kernel_rfl) (by kernel_rfl)
      (by rw [MakeChecks.laidMetH_plain _ _ _ (by kernel_rfl)]; exact laidMet_laidAll _ (by kernel_rfl) (by kernel_rfl))) ?_
  intro W base args ds gs before hval0 hW _ _ hL _
  have hval : ∀ (j : Nat) t v, Tryz.f3.params[j]? = some t → args[j]? = some v → Value.okWide Tryz.prog W .any base t v := hval0
  have hW' : DataW.Whole enc Tryz.prog Tryz.f3.params.toList Rows.scriptNoneSpec.vars false W args.toList ds gs before := hW
  obtain ⟨p, q, hA0, hV, rfl, hfz, hnd⟩ := hW
  have hA : DataW.TrodAll enc Tryz.prog W 0 (fun _ => true) true Tryz.f3.params.toList args.toList ds p := hA0
  rw [Tryz.params3] at hA hval
  obtain ⟨v0, vs0, d0, ds0, p0, q0, hargs, rfl, rfl, h0, r0⟩ := trodAll_cons hA
  obtain ⟨rfl, rfl, rfl⟩ := trodAll_nil r0
  obtain rfl : args = #[v0] := by cases args; simp_all
  obtain ⟨rfl, rfl⟩ := trodVars_none hV
  obtain ⟨u0_0, u0_1, u0_2, u0_3, y0_0, y0_1, y0_2, y0_3, n0, rfl, rfl, rfl, t0_0, t0_1, t0_2, t0_3⟩ := _root_.Go.Joins.open_agg4 Tryz.underlying23 (by kernel_rfl) (by kernel_rfl) (hval 0 _ v0 rfl rfl) h0
  obtain ⟨m0_0, e0_0, rfl, -⟩ := DataW.trod_int Tryz.underlying3 t0_0
  obtain rfl : u0_0 = .int .i64 m0_0 := by simpa using e0_0
  obtain ⟨m0_1, e0_1, rfl, -⟩ := DataW.trod_int Tryz.underlying3 t0_1
  obtain rfl : u0_1 = .int .i64 m0_1 := by simpa using e0_1
  obtain ⟨s0_2, e0_2, rfl, -⟩ := DataW.trod_string Tryz.underlying9 t0_2
  obtain rfl : u0_2 = .string s0_2 := by simpa using e0_2
  obtain ⟨s0_3, e0_3, rfl, -⟩ := DataW.trod_string Tryz.underlying9 t0_3
  obtain rfl : u0_3 = .string s0_3 := by simpa using e0_3
  clear hA0 hval0
  have hw := scriptNone_walk m0_0 m0_1 s0_2.data.toList s0_3.data.toList (tab_of_laid hL)
  simp only [SV_bytes] at hw
  refine hw.mono fun e W' ⟨he, hb⟩ => ?_
  exact ⟨_, he, law_post (tb := 4) Tryz.laidOut rfl (by intro t ht; rw [Tryz.params3] at ht; simp at ht; subst ht; exact ⟨by kernel_rfl, of_decide_eq_true (by kernel_rfl)⟩) rfl Tryz.underlying4 hW' rfl hb⟩

theorem scriptNone_row : Rows.ScriptNoneSaid :=
  OpenClaim.holds_of_wide 3 Tryz.f3 rfl rfl rfl rfl rfl rfl rfl ⟨rfl, rfl, rfl, rfl, rfl⟩ rfl rfl rfl rfl rfl (by kernel_rfl) Tryz.func3 scriptNone_closed
    (of_decide_eq_true (by kernel_rfl)) (by unfold Func.isWrapper; first | (rw [if_pos (by decide +kernel)]; kernel_rfl) | (rw [if_neg (by decide +kernel)]; exact ⟨rfl, rfl⟩))
    (fun os started H enc _ => scriptNone_lifted os started H enc)

theorem scriptNone_holds : Rows.ScriptNoneCardSaid :=
  Claim7.holds_tied_plain_at .later [] [.data] true (true, "3c66265bc4fe1d855b9c94044c33424ef650d1b28e098fa46a6640001d8dbb4a") false scriptNone_row (fun _ h => by cases h) scriptNone_wfText (fun _ h => by cases h) scriptNone_row_tie rfl ⟨rfl, rfl⟩ scriptNone_main rfl
    (fun f fn hf hfn => by
      obtain rfl : f = 3 := Option.some.inj (scriptNone_named.symm.trans hf) |>.symm
      obtain rfl : fn = Tryz.f3 := (Option.some.inj (Tryz.func3.symm.trans hfn)).symm
      exact ⟨scriptNone_looks, fun j t ht => by
        rw [Tryz.params3] at ht
        have hm : t ∈ [23] := by simpa using Array.mem_of_getElem? ht
        exact (show Tryz.prog.wantsStandIn t = false by simpa using List.all_eq_true.1 scriptNone_stand t hm)⟩)
    scriptNone_goes
#print axioms scriptNone_holds
end Go.Proofs.YtoaabbnieakidaaGreatDoorR
