/- Rows of sections in memory. -/
import Derived.Test.YtccdipcneabooaaWn
import Derived.Maps.Own
import Derived.Maps.OwnOps
import Derived.Maps.Views
namespace Go.Proofs.Ytccdipcneabooaa
open Go.RowKit Go.BigFrame Go.Maps Go.WideMaps

abbrev Sect := ByteArray × ByteArray
/-- a slice of sections, from an address on: below block B -/
def SecsAt (w : World) (B : Nat) (A : Option Addr) (l : List Sect) : Prop :=
  ∀ (i : Nat) (h : i < l.length), ∃ b o : Nat, A = some ⟨b, o, none⟩ ∧ b < B ∧ w.cell? ⟨b, o + i * 2, none⟩ = some (.string l[i].1) ∧ w.cell? ⟨b, o + i * 2 + 1, none⟩ = some (.string l[i].2)
theorem SecsAt.keep {w w' : World} {B B' : Nat} {A : Option Addr} {l : List Sect} (h : SecsAt w B A l) (hb : Below B w w') (hB : B ≤ B') : SecsAt w' B' A l := by
  intro i hi
  obtain ⟨b, o, h1, h2, h3, h4⟩ := h i hi
  exact ⟨b, o, h1, by omega, (hb.cell h2).trans h3, (hb.cell h2).trans h4⟩
theorem SecsAt.nil (w : World) (B : Nat) (A : Option Addr) : SecsAt w B A [] := fun i h => absurd h (by simp)

/-- the tag of a place -/
def tagAt (l : List Sect) (i : Nat) : ByteArray := (l.getD i (ByteArray.empty, ByteArray.empty)).1
theorem tagAt_eq (l : List Sect) (i : Nat) (h : i < l.length) : tagAt l i = l[i].1 := by unfold tagAt; rw [List.getD, List.getElem?_eq_getElem h]; rfl
/-- the first k tags are of four bytes, none twice -/
def TagsTo (l : List Sect) (k : Nat) : Prop := ∀ i, i < k → (tagAt l i).size = 4 ∧ ∀ j, j < i → tagAt l j ≠ tagAt l i
def TagsOk (l : List Sect) : Prop := TagsTo l l.length ∧ l.length ≤ 16
open Classical in
noncomputable def tagsB (l : List Sect) : Bool := decide (TagsOk l)
open Classical in
theorem tagsB_true {l : List Sect} (h : TagsOk l) : tagsB l = true := by unfold tagsB; exact decide_eq_true h
open Classical in
theorem tagsB_false {l : List Sect} (h : ¬ TagsOk l) : tagsB l = false := by unfold tagsB; exact decide_eq_false h
open Classical in
theorem tagsB_iff {l : List Sect} : tagsB l = true ↔ TagsOk l := by unfold tagsB; exact decide_eq_true_iff
theorem TagsTo.succ {l : List Sect} {k : Nat} (h : TagsTo l k) (h4 : (tagAt l k).size = 4) (hn : ∀ j, j < k → tagAt l j ≠ tagAt l k) : TagsTo l (k + 1) := by
  intro i hi
  by_cases e : i = k
  · subst e; exact ⟨h4, hn⟩
  · exact h i (by omega)
theorem TagsTo.zero (l : List Sect) : TagsTo l 0 := fun i hi => absurd hi (by omega)

section
variable {H : Type}
/-- a tag as a key -/
def tagLit (t : ByteArray) : Lit := .string t.data.toList
theorem tagLit_inj {a b : ByteArray} (h : tagLit a = tagLit b) : a = b := by
  unfold tagLit at h
  injection h with h
  exact bytes_ext0 h
/-- the counts behind k rounds, none of them above 1 -/
def Seen (H : Type) (l : List Sect) : Nat → DataW H
  | 0 => .map []
  | k + 1 => (Seen H l k).put (tagLit (tagAt l k)) (.lit (.int .i64 1))
theorem Seen.isMap (l : List Sect) : ∀ k, IsMap (Seen H l k)
  | 0 => isMap_empty
  | k + 1 => (Seen.isMap l k).put _ _
theorem Seen.at_new (l : List Sect) (t : ByteArray) (z : DataW H) : ∀ k, (∀ j, j < k → tagAt l j ≠ t) → (Seen H l k).atKey (tagLit t) z = z
  | 0, _ => rfl
  | k + 1, h => by
    show ((Seen H l k).put _ _).atKey _ _ = _
    rw [atKey_put_other (fun e => h k (by omega) (tagLit_inj e).symm)]
    exact Seen.at_new l t z k fun j hj => h j (by omega)
theorem Seen.at_old (l : List Sect) (t : ByteArray) (z : DataW H) : ∀ k, (∃ j, j < k ∧ tagAt l j = t) → (Seen H l k).atKey (tagLit t) z = .lit (.int .i64 1)
  | 0, ⟨j, hj, _⟩ => absurd hj (by omega)
  | k + 1, ⟨j, hj, e⟩ => by
    show ((Seen H l k).put _ _).atKey _ _ = _
    by_cases h : tagAt l k = t
    · rw [h, atKey_put_same (Seen.isMap l k) (show WideAt.IsKeyLit (tagLit t) from trivial)]
    · rw [atKey_put_other (fun e2 => h (tagLit_inj e2).symm)]
      exact Seen.at_old l t z k ⟨j, by
        have : j ≠ k := fun e3 => h (by rw [← e3]; exact e)
        omega, e⟩
end
theorem law9 : Keyed Try.prog 9 := string_keyed Try.underlying9
theorem zero3 (w : World) : (zeroValue 3).run Try.prog w = .ok (.int .i64 0) w := by kernel_rfl

theorem str_eq' {a b : ByteArray} (h : a = b) : (a.toList == b.toList) = true := by rw [h]; simp
theorem str_ne' {a b : ByteArray} (h : a ≠ b) : (a.toList == b.toList) = false := by
  rw [ByteArray.toList_eq, ByteArray.toList_eq]
  simpa using fun e => h (bytes_ext0 (by simpa using e))
/-- the data of a tag -/
def secFind (l : List Sect) (t : ByteArray) : Option ByteArray := (l.find? fun x => decide (x.1 = t)).map (·.2)
theorem secFind_hit (l : List Sect) (t : ByteArray) (k : Nat) (hk : k < l.length) (hn : ∀ j, j < k → tagAt l j ≠ t) (h : l[k].1 = t) : secFind l t = some l[k].2 := by
  unfold secFind
  have : l.find? (fun x => decide (x.1 = t)) = some l[k] := by
    rw [List.find?_eq_some_iff_getElem]
    refine ⟨by simp [h], k, hk, rfl, fun j hj => ?_⟩
    have := hn j hj
    rw [tagAt_eq l j (by omega)] at this
    simp [this]
  rw [this]; rfl
theorem secFind_miss (l : List Sect) (t : ByteArray) (hn : ∀ j, j < l.length → tagAt l j ≠ t) : secFind l t = none := by
  unfold secFind
  have : l.find? (fun x => decide (x.1 = t)) = none := by
    rw [List.find?_eq_none]
    intro x hx
    obtain ⟨j, hj, rfl⟩ := List.getElem_of_mem hx
    have := hn j hj
    rw [tagAt_eq l j hj] at this
    simp [this]
  rw [this]; rfl

set_option maxHeartbeats 400000 in
theorem find_any (A : Option Addr) (c : Nat) (l : List Sect) (t : ByteArray) (w : World) (hl : SecsAt w w.heap.size A l) (hn : l.length ≤ 9223372036854775807) :
    Calls Try.prog 33 #[.slice A l.length c, .string t] w fun e w' => e = .returned (.tuple #[.string ((secFind l t).getD ⟨#[]⟩), .bool (secFind l t).isSome]) ∧ Below w.heap.size w w' := by
  go_enter Try.func33, Try.ntmps33
  go_wp2_with fail
  go_loopw [4, 5, 10] (fun u v i wr => ∃ k : Nat, k ≤ l.length ∧ i = .int .i64 k ∧ u = .string ⟨#[]⟩ ∧ v = .bool false ∧ Below w.heap.size w wr ∧ ∀ j, j < k → tagAt l j ≠ t) (fun _ _ i _ => l.length - (intOf i).toNat)
  case atStart => exact ⟨0, by omega, rfl, rfl, rfl, Below.refl _ _, fun j hj => absurd hj (by omega)⟩
  case round =>
    obtain ⟨k, hk, rfl, rfl, rfl, hb, hne⟩ := hrel
    by_cases hlt : k < l.length
    · obtain ⟨b, o, rfl, hab, hc1, hc2⟩ := hl.keep hb (Nat.le_refl _) k hlt
      have hfh := secFind_hit l t k hlt hne
      have hta := tagAt_eq l k hlt
      have HH := Lib.hid (And.intro hb (And.intro hne (And.intro hfh (And.intro hta hl))))
      clear hb hne hfh hta hl
      generalize l[k].1 = tg at *
      generalize l[k].2 = dt at *
      by_cases he : tg = t
      · have hq := str_eq' he
        have HE := Lib.hid he
        clear he
        go_wp2_with fail
        go_ret2
        exact ⟨by rw [HH.out.2.2.1 HE.out]; rfl, HH.out.1.alloc HH.out.1.size _⟩
      · have hq := str_ne' he
        have HE := Lib.hid he
        clear he
        go_wp2_with fail
        go_roundw
        case rel =>
          refine ⟨k + 1, by omega, by go_num, rfl, rfl, HH.out.1.alloc HH.out.1.size _, fun j hj => ?_⟩
          by_cases e : j = k
          · rw [e, HH.out.2.2.2.1]; exact HE.out
          · exact HH.out.2.1 j (by omega)
        case measure => simp [intOf]; omega
    · obtain rfl : k = l.length := by omega
      have HM := Lib.hid (secFind_miss l t hne)
      have HB := Lib.hid hb
      clear hne hb hl
      go_wp2_with fail
      go_ret2
      exact ⟨by rw [HM.out]; rfl, HB.out⟩

set_option maxHeartbeats 800000 in
theorem tags_any (A : Option Addr) (c : Nat) (l : List Sect) (w : World) (hl : SecsAt w w.heap.size A l) (hn : l.length ≤ 4611686018427387904) (hs : ∀ x ∈ l, x.1.size ≤ maxLen) :
    Calls Try.prog 38 #[.slice A l.length c] w fun e w' => e = .returned (.bool (tagsB l)) ∧ Below w.heap.size w w' := by
  have hmm := @run_makeMap Try.prog
  go_enter Try.func38, Try.ntmps38
  go_wp2_with fail
  clear hmm
  go_loopw [2, 9] (fun u i wr => ∃ k : Nat, k ≤ l.length ∧ i = .int .i64 k ∧ u = .bool false ∧ Below w.heap.size w wr ∧ TagsTo l k ∧ wr.ownsMap Try.prog 9 (plainElem Try.prog 3) w.heap.size k (Seen Unit l k)) (fun _ i _ => l.length - (intOf i).toNat)
  case atStart => exact ⟨0, by omega, rfl, rfl, (Below.refl _ _).alloc (Nat.le_refl _) _, TagsTo.zero l, World.ownsMap_made _ _ _ _⟩
  case round =>
    obtain ⟨k, hk, rfl, rfl, hb, htt, hown⟩ := hrel
    by_cases hlt : k < l.length
    · obtain ⟨b, o, rfl, hab, hc1, hc2⟩ := hl.keep hb (Nat.le_refl _) k hlt
      have hta := tagAt_eq l k hlt
      have hsz := hs l[k] (List.getElem_mem hlt)
      obtain ⟨tg, htg⟩ : ∃ tg, tg = l[k].1 := ⟨_, rfl⟩
      obtain ⟨dt, hdt⟩ : ∃ dt, dt = l[k].2 := ⟨_, rfl⟩
      rw [← htg] at hta hsz hc1
      rw [← hdt] at hc2
      have hkey : keyOf Try.prog 9 (.string tg) = some (tagLit tg) := keyOf_string_mk Try.underlying9 hsz
      have hms : w.heap.size < wr.heap.size := hown.lt
      have hne : w.heap.size ≠ wr.heap.size := by omega
      obtain ⟨c0, hrun, hat, _⟩ := (hown.alloc (.cells #[.string tg, .string dt] 50)).lookup_int law9 Try.underlying69 Try.underlying3 (zero3 _) hkey
      have hc01 : 0 ≤ c0 ∧ c0 ≤ 1 ∧ ((∀ j, j < k → tagAt l j ≠ tg) ↔ c0 = 0) := by
        by_cases hex : ∃ j, j < k ∧ tagAt l j = tg
        · rw [Seen.at_old l tg _ k hex] at hat
          injection hat with hat
          injection hat with _ hat
          subst hat
          refine ⟨by omega, by omega, fun h => ?_, fun h => by omega⟩
          obtain ⟨j, hj, e⟩ := hex
          exact absurd e (h j hj)
        · have hn2 : ∀ j, j < k → tagAt l j ≠ tg := fun j hj e => hex ⟨j, hj, e⟩
          rw [Seen.at_new l tg _ k hn2] at hat
          injection hat with hat
          injection hat with _ hat
          subst hat
          exact ⟨by omega, by omega, fun _ => rfl, fun _ => hn2⟩
      obtain ⟨hc00, hc02, hciff⟩ := hc01
      have HH := Lib.hid (And.intro hb (And.intro htt (And.intro hta (And.intro hown (And.intro hciff hl)))))
      clear hb htt hta hown hciff hl htg hdt hat
      go_wp2_with (at_mapUpdate; refine wpList_mapUpdate_own _ rfl _ _ _ 69 rfl 9 3 law9 Try.underlying69 _ w.heap.size k _ rfl (HH.out.2.2.2.1.alloc _) (by unfold maxLen; omega) _ _ _ rfl rfl hkey _ [] (plainElem_int Try.underlying3 (WalkArith.wf_i64 (by omega))) ?_)
      intro w1 hown1 hgrow1
      obtain ⟨c1, hrun1, hat1, _⟩ := hown1.lookup_int law9 Try.underlying69 Try.underlying3 (zero3 _) hkey
      rw [atKey_put_same (Seen.isMap l k) (show WideAt.IsKeyLit (tagLit tg) from trivial)] at hat1
      injection hat1 with hat1
      injection hat1 with _ hat1
      subst hat1
      have hb1 : Below w.heap.size w w1 := (HH.out.1.alloc HH.out.1.size _).grown hgrow1 (by simp; omega) (fun j hj => by cases hj; exact Nat.le_refl _)
      have hcx : w1.cell? ⟨wr.heap.size, 0, none⟩ = some (.string tg) := by
        have e := hgrow1.block wr.heap.size (by simp) (by intro e; injection e with e; omega)
        exact (World.cell?_of_block (w := wr.alloc (.cells #[.string tg, .string dt] 50)) e).trans (World.cell?_alloc_new wr _ _ _)
      have H1 := Lib.hid (And.intro hb1 hown1)
      clear hown1 hgrow1 hb1 hrun hc1 hc2
      by_cases h4 : tg.size = 4
      · have hq : ((tg.size : Int) != 4) = false := by simp [h4]
        have H4 := Lib.hid h4
        clear h4
        by_cases h0 : c0 = 0
        · subst h0
          go_wp2_with fail
          go_roundw
          case rel =>
            refine ⟨k + 1, by omega, by go_num, rfl, H1.out.1, HH.out.2.1.succ (by rw [HH.out.2.2.1]; exact H4.out) (by rw [HH.out.2.2.1]; exact HH.out.2.2.2.2.1.2 rfl), ?_⟩
            show w1.ownsMap _ _ _ _ _ ((Seen Unit l k).put (tagLit (tagAt l k)) _)
            rw [HH.out.2.2.1]
            exact H1.out.2
          case measure => simp [intOf]; omega
        · obtain rfl : c0 = 1 := by omega
          have hfl : tagsB l = false := tagsB_false fun h => h0 (HH.out.2.2.2.2.1.1 (by
            have := (h.1 k hlt).2
            rw [HH.out.2.2.1] at this
            exact this))
          have HF := Lib.hid hfl
          clear h0 hfl
          go_wp2_with fail
          go_ret
          exact ⟨by rw [HF.out]; rfl, H1.out.1⟩
      · have hq : ((tg.size : Int) != 4) = true := by simp; omega
        have hfl : tagsB l = false := tagsB_false fun h => h4 (by
            have := (h.1 k hlt).1
            rw [HH.out.2.2.1] at this
            exact this)
        have HF := Lib.hid hfl
        clear h4 hfl
        go_wp2_with fail
        go_ret
        exact ⟨by rw [HF.out]; rfl, H1.out.1⟩
    · obtain rfl : k = l.length := by omega
      have hdec : tagsB l = decide ((l.length : Int) ≤ 16) := by
        by_cases h16 : l.length ≤ 16
        · rw [tagsB_true ⟨htt, h16⟩]; simp; omega
        · rw [tagsB_false (fun h => h16 h.2)]; simp; omega
      have HD := Lib.hid hdec
      have HB := Lib.hid hb
      clear hdec htt hown hl hb
      go_wp2_with fail
      go_ret
      exact ⟨by rw [HD.out]; rfl, HB.out⟩
end Go.Proofs.Ytccdipcneabooaa
