/- The document's Tags and Same; long. -/
import Derived.Test.YtccdipcneabooaaSs
namespace Go.Proofs.Ytccdipcneabooaa
open Go.RowKit Go.BigFrame Go.Maps Go.WideMaps

set_option maxHeartbeats 800000 in
theorem reftags_any (A : Option Addr) (c : Nat) (l : List Sect) (w : World) (hl : SecsAt w w.heap.size A l) (hn : l.length ≤ 4611686018427387904) :
    Calls Try.prog 39 #[.slice A l.length c] w fun e w' => e = .returned (.bool (tagsB l)) ∧ ∃ n, w' = w.drewN n := by
  by_cases h16 : l.length ≤ 16
  · go_enter Try.func39, Try.ntmps39
    go_wp2_with fail
    go_loopw [3] (fun i wr => ∃ k : Nat, k ≤ l.length ∧ i = .int .i64 k ∧ TagsTo l k ∧ ∃ n, wr = w.drewN n) (fun i _ => l.length - (intOf i).toNat)
    case atStart => exact ⟨0, by omega, rfl, TagsTo.zero l, 0, rfl⟩
    case round =>
      obtain ⟨k, hk, rfl, htt, n, rfl⟩ := hrel
      by_cases hlt : k < l.length
      · obtain ⟨b, o, rfl, hab, hc1, _⟩ := hl k hlt
        have hta := tagAt_eq l k hlt
        obtain ⟨tg, htg⟩ : ∃ tg, tg = l[k].1 := ⟨_, rfl⟩
        rw [← htg] at hta hc1
        by_cases h4 : tg.size = 4
        · have hq : ((tg.size : Int) != 4) = false := by simp [h4]
          have HH := Lib.hid (And.intro htt (And.intro hta (And.intro hl h4)))
          clear htt hta hl h4 htg
          go_wp2_with fail
          go_loopw [4] (fun i wr => ∃ j : Nat, j ≤ k ∧ i = .int .i64 j ∧ (∀ m, m < j → tagAt l m ≠ tg) ∧ ∃ n, wr = w.drewN n) (fun i _ => k - (intOf i).toNat)
          case atStart => exact ⟨0, by omega, rfl, fun m hm => absurd hm (by omega), n, rfl⟩
          case round =>
            obtain ⟨j, hj, rfl, hmm, n, rfl⟩ := hrel
            by_cases hlj : j < k
            · obtain ⟨b', o', e, _, hc3, _⟩ := HH.out.2.2.1 j (by omega)
              injection e with e
              injection e with e1 e2
              subst e1 e2
              have htj := tagAt_eq l j (by omega)
              obtain ⟨tj, htjd⟩ : ∃ tj, tj = l[j].1 := ⟨_, rfl⟩
              rw [← htjd] at htj hc3
              have hjl : (j : Int) < l.length := by omega
              have hkl : (k : Int) < l.length := by omega
              have HJ := Lib.hid (And.intro hmm htj)
              clear hmm htj htjd
              by_cases he : tj = tg
              · have hq := str_eq' he
                have hfl : tagsB l = false := tagsB_false fun h => (h.1 k hlt).2 j hlj (by rw [HJ.out.2, HH.out.2.1]; exact he)
                have HF := Lib.hid hfl
                clear he hfl
                go_wp2_with fail
                go_quiet (fail)
                go_wp2_with fail
                go_ret
                exact ⟨by rw [HF.out]; rfl, _, World.drewN_drewN _ _ _⟩
              · have hq := str_ne' he
                have HE := Lib.hid he
                clear he
                go_wp2_with fail
                go_quiet (fail)
                go_wp2_with fail
                go_roundw
                case rel =>
                  refine ⟨j + 1, by omega, by go_num, fun m hm => ?_, _, rfl⟩
                  by_cases e : m = j
                  · rw [e, HJ.out.2]; exact HE.out
                  · exact HJ.out.1 m (by omega)
                case measure => simp [intOf]; omega
            · obtain rfl : j = k := by omega
              have HM := Lib.hid hmm
              clear hmm
              go_wp2_with fail
              go_roundw
              case rel => exact ⟨j + 1, by omega, by go_num, HH.out.1.succ (by rw [HH.out.2.1]; exact HH.out.2.2.2) (by rw [HH.out.2.1]; exact HM.out), _, rfl⟩
              case measure => simp [intOf]; omega
        · have hq : ((tg.size : Int) != 4) = true := by simp; omega
          have hfl : tagsB l = false := tagsB_false fun h => h4 (by rw [← hta]; exact (h.1 k hlt).1)
          have HF := Lib.hid hfl
          clear h4 hfl htt hta hl htg
          go_wp2_with fail
          go_ret
          exact ⟨by rw [HF.out]; rfl, _, rfl⟩
      · obtain rfl : k = l.length := by omega
        have HF := Lib.hid (tagsB_true (l := l) ⟨htt, h16⟩)
        clear htt hl
        go_wp2_with fail
        go_ret
        exact ⟨by rw [HF.out]; rfl, _, rfl⟩
  · have HF := Lib.hid (tagsB_false (l := l) fun h => h16 h.2)
    go_enter Try.func39, Try.ntmps39
    go_wp2_with fail
    go_ret
    exact ⟨by rw [HF.out]; rfl, 0, rfl⟩

/-- the bytes of the first k sections -/
def lenTo (l : List Sect) : Nat → Nat
  | 0 => 0
  | k + 1 => lenTo l k + (l.getD k (ByteArray.empty, ByteArray.empty)).2.size + (l.getD k (ByteArray.empty, ByteArray.empty)).1.size
theorem lenTo_succ (l : List Sect) (k : Nat) (h : k < l.length) : lenTo l (k + 1) = lenTo l k + l[k].2.size + l[k].1.size := by
  show lenTo l k + _ + _ = _
  rw [List.getD, List.getElem?_eq_getElem h]
  rfl

theorem lenTo_bound (l : List Sect) (hs : ∀ x ∈ l, x.1.size ≤ 140737488351232 ∧ x.2.size ≤ 140737488351232) (k : Nat) (hk : k ≤ l.length) : lenTo l k ≤ k * 281474976702464 := by
  induction k with
  | zero => exact Nat.le_refl _
  | succ k ih =>
    have h := hs l[k] (List.getElem_mem (by omega))
    have := ih (by omega)
    rw [lenTo_succ l k (by omega), Nat.add_mul]
    omega
theorem lenTo_mono (l : List Sect) {j k : Nat} (h : j ≤ k) : lenTo l j ≤ lenTo l k := by
  induction k with
  | zero => rw [show j = 0 by omega]; exact Nat.le_refl _
  | succ k ih =>
    by_cases e : j = k + 1
    · rw [e]; exact Nat.le_refl _
    · exact Nat.le_trans (ih (by omega)) (by show lenTo l k ≤ lenTo l k + _ + _; omega)
theorem lenTo_each (l : List Sect) (n : Nat) (h : lenTo l l.length ≤ n) : ∀ x ∈ l, x.1.size ≤ n ∧ x.2.size ≤ n := by
  intro x hx
  obtain ⟨k, hk, rfl⟩ := List.getElem_of_mem hx
  have h1 := lenTo_succ l k hk
  have h2 := lenTo_mono l (show k + 1 ≤ l.length by omega)
  omega
/-- is it too much? -/
def longB (l : List Sect) : Bool := decide (40 < l.length) || decide (5000 < lenTo l l.length)
theorem longB_false {l : List Sect} (h : longB l = false) : l.length ≤ 40 ∧ lenTo l l.length ≤ 5000 := by
  simp [longB] at h
  exact ⟨by omega, by omega⟩

set_option maxHeartbeats 400000 in
theorem long_any (A : Option Addr) (c : Nat) (l : List Sect) (w : World) (hl : SecsAt w w.heap.size A l) (hn : l.length ≤ 4611686018427387904) (hs : ∀ x ∈ l, x.1.size ≤ 140737488351232 ∧ x.2.size ≤ 140737488351232) :
    Calls Try.prog 30 #[.slice A l.length c] w fun e w' => e = .returned (.bool (longB l)) ∧ ∃ n, w' = w.drewN n := by
  by_cases h40 : l.length ≤ 40
  · go_enter Try.func30, Try.ntmps30
    go_wp2_with fail
    go_loopw [3, 4] (fun x i wr => ∃ k : Nat, k ≤ l.length ∧ i = .int .i64 k ∧ x = .int .i64 (lenTo l k) ∧ ∃ n, wr = w.drewN n) (fun _ i _ => l.length - (intOf i).toNat)
    case atStart => exact ⟨0, by omega, rfl, rfl, 0, rfl⟩
    case round =>
      obtain ⟨k, hk, rfl, rfl, n, rfl⟩ := hrel
      have hbd := lenTo_bound l hs k hk
      by_cases hlt : k < l.length
      · obtain ⟨b, o, rfl, hab, hc1, hc2⟩ := hl k hlt
        have hkl : (k : Int) < l.length := by omega
        have hsx := hs l[k] (List.getElem_mem hlt)
        have hstep := lenTo_succ l k hlt
        generalize lenTo l k = z at *
        generalize l[k].1 = t1 at *
        generalize l[k].2 = t2 at *
        have hz : z ≤ 20000000000000000 := by omega
        have hs1 : IntKind.i64.wrap ((z : Int) + t2.size) = (z : Int) + t2.size := IntWalk.i64_in _ (by omega)
        have hs2 : IntKind.i64.wrap ((z : Int) + t2.size + t1.size) = (z : Int) + t2.size + t1.size := IntWalk.i64_in _ (by omega)
        have HS := Lib.hid (And.intro hstep (And.intro hl hs))
        clear hstep hl hs hbd hsx
        go_wp2_with fail
        go_quiet (fail)
        clear hs1 hs2
        go_wp2_with fail
        go_roundw
        case rel => exact ⟨k + 1, by omega, by go_num, by rw [HS.out.1]; go_num, _, rfl⟩
        case measure => simp [intOf]; omega
      · obtain rfl : k = l.length := by omega
        have hlb : longB l = decide (5000 < (lenTo l l.length : Int)) := by
          unfold longB
          rw [decide_eq_false (show ¬ 40 < l.length by omega), Bool.false_or]
          exact decide_eq_decide.2 (by omega)
        have HL := Lib.hid hlb
        clear hlb hl
        generalize lenTo l l.length = z at *
        go_wp2_with fail
        all_goals
          go_ret
          exact ⟨by rw [HL.out]; simp; omega, _, rfl⟩
  · have hd : (40 : Int) < l.length := by omega
    have hlb : longB l = true := by simp [longB]; omega
    have HL := Lib.hid hlb
    clear hlb
    go_enter Try.func30, Try.ntmps30
    go_wp2_with fail
    go_loopw [3, 4] (fun x i wr => ∃ k : Nat, k ≤ l.length ∧ i = .int .i64 k ∧ (∃ z : Int, x = .int .i64 z) ∧ ∃ n, wr = w.drewN n) (fun _ i _ => l.length - (intOf i).toNat)
    case atStart => exact ⟨0, by omega, rfl, ⟨0, rfl⟩, 0, rfl⟩
    case round =>
      obtain ⟨k, hk, rfl, ⟨z, rfl⟩, n, rfl⟩ := hrel
      by_cases hlt : k < l.length
      · obtain ⟨b, o, rfl, hab, hc1, hc2⟩ := hl k hlt
        have hkl : (k : Int) < l.length := by omega
        generalize l[k].1 = t1 at *
        generalize l[k].2 = t2 at *
        have HS := Lib.hid (And.intro hl hs)
        clear hl hs
        go_wp2_with fail
        go_quiet (fail)
        go_wp2_with fail
        go_roundw
        case rel => exact ⟨k + 1, by omega, by go_num, ⟨_, rfl⟩, _, rfl⟩
        case measure => simp [intOf]; omega
      · obtain rfl : k = l.length := by omega
        go_wp2_with fail
        go_ret
        exact ⟨by rw [HL.out]; rfl, _, rfl⟩

set_option maxHeartbeats 400000 in
theorem same_any (A B : Option Addr) (c d : Nat) (l m : List Sect) (w : World) (hl : SecsAt w w.heap.size A l) (hm : SecsAt w w.heap.size B m) (hn : l.length ≤ 4611686018427387904) (_ : m.length ≤ 4611686018427387904) :
    Calls Try.prog 25 #[.slice A l.length c, .slice B m.length d] w fun e w' => e = .returned (.bool (decide (l = m))) ∧ ∃ n, w' = w.drewN n := by
  by_cases hlm : l.length = m.length
  · have hq : ((l.length : Int) != m.length) = false := by simp [hlm]
    have HLM := Lib.hid hlm
    clear hlm
    go_enter Try.func25, Try.ntmps25
    go_wp2_with fail
    go_loopw [5] (fun i wr => ∃ k : Nat, k ≤ l.length ∧ i = .int .i64 k ∧ (∀ j, j < k → l[j]? = m[j]?) ∧ ∃ n, wr = w.drewN n) (fun i _ => l.length - (intOf i).toNat)
    case atStart => exact ⟨0, by omega, rfl, fun j hj => absurd hj (by omega), 0, rfl⟩
    case round =>
      obtain ⟨k, hk, rfl, hall, n, rfl⟩ := hrel
      by_cases hlt : k < l.length
      · have hlt2 : k < m.length := by rw [← HLM.out]; exact hlt
        obtain ⟨b, o, rfl, hab, hc1, hc2⟩ := hl k hlt
        obtain ⟨b2, o2, rfl, hab2, hc3, hc4⟩ := hm k hlt2
        have hkl : (k : Int) < l.length := by omega
        have hkm : (k : Int) < m.length := by omega
        have hxl : l[k]? = some l[k] := List.getElem?_eq_getElem hlt
        have hxm : m[k]? = some m[k] := List.getElem?_eq_getElem hlt2
        generalize l[k] = x at *
        generalize m[k] = y at *
        obtain ⟨x1, x2⟩ := x
        obtain ⟨y1, y2⟩ := y
        have HA := Lib.hid (And.intro hall (And.intro hl (And.intro hm (And.intro hxl hxm))))
        clear hall hl hm hxl hxm
        have hbad : (x1, x2) ≠ (y1, y2) → decide (l = m) = false := fun h => decide_eq_false fun e => h (by
          have h1 := HA.out.2.2.2.1
          have h2 := HA.out.2.2.2.2
          rw [e, h2] at h1
          injection h1 with h1
          exact h1.symm)
        have HBAD := Lib.hid hbad
        clear hbad
        by_cases he1 : x1 = y1
        · by_cases he2 : x2 = y2
          · have hq1 := str_eq' he1
            have hq2 := str_eq' he2
            have HE := Lib.hid (And.intro he1 he2)
            clear he1 he2
            go_wp2_with fail
            go_quiet (fail)
            go_wp2_with fail
            go_roundw
            case rel =>
              refine ⟨k + 1, by omega, by go_num, fun j hj => ?_, _, rfl⟩
              by_cases e : j = k
              · rw [e, HA.out.2.2.2.1, HA.out.2.2.2.2, HE.out.1, HE.out.2]
              · exact HA.out.1 j (by omega)
            case measure => simp [intOf]; omega
          · have hq1 := str_eq' he1
            have hq2 := str_ne' he2
            have HF := Lib.hid (HBAD.out (fun e => he2 (by injection e)))
            clear he1 he2
            go_wp2_with fail
            go_quiet (fail)
            go_wp2_with fail
            go_ret
            exact ⟨by rw [HF.out]; rfl, _, World.drewN_drewN _ _ _⟩
        · have hq1 := str_ne' he1
          have HF := Lib.hid (HBAD.out (fun e => he1 (by injection e)))
          clear he1
          go_wp2_with fail
          go_quiet (fail)
          go_wp2_with fail
          go_ret
          exact ⟨by rw [HF.out]; rfl, _, World.drewN_drewN _ _ _⟩
      · obtain rfl : k = l.length := by omega
        have HF := Lib.hid (show decide (l = m) = true from decide_eq_true (List.ext_getElem? fun j => by
          by_cases h : j < l.length
          · exact hall j h
          · rw [List.getElem?_eq_none (by omega), List.getElem?_eq_none (by have := HLM.out; omega)]))
        clear hall hl hm
        go_wp2_with fail
        go_ret
        exact ⟨by rw [HF.out]; rfl, _, rfl⟩
  · have hq : ((l.length : Int) != m.length) = true := by simp; omega
    have HF := Lib.hid (show decide (l = m) = false from decide_eq_false fun e => hlm (by rw [e]))
    clear hlm
    go_enter Try.func25, Try.ntmps25
    go_wp2_with fail
    go_ret
    exact ⟨by rw [HF.out]; rfl, 0, rfl⟩
end Go.Proofs.Ytccdipcneabooaa
