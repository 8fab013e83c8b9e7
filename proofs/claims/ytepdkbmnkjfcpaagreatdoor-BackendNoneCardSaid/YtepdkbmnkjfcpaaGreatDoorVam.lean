/- Trees of any kind: At: the walk. Trees of any kind: Check, List of no node; gone of nothing: the walks. Empty trees; maps: the walks. A map that is not there, or that nobody made: the walks. Without a store; keys found in trees; texts that are too long for a map: the walks. -/
import Derived.Test.YtepdkbmnkjfcpaaGreatDoorVal
import Derived.OwnWalk
set_option maxRecDepth 100000
set_option maxHeartbeats 800000
namespace Go.Proofs.YtepdkbmnkjfcpaaGreatDoor
open Go.RowKit Go.BigFrame Go.Maps Go.WideMaps Lf
theorem two_class (A B : World → Prop) : ∃ I : World → Prop, (∀ w', I w' → A w' ∧ B w') ∧ (∀ w', A w' → B w' → I w') := ⟨fun w' => A w' ∧ B w', fun _ h => h, fun _ a b => ⟨a, b⟩⟩
def Lf.treeAtM (S : St) (root k : Nat) : Option (List UInt8 × List UInt8) :=
  match walkAtM S root k with
  | none => none
  | some (h, e) => if e ≠ 0 ∨ 18446744073709551616 ≤ h then none else
    match textM S (getNode S h).1.key, textM S (getNode S h).1.val with
    | some a, some b => some (a, b)
    | _, _ => none
def prV (p : List UInt8 × List UInt8) : Value := .agg #[SV p.1, SV p.2]
end Go.Proofs.YtepdkbmnkjfcpaaGreatDoor
namespace Go.Proofs.YtepdkbmnkjfcpaaGreatDoor
open Go.RowKit Go.BigFrame Go.Maps Go.WideMaps Lf
theorem tree_gone0 (px k v : Nat) (w : World) :
    Calls Tryz.prog 72 #[PV px, itV k v, .bool false] w fun e w' => e = .returned (.string ⟨#[]⟩) ∧ Below w.heap.size w w' := by
  simp only [itV]
  go_enter Tryz.func72, Tryz.ntmps72
  go_wp2_with fail
  go_ret
  exact ⟨rfl, (Below.refl _ w).alloc (Nat.le_refl _) _⟩
def Lf.itemsM (S : St) (a b : List UInt8) : Option ((Nat × Nat) × St) :=
  if (putBlob S a).1.2 ≠ 0 ∨ (putBlob (putBlob S a).2 b).1.2 ≠ 0 then none
  else some (((putBlob S a).1.1, (putBlob (putBlob S a).2 b).1.1), (putBlob (putBlob S a).2 b).2)
def ItemsOk (S : St) (a b : List UInt8) : Prop := a.length ≤ 1000 ∧ b.length ≤ 1000 ∧ MkOk S (many a.length) ∧ MkOk (putBlob S a).2 (many b.length)
theorem putBlob_inv {S : St} {a : List UInt8} (hm : MkOk S (many a.length)) (hi : Inv S) : Inv (putBlob S a).2 := by
  have h2 := hm.2
  unfold putBlob
  split
  · exact hi
  · split
    · rename_i e
      rw [e] at h2
      exact (putWords_inv _ _ _ 0 h2).1
    · rename_i e
      rw [e] at h2
      exact h2
theorem putBlob_lt {S : St} (hw : TabWF S.t) (a : List UInt8) : (putBlob S a).1.1 < 18446744073709551616 := by
  have := make_lt hw (many a.length)
  unfold putBlob
  split
  · simp
  · split
    · rename_i e
      rw [e] at this
      exact this
    · simp
theorem itemsM_some {S S' : St} {a b : List UInt8} {p : Nat × Nat} (h : itemsM S a b = some (p, S')) : (putBlob S a).1 = (p.1, 0) ∧ (putBlob (putBlob S a).2 b).1 = (p.2, 0) ∧ S' = (putBlob (putBlob S a).2 b).2 := by
  unfold itemsM at h
  split at h
  · cases h
  · rename_i hc
    simp only [not_or, Decidable.not_not] at hc
    have h := Option.some.inj h
    injection h with e1 e2
    subst e1 e2
    exact ⟨Prod.ext rfl hc.1, Prod.ext rfl hc.2, rfl⟩
structure ItAt (w W : World) (px ps kind root : Nat) (a b : List UInt8) (S : St) (Y : Nat → Prop) (q0 q1 : Value) : Prop where
  t : TreeOn W px ps kind root
  y : W.heap[w.heap.size]? = some (.cells #[SV a, SV b] 38)
  q : W.heap[w.heap.size + 1]? = some (.cells #[q0, q1] 105)
  st : StOn W ps S (fun k => Y k ∨ (w.heap.size ≤ k ∧ k < w.heap.size + 2))
  k : Keep Y w W
theorem ItAt.drew {w W : World} {px ps kind root : Nat} {a b : List UInt8} {S : St} {Y : Nat → Prop} {q0 q1 : Value} (h : ItAt w W px ps kind root a b S Y q0 q1) : ItAt w W.drew px ps kind root a b S Y q0 q1 :=
  ⟨h.t, h.y, h.q, h.st.below (Below.refl _ _).drew, h.k.trans (Keep.drewN Y W 1)⟩
theorem ItAt.call {w W W' : World} {px ps kind root : Nat} {a b : List UInt8} {S S' : St} {Y : Nat → Prop} {q0 q1 : Value} (h : ItAt w W px ps kind root a b S Y q0 q1) (hpx : Y px) (hs : StOn W' ps S' (fun k => Y k ∨ (w.heap.size ≤ k ∧ k < w.heap.size + 2))) (hk : Keep (fun k => Y k ∨ (w.heap.size ≤ k ∧ k < w.heap.size + 2)) W W') : ItAt w W' px ps kind root a b S' Y q0 q1 :=
  ⟨h.t.keep hk (Or.inl hpx), (hk.block _ (Or.inr ⟨by omega, by omega⟩)).trans h.y, (hk.block _ (Or.inr ⟨by omega, by omega⟩)).trans h.q, hs, h.k.trans (hk.mono fun _ hk => Or.inl hk)⟩
theorem ItAt.write {w W W' : World} {px ps kind root : Nat} {a b : List UInt8} {S : St} {Y : Nat → Prop} {q0 q1 r0 r1 : Value} (h : ItAt w W px ps kind root a b S Y q0 q1) (hpx : Y px) (hY : ∀ k, Y k → k < w.heap.size) (hz : W'.heap.size = W.heap.size) (ho : W'.os = W.os ∧ W'.tape = W.tape ∧ W'.output = W.output) (hw : ∀ k, k ≠ w.heap.size + 1 → W'.heap[k]? = W.heap[k]?) (hq : W'.heap[w.heap.size + 1]? = some (.cells #[r0, r1] 105)) : ItAt w W' px ps kind root a b S Y r0 r1 := by
  have h1 := hY px hpx
  refine ⟨(hw px (by omega)).trans h.t, (hw _ (by omega)).trans h.y, hq, h.st.write (Or.inr ⟨by omega, by omega⟩) h.q ⟨by decide, by decide⟩ (by simp) (by omega) fun k _ hk => hw k hk, ?_⟩
  refine h.k.trans ⟨ho.1, ho.2.1, ho.2.2, by omega, fun k hk => hw k ?_⟩
  have := hY k hk
  omega
end Go.Proofs.YtepdkbmnkjfcpaaGreatDoor
namespace Go.Proofs.YtepdkbmnkjfcpaaGreatDoor
open Go.RowKit Go.BigFrame Go.Maps Go.WideMaps Lf
def MapOn (w : World) (pm px ps limit : Nat) : Prop := w.heap[pm]? = some (.cells #[PV ps, PV px, .int .i64 limit] 66)
theorem MapOn.below {w w' : World} {pm px ps limit : Nat} (h : MapOn w pm px ps limit) (hb : Below w.heap.size w w') : MapOn w' pm px ps limit := (hb.block pm (Array.getElem?_eq_some_iff.1 h).1).trans h
end Go.Proofs.YtepdkbmnkjfcpaaGreatDoor
namespace Go.Proofs.YtepdkbmnkjfcpaaGreatDoor
open Go.RowKit Go.BigFrame Go.Maps Go.WideMaps Lf
def NoM (w : World) (v : Value) : Prop := v = .pointer none ∨ ∃ pm, v = PV pm ∧ w.heap[pm]? = some (.cells #[.pointer none, .pointer none, .int .i64 0] 66)
theorem NoM.below {w w' : World} {v : Value} (h : NoM w v) (hb : Below w.heap.size w w') : NoM w' v := h.imp id fun ⟨pm, e, hp⟩ => ⟨pm, e, (hb.block pm (Array.getElem?_eq_some_iff.1 hp).1).trans hp⟩
end Go.Proofs.YtepdkbmnkjfcpaaGreatDoor
namespace Go.Proofs.YtepdkbmnkjfcpaaGreatDoor
open Go.RowKit Go.BigFrame Go.Maps Go.WideMaps Lf
theorem nil_none (w : World) :
    Calls Tryz.prog 124 #[.pointer none] w fun e w' => e = .returned (.bool true) ∧ w = w' := by
  go_enter Tryz.func124, Tryz.ntmps124
  go_wp2_with fail
  go_ret
  exact ⟨rfl, rfl⟩
theorem nil_at (h : Nat) (w : World) :
    Calls Tryz.prog 117 #[.pointer none, .int .u64 h] w fun e w' => e = .returned (.tuple #[.int .i64 0, .int .i64 0, .int .i64 1]) ∧ w = w' := by
  have HG := Lib.hid (nil_none w)
  go_enter Tryz.func117, Tryz.ntmps117
  go_wp2_with fail
  refine (HG.out).mono ?_
  rintro e w1 ⟨rfl, rfl⟩
  go_wp2_with fail
  go_ret3
  exact ⟨rfl, rfl⟩
theorem nil_len (h : Nat) (w : World) :
    Calls Tryz.prog 85 #[.pointer none, .int .u64 h] w fun e w' => e = .returned (.tuple #[.int .i64 0, .int .i64 1]) ∧ w = w' := by
  have HG := Lib.hid (nil_at h w)
  go_enter Tryz.func85, Tryz.ntmps85
  go_wp2_with fail
  refine (HG.out).mono ?_
  rintro e w1 ⟨rfl, rfl⟩
  go_wp2_with fail
  go_ret2
  exact ⟨rfl, rfl⟩
theorem nil_bulk_asked (kind t : Int) (w : World) :
    Calls Tryz.prog 106 #[.pointer none, .int .i64 kind, .int .i64 t] w fun e w' => e = .returned (.int .i64 1) ∧ w = w' := by
  have HG := Lib.hid (nil_len 0 w)
  go_enter Tryz.func106, Tryz.ntmps106
  go_wp2_with fail
  refine (HG.out).mono ?_
  rintro e w1 ⟨rfl, rfl⟩
  go_wp2_with fail
  go_ret
  exact ⟨rfl, rfl⟩
theorem nil_bulk_check (kind t : Int) (root : Nat) (w : World) :
    Calls Tryz.prog 76 #[.pointer none, .int .i64 kind, .int .i64 t, .int .u64 root] w fun e w' => e = .returned (.int .i64 1) ∧ w = w' := by
  have HG := Lib.hid (nil_bulk_asked kind t w)
  go_enter Tryz.func76, Tryz.ntmps76
  go_wp2_with fail
  refine (HG.out).mono ?_
  rintro e w1 ⟨rfl, rfl⟩
  go_wp2_with fail
  go_ret
  exact ⟨rfl, rfl⟩
theorem nil_open (kind t : Int) (root : Nat) (w : World) :
    Calls Tryz.prog 28 #[.pointer none, .int .i64 kind, .int .i64 t, .int .u64 root] w fun e w' => e = .returned (.tuple #[.pointer none, .int .i64 1]) ∧ w = w' := by
  have HG := Lib.hid (nil_bulk_check kind t root w)
  go_enter Tryz.func28, Tryz.ntmps28
  go_wp2_with fail
  refine (HG.out).mono ?_
  rintro e w1 ⟨rfl, rfl⟩
  go_wp2_with fail
  go_ret2
  exact ⟨rfl, rfl⟩
theorem nil_new (kind t : Int) (w : World) :
    Calls Tryz.prog 27 #[.pointer none, .int .i64 kind, .int .i64 t] w fun e w' => e = .returned (.tuple #[.pointer none, .int .i64 1]) ∧ w = w' := by
  have HG := Lib.hid (nil_open kind t 0 w)
  go_enter Tryz.func27, Tryz.ntmps27
  go_wp2_with fail
  refine (HG.out).mono ?_
  rintro e w1 ⟨rfl, rfl⟩
  go_wp2_with fail
  go_ret2
  exact ⟨rfl, rfl⟩
theorem tree_none_nil (w : World) :
    Calls Tryz.prog 70 #[.pointer none] w fun e w' => e = .returned (.bool true) ∧ w = w' := by
  go_enter Tryz.func70, Tryz.ntmps70
  go_wp2_with fail
  go_ret
  exact ⟨rfl, rfl⟩
end Go.Proofs.YtepdkbmnkjfcpaaGreatDoor
