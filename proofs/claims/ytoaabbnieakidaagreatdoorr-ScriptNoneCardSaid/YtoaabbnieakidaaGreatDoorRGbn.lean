/- Maps: Store, Limit, Get, Delete, Select at no place; compact.New: the walks. Cursors: asked, put: the walks. Maps: where the making of a map stands: plain. -/
import Derived.Test.YtoaabbnieakidaaGreatDoorRGbh
import Derived.Test.YtoaabbnieakidaaGreatDoorRGbm
import Derived.Test.YtoaabbnieakidaaGreatDoorRGbc
namespace Go.Proofs.YtoaabbnieakidaaGreatDoorR
open Go.RowKit Go.BigFrame Go.Maps Go.WideMaps Lf

set_option maxRecDepth 100000 in
set_option maxHeartbeats 400000 in
theorem map_store {w : World} {pm px ps limit : Nat} (hM : MapOn w pm px ps limit) :
    Calls Tryz.prog 73 #[PV pm] w fun e w' => e = .returned (PV ps) ∧ w = w' := by
  have HG := Lib.hid (map_none hM)
  unfold MapOn at hM
  have c0 : (w).cell? ⟨pm, 0, none⟩ = some (PV ps) := by rw [cell_of_block hM]; rfl
  have c1 : (w).cell? ⟨pm, 1, none⟩ = some (PV px) := by rw [cell_of_block hM]; rfl
  have c2 : (w).cell? ⟨pm, 2, none⟩ = some (.int .i64 limit) := by rw [cell_of_block hM]; rfl
  clear hM
  go_enter Tryz.func73, Tryz.ntmps73
  go_wp2_with fail
  refine HG.out.mono ?_
  rintro e w1 ⟨rfl, rfl⟩
  go_wp2_with fail
  go_ret
  exact ⟨rfl, rfl⟩
set_option maxRecDepth 100000 in
set_option maxHeartbeats 400000 in
theorem map_limit {w : World} {pm px ps limit : Nat} (hM : MapOn w pm px ps limit) :
    Calls Tryz.prog 95 #[PV pm] w fun e w' => e = .returned (.int .i64 limit) ∧ w = w' := by
  have HG := Lib.hid (map_none hM)
  unfold MapOn at hM
  have c0 : (w).cell? ⟨pm, 0, none⟩ = some (PV ps) := by rw [cell_of_block hM]; rfl
  have c1 : (w).cell? ⟨pm, 1, none⟩ = some (PV px) := by rw [cell_of_block hM]; rfl
  have c2 : (w).cell? ⟨pm, 2, none⟩ = some (.int .i64 limit) := by rw [cell_of_block hM]; rfl
  clear hM
  go_enter Tryz.func95, Tryz.ntmps95
  go_wp2_with fail
  refine HG.out.mono ?_
  rintro e w1 ⟨rfl, rfl⟩
  go_wp2_with fail
  go_ret
  exact ⟨rfl, rfl⟩
set_option maxRecDepth 100000 in
set_option maxHeartbeats 800000 in
theorem map_get_none {w : World} {pm px ps limit : Nat} (hM : MapOn w pm px ps limit) (a : List UInt8)
    (hg : Calls Tryz.prog 52 #[PV px, SV a] w fun e w' => e = .returned (.tuple #[.string ⟨#[]⟩, .bool false]) ∧ Below w.heap.size w w') :
    Calls Tryz.prog 25 #[PV pm, SV a] w fun e w' => e = .returned (.tuple #[.string ⟨#[]⟩, .int .i64 5]) ∧ Below w.heap.size w w' := by
  have HG := Lib.hid (And.intro (map_none hM) hg)
  unfold MapOn at hM
  have c0 : (w).cell? ⟨pm, 0, none⟩ = some (PV ps) := by rw [cell_of_block hM]; rfl
  have c1 : (w).cell? ⟨pm, 1, none⟩ = some (PV px) := by rw [cell_of_block hM]; rfl
  have c2 : (w).cell? ⟨pm, 2, none⟩ = some (.int .i64 limit) := by rw [cell_of_block hM]; rfl
  clear hM hg
  go_enter Tryz.func25, Tryz.ntmps25
  go_wp2_with fail
  refine HG.out.1.mono ?_
  rintro e w1 ⟨rfl, rfl⟩
  go_wp2_with fail
  refine HG.out.2.mono ?_
  rintro e w2 ⟨rfl, hb⟩
  have HB := Lib.hid hb
  clear hb
  go_wp2_with fail
  go_ret2
  exact ⟨rfl, HB.out⟩
set_option maxRecDepth 100000 in
set_option maxHeartbeats 800000 in
theorem map_get_some {w : World} {pm px ps limit : Nat} (hM : MapOn w pm px ps limit) (a t : List UInt8)
    (hg : Calls Tryz.prog 52 #[PV px, SV a] w fun e w' => e = .returned (.tuple #[SV t, .bool true]) ∧ Below w.heap.size w w') :
    Calls Tryz.prog 25 #[PV pm, SV a] w fun e w' => e = .returned (.tuple #[SV t, .int .i64 0]) ∧ Below w.heap.size w w' := by
  have HG := Lib.hid (And.intro (map_none hM) hg)
  unfold MapOn at hM
  have c0 : (w).cell? ⟨pm, 0, none⟩ = some (PV ps) := by rw [cell_of_block hM]; rfl
  have c1 : (w).cell? ⟨pm, 1, none⟩ = some (PV px) := by rw [cell_of_block hM]; rfl
  have c2 : (w).cell? ⟨pm, 2, none⟩ = some (.int .i64 limit) := by rw [cell_of_block hM]; rfl
  clear hM hg
  go_enter Tryz.func25, Tryz.ntmps25
  go_wp2_with fail
  refine HG.out.1.mono ?_
  rintro e w1 ⟨rfl, rfl⟩
  go_wp2_with fail
  refine HG.out.2.mono ?_
  rintro e w2 ⟨rfl, hb⟩
  have HB := Lib.hid hb
  clear hb
  go_wp2_with fail
  go_ret2
  exact ⟨rfl, HB.out⟩
set_option maxRecDepth 100000 in
set_option maxHeartbeats 800000 in
theorem map_delete {w : World} {pm px ps limit : Nat} (hM : MapOn w pm px ps limit) (a t : List UInt8) {Q : World → Prop}
    (hg : Calls Tryz.prog 56 #[PV px, SV a] w fun e w' => e = .returned (.tuple #[SV t, .bool true, .int .i64 0]) ∧ Q w') :
    Calls Tryz.prog 23 #[PV pm, SV a] w fun e w' => e = .returned (.tuple #[SV t, .int .i64 0]) ∧ Q w' := by
  have HG := Lib.hid (And.intro (map_none hM) hg)
  unfold MapOn at hM
  have c0 : (w).cell? ⟨pm, 0, none⟩ = some (PV ps) := by rw [cell_of_block hM]; rfl
  have c1 : (w).cell? ⟨pm, 1, none⟩ = some (PV px) := by rw [cell_of_block hM]; rfl
  have c2 : (w).cell? ⟨pm, 2, none⟩ = some (.int .i64 limit) := by rw [cell_of_block hM]; rfl
  clear hM hg
  go_enter Tryz.func23, Tryz.ntmps23
  go_wp2_with fail
  refine HG.out.1.mono ?_
  rintro e w1 ⟨rfl, rfl⟩
  go_wp2_with fail
  refine HG.out.2.mono ?_
  rintro e w2 ⟨rfl, hb⟩
  have HB := Lib.hid hb
  clear hb
  go_wp2_with fail
  go_ret2
  exact ⟨rfl, HB.out⟩

set_option maxRecDepth 100000 in
set_option maxHeartbeats 800000 in
theorem map_select_over {w : World} {pm px ps limit kind root : Nat} {S : St} {Y : Nat → Prop} (h : StOn w ps S Y) (hi : Inv S) (hM : MapOn w pm px ps limit) (hT : TreeOn w px ps kind root) (hl : root < 18446744073709551616) (k : Nat) (hk : k < 4611686018427387904) (hp : walkAtM S root k = some (0, 2)) :
    Calls Tryz.prog 34 #[PV pm, .int .i64 k] w fun e w' => e = .returned (.tuple #[.agg #[.string ⟨#[]⟩, .string ⟨#[]⟩], .int .i64 2]) ∧ Below w.heap.size w w' := by
  have B0 := (Below.refl w.heap.size w).alloc (Nat.le_refl _) (.cells #[.string ⟨#[]⟩, .string ⟨#[]⟩] 50)
  have q0 := heap_alloc_new w (.cells #[.string ⟨#[]⟩, .string ⟨#[]⟩] 50)
  have hM0 := hM.below B0
  have hat := tree_at_ref (hT.below B0) (k : Int) (getNode S 0).1.key (getNode S 0).1.val fun W hW => bin_at ((h.below B0).below hW) hi kind root hl k hk hp (by decide)
  have HG := Lib.hid (And.intro (map_none hM0) (And.intro hat (And.intro B0 q0)))
  unfold MapOn at hM0
  have c0 : ((w.alloc (.cells #[.string ⟨#[]⟩, .string ⟨#[]⟩] 50))).cell? ⟨pm, 0, none⟩ = some (PV ps) := by rw [cell_of_block hM0]; rfl
  have c1 : ((w.alloc (.cells #[.string ⟨#[]⟩, .string ⟨#[]⟩] 50))).cell? ⟨pm, 1, none⟩ = some (PV px) := by rw [cell_of_block hM0]; rfl
  have c2 : ((w.alloc (.cells #[.string ⟨#[]⟩, .string ⟨#[]⟩] 50))).cell? ⟨pm, 2, none⟩ = some (.int .i64 limit) := by rw [cell_of_block hM0]; rfl
  clear hM hM0 h hi hT hp hat B0 q0
  go_enter Tryz.func34, Tryz.ntmps34
  go_wp2_with fail
  refine HG.out.1.mono ?_
  rintro e w1 ⟨rfl, rfl⟩
  go_wp2_with fail
  refine HG.out.2.1.mono ?_
  rintro e w2 ⟨rfl, hb⟩
  have q2 := (hb.block w.heap.size (by simp)).trans HG.out.2.2.2
  have d0 : (w2).cell? ⟨w.heap.size, 0, none⟩ = some (.string ⟨#[]⟩) := by rw [cell_of_block q2]; rfl
  have d1 : (w2).cell? ⟨w.heap.size, 1, none⟩ = some (.string ⟨#[]⟩) := by rw [cell_of_block q2]; rfl
  have f0 : (w2).frozen? ⟨w.heap.size, 0, none⟩ = false := frozen_of_block q2
  have f1 : (w2).frozen? ⟨w.heap.size, 1, none⟩ = false := frozen_of_block q2
  have q3 := st2_heap q2 (.string ⟨#[]⟩) (.string ⟨#[]⟩)
  have B3 := st2_below (HG.out.2.2.1.trans (hb.mono HG.out.2.2.1.size)) (Nat.le_refl _) (.string ⟨#[]⟩) (.string ⟨#[]⟩)
  have HB := Lib.hid (And.intro q3 B3)
  clear hb q2 q3 B3
  go_wp2_with fail
  obtain ⟨q3, B3⟩ := HB.out
  generalize ((w2.setCell ⟨w.heap.size, 0, none⟩ (.string ⟨#[]⟩)).setCell ⟨w.heap.size, 1, none⟩ (.string ⟨#[]⟩)) = w3 at *
  have e0 : (w3).cell? ⟨w.heap.size, 0, none⟩ = some (.string ⟨#[]⟩) := by rw [cell_of_block q3]; rfl
  have e1 : (w3).cell? ⟨w.heap.size, 1, none⟩ = some (.string ⟨#[]⟩) := by rw [cell_of_block q3]; rfl
  exact bodyPost_ret (v := .tuple #[.agg #[.string ⟨#[]⟩, .string ⟨#[]⟩], .int .i64 2]) (by simp [results, Tryz.f34, go_sem, e0, e1]) rfl ⟨rfl, B3⟩

set_option maxRecDepth 100000 in
set_option maxHeartbeats 400000 in
theorem compact_new {w : World} {ps : Nat} {S : St} {Y : Nat → Prop} (h : StOn w ps S Y) (hi : Inv S) :
    Calls Tryz.prog 72 #[PV ps] w fun e w' => ∃ pp, e = .returned (.tuple #[PV pp, .int .i64 0]) ∧ Below w.heap.size w w' := by
  have hlen := st_len h hi 0 (by omega)
  rw [len_zero] at hlen
  have HG := Lib.hid hlen
  clear hlen h hi
  go_enter Tryz.func72, Tryz.ntmps72
  go_wp2_with fail
  refine HG.out.mono ?_
  rintro e w1 ⟨rfl, rfl⟩
  go_wp2_with fail
  go_ret2
  exact ⟨w.heap.size, rfl, (Below.refl _ w).alloc (Nat.le_refl _) _⟩
end Go.Proofs.YtoaabbnieakidaaGreatDoorR

namespace Go.Proofs.YtoaabbnieakidaaGreatDoorR
open Go.RowKit Go.BigFrame Go.Maps Go.WideMaps Lf

/-- a cursor in memory -/
def CurOn (w : World) (pc pm ps hh is : Nat) : Prop := w.heap[pc]? = some (.cells #[PV pm, PV ps, .int .u64 hh, .int .i64 is] 79)
theorem CurOn.below {w w' : World} {pc pm ps hh is : Nat} (h : CurOn w pc pm ps hh is) (hb : Below w.heap.size w w') : CurOn w' pc pm ps hh is := (hb.block pc (Array.getElem?_eq_some_iff.1 h).1).trans h
theorem CurOn.keep {w w' : World} {pc pm ps hh is : Nat} {Y : Nat → Prop} (h : CurOn w pc pm ps hh is) (hk : Keep Y w w') (hy : Y pc) : CurOn w' pc pm ps hh is := (hk.block pc hy).trans h
theorem cur_class (pc pm ps hh is : Nat) : ∃ I : World → Prop, (∀ w', I w' → CurOn w' pc pm ps hh is) ∧ (∀ w', CurOn w' pc pm ps hh is → I w') := ⟨fun w' => CurOn w' pc pm ps hh is, fun _ h => h, fun _ a => a⟩

/-- what putting a row of words, as far as a record has room for it, leaves -/
def Lf.curPut (S : St) (hh : Nat) (ws : List Nat) : Nat → St
  | 0 => S
  | n + 1 => ((curPut S hh ws n).put hh n (ws.getD n 0)).2
theorem curPut_inv {S : St} (hi : Inv S) (hh : Nat) (ws : List Nat) : ∀ n, Inv (curPut S hh ws n)
  | 0 => hi
  | n + 1 => (curPut_inv hi hh ws n).put hh n _

set_option maxRecDepth 100000 in
set_option maxHeartbeats 400000 in
theorem cur_asked {w : World} {pc pm ps hh is : Nat} (hC : CurOn w pc pm ps hh is) (h0 : hh ≠ 0) :
    Calls Tryz.prog 47 #[PV pc] w fun e w' => e = .returned (.int .i64 0) ∧ w = w' := by
  unfold CurOn at hC
  have c0 : (w).cell? ⟨pc, 0, none⟩ = some (PV pm) := by rw [cell_of_block hC]; rfl
  have c1 : (w).cell? ⟨pc, 1, none⟩ = some (PV ps) := by rw [cell_of_block hC]; rfl
  have c2 : (w).cell? ⟨pc, 2, none⟩ = some (.int .u64 hh) := by rw [cell_of_block hC]; rfl
  have c3 : (w).cell? ⟨pc, 3, none⟩ = some (.int .i64 is) := by rw [cell_of_block hC]; rfl
  have hq : ((hh : Int) = 0) = False := eq_false (by omega)
  clear hC
  go_enter Tryz.func47, Tryz.ntmps47
  go_wp2_with fail
  go_ret
  exact ⟨rfl, rfl⟩

set_option maxRecDepth 100000 in
set_option maxHeartbeats 3200000 in
theorem cur_put {w : World} {pc pm px ps hh is limit : Nat} {S : St} {Y : Nat → Prop} (h : StOn w ps S Y) (hi : Inv S) (hM : MapOn w pm px ps limit) (hC : CurOn w pc pm ps hh is) (hyc : Y pc) (hl : hh < 18446744073709551616) (hlim : limit ≤ 1000) (l : List UInt8) (hll : l.length ≤ 1000) :
    Calls Tryz.prog 96 #[PV pc, SV l] w fun e w' => e = .returned (.tuple #[]) ∧ StOn w' ps (curPut S hh (wordsOf l) (many limit)) Y ∧ Keep (fun k => Y k ∧ k ≠ pc) w w' ∧ CurOn w' pc pm ps hh 1 := by
  have hwo := fun W => text_words l W hll
  have hwl := wordsOf_lt l (by omega)
  have hli := fun W (hW : MapOn W pm px ps limit) => map_limit hW
  have hma := fun W => text_many limit W (by omega)
  have hml : many limit ≤ 200 := by unfold many; split <;> omega
  obtain ⟨ws, hws⟩ : ∃ ws, wordsOf l = ws := ⟨_, rfl⟩
  rw [hws] at hwo hwl ⊢
  obtain ⟨m, hm⟩ : ∃ m, many limit = m := ⟨_, rfl⟩
  rw [hm] at hma hml ⊢
  obtain ⟨n, hn⟩ : ∃ n, ws.length = n := ⟨_, rfl⟩
  obtain ⟨I, hIi, hIo⟩ := cur_class pc pm ps hh is
  have hy0 := fun x : Keeps I => hIi _ x.ok
  simp only [CurOn] at hy0
  have m0 : ∀ x : Keeps I, x.to.cell? ⟨pc, 0, none⟩ = some (PV pm) := fun x => by rw [cell_of_block (hy0 x)]; rfl
  have m1 : ∀ x : Keeps I, x.to.cell? ⟨pc, 1, none⟩ = some (PV ps) := fun x => by rw [cell_of_block (hy0 x)]; rfl
  have m2 : ∀ x : Keeps I, x.to.cell? ⟨pc, 2, none⟩ = some (.int .u64 hh) := fun x => by rw [cell_of_block (hy0 x)]; rfl
  have m3 : ∀ x : Keeps I, x.to.cell? ⟨pc, 3, none⟩ = some (.int .i64 is) := fun x => by rw [cell_of_block (hy0 x)]; rfl
  have HG := Lib.hid (And.intro hwo (And.intro hli (And.intro hma (And.intro h (And.intro hM (And.intro hC (And.intro hwl (And.intro hi (And.intro hn hIo)))))))))
  clear hwo hli hma h hM hC hwl hi hn hIi hIo hy0 hws hm hll hlim
  go_enter Tryz.func96, Tryz.ntmps96
  go_wp2_with fail
  refine (HG.out.1 _).mono ?_
  rintro e w1 ⟨v, rfl, hrow, hb⟩
  have h1 := HG.out.2.2.2.1.wide hb
  have hM1 := HG.out.2.2.2.2.1.below hb
  have hC1 := HG.out.2.2.2.2.2.1.below hb
  have hrow' := hrow
  obtain ⟨G, cp, rfl, _, _⟩ := hrow'
  have hn := HG.out.2.2.2.2.2.2.2.2.1
  rw [hn] at hrow
  simp only [hn]
  have H1 := Lib.hid (And.intro hrow (And.intro hb (And.intro h1 (And.intro hM1 hC1))))
  unfold CurOn at hC1
  have c0 : (w1).cell? ⟨pc, 0, none⟩ = some (PV pm) := by rw [cell_of_block hC1]; rfl
  have c1 : (w1).cell? ⟨pc, 1, none⟩ = some (PV ps) := by rw [cell_of_block hC1]; rfl
  have c2 : (w1).cell? ⟨pc, 2, none⟩ = some (.int .u64 hh) := by rw [cell_of_block hC1]; rfl
  have c3 : (w1).cell? ⟨pc, 3, none⟩ = some (.int .i64 is) := by rw [cell_of_block hC1]; rfl
  clear hrow hb h1 hM1 hC1 hn
  go_wp2_with fail
  refine (HG.out.2.1 _ H1.out.2.2.2.1).mono ?_
  rintro e w2 ⟨rfl, rfl⟩
  go_wp2_with fail
  refine (HG.out.2.2.1 _).mono ?_
  rintro e w3 ⟨rfl, rfl⟩
  go_wp2_with fail
  obtain ⟨Z, hZ⟩ : ∃ Z : Nat → Prop, (fun k => Y k ∨ (w.heap.size ≤ k ∧ k < w1.heap.size)) = Z := ⟨_, rfl⟩
  have h1 := H1.out.2.2.1
  rw [hZ] at h1
  have hZY : ∀ k, Y k → Z k := fun k hk => by rw [← hZ]; exact Or.inl hk
  have hZN : ∀ k, w.heap.size ≤ k → k < w1.heap.size → Z k := fun k h1 h2 => by rw [← hZ]; exact Or.inr ⟨h1, h2⟩
  have HZ := Lib.hid (And.intro h1 (And.intro hZY hZN))
  clear h1 hZY hZN hZ
  go_loopw [6, 7, 19] (fun _ _ i wr => ∃ k : Nat, k ≤ m ∧ i = .int .i64 k ∧ StOn wr ps (curPut S hh ws k) Z ∧ Keep Z w1 wr) (fun _ _ i _ => m - (intOf i).toNat)
  case atStart => exact ⟨0, by omega, rfl, HZ.out.1, Keep.refl _ _⟩
  case round =>
    obtain ⟨k, hk, rfl, hSk, hkk⟩ := hrel
    have hCk := H1.out.2.2.2.2.keep hkk (HZ.out.2.1 _ hyc)
    by_cases hlt : k < m
    · have hlt' : (k : Int) < m := by omega
      have hI0 : I wr.drew := HG.out.2.2.2.2.2.2.2.2.2 _ (hCk.below (Below.refl _ _).drew)
      by_cases hlw : k < n
      · have hlw' : (k : Int) < n := by omega
        have hlz : k < ws.length := by rw [HG.out.2.2.2.2.2.2.2.2.1]; exact hlw
        obtain ⟨G', c', he, _, hcs⟩ := H1.out.1.keep hkk HZ.out.2.2
        injection he with he1 he2 he3
        injection he1 with he1
        injection he1 with he1
        subst he1
        have c1 := hcs k hlz
        have hx := HG.out.2.2.2.2.2.2.1 _ (List.getElem_mem hlz)
        have hd : curPut S hh ws (k + 1) = ((curPut S hh ws k).put hh k ws[k]).2 := by
          show ((curPut S hh ws k).put hh k (ws.getD k 0)).2 = _
          rw [List.getD_eq_getElem?_getD, List.getElem?_eq_getElem hlz]; rfl
        have hpu := st_put (hSk.below (Below.refl _ _).drew) (curPut_inv HG.out.2.2.2.2.2.2.2.1 hh ws k) hh k ws[k] hl (by omega) hx
        rw [← hd] at hpu
        generalize ws[k] = x at *
        have HK := Lib.hid (And.intro hpu (And.intro hkk hCk))
        clear hpu hkk hcs hd hSk hCk he2 he3
        go_wp2_with fail
        refine wp_region_plan I (.take 0 (.take 1 (.take 2 (.take 3 (.take 4 (.take 5 (.take 6 (.take 7 (.take 8 (.take 9 (.go 10 .nil))))))))))) (by kernel_rfl) (by kernel_rfl) hI0 ?_
        clear hI0
        refine' plan_take _ (by rfl) _ (by rfl) ?_ ?_
        rotate_left
        · rintro _ ⟨x, rfl⟩
          have hxm1 := m1 x
          have hxm2 := m2 x
          go_simp
          try with_reducible rfl
        try simp only [Act.put, List.setIfInBounds_toArray, List.set_cons_zero, List.set_cons_succ]
        refine' plan_take _ (by rfl) _ (by rfl) ?_ ?_
        rotate_left
        · rintro _ ⟨x, rfl⟩
          have hxm1 := m1 x
          have hxm2 := m2 x
          go_simp
          try with_reducible rfl
        try simp only [Act.put, List.setIfInBounds_toArray, List.set_cons_zero, List.set_cons_succ]
        refine' plan_take _ (by rfl) _ (by rfl) ?_ ?_
        rotate_left
        · rintro _ ⟨x, rfl⟩
          have hxm1 := m1 x
          have hxm2 := m2 x
          go_simp
          try with_reducible rfl
        try simp only [Act.put, List.setIfInBounds_toArray, List.set_cons_zero, List.set_cons_succ]
        refine' plan_take _ (by rfl) _ (by rfl) ?_ ?_
        rotate_left
        · rintro _ ⟨x, rfl⟩
          have hxm1 := m1 x
          have hxm2 := m2 x
          go_simp
          try with_reducible rfl
        try simp only [Act.put, List.setIfInBounds_toArray, List.set_cons_zero, List.set_cons_succ]
        refine' plan_take _ (by rfl) _ (by rfl) ?_ ?_
        rotate_left
        · rintro _ ⟨x, rfl⟩
          have hxm1 := m1 x
          have hxm2 := m2 x
          go_simp
          try with_reducible rfl
        try simp only [Act.put, List.setIfInBounds_toArray, List.set_cons_zero, List.set_cons_succ]
        refine' plan_take _ (by rfl) _ (by rfl) ?_ ?_
        rotate_left
        · rintro _ ⟨x, rfl⟩
          have hxm1 := m1 x
          have hxm2 := m2 x
          go_simp
          try with_reducible rfl
        try simp only [Act.put, List.setIfInBounds_toArray, List.set_cons_zero, List.set_cons_succ]
        refine' plan_take _ (by rfl) _ (by rfl) ?_ ?_
        rotate_left
        · rintro _ ⟨x, rfl⟩
          have hxm1 := m1 x
          have hxm2 := m2 x
          go_simp
          try with_reducible rfl
        try simp only [Act.put, List.setIfInBounds_toArray, List.set_cons_zero, List.set_cons_succ]
        refine' plan_take _ (by rfl) _ (by rfl) ?_ ?_
        rotate_left
        · rintro _ ⟨x, rfl⟩
          have hxm1 := m1 x
          have hxm2 := m2 x
          go_simp
          try with_reducible rfl
        try simp only [Act.put, List.setIfInBounds_toArray, List.set_cons_zero, List.set_cons_succ]
        refine' plan_take _ (by rfl) _ (by rfl) ?_ ?_
        rotate_left
        · rintro _ ⟨x, rfl⟩
          have hxm1 := m1 x
          have hxm2 := m2 x
          go_simp
          try with_reducible rfl
        try simp only [Act.put, List.setIfInBounds_toArray, List.set_cons_zero, List.set_cons_succ]
        refine' plan_take _ (by rfl) _ (by rfl) ?_ ?_
        rotate_left
        · rintro _ ⟨x, rfl⟩
          have hxm1 := m1 x
          have hxm2 := m2 x
          go_simp
          try with_reducible rfl
        try simp only [Act.put, List.setIfInBounds_toArray, List.set_cons_zero, List.set_cons_succ]
        refine plan_do _ (by rfl) (by rfl) (fun K hK => ?_)
        go_simp
        refine HK.out.1.mono ?_
        rintro e w4 ⟨rfl, h4, k4⟩
        have hk4 := (HK.out.2.1.trans (Keep.drewN Z wr 1)).trans k4
        have hC4 := H1.out.2.2.2.2.keep hk4 (HZ.out.2.1 _ hyc)
        try go_simp
        refine hK.out _ _ (HG.out.2.2.2.2.2.2.2.2.2 _ hC4) ?_
        clear hK K
        try simp only [Act.put, List.setIfInBounds_toArray, List.set_cons_zero, List.set_cons_succ]
        have H4 := Lib.hid (And.intro h4 hk4)
        clear h4 k4 hk4 hC4
        refine plan_nil ?_
        go_wp2_with fail
        go_roundw
        case rel => exact ⟨k + 1, by omega, by simp, H4.out.1, H4.out.2⟩
        case measure => simp [intOf]; omega
      · have hlw' : ¬ (k : Int) < n := by omega
        have hd : curPut S hh ws (k + 1) = ((curPut S hh ws k).put hh k 0).2 := by
          show ((curPut S hh ws k).put hh k (ws.getD k 0)).2 = _
          rw [List.getD_eq_getElem?_getD, List.getElem?_eq_none (by have := HG.out.2.2.2.2.2.2.2.2.1; omega)]; rfl
        have hpu := st_put (hSk.below (Below.refl _ _).drew) (curPut_inv HG.out.2.2.2.2.2.2.2.1 hh ws k) hh k 0 hl (by omega) (by omega)
        rw [← hd] at hpu
        have HK := Lib.hid (And.intro hpu (And.intro hkk hCk))
        clear hpu hkk hd hSk hCk
        go_wp2_with fail
        refine wp_region_plan I (.take 0 (.take 1 (.take 2 (.take 3 (.take 4 (.take 5 (.take 6 (.take 7 (.take 8 (.take 9 (.go 10 .nil))))))))))) (by kernel_rfl) (by kernel_rfl) hI0 ?_
        clear hI0
        refine' plan_take _ (by rfl) _ (by rfl) ?_ ?_
        rotate_left
        · rintro _ ⟨x, rfl⟩
          have hxm1 := m1 x
          have hxm2 := m2 x
          go_simp
          try with_reducible rfl
        try simp only [Act.put, List.setIfInBounds_toArray, List.set_cons_zero, List.set_cons_succ]
        refine' plan_take _ (by rfl) _ (by rfl) ?_ ?_
        rotate_left
        · rintro _ ⟨x, rfl⟩
          have hxm1 := m1 x
          have hxm2 := m2 x
          go_simp
          try with_reducible rfl
        try simp only [Act.put, List.setIfInBounds_toArray, List.set_cons_zero, List.set_cons_succ]
        refine' plan_take _ (by rfl) _ (by rfl) ?_ ?_
        rotate_left
        · rintro _ ⟨x, rfl⟩
          have hxm1 := m1 x
          have hxm2 := m2 x
          go_simp
          try with_reducible rfl
        try simp only [Act.put, List.setIfInBounds_toArray, List.set_cons_zero, List.set_cons_succ]
        refine' plan_take _ (by rfl) _ (by rfl) ?_ ?_
        rotate_left
        · rintro _ ⟨x, rfl⟩
          have hxm1 := m1 x
          have hxm2 := m2 x
          go_simp
          try with_reducible rfl
        try simp only [Act.put, List.setIfInBounds_toArray, List.set_cons_zero, List.set_cons_succ]
        refine' plan_take _ (by rfl) _ (by rfl) ?_ ?_
        rotate_left
        · rintro _ ⟨x, rfl⟩
          have hxm1 := m1 x
          have hxm2 := m2 x
          go_simp
          try with_reducible rfl
        try simp only [Act.put, List.setIfInBounds_toArray, List.set_cons_zero, List.set_cons_succ]
        refine' plan_take _ (by rfl) _ (by rfl) ?_ ?_
        rotate_left
        · rintro _ ⟨x, rfl⟩
          have hxm1 := m1 x
          have hxm2 := m2 x
          go_simp
          try with_reducible rfl
        try simp only [Act.put, List.setIfInBounds_toArray, List.set_cons_zero, List.set_cons_succ]
        refine' plan_take _ (by rfl) _ (by rfl) ?_ ?_
        rotate_left
        · rintro _ ⟨x, rfl⟩
          have hxm1 := m1 x
          have hxm2 := m2 x
          go_simp
          try with_reducible rfl
        try simp only [Act.put, List.setIfInBounds_toArray, List.set_cons_zero, List.set_cons_succ]
        refine' plan_take _ (by rfl) _ (by rfl) ?_ ?_
        rotate_left
        · rintro _ ⟨x, rfl⟩
          have hxm1 := m1 x
          have hxm2 := m2 x
          go_simp
          try with_reducible rfl
        try simp only [Act.put, List.setIfInBounds_toArray, List.set_cons_zero, List.set_cons_succ]
        refine' plan_take _ (by rfl) _ (by rfl) ?_ ?_
        rotate_left
        · rintro _ ⟨x, rfl⟩
          have hxm1 := m1 x
          have hxm2 := m2 x
          go_simp
          try with_reducible rfl
        try simp only [Act.put, List.setIfInBounds_toArray, List.set_cons_zero, List.set_cons_succ]
        refine' plan_take _ (by rfl) _ (by rfl) ?_ ?_
        rotate_left
        · rintro _ ⟨x, rfl⟩
          have hxm1 := m1 x
          have hxm2 := m2 x
          go_simp
          try with_reducible rfl
        try simp only [Act.put, List.setIfInBounds_toArray, List.set_cons_zero, List.set_cons_succ]
        refine plan_do _ (by rfl) (by rfl) (fun K hK => ?_)
        go_simp
        refine HK.out.1.mono ?_
        rintro e w4 ⟨rfl, h4, k4⟩
        have hk4 := (HK.out.2.1.trans (Keep.drewN Z wr 1)).trans k4
        have hC4 := H1.out.2.2.2.2.keep hk4 (HZ.out.2.1 _ hyc)
        try go_simp
        refine hK.out _ _ (HG.out.2.2.2.2.2.2.2.2.2 _ hC4) ?_
        clear hK K
        try simp only [Act.put, List.setIfInBounds_toArray, List.set_cons_zero, List.set_cons_succ]
        have H4 := Lib.hid (And.intro h4 hk4)
        clear h4 k4 hk4 hC4
        refine plan_nil ?_
        go_wp2_with fail
        go_roundw
        case rel => exact ⟨k + 1, by omega, by simp, H4.out.1, H4.out.2⟩
        case measure => simp [intOf]; omega
    · obtain rfl : k = m := by omega
      have hC' := hCk
      unfold CurOn at hC'
      have d0 : (wr).cell? ⟨pc, 0, none⟩ = some (PV pm) := by rw [cell_of_block hC']; rfl
      have d1 : (wr).cell? ⟨pc, 1, none⟩ = some (PV ps) := by rw [cell_of_block hC']; rfl
      have d2 : (wr).cell? ⟨pc, 2, none⟩ = some (.int .u64 hh) := by rw [cell_of_block hC']; rfl
      have d3 : (wr).cell? ⟨pc, 3, none⟩ = some (.int .i64 is) := by rw [cell_of_block hC']; rfl
      have f0 : (wr).frozen? ⟨pc, 0, none⟩ = false := frozen_of_block hC'
      have f1 : (wr).frozen? ⟨pc, 1, none⟩ = false := frozen_of_block hC'
      have f2 : (wr).frozen? ⟨pc, 2, none⟩ = false := frozen_of_block hC'
      have f3 : (wr).frozen? ⟨pc, 3, none⟩ = false := frozen_of_block hC'
      have q4 := heap_setCell (i := 3) (v := .int .i64 1) hC'
      have s4 : StOn (wr.setCell ⟨pc, 3, none⟩ (.int .i64 1)) ps (curPut S hh ws k) Z := hSk.write (HZ.out.2.1 _ hyc) hC' ⟨by decide, by decide⟩ (by simp) (by simp) fun k _ hk => heap_setCell_ne hk
      have k4 : Keep (fun k => Y k ∧ k ≠ pc) w (wr.setCell ⟨pc, 3, none⟩ (.int .i64 1)) := ((Keep.of_below H1.out.2.1 fun k hk => HG.out.2.2.2.1.yl k hk.1).trans (hkk.mono fun k hk => HZ.out.2.1 k hk.1)).trans ⟨rfl, rfl, rfl, by simp, fun k hk => heap_setCell_ne hk.2⟩
      have HK := Lib.hid (And.intro (s4.mono HZ.out.2.1) (And.intro k4 q4))
      clear s4 k4 q4 hSk hkk hCk hC'
      go_wp2_with fail
      go_end0
      exact ⟨rfl, HK.out.1, HK.out.2.1, HK.out.2.2⟩
end Go.Proofs.YtoaabbnieakidaaGreatDoorR

namespace Go.Proofs.YtoaabbnieakidaaGreatDoorR
open Go.RowKit Go.BigFrame Go.Maps Go.WideMaps Lf

/-- where the making of a map of a kind and a limit stands -/
structure MdK (kind limit : Nat) (w : World) (ps pm px : Nat) (S : St) (root : Nat) (Y : Nat → Prop) (wr : World) : Prop where
  st : StOn wr ps S Y
  inv : Inv S
  m : MapOn wr pm px ps limit
  t : TreeOn wr px ps kind root
  bl : Below w.heap.size w wr
  y : ∀ k, k < w.heap.size → Y k
  yx : Y px
  ym : Y pm
  nx : w.heap.size ≤ px
  ne : pm ≠ px
theorem MdK.next {kind limit : Nat} {w wr w' : World} {ps pm px root root' : Nat} {S S' : St} {Y : Nat → Prop} (h : MdK kind limit w ps pm px S root Y wr) (h1 : StOn w' ps S' Y) (h2 : Keep (fun k => Y k ∧ k ≠ px) wr w') (h3 : TreeOn w' px ps kind root') (h4 : Inv S') : MdK kind limit w ps pm px S' root' Y w' :=
  ⟨h1, h4, (h2.block pm ⟨h.ym, h.ne⟩).trans h.m, h3, ⟨h2.os.trans h.bl.os, h2.tape.trans h.bl.tape, h2.output.trans h.bl.output, Nat.le_trans h.bl.size h2.size, fun k hk => (h2.block k ⟨h.y k hk, by have := h.nx; omega⟩).trans (h.bl.block k hk)⟩, h.y, h.yx, h.ym, h.nx, h.ne⟩
theorem MdK.below {kind limit : Nat} {w wr w' : World} {ps pm px root : Nat} {S : St} {Y : Nat → Prop} (h : MdK kind limit w ps pm px S root Y wr) (hb : Below wr.heap.size wr w') : MdK kind limit w ps pm px S root Y w' :=
  ⟨h.st.below hb, h.inv, h.m.below hb, h.t.below hb, h.bl.trans (hb.mono h.bl.size), h.y, h.yx, h.ym, h.nx, h.ne⟩
end Go.Proofs.YtoaabbnieakidaaGreatDoorR
