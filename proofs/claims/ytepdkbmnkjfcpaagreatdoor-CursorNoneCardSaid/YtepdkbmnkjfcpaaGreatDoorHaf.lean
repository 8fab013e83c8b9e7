/- The stores that a cursor's law goes through, computed: plain Lean, no program in sight. A cursor's law: the world that it makes, and what is asked of it at its end: the walks. A cursor's law: what is asked at its end: the walk. Cursors: without a cursor nothing is told: the walk. -/
import Derived.Test.YtepdkbmnkjfcpaaGreatDoorGbk
import Derived.Test.YtepdkbmnkjfcpaaGreatDoorHad
import Derived.Test.YtepdkbmnkjfcpaaGreatDoorHae
import Derived.Test.YtepdkbmnkjfcpaaGreatDoorGap
import Derived.Test.YtepdkbmnkjfcpaaGreatDoorHaa
namespace Go.Proofs.YtepdkbmnkjfcpaaGreatDoor
open Lf

def cu0 : St := ⟨⟨262144, []⟩, ⟨4000, 4294967295, []⟩⟩
def cu1 : St := ⟨⟨262144, [(0, pg [513, 1, 4294967297, 2, 1, 6989586621679009792]), (1, pg [257, 1, 4294967298, 1]), (2, pg [1025, 1, 4294967299, 6, 4294967297, 4294967298, 0, 0, 1, 1])]⟩, ⟨4000, 4294967295, [⟨1, 1, 2⟩, ⟨1, 1, 66⟩, ⟨1, 1, 130⟩]⟩⟩
def cu2 : St := ⟨⟨262144, [(0, pg [513, 3, 4294967297, 2, 1, 6989586621679009792, 4294967300, 2, 1, 7133701809754865664]), (1, pg [257, 3, 4294967298, 1, 0, 4294967301, 1]), (2, pg [1025, 3, 4294967299, 6, 4294967297, 4294967298, 0, 0, 1, 1, 0, 4294967302, 6, 4294967300, 4294967301, 4294967299, 0, 2, 2])]⟩, ⟨4000, 4294967295, [⟨1, 1, 2⟩, ⟨1, 1, 66⟩, ⟨1, 1, 130⟩, ⟨1, 1, 6⟩, ⟨1, 1, 69⟩, ⟨1, 1, 139⟩]⟩⟩
def cu3 : St := ⟨⟨262144, [(0, pg [513, 3, 4294967297, 2, 1, 6989586621679009792, 4294967300, 2, 1, 7133701809754865664]), (1, pg [257, 3, 4294967298, 1, 0, 4294967301, 1]), (2, pg [1025, 3, 4294967299, 6, 4294967297, 4294967298, 0, 0, 1, 1, 0, 4294967302, 6, 4294967300, 4294967301, 4294967299, 0, 2, 2]), (3, pg [769, 1, 4294967303, 3])]⟩, ⟨4000, 4294967295, [⟨1, 1, 2⟩, ⟨1, 1, 66⟩, ⟨1, 1, 130⟩, ⟨1, 1, 6⟩, ⟨1, 1, 69⟩, ⟨1, 1, 139⟩, ⟨1, 1, 194⟩]⟩⟩
def cu4 : St := ⟨⟨262144, [(0, pg [513, 3, 4294967297, 2, 1, 6989586621679009792, 4294967300, 2, 1, 7133701809754865664]), (1, pg [257, 3, 4294967298, 1, 0, 4294967301, 1]), (2, pg [1025, 3, 4294967299, 6, 4294967297, 4294967298, 0, 0, 1, 1, 0, 4294967302, 6, 4294967300, 4294967301, 4294967299, 0, 2, 2]), (3, pg [769, 1, 4294967303, 3, 1, 6989586621679009792])]⟩, ⟨4000, 4294967295, [⟨1, 1, 2⟩, ⟨1, 1, 66⟩, ⟨1, 1, 130⟩, ⟨1, 1, 6⟩, ⟨1, 1, 69⟩, ⟨1, 1, 139⟩, ⟨1, 1, 194⟩]⟩⟩
def cu5 : St := ⟨⟨262144, [(0, pg [513, 15, 4294967297, 2, 1, 6989586621679009792, 4294967300, 2, 1, 7133701809754865664, 4294967304, 2, 1, 7061644215716937728, 4294967305, 2, 1, 8646911284551352320]), (1, pg [257, 3, 4294967298, 1, 0, 4294967301, 1]), (2, pg [1025, 7, 4294967299, 6, 4294967297, 4294967298, 0, 0, 1, 1, 0, 4294967302, 6, 4294967300, 4294967301, 0, 0, 1, 1, 0, 4294967306, 6, 4294967304, 4294967305, 4294967299, 4294967302, 2, 3]), (3, pg [769, 1, 4294967303, 3, 1, 6989586621679009792])]⟩, ⟨4000, 4294967295, [⟨1, 1, 2⟩, ⟨1, 1, 66⟩, ⟨1, 1, 130⟩, ⟨1, 1, 6⟩, ⟨1, 1, 69⟩, ⟨1, 1, 139⟩, ⟨1, 1, 194⟩, ⟨1, 1, 10⟩, ⟨1, 1, 14⟩, ⟨1, 1, 148⟩]⟩⟩
def cu6a : St := ⟨⟨262144, [(0, pg [513, 15, 4294967297, 2, 1, 6989586621679009792, 4294967300, 2, 1, 7133701809754865664, 4294967304, 2, 1, 7061644215716937728, 4294967305, 2, 1, 8646911284551352320]), (1, pg [257, 3, 4294967298, 1, 0, 4294967301, 1]), (2, pg [1025, 6, 4294967299, 6, 4294967297, 4294967298, 0, 0, 1, 1, 0, 4294967302, 6, 4294967300, 4294967301, 0, 0, 1, 1, 0, 4294967306, 6, 4294967304, 4294967305, 0, 4294967302, 2, 2]), (3, pg [769, 1, 4294967303, 3, 1, 6989586621679009792])]⟩, ⟨4000, 4294967295, [⟨1, 1, 2⟩, ⟨1, 1, 66⟩, ⟨0, 1, 130⟩, ⟨1, 1, 6⟩, ⟨1, 1, 69⟩, ⟨1, 1, 139⟩, ⟨1, 1, 194⟩, ⟨1, 1, 10⟩, ⟨1, 1, 14⟩, ⟨1, 1, 148⟩]⟩⟩
def cu6 : St := ⟨⟨262144, [(0, pg [513, 14, 4294967297, 2, 1, 6989586621679009792, 4294967300, 2, 1, 7133701809754865664, 4294967304, 2, 1, 7061644215716937728, 4294967305, 2, 1, 8646911284551352320]), (1, pg [257, 2, 4294967298, 1, 0, 4294967301, 1]), (2, pg [1025, 6, 4294967299, 6, 4294967297, 4294967298, 0, 0, 1, 1, 0, 4294967302, 6, 4294967300, 4294967301, 0, 0, 1, 1, 0, 4294967306, 6, 4294967304, 4294967305, 0, 4294967302, 2, 2]), (3, pg [769, 1, 4294967303, 3, 1, 6989586621679009792])]⟩, ⟨4000, 4294967295, [⟨0, 1, 2⟩, ⟨0, 1, 66⟩, ⟨0, 1, 130⟩, ⟨1, 1, 6⟩, ⟨1, 1, 69⟩, ⟨1, 1, 139⟩, ⟨1, 1, 194⟩, ⟨1, 1, 10⟩, ⟨1, 1, 14⟩, ⟨1, 1, 148⟩]⟩⟩
def cu7 : St := ⟨⟨262144, [(0, pg [513, 14, 4294967297, 2, 1, 6989586621679009792, 4294967300, 2, 1, 7133701809754865664, 4294967304, 2, 1, 7061644215716937728, 4294967305, 2, 1, 8646911284551352320]), (1, pg [257, 2, 4294967298, 1, 0, 4294967301, 1]), (2, pg [1025, 6, 4294967299, 6, 4294967297, 4294967298, 0, 0, 1, 1, 0, 4294967302, 6, 4294967300, 4294967301, 0, 0, 1, 1, 0, 4294967306, 6, 4294967304, 4294967305, 0, 4294967302, 2, 2]), (3, pg [769, 1, 4294967303, 3, 1, 7061644215716937728])]⟩, ⟨4000, 4294967295, [⟨0, 1, 2⟩, ⟨0, 1, 66⟩, ⟨0, 1, 130⟩, ⟨1, 1, 6⟩, ⟨1, 1, 69⟩, ⟨1, 1, 139⟩, ⟨1, 1, 194⟩, ⟨1, 1, 10⟩, ⟨1, 1, 14⟩, ⟨1, 1, 148⟩]⟩⟩
def cu8 : St := ⟨⟨262144, [(0, pg [513, 14, 4294967297, 2, 1, 6989586621679009792, 4294967300, 2, 1, 7133701809754865664, 4294967304, 2, 1, 7061644215716937728, 4294967305, 2, 1, 8646911284551352320]), (1, pg [257, 2, 4294967298, 1, 0, 4294967301, 1]), (2, pg [1025, 6, 4294967299, 6, 4294967297, 4294967298, 0, 0, 1, 1, 0, 4294967302, 6, 4294967300, 4294967301, 0, 0, 1, 1, 0, 4294967306, 6, 4294967304, 4294967305, 0, 4294967302, 2, 2]), (3, pg [769, 1, 4294967303, 3, 1, 7133701809754865664])]⟩, ⟨4000, 4294967295, [⟨0, 1, 2⟩, ⟨0, 1, 66⟩, ⟨0, 1, 130⟩, ⟨1, 1, 6⟩, ⟨1, 1, 69⟩, ⟨1, 1, 139⟩, ⟨1, 1, 194⟩, ⟨1, 1, 10⟩, ⟨1, 1, 14⟩, ⟨1, 1, 148⟩]⟩⟩
def cu9 : St := ⟨⟨262144, [(0, pg [513, 14, 4294967297, 2, 1, 6989586621679009792, 4294967300, 2, 1, 7133701809754865664, 4294967304, 2, 1, 7061644215716937728, 4294967305, 2, 1, 8646911284551352320]), (1, pg [257, 2, 4294967298, 1, 0, 4294967301, 1]), (2, pg [1025, 6, 4294967299, 6, 4294967297, 4294967298, 0, 0, 1, 1, 0, 4294967302, 6, 4294967300, 4294967301, 0, 0, 1, 1, 0, 4294967306, 6, 4294967304, 4294967305, 0, 4294967302, 2, 2]), (3, pg [769, 1, 4294967303, 3])]⟩, ⟨4000, 4294967295, [⟨0, 1, 2⟩, ⟨0, 1, 66⟩, ⟨0, 1, 130⟩, ⟨1, 1, 6⟩, ⟨1, 1, 69⟩, ⟨1, 1, 139⟩, ⟨1, 1, 194⟩, ⟨1, 1, 10⟩, ⟨1, 1, 14⟩, ⟨1, 1, 148⟩]⟩⟩
def cu10 : St := ⟨⟨262144, [(0, pg [513, 14, 4294967297, 2, 1, 6989586621679009792, 4294967300, 2, 1, 7133701809754865664, 4294967304, 2, 1, 7061644215716937728, 4294967305, 2, 1, 8646911284551352320]), (1, pg [257, 2, 4294967298, 1, 0, 4294967301, 1]), (2, pg [1025, 6, 4294967299, 6, 4294967297, 4294967298, 0, 0, 1, 1, 0, 4294967302, 6, 4294967300, 4294967301, 0, 0, 1, 1, 0, 4294967306, 6, 4294967304, 4294967305, 0, 4294967302, 2, 2]), (3, pg [769, 1, 4294967303, 3, 1, 7133701809754865664])]⟩, ⟨4000, 4294967295, [⟨0, 1, 2⟩, ⟨0, 1, 66⟩, ⟨0, 1, 130⟩, ⟨1, 1, 6⟩, ⟨1, 1, 69⟩, ⟨1, 1, 139⟩, ⟨1, 1, 194⟩, ⟨1, 1, 10⟩, ⟨1, 1, 14⟩, ⟨1, 1, 148⟩]⟩⟩
theorem cu_inv0 : Inv cu0 := invB_ok (by decide +kernel)
theorem cu_ok1 : PutOk cu0 [97] [] := putB_ok (by decide +kernel)
theorem cu_run1 : treePutM avlOkM cu0 0 [97] [] = some (4294967299, cu1) := runB_ok (by decide +kernel)
theorem cu_ok2 : PutOk cu1 [99] [] := putB_ok (by decide +kernel)
theorem cu_run2 : treePutM avlOkM cu1 4294967299 [99] [] = some (4294967302, cu2) := runB_ok (by decide +kernel)
theorem cu_mk3 : MkOk cu2 (many 9) := mkB_ok (by decide +kernel)
theorem cu_make3 : cu2.make (many 9) = ((4294967303, 0), cu3) := by
  have h : (cu2.make (many 9)).1 = (4294967303, 0) := by decide +kernel
  rw [← h, ← eqS_ok (S := (cu2.make (many 9)).2) (T := cu3) (by decide +kernel)]
theorem cu_at3 : treeAtM cu3 4294967302 0 = some ([97], []) := by decide +kernel
theorem cu_put4 : curPut cu3 4294967303 (wordsOf [97]) (many 9) = cu4 := eqS_ok (by decide +kernel)
theorem cu_ok5 : PutOk cu4 [98] [120] := putB_ok (by decide +kernel)
theorem cu_run5 : treePutM avlOkM cu4 4294967302 [98] [120] = some (4294967306, cu5) := runB_ok (by decide +kernel)
theorem cu_down5 : ∃ F, downM cu5 [97] (Lf.limit cu5) 4294967306 0 = some F ∧ F.1 ≠ 0 ∧ F.1 < 18446744073709551616 := by
  have h : ((downM cu5 [97] (Lf.limit cu5) 4294967306 0).map fun F => decide (F.1 ≠ 0) && decide (F.1 < 18446744073709551616)) = some true := by decide +kernel
  obtain ⟨F, h1, h2⟩ := Option.map_eq_some_iff.1 h
  simp only [Bool.and_eq_true, decide_eq_true_eq] at h2
  exact ⟨F, h1, h2.1, h2.2⟩
def delB (jn : Jn) (S : St) (root : Nat) (key : List UInt8) (x : Nat × Nat × Nat) (T : St) : Bool := match binDelM jn S root key with
  | some (y, U) => y == x && eqS U T
  | none => false
theorem delB_ok {jn : Jn} {S T : St} {root : Nat} {x : Nat × Nat × Nat} {key : List UInt8} (h : delB jn S root key x T = true) : binDelM jn S root key = some (x, T) := by
  unfold delB at h
  split at h
  · rename_i y U e
    simp only [Bool.and_eq_true, beq_iff_eq] at h
    rw [e, h.1, eqS_ok h.2]
  · cases h
theorem cu_del6 : binDelM avlOkM cu5 4294967306 [97] = some ((4294967306, 4294967297, 4294967298), cu6a) := delB_ok (by decide +kernel)
theorem cu_inv6a : Inv cu6a := invB_ok (by decide +kernel)
theorem cu_inv6b : Inv (cu6a.drop 4294967297).2 := invB_ok (by decide +kernel)
theorem cu_inv6 : Inv cu6 := invB_ok (by decide +kernel)
theorem cu_blob6 : getBlob cu6a 4294967298 = ([], 0) := by decide +kernel
theorem cu_drop6 : ((cu6a.drop 4294967297).2.drop 4294967298).2 = cu6 := eqS_ok (by decide +kernel)
theorem cu_get6 : (cu6.get 4294967303 0).1 = 1 := by decide +kernel
theorem cu_words6 : (List.range (many 1)).map (fun k => (cu6.get 4294967303 k).1) = wordsOf [97] := by decide +kernel
theorem cu_rank6 : rankM cu6 4294967306 [97] = some 0 := by decide +kernel
theorem cu_down6 : downM cu6 [97] (Lf.limit cu6) 4294967306 0 = some (0, 0) := by decide +kernel
theorem cu_at6 : treeAtM cu6 4294967306 0 = some ([98], [120]) := by decide +kernel
theorem cu_put7 : curPut cu6 4294967303 (wordsOf [98]) (many 9) = cu7 := eqS_ok (by decide +kernel)
theorem cu_get7 : (cu7.get 4294967303 0).1 = 1 := by decide +kernel
theorem cu_words7 : (List.range (many 1)).map (fun k => (cu7.get 4294967303 k).1) = wordsOf [98] := by decide +kernel
theorem cu_rank7 : rankM cu7 4294967306 [98] = some 0 := by decide +kernel
def foundB (S : St) (k : List UInt8) (root : Nat) (v : List UInt8) : Bool := match downM S k (Lf.limit S) root 0 with
  | some F => decide (F.1 ≠ 0) && decide (F.1 < 18446744073709551616) && decide (textM S (getNode S F.1).1.val = some v)
  | none => false
theorem foundB_ok {S : St} {k v : List UInt8} {root : Nat} (h : foundB S k root v = true) : ∃ F, downM S k (Lf.limit S) root 0 = some F ∧ F.1 ≠ 0 ∧ F.1 < 18446744073709551616 ∧ textM S (getNode S F.1).1.val = some v := by
  unfold foundB at h
  split at h
  · rename_i F e
    simp only [Bool.and_eq_true, decide_eq_true_eq] at h
    exact ⟨F, e, h.1.1, h.1.2, h.2⟩
  · cases h
theorem cu_found7 : foundB cu7 [98] 4294967306 [120] = true := by decide +kernel
theorem cu_at7 : treeAtM cu7 4294967306 1 = some ([99], []) := by decide +kernel
theorem cu_put8 : curPut cu7 4294967303 (wordsOf [99]) (many 9) = cu8 := eqS_ok (by decide +kernel)
theorem cu_get8 : (cu8.get 4294967303 0).1 = 1 := by decide +kernel
theorem cu_words8 : (List.range (many 1)).map (fun k => (cu8.get 4294967303 k).1) = wordsOf [99] := by decide +kernel
theorem cu_rank8 : rankM cu8 4294967306 [99] = some 1 := by decide +kernel
theorem cu_found8 : foundB cu8 [99] 4294967306 [] = true := by decide +kernel
theorem cu_at8 : walkAtM cu8 4294967306 2 = some (0, 2) := by decide +kernel
theorem cu_put9 : curPut cu8 4294967303 (wordsOf []) (many 9) = cu9 := eqS_ok (by decide +kernel)
theorem cu_size9 : sizeM cu9 4294967306 = some 2 := by decide +kernel
theorem cu_at9 : treeAtM cu9 4294967306 1 = some ([99], []) := by decide +kernel
theorem cu_put10 : curPut cu9 4294967303 (wordsOf [99]) (many 9) = cu10 := eqS_ok (by decide +kernel)
end Go.Proofs.YtepdkbmnkjfcpaaGreatDoor

namespace Go.Proofs.YtepdkbmnkjfcpaaGreatDoor
open Go.RowKit Go.BigFrame Go.Maps Go.WideMaps Lf

theorem w23_heap {W : World} {b : Nat} {u0 u1 u2 u3 u4 u5 u6 u7 u8 u9 u10 : Value} {t : TypeId} (h : W.heap[b]? = some (.cells #[u0, u1, u2, u3, u4, u5, u6, u7, u8, u9, u10] t)) (v0 v1 v2 v3 v4 v5 v6 v7 v8 v9 v10 : Value) :
    (((((((((((W.setCell ⟨b, 0, none⟩ (v0)).setCell ⟨b, 1, none⟩ (v1)).setCell ⟨b, 2, none⟩ (v2)).setCell ⟨b, 3, none⟩ (v3)).setCell ⟨b, 4, none⟩ (v4)).setCell ⟨b, 5, none⟩ (v5)).setCell ⟨b, 6, none⟩ (v6)).setCell ⟨b, 7, none⟩ (v7)).setCell ⟨b, 8, none⟩ (v8)).setCell ⟨b, 9, none⟩ (v9)).setCell ⟨b, 10, none⟩ (v10)).heap[b]? = some (.cells #[v0, v1, v2, v3, v4, v5, v6, v7, v8, v9, v10] t) := by
  have q := heap_setCell (i := 10) (v := v10) (heap_setCell (i := 9) (v := v9) (heap_setCell (i := 8) (v := v8) (heap_setCell (i := 7) (v := v7) (heap_setCell (i := 6) (v := v6) (heap_setCell (i := 5) (v := v5) (heap_setCell (i := 4) (v := v4) (heap_setCell (i := 3) (v := v3) (heap_setCell (i := 2) (v := v2) (heap_setCell (i := 1) (v := v1) (heap_setCell (i := 0) (v := v0) h))))))))))
  simpa using q
theorem w23_other {W : World} {b c : Nat} (h : c ≠ b) (v0 v1 v2 v3 v4 v5 v6 v7 v8 v9 v10 : Value) : (((((((((((W.setCell ⟨b, 0, none⟩ (v0)).setCell ⟨b, 1, none⟩ (v1)).setCell ⟨b, 2, none⟩ (v2)).setCell ⟨b, 3, none⟩ (v3)).setCell ⟨b, 4, none⟩ (v4)).setCell ⟨b, 5, none⟩ (v5)).setCell ⟨b, 6, none⟩ (v6)).setCell ⟨b, 7, none⟩ (v7)).setCell ⟨b, 8, none⟩ (v8)).setCell ⟨b, 9, none⟩ (v9)).setCell ⟨b, 10, none⟩ (v10)).heap[c]? = W.heap[c]? := by
  rw [heap_setCell_ne h, heap_setCell_ne h, heap_setCell_ne h, heap_setCell_ne h, heap_setCell_ne h, heap_setCell_ne h, heap_setCell_ne h, heap_setCell_ne h, heap_setCell_ne h, heap_setCell_ne h, heap_setCell_ne h]

theorem w23_below {w W : World} {b : Nat} (hb : Below w.heap.size w W) (hl : w.heap.size ≤ b) (v0 v1 v2 v3 v4 v5 v6 v7 v8 v9 v10 : Value) : Below w.heap.size w (((((((((((W.setCell ⟨b, 0, none⟩ (v0)).setCell ⟨b, 1, none⟩ (v1)).setCell ⟨b, 2, none⟩ (v2)).setCell ⟨b, 3, none⟩ (v3)).setCell ⟨b, 4, none⟩ (v4)).setCell ⟨b, 5, none⟩ (v5)).setCell ⟨b, 6, none⟩ (v6)).setCell ⟨b, 7, none⟩ (v7)).setCell ⟨b, 8, none⟩ (v8)).setCell ⟨b, 9, none⟩ (v9)).setCell ⟨b, 10, none⟩ (v10)) := by
  have h : ∀ (V : World) (i : Nat) (v : Value), Below w.heap.size w V → Below w.heap.size w (V.setCell ⟨b, i, none⟩ v) := fun V i v hV => hV.setCell (p := ⟨b, i, none⟩) hl v
  exact h _ _ _ (h _ _ _ (h _ _ _ (h _ _ _ (h _ _ _ (h _ _ _ (h _ _ _ (h _ _ _ (h _ _ _ (h _ _ _ (h _ _ _ hb))))))))))

set_option maxRecDepth 100000 in
set_option maxHeartbeats 1600000 in
theorem made23 {w : World} (ht : Tab64 w) :
    Calls Tryz.prog 86 #[.int .i64 1, .int .i64 0, .int .i64 9, .int .i64 262144] w fun e w' => ∃ ps pm px pp Y, e = .returned (.tuple #[.agg #[PV pm, PV pp, .pointer none, .pointer none, .slice none 0 0, .bool false, .int .i64 0, .string ⟨#[]⟩, .bool false, .int .i64 0, .string ⟨#[]⟩], .bool true]) ∧ MdK 1 9 w ps pm px cu0 0 Y w' := by
  have A0 := (Below.refl w.heap.size w).alloc (Nat.le_refl _) (.cells #[.pointer none, .pointer none, .pointer none, .pointer none, .slice none 0 0, .bool false, .int .i64 0, .string ⟨#[]⟩, .bool false, .int .i64 0, .string ⟨#[]⟩] 139)
  have q0 := heap_alloc_new w (.cells #[.pointer none, .pointer none, .pointer none, .pointer none, .slice none 0 0, .bool false, .int .i64 0, .string ⟨#[]⟩, .bool false, .int .i64 0, .string ⟨#[]⟩] 139)
  have hsn := store_new (ht.of_block (A0.block _ ht.lt)) 262144 4000 4294967295 (by omega) (by omega) (by omega)
  have hmn := fun W ps Y (hW : StOn W ps cu0 Y) => map_new hW cu_inv0 kind_avl 0 9 (by omega)
  have hcn := fun W ps Y (hW : StOn W ps cu0 Y) => compact_new hW cu_inv0
  have HG := Lib.hid (And.intro hsn (And.intro hmn (And.intro hcn (And.intro A0 q0))))
  clear hsn hmn hcn A0 q0 ht
  go_enter Tryz.func86, Tryz.ntmps86
  go_wp2_with fail
  refine HG.out.1.mono ?_
  rintro e w1 ⟨ps, rfl, hs1, hb1⟩
  have H1 := Lib.hid (And.intro hs1 hb1)
  clear hs1 hb1
  go_wp2_with fail
  refine (HG.out.2.1 _ _ _ H1.out.1).mono ?_
  rintro e w2 ⟨pm, px, rfl, hM, hT, hb2, lm, lx, ne⟩
  have H2 := Lib.hid (And.intro hM (And.intro hT (And.intro hb2 (And.intro lm (And.intro lx ne)))))
  clear hM hT hb2 lm lx ne
  go_wp2_with fail
  refine (HG.out.2.2.1 _ _ _ (H1.out.1.wide H2.out.2.2.1)).mono ?_
  rintro e w3 ⟨pp, rfl, hb3⟩
  obtain ⟨hM, hT, hb2, lm, lx, ne⟩ := H2.out
  have z1 := H1.out.2.size
  simp only [World.size_alloc] at z1
  have z2 := hb2.size
  have q3 := (hb3.block w.heap.size (by omega)).trans ((hb2.block w.heap.size (by omega)).trans ((H1.out.2.block w.heap.size (by simp)).trans HG.out.2.2.2.2))
  have s3 := (H1.out.1.wide hb2).below hb3
  have B3 := ((HG.out.2.2.2.1.trans (H1.out.2.mono (by simp))).trans (hb2.mono (by omega))).trans (hb3.mono (by omega))
  obtain ⟨Y, hY⟩ : ∃ Y : Nat → Prop, (fun k => k < (w.alloc (.cells #[.pointer none, .pointer none, .pointer none, .pointer none, .slice none 0 0, .bool false, .int .i64 0, .string ⟨#[]⟩, .bool false, .int .i64 0, .string ⟨#[]⟩] 139)).heap.size ∨ (w1.heap.size ≤ k ∧ k < w2.heap.size)) = Y := ⟨_, rfl⟩
  rw [hY] at s3
  have y0 : ∀ k, k ≤ w.heap.size → Y k := fun k hk => by rw [← hY]; exact Or.inl (by simp; omega)
  have y1 : ∀ k, w1.heap.size ≤ k → k < w2.heap.size → Y k := fun k h1 h2 => by rw [← hY]; exact Or.inr ⟨h1, h2⟩
  have hw : ∀ k, k ≠ w.heap.size → (((((((((((w3.setCell ⟨w.heap.size, 0, none⟩ (PV pm)).setCell ⟨w.heap.size, 1, none⟩ (PV pp)).setCell ⟨w.heap.size, 2, none⟩ (.pointer none)).setCell ⟨w.heap.size, 3, none⟩ (.pointer none)).setCell ⟨w.heap.size, 4, none⟩ (.slice none 0 0)).setCell ⟨w.heap.size, 5, none⟩ (.bool false)).setCell ⟨w.heap.size, 6, none⟩ (.int .i64 0)).setCell ⟨w.heap.size, 7, none⟩ (.string ⟨#[]⟩)).setCell ⟨w.heap.size, 8, none⟩ (.bool false)).setCell ⟨w.heap.size, 9, none⟩ (.int .i64 0)).setCell ⟨w.heap.size, 10, none⟩ (.string ⟨#[]⟩)).heap[k]? = w3.heap[k]? := fun k hk => w23_other hk _ _ _ _ _ _ _ _ _ _ _
  have q4 := w23_heap q3 (PV pm) (PV pp) (.pointer none) (.pointer none) (.slice none 0 0) (.bool false) (.int .i64 0) (.string ⟨#[]⟩) (.bool false) (.int .i64 0) (.string ⟨#[]⟩)
  have s4 : StOn (((((((((((w3.setCell ⟨w.heap.size, 0, none⟩ (PV pm)).setCell ⟨w.heap.size, 1, none⟩ (PV pp)).setCell ⟨w.heap.size, 2, none⟩ (.pointer none)).setCell ⟨w.heap.size, 3, none⟩ (.pointer none)).setCell ⟨w.heap.size, 4, none⟩ (.slice none 0 0)).setCell ⟨w.heap.size, 5, none⟩ (.bool false)).setCell ⟨w.heap.size, 6, none⟩ (.int .i64 0)).setCell ⟨w.heap.size, 7, none⟩ (.string ⟨#[]⟩)).setCell ⟨w.heap.size, 8, none⟩ (.bool false)).setCell ⟨w.heap.size, 9, none⟩ (.int .i64 0)).setCell ⟨w.heap.size, 10, none⟩ (.string ⟨#[]⟩)) ps cu0 Y := s3.write (y0 _ (Nat.le_refl _)) q3 ⟨by decide, by decide⟩ (by simp) (by simp) fun k _ hk => hw k hk
  have m4 : MdK 1 9 w ps pm px cu0 0 Y (((((((((((w3.setCell ⟨w.heap.size, 0, none⟩ (PV pm)).setCell ⟨w.heap.size, 1, none⟩ (PV pp)).setCell ⟨w.heap.size, 2, none⟩ (.pointer none)).setCell ⟨w.heap.size, 3, none⟩ (.pointer none)).setCell ⟨w.heap.size, 4, none⟩ (.slice none 0 0)).setCell ⟨w.heap.size, 5, none⟩ (.bool false)).setCell ⟨w.heap.size, 6, none⟩ (.int .i64 0)).setCell ⟨w.heap.size, 7, none⟩ (.string ⟨#[]⟩)).setCell ⟨w.heap.size, 8, none⟩ (.bool false)).setCell ⟨w.heap.size, 9, none⟩ (.int .i64 0)).setCell ⟨w.heap.size, 10, none⟩ (.string ⟨#[]⟩)) :=
    ⟨s4, cu_inv0, (hw pm (by omega)).trans ((hM.below hb3)), (hw px (by omega)).trans (hT.below hb3), w23_below B3 (Nat.le_refl _) _ _ _ _ _ _ _ _ _ _ _, fun k hk => y0 k (by omega), y1 _ lx (Array.getElem?_eq_some_iff.1 hT).1, y1 _ lm (Array.getElem?_eq_some_iff.1 hM).1, by omega, ne⟩
  have c0 : (w3).cell? ⟨w.heap.size, 0, none⟩ = some (.pointer none) := by rw [cell_of_block q3]; rfl
  have c1 : (w3).cell? ⟨w.heap.size, 1, none⟩ = some (.pointer none) := by rw [cell_of_block q3]; rfl
  have c2 : (w3).cell? ⟨w.heap.size, 2, none⟩ = some (.pointer none) := by rw [cell_of_block q3]; rfl
  have c3 : (w3).cell? ⟨w.heap.size, 3, none⟩ = some (.pointer none) := by rw [cell_of_block q3]; rfl
  have c4 : (w3).cell? ⟨w.heap.size, 4, none⟩ = some (.slice none 0 0) := by rw [cell_of_block q3]; rfl
  have c5 : (w3).cell? ⟨w.heap.size, 5, none⟩ = some (.bool false) := by rw [cell_of_block q3]; rfl
  have c6 : (w3).cell? ⟨w.heap.size, 6, none⟩ = some (.int .i64 0) := by rw [cell_of_block q3]; rfl
  have c7 : (w3).cell? ⟨w.heap.size, 7, none⟩ = some (.string ⟨#[]⟩) := by rw [cell_of_block q3]; rfl
  have c8 : (w3).cell? ⟨w.heap.size, 8, none⟩ = some (.bool false) := by rw [cell_of_block q3]; rfl
  have c9 : (w3).cell? ⟨w.heap.size, 9, none⟩ = some (.int .i64 0) := by rw [cell_of_block q3]; rfl
  have c10 : (w3).cell? ⟨w.heap.size, 10, none⟩ = some (.string ⟨#[]⟩) := by rw [cell_of_block q3]; rfl
  have f0 : (w3).frozen? ⟨w.heap.size, 0, none⟩ = false := frozen_of_block q3
  have f1 : (w3).frozen? ⟨w.heap.size, 1, none⟩ = false := frozen_of_block q3
  have f2 : (w3).frozen? ⟨w.heap.size, 2, none⟩ = false := frozen_of_block q3
  have f3 : (w3).frozen? ⟨w.heap.size, 3, none⟩ = false := frozen_of_block q3
  have f4 : (w3).frozen? ⟨w.heap.size, 4, none⟩ = false := frozen_of_block q3
  have f5 : (w3).frozen? ⟨w.heap.size, 5, none⟩ = false := frozen_of_block q3
  have f6 : (w3).frozen? ⟨w.heap.size, 6, none⟩ = false := frozen_of_block q3
  have f7 : (w3).frozen? ⟨w.heap.size, 7, none⟩ = false := frozen_of_block q3
  have f8 : (w3).frozen? ⟨w.heap.size, 8, none⟩ = false := frozen_of_block q3
  have f9 : (w3).frozen? ⟨w.heap.size, 9, none⟩ = false := frozen_of_block q3
  have f10 : (w3).frozen? ⟨w.heap.size, 10, none⟩ = false := frozen_of_block q3
  have HB := Lib.hid (And.intro q4 m4)
  clear hM hT hb2 lm lx ne z1 z2 q3 s3 B3 hY y0 y1 hw q4 s4 m4 hb3
  go_wp2_with fail
  obtain ⟨q4, m4⟩ := HB.out
  generalize (((((((((((w3.setCell ⟨w.heap.size, 0, none⟩ (PV pm)).setCell ⟨w.heap.size, 1, none⟩ (PV pp)).setCell ⟨w.heap.size, 2, none⟩ (.pointer none)).setCell ⟨w.heap.size, 3, none⟩ (.pointer none)).setCell ⟨w.heap.size, 4, none⟩ (.slice none 0 0)).setCell ⟨w.heap.size, 5, none⟩ (.bool false)).setCell ⟨w.heap.size, 6, none⟩ (.int .i64 0)).setCell ⟨w.heap.size, 7, none⟩ (.string ⟨#[]⟩)).setCell ⟨w.heap.size, 8, none⟩ (.bool false)).setCell ⟨w.heap.size, 9, none⟩ (.int .i64 0)).setCell ⟨w.heap.size, 10, none⟩ (.string ⟨#[]⟩)) = w4 at *
  have e0 : (w4).cell? ⟨w.heap.size, 0, none⟩ = some (PV pm) := by rw [cell_of_block q4]; rfl
  have e1 : (w4).cell? ⟨w.heap.size, 1, none⟩ = some (PV pp) := by rw [cell_of_block q4]; rfl
  have e2 : (w4).cell? ⟨w.heap.size, 2, none⟩ = some (.pointer none) := by rw [cell_of_block q4]; rfl
  have e3 : (w4).cell? ⟨w.heap.size, 3, none⟩ = some (.pointer none) := by rw [cell_of_block q4]; rfl
  have e4 : (w4).cell? ⟨w.heap.size, 4, none⟩ = some (.slice none 0 0) := by rw [cell_of_block q4]; rfl
  have e5 : (w4).cell? ⟨w.heap.size, 5, none⟩ = some (.bool false) := by rw [cell_of_block q4]; rfl
  have e6 : (w4).cell? ⟨w.heap.size, 6, none⟩ = some (.int .i64 0) := by rw [cell_of_block q4]; rfl
  have e7 : (w4).cell? ⟨w.heap.size, 7, none⟩ = some (.string ⟨#[]⟩) := by rw [cell_of_block q4]; rfl
  have e8 : (w4).cell? ⟨w.heap.size, 8, none⟩ = some (.bool false) := by rw [cell_of_block q4]; rfl
  have e9 : (w4).cell? ⟨w.heap.size, 9, none⟩ = some (.int .i64 0) := by rw [cell_of_block q4]; rfl
  have e10 : (w4).cell? ⟨w.heap.size, 10, none⟩ = some (.string ⟨#[]⟩) := by rw [cell_of_block q4]; rfl
  exact bodyPost_ret (v := .tuple #[.agg #[PV pm, PV pp, .pointer none, .pointer none, .slice none 0 0, .bool false, .int .i64 0, .string ⟨#[]⟩, .bool false, .int .i64 0, .string ⟨#[]⟩], .bool true]) (by simp [results, Tryz.f86, go_sem, e0, e1, e2, e3, e4, e5, e6, e7, e8, e9, e10]) rfl ⟨ps, pm, px, pp, Y, rfl, m4⟩

/-- where the walk of what is asked at the end stands: some blocks are as they were made -/
structure AwAt (w : World) (ps pm px pc : Nat) (S : St) (root hh is : Nat) (l : List (Nat × Obj)) (wr : World) : Prop where
  ex : ∃ Y, CuAt 9 w ps pm px pc S root Y hh is wr ∧ ∀ x ∈ l, Y x.1 ∧ x.1 ≠ pc ∧ x.1 ≠ px ∧ wr.heap[x.1]? = some x.2
theorem AwAt.box {w wr : World} {ps pm px pc root hh is : Nat} {S : St} {l : List (Nat × Obj)} (h : AwAt w ps pm px pc S root hh is l wr) (o : Obj) : AwAt w ps pm px pc S root hh is ((wr.heap.size, o) :: l) (wr.alloc o) := by
  obtain ⟨Y, h, hl⟩ := h.ex
  have A := (Below.refl wr.heap.size wr).alloc (Nat.le_refl _) o
  obtain ⟨Z, z1, z2, hz⟩ := h.grow A
  refine ⟨Z, hz, fun x hx => ?_⟩
  rcases List.mem_cons.1 hx with rfl | hx
  · exact ⟨z2 _ (Nat.le_refl _) (by simp), Nat.ne_of_gt h.lt, Nat.ne_of_gt h.ltx, heap_alloc_new wr o⟩
  · obtain ⟨h1, h2, h3, h4⟩ := hl x hx
    exact ⟨z1 _ h1, h2, h3, (A.block _ (Array.getElem?_eq_some_iff.1 h4).1).trans h4⟩
theorem AwAt.at {w wr : World} {ps pm px pc root hh is : Nat} {S : St} {l : List (Nat × Obj)} (h : AwAt w ps pm px pc S root hh is l wr) {b : Nat} {o : Obj} (hb : (b, o) ∈ l) : wr.heap[b]? = some o := by
  obtain ⟨Y, h, hl⟩ := h.ex
  exact (hl _ hb).2.2.2
theorem aw_cur {w wr : World} {ps pm px pc root hh is is' : Nat} {S S' : St} {l : List (Nat × Obj)} (h : AwAt w ps pm px pc S root hh is l wr) {f : FuncId} {args : Array Value} {r : Ending} (hc : ∀ Y, CuAt 9 w ps pm px pc S root Y hh is wr → Calls Tryz.prog f args wr fun e w' => e = r ∧ CuAt 9 w ps pm px pc S' root Y hh is' w' ∧ Keep (fun k => Y k ∧ k ≠ pc) wr w') :
    Calls Tryz.prog f args wr fun e w' => e = r ∧ AwAt w ps pm px pc S' root hh is' l w' := by
  obtain ⟨Y, h, hl⟩ := h.ex
  refine (hc Y h).mono ?_
  rintro e w' ⟨rfl, h1, k1⟩
  exact ⟨rfl, Y, h1, fun x hx => ⟨(hl x hx).1, (hl x hx).2.1, (hl x hx).2.2.1, (k1.block _ ⟨(hl x hx).1, (hl x hx).2.1⟩).trans (hl x hx).2.2.2⟩⟩
theorem aw_map {w wr : World} {ps pm px pc root root' hh is : Nat} {S S' : St} {l : List (Nat × Obj)} (h : AwAt w ps pm px pc S root hh is l wr) {f : FuncId} {args : Array Value} {r : Ending} (hc : ∀ Y, CuAt 9 w ps pm px pc S root Y hh is wr → Calls Tryz.prog f args wr fun e w' => e = r ∧ StOn w' ps S' Y ∧ Keep (fun k => Y k ∧ k ≠ px) wr w' ∧ TreeOn w' px ps 1 root') (hi : Inv S') :
    Calls Tryz.prog f args wr fun e w' => e = r ∧ AwAt w ps pm px pc S' root' hh is l w' := by
  obtain ⟨Y, h, hl⟩ := h.ex
  refine (hc Y h).mono ?_
  rintro e w' ⟨rfl, h1, k1, t1⟩
  exact ⟨rfl, Y, h.change h1 k1 t1 hi, fun x hx => ⟨(hl x hx).1, (hl x hx).2.1, (hl x hx).2.2.1, (k1.block _ ⟨(hl x hx).1, (hl x hx).2.2.1⟩).trans (hl x hx).2.2.2⟩⟩
end Go.Proofs.YtepdkbmnkjfcpaaGreatDoor

namespace Go.Proofs.YtepdkbmnkjfcpaaGreatDoor
open Go.RowKit Go.BigFrame Go.Maps Go.WideMaps Lf

theorem MdK.grow {kind limit : Nat} {w wr w' : World} {ps pm px root : Nat} {S : St} {Y : Nat → Prop} (h : MdK kind limit w ps pm px S root Y wr) (hb : Below wr.heap.size wr w') : ∃ Z : Nat → Prop, (∀ k, Y k → Z k) ∧ (∀ k, wr.heap.size ≤ k → k < w'.heap.size → Z k) ∧ MdK kind limit w ps pm px S root Z w' :=
  ⟨_, fun _ hk => Or.inl hk, fun _ h1 h2 => Or.inr ⟨h1, h2⟩, ⟨h.st.wide hb, h.inv, h.m.below hb, h.t.below hb, h.bl.trans (hb.mono h.bl.size), fun k hk => Or.inl (h.y k hk), Or.inl h.yx, Or.inl h.ym, h.nx, h.ne⟩⟩
theorem md_put {limit : Nat} {w wr : World} {ps pm px root root' : Nat} {S S' : St} {Y : Nat → Prop} (h : MdK 1 limit w ps pm px S root Y wr) (hr : root < 18446744073709551616) (a b : List UInt8) (la : a.length ≤ limit) (lb : b.length ≤ limit) (ok : PutOk S a b) (run : treePutM avlOkM S root a b = some (root', S')) :
    Calls Tryz.prog 30 #[PV pm, SV a, SV b] wr fun e w' => e = .returned (.tuple #[.string ⟨#[]⟩, .bool false, .int .i64 0]) ∧ MdK 1 limit w ps pm px S' root' Y w' ∧ Keep (fun k => Y k ∧ k ≠ px) wr w' := by
  refine (map_put h.st h.inv h.m h.t h.yx hr kind_avl a b la lb ok run).mono ?_
  rintro e w' ⟨rfl, h1, h2, h3, h4, -⟩
  exact ⟨rfl, h.next h1 h2 h3 h4, h2⟩

section
variable {w wr : World} {ps pm px pc : Nat} {l : List (Nat × Obj)}
theorem aw_next1 (h : AwAt w ps pm px pc cu3 4294967302 4294967303 0 l wr) :
    Calls Tryz.prog 50 #[PV pc] wr fun e w' => e = .returned (.tuple #[.agg #[SV [97], SV []], .int .i64 0]) ∧ AwAt w ps pm px pc cu4 4294967302 4294967303 1 l w' :=
  aw_cur h fun Y hY => cu_next_ahead hY (by decide) ([97], []) 0 fun W Z hW => by
    have := cu_pair_ok hW (by decide) (by decide) (by decide) 0 2 (by decide) ([97], []) cu_at3 (by decide)
    rwa [cu_put4] at this
theorem aw_put5 (h : AwAt w ps pm px pc cu4 4294967302 4294967303 1 l wr) :
    Calls Tryz.prog 30 #[PV pm, SV [98], SV [120]] wr fun e w' => e = .returned (.tuple #[.string ⟨#[]⟩, .bool false, .int .i64 0]) ∧ AwAt w ps pm px pc cu5 4294967306 4294967303 1 l w' := by
  have hi : Inv cu5 := invB_ok (by decide +kernel)
  refine aw_map h (fun Y hY => (map_put hY.md.st hY.md.inv hY.md.m hY.md.t hY.md.yx (by decide) kind_avl [98] [120] (by decide) (by decide) cu_ok5 cu_run5).mono ?_) hi
  rintro e w' ⟨rfl, h1, h2, h3, -, -⟩
  exact ⟨rfl, h1, h2, h3⟩
theorem aw_del6 (h : AwAt w ps pm px pc cu5 4294967306 4294967303 1 l wr) :
    Calls Tryz.prog 32 #[PV pm, SV [97]] wr fun e w' => e = .returned (.tuple #[SV [], .int .i64 0]) ∧ AwAt w ps pm px pc cu6 4294967306 4294967303 1 l w' := by
  obtain ⟨F, f1, f2, f3⟩ := cu_down5
  refine aw_map h (fun Y hY => ?_) cu_inv6
  have hd := tree_delete hY.md.st hY.md.inv hY.md.t hY.md.yx (by decide) kind_avl [97] f1 f2 f3 cu_del6 (by decide) (by decide) cu_inv6a (by rw [cu_blob6]; decide) cu_inv6b
  rw [cu_blob6, cu_drop6] at hd
  refine map_delete (Q := fun w' => StOn w' ps cu6 Y ∧ Keep (fun k => Y k ∧ k ≠ px) wr w' ∧ TreeOn w' px ps 1 4294967306) hY.md.m [97] [] (hd.mono ?_)
  rintro e w' ⟨rfl, h1, h2, h3, -⟩
  exact ⟨rfl, h1, h2, h3⟩
theorem aw_next7 (h : AwAt w ps pm px pc cu6 4294967306 4294967303 1 l wr) :
    Calls Tryz.prog 50 #[PV pc] wr fun e w' => e = .returned (.tuple #[.agg #[SV [98], SV [120]], .int .i64 0]) ∧ AwAt w ps pm px pc cu7 4294967306 4294967303 1 l w' :=
  aw_cur h fun Y hY => cu_next_none hY (by decide) (by decide) (by decide) [97] (by decide) cu_get6 cu_words6 0 cu_rank6 [] (fun W Z hW => map_get_none hW.md.m [97] (tree_get_none hW.md.st hW.md.inv hW.md.t (by decide) [97] cu_down6)) ([98], [120]) 0 fun W Z hW => by
    have := cu_pair_ok hW (by decide) (by decide) (by decide) 0 2 (by decide) ([98], [120]) cu_at6 (by decide)
    rwa [cu_put7] at this
theorem aw_next8 (h : AwAt w ps pm px pc cu7 4294967306 4294967303 1 l wr) :
    Calls Tryz.prog 50 #[PV pc] wr fun e w' => e = .returned (.tuple #[.agg #[SV [99], SV []], .int .i64 0]) ∧ AwAt w ps pm px pc cu8 4294967306 4294967303 1 l w' := by
  obtain ⟨F, f1, f2, f3, f4⟩ := foundB_ok cu_found7
  exact aw_cur h fun Y hY => cu_next_found hY (by decide) (by decide) (by decide) [98] (by decide) cu_get7 cu_words7 0 cu_rank7 [120] (fun W Z hW => map_get_some hW.md.m [98] [120] (tree_get_some hW.md.st hW.md.inv hW.md.t (by decide) [98] f1 f2 f3 f4)) ([99], []) 0 fun W Z hW => by
    have := cu_pair_ok hW (by decide) (by decide) (by decide) 1 2 (by decide) ([99], []) cu_at7 (by decide)
    rwa [cu_put8] at this
theorem aw_next9 (h : AwAt w ps pm px pc cu8 4294967306 4294967303 1 l wr) :
    Calls Tryz.prog 50 #[PV pc] wr fun e w' => e = .returned (.tuple #[.agg #[SV [], SV []], .int .i64 5]) ∧ AwAt w ps pm px pc cu9 4294967306 4294967303 2 l w' := by
  obtain ⟨F, f1, f2, f3, f4⟩ := foundB_ok cu_found8
  exact aw_cur h fun Y hY => cu_next_found hY (by decide) (by decide) (by decide) [99] (by decide) cu_get8 cu_words8 1 cu_rank8 [] (fun W Z hW => map_get_some hW.md.m [99] [] (tree_get_some hW.md.st hW.md.inv hW.md.t (by decide) [99] f1 f2 f3 f4)) ([], []) 5 fun W Z hW => by
    have := cu_pair_no hW (by decide) (by decide) (by decide) (by decide) 2 2 (by decide) cu_at8
    rwa [cu_put9] at this
theorem aw_prev10 (h : AwAt w ps pm px pc cu9 4294967306 4294967303 2 l wr) :
    Calls Tryz.prog 51 #[PV pc] wr fun e w' => e = .returned (.tuple #[.agg #[SV [99], SV []], .int .i64 0]) ∧ AwAt w ps pm px pc cu10 4294967306 4294967303 1 l w' :=
  aw_cur h fun Y hY => cu_prev_behind hY (by decide) (by decide) 2 cu_size9 ([99], []) 0 fun W Z hW => by
    have := cu_pair_ok hW (by decide) (by decide) (by decide) 1 0 (by decide) ([99], []) cu_at9 (by decide)
    rw [cu_put10] at this
    exact this
end
theorem pr_eql_bx (W : World) : (binOp .eql 38 (.agg #[SV [98], SV [120]]) (.agg #[SV [98], SV [120]])).run Tryz.prog W = .ok (.bool true) W := by kernel_rfl

set_option maxRecDepth 100000 in
set_option maxHeartbeats 3200000 in
theorem awake23 {w : World} (ht : Tab64 w) :
    Calls Tryz.prog 49 #[] w fun e w' => e = .returned (.bool true) ∧ Below w.heap.size w w' := by
  have HG := Lib.hid (made23 ht)
  have ea := pr_eql_bx
  clear ht
  go_enter Tryz.func49, Tryz.ntmps49
  go_wp2_with fail
  refine HG.out.mono ?_
  rintro e w1 ⟨ps, pm, px, pp, Y, rfl, hm⟩
  have A1 := (Below.refl w1.heap.size w1).alloc (Nat.le_refl _) (.cells #[PV pm, PV pp, .pointer none, .pointer none, .slice none 0 0, .bool false, .int .i64 0, .string ⟨#[]⟩, .bool false, .int .i64 0, .string ⟨#[]⟩] 139)
  have q1 := heap_alloc_new w1 (.cells #[PV pm, PV pp, .pointer none, .pointer none, .slice none 0 0, .bool false, .int .i64 0, .string ⟨#[]⟩, .bool false, .int .i64 0, .string ⟨#[]⟩] 139)
  obtain ⟨Z, z1, z2, hm1⟩ := hm.grow A1
  have zb : Z w1.heap.size := z2 _ (Nat.le_refl _) (by simp)
  have nx : w1.heap.size ≠ px := Nat.ne_of_gt (Array.getElem?_eq_some_iff.1 hm.t).1
  have c0 : ((w1.alloc (.cells #[PV pm, PV pp, .pointer none, .pointer none, .slice none 0 0, .bool false, .int .i64 0, .string ⟨#[]⟩, .bool false, .int .i64 0, .string ⟨#[]⟩] 139))).cell? ⟨w1.heap.size, 0, none⟩ = some (PV pm) := by rw [cell_of_block q1]; rfl
  have c1 : ((w1.alloc (.cells #[PV pm, PV pp, .pointer none, .pointer none, .slice none 0 0, .bool false, .int .i64 0, .string ⟨#[]⟩, .bool false, .int .i64 0, .string ⟨#[]⟩] 139))).cell? ⟨w1.heap.size, 1, none⟩ = some (PV pp) := by rw [cell_of_block q1]; rfl
  have c2 : ((w1.alloc (.cells #[PV pm, PV pp, .pointer none, .pointer none, .slice none 0 0, .bool false, .int .i64 0, .string ⟨#[]⟩, .bool false, .int .i64 0, .string ⟨#[]⟩] 139))).cell? ⟨w1.heap.size, 2, none⟩ = some (.pointer none) := by rw [cell_of_block q1]; rfl
  have c3 : ((w1.alloc (.cells #[PV pm, PV pp, .pointer none, .pointer none, .slice none 0 0, .bool false, .int .i64 0, .string ⟨#[]⟩, .bool false, .int .i64 0, .string ⟨#[]⟩] 139))).cell? ⟨w1.heap.size, 3, none⟩ = some (.pointer none) := by rw [cell_of_block q1]; rfl
  have c4 : ((w1.alloc (.cells #[PV pm, PV pp, .pointer none, .pointer none, .slice none 0 0, .bool false, .int .i64 0, .string ⟨#[]⟩, .bool false, .int .i64 0, .string ⟨#[]⟩] 139))).cell? ⟨w1.heap.size, 4, none⟩ = some (.slice none 0 0) := by rw [cell_of_block q1]; rfl
  have c5 : ((w1.alloc (.cells #[PV pm, PV pp, .pointer none, .pointer none, .slice none 0 0, .bool false, .int .i64 0, .string ⟨#[]⟩, .bool false, .int .i64 0, .string ⟨#[]⟩] 139))).cell? ⟨w1.heap.size, 5, none⟩ = some (.bool false) := by rw [cell_of_block q1]; rfl
  have c6 : ((w1.alloc (.cells #[PV pm, PV pp, .pointer none, .pointer none, .slice none 0 0, .bool false, .int .i64 0, .string ⟨#[]⟩, .bool false, .int .i64 0, .string ⟨#[]⟩] 139))).cell? ⟨w1.heap.size, 6, none⟩ = some (.int .i64 0) := by rw [cell_of_block q1]; rfl
  have c7 : ((w1.alloc (.cells #[PV pm, PV pp, .pointer none, .pointer none, .slice none 0 0, .bool false, .int .i64 0, .string ⟨#[]⟩, .bool false, .int .i64 0, .string ⟨#[]⟩] 139))).cell? ⟨w1.heap.size, 7, none⟩ = some (.string ⟨#[]⟩) := by rw [cell_of_block q1]; rfl
  have c8 : ((w1.alloc (.cells #[PV pm, PV pp, .pointer none, .pointer none, .slice none 0 0, .bool false, .int .i64 0, .string ⟨#[]⟩, .bool false, .int .i64 0, .string ⟨#[]⟩] 139))).cell? ⟨w1.heap.size, 8, none⟩ = some (.bool false) := by rw [cell_of_block q1]; rfl
  have c9 : ((w1.alloc (.cells #[PV pm, PV pp, .pointer none, .pointer none, .slice none 0 0, .bool false, .int .i64 0, .string ⟨#[]⟩, .bool false, .int .i64 0, .string ⟨#[]⟩] 139))).cell? ⟨w1.heap.size, 9, none⟩ = some (.int .i64 0) := by rw [cell_of_block q1]; rfl
  have c10 : ((w1.alloc (.cells #[PV pm, PV pp, .pointer none, .pointer none, .slice none 0 0, .bool false, .int .i64 0, .string ⟨#[]⟩, .bool false, .int .i64 0, .string ⟨#[]⟩] 139))).cell? ⟨w1.heap.size, 10, none⟩ = some (.string ⟨#[]⟩) := by rw [cell_of_block q1]; rfl
  have H1 := Lib.hid (And.intro hm1 (And.intro q1 (And.intro zb nx)))
  clear hm A1 q1 z1 z2 hm1 zb nx
  go_wp2_with fail
  refine (md_put H1.out.1 (by decide) [97] [] (by decide) (by decide) cu_ok1 cu_run1).mono ?_
  rintro e w2 ⟨rfl, hm2, k2⟩
  have q2 := (k2.block _ ⟨H1.out.2.2.1, H1.out.2.2.2⟩).trans H1.out.2.1
  have d0 : (w2).cell? ⟨w1.heap.size, 0, none⟩ = some (PV pm) := by rw [cell_of_block q2]; rfl
  have d1 : (w2).cell? ⟨w1.heap.size, 1, none⟩ = some (PV pp) := by rw [cell_of_block q2]; rfl
  have d2 : (w2).cell? ⟨w1.heap.size, 2, none⟩ = some (.pointer none) := by rw [cell_of_block q2]; rfl
  have d3 : (w2).cell? ⟨w1.heap.size, 3, none⟩ = some (.pointer none) := by rw [cell_of_block q2]; rfl
  have d4 : (w2).cell? ⟨w1.heap.size, 4, none⟩ = some (.slice none 0 0) := by rw [cell_of_block q2]; rfl
  have d5 : (w2).cell? ⟨w1.heap.size, 5, none⟩ = some (.bool false) := by rw [cell_of_block q2]; rfl
  have d6 : (w2).cell? ⟨w1.heap.size, 6, none⟩ = some (.int .i64 0) := by rw [cell_of_block q2]; rfl
  have d7 : (w2).cell? ⟨w1.heap.size, 7, none⟩ = some (.string ⟨#[]⟩) := by rw [cell_of_block q2]; rfl
  have d8 : (w2).cell? ⟨w1.heap.size, 8, none⟩ = some (.bool false) := by rw [cell_of_block q2]; rfl
  have d9 : (w2).cell? ⟨w1.heap.size, 9, none⟩ = some (.int .i64 0) := by rw [cell_of_block q2]; rfl
  have d10 : (w2).cell? ⟨w1.heap.size, 10, none⟩ = some (.string ⟨#[]⟩) := by rw [cell_of_block q2]; rfl
  have H2 := Lib.hid (And.intro hm2 q2)
  clear hm2 k2 q2 c0 c1 c2 c3 c4 c5 c6 c7 c8 c9 c10
  go_wp2_with fail
  refine (md_put H2.out.1 (by decide) [99] [] (by decide) (by decide) cu_ok2 cu_run2).mono ?_
  rintro e w3 ⟨rfl, hm3, k3⟩
  have q3 := (k3.block _ ⟨H1.out.2.2.1, H1.out.2.2.2⟩).trans H2.out.2
  have c0 : (w3).cell? ⟨w1.heap.size, 0, none⟩ = some (PV pm) := by rw [cell_of_block q3]; rfl
  have c1 : (w3).cell? ⟨w1.heap.size, 1, none⟩ = some (PV pp) := by rw [cell_of_block q3]; rfl
  have c2 : (w3).cell? ⟨w1.heap.size, 2, none⟩ = some (.pointer none) := by rw [cell_of_block q3]; rfl
  have c3 : (w3).cell? ⟨w1.heap.size, 3, none⟩ = some (.pointer none) := by rw [cell_of_block q3]; rfl
  have c4 : (w3).cell? ⟨w1.heap.size, 4, none⟩ = some (.slice none 0 0) := by rw [cell_of_block q3]; rfl
  have c5 : (w3).cell? ⟨w1.heap.size, 5, none⟩ = some (.bool false) := by rw [cell_of_block q3]; rfl
  have c6 : (w3).cell? ⟨w1.heap.size, 6, none⟩ = some (.int .i64 0) := by rw [cell_of_block q3]; rfl
  have c7 : (w3).cell? ⟨w1.heap.size, 7, none⟩ = some (.string ⟨#[]⟩) := by rw [cell_of_block q3]; rfl
  have c8 : (w3).cell? ⟨w1.heap.size, 8, none⟩ = some (.bool false) := by rw [cell_of_block q3]; rfl
  have c9 : (w3).cell? ⟨w1.heap.size, 9, none⟩ = some (.int .i64 0) := by rw [cell_of_block q3]; rfl
  have c10 : (w3).cell? ⟨w1.heap.size, 10, none⟩ = some (.string ⟨#[]⟩) := by rw [cell_of_block q3]; rfl
  have H3 := Lib.hid (And.intro hm3 q3)
  clear hm3 k3 q3 d0 d1 d2 d3 d4 d5 d6 d7 d8 d9 d10
  go_wp2_with fail
  refine (cursor_open H3.out.1 (by decide) cu_mk3 cu_make3).mono ?_
  rintro e w4 ⟨pc, X, rfl, xz, lpc, hc4, k4⟩
  have q4 := (k4.block _ H1.out.2.2.1).trans H3.out.2
  have a4 : AwAt w ps pm px pc cu3 4294967302 4294967303 0 [(w1.heap.size, .cells #[PV pm, PV pp, .pointer none, .pointer none, .slice none 0 0, .bool false, .int .i64 0, .string ⟨#[]⟩, .bool false, .int .i64 0, .string ⟨#[]⟩] 139)] w4 := ⟨X, hc4, fun x hx => by
    rcases List.mem_singleton.1 hx with rfl
    exact ⟨xz _ H1.out.2.2.1, by have := (Array.getElem?_eq_some_iff.1 H3.out.2).1; simp only; omega, H1.out.2.2.2, q4⟩⟩
  have H4 := Lib.hid a4
  clear a4 xz lpc hc4 k4 q4 c0 c1 c2 c3 c4 c5 c6 c7 c8 c9 c10
  go_wp2_with fail
  refine (aw_next1 H4.out).mono ?_
  rintro e w5 ⟨rfl, a5⟩
  have a5' := a5.box (.cells #[SV [97], SV []] 38)
  have q5 := a5'.at (b := w1.heap.size) (List.mem_cons_of_mem _ (List.mem_singleton.2 rfl))
  have c0 : ((w5.alloc (.cells #[SV [97], SV []] 38))).cell? ⟨w1.heap.size, 0, none⟩ = some (PV pm) := by rw [cell_of_block q5]; rfl
  have c1 : ((w5.alloc (.cells #[SV [97], SV []] 38))).cell? ⟨w1.heap.size, 1, none⟩ = some (PV pp) := by rw [cell_of_block q5]; rfl
  have c2 : ((w5.alloc (.cells #[SV [97], SV []] 38))).cell? ⟨w1.heap.size, 2, none⟩ = some (.pointer none) := by rw [cell_of_block q5]; rfl
  have c3 : ((w5.alloc (.cells #[SV [97], SV []] 38))).cell? ⟨w1.heap.size, 3, none⟩ = some (.pointer none) := by rw [cell_of_block q5]; rfl
  have c4 : ((w5.alloc (.cells #[SV [97], SV []] 38))).cell? ⟨w1.heap.size, 4, none⟩ = some (.slice none 0 0) := by rw [cell_of_block q5]; rfl
  have c5 : ((w5.alloc (.cells #[SV [97], SV []] 38))).cell? ⟨w1.heap.size, 5, none⟩ = some (.bool false) := by rw [cell_of_block q5]; rfl
  have c6 : ((w5.alloc (.cells #[SV [97], SV []] 38))).cell? ⟨w1.heap.size, 6, none⟩ = some (.int .i64 0) := by rw [cell_of_block q5]; rfl
  have c7 : ((w5.alloc (.cells #[SV [97], SV []] 38))).cell? ⟨w1.heap.size, 7, none⟩ = some (.string ⟨#[]⟩) := by rw [cell_of_block q5]; rfl
  have c8 : ((w5.alloc (.cells #[SV [97], SV []] 38))).cell? ⟨w1.heap.size, 8, none⟩ = some (.bool false) := by rw [cell_of_block q5]; rfl
  have c9 : ((w5.alloc (.cells #[SV [97], SV []] 38))).cell? ⟨w1.heap.size, 9, none⟩ = some (.int .i64 0) := by rw [cell_of_block q5]; rfl
  have c10 : ((w5.alloc (.cells #[SV [97], SV []] 38))).cell? ⟨w1.heap.size, 10, none⟩ = some (.string ⟨#[]⟩) := by rw [cell_of_block q5]; rfl
  have H5 := Lib.hid a5'
  clear a5 a5' q5
  go_wp2_with fail
  refine (aw_put5 H5.out).mono ?_
  rintro e w6 ⟨rfl, a6⟩
  have q6 := a6.at (b := w1.heap.size) (List.mem_cons_of_mem _ (List.mem_singleton.2 rfl))
  have d0 : (w6).cell? ⟨w1.heap.size, 0, none⟩ = some (PV pm) := by rw [cell_of_block q6]; rfl
  have d1 : (w6).cell? ⟨w1.heap.size, 1, none⟩ = some (PV pp) := by rw [cell_of_block q6]; rfl
  have d2 : (w6).cell? ⟨w1.heap.size, 2, none⟩ = some (.pointer none) := by rw [cell_of_block q6]; rfl
  have d3 : (w6).cell? ⟨w1.heap.size, 3, none⟩ = some (.pointer none) := by rw [cell_of_block q6]; rfl
  have d4 : (w6).cell? ⟨w1.heap.size, 4, none⟩ = some (.slice none 0 0) := by rw [cell_of_block q6]; rfl
  have d5 : (w6).cell? ⟨w1.heap.size, 5, none⟩ = some (.bool false) := by rw [cell_of_block q6]; rfl
  have d6 : (w6).cell? ⟨w1.heap.size, 6, none⟩ = some (.int .i64 0) := by rw [cell_of_block q6]; rfl
  have d7 : (w6).cell? ⟨w1.heap.size, 7, none⟩ = some (.string ⟨#[]⟩) := by rw [cell_of_block q6]; rfl
  have d8 : (w6).cell? ⟨w1.heap.size, 8, none⟩ = some (.bool false) := by rw [cell_of_block q6]; rfl
  have d9 : (w6).cell? ⟨w1.heap.size, 9, none⟩ = some (.int .i64 0) := by rw [cell_of_block q6]; rfl
  have d10 : (w6).cell? ⟨w1.heap.size, 10, none⟩ = some (.string ⟨#[]⟩) := by rw [cell_of_block q6]; rfl
  have H6 := Lib.hid a6
  clear a6 q6 c0 c1 c2 c3 c4 c5 c6 c7 c8 c9 c10
  go_wp2_with fail
  refine (aw_del6 H6.out).mono ?_
  rintro e w7 ⟨rfl, a7⟩
  have H7 := Lib.hid a7
  clear a7 d0 d1 d2 d3 d4 d5 d6 d7 d8 d9 d10
  go_wp2_with fail
  refine (aw_next7 H7.out).mono ?_
  rintro e w8 ⟨rfl, a8⟩
  have H8 := Lib.hid (a8.box (.cells #[SV [98], SV [120]] 38))
  clear a8
  go_wp2_with fail
  refine (aw_next8 H8.out).mono ?_
  rintro e w9 ⟨rfl, a9⟩
  have H9 := Lib.hid (a9.box (.cells #[SV [99], SV []] 38))
  clear a9
  go_wp2_with fail
  refine (aw_next9 H9.out).mono ?_
  rintro e w10 ⟨rfl, a10⟩
  have H10 := Lib.hid (a10.box (.cells #[SV [], SV []] 38))
  clear a10
  go_wp2_with fail
  refine (aw_prev10 H10.out).mono ?_
  rintro e w11 ⟨rfl, a11⟩
  have a11' := a11.box (.cells #[SV [99], SV []] 38)
  have qa := a11'.at (b := w5.heap.size) (o := .cells #[SV [97], SV []] 38) (by simp)
  have qb := a11'.at (b := w8.heap.size) (o := .cells #[SV [98], SV [120]] 38) (by simp)
  have qd := a11'.at (b := w11.heap.size) (o := .cells #[SV [99], SV []] 38) (by simp)
  have c0 : ((w11.alloc (.cells #[SV [99], SV []] 38))).cell? ⟨w5.heap.size, 0, none⟩ = some (SV [97]) := by rw [cell_of_block qa]; rfl
  have c1 : ((w11.alloc (.cells #[SV [99], SV []] 38))).cell? ⟨w5.heap.size, 1, none⟩ = some (SV []) := by rw [cell_of_block qa]; rfl
  have d0 : ((w11.alloc (.cells #[SV [99], SV []] 38))).cell? ⟨w8.heap.size, 0, none⟩ = some (SV [98]) := by rw [cell_of_block qb]; rfl
  have d1 : ((w11.alloc (.cells #[SV [99], SV []] 38))).cell? ⟨w8.heap.size, 1, none⟩ = some (SV [120]) := by rw [cell_of_block qb]; rfl
  have f0 : ((w11.alloc (.cells #[SV [99], SV []] 38))).cell? ⟨w11.heap.size, 0, none⟩ = some (SV [99]) := by rw [cell_of_block qd]; rfl
  have f1 : ((w11.alloc (.cells #[SV [99], SV []] 38))).cell? ⟨w11.heap.size, 1, none⟩ = some (SV []) := by rw [cell_of_block qd]; rfl
  obtain ⟨Y11, h11, -⟩ := a11'.ex
  have H11 := Lib.hid h11.md.bl
  clear a11 a11' qa qb qd h11
  go_wp2_with fail
  go_ret
  exact ⟨rfl, H11.out⟩
end Go.Proofs.YtepdkbmnkjfcpaaGreatDoor

namespace Go.Proofs.YtepdkbmnkjfcpaaGreatDoor
open Go.RowKit Go.BigFrame Go.Maps Go.WideMaps Lf

/-- a world of the walk: the unmade cursor's block stands, and v is no cursor -/
structure NcAt (w : World) (pz : Nat) (v : Value) (W : World) : Prop where
  bl : Below w.heap.size w W
  z : W.heap[pz]? = some (.cells #[.pointer none, .pointer none, .int .u64 0, .int .i64 0] 82)
  no : NoC W v
theorem NcAt.below {w : World} {pz : Nat} {v : Value} {W W' : World} (h : NcAt w pz v W) (hb : Below W.heap.size W W') : NcAt w pz v W' :=
  ⟨h.bl.trans (hb.mono h.bl.size), (hb.block _ (Array.getElem?_eq_some_iff.1 h.z).1).trans h.z, h.no.below hb⟩
theorem NcAt.alloc {w : World} {pz : Nat} {v : Value} {W : World} (h : NcAt w pz v W) (o : Obj) : NcAt w pz v (W.alloc o) := h.below ((Below.refl _ W).alloc (Nat.le_refl _) o)
theorem pr_neq_zz (W : World) : (binOp .neq 38 (.agg #[.string ⟨#[]⟩, .string ⟨#[]⟩]) (.agg #[.string ⟨#[]⟩, .string ⟨#[]⟩])).run Tryz.prog W = .ok (.bool false) W := by kernel_rfl

set_option maxRecDepth 100000 in
set_option maxHeartbeats 3200000 in
theorem cursorNone_walk (key : List UInt8) {w : World} (ht : Tab64 w) :
    Calls Tryz.prog 6 #[SV key] w fun e w' => e = .returned (.bool true) ∧ Below w.heap.size w w' := by
  have haw := fun W (hW : Below w.heap.size w W) => awake23 (ht.of_block (hW.block _ ht.lt))
  have HG := Lib.hid haw
  have ez := pr_neq_zz
  clear haw ht
  by_cases h1 : 2000 < key.length
  ·
    have q1 : (2000 : Int) < key.length := by omega
    go_enter Tryz.func6, Tryz.ntmps6
    go_wp2_with fail
    refine (HG.out _ (Below.refl _ _)).mono ?_
    rintro e w1 ⟨rfl, hb1⟩
    have H1 := Lib.hid hb1
    clear hb1
    go_wp2_with fail
    go_ret
    exact ⟨rfl, H1.out⟩
  have q1 : ¬ (2000 : Int) < key.length := by omega
  go_enter Tryz.func6, Tryz.ntmps6
  go_wp2_with fail
  have N0 : ∀ v, v = .pointer none ∨ v = PV w.heap.size → NcAt w w.heap.size v (w.alloc (.cells #[.pointer none, .pointer none, .int .u64 0, .int .i64 0] 82)) := fun v hv =>
    have q := heap_alloc_new w (.cells #[.pointer none, .pointer none, .int .u64 0, .int .i64 0] 82)
    ⟨(Below.refl _ w).alloc (Nat.le_refl _) _, q, hv.imp id fun e => ⟨_, e, q⟩⟩
  have HN0 := Lib.hid N0
  clear N0
  generalize w.alloc (.cells #[.pointer none, .pointer none, .int .u64 0, .int .i64 0] 82) = W0 at *
  go_loopw [3, 5, 6, 7, 8, 9, 10, 11] (fun m i _ _ _ _ _ _ wr => ((i = .int .i64 0 ∧ m = .pointer none) ∨ (i = .int .i64 1 ∧ m = .pointer none) ∨ (i = .int .i64 2 ∧ m = PV w.heap.size)) ∧ NcAt w w.heap.size m wr) (fun _ i _ _ _ _ _ _ _ => 2 - (intOf i).toNat)
  case atStart => exact ⟨Or.inl ⟨rfl, rfl⟩, HN0.out _ (Or.inl rfl)⟩
  case round =>
    obtain ⟨hr, hN⟩ := hrel
    rcases hr with ⟨rfl, rfl⟩ | ⟨rfl, rfl⟩ | ⟨rfl, rfl⟩
    ·
      have hN1 := hN
      have HN := Lib.hid hN1
      clear hN hN1
      go_wp2_with fail
      refine (noc_next HN.out.no).mono ?_
      rintro e w3 ⟨rfl, hb⟩
      have hN3 := (HN.out.below hb).alloc (.cells #[.string ⟨#[]⟩, .string ⟨#[]⟩] 38)
      have y3 := heap_alloc_new w3 (.cells #[.string ⟨#[]⟩, .string ⟨#[]⟩] 38)
      have H3 := Lib.hid (And.intro hN3 y3)
      clear hb hN3 y3 HN
      go_wp2_with fail
      refine (noc_prev H3.out.1.no).mono ?_
      rintro e w4 ⟨rfl, hb⟩
      have y4 := (hb.block w3.heap.size (Array.getElem?_eq_some_iff.1 H3.out.2).1).trans H3.out.2
      have A4 := (Below.refl w4.heap.size w4).alloc (Nat.le_refl _) (.cells #[.string ⟨#[]⟩, .string ⟨#[]⟩] 38)
      have y5 := (A4.block w3.heap.size (Array.getElem?_eq_some_iff.1 y4).1).trans y4
      have z5 := heap_alloc_new w4 (.cells #[.string ⟨#[]⟩, .string ⟨#[]⟩] 38)
      have H4 := Lib.hid (And.intro ((H3.out.1.below hb).alloc (.cells #[.string ⟨#[]⟩, .string ⟨#[]⟩] 38)) (And.intro y5 z5))
      have c0 : ((w4.alloc (.cells #[.string ⟨#[]⟩, .string ⟨#[]⟩] 38))).cell? ⟨w3.heap.size, 0, none⟩ = some (.string ⟨#[]⟩) := by rw [cell_of_block y5]; rfl
      have c1 : ((w4.alloc (.cells #[.string ⟨#[]⟩, .string ⟨#[]⟩] 38))).cell? ⟨w3.heap.size, 1, none⟩ = some (.string ⟨#[]⟩) := by rw [cell_of_block y5]; rfl
      have d0 : ((w4.alloc (.cells #[.string ⟨#[]⟩, .string ⟨#[]⟩] 38))).cell? ⟨w4.heap.size, 0, none⟩ = some (.string ⟨#[]⟩) := by rw [cell_of_block z5]; rfl
      have d1 : ((w4.alloc (.cells #[.string ⟨#[]⟩, .string ⟨#[]⟩] 38))).cell? ⟨w4.heap.size, 1, none⟩ = some (.string ⟨#[]⟩) := by rw [cell_of_block z5]; rfl
      clear hb y4 A4 y5 z5 H3
      go_wp2_with fail
      refine (noc_key H4.out.1.no).mono ?_
      rintro e wx ⟨rfl, rfl⟩
      go_wp2_with fail
      refine (noc_seek H4.out.1.no key).mono ?_
      rintro e wx ⟨rfl, rfl⟩
      go_wp2_with fail
      refine (noc_first H4.out.1.no).mono ?_
      rintro e wx ⟨rfl, rfl⟩
      go_wp2_with fail
      refine (noc_last H4.out.1.no).mono ?_
      rintro e wx ⟨rfl, rfl⟩
      go_wp2_with fail
      refine (noc_close H4.out.1.no).mono ?_
      rintro e wx ⟨rfl, rfl⟩
      go_wp2_with fail
      refine (noc_handle H4.out.1.no).mono ?_
      rintro e wx ⟨rfl, rfl⟩
      go_wp2_with fail
      refine (noc_store H4.out.1.no).mono ?_
      rintro e wx ⟨rfl, rfl⟩
      go_wp2_with fail
      go_roundw
      case rel => exact ⟨Or.inr (Or.inl ⟨by simp, rfl⟩), H4.out.1⟩
      case measure => simp [intOf]
    ·
      have hN1 : NcAt w w.heap.size (PV w.heap.size) wr := ⟨hN.bl, hN.z, Or.inr ⟨_, rfl, hN.z⟩⟩
      have HN := Lib.hid hN1
      clear hN hN1
      go_wp2_with fail
      refine (noc_next HN.out.no).mono ?_
      rintro e w3 ⟨rfl, hb⟩
      have hN3 := (HN.out.below hb).alloc (.cells #[.string ⟨#[]⟩, .string ⟨#[]⟩] 38)
      have y3 := heap_alloc_new w3 (.cells #[.string ⟨#[]⟩, .string ⟨#[]⟩] 38)
      have H3 := Lib.hid (And.intro hN3 y3)
      clear hb hN3 y3 HN
      go_wp2_with fail
      refine (noc_prev H3.out.1.no).mono ?_
      rintro e w4 ⟨rfl, hb⟩
      have y4 := (hb.block w3.heap.size (Array.getElem?_eq_some_iff.1 H3.out.2).1).trans H3.out.2
      have A4 := (Below.refl w4.heap.size w4).alloc (Nat.le_refl _) (.cells #[.string ⟨#[]⟩, .string ⟨#[]⟩] 38)
      have y5 := (A4.block w3.heap.size (Array.getElem?_eq_some_iff.1 y4).1).trans y4
      have z5 := heap_alloc_new w4 (.cells #[.string ⟨#[]⟩, .string ⟨#[]⟩] 38)
      have H4 := Lib.hid (And.intro ((H3.out.1.below hb).alloc (.cells #[.string ⟨#[]⟩, .string ⟨#[]⟩] 38)) (And.intro y5 z5))
      have c0 : ((w4.alloc (.cells #[.string ⟨#[]⟩, .string ⟨#[]⟩] 38))).cell? ⟨w3.heap.size, 0, none⟩ = some (.string ⟨#[]⟩) := by rw [cell_of_block y5]; rfl
      have c1 : ((w4.alloc (.cells #[.string ⟨#[]⟩, .string ⟨#[]⟩] 38))).cell? ⟨w3.heap.size, 1, none⟩ = some (.string ⟨#[]⟩) := by rw [cell_of_block y5]; rfl
      have d0 : ((w4.alloc (.cells #[.string ⟨#[]⟩, .string ⟨#[]⟩] 38))).cell? ⟨w4.heap.size, 0, none⟩ = some (.string ⟨#[]⟩) := by rw [cell_of_block z5]; rfl
      have d1 : ((w4.alloc (.cells #[.string ⟨#[]⟩, .string ⟨#[]⟩] 38))).cell? ⟨w4.heap.size, 1, none⟩ = some (.string ⟨#[]⟩) := by rw [cell_of_block z5]; rfl
      clear hb y4 A4 y5 z5 H3
      go_wp2_with fail
      refine (noc_key H4.out.1.no).mono ?_
      rintro e wx ⟨rfl, rfl⟩
      go_wp2_with fail
      refine (noc_seek H4.out.1.no key).mono ?_
      rintro e wx ⟨rfl, rfl⟩
      go_wp2_with fail
      refine (noc_first H4.out.1.no).mono ?_
      rintro e wx ⟨rfl, rfl⟩
      go_wp2_with fail
      refine (noc_last H4.out.1.no).mono ?_
      rintro e wx ⟨rfl, rfl⟩
      go_wp2_with fail
      refine (noc_close H4.out.1.no).mono ?_
      rintro e wx ⟨rfl, rfl⟩
      go_wp2_with fail
      refine (noc_handle H4.out.1.no).mono ?_
      rintro e wx ⟨rfl, rfl⟩
      go_wp2_with fail
      refine (noc_store H4.out.1.no).mono ?_
      rintro e wx ⟨rfl, rfl⟩
      go_wp2_with fail
      go_roundw
      case rel => exact ⟨Or.inr (Or.inr ⟨by simp, rfl⟩), H4.out.1⟩
      case measure => simp [intOf]
    ·
      have HN := Lib.hid hN
      clear hN
      go_wp2_with fail
      refine (cursor_open_nil _).mono ?_
      rintro e wx ⟨rfl, rfl⟩
      go_wp2_with fail
      refine (HG.out _ HN.out.bl).mono ?_
      rintro e w9 ⟨rfl, hb9⟩
      have H9 := Lib.hid (HN.out.bl.trans (hb9.mono HN.out.bl.size))
      clear hb9
      go_wp2_with fail
      go_ret
      exact ⟨rfl, H9.out⟩
end Go.Proofs.YtepdkbmnkjfcpaaGreatDoor
