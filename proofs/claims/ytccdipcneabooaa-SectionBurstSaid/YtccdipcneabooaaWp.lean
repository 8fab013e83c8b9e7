import Derived.Test.YtccdipcneabooaaWb
import Derived.Test.YtccdipcneabooaaL2
namespace Go.Proofs.Ytccdipcneabooaa
open Go.RowKit Go.BigFrame

def z4 : Array Value := Array.replicate 4 (.int .u8 0)

theorem patch_calls (s : ByteArray) (a want : Nat) (hs : s.size ≤ 2147483648) (ha : a + 4 ≤ s.size) (hw : want < 4294967296) :
    CallsU 34 #[.int .u32 4294967295, .string (s.extract 0 a)] (Crc.run (Crc.inv 0) (s.data.toList.take a)) ∧ CallsU 35 #[.int .u32 (Crc.inv want : Int), .string (s.extract (a + 4) s.size)] (Crc.back (Crc.inv want) (s.data.toList.drop (a + 4))) := by
  refine ⟨CallsU.of_eq (fun W => run_any 4294967295 _ W (by decide) (by simp; omega)) ?_, CallsU.of_eq (fun W => back_any _ _ W (Crc.inv_lt hw) (by simp; omega)) ?_⟩
  · rw [show (s.extract 0 a).data.toList = s.data.toList.take a by simp]
    rfl
  · rw [show (s.extract (a + 4) s.size).data.toList = s.data.toList.drop (a + 4) by simp [List.take_of_length_le]]

/-- a state's cell, and what is left behind it, by the walk's own operations -/
theorem nb_ops (need j : Nat) (h : need < 4294967296) : ∃ q i d : Nat, q < 256 ∧ (Crc.nb need j : Int) / 16777216 = (q : Int) ∧ i < 256 ∧ Crc.wy need j = i ∧ Crc.fr q = i ∧ bits .xor .u32 (Crc.nb need j : Int) (Crc.tab i : Int) = (d : Int) ∧ d < 16777216 ∧ (d : Int) * 256 = (Crc.nb need (j + 1) : Int) := by
  have hn := Crc.nb_lt h j
  have ht := Crc.top_facts (Crc.nb need j / 16777216) (by omega)
  refine ⟨Crc.nb need j / 16777216, Crc.wy need j, Crc.left (Crc.nb need j), by omega, by omega, ht.2.2.2, rfl, rfl, u32_xor_nat _ _ hn (Crc.tab_lt _ ht.2.2.2), Crc.left_lt hn, ?_⟩
  show _ = ((Crc.left (Crc.nb need j) * 256 : Nat) : Int)
  simp
/-- one of the four bytes, and the state behind it, by the walk's own operations -/
theorem pb_ops (need h0 k : Nat) (h : need < 4294967296) (hh : h0 < 4294967296) : ∃ i e : Nat, i < 256 ∧ Crc.wy need (3 - k) = i ∧ bits .xor .u8 (i : Int) ((Crc.hv need h0 k : Int) % 256) = (e : Int) ∧ e < 256 ∧ Crc.pb need h0 k = e ∧
    bits .xor .u32 (Crc.tab i : Int) ((Crc.hv need h0 k : Int) / 256) = (Crc.hv need h0 (k + 1) : Int) := by
  have hv := Crc.hv_lt h hh k
  have hw := Crc.wy_lt h (3 - k)
  have e1 : ((Crc.hv need h0 k : Int) % 256) = ((Crc.hv need h0 k % 256 : Nat) : Int) := by omega
  have e2 : ((Crc.hv need h0 k : Int) / 256) = ((Crc.hv need h0 k / 256 : Nat) : Int) := by omega
  refine ⟨Crc.wy need (3 - k), Crc.pb need h0 k, hw, rfl, ?_, Crc.pb_lt h k, rfl, ?_⟩
  · rw [e1]; exact u8_xor_nat _ _ hw (by omega)
  · rw [e2]; exact u32_xor_nat _ _ (Crc.tab_lt _ hw) (by omega)
/-- the cells of the text behind k of the four rounds -/
def Pc (s : ByteArray) (a need h0 k : Nat) (bs : Array Value) : Prop := ∀ j, j < s.size → bs[j]? = some (.int .u8 ((if a ≤ j ∧ j < a + k then Crc.pb need h0 (j - a) else byteAt s j : Nat) : Int))
theorem Pc.step {s : ByteArray} {a need h0 k : Nat} {bs : Array Value} (h : Pc s a need h0 k bs) (hk : a + k < s.size) : Pc s a need h0 (k + 1) (bs.setIfInBounds (a + k) (.int .u8 (Crc.pb need h0 k : Int))) := by
  intro j hj
  have hb : a + k < bs.size := by
    have := h (a + k) hk
    rw [Array.getElem?_eq_some_iff] at this
    exact this.1
  rw [Array.getElem?_setIfInBounds]
  by_cases e : a + k = j
  · subst e
    rw [if_pos rfl, if_pos hb, if_pos ⟨by omega, by omega⟩, show a + k - a = k by omega]
  · rw [if_neg e, h j hj]
    by_cases h2 : a ≤ j ∧ j < a + k
    · rw [if_pos h2, if_pos ⟨h2.1, by omega⟩]
    · rw [if_neg h2, if_neg (by omega)]
theorem heap_setCell_mark (w : World) (g i : Nat) (cs : Array Value) (t : TypeId) (fr : Nat × Nat) (v : Value) (hg : w.heap[g]? = some (.cells cs t fr)) : (w.setCell ⟨g, i, none⟩ v).heap[g]? = some (.cells (cs.setIfInBounds i v) t fr) := by
  simp [World.setCell, Array.getElem?_modify, hg]

/-- '[]byte(s)' in a new block: its cells, its mark, what lay below -/
theorem bytes_block (W : World) (s : ByteArray) (cap : Nat) : ∃ bs : Array Value, ∃ fr : Nat × Nat, s.size ≤ fr.1 ∧ (∀ j, j < s.size → bs[j]? = some (.int .u8 (byteAt s j : Int))) ∧
    ((W.alloc (.cells (bytesRow s cap) 5 ((bytesRow s cap).size, (bytesRow s cap).size + 1))).drew).heap[W.heap.size]? = some (.cells bs 5 fr) ∧
    (∀ k, k < W.heap.size → ((W.alloc (.cells (bytesRow s cap) 5 ((bytesRow s cap).size, (bytesRow s cap).size + 1))).drew).heap[k]? = W.heap[k]?) := by
  have hsz : s.size ≤ (bytesRow s cap).size := by
    unfold bytesRow
    rw [Array.size_append, Array.size_map]
    exact Nat.le_add_right _ _
  refine ⟨_, _, hsz, fun j hj => ?_, heap_alloc_new W _, fun k hk => Below.heap_alloc W _ k hk⟩
  have hl : j < s.data.toList.length := by simpa using hj
  have hl2 : j < s.data.size := hj
  unfold bytesRow byteAt
  rw [Array.getElem?_append_left (by simpa using hl2), Array.getElem?_map, Array.getElem?_eq_getElem hl2, List.getD, List.getElem?_eq_getElem hl]
  rfl
theorem conv_pc (s : ByteArray) (a want need h0 : Nat) (hn : need < 4294967296) (hp : (∀ j, j < s.data.toList.length → (Crc.patched s.data.toList a want)[j]? = some (if a ≤ j ∧ j < a + 4 then UInt8.ofNat (Crc.pb need h0 (j - a)) else s.data.toList[j]!)) ∧ (Crc.patched s.data.toList a want).length = s.data.toList.length)
    (W : World) (B : Nat) (bs : Array Value) (fr : Nat × Nat) (hB : W.heap[B]? = some (.cells bs 5 fr)) (hbs : Pc s a need h0 4 bs) (cap : Nat) :
    (convert 28 9 (.slice (some ⟨B, 0, none⟩) s.size cap)).run Try.prog W = .ok (.string ⟨(Crc.patched s.data.toList a want).toArray⟩) W := by
  have hlen : (Crc.patched s.data.toList a want).length = s.size := hp.2
  have := run_convert_bytes_back (P := Try.prog) W 28 9 5 ⟨B, 0, none⟩ cap (Crc.patched s.data.toList a want) Try.underlying28 Try.underlying5 Try.underlying9 (fun j hj => by
    have hj' : j < s.size := by rw [hlen] at hj; exact hj
    have hadd : (⟨B, 0, none⟩ : Addr).add j = ⟨B, j, none⟩ := by unfold Addr.add; split <;> simp_all
    have hpj := hp.1 j hj'
    rw [List.getElem?_eq_getElem hj] at hpj
    injection hpj with hpj
    rw [hadd, cell_of_row W _ j bs 5 fr hB, hbs j hj', hpj]
    by_cases h2 : a ≤ j ∧ j < a + 4
    · rw [if_pos h2, if_pos h2, UInt8.toNat_ofNat', Nat.mod_eq_of_lt (Crc.pb_lt hn _)]
    · rw [if_neg h2, if_neg h2]
      unfold byteAt
      have hl : j < s.data.toList.length := hj'
      rw [List.getD, List.getElem?_eq_getElem hl, List.getElem!_eq_getElem?_getD, List.getElem?_eq_getElem hl]
      rfl)
  rw [hlen] at this
  exact this

set_option maxRecDepth 100000 in
set_option maxHeartbeats 1000000 in
theorem patch_in (s : ByteArray) (a want : Nat) (w : World) (hs : s.size ≤ 2147483648) (ha : a + 4 ≤ s.size) (hw : want < 4294967296) :
    Calls Try.prog 21 #[.string s, .int .i64 a, .int .u32 want] w fun e w' => e = .returned (.tuple #[.string ⟨(Crc.patched s.data.toList a want).toArray⟩, .bool true]) ∧ Below w.heap.size w w' := by
  have hz : ∀ w, (zeroValue 55).run Try.prog w = .ok (.agg z256) w := fun _ => by kernel_rfl
  have hzb : ∀ w, (zeroValue 57).run Try.prog w = .ok (.agg z256b) w := fun _ => by kernel_rfl
  have hz4 : ∀ w, (zeroValue 58).run Try.prog w = .ok (.agg z4) w := fun _ => by kernel_rfl
  obtain ⟨k1, k2⟩ := patch_calls s a want hs ha hw
  have hnot : bits BinOp.xor IntKind.u32 (if IntKind.u32.signed = true then -1 else IntKind.u32.max) (want : Int) = (Crc.inv want : Int) := u32_not want hw
  have hn0 : Crc.back (Crc.inv want) (s.data.toList.drop (a + 4)) < 4294967296 := Crc.back_lt _ (Crc.inv_lt hw)
  have hh0 : Crc.run (Crc.inv 0) (s.data.toList.take a) < 4294967296 := Crc.run_lt _ (Crc.inv_lt (by decide))
  have hpat : ∀ j, j < s.data.toList.length → (Crc.patched s.data.toList a want)[j]? = some (if a ≤ j ∧ j < a + 4 then UInt8.ofNat (Crc.pb (Crc.back (Crc.inv want) (s.data.toList.drop (a + 4))) (Crc.run (Crc.inv 0) (s.data.toList.take a)) (j - a)) else s.data.toList[j]!) := fun j hj => by
    rw [Crc.patched_at s.data.toList a want j ha hj, List.getElem!_eq_getElem?_getD, List.getElem?_eq_getElem hj]
    rfl
  have hpl := Crc.patched_length s.data.toList a want ha
  generalize Crc.back (Crc.inv want) (s.data.toList.drop (a + 4)) = need at *
  generalize Crc.run (Crc.inv 0) (s.data.toList.take a) = h0 at *
  generalize Crc.inv want = iw at *
  have HP := Lib.hid (And.intro hpat hpl)
  clear hpat hpl
  have ha1 : (a : Int) + 4 ≤ s.size := by omega
  have hsz : s.size ≤ 9223372036854775807 := by omega
  go_enter Try.func21, Try.ntmps21
  go_wp2_with fail
  have ha2 : (0 : Int) ≤ (a : Int) := by omega
  have ha3 : (a : Int) ≤ s.size := by omega
  have ha4 : (0 : Int) ≤ (a : Int) + 4 := by omega
  have hs1 : IntKind.i64.wrap ((a : Int) + 4) = (a : Int) + 4 := IntWalk.i64_in _ (by omega)
  have hs2 : ((a : Int) + 4).toNat = a + 4 := by omega
  refine wp_region_keeps (Below w.heap.size w) (by kernel_rfl) (by kernel_rfl) (Below.refl _ _).drew (fun _ => ?_)
  repeat (first
    | go_big_quiet_skip
    | (go_big_quiet_want
       go_big_quiet_op
       first
         | go_big_quiet_on
         | (apply Exists.intro
            refine ⟨fun x => ?_, ?_⟩
            · first
                | with_reducible exact CallsU.keeps k1
                | with_reducible exact CallsU.keeps k2
            go_big_quiet_on)))
  refine wpQuiet_nil ?_
  rintro _ ⟨⟨wx, hbx⟩, rfl⟩
  clear hnot k1 k2 hs1 hs2
  go_wp2_with fail
  refine (table_any _).mono ?_
  rintro e w1 ⟨rfl, hb1⟩
  have hb1 := bt hbx hb1
  clear hbx
  have h1 : w.heap.size ≤ w1.heap.size := hb1.size
  go_wp2_with (first
    | (refine wpList_store_row rfl 55 _ _ rfl w1.heap.size tabCells rfl rfl 55 z256 (heap_alloc_new _ _) tab_info z256_size tabCells_one ?_)
    | (refine wpList_load_row rfl 55 _ rfl w1.heap.size rfl 55 tabCells (0, 0) _ (tab_from_blocks w1).1 Try.underlying55 rfl tab_info ?_))
  clear hz hzb
  go_name_world W HW
  obtain ⟨hT, hF, hB0⟩ := tab_from_blocks w1
  have hB := hB0 hb1
  have hS : (((w1.alloc (.cells z256 55)).setRow w1.heap.size tabCells).alloc (.cells z256b 57)).heap.size = w1.heap.size + 2 := by simp
  clear hB0
  rw [HW] at hT hF hB hS
  clear HW hb1
  have H0 := Lib.hid (And.intro hT (And.intro hF (And.intro hB hS)))
  clear hT hF hB hS
  go_loopw [41] (fun i wr => ∃ k : Nat, k ≤ 256 ∧ i = .int .i64 k ∧ Below w.heap.size w wr ∧ wr.heap.size = w1.heap.size + 2 ∧ wr.heap[w1.heap.size]? = some (.cells tabCells 55 (0, 0)) ∧ ∃ cs, wr.heap[w1.heap.size + 1]? = some (.cells cs 57 (0, 0)) ∧ FromCells k cs) (fun i _ => 256 - (intOf i).toNat)
  case atStart => exact ⟨0, by omega, rfl, H0.out.2.2.1, H0.out.2.2.2, H0.out.1, z256b, H0.out.2.1, by simp [z256b], fun i hi => absurd hi (by omega)⟩
  case round =>
    obtain ⟨k, hk, rfl, hb, hsz2, hT, cs, hcs, hfc⟩ := hrel
    by_cases hlt : k < 256
    · have hix := tab_index k hlt
      have htl := Crc.tab_lt k hlt
      have htop : ((Crc.tab k : Int) / 16777216) = (Crc.top k : Int) := by unfold Crc.top; omega
      have ht2 := (Crc.top_facts k hlt).1
      have hsz3 := hfc.1
      obtain ⟨u, hcell⟩ : ∃ u, wr.cell? ⟨w1.heap.size + 1, Crc.top k, none⟩ = some u := ⟨cs[Crc.top k], (cell_of_row wr _ _ cs 57 (0, 0) hcs).trans (Array.getElem?_eq_getElem (by omega))⟩
      have hfr : wr.frozen? ⟨w1.heap.size + 1, Crc.top k, none⟩ = false := frozen_of_row wr _ _ cs 57 hcs
      have HF := Lib.hid hfc
      have HT := Lib.hid hT
      have HC := Lib.hid hcs
      have HB := Lib.hid hb
      have HS := Lib.hid hsz2
      clear hfc hT hcs hb hsz2 hsz3
      generalize htk : Crc.top k = tk at *
      have HK := Lib.hid htk
      clear htk
      go_wp2
      go_roundw
      case rel =>
        refine ⟨k + 1, by omega, by go_num, HB.out.setCell (by show _ ≤ w1.heap.size + 1; omega) _, by simp [World.setCell, HS.out], (heap_setCell_other wr _ _ _ (by show _ ≠ w1.heap.size + 1; omega)).trans HT.out, _, heap_setCell_same wr _ tk cs 57 _ HC.out, ?_⟩
        rw [← HK.out]
        exact HF.out.step hlt
      case measure => simp [intOf]; omega
    · obtain rfl : k = 256 := by omega
      have HT := Lib.hid hT
      have HC := Lib.hid hcs
      have HF := Lib.hid hfc
      have HB := Lib.hid hb
      have HS := Lib.hid hsz2
      clear hT hcs hfc hb hsz2 H0
      go_wp2
      obtain ⟨w2, rfl⟩ : ∃ w2 : World, w2 = wr := ⟨_, rfl⟩
      have hV : w1.heap.size + 2 = w2.heap.size := HS.out.symm
      have HV := Lib.hid hV
      clear hV
      go_loopw [9, 15] (fun x i wr => ∃ j : Nat, j ≤ 4 ∧ i = .int .i64 (3 - (j : Int)) ∧ x = .int .u32 (Crc.nb need j) ∧ Below w.heap.size w wr ∧ wr.heap.size = w2.heap.size + 1 ∧ wr.heap[w1.heap.size]? = some (.cells tabCells 55 (0, 0)) ∧ wr.heap[w1.heap.size + 1]? = some (.cells cs 57 (0, 0)) ∧
        ∃ vs, wr.heap[w2.heap.size]? = some (.cells vs 58 (0, 0)) ∧ vs.size = 4 ∧ ∀ i, i < j → vs[3 - i]? = some (.int .u8 (Crc.wy need i : Int))) (fun _ i _ => (intOf i + 1).toNat)
      case atStart =>
        refine ⟨0, by omega, rfl, rfl, HB.out.alloc HB.out.size _, by simp, ?_, ?_, z4, heap_alloc_new _ _, by simp [z4], fun i hi => absurd hi (by omega)⟩
        · exact (Below.heap_alloc _ _ _ (by rw [HS.out]; omega)).trans HT.out
        · exact (Below.heap_alloc _ _ _ (by rw [HS.out]; omega)).trans HC.out
      case round =>
        obtain ⟨j, hj, rfl, rfl, hb, hsz2, hT, hC, vs, hvs, hvz, hall⟩ := hrel
        have hnl := Crc.nb_lt hn0 j
        by_cases hlt : j < 4
        · obtain ⟨q, i, d, hq, hx1, hi, hwy, hfr, hx2, hd, hx3⟩ := nb_ops need j hn0
          have hc1 : wr.cell? ⟨w1.heap.size + 1, q, none⟩ = some (.int .u8 (i : Int)) := by
            rw [cell_of_row wr _ q cs 57 (0, 0) hC, HF.out.all q hq, hfr]
          have hc2 : wr.cell? ⟨w1.heap.size, i, none⟩ = some (.int .u32 (Crc.tab i : Int)) := by
            rw [cell_of_row wr _ i tabCells 55 (0, 0) hT, tabCells_at i hi]
          obtain ⟨m, hm⟩ : ∃ m : Nat, m = 3 - j := ⟨_, rfl⟩
          have hme : 3 - (j : Int) = (m : Int) := by omega
          have hm4 : m < 4 := by omega
          obtain ⟨u, hc3⟩ : ∃ u, wr.cell? ⟨w2.heap.size, m, none⟩ = some u := ⟨vs[m], (cell_of_row wr _ _ vs 58 (0, 0) hvs).trans (Array.getElem?_eq_getElem (by omega))⟩
          have hf3 : wr.frozen? ⟨w2.heap.size, m, none⟩ = false := frozen_of_row wr _ _ vs 58 hvs
          have hne1 : w1.heap.size ≠ w2.heap.size := by have := HV.out; omega
          rw [hme]
          generalize hN : Crc.nb need (j + 1) = N1 at *
          generalize Crc.nb need j = N0 at *
          generalize Crc.tab i = t at *
          have HH := Lib.hid (And.intro hb (And.intro hsz2 (And.intro hT (And.intro hC (And.intro hvs (And.intro hvz hall))))))
          have HM := Lib.hid hm
          have HW := Lib.hid hwy
          have HN := Lib.hid hN
          clear hb hsz2 hT hC hvs hvz hall hm hwy hN hfr hme
          go_wp2
          go_roundw
          case rel =>
            obtain ⟨hb, hsz2, hT, hC, hvs, hvz, hall⟩ := HH.out
            have hV := HV.out
            have hw2 : w.heap.size ≤ w2.heap.size := by omega
            refine ⟨j + 1, by omega, ?_, by rw [HN.out], hb.setCell hw2 _, by simpa [World.setCell] using hsz2, (heap_setCell_other wr _ _ _ (by show w1.heap.size ≠ w2.heap.size; omega)).trans hT, (heap_setCell_other wr _ _ _ (by show w1.heap.size + 1 ≠ w2.heap.size; omega)).trans hC, _, heap_setCell_same wr _ m vs 58 _ hvs, by simp [hvz], fun l hl => ?_⟩
            · have := HM.out; congr 1; omega
            · rw [Array.getElem?_setIfInBounds]
              have hM := HM.out
              by_cases e : m = 3 - l
              · have : l = j := by omega
                subst this
                rw [if_pos e, if_pos (by omega), HW.out]
              · rw [if_neg e]; exact hall l (by omega)
          case measure => simp [intOf]
        · obtain rfl : j = 4 := by omega
          have HH := Lib.hid (And.intro hb (And.intro hsz2 (And.intro hT (And.intro hC (And.intro hvs (And.intro hvz hall))))))
          clear hb hsz2 hT hC hvs hvz hall
          have hcv := fun W => run_bytes_of_string (P := Try.prog) W 9 28 5 s Try.underlying9 Try.underlying28 Try.underlying5
          go_wp2
          clear hcv
          go_name_world W3 HW3
          obtain ⟨bs0, fr, hfr1, hbyte, hblk, hold⟩ := bytes_block wr s (grownCap wr s.size 0 5)
          have hb3 : Below w.heap.size w W3 := by rw [← HW3]; exact (HH.out.1.alloc HH.out.1.size _).drew
          rw [HW3] at hblk hold
          clear HW3
          generalize grownCap wr s.size 0 5 = cap at *
          have hT3 := (hold w1.heap.size (by have := HH.out.2.1; have := HV.out; omega)).trans HH.out.2.2.1
          have hV3 := (hold w2.heap.size (by have := HH.out.2.1; omega)).trans HH.out.2.2.2.2.1
          obtain ⟨w3, rfl⟩ : ∃ w3 : World, w3 = wr := ⟨_, rfl⟩
          have HJ := Lib.hid (And.intro hfr1 (And.intro hbyte (And.intro hblk (And.intro hb3 (And.intro hT3 hV3)))))
          have HL := Lib.hid (show w1.heap.size + 2 = w2.heap.size ∧ w2.heap.size + 1 = w3.heap.size from ⟨HV.out, HH.out.2.1.symm⟩)
          clear hfr1 hbyte hblk hb3 hT3 hV3 hold
          go_loopw [8, 70] (fun x i wr => ∃ k : Nat, k ≤ 4 ∧ i = .int .i64 k ∧ x = .int .u32 (Crc.hv need h0 k) ∧ Below w.heap.size w wr ∧ wr.heap[w1.heap.size]? = some (.cells tabCells 55 (0, 0)) ∧ wr.heap[w2.heap.size]? = some (.cells vs 58 (0, 0)) ∧
            ∃ bs, wr.heap[w3.heap.size]? = some (.cells bs 5 fr) ∧ Pc s a need h0 k bs) (fun _ i _ => 4 - (intOf i).toNat)
          case atStart =>
            refine ⟨0, by omega, rfl, rfl, HJ.out.2.2.2.1, HJ.out.2.2.2.2.1, HJ.out.2.2.2.2.2, bs0, HJ.out.2.2.1, fun j hj => ?_⟩
            rw [if_neg (by omega)]
            exact HJ.out.2.1 j hj
          case round =>
            obtain ⟨k, hk, rfl, rfl, hb, hT, hV, bs, hbs, hpc⟩ := hrel
            have hvl := Crc.hv_lt hn0 hh0 k
            by_cases hlt : k < 4
            · obtain ⟨i, e, hi, hwy, hx1, he, hpb, hx2⟩ := pb_ops need h0 k hn0 hh0
              have hc1 : wr.cell? ⟨w2.heap.size, k, none⟩ = some (.int .u8 (i : Int)) := by
                have := HH.out.2.2.2.2.2.2 (3 - k) (by omega)
                rw [cell_of_row wr _ k vs 58 (0, 0) hV, show k = 3 - (3 - k) by omega, this, hwy]
              have hc2 : wr.cell? ⟨w1.heap.size, i, none⟩ = some (.int .u32 (Crc.tab i : Int)) := by
                rw [cell_of_row wr _ i tabCells 55 (0, 0) hT, tabCells_at i hi]
              have hak : a + k < s.size := by omega
              obtain ⟨u, hc3⟩ : ∃ u, wr.cell? ⟨w3.heap.size, a + k, none⟩ = some u := ⟨_, (cell_of_row wr _ _ bs 5 fr hbs).trans (hpc (a + k) hak)⟩
              have hf3 : wr.frozen? ⟨w3.heap.size, a + k, none⟩ = false := by
                have := HJ.out.1
                simp [World.frozen?, hbs]
                omega
              have hne1 : w1.heap.size ≠ w3.heap.size := by have := HL.out; omega
              have hne2 : w2.heap.size ≠ w3.heap.size := by have := HL.out; omega
              generalize hN : Crc.hv need h0 (k + 1) = N1 at *
              generalize Crc.hv need h0 k = N0 at *
              generalize Crc.tab i = t at *
              have HI := Lib.hid (And.intro hb (And.intro hT (And.intro hV (And.intro hbs hpc))))
              have HM := Lib.hid (And.intro hN hpb)
              clear hb hT hV hbs hpc hN hpb hwy
              go_wp2
              go_roundw
              case rel =>
                obtain ⟨hb, hT, hV, hbs, hpc⟩ := HI.out
                have hw3 : w.heap.size ≤ w3.heap.size := by have := HL.out; omega
                refine ⟨k + 1, by omega, by go_num, by rw [HM.out.1], hb.setCell hw3 _, (heap_setCell_other wr _ _ _ (by show w1.heap.size ≠ w3.heap.size; omega)).trans hT, (heap_setCell_other wr _ _ _ (by show w2.heap.size ≠ w3.heap.size; omega)).trans hV, _, heap_setCell_mark wr _ (a + k) bs 5 fr _ hbs, ?_⟩
                rw [← HM.out.2]
                exact hpc.step hak
              case measure => simp [intOf]; omega
            · obtain rfl : k = 4 := by omega
              have hcv := conv_pc s a want need h0 hn0 HP.out wr w3.heap.size bs fr hbs hpc cap
              have HB2 := Lib.hid hb
              clear hb hT hV hbs hpc
              go_wp2
              go_ret2
              exact ⟨rfl, HB2.out⟩
end Go.Proofs.Ytccdipcneabooaa
