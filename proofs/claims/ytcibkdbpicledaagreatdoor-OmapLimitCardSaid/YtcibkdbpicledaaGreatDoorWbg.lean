import Derived.Test.YtcibkdbpicledaaGreatDoorWbe
import Derived.Test.YtcibkdbpicledaaGreatDoorWbf
set_option maxRecDepth 100000
set_option maxHeartbeats 3200000
namespace Go.Proofs.YtcibkdbpicledaaGreatDoor
open Go.RowKit Go.BigFrame Go.Maps Go.WideMaps Lf Tr
def putAll (l : List (List UInt8 × List UInt8)) : List (List UInt8 × List UInt8) := l.foldl (fun L p => putL L p.1 p.2) []
theorem putAll_snoc (l : List (List UInt8 × List UInt8)) (p : List UInt8 × List UInt8) : putAll (l ++ [p]) = putL (putAll l) p.1 p.2 := by
 unfold putAll
 rw [List.foldl_append]
 rfl
theorem two_filters (p q : List UInt8 × List UInt8 → Bool) (h : ∀ x, ¬ (p x = true ∧ q x = true)) : ∀ L : List (List UInt8 × List UInt8), (L.filter p).length + (L.filter q).length ≤ L.length
 | [] => Nat.le_refl _
 | x :: L => by
  have ih := two_filters p q h L
  have hx := h x
  rw [List.filter_cons, List.filter_cons, List.length_cons]
  split <;> split <;> (try simp only [List.length_cons]) <;> first | omega | (exfalso; exact hx ⟨by assumption, by assumption⟩)
theorem putL_length (L : List (List UInt8 × List UInt8)) (a b : List UInt8) : (putL L a b).length ≤ L.length + 1 := by
 unfold putL
 rw [List.length_append, List.length_cons]
 have := two_filters (fun p => decide (cmpB p.1 a < 0)) (fun p => decide (0 < cmpB p.1 a)) (fun x ⟨h1, h2⟩ => by simp at h1 h2; omega) L
 omega
theorem putAll_grow : ∀ (l L : List (List UInt8 × List UInt8)), (l.foldl (fun L p => putL L p.1 p.2) L).length ≤ L.length + l.length
 | [], _ => Nat.le_refl _
 | p :: l, L => by
  have h1 := putAll_grow l (putL L p.1 p.2)
  have h2 := putL_length L p.1 p.2
  rw [List.foldl_cons, List.length_cons]
  omega
theorem putAll_length (l : List (List UInt8 × List UInt8)) : (putAll l).length ≤ l.length := by
 have h := putAll_grow l []
 rwa [List.length_nil, Nat.zero_add] at h
theorem take_next {α : Type} {l : List α} {i : Nat} (h : i < l.length) : l.take (i + 1) = l.take i ++ [l[i]] := by
 rw [List.take_add_one, List.getElem?_eq_getElem h]
 rfl
def fineB (kind t : Int) : Bool := decide (kind = 1 ∨ kind = 2 ∨ kind = 3 ∧ 2 ≤ t ∧ t ≤ 16)
theorem fine_any (kind t : Int) (w : World) :
 Calls Tryz.prog 19 #[.int .i64 kind, .int .i64 t] w fun e w' => e = .returned (.bool (fineB kind t)) ∧ w = w' := by
 by_cases h1 : kind = 1
 · rw [show fineB kind t = true from decide_eq_true (Or.inl h1)]
   subst h1
   go_enter Tryz.func19, Tryz.ntmps19
   go_wp2_with fail
   go_ret
   exact ⟨rfl, rfl⟩
 by_cases h2 : kind = 2
 · rw [show fineB kind t = true from decide_eq_true (Or.inr (Or.inl h2))]
   subst h2
   go_enter Tryz.func19, Tryz.ntmps19
   go_wp2_with fail
   go_ret
   exact ⟨rfl, rfl⟩
 by_cases h3 : kind = 3
 · subst h3
   by_cases h4 : 2 ≤ t
   · by_cases h5 : t ≤ 16
     · rw [show fineB 3 t = true from decide_eq_true (Or.inr (Or.inr ⟨rfl, h4, h5⟩))]
       go_enter Tryz.func19, Tryz.ntmps19
       go_wp2_with fail
       go_ret
       exact ⟨rfl, rfl⟩
     · rw [show fineB 3 t = false from decide_eq_false (by omega)]
       go_enter Tryz.func19, Tryz.ntmps19
       go_wp2_with fail
       go_ret
       exact ⟨rfl, rfl⟩
   · rw [show fineB 3 t = false from decide_eq_false (by omega)]
     go_enter Tryz.func19, Tryz.ntmps19
     go_wp2_with fail
     go_ret
     exact ⟨rfl, rfl⟩
 · rw [show fineB kind t = false from decide_eq_false (by omega)]
   have e1 : (kind == 1) = false := by simpa using h1
   have e2 : (kind == 2) = false := by simpa using h2
   have e3 : (kind == 3) = false := by simpa using h3
   go_enter Tryz.func19, Tryz.ntmps19
   go_wp2_with fail
   go_ret
   exact ⟨rfl, rfl⟩
def Short (l : List (List UInt8 × List UInt8)) : Prop := ∀ p ∈ l, p.1.length ≤ 1000 ∧ p.2.length ≤ 1000
theorem made20 {P : List (List UInt8 × List UInt8) → Prop} {K : TreeK} {kind t : Int} (hk : KindFP kind t K P) {w : World} (ht : Tab64 w) {v : Value} {l : List (List UInt8 × List UInt8)} (hv : PRow w v l) (hn : l.length ≤ 60) (hl : Short l) (hP : ∀ i, i < l.length → P (putAll (l.take i))) :
 Calls Tryz.prog 13 #[.int .i64 kind, .int .i64 t, v] w fun e w' => ∃ (ps pm px root : Nat) (S : St) (Y : Nat → Prop), e = .returned (.tuple #[PV ps, PV pm, .bool true]) ∧ MpAt K w w' ps pm px 1000 root S Y (putAll l) ∧ Space S (20 * (200 - l.length)) (9 * (200 - l.length)) := by
 obtain ⟨A, c, rfl, hc⟩ := hv
 have hsn := store_new ht 262144 4000 4294967295 (by omega) (by omega) (by omega)
 have hfe := fit_empty 262144 4000 4294967295 (by omega) (by omega) (by omega)
 have hsp : Space ⟨⟨262144, []⟩, ⟨4000, 4294967295, []⟩⟩ (20 * 200) (9 * 200) := ⟨by decide, by decide⟩
 have HG := kq5 hsn hfe hsp hk hl
 have HC := Lib.hid hc
 have HTB := Lib.hid hk.ok
 have HPP := Lib.hid hP
 obtain ⟨n, hnl⟩ : ∃ n, l.length = n := ⟨_, rfl⟩
 have HN := Lib.hid hnl
 rw [hnl] at hn ⊢
 clear hsn hfe hsp hk ht hc hl hnl hP
 go_enter Tryz.func13, Tryz.ntmps13
 go_wp2_with fail
 refine HG.out.1.mono ?_
 rintro e w1 ⟨ps, rfl, hs1, hb1⟩
 have hmn := map_newK HG.out.2.2.2.1 hs1 HG.out.2.1 hb1 (fun k hk => hk) 1000 (by omega)
 have H1 := Lib.hid hmn
 clear hs1 hb1 hmn
 go_wp2_with fail
 refine H1.out.mono ?_
 rintro e w2 ⟨pm, px, Y, rfl, hm, _, hb2⟩
 have H2 := Lib.hid hm
 clear hm hb2
 go_wp2_with fail
 go_loopw [13, 14, 15, 16] (fun s13 _ _ _ wr => ∃ i : Nat, s13 = .int .i64 i ∧ i ≤ n ∧ Hid (∃ root S, MpAt K w wr ps pm px 1000 root S Y (putAll (l.take i)) ∧ Space S (20 * (200 - i)) (9 * (200 - i)))) (fun s13 _ _ _ _ => n - (intOf s13).toNat)
 case atStart => exact ⟨0, rfl, by omega, 0, _, H2.out, HG.out.2.2.1⟩
 case round =>
  obtain ⟨i, rfl, hin, I0⟩ := hrel
  by_cases hi : i < n
  · have hlt : (i : Int) < n := by omega
    have hil : i < l.length := by rw [HN.out]; exact hi
    obtain ⟨root, S, hM, hS⟩ := I0.out
    obtain ⟨g, o, rfl, c0, c1⟩ := HC.out i hil
    have hw0 := hM.bl
    have d0 := (hw0.cell (p := ⟨g, o + i * 2, none⟩) (cell_lt c0)).trans c0
    have d1 := (hw0.cell (p := ⟨g, o + i * 2 + 1, none⟩) (cell_lt c1)).trans c1
    obtain ⟨pk, hpk⟩ : ∃ pk, l[i] = pk := ⟨_, rfl⟩
    rw [hpk] at c0 c1 d0 d1
    obtain ⟨a, b⟩ := pk
    have hsh := HG.out.2.2.2.2 (a, b) (by rw [← hpk]; exact List.getElem_mem hil)
    obtain ⟨I, hIi, hIo⟩ := two_class (fun w' => w'.cell? ⟨g, o + i * 2, none⟩ = some (SV a)) (fun w' => w'.cell? ⟨g, o + i * 2 + 1, none⟩ = some (SV b))
    have o0 := fun x : Keeps I => (hIi _ x.ok).1
    have o1 := fun x : Keeps I => (hIi _ x.ok).2
    have hI0 : I wr.drew := hIo _ d0 d1
    have hlen := putAll_length (l.take i)
    rw [List.length_take] at hlen
    have hp := (hM.below HTB.out (Below.refl _ _).drew).put (p := 20 * (200 - (i + 1))) (q := 9 * (200 - (i + 1))) HTB.out (hS.mono (by omega) (by omega)) a b hsh.1 hsh.2 (by omega) (by omega) (HPP.out i hil)
    have hpa : putL (putAll (l.take i)) a b = putAll (l.take (i + 1)) := by rw [take_next hil, putAll_snoc, hpk]
    rw [hpa] at hp
    obtain ⟨r1, hr1⟩ : ∃ r1, (Bt.getL (putAll (l.take i)) a).getD [] = r1 := ⟨_, rfl⟩
    obtain ⟨r2, hr2⟩ : ∃ r2, (Bt.getL (putAll (l.take i)) a).isSome = r2 := ⟨_, rfl⟩
    rw [hr1, hr2] at hp
    have HP := kq5 hp hIo c0 c1 hw0
    clear hIi hIo hM hS c0 c1 d0 d1 hpk hsh hlen hp hpa hr1 hr2 hw0
    go_wp2_with fail
    refine wp_region_plan I (.take 0 (.take 1 (.take 2 (.take 3 (.take 4 (.take 5 (.take 6 (.take 7 (.take 8 (.take 9 (.take 10 (.go 11 (.take 12 (.take 13 (.take 14 (.take 15 (.go 16 (.go 17 (.go 18 .nil))))))))))))))))))) (by kernel_rfl) (by kernel_rfl) hI0 ?_
    iterate 11
     refine' plan_take _ (by rfl) _ (by rfl) ?_ ?_
     rotate_left
     · rintro _ ⟨x, rfl⟩
       have hxo0 := o0 x
       have hxo1 := o1 x
       go_simp
       try with_reducible rfl
     try simp only [pu]
    refine pD fun K hK => ?_
    go_simp
    refine HP.out.1.mono ?_
    rintro e w3 ⟨rfl, root3, S3, hM3, hS3⟩
    have hI3 : I w3 := HP.out.2.1 _ ((hM3.bl.cell (p := ⟨g, o + i * 2, none⟩) (cell_lt HP.out.2.2.1)).trans HP.out.2.2.1) ((hM3.bl.cell (p := ⟨g, o + i * 2 + 1, none⟩) (cell_lt HP.out.2.2.2.1)).trans HP.out.2.2.2.1)
    have H3 := kq2 hM3 hS3
    clear hM3 hS3
    try go_simp
    refine hK.out _ _ (hI3) ?_
    clear hK K
    try simp only [pu]
    iterate 4
     refine' plan_take _ (by rfl) _ (by rfl) ?_ ?_
     rotate_left
     · rintro _ ⟨x, rfl⟩
       go_simp
       try with_reducible rfl
     try simp only [pu]
    refine pD fun K hK => ?_
    go_simp
    try go_simp
    refine hK.out _ _ (hI3) ?_
    clear hK K
    try simp only [pu]
    refine pD fun K hK => ?_
    go_simp
    try go_simp
    refine hK.out _ _ (hI3) ?_
    clear hK K
    try simp only [pu]
    refine pD fun K hK => ?_
    go_simp
    try go_simp
    refine hK.out _ _ (hI3) ?_
    clear hK K
    try simp only [pu]
    refine plan_nil ?_
    go_wp2_with fail
    go_roundw
    case rel => exact ⟨i + 1, by simp, by omega, root3, S3, H3.out⟩
    case measure => simp [intOf]; omega
  · obtain rfl : i = n := by omega
    have hlt : ¬ (i : Int) < i := by omega
    obtain ⟨root, S, hM, hS⟩ := I0.out
    rw [List.take_of_length_le (by rw [HN.out]; exact Nat.le_refl _)] at hM
    have HF := kq2 hM hS
    clear hM hS
    go_wp2_with fail
    go_ret3
    exact ⟨ps, pm, rfl, px, root, S, ⟨Y, HF.out.1⟩, HF.out.2⟩
