/- The index's table. No condition but on sizes. -/
import Derived.Test.YtpjipofkpikipaaIb
import Derived.Test.YtpjipofkpikipaaLw
namespace Go.Proofs.Ytpjipofkpikipaa
open Go.RowKit
theorem elS : Elem Try.prog 23 28 1 24 := Elem.mk' Try.underlying23 (z := .slice none 0 0) (by kernel_rfl) rfl (by omega)
theorem madeCells_rows (n : Nat) : (madeCells #[Value.slice none 0 0] n).toList = (List.replicate n (⟨none, 0, []⟩ : RowV)).map rcell := by
  rw [toList_madeCells_one]; simp [rcell]
theorem tab_made (w : World) (n : Nat) (hn : n ≤ 1048576) : Tab (w.alloc (.cells (madeCells #[Value.slice none 0 0] n) 28)) w.heap.size n 28 (List.replicate n ⟨none, 0, []⟩) := by
  refine ⟨?_, by simp, fun r hr => ?_, SepR.empty (fun u hu => by rw [(List.mem_replicate.1 hu).2]), by simp⟩
  · rw [← madeCells_rows]
    exact World.ownsRow_lit w _ _ (Nat.le_refl _) (by simp only [maxLen]; omega) (by simp [size_madeCells])
  · rw [(List.mem_replicate.1 hr).2]
    exact ⟨by simp, by simp [maxLen], .inl rfl⟩
theorem make_rows (n : Nat) (hn : n ≤ 1048576) (W : World) : (Instr.makeSlice 23 (.int .i64 (n : Int)) (.int .i64 (n : Int))).run Try.prog W = .ok (.slice (some ⟨W.heap.size, 0, none⟩) n n) (W.alloc (.cells (madeCells #[Value.slice none 0 0] n) 28)) := by
  obtain ⟨i1, j1, j2, j3, j4⟩ := info_parts (P := Try.prog) (e := 28) (z := .slice none 0 0) (size := 1) (bytes := 24) (by kernel_rfl)
  have := run_make (P := Try.prog) W 23 28 i1 (.slice none 0 0) Try.underlying23 j1 j2 .i64 .i64 (n : Int) (n : Int) (by omega) (Int.le_refl _) (by rw [j4]; omega) (by omega)
  rw [j3] at this
  have e : (Value.slice none 0 0).cells = #[Value.slice none 0 0] := rfl
  rw [e] at this
  simpa using this
/-- an index that a call has made -/
def RetX (w : World) (T : Nat) (rs : List (List Int)) (e : Ending) (w' : World) : Prop :=
  e = .returned (.slice (some ⟨T, 0, none⟩) 32 32) ∧ w.heap.size ≤ T ∧ (∃ us : List RowV, us.map RowV.xs = tabL rs ∧ Tab w' T 32 28 us) ∧ Below w.heap.size w w'
theorem sub_all {j : Nat} : Sub 4 1 j ↔ 1 ≤ j ∧ j < 32 := by
  simp only [Sub]; omega
theorem tableOf_any (A : Option Addr) (c : Nat) (rs : List RowV) (w : World) (hR : Rws w 0 w.heap.size A c rs) (hl : rs.length = 16) (hv : ∀ r, r ∈ rs → vecB r.xs = true) :
    Calls Try.prog 47 #[.slice A 16 c] w (RetX w w.heap.size (rs.map RowV.xs)) := by
  have HR := Lib.hid hR; clear hR
  obtain ⟨N, hN⟩ : ∃ N, N = nodeN (rs.map RowV.xs) := ⟨_, rfl⟩
  have hlm : (rs.map RowV.xs).length = 16 := by simp [hl]
  have hvm : ∀ r, r ∈ rs.map RowV.xs → vecB r = true := fun r hr => by
    obtain ⟨x, hx, rfl⟩ := List.mem_map.1 hr
    exact hv x hx
  have HN : Nodes N := by rw [hN]; exact ⟨node_vec hlm hvm, fun k h1 h2 => nodeN_up _ h1 h2⟩
  have HX : Hid (∀ i, i < 2 ^ 4 → (rs[i]?.map RowV.xs) = some (N (1 * 2 ^ 4 + i))) := Lib.hid (fun i hi => by
    rw [hN, show 1 * 2 ^ 4 + i = 16 + i by omega, nodeN_leaf, List.getD, List.getElem?_map, List.getElem?_eq_getElem (by omega)]; rfl)
  have HEQ := Lib.hid hN
  have HL := Lib.hid hl
  clear hN hl hlm hvm hv
  have hmk : ∀ W, (Instr.makeSlice 23 (.int .i64 32) (.int .i64 32)).run Try.prog W = .ok (.slice (some ⟨W.heap.size, 0, none⟩) 32 32) (W.alloc (.cells (madeCells #[Value.slice none 0 0] 32) 28)) := make_rows 32 (by omega)
  go_enter Try.func47, Try.ntmps47
  go_wp2_with fail
  clear hmk
  obtain ⟨w1, hw1⟩ : ∃ W, W = w.alloc (.cells (madeCells #[Value.slice none 0 0] 32) 28) := ⟨_, rfl⟩
  rw [← hw1]
  have hT1 : Tab w1 w.heap.size 32 28 (List.replicate 32 ⟨none, 0, []⟩) := by rw [hw1]; exact tab_made w 32 (by omega)
  have hb1 : Below w.heap.size w w1 := by rw [hw1]; exact (Below.refl _ _).alloc (Nat.le_refl _) _
  have hs1 : w.heap.size < w1.heap.size := hT1.lt
  have HT1 := Lib.hid hT1
  have HB1 := Lib.hid hb1
  replace HR := Lib.hid (HR.out.below hb1 (Nat.le_refl _))
  clear hw1 hT1 hb1
  go_wp2_with fail
  refine (zeros_any _).mono ?_; rintro e w2 ⟨rfl, hw2⟩
  have hb2 : Below w1.heap.size w1 w2 := by rw [hw2]; exact (Below.refl _ _).alloc (Nat.le_refl _) _
  have hI2 : Ints w2 w1.heap.size w2.heap.size (some ⟨w1.heap.size, 0, none⟩) 3 [0, 0, 0] := by
    have hP : Blk w2 w1.heap.size 3 (([0, 0, 0] : List Int).map (Value.int .i64)) := by rw [hw2]; exact Blk.new w1 _ _
    refine ⟨by simp, by simp [maxLen], .inr ⟨w1.heap.size, 0, rfl, Nat.le_refl _, hP.lt, fun j y hj => ?_⟩⟩
    have hc := hP.cell (i := j) (v := .int .i64 y) (by rw [List.getElem?_map, hj]; rfl)
    exact ⟨by simpa using hc, by simpa using hP.frozen j⟩
  have hTS := Tab.set_ (k := 0) (t := ⟨some ⟨w1.heap.size, 0, none⟩, 3, [0, 0, 0]⟩) HT1.out hb2 hI2
  have hT2 := HT1.out.below hb2
  obtain ⟨r0, hr0, hd0, hf0, _⟩ := hT2.at_ (k := 0) (by omega)
  have HTS : Hid (Tab (w2.setCell ⟨w.heap.size, 0, none⟩ (.slice (some ⟨w1.heap.size, 0, none⟩) 3 3)) w.heap.size 32 28 ((List.replicate 32 (⟨none, 0, []⟩ : RowV)).set 0 ⟨some ⟨w1.heap.size, 0, none⟩, 3, [0, 0, 0]⟩)) := Lib.hid hTS
  have hs2 := hb2.size
  have HB2 := Lib.hid (hb2.mono (show w.heap.size ≤ w1.heap.size by omega))
  clear hw2 hb2 hI2 hTS hT2 hr0
  go_wp2_with fail
  obtain ⟨w3, hw3⟩ : ∃ W, W = w2.setCell ⟨w.heap.size, 0, none⟩ (.slice (some ⟨w1.heap.size, 0, none⟩) 3 3) := ⟨_, rfl⟩
  have HT3 := HTS.out
  rw [← hw3] at HT3 ⊢
  have hb3 : Below w.heap.size w2 w3 := by rw [hw3]; exact (Below.refl _ _).setCell (p := ⟨w.heap.size, 0, none⟩) (Nat.le_refl _) _
  have hs3 : w3.heap.size = w2.heap.size := by rw [hw3]; simp [World.setCell]
  obtain ⟨hs3a, hs3b⟩ : w2.heap.size ≤ w3.heap.size ∧ w3.heap.size ≤ w2.heap.size := by omega
  have HB3 := Lib.hid (HB1.out.trans (HB2.out.trans hb3))
  replace HR := Lib.hid ((HR.out.below HB2.out (Nat.le_refl _)).below hb3 (Nat.le_refl _))
  have HT3' := Lib.hid HT3
  clear hw3 hb3 hs3 hd0 hf0 HTS HT3
  go_wp2_with fail
  refine (grow_any HN w.heap.size 4 1 16 A c rs w3 (by omega) (by omega) HL.out.symm (by rw [HL.out]) HX.out HR.out (by omega)).mono ?_; rintro e w4 ⟨b, rfl, ht4, hb4⟩
  have HT4 := Lib.hid ht4
  have hs4 := hb4.size
  have HTB := Lib.hid (HT3'.out.below hb4)
  have HB4 := Lib.hid (HB3.out.trans (hb4.mono (by omega)))
  clear ht4 hb4
  go_wp2_with fail
  refine (lay_any HN w.heap.size 4 1 _ _ w4 (by omega) (by omega) HT4.out HTB.out).mono ?_; rintro e w5 ⟨rfl, us, ht, hs, hn, ho⟩
  have hE : us.map RowV.xs = tabL (rs.map RowV.xs) := by
    refine tabL_eq (by rw [List.length_map, ht.len]) ?_ fun k h1 h2 => ?_
    · rw [List.getElem?_map, hn 0 (fun h => by have := sub_all.1 h; omega), List.getElem?_set_self (by simp)]; rfl
    · rw [List.getElem?_map, hs k (sub_all.2 ⟨h1, h2⟩), HEQ.out]
  have HF : Hid (RetX w w.heap.size (rs.map RowV.xs) (.returned (.slice (some ⟨w.heap.size, 0, none⟩) 32 32)) w5) := Lib.hid ⟨rfl, Nat.le_refl _, ⟨us, hE, ht⟩, HB4.out.trans (ho.below (Nat.le_refl _) (by omega))⟩
  clear ht hs hn ho hE
  go_wp2_with fail
  go_ret
  exact HF.out
end Go.Proofs.Ytpjipofkpikipaa
